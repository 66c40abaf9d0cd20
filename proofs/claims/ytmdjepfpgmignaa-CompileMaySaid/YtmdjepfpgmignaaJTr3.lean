/- Trees that are parameters. -/
import Derived.Test.YtmdjepfpgmignaaJSs1
set_option linter.unusedVariables false
set_option linter.unusedSimpArgs false
set_option maxRecDepth 20000
set_option maxHeartbeats 8000000
namespace Go.Proofs.Ytmdjepfpgmignaa
open Go Ax
mutual
def trOf : Nd50 → Tr
  | .mk k o n s ns ks p => .mk k o n s ns (trsOf ks) p
def trsOf : List Nd50 → List Tr
  | [] => []
  | k :: ks => trOf k :: trsOf ks
end
theorem trsOf_map : ∀ ks, trsOf ks = ks.map trOf
  | [] => rfl
  | k :: ks => by rw [trsOf, trsOf_map ks]; rfl
theorem node_of : ∀ m {H : Heap} {c : List Value} {x : Nd50}, (ty50 m).R H c x → (ty50 m).ok x → ND m H c (trOf x)
  | 0, _, _, _, h, _ => h.elim
  | m + 1, H, c, .mk k o n s ns ks p, h, ho => by
    obtain ⟨h1, h2, h3, h4, h5, h6, h7⟩ := h
    obtain ⟨o1, o2, o3, o4, o5, o6, o7⟩ := ho
    obtain ⟨sn, e5, r5⟩ := RL.ofTy (f := strR) (fun l x h => h) h5
    obtain ⟨sk, e6, r6⟩ := RL.ofTy (f := (ty50 m).R) (fun l x h => h) h6
    refine ⟨⟨o4, o5.1, o5.2, ?_⟩, sn, sk, cons_of h1 (cons_of h2 (cons_of h3 (cons_of h4 (cons_of e5 (cons_of e6 h7))))), r5, ?_⟩
    · show (trsOf ks).length ≤ maxLen
      rw [trsOf_map, List.length_map]
      exact o6.1
    · show RLo 7 (ND m) H sk (trsOf ks)
      rw [trsOf_map]
      exact (RLo.of r6).map _ fun l x hx h => node_of m h (o6.2 x hx)
end Go.Proofs.Ytmdjepfpgmignaa
