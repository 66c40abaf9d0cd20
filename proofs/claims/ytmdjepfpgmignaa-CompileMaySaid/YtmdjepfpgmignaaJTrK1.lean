/- A node in a list, and its fields. -/
import Derived.Test.YtmdjepfpgmignaaJCp1
set_option linter.unusedVariables false
set_option linter.unusedSimpArgs false
set_option maxRecDepth 20000
set_option maxHeartbeats 8000000
namespace Go.Proofs.Ytmdjepfpgmignaa
open Go Ax
/-- A node in a list, and its fields. -/
structure KidAt (H : Heap) (sv : Value) (i : Value) (y : Tr) (p : Value) (p5 : Value) (sn sk : Value) : Prop where
  ix : aindexAddr Try.prog 45 sv i = some p
  nd : NodeR H (nodeV y sn sk) y
  ld : ∀ H', Grow H H' → aload Try.prog 50 p H' = some (.agg (nodeV y sn sk).toArray)
  kd : ∀ H', Grow H H' → aload Try.prog 3 p H' = some (.int .i64 y.kind)
  ks : ∀ H', Grow H H' → aload Try.prog 45 p5 H' = some sk
  rk : RLo 7 NodeR H sk y.kids
  ow : Own7 y
theorem kidAt {H : Heap} {sv : Value} {L : List Tr} (h : RLo 7 NodeR H sv L) (i : Nat) {y : Tr} (hx : L[i]? = some y) : ∃ b o sn sk, KidAt H sv (.int .i64 (i : Int)) y (.pointer (some ⟨b, o, none⟩)) (.pointer (some ⟨b, o + 5, none⟩)) sn sk := by
  obtain ⟨b, o, c, l, h1, h2, h3, h4⟩ := h.at (P := Try.prog) (t := 45) (e := 50) rfl rfl hx
  obtain ⟨ow, sn, sk, rfl, rn, rk⟩ := h4.inv
  have hlen : o + 7 ≤ c.length := by
    by_cases hh : o + 7 ≤ c.length
    · exact hh
    · simp [slotsOf, hh] at h3
  have h3' := h3
  rw [slots_of hlen] at h3'
  simp only [Option.some.injEq] at h3'
  have hj : ∀ j, j < 7 → c[o + j]? = (nodeV y sn sk)[j]? := fun j hj => by rw [← h3', List.getElem?_take, if_pos hj, List.getElem?_drop]
  have e0 : c[o]? = some (.int .i64 y.kind) := hj 0 (by omega)
  have e5 : c[o + 5]? = some sk := hj 5 (by omega)
  exact ⟨b, o, sn, sk, h1, h4, fun H' g => ald_agg rfl rfl rfl (g.hblk h2) h3, fun H' g => ald rfl rfl (g.hblk h2) e0, fun H' g => ald rfl rfl (g.hblk h2) e5, rk, ow⟩
theorem dropK {H : Heap} {sk : Value} {y : Tr} {r : List Tr} (rk : RLo 7 NodeR H sk (y :: r)) : ∃ u, aslice Try.prog 45 sk (some (.int .i64 1)) none none = some u ∧ RLo 7 NodeR H u r := by
  have := rk.drop (P := Try.prog) (t := 45) (e := 50) rfl rfl (n := 1) (by omega) (by simp)
  exact this

end Go.Proofs.Ytmdjepfpgmignaa
