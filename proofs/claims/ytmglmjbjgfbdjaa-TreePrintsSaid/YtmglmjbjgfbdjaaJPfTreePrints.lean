/- The law TreePrints told of abstract memory: it answers true for every tree. No condition. -/
import Derived.Test.YtmglmjbjgfbdjaaJTr6
set_option linter.unusedVariables false
set_option linter.unusedSimpArgs false
set_option maxRecDepth 20000
set_option maxHeartbeats 4000000
namespace Go.Proofs.Ytmglmjbjgfbdjaa
open Go Ax
theorem TreePrints_ax (H : Heap) (c0 : List Value) (x0 : Nd25) (hn : NoOwn H) (m0 : Nat) (R0 : (ty25 m0).R H c0 x0) (o0 : (ty25 m0).ok x0) :
    AX Try.prog 3 #[argS c0] H fun v _ => v = .bool true := by
  have R : NodeR H c0 (trOf x0) := ⟨m0, node_of m0 R0 o0⟩
  generalize trOf x0 = x at R
  obtain ⟨ow, sn, sk, rfl, rn, rk⟩ := R.inv
  show AX Try.prog 3 #[.agg (nodeV x sn sk).toArray] H _
  refine AX.body (n := 32) (rs := [.tmp 2]) Try.func3 rfl (by decide) rfl rfl (bC_sound _ _ _ _ ?_)
  (conv => whnf)
  refine Ob2.box rfl fun q H1 hq ab g1 => ?_
  have bb := hblk_of ab
  have R1 := R.grow g1
  refine run ?_
  refine (fewC_ax R1).mono ?_
  rintro _ X ⟨⟨b, rfl, hf⟩, e⟩
  subst X
  cases b with
  | false =>
    refine run ?_
    refine (works06_ax H1).mono ?_
    rintro _ X ⟨rfl, e⟩
    refine run ?_
    rfl
  | true =>
    have fx := hf rfl
    refine run ?_
    refine (print_ax R1 fx.1.1 fx.2).mono ?_
    rintro _ X ⟨rfl, e⟩
    subst X
    refine run ?_
    refine (rprint_ax R1 fx.1 fx.2).mono ?_
    rintro _ X ⟨rfl, e⟩
    subst X
    generalize printP x = p
    have d1 : ((p.2 : Int) == p.2) = true := by simp
    have d0 : (p.1 == p.1) = true := ba_eq_t.2 rfl
    have hw := works06_ax H1
    (try (conv => whnf)); (repeat' ((fail_if_success (with_reducible refine And.intro ?_ ?_)); (fail_if_success (with_reducible refine Exists.intro ?_ ?_)); (first | ((with_reducible refine AX.id ?_); (first | (refine (hw).mono ?_; (rintro _ X ⟨rfl, eX⟩; subst X; (conv => whnf))))) | (refine step0 ?_) | (apply bIf.of <;> intro hc <;> (conv => whnf)))))
    rfl
end Go.Proofs.Ytmglmjbjgfbdjaa
