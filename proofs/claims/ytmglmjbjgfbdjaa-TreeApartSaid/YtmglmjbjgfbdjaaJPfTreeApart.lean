/- The law TreeApart told of abstract memory: it answers true for all trees. No condition. -/
import Derived.Test.YtmglmjbjgfbdjaaJTa1
set_option linter.unusedVariables false
set_option linter.unusedSimpArgs false
set_option maxRecDepth 20000
set_option maxHeartbeats 4000000
namespace Go.Proofs.Ytmglmjbjgfbdjaa
open Go Ax
theorem print_right {x : Tr} (h : (printP x).2 = 0) : RightT x 3 ∧ (printP x).1 = bstr x.txt := by
  unfold printP at h ⊢
  split at h
  · rename_i hc; exact absurd h hc
  · rename_i hc
    have hc : checkP x = 0 := Classical.not_not.1 hc
    rw [if_neg (by simp [hc])]
    split at h
    · simp at h
    · rename_i hb
      rw [if_neg hb]
      exact ⟨checkP_right hc, rfl⟩
theorem TreeApart_ax (H : Heap) (c0 : List Value) (x0 : Nd25) (c1 : List Value) (x1 : Nd25) (hn : NoOwn H) (m0 : Nat) (R0 : (ty25 m0).R H c0 x0) (o0 : (ty25 m0).ok x0) (m1 : Nat) (R1 : (ty25 m1).R H c1 x1) (o1 : (ty25 m1).ok x1) :
    AX Try.prog 5 #[argS c0, argS c1] H fun v _ => v = .bool true := by
  have R : NodeR H c0 (trOf x0) := ⟨m0, node_of m0 R0 o0⟩
  have T : NodeR H c1 (trOf x1) := ⟨m1, node_of m1 R1 o1⟩
  clear R0 o0 R1 o1
  generalize trOf x0 = x at R
  generalize trOf x1 = y at T
  obtain ⟨ow, sn, sk, rfl, rn, rk⟩ := R.inv
  obtain ⟨ow', sn', sk', rfl, rn', rk'⟩ := T.inv
  show AX Try.prog 5 #[.agg (nodeV x sn sk).toArray, .agg (nodeV y sn' sk').toArray] H _
  refine AX.body (n := 46) (rs := [.tmp 4]) Try.func5 rfl (by decide) rfl rfl (bC_sound _ _ _ _ ?_)
  (conv => whnf)
  refine Ob2.box rfl fun q H1 hq ab g1 => ?_
  refine run ?_
  refine Ob2.box rfl fun q2 H2 hq2 ac g2 => ?_
  replace ab := g2.at ab
  have bb := hblk_of ab
  have bc := hblk_of ac
  have g := g1.trans g2
  have R2 := R.grow g
  have T2 := T.grow g
  have hw := fun X => works06_ax X
  refine run ?_
  refine (fewC_ax R2).mono ?_
  rintro _ X ⟨⟨b, rfl, hf⟩, e⟩
  subst X
  cases b with
  | false =>
    refine run ?_
    refine (hw H2).mono ?_
    rintro _ X ⟨rfl, e⟩
    refine run ?_
    rfl
  | true =>
  refine run ?_
  refine (fewC_ax T2).mono ?_
  rintro _ X ⟨⟨b, rfl, hf'⟩, e⟩
  subst X
  cases b with
  | false =>
    refine run ?_
    refine (hw H2).mono ?_
    rintro _ X ⟨rfl, e⟩
    refine run ?_
    rfl
  | true =>
  have fx := hf rfl
  have fy := hf' rfl
  refine run ?_
  refine (print_ax R2 fx.1.1 fx.2).mono ?_
  rintro _ X ⟨rfl, e⟩
  subst X
  refine run ?_
  refine (print_ax T2 fy.1.1 fy.2).mono ?_
  rintro _ X ⟨rfl, e⟩
  subst X
  by_cases hx : (printP x).2 = 0
  · have d1 : ((printP x).2 != 0) = false := by rw [hx]; rfl
    by_cases hy : (printP y).2 = 0
    · have d2 : ((printP y).2 != 0) = false := by rw [hy]; rfl
      obtain ⟨rx, ex⟩ := print_right hx
      obtain ⟨ry, ey⟩ := print_right hy
      have key : (printP x).1 = (printP y).1 ↔ x.flat = y.flat := by
        rw [ex, ey]
        exact ⟨fun h => txt_tells rx ry (bstr_inj h), fun h => by rw [txt_flat h]⟩
      by_cases hs : x.flat = y.flat
      · have d3 : ((printP x).1 == (printP y).1) = true := ba_eq_t.2 (key.2 hs)
        have d4 : (((printP x).1 == (printP y).1) == true) = true := by rw [d3]; rfl
        refine run ?_
        refine (treeSame_ax x y H2 _ _ R2 T2).mono ?_
        rintro _ X ⟨⟨b, rfl, hb⟩, e⟩
        subst X
        obtain rfl := hb.2 hs
        have hw2 := hw H2
        (try (conv => whnf)); (repeat' ((fail_if_success (with_reducible refine And.intro ?_ ?_)); (fail_if_success (with_reducible refine Exists.intro ?_ ?_)); (first | ((with_reducible refine AX.id ?_); (first | (refine (hw2).mono ?_; (rintro _ X ⟨rfl, eX⟩; subst X; (conv => whnf))))) | (refine step0 ?_) | (apply bIf.of <;> intro hc <;> (conv => whnf)))))
        rfl
      · have d3 : ((printP x).1 == (printP y).1) = false := ba_eq_f.2 fun h => hs (key.1 h)
        have d4 : (((printP x).1 == (printP y).1) == false) = true := by rw [d3]; rfl
        refine run ?_
        refine (treeSame_ax x y H2 _ _ R2 T2).mono ?_
        rintro _ X ⟨⟨b, rfl, hb⟩, e⟩
        subst X
        obtain rfl : b = false := by
          cases b
          · rfl
          · exact absurd (hb.1 rfl) hs
        have hw2 := hw H2
        (try (conv => whnf)); (repeat' ((fail_if_success (with_reducible refine And.intro ?_ ?_)); (fail_if_success (with_reducible refine Exists.intro ?_ ?_)); (first | ((with_reducible refine AX.id ?_); (first | (refine (hw2).mono ?_; (rintro _ X ⟨rfl, eX⟩; subst X; (conv => whnf))))) | (refine step0 ?_) | (apply bIf.of <;> intro hc <;> (conv => whnf)))))
        rfl
    · have d2 : ((printP y).2 != 0) = true := by rw [bne_iff_ne]; exact hy
      have hw2 := hw H2
      (try (conv => whnf)); (repeat' ((fail_if_success (with_reducible refine And.intro ?_ ?_)); (fail_if_success (with_reducible refine Exists.intro ?_ ?_)); (first | ((with_reducible refine AX.id ?_); (first | (refine (hw2).mono ?_; (rintro _ X ⟨rfl, eX⟩; subst X; (conv => whnf))))) | (refine step0 ?_) | (apply bIf.of <;> intro hc <;> (conv => whnf)))))
      rfl
  · have d1 : ((printP x).2 != 0) = true := by rw [bne_iff_ne]; exact hx
    have hw2 := hw H2
    (try (conv => whnf)); (repeat' ((fail_if_success (with_reducible refine And.intro ?_ ?_)); (fail_if_success (with_reducible refine Exists.intro ?_ ?_)); (first | ((with_reducible refine AX.id ?_); (first | (refine (hw2).mono ?_; (rintro _ X ⟨rfl, eX⟩; subst X; (conv => whnf))))) | (refine step0 ?_) | (apply bIf.of <;> intro hc <;> (conv => whnf)))))
    rfl
end Go.Proofs.Ytmglmjbjgfbdjaa
