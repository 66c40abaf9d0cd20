/- Package scope: is a node a right expression, a right block? -/
import Derived.Test.YtmdjepfpgmignaaJCo2
set_option linter.unusedVariables false
set_option linter.unusedSimpArgs false
set_option maxRecDepth 20000
set_option maxHeartbeats 8000000
namespace Go.Proofs.Ytmdjepfpgmignaa
open Go Ax
theorem builtS_ne {a : Int} : builtS a ≠ ⟨#[]⟩ ↔ 1 ≤ a ∧ a ≤ 7 := by
  by_cases h : 1 ≤ a ∧ a ≤ 7
  · rcases seven h.1 h.2 with rfl | rfl | rfl | rfl | rfl | rfl | rfl <;> simp [builtS]
  · have hs : builtS a = .empty := by unfold builtS; rw [if_neg (by omega), if_neg (by omega), if_neg (by omega), if_neg (by omega), if_neg (by omega), if_neg (by omega), if_neg (by omega)]
    rw [hs]
    simp only [h, iff_false, ne_eq, Decidable.not_not]
    rfl
theorem signS_ne {a : Int} : signS a ≠ ⟨#[]⟩ ↔ 1 ≤ a ∧ a ≤ 11 := by
  by_cases h : 1 ≤ a ∧ a < 12
  · have : 1 ≤ a ∧ a ≤ 11 := by omega
    refine ⟨fun _ => this, fun _ => ?_⟩
    clear this
    rcases eleven h.1 h.2 with rfl | rfl | rfl | rfl | rfl | rfl | rfl | rfl | rfl | rfl | rfl <;> (intro e; exact absurd (congrArg ByteArray.size e) (by decide))
  · rw [sign_no h]
    have : ¬ (1 ≤ a ∧ a ≤ 11) := by omega
    simp only [this, iff_false, ne_eq, Decidable.not_not]
    rfl
theorem builtN_nn (a : Int) : 0 ≤ builtN a := by unfold builtN; (repeat' split) <;> omega
theorem own1U {c : UC} {x : Tr} : OwnU c x 1 ↔ ExprU c x := by unfold OwnU; simp
theorem own3U {c : UC} {x : Tr} : OwnU c x 3 ↔ x.kind = 29 ∧ PlainP x false false false false ∧ x.kids.length ≤ 40 := by unfold OwnU; simp
theorem ExprU.kind {c : UC} {x : Tr} (h : ExprU c x) : 1 ≤ x.kind ∧ x.kind ≤ 20 := by
  unfold ExprU at h
  rcases h with h | h | h | h | h | h | h | h | h | h | h | h | h | h | h <;> omega
theorem notName_ax {s : ByteArray} (hs : s.size ≤ 100000) (H : Heap) : AX Try.prog 57 #[.string s] H (fun v H' => (∃ b, v = .bool b ∧ (b = true ↔ ¬ IdentP s)) ∧ H' = H) := by
  refine AX.body (n := 6) (rs := [.tmp 2]) Try.func57 rfl (by decide) rfl rfl (bC_sound _ _ _ _ ?_)
  refine run ?_
  refine (isName_ax hs _).mono ?_
  rintro _ X ⟨⟨b, rfl, hb⟩, e⟩
  subst X
  cases b with
  | true =>
    refine run ?_
    exact ⟨⟨false, rfl, by simp [hb.1 rfl]⟩, rfl⟩
  | false =>
    refine run ?_
    exact ⟨⟨true, rfl, by simp only [true_iff]; intro h; exact absurd (hb.2 h) (by simp)⟩, rfl⟩
theorem exprU_ax {c : UC} {fv : Value} (hfv : ∀ H, alen Try.prog 22 fv H = some (.int .i64 c.fn)) {x : Tr} (tx : Tidy x) (he : ∀ k ∈ x.kids, ChecksU c fv 44 (RightU c · 1) k) : ChecksU c fv 44 (RightU c · 1) x := by
  intro H l R
  obtain ⟨ow, sn, sk, rfl, rn, rk⟩ := R.inv
  refine AX.quiet ?_
  suffices hh : AX Try.prog 44 #[.agg #[.int .i64 c.gl, fv, .int .i64 c.lo], .agg (nodeV x sn sk).toArray] H (fun v H' => (∃ b, v = .bool b ∧ (b = true ↔ RightU c x 1)) ∧ Grow H H') from hh.mono fun v _ ⟨⟨b, e, k⟩, g⟩ => ⟨e ▸ plain_bool _, ⟨b, e, k⟩, g⟩
  refine AX.body (n := 212) (rs := [.tmp 4]) Try.func44 rfl (by decide) rfl rfl (bC_sound _ _ _ _ ?_)
  (conv => whnf)
  refine Ob2.box rfl fun q0 H0 hq0 a0 g0 => ?_
  refine run ?_
  refine Ob2.box rfl fun q H1 hq a1 k1 => ?_
  have b0 := hblk_of (k1.at (show H0[q0]? = some (.cells .var [.int .i64 c.gl, fv, .int .i64 c.lo]) from a0))
  have b1 := hblk_of a1
  have g1 := g0.trans k1
  have rk1 := NodeR.grows rk g1
  have rn1 := strR.grow rn g1
  have R1 := R.grow g1
  have l0 := hfv H1
  have l1 : alen Try.prog 27 sn H1 = some (.int .i64 x.names.length) := rn.len rfl _
  have l2 : alen Try.prog 45 sk H1 = some (.int .i64 x.kids.length) := rk.len rfl _
  have t1 := tx.str
  rw [rightU_iff, own1U]
  have hall : ExprU c x → ((∀ j y, x.kids[j]? = some y → RightU c y (wantU x.kind j)) ↔ ∀ y ∈ x.kids, RightU c y 1) := fun h => by
    have hk := h.kind
    exact allU_iff (ks := x.kids) (k := x.kind) (w := 1) fun j => by unfold wantU; rw [if_neg (by omega), if_neg (by omega)]
  rw [and_congr_right hall]
  clear hall
  have hN := containsS0 rn1 ow.2.1 57 IdentP fun s hs => notName_ax (by have := tx.name s hs; omega) _
  (try (conv => whnf)); (repeat' ((fail_if_success (with_reducible refine And.intro ?_ ?_)); (fail_if_success (with_reducible refine Exists.intro ?_ ?_)); (first | ((with_reducible refine AX.id ?_); (first | (refine (plain_ax R1 _ _ _ _).mono ?_; (rintro _ X ⟨⟨bb, rfl, hb⟩, eX⟩; subst X; cases bb <;> (conv => whnf))) | (refine (number_ax R1 _).mono ?_; (rintro _ X ⟨⟨bb, rfl, hb⟩, eX⟩; subst X; cases bb <;> (conv => whnf))) | (refine (isName_ax (by omega) _).mono ?_; (rintro _ X ⟨⟨bb, rfl, hb⟩, eX⟩; subst X; cases bb <;> (conv => whnf))) | (refine (exprsU_ax rk1 ow.2.2.2 _ _ he).mono ?_; (rintro _ X ⟨⟨bb, rfl, hb⟩, eX⟩; subst X; cases bb <;> (conv => whnf))) | (refine (hN).mono ?_; (rintro _ X ⟨⟨bb, rfl, hb⟩, eX⟩; subst X; cases bb <;> (conv => whnf))) | (refine (sign_ax _ _).mono ?_; (rintro _ X ⟨rfl, eX⟩; subst X; (conv => whnf))) | (refine (built_ax _ _).mono ?_; (rintro _ X ⟨rfl, eX⟩; subst X; (conv => whnf))))) | (refine step0 ?_) | (apply bIf.of <;> intro hc <;> (conv => whnf)))))
  all_goals refine ⟨⟨_, rfl, ?_⟩, g1⟩
  all_goals clear b1 a1 g1 l0 l1 l2 rk1 R1 rk rn R he hN b0 a0 g0 k1
  all_goals unfold ExprU
  all_goals try unfold NumP at *
  all_goals try unfold PlainP at *
  all_goals have hsn := @signS_ne x.op
  all_goals have hbn := @builtS_ne x.op
  all_goals have hb0 := builtN_nn x.op
  all_goals have hnk : x.kids.length = 0 → ∀ y ∈ x.kids, RightU c y 1 := fun h y hy => by rw [List.length_eq_zero_iff.1 h] at hy; simp at hy
  all_goals try (simp only [ba_ne_t, ba_ne_f, ba_eq_t, ba_eq_f, bne_iff_ne, bne_eq_false_iff_eq, decide_eq_true_eq, decide_eq_false_iff_not, beq_iff_eq, beq_eq_false_iff_ne, ne_eq, Bool.not_eq_true, Bool.not_eq_false, Bool.not_eq_true', Bool.not_eq_false'] at *)
  all_goals grind (splits := 40)
end Go.Proofs.Ytmdjepfpgmignaa
