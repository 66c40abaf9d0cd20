/- Package code: which arguments an instruction may have. -/
import Derived.Test.YtdlanbfbbopfhaaCo6
set_option linter.unusedVariables false
set_option linter.unusedSimpArgs false
set_option maxRecDepth 20000
set_option maxHeartbeats 8000000
namespace Go.Proofs.Ytdlanbfbbopfhaa
open Go Ax
def argP (pl cl gl lc il op a : Int) : Prop :=
  (op = 2 ∨ op = 6 ∨ op = 12 ∨ op = 16 ∨ op = 17 ∨ op = 19 ∨ op = 30 ∨ op = 31 ∨ op = 32) ∧ a = 0 ∨ op = 1 ∧ 1 ≤ a ∧ a ≤ 1000 ∨ op = 3 ∧ 0 ≤ a ∧ a < 2 ∨ op = 4 ∧ -4611686018427387904 ≤ a ∧ a ≤ 4611686018427387903 ∨
  (op = 5 ∨ op = 13 ∨ op = 14 ∨ op = 15 ∨ op = 18 ∨ op = 27) ∧ 0 ≤ a ∧ a < pl ∨ op = 7 ∧ 0 ≤ a ∧ a < cl ∨ (op = 8 ∨ op = 9) ∧ 0 ≤ a ∧ a < lc ∨ (op = 10 ∨ op = 11) ∧ 0 ≤ a ∧ a < gl ∨ op = 20 ∧ 1 ≤ a ∧ a ≤ 2 ∨ op = 21 ∧ 1 ≤ a ∧ a ≤ 11 ∨
  (op = 22 ∨ op = 23 ∨ op = 24 ∨ op = 25) ∧ 0 ≤ a ∧ a < il ∨ (op = 26 ∨ op = 28) ∧ 0 ≤ a ∧ a < 7 ∨ op = 29 ∧ 1 ≤ a ∧ a ≤ 7
instance (pl cl gl lc il op a : Int) : Decidable (argP pl cl gl lc il op a) := by unfold argP; infer_instance
theorem sign_some (a : Int) : (signS a != ⟨#[]⟩) = decide (1 ≤ a ∧ a ≤ 11) := by
  by_cases h : 1 ≤ a ∧ a < 12
  · rcases eleven h.1 h.2 with rfl | rfl | rfl | rfl | rfl | rfl | rfl | rfl | rfl | rfl | rfl <;> rfl
  · rw [sign_no h, decide_eq_false (by omega)]; rfl
theorem built_some (a : Int) : (builtS a != ⟨#[]⟩) = decide (1 ≤ a ∧ a ≤ 7) := by
  by_cases h : 1 ≤ a ∧ a ≤ 7
  · rcases seven h.1 h.2 with rfl | rfl | rfl | rfl | rfl | rfl | rfl <;> rfl
  · have hs : builtS a = .empty := by unfold builtS; rw [if_neg (by omega), if_neg (by omega), if_neg (by omega), if_neg (by omega), if_neg (by omega), if_neg (by omega), if_neg (by omega)]
    rw [hs, decide_eq_false h]; rfl
abbrev progV (p : ProgT) (ps cs : Value) : Value := .agg #[.int .i64 p.1, ps, cs]
theorem arg_ax {H : Heap} {p : ProgT} {ps cs sv : Value} {c : CodeT} (hp : RL 1 strR H ps p.2.1) (hc : RL 5 codeR H cs p.2.2) (hs : RL 3 insR H sv c.ins) (op a b : Int) :
    AX Try.prog 71 #[progV p ps cs, codeV c sv, insV op a b] H (fun v H' => v = .bool (decide (argP p.2.1.length p.2.2.length p.1 c.2.1 c.ins.length op a)) ∧ H' = H) := by
  refine AX.quiet ?_
  suffices hh : AX Try.prog 71 #[progV p ps cs, codeV c sv, insV op a b] H (fun v H' => v = .bool (decide (argP p.2.1.length p.2.2.length p.1 c.2.1 c.ins.length op a)) ∧ Grow H H') from hh.mono fun v _ ⟨e, g⟩ => ⟨e ▸ plain_bool _, e, g⟩
  refine AX.body (n := 129) (rs := [.tmp 6]) Try.func71 rfl (by decide) rfl rfl (bC_sound _ _ _ _ ?_)
  (conv => whnf)
  refine Ob2.box rfl fun q1 H1 hq1 a1 g1 => ?_
  (conv => whnf)
  refine Ob2.box rfl fun q2 H2 hq2 a2 g2 => ?_
  (conv => whnf)
  refine Ob2.box rfl fun q3 H3 hq3 a3 g3 => ?_
  have b1 := hblk_of (g3.at (g2.at a1))
  have b2 := hblk_of (g3.at a2)
  have b3 := hblk_of a3
  have l1 : alen Try.prog 22 ps H3 = some (.int .i64 p.2.1.length) := hp.len rfl _
  have l2 : alen Try.prog 23 cs H3 = some (.int .i64 p.2.2.length) := hc.len rfl _
  have l3 : alen Try.prog 47 sv H3 = some (.int .i64 c.ins.length) := hs.len rfl _
  have g : Grow H H3 := (g1.trans g2).trans g3
  clear g1 g2 g3 a1 a2 a3 hp hs
  (try (conv => whnf)); (repeat' ((fail_if_success (with_reducible refine And.intro ?_ ?_)); (fail_if_success (with_reducible refine Exists.intro ?_ ?_)); (first | ((with_reducible refine AX.id ?_); (first | (refine (below_ax _ _ _).mono ?_; (rintro _ X ⟨rfl, eX⟩; subst X; (conv => whnf))) | (refine (sign_ax _ _).mono ?_; (rintro _ X ⟨rfl, eX⟩; subst X; (conv => whnf))) | (refine (built_ax _ _).mono ?_; (rintro _ X ⟨rfl, eX⟩; subst X; (conv => whnf))) | (refine (goes_ax _ _).mono ?_; (rintro _ X ⟨rfl, eX⟩; subst X; (conv => whnf))))) | (first | (apply Ob.of; (first | with_reducible assumption | with_reducible exact ex20 _ _ | with_reducible exact ex21 _ _ | with_reducible exact ex30 _ _ _ | with_reducible exact ex31 _ _ _ | with_reducible exact ex32 _ _ _ | rfl | (exact ald rfl rfl (by assumption) rfl) | (exact ald_agg rfl rfl rfl (by assumption) rfl)); (conv => whnf)) | (apply bIf.yes; (first | assumption | rfl); (conv => whnf)) | (apply bIf.no; (first | assumption | rfl); (conv => whnf)) | ((with_reducible refine Ob.load (by with_unfolding_all assumption) ?_); (conv => whnf)) | (apply Grows.mk; (first | exact Grow.refl _ | assumption); (conv => whnf))) | (apply bIf.of <;> intro hc <;> (conv => whnf)))))
  all_goals refine ⟨congrArg Value.bool ?_, g⟩
  all_goals (simp only [ba_ne_t, ba_ne_f, ba_eq_t, ba_eq_f, bne_iff_ne, bne_eq_false_iff_eq, decide_eq_true_eq, decide_eq_false_iff_not, beq_iff_eq, beq_eq_false_iff_ne, ne_eq, Bool.not_eq_true, Bool.not_eq_false, Bool.not_eq_true', Bool.not_eq_false'] at *)
  all_goals first | rw [sign_some] | rw [built_some] | skip
  all_goals rw [Bool.eq_iff_iff]
  all_goals simp only [gos, decide_eq_true_eq, beq_iff_eq, decide_eq_false_iff_not, Bool.false_eq_true, reduceCtorEq, false_iff, true_iff] at *
  all_goals clear b1 b2 b3 l1 l2 l3 g
  all_goals subst_vars
  all_goals first | (simp [argP]; done) | (simp [argP] <;> omega) | (simp [argP, *] <;> omega)
theorem rarg_ax {H : Heap} {p : ProgT} {ps cs sv : Value} {c : CodeT} (hp : RL 1 strR H ps p.2.1) (hc : RL 5 codeR H cs p.2.2) (hs : RL 3 insR H sv c.ins) (op a b : Int)
    (k1 : p.2.1.length < 4294967296) (k2 : p.2.2.length < 4294967296) (k3 : c.ins.length < 4294967296) (k4 : 0 ≤ p.1 ∧ p.1 ≤ 24) (k5 : 0 ≤ c.2.1 ∧ c.2.1 ≤ 24) :
    AX Try.prog 38 #[progV p ps cs, codeV c sv, insV op a b] H (fun v H' => v = .bool (decide (argP p.2.1.length p.2.2.length p.1 c.2.1 c.ins.length op a)) ∧ H' = H) := by
  refine AX.quiet ?_
  suffices hh : AX Try.prog 38 #[progV p ps cs, codeV c sv, insV op a b] H (fun v H' => v = .bool (decide (argP p.2.1.length p.2.2.length p.1 c.2.1 c.ins.length op a)) ∧ Grow H H') from hh.mono fun v _ ⟨e, g⟩ => ⟨e ▸ plain_bool _, e, g⟩
  refine AX.body (n := 84) (rs := [.tmp 6]) Try.func38 rfl (by decide) rfl rfl (bC_sound _ _ _ _ ?_)
  (conv => whnf)
  refine Ob2.box rfl fun q1 H1 hq1 a1 g1 => ?_
  (conv => whnf)
  refine Ob2.box rfl fun q2 H2 hq2 a2 g2 => ?_
  (conv => whnf)
  refine Ob2.box rfl fun q3 H3 hq3 a3 g3 => ?_
  have b1 := hblk_of (g3.at (g2.at a1))
  have b2 := hblk_of (g3.at a2)
  have b3 := hblk_of a3
  have l1 : alen Try.prog 22 ps H3 = some (.int .i64 p.2.1.length) := hp.len rfl _
  have l2 : alen Try.prog 23 cs H3 = some (.int .i64 p.2.2.length) := hc.len rfl _
  have l3 : alen Try.prog 47 sv H3 = some (.int .i64 c.ins.length) := hs.len rfl _
  have w1 : IntKind.i64.wrap ((p.2.1.length : Int) - 1) = (p.2.1.length : Int) - 1 := wrap_i64 (by omega) (by omega)
  have w2 : IntKind.i64.wrap ((p.2.2.length : Int) - 1) = (p.2.2.length : Int) - 1 := wrap_i64 (by omega) (by omega)
  have w3 : IntKind.i64.wrap ((c.ins.length : Int) - 1) = (c.ins.length : Int) - 1 := wrap_i64 (by omega) (by omega)
  have w4 : IntKind.i64.wrap (p.1 - 1) = p.1 - 1 := wrap_i64 (by omega) (by omega)
  have w5 : IntKind.i64.wrap (c.2.1 - 1) = c.2.1 - 1 := wrap_i64 (by omega) (by omega)
  have g : Grow H H3 := (g1.trans g2).trans g3
  clear g1 g2 g3 a1 a2 a3 hp hs
  (try (conv => whnf)); (repeat' ((fail_if_success (with_reducible refine And.intro ?_ ?_)); (fail_if_success (with_reducible refine Exists.intro ?_ ?_)); (first | (first | (apply Ob.of; (first | with_reducible assumption | with_reducible exact ex20 _ _ | with_reducible exact ex21 _ _ | with_reducible exact ex30 _ _ _ | with_reducible exact ex31 _ _ _ | with_reducible exact ex32 _ _ _ | rfl | (exact ald rfl rfl (by assumption) rfl) | (exact ald_agg rfl rfl rfl (by assumption) rfl)); (conv => whnf)) | (apply bIf.yes; (first | assumption | rfl); (conv => whnf)) | (apply bIf.no; (first | assumption | rfl); (conv => whnf)) | ((with_reducible refine Ob.load (by with_unfolding_all assumption) ?_); (conv => whnf)) | (apply Grows.mk; (first | exact Grow.refl _ | assumption); (conv => whnf))) | (apply bIf.of <;> intro hc <;> (conv => whnf)))))
  all_goals refine ⟨congrArg Value.bool ?_, g⟩
  all_goals (simp only [ba_ne_t, ba_ne_f, ba_eq_t, ba_eq_f, bne_iff_ne, bne_eq_false_iff_eq, decide_eq_true_eq, decide_eq_false_iff_not, beq_iff_eq, beq_eq_false_iff_ne, ne_eq, Bool.not_eq_true, Bool.not_eq_false, Bool.not_eq_true', Bool.not_eq_false'] at *)
  all_goals rw [Bool.eq_iff_iff]
  all_goals simp only [w1, w2, w3, w4, w5, gos, decide_eq_true_eq, beq_iff_eq, decide_eq_false_iff_not, Bool.false_eq_true, reduceCtorEq, false_iff, true_iff] at *
  all_goals clear b1 b2 b3 l1 l2 l3 g
  all_goals subst_vars
  all_goals first | (simp [argP]; done) | (simp [argP] <;> omega) | (simp [argP, *] <;> omega)
end Go.Proofs.Ytdlanbfbbopfhaa
