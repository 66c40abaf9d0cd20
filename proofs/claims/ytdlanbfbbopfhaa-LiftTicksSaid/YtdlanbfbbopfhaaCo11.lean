/- Package code: may an instruction be? -/
import Derived.Test.YtdlanbfbbopfhaaCo10
set_option linter.unusedVariables false
set_option linter.unusedSimpArgs false
set_option maxRecDepth 20000
set_option maxHeartbeats 8000000
namespace Go.Proofs.Ytdlanbfbbopfhaa
open Go Ax
def opAt (L : List Ins) (a : Int) : Int := match L[a.toNat]? with | some x => x.1 | none => 0
def insP (p : ProgT) (c : CodeT) (at_ : Int) (x : Ins) : Prop :=
  argP p.2.1.length p.2.2.length p.1 c.2.1 c.ins.length x.1 x.2.1 ∧ (sit x.1 = false → x.2.2 = 0) ∧ (sit x.1 = true → 0 ≤ x.2.2 ∧ x.2.2 < c.2.2.1) ∧ (gos x.1 = true → at_ < x.2.1 ∨ opAt c.ins x.2.1 = 1)
instance (p : ProgT) (c : CodeT) (at_ : Int) (x : Ins) : Decidable (insP p c at_ x) := by unfold insP; infer_instance
theorem arg_goes {pl cl gl lc il op a : Int} (h : argP pl cl gl lc il op a) (hg : gos op = true) : 0 ≤ a ∧ a < il := by
  unfold gos at hg
  simp only [decide_eq_true_eq] at hg
  unfold argP at h
  omega
theorem instr_ax {H : Heap} {p : ProgT} {ps cs sv : Value} {c : CodeT} (hp : RL 1 strR H ps p.2.1) (hc : RL 5 codeR H cs p.2.2) (hs : RL 3 insR H sv c.ins) {i : Nat} {x : Ins} (hx : c.ins[i]? = some x) :
    AX Try.prog 61 #[progV p ps cs, codeV c sv, .int .i64 (i : Int)] H (fun v H' => v = .bool (decide (insP p c i x)) ∧ H' = H) := by
  refine AX.quiet ?_
  suffices hh : AX Try.prog 61 #[progV p ps cs, codeV c sv, .int .i64 (i : Int)] H (fun v H' => v = .bool (decide (insP p c i x)) ∧ Grow H H') from hh.mono fun v _ ⟨e, g⟩ => ⟨e ▸ plain_bool _, e, g⟩
  refine AX.body (n := 62) (rs := [.tmp 6]) Try.func61 rfl (by decide) rfl rfl (bC_sound _ _ _ _ ?_)
  (conv => whnf)
  refine Ob2.box rfl fun q1 H1 hq1 a1 g1 => ?_
  (conv => whnf)
  refine Ob2.box rfl fun q2 H2 hq2 a2 g2 => ?_
  have b1 := hblk_of (g2.at a1)
  have b2 := hblk_of a2
  have g : Grow H H2 := g1.trans g2
  obtain ⟨b, i1, i2⟩ := ld_ins hs hx
  have i3 := i2 H2 g
  (try (conv => whnf)); (repeat ((fail_if_success (with_reducible refine And.intro ?_ ?_)); (fail_if_success (with_reducible refine Exists.intro ?_ ?_)); (first | (apply Ob.of; (first | with_reducible assumption | with_reducible exact ex20 _ _ | with_reducible exact ex21 _ _ | with_reducible exact ex30 _ _ _ | with_reducible exact ex31 _ _ _ | with_reducible exact ex32 _ _ _ | rfl | (exact ald rfl rfl (by assumption) rfl) | (exact ald_agg rfl rfl rfl (by assumption) rfl)); (conv => whnf)) | (apply bIf.yes; (first | assumption | rfl); (conv => whnf)) | (apply bIf.no; (first | assumption | rfl); (conv => whnf)) | ((with_reducible refine Ob.load (by with_unfolding_all assumption) ?_); (conv => whnf)) | (apply Grows.mk; (first | exact Grow.refl _ | assumption); (conv => whnf)))))
  refine Ob2.alloc rfl fun q3 H3 hq3 a3 g3 => ?_
  (try (conv => whnf)); (repeat ((fail_if_success (with_reducible refine And.intro ?_ ?_)); (fail_if_success (with_reducible refine Exists.intro ?_ ?_)); (first | (apply Ob.of; (first | with_reducible assumption | with_reducible exact ex20 _ _ | with_reducible exact ex21 _ _ | with_reducible exact ex30 _ _ _ | with_reducible exact ex31 _ _ _ | with_reducible exact ex32 _ _ _ | rfl | (exact ald rfl rfl (by assumption) rfl) | (exact ald_agg rfl rfl rfl (by assumption) rfl)); (conv => whnf)) | (apply bIf.yes; (first | assumption | rfl); (conv => whnf)) | (apply bIf.no; (first | assumption | rfl); (conv => whnf)) | ((with_reducible refine Ob.load (by with_unfolding_all assumption) ?_); (conv => whnf)) | (apply Grows.mk; (first | exact Grow.refl _ | assumption); (conv => whnf)))))
  refine Ob.store rfl rfl rfl a3 rfl (by first | exact Nat.le_of_ble_eq_true rfl | simp) fun H4 s1 s2 s3 => ?_
  have g4 : Grow H2 H4 := g3.but_new s2 (by omega)
  have b1 := g4.hblk b1
  have b2 := g4.hblk b2
  have b3 := hblk_of s1
  have gg := g.trans g4
  have e1 := strR.grow hp gg
  have e2 := codeR.grow hc gg
  have e3 := insR.grow hs gg
  clear a1 a2 g1 g2 g3 a3 s1 s2 s3 i3
  by_cases hA : argP p.2.1.length p.2.2.length p.1 c.2.1 c.ins.length x.1 x.2.1 ∧ gos x.1 = true
  · obtain ⟨k1, k2⟩ := arg_goes hA.1 hA.2
    obtain ⟨j, hj⟩ : ∃ j : Nat, x.2.1 = (j : Int) := ⟨x.2.1.toNat, by omega⟩
    obtain ⟨y, hy⟩ : ∃ y, c.ins[j]? = some y := get_lt (by omega)
    obtain ⟨b', j1, j2⟩ := ld_ins hs hy
    have j3 := ld_op hs hy j1 H4 gg
    have ho : opAt c.ins x.2.1 = y.1 := by unfold opAt; rw [hj, Int.toNat_natCast, hy]
    rw [← hj] at j1
    (try (conv => whnf)); (repeat' ((fail_if_success (with_reducible refine And.intro ?_ ?_)); (fail_if_success (with_reducible refine Exists.intro ?_ ?_)); (first | ((with_reducible refine AX.id ?_); (first | (refine (arg_ax e1 e2 e3 _ _ _).mono ?_; (rintro _ X ⟨rfl, eX⟩; subst X; (conv => whnf))) | (refine (site_ax _ _).mono ?_; (rintro _ X ⟨rfl, eX⟩; subst X; (conv => whnf))) | (refine (below_ax _ _ _).mono ?_; (rintro _ X ⟨rfl, eX⟩; subst X; (conv => whnf))) | (refine (goes_ax _ _).mono ?_; (rintro _ X ⟨rfl, eX⟩; subst X; (conv => whnf))))) | (first | (apply Ob.of; (first | with_reducible assumption | with_reducible exact ex20 _ _ | with_reducible exact ex21 _ _ | with_reducible exact ex30 _ _ _ | with_reducible exact ex31 _ _ _ | with_reducible exact ex32 _ _ _ | rfl | (exact ald rfl rfl (by assumption) rfl) | (exact ald_agg rfl rfl rfl (by assumption) rfl)); (conv => whnf)) | (apply bIf.yes; (first | assumption | rfl); (conv => whnf)) | (apply bIf.no; (first | assumption | rfl); (conv => whnf)) | ((with_reducible refine Ob.load (by with_unfolding_all assumption) ?_); (conv => whnf)) | (apply Grows.mk; (first | exact Grow.refl _ | assumption); (conv => whnf))) | (apply bIf.of <;> intro hc <;> (conv => whnf)))))
    all_goals refine ⟨congrArg Value.bool ?_, gg⟩
    all_goals clear b1 b2 b3 e1 e2 e3 j1 j2 j3 i1 i2
    all_goals grind [insP]
  · (try (conv => whnf)); (repeat' ((fail_if_success (with_reducible refine And.intro ?_ ?_)); (fail_if_success (with_reducible refine Exists.intro ?_ ?_)); (first | ((with_reducible refine AX.id ?_); (first | (refine (arg_ax e1 e2 e3 _ _ _).mono ?_; (rintro _ X ⟨rfl, eX⟩; subst X; (conv => whnf))) | (refine (site_ax _ _).mono ?_; (rintro _ X ⟨rfl, eX⟩; subst X; (conv => whnf))) | (refine (below_ax _ _ _).mono ?_; (rintro _ X ⟨rfl, eX⟩; subst X; (conv => whnf))) | (refine (goes_ax _ _).mono ?_; (rintro _ X ⟨rfl, eX⟩; subst X; (conv => whnf))))) | (first | (apply Ob.of; (first | with_reducible assumption | with_reducible exact ex20 _ _ | with_reducible exact ex21 _ _ | with_reducible exact ex30 _ _ _ | with_reducible exact ex31 _ _ _ | with_reducible exact ex32 _ _ _ | rfl | (exact ald rfl rfl (by assumption) rfl) | (exact ald_agg rfl rfl rfl (by assumption) rfl)); (conv => whnf)) | (apply bIf.yes; (first | assumption | rfl); (conv => whnf)) | (apply bIf.no; (first | assumption | rfl); (conv => whnf)) | ((with_reducible refine Ob.load (by with_unfolding_all assumption) ?_); (conv => whnf)) | (apply Grows.mk; (first | exact Grow.refl _ | assumption); (conv => whnf))) | (apply bIf.of <;> intro hc <;> (conv => whnf)))))
    all_goals first | refine ⟨congrArg Value.bool ?_, gg⟩ | (exfalso; clear b1 b2 b3 e1 e2 e3 i1 i2; grind)
    all_goals clear b1 b2 b3 e1 e2 e3 i1 i2
    all_goals grind [insP]
end Go.Proofs.Ytdlanbfbbopfhaa
