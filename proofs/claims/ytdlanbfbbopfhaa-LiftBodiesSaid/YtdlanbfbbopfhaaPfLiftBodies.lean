/- The law LiftBodies told of abstract memory: it answers true for every program and number. No condition. -/
import Derived.Test.YtdlanbfbbopfhaaLiD
set_option linter.unusedVariables false
set_option linter.unusedSimpArgs false
set_option maxRecDepth 20000
set_option maxHeartbeats 8000000
namespace Go.Proofs.Ytdlanbfbbopfhaa
open Go Ax
theorem LiftBodies_ax (H : Heap) (c0 : List Value) (x0 : (Int) × (List (ByteArray)) × (List ((Int) × (Int) × (Int) × (Int) × (List ((Int) × (Int) × (Int)))))) (c1 : List Value) (x1 : Int) (hn : NoOwn H) (R0 : ty25.R H c0 x0) (o0 : ty25.ok x0) (R1 : ty3.R H c1 x1) (o1 : ty3.ok x1) :
    AX Try.prog 3 #[argS c0, arg1 c1] H fun v _ => v = .bool true := by
  obtain ⟨ps, cs, e0, hp, hcs⟩ := prog_of R0
  have e1 : c1 = [.int .i64 x1] := R1
  rw [e0]
  subst e1
  show AX Try.prog 3 #[progV x0 ps cs, .int .i64 x1] H fun v _ => v = .bool true
  refine AX.body (n := 73) (rs := [.tmp 4]) Try.func3 rfl (by decide) rfl rfl (bC_sound _ _ _ _ ?_)
  (conv => whnf)
  refine Ob2.box rfl fun q1 H1 hq1 a1 g1 => ?_
  have b1 := hblk_of a1
  have lp : ∀ X, Grow H1 X → aload Try.prog 25 (.pointer (some ⟨q1, 0, none⟩)) X = some (progV x0 ps cs) := fun X g => ald_agg rfl rfl rfl (g.hblk b1) rfl
  have lp1 := lp H1 (.refl _)
  (try (conv => whnf)); (repeat ((fail_if_success (with_reducible refine And.intro ?_ ?_)); (fail_if_success (with_reducible refine Exists.intro ?_ ?_)); (first | (apply Ob.of; (first | with_reducible assumption | with_reducible exact ex20 _ _ | with_reducible exact ex21 _ _ | with_reducible exact ex30 _ _ _ | with_reducible exact ex31 _ _ _ | with_reducible exact ex32 _ _ _ | rfl | (exact ald rfl rfl (by assumption) rfl) | (exact ald_agg rfl rfl rfl (by assumption) rfl)); (conv => whnf)) | (apply bIf.yes; (first | assumption | rfl); (conv => whnf)) | (apply bIf.no; (first | assumption | rfl); (conv => whnf)) | ((with_reducible refine Ob.load (by with_unfolding_all assumption) ?_); (conv => whnf)) | (apply Grows.mk; (first | exact Grow.refl _ | assumption); (conv => whnf)))))
  refine (few_ax (strR.grow hp g1) (codeR.grow hcs g1)).mono ?_
  rintro _ X ⟨⟨b, rfl, hf⟩, e⟩
  subst X
  cases b with
  | false =>
    (try (conv => whnf)); (repeat ((fail_if_success (with_reducible refine And.intro ?_ ?_)); (fail_if_success (with_reducible refine Exists.intro ?_ ?_)); (first | (apply Ob.of; (first | with_reducible assumption | with_reducible exact ex20 _ _ | with_reducible exact ex21 _ _ | with_reducible exact ex30 _ _ _ | with_reducible exact ex31 _ _ _ | with_reducible exact ex32 _ _ _ | rfl | (exact ald rfl rfl (by assumption) rfl) | (exact ald_agg rfl rfl rfl (by assumption) rfl)); (conv => whnf)) | (apply bIf.yes; (first | assumption | rfl); (conv => whnf)) | (apply bIf.no; (first | assumption | rfl); (conv => whnf)) | ((with_reducible refine Ob.load (by with_unfolding_all assumption) ?_); (conv => whnf)) | (apply Grows.mk; (first | exact Grow.refl _ | assumption); (conv => whnf)))))
    refine (worksL_ax H1).mono ?_
    rintro _ X rfl
    (try (conv => whnf)); (repeat ((fail_if_success (with_reducible refine And.intro ?_ ?_)); (fail_if_success (with_reducible refine Exists.intro ?_ ?_)); (first | (apply Ob.of; (first | with_reducible assumption | with_reducible exact ex20 _ _ | with_reducible exact ex21 _ _ | with_reducible exact ex30 _ _ _ | with_reducible exact ex31 _ _ _ | with_reducible exact ex32 _ _ _ | rfl | (exact ald rfl rfl (by assumption) rfl) | (exact ald_agg rfl rfl rfl (by assumption) rfl)); (conv => whnf)) | (apply bIf.yes; (first | assumption | rfl); (conv => whnf)) | (apply bIf.no; (first | assumption | rfl); (conv => whnf)) | ((with_reducible refine Ob.load (by with_unfolding_all assumption) ?_); (conv => whnf)) | (apply Grows.mk; (first | exact Grow.refl _ | assumption); (conv => whnf)))))
    rfl
  | true =>
    have hf := hf rfl
    have hL := hf.small.1
    (try (conv => whnf)); (repeat ((fail_if_success (with_reducible refine And.intro ?_ ?_)); (fail_if_success (with_reducible refine Exists.intro ?_ ?_)); (first | (apply Ob.of; (first | with_reducible assumption | with_reducible exact ex20 _ _ | with_reducible exact ex21 _ _ | with_reducible exact ex30 _ _ _ | with_reducible exact ex31 _ _ _ | with_reducible exact ex32 _ _ _ | rfl | (exact ald rfl rfl (by assumption) rfl) | (exact ald_agg rfl rfl rfl (by assumption) rfl)); (conv => whnf)) | (apply bIf.yes; (first | assumption | rfl); (conv => whnf)) | (apply bIf.no; (first | assumption | rfl); (conv => whnf)) | ((with_reducible refine Ob.load (by with_unfolding_all assumption) ?_); (conv => whnf)) | (apply Grows.mk; (first | exact Grow.refl _ | assumption); (conv => whnf)))))
    refine SW.loop (α := Nat) (fun m => [(1, .int .i64 x1), (2, .pointer (some ⟨q1, 0, none⟩)), (5, .int .i64 ((m : Int) - 1))]) (fun m H' => m ≤ x0.2.2.length + 2 ∧ Grow H1 H') (fun m => x0.2.2.length + 2 - m) ⟨0, ⟨rfl, rfl, rfl, trivial⟩, by omega, .refl _⟩ ?_
    rintro m H2 ⟨hm, g2⟩
    refine bC_sound _ _ _ _ ?_
    have b2 := g2.hblk b1
    have g12 := g1.trans g2
    have lp2 := lp H2 g2
    have l2 : alen Try.prog 23 cs H2 = some (.int .i64 x0.2.2.length) := hcs.len rfl _
    by_cases hml : m < x0.2.2.length + 2
    · have d2 : decide ((m : Int) - 1 ≤ (x0.2.2.length : Int)) = true := decide_eq_true (by omega)
      have wm : IntKind.i64.wrap ((m : Int) - 1 + 1) = ((m + 1 : Nat) : Int) - 1 := by rw [wrap_i64 (by have := hf.1; omega) (by have := hf.1; omega)]; omega
      (try (conv => whnf)); (repeat ((fail_if_success (with_reducible refine And.intro ?_ ?_)); (fail_if_success (with_reducible refine Exists.intro ?_ ?_)); (first | (apply Ob.of; (first | with_reducible assumption | with_reducible exact ex20 _ _ | with_reducible exact ex21 _ _ | with_reducible exact ex30 _ _ _ | with_reducible exact ex31 _ _ _ | with_reducible exact ex32 _ _ _ | rfl | (exact ald rfl rfl (by assumption) rfl) | (exact ald_agg rfl rfl rfl (by assumption) rfl)); (conv => whnf)) | (apply bIf.yes; (first | assumption | rfl); (conv => whnf)) | (apply bIf.no; (first | assumption | rfl); (conv => whnf)) | ((with_reducible refine Ob.load (by with_unfolding_all assumption) ?_); (conv => whnf)) | (apply Grows.mk; (first | exact Grow.refl _ | assumption); (conv => whnf)))))
      refine (Lift_ax (strR.grow hp g12) (codeR.grow hcs g12) hL _).mono ?_
      rintro _ H3 ⟨⟨bv, F, R, s, e, rfl, ⟨cv, ov, pb, rfl, hc, ho⟩, hs⟩, g3⟩
      obtain ⟨ca, cn, ck, rfl⟩ : ∃ a n k, cv = .slice a n k := by rcases hc with ⟨h, _⟩ | ⟨b, h, _⟩ <;> exact ⟨_, _, _, h⟩
      obtain ⟨oa, on, ok, rfl⟩ : ∃ a n k, ov = .slice a n k := by rcases ho with ⟨h, _⟩ | ⟨b, h, _⟩ <;> exact ⟨_, _, _, h⟩
      have hB : BodyR H3 (.agg #[.int .i64 F, .int .i64 R, .slice ca cn ck, .slice oa on ok, .slice none 0 0]) F R s := ⟨_, _, pb, rfl, hc, ho⟩
      have hsm := hs.small hf
      have hrg := hs.regs
      (try (conv => whnf)); (repeat ((fail_if_success (with_reducible refine And.intro ?_ ?_)); (fail_if_success (with_reducible refine Exists.intro ?_ ?_)); (first | (apply Ob.of; (first | with_reducible assumption | with_reducible exact ex20 _ _ | with_reducible exact ex21 _ _ | with_reducible exact ex30 _ _ _ | with_reducible exact ex31 _ _ _ | with_reducible exact ex32 _ _ _ | rfl | (exact ald rfl rfl (by assumption) rfl) | (exact ald_agg rfl rfl rfl (by assumption) rfl)); (conv => whnf)) | (apply bIf.yes; (first | assumption | rfl); (conv => whnf)) | (apply bIf.no; (first | assumption | rfl); (conv => whnf)) | ((with_reducible refine Ob.load (by with_unfolding_all assumption) ?_); (conv => whnf)) | (apply Grows.mk; (first | exact Grow.refl _ | assumption); (conv => whnf)))))
      refine Ob2.alloc rfl fun q4 H4 hq4 a4 g4 => ?_
      (try (conv => whnf)); (repeat ((fail_if_success (with_reducible refine And.intro ?_ ?_)); (fail_if_success (with_reducible refine Exists.intro ?_ ?_)); (first | (apply Ob.of; (first | with_reducible assumption | with_reducible exact ex20 _ _ | with_reducible exact ex21 _ _ | with_reducible exact ex30 _ _ _ | with_reducible exact ex31 _ _ _ | with_reducible exact ex32 _ _ _ | rfl | (exact ald rfl rfl (by assumption) rfl) | (exact ald_agg rfl rfl rfl (by assumption) rfl)); (conv => whnf)) | (apply bIf.yes; (first | assumption | rfl); (conv => whnf)) | (apply bIf.no; (first | assumption | rfl); (conv => whnf)) | ((with_reducible refine Ob.load (by with_unfolding_all assumption) ?_); (conv => whnf)) | (apply Grows.mk; (first | exact Grow.refl _ | assumption); (conv => whnf)))))
      refine Ob.store rfl rfl rfl a4 rfl (by first | exact Nat.le_of_ble_eq_true rfl | simp) fun H5 s5 k5 l5 => ?_
      have g35 : Grow H3 H5 := g4.but_new k5 (by omega)
      have g25 := g3.trans g35
      have lp5 := lp H5 (g2.trans g25)
      (try (conv => whnf)); (repeat ((fail_if_success (with_reducible refine And.intro ?_ ?_)); (fail_if_success (with_reducible refine Exists.intro ?_ ?_)); (first | (apply Ob.of; (first | with_reducible assumption | with_reducible exact ex20 _ _ | with_reducible exact ex21 _ _ | with_reducible exact ex30 _ _ _ | with_reducible exact ex31 _ _ _ | with_reducible exact ex32 _ _ _ | rfl | (exact ald rfl rfl (by assumption) rfl) | (exact ald_agg rfl rfl rfl (by assumption) rfl)); (conv => whnf)) | (apply bIf.yes; (first | assumption | rfl); (conv => whnf)) | (apply bIf.no; (first | assumption | rfl); (conv => whnf)) | ((with_reducible refine Ob.load (by with_unfolding_all assumption) ?_); (conv => whnf)) | (apply Grows.mk; (first | exact Grow.refl _ | assumption); (conv => whnf)))))
      refine (refLift_ax (strR.grow hp (g12.trans g25)) (codeR.grow hcs (g12.trans g25)) hL _).mono ?_
      rintro _ H6 ⟨⟨bv', pv, F', R', s', e', rfl, ⟨cv', ov', pb', rfl, hc', ho'⟩, hpv, hs'⟩, g6⟩
      obtain ⟨rfl, rfl, rfl, rfl⟩ := hs.uniq hs'
      obtain ⟨ca', cn', ck', rfl⟩ : ∃ a n k, cv' = .slice a n k := by rcases hc' with ⟨h, _⟩ | ⟨b, h, _⟩ <;> exact ⟨_, _, _, h⟩
      obtain ⟨oa', on', ok', rfl⟩ : ∃ a n k, ov' = .slice a n k := by rcases ho' with ⟨h, _⟩ | ⟨b, h, _⟩ <;> exact ⟨_, _, _, h⟩
      have hB' : BodyR H6 (.agg #[.int .i64 F, .int .i64 R, .slice ca' cn' ck', .slice oa' on' ok', .slice none 0 0]) F R s := ⟨_, _, pb', rfl, hc', ho'⟩
      obtain ⟨pa, pn, pk, rfl⟩ : ∃ a n k, pv = .slice a n k := by rcases hpv with ⟨h, _⟩ | ⟨b, h, _⟩ <;> exact ⟨_, _, _, h⟩
      (try (conv => whnf)); (repeat ((fail_if_success (with_reducible refine And.intro ?_ ?_)); (fail_if_success (with_reducible refine Exists.intro ?_ ?_)); (first | (apply Ob.of; (first | with_reducible assumption | with_reducible exact ex20 _ _ | with_reducible exact ex21 _ _ | with_reducible exact ex30 _ _ _ | with_reducible exact ex31 _ _ _ | with_reducible exact ex32 _ _ _ | rfl | (exact ald rfl rfl (by assumption) rfl) | (exact ald_agg rfl rfl rfl (by assumption) rfl)); (conv => whnf)) | (apply bIf.yes; (first | assumption | rfl); (conv => whnf)) | (apply bIf.no; (first | assumption | rfl); (conv => whnf)) | ((with_reducible refine Ob.load (by with_unfolding_all assumption) ?_); (conv => whnf)) | (apply Grows.mk; (first | exact Grow.refl _ | assumption); (conv => whnf)))))
      refine Ob2.alloc rfl fun q7 H7 hq7 a7 g7 => ?_
      (try (conv => whnf)); (repeat ((fail_if_success (with_reducible refine And.intro ?_ ?_)); (fail_if_success (with_reducible refine Exists.intro ?_ ?_)); (first | (apply Ob.of; (first | with_reducible assumption | with_reducible exact ex20 _ _ | with_reducible exact ex21 _ _ | with_reducible exact ex30 _ _ _ | with_reducible exact ex31 _ _ _ | with_reducible exact ex32 _ _ _ | rfl | (exact ald rfl rfl (by assumption) rfl) | (exact ald_agg rfl rfl rfl (by assumption) rfl)); (conv => whnf)) | (apply bIf.yes; (first | assumption | rfl); (conv => whnf)) | (apply bIf.no; (first | assumption | rfl); (conv => whnf)) | ((with_reducible refine Ob.load (by with_unfolding_all assumption) ?_); (conv => whnf)) | (apply Grows.mk; (first | exact Grow.refl _ | assumption); (conv => whnf)))))
      refine Ob.store rfl rfl rfl a7 rfl (by first | exact Nat.le_of_ble_eq_true rfl | simp) fun H8 s8 k8 l8 => ?_
      have g88 : Grow H6 H8 := g7.but_new k8 (by omega)
      have g58 := g35.trans g6
      have g28 : Grow H1 H8 := ((g2.trans g25).trans g6).trans g88
      have lv5 : aload Try.prog 32 (.pointer (some ⟨q4, 0, none⟩)) H8 = some (.agg #[.int .i64 F, .int .i64 R, .slice ca cn ck, .slice oa on ok, .slice none 0 0]) := ald_agg rfl rfl rfl (hblk_of ((g6.trans g88).at s5)) rfl
      have lv8 : aload Try.prog 32 (.pointer (some ⟨q7, 0, none⟩)) H8 = some (.agg #[.int .i64 F, .int .i64 R, .slice ca' cn' ck', .slice oa' on' ok', .slice none 0 0]) := ald_agg rfl rfl rfl (hblk_of s8) rfl
      (try (conv => whnf)); (repeat ((fail_if_success (with_reducible refine And.intro ?_ ?_)); (fail_if_success (with_reducible refine Exists.intro ?_ ?_)); (first | (apply Ob.of; (first | with_reducible assumption | with_reducible exact ex20 _ _ | with_reducible exact ex21 _ _ | with_reducible exact ex30 _ _ _ | with_reducible exact ex31 _ _ _ | with_reducible exact ex32 _ _ _ | rfl | (exact ald rfl rfl (by assumption) rfl) | (exact ald_agg rfl rfl rfl (by assumption) rfl)); (conv => whnf)) | (apply bIf.yes; (first | assumption | rfl); (conv => whnf)) | (apply bIf.no; (first | assumption | rfl); (conv => whnf)) | ((with_reducible refine Ob.load (by with_unfolding_all assumption) ?_); (conv => whnf)) | (apply Grows.mk; (first | exact Grow.refl _ | assumption); (conv => whnf)))))
      refine (SameB_ax (hB.grow (g58.trans (g88.trans (.refl _)))) (hB'.grow g88) (by have := hsm.2.1; omega) (by have := hsm.2.2; omega) hrg).mono ?_
      rintro _ X ⟨rfl, ex⟩
      subst X
      have eE : (e != e) = false := bne_self_eq_false _
      (try (conv => whnf)); (repeat ((fail_if_success (with_reducible refine And.intro ?_ ?_)); (fail_if_success (with_reducible refine Exists.intro ?_ ?_)); (first | (apply Ob.of; (first | with_reducible assumption | with_reducible exact ex20 _ _ | with_reducible exact ex21 _ _ | with_reducible exact ex30 _ _ _ | with_reducible exact ex31 _ _ _ | with_reducible exact ex32 _ _ _ | rfl | (exact ald rfl rfl (by assumption) rfl) | (exact ald_agg rfl rfl rfl (by assumption) rfl)); (conv => whnf)) | (apply bIf.yes; (first | assumption | rfl); (conv => whnf)) | (apply bIf.no; (first | assumption | rfl); (conv => whnf)) | ((with_reducible refine Ob.load (by with_unfolding_all assumption) ?_); (conv => whnf)) | (apply Grows.mk; (first | exact Grow.refl _ | assumption); (conv => whnf)))))
      exact ⟨m + 1, ⟨rfl, rfl, congrArg (fun z => some (Value.int .i64 z)) wm, trivial⟩, ⟨hml, g28⟩, by show x0.2.2.length + 2 - (m + 1) < x0.2.2.length + 2 - m; omega⟩
    · have d2 : decide ((m : Int) - 1 ≤ (x0.2.2.length : Int)) = false := decide_eq_false (by omega)
      (try (conv => whnf)); (repeat ((fail_if_success (with_reducible refine And.intro ?_ ?_)); (fail_if_success (with_reducible refine Exists.intro ?_ ?_)); (first | (apply Ob.of; (first | with_reducible assumption | with_reducible exact ex20 _ _ | with_reducible exact ex21 _ _ | with_reducible exact ex30 _ _ _ | with_reducible exact ex31 _ _ _ | with_reducible exact ex32 _ _ _ | rfl | (exact ald rfl rfl (by assumption) rfl) | (exact ald_agg rfl rfl rfl (by assumption) rfl)); (conv => whnf)) | (apply bIf.yes; (first | assumption | rfl); (conv => whnf)) | (apply bIf.no; (first | assumption | rfl); (conv => whnf)) | ((with_reducible refine Ob.load (by with_unfolding_all assumption) ?_); (conv => whnf)) | (apply Grows.mk; (first | exact Grow.refl _ | assumption); (conv => whnf)))))
      refine (Lift_ax (strR.grow hp g12) (codeR.grow hcs g12) hL _).mono ?_
      rintro _ H3 ⟨⟨bv, F, R, s, e, rfl, ⟨cv, ov, pb, rfl, hc, ho⟩, hs⟩, g3⟩
      obtain ⟨ca, cn, ck, rfl⟩ : ∃ a n k, cv = .slice a n k := by rcases hc with ⟨h, _⟩ | ⟨b, h, _⟩ <;> exact ⟨_, _, _, h⟩
      obtain ⟨oa, on, ok, rfl⟩ : ∃ a n k, ov = .slice a n k := by rcases ho with ⟨h, _⟩ | ⟨b, h, _⟩ <;> exact ⟨_, _, _, h⟩
      have hB : BodyR H3 (.agg #[.int .i64 F, .int .i64 R, .slice ca cn ck, .slice oa on ok, .slice none 0 0]) F R s := ⟨_, _, pb, rfl, hc, ho⟩
      have hsm := hs.small hf
      have hrg := hs.regs
      (try (conv => whnf)); (repeat ((fail_if_success (with_reducible refine And.intro ?_ ?_)); (fail_if_success (with_reducible refine Exists.intro ?_ ?_)); (first | (apply Ob.of; (first | with_reducible assumption | with_reducible exact ex20 _ _ | with_reducible exact ex21 _ _ | with_reducible exact ex30 _ _ _ | with_reducible exact ex31 _ _ _ | with_reducible exact ex32 _ _ _ | rfl | (exact ald rfl rfl (by assumption) rfl) | (exact ald_agg rfl rfl rfl (by assumption) rfl)); (conv => whnf)) | (apply bIf.yes; (first | assumption | rfl); (conv => whnf)) | (apply bIf.no; (first | assumption | rfl); (conv => whnf)) | ((with_reducible refine Ob.load (by with_unfolding_all assumption) ?_); (conv => whnf)) | (apply Grows.mk; (first | exact Grow.refl _ | assumption); (conv => whnf)))))
      refine Ob2.alloc rfl fun q4 H4 hq4 a4 g4 => ?_
      (try (conv => whnf)); (repeat ((fail_if_success (with_reducible refine And.intro ?_ ?_)); (fail_if_success (with_reducible refine Exists.intro ?_ ?_)); (first | (apply Ob.of; (first | with_reducible assumption | with_reducible exact ex20 _ _ | with_reducible exact ex21 _ _ | with_reducible exact ex30 _ _ _ | with_reducible exact ex31 _ _ _ | with_reducible exact ex32 _ _ _ | rfl | (exact ald rfl rfl (by assumption) rfl) | (exact ald_agg rfl rfl rfl (by assumption) rfl)); (conv => whnf)) | (apply bIf.yes; (first | assumption | rfl); (conv => whnf)) | (apply bIf.no; (first | assumption | rfl); (conv => whnf)) | ((with_reducible refine Ob.load (by with_unfolding_all assumption) ?_); (conv => whnf)) | (apply Grows.mk; (first | exact Grow.refl _ | assumption); (conv => whnf)))))
      refine Ob.store rfl rfl rfl a4 rfl (by first | exact Nat.le_of_ble_eq_true rfl | simp) fun H5 s5 k5 l5 => ?_
      have g35 : Grow H3 H5 := g4.but_new k5 (by omega)
      have g25 := g3.trans g35
      have lp5 := lp H5 (g2.trans g25)
      (try (conv => whnf)); (repeat ((fail_if_success (with_reducible refine And.intro ?_ ?_)); (fail_if_success (with_reducible refine Exists.intro ?_ ?_)); (first | (apply Ob.of; (first | with_reducible assumption | with_reducible exact ex20 _ _ | with_reducible exact ex21 _ _ | with_reducible exact ex30 _ _ _ | with_reducible exact ex31 _ _ _ | with_reducible exact ex32 _ _ _ | rfl | (exact ald rfl rfl (by assumption) rfl) | (exact ald_agg rfl rfl rfl (by assumption) rfl)); (conv => whnf)) | (apply bIf.yes; (first | assumption | rfl); (conv => whnf)) | (apply bIf.no; (first | assumption | rfl); (conv => whnf)) | ((with_reducible refine Ob.load (by with_unfolding_all assumption) ?_); (conv => whnf)) | (apply Grows.mk; (first | exact Grow.refl _ | assumption); (conv => whnf)))))
      refine (refLift_ax (strR.grow hp (g12.trans g25)) (codeR.grow hcs (g12.trans g25)) hL _).mono ?_
      rintro _ H6 ⟨⟨bv', pv, F', R', s', e', rfl, ⟨cv', ov', pb', rfl, hc', ho'⟩, hpv, hs'⟩, g6⟩
      obtain ⟨rfl, rfl, rfl, rfl⟩ := hs.uniq hs'
      obtain ⟨ca', cn', ck', rfl⟩ : ∃ a n k, cv' = .slice a n k := by rcases hc' with ⟨h, _⟩ | ⟨b, h, _⟩ <;> exact ⟨_, _, _, h⟩
      obtain ⟨oa', on', ok', rfl⟩ : ∃ a n k, ov' = .slice a n k := by rcases ho' with ⟨h, _⟩ | ⟨b, h, _⟩ <;> exact ⟨_, _, _, h⟩
      have hB' : BodyR H6 (.agg #[.int .i64 F, .int .i64 R, .slice ca' cn' ck', .slice oa' on' ok', .slice none 0 0]) F R s := ⟨_, _, pb', rfl, hc', ho'⟩
      obtain ⟨pa, pn, pk, rfl⟩ : ∃ a n k, pv = .slice a n k := by rcases hpv with ⟨h, _⟩ | ⟨b, h, _⟩ <;> exact ⟨_, _, _, h⟩
      (try (conv => whnf)); (repeat ((fail_if_success (with_reducible refine And.intro ?_ ?_)); (fail_if_success (with_reducible refine Exists.intro ?_ ?_)); (first | (apply Ob.of; (first | with_reducible assumption | with_reducible exact ex20 _ _ | with_reducible exact ex21 _ _ | with_reducible exact ex30 _ _ _ | with_reducible exact ex31 _ _ _ | with_reducible exact ex32 _ _ _ | rfl | (exact ald rfl rfl (by assumption) rfl) | (exact ald_agg rfl rfl rfl (by assumption) rfl)); (conv => whnf)) | (apply bIf.yes; (first | assumption | rfl); (conv => whnf)) | (apply bIf.no; (first | assumption | rfl); (conv => whnf)) | ((with_reducible refine Ob.load (by with_unfolding_all assumption) ?_); (conv => whnf)) | (apply Grows.mk; (first | exact Grow.refl _ | assumption); (conv => whnf)))))
      refine Ob2.alloc rfl fun q7 H7 hq7 a7 g7 => ?_
      (try (conv => whnf)); (repeat ((fail_if_success (with_reducible refine And.intro ?_ ?_)); (fail_if_success (with_reducible refine Exists.intro ?_ ?_)); (first | (apply Ob.of; (first | with_reducible assumption | with_reducible exact ex20 _ _ | with_reducible exact ex21 _ _ | with_reducible exact ex30 _ _ _ | with_reducible exact ex31 _ _ _ | with_reducible exact ex32 _ _ _ | rfl | (exact ald rfl rfl (by assumption) rfl) | (exact ald_agg rfl rfl rfl (by assumption) rfl)); (conv => whnf)) | (apply bIf.yes; (first | assumption | rfl); (conv => whnf)) | (apply bIf.no; (first | assumption | rfl); (conv => whnf)) | ((with_reducible refine Ob.load (by with_unfolding_all assumption) ?_); (conv => whnf)) | (apply Grows.mk; (first | exact Grow.refl _ | assumption); (conv => whnf)))))
      refine Ob.store rfl rfl rfl a7 rfl (by first | exact Nat.le_of_ble_eq_true rfl | simp) fun H8 s8 k8 l8 => ?_
      have g88 : Grow H6 H8 := g7.but_new k8 (by omega)
      have g58 := g35.trans g6
      have g28 : Grow H1 H8 := ((g2.trans g25).trans g6).trans g88
      have lv5 : aload Try.prog 32 (.pointer (some ⟨q4, 0, none⟩)) H8 = some (.agg #[.int .i64 F, .int .i64 R, .slice ca cn ck, .slice oa on ok, .slice none 0 0]) := ald_agg rfl rfl rfl (hblk_of ((g6.trans g88).at s5)) rfl
      have lv8 : aload Try.prog 32 (.pointer (some ⟨q7, 0, none⟩)) H8 = some (.agg #[.int .i64 F, .int .i64 R, .slice ca' cn' ck', .slice oa' on' ok', .slice none 0 0]) := ald_agg rfl rfl rfl (hblk_of s8) rfl
      (try (conv => whnf)); (repeat ((fail_if_success (with_reducible refine And.intro ?_ ?_)); (fail_if_success (with_reducible refine Exists.intro ?_ ?_)); (first | (apply Ob.of; (first | with_reducible assumption | with_reducible exact ex20 _ _ | with_reducible exact ex21 _ _ | with_reducible exact ex30 _ _ _ | with_reducible exact ex31 _ _ _ | with_reducible exact ex32 _ _ _ | rfl | (exact ald rfl rfl (by assumption) rfl) | (exact ald_agg rfl rfl rfl (by assumption) rfl)); (conv => whnf)) | (apply bIf.yes; (first | assumption | rfl); (conv => whnf)) | (apply bIf.no; (first | assumption | rfl); (conv => whnf)) | ((with_reducible refine Ob.load (by with_unfolding_all assumption) ?_); (conv => whnf)) | (apply Grows.mk; (first | exact Grow.refl _ | assumption); (conv => whnf)))))
      refine (SameB_ax (hB.grow (g58.trans (g88.trans (.refl _)))) (hB'.grow g88) (by have := hsm.2.1; omega) (by have := hsm.2.2; omega) hrg).mono ?_
      rintro _ X ⟨rfl, ex⟩
      subst X
      have eE : (e == e) = true := beq_self_eq_true _
      (try (conv => whnf)); (repeat ((fail_if_success (with_reducible refine And.intro ?_ ?_)); (fail_if_success (with_reducible refine Exists.intro ?_ ?_)); (first | (apply Ob.of; (first | with_reducible assumption | with_reducible exact ex20 _ _ | with_reducible exact ex21 _ _ | with_reducible exact ex30 _ _ _ | with_reducible exact ex31 _ _ _ | with_reducible exact ex32 _ _ _ | rfl | (exact ald rfl rfl (by assumption) rfl) | (exact ald_agg rfl rfl rfl (by assumption) rfl)); (conv => whnf)) | (apply bIf.yes; (first | assumption | rfl); (conv => whnf)) | (apply bIf.no; (first | assumption | rfl); (conv => whnf)) | ((with_reducible refine Ob.load (by with_unfolding_all assumption) ?_); (conv => whnf)) | (apply Grows.mk; (first | exact Grow.refl _ | assumption); (conv => whnf)))))
      refine (worksL_ax H8).mono ?_
      rintro _ X rfl
      (try (conv => whnf)); (repeat ((fail_if_success (with_reducible refine And.intro ?_ ?_)); (fail_if_success (with_reducible refine Exists.intro ?_ ?_)); (first | (apply Ob.of; (first | with_reducible assumption | with_reducible exact ex20 _ _ | with_reducible exact ex21 _ _ | with_reducible exact ex30 _ _ _ | with_reducible exact ex31 _ _ _ | with_reducible exact ex32 _ _ _ | rfl | (exact ald rfl rfl (by assumption) rfl) | (exact ald_agg rfl rfl rfl (by assumption) rfl)); (conv => whnf)) | (apply bIf.yes; (first | assumption | rfl); (conv => whnf)) | (apply bIf.no; (first | assumption | rfl); (conv => whnf)) | ((with_reducible refine Ob.load (by with_unfolding_all assumption) ?_); (conv => whnf)) | (apply Grows.mk; (first | exact Grow.refl _ | assumption); (conv => whnf)))))
      rfl
end Go.Proofs.Ytdlanbfbbopfhaa
