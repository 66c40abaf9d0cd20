/- The law ShapeStays. -/
import Derived.Test.YtmcniodiehfbpaaJSh2
set_option linter.unusedVariables false
set_option linter.unusedSimpArgs false
set_option maxRecDepth 20000
set_option maxHeartbeats 4000000
namespace Go.Proofs.Ytmcniodiehfbpaa
open Go Ax
theorem ShapeStays_ax (H : Heap) (c0 : List Value) (x0 : List ((Int) × (Int) × (Int) × (Bool))) (c1 : List Value) (x1 : List ((Int) × (Int) × (Int) × (Bool))) (c2 : List Value) (x2 : Int) (hn : NoOwn H) (R0 : ty22.R H c0 x0) (o0 : ty22.ok x0) (R1 : ty22.R H c1 x1) (o1 : ty22.ok x1) (R2 : ty5.R H c2 x2) (o2 : ty5.ok x2) :
    AX Try.prog 5 #[arg1 c0, arg1 c1, arg1 c2] H fun v _ => v = .bool true := by
  obtain rfl : c2 = [.int .u8 x2] := R2
  obtain ⟨sv, hsv, hL⟩ := acts_of R0
  obtain ⟨mv, hmv, hM⟩ := acts_of R1
  rw [hsv, hmv]
  show AX Try.prog 5 #[sv, mv, .int .u8 x2] H _
  have okA := okActs o0
  have okB := okActs o1
  have u1 := ok5 o2
  have ln : ∀ X, alen Try.prog 22 sv X = some (.int .i64 x0.length) := hL.len
  have lm : ∀ X, alen Try.prog 22 mv X = some (.int .i64 x1.length) := hM.len
  refine AX.body (n := 101) (rs := [.tmp 6]) Try.func5 rfl (by decide) rfl rfl (bC_sound _ _ _ _ ?_)
  (try (conv => whnf)); (repeat ((fail_if_success (with_reducible refine And.intro ?_ ?_)); (fail_if_success (with_reducible refine Exists.intro ?_ ?_)); (first | (apply Ob.of; (first | with_reducible assumption | with_reducible exact ex20 _ _ | with_reducible exact ex21 _ _ | with_reducible exact ex30 _ _ _ | with_reducible exact ex31 _ _ _ | with_reducible exact ex32 _ _ _ | rfl | (exact ald rfl rfl (by assumption) rfl) | (exact ald_agg rfl rfl rfl (by assumption) rfl)); (conv => whnf)) | (apply bIf.yes; (first | assumption | rfl); (conv => whnf)) | (apply bIf.no; (first | assumption | rfl); (conv => whnf)) | ((with_reducible refine Ob.load (by with_unfolding_all assumption) ?_); (conv => whnf)) | (apply Grows.mk; (first | exact Grow.refl _ | assumption); (conv => whnf)))))
  refine (New_ax H 150).mono ?_
  rintro _ H1 ⟨fb, rb, rfl, f1, g1⟩
  rw [show (max 0 (min (150 : Int) 150)).toNat = 150 from rfl] at f1
  (try (conv => whnf)); (repeat ((fail_if_success (with_reducible refine And.intro ?_ ?_)); (fail_if_success (with_reducible refine Exists.intro ?_ ?_)); (first | (apply Ob.of; (first | with_reducible assumption | with_reducible exact ex20 _ _ | with_reducible exact ex21 _ _ | with_reducible exact ex30 _ _ _ | with_reducible exact ex31 _ _ _ | with_reducible exact ex32 _ _ _ | rfl | (exact ald rfl rfl (by assumption) rfl) | (exact ald_agg rfl rfl rfl (by assumption) rfl)); (conv => whnf)) | (apply bIf.yes; (first | assumption | rfl); (conv => whnf)) | (apply bIf.no; (first | assumption | rfl); (conv => whnf)) | ((with_reducible refine Ob.load (by with_unfolding_all assumption) ?_); (conv => whnf)) | (apply Grows.mk; (first | exact Grow.refl _ | assumption); (conv => whnf)))))
  refine SW.loop (α := Nat) (fun i => [(0, sv), (1, mv), (2, .int .u8 x2), (7, .pointer (some ⟨fb, 0, none⟩)), (8, .int .i64 (i : Int))])
    (fun i X => i ≤ 40 ∧ ActL X sv x0 ∧ ActL X mv x1 ∧ ∃ G av S, FoR X fb G 150 av rb S) (fun i => 40 - i) ⟨0, ⟨rfl, rfl, rfl, rfl, rfl, trivial⟩, by decide, hL.grow g1, hM.grow g1, _, _, _, f1⟩ ?_
  rintro i X ⟨hi, hA, hB, G, av, S, f⟩
  have lnX := ln X
  refine bC_sound _ _ _ _ ?_
  by_cases hl : i < x0.length ∧ i < 40
  · obtain ⟨hl1, hl2⟩ := hl
    have d1 : decide ((i : Int) < (x0.length : Int)) = true := decide_eq_true (by omega)
    have d2 : decide ((i : Int) < 40) = true := decide_eq_true (by omega)
    obtain ⟨x, hx⟩ := get_lt (L := x0) (m := i) hl1
    obtain ⟨q, q1, q2⟩ := hA.ld hx
    obtain ⟨y1, y2⟩ := okA i x hx
    (try (conv => whnf)); (repeat ((fail_if_success (with_reducible refine And.intro ?_ ?_)); (fail_if_success (with_reducible refine Exists.intro ?_ ?_)); (first | (apply Ob.of; (first | with_reducible assumption | with_reducible exact ex20 _ _ | with_reducible exact ex21 _ _ | with_reducible exact ex30 _ _ _ | with_reducible exact ex31 _ _ _ | with_reducible exact ex32 _ _ _ | rfl | (exact ald rfl rfl (by assumption) rfl) | (exact ald_agg rfl rfl rfl (by assumption) rfl)); (conv => whnf)) | (apply bIf.yes; (first | assumption | rfl); (conv => whnf)) | (apply bIf.no; (first | assumption | rfl); (conv => whnf)) | ((with_reducible refine Ob.load (by with_unfolding_all assumption) ?_); (conv => whnf)) | (apply Grows.mk; (first | exact Grow.refl _ | assumption); (conv => whnf)))))
    refine (act_ax f x y1 y2).mono ?_
    rintro _ Y ⟨G2, av2, S2, p2, f2, k2⟩
    have w1 := w_succ (k := i) (by omega)
    (try (conv => whnf)); (repeat ((fail_if_success (with_reducible refine And.intro ?_ ?_)); (fail_if_success (with_reducible refine Exists.intro ?_ ?_)); (first | (apply Ob.of; (first | with_reducible assumption | with_reducible exact ex20 _ _ | with_reducible exact ex21 _ _ | with_reducible exact ex30 _ _ _ | with_reducible exact ex31 _ _ _ | with_reducible exact ex32 _ _ _ | rfl | (exact ald rfl rfl (by assumption) rfl) | (exact ald_agg rfl rfl rfl (by assumption) rfl)); (conv => whnf)) | (apply bIf.yes; (first | assumption | rfl); (conv => whnf)) | (apply bIf.no; (first | assumption | rfl); (conv => whnf)) | ((with_reducible refine Ob.load (by with_unfolding_all assumption) ?_); (conv => whnf)) | (apply Grows.mk; (first | exact Grow.refl _ | assumption); (conv => whnf)))))
    exact ⟨i + 1, ⟨rfl, rfl, rfl, rfl, congrArg (fun z => some (Value.int .i64 z)) w1, trivial⟩, ⟨by omega, hA.frF f k2, hB.frF f k2, _, _, _, f2⟩, by show 40 - (i + 1) < 40 - i; omega⟩
  · have hd : decide ((i : Int) < (x0.length : Int)) = false ∨ (decide ((i : Int) < (x0.length : Int)) = true ∧ decide ((i : Int) < 40) = false) := by
      by_cases hl1 : i < x0.length
      · exact .inr ⟨decide_eq_true (by omega), decide_eq_false (by omega)⟩
      · exact .inl (decide_eq_false (by omega))
    have hG : G.length ≤ 150 := by have := f.room.few; have := f.room.most; omega
    rcases hd with d1 | ⟨d1, d2⟩
    all_goals
      (try (conv => whnf)); (repeat ((fail_if_success (with_reducible refine And.intro ?_ ?_)); (fail_if_success (with_reducible refine Exists.intro ?_ ?_)); (first | (apply Ob.of; (first | with_reducible assumption | with_reducible exact ex20 _ _ | with_reducible exact ex21 _ _ | with_reducible exact ex30 _ _ _ | with_reducible exact ex31 _ _ _ | with_reducible exact ex32 _ _ _ | rfl | (exact ald rfl rfl (by assumption) rfl) | (exact ald_agg rfl rfl rfl (by assumption) rfl)); (conv => whnf)) | (apply bIf.yes; (first | assumption | rfl); (conv => whnf)) | (apply bIf.no; (first | assumption | rfl); (conv => whnf)) | ((with_reducible refine Ob.load (by with_unfolding_all assumption) ?_); (conv => whnf)) | (apply Grows.mk; (first | exact Grow.refl _ | assumption); (conv => whnf)))))
      refine (Len_ax f).mono ?_
      rintro _ Y ⟨rfl, e⟩
      subst Y
      by_cases h0 : G.length = 0
      · have d3 : ((G.length : Int) == 0) = true := by simpa using h0
        (try (conv => whnf)); (repeat ((fail_if_success (with_reducible refine And.intro ?_ ?_)); (fail_if_success (with_reducible refine Exists.intro ?_ ?_)); (first | (apply Ob.of; (first | with_reducible assumption | with_reducible exact ex20 _ _ | with_reducible exact ex21 _ _ | with_reducible exact ex30 _ _ _ | with_reducible exact ex31 _ _ _ | with_reducible exact ex32 _ _ _ | rfl | (exact ald rfl rfl (by assumption) rfl) | (exact ald_agg rfl rfl rfl (by assumption) rfl)); (conv => whnf)) | (apply bIf.yes; (first | assumption | rfl); (conv => whnf)) | (apply bIf.no; (first | assumption | rfl); (conv => whnf)) | ((with_reducible refine Ob.load (by with_unfolding_all assumption) ?_); (conv => whnf)) | (apply Grows.mk; (first | exact Grow.refl _ | assumption); (conv => whnf)))))
        refine (works_ax X).mono ?_
        rintro _ Y rfl
        (try (conv => whnf)); (repeat ((fail_if_success (with_reducible refine And.intro ?_ ?_)); (fail_if_success (with_reducible refine Exists.intro ?_ ?_)); (first | (apply Ob.of; (first | with_reducible assumption | with_reducible exact ex20 _ _ | with_reducible exact ex21 _ _ | with_reducible exact ex30 _ _ _ | with_reducible exact ex31 _ _ _ | with_reducible exact ex32 _ _ _ | rfl | (exact ald rfl rfl (by assumption) rfl) | (exact ald_agg rfl rfl rfl (by assumption) rfl)); (conv => whnf)) | (apply bIf.yes; (first | assumption | rfl); (conv => whnf)) | (apply bIf.no; (first | assumption | rfl); (conv => whnf)) | ((with_reducible refine Ob.load (by with_unfolding_all assumption) ?_); (conv => whnf)) | (apply Grows.mk; (first | exact Grow.refl _ | assumption); (conv => whnf)))))
        rfl
      have d3 : ((G.length : Int) == 0) = false := by simpa using h0
      (try (conv => whnf)); (repeat ((fail_if_success (with_reducible refine And.intro ?_ ?_)); (fail_if_success (with_reducible refine Exists.intro ?_ ?_)); (first | (apply Ob.of; (first | with_reducible assumption | with_reducible exact ex20 _ _ | with_reducible exact ex21 _ _ | with_reducible exact ex30 _ _ _ | with_reducible exact ex31 _ _ _ | with_reducible exact ex32 _ _ _ | rfl | (exact ald rfl rfl (by assumption) rfl) | (exact ald_agg rfl rfl rfl (by assumption) rfl)); (conv => whnf)) | (apply bIf.yes; (first | assumption | rfl); (conv => whnf)) | (apply bIf.no; (first | assumption | rfl); (conv => whnf)) | ((with_reducible refine Ob.load (by with_unfolding_all assumption) ?_); (conv => whnf)) | (apply Grows.mk; (first | exact Grow.refl _ | assumption); (conv => whnf)))))
      refine (Len_ax f).mono ?_
      rintro _ Y ⟨rfl, e⟩
      subst Y
      have wu : IntKind.i64.wrap x2 = x2 := wrap_i64 (by omega) (by omega)
      have hG0 : (G.length : Int) ≠ 0 := by omega
      (try (conv => whnf)); (repeat ((fail_if_success (with_reducible refine And.intro ?_ ?_)); (fail_if_success (with_reducible refine Exists.intro ?_ ?_)); (first | (apply Ob.of; (first | with_reducible assumption | with_reducible exact ex20 _ _ | with_reducible exact ex21 _ _ | with_reducible exact ex30 _ _ _ | with_reducible exact ex31 _ _ _ | with_reducible exact ex32 _ _ _ | rfl | (exact ald rfl rfl (by assumption) rfl) | (exact ald_agg rfl rfl rfl (by assumption) rfl)); (conv => whnf)) | (apply bIf.yes; (first | assumption | rfl); (conv => whnf)) | (apply bIf.no; (first | assumption | rfl); (conv => whnf)) | ((with_reducible refine Ob.load (by with_unfolding_all assumption) ?_); (conv => whnf)) | (apply Grows.mk; (first | exact Grow.refl _ | assumption); (conv => whnf)))))
      refine Ob.of (rem_ok hG0) ?_
      have hm0 : 0 ≤ x2.tmod (G.length : Int) := Int.tmod_nonneg _ u1.1
      have hm1 : x2.tmod (G.length : Int) < (G.length : Int) := Int.tmod_lt_of_pos _ (by omega)
      obtain ⟨id, hid, i1, i2⟩ : ∃ id : Nat, x2.tmod (G.length : Int) + 1 = (id : Int) ∧ 1 ≤ id ∧ id ≤ G.length := ⟨(x2.tmod (G.length : Int) + 1).toNat, by omega, by omega, by omega⟩
      have wid : IntKind.i64.wrap (1 + (IntKind.i64.wrap x2).tmod (G.length : Int)) = (id : Int) := by rw [wu, wrap_i64 (by omega) (by omega)]; omega
      obtain ⟨s, hs⟩ := atF_some (G := G) (id := (id : Int)) (by omega)
      have e1 : namesF G (id : Int) = s.names := by unfold namesF; rw [hs]
      have hfew : s.names.length ≤ 1000 := by have := f.room.wf.few _ s (atF_lt hs).2.2; omega
      (try (conv => whnf)); (repeat ((fail_if_success (with_reducible refine And.intro ?_ ?_)); (fail_if_success (with_reducible refine Exists.intro ?_ ?_)); (first | (apply Ob.of; (first | with_reducible assumption | with_reducible exact ex20 _ _ | with_reducible exact ex21 _ _ | with_reducible exact ex30 _ _ _ | with_reducible exact ex31 _ _ _ | with_reducible exact ex32 _ _ _ | rfl | (exact ald rfl rfl (by assumption) rfl) | (exact ald_agg rfl rfl rfl (by assumption) rfl)); (conv => whnf)) | (apply bIf.yes; (first | assumption | rfl); (conv => whnf)) | (apply bIf.no; (first | assumption | rfl); (conv => whnf)) | ((with_reducible refine Ob.load (by with_unfolding_all assumption) ?_); (conv => whnf)) | (apply Grows.mk; (first | exact Grow.refl _ | assumption); (conv => whnf)))))
      rw [wid]
      refine (Proto_ax f (id : Int) (by omega)).mono ?_
      rintro _ Z ⟨rfl, e⟩
      subst Z
      rw [hs]
      (try (conv => whnf)); (repeat ((fail_if_success (with_reducible refine And.intro ?_ ?_)); (fail_if_success (with_reducible refine Exists.intro ?_ ?_)); (first | (apply Ob.of; (first | with_reducible assumption | with_reducible exact ex20 _ _ | with_reducible exact ex21 _ _ | with_reducible exact ex30 _ _ _ | with_reducible exact ex31 _ _ _ | with_reducible exact ex32 _ _ _ | rfl | (exact ald rfl rfl (by assumption) rfl) | (exact ald_agg rfl rfl rfl (by assumption) rfl)); (conv => whnf)) | (apply bIf.yes; (first | assumption | rfl); (conv => whnf)) | (apply bIf.no; (first | assumption | rfl); (conv => whnf)) | ((with_reducible refine Ob.load (by with_unfolding_all assumption) ?_); (conv => whnf)) | (apply Grows.mk; (first | exact Grow.refl _ | assumption); (conv => whnf)))))
      refine (Names_ax f (id : Int) (by omega)).mono ?_
      rintro n1 Y1 ⟨o1', g1', nb1⟩
      rw [e1] at o1'
      have f3 := f.grow g1'
      (try (conv => whnf)); (repeat ((fail_if_success (with_reducible refine And.intro ?_ ?_)); (fail_if_success (with_reducible refine Exists.intro ?_ ?_)); (first | (apply Ob.of; (first | with_reducible assumption | with_reducible exact ex20 _ _ | with_reducible exact ex21 _ _ | with_reducible exact ex30 _ _ _ | with_reducible exact ex31 _ _ _ | with_reducible exact ex32 _ _ _ | rfl | (exact ald rfl rfl (by assumption) rfl) | (exact ald_agg rfl rfl rfl (by assumption) rfl)); (conv => whnf)) | (apply bIf.yes; (first | assumption | rfl); (conv => whnf)) | (apply bIf.no; (first | assumption | rfl); (conv => whnf)) | ((with_reducible refine Ob.load (by with_unfolding_all assumption) ?_); (conv => whnf)) | (apply Grows.mk; (first | exact Grow.refl _ | assumption); (conv => whnf)))))
      refine (Parent_ax f3 (id : Int) (by omega)).mono ?_
      rintro _ Z ⟨rfl, e⟩
      subst Z
      rw [hs]
      (try (conv => whnf)); (repeat ((fail_if_success (with_reducible refine And.intro ?_ ?_)); (fail_if_success (with_reducible refine Exists.intro ?_ ?_)); (first | (apply Ob.of; (first | with_reducible assumption | with_reducible exact ex20 _ _ | with_reducible exact ex21 _ _ | with_reducible exact ex30 _ _ _ | with_reducible exact ex31 _ _ _ | with_reducible exact ex32 _ _ _ | rfl | (exact ald rfl rfl (by assumption) rfl) | (exact ald_agg rfl rfl rfl (by assumption) rfl)); (conv => whnf)) | (apply bIf.yes; (first | assumption | rfl); (conv => whnf)) | (apply bIf.no; (first | assumption | rfl); (conv => whnf)) | ((with_reducible refine Ob.load (by with_unfolding_all assumption) ?_); (conv => whnf)) | (apply Grows.mk; (first | exact Grow.refl _ | assumption); (conv => whnf)))))
      refine SW.loop (α := Nat) (fun i => [(1, mv), (7, .pointer (some ⟨fb, 0, none⟩)), (9, .int .i64 (id : Int)), (10, .int .i64 s.proto), (12, n1), (13, .int .i64 (s.parent : Int)), (14, .int .i64 (i : Int))])
        (fun i X => i ≤ 40 ∧ ActL X mv x1 ∧ OwnR 1 3 intR X n1 s.names ∧ ∃ G' av S, Pre G G' ∧ FoR X fb G' 150 av rb S) (fun i => 40 - i) ⟨0, ⟨rfl, rfl, rfl, rfl, rfl, rfl, rfl, trivial⟩, by decide, hB.grow g1', o1', _, _, _, .refl _, f3⟩ ?_
      rintro j V ⟨hj, hB3, o3, G3, av3, S3, p3, f4⟩
      have lmV := lm V
      refine bC_sound _ _ _ _ ?_
      by_cases hl2 : j < x1.length ∧ j < 40
      · obtain ⟨hl3, hl4⟩ := hl2
        have b1 : decide ((j : Int) < (x1.length : Int)) = true := decide_eq_true (by omega)
        have b2 : decide ((j : Int) < 40) = true := decide_eq_true (by omega)
        obtain ⟨x, hx⟩ := get_lt (L := x1) (m := j) hl3
        obtain ⟨q, q1, q2⟩ := hB3.ld hx
        obtain ⟨y1, y2⟩ := okB j x hx
        (try (conv => whnf)); (repeat ((fail_if_success (with_reducible refine And.intro ?_ ?_)); (fail_if_success (with_reducible refine Exists.intro ?_ ?_)); (first | (apply Ob.of; (first | with_reducible assumption | with_reducible exact ex20 _ _ | with_reducible exact ex21 _ _ | with_reducible exact ex30 _ _ _ | with_reducible exact ex31 _ _ _ | with_reducible exact ex32 _ _ _ | rfl | (exact ald rfl rfl (by assumption) rfl) | (exact ald_agg rfl rfl rfl (by assumption) rfl)); (conv => whnf)) | (apply bIf.yes; (first | assumption | rfl); (conv => whnf)) | (apply bIf.no; (first | assumption | rfl); (conv => whnf)) | ((with_reducible refine Ob.load (by with_unfolding_all assumption) ?_); (conv => whnf)) | (apply Grows.mk; (first | exact Grow.refl _ | assumption); (conv => whnf)))))
        refine (act_ax f4 x y1 y2).mono ?_
        rintro _ Y ⟨G2, av2, S2, p2, f2, k2⟩
        have w1 := w_succ (k := j) (by omega)
        (try (conv => whnf)); (repeat ((fail_if_success (with_reducible refine And.intro ?_ ?_)); (fail_if_success (with_reducible refine Exists.intro ?_ ?_)); (first | (apply Ob.of; (first | with_reducible assumption | with_reducible exact ex20 _ _ | with_reducible exact ex21 _ _ | with_reducible exact ex30 _ _ _ | with_reducible exact ex31 _ _ _ | with_reducible exact ex32 _ _ _ | rfl | (exact ald rfl rfl (by assumption) rfl) | (exact ald_agg rfl rfl rfl (by assumption) rfl)); (conv => whnf)) | (apply bIf.yes; (first | assumption | rfl); (conv => whnf)) | (apply bIf.no; (first | assumption | rfl); (conv => whnf)) | ((with_reducible refine Ob.load (by with_unfolding_all assumption) ?_); (conv => whnf)) | (apply Grows.mk; (first | exact Grow.refl _ | assumption); (conv => whnf)))))
        exact ⟨j + 1, ⟨rfl, rfl, rfl, rfl, rfl, rfl, congrArg (fun z => some (Value.int .i64 z)) w1, trivial⟩, ⟨by omega, hB3.frF f4 k2, OwnR.frF (X := Y) f4 o3 k2, _, _, _, p3.trans p2, f2⟩, by show 40 - (j + 1) < 40 - j; omega⟩
      · have hd : decide ((j : Int) < (x1.length : Int)) = false ∨ (decide ((j : Int) < (x1.length : Int)) = true ∧ decide ((j : Int) < 40) = false) := by
          by_cases hl1 : j < x1.length
          · exact .inr ⟨decide_eq_true (by omega), decide_eq_false (by omega)⟩
          · exact .inl (decide_eq_false (by omega))
        have hs3 := p3.at hs
        have e3 : namesF G3 (id : Int) = s.names := by unfold namesF; rw [hs3]
        have d8 : (s.proto == s.proto) = true := by simp
        have d9 : ((s.parent : Int) == (s.parent : Int)) = true := by simp
        clear d1 d3
        rcases hd with b1 | ⟨b1, b2⟩
        all_goals
          (try (conv => whnf)); (repeat ((fail_if_success (with_reducible refine And.intro ?_ ?_)); (fail_if_success (with_reducible refine Exists.intro ?_ ?_)); (first | (apply Ob.of; (first | with_reducible assumption | with_reducible exact ex20 _ _ | with_reducible exact ex21 _ _ | with_reducible exact ex30 _ _ _ | with_reducible exact ex31 _ _ _ | with_reducible exact ex32 _ _ _ | rfl | (exact ald rfl rfl (by assumption) rfl) | (exact ald_agg rfl rfl rfl (by assumption) rfl)); (conv => whnf)) | (apply bIf.yes; (first | assumption | rfl); (conv => whnf)) | (apply bIf.no; (first | assumption | rfl); (conv => whnf)) | ((with_reducible refine Ob.load (by with_unfolding_all assumption) ?_); (conv => whnf)) | (apply Grows.mk; (first | exact Grow.refl _ | assumption); (conv => whnf)))))
          refine (Proto_ax f4 (id : Int) (by omega)).mono ?_
          rintro _ Z ⟨rfl, e⟩
          subst Z
          rw [hs3]
          (try (conv => whnf)); (repeat ((fail_if_success (with_reducible refine And.intro ?_ ?_)); (fail_if_success (with_reducible refine Exists.intro ?_ ?_)); (first | (apply Ob.of; (first | with_reducible assumption | with_reducible exact ex20 _ _ | with_reducible exact ex21 _ _ | with_reducible exact ex30 _ _ _ | with_reducible exact ex31 _ _ _ | with_reducible exact ex32 _ _ _ | rfl | (exact ald rfl rfl (by assumption) rfl) | (exact ald_agg rfl rfl rfl (by assumption) rfl)); (conv => whnf)) | (apply bIf.yes; (first | assumption | rfl); (conv => whnf)) | (apply bIf.no; (first | assumption | rfl); (conv => whnf)) | ((with_reducible refine Ob.load (by with_unfolding_all assumption) ?_); (conv => whnf)) | (apply Grows.mk; (first | exact Grow.refl _ | assumption); (conv => whnf)))))
          refine (Names_ax f4 (id : Int) (by omega)).mono ?_
          rintro n2 Y2 ⟨o2', g2', nb2⟩
          have f5 := f4.grow g2'
          rw [e3] at o2'
          have o4 : OwnR 1 3 intR Y2 n1 s.names := o3.keep (fun b c _ hb => g2'.at hb) fun _ _ _ h => h
          (try (conv => whnf)); (repeat ((fail_if_success (with_reducible refine And.intro ?_ ?_)); (fail_if_success (with_reducible refine Exists.intro ?_ ?_)); (first | (apply Ob.of; (first | with_reducible assumption | with_reducible exact ex20 _ _ | with_reducible exact ex21 _ _ | with_reducible exact ex30 _ _ _ | with_reducible exact ex31 _ _ _ | with_reducible exact ex32 _ _ _ | rfl | (exact ald rfl rfl (by assumption) rfl) | (exact ald_agg rfl rfl rfl (by assumption) rfl)); (conv => whnf)) | (apply bIf.yes; (first | assumption | rfl); (conv => whnf)) | (apply bIf.no; (first | assumption | rfl); (conv => whnf)) | ((with_reducible refine Ob.load (by with_unfolding_all assumption) ?_); (conv => whnf)) | (apply Grows.mk; (first | exact Grow.refl _ | assumption); (conv => whnf)))))
          refine (numbers_ax o2'.rl o4.rl hfew).mono ?_
          rintro _ Z ⟨rfl, e⟩
          subst Z
          rw [decide_eq_true (rfl : s.names = s.names)]
          (try (conv => whnf)); (repeat ((fail_if_success (with_reducible refine And.intro ?_ ?_)); (fail_if_success (with_reducible refine Exists.intro ?_ ?_)); (first | (apply Ob.of; (first | with_reducible assumption | with_reducible exact ex20 _ _ | with_reducible exact ex21 _ _ | with_reducible exact ex30 _ _ _ | with_reducible exact ex31 _ _ _ | with_reducible exact ex32 _ _ _ | rfl | (exact ald rfl rfl (by assumption) rfl) | (exact ald_agg rfl rfl rfl (by assumption) rfl)); (conv => whnf)) | (apply bIf.yes; (first | assumption | rfl); (conv => whnf)) | (apply bIf.no; (first | assumption | rfl); (conv => whnf)) | ((with_reducible refine Ob.load (by with_unfolding_all assumption) ?_); (conv => whnf)) | (apply Grows.mk; (first | exact Grow.refl _ | assumption); (conv => whnf)))))
          refine (Parent_ax f5 (id : Int) (by omega)).mono ?_
          rintro _ Z ⟨rfl, e⟩
          subst Z
          rw [hs3]
          (try (conv => whnf)); (repeat ((fail_if_success (with_reducible refine And.intro ?_ ?_)); (fail_if_success (with_reducible refine Exists.intro ?_ ?_)); (first | (apply Ob.of; (first | with_reducible assumption | with_reducible exact ex20 _ _ | with_reducible exact ex21 _ _ | with_reducible exact ex30 _ _ _ | with_reducible exact ex31 _ _ _ | with_reducible exact ex32 _ _ _ | rfl | (exact ald rfl rfl (by assumption) rfl) | (exact ald_agg rfl rfl rfl (by assumption) rfl)); (conv => whnf)) | (apply bIf.yes; (first | assumption | rfl); (conv => whnf)) | (apply bIf.no; (first | assumption | rfl); (conv => whnf)) | ((with_reducible refine Ob.load (by with_unfolding_all assumption) ?_); (conv => whnf)) | (apply Grows.mk; (first | exact Grow.refl _ | assumption); (conv => whnf)))))
          refine (works_ax Y2).mono ?_
          rintro _ Z2 rfl
          (try (conv => whnf)); (repeat ((fail_if_success (with_reducible refine And.intro ?_ ?_)); (fail_if_success (with_reducible refine Exists.intro ?_ ?_)); (first | (apply Ob.of; (first | with_reducible assumption | with_reducible exact ex20 _ _ | with_reducible exact ex21 _ _ | with_reducible exact ex30 _ _ _ | with_reducible exact ex31 _ _ _ | with_reducible exact ex32 _ _ _ | rfl | (exact ald rfl rfl (by assumption) rfl) | (exact ald_agg rfl rfl rfl (by assumption) rfl)); (conv => whnf)) | (apply bIf.yes; (first | assumption | rfl); (conv => whnf)) | (apply bIf.no; (first | assumption | rfl); (conv => whnf)) | ((with_reducible refine Ob.load (by with_unfolding_all assumption) ?_); (conv => whnf)) | (apply Grows.mk; (first | exact Grow.refl _ | assumption); (conv => whnf)))))
          rfl
end Go.Proofs.Ytmcniodiehfbpaa
