/- The law LiftTicks told of abstract memory: it answers true for every program. No condition. -/
import Derived.Test.YtdlanbfbbopfhaaLiD
set_option linter.unusedVariables false
set_option linter.unusedSimpArgs false
set_option maxRecDepth 20000
set_option maxHeartbeats 8000000
namespace Go.Proofs.Ytdlanbfbbopfhaa
open Go Ax
theorem LiftTicks_ax (H : Heap) (c0 : List Value) (x0 : (Int) × (List (ByteArray)) × (List ((Int) × (Int) × (Int) × (Int) × (List ((Int) × (Int) × (Int)))))) (hn : NoOwn H) (R0 : ty25.R H c0 x0) (o0 : ty25.ok x0) :
    AX Try.prog 4 #[argS c0] H fun v _ => v = .bool true := by
  obtain ⟨ps, cs, e0, hp, hcs⟩ := prog_of R0
  rw [e0]
  show AX Try.prog 4 #[progV x0 ps cs] H fun v _ => v = .bool true
  refine AX.body (n := 102) (rs := [.tmp 2]) Try.func4 rfl (by decide) rfl rfl (bC_sound _ _ _ _ ?_)
  (conv => whnf)
  refine Ob2.box rfl fun q1 H1 hq1 a1 g1 => ?_
  have b1 := hblk_of a1
  have lp : ∀ X, Grow H1 X → aload Try.prog 25 (.pointer (some ⟨q1, 0, none⟩)) X = some (progV x0 ps cs) := fun X g => ald_agg rfl rfl rfl (g.hblk b1) rfl
  have lp1 := lp H1 (.refl _)
  (try (conv => whnf)); (repeat ((fail_if_success (with_reducible refine And.intro ?_ ?_)); (fail_if_success (with_reducible refine Exists.intro ?_ ?_)); (first | (apply Ob.of; (first | with_reducible assumption | with_reducible exact ex20 _ _ | with_reducible exact ex21 _ _ | with_reducible exact ex30 _ _ _ | with_reducible exact ex31 _ _ _ | with_reducible exact ex32 _ _ _ | rfl | (exact ald rfl rfl (by assumption) rfl) | (exact ald_agg rfl rfl rfl (by assumption) rfl)); (conv => whnf)) | (apply bIf.yes; (first | assumption | rfl); (conv => whnf)) | (apply bIf.no; (first | assumption | rfl); (conv => whnf)) | ((with_reducible refine Ob.load (by with_unfolding_all assumption) ?_); (conv => whnf)) | (apply Grows.mk; (first | exact Grow.refl _ | assumption); (conv => whnf)))))
  refine (few_ax (strR.grow hp g1) (codeR.grow hcs g1)).mono ?_
  rintro _ X ⟨⟨b, rfl, hf⟩, e⟩
  subst X
  cases b with
  | false =>
    (try (conv => whnf)); (repeat ((fail_if_success (with_reducible refine And.intro ?_ ?_)); (fail_if_success (with_reducible refine Exists.intro ?_ ?_)); (first | (apply Ob.of; (first | with_reducible assumption | with_reducible exact ex20 _ _ | with_reducible exact ex21 _ _ | with_reducible exact ex30 _ _ _ | with_reducible exact ex31 _ _ _ | with_reducible exact ex32 _ _ _ | rfl | (exact ald rfl rfl (by assumption) rfl) | (exact ald_agg rfl rfl rfl (by assumption) rfl)); (conv => whnf)) | (apply bIf.yes; (first | assumption | rfl); (conv => whnf)) | (apply bIf.no; (first | assumption | rfl); (conv => whnf)) | ((with_reducible refine Ob.load (by with_unfolding_all assumption) ?_); (conv => whnf)) | (apply Grows.mk; (first | exact Grow.refl _ | assumption); (conv => whnf)))))
    refine (worksL_ax H1).mono ?_
    rintro _ X rfl
    (try (conv => whnf)); (repeat ((fail_if_success (with_reducible refine And.intro ?_ ?_)); (fail_if_success (with_reducible refine Exists.intro ?_ ?_)); (first | (apply Ob.of; (first | with_reducible assumption | with_reducible exact ex20 _ _ | with_reducible exact ex21 _ _ | with_reducible exact ex30 _ _ _ | with_reducible exact ex31 _ _ _ | with_reducible exact ex32 _ _ _ | rfl | (exact ald rfl rfl (by assumption) rfl) | (exact ald_agg rfl rfl rfl (by assumption) rfl)); (conv => whnf)) | (apply bIf.yes; (first | assumption | rfl); (conv => whnf)) | (apply bIf.no; (first | assumption | rfl); (conv => whnf)) | ((with_reducible refine Ob.load (by with_unfolding_all assumption) ?_); (conv => whnf)) | (apply Grows.mk; (first | exact Grow.refl _ | assumption); (conv => whnf)))))
    rfl
  | true =>
    have hf := hf rfl
    have hL := hf.small.1
    (try (conv => whnf)); (repeat ((fail_if_success (with_reducible refine And.intro ?_ ?_)); (fail_if_success (with_reducible refine Exists.intro ?_ ?_)); (first | (apply Ob.of; (first | with_reducible assumption | with_reducible exact ex20 _ _ | with_reducible exact ex21 _ _ | with_reducible exact ex30 _ _ _ | with_reducible exact ex31 _ _ _ | with_reducible exact ex32 _ _ _ | rfl | (exact ald rfl rfl (by assumption) rfl) | (exact ald_agg rfl rfl rfl (by assumption) rfl)); (conv => whnf)) | (apply bIf.yes; (first | assumption | rfl); (conv => whnf)) | (apply bIf.no; (first | assumption | rfl); (conv => whnf)) | ((with_reducible refine Ob.load (by with_unfolding_all assumption) ?_); (conv => whnf)) | (apply Grows.mk; (first | exact Grow.refl _ | assumption); (conv => whnf)))))
    refine (rcheck_ax (strR.grow hp g1) (codeR.grow hcs g1) hL).mono ?_
    rintro v X ⟨hv, e⟩
    subst X
    rcases hv with ⟨rfl, hck⟩ | ⟨rfl, hv⟩
    rotate_left
    · (try (conv => whnf)); (repeat ((fail_if_success (with_reducible refine And.intro ?_ ?_)); (fail_if_success (with_reducible refine Exists.intro ?_ ?_)); (first | (apply Ob.of; (first | with_reducible assumption | with_reducible exact ex20 _ _ | with_reducible exact ex21 _ _ | with_reducible exact ex30 _ _ _ | with_reducible exact ex31 _ _ _ | with_reducible exact ex32 _ _ _ | rfl | (exact ald rfl rfl (by assumption) rfl) | (exact ald_agg rfl rfl rfl (by assumption) rfl)); (conv => whnf)) | (apply bIf.yes; (first | assumption | rfl); (conv => whnf)) | (apply bIf.no; (first | assumption | rfl); (conv => whnf)) | ((with_reducible refine Ob.load (by with_unfolding_all assumption) ?_); (conv => whnf)) | (apply Grows.mk; (first | exact Grow.refl _ | assumption); (conv => whnf)))))
      refine (worksL_ax H1).mono ?_
      rintro _ X rfl
      (try (conv => whnf)); (repeat ((fail_if_success (with_reducible refine And.intro ?_ ?_)); (fail_if_success (with_reducible refine Exists.intro ?_ ?_)); (first | (apply Ob.of; (first | with_reducible assumption | with_reducible exact ex20 _ _ | with_reducible exact ex21 _ _ | with_reducible exact ex30 _ _ _ | with_reducible exact ex31 _ _ _ | with_reducible exact ex32 _ _ _ | rfl | (exact ald rfl rfl (by assumption) rfl) | (exact ald_agg rfl rfl rfl (by assumption) rfl)); (conv => whnf)) | (apply bIf.yes; (first | assumption | rfl); (conv => whnf)) | (apply bIf.no; (first | assumption | rfl); (conv => whnf)) | ((with_reducible refine Ob.load (by with_unfolding_all assumption) ?_); (conv => whnf)) | (apply Grows.mk; (first | exact Grow.refl _ | assumption); (conv => whnf)))))
      rfl
    (try (conv => whnf)); (repeat ((fail_if_success (with_reducible refine And.intro ?_ ?_)); (fail_if_success (with_reducible refine Exists.intro ?_ ?_)); (first | (apply Ob.of; (first | with_reducible assumption | with_reducible exact ex20 _ _ | with_reducible exact ex21 _ _ | with_reducible exact ex30 _ _ _ | with_reducible exact ex31 _ _ _ | with_reducible exact ex32 _ _ _ | rfl | (exact ald rfl rfl (by assumption) rfl) | (exact ald_agg rfl rfl rfl (by assumption) rfl)); (conv => whnf)) | (apply bIf.yes; (first | assumption | rfl); (conv => whnf)) | (apply bIf.no; (first | assumption | rfl); (conv => whnf)) | ((with_reducible refine Ob.load (by with_unfolding_all assumption) ?_); (conv => whnf)) | (apply Grows.mk; (first | exact Grow.refl _ | assumption); (conv => whnf)))))
    refine SW.loop (α := Nat) (fun m => [(1, .pointer (some ⟨q1, 0, none⟩)), (3, .int .i64 (m : Int))]) (fun m H' => m ≤ x0.2.2.length ∧ Grow H1 H') (fun m => x0.2.2.length - m) ⟨0, ⟨rfl, rfl, trivial⟩, by omega, .refl _⟩ ?_
    rintro m H2 ⟨hm, g2⟩
    refine bC_sound _ _ _ _ ?_
    have b2 := g2.hblk b1
    have g12 := g1.trans g2
    have lp2 := lp H2 g2
    have l2 : alen Try.prog 23 cs H2 = some (.int .i64 x0.2.2.length) := hcs.len rfl _
    by_cases hml : m < x0.2.2.length
    rotate_left
    · have d2 : decide ((m : Int) < (x0.2.2.length : Int)) = false := decide_eq_false (by omega)
      (try (conv => whnf)); (repeat ((fail_if_success (with_reducible refine And.intro ?_ ?_)); (fail_if_success (with_reducible refine Exists.intro ?_ ?_)); (first | (apply Ob.of; (first | with_reducible assumption | with_reducible exact ex20 _ _ | with_reducible exact ex21 _ _ | with_reducible exact ex30 _ _ _ | with_reducible exact ex31 _ _ _ | with_reducible exact ex32 _ _ _ | rfl | (exact ald rfl rfl (by assumption) rfl) | (exact ald_agg rfl rfl rfl (by assumption) rfl)); (conv => whnf)) | (apply bIf.yes; (first | assumption | rfl); (conv => whnf)) | (apply bIf.no; (first | assumption | rfl); (conv => whnf)) | ((with_reducible refine Ob.load (by with_unfolding_all assumption) ?_); (conv => whnf)) | (apply Grows.mk; (first | exact Grow.refl _ | assumption); (conv => whnf)))))
      refine (worksL_ax H2).mono ?_
      rintro _ X rfl
      (try (conv => whnf)); (repeat ((fail_if_success (with_reducible refine And.intro ?_ ?_)); (fail_if_success (with_reducible refine Exists.intro ?_ ?_)); (first | (apply Ob.of; (first | with_reducible assumption | with_reducible exact ex20 _ _ | with_reducible exact ex21 _ _ | with_reducible exact ex30 _ _ _ | with_reducible exact ex31 _ _ _ | with_reducible exact ex32 _ _ _ | rfl | (exact ald rfl rfl (by assumption) rfl) | (exact ald_agg rfl rfl rfl (by assumption) rfl)); (conv => whnf)) | (apply bIf.yes; (first | assumption | rfl); (conv => whnf)) | (apply bIf.no; (first | assumption | rfl); (conv => whnf)) | ((with_reducible refine Ob.load (by with_unfolding_all assumption) ?_); (conv => whnf)) | (apply Grows.mk; (first | exact Grow.refl _ | assumption); (conv => whnf)))))
      rfl
    have d2 : decide ((m : Int) < (x0.2.2.length : Int)) = true := decide_eq_true (by omega)
    (try (conv => whnf)); (repeat ((fail_if_success (with_reducible refine And.intro ?_ ?_)); (fail_if_success (with_reducible refine Exists.intro ?_ ?_)); (first | (apply Ob.of; (first | with_reducible assumption | with_reducible exact ex20 _ _ | with_reducible exact ex21 _ _ | with_reducible exact ex30 _ _ _ | with_reducible exact ex31 _ _ _ | with_reducible exact ex32 _ _ _ | rfl | (exact ald rfl rfl (by assumption) rfl) | (exact ald_agg rfl rfl rfl (by assumption) rfl)); (conv => whnf)) | (apply bIf.yes; (first | assumption | rfl); (conv => whnf)) | (apply bIf.no; (first | assumption | rfl); (conv => whnf)) | ((with_reducible refine Ob.load (by with_unfolding_all assumption) ?_); (conv => whnf)) | (apply Grows.mk; (first | exact Grow.refl _ | assumption); (conv => whnf)))))
    refine (Lift_ax (strR.grow hp g12) (codeR.grow hcs g12) hL _).mono ?_
    rintro _ H3 ⟨⟨bv, F, R, s, e, rfl, ⟨cv, ov, pb, rfl, hc, ho⟩, hs⟩, g3⟩
    have hsm := hs.small hf
    rcases hs with ⟨c, L, hfit, hci, hcl, rfl, rfl, rfl, rfl⟩ | ⟨hfit, _⟩
    rotate_left
    · exact absurd ⟨by omega, by omega, hck⟩ hfit
    rw [Int.toNat_natCast] at hci
    obtain ⟨ca, cn, ck, rfl⟩ : ∃ a n k, cv = .slice a n k := by rcases hc with ⟨h, _⟩ | ⟨b, h, _⟩ <;> exact ⟨_, _, _, h⟩
    obtain ⟨oa, on, ok, rfl⟩ : ∃ a n k, ov = .slice a n k := by rcases ho with ⟨h, _⟩ | ⟨b, h, _⟩ <;> exact ⟨_, _, _, h⟩
    (try (conv => whnf)); (repeat ((fail_if_success (with_reducible refine And.intro ?_ ?_)); (fail_if_success (with_reducible refine Exists.intro ?_ ?_)); (first | (apply Ob.of; (first | with_reducible assumption | with_reducible exact ex20 _ _ | with_reducible exact ex21 _ _ | with_reducible exact ex30 _ _ _ | with_reducible exact ex31 _ _ _ | with_reducible exact ex32 _ _ _ | rfl | (exact ald rfl rfl (by assumption) rfl) | (exact ald_agg rfl rfl rfl (by assumption) rfl)); (conv => whnf)) | (apply bIf.yes; (first | assumption | rfl); (conv => whnf)) | (apply bIf.no; (first | assumption | rfl); (conv => whnf)) | ((with_reducible refine Ob.load (by with_unfolding_all assumption) ?_); (conv => whnf)) | (apply Grows.mk; (first | exact Grow.refl _ | assumption); (conv => whnf)))))
    refine Ob2.alloc rfl fun q4 H4 hq4 a4 g4 => ?_
    (try (conv => whnf)); (repeat ((fail_if_success (with_reducible refine And.intro ?_ ?_)); (fail_if_success (with_reducible refine Exists.intro ?_ ?_)); (first | (apply Ob.of; (first | with_reducible assumption | with_reducible exact ex20 _ _ | with_reducible exact ex21 _ _ | with_reducible exact ex30 _ _ _ | with_reducible exact ex31 _ _ _ | with_reducible exact ex32 _ _ _ | rfl | (exact ald rfl rfl (by assumption) rfl) | (exact ald_agg rfl rfl rfl (by assumption) rfl)); (conv => whnf)) | (apply bIf.yes; (first | assumption | rfl); (conv => whnf)) | (apply bIf.no; (first | assumption | rfl); (conv => whnf)) | ((with_reducible refine Ob.load (by with_unfolding_all assumption) ?_); (conv => whnf)) | (apply Grows.mk; (first | exact Grow.refl _ | assumption); (conv => whnf)))))
    refine Ob.store rfl rfl rfl a4 rfl (by first | exact Nat.le_of_ble_eq_true rfl | simp) fun H5 s5 k5 l5 => ?_
    have g35 : Grow H3 H5 := g4.but_new k5 (by omega)
    have g25 := g3.trans g35
    have lp5 := lp H5 (g2.trans g25)
    (try (conv => whnf)); (repeat ((fail_if_success (with_reducible refine And.intro ?_ ?_)); (fail_if_success (with_reducible refine Exists.intro ?_ ?_)); (first | (apply Ob.of; (first | with_reducible assumption | with_reducible exact ex20 _ _ | with_reducible exact ex21 _ _ | with_reducible exact ex30 _ _ _ | with_reducible exact ex31 _ _ _ | with_reducible exact ex32 _ _ _ | rfl | (exact ald rfl rfl (by assumption) rfl) | (exact ald_agg rfl rfl rfl (by assumption) rfl)); (conv => whnf)) | (apply bIf.yes; (first | assumption | rfl); (conv => whnf)) | (apply bIf.no; (first | assumption | rfl); (conv => whnf)) | ((with_reducible refine Ob.load (by with_unfolding_all assumption) ?_); (conv => whnf)) | (apply Grows.mk; (first | exact Grow.refl _ | assumption); (conv => whnf)))))
    refine (rDepths_ax (strR.grow hp (g12.trans g25)) (codeR.grow hcs (g12.trans g25)) hL _).mono ?_
    rintro v H6 ⟨⟨L', hd, hv⟩, g6⟩
    obtain rfl : L = L' := DL.uniq (.inl ⟨c, by omega, by rw [Int.toNat_natCast]; exact hci, hck, hcl⟩) hd
    obtain ⟨va, vn, vk, rfl⟩ : ∃ a n k, v = .slice a n k := by rcases hv with ⟨h, _⟩ | ⟨b, h, _⟩ <;> exact ⟨_, _, _, h⟩
    have hLl : L.length = c.ins.length := hcl.inv.len
    have hcl4 : c.ins.length ≤ 400 := hf.2.2 c (List.mem_of_getElem? hci)
    have lo : ∀ X, alen Try.prog 29 (.slice oa on ok) X = some (.int .i64 (bodyL x0.2.1 c L).ops.length) := fun X => ho.len rfl _
    (try (conv => whnf)); (repeat ((fail_if_success (with_reducible refine And.intro ?_ ?_)); (fail_if_success (with_reducible refine Exists.intro ?_ ?_)); (first | (apply Ob.of; (first | with_reducible assumption | with_reducible exact ex20 _ _ | with_reducible exact ex21 _ _ | with_reducible exact ex30 _ _ _ | with_reducible exact ex31 _ _ _ | with_reducible exact ex32 _ _ _ | rfl | (exact ald rfl rfl (by assumption) rfl) | (exact ald_agg rfl rfl rfl (by assumption) rfl)); (conv => whnf)) | (apply bIf.yes; (first | assumption | rfl); (conv => whnf)) | (apply bIf.no; (first | assumption | rfl); (conv => whnf)) | ((with_reducible refine Ob.load (by with_unfolding_all assumption) ?_); (conv => whnf)) | (apply Grows.mk; (first | exact Grow.refl _ | assumption); (conv => whnf)))))
    refine SW.loop (α := Nat) (fun k => [(1, .pointer (some ⟨q1, 0, none⟩)), (3, .int .i64 (m : Int)), (4, .pointer (some ⟨q4, 0, none⟩)), (5, .int .i64 0), (6, .slice va vn vk), (7, .int .i64 (sumO ((bodyL x0.2.1 c L).ops.take k))), (8, .int .i64 0), (9, .int .i64 (k : Int))])
      (fun k X => k ≤ (bodyL x0.2.1 c L).ops.length ∧ Grow H6 X) (fun k => (bodyL x0.2.1 c L).ops.length - k) ⟨0, ⟨rfl, rfl, rfl, rfl, rfl, rfl, rfl, rfl, trivial⟩, by omega, .refl _⟩ ?_
    rintro k X1 ⟨hk, gX⟩
    refine bC_sound _ _ _ _ ?_
    have b5 := (g6.trans gX).hblk (hblk_of s5)
    have lo1 := lo X1
    by_cases hkl : k < (bodyL x0.2.1 c L).ops.length
    · have d5 : decide ((k : Int) < ((bodyL x0.2.1 c L).ops.length : Int)) = true := decide_eq_true (by omega)
      obtain ⟨o, hoo⟩ := get_lt hkl
      obtain ⟨b, i1, i2⟩ := ld_opF ho hoo
      obtain ⟨i3, i4⟩ := i2 X1 ((g35.trans g6).trans gX)
      have hst := sumO_take hoo
      have wk : IntKind.i64.wrap ((k : Int) + 1) = ((k + 1 : Nat) : Int) := w_succ (by omega)
      by_cases h1 : o.kind = 1
      · have e1 : (o.kind == 1) = true := beq_iff_eq.2 h1
        have e2 : IntKind.i64.wrap (sumO ((bodyL x0.2.1 c L).ops.take k) + o.a) = sumO ((bodyL x0.2.1 c L).ops.take (k + 1)) := by rw [hst]; unfold addO; rw [if_pos h1]
        (try (conv => whnf)); (repeat ((fail_if_success (with_reducible refine And.intro ?_ ?_)); (fail_if_success (with_reducible refine Exists.intro ?_ ?_)); (first | (apply Ob.of; (first | with_reducible assumption | with_reducible exact ex20 _ _ | with_reducible exact ex21 _ _ | with_reducible exact ex30 _ _ _ | with_reducible exact ex31 _ _ _ | with_reducible exact ex32 _ _ _ | rfl | (exact ald rfl rfl (by assumption) rfl) | (exact ald_agg rfl rfl rfl (by assumption) rfl)); (conv => whnf)) | (apply bIf.yes; (first | assumption | rfl); (conv => whnf)) | (apply bIf.no; (first | assumption | rfl); (conv => whnf)) | ((with_reducible refine Ob.load (by with_unfolding_all assumption) ?_); (conv => whnf)) | (apply Grows.mk; (first | exact Grow.refl _ | assumption); (conv => whnf)))))
        exact ⟨k + 1, ⟨rfl, rfl, rfl, rfl, rfl, congrArg (fun z => some (Value.int .i64 z)) e2, rfl, congrArg (fun z => some (Value.int .i64 z)) wk, trivial⟩, ⟨hkl, gX⟩, by show (bodyL x0.2.1 c L).ops.length - (k + 1) < (bodyL x0.2.1 c L).ops.length - k; omega⟩
      · have e1 : (o.kind == 1) = false := beq_eq_false_iff_ne.2 h1
        have e2 : sumO ((bodyL x0.2.1 c L).ops.take k) = sumO ((bodyL x0.2.1 c L).ops.take (k + 1)) := by rw [hst]; unfold addO; rw [if_neg h1]
        (try (conv => whnf)); (repeat ((fail_if_success (with_reducible refine And.intro ?_ ?_)); (fail_if_success (with_reducible refine Exists.intro ?_ ?_)); (first | (apply Ob.of; (first | with_reducible assumption | with_reducible exact ex20 _ _ | with_reducible exact ex21 _ _ | with_reducible exact ex30 _ _ _ | with_reducible exact ex31 _ _ _ | with_reducible exact ex32 _ _ _ | rfl | (exact ald rfl rfl (by assumption) rfl) | (exact ald_agg rfl rfl rfl (by assumption) rfl)); (conv => whnf)) | (apply bIf.yes; (first | assumption | rfl); (conv => whnf)) | (apply bIf.no; (first | assumption | rfl); (conv => whnf)) | ((with_reducible refine Ob.load (by with_unfolding_all assumption) ?_); (conv => whnf)) | (apply Grows.mk; (first | exact Grow.refl _ | assumption); (conv => whnf)))))
        exact ⟨k + 1, ⟨rfl, rfl, rfl, rfl, rfl, congrArg (fun z => some (Value.int .i64 z)) e2, rfl, congrArg (fun z => some (Value.int .i64 z)) wk, trivial⟩, ⟨hkl, gX⟩, by show (bodyL x0.2.1 c L).ops.length - (k + 1) < (bodyL x0.2.1 c L).ops.length - k; omega⟩
    have d5 : decide ((k : Int) < ((bodyL x0.2.1 c L).ops.length : Int)) = false := decide_eq_false (by omega)
    rw [List.take_of_length_le (by omega), sum_body]
    (try (conv => whnf)); (repeat ((fail_if_success (with_reducible refine And.intro ?_ ?_)); (fail_if_success (with_reducible refine Exists.intro ?_ ?_)); (first | (apply Ob.of; (first | with_reducible assumption | with_reducible exact ex20 _ _ | with_reducible exact ex21 _ _ | with_reducible exact ex30 _ _ _ | with_reducible exact ex31 _ _ _ | with_reducible exact ex32 _ _ _ | rfl | (exact ald rfl rfl (by assumption) rfl) | (exact ald_agg rfl rfl rfl (by assumption) rfl)); (conv => whnf)) | (apply bIf.yes; (first | assumption | rfl); (conv => whnf)) | (apply bIf.no; (first | assumption | rfl); (conv => whnf)) | ((with_reducible refine Ob.load (by with_unfolding_all assumption) ?_); (conv => whnf)) | (apply Grows.mk; (first | exact Grow.refl _ | assumption); (conv => whnf)))))
    refine SW.loop (α := Nat) (fun j => [(1, .pointer (some ⟨q1, 0, none⟩)), (3, .int .i64 (m : Int)), (5, .int .i64 0), (6, .slice va vn vk), (7, .int .i64 (sumI c L c.ins.length)), (8, .int .i64 (sumI c L j)), (10, .int .i64 (j : Int))])
      (fun j X => j ≤ c.ins.length ∧ Grow H6 X) (fun j => c.ins.length - j) ⟨0, ⟨rfl, rfl, rfl, rfl, rfl, rfl, rfl, trivial⟩, by omega, gX⟩ ?_
    rintro j X2 ⟨hj, gX2⟩
    refine bC_sound _ _ _ _ ?_
    have ld : alen Try.prog 36 (.slice va vn vk) X2 = some (.int .i64 L.length) := hv.len rfl _
    rw [hLl] at ld
    have g62 := ((g2.trans g25).trans g6).trans gX2
    have b6 := g62.hblk b1
    by_cases hjl : j < c.ins.length
    · have d6 : decide ((j : Int) < (c.ins.length : Int)) = true := decide_eq_true (by omega)
      obtain ⟨x, hx⟩ := get_lt hjl
      obtain ⟨d, hdd⟩ := get_lt (L := L) (m := j) (by omega)
      obtain ⟨z, z1, z2⟩ := ld_int hv hdd
      have z3 := z2 X2 gX2
      obtain ⟨bc, u, y1, y2, y3⟩ := ld_codeF hcs hci
      have y4 := y3 X2 (g1.trans g62)
      obtain ⟨bi, t1, t2⟩ := ld_insF y2 hx
      obtain ⟨t3, t4⟩ := t2 X2 (g1.trans g62)
      have wj : IntKind.i64.wrap ((j : Int) + 1) = ((j + 1 : Nat) : Int) := w_succ (by omega)
      have hst : sumI c L (j + 1) = if 0 ≤ d ∧ x.1 = 1 then IntKind.i64.wrap (sumI c L j + x.2.1) else sumI c L j := by rw [sumI, hx, hdd]
      by_cases hd0 : 0 ≤ d
      · have d7 : decide (d ≥ 0) = true := decide_eq_true hd0
        by_cases h1 : x.1 = 1
        · have e1 : (x.1 == 1) = true := beq_iff_eq.2 h1
          rw [if_pos ⟨hd0, h1⟩] at hst
          (try (conv => whnf)); (repeat ((fail_if_success (with_reducible refine And.intro ?_ ?_)); (fail_if_success (with_reducible refine Exists.intro ?_ ?_)); (first | (apply Ob.of; (first | with_reducible assumption | with_reducible exact ex20 _ _ | with_reducible exact ex21 _ _ | with_reducible exact ex30 _ _ _ | with_reducible exact ex31 _ _ _ | with_reducible exact ex32 _ _ _ | rfl | (exact ald rfl rfl (by assumption) rfl) | (exact ald_agg rfl rfl rfl (by assumption) rfl)); (conv => whnf)) | (apply bIf.yes; (first | assumption | rfl); (conv => whnf)) | (apply bIf.no; (first | assumption | rfl); (conv => whnf)) | ((with_reducible refine Ob.load (by with_unfolding_all assumption) ?_); (conv => whnf)) | (apply Grows.mk; (first | exact Grow.refl _ | assumption); (conv => whnf)))))
          exact ⟨j + 1, ⟨rfl, rfl, rfl, rfl, rfl, congrArg (fun z => some (Value.int .i64 z)) hst.symm, congrArg (fun z => some (Value.int .i64 z)) wj, trivial⟩, ⟨hjl, gX2⟩, by show c.ins.length - (j + 1) < c.ins.length - j; omega⟩
        · have e1 : (x.1 == 1) = false := beq_eq_false_iff_ne.2 h1
          rw [if_neg (by omega)] at hst
          (try (conv => whnf)); (repeat ((fail_if_success (with_reducible refine And.intro ?_ ?_)); (fail_if_success (with_reducible refine Exists.intro ?_ ?_)); (first | (apply Ob.of; (first | with_reducible assumption | with_reducible exact ex20 _ _ | with_reducible exact ex21 _ _ | with_reducible exact ex30 _ _ _ | with_reducible exact ex31 _ _ _ | with_reducible exact ex32 _ _ _ | rfl | (exact ald rfl rfl (by assumption) rfl) | (exact ald_agg rfl rfl rfl (by assumption) rfl)); (conv => whnf)) | (apply bIf.yes; (first | assumption | rfl); (conv => whnf)) | (apply bIf.no; (first | assumption | rfl); (conv => whnf)) | ((with_reducible refine Ob.load (by with_unfolding_all assumption) ?_); (conv => whnf)) | (apply Grows.mk; (first | exact Grow.refl _ | assumption); (conv => whnf)))))
          exact ⟨j + 1, ⟨rfl, rfl, rfl, rfl, rfl, congrArg (fun z => some (Value.int .i64 z)) hst.symm, congrArg (fun z => some (Value.int .i64 z)) wj, trivial⟩, ⟨hjl, gX2⟩, by show c.ins.length - (j + 1) < c.ins.length - j; omega⟩
      · have d7 : decide (d ≥ 0) = false := decide_eq_false hd0
        rw [if_neg (by omega)] at hst
        (try (conv => whnf)); (repeat ((fail_if_success (with_reducible refine And.intro ?_ ?_)); (fail_if_success (with_reducible refine Exists.intro ?_ ?_)); (first | (apply Ob.of; (first | with_reducible assumption | with_reducible exact ex20 _ _ | with_reducible exact ex21 _ _ | with_reducible exact ex30 _ _ _ | with_reducible exact ex31 _ _ _ | with_reducible exact ex32 _ _ _ | rfl | (exact ald rfl rfl (by assumption) rfl) | (exact ald_agg rfl rfl rfl (by assumption) rfl)); (conv => whnf)) | (apply bIf.yes; (first | assumption | rfl); (conv => whnf)) | (apply bIf.no; (first | assumption | rfl); (conv => whnf)) | ((with_reducible refine Ob.load (by with_unfolding_all assumption) ?_); (conv => whnf)) | (apply Grows.mk; (first | exact Grow.refl _ | assumption); (conv => whnf)))))
        exact ⟨j + 1, ⟨rfl, rfl, rfl, rfl, rfl, congrArg (fun z => some (Value.int .i64 z)) hst.symm, congrArg (fun z => some (Value.int .i64 z)) wj, trivial⟩, ⟨hjl, gX2⟩, by show c.ins.length - (j + 1) < c.ins.length - j; omega⟩
    have d6 : decide ((j : Int) < (c.ins.length : Int)) = false := decide_eq_false (by omega)
    have hje : j = c.ins.length := by omega
    subst hje
    have eS : (sumI c L c.ins.length != sumI c L c.ins.length) = false := bne_self_eq_false _
    (try (conv => whnf)); (repeat ((fail_if_success (with_reducible refine And.intro ?_ ?_)); (fail_if_success (with_reducible refine Exists.intro ?_ ?_)); (first | (apply Ob.of; (first | with_reducible assumption | with_reducible exact ex20 _ _ | with_reducible exact ex21 _ _ | with_reducible exact ex30 _ _ _ | with_reducible exact ex31 _ _ _ | with_reducible exact ex32 _ _ _ | rfl | (exact ald rfl rfl (by assumption) rfl) | (exact ald_agg rfl rfl rfl (by assumption) rfl)); (conv => whnf)) | (apply bIf.yes; (first | assumption | rfl); (conv => whnf)) | (apply bIf.no; (first | assumption | rfl); (conv => whnf)) | ((with_reducible refine Ob.load (by with_unfolding_all assumption) ?_); (conv => whnf)) | (apply Grows.mk; (first | exact Grow.refl _ | assumption); (conv => whnf)))))
    exact ⟨m + 1, ⟨rfl, congrArg (fun z => some (Value.int .i64 z)) (w_succ (by have := hf.1; omega)), trivial⟩, ⟨hml, g62⟩, by show x0.2.2.length - (m + 1) < x0.2.2.length - m; omega⟩
end Go.Proofs.Ytdlanbfbbopfhaa
