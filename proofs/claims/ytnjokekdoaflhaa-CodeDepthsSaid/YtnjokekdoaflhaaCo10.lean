/- The document of package code: are two programs alike? -/
import Derived.Test.YtnjokekdoaflhaaCo9
import Derived.Test.YtnjokekdoaflhaaAx24
set_option linter.unusedVariables false
set_option linter.unusedSimpArgs false
set_option maxRecDepth 20000
set_option maxHeartbeats 8000000
namespace Go.Proofs.Ytnjokekdoaflhaa
open Go Ax
theorem rsame_ax {H : Heap} {p q : ProgT} {ps cs qs ds : Value} (h1 : RL 1 strR H ps p.2.1) (h2 : RL 5 codeR H cs p.2.2) (h3 : RL 1 strR H qs q.2.1) (h4 : RL 5 codeR H ds q.2.2) (hs : Small p) :
    AX Try.prog 19 #[progV p ps cs, progV q qs ds] H (fun r H' => r = .bool (decide (p = q)) ∧ H' = H) := by
  refine AX.quiet ?_
  suffices hh : AX Try.prog 19 #[progV p ps cs, progV q qs ds] H (fun r H' => r = .bool (decide (p = q)) ∧ Grow H H') from hh.mono fun v _ ⟨e, g⟩ => ⟨e ▸ plain_bool _, e, g⟩
  refine AX.body (n := 121) (rs := [.tmp 4]) Try.func19 rfl (by decide) rfl rfl (bC_sound _ _ _ _ ?_)
  (conv => whnf)
  refine Ob2.box rfl fun q1 H1 hq1 a1 g1 => ?_
  (conv => whnf)
  refine Ob2.box rfl fun q2 H2 hq2 a2 g2 => ?_
  have b1 := hblk_of (g2.at a1)
  have b2 := hblk_of a2
  have g : Grow H H2 := g1.trans g2
  have l1 : alen Try.prog 34 ps H2 = some (.int .i64 p.2.1.length) := h1.len rfl _
  have l2 : alen Try.prog 34 qs H2 = some (.int .i64 q.2.1.length) := h3.len rfl _
  have l3 : alen Try.prog 35 cs H2 = some (.int .i64 p.2.2.length) := h2.len rfl _
  have l4 : alen Try.prog 35 ds H2 = some (.int .i64 q.2.2.length) := h4.len rfl _
  clear a1 a2
  (try (conv => whnf)); (repeat' ((fail_if_success (with_reducible refine And.intro ?_ ?_)); (fail_if_success (with_reducible refine Exists.intro ?_ ?_)); (first | (first | (apply Ob.of; (first | with_reducible assumption | with_reducible exact ex20 _ _ | with_reducible exact ex21 _ _ | with_reducible exact ex30 _ _ _ | with_reducible exact ex31 _ _ _ | with_reducible exact ex32 _ _ _ | rfl | (exact ald rfl rfl (by assumption) rfl) | (exact ald_agg rfl rfl rfl (by assumption) rfl)); (conv => whnf)) | (apply bIf.yes; (first | assumption | rfl); (conv => whnf)) | (apply bIf.no; (first | assumption | rfl); (conv => whnf)) | ((with_reducible refine Ob.load (by with_unfolding_all assumption) ?_); (conv => whnf)) | (apply Grows.mk; (first | exact Grow.refl _ | assumption); (conv => whnf))) | (apply bIf.of <;> intro hc <;> (conv => whnf)))))
  rotate_right
  all_goals try (refine ⟨congrArg Value.bool (decide_eq_false fun h => ?_).symm, g⟩; subst h; simp at *; done)
  have hG : p.1 = q.1 := by (simp only [ba_ne_t, ba_ne_f, ba_eq_t, ba_eq_f, bne_iff_ne, bne_eq_false_iff_eq, decide_eq_true_eq, decide_eq_false_iff_not, beq_iff_eq, beq_eq_false_iff_ne, ne_eq, Bool.not_eq_true, Bool.not_eq_false, Bool.not_eq_true', Bool.not_eq_false'] at *); omega
  have hlen : p.2.1.length = q.2.1.length := by (simp only [ba_ne_t, ba_ne_f, ba_eq_t, ba_eq_f, bne_iff_ne, bne_eq_false_iff_eq, decide_eq_true_eq, decide_eq_false_iff_not, beq_iff_eq, beq_eq_false_iff_ne, ne_eq, Bool.not_eq_true, Bool.not_eq_false, Bool.not_eq_true', Bool.not_eq_false'] at *); omega
  have hlen2 : p.2.2.length = q.2.2.length := by (simp only [ba_ne_t, ba_ne_f, ba_eq_t, ba_eq_f, bne_iff_ne, bne_eq_false_iff_eq, decide_eq_true_eq, decide_eq_false_iff_not, beq_iff_eq, beq_eq_false_iff_ne, ne_eq, Bool.not_eq_true, Bool.not_eq_false, Bool.not_eq_true', Bool.not_eq_false'] at *); omega
  clear hc
  refine SW.loop (α := Nat) (fun m => [(2, .pointer (some ⟨q1, 0, none⟩)), (3, .pointer (some ⟨q2, 0, none⟩)), (5, .int .i64 (m : Int))]) (fun m H' => m ≤ p.2.1.length ∧ p.2.1.take m = q.2.1.take m ∧ H' = H2) (fun m => p.2.1.length - m) ⟨0, ⟨rfl, rfl, rfl, trivial⟩, by omega, rfl, rfl⟩ ?_
  rintro m X ⟨hm, ht, e⟩
  subst X
  refine bC_sound _ _ _ _ ?_
  by_cases hml : m < p.2.1.length
  · have d1 : decide ((m : Int) < (p.2.1.length : Int)) = true := decide_eq_true (by omega)
    obtain ⟨x, hx⟩ := get_lt hml
    obtain ⟨y, hy⟩ := get_lt (L := q.2.1) (m := m) (by omega)
    obtain ⟨u, i1, i2⟩ := ld_str h1 hx
    obtain ⟨v, j1, j2⟩ := ld_str h3 hy
    have i3 := i2 H2 g
    have j3 := j2 H2 g
    (try (conv => whnf)); (repeat ((fail_if_success (with_reducible refine And.intro ?_ ?_)); (fail_if_success (with_reducible refine Exists.intro ?_ ?_)); (first | (apply Ob.of; (first | with_reducible assumption | with_reducible exact ex20 _ _ | with_reducible exact ex21 _ _ | with_reducible exact ex30 _ _ _ | with_reducible exact ex31 _ _ _ | with_reducible exact ex32 _ _ _ | rfl | (exact ald rfl rfl (by assumption) rfl) | (exact ald_agg rfl rfl rfl (by assumption) rfl)); (conv => whnf)) | (apply bIf.yes; (first | assumption | rfl); (conv => whnf)) | (apply bIf.no; (first | assumption | rfl); (conv => whnf)) | ((with_reducible refine Ob.load (by with_unfolding_all assumption) ?_); (conv => whnf)) | (apply Grows.mk; (first | exact Grow.refl _ | assumption); (conv => whnf)))))
    apply SW.drawG [(0, [], [42, 45, 46, 47, 48, 49], false), (1, [(40, 0)], [40, 42, 45, 46, 47, 48, 49], false), (2, [], [40, 41, 45, 46, 47, 48, 49], false), (3, [(40, 0), (41, 1), (42, 2)], [40, 41, 42, 45, 46, 47, 48, 49], false), (4, [(40, 0), (41, 1), (42, 2), (43, 3)], [40, 41, 42, 43, 45, 46, 47, 48, 49], false), (5, [], [40, 41, 42, 43, 44, 47], false), (6, [(45, 5)], [40, 41, 42, 43, 44, 45, 47], false), (7, [], [40, 41, 42, 43, 44, 45, 46], false), (8, [(45, 5), (46, 6), (47, 7)], [40, 41, 42, 43, 44, 45, 46, 47], false), (9, [(45, 5), (46, 6), (47, 7), (48, 8)], [40, 41, 42, 43, 44, 45, 46, 47, 48], false), (10, [(40, 0), (41, 1), (42, 2), (43, 3), (44, 4), (45, 5), (46, 6), (47, 7), (48, 8), (49, 9)], [40, 41, 42, 43, 44, 45, 46, 47, 48, 49], false)]
      [(40, 0), (41, 1), (42, 2), (43, 3), (44, 4), (45, 5), (46, 6), (47, 7), (48, 8), (49, 9), (50, 10)]
      [(2, _), (3, _), (5, _)] rfl (by kernel_rfl)
    case hF => exact ⟨rfl, rfl, rfl, trivial⟩
    (try (conv => whnf)); (repeat' ((fail_if_success (with_reducible refine And.intro ?_ ?_)); (fail_if_success (with_reducible refine Exists.intro ?_ ?_)); (first | (first | (apply Ob.of; (first | with_reducible assumption | with_reducible exact ex20 _ _ | with_reducible exact ex21 _ _ | with_reducible exact ex30 _ _ _ | with_reducible exact ex31 _ _ _ | with_reducible exact ex32 _ _ _ | rfl | (exact ald rfl rfl (by assumption) rfl) | (exact ald_agg rfl rfl rfl (by assumption) rfl)); (conv => whnf)) | (apply bIf.yes; (first | assumption | rfl); (conv => whnf)) | (apply bIf.no; (first | assumption | rfl); (conv => whnf)) | ((with_reducible refine Ob.load (by with_unfolding_all assumption) ?_); (conv => whnf)) | (apply Grows.mk; (first | exact Grow.refl _ | assumption); (conv => whnf))) | (apply bIf.of <;> intro hc <;> (conv => whnf)))))
    · have hne := ba_ne_t.1 hc
      refine ⟨congrArg Value.bool (decide_eq_false fun h => hne ?_).symm, g⟩
      subst h
      rw [hx] at hy
      simpa using hy
    · have hxy : x = y := ba_ne_f.1 hc
      subst hxy
      exact ⟨m + 1, ⟨rfl, rfl, congrArg (fun z => some (Value.int .i64 z)) (w_succ (by have := hs.1; omega)), trivial⟩, ⟨hml, take_next ht hx hy, rfl⟩, by show p.2.1.length - (m + 1) < p.2.1.length - m; omega⟩
  have d1 : decide ((m : Int) < (p.2.1.length : Int)) = false := decide_eq_false (by omega)
  have hLM : p.2.1 = q.2.1 := by rwa [List.take_of_length_le (by omega), List.take_of_length_le (by omega)] at ht
  clear ht
  (try (conv => whnf)); (repeat ((fail_if_success (with_reducible refine And.intro ?_ ?_)); (fail_if_success (with_reducible refine Exists.intro ?_ ?_)); (first | (apply Ob.of; (first | with_reducible assumption | with_reducible exact ex20 _ _ | with_reducible exact ex21 _ _ | with_reducible exact ex30 _ _ _ | with_reducible exact ex31 _ _ _ | with_reducible exact ex32 _ _ _ | rfl | (exact ald rfl rfl (by assumption) rfl) | (exact ald_agg rfl rfl rfl (by assumption) rfl)); (conv => whnf)) | (apply bIf.yes; (first | assumption | rfl); (conv => whnf)) | (apply bIf.no; (first | assumption | rfl); (conv => whnf)) | ((with_reducible refine Ob.load (by with_unfolding_all assumption) ?_); (conv => whnf)) | (apply Grows.mk; (first | exact Grow.refl _ | assumption); (conv => whnf)))))
  refine SW.loop (α := Nat) (fun m => [(2, .pointer (some ⟨q1, 0, none⟩)), (3, .pointer (some ⟨q2, 0, none⟩)), (6, .int .i64 (m : Int))]) (fun m H' => m ≤ p.2.2.length ∧ p.2.2.take m = q.2.2.take m ∧ Grow H2 H') (fun m => p.2.2.length - m) ⟨0, ⟨rfl, rfl, rfl, trivial⟩, by omega, rfl, .refl _⟩ ?_
  clear d1 hm hml m
  rintro m H3 ⟨hm, ht, g3⟩
  refine bC_sound _ _ _ _ ?_
  have c1 := g3.hblk b1
  have c2 := g3.hblk b2
  have gg := g.trans g3
  have l3 : alen Try.prog 35 cs H3 = some (.int .i64 p.2.2.length) := h2.len rfl _
  by_cases hml : m < p.2.2.length
  · have d1 : decide ((m : Int) < (p.2.2.length : Int)) = true := decide_eq_true (by omega)
    obtain ⟨x, hx⟩ := get_lt hml
    obtain ⟨y, hy⟩ := get_lt (L := q.2.2) (m := m) (by omega)
    obtain ⟨u, su, i1, i4, i2⟩ := ld_code h2 hx
    obtain ⟨v, sv, j1, j4, j2⟩ := ld_code h4 hy
    have hxl := hs.2.2 x (List.mem_of_getElem? hx)
    (try (conv => whnf)); (repeat ((fail_if_success (with_reducible refine And.intro ?_ ?_)); (fail_if_success (with_reducible refine Exists.intro ?_ ?_)); (first | (apply Ob.of; (first | with_reducible assumption | with_reducible exact ex20 _ _ | with_reducible exact ex21 _ _ | with_reducible exact ex30 _ _ _ | with_reducible exact ex31 _ _ _ | with_reducible exact ex32 _ _ _ | rfl | (exact ald rfl rfl (by assumption) rfl) | (exact ald_agg rfl rfl rfl (by assumption) rfl)); (conv => whnf)) | (apply bIf.yes; (first | assumption | rfl); (conv => whnf)) | (apply bIf.no; (first | assumption | rfl); (conv => whnf)) | ((with_reducible refine Ob.load (by with_unfolding_all assumption) ?_); (conv => whnf)) | (apply Grows.mk; (first | exact Grow.refl _ | assumption); (conv => whnf)))))
    have hlx : alen Try.prog 22 su H3 = some (.int .i64 x.ins.length) := i4.len rfl _
    refine SW.sub (F := [(2, _), (3, _), (6, _)]) ?_ (Sub.of ⟨rfl, rfl, rfl, trivial⟩)
    refine SW.drawS (R2 10 [.pointer (some ⟨q1, 2, none⟩), cs, .int .i64 (m : Int), u, codeV x su, .pointer (some ⟨q2, 2, none⟩), ds, .int .i64 (m : Int), v, codeV y sv] H3 [.int .i64 0, .int .i64 0, .int .i64 0, .int .i64 0, .slice none 0 0] [.int .i64 0, .int .i64 0, .int .i64 0, .int .i64 0, .slice none 0 0] [.int .i64 x.1, .int .i64 x.2.1, .int .i64 x.2.2.1, .int .i64 x.2.2.2.1, su] [.int .i64 y.1, .int .i64 y.2.1, .int .i64 y.2.2.1, .int .i64 y.2.2.2.1, sv]) rfl (by kernel_rfl) (R2.init ..) ?_ ?_
    · intro i o L V K ho hl hah hbh hR
      have hk := hR.grow
      have c1 := hk.hblk c1
      have c2 := hk.hblk c2
      have i3 := i2 K (gg.trans hk)
      have j3 := j2 K (gg.trans hk)
      match i, ho, hl, hah, hbh with
      | 0, ho, hl, hah, hbh =>
        obtain rfl := Option.some.inj ho
        rw [envOf_eq, show pairsOf _ _ 0 = [] from by kernel_rfl, show exOf _ _ 0 = [60, 63, 64, 65, 66, 67, 7, 8] from by kernel_rfl]
        try simp only [valsOf]
        (try (conv => whnf)); (repeat ((fail_if_success (with_reducible refine And.intro ?_ ?_)); (fail_if_success (with_reducible refine Exists.intro ?_ ?_)); (first | (apply Ob.of; (first | with_reducible assumption | with_reducible exact ex20 _ _ | with_reducible exact ex21 _ _ | with_reducible exact ex30 _ _ _ | with_reducible exact ex31 _ _ _ | with_reducible exact ex32 _ _ _ | rfl | (exact ald rfl rfl (by assumption) rfl) | (exact ald_agg rfl rfl rfl (by assumption) rfl)); (conv => whnf)) | (apply bIf.yes; (first | assumption | rfl); (conv => whnf)) | (apply bIf.no; (first | assumption | rfl); (conv => whnf)) | ((with_reducible refine Ob.load (by with_unfolding_all assumption) ?_); (conv => whnf)) | (apply Grows.mk; (first | exact Grow.refl _ | assumption); (conv => whnf)))))
        exact hR.float hl (by decide) rfl
      | 1, ho, hl, hah, hbh =>
        obtain rfl := Option.some.inj ho
        have e0 : V.getD 0 undef = .pointer (some ⟨q1, 2, none⟩) := hR.val 0 (by decide) (hah 0 (by kernel_rfl))
        rw [envOf_eq, show pairsOf _ _ 1 = [(58, 0)] from by kernel_rfl, show exOf _ _ 1 = [58, 60, 63, 64, 65, 66, 67, 7, 8] from by kernel_rfl]
        try simp only [valsOf, e0]
        (try (conv => whnf)); (repeat ((fail_if_success (with_reducible refine And.intro ?_ ?_)); (fail_if_success (with_reducible refine Exists.intro ?_ ?_)); (first | (apply Ob.of; (first | with_reducible assumption | with_reducible exact ex20 _ _ | with_reducible exact ex21 _ _ | with_reducible exact ex30 _ _ _ | with_reducible exact ex31 _ _ _ | with_reducible exact ex32 _ _ _ | rfl | (exact ald rfl rfl (by assumption) rfl) | (exact ald_agg rfl rfl rfl (by assumption) rfl)); (conv => whnf)) | (apply bIf.yes; (first | assumption | rfl); (conv => whnf)) | (apply bIf.no; (first | assumption | rfl); (conv => whnf)) | ((with_reducible refine Ob.load (by with_unfolding_all assumption) ?_); (conv => whnf)) | (apply Grows.mk; (first | exact Grow.refl _ | assumption); (conv => whnf)))))
        exact hR.float hl (by decide) rfl
      | 2, ho, hl, hah, hbh =>
        obtain rfl := Option.some.inj ho
        rw [envOf_eq, show pairsOf _ _ 2 = [] from by kernel_rfl, show exOf _ _ 2 = [58, 59, 63, 64, 65, 66, 67, 7, 8] from by kernel_rfl]
        try simp only [valsOf]
        (try (conv => whnf)); (repeat ((fail_if_success (with_reducible refine And.intro ?_ ?_)); (fail_if_success (with_reducible refine Exists.intro ?_ ?_)); (first | (apply Ob.of; (first | with_reducible assumption | with_reducible exact ex20 _ _ | with_reducible exact ex21 _ _ | with_reducible exact ex30 _ _ _ | with_reducible exact ex31 _ _ _ | with_reducible exact ex32 _ _ _ | rfl | (exact ald rfl rfl (by assumption) rfl) | (exact ald_agg rfl rfl rfl (by assumption) rfl)); (conv => whnf)) | (apply bIf.yes; (first | assumption | rfl); (conv => whnf)) | (apply bIf.no; (first | assumption | rfl); (conv => whnf)) | ((with_reducible refine Ob.load (by with_unfolding_all assumption) ?_); (conv => whnf)) | (apply Grows.mk; (first | exact Grow.refl _ | assumption); (conv => whnf)))))
        exact hR.float hl (by decide) rfl
      | 3, ho, hl, hah, hbh =>
        obtain rfl := Option.some.inj ho
        have e0 : V.getD 0 undef = .pointer (some ⟨q1, 2, none⟩) := hR.val 0 (by decide) (hah 0 (by kernel_rfl))
        have e1 : V.getD 1 undef = cs := hR.val 1 (by decide) (hah 1 (by kernel_rfl))
        have e2 : V.getD 2 undef = .int .i64 (m : Int) := hR.val 2 (by decide) (hah 2 (by kernel_rfl))
        rw [envOf_eq, show pairsOf _ _ 3 = [(58, 0), (59, 1), (60, 2)] from by kernel_rfl, show exOf _ _ 3 = [58, 59, 60, 63, 64, 65, 66, 67, 7, 8] from by kernel_rfl]
        try simp only [valsOf, e0, e1, e2]
        (try (conv => whnf)); (repeat ((fail_if_success (with_reducible refine And.intro ?_ ?_)); (fail_if_success (with_reducible refine Exists.intro ?_ ?_)); (first | (apply Ob.of; (first | with_reducible assumption | with_reducible exact ex20 _ _ | with_reducible exact ex21 _ _ | with_reducible exact ex30 _ _ _ | with_reducible exact ex31 _ _ _ | with_reducible exact ex32 _ _ _ | rfl | (exact ald rfl rfl (by assumption) rfl) | (exact ald_agg rfl rfl rfl (by assumption) rfl)); (conv => whnf)) | (apply bIf.yes; (first | assumption | rfl); (conv => whnf)) | (apply bIf.no; (first | assumption | rfl); (conv => whnf)) | ((with_reducible refine Ob.load (by with_unfolding_all assumption) ?_); (conv => whnf)) | (apply Grows.mk; (first | exact Grow.refl _ | assumption); (conv => whnf)))))
        exact hR.float hl (by decide) rfl
      | 4, ho, hl, hah, hbh =>
        obtain rfl := Option.some.inj ho
        have e0 : V.getD 0 undef = .pointer (some ⟨q1, 2, none⟩) := hR.val 0 (by decide) (hah 0 (by kernel_rfl))
        have e1 : V.getD 1 undef = cs := hR.val 1 (by decide) (hah 1 (by kernel_rfl))
        have e2 : V.getD 2 undef = .int .i64 (m : Int) := hR.val 2 (by decide) (hah 2 (by kernel_rfl))
        have e3 : V.getD 3 undef = u := hR.val 3 (by decide) (hah 3 (by kernel_rfl))
        rw [envOf_eq, show pairsOf _ _ 4 = [(58, 0), (59, 1), (60, 2), (61, 3)] from by kernel_rfl, show exOf _ _ 4 = [58, 59, 60, 61, 63, 64, 65, 66, 67, 7, 8] from by kernel_rfl]
        try simp only [valsOf, e0, e1, e2, e3]
        (try (conv => whnf)); (repeat ((fail_if_success (with_reducible refine And.intro ?_ ?_)); (fail_if_success (with_reducible refine Exists.intro ?_ ?_)); (first | (apply Ob.of; (first | with_reducible assumption | with_reducible exact ex20 _ _ | with_reducible exact ex21 _ _ | with_reducible exact ex30 _ _ _ | with_reducible exact ex31 _ _ _ | with_reducible exact ex32 _ _ _ | rfl | (exact ald rfl rfl (by assumption) rfl) | (exact ald_agg rfl rfl rfl (by assumption) rfl)); (conv => whnf)) | (apply bIf.yes; (first | assumption | rfl); (conv => whnf)) | (apply bIf.no; (first | assumption | rfl); (conv => whnf)) | ((with_reducible refine Ob.load (by with_unfolding_all assumption) ?_); (conv => whnf)) | (apply Grows.mk; (first | exact Grow.refl _ | assumption); (conv => whnf)))))
        exact hR.float hl (by decide) rfl
      | 5, ho, hl, hah, hbh =>
        obtain rfl := Option.some.inj ho
        rw [envOf_eq, show pairsOf _ _ 5 = [] from by kernel_rfl, show exOf _ _ 5 = [58, 59, 60, 61, 62, 65, 7, 8] from by kernel_rfl]
        try simp only [valsOf]
        (try (conv => whnf)); (repeat ((fail_if_success (with_reducible refine And.intro ?_ ?_)); (fail_if_success (with_reducible refine Exists.intro ?_ ?_)); (first | (apply Ob.of; (first | with_reducible assumption | with_reducible exact ex20 _ _ | with_reducible exact ex21 _ _ | with_reducible exact ex30 _ _ _ | with_reducible exact ex31 _ _ _ | with_reducible exact ex32 _ _ _ | rfl | (exact ald rfl rfl (by assumption) rfl) | (exact ald_agg rfl rfl rfl (by assumption) rfl)); (conv => whnf)) | (apply bIf.yes; (first | assumption | rfl); (conv => whnf)) | (apply bIf.no; (first | assumption | rfl); (conv => whnf)) | ((with_reducible refine Ob.load (by with_unfolding_all assumption) ?_); (conv => whnf)) | (apply Grows.mk; (first | exact Grow.refl _ | assumption); (conv => whnf)))))
        exact hR.float hl (by decide) rfl
      | 6, ho, hl, hah, hbh =>
        obtain rfl := Option.some.inj ho
        have e5 : V.getD 5 undef = .pointer (some ⟨q2, 2, none⟩) := hR.val 5 (by decide) (hah 5 (by kernel_rfl))
        rw [envOf_eq, show pairsOf _ _ 6 = [(63, 5)] from by kernel_rfl, show exOf _ _ 6 = [58, 59, 60, 61, 62, 63, 65, 7, 8] from by kernel_rfl]
        try simp only [valsOf, e5]
        (try (conv => whnf)); (repeat ((fail_if_success (with_reducible refine And.intro ?_ ?_)); (fail_if_success (with_reducible refine Exists.intro ?_ ?_)); (first | (apply Ob.of; (first | with_reducible assumption | with_reducible exact ex20 _ _ | with_reducible exact ex21 _ _ | with_reducible exact ex30 _ _ _ | with_reducible exact ex31 _ _ _ | with_reducible exact ex32 _ _ _ | rfl | (exact ald rfl rfl (by assumption) rfl) | (exact ald_agg rfl rfl rfl (by assumption) rfl)); (conv => whnf)) | (apply bIf.yes; (first | assumption | rfl); (conv => whnf)) | (apply bIf.no; (first | assumption | rfl); (conv => whnf)) | ((with_reducible refine Ob.load (by with_unfolding_all assumption) ?_); (conv => whnf)) | (apply Grows.mk; (first | exact Grow.refl _ | assumption); (conv => whnf)))))
        exact hR.float hl (by decide) rfl
      | 7, ho, hl, hah, hbh =>
        obtain rfl := Option.some.inj ho
        rw [envOf_eq, show pairsOf _ _ 7 = [] from by kernel_rfl, show exOf _ _ 7 = [58, 59, 60, 61, 62, 63, 64, 7, 8] from by kernel_rfl]
        try simp only [valsOf]
        (try (conv => whnf)); (repeat ((fail_if_success (with_reducible refine And.intro ?_ ?_)); (fail_if_success (with_reducible refine Exists.intro ?_ ?_)); (first | (apply Ob.of; (first | with_reducible assumption | with_reducible exact ex20 _ _ | with_reducible exact ex21 _ _ | with_reducible exact ex30 _ _ _ | with_reducible exact ex31 _ _ _ | with_reducible exact ex32 _ _ _ | rfl | (exact ald rfl rfl (by assumption) rfl) | (exact ald_agg rfl rfl rfl (by assumption) rfl)); (conv => whnf)) | (apply bIf.yes; (first | assumption | rfl); (conv => whnf)) | (apply bIf.no; (first | assumption | rfl); (conv => whnf)) | ((with_reducible refine Ob.load (by with_unfolding_all assumption) ?_); (conv => whnf)) | (apply Grows.mk; (first | exact Grow.refl _ | assumption); (conv => whnf)))))
        exact hR.float hl (by decide) rfl
      | 8, ho, hl, hah, hbh =>
        obtain rfl := Option.some.inj ho
        have e5 : V.getD 5 undef = .pointer (some ⟨q2, 2, none⟩) := hR.val 5 (by decide) (hah 5 (by kernel_rfl))
        have e6 : V.getD 6 undef = ds := hR.val 6 (by decide) (hah 6 (by kernel_rfl))
        have e7 : V.getD 7 undef = .int .i64 (m : Int) := hR.val 7 (by decide) (hah 7 (by kernel_rfl))
        rw [envOf_eq, show pairsOf _ _ 8 = [(63, 5), (64, 6), (65, 7)] from by kernel_rfl, show exOf _ _ 8 = [58, 59, 60, 61, 62, 63, 64, 65, 7, 8] from by kernel_rfl]
        try simp only [valsOf, e5, e6, e7]
        (try (conv => whnf)); (repeat ((fail_if_success (with_reducible refine And.intro ?_ ?_)); (fail_if_success (with_reducible refine Exists.intro ?_ ?_)); (first | (apply Ob.of; (first | with_reducible assumption | with_reducible exact ex20 _ _ | with_reducible exact ex21 _ _ | with_reducible exact ex30 _ _ _ | with_reducible exact ex31 _ _ _ | with_reducible exact ex32 _ _ _ | rfl | (exact ald rfl rfl (by assumption) rfl) | (exact ald_agg rfl rfl rfl (by assumption) rfl)); (conv => whnf)) | (apply bIf.yes; (first | assumption | rfl); (conv => whnf)) | (apply bIf.no; (first | assumption | rfl); (conv => whnf)) | ((with_reducible refine Ob.load (by with_unfolding_all assumption) ?_); (conv => whnf)) | (apply Grows.mk; (first | exact Grow.refl _ | assumption); (conv => whnf)))))
        exact hR.float hl (by decide) rfl
      | 9, ho, hl, hah, hbh =>
        obtain rfl := Option.some.inj ho
        have e5 : V.getD 5 undef = .pointer (some ⟨q2, 2, none⟩) := hR.val 5 (by decide) (hah 5 (by kernel_rfl))
        have e6 : V.getD 6 undef = ds := hR.val 6 (by decide) (hah 6 (by kernel_rfl))
        have e7 : V.getD 7 undef = .int .i64 (m : Int) := hR.val 7 (by decide) (hah 7 (by kernel_rfl))
        have e8 : V.getD 8 undef = v := hR.val 8 (by decide) (hah 8 (by kernel_rfl))
        rw [envOf_eq, show pairsOf _ _ 9 = [(63, 5), (64, 6), (65, 7), (66, 8)] from by kernel_rfl, show exOf _ _ 9 = [58, 59, 60, 61, 62, 63, 64, 65, 66, 7, 8] from by kernel_rfl]
        try simp only [valsOf, e5, e6, e7, e8]
        (try (conv => whnf)); (repeat ((fail_if_success (with_reducible refine And.intro ?_ ?_)); (fail_if_success (with_reducible refine Exists.intro ?_ ?_)); (first | (apply Ob.of; (first | with_reducible assumption | with_reducible exact ex20 _ _ | with_reducible exact ex21 _ _ | with_reducible exact ex30 _ _ _ | with_reducible exact ex31 _ _ _ | with_reducible exact ex32 _ _ _ | rfl | (exact ald rfl rfl (by assumption) rfl) | (exact ald_agg rfl rfl rfl (by assumption) rfl)); (conv => whnf)) | (apply bIf.yes; (first | assumption | rfl); (conv => whnf)) | (apply bIf.no; (first | assumption | rfl); (conv => whnf)) | ((with_reducible refine Ob.load (by with_unfolding_all assumption) ?_); (conv => whnf)) | (apply Grows.mk; (first | exact Grow.refl _ | assumption); (conv => whnf)))))
        exact hR.float hl (by decide) rfl
      | 10, ho, hl, hah, hbh =>
        obtain rfl := Option.some.inj ho
        rw [envOf_eq, show pairsOf _ _ 10 = [] from by kernel_rfl, show exOf _ _ 10 = [58, 59, 60, 61, 62, 63, 64, 65, 66, 67, 8] from by kernel_rfl]
        try simp only [valsOf]
        (conv => whnf)
        exact Ob2.of (b := K ++ [.cells .var [.int .i64 0, .int .i64 0, .int .i64 0, .int .i64 0, .slice none 0 0]]) rfl (hR.allocA rfl hl (hbh 12 (by decide) (by kernel_rfl)))
      | 11, ho, hl, hah, hbh =>
        obtain rfl := Option.some.inj ho
        rw [envOf_eq, show pairsOf _ _ 11 = [] from by kernel_rfl, show exOf _ _ 11 = [58, 59, 60, 61, 62, 63, 64, 65, 66, 67, 7] from by kernel_rfl]
        try simp only [valsOf]
        (conv => whnf)
        exact Ob2.of (b := K ++ [.cells .var [.int .i64 0, .int .i64 0, .int .i64 0, .int .i64 0, .slice none 0 0]]) rfl (hR.allocB rfl hl (hbh 13 (by decide) (by kernel_rfl)))
      | 12, ho, hl, hah, hbh =>
        obtain rfl := Option.some.inj ho
        have e0 : V.getD 0 undef = .pointer (some ⟨q1, 2, none⟩) := hR.val 0 (by decide) (hah 0 (by kernel_rfl))
        have e1 : V.getD 1 undef = cs := hR.val 1 (by decide) (hah 1 (by kernel_rfl))
        have e2 : V.getD 2 undef = .int .i64 (m : Int) := hR.val 2 (by decide) (hah 2 (by kernel_rfl))
        have e3 : V.getD 3 undef = u := hR.val 3 (by decide) (hah 3 (by kernel_rfl))
        have e4 : V.getD 4 undef = codeV x su := hR.val 4 (by decide) (hah 4 (by kernel_rfl))
        obtain ⟨a, a1, a2, a3⟩ := hR.fst (hah 10 (by kernel_rfl))
        obtain ⟨b, b1, b2, b3⟩ := hR.snd (hah 11 (by kernel_rfl))
        rw [envOf_eq, show pairsOf _ _ 12 = [(58, 0), (59, 1), (60, 2), (61, 3), (62, 4), (7, 10), (8, 11)] from by kernel_rfl, show exOf _ _ 12 = [58, 59, 60, 61, 62, 63, 64, 65, 66, 67, 7, 8] from by kernel_rfl]
        have b2 : V.getD 11 undef = .pointer (some ⟨b, 0, none⟩) := b2
        try simp only [valsOf, e0, e1, e2, e3, e4, a2, b2]
        rw [if_neg (by simp [hl])] at a3
        (conv => whnf)
        exact Ob.store rfl rfl rfl a3 rfl (by first | exact Nat.le_of_ble_eq_true rfl | simp) fun K1 k1 k2 k3 => hR.storeA rfl hl (hah 10 (by kernel_rfl)) a2 k1 k2
      | 13, ho, hl, hah, hbh =>
        obtain rfl := Option.some.inj ho
        have e0 : V.getD 0 undef = .pointer (some ⟨q1, 2, none⟩) := hR.val 0 (by decide) (hah 0 (by kernel_rfl))
        have e1 : V.getD 1 undef = cs := hR.val 1 (by decide) (hah 1 (by kernel_rfl))
        have e2 : V.getD 2 undef = .int .i64 (m : Int) := hR.val 2 (by decide) (hah 2 (by kernel_rfl))
        have e3 : V.getD 3 undef = u := hR.val 3 (by decide) (hah 3 (by kernel_rfl))
        have e4 : V.getD 4 undef = codeV x su := hR.val 4 (by decide) (hah 4 (by kernel_rfl))
        have e5 : V.getD 5 undef = .pointer (some ⟨q2, 2, none⟩) := hR.val 5 (by decide) (hah 5 (by kernel_rfl))
        have e6 : V.getD 6 undef = ds := hR.val 6 (by decide) (hah 6 (by kernel_rfl))
        have e7 : V.getD 7 undef = .int .i64 (m : Int) := hR.val 7 (by decide) (hah 7 (by kernel_rfl))
        have e8 : V.getD 8 undef = v := hR.val 8 (by decide) (hah 8 (by kernel_rfl))
        have e9 : V.getD 9 undef = codeV y sv := hR.val 9 (by decide) (hah 9 (by kernel_rfl))
        obtain ⟨a, a1, a2, a3⟩ := hR.fst (hah 10 (by kernel_rfl))
        obtain ⟨b, b1, b2, b3⟩ := hR.snd (hah 11 (by kernel_rfl))
        rw [envOf_eq, show pairsOf _ _ 13 = [(58, 0), (59, 1), (60, 2), (61, 3), (62, 4), (63, 5), (64, 6), (65, 7), (66, 8), (67, 9), (7, 10), (8, 11)] from by kernel_rfl, show exOf _ _ 13 = [58, 59, 60, 61, 62, 63, 64, 65, 66, 67, 7, 8] from by kernel_rfl]
        have b2 : V.getD 11 undef = .pointer (some ⟨b, 0, none⟩) := b2
        try simp only [valsOf, e0, e1, e2, e3, e4, e5, e6, e7, e8, e9, a2, b2]
        rw [if_neg (by simp [hl])] at b3
        (conv => whnf)
        exact Ob.store rfl rfl rfl b3 rfl (by first | exact Nat.le_of_ble_eq_true rfl | simp) fun K1 k1 k2 k3 => hR.storeB rfl hl (hah 11 (by kernel_rfl)) b2 k1 k2
      | i + 14, ho, hl, hah, hbh => exact absurd ho (by simp)
    intro V K hR
    have hk := hR.grow
    obtain ⟨pa, a1, a2, a3⟩ := hR.fst rfl
    obtain ⟨pb, b1, b2, b3⟩ := hR.snd rfl
    have a2 : V.getD 10 undef = .pointer (some ⟨pa, 0, none⟩) := a2
    have b2 : V.getD 11 undef = .pointer (some ⟨pb, 0, none⟩) := b2
    have hne : V.getD 10 undef ≠ V.getD 11 undef := hR.ne rfl rfl
    rw [endOf_eq, show endsOf _ = [(58, 0), (59, 1), (60, 2), (61, 3), (62, 4), (63, 5), (64, 6), (65, 7), (66, 8), (67, 9), (7, 10), (8, 11)] from by kernel_rfl]
    simp only [valsOf, a2, b2]
    rw [a2, b2] at hne
    have a3 : K[pa]? = some (.cells .var [.int .i64 x.1, .int .i64 x.2.1, .int .i64 x.2.2.1, .int .i64 x.2.2.2.1, su]) := a3
    have b3 : K[pb]? = some (.cells .var [.int .i64 y.1, .int .i64 y.2.1, .int .i64 y.2.2.1, .int .i64 y.2.2.2.1, sv]) := b3
    clear hR
    have ha := hblk_of a3
    have hb := hblk_of b3
    have lx : alen Try.prog 22 su K = some (.int .i64 x.ins.length) := i4.len rfl _
    have ly : alen Try.prog 22 sv K = some (.int .i64 y.ins.length) := j4.len rfl _
    clear hc
    have key : p = q → x = y := fun h => by
      subst h
      rw [hx] at hy
      simpa using hy
    (try (conv => whnf)); (repeat' ((fail_if_success (with_reducible refine And.intro ?_ ?_)); (fail_if_success (with_reducible refine Exists.intro ?_ ?_)); (first | (first | (apply Ob.of; (first | with_reducible assumption | with_reducible exact ex20 _ _ | with_reducible exact ex21 _ _ | with_reducible exact ex30 _ _ _ | with_reducible exact ex31 _ _ _ | with_reducible exact ex32 _ _ _ | rfl | (exact ald rfl rfl (by assumption) rfl) | (exact ald_agg rfl rfl rfl (by assumption) rfl)); (conv => whnf)) | (apply bIf.yes; (first | assumption | rfl); (conv => whnf)) | (apply bIf.no; (first | assumption | rfl); (conv => whnf)) | ((with_reducible refine Ob.load (by with_unfolding_all assumption) ?_); (conv => whnf)) | (apply Grows.mk; (first | exact Grow.refl _ | assumption); (conv => whnf))) | (apply bIf.of <;> intro hc <;> (conv => whnf)))))
    rotate_right
    rename_i hc4 hc3 hc2 hc1
    rotate_left
    rotate_right
    all_goals try (refine ⟨congrArg Value.bool (decide_eq_false fun h => ?_).symm, gg.trans hk⟩; have e := key h; subst e; simp at hc; done)
    have e1 : x.1 = y.1 := by simpa using hc4
    have e2 : x.2.1 = y.2.1 := by simpa using hc3
    have e3 : x.2.2.1 = y.2.2.1 := by simpa using hc2
    have e4 : x.2.2.2.1 = y.2.2.2.1 := by simpa using hc1
    have e5 : x.ins.length = y.ins.length := by (simp only [ba_ne_t, ba_ne_f, ba_eq_t, ba_eq_f, bne_iff_ne, bne_eq_false_iff_eq, decide_eq_true_eq, decide_eq_false_iff_not, beq_iff_eq, beq_eq_false_iff_ne, ne_eq, Bool.not_eq_true, Bool.not_eq_false, Bool.not_eq_true', Bool.not_eq_false'] at *); omega
    clear hc
    refine SW.loop (α := Nat) (fun k => [(2, .pointer (some ⟨q1, 0, none⟩)), (3, .pointer (some ⟨q2, 0, none⟩)), (6, .int .i64 (m : Int)), (7, .pointer (some ⟨pa, 0, none⟩)), (8, .pointer (some ⟨pb, 0, none⟩)), (9, .int .i64 (k : Int))]) (fun k H' => k ≤ x.ins.length ∧ x.ins.take k = y.ins.take k ∧ H' = K) (fun k => x.ins.length - k) ⟨0, ⟨rfl, rfl, rfl, rfl, rfl, rfl, trivial⟩, by omega, rfl, rfl⟩ ?_
    rintro k X ⟨hk1, hk2, e⟩
    subst X
    refine bC_sound _ _ _ _ ?_
    by_cases hkl : k < x.ins.length
    · have d2 : decide ((k : Int) < (x.ins.length : Int)) = true := decide_eq_true (by omega)
      obtain ⟨xi, hxi⟩ := get_lt hkl
      obtain ⟨yi, hyi⟩ := get_lt (L := y.ins) (m := k) (by omega)
      obtain ⟨u', i5, i6⟩ := ld_ins i4 hxi
      obtain ⟨v', j5, j6⟩ := ld_ins j4 hyi
      have i7 := i6 K (gg.trans hk)
      have j7 := j6 K (gg.trans hk)
      have ne := ins_neq xi yi
      (try (conv => whnf)); (repeat ((fail_if_success (with_reducible refine And.intro ?_ ?_)); (fail_if_success (with_reducible refine Exists.intro ?_ ?_)); (first | (apply Ob.of; (first | with_reducible assumption | with_reducible exact ex20 _ _ | with_reducible exact ex21 _ _ | with_reducible exact ex30 _ _ _ | with_reducible exact ex31 _ _ _ | with_reducible exact ex32 _ _ _ | rfl | (exact ald rfl rfl (by assumption) rfl) | (exact ald_agg rfl rfl rfl (by assumption) rfl)); (conv => whnf)) | (apply bIf.yes; (first | assumption | rfl); (conv => whnf)) | (apply bIf.no; (first | assumption | rfl); (conv => whnf)) | ((with_reducible refine Ob.load (by with_unfolding_all assumption) ?_); (conv => whnf)) | (apply Grows.mk; (first | exact Grow.refl _ | assumption); (conv => whnf)))))
      apply SW.drawG [(0, [], [112, 115, 116, 117, 118, 119], false), (1, [(110, 0)], [110, 112, 115, 116, 117, 118, 119], false), (2, [], [110, 111, 115, 116, 117, 118, 119], false), (3, [(110, 0), (111, 1), (112, 2)], [110, 111, 112, 115, 116, 117, 118, 119], false), (4, [(110, 0), (111, 1), (112, 2), (113, 3)], [110, 111, 112, 113, 115, 116, 117, 118, 119], false), (5, [], [110, 111, 112, 113, 114, 117], false), (6, [(115, 5)], [110, 111, 112, 113, 114, 115, 117], false), (7, [], [110, 111, 112, 113, 114, 115, 116], false), (8, [(115, 5), (116, 6), (117, 7)], [110, 111, 112, 113, 114, 115, 116, 117], false), (9, [(115, 5), (116, 6), (117, 7), (118, 8)], [110, 111, 112, 113, 114, 115, 116, 117, 118], false), (10, [(110, 0), (111, 1), (112, 2), (113, 3), (114, 4), (115, 5), (116, 6), (117, 7), (118, 8), (119, 9)], [110, 111, 112, 113, 114, 115, 116, 117, 118, 119], false)]
        [(110, 0), (111, 1), (112, 2), (113, 3), (114, 4), (115, 5), (116, 6), (117, 7), (118, 8), (119, 9), (120, 10)]
        [(2, _), (3, _), (6, _), (7, _), (8, _), (9, _)] rfl (by kernel_rfl)
      case hF => exact ⟨rfl, rfl, rfl, rfl, rfl, rfl, trivial⟩
      (try (conv => whnf)); (repeat' ((fail_if_success (with_reducible refine And.intro ?_ ?_)); (fail_if_success (with_reducible refine Exists.intro ?_ ?_)); (first | (first | (apply Ob.of; (first | with_reducible assumption | with_reducible exact ex20 _ _ | with_reducible exact ex21 _ _ | with_reducible exact ex30 _ _ _ | with_reducible exact ex31 _ _ _ | with_reducible exact ex32 _ _ _ | rfl | (exact ald rfl rfl (by assumption) rfl) | (exact ald_agg rfl rfl rfl (by assumption) rfl)); (conv => whnf)) | (apply bIf.yes; (first | assumption | rfl); (conv => whnf)) | (apply bIf.no; (first | assumption | rfl); (conv => whnf)) | ((with_reducible refine Ob.load (by with_unfolding_all assumption) ?_); (conv => whnf)) | (apply Grows.mk; (first | exact Grow.refl _ | assumption); (conv => whnf))) | (apply bIf.of <;> intro hc <;> (conv => whnf)))))
      · have hni : xi ≠ yi := by simpa using hc
        refine ⟨congrArg Value.bool (decide_eq_false fun h => hni ?_).symm, gg.trans hk⟩
        have e := key h
        subst e
        rw [hxi] at hyi
        simpa using hyi
      · have hxy : xi = yi := by simpa using hc
        subst hxy
        exact ⟨k + 1, ⟨rfl, rfl, rfl, rfl, rfl, congrArg (fun z => some (Value.int .i64 z)) (w_succ (by omega)), trivial⟩, ⟨hkl, take_next hk2 hxi hyi, rfl⟩, by show x.ins.length - (k + 1) < x.ins.length - k; omega⟩
    · have d2 : decide ((k : Int) < (x.ins.length : Int)) = false := decide_eq_false (by omega)
      have hLM3 : x.ins = y.ins := by rwa [List.take_of_length_le (by omega), List.take_of_length_le (by omega)] at hk2
      have hxy : x = y := code_eq.2 ⟨e1, e2, e3, e4, hLM3⟩
      subst hxy
      (try (conv => whnf)); (repeat ((fail_if_success (with_reducible refine And.intro ?_ ?_)); (fail_if_success (with_reducible refine Exists.intro ?_ ?_)); (first | (apply Ob.of; (first | with_reducible assumption | with_reducible exact ex20 _ _ | with_reducible exact ex21 _ _ | with_reducible exact ex30 _ _ _ | with_reducible exact ex31 _ _ _ | with_reducible exact ex32 _ _ _ | rfl | (exact ald rfl rfl (by assumption) rfl) | (exact ald_agg rfl rfl rfl (by assumption) rfl)); (conv => whnf)) | (apply bIf.yes; (first | assumption | rfl); (conv => whnf)) | (apply bIf.no; (first | assumption | rfl); (conv => whnf)) | ((with_reducible refine Ob.load (by with_unfolding_all assumption) ?_); (conv => whnf)) | (apply Grows.mk; (first | exact Grow.refl _ | assumption); (conv => whnf)))))
      exact ⟨m + 1, ⟨rfl, rfl, congrArg (fun z => some (Value.int .i64 z)) (w_succ (by have := hs.2.1; omega)), trivial⟩, ⟨hml, take_next ht hx hy, g3.trans hk⟩, by show p.2.2.length - (m + 1) < p.2.2.length - m; omega⟩
  · have d1 : decide ((m : Int) < (p.2.2.length : Int)) = false := decide_eq_false (by omega)
    have hLM2 : p.2.2 = q.2.2 := by rwa [List.take_of_length_le (by omega), List.take_of_length_le (by omega)] at ht
    rw [decide_eq_true (prog_eq.2 ⟨hG, hLM, hLM2⟩)]
    (try (conv => whnf)); (repeat ((fail_if_success (with_reducible refine And.intro ?_ ?_)); (fail_if_success (with_reducible refine Exists.intro ?_ ?_)); (first | (apply Ob.of; (first | with_reducible assumption | with_reducible exact ex20 _ _ | with_reducible exact ex21 _ _ | with_reducible exact ex30 _ _ _ | with_reducible exact ex31 _ _ _ | with_reducible exact ex32 _ _ _ | rfl | (exact ald rfl rfl (by assumption) rfl) | (exact ald_agg rfl rfl rfl (by assumption) rfl)); (conv => whnf)) | (apply bIf.yes; (first | assumption | rfl); (conv => whnf)) | (apply bIf.no; (first | assumption | rfl); (conv => whnf)) | ((with_reducible refine Ob.load (by with_unfolding_all assumption) ?_); (conv => whnf)) | (apply Grows.mk; (first | exact Grow.refl _ | assumption); (conv => whnf)))))
    exact ⟨rfl, g.trans g3⟩
end Go.Proofs.Ytnjokekdoaflhaa
