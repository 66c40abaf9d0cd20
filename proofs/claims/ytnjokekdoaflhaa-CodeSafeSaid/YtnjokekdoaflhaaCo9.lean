/- Package code: are two programs alike? -/
import Derived.Test.YtnjokekdoaflhaaCo8
set_option linter.unusedVariables false
set_option linter.unusedSimpArgs false
set_option maxRecDepth 20000
set_option maxHeartbeats 8000000
namespace Go.Proofs.Ytnjokekdoaflhaa
open Go Ax
theorem ins_neq (x y : Ins) : abin Try.prog .neq 29 (insV x.1 x.2.1 x.2.2) (insV y.1 y.2.1 y.2.2) = some (.bool (decide (x ≠ y))) := by
  have h : abin Try.prog .neq 29 (insV x.1 x.2.1 x.2.2) (insV y.1 y.2.1 y.2.2) = some (.bool (!(x.1 == y.1 && (x.2.1 == y.2.1 && (x.2.2 == y.2.2 && true))))) := by kernel_rfl
  rw [h]
  obtain ⟨a, b, c⟩ := x
  obtain ⟨a', b', c'⟩ := y
  congr 2
  rw [Bool.eq_iff_iff]
  simp
theorem eqi_ax {H : Heap} {u v : Value} {L M : List Ins} (hu : RL 3 insR H u L) (hv : RL 3 insR H v M) (hL : L.length < 4294967296) :
    AX Try.prog 33 #[u, v] H (fun r H' => r = .bool (decide (L = M)) ∧ H' = H) := by
  refine AX.body (n := 26) (rs := [.tmp 4]) Try.func33 rfl (by decide) rfl rfl (bC_sound _ _ _ _ ?_)
  have l1 : alen Try.prog 22 u H = some (.int .i64 L.length) := hu.len rfl _
  have l2 : alen Try.prog 22 v H = some (.int .i64 M.length) := hv.len rfl _
  (try (conv => whnf)); (repeat' ((fail_if_success (with_reducible refine And.intro ?_ ?_)); (fail_if_success (with_reducible refine Exists.intro ?_ ?_)); (first | (first | (apply Ob.of; (first | with_reducible assumption | with_reducible exact ex20 _ _ | with_reducible exact ex21 _ _ | with_reducible exact ex30 _ _ _ | with_reducible exact ex31 _ _ _ | with_reducible exact ex32 _ _ _ | rfl | (exact ald rfl rfl (by assumption) rfl) | (exact ald_agg rfl rfl rfl (by assumption) rfl)); (conv => whnf)) | (apply bIf.yes; (first | assumption | rfl); (conv => whnf)) | (apply bIf.no; (first | assumption | rfl); (conv => whnf)) | ((with_reducible refine Ob.load (by with_unfolding_all assumption) ?_); (conv => whnf)) | (apply Grows.mk; (first | exact Grow.refl _ | assumption); (conv => whnf))) | (apply bIf.of <;> intro hc <;> (conv => whnf)))))
  · refine ⟨congrArg Value.bool (decide_eq_false fun h => ?_).symm, rfl⟩
    subst h
    simp at hc
  have hlen : L.length = M.length := by (simp only [ba_ne_t, ba_ne_f, ba_eq_t, ba_eq_f, bne_iff_ne, bne_eq_false_iff_eq, decide_eq_true_eq, decide_eq_false_iff_not, beq_iff_eq, beq_eq_false_iff_ne, ne_eq, Bool.not_eq_true, Bool.not_eq_false, Bool.not_eq_true', Bool.not_eq_false'] at *); omega
  clear hc
  refine SW.loop (α := Nat) (fun m => [(0, u), (1, v), (12, .int .i64 L.length), (13, .int .i64 (m : Int))]) (fun m H' => m ≤ L.length ∧ L.take m = M.take m ∧ H' = H) (fun m => L.length - m) ⟨0, ⟨rfl, rfl, rfl, rfl, trivial⟩, by omega, rfl, rfl⟩ ?_
  rintro m X ⟨hm, ht, e⟩
  subst X
  refine bC_sound _ _ _ _ ?_
  by_cases hml : m < L.length
  · have d1 : decide ((m : Int) < (L.length : Int)) = true := decide_eq_true (by omega)
    obtain ⟨x, hx⟩ := get_lt hml
    obtain ⟨y, hy⟩ := get_lt (L := M) (m := m) (by omega)
    obtain ⟨p, i1, i2⟩ := ld_ins hu hx
    obtain ⟨q, j1, j2⟩ := ld_ins hv hy
    have i3 := i2 H (.refl _)
    have j3 := j2 H (.refl _)
    have ne := ins_neq x y
    (try (conv => whnf)); (repeat ((fail_if_success (with_reducible refine And.intro ?_ ?_)); (fail_if_success (with_reducible refine Exists.intro ?_ ?_)); (first | (apply Ob.of; (first | with_reducible assumption | with_reducible exact ex20 _ _ | with_reducible exact ex21 _ _ | with_reducible exact ex30 _ _ _ | with_reducible exact ex31 _ _ _ | with_reducible exact ex32 _ _ _ | rfl | (exact ald rfl rfl (by assumption) rfl) | (exact ald_agg rfl rfl rfl (by assumption) rfl)); (conv => whnf)) | (apply bIf.yes; (first | assumption | rfl); (conv => whnf)) | (apply bIf.no; (first | assumption | rfl); (conv => whnf)) | ((with_reducible refine Ob.load (by with_unfolding_all assumption) ?_); (conv => whnf)) | (apply Grows.mk; (first | exact Grow.refl _ | assumption); (conv => whnf)))))
    apply SW.drawG [(0, [], [17, 20, 21, 22, 23], false), (1, [], [16, 20, 21, 22, 23], false), (2, [(16, 0), (17, 1)], [16, 17, 20, 21, 22, 23], false), (3, [(16, 0), (17, 1), (18, 2)], [16, 17, 18, 20, 21, 22, 23], false), (4, [], [16, 17, 18, 19, 21], false), (5, [], [16, 17, 18, 19, 20], false), (6, [(20, 4), (21, 5)], [16, 17, 18, 19, 20, 21], false), (7, [(20, 4), (21, 5), (22, 6)], [16, 17, 18, 19, 20, 21, 22], false), (8, [(16, 0), (17, 1), (18, 2), (19, 3), (20, 4), (21, 5), (22, 6), (23, 7)], [16, 17, 18, 19, 20, 21, 22, 23], false)]
      [(16, 0), (17, 1), (18, 2), (19, 3), (20, 4), (21, 5), (22, 6), (23, 7), (24, 8)]
      [(0, _), (1, _), (5, _), (12, _), (13, _)] rfl (by kernel_rfl)
    case hF => exact ⟨rfl, rfl, rfl, rfl, rfl, trivial⟩
    (try (conv => whnf)); (repeat' ((fail_if_success (with_reducible refine And.intro ?_ ?_)); (fail_if_success (with_reducible refine Exists.intro ?_ ?_)); (first | (first | (apply Ob.of; (first | with_reducible assumption | with_reducible exact ex20 _ _ | with_reducible exact ex21 _ _ | with_reducible exact ex30 _ _ _ | with_reducible exact ex31 _ _ _ | with_reducible exact ex32 _ _ _ | rfl | (exact ald rfl rfl (by assumption) rfl) | (exact ald_agg rfl rfl rfl (by assumption) rfl)); (conv => whnf)) | (apply bIf.yes; (first | assumption | rfl); (conv => whnf)) | (apply bIf.no; (first | assumption | rfl); (conv => whnf)) | ((with_reducible refine Ob.load (by with_unfolding_all assumption) ?_); (conv => whnf)) | (apply Grows.mk; (first | exact Grow.refl _ | assumption); (conv => whnf))) | (apply bIf.of <;> intro hc <;> (conv => whnf)))))
    · refine ⟨congrArg Value.bool (decide_eq_false fun h => ?_).symm, rfl⟩
      subst h
      rw [hx] at hy
      simp only [Option.some.injEq] at hy
      simp [hy] at hc
    · have hxy : x = y := by simpa using hc
      subst hxy
      exact ⟨m + 1, ⟨rfl, rfl, rfl, congrArg (fun z => some (Value.int .i64 z)) (w_succ (by omega)), trivial⟩, ⟨hml, take_next ht hx hy, rfl⟩, by show L.length - (m + 1) < L.length - m; omega⟩
  · have d1 : decide ((m : Int) < (L.length : Int)) = false := decide_eq_false (by omega)
    have hLM : L = M := by rwa [List.take_of_length_le (by omega), List.take_of_length_le (by omega)] at ht
    rw [decide_eq_true hLM]
    (try (conv => whnf)); (repeat ((fail_if_success (with_reducible refine And.intro ?_ ?_)); (fail_if_success (with_reducible refine Exists.intro ?_ ?_)); (first | (apply Ob.of; (first | with_reducible assumption | with_reducible exact ex20 _ _ | with_reducible exact ex21 _ _ | with_reducible exact ex30 _ _ _ | with_reducible exact ex31 _ _ _ | with_reducible exact ex32 _ _ _ | rfl | (exact ald rfl rfl (by assumption) rfl) | (exact ald_agg rfl rfl rfl (by assumption) rfl)); (conv => whnf)) | (apply bIf.yes; (first | assumption | rfl); (conv => whnf)) | (apply bIf.no; (first | assumption | rfl); (conv => whnf)) | ((with_reducible refine Ob.load (by with_unfolding_all assumption) ?_); (conv => whnf)) | (apply Grows.mk; (first | exact Grow.refl _ | assumption); (conv => whnf)))))
    exact ⟨rfl, rfl⟩
theorem code_eq {c d : CodeT} : c = d ↔ c.1 = d.1 ∧ c.2.1 = d.2.1 ∧ c.2.2.1 = d.2.2.1 ∧ c.2.2.2.1 = d.2.2.2.1 ∧ c.2.2.2.2 = d.2.2.2.2 := by
  obtain ⟨a, b, c, e, f⟩ := c
  obtain ⟨a', b', c', e', f'⟩ := d
  simp
instance : DecidableEq CodeT := fun c d => decidable_of_iff _ (code_eq (c := c) (d := d)).symm
theorem same1_ax {H : Heap} {u v : Value} {c d : CodeT} (hu : RL 3 insR H u c.ins) (hv : RL 3 insR H v d.ins) (hL : c.ins.length < 4294967296) :
    AX Try.prog 32 #[codeV c u, codeV d v] H (fun r H' => r = .bool (decide (c = d)) ∧ H' = H) := by
  refine AX.quiet ?_
  suffices hh : AX Try.prog 32 #[codeV c u, codeV d v] H (fun r H' => r = .bool (decide (c = d)) ∧ Grow H H') from hh.mono fun v _ ⟨e, g⟩ => ⟨e ▸ plain_bool _, e, g⟩
  refine AX.body (n := 38) (rs := [.tmp 4]) Try.func32 rfl (by decide) rfl rfl (bC_sound _ _ _ _ ?_)
  (conv => whnf)
  refine Ob2.box rfl fun q1 H1 hq1 a1 g1 => ?_
  (conv => whnf)
  refine Ob2.box rfl fun q2 H2 hq2 a2 g2 => ?_
  have b1 := hblk_of (g2.at a1)
  have b2 := hblk_of a2
  have g : Grow H H2 := g1.trans g2
  have hu2 := insR.grow hu g
  have hv2 := insR.grow hv g
  clear g1 g2 a1 a2
  (try (conv => whnf)); (repeat' ((fail_if_success (with_reducible refine And.intro ?_ ?_)); (fail_if_success (with_reducible refine Exists.intro ?_ ?_)); (first | ((with_reducible refine AX.id ?_); (first | (refine (eqi_ax hu2 hv2 hL).mono ?_; (rintro _ X ⟨rfl, eX⟩; subst X; (conv => whnf))))) | (first | (apply Ob.of; (first | with_reducible assumption | with_reducible exact ex20 _ _ | with_reducible exact ex21 _ _ | with_reducible exact ex30 _ _ _ | with_reducible exact ex31 _ _ _ | with_reducible exact ex32 _ _ _ | rfl | (exact ald rfl rfl (by assumption) rfl) | (exact ald_agg rfl rfl rfl (by assumption) rfl)); (conv => whnf)) | (apply bIf.yes; (first | assumption | rfl); (conv => whnf)) | (apply bIf.no; (first | assumption | rfl); (conv => whnf)) | ((with_reducible refine Ob.load (by with_unfolding_all assumption) ?_); (conv => whnf)) | (apply Grows.mk; (first | exact Grow.refl _ | assumption); (conv => whnf))) | (apply bIf.of <;> intro hc <;> (conv => whnf)))))
  all_goals refine ⟨congrArg Value.bool ?_, g⟩
  all_goals clear b1 b2 hu2 hv2
  all_goals rw [Bool.eq_iff_iff]
  all_goals simp only [beq_iff_eq, beq_eq_false_iff_ne, Bool.false_eq_true, decide_eq_true_eq, code_eq] at *
  all_goals simp [*]
theorem ld_code {H : Heap} {sv : Value} {L : List CodeT} (h : RL 5 codeR H sv L) {i : Nat} {x : CodeT} (hx : L[i]? = some x) :
    ∃ q u, aindexAddr Try.prog 35 sv (.int .i64 (i : Int)) = some q ∧ RL 3 insR H u x.ins ∧ ∀ H', Grow H H' → aload Try.prog 24 q H' = some (codeV x u) := by
  obtain ⟨q, l, h1, ⟨u, rfl, h3⟩, h4⟩ := h.ldA (P := Try.prog) (t := 35) (e := 24) rfl rfl rfl rfl hx
  exact ⟨q, u, h1, h3, h4⟩
theorem eqf_ax {H : Heap} {u v : Value} {L M : List CodeT} (hu : RL 5 codeR H u L) (hv : RL 5 codeR H v M) (hL : L.length < 4294967296) (hI : ∀ c ∈ L, c.ins.length < 4294967296) :
    AX Try.prog 31 #[u, v, .func (.func 32) #[] #[]] H (fun r H' => r = .bool (decide (L = M)) ∧ H' = H) := by
  refine AX.quiet ?_
  suffices hh : AX Try.prog 31 #[u, v, .func (.func 32) #[] #[]] H (fun r H' => r = .bool (decide (L = M)) ∧ Grow H H') from hh.mono fun v _ ⟨e, g⟩ => ⟨e ▸ plain_bool _, e, g⟩
  refine AX.body (n := 32) (rs := [.tmp 6]) Try.func31 rfl (by decide) rfl rfl (bC_sound _ _ _ _ ?_)
  have l1 : alen Try.prog 35 u H = some (.int .i64 L.length) := hu.len rfl _
  have l2 : alen Try.prog 35 v H = some (.int .i64 M.length) := hv.len rfl _
  (try (conv => whnf)); (repeat' ((fail_if_success (with_reducible refine And.intro ?_ ?_)); (fail_if_success (with_reducible refine Exists.intro ?_ ?_)); (first | (first | (apply Ob.of; (first | with_reducible assumption | with_reducible exact ex20 _ _ | with_reducible exact ex21 _ _ | with_reducible exact ex30 _ _ _ | with_reducible exact ex31 _ _ _ | with_reducible exact ex32 _ _ _ | rfl | (exact ald rfl rfl (by assumption) rfl) | (exact ald_agg rfl rfl rfl (by assumption) rfl)); (conv => whnf)) | (apply bIf.yes; (first | assumption | rfl); (conv => whnf)) | (apply bIf.no; (first | assumption | rfl); (conv => whnf)) | ((with_reducible refine Ob.load (by with_unfolding_all assumption) ?_); (conv => whnf)) | (apply Grows.mk; (first | exact Grow.refl _ | assumption); (conv => whnf))) | (apply bIf.of <;> intro hc <;> (conv => whnf)))))
  · refine ⟨congrArg Value.bool (decide_eq_false fun h => ?_).symm, .refl _⟩
    subst h
    simp at hc
  have hlen : L.length = M.length := by (simp only [ba_ne_t, ba_ne_f, ba_eq_t, ba_eq_f, bne_iff_ne, bne_eq_false_iff_eq, decide_eq_true_eq, decide_eq_false_iff_not, beq_iff_eq, beq_eq_false_iff_ne, ne_eq, Bool.not_eq_true, Bool.not_eq_false, Bool.not_eq_true', Bool.not_eq_false'] at *); omega
  clear hc
  refine SW.loop (α := Nat) (fun m => [(0, u), (1, v), (2, .func (.func 32) #[] #[]), (15, u), (16, .int .i64 L.length), (17, .int .i64 (m : Int))]) (fun m H' => m ≤ L.length ∧ L.take m = M.take m ∧ Grow H H') (fun m => L.length - m) ⟨0, ⟨rfl, rfl, rfl, rfl, rfl, rfl, trivial⟩, by omega, rfl, .refl _⟩ ?_
  rintro m X ⟨hm, ht, g⟩
  refine bC_sound _ _ _ _ ?_
  by_cases hml : m < L.length
  · have d1 : decide ((m : Int) < (L.length : Int)) = true := decide_eq_true (by omega)
    obtain ⟨x, hx⟩ := get_lt hml
    obtain ⟨y, hy⟩ := get_lt (L := M) (m := m) (by omega)
    obtain ⟨p, su, i1, i4, i2⟩ := ld_code hu hx
    obtain ⟨q, sv, j1, j4, j2⟩ := ld_code hv hy
    have i3 := i2 X g
    (try (conv => whnf)); (repeat ((fail_if_success (with_reducible refine And.intro ?_ ?_)); (fail_if_success (with_reducible refine Exists.intro ?_ ?_)); (first | (apply Ob.of; (first | with_reducible assumption | with_reducible exact ex20 _ _ | with_reducible exact ex21 _ _ | with_reducible exact ex30 _ _ _ | with_reducible exact ex31 _ _ _ | with_reducible exact ex32 _ _ _ | rfl | (exact ald rfl rfl (by assumption) rfl) | (exact ald_agg rfl rfl rfl (by assumption) rfl)); (conv => whnf)) | (apply bIf.yes; (first | assumption | rfl); (conv => whnf)) | (apply bIf.no; (first | assumption | rfl); (conv => whnf)) | ((with_reducible refine Ob.load (by with_unfolding_all assumption) ?_); (conv => whnf)) | (apply Grows.mk; (first | exact Grow.refl _ | assumption); (conv => whnf)))))
    refine Ob2.alloc rfl fun q1 H1 hq1 a1 k1 => ?_
    (try (conv => whnf)); (repeat ((fail_if_success (with_reducible refine And.intro ?_ ?_)); (fail_if_success (with_reducible refine Exists.intro ?_ ?_)); (first | (apply Ob.of; (first | with_reducible assumption | with_reducible exact ex20 _ _ | with_reducible exact ex21 _ _ | with_reducible exact ex30 _ _ _ | with_reducible exact ex31 _ _ _ | with_reducible exact ex32 _ _ _ | rfl | (exact ald rfl rfl (by assumption) rfl) | (exact ald_agg rfl rfl rfl (by assumption) rfl)); (conv => whnf)) | (apply bIf.yes; (first | assumption | rfl); (conv => whnf)) | (apply bIf.no; (first | assumption | rfl); (conv => whnf)) | ((with_reducible refine Ob.load (by with_unfolding_all assumption) ?_); (conv => whnf)) | (apply Grows.mk; (first | exact Grow.refl _ | assumption); (conv => whnf)))))
    refine Ob.store rfl rfl rfl a1 rfl (by first | exact Nat.le_of_ble_eq_true rfl | simp) fun H2 b1 b2 b3 => ?_
    have g2 : Grow X H2 := k1.but_new b2 (by omega)
    have j3 := j2 H2 (g.trans g2)
    (try (conv => whnf)); (repeat ((fail_if_success (with_reducible refine And.intro ?_ ?_)); (fail_if_success (with_reducible refine Exists.intro ?_ ?_)); (first | (apply Ob.of; (first | with_reducible assumption | with_reducible exact ex20 _ _ | with_reducible exact ex21 _ _ | with_reducible exact ex30 _ _ _ | with_reducible exact ex31 _ _ _ | with_reducible exact ex32 _ _ _ | rfl | (exact ald rfl rfl (by assumption) rfl) | (exact ald_agg rfl rfl rfl (by assumption) rfl)); (conv => whnf)) | (apply bIf.yes; (first | assumption | rfl); (conv => whnf)) | (apply bIf.no; (first | assumption | rfl); (conv => whnf)) | ((with_reducible refine Ob.load (by with_unfolding_all assumption) ?_); (conv => whnf)) | (apply Grows.mk; (first | exact Grow.refl _ | assumption); (conv => whnf)))))
    refine Ob2.alloc rfl fun q3 H3 hq3 a3 k3 => ?_
    (try (conv => whnf)); (repeat ((fail_if_success (with_reducible refine And.intro ?_ ?_)); (fail_if_success (with_reducible refine Exists.intro ?_ ?_)); (first | (apply Ob.of; (first | with_reducible assumption | with_reducible exact ex20 _ _ | with_reducible exact ex21 _ _ | with_reducible exact ex30 _ _ _ | with_reducible exact ex31 _ _ _ | with_reducible exact ex32 _ _ _ | rfl | (exact ald rfl rfl (by assumption) rfl) | (exact ald_agg rfl rfl rfl (by assumption) rfl)); (conv => whnf)) | (apply bIf.yes; (first | assumption | rfl); (conv => whnf)) | (apply bIf.no; (first | assumption | rfl); (conv => whnf)) | ((with_reducible refine Ob.load (by with_unfolding_all assumption) ?_); (conv => whnf)) | (apply Grows.mk; (first | exact Grow.refl _ | assumption); (conv => whnf)))))
    refine Ob.store rfl rfl rfl a3 rfl (by first | exact Nat.le_of_ble_eq_true rfl | simp) fun H4 b4 b5 b6 => ?_
    have g4 : Grow H2 H4 := k3.but_new b5 (by omega)
    have g5 : Grow H H4 := (g.trans g2).trans g4
    have e1 := hblk_of (g4.at b1)
    have e2 := hblk_of b4
    (try (conv => whnf)); (repeat ((fail_if_success (with_reducible refine And.intro ?_ ?_)); (fail_if_success (with_reducible refine Exists.intro ?_ ?_)); (first | (apply Ob.of; (first | with_reducible assumption | with_reducible exact ex20 _ _ | with_reducible exact ex21 _ _ | with_reducible exact ex30 _ _ _ | with_reducible exact ex31 _ _ _ | with_reducible exact ex32 _ _ _ | rfl | (exact ald rfl rfl (by assumption) rfl) | (exact ald_agg rfl rfl rfl (by assumption) rfl)); (conv => whnf)) | (apply bIf.yes; (first | assumption | rfl); (conv => whnf)) | (apply bIf.no; (first | assumption | rfl); (conv => whnf)) | ((with_reducible refine Ob.load (by with_unfolding_all assumption) ?_); (conv => whnf)) | (apply Grows.mk; (first | exact Grow.refl _ | assumption); (conv => whnf)))))
    refine (same1_ax (insR.grow i4 g5) (insR.grow j4 g5) (hI x (List.mem_of_getElem? hx))).mono ?_
    rintro _ X' ⟨rfl, e⟩
    subst X'
    (try (conv => whnf)); (repeat' ((fail_if_success (with_reducible refine And.intro ?_ ?_)); (fail_if_success (with_reducible refine Exists.intro ?_ ?_)); (first | (first | (apply Ob.of; (first | with_reducible assumption | with_reducible exact ex20 _ _ | with_reducible exact ex21 _ _ | with_reducible exact ex30 _ _ _ | with_reducible exact ex31 _ _ _ | with_reducible exact ex32 _ _ _ | rfl | (exact ald rfl rfl (by assumption) rfl) | (exact ald_agg rfl rfl rfl (by assumption) rfl)); (conv => whnf)) | (apply bIf.yes; (first | assumption | rfl); (conv => whnf)) | (apply bIf.no; (first | assumption | rfl); (conv => whnf)) | ((with_reducible refine Ob.load (by with_unfolding_all assumption) ?_); (conv => whnf)) | (apply Grows.mk; (first | exact Grow.refl _ | assumption); (conv => whnf))) | (apply bIf.of <;> intro hc <;> (conv => whnf)))))
    · refine ⟨congrArg Value.bool (decide_eq_false fun h => ?_).symm, g5⟩
      subst h
      rw [hx] at hy
      simp only [Option.some.injEq] at hy
      simp [hy] at hc
    · have hxy : x = y := by simpa using hc
      subst hxy
      exact ⟨m + 1, ⟨rfl, rfl, rfl, rfl, rfl, congrArg (fun z => some (Value.int .i64 z)) (w_succ (by omega)), trivial⟩, ⟨hml, take_next ht hx hy, g5⟩, by show L.length - (m + 1) < L.length - m; omega⟩
  · have d1 : decide ((m : Int) < (L.length : Int)) = false := decide_eq_false (by omega)
    have hLM : L = M := by rwa [List.take_of_length_le (by omega), List.take_of_length_le (by omega)] at ht
    rw [decide_eq_true hLM]
    (try (conv => whnf)); (repeat ((fail_if_success (with_reducible refine And.intro ?_ ?_)); (fail_if_success (with_reducible refine Exists.intro ?_ ?_)); (first | (apply Ob.of; (first | with_reducible assumption | with_reducible exact ex20 _ _ | with_reducible exact ex21 _ _ | with_reducible exact ex30 _ _ _ | with_reducible exact ex31 _ _ _ | with_reducible exact ex32 _ _ _ | rfl | (exact ald rfl rfl (by assumption) rfl) | (exact ald_agg rfl rfl rfl (by assumption) rfl)); (conv => whnf)) | (apply bIf.yes; (first | assumption | rfl); (conv => whnf)) | (apply bIf.no; (first | assumption | rfl); (conv => whnf)) | ((with_reducible refine Ob.load (by with_unfolding_all assumption) ?_); (conv => whnf)) | (apply Grows.mk; (first | exact Grow.refl _ | assumption); (conv => whnf)))))
    exact ⟨rfl, g⟩
theorem prog_eq {c d : ProgT} : c = d ↔ c.1 = d.1 ∧ c.2.1 = d.2.1 ∧ c.2.2 = d.2.2 := by
  obtain ⟨a, b, c⟩ := c
  obtain ⟨a', b', c'⟩ := d
  simp
instance : DecidableEq ProgT := fun c d => decidable_of_iff _ (prog_eq (c := c) (d := d)).symm
/-- What a program's lists are at most. -/
def Small (p : ProgT) : Prop := p.2.1.length < 4294967296 ∧ p.2.2.length < 4294967296 ∧ ∀ c ∈ p.2.2, c.ins.length < 4294967296
theorem same_ax {H : Heap} {p q : ProgT} {ps cs qs ds : Value} (h1 : RL 1 strR H ps p.2.1) (h2 : RL 5 codeR H cs p.2.2) (h3 : RL 1 strR H qs q.2.1) (h4 : RL 5 codeR H ds q.2.2) (hs : Small p) :
    AX Try.prog 18 #[progV p ps cs, progV q qs ds] H (fun r H' => r = .bool (decide (p = q)) ∧ H' = H) := by
  refine AX.quiet ?_
  suffices hh : AX Try.prog 18 #[progV p ps cs, progV q qs ds] H (fun r H' => r = .bool (decide (p = q)) ∧ Grow H H') from hh.mono fun v _ ⟨e, g⟩ => ⟨e ▸ plain_bool _, e, g⟩
  refine AX.body (n := 24) (rs := [.tmp 4]) Try.func18 rfl (by decide) rfl rfl (bC_sound _ _ _ _ ?_)
  (conv => whnf)
  refine Ob2.box rfl fun q1 H1 hq1 a1 g1 => ?_
  (conv => whnf)
  refine Ob2.box rfl fun q2 H2 hq2 a2 g2 => ?_
  have b1 := hblk_of (g2.at a1)
  have b2 := hblk_of a2
  have g : Grow H H2 := g1.trans g2
  have e1 := strR.grow h1 g
  have e2 := codeR.grow h2 g
  have e3 := strR.grow h3 g
  have e4 := codeR.grow h4 g
  clear g1 g2 a1 a2
  (try (conv => whnf)); (repeat' ((fail_if_success (with_reducible refine And.intro ?_ ?_)); (fail_if_success (with_reducible refine Exists.intro ?_ ?_)); (first | ((with_reducible refine AX.id ?_); (first | (refine (eqs_ax e1 e3 hs.1).mono ?_; (rintro _ X ⟨rfl, eX⟩; subst X; (conv => whnf))) | (refine (eqf_ax e2 e4 hs.2.1 hs.2.2).mono ?_; (rintro _ X ⟨rfl, eX⟩; subst X; (conv => whnf))))) | (first | (apply Ob.of; (first | with_reducible assumption | with_reducible exact ex20 _ _ | with_reducible exact ex21 _ _ | with_reducible exact ex30 _ _ _ | with_reducible exact ex31 _ _ _ | with_reducible exact ex32 _ _ _ | rfl | (exact ald rfl rfl (by assumption) rfl) | (exact ald_agg rfl rfl rfl (by assumption) rfl)); (conv => whnf)) | (apply bIf.yes; (first | assumption | rfl); (conv => whnf)) | (apply bIf.no; (first | assumption | rfl); (conv => whnf)) | ((with_reducible refine Ob.load (by with_unfolding_all assumption) ?_); (conv => whnf)) | (apply Grows.mk; (first | exact Grow.refl _ | assumption); (conv => whnf))) | (apply bIf.of <;> intro hc <;> (conv => whnf)))))
  all_goals refine ⟨congrArg Value.bool ?_, g⟩
  all_goals clear b1 b2 e1 e2 e3 e4
  all_goals rw [Bool.eq_iff_iff]
  all_goals simp only [beq_iff_eq, beq_eq_false_iff_ne, Bool.false_eq_true, decide_eq_true_eq, decide_eq_false_iff_not, prog_eq] at *
  all_goals simp [*]
end Go.Proofs.Ytnjokekdoaflhaa
