/- The statements of package code: lists of numbers compared, and the two small programs. -/
import Derived.Test.YtnjokekdoaflhaaCo18
set_option linter.unusedVariables false
set_option linter.unusedSimpArgs false
set_option maxRecDepth 20000
set_option maxHeartbeats 8000000
namespace Go.Proofs.Ytnjokekdoaflhaa
open Go Ax
theorem ld_int {H : Heap} {sv : Value} {L : List Int} (h : RL 1 intR H sv L) {i : Nat} {x : Int} (hx : L[i]? = some x) :
    ∃ q, aindexAddr Try.prog 31 sv (.int .i64 (i : Int)) = some q ∧ ∀ H', Grow H H' → aload Try.prog 3 q H' = some (.int .i64 x) :=
  h.ld1 (fun _ _ _ h => h) rfl rfl rfl rfl hx
theorem numbers_ax {H : Heap} {u v : Value} {L M : List Int} (hu : RL 1 intR H u L) (hv : RL 1 intR H v M) (hL : L.length < 4294967296) :
    AX Try.prog 10 #[u, v] H (fun r H' => r = .bool (decide (L = M)) ∧ H' = H) := by
  refine AX.body (n := 26) (rs := [.tmp 4]) Try.func10 rfl (by decide) rfl rfl (bC_sound _ _ _ _ ?_)
  have l1 : alen Try.prog 31 u H = some (.int .i64 L.length) := hu.len rfl _
  have l2 : alen Try.prog 31 v H = some (.int .i64 M.length) := hv.len rfl _
  (try (conv => whnf)); (repeat' ((fail_if_success (with_reducible refine And.intro ?_ ?_)); (fail_if_success (with_reducible refine Exists.intro ?_ ?_)); (first | (first | (apply Ob.of; (first | with_reducible assumption | with_reducible exact ex20 _ _ | with_reducible exact ex21 _ _ | with_reducible exact ex30 _ _ _ | with_reducible exact ex31 _ _ _ | with_reducible exact ex32 _ _ _ | rfl | (exact ald rfl rfl (by assumption) rfl) | (exact ald_agg rfl rfl rfl (by assumption) rfl)); (conv => whnf)) | (apply bIf.yes; (first | assumption | rfl); (conv => whnf)) | (apply bIf.no; (first | assumption | rfl); (conv => whnf)) | ((with_reducible refine Ob.load (by with_unfolding_all assumption) ?_); (conv => whnf)) | (apply Grows.mk; (first | exact Grow.refl _ | assumption); (conv => whnf))) | (apply bIf.of <;> intro hc <;> (conv => whnf)))))
  · refine ⟨congrArg Value.bool (decide_eq_false fun h => ?_).symm, rfl⟩
    subst h
    simp at hc
  have hlen : L.length = M.length := by (simp only [ba_ne_t, ba_ne_f, ba_eq_t, ba_eq_f, bne_iff_ne, bne_eq_false_iff_eq, decide_eq_true_eq, decide_eq_false_iff_not, beq_iff_eq, beq_eq_false_iff_ne, ne_eq, Bool.not_eq_true, Bool.not_eq_false, Bool.not_eq_true', Bool.not_eq_false'] at *); omega
  clear hc
  refine SW.loop (α := Nat) (fun m => [(0, u), (1, v), (5, .int .i64 (m : Int))]) (fun m H' => m ≤ L.length ∧ L.take m = M.take m ∧ H' = H) (fun m => L.length - m) ⟨0, ⟨rfl, rfl, rfl, trivial⟩, by omega, rfl, rfl⟩ ?_
  rintro m X ⟨hm, ht, e⟩
  subst X
  refine bC_sound _ _ _ _ ?_
  by_cases hml : m < L.length
  · have d1 : decide ((m : Int) < (L.length : Int)) = true := decide_eq_true (by omega)
    obtain ⟨x, hx⟩ := get_lt hml
    obtain ⟨y, hy⟩ := get_lt (L := M) (m := m) (by omega)
    obtain ⟨p, i1, i2⟩ := ld_int hu hx
    obtain ⟨q, j1, j2⟩ := ld_int hv hy
    have i3 := i2 H (.refl _)
    have j3 := j2 H (.refl _)
    (try (conv => whnf)); (repeat ((fail_if_success (with_reducible refine And.intro ?_ ?_)); (fail_if_success (with_reducible refine Exists.intro ?_ ?_)); (first | (apply Ob.of; (first | with_reducible assumption | with_reducible exact ex20 _ _ | with_reducible exact ex21 _ _ | with_reducible exact ex30 _ _ _ | with_reducible exact ex31 _ _ _ | with_reducible exact ex32 _ _ _ | rfl | (exact ald rfl rfl (by assumption) rfl) | (exact ald_agg rfl rfl rfl (by assumption) rfl)); (conv => whnf)) | (apply bIf.yes; (first | assumption | rfl); (conv => whnf)) | (apply bIf.no; (first | assumption | rfl); (conv => whnf)) | ((with_reducible refine Ob.load (by with_unfolding_all assumption) ?_); (conv => whnf)) | (apply Grows.mk; (first | exact Grow.refl _ | assumption); (conv => whnf)))))
    apply SW.drawG [(0, [], [18, 21, 22, 23, 24], false), (1, [], [17, 21, 22, 23, 24], false), (2, [(17, 0), (18, 1)], [17, 18, 21, 22, 23, 24], false), (3, [(17, 0), (18, 1), (19, 2)], [17, 18, 19, 21, 22, 23, 24], false), (4, [], [17, 18, 19, 20, 22], false), (5, [], [17, 18, 19, 20, 21], false), (6, [(21, 4), (22, 5)], [17, 18, 19, 20, 21, 22], false), (7, [(21, 4), (22, 5), (23, 6)], [17, 18, 19, 20, 21, 22, 23], false), (8, [(17, 0), (18, 1), (19, 2), (20, 3), (21, 4), (22, 5), (23, 6), (24, 7)], [17, 18, 19, 20, 21, 22, 23, 24], false)]
      [(17, 0), (18, 1), (19, 2), (20, 3), (21, 4), (22, 5), (23, 6), (24, 7), (25, 8)]
      [(0, _), (1, _), (5, _)] rfl (by kernel_rfl)
    case hF => exact ⟨rfl, rfl, rfl, trivial⟩
    (try (conv => whnf)); (repeat' ((fail_if_success (with_reducible refine And.intro ?_ ?_)); (fail_if_success (with_reducible refine Exists.intro ?_ ?_)); (first | (first | (apply Ob.of; (first | with_reducible assumption | with_reducible exact ex20 _ _ | with_reducible exact ex21 _ _ | with_reducible exact ex30 _ _ _ | with_reducible exact ex31 _ _ _ | with_reducible exact ex32 _ _ _ | rfl | (exact ald rfl rfl (by assumption) rfl) | (exact ald_agg rfl rfl rfl (by assumption) rfl)); (conv => whnf)) | (apply bIf.yes; (first | assumption | rfl); (conv => whnf)) | (apply bIf.no; (first | assumption | rfl); (conv => whnf)) | ((with_reducible refine Ob.load (by with_unfolding_all assumption) ?_); (conv => whnf)) | (apply Grows.mk; (first | exact Grow.refl _ | assumption); (conv => whnf))) | (apply bIf.of <;> intro hc <;> (conv => whnf)))))
    · have hne : x ≠ y := by simpa using hc
      refine ⟨congrArg Value.bool (decide_eq_false fun h => hne ?_).symm, rfl⟩
      subst h
      rw [hx] at hy
      simpa using hy
    · have hxy : x = y := by simpa using hc
      subst hxy
      exact ⟨m + 1, ⟨rfl, rfl, congrArg (fun z => some (Value.int .i64 z)) (w_succ (by omega)), trivial⟩, ⟨hml, take_next ht hx hy, rfl⟩, by show L.length - (m + 1) < L.length - m; omega⟩
  · have d1 : decide ((m : Int) < (L.length : Int)) = false := decide_eq_false (by omega)
    have hLM : L = M := by rwa [List.take_of_length_le (by omega), List.take_of_length_le (by omega)] at ht
    rw [decide_eq_true hLM]
    (try (conv => whnf)); (repeat ((fail_if_success (with_reducible refine And.intro ?_ ?_)); (fail_if_success (with_reducible refine Exists.intro ?_ ?_)); (first | (apply Ob.of; (first | with_reducible assumption | with_reducible exact ex20 _ _ | with_reducible exact ex21 _ _ | with_reducible exact ex30 _ _ _ | with_reducible exact ex31 _ _ _ | with_reducible exact ex32 _ _ _ | rfl | (exact ald rfl rfl (by assumption) rfl) | (exact ald_agg rfl rfl rfl (by assumption) rfl)); (conv => whnf)) | (apply bIf.yes; (first | assumption | rfl); (conv => whnf)) | (apply bIf.no; (first | assumption | rfl); (conv => whnf)) | ((with_reducible refine Ob.load (by with_unfolding_all assumption) ?_); (conv => whnf)) | (apply Grows.mk; (first | exact Grow.refl _ | assumption); (conv => whnf)))))
    exact ⟨rfl, rfl⟩
def c1 : CodeT := (0, 0, 0, 1, [(2, 0, 0), (32, 0, 0)])
def c2 : CodeT := (0, 0, 0, 1, [(31, 0, 0), (2, 0, 0), (32, 0, 0)])
def p1 : ProgT := (0, [], [c1])
def p2 : ProgT := (0, [], [c2])
theorem p1_ok : CheckP p1 := by
  refine ⟨by decide, by decide, by decide, by decide, by decide, fun s hs => by simp [p1] at hs, fun f c hc => ?_⟩
  have : f = 0 ∧ c = c1 := by
    cases f with
    | zero => simp [p1] at hc; exact ⟨rfl, hc.symm⟩
    | succ f => simp [p1] at hc
  obtain ⟨rfl, rfl⟩ := this
  have key : ∀ (i : Nat) (x : Ins), c1.ins[i]? = some x → i = 0 ∧ x = (2, 0, 0) ∨ i = 1 ∧ x = (32, 0, 0) := by
    intro i x hx
    match i, hx with
    | 0, hx => simp [c1, CodeT.ins] at hx; exact .inl ⟨rfl, hx.symm⟩
    | 1, hx => simp [c1, CodeT.ins] at hx; exact .inr ⟨rfl, hx.symm⟩
    | i + 2, hx => simp [c1, CodeT.ins] at hx
  refine ⟨by unfold Lim; simp [c1, CodeT.ins], fun i x hi hx => ?_, [0, 1], ⟨rfl, rfl, fun i d hd => ?_⟩, fun i d x hd h0 hx => ?_⟩
  · rcases key i x hx with ⟨rfl, rfl⟩ | ⟨rfl, rfl⟩ <;> decide
  · match i, hd with
    | 0, hd => simp at hd; subst hd; exact .inr ⟨by decide, .start⟩
    | 1, hd =>
      simp at hd; subst hd
      have := Reach.step (c := c1) (i := 0) (d := 0) (x := (2, 0, 0)) (k := 0) (t := 1) .start rfl (by decide) (by decide) (by decide) (by decide) (by decide)
      exact .inr ⟨by decide, this⟩
    | i + 2, hd => simp at hd
  · rcases key i x hx with ⟨rfl, rfl⟩ | ⟨rfl, rfl⟩
    · simp at hd
      subst hd
      refine ⟨by decide, by decide, fun k t ht => ?_⟩
      match k, ht with
      | 0, ht =>
        have : t = 1 := by have h : (tgt c1.ins ((0 : Nat) : Int))[0]? = some 1 := by decide
                           rw [h] at ht; simpa using ht.symm
        subst this
        decide
      | k + 1, ht =>
        have h : (tgt c1.ins ((0 : Nat) : Int)).length = 1 := by decide
        rw [List.getElem?_eq_none (by omega)] at ht
        simp at ht
    · simp at hd
      subst hd
      refine ⟨by decide, by decide, fun k t ht => ?_⟩
      have h : (tgt c1.ins ((1 : Nat) : Int)).length = 0 := by decide
      rw [List.getElem?_eq_none (by omega)] at ht
      simp at ht
theorem p2_no : ¬ CheckP p2 := fun h => by
  obtain ⟨L, hL⟩ := (h.2.2.2.2.2.2 0 c2 rfl).2.2
  exact hL.good (.inl ⟨0, 0, (31, 0, 0), .start, rfl, .inl (by decide)⟩)
theorem works_ax (H : Heap) : AX Try.prog 7 #[] H (fun r H' => r = .bool true ∧ H' = H) := by
  refine AX.quiet ?_
  suffices hh : AX Try.prog 7 #[] H (fun v H' => v = .bool true ∧ Grow H H') from hh.mono fun v _ ⟨e, g⟩ => ⟨e ▸ plain_bool _, e, g⟩
  refine AX.body (n := 39) (rs := [.tmp 0]) Try.func7 rfl (by decide) rfl rfl (bC_sound _ _ _ _ ?_)
  (try (conv => whnf)); (repeat ((fail_if_success (with_reducible refine And.intro ?_ ?_)); (fail_if_success (with_reducible refine Exists.intro ?_ ?_)); (first | (apply Ob.of; (first | with_reducible assumption | with_reducible exact ex20 _ _ | with_reducible exact ex21 _ _ | with_reducible exact ex30 _ _ _ | with_reducible exact ex31 _ _ _ | with_reducible exact ex32 _ _ _ | rfl | (exact ald rfl rfl (by assumption) rfl) | (exact ald_agg rfl rfl rfl (by assumption) rfl)); (conv => whnf)) | (apply bIf.yes; (first | assumption | rfl); (conv => whnf)) | (apply bIf.no; (first | assumption | rfl); (conv => whnf)) | ((with_reducible refine Ob.load (by with_unfolding_all assumption) ?_); (conv => whnf)) | (apply Grows.mk; (first | exact Grow.refl _ | assumption); (conv => whnf)))))
  refine Ob2.lay (H := H) (.cells (.row 29) [.int .i64 2, .int .i64 0, .int .i64 0, .int .i64 32, .int .i64 0, .int .i64 0]) (.slice (some ⟨H.length, 0, none⟩) 2 3) rfl fun H1 a1 g1 l1 => ?_
  (try (conv => whnf)); (repeat ((fail_if_success (with_reducible refine And.intro ?_ ?_)); (fail_if_success (with_reducible refine Exists.intro ?_ ?_)); (first | (apply Ob.of; (first | with_reducible assumption | with_reducible exact ex20 _ _ | with_reducible exact ex21 _ _ | with_reducible exact ex30 _ _ _ | with_reducible exact ex31 _ _ _ | with_reducible exact ex32 _ _ _ | rfl | (exact ald rfl rfl (by assumption) rfl) | (exact ald_agg rfl rfl rfl (by assumption) rfl)); (conv => whnf)) | (apply bIf.yes; (first | assumption | rfl); (conv => whnf)) | (apply bIf.no; (first | assumption | rfl); (conv => whnf)) | ((with_reducible refine Ob.load (by with_unfolding_all assumption) ?_); (conv => whnf)) | (apply Grows.mk; (first | exact Grow.refl _ | assumption); (conv => whnf)))))
  refine Ob2.lay (H := H1) (.cells (.row 24) [.int .i64 0, .int .i64 0, .int .i64 0, .int .i64 1, .slice (some ⟨H.length, 0, none⟩) 2 3]) (.slice (some ⟨H1.length, 0, none⟩) 1 5) rfl fun H2 a2 g2 l2 => ?_
  (try (conv => whnf)); (repeat ((fail_if_success (with_reducible refine And.intro ?_ ?_)); (fail_if_success (with_reducible refine Exists.intro ?_ ?_)); (first | (apply Ob.of; (first | with_reducible assumption | with_reducible exact ex20 _ _ | with_reducible exact ex21 _ _ | with_reducible exact ex30 _ _ _ | with_reducible exact ex31 _ _ _ | with_reducible exact ex32 _ _ _ | rfl | (exact ald rfl rfl (by assumption) rfl) | (exact ald_agg rfl rfl rfl (by assumption) rfl)); (conv => whnf)) | (apply bIf.yes; (first | assumption | rfl); (conv => whnf)) | (apply bIf.no; (first | assumption | rfl); (conv => whnf)) | ((with_reducible refine Ob.load (by with_unfolding_all assumption) ?_); (conv => whnf)) | (apply Grows.mk; (first | exact Grow.refl _ | assumption); (conv => whnf)))))
  refine Ob2.alloc rfl fun q3 H3 hq3 a3 g3 => ?_
  (try (conv => whnf)); (repeat ((fail_if_success (with_reducible refine And.intro ?_ ?_)); (fail_if_success (with_reducible refine Exists.intro ?_ ?_)); (first | (apply Ob.of; (first | with_reducible assumption | with_reducible exact ex20 _ _ | with_reducible exact ex21 _ _ | with_reducible exact ex30 _ _ _ | with_reducible exact ex31 _ _ _ | with_reducible exact ex32 _ _ _ | rfl | (exact ald rfl rfl (by assumption) rfl) | (exact ald_agg rfl rfl rfl (by assumption) rfl)); (conv => whnf)) | (apply bIf.yes; (first | assumption | rfl); (conv => whnf)) | (apply bIf.no; (first | assumption | rfl); (conv => whnf)) | ((with_reducible refine Ob.load (by with_unfolding_all assumption) ?_); (conv => whnf)) | (apply Grows.mk; (first | exact Grow.refl _ | assumption); (conv => whnf)))))
  refine Ob.store rfl rfl rfl a3 rfl (by first | exact Nat.le_of_ble_eq_true rfl | simp) fun H4 s4 k4 l4 => ?_
  have g4 : Grow H2 H4 := g3.but_new k4 (by omega)
  (try (conv => whnf)); (repeat ((fail_if_success (with_reducible refine And.intro ?_ ?_)); (fail_if_success (with_reducible refine Exists.intro ?_ ?_)); (first | (apply Ob.of; (first | with_reducible assumption | with_reducible exact ex20 _ _ | with_reducible exact ex21 _ _ | with_reducible exact ex30 _ _ _ | with_reducible exact ex31 _ _ _ | with_reducible exact ex32 _ _ _ | rfl | (exact ald rfl rfl (by assumption) rfl) | (exact ald_agg rfl rfl rfl (by assumption) rfl)); (conv => whnf)) | (apply bIf.yes; (first | assumption | rfl); (conv => whnf)) | (apply bIf.no; (first | assumption | rfl); (conv => whnf)) | ((with_reducible refine Ob.load (by with_unfolding_all assumption) ?_); (conv => whnf)) | (apply Grows.mk; (first | exact Grow.refl _ | assumption); (conv => whnf)))))
  refine Ob2.lay (H := H4) (.cells (.row 29) [.int .i64 31, .int .i64 0, .int .i64 0, .int .i64 2, .int .i64 0, .int .i64 0, .int .i64 32, .int .i64 0, .int .i64 0]) (.slice (some ⟨H4.length, 0, none⟩) 3 3) rfl fun H5 a5 g5 l5 => ?_
  (try (conv => whnf)); (repeat ((fail_if_success (with_reducible refine And.intro ?_ ?_)); (fail_if_success (with_reducible refine Exists.intro ?_ ?_)); (first | (apply Ob.of; (first | with_reducible assumption | with_reducible exact ex20 _ _ | with_reducible exact ex21 _ _ | with_reducible exact ex30 _ _ _ | with_reducible exact ex31 _ _ _ | with_reducible exact ex32 _ _ _ | rfl | (exact ald rfl rfl (by assumption) rfl) | (exact ald_agg rfl rfl rfl (by assumption) rfl)); (conv => whnf)) | (apply bIf.yes; (first | assumption | rfl); (conv => whnf)) | (apply bIf.no; (first | assumption | rfl); (conv => whnf)) | ((with_reducible refine Ob.load (by with_unfolding_all assumption) ?_); (conv => whnf)) | (apply Grows.mk; (first | exact Grow.refl _ | assumption); (conv => whnf)))))
  refine Ob2.lay (H := H5) (.cells (.row 24) [.int .i64 0, .int .i64 0, .int .i64 0, .int .i64 1, .slice (some ⟨H4.length, 0, none⟩) 3 3]) (.slice (some ⟨H5.length, 0, none⟩) 1 5) rfl fun H6 a6 g6 l6 => ?_
  (try (conv => whnf)); (repeat ((fail_if_success (with_reducible refine And.intro ?_ ?_)); (fail_if_success (with_reducible refine Exists.intro ?_ ?_)); (first | (apply Ob.of; (first | with_reducible assumption | with_reducible exact ex20 _ _ | with_reducible exact ex21 _ _ | with_reducible exact ex30 _ _ _ | with_reducible exact ex31 _ _ _ | with_reducible exact ex32 _ _ _ | rfl | (exact ald rfl rfl (by assumption) rfl) | (exact ald_agg rfl rfl rfl (by assumption) rfl)); (conv => whnf)) | (apply bIf.yes; (first | assumption | rfl); (conv => whnf)) | (apply bIf.no; (first | assumption | rfl); (conv => whnf)) | ((with_reducible refine Ob.load (by with_unfolding_all assumption) ?_); (conv => whnf)) | (apply Grows.mk; (first | exact Grow.refl _ | assumption); (conv => whnf)))))
  refine Ob2.alloc rfl fun q7 H7 hq7 a7 g7 => ?_
  (try (conv => whnf)); (repeat ((fail_if_success (with_reducible refine And.intro ?_ ?_)); (fail_if_success (with_reducible refine Exists.intro ?_ ?_)); (first | (apply Ob.of; (first | with_reducible assumption | with_reducible exact ex20 _ _ | with_reducible exact ex21 _ _ | with_reducible exact ex30 _ _ _ | with_reducible exact ex31 _ _ _ | with_reducible exact ex32 _ _ _ | rfl | (exact ald rfl rfl (by assumption) rfl) | (exact ald_agg rfl rfl rfl (by assumption) rfl)); (conv => whnf)) | (apply bIf.yes; (first | assumption | rfl); (conv => whnf)) | (apply bIf.no; (first | assumption | rfl); (conv => whnf)) | ((with_reducible refine Ob.load (by with_unfolding_all assumption) ?_); (conv => whnf)) | (apply Grows.mk; (first | exact Grow.refl _ | assumption); (conv => whnf)))))
  refine Ob.store rfl rfl rfl a7 rfl (by first | exact Nat.le_of_ble_eq_true rfl | simp) fun H8 s8 k8 l8 => ?_
  have g8 : Grow H6 H8 := g7.but_new k8 (by omega)
  have g48 : Grow H4 H8 := (g5.trans g6).trans g8
  have r1 : RL 3 insR H8 (.slice (some ⟨H.length, 0, none⟩) 2 3) c1.ins := .inr ⟨_, rfl, .inr ⟨_, _, g48.at (g4.at (g2.at a1)), fun i x hx => by
    match i, hx with
    | 0, hx => simp [c1, CodeT.ins] at hx; subst hx; exact ⟨_, rfl, rfl⟩
    | 1, hx => simp [c1, CodeT.ins] at hx; subst hx; exact ⟨_, rfl, rfl⟩
    | i + 2, hx => simp [c1, CodeT.ins] at hx⟩⟩
  have r2 : RL 3 insR H8 (.slice (some ⟨H4.length, 0, none⟩) 3 3) c2.ins := .inr ⟨_, rfl, .inr ⟨_, _, g8.at (g6.at a5), fun i x hx => by
    match i, hx with
    | 0, hx => simp [c2, CodeT.ins] at hx; subst hx; exact ⟨_, rfl, rfl⟩
    | 1, hx => simp [c2, CodeT.ins] at hx; subst hx; exact ⟨_, rfl, rfl⟩
    | 2, hx => simp [c2, CodeT.ins] at hx; subst hx; exact ⟨_, rfl, rfl⟩
    | i + 3, hx => simp [c2, CodeT.ins] at hx⟩⟩
  have r3 : RL 5 codeR H8 (.slice (some ⟨H1.length, 0, none⟩) 1 5) p1.2.2 := .inr ⟨_, rfl, .inr ⟨_, _, g48.at (g4.at a2), fun i x hx => by
    match i, hx with
    | 0, hx => simp [p1] at hx; subst hx; exact ⟨_, rfl, _, rfl, r1⟩
    | i + 1, hx => simp [p1] at hx⟩⟩
  have r4 : RL 5 codeR H8 (.slice (some ⟨H5.length, 0, none⟩) 1 5) p2.2.2 := .inr ⟨_, rfl, .inr ⟨_, _, g8.at a6, fun i x hx => by
    match i, hx with
    | 0, hx => simp [p2] at hx; subst hx; exact ⟨_, rfl, _, rfl, r2⟩
    | i + 1, hx => simp [p2] at hx⟩⟩
  have b1 := g48.hblk (hblk_of s4)
  have b2 := hblk_of s8
  have g : Grow H H8 := ((g1.trans g2).trans g4).trans g48
  (try (conv => whnf)); (repeat ((fail_if_success (with_reducible refine And.intro ?_ ?_)); (fail_if_success (with_reducible refine Exists.intro ?_ ?_)); (first | (apply Ob.of; (first | with_reducible assumption | with_reducible exact ex20 _ _ | with_reducible exact ex21 _ _ | with_reducible exact ex30 _ _ _ | with_reducible exact ex31 _ _ _ | with_reducible exact ex32 _ _ _ | rfl | (exact ald rfl rfl (by assumption) rfl) | (exact ald_agg rfl rfl rfl (by assumption) rfl)); (conv => whnf)) | (apply bIf.yes; (first | assumption | rfl); (conv => whnf)) | (apply bIf.no; (first | assumption | rfl); (conv => whnf)) | ((with_reducible refine Ob.load (by with_unfolding_all assumption) ?_); (conv => whnf)) | (apply Grows.mk; (first | exact Grow.refl _ | assumption); (conv => whnf)))))
  refine (effect_ax _ _ _ _).mono ?_
  rintro _ X ⟨rfl, e⟩
  subst X
  rw [show eff 28 2 = (4, 1) by decide]
  (try (conv => whnf)); (repeat ((fail_if_success (with_reducible refine And.intro ?_ ?_)); (fail_if_success (with_reducible refine Exists.intro ?_ ?_)); (first | (apply Ob.of; (first | with_reducible assumption | with_reducible exact ex20 _ _ | with_reducible exact ex21 _ _ | with_reducible exact ex30 _ _ _ | with_reducible exact ex31 _ _ _ | with_reducible exact ex32 _ _ _ | rfl | (exact ald rfl rfl (by assumption) rfl) | (exact ald_agg rfl rfl rfl (by assumption) rfl)); (conv => whnf)) | (apply bIf.yes; (first | assumption | rfl); (conv => whnf)) | (apply bIf.no; (first | assumption | rfl); (conv => whnf)) | ((with_reducible refine Ob.load (by with_unfolding_all assumption) ?_); (conv => whnf)) | (apply Grows.mk; (first | exact Grow.refl _ | assumption); (conv => whnf)))))
  refine (check_ax (p := p1) (.inl ⟨rfl, rfl⟩) r3 (by decide)).mono ?_
  rintro v X ⟨hv, e⟩
  subst X
  rcases hv with ⟨rfl, _⟩ | ⟨_, h⟩
  rotate_left
  · exact absurd p1_ok h
  (try (conv => whnf)); (repeat ((fail_if_success (with_reducible refine And.intro ?_ ?_)); (fail_if_success (with_reducible refine Exists.intro ?_ ?_)); (first | (apply Ob.of; (first | with_reducible assumption | with_reducible exact ex20 _ _ | with_reducible exact ex21 _ _ | with_reducible exact ex30 _ _ _ | with_reducible exact ex31 _ _ _ | with_reducible exact ex32 _ _ _ | rfl | (exact ald rfl rfl (by assumption) rfl) | (exact ald_agg rfl rfl rfl (by assumption) rfl)); (conv => whnf)) | (apply bIf.yes; (first | assumption | rfl); (conv => whnf)) | (apply bIf.no; (first | assumption | rfl); (conv => whnf)) | ((with_reducible refine Ob.load (by with_unfolding_all assumption) ?_); (conv => whnf)) | (apply Grows.mk; (first | exact Grow.refl _ | assumption); (conv => whnf)))))
  refine (check_ax (p := p2) (.inl ⟨rfl, rfl⟩) r4 (by decide)).mono ?_
  rintro v X ⟨hv, e⟩
  subst X
  rcases hv with ⟨_, h⟩ | ⟨rfl, _⟩
  · exact absurd h p2_no
  (try (conv => whnf)); (repeat ((fail_if_success (with_reducible refine And.intro ?_ ?_)); (fail_if_success (with_reducible refine Exists.intro ?_ ?_)); (first | (apply Ob.of; (first | with_reducible assumption | with_reducible exact ex20 _ _ | with_reducible exact ex21 _ _ | with_reducible exact ex30 _ _ _ | with_reducible exact ex31 _ _ _ | with_reducible exact ex32 _ _ _ | rfl | (exact ald rfl rfl (by assumption) rfl) | (exact ald_agg rfl rfl rfl (by assumption) rfl)); (conv => whnf)) | (apply bIf.yes; (first | assumption | rfl); (conv => whnf)) | (apply bIf.no; (first | assumption | rfl); (conv => whnf)) | ((with_reducible refine Ob.load (by with_unfolding_all assumption) ?_); (conv => whnf)) | (apply Grows.mk; (first | exact Grow.refl _ | assumption); (conv => whnf)))))
  exact ⟨rfl, g⟩
end Go.Proofs.Ytnjokekdoaflhaa
