/- The document's policy: a new one. -/
import Derived.Test.YtdceiblihamfmaaPol8
set_option linter.unusedVariables false
set_option linter.unusedSimpArgs false
set_option maxRecDepth 20000
namespace Go.Proofs.Ytdceiblihamfmaa
open Go Ax
/-- One pick more: what append does. -/
theorem app_pick {H : Heap} {lv : Value} {L : List (Int × Int)} {x : Int × Int} {N : Nat} (h : RPk N H lv L) (hN : N ≤ H.length) (hl : L.length ≤ 400) :
    ∃ lv' H', aappend Try.prog 22 22 lv (.slice (some ⟨H.length, 0, none⟩) 1 2) (H ++ [.cells (.row 28) [.int .i64 x.1, .int .i64 x.2]]) = some (lv', H') ∧ RPk N H' lv' (L ++ [x]) ∧ H.length ≤ H'.length ∧
      ∀ b, b < H.length → (b < N ∨ NB H b) → H'[b]? = H[b]? := by
  have hq : (H ++ [Blk.cells (.row 28) [.int .i64 x.1, .int .i64 x.2]])[H.length]? = some (.cells (.row 28) [.int .i64 x.1, .int .i64 x.2]) := at_push _ _
  have hsrc := src_some (k := 2) (n := 1) (off := 0) (by decide) (hblk_of hq) (slots_two rfl rfl)
  rcases h with ⟨rfl, rfl⟩ | ⟨b, c, h0, rfl, h2, h3, h4⟩
  · refine ⟨_, _, append_nil (k := 2) rfl rfl rfl rfl rfl (by decide) rfl rfl rfl hsrc (by decide) (by decide) (by decide), ?_, ?_, ?_⟩
    · refine .inr ⟨_, _, by simp; omega, rfl, at_push _ _, fun i y hy => ?_, rfl⟩
      match i, hy with
      | 0, hy => simp only [List.nil_append, List.getElem?_cons_zero, Option.some.injEq] at hy; subst hy; exact ⟨rfl, rfl⟩
    · simp
    · intro b hb _
      rw [List.getElem?_append_left (by simp; omega), List.getElem?_append_left hb]
  · have hb : (H ++ [Blk.cells (.row 28) [.int .i64 x.1, .int .i64 x.2]])[b]? = some (.cells (.row 28) c) := (Grow.push H _).at h2
    have hbl := lt_at h2
    have ho : slotsOf c 0 (L.length * 2) = some c := by rw [slots_of (by omega)]; simp [← h4]
    refine ⟨_, _, append_row (k := 2) rfl rfl rfl rfl rfl (by decide) rfl rfl rfl hsrc (by decide) hb ho (show (L.length + 1) * 16 ≤ _ by omega) (by simp only [maxLen]; omega), ?_, ?_, ?_⟩
    · refine .inr ⟨H.length + 1, c ++ [.int .i64 x.1, .int .i64 x.2], by omega, by simp, ?_, fun i y hy => ?_, by simp [h4]; omega⟩
      · rw [List.getElem?_append_right (by simp)]; simp
      · by_cases hi : i < L.length
        · rw [List.getElem?_append_left hi] at hy
          have := h3 i y hy
          rw [List.getElem?_append_left (by omega), List.getElem?_append_left (by omega)]
          exact this
        · rw [List.getElem?_append_right (by omega)] at hy
          have hi' : i = L.length := by have := (List.getElem?_eq_some_iff.1 hy).1; simp at this; omega
          subst hi'
          simp at hy
          subst hy
          rw [List.getElem?_append_right (by omega), List.getElem?_append_right (by omega)]
          rw [show 0 + L.length * 2 - c.length = 0 by omega, show 0 + L.length * 2 + 1 - c.length = 1 by omega]
          exact ⟨rfl, rfl⟩
    · simp; omega
    · intro b' hb' hor
      have hne : b' ≠ b := by
        rcases hor with h | h
        · omega
        · exact fun e => by subst e; have := h _ _ h2; simp [aV] at this
      rw [List.getElem?_append_left (by simp; omega), List.getElem?_set_ne (fun e => hne e.symm), List.getElem?_append_left hb']
theorem RPk.zero {N : Nat} {H : Heap} {lv : Value} {L : List (Int × Int)} (h : RPk N H lv L) : RPk 0 H lv L := by
  rcases h with h | ⟨b, c, _, h⟩
  · exact .inl h
  · exact .inr ⟨b, c, Nat.zero_le _, h⟩
theorem rnew_ax {H : Heap} {sv : Value} {x0 : List (Int × Int)} (hp : Pk H sv x0) (hlen : ∀ H', alen Try.prog 22 sv H' = some (.int .i64 x0.length)) (fns : Int) :
    AX Try.prog 12 #[sv, .int .i64 fns] H (fun v H' => Grow H H' ∧ ∃ r, v = ptr r ∧ H.length ≤ r ∧ RPol H' r (x0.take 400) 0 8 (List.replicate (clampF fns).toNat 0)) := by
  refine AX.body (n := 39) (rs := [.tmp 4]) Try.func12 rfl (by decide) rfl rfl (bC_sound _ _ _ _ ?_)
  have three : (fns < 0 ∧ clampF fns = 0) ∨ (fns > 32 ∧ clampF fns = 32) ∨ (0 ≤ fns ∧ fns ≤ 32 ∧ clampF fns = fns) := by
    unfold clampF
    split <;> split <;> omega
  rcases three with ⟨t1, hF⟩ | ⟨t1, hF⟩ | ⟨t1, t2, hF⟩
  · have d1 : decide (fns < 0) = true := decide_eq_true t1
    rw [hF]
    (try (conv => whnf)); repeat (first | (refine Ob.of (by first | rfl | (exact ald rfl rfl (by assumption) rfl) | (exact ald_agg rfl rfl rfl (by assumption) rfl)) ?_; (conv => whnf)) | (refine bIf.yes (by first | assumption | rfl) ?_; (conv => whnf)) | (refine bIf.no (by first | assumption | rfl) ?_; (conv => whnf)))
    refine Ob2.of (make_slice (e := 3) (k := 1) (n := 0) rfl rfl rfl rfl (by decide) rfl (by omega) (by omega) (show (8 : Int) * 0 ≤ _ by omega)) ?_
    rw [zeros_one]
    (try (conv => whnf)); repeat (first | (refine Ob.of (by first | rfl | (exact ald rfl rfl (by assumption) rfl) | (exact ald_agg rfl rfl rfl (by assumption) rfl)) ?_; (conv => whnf)) | (refine bIf.yes (by first | assumption | rfl) ?_; (conv => whnf)) | (refine bIf.no (by first | assumption | rfl) ?_; (conv => whnf)))
    refine Ob2.box rfl fun r H2 hr l1 l2 => ?_
    have g2 : Grow H H2 := (Grow.push H _).trans l2
    have hb2 : H2[H.length]? = some (.cells (.row 3) ((List.replicate (Int.toNat 0) (0 : Int)).map (.int .i64))) := by rw [List.map_replicate]; exact l2.at (at_push _ _)
    have hrl : H.length < r := by rw [hr]; simp
    replace l1 : H2[r]? = some (.cells .var (refC (.slice none 0 0) 0 8 H.length (Int.toNat 0))) := l1
    (try (conv => whnf)); repeat (first | (refine Ob.of (by first | rfl | (exact ald rfl rfl (by assumption) rfl) | (exact ald_agg rfl rfl rfl (by assumption) rfl)) ?_; (conv => whnf)) | (refine bIf.yes (by first | assumption | rfl) ?_; (conv => whnf)) | (refine bIf.no (by first | assumption | rfl) ?_; (conv => whnf)))
    refine SW.loop (α := Nat) (fun k => [(0, sv), (5, ptr r), (6, .int .i64 k)])
      (fun k X => k ≤ (x0.take 400).length ∧ Grow H X ∧ X[H.length]? = some (.cells (.row 3) ((List.replicate (Int.toNat 0) (0 : Int)).map (.int .i64))) ∧ ∃ lv, X[r]? = some (.cells .var (refC lv 0 8 H.length (Int.toNat 0))) ∧ RPk H.length X lv (x0.take k)) (fun k => 400 - k)
      ⟨0, ⟨rfl, rfl, rfl, trivial⟩, by omega, g2, hb2, _, l1, .inl ⟨rfl, rfl⟩⟩ ?_
    rintro k H3 ⟨hk, g3, hb3, lv, hr3, hl3⟩
    refine bC_sound _ _ _ _ ?_
    rw [List.length_take] at hk
    have hra := hblk_of hr3
    (conv => whnf)
    refine Ob.of (hlen H3) ?_
    (conv => whnf)
    refine Ob.of rfl ?_
    (conv => whnf)
    by_cases hkl : (k : Int) < x0.length
    · have e1 : decide ((k : Int) < x0.length) = true := decide_eq_true hkl
      refine bIf.yes e1 ?_
      (conv => whnf)
      refine bIf.yes e1 ?_
      (conv => whnf)
      refine Ob.of rfl ?_
      (conv => whnf)
      refine bIf.yes e1 ?_
      (conv => whnf)
      by_cases hk4 : (k : Int) < 400
      · have e2 : decide ((k : Int) < 400) = true := decide_eq_true hk4
        refine bIf.yes e2 ?_
        (conv => whnf)
        have hx : x0[k]? = some (x0[k]'(by omega)) := List.getElem?_eq_getElem _
        revert hx
        generalize x0[k]'(by omega) = x
        intro hx
        rcases (hp.grow g3) with ⟨_, rfl⟩ | ⟨b0, off, rfl, h0 | ⟨m, c, h0, _, h1⟩⟩
        · simp at hx
        · subst h0; simp at hx
        have hs := slots_two (h1 k x hx).1 (h1 k x hx).2
        have hb0 := hblk_of h0
        obtain ⟨lv', H5, happ, p1, p2, p3⟩ := app_pick (x := x) hl3 g3.1 (by rw [List.length_take]; omega)
        have hr5 : H5[r]? = _ := (p3 r (lt_at hr3) (.inr (.of hr3))).trans hr3
        obtain ⟨H6, hst, s1, s2, s3⟩ := store_ex (P := Try.prog) (t := 22) (off := 0) (v := lv') (vs := [lv']) (by rcases p1 with ⟨rfl, _⟩ | ⟨_, _, _, rfl, _⟩ <;> rfl) rfl rfl hr5 rfl (by first | exact Nat.le_of_ble_eq_true rfl | simp)
        have hrb := hblk_of ((Grow.push H3 [.cells (.row 28) [.int .i64 x.1, .int .i64 x.2]]).at hr3)
        apply SW.draw2 [([], [26, 27, 28, 29, 30, 31, 32, 33, 34, 35], 0, 2, false), ([], [25, 30, 31, 32, 33, 34], 0, 1, false), ([(26, 1)], [25, 26, 30, 31, 32, 33, 34], 0, 1, false), ([(26, 1), (27, 2)], [25, 26, 27, 30, 31, 32, 33, 34], 0, 1, false), ([(26, 1), (27, 2), (28, 3)], [25, 26, 27, 28, 30, 31, 32, 33, 34], 0, 1, false), ([], [25, 26, 27, 28, 29, 31], 0, 0, false), ([], [25, 26, 27, 28, 29, 30], 0, 0, false), ([(30, 5), (31, 6)], [25, 26, 27, 28, 29, 30, 31], 0, 0, false), ([(30, 5), (31, 6), (32, 7)], [25, 26, 27, 28, 29, 30, 31, 32], 0, 0, false), ([(30, 5), (31, 6), (32, 7), (33, 8)], [25, 26, 27, 28, 29, 30, 31, 32, 33], 0, 0, true), ([(26, 1), (27, 2), (28, 3), (29, 4), (30, 5), (31, 6), (32, 7), (33, 8), (34, 9)], [25, 26, 27, 28, 29, 30, 31, 32, 33, 34], 1, 0, true), ([(25, 0), (26, 1), (27, 2), (28, 3), (29, 4), (30, 5), (31, 6), (32, 7), (33, 8), (34, 9), (35, 10)], [25, 26, 27, 28, 29, 30, 31, 32, 33, 34, 35], 2, 0, false), ([(25, 0), (26, 1), (27, 2), (28, 3), (29, 4), (30, 5), (31, 6), (32, 7), (33, 8), (34, 9), (35, 10), (36, 11)], [25, 26, 27, 28, 29, 30, 31, 32, 33, 34, 35, 36], 2, 0, false), ([(25, 0), (26, 1), (27, 2), (28, 3), (29, 4), (30, 5), (31, 6), (32, 7), (33, 8), (34, 9), (35, 10), (36, 11), (37, 12)], [25, 26, 27, 28, 29, 30, 31, 32, 33, 34, 35, 36, 37], 2, 0, true)]
          [(25, 0), (26, 1), (27, 2), (28, 3), (29, 4), (30, 5), (31, 6), (32, 7), (33, 8), (34, 9), (35, 10), (36, 11), (37, 12)] 3
          [(0, _), (5, _), (6, _)] [_, _, _, _, _, _, _, _, _, _, _, _, _, _] [H3, H3 ++ [.cells (.row 28) [.int .i64 x.1, .int .i64 x.2]], H5, H6] rfl (by kernel_rfl)
        case hF => exact ⟨rfl, rfl, rfl, trivial⟩
        case h0 => rfl
        case steps =>
          (try (conv => whnf)); repeat' (first | (refine Ob.of rfl ?_; (conv => whnf)) | exact Leaf.mk rfl rfl | (refine Ob.of (ald rfl rfl (by assumption) rfl) ?_; (conv => whnf)) | (refine And.intro ?_ ?_ <;> (conv => whnf)) | (refine Ob.of (by first | exact idx_slice (off := off) (k := 2) rfl rfl (Int.natCast_nonneg k) hkl | exact ald_agg rfl rfl rfl hb0 hs | exact ald rfl rfl hra rfl | exact ald rfl rfl hrb rfl | exact happ | exact hst) ?_; (conv => whnf)) | (refine Ob2.of (by first | exact idx_slice (off := off) (k := 2) rfl rfl (Int.natCast_nonneg k) hkl | exact ald_agg rfl rfl rfl hb0 hs | exact ald rfl rfl hra rfl | exact ald rfl rfl hrb rfl | exact happ | exact hst) ?_; (conv => whnf)) | (refine Ob2.of (by rfl) ?_; (conv => whnf)) | exact True.intro | (first | (refine Ob.of (by first | rfl | (exact ald rfl rfl (by assumption) rfl) | (exact ald_agg rfl rfl rfl (by assumption) rfl)) ?_; (conv => whnf)) | (refine bIf.yes (by first | assumption | rfl) ?_; (conv => whnf)) | (refine bIf.no (by first | assumption | rfl) ?_; (conv => whnf))))
        (try (conv => whnf)); repeat (first | (refine Ob.of (by first | rfl | (exact ald rfl rfl (by assumption) rfl) | (exact ald_agg rfl rfl rfl (by assumption) rfl)) ?_; (conv => whnf)) | (refine bIf.yes (by first | assumption | rfl) ?_; (conv => whnf)) | (refine bIf.no (by first | assumption | rfl) ?_; (conv => whnf)))
        have hw : IntKind.i64.wrap ((k : Int) + 1) = ((k + 1 : Nat) : Int) := by rw [wrap_i64 (by omega) (by omega)]; omega
        have ht : x0.take (k + 1) = x0.take k ++ [x] := by rw [List.take_add_one, hx]; rfl
        have g31 := g3.1
        refine ⟨k + 1, ⟨rfl, rfl, congrArg (fun z => some (Value.int .i64 z)) hw, trivial⟩, ⟨by rw [List.length_take]; omega, ?_, ?_, lv', s1, ?_⟩, by show 400 - (k + 1) < 400 - k; omega⟩
        · exact ⟨by omega, fun b hb => (s2.2 b (by omega) (by omega)).trans ((p3 b (by omega) (.inl hb)).trans (g3.2 b hb))⟩
        · exact s2.at ((p3 H.length (lt_at hb3) (.inr (.at hb3 rfl))).trans hb3) (by omega)
        · rw [ht]; exact p1.at s2 (.of hr5)
      · have e2 : decide ((k : Int) < 400) = false := decide_eq_false hk4
        refine bIf.no e2 ?_
        (conv => whnf)
        have ht : x0.take k = x0.take 400 := List.take_eq_take_iff.2 (by omega)
        rw [ht] at hl3
        exact ⟨g3, r, rfl, Nat.le_of_lt hrl, lv, H.length, by rw [List.length_replicate]; exact hr3, hb3, hl3.zero, Nat.zero_le _, by rw [List.length_take]; omega⟩
    · have e1 : decide ((k : Int) < x0.length) = false := decide_eq_false hkl
      refine bIf.no e1 ?_
      (conv => whnf)
      refine bIf.no e1 ?_
      (conv => whnf)
      refine bIf.no e1 ?_
      (conv => whnf)
      have ht : x0.take k = x0.take 400 := List.take_eq_take_iff.2 (by omega)
      rw [ht] at hl3
      exact ⟨g3, r, rfl, Nat.le_of_lt hrl, lv, H.length, by rw [List.length_replicate]; exact hr3, hb3, hl3.zero, Nat.zero_le _, by rw [List.length_take]; omega⟩
  · have d1 : decide (fns < 0) = false := decide_eq_false (by omega)
    have d2 : decide (fns > 32) = true := decide_eq_true t1
    rw [hF]
    (try (conv => whnf)); repeat (first | (refine Ob.of (by first | rfl | (exact ald rfl rfl (by assumption) rfl) | (exact ald_agg rfl rfl rfl (by assumption) rfl)) ?_; (conv => whnf)) | (refine bIf.yes (by first | assumption | rfl) ?_; (conv => whnf)) | (refine bIf.no (by first | assumption | rfl) ?_; (conv => whnf)))
    refine Ob2.of (make_slice (e := 3) (k := 1) (n := 32) rfl rfl rfl rfl (by decide) rfl (by omega) (by omega) (show (8 : Int) * 32 ≤ _ by omega)) ?_
    rw [zeros_one]
    (try (conv => whnf)); repeat (first | (refine Ob.of (by first | rfl | (exact ald rfl rfl (by assumption) rfl) | (exact ald_agg rfl rfl rfl (by assumption) rfl)) ?_; (conv => whnf)) | (refine bIf.yes (by first | assumption | rfl) ?_; (conv => whnf)) | (refine bIf.no (by first | assumption | rfl) ?_; (conv => whnf)))
    refine Ob2.box rfl fun r H2 hr l1 l2 => ?_
    have g2 : Grow H H2 := (Grow.push H _).trans l2
    have hb2 : H2[H.length]? = some (.cells (.row 3) ((List.replicate (Int.toNat 32) (0 : Int)).map (.int .i64))) := by rw [List.map_replicate]; exact l2.at (at_push _ _)
    have hrl : H.length < r := by rw [hr]; simp
    replace l1 : H2[r]? = some (.cells .var (refC (.slice none 0 0) 0 8 H.length (Int.toNat 32))) := l1
    (try (conv => whnf)); repeat (first | (refine Ob.of (by first | rfl | (exact ald rfl rfl (by assumption) rfl) | (exact ald_agg rfl rfl rfl (by assumption) rfl)) ?_; (conv => whnf)) | (refine bIf.yes (by first | assumption | rfl) ?_; (conv => whnf)) | (refine bIf.no (by first | assumption | rfl) ?_; (conv => whnf)))
    refine SW.loop (α := Nat) (fun k => [(0, sv), (5, ptr r), (6, .int .i64 k)])
      (fun k X => k ≤ (x0.take 400).length ∧ Grow H X ∧ X[H.length]? = some (.cells (.row 3) ((List.replicate (Int.toNat 32) (0 : Int)).map (.int .i64))) ∧ ∃ lv, X[r]? = some (.cells .var (refC lv 0 8 H.length (Int.toNat 32))) ∧ RPk H.length X lv (x0.take k)) (fun k => 400 - k)
      ⟨0, ⟨rfl, rfl, rfl, trivial⟩, by omega, g2, hb2, _, l1, .inl ⟨rfl, rfl⟩⟩ ?_
    rintro k H3 ⟨hk, g3, hb3, lv, hr3, hl3⟩
    refine bC_sound _ _ _ _ ?_
    rw [List.length_take] at hk
    have hra := hblk_of hr3
    (conv => whnf)
    refine Ob.of (hlen H3) ?_
    (conv => whnf)
    refine Ob.of rfl ?_
    (conv => whnf)
    by_cases hkl : (k : Int) < x0.length
    · have e1 : decide ((k : Int) < x0.length) = true := decide_eq_true hkl
      refine bIf.yes e1 ?_
      (conv => whnf)
      refine bIf.yes e1 ?_
      (conv => whnf)
      refine Ob.of rfl ?_
      (conv => whnf)
      refine bIf.yes e1 ?_
      (conv => whnf)
      by_cases hk4 : (k : Int) < 400
      · have e2 : decide ((k : Int) < 400) = true := decide_eq_true hk4
        refine bIf.yes e2 ?_
        (conv => whnf)
        have hx : x0[k]? = some (x0[k]'(by omega)) := List.getElem?_eq_getElem _
        revert hx
        generalize x0[k]'(by omega) = x
        intro hx
        rcases (hp.grow g3) with ⟨_, rfl⟩ | ⟨b0, off, rfl, h0 | ⟨m, c, h0, _, h1⟩⟩
        · simp at hx
        · subst h0; simp at hx
        have hs := slots_two (h1 k x hx).1 (h1 k x hx).2
        have hb0 := hblk_of h0
        obtain ⟨lv', H5, happ, p1, p2, p3⟩ := app_pick (x := x) hl3 g3.1 (by rw [List.length_take]; omega)
        have hr5 : H5[r]? = _ := (p3 r (lt_at hr3) (.inr (.of hr3))).trans hr3
        obtain ⟨H6, hst, s1, s2, s3⟩ := store_ex (P := Try.prog) (t := 22) (off := 0) (v := lv') (vs := [lv']) (by rcases p1 with ⟨rfl, _⟩ | ⟨_, _, _, rfl, _⟩ <;> rfl) rfl rfl hr5 rfl (by first | exact Nat.le_of_ble_eq_true rfl | simp)
        have hrb := hblk_of ((Grow.push H3 [.cells (.row 28) [.int .i64 x.1, .int .i64 x.2]]).at hr3)
        apply SW.draw2 [([], [26, 27, 28, 29, 30, 31, 32, 33, 34, 35], 0, 2, false), ([], [25, 30, 31, 32, 33, 34], 0, 1, false), ([(26, 1)], [25, 26, 30, 31, 32, 33, 34], 0, 1, false), ([(26, 1), (27, 2)], [25, 26, 27, 30, 31, 32, 33, 34], 0, 1, false), ([(26, 1), (27, 2), (28, 3)], [25, 26, 27, 28, 30, 31, 32, 33, 34], 0, 1, false), ([], [25, 26, 27, 28, 29, 31], 0, 0, false), ([], [25, 26, 27, 28, 29, 30], 0, 0, false), ([(30, 5), (31, 6)], [25, 26, 27, 28, 29, 30, 31], 0, 0, false), ([(30, 5), (31, 6), (32, 7)], [25, 26, 27, 28, 29, 30, 31, 32], 0, 0, false), ([(30, 5), (31, 6), (32, 7), (33, 8)], [25, 26, 27, 28, 29, 30, 31, 32, 33], 0, 0, true), ([(26, 1), (27, 2), (28, 3), (29, 4), (30, 5), (31, 6), (32, 7), (33, 8), (34, 9)], [25, 26, 27, 28, 29, 30, 31, 32, 33, 34], 1, 0, true), ([(25, 0), (26, 1), (27, 2), (28, 3), (29, 4), (30, 5), (31, 6), (32, 7), (33, 8), (34, 9), (35, 10)], [25, 26, 27, 28, 29, 30, 31, 32, 33, 34, 35], 2, 0, false), ([(25, 0), (26, 1), (27, 2), (28, 3), (29, 4), (30, 5), (31, 6), (32, 7), (33, 8), (34, 9), (35, 10), (36, 11)], [25, 26, 27, 28, 29, 30, 31, 32, 33, 34, 35, 36], 2, 0, false), ([(25, 0), (26, 1), (27, 2), (28, 3), (29, 4), (30, 5), (31, 6), (32, 7), (33, 8), (34, 9), (35, 10), (36, 11), (37, 12)], [25, 26, 27, 28, 29, 30, 31, 32, 33, 34, 35, 36, 37], 2, 0, true)]
          [(25, 0), (26, 1), (27, 2), (28, 3), (29, 4), (30, 5), (31, 6), (32, 7), (33, 8), (34, 9), (35, 10), (36, 11), (37, 12)] 3
          [(0, _), (5, _), (6, _)] [_, _, _, _, _, _, _, _, _, _, _, _, _, _] [H3, H3 ++ [.cells (.row 28) [.int .i64 x.1, .int .i64 x.2]], H5, H6] rfl (by kernel_rfl)
        case hF => exact ⟨rfl, rfl, rfl, trivial⟩
        case h0 => rfl
        case steps =>
          (try (conv => whnf)); repeat' (first | (refine Ob.of rfl ?_; (conv => whnf)) | exact Leaf.mk rfl rfl | (refine Ob.of (ald rfl rfl (by assumption) rfl) ?_; (conv => whnf)) | (refine And.intro ?_ ?_ <;> (conv => whnf)) | (refine Ob.of (by first | exact idx_slice (off := off) (k := 2) rfl rfl (Int.natCast_nonneg k) hkl | exact ald_agg rfl rfl rfl hb0 hs | exact ald rfl rfl hra rfl | exact ald rfl rfl hrb rfl | exact happ | exact hst) ?_; (conv => whnf)) | (refine Ob2.of (by first | exact idx_slice (off := off) (k := 2) rfl rfl (Int.natCast_nonneg k) hkl | exact ald_agg rfl rfl rfl hb0 hs | exact ald rfl rfl hra rfl | exact ald rfl rfl hrb rfl | exact happ | exact hst) ?_; (conv => whnf)) | (refine Ob2.of (by rfl) ?_; (conv => whnf)) | exact True.intro | (first | (refine Ob.of (by first | rfl | (exact ald rfl rfl (by assumption) rfl) | (exact ald_agg rfl rfl rfl (by assumption) rfl)) ?_; (conv => whnf)) | (refine bIf.yes (by first | assumption | rfl) ?_; (conv => whnf)) | (refine bIf.no (by first | assumption | rfl) ?_; (conv => whnf))))
        (try (conv => whnf)); repeat (first | (refine Ob.of (by first | rfl | (exact ald rfl rfl (by assumption) rfl) | (exact ald_agg rfl rfl rfl (by assumption) rfl)) ?_; (conv => whnf)) | (refine bIf.yes (by first | assumption | rfl) ?_; (conv => whnf)) | (refine bIf.no (by first | assumption | rfl) ?_; (conv => whnf)))
        have hw : IntKind.i64.wrap ((k : Int) + 1) = ((k + 1 : Nat) : Int) := by rw [wrap_i64 (by omega) (by omega)]; omega
        have ht : x0.take (k + 1) = x0.take k ++ [x] := by rw [List.take_add_one, hx]; rfl
        have g31 := g3.1
        refine ⟨k + 1, ⟨rfl, rfl, congrArg (fun z => some (Value.int .i64 z)) hw, trivial⟩, ⟨by rw [List.length_take]; omega, ?_, ?_, lv', s1, ?_⟩, by show 400 - (k + 1) < 400 - k; omega⟩
        · exact ⟨by omega, fun b hb => (s2.2 b (by omega) (by omega)).trans ((p3 b (by omega) (.inl hb)).trans (g3.2 b hb))⟩
        · exact s2.at ((p3 H.length (lt_at hb3) (.inr (.at hb3 rfl))).trans hb3) (by omega)
        · rw [ht]; exact p1.at s2 (.of hr5)
      · have e2 : decide ((k : Int) < 400) = false := decide_eq_false hk4
        refine bIf.no e2 ?_
        (conv => whnf)
        have ht : x0.take k = x0.take 400 := List.take_eq_take_iff.2 (by omega)
        rw [ht] at hl3
        exact ⟨g3, r, rfl, Nat.le_of_lt hrl, lv, H.length, by rw [List.length_replicate]; exact hr3, hb3, hl3.zero, Nat.zero_le _, by rw [List.length_take]; omega⟩
    · have e1 : decide ((k : Int) < x0.length) = false := decide_eq_false hkl
      refine bIf.no e1 ?_
      (conv => whnf)
      refine bIf.no e1 ?_
      (conv => whnf)
      refine bIf.no e1 ?_
      (conv => whnf)
      have ht : x0.take k = x0.take 400 := List.take_eq_take_iff.2 (by omega)
      rw [ht] at hl3
      exact ⟨g3, r, rfl, Nat.le_of_lt hrl, lv, H.length, by rw [List.length_replicate]; exact hr3, hb3, hl3.zero, Nat.zero_le _, by rw [List.length_take]; omega⟩
  · have d1 : decide (fns < 0) = false := decide_eq_false (by omega)
    have d2 : decide (fns > 32) = false := decide_eq_false (by omega)
    rw [hF]
    (try (conv => whnf)); repeat (first | (refine Ob.of (by first | rfl | (exact ald rfl rfl (by assumption) rfl) | (exact ald_agg rfl rfl rfl (by assumption) rfl)) ?_; (conv => whnf)) | (refine bIf.yes (by first | assumption | rfl) ?_; (conv => whnf)) | (refine bIf.no (by first | assumption | rfl) ?_; (conv => whnf)))
    refine Ob2.of (make_slice (e := 3) (k := 1) (n := fns) rfl rfl rfl rfl (by decide) rfl (by omega) (by omega) (show (8 : Int) * fns ≤ _ by omega)) ?_
    rw [zeros_one]
    (try (conv => whnf)); repeat (first | (refine Ob.of (by first | rfl | (exact ald rfl rfl (by assumption) rfl) | (exact ald_agg rfl rfl rfl (by assumption) rfl)) ?_; (conv => whnf)) | (refine bIf.yes (by first | assumption | rfl) ?_; (conv => whnf)) | (refine bIf.no (by first | assumption | rfl) ?_; (conv => whnf)))
    refine Ob2.box rfl fun r H2 hr l1 l2 => ?_
    have g2 : Grow H H2 := (Grow.push H _).trans l2
    have hb2 : H2[H.length]? = some (.cells (.row 3) ((List.replicate (Int.toNat fns) (0 : Int)).map (.int .i64))) := by rw [List.map_replicate]; exact l2.at (at_push _ _)
    have hrl : H.length < r := by rw [hr]; simp
    replace l1 : H2[r]? = some (.cells .var (refC (.slice none 0 0) 0 8 H.length (Int.toNat fns))) := l1
    (try (conv => whnf)); repeat (first | (refine Ob.of (by first | rfl | (exact ald rfl rfl (by assumption) rfl) | (exact ald_agg rfl rfl rfl (by assumption) rfl)) ?_; (conv => whnf)) | (refine bIf.yes (by first | assumption | rfl) ?_; (conv => whnf)) | (refine bIf.no (by first | assumption | rfl) ?_; (conv => whnf)))
    refine SW.loop (α := Nat) (fun k => [(0, sv), (5, ptr r), (6, .int .i64 k)])
      (fun k X => k ≤ (x0.take 400).length ∧ Grow H X ∧ X[H.length]? = some (.cells (.row 3) ((List.replicate (Int.toNat fns) (0 : Int)).map (.int .i64))) ∧ ∃ lv, X[r]? = some (.cells .var (refC lv 0 8 H.length (Int.toNat fns))) ∧ RPk H.length X lv (x0.take k)) (fun k => 400 - k)
      ⟨0, ⟨rfl, rfl, rfl, trivial⟩, by omega, g2, hb2, _, l1, .inl ⟨rfl, rfl⟩⟩ ?_
    rintro k H3 ⟨hk, g3, hb3, lv, hr3, hl3⟩
    refine bC_sound _ _ _ _ ?_
    rw [List.length_take] at hk
    have hra := hblk_of hr3
    (conv => whnf)
    refine Ob.of (hlen H3) ?_
    (conv => whnf)
    refine Ob.of rfl ?_
    (conv => whnf)
    by_cases hkl : (k : Int) < x0.length
    · have e1 : decide ((k : Int) < x0.length) = true := decide_eq_true hkl
      refine bIf.yes e1 ?_
      (conv => whnf)
      refine bIf.yes e1 ?_
      (conv => whnf)
      refine Ob.of rfl ?_
      (conv => whnf)
      refine bIf.yes e1 ?_
      (conv => whnf)
      by_cases hk4 : (k : Int) < 400
      · have e2 : decide ((k : Int) < 400) = true := decide_eq_true hk4
        refine bIf.yes e2 ?_
        (conv => whnf)
        have hx : x0[k]? = some (x0[k]'(by omega)) := List.getElem?_eq_getElem _
        revert hx
        generalize x0[k]'(by omega) = x
        intro hx
        rcases (hp.grow g3) with ⟨_, rfl⟩ | ⟨b0, off, rfl, h0 | ⟨m, c, h0, _, h1⟩⟩
        · simp at hx
        · subst h0; simp at hx
        have hs := slots_two (h1 k x hx).1 (h1 k x hx).2
        have hb0 := hblk_of h0
        obtain ⟨lv', H5, happ, p1, p2, p3⟩ := app_pick (x := x) hl3 g3.1 (by rw [List.length_take]; omega)
        have hr5 : H5[r]? = _ := (p3 r (lt_at hr3) (.inr (.of hr3))).trans hr3
        obtain ⟨H6, hst, s1, s2, s3⟩ := store_ex (P := Try.prog) (t := 22) (off := 0) (v := lv') (vs := [lv']) (by rcases p1 with ⟨rfl, _⟩ | ⟨_, _, _, rfl, _⟩ <;> rfl) rfl rfl hr5 rfl (by first | exact Nat.le_of_ble_eq_true rfl | simp)
        have hrb := hblk_of ((Grow.push H3 [.cells (.row 28) [.int .i64 x.1, .int .i64 x.2]]).at hr3)
        apply SW.draw2 [([], [26, 27, 28, 29, 30, 31, 32, 33, 34, 35], 0, 2, false), ([], [25, 30, 31, 32, 33, 34], 0, 1, false), ([(26, 1)], [25, 26, 30, 31, 32, 33, 34], 0, 1, false), ([(26, 1), (27, 2)], [25, 26, 27, 30, 31, 32, 33, 34], 0, 1, false), ([(26, 1), (27, 2), (28, 3)], [25, 26, 27, 28, 30, 31, 32, 33, 34], 0, 1, false), ([], [25, 26, 27, 28, 29, 31], 0, 0, false), ([], [25, 26, 27, 28, 29, 30], 0, 0, false), ([(30, 5), (31, 6)], [25, 26, 27, 28, 29, 30, 31], 0, 0, false), ([(30, 5), (31, 6), (32, 7)], [25, 26, 27, 28, 29, 30, 31, 32], 0, 0, false), ([(30, 5), (31, 6), (32, 7), (33, 8)], [25, 26, 27, 28, 29, 30, 31, 32, 33], 0, 0, true), ([(26, 1), (27, 2), (28, 3), (29, 4), (30, 5), (31, 6), (32, 7), (33, 8), (34, 9)], [25, 26, 27, 28, 29, 30, 31, 32, 33, 34], 1, 0, true), ([(25, 0), (26, 1), (27, 2), (28, 3), (29, 4), (30, 5), (31, 6), (32, 7), (33, 8), (34, 9), (35, 10)], [25, 26, 27, 28, 29, 30, 31, 32, 33, 34, 35], 2, 0, false), ([(25, 0), (26, 1), (27, 2), (28, 3), (29, 4), (30, 5), (31, 6), (32, 7), (33, 8), (34, 9), (35, 10), (36, 11)], [25, 26, 27, 28, 29, 30, 31, 32, 33, 34, 35, 36], 2, 0, false), ([(25, 0), (26, 1), (27, 2), (28, 3), (29, 4), (30, 5), (31, 6), (32, 7), (33, 8), (34, 9), (35, 10), (36, 11), (37, 12)], [25, 26, 27, 28, 29, 30, 31, 32, 33, 34, 35, 36, 37], 2, 0, true)]
          [(25, 0), (26, 1), (27, 2), (28, 3), (29, 4), (30, 5), (31, 6), (32, 7), (33, 8), (34, 9), (35, 10), (36, 11), (37, 12)] 3
          [(0, _), (5, _), (6, _)] [_, _, _, _, _, _, _, _, _, _, _, _, _, _] [H3, H3 ++ [.cells (.row 28) [.int .i64 x.1, .int .i64 x.2]], H5, H6] rfl (by kernel_rfl)
        case hF => exact ⟨rfl, rfl, rfl, trivial⟩
        case h0 => rfl
        case steps =>
          (try (conv => whnf)); repeat' (first | (refine Ob.of rfl ?_; (conv => whnf)) | exact Leaf.mk rfl rfl | (refine Ob.of (ald rfl rfl (by assumption) rfl) ?_; (conv => whnf)) | (refine And.intro ?_ ?_ <;> (conv => whnf)) | (refine Ob.of (by first | exact idx_slice (off := off) (k := 2) rfl rfl (Int.natCast_nonneg k) hkl | exact ald_agg rfl rfl rfl hb0 hs | exact ald rfl rfl hra rfl | exact ald rfl rfl hrb rfl | exact happ | exact hst) ?_; (conv => whnf)) | (refine Ob2.of (by first | exact idx_slice (off := off) (k := 2) rfl rfl (Int.natCast_nonneg k) hkl | exact ald_agg rfl rfl rfl hb0 hs | exact ald rfl rfl hra rfl | exact ald rfl rfl hrb rfl | exact happ | exact hst) ?_; (conv => whnf)) | (refine Ob2.of (by rfl) ?_; (conv => whnf)) | exact True.intro | (first | (refine Ob.of (by first | rfl | (exact ald rfl rfl (by assumption) rfl) | (exact ald_agg rfl rfl rfl (by assumption) rfl)) ?_; (conv => whnf)) | (refine bIf.yes (by first | assumption | rfl) ?_; (conv => whnf)) | (refine bIf.no (by first | assumption | rfl) ?_; (conv => whnf))))
        (try (conv => whnf)); repeat (first | (refine Ob.of (by first | rfl | (exact ald rfl rfl (by assumption) rfl) | (exact ald_agg rfl rfl rfl (by assumption) rfl)) ?_; (conv => whnf)) | (refine bIf.yes (by first | assumption | rfl) ?_; (conv => whnf)) | (refine bIf.no (by first | assumption | rfl) ?_; (conv => whnf)))
        have hw : IntKind.i64.wrap ((k : Int) + 1) = ((k + 1 : Nat) : Int) := by rw [wrap_i64 (by omega) (by omega)]; omega
        have ht : x0.take (k + 1) = x0.take k ++ [x] := by rw [List.take_add_one, hx]; rfl
        have g31 := g3.1
        refine ⟨k + 1, ⟨rfl, rfl, congrArg (fun z => some (Value.int .i64 z)) hw, trivial⟩, ⟨by rw [List.length_take]; omega, ?_, ?_, lv', s1, ?_⟩, by show 400 - (k + 1) < 400 - k; omega⟩
        · exact ⟨by omega, fun b hb => (s2.2 b (by omega) (by omega)).trans ((p3 b (by omega) (.inl hb)).trans (g3.2 b hb))⟩
        · exact s2.at ((p3 H.length (lt_at hb3) (.inr (.at hb3 rfl))).trans hb3) (by omega)
        · rw [ht]; exact p1.at s2 (.of hr5)
      · have e2 : decide ((k : Int) < 400) = false := decide_eq_false hk4
        refine bIf.no e2 ?_
        (conv => whnf)
        have ht : x0.take k = x0.take 400 := List.take_eq_take_iff.2 (by omega)
        rw [ht] at hl3
        exact ⟨g3, r, rfl, Nat.le_of_lt hrl, lv, H.length, by rw [List.length_replicate]; exact hr3, hb3, hl3.zero, Nat.zero_le _, by rw [List.length_take]; omega⟩
    · have e1 : decide ((k : Int) < x0.length) = false := decide_eq_false hkl
      refine bIf.no e1 ?_
      (conv => whnf)
      refine bIf.no e1 ?_
      (conv => whnf)
      refine bIf.no e1 ?_
      (conv => whnf)
      have ht : x0.take k = x0.take 400 := List.take_eq_take_iff.2 (by omega)
      rw [ht] at hl3
      exact ⟨g3, r, rfl, Nat.le_of_lt hrl, lv, H.length, by rw [List.length_replicate]; exact hr3, hb3, hl3.zero, Nat.zero_le _, by rw [List.length_take]; omega⟩
end Go.Proofs.Ytdceiblihamfmaa
