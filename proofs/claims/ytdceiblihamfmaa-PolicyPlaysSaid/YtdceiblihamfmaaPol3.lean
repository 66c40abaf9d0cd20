/- A policy: the pick that is taken. -/
import Derived.Test.YtdceiblihamfmaaPol2
set_option linter.unusedVariables false
set_option linter.unusedSimpArgs false
namespace Go.Proofs.Ytdceiblihamfmaa
open Go Ax
abbrev pickV (x : Int × Int) : Value := .agg #[.int .i64 x.1, .int .i64 x.2]
def nAft (n : Int) : Int := if (if (1048576 : Int) < n then 1048576 else n) > 1 then (if (1048576 : Int) < n then 1048576 else n) else 1
def nxO (fns after : Int) (x : Int × Int) : Int × Int :=
  if x.1 = 1 then (1, nAft x.2) else if x.1 = 6 then (6, 0) else if (x.1 = 2 ∨ x.1 = 3 ∨ x.1 = 4 ∨ x.1 = 5) ∧ 0 < fns then (x.1, (x.2.tmod fns + fns).tmod fns) else (0, 0)
def nxA (after : Int) (x : Int × Int) : Int := if x.1 = 1 then nAft x.2 else after
theorem next_nil {H : Heap} {p : Nat} {fns after : Int} {cs : List Int} (h : Pol H p [] fns after cs) :
    AX Try.prog 19 #[ptr p] H (fun v H' => v = pickV (0, 0) ∧ Grow H H') := by
  obtain ⟨sv, h1, h2, h3, h4, h5⟩ := h
  have hb := hblk_of h1
  have hlt := lt_at h1
  refine AX.body (n := 79) (rs := [.cell 2 28]) Try.func19 rfl (by decide) rfl rfl (bC_sound _ _ _ _ ?_)
  rcases h5 with ⟨rfl, _⟩ | ⟨b, off, rfl, _⟩
  all_goals
    (conv => whnf)
    refine Ob2.alloc rfl fun q H1 hq k1 k2 => ?_
    have hb1 := k2.hblk hb
    (try (conv => whnf)); repeat (first | (refine Ob.of (by first | rfl | (exact ald rfl rfl (by assumption) rfl) | (exact ald_agg rfl rfl rfl (by assumption) rfl)) ?_; (conv => whnf)) | (refine bIf.yes (by first | assumption | rfl) ?_; (conv => whnf)) | (refine bIf.no (by first | assumption | rfl) ?_; (conv => whnf)))
    refine Ob.store rfl rfl rfl k1 rfl (by first | exact Nat.le_of_ble_eq_true rfl | simp) fun H2 m1 m2 m3 => ?_
    have hb2 := hblk_of m1
    (try (conv => whnf)); repeat (first | (refine Ob.of (by first | rfl | (exact ald rfl rfl (by assumption) rfl) | (exact ald_agg rfl rfl rfl (by assumption) rfl)) ?_; (conv => whnf)) | (refine bIf.yes (by first | assumption | rfl) ?_; (conv => whnf)) | (refine bIf.no (by first | assumption | rfl) ?_; (conv => whnf)))
    exact ⟨rfl, k2.but_new m2 (by omega)⟩
theorem rem_in {a b : Int} (h : 0 < b) (k : b ≤ 32) : IntKind.i64.wrap (a.tmod b + b) = a.tmod b + b := by
  have h1 := Int.tmod_lt_of_pos a h
  have h2 : -b < a.tmod b := by
    have := Int.neg_tmod a b
    have h3 := Int.tmod_lt_of_pos (-a) h
    omega
  exact wrap_i64 (by omega) (by omega)
theorem Pk.tail {H' : Heap} {b off : Nat} {x : Int × Int} {L : List (Int × Int)} {m : Ax.Mode} {c : List Value} (hm : aV m = false) (hc : H'[b]? = some (.cells m c)) (hp : PkC c off (x :: L)) :
    Pk H' (.slice (some ⟨b, off + 1 * 2, none⟩) (L.length + 1 - 1) 2) L := by
  refine .inr ⟨b, off + 1 * 2, by simp, .inr ⟨m, c, hc, hm, fun i y hy => ?_⟩⟩
  have := hp (i + 1) y (by simpa using hy)
  rw [show off + (i + 1) * 2 = off + 1 * 2 + i * 2 by omega] at this
  exact this
theorem next_cons {H : Heap} {p : Nat} {k n : Int} {L : List (Int × Int)} {fns after : Int} {cs : List Int} (h : Pol H p ((k, n) :: L) fns after cs) :
    AX Try.prog 19 #[ptr p] H (fun v H' => v = pickV (nxO fns after (k, n)) ∧ Pol H' p L fns (nxA after (k, n)) cs ∧ But p H H') := by
  obtain ⟨sv, h1, h2, h3, h4, h5⟩ := h
  have hlt := lt_at h1
  rcases h5 with ⟨_, h5⟩ | ⟨b, off, rfl, h5 | ⟨m, c, hc, hm, hp⟩⟩
  · simp at h5
  · simp at h5
  have hb := hblk_of h1
  have hltb := lt_at hc
  have hne : b ≠ p := NB.ne (.of h1) hc hm
  refine AX.body (n := 79) (rs := [.cell 2 28]) Try.func19 rfl (by decide) rfl rfl (bC_sound _ _ _ _ ?_)
  (conv => whnf)
  refine Ob2.alloc rfl fun q H1 hq k1 k2 => ?_
  have hb1 := k2.hblk hb
  have hc1 := k2.at hc
  have hp1 := k2.at h1
  (try (conv => whnf)); repeat (first | (refine Ob.of (by first | rfl | (exact ald rfl rfl (by assumption) rfl) | (exact ald_agg rfl rfl rfl (by assumption) rfl)) ?_; (conv => whnf)) | (refine bIf.yes (by first | assumption | rfl) ?_; (conv => whnf)) | (refine bIf.no (by first | assumption | rfl) ?_; (conv => whnf)))
  refine Ob.of (idx_slice (off := off) (k := 2) rfl rfl (Int.le_refl 0) (by simp)) ?_
  (conv => whnf)
  have hs := slots_two (hp 0 (k, n) rfl).1 (hp 0 (k, n) rfl).2
  refine Ob.of (ald_agg rfl rfl rfl (hblk_of hc1) hs) ?_
  (conv => whnf)
  refine Ob2.alloc rfl fun q3 H2 hq3 l1 l2 => ?_
  have hlt1 := lt_at k1
  have hb2 := l2.hblk hb1
  have hc2 := l2.at hc1
  have hp2 := l2.at hp1
  have hq2 := l2.at k1
  (conv => whnf)
  refine Ob.store rfl rfl rfl l1 rfl (by first | exact Nat.le_of_ble_eq_true rfl | simp) fun H3 m1 m2 m3 => ?_
  have hb3 := m2.hblk hb2 (by omega)
  have hc3 := m2.at hc2 (by omega)
  have hp3 := m2.at hp2 (by omega)
  have hq3 := m2.at hq2 (by omega)
  have hx3 := hblk_of m1
  (try (conv => whnf)); repeat (first | (refine Ob.of (by first | rfl | (exact ald rfl rfl (by assumption) rfl) | (exact ald_agg rfl rfl rfl (by assumption) rfl)) ?_; (conv => whnf)) | (refine bIf.yes (by first | assumption | rfl) ?_; (conv => whnf)) | (refine bIf.no (by first | assumption | rfl) ?_; (conv => whnf)))
  refine Ob.of (slice_lo (k := 2) (off := off) (n := 1) rfl rfl (by omega) (by simp; omega)) ?_
  (try (conv => whnf)); repeat (first | (refine Ob.of (by first | rfl | (exact ald rfl rfl (by assumption) rfl) | (exact ald_agg rfl rfl rfl (by assumption) rfl)) ?_; (conv => whnf)) | (refine bIf.yes (by first | assumption | rfl) ?_; (conv => whnf)) | (refine bIf.no (by first | assumption | rfl) ?_; (conv => whnf)))
  refine Ob.store (off := 0) rfl rfl rfl hp3 rfl (by first | exact Nat.le_of_ble_eq_true rfl | simp) fun H4 n1 n2 n3 => ?_
  replace n1 : H4[p]? = some (.cells .var (polC (.slice (some ⟨b, off + 1 * 2, none⟩) (L.length + 1 - 1) 2) fns after cs)) := n1
  have hb4 := hblk_of n1
  have hc4 := n2.at hc3 hne
  have hq4 := n2.at hq3 (by omega)
  have hx4' : H4[q3]? = some (.cells .var [.int .i64 k, .int .i64 n]) := n2.at m1 (by omega)
  have hx4 := hblk_of hx4'
  have g4 : But p H H4 := (((k2.trans l2).but_new m2 (by omega)).but p).trans n2
  by_cases e1 : k = 1
  · subst e1
    (try (conv => whnf)); repeat (first | (refine Ob.of (by first | rfl | (exact ald rfl rfl (by assumption) rfl) | (exact ald_agg rfl rfl rfl (by assumption) rfl)) ?_; (conv => whnf)) | (refine bIf.yes (by first | assumption | rfl) ?_; (conv => whnf)) | (refine bIf.no (by first | assumption | rfl) ?_; (conv => whnf)))
    refine Ob.store rfl rfl rfl hx4' rfl (by first | exact Nat.le_of_ble_eq_true rfl | simp) fun H5 o1 o2 o3 => ?_
    have hx5 := hblk_of o1
    have hp5 := o2.at n1 (by omega)
    have hq5 := o2.at hq4 (by omega)
    (try (conv => whnf)); repeat (first | (refine Ob.of (by first | rfl | (exact ald rfl rfl (by assumption) rfl) | (exact ald_agg rfl rfl rfl (by assumption) rfl)) ?_; (conv => whnf)) | (refine bIf.yes (by first | assumption | rfl) ?_; (conv => whnf)) | (refine bIf.no (by first | assumption | rfl) ?_; (conv => whnf)))
    refine Ob.store (off := 2) rfl rfl rfl hp5 rfl (by first | exact Nat.le_of_ble_eq_true rfl | simp) fun H6 r1 r2 r3 => ?_
    have hx6 := r2.hblk hx5 (by omega)
    have hq6 := r2.at hq5 (by omega)
    have hc6 := r2.at (o2.at hc4 (by omega)) hne
    (try (conv => whnf)); repeat (first | (refine Ob.of (by first | rfl | (exact ald rfl rfl (by assumption) rfl) | (exact ald_agg rfl rfl rfl (by assumption) rfl)) ?_; (conv => whnf)) | (refine bIf.yes (by first | assumption | rfl) ?_; (conv => whnf)) | (refine bIf.no (by first | assumption | rfl) ?_; (conv => whnf)))
    refine Ob.store (off := 0) rfl rfl rfl hq6 rfl (by first | exact Nat.le_of_ble_eq_true rfl | simp) fun H7 s1 s2 s3 => ?_
    have hq7 := hblk_of s1
    (try (conv => whnf)); repeat (first | (refine Ob.of (by first | rfl | (exact ald rfl rfl (by assumption) rfl) | (exact ald_agg rfl rfl rfl (by assumption) rfl)) ?_; (conv => whnf)) | (refine bIf.yes (by first | assumption | rfl) ?_; (conv => whnf)) | (refine bIf.no (by first | assumption | rfl) ?_; (conv => whnf)))
    exact ⟨rfl, ⟨_, s2.at r1 (by omega), h2, h3, h4, .tail hm (s2.at hc6 (by omega)) hp⟩, ((g4.but_new o2 (by omega)).trans r2).but_new s2 (by omega)⟩
  have b1 : (k == 1) = false := by simp [e1]
  by_cases e6 : k = 6
  · subst e6
    (try (conv => whnf)); repeat (first | (refine Ob.of (by first | rfl | (exact ald rfl rfl (by assumption) rfl) | (exact ald_agg rfl rfl rfl (by assumption) rfl)) ?_; (conv => whnf)) | (refine bIf.yes (by first | assumption | rfl) ?_; (conv => whnf)) | (refine bIf.no (by first | assumption | rfl) ?_; (conv => whnf)))
    refine Ob.store (off := 0) rfl rfl rfl hq4 rfl (by first | exact Nat.le_of_ble_eq_true rfl | simp) fun H7 s1 s2 s3 => ?_
    have hq7 := hblk_of s1
    (try (conv => whnf)); repeat (first | (refine Ob.of (by first | rfl | (exact ald rfl rfl (by assumption) rfl) | (exact ald_agg rfl rfl rfl (by assumption) rfl)) ?_; (conv => whnf)) | (refine bIf.yes (by first | assumption | rfl) ?_; (conv => whnf)) | (refine bIf.no (by first | assumption | rfl) ?_; (conv => whnf)))
    exact ⟨rfl, ⟨_, s2.at n1 (by omega), h2, h3, h4, .tail hm (s2.at hc4 (by omega)) hp⟩, g4.but_new s2 (by omega)⟩
  have b6 : (k == 6) = false := by simp [e6]
  by_cases ek : k = 2 ∨ k = 3 ∨ k = 4 ∨ k = 5
  · by_cases hf : 0 < fns
    · have bf : decide (fns > 0) = true := by simp [hf]
      have hz : fns ≠ 0 := by omega
      have hw : IntKind.i64.wrap (n.tmod fns + fns) = n.tmod fns + fns := rem_in hf h4
      rcases ek with rfl | rfl | rfl | rfl
      · (try (conv => whnf)); repeat (first | (refine Ob.of (by first | rfl | (exact ald rfl rfl (by assumption) rfl) | (exact ald_agg rfl rfl rfl (by assumption) rfl)) ?_; (conv => whnf)) | (refine bIf.yes (by first | assumption | rfl) ?_; (conv => whnf)) | (refine bIf.no (by first | assumption | rfl) ?_; (conv => whnf)))
        obtain ⟨H7, hst, s1, s2, s3⟩ := store_ex (P := Try.prog) (t := 28) (off := 0) (v := .agg #[.int .i64 2, .int .i64 ((IntKind.i64.wrap (n.tmod fns + fns)).tmod fns)]) rfl rfl rfl hq4 rfl (by first | exact Nat.le_of_ble_eq_true rfl | simp)
        apply SW.draw2 [([], [60, 61, 62, 63, 64, 65, 66, 67, 68, 69, 70, 71, 72, 73, 74, 75, 76], 0, 0, false), ([(58, 0)], [58, 60, 61, 62, 63, 64, 65, 66, 67, 68, 69, 70, 71, 72, 73, 74, 75, 76], 0, 0, false), ([], [58, 59, 62, 63, 64, 65, 67, 68, 69, 70, 72, 73, 74, 75], 0, 0, false), ([(60, 2)], [58, 59, 60, 62, 63, 64, 65, 67, 68, 69, 70, 72, 73, 74, 75], 0, 0, false), ([], [58, 59, 60, 61, 67, 68, 69, 70, 72, 73, 74, 75], 0, 0, false), ([(62, 4)], [58, 59, 60, 61, 62, 67, 68, 69, 70, 72, 73, 74, 75], 0, 0, false), ([(62, 4), (63, 5)], [58, 59, 60, 61, 62, 63, 67, 68, 69, 70, 72, 73, 74, 75], 0, 0, false), ([(62, 4), (63, 5), (64, 6)], [58, 59, 60, 61, 62, 63, 64, 67, 68, 69, 70, 72, 73, 74, 75], 0, 0, false), ([(60, 2), (61, 3), (62, 4), (63, 5), (64, 6), (65, 7)], [58, 59, 60, 61, 62, 63, 64, 65, 67, 68, 69, 70, 72, 73, 74, 75], 0, 0, false), ([], [58, 59, 60, 61, 62, 63, 64, 65, 66, 72, 73, 74, 75], 0, 0, false), ([(67, 9)], [58, 59, 60, 61, 62, 63, 64, 65, 66, 67, 72, 73, 74, 75], 0, 0, false), ([(67, 9), (68, 10)], [58, 59, 60, 61, 62, 63, 64, 65, 66, 67, 68, 72, 73, 74, 75], 0, 0, false), ([(67, 9), (68, 10), (69, 11)], [58, 59, 60, 61, 62, 63, 64, 65, 66, 67, 68, 69, 72, 73, 74, 75], 0, 0, false), ([(60, 2), (61, 3), (62, 4), (63, 5), (64, 6), (65, 7), (66, 8), (67, 9), (68, 10), (69, 11), (70, 12)], [58, 59, 60, 61, 62, 63, 64, 65, 66, 67, 68, 69, 70, 72, 73, 74, 75], 0, 0, false), ([], [58, 59, 60, 61, 62, 63, 64, 65, 66, 67, 68, 69, 70, 71], 0, 0, false), ([(72, 14)], [58, 59, 60, 61, 62, 63, 64, 65, 66, 67, 68, 69, 70, 71, 72], 0, 0, false), ([(72, 14), (73, 15)], [58, 59, 60, 61, 62, 63, 64, 65, 66, 67, 68, 69, 70, 71, 72, 73], 0, 0, false), ([(72, 14), (73, 15), (74, 16)], [58, 59, 60, 61, 62, 63, 64, 65, 66, 67, 68, 69, 70, 71, 72, 73, 74], 0, 0, false), ([(60, 2), (61, 3), (62, 4), (63, 5), (64, 6), (65, 7), (66, 8), (67, 9), (68, 10), (69, 11), (70, 12), (71, 13), (72, 14), (73, 15), (74, 16), (75, 17)], [58, 59, 60, 61, 62, 63, 64, 65, 66, 67, 68, 69, 70, 71, 72, 73, 74, 75], 0, 0, false), ([(58, 0), (59, 1), (60, 2), (61, 3), (62, 4), (63, 5), (64, 6), (65, 7), (66, 8), (67, 9), (68, 10), (69, 11), (70, 12), (71, 13), (72, 14), (73, 15), (74, 16), (75, 17), (76, 18)], [58, 59, 60, 61, 62, 63, 64, 65, 66, 67, 68, 69, 70, 71, 72, 73, 74, 75, 76], 0, 0, false), ([(58, 0), (59, 1), (60, 2), (61, 3), (62, 4), (63, 5), (64, 6), (65, 7), (66, 8), (67, 9), (68, 10), (69, 11), (70, 12), (71, 13), (72, 14), (73, 15), (74, 16), (75, 17), (76, 18), (77, 19)], [58, 59, 60, 61, 62, 63, 64, 65, 66, 67, 68, 69, 70, 71, 72, 73, 74, 75, 76, 77], 0, 0, true)]
          [(58, 0), (59, 1), (60, 2), (61, 3), (62, 4), (63, 5), (64, 6), (65, 7), (66, 8), (67, 9), (68, 10), (69, 11), (70, 12), (71, 13), (72, 14), (73, 15), (74, 16), (75, 17), (76, 18), (77, 19)] 1
          [(0, _), (2, _), (3, _)] [_, _, _, _, _, _, _, _, _, _, _, _, _, _, _, _, _, _, _, _, _] [H4, H7] rfl (by kernel_rfl)
        case hF => exact ⟨rfl, rfl, rfl, trivial⟩
        case h0 => rfl
        case steps =>
          (try (conv => whnf)); repeat' (first | (refine Ob.of rfl ?_; (conv => whnf)) | exact Leaf.mk rfl rfl | (refine Ob.of (ald rfl rfl (by assumption) rfl) ?_; (conv => whnf)) | (refine And.intro ?_ ?_ <;> (conv => whnf)) | (refine Ob.of (by first | exact hst | exact rem_ok hz) ?_; (conv => whnf)) | (refine Ob2.of (by first | exact hst | exact rem_ok hz) ?_; (conv => whnf)) | (refine Ob2.of (by rfl) ?_; (conv => whnf)) | exact True.intro | (first | (refine Ob.of (by first | rfl | (exact ald rfl rfl (by assumption) rfl) | (exact ald_agg rfl rfl rfl (by assumption) rfl)) ?_; (conv => whnf)) | (refine bIf.yes (by first | assumption | rfl) ?_; (conv => whnf)) | (refine bIf.no (by first | assumption | rfl) ?_; (conv => whnf))))
        have hq7 := hblk_of s1
        (try (conv => whnf)); repeat (first | (refine Ob.of (by first | rfl | (exact ald rfl rfl (by assumption) rfl) | (exact ald_agg rfl rfl rfl (by assumption) rfl)) ?_; (conv => whnf)) | (refine bIf.yes (by first | assumption | rfl) ?_; (conv => whnf)) | (refine bIf.no (by first | assumption | rfl) ?_; (conv => whnf)))
        have ho : nxO fns after (2, n) = (2, (n.tmod fns + fns).tmod fns) := by simp [nxO, hf]
        rw [ho, hw]
        exact ⟨rfl, ⟨_, s2.at n1 (by omega), h2, h3, h4, .tail hm (s2.at hc4 (by omega)) hp⟩, g4.but_new s2 (by omega)⟩
      · (try (conv => whnf)); repeat (first | (refine Ob.of (by first | rfl | (exact ald rfl rfl (by assumption) rfl) | (exact ald_agg rfl rfl rfl (by assumption) rfl)) ?_; (conv => whnf)) | (refine bIf.yes (by first | assumption | rfl) ?_; (conv => whnf)) | (refine bIf.no (by first | assumption | rfl) ?_; (conv => whnf)))
        obtain ⟨H7, hst, s1, s2, s3⟩ := store_ex (P := Try.prog) (t := 28) (off := 0) (v := .agg #[.int .i64 3, .int .i64 ((IntKind.i64.wrap (n.tmod fns + fns)).tmod fns)]) rfl rfl rfl hq4 rfl (by first | exact Nat.le_of_ble_eq_true rfl | simp)
        apply SW.draw2 [([], [60, 61, 62, 63, 64, 65, 66, 67, 68, 69, 70, 71, 72, 73, 74, 75, 76], 0, 0, false), ([(58, 0)], [58, 60, 61, 62, 63, 64, 65, 66, 67, 68, 69, 70, 71, 72, 73, 74, 75, 76], 0, 0, false), ([], [58, 59, 62, 63, 64, 65, 67, 68, 69, 70, 72, 73, 74, 75], 0, 0, false), ([(60, 2)], [58, 59, 60, 62, 63, 64, 65, 67, 68, 69, 70, 72, 73, 74, 75], 0, 0, false), ([], [58, 59, 60, 61, 67, 68, 69, 70, 72, 73, 74, 75], 0, 0, false), ([(62, 4)], [58, 59, 60, 61, 62, 67, 68, 69, 70, 72, 73, 74, 75], 0, 0, false), ([(62, 4), (63, 5)], [58, 59, 60, 61, 62, 63, 67, 68, 69, 70, 72, 73, 74, 75], 0, 0, false), ([(62, 4), (63, 5), (64, 6)], [58, 59, 60, 61, 62, 63, 64, 67, 68, 69, 70, 72, 73, 74, 75], 0, 0, false), ([(60, 2), (61, 3), (62, 4), (63, 5), (64, 6), (65, 7)], [58, 59, 60, 61, 62, 63, 64, 65, 67, 68, 69, 70, 72, 73, 74, 75], 0, 0, false), ([], [58, 59, 60, 61, 62, 63, 64, 65, 66, 72, 73, 74, 75], 0, 0, false), ([(67, 9)], [58, 59, 60, 61, 62, 63, 64, 65, 66, 67, 72, 73, 74, 75], 0, 0, false), ([(67, 9), (68, 10)], [58, 59, 60, 61, 62, 63, 64, 65, 66, 67, 68, 72, 73, 74, 75], 0, 0, false), ([(67, 9), (68, 10), (69, 11)], [58, 59, 60, 61, 62, 63, 64, 65, 66, 67, 68, 69, 72, 73, 74, 75], 0, 0, false), ([(60, 2), (61, 3), (62, 4), (63, 5), (64, 6), (65, 7), (66, 8), (67, 9), (68, 10), (69, 11), (70, 12)], [58, 59, 60, 61, 62, 63, 64, 65, 66, 67, 68, 69, 70, 72, 73, 74, 75], 0, 0, false), ([], [58, 59, 60, 61, 62, 63, 64, 65, 66, 67, 68, 69, 70, 71], 0, 0, false), ([(72, 14)], [58, 59, 60, 61, 62, 63, 64, 65, 66, 67, 68, 69, 70, 71, 72], 0, 0, false), ([(72, 14), (73, 15)], [58, 59, 60, 61, 62, 63, 64, 65, 66, 67, 68, 69, 70, 71, 72, 73], 0, 0, false), ([(72, 14), (73, 15), (74, 16)], [58, 59, 60, 61, 62, 63, 64, 65, 66, 67, 68, 69, 70, 71, 72, 73, 74], 0, 0, false), ([(60, 2), (61, 3), (62, 4), (63, 5), (64, 6), (65, 7), (66, 8), (67, 9), (68, 10), (69, 11), (70, 12), (71, 13), (72, 14), (73, 15), (74, 16), (75, 17)], [58, 59, 60, 61, 62, 63, 64, 65, 66, 67, 68, 69, 70, 71, 72, 73, 74, 75], 0, 0, false), ([(58, 0), (59, 1), (60, 2), (61, 3), (62, 4), (63, 5), (64, 6), (65, 7), (66, 8), (67, 9), (68, 10), (69, 11), (70, 12), (71, 13), (72, 14), (73, 15), (74, 16), (75, 17), (76, 18)], [58, 59, 60, 61, 62, 63, 64, 65, 66, 67, 68, 69, 70, 71, 72, 73, 74, 75, 76], 0, 0, false), ([(58, 0), (59, 1), (60, 2), (61, 3), (62, 4), (63, 5), (64, 6), (65, 7), (66, 8), (67, 9), (68, 10), (69, 11), (70, 12), (71, 13), (72, 14), (73, 15), (74, 16), (75, 17), (76, 18), (77, 19)], [58, 59, 60, 61, 62, 63, 64, 65, 66, 67, 68, 69, 70, 71, 72, 73, 74, 75, 76, 77], 0, 0, true)]
          [(58, 0), (59, 1), (60, 2), (61, 3), (62, 4), (63, 5), (64, 6), (65, 7), (66, 8), (67, 9), (68, 10), (69, 11), (70, 12), (71, 13), (72, 14), (73, 15), (74, 16), (75, 17), (76, 18), (77, 19)] 1
          [(0, _), (2, _), (3, _)] [_, _, _, _, _, _, _, _, _, _, _, _, _, _, _, _, _, _, _, _, _] [H4, H7] rfl (by kernel_rfl)
        case hF => exact ⟨rfl, rfl, rfl, trivial⟩
        case h0 => rfl
        case steps =>
          (try (conv => whnf)); repeat' (first | (refine Ob.of rfl ?_; (conv => whnf)) | exact Leaf.mk rfl rfl | (refine Ob.of (ald rfl rfl (by assumption) rfl) ?_; (conv => whnf)) | (refine And.intro ?_ ?_ <;> (conv => whnf)) | (refine Ob.of (by first | exact hst | exact rem_ok hz) ?_; (conv => whnf)) | (refine Ob2.of (by first | exact hst | exact rem_ok hz) ?_; (conv => whnf)) | (refine Ob2.of (by rfl) ?_; (conv => whnf)) | exact True.intro | (first | (refine Ob.of (by first | rfl | (exact ald rfl rfl (by assumption) rfl) | (exact ald_agg rfl rfl rfl (by assumption) rfl)) ?_; (conv => whnf)) | (refine bIf.yes (by first | assumption | rfl) ?_; (conv => whnf)) | (refine bIf.no (by first | assumption | rfl) ?_; (conv => whnf))))
        have hq7 := hblk_of s1
        (try (conv => whnf)); repeat (first | (refine Ob.of (by first | rfl | (exact ald rfl rfl (by assumption) rfl) | (exact ald_agg rfl rfl rfl (by assumption) rfl)) ?_; (conv => whnf)) | (refine bIf.yes (by first | assumption | rfl) ?_; (conv => whnf)) | (refine bIf.no (by first | assumption | rfl) ?_; (conv => whnf)))
        have ho : nxO fns after (3, n) = (3, (n.tmod fns + fns).tmod fns) := by simp [nxO, hf]
        rw [ho, hw]
        exact ⟨rfl, ⟨_, s2.at n1 (by omega), h2, h3, h4, .tail hm (s2.at hc4 (by omega)) hp⟩, g4.but_new s2 (by omega)⟩
      · (try (conv => whnf)); repeat (first | (refine Ob.of (by first | rfl | (exact ald rfl rfl (by assumption) rfl) | (exact ald_agg rfl rfl rfl (by assumption) rfl)) ?_; (conv => whnf)) | (refine bIf.yes (by first | assumption | rfl) ?_; (conv => whnf)) | (refine bIf.no (by first | assumption | rfl) ?_; (conv => whnf)))
        obtain ⟨H7, hst, s1, s2, s3⟩ := store_ex (P := Try.prog) (t := 28) (off := 0) (v := .agg #[.int .i64 4, .int .i64 ((IntKind.i64.wrap (n.tmod fns + fns)).tmod fns)]) rfl rfl rfl hq4 rfl (by first | exact Nat.le_of_ble_eq_true rfl | simp)
        apply SW.draw2 [([], [60, 61, 62, 63, 64, 65, 66, 67, 68, 69, 70, 71, 72, 73, 74, 75, 76], 0, 0, false), ([(58, 0)], [58, 60, 61, 62, 63, 64, 65, 66, 67, 68, 69, 70, 71, 72, 73, 74, 75, 76], 0, 0, false), ([], [58, 59, 62, 63, 64, 65, 67, 68, 69, 70, 72, 73, 74, 75], 0, 0, false), ([(60, 2)], [58, 59, 60, 62, 63, 64, 65, 67, 68, 69, 70, 72, 73, 74, 75], 0, 0, false), ([], [58, 59, 60, 61, 67, 68, 69, 70, 72, 73, 74, 75], 0, 0, false), ([(62, 4)], [58, 59, 60, 61, 62, 67, 68, 69, 70, 72, 73, 74, 75], 0, 0, false), ([(62, 4), (63, 5)], [58, 59, 60, 61, 62, 63, 67, 68, 69, 70, 72, 73, 74, 75], 0, 0, false), ([(62, 4), (63, 5), (64, 6)], [58, 59, 60, 61, 62, 63, 64, 67, 68, 69, 70, 72, 73, 74, 75], 0, 0, false), ([(60, 2), (61, 3), (62, 4), (63, 5), (64, 6), (65, 7)], [58, 59, 60, 61, 62, 63, 64, 65, 67, 68, 69, 70, 72, 73, 74, 75], 0, 0, false), ([], [58, 59, 60, 61, 62, 63, 64, 65, 66, 72, 73, 74, 75], 0, 0, false), ([(67, 9)], [58, 59, 60, 61, 62, 63, 64, 65, 66, 67, 72, 73, 74, 75], 0, 0, false), ([(67, 9), (68, 10)], [58, 59, 60, 61, 62, 63, 64, 65, 66, 67, 68, 72, 73, 74, 75], 0, 0, false), ([(67, 9), (68, 10), (69, 11)], [58, 59, 60, 61, 62, 63, 64, 65, 66, 67, 68, 69, 72, 73, 74, 75], 0, 0, false), ([(60, 2), (61, 3), (62, 4), (63, 5), (64, 6), (65, 7), (66, 8), (67, 9), (68, 10), (69, 11), (70, 12)], [58, 59, 60, 61, 62, 63, 64, 65, 66, 67, 68, 69, 70, 72, 73, 74, 75], 0, 0, false), ([], [58, 59, 60, 61, 62, 63, 64, 65, 66, 67, 68, 69, 70, 71], 0, 0, false), ([(72, 14)], [58, 59, 60, 61, 62, 63, 64, 65, 66, 67, 68, 69, 70, 71, 72], 0, 0, false), ([(72, 14), (73, 15)], [58, 59, 60, 61, 62, 63, 64, 65, 66, 67, 68, 69, 70, 71, 72, 73], 0, 0, false), ([(72, 14), (73, 15), (74, 16)], [58, 59, 60, 61, 62, 63, 64, 65, 66, 67, 68, 69, 70, 71, 72, 73, 74], 0, 0, false), ([(60, 2), (61, 3), (62, 4), (63, 5), (64, 6), (65, 7), (66, 8), (67, 9), (68, 10), (69, 11), (70, 12), (71, 13), (72, 14), (73, 15), (74, 16), (75, 17)], [58, 59, 60, 61, 62, 63, 64, 65, 66, 67, 68, 69, 70, 71, 72, 73, 74, 75], 0, 0, false), ([(58, 0), (59, 1), (60, 2), (61, 3), (62, 4), (63, 5), (64, 6), (65, 7), (66, 8), (67, 9), (68, 10), (69, 11), (70, 12), (71, 13), (72, 14), (73, 15), (74, 16), (75, 17), (76, 18)], [58, 59, 60, 61, 62, 63, 64, 65, 66, 67, 68, 69, 70, 71, 72, 73, 74, 75, 76], 0, 0, false), ([(58, 0), (59, 1), (60, 2), (61, 3), (62, 4), (63, 5), (64, 6), (65, 7), (66, 8), (67, 9), (68, 10), (69, 11), (70, 12), (71, 13), (72, 14), (73, 15), (74, 16), (75, 17), (76, 18), (77, 19)], [58, 59, 60, 61, 62, 63, 64, 65, 66, 67, 68, 69, 70, 71, 72, 73, 74, 75, 76, 77], 0, 0, true)]
          [(58, 0), (59, 1), (60, 2), (61, 3), (62, 4), (63, 5), (64, 6), (65, 7), (66, 8), (67, 9), (68, 10), (69, 11), (70, 12), (71, 13), (72, 14), (73, 15), (74, 16), (75, 17), (76, 18), (77, 19)] 1
          [(0, _), (2, _), (3, _)] [_, _, _, _, _, _, _, _, _, _, _, _, _, _, _, _, _, _, _, _, _] [H4, H7] rfl (by kernel_rfl)
        case hF => exact ⟨rfl, rfl, rfl, trivial⟩
        case h0 => rfl
        case steps =>
          (try (conv => whnf)); repeat' (first | (refine Ob.of rfl ?_; (conv => whnf)) | exact Leaf.mk rfl rfl | (refine Ob.of (ald rfl rfl (by assumption) rfl) ?_; (conv => whnf)) | (refine And.intro ?_ ?_ <;> (conv => whnf)) | (refine Ob.of (by first | exact hst | exact rem_ok hz) ?_; (conv => whnf)) | (refine Ob2.of (by first | exact hst | exact rem_ok hz) ?_; (conv => whnf)) | (refine Ob2.of (by rfl) ?_; (conv => whnf)) | exact True.intro | (first | (refine Ob.of (by first | rfl | (exact ald rfl rfl (by assumption) rfl) | (exact ald_agg rfl rfl rfl (by assumption) rfl)) ?_; (conv => whnf)) | (refine bIf.yes (by first | assumption | rfl) ?_; (conv => whnf)) | (refine bIf.no (by first | assumption | rfl) ?_; (conv => whnf))))
        have hq7 := hblk_of s1
        (try (conv => whnf)); repeat (first | (refine Ob.of (by first | rfl | (exact ald rfl rfl (by assumption) rfl) | (exact ald_agg rfl rfl rfl (by assumption) rfl)) ?_; (conv => whnf)) | (refine bIf.yes (by first | assumption | rfl) ?_; (conv => whnf)) | (refine bIf.no (by first | assumption | rfl) ?_; (conv => whnf)))
        have ho : nxO fns after (4, n) = (4, (n.tmod fns + fns).tmod fns) := by simp [nxO, hf]
        rw [ho, hw]
        exact ⟨rfl, ⟨_, s2.at n1 (by omega), h2, h3, h4, .tail hm (s2.at hc4 (by omega)) hp⟩, g4.but_new s2 (by omega)⟩
      · (try (conv => whnf)); repeat (first | (refine Ob.of (by first | rfl | (exact ald rfl rfl (by assumption) rfl) | (exact ald_agg rfl rfl rfl (by assumption) rfl)) ?_; (conv => whnf)) | (refine bIf.yes (by first | assumption | rfl) ?_; (conv => whnf)) | (refine bIf.no (by first | assumption | rfl) ?_; (conv => whnf)))
        obtain ⟨H7, hst, s1, s2, s3⟩ := store_ex (P := Try.prog) (t := 28) (off := 0) (v := .agg #[.int .i64 5, .int .i64 ((IntKind.i64.wrap (n.tmod fns + fns)).tmod fns)]) rfl rfl rfl hq4 rfl (by first | exact Nat.le_of_ble_eq_true rfl | simp)
        apply SW.draw2 [([], [60, 61, 62, 63, 64, 65, 66, 67, 68, 69, 70, 71, 72, 73, 74, 75, 76], 0, 0, false), ([(58, 0)], [58, 60, 61, 62, 63, 64, 65, 66, 67, 68, 69, 70, 71, 72, 73, 74, 75, 76], 0, 0, false), ([], [58, 59, 62, 63, 64, 65, 67, 68, 69, 70, 72, 73, 74, 75], 0, 0, false), ([(60, 2)], [58, 59, 60, 62, 63, 64, 65, 67, 68, 69, 70, 72, 73, 74, 75], 0, 0, false), ([], [58, 59, 60, 61, 67, 68, 69, 70, 72, 73, 74, 75], 0, 0, false), ([(62, 4)], [58, 59, 60, 61, 62, 67, 68, 69, 70, 72, 73, 74, 75], 0, 0, false), ([(62, 4), (63, 5)], [58, 59, 60, 61, 62, 63, 67, 68, 69, 70, 72, 73, 74, 75], 0, 0, false), ([(62, 4), (63, 5), (64, 6)], [58, 59, 60, 61, 62, 63, 64, 67, 68, 69, 70, 72, 73, 74, 75], 0, 0, false), ([(60, 2), (61, 3), (62, 4), (63, 5), (64, 6), (65, 7)], [58, 59, 60, 61, 62, 63, 64, 65, 67, 68, 69, 70, 72, 73, 74, 75], 0, 0, false), ([], [58, 59, 60, 61, 62, 63, 64, 65, 66, 72, 73, 74, 75], 0, 0, false), ([(67, 9)], [58, 59, 60, 61, 62, 63, 64, 65, 66, 67, 72, 73, 74, 75], 0, 0, false), ([(67, 9), (68, 10)], [58, 59, 60, 61, 62, 63, 64, 65, 66, 67, 68, 72, 73, 74, 75], 0, 0, false), ([(67, 9), (68, 10), (69, 11)], [58, 59, 60, 61, 62, 63, 64, 65, 66, 67, 68, 69, 72, 73, 74, 75], 0, 0, false), ([(60, 2), (61, 3), (62, 4), (63, 5), (64, 6), (65, 7), (66, 8), (67, 9), (68, 10), (69, 11), (70, 12)], [58, 59, 60, 61, 62, 63, 64, 65, 66, 67, 68, 69, 70, 72, 73, 74, 75], 0, 0, false), ([], [58, 59, 60, 61, 62, 63, 64, 65, 66, 67, 68, 69, 70, 71], 0, 0, false), ([(72, 14)], [58, 59, 60, 61, 62, 63, 64, 65, 66, 67, 68, 69, 70, 71, 72], 0, 0, false), ([(72, 14), (73, 15)], [58, 59, 60, 61, 62, 63, 64, 65, 66, 67, 68, 69, 70, 71, 72, 73], 0, 0, false), ([(72, 14), (73, 15), (74, 16)], [58, 59, 60, 61, 62, 63, 64, 65, 66, 67, 68, 69, 70, 71, 72, 73, 74], 0, 0, false), ([(60, 2), (61, 3), (62, 4), (63, 5), (64, 6), (65, 7), (66, 8), (67, 9), (68, 10), (69, 11), (70, 12), (71, 13), (72, 14), (73, 15), (74, 16), (75, 17)], [58, 59, 60, 61, 62, 63, 64, 65, 66, 67, 68, 69, 70, 71, 72, 73, 74, 75], 0, 0, false), ([(58, 0), (59, 1), (60, 2), (61, 3), (62, 4), (63, 5), (64, 6), (65, 7), (66, 8), (67, 9), (68, 10), (69, 11), (70, 12), (71, 13), (72, 14), (73, 15), (74, 16), (75, 17), (76, 18)], [58, 59, 60, 61, 62, 63, 64, 65, 66, 67, 68, 69, 70, 71, 72, 73, 74, 75, 76], 0, 0, false), ([(58, 0), (59, 1), (60, 2), (61, 3), (62, 4), (63, 5), (64, 6), (65, 7), (66, 8), (67, 9), (68, 10), (69, 11), (70, 12), (71, 13), (72, 14), (73, 15), (74, 16), (75, 17), (76, 18), (77, 19)], [58, 59, 60, 61, 62, 63, 64, 65, 66, 67, 68, 69, 70, 71, 72, 73, 74, 75, 76, 77], 0, 0, true)]
          [(58, 0), (59, 1), (60, 2), (61, 3), (62, 4), (63, 5), (64, 6), (65, 7), (66, 8), (67, 9), (68, 10), (69, 11), (70, 12), (71, 13), (72, 14), (73, 15), (74, 16), (75, 17), (76, 18), (77, 19)] 1
          [(0, _), (2, _), (3, _)] [_, _, _, _, _, _, _, _, _, _, _, _, _, _, _, _, _, _, _, _, _] [H4, H7] rfl (by kernel_rfl)
        case hF => exact ⟨rfl, rfl, rfl, trivial⟩
        case h0 => rfl
        case steps =>
          (try (conv => whnf)); repeat' (first | (refine Ob.of rfl ?_; (conv => whnf)) | exact Leaf.mk rfl rfl | (refine Ob.of (ald rfl rfl (by assumption) rfl) ?_; (conv => whnf)) | (refine And.intro ?_ ?_ <;> (conv => whnf)) | (refine Ob.of (by first | exact hst | exact rem_ok hz) ?_; (conv => whnf)) | (refine Ob2.of (by first | exact hst | exact rem_ok hz) ?_; (conv => whnf)) | (refine Ob2.of (by rfl) ?_; (conv => whnf)) | exact True.intro | (first | (refine Ob.of (by first | rfl | (exact ald rfl rfl (by assumption) rfl) | (exact ald_agg rfl rfl rfl (by assumption) rfl)) ?_; (conv => whnf)) | (refine bIf.yes (by first | assumption | rfl) ?_; (conv => whnf)) | (refine bIf.no (by first | assumption | rfl) ?_; (conv => whnf))))
        have hq7 := hblk_of s1
        (try (conv => whnf)); repeat (first | (refine Ob.of (by first | rfl | (exact ald rfl rfl (by assumption) rfl) | (exact ald_agg rfl rfl rfl (by assumption) rfl)) ?_; (conv => whnf)) | (refine bIf.yes (by first | assumption | rfl) ?_; (conv => whnf)) | (refine bIf.no (by first | assumption | rfl) ?_; (conv => whnf)))
        have ho : nxO fns after (5, n) = (5, (n.tmod fns + fns).tmod fns) := by simp [nxO, hf]
        rw [ho, hw]
        exact ⟨rfl, ⟨_, s2.at n1 (by omega), h2, h3, h4, .tail hm (s2.at hc4 (by omega)) hp⟩, g4.but_new s2 (by omega)⟩
    · have bf : decide (fns > 0) = false := by simp; omega
      have ho : nxO fns after (k, n) = (0, 0) := by simp [nxO, e1, e6, hf]
      have ha : nxA after (k, n) = after := by simp [nxA, e1]
      rcases ek with rfl | rfl | rfl | rfl
      all_goals
        (try (conv => whnf)); repeat (first | (refine Ob.of (by first | rfl | (exact ald rfl rfl (by assumption) rfl) | (exact ald_agg rfl rfl rfl (by assumption) rfl)) ?_; (conv => whnf)) | (refine bIf.yes (by first | assumption | rfl) ?_; (conv => whnf)) | (refine bIf.no (by first | assumption | rfl) ?_; (conv => whnf)))
        refine Ob.store (off := 0) rfl rfl rfl hq4 rfl (by first | exact Nat.le_of_ble_eq_true rfl | simp) fun H7 s1 s2 s3 => ?_
        have hq7 := hblk_of s1
        (try (conv => whnf)); repeat (first | (refine Ob.of (by first | rfl | (exact ald rfl rfl (by assumption) rfl) | (exact ald_agg rfl rfl rfl (by assumption) rfl)) ?_; (conv => whnf)) | (refine bIf.yes (by first | assumption | rfl) ?_; (conv => whnf)) | (refine bIf.no (by first | assumption | rfl) ?_; (conv => whnf)))
        rw [ho, ha]
        exact ⟨rfl, ⟨_, s2.at n1 (by omega), h2, h3, h4, .tail hm (s2.at hc4 (by omega)) hp⟩, g4.but_new s2 (by omega)⟩
  · have b2 : (k == 2) = false := by simp; omega
    have b3 : (k == 3) = false := by simp; omega
    have b4 : (k == 4) = false := by simp; omega
    have b5 : (k == 5) = false := by simp; omega
    have ho : nxO fns after (k, n) = (0, 0) := by simp [nxO, e1, e6, ek]
    have ha : nxA after (k, n) = after := by simp [nxA, e1]
    (try (conv => whnf)); repeat (first | (refine Ob.of (by first | rfl | (exact ald rfl rfl (by assumption) rfl) | (exact ald_agg rfl rfl rfl (by assumption) rfl)) ?_; (conv => whnf)) | (refine bIf.yes (by first | assumption | rfl) ?_; (conv => whnf)) | (refine bIf.no (by first | assumption | rfl) ?_; (conv => whnf)))
    refine Ob.store (off := 0) rfl rfl rfl hq4 rfl (by first | exact Nat.le_of_ble_eq_true rfl | simp) fun H7 s1 s2 s3 => ?_
    have hq7 := hblk_of s1
    (try (conv => whnf)); repeat (first | (refine Ob.of (by first | rfl | (exact ald rfl rfl (by assumption) rfl) | (exact ald_agg rfl rfl rfl (by assumption) rfl)) ?_; (conv => whnf)) | (refine bIf.yes (by first | assumption | rfl) ?_; (conv => whnf)) | (refine bIf.no (by first | assumption | rfl) ?_; (conv => whnf)))
    rw [ho, ha]
    exact ⟨rfl, ⟨_, s2.at n1 (by omega), h2, h3, h4, .tail hm (s2.at hc4 (by omega)) hp⟩, g4.but_new s2 (by omega)⟩
end Go.Proofs.Ytdceiblihamfmaa
