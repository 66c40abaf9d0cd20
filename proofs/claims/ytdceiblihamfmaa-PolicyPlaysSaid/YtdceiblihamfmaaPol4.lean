/- A policy: what a call means. -/
import Derived.Test.YtdceiblihamfmaaPol3
set_option linter.unusedVariables false
set_option linter.unusedSimpArgs false
namespace Go.Proofs.Ytdceiblihamfmaa
open Go Ax
def nV (fns after : Int) : List (Int × Int) → Int × Int
  | [] => (0, 0)
  | x :: _ => nxO fns after x
def nA (after : Int) : List (Int × Int) → Int
  | [] => after
  | x :: _ => nxA after x
theorem next_ax {H : Heap} {p : Nat} {L : List (Int × Int)} {fns after : Int} {cs : List Int} (h : Pol H p L fns after cs) :
    AX Try.prog 19 #[ptr p] H (fun v H' => v = pickV (nV fns after L) ∧ Pol H' p L.tail fns (nA after L) cs ∧ But p H H') := by
  cases L with
  | nil => exact (next_nil h).mono fun v H' ⟨h1, h2⟩ => ⟨h1, h.grow h2, h2.but p⟩
  | cons x L => obtain ⟨k, n⟩ := x; exact next_cons h
def bump (fns : Int) (cs : List Int) (f : Int) : List Int := if 0 ≤ f ∧ f < fns then cs.set f.toNat (IntKind.i64.wrap (cnt fns cs f + 1)) else cs
theorem call_nil (H : Heap) (f : Int) : AX Try.prog 10 #[.pointer none, .int .i64 f] H (fun v H' => v = .tuple #[pickV (0, 0), .bool false] ∧ Grow H H') := by
  refine AX.body (n := 46) (rs := [.cell 4 28, .tmp 5]) Try.func10 rfl (by decide) rfl rfl (bC_sound _ _ _ _ ?_)
  (conv => whnf)
  refine Ob2.alloc rfl fun q H1 hq k1 k2 => ?_
  (try (conv => whnf)); repeat (first | (refine Ob.of (by first | rfl | (exact ald rfl rfl (by assumption) rfl) | (exact ald_agg rfl rfl rfl (by assumption) rfl)) ?_; (conv => whnf)) | (refine bIf.yes (by first | assumption | rfl) ?_; (conv => whnf)) | (refine bIf.no (by first | assumption | rfl) ?_; (conv => whnf)))
  refine Ob.store rfl rfl rfl k1 rfl (by first | exact Nat.le_of_ble_eq_true rfl | simp) fun H2 m1 m2 m3 => ?_
  have hq2 := hblk_of m1
  (try (conv => whnf)); repeat (first | (refine Ob.of (by first | rfl | (exact ald rfl rfl (by assumption) rfl) | (exact ald_agg rfl rfl rfl (by assumption) rfl)) ?_; (conv => whnf)) | (refine bIf.yes (by first | assumption | rfl) ?_; (conv => whnf)) | (refine bIf.no (by first | assumption | rfl) ?_; (conv => whnf)))
  exact ⟨rfl, k2.but_new m2 (by omega)⟩
theorem call_zero {H : Heap} {p : Nat} {L : List (Int × Int)} {fns : Int} {cs : List Int} (h : Pol H p L fns 0 cs) (f : Int) : AX Try.prog 10 #[ptr p, .int .i64 f] H (fun v H' => v = .tuple #[pickV (0, 0), .bool false] ∧ Grow H H') := by
  obtain ⟨sv, h1, h2, h3, h4, h5⟩ := h
  have hb := hblk_of h1
  refine AX.body (n := 46) (rs := [.cell 4 28, .tmp 5]) Try.func10 rfl (by decide) rfl rfl (bC_sound _ _ _ _ ?_)
  (conv => whnf)
  refine Ob2.alloc rfl fun q H1 hq k1 k2 => ?_
  have hb1 := k2.hblk hb
  (try (conv => whnf)); repeat (first | (refine Ob.of (by first | rfl | (exact ald rfl rfl (by assumption) rfl) | (exact ald_agg rfl rfl rfl (by assumption) rfl)) ?_; (conv => whnf)) | (refine bIf.yes (by first | assumption | rfl) ?_; (conv => whnf)) | (refine bIf.no (by first | assumption | rfl) ?_; (conv => whnf)))
  refine Ob.store rfl rfl rfl k1 rfl (by first | exact Nat.le_of_ble_eq_true rfl | simp) fun H2 m1 m2 m3 => ?_
  have hq2 := hblk_of m1
  (try (conv => whnf)); repeat (first | (refine Ob.of (by first | rfl | (exact ald rfl rfl (by assumption) rfl) | (exact ald_agg rfl rfl rfl (by assumption) rfl)) ?_; (conv => whnf)) | (refine bIf.yes (by first | assumption | rfl) ?_; (conv => whnf)) | (refine bIf.no (by first | assumption | rfl) ?_; (conv => whnf)))
  exact ⟨rfl, k2.but_new m2 (by omega)⟩
theorem call_ax {H : Heap} {p : Nat} {L : List (Int × Int)} {fns after : Int} {cs : List Int} (h : Pol H p L fns after cs) (h0 : after ≠ 0) (f : Int) :
    AX Try.prog 10 #[ptr p, .int .i64 f] H (fun v H' => v = .tuple #[pickV (nV fns after L), .bool (decide (0 ≤ f ∧ f < fns) && decide (cnt fns (bump fns cs f) f ≥ nA after L))] ∧ Pol H' p L.tail fns (nA after L) (bump fns cs f) ∧ But p H H') := by
  have hh := h
  obtain ⟨sv, h1, h2, h3, h4, h5⟩ := h
  have hb := hblk_of h1
  have hlt := lt_at h1
  refine AX.body (n := 46) (rs := [.cell 4 28, .tmp 5]) Try.func10 rfl (by decide) rfl rfl (bC_sound _ _ _ _ ?_)
  (conv => whnf)
  refine Ob2.alloc rfl fun q H1 hq k1 k2 => ?_
  have hb1 := k2.hblk hb
  have b0 : (after == 0) = false := by simp [h0]
  (try (conv => whnf)); repeat (first | (refine Ob.of (by first | rfl | (exact ald rfl rfl (by assumption) rfl) | (exact ald_agg rfl rfl rfl (by assumption) rfl)) ?_; (conv => whnf)) | (refine bIf.yes (by first | assumption | rfl) ?_; (conv => whnf)) | (refine bIf.no (by first | assumption | rfl) ?_; (conv => whnf)))
  refine (next_ax (hh.grow k2)).mono ?_
  rintro _ H2 ⟨rfl, g1, g2⟩
  have hq2 := g2.at k1 (by omega)
  have ll := g2.1
  (conv => whnf)
  refine Ob2.alloc rfl fun q6 H3 hq6 l1 l2 => ?_
  (conv => whnf)
  refine Ob.store rfl rfl rfl l1 rfl (by first | exact Nat.le_of_ble_eq_true rfl | simp) fun H4 m1 m2 m3 => ?_
  have hx4 := hblk_of m1
  have hlq := lt_at k1
  have hq4 := m2.at (l2.at hq2) (by omega)
  have gg : Grow H2 H4 := l2.but_new m2 (by omega)
  have g4 := g1.grow gg
  (try (conv => whnf)); repeat (first | (refine Ob.of (by first | rfl | (exact ald rfl rfl (by assumption) rfl) | (exact ald_agg rfl rfl rfl (by assumption) rfl)) ?_; (conv => whnf)) | (refine bIf.yes (by first | assumption | rfl) ?_; (conv => whnf)) | (refine bIf.no (by first | assumption | rfl) ?_; (conv => whnf)))
  refine (is_ax g4 f).mono ?_
  rintro _ X ⟨rfl, e⟩
  subst X
  (try (conv => whnf)); repeat (first | (refine Ob.of (by first | rfl | (exact ald rfl rfl (by assumption) rfl) | (exact ald_agg rfl rfl rfl (by assumption) rfl)) ?_; (conv => whnf)) | (refine bIf.yes (by first | assumption | rfl) ?_; (conv => whnf)) | (refine bIf.no (by first | assumption | rfl) ?_; (conv => whnf)))
  obtain ⟨sv', n1, n2, n3, n4, n5⟩ := g4
  have hb4 := hblk_of n1
  have g04 : But p H H4 := ((k2.but p).trans g2).trans (gg.but p)
  by_cases hf : 0 ≤ f ∧ f < fns
  · refine bIf.no (by simp [hf]) ?_
    have hf2 : f < ((32 : Nat) : Int) := by omega
    have hc := cnt_get n2 n4 hf
    (conv => whnf)
    obtain ⟨H5, hst, s1, s2, s3⟩ := store_ex (P := Try.prog) (t := 3) (off := 0 + 3 + f.toNat * 1) (v := .int .i64 (IntKind.i64.wrap (cnt fns cs f + 1))) rfl rfl rfl n1 rfl (by simp [n2]; omega)
    rw [pol_put] at s1
    apply SW.draw2 [([], [25], 0, 0, false), ([], [24, 26, 27, 31, 32], 0, 0, false), ([(24, 0)], [24, 25, 31, 32], 0, 0, false), ([(24, 0), (26, 2)], [24, 25, 26, 31, 32], 0, 0, false), ([(24, 0), (25, 1), (26, 2), (27, 3)], [24, 25, 26, 27, 31, 32], 0, 0, false), ([(24, 0), (25, 1), (26, 2), (27, 3), (28, 4)], [24, 25, 26, 27, 28, 31, 32], 0, 0, false), ([(24, 0), (25, 1), (26, 2), (27, 3), (28, 4), (29, 5)], [24, 25, 26, 27, 28, 29, 31, 32], 0, 0, false), ([(24, 0)], [24, 25, 26, 27, 28, 29, 30], 0, 0, false), ([(24, 0), (31, 7)], [24, 25, 26, 27, 28, 29, 30, 31], 0, 0, false), ([(24, 0), (25, 1), (26, 2), (27, 3), (28, 4), (29, 5), (30, 6), (31, 7), (32, 8)], [24, 25, 26, 27, 28, 29, 30, 31, 32], 0, 0, false), ([(24, 0), (25, 1), (26, 2), (27, 3), (28, 4), (29, 5), (30, 6), (31, 7), (32, 8), (33, 9)], [24, 25, 26, 27, 28, 29, 30, 31, 32, 33], 0, 0, true)]
      [(24, 0), (25, 1), (26, 2), (27, 3), (28, 4), (29, 5), (30, 6), (31, 7), (32, 8), (33, 9)] 1
      [(0, _), (1, _), (4, _), (6, _)] [_, _, _, _, _, _, _, _, _, _, _] [H4, H5] rfl (by kernel_rfl)
    case hF => exact ⟨rfl, rfl, rfl, rfl, trivial⟩
    case h0 => rfl
    case steps =>
      (try (conv => whnf)); repeat' (first | (refine Ob.of rfl ?_; (conv => whnf)) | exact Leaf.mk rfl rfl | (refine Ob.of (ald rfl rfl (by assumption) rfl) ?_; (conv => whnf)) | (refine And.intro ?_ ?_ <;> (conv => whnf)) | (refine Ob.of (by first | exact idx_array (off := 0 + 3) (k := 1) rfl rfl hf.1 hf2 | exact ald rfl rfl hb4 (pol_get hc) | exact hst) ?_; (conv => whnf)) | (refine Ob2.of (by first | exact idx_array (off := 0 + 3) (k := 1) rfl rfl hf.1 hf2 | exact ald rfl rfl hb4 (pol_get hc) | exact hst) ?_; (conv => whnf)) | (refine Ob2.of (by rfl) ?_; (conv => whnf)) | exact True.intro | (first | (refine Ob.of (by first | rfl | (exact ald rfl rfl (by assumption) rfl) | (exact ald_agg rfl rfl rfl (by assumption) rfl)) ?_; (conv => whnf)) | (refine bIf.yes (by first | assumption | rfl) ?_; (conv => whnf)) | (refine bIf.no (by first | assumption | rfl) ?_; (conv => whnf))))
    have hb5 := hblk_of s1
    have hbc : bump fns cs f = cs.set f.toNat (IntKind.i64.wrap (cnt fns cs f + 1)) := by simp only [bump, if_pos hf]
    have hc5 : (cs.set f.toNat (IntKind.i64.wrap (cnt fns cs f + 1)))[f.toNat]? = some (cnt fns (bump fns cs f) f) := by
      rw [← hbc]; exact cnt_get (by simp [hbc, n2]) n4 hf
    have hx5 := s2.hblk hx4 (by omega)
    have hq5 := s2.at hq4 (by omega)
    obtain ⟨H6, hst2, r1, r2, r3⟩ := store_ex (P := Try.prog) (t := 28) (off := 0) (v := pickV (nV fns after L)) rfl rfl rfl hq5 rfl (by first | exact Nat.le_of_ble_eq_true rfl | simp)
    have hb6 := r2.hblk hb5 (by omega)
    have hq6' := hblk_of r1
    (try (conv => whnf)); repeat (first | (refine Ob.of (by first | rfl | (exact ald rfl rfl (by assumption) rfl) | (exact ald_agg rfl rfl rfl (by assumption) rfl)) ?_; (conv => whnf)) | (refine bIf.yes (by first | assumption | rfl) ?_; (conv => whnf)) | (refine bIf.no (by first | assumption | rfl) ?_; (conv => whnf)))
    apply SW.draw2 [([], [35, 36, 37, 38, 39, 40, 41, 42, 43, 44, 45], 0, 0, false), ([], [34, 36, 41, 42, 43, 44], 0, 1, false), ([], [34, 35, 37, 38, 41, 42, 43, 44], 0, 1, false), ([(35, 1)], [34, 35, 36, 41, 42, 43, 44], 0, 1, false), ([(35, 1), (37, 3)], [34, 35, 36, 37, 41, 42, 43, 44], 0, 1, false), ([(35, 1), (36, 2), (37, 3), (38, 4)], [34, 35, 36, 37, 38, 41, 42, 43, 44], 0, 1, false), ([(35, 1), (36, 2), (37, 3), (38, 4), (39, 5)], [34, 35, 36, 37, 38, 39, 41, 42, 43, 44], 0, 1, false), ([], [34, 35, 36, 37, 38, 39, 40], 0, 1, false), ([(41, 7)], [34, 35, 36, 37, 38, 39, 40, 41], 0, 1, false), ([(41, 7), (42, 8)], [34, 35, 36, 37, 38, 39, 40, 41, 42], 0, 1, false), ([(41, 7), (42, 8), (43, 9)], [34, 35, 36, 37, 38, 39, 40, 41, 42, 43], 0, 1, false), ([(35, 1), (36, 2), (37, 3), (38, 4), (39, 5), (40, 6), (41, 7), (42, 8), (43, 9), (44, 10)], [34, 35, 36, 37, 38, 39, 40, 41, 42, 43, 44], 0, 1, false), ([(34, 0)], [34, 35, 36, 37, 38, 39, 40, 41, 42, 43, 44, 45], 0, 0, true), ([(34, 0), (35, 1), (36, 2), (37, 3), (38, 4), (39, 5), (40, 6), (41, 7), (42, 8), (43, 9), (44, 10), (45, 11)], [34, 35, 36, 37, 38, 39, 40, 41, 42, 43, 44, 45], 1, 0, false)]
      [(34, 0), (35, 1), (36, 2), (37, 3), (38, 4), (39, 5), (40, 6), (41, 7), (42, 8), (43, 9), (44, 10), (45, 11), (5, 13)] 1
      [(0, _), (1, _), (4, _), (6, _)] [_, _, _, _, _, _, _, _, _, _, _, _, _, _] [H5, H6] rfl (by kernel_rfl)
    case hF => exact ⟨rfl, rfl, rfl, rfl, trivial⟩
    case h0 => rfl
    case steps =>
      (try (conv => whnf)); repeat' (first | (refine Ob.of rfl ?_; (conv => whnf)) | exact Leaf.mk rfl rfl | (refine Ob.of (ald rfl rfl (by assumption) rfl) ?_; (conv => whnf)) | (refine And.intro ?_ ?_ <;> (conv => whnf)) | (refine Ob.of (by first | exact idx_array (off := 0 + 3) (k := 1) rfl rfl hf.1 hf2 | exact ald_agg rfl rfl rfl hx5 rfl | exact ald rfl rfl hb5 (pol_get hc5) | exact ald rfl rfl hb6 (pol_get hc5) | exact hst2) ?_; (conv => whnf)) | (refine Ob2.of (by first | exact idx_array (off := 0 + 3) (k := 1) rfl rfl hf.1 hf2 | exact ald_agg rfl rfl rfl hx5 rfl | exact ald rfl rfl hb5 (pol_get hc5) | exact ald rfl rfl hb6 (pol_get hc5) | exact hst2) ?_; (conv => whnf)) | (refine Ob2.of (by rfl) ?_; (conv => whnf)) | exact True.intro | (first | (refine Ob.of (by first | rfl | (exact ald rfl rfl (by assumption) rfl) | (exact ald_agg rfl rfl rfl (by assumption) rfl)) ?_; (conv => whnf)) | (refine bIf.yes (by first | assumption | rfl) ?_; (conv => whnf)) | (refine bIf.no (by first | assumption | rfl) ?_; (conv => whnf))))
    (try (conv => whnf)); repeat (first | (refine Ob.of (by first | rfl | (exact ald rfl rfl (by assumption) rfl) | (exact ald_agg rfl rfl rfl (by assumption) rfl)) ?_; (conv => whnf)) | (refine bIf.yes (by first | assumption | rfl) ?_; (conv => whnf)) | (refine bIf.no (by first | assumption | rfl) ?_; (conv => whnf)))
    rw [decide_eq_true hf, Bool.true_and]
    exact ⟨rfl, ⟨sv', by rw [hbc]; exact r2.at s1 (by omega), by simp [hbc, n2], n3, n4, (n5.but s2 (.of n1)).but r2 (.of hq5)⟩, (g04.trans s2).but_new r2 (by omega)⟩
  · refine bIf.yes (by simp; omega) ?_
    (try (conv => whnf)); repeat (first | (refine Ob.of (by first | rfl | (exact ald rfl rfl (by assumption) rfl) | (exact ald_agg rfl rfl rfl (by assumption) rfl)) ?_; (conv => whnf)) | (refine bIf.yes (by first | assumption | rfl) ?_; (conv => whnf)) | (refine bIf.no (by first | assumption | rfl) ?_; (conv => whnf)))
    refine Ob.store rfl rfl rfl hq4 rfl (by first | exact Nat.le_of_ble_eq_true rfl | simp) fun H5 s1 s2 s3 => ?_
    have hq5 := hblk_of s1
    (try (conv => whnf)); repeat (first | (refine Ob.of (by first | rfl | (exact ald rfl rfl (by assumption) rfl) | (exact ald_agg rfl rfl rfl (by assumption) rfl)) ?_; (conv => whnf)) | (refine bIf.yes (by first | assumption | rfl) ?_; (conv => whnf)) | (refine bIf.no (by first | assumption | rfl) ?_; (conv => whnf)))
    have hbc : bump fns cs f = cs := by simp only [bump, if_neg hf]
    rw [hbc, decide_eq_false hf]
    exact ⟨rfl, ⟨sv', s2.at n1 (by omega), n2, n3, n4, n5.but s2 (.of hq4)⟩, g04.but_new s2 (by omega)⟩
end Go.Proofs.Ytdceiblihamfmaa
