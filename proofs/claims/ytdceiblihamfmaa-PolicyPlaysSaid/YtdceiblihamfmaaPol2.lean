/- A policy: how often a function was called, and to let it be cold; the pick that is taken. -/
import Derived.Test.YtdceiblihamfmaaPol1
set_option linter.unusedVariables false
set_option linter.unusedSimpArgs false
namespace Go.Proofs.Ytdceiblihamfmaa
open Go Ax
theorem pol_get {sv : Value} {fns after n : Int} {cs : List Int} {i : Nat} (h : cs[i]? = some n) : (polC sv fns after cs)[0 + 3 + i * 1]? = some (.int .i64 n) := by
  rw [show 0 + 3 + i * 1 = i + 3 by omega]
  simp [polC, h]
theorem pol_put {sv : Value} {fns after n : Int} {cs : List Int} {i : Nat} : putL (polC sv fns after cs) (0 + 3 + i * 1) [.int .i64 n] = polC sv fns after (cs.set i n) := by
  rw [show 0 + 3 + i * 1 = i + 3 by omega]
  simp [polC, putL, List.map_set]
theorem dec_and {a b : Prop} [Decidable a] [Decidable b] : (decide a && decide b) = true ↔ a ∧ b := by simp
def cnt (fns : Int) (cs : List Int) (f : Int) : Int := if 0 ≤ f ∧ f < fns then cs.getD f.toNat 0 else 0
theorem cnt_get {fns : Int} {cs : List Int} {f : Int} (hc : cs.length = 32) (h4 : fns ≤ 32) (h : 0 ≤ f ∧ f < fns) : cs[f.toNat]? = some (cnt fns cs f) := by
  have : f.toNat < cs.length := by omega
  simp [cnt, h, List.getD_eq_getElem?_getD, List.getElem?_eq_getElem this]
theorem cnt_no {fns : Int} {cs : List Int} {f : Int} (h : ¬ (0 ≤ f ∧ f < fns)) : cnt fns cs f = 0 := by simp only [cnt, if_neg h]
def cool (fns : Int) (cs : List Int) (f : Int) : List Int := if 0 ≤ f ∧ f < fns then cs.set f.toNat 0 else cs

theorem count_nil (H : Heap) (f : Int) : AX Try.prog 16 #[.pointer none, .int .i64 f] H (fun v H' => v = .int .i64 0 ∧ H' = H) := by
  refine AX.body (n := 15) (rs := [.tmp 4]) Try.func16 rfl (by decide) rfl rfl (bC_sound _ _ _ _ ?_)
  (try (conv => whnf)); repeat (first | (refine Ob.of (by first | rfl | (exact ald rfl rfl (by assumption) rfl) | (exact ald_agg rfl rfl rfl (by assumption) rfl)) ?_; (conv => whnf)) | (refine bIf.yes (by first | assumption | rfl) ?_; (conv => whnf)) | (refine bIf.no (by first | assumption | rfl) ?_; (conv => whnf)))
  refine (is_nil H f).mono ?_
  rintro _ _ ⟨rfl, rfl⟩
  (try (conv => whnf)); repeat (first | (refine Ob.of (by first | rfl | (exact ald rfl rfl (by assumption) rfl) | (exact ald_agg rfl rfl rfl (by assumption) rfl)) ?_; (conv => whnf)) | (refine bIf.yes (by first | assumption | rfl) ?_; (conv => whnf)) | (refine bIf.no (by first | assumption | rfl) ?_; (conv => whnf)))
  exact ⟨rfl, rfl⟩
theorem count_ax {H : Heap} {p : Nat} {L : List (Int × Int)} {fns after : Int} {cs : List Int} (h : Pol H p L fns after cs) (f : Int) :
    AX Try.prog 16 #[ptr p, .int .i64 f] H (fun v H' => v = .int .i64 (cnt fns cs f) ∧ H' = H) := by
  have h0 := h
  obtain ⟨sv, h1, h2, h3, h4, h5⟩ := h
  have hb := hblk_of h1
  refine AX.body (n := 15) (rs := [.tmp 4]) Try.func16 rfl (by decide) rfl rfl (bC_sound _ _ _ _ ?_)
  (try (conv => whnf)); repeat (first | (refine Ob.of (by first | rfl | (exact ald rfl rfl (by assumption) rfl) | (exact ald_agg rfl rfl rfl (by assumption) rfl)) ?_; (conv => whnf)) | (refine bIf.yes (by first | assumption | rfl) ?_; (conv => whnf)) | (refine bIf.no (by first | assumption | rfl) ?_; (conv => whnf)))
  refine (is_ax h0 f).mono ?_
  rintro _ _ ⟨rfl, rfl⟩
  (try (conv => whnf)); repeat (first | (refine Ob.of (by first | rfl | (exact ald rfl rfl (by assumption) rfl) | (exact ald_agg rfl rfl rfl (by assumption) rfl)) ?_; (conv => whnf)) | (refine bIf.yes (by first | assumption | rfl) ?_; (conv => whnf)) | (refine bIf.no (by first | assumption | rfl) ?_; (conv => whnf)))
  by_cases hf : 0 ≤ f ∧ f < fns
  · refine bIf.no (by simp [hf]) ?_
    (try (conv => whnf)); repeat (first | (refine Ob.of (by first | rfl | (exact ald rfl rfl (by assumption) rfl) | (exact ald_agg rfl rfl rfl (by assumption) rfl)) ?_; (conv => whnf)) | (refine bIf.yes (by first | assumption | rfl) ?_; (conv => whnf)) | (refine bIf.no (by first | assumption | rfl) ?_; (conv => whnf)))
    refine Ob.of (idx_array (off := 0 + 3) (k := 1) rfl rfl hf.1 (by omega)) ?_
    (conv => whnf)
    refine Ob.of (ald rfl rfl hb (pol_get (cnt_get h2 h4 hf))) ?_
    (try (conv => whnf)); repeat (first | (refine Ob.of (by first | rfl | (exact ald rfl rfl (by assumption) rfl) | (exact ald_agg rfl rfl rfl (by assumption) rfl)) ?_; (conv => whnf)) | (refine bIf.yes (by first | assumption | rfl) ?_; (conv => whnf)) | (refine bIf.no (by first | assumption | rfl) ?_; (conv => whnf)))
    exact ⟨rfl, rfl⟩
  · refine bIf.yes (by simp; omega) ?_
    (try (conv => whnf)); repeat (first | (refine Ob.of (by first | rfl | (exact ald rfl rfl (by assumption) rfl) | (exact ald_agg rfl rfl rfl (by assumption) rfl)) ?_; (conv => whnf)) | (refine bIf.yes (by first | assumption | rfl) ?_; (conv => whnf)) | (refine bIf.no (by first | assumption | rfl) ?_; (conv => whnf)))
    rw [cnt_no hf]
    exact ⟨rfl, rfl⟩
theorem cool_nil (H : Heap) (f : Int) : AX Try.prog 13 #[.pointer none, .int .i64 f] H (fun v H' => H' = H) := by
  refine AX.body (n := 12) (rs := []) Try.func13 rfl (by decide) rfl rfl (bC_sound _ _ _ _ ?_)
  (try (conv => whnf)); repeat (first | (refine Ob.of (by first | rfl | (exact ald rfl rfl (by assumption) rfl) | (exact ald_agg rfl rfl rfl (by assumption) rfl)) ?_; (conv => whnf)) | (refine bIf.yes (by first | assumption | rfl) ?_; (conv => whnf)) | (refine bIf.no (by first | assumption | rfl) ?_; (conv => whnf)))
  refine (is_nil H f).mono ?_
  rintro _ _ ⟨rfl, rfl⟩
  (try (conv => whnf)); repeat (first | (refine Ob.of (by first | rfl | (exact ald rfl rfl (by assumption) rfl) | (exact ald_agg rfl rfl rfl (by assumption) rfl)) ?_; (conv => whnf)) | (refine bIf.yes (by first | assumption | rfl) ?_; (conv => whnf)) | (refine bIf.no (by first | assumption | rfl) ?_; (conv => whnf)))
theorem cool_ax {H : Heap} {p : Nat} {L : List (Int × Int)} {fns after : Int} {cs : List Int} (h : Pol H p L fns after cs) (f : Int) :
    AX Try.prog 13 #[ptr p, .int .i64 f] H (fun v H' => Pol H' p L fns after (cool fns cs f) ∧ But p H H') := by
  have h0 := h
  obtain ⟨sv, h1, h2, h3, h4, h5⟩ := h
  have hb := hblk_of h1
  refine AX.body (n := 12) (rs := []) Try.func13 rfl (by decide) rfl rfl (bC_sound _ _ _ _ ?_)
  (try (conv => whnf)); repeat (first | (refine Ob.of (by first | rfl | (exact ald rfl rfl (by assumption) rfl) | (exact ald_agg rfl rfl rfl (by assumption) rfl)) ?_; (conv => whnf)) | (refine bIf.yes (by first | assumption | rfl) ?_; (conv => whnf)) | (refine bIf.no (by first | assumption | rfl) ?_; (conv => whnf)))
  refine (is_ax h0 f).mono ?_
  rintro _ _ ⟨rfl, rfl⟩
  (try (conv => whnf)); repeat (first | (refine Ob.of (by first | rfl | (exact ald rfl rfl (by assumption) rfl) | (exact ald_agg rfl rfl rfl (by assumption) rfl)) ?_; (conv => whnf)) | (refine bIf.yes (by first | assumption | rfl) ?_; (conv => whnf)) | (refine bIf.no (by first | assumption | rfl) ?_; (conv => whnf)))
  by_cases hf : 0 ≤ f ∧ f < fns
  · refine bIf.yes (by simp [hf]) ?_
    (try (conv => whnf)); repeat (first | (refine Ob.of (by first | rfl | (exact ald rfl rfl (by assumption) rfl) | (exact ald_agg rfl rfl rfl (by assumption) rfl)) ?_; (conv => whnf)) | (refine bIf.yes (by first | assumption | rfl) ?_; (conv => whnf)) | (refine bIf.no (by first | assumption | rfl) ?_; (conv => whnf)))
    refine Ob.of (idx_array (off := 0 + 3) (k := 1) rfl rfl hf.1 (by omega)) ?_
    (conv => whnf)
    refine Ob.store (off := 0 + 3 + f.toNat * 1) rfl rfl rfl h1 rfl (by simp [h2]; omega) fun H' k1 k2 k3 => ?_
    rw [pol_put] at k1
    (try (conv => whnf)); repeat (first | (refine Ob.of (by first | rfl | (exact ald rfl rfl (by assumption) rfl) | (exact ald_agg rfl rfl rfl (by assumption) rfl)) ?_; (conv => whnf)) | (refine bIf.yes (by first | assumption | rfl) ?_; (conv => whnf)) | (refine bIf.no (by first | assumption | rfl) ?_; (conv => whnf)))
    simp only [cool, if_pos hf]
    exact ⟨⟨sv, k1, by simp [h2], h3, h4, h5.but k2 (.of h1)⟩, k2⟩
  · refine bIf.no (by simp; omega) ?_
    (try (conv => whnf)); repeat (first | (refine Ob.of (by first | rfl | (exact ald rfl rfl (by assumption) rfl) | (exact ald_agg rfl rfl rfl (by assumption) rfl)) ?_; (conv => whnf)) | (refine bIf.yes (by first | assumption | rfl) ?_; (conv => whnf)) | (refine bIf.no (by first | assumption | rfl) ?_; (conv => whnf)))
    simp only [cool, if_neg hf]
    exact ⟨h0, .refl _ _⟩
end Go.Proofs.Ytdceiblihamfmaa
