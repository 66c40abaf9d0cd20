/- A policy in abstract memory, and what its smaller methods answer. -/
import Derived.Test.YtdceiblihamfmaaAx17
import Derived.Test.YtdceiblihamfmaaProg
set_option linter.unusedVariables false
set_option linter.unusedSimpArgs false
namespace Go.Proofs.Ytdceiblihamfmaa
open Go Ax
abbrev polC (sv : Value) (fns after : Int) (cs : List Int) : List Value := sv :: .int .i64 fns :: .int .i64 after :: cs.map (.int .i64)
/-- Picks that lie in cells. -/
def PkC (c : List Value) (off : Nat) (L : List (Int × Int)) : Prop := ∀ (i : Nat) (x : Int × Int), L[i]? = some x → c[off + i * 2]? = some (.int .i64 x.1) ∧ c[off + i * 2 + 1]? = some (.int .i64 x.2)
/-- Not where picks lie. -/
def aV : Ax.Mode → Bool
  | .ro => false
  | .row e => !Nat.beq e 28
  | .var => true
def NB (H : Heap) (q : Nat) : Prop := ∀ m c, H[q]? = some (.cells m c) → aV m = true
theorem NB.at {H : Heap} {q : Nat} {m : Ax.Mode} {c : List Value} (h : H[q]? = some (.cells m c)) (hm : aV m = true) : NB H q := by
  intro m' c' h'
  rw [h] at h'
  simp only [Option.some.injEq, Blk.cells.injEq] at h'
  obtain ⟨rfl, _⟩ := h'
  exact hm
theorem NB.of {H : Heap} {q : Nat} {c : List Value} (h : H[q]? = some (.cells .var c)) : NB H q := .at h rfl
theorem NB.new {H : Heap} {q : Nat} (h : H.length ≤ q) : NB H q := by
  intro m c h'
  rw [List.getElem?_eq_none h] at h'
  simp at h'
theorem NB.ne {H : Heap} {q b : Nat} {m : Ax.Mode} {c : List Value} (h : NB H q) (hb : H[b]? = some (.cells m c)) (hm : aV m = false) : b ≠ q := by
  rintro rfl
  have := h _ _ hb
  simp [hm] at this
def Pk (H : Heap) (sv : Value) (L : List (Int × Int)) : Prop :=
  (sv = .slice none 0 0 ∧ L = []) ∨ ∃ b off, sv = .slice (some ⟨b, off, none⟩) L.length 2 ∧ (L = [] ∨ ∃ m c, H[b]? = some (.cells m c) ∧ aV m = false ∧ PkC c off L)
def Pol (H : Heap) (p : Nat) (L : List (Int × Int)) (fns after : Int) (cs : List Int) : Prop :=
  ∃ sv, H[p]? = some (.cells .var (polC sv fns after cs)) ∧ cs.length = 32 ∧ 0 ≤ fns ∧ fns ≤ 32 ∧ Pk H sv L
abbrev ptr (p : Nat) : Value := .pointer (some ⟨p, 0, none⟩)
theorem Pk.but {q : Nat} {H H' : Heap} {sv : Value} {L : List (Int × Int)} (h : Pk H sv L) (k : But q H H') (hq : NB H q) : Pk H' sv L := by
  rcases h with h | ⟨b, off, h1, h2⟩
  · exact .inl h
  · refine .inr ⟨b, off, h1, ?_⟩
    rcases h2 with h2 | ⟨m, c, h3, h4, h5⟩
    · exact .inl h2
    · exact .inr ⟨m, c, k.at h3 (hq.ne h3 h4), h4, h5⟩
theorem Pk.grow {H H' : Heap} {sv : Value} {L : List (Int × Int)} (h : Pk H sv L) (k : Grow H H') : Pk H' sv L := h.but (k.but H.length) (.new (Nat.le_refl _))
theorem Pol.grow {p : Nat} {H H' : Heap} {L : List (Int × Int)} {fns after : Int} {cs : List Int} (h : Pol H p L fns after cs) (k : Grow H H') : Pol H' p L fns after cs := by
  obtain ⟨sv, h1, h2, h3, h4, h5⟩ := h
  exact ⟨sv, k.at h1, h2, h3, h4, h5.grow k⟩

theorem left_nil (H : Heap) : AX Try.prog 9 #[.pointer none] H (fun v H' => v = .int .i64 0 ∧ H' = H) := by
  refine AX.body (n := 10) (rs := [.tmp 2]) Try.func9 rfl (by decide) rfl rfl (bC_sound _ _ _ _ ?_)
  (try (conv => whnf)); repeat (first | (refine Ob.of (by first | rfl | (exact ald rfl rfl (by assumption) rfl) | (exact ald_agg rfl rfl rfl (by assumption) rfl)) ?_; (conv => whnf)) | (refine bIf.yes (by first | assumption | rfl) ?_; (conv => whnf)) | (refine bIf.no (by first | assumption | rfl) ?_; (conv => whnf)))
  exact ⟨rfl, rfl⟩
theorem left_ax {H : Heap} {p : Nat} {L : List (Int × Int)} {fns after : Int} {cs : List Int} (h : Pol H p L fns after cs) :
    AX Try.prog 9 #[ptr p] H (fun v H' => v = .int .i64 L.length ∧ H' = H) := by
  obtain ⟨sv, h1, h2, h3, h4, h5⟩ := h
  have hb := hblk_of h1
  refine AX.body (n := 10) (rs := [.tmp 2]) Try.func9 rfl (by decide) rfl rfl (bC_sound _ _ _ _ ?_)
  rcases h5 with ⟨rfl, rfl⟩ | ⟨b, off, rfl, h6⟩
  · (try (conv => whnf)); repeat (first | (refine Ob.of (by first | rfl | (exact ald rfl rfl (by assumption) rfl) | (exact ald_agg rfl rfl rfl (by assumption) rfl)) ?_; (conv => whnf)) | (refine bIf.yes (by first | assumption | rfl) ?_; (conv => whnf)) | (refine bIf.no (by first | assumption | rfl) ?_; (conv => whnf)))
    exact ⟨rfl, rfl⟩
  · (try (conv => whnf)); repeat (first | (refine Ob.of (by first | rfl | (exact ald rfl rfl (by assumption) rfl) | (exact ald_agg rfl rfl rfl (by assumption) rfl)) ?_; (conv => whnf)) | (refine bIf.yes (by first | assumption | rfl) ?_; (conv => whnf)) | (refine bIf.no (by first | assumption | rfl) ?_; (conv => whnf)))
    exact ⟨rfl, rfl⟩
theorem after_nil (H : Heap) : AX Try.prog 11 #[.pointer none] H (fun v H' => v = .int .i64 0 ∧ H' = H) := by
  refine AX.body (n := 9) (rs := [.tmp 2]) Try.func11 rfl (by decide) rfl rfl (bC_sound _ _ _ _ ?_)
  (try (conv => whnf)); repeat (first | (refine Ob.of (by first | rfl | (exact ald rfl rfl (by assumption) rfl) | (exact ald_agg rfl rfl rfl (by assumption) rfl)) ?_; (conv => whnf)) | (refine bIf.yes (by first | assumption | rfl) ?_; (conv => whnf)) | (refine bIf.no (by first | assumption | rfl) ?_; (conv => whnf)))
  exact ⟨rfl, rfl⟩
theorem after_ax {H : Heap} {p : Nat} {L : List (Int × Int)} {fns after : Int} {cs : List Int} (h : Pol H p L fns after cs) :
    AX Try.prog 11 #[ptr p] H (fun v H' => v = .int .i64 after ∧ H' = H) := by
  obtain ⟨sv, h1, h2, h3, h4, h5⟩ := h
  have hb := hblk_of h1
  refine AX.body (n := 9) (rs := [.tmp 2]) Try.func11 rfl (by decide) rfl rfl (bC_sound _ _ _ _ ?_)
  (try (conv => whnf)); repeat (first | (refine Ob.of (by first | rfl | (exact ald rfl rfl (by assumption) rfl) | (exact ald_agg rfl rfl rfl (by assumption) rfl)) ?_; (conv => whnf)) | (refine bIf.yes (by first | assumption | rfl) ?_; (conv => whnf)) | (refine bIf.no (by first | assumption | rfl) ?_; (conv => whnf)))
  exact ⟨rfl, rfl⟩
theorem is_nil (H : Heap) (f : Int) : AX Try.prog 20 #[.pointer none, .int .i64 f] H (fun v H' => v = .bool false ∧ H' = H) := by
  refine AX.body (n := 19) (rs := [.tmp 4]) Try.func20 rfl (by decide) rfl rfl (bC_sound _ _ _ _ ?_)
  (try (conv => whnf)); repeat (first | (refine Ob.of (by first | rfl | (exact ald rfl rfl (by assumption) rfl) | (exact ald_agg rfl rfl rfl (by assumption) rfl)) ?_; (conv => whnf)) | (refine bIf.yes (by first | assumption | rfl) ?_; (conv => whnf)) | (refine bIf.no (by first | assumption | rfl) ?_; (conv => whnf)))
  exact ⟨rfl, rfl⟩
theorem is_ax {H : Heap} {p : Nat} {L : List (Int × Int)} {fns after : Int} {cs : List Int} (h : Pol H p L fns after cs) (f : Int) :
    AX Try.prog 20 #[ptr p, .int .i64 f] H (fun v H' => v = .bool (decide (f ≥ 0) && decide (f < fns)) ∧ H' = H) := by
  obtain ⟨sv, h1, h2, h3, h4, h5⟩ := h
  have hb := hblk_of h1
  refine AX.body (n := 19) (rs := [.tmp 4]) Try.func20 rfl (by decide) rfl rfl (bC_sound _ _ _ _ ?_)
  (try (conv => whnf)); repeat (first | (refine Ob.of (by first | rfl | (exact ald rfl rfl (by assumption) rfl) | (exact ald_agg rfl rfl rfl (by assumption) rfl)) ?_; (conv => whnf)) | (refine bIf.yes (by first | assumption | rfl) ?_; (conv => whnf)) | (refine bIf.no (by first | assumption | rfl) ?_; (conv => whnf)))
  by_cases hf : decide (f ≥ 0) = true
  · by_cases hg : decide (f < fns) = true
    · repeat (first | (refine Ob.of (by first | rfl | (exact ald rfl rfl (by assumption) rfl) | (exact ald_agg rfl rfl rfl (by assumption) rfl)) ?_; (conv => whnf)) | (refine bIf.yes (by first | assumption | rfl) ?_; (conv => whnf)) | (refine bIf.no (by first | assumption | rfl) ?_; (conv => whnf)))
      exact ⟨by rw [hf, hg]; rfl, rfl⟩
    · have hg' := Bool.eq_false_iff.2 hg
      repeat (first | (refine Ob.of (by first | rfl | (exact ald rfl rfl (by assumption) rfl) | (exact ald_agg rfl rfl rfl (by assumption) rfl)) ?_; (conv => whnf)) | (refine bIf.yes (by first | assumption | rfl) ?_; (conv => whnf)) | (refine bIf.no (by first | assumption | rfl) ?_; (conv => whnf)))
      exact ⟨by rw [hf, hg']; rfl, rfl⟩
  · have hf' := Bool.eq_false_iff.2 hf
    repeat (first | (refine Ob.of (by first | rfl | (exact ald rfl rfl (by assumption) rfl) | (exact ald_agg rfl rfl rfl (by assumption) rfl)) ?_; (conv => whnf)) | (refine bIf.yes (by first | assumption | rfl) ?_; (conv => whnf)) | (refine bIf.no (by first | assumption | rfl) ?_; (conv => whnf)))
    exact ⟨by rw [hf']; rfl, rfl⟩
end Go.Proofs.Ytdceiblihamfmaa
