/- The document's policy in abstract memory; to count, and to cool. -/
import Derived.Test.YtdceiblihamfmaaPol7
set_option linter.unusedVariables false
set_option linter.unusedSimpArgs false
namespace Go.Proofs.Ytdceiblihamfmaa
open Go Ax
def RPk (N : Nat) (H : Heap) (lv : Value) (L : List (Int × Int)) : Prop :=
  (lv = .slice none 0 0 ∧ L = []) ∨ ∃ b c, N ≤ b ∧ lv = .slice (some ⟨b, 0, none⟩) L.length 2 ∧ H[b]? = some (.cells (.row 28) c) ∧ PkC c 0 L ∧ c.length = L.length * 2
abbrev refC (lv : Value) (taken : Nat) (after : Int) (b n : Nat) : List Value := [lv, .int .i64 taken, .int .i64 after, .slice (some ⟨b, 0, none⟩) n 1]
def RPol (H : Heap) (r : Nat) (L : List (Int × Int)) (taken : Nat) (after : Int) (cs : List Int) : Prop :=
  ∃ lv b, H[r]? = some (.cells .var (refC lv taken after b cs.length)) ∧ H[b]? = some (.cells (.row 3) (cs.map (.int .i64))) ∧ RPk 0 H lv L ∧ taken ≤ L.length ∧ L.length ≤ 400
/-- What is left by the document's policy: all but itself, and rows of numbers. -/
def FrR (r : Nat) (H H' : Heap) : Prop := H.length ≤ H'.length ∧ ∀ x B, H[x]? = some B → x ≠ r → (∀ c, B ≠ .cells (.row 3) c) → H'[x]? = some B
theorem FrR.refl (r : Nat) (H : Heap) : FrR r H H := ⟨Nat.le_refl _, fun _ _ h _ _ => h⟩
theorem FrR.trans {r : Nat} {A B C : Heap} (h : FrR r A B) (k : FrR r B C) : FrR r A C := ⟨Nat.le_trans h.1 k.1, fun x X h1 h2 h3 => k.2 x X (h.2 x X h1 h2 h3) h2 h3⟩
theorem FrR.but {r : Nat} {H H' : Heap} (h : But r H H') : FrR r H H' := ⟨h.1, fun x B h1 h2 _ => h.at h1 h2⟩
theorem FrR.grow {r : Nat} {H H' : Heap} (h : Grow H H') : FrR r H H' := ⟨h.1, fun x B h1 _ _ => h.at h1⟩
theorem FrR.row {r b : Nat} {H H' : Heap} {c : List Value} (hb : H[b]? = some (.cells (.row 3) c)) (h : But b H H') : FrR r H H' :=
  ⟨h.1, fun x B h1 _ h3 => h.at h1 (by rintro rfl; rw [hb] at h1; simp only [Option.some.injEq] at h1; exact h3 c h1.symm)⟩
theorem Pol.frame {p r : Nat} {H H' : Heap} {L : List (Int × Int)} {fns after : Int} {cs : List Int} (h : Pol H p L fns after cs) (k : FrR r H H') (hne : p ≠ r) (hr : NB H r) : Pol H' p L fns after cs := by
  obtain ⟨sv, h1, h2, h3, h4, h5⟩ := h
  refine ⟨sv, k.2 _ _ h1 hne (by simp), h2, h3, h4, ?_⟩
  rcases h5 with h5 | ⟨b, off, h5, h6⟩
  · exact .inl h5
  · refine .inr ⟨b, off, h5, ?_⟩
    rcases h6 with h6 | ⟨m, c, h6, h7, h8⟩
    · exact .inl h6
    · exact .inr ⟨m, c, k.2 _ _ h6 (hr.ne h6 h7) (by rintro c' e; simp only [Blk.cells.injEq] at e; obtain ⟨rfl, _⟩ := e; simp [aV] at h7), h7, h8⟩
theorem RPk.at {N : Nat} {H H' : Heap} {q : Nat} {lv : Value} {L : List (Int × Int)} (h : RPk N H lv L) (k : But q H H') (hq : NB H q) : RPk N H' lv L := by
  rcases h with h | ⟨b, c, h0, h1, h2, h3⟩
  · exact .inl h
  · exact .inr ⟨b, c, h0, h1, k.at h2 (hq.ne h2 rfl), h3⟩
theorem RPol.grow {H H' : Heap} {r taken : Nat} {L : List (Int × Int)} {after : Int} {cs : List Int} (h : RPol H r L taken after cs) (k : Grow H H') : RPol H' r L taken after cs := by
  obtain ⟨lv, b, h1, h2, h3, h4⟩ := h
  exact ⟨lv, b, k.at h1, k.at h2, h3.at (k.but H.length) (.new (Nat.le_refl _)), h4⟩
theorem cs_get {cs : List Int} {f : Int} (h : 0 ≤ f ∧ f < (cs.length : Int)) : (cs.map (Value.int .i64))[0 + f.toNat * 1]? = some (.int .i64 (cnt cs.length cs f)) := by
  have : f.toNat < cs.length := by omega
  simp [cnt, h, List.getD_eq_getElem?_getD, List.getElem?_eq_getElem this]
theorem cs_put {cs : List Int} {f n : Int} : putL (cs.map (Value.int .i64)) (0 + f.toNat * 1) [.int .i64 n] = (cs.set f.toNat n).map (Value.int .i64) := by
  simp [putL, List.map_set]
theorem rcount_ax {H : Heap} {r taken : Nat} {L : List (Int × Int)} {after : Int} {cs : List Int} (h : RPol H r L taken after cs) (f : Int) :
    AX Try.prog 17 #[ptr r, .int .i64 f] H (fun v H' => v = .int .i64 (cnt cs.length cs f) ∧ H' = H) := by
  obtain ⟨lv, b, h1, h2, h3, h4⟩ := h
  have hr := hblk_of h1
  have hb := hblk_of h2
  refine AX.body (n := 23) (rs := [.tmp 4]) Try.func17 rfl (by decide) rfl rfl (bC_sound _ _ _ _ ?_)
  by_cases hf : 0 ≤ f ∧ f < (cs.length : Int)
  · have t1 : decide (f ≥ 0) = true := decide_eq_true hf.1
    have t2 : decide (f < (cs.length : Int)) = true := decide_eq_true hf.2
    (try (conv => whnf)); repeat (first | (refine Ob.of (by first | rfl | (exact ald rfl rfl (by assumption) rfl) | (exact ald_agg rfl rfl rfl (by assumption) rfl)) ?_; (conv => whnf)) | (refine bIf.yes (by first | assumption | rfl) ?_; (conv => whnf)) | (refine bIf.no (by first | assumption | rfl) ?_; (conv => whnf)))
    refine Ob.of (idx_slice (off := 0) (k := 1) rfl rfl hf.1 hf.2) ?_
    (conv => whnf)
    refine Ob.of (ald rfl rfl hb (cs_get hf)) ?_
    (try (conv => whnf)); repeat (first | (refine Ob.of (by first | rfl | (exact ald rfl rfl (by assumption) rfl) | (exact ald_agg rfl rfl rfl (by assumption) rfl)) ?_; (conv => whnf)) | (refine bIf.yes (by first | assumption | rfl) ?_; (conv => whnf)) | (refine bIf.no (by first | assumption | rfl) ?_; (conv => whnf)))
    exact ⟨rfl, rfl⟩
  · rw [cnt_no hf]
    by_cases h0 : f ≥ 0
    · have t1 : decide (f ≥ 0) = true := decide_eq_true h0
      have t2 : decide (f < (cs.length : Int)) = false := decide_eq_false (by omega)
      (try (conv => whnf)); repeat (first | (refine Ob.of (by first | rfl | (exact ald rfl rfl (by assumption) rfl) | (exact ald_agg rfl rfl rfl (by assumption) rfl)) ?_; (conv => whnf)) | (refine bIf.yes (by first | assumption | rfl) ?_; (conv => whnf)) | (refine bIf.no (by first | assumption | rfl) ?_; (conv => whnf)))
      exact ⟨rfl, rfl⟩
    · have t1 : decide (f ≥ 0) = false := decide_eq_false h0
      (try (conv => whnf)); repeat (first | (refine Ob.of (by first | rfl | (exact ald rfl rfl (by assumption) rfl) | (exact ald_agg rfl rfl rfl (by assumption) rfl)) ?_; (conv => whnf)) | (refine bIf.yes (by first | assumption | rfl) ?_; (conv => whnf)) | (refine bIf.no (by first | assumption | rfl) ?_; (conv => whnf)))
      exact ⟨rfl, rfl⟩
theorem rcool_ax {H : Heap} {r taken : Nat} {L : List (Int × Int)} {after : Int} {cs : List Int} (h : RPol H r L taken after cs) (f : Int) :
    AX Try.prog 14 #[ptr r, .int .i64 f] H (fun v H' => RPol H' r L taken after (cool cs.length cs f) ∧ FrR r H H') := by
  have hh := h
  obtain ⟨lv, b, h1, h2, h3, h4⟩ := h
  have hr := hblk_of h1
  have hne : r ≠ b := by rintro rfl; rw [h1] at h2; simp at h2
  refine AX.body (n := 21) (rs := []) Try.func14 rfl (by decide) rfl rfl (bC_sound _ _ _ _ ?_)
  by_cases hf : 0 ≤ f ∧ f < (cs.length : Int)
  · have t1 : decide (f ≥ 0) = true := decide_eq_true hf.1
    have t2 : decide (f < (cs.length : Int)) = true := decide_eq_true hf.2
    (try (conv => whnf)); repeat (first | (refine Ob.of (by first | rfl | (exact ald rfl rfl (by assumption) rfl) | (exact ald_agg rfl rfl rfl (by assumption) rfl)) ?_; (conv => whnf)) | (refine bIf.yes (by first | assumption | rfl) ?_; (conv => whnf)) | (refine bIf.no (by first | assumption | rfl) ?_; (conv => whnf)))
    refine Ob.of (idx_slice (off := 0) (k := 1) rfl rfl hf.1 hf.2) ?_
    (conv => whnf)
    refine Ob.store (off := 0 + f.toNat * 1) rfl rfl rfl h2 rfl (by simp; omega) fun H' k1 k2 k3 => ?_
    rw [cs_put] at k1
    (try (conv => whnf)); repeat (first | (refine Ob.of (by first | rfl | (exact ald rfl rfl (by assumption) rfl) | (exact ald_agg rfl rfl rfl (by assumption) rfl)) ?_; (conv => whnf)) | (refine bIf.yes (by first | assumption | rfl) ?_; (conv => whnf)) | (refine bIf.no (by first | assumption | rfl) ?_; (conv => whnf)))
    simp only [cool, if_pos hf]
    refine ⟨⟨lv, b, by simpa using k2.at h1 hne, k1, h3.at k2 (.at h2 rfl), h4⟩, .row h2 k2⟩
  · simp only [cool, if_neg hf]
    by_cases h0 : f ≥ 0
    · have t1 : decide (f ≥ 0) = true := decide_eq_true h0
      have t2 : decide (f < (cs.length : Int)) = false := decide_eq_false (by omega)
      (try (conv => whnf)); repeat (first | (refine Ob.of (by first | rfl | (exact ald rfl rfl (by assumption) rfl) | (exact ald_agg rfl rfl rfl (by assumption) rfl)) ?_; (conv => whnf)) | (refine bIf.yes (by first | assumption | rfl) ?_; (conv => whnf)) | (refine bIf.no (by first | assumption | rfl) ?_; (conv => whnf)))
      exact ⟨hh, .refl _ _⟩
    · have t1 : decide (f ≥ 0) = false := decide_eq_false h0
      (try (conv => whnf)); repeat (first | (refine Ob.of (by first | rfl | (exact ald rfl rfl (by assumption) rfl) | (exact ald_agg rfl rfl rfl (by assumption) rfl)) ?_; (conv => whnf)) | (refine bIf.yes (by first | assumption | rfl) ?_; (conv => whnf)) | (refine bIf.no (by first | assumption | rfl) ?_; (conv => whnf)))
      exact ⟨hh, .refl _ _⟩
end Go.Proofs.Ytdceiblihamfmaa
