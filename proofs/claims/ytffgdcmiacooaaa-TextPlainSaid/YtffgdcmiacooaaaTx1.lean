/- Package text and its document: what the functions of one byte answer. -/
import Derived.Test.YtffgdcmiacooaaaBu2
set_option linter.unusedVariables false
set_option linter.unusedSimpArgs false
set_option maxRecDepth 20000
namespace Go.Proofs.Ytffgdcmiacooaaa
open Go Ax
def plainB (x : Int) : Bool := decide (x ≥ 32) && (decide (x ≤ 126) && ((x != 34) && (x != 92)))
theorem plain_ax (H : Heap) (x : Int) : AX Try.prog 16 #[.int .u8 x] H (fun v H' => v = .bool (plainB x) ∧ H' = H) := by
  refine AX.body (n := 17) (rs := [.tmp 2]) Try.func16 rfl (by decide) rfl rfl (bC_sound _ _ _ _ ?_)
  cases h1 : decide (x ≥ 32)
  · (try (conv => whnf)); (repeat (first | (refine Ob.of (by first | rfl | (exact ald rfl rfl (by assumption) rfl) | (exact ald_agg rfl rfl rfl (by assumption) rfl)) ?_; (conv => whnf)) | (refine bIf.yes (by first | assumption | rfl) ?_; (conv => whnf)) | (refine bIf.no (by first | assumption | rfl) ?_; (conv => whnf))))
    exact ⟨by simp [oneOr, plainB, h1], rfl⟩
  cases h2 : decide (x ≤ 126)
  · (try (conv => whnf)); (repeat (first | (refine Ob.of (by first | rfl | (exact ald rfl rfl (by assumption) rfl) | (exact ald_agg rfl rfl rfl (by assumption) rfl)) ?_; (conv => whnf)) | (refine bIf.yes (by first | assumption | rfl) ?_; (conv => whnf)) | (refine bIf.no (by first | assumption | rfl) ?_; (conv => whnf))))
    exact ⟨by simp [oneOr, plainB, h1, h2], rfl⟩
  cases h3 : (x != 34)
  · (try (conv => whnf)); (repeat (first | (refine Ob.of (by first | rfl | (exact ald rfl rfl (by assumption) rfl) | (exact ald_agg rfl rfl rfl (by assumption) rfl)) ?_; (conv => whnf)) | (refine bIf.yes (by first | assumption | rfl) ?_; (conv => whnf)) | (refine bIf.no (by first | assumption | rfl) ?_; (conv => whnf))))
    exact ⟨by simp [oneOr, plainB, h1, h2, h3], rfl⟩
  · (try (conv => whnf)); (repeat (first | (refine Ob.of (by first | rfl | (exact ald rfl rfl (by assumption) rfl) | (exact ald_agg rfl rfl rfl (by assumption) rfl)) ?_; (conv => whnf)) | (refine bIf.yes (by first | assumption | rfl) ?_; (conv => whnf)) | (refine bIf.no (by first | assumption | rfl) ?_; (conv => whnf))))
    exact ⟨by simp [oneOr, plainB, h1, h2, h3], rfl⟩
theorem rplain_ax (H : Heap) (x : Int) : AX Try.prog 19 #[.int .u8 x] H (fun v H' => v = .bool (plainB x) ∧ H' = H) := by
  refine AX.body (n := 17) (rs := [.tmp 2]) Try.func19 rfl (by decide) rfl rfl (bC_sound _ _ _ _ ?_)
  cases h1 : decide (x ≥ 32)
  · (try (conv => whnf)); (repeat (first | (refine Ob.of (by first | rfl | (exact ald rfl rfl (by assumption) rfl) | (exact ald_agg rfl rfl rfl (by assumption) rfl)) ?_; (conv => whnf)) | (refine bIf.yes (by first | assumption | rfl) ?_; (conv => whnf)) | (refine bIf.no (by first | assumption | rfl) ?_; (conv => whnf))))
    exact ⟨by simp [oneOr, plainB, h1], rfl⟩
  cases h2 : decide (x ≤ 126)
  · (try (conv => whnf)); (repeat (first | (refine Ob.of (by first | rfl | (exact ald rfl rfl (by assumption) rfl) | (exact ald_agg rfl rfl rfl (by assumption) rfl)) ?_; (conv => whnf)) | (refine bIf.yes (by first | assumption | rfl) ?_; (conv => whnf)) | (refine bIf.no (by first | assumption | rfl) ?_; (conv => whnf))))
    exact ⟨by simp [oneOr, plainB, h1, h2], rfl⟩
  cases h3 : (x != 34)
  · (try (conv => whnf)); (repeat (first | (refine Ob.of (by first | rfl | (exact ald rfl rfl (by assumption) rfl) | (exact ald_agg rfl rfl rfl (by assumption) rfl)) ?_; (conv => whnf)) | (refine bIf.yes (by first | assumption | rfl) ?_; (conv => whnf)) | (refine bIf.no (by first | assumption | rfl) ?_; (conv => whnf))))
    exact ⟨by simp [oneOr, plainB, h1, h2, h3], rfl⟩
  · (try (conv => whnf)); (repeat (first | (refine Ob.of (by first | rfl | (exact ald rfl rfl (by assumption) rfl) | (exact ald_agg rfl rfl rfl (by assumption) rfl)) ?_; (conv => whnf)) | (refine bIf.yes (by first | assumption | rfl) ?_; (conv => whnf)) | (refine bIf.no (by first | assumption | rfl) ?_; (conv => whnf))))
    exact ⟨by simp [oneOr, plainB, h1, h2, h3], rfl⟩
def letterB (x : Int) : Bool := (decide (x ≥ 97) && decide (x ≤ 122)) || ((decide (x ≥ 65) && decide (x ≤ 90)) || (x == 95))
theorem letter_ax (H : Heap) (x : Int) : AX Try.prog 22 #[.int .u8 x] H (fun v H' => v = .bool (letterB x) ∧ H' = H) := by
  refine AX.body (n := 21) (rs := [.tmp 2]) Try.func22 rfl (by decide) rfl rfl (bC_sound _ _ _ _ ?_)
  cases h1 : decide (x ≥ 97) <;> cases h2 : decide (x ≤ 122) <;> cases h3 : decide (x ≥ 65) <;> cases h4 : decide (x ≤ 90) <;> ((try (conv => whnf)); (repeat (first | (refine Ob.of (by first | rfl | (exact ald rfl rfl (by assumption) rfl) | (exact ald_agg rfl rfl rfl (by assumption) rfl)) ?_; (conv => whnf)) | (refine bIf.yes (by first | assumption | rfl) ?_; (conv => whnf)) | (refine bIf.no (by first | assumption | rfl) ?_; (conv => whnf)))); exact ⟨by simp [oneOr, letterB, h1, h2, h3, h4], rfl⟩)
/-- A hexadecimal digit's worth. -/
def worthO (x : Int) : Option Int :=
  if 48 ≤ x ∧ x ≤ 57 then some (x - 48) else if 97 ≤ x ∧ x ≤ 102 then some (x - 87) else if 65 ≤ x ∧ x ≤ 70 then some (x - 55) else none
theorem wrap_u8 {x : Int} (h0 : 0 ≤ x) (h1 : x ≤ 255) : IntKind.u8.wrap x = x := by
  have e : IntKind.u8.wrap x = x % 256 := rfl
  rw [e]; omega
theorem worth_ax (H : Heap) (x : Int) (hx0 : 0 ≤ x) (hx1 : x ≤ 255) : AX Try.prog 26 #[.int .u8 x] H (fun v H' => v = .tuple #[.int .u8 ((worthO x).getD 0), .bool (worthO x).isSome] ∧ H' = H) := by
  refine AX.body (n := 33) (rs := [.tmp 2, .tmp 3]) Try.func26 rfl (by decide) rfl rfl (bC_sound _ _ _ _ ?_)
  by_cases a : 48 ≤ x ∧ x ≤ 57
  · have h1 : decide (x ≥ 48) = true := decide_eq_true a.1
    have h2 : decide (x ≤ 57) = true := decide_eq_true a.2
    (try (conv => whnf)); (repeat (first | (refine Ob.of (by first | rfl | (exact ald rfl rfl (by assumption) rfl) | (exact ald_agg rfl rfl rfl (by assumption) rfl)) ?_; (conv => whnf)) | (refine bIf.yes (by first | assumption | rfl) ?_; (conv => whnf)) | (refine bIf.no (by first | assumption | rfl) ?_; (conv => whnf))))
    exact ⟨by rw [wrap_u8 (by omega) (by omega)]; simp [oneOr, worthO, a], rfl⟩
  by_cases b : 97 ≤ x ∧ x ≤ 102
  · have h1 : decide (x ≥ 48) = true := decide_eq_true (by omega)
    have h2 : decide (x ≤ 57) = false := decide_eq_false (by omega)
    have h3 : decide (x ≥ 97) = true := decide_eq_true b.1
    have h4 : decide (x ≤ 102) = true := decide_eq_true b.2
    (try (conv => whnf)); (repeat (first | (refine Ob.of (by first | rfl | (exact ald rfl rfl (by assumption) rfl) | (exact ald_agg rfl rfl rfl (by assumption) rfl)) ?_; (conv => whnf)) | (refine bIf.yes (by first | assumption | rfl) ?_; (conv => whnf)) | (refine bIf.no (by first | assumption | rfl) ?_; (conv => whnf))))
    exact ⟨by rw [wrap_u8 (x := x - 97) (by omega) (by omega), wrap_u8 (by omega) (by omega)]; simp [oneOr, worthO, a, b]; omega, rfl⟩
  by_cases c : 65 ≤ x ∧ x ≤ 70
  · have h1 : decide (x ≥ 48) = true := decide_eq_true (by omega)
    have h2 : decide (x ≤ 57) = false := decide_eq_false (by omega)
    have h3 : decide (x ≥ 97) = false := decide_eq_false (by omega)
    have h5 : decide (x ≥ 65) = true := decide_eq_true c.1
    have h6 : decide (x ≤ 70) = true := decide_eq_true c.2
    (try (conv => whnf)); (repeat (first | (refine Ob.of (by first | rfl | (exact ald rfl rfl (by assumption) rfl) | (exact ald_agg rfl rfl rfl (by assumption) rfl)) ?_; (conv => whnf)) | (refine bIf.yes (by first | assumption | rfl) ?_; (conv => whnf)) | (refine bIf.no (by first | assumption | rfl) ?_; (conv => whnf))))
    exact ⟨by rw [wrap_u8 (x := x - 65) (by omega) (by omega), wrap_u8 (by omega) (by omega)]; simp [oneOr, worthO, a, b, c]; omega, rfl⟩
  have e : worthO x = none := by simp only [worthO, if_neg a, if_neg b, if_neg c]
  rw [e]
  cases h1 : decide (x ≥ 48) <;> cases h2 : decide (x ≤ 57) <;> cases h3 : decide (x ≥ 97) <;> cases h4 : decide (x ≤ 102) <;> cases h5 : decide (x ≥ 65) <;> cases h6 : decide (x ≤ 70) <;>
    first
      | (exfalso; simp only [decide_eq_true_eq, decide_eq_false_iff_not] at h1 h2 h3 h4 h5 h6; omega)
      | ((try (conv => whnf)); (repeat (first | (refine Ob.of (by first | rfl | (exact ald rfl rfl (by assumption) rfl) | (exact ald_agg rfl rfl rfl (by assumption) rfl)) ?_; (conv => whnf)) | (refine bIf.yes (by first | assumption | rfl) ?_; (conv => whnf)) | (refine bIf.no (by first | assumption | rfl) ?_; (conv => whnf)))); exact ⟨rfl, rfl⟩)
theorem rworth_ax (H : Heap) (x : Int) (hx0 : 0 ≤ x) (hx1 : x ≤ 255) : AX Try.prog 20 #[.int .u8 x] H (fun v H' => v = .int .u8 ((worthO x).getD 16) ∧ H' = H) := by
  refine AX.body (n := 27) (rs := [.tmp 2]) Try.func20 rfl (by decide) rfl rfl (bC_sound _ _ _ _ ?_)
  by_cases a : 48 ≤ x ∧ x ≤ 57
  · have h1 : decide (x ≥ 48) = true := decide_eq_true a.1
    have h2 : decide (x ≤ 57) = true := decide_eq_true a.2
    (try (conv => whnf)); (repeat (first | (refine Ob.of (by first | rfl | (exact ald rfl rfl (by assumption) rfl) | (exact ald_agg rfl rfl rfl (by assumption) rfl)) ?_; (conv => whnf)) | (refine bIf.yes (by first | assumption | rfl) ?_; (conv => whnf)) | (refine bIf.no (by first | assumption | rfl) ?_; (conv => whnf))))
    exact ⟨by rw [wrap_u8 (by omega) (by omega)]; simp [oneOr, worthO, a], rfl⟩
  by_cases b : 97 ≤ x ∧ x ≤ 102
  · have h1 : decide (x ≥ 48) = true := decide_eq_true (by omega)
    have h2 : decide (x ≤ 57) = false := decide_eq_false (by omega)
    have h3 : decide (x ≥ 97) = true := decide_eq_true b.1
    have h4 : decide (x ≤ 102) = true := decide_eq_true b.2
    (try (conv => whnf)); (repeat (first | (refine Ob.of (by first | rfl | (exact ald rfl rfl (by assumption) rfl) | (exact ald_agg rfl rfl rfl (by assumption) rfl)) ?_; (conv => whnf)) | (refine bIf.yes (by first | assumption | rfl) ?_; (conv => whnf)) | (refine bIf.no (by first | assumption | rfl) ?_; (conv => whnf))))
    exact ⟨by rw [wrap_u8 (by omega) (by omega)]; simp [oneOr, worthO, a, b], rfl⟩
  by_cases c : 65 ≤ x ∧ x ≤ 70
  · have h1 : decide (x ≥ 48) = true := decide_eq_true (by omega)
    have h2 : decide (x ≤ 57) = false := decide_eq_false (by omega)
    have h3 : decide (x ≥ 97) = false := decide_eq_false (by omega)
    have h5 : decide (x ≥ 65) = true := decide_eq_true c.1
    have h6 : decide (x ≤ 70) = true := decide_eq_true c.2
    (try (conv => whnf)); (repeat (first | (refine Ob.of (by first | rfl | (exact ald rfl rfl (by assumption) rfl) | (exact ald_agg rfl rfl rfl (by assumption) rfl)) ?_; (conv => whnf)) | (refine bIf.yes (by first | assumption | rfl) ?_; (conv => whnf)) | (refine bIf.no (by first | assumption | rfl) ?_; (conv => whnf))))
    exact ⟨by rw [wrap_u8 (by omega) (by omega)]; simp [oneOr, worthO, a, b, c], rfl⟩
  have e : worthO x = none := by simp only [worthO, if_neg a, if_neg b, if_neg c]
  rw [e]
  cases h1 : decide (x ≥ 48) <;> cases h2 : decide (x ≤ 57) <;> cases h3 : decide (x ≥ 97) <;> cases h4 : decide (x ≤ 102) <;> cases h5 : decide (x ≥ 65) <;> cases h6 : decide (x ≤ 70) <;>
    first
      | (exfalso; simp only [decide_eq_true_eq, decide_eq_false_iff_not] at h1 h2 h3 h4 h5 h6; omega)
      | ((try (conv => whnf)); (repeat (first | (refine Ob.of (by first | rfl | (exact ald rfl rfl (by assumption) rfl) | (exact ald_agg rfl rfl rfl (by assumption) rfl)) ?_; (conv => whnf)) | (refine bIf.yes (by first | assumption | rfl) ?_; (conv => whnf)) | (refine bIf.no (by first | assumption | rfl) ?_; (conv => whnf)))); exact ⟨rfl, rfl⟩)
theorem worthO_lt {x y : Int} (h : worthO x = some y) : 0 ≤ y ∧ y < 16 := by
  unfold worthO at h
  split at h
  · simp only [Option.some.injEq] at h; omega
  split at h
  · simp only [Option.some.injEq] at h; omega
  split at h
  · simp only [Option.some.injEq] at h; omega
  · simp at h
end Go.Proofs.Ytffgdcmiacooaaa
