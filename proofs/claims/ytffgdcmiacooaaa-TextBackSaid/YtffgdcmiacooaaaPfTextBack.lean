/- The law TextBack, told of abstract memory: whatever the input, it answers true. No condition. -/
import Derived.Test.YtffgdcmiacooaaaTy
import Derived.Test.YtffgdcmiacooaaaTx7
import Derived.Test.YtffgdcmiacooaaaTx10
set_option linter.unusedVariables false
set_option linter.unusedSimpArgs false
set_option maxRecDepth 20000
namespace Go.Proofs.Ytffgdcmiacooaaa
open Go Ax
theorem add_str (a b : ByteArray) (h : a.size + b.size ≤ 9223372036854775807) : abin Try.prog .add 9 (.string a) (.string b) = some (.string (a ++ b)) := by
  simp only [abin, astr]
  rw [if_neg (by omega)]
theorem data_append (a b : ByteArray) : (a ++ b).data.toList = a.data.toList ++ b.data.toList := by simp
theorem quoteS_len {s : ByteArray} : (quoteS s.data.toList).length ≤ 4 * s.size + 2 := by
  have := flat_len s.data.toList s.data.toList.length
  rw [List.take_length] at this
  have h2 : s.data.toList.length = s.size := by simp
  simp only [quoteS, List.length_append, List.length_cons, List.length_nil]
  omega
theorem TextBack_ax (H : Heap) (c0 : List Value) (x0 : ByteArray) (c1 : List Value) (x1 : ByteArray) (hn : NoOwn H) (R0 : ty9.R H c0 x0) (o0 : ty9.ok x0) (R1 : ty9.R H c1 x1) (o1 : ty9.ok x1) :
    AX Try.prog 5 #[arg1 c0, arg1 c1] H fun v _ => v = .bool true := by
  obtain rfl : c0 = [.string x0] := R0
  obtain rfl : c1 = [.string x1] := R1
  show AX Try.prog 5 #[.string x0, .string x1] H _
  refine AX.body (n := 54) (rs := [.tmp 4]) Try.func5 rfl (by decide) rfl rfl (bC_sound _ _ _ _ ?_)
  by_cases hl : x0.size ≤ 1000
  rotate_left
  · have d1 : decide ((x0.size : Int) > 1000) = true := decide_eq_true (by omega)
    (try (conv => whnf)); (repeat (first | (refine Ob.of (by first | with_reducible assumption | rfl | (exact ald rfl rfl (by assumption) rfl) | (exact ald_agg rfl rfl rfl (by assumption) rfl)) ?_; (conv => whnf)) | (refine bIf.yes (by first | assumption | rfl) ?_; (conv => whnf)) | (refine bIf.no (by first | assumption | rfl) ?_; (conv => whnf))))
    refine (works_ax H).mono ?_
    rintro _ X ⟨rfl, e⟩
    (try (conv => whnf)); (repeat (first | (refine Ob.of (by first | with_reducible assumption | rfl | (exact ald rfl rfl (by assumption) rfl) | (exact ald_agg rfl rfl rfl (by assumption) rfl)) ?_; (conv => whnf)) | (refine bIf.yes (by first | assumption | rfl) ?_; (conv => whnf)) | (refine bIf.no (by first | assumption | rfl) ?_; (conv => whnf))))
    rfl
  have d1 : decide ((x0.size : Int) > 1000) = false := decide_eq_false (by omega)
  by_cases hl2 : x1.size ≤ 1000
  rotate_left
  · have d2 : decide ((x1.size : Int) > 1000) = true := decide_eq_true (by omega)
    (try (conv => whnf)); (repeat (first | (refine Ob.of (by first | with_reducible assumption | rfl | (exact ald rfl rfl (by assumption) rfl) | (exact ald_agg rfl rfl rfl (by assumption) rfl)) ?_; (conv => whnf)) | (refine bIf.yes (by first | assumption | rfl) ?_; (conv => whnf)) | (refine bIf.no (by first | assumption | rfl) ?_; (conv => whnf))))
    refine (works_ax H).mono ?_
    rintro _ X ⟨rfl, e⟩
    (try (conv => whnf)); (repeat (first | (refine Ob.of (by first | with_reducible assumption | rfl | (exact ald rfl rfl (by assumption) rfl) | (exact ald_agg rfl rfl rfl (by assumption) rfl)) ?_; (conv => whnf)) | (refine bIf.yes (by first | assumption | rfl) ?_; (conv => whnf)) | (refine bIf.no (by first | assumption | rfl) ?_; (conv => whnf))))
    rfl
  have d2 : decide ((x1.size : Int) > 1000) = false := decide_eq_false (by omega)
  (try (conv => whnf)); (repeat (first | (refine Ob.of (by first | with_reducible assumption | rfl | (exact ald rfl rfl (by assumption) rfl) | (exact ald_agg rfl rfl rfl (by assumption) rfl)) ?_; (conv => whnf)) | (refine bIf.yes (by first | assumption | rfl) ?_; (conv => whnf)) | (refine bIf.no (by first | assumption | rfl) ?_; (conv => whnf))))
  refine (quote_ax H (s := x0) (by omega)).mono ?_
  rintro _ X ⟨rfl, e⟩
  subst X
  have hq := quoteS_len (s := x0)
  have hqs : (⟨(quoteS x0.data.toList).toArray⟩ : ByteArray).size = (quoteS x0.data.toList).length := by simp [ByteArray.size]
  have ha := add_str ⟨(quoteS x0.data.toList).toArray⟩ x1 (by omega)
  (try (conv => whnf)); (repeat (first | (refine Ob.of (by first | with_reducible assumption | rfl | (exact ald rfl rfl (by assumption) rfl) | (exact ald_agg rfl rfl rfl (by assumption) rfl)) ?_; (conv => whnf)) | (refine bIf.yes (by first | assumption | rfl) ?_; (conv => whnf)) | (refine bIf.no (by first | assumption | rfl) ?_; (conv => whnf))))
  refine (take_ax H (s := ⟨(quoteS x0.data.toList).toArray⟩ ++ x1) (by rw [ByteArray.size_append, hqs]; omega)).mono ?_
  rintro v X ⟨hv, e⟩
  subst X
  rw [data_append, show (⟨(quoteS x0.data.toList).toArray⟩ : ByteArray).data.toList = quoteS x0.data.toList from rfl, back] at hv
  subst hv
  have b1 : ((⟨x0.data.toList.toArray⟩ : ByteArray) == x0) = true := by rw [ba_beq]; exact decide_eq_true rfl
  have b2 : (((quoteS x0.data.toList).length : Int) == (((⟨(quoteS x0.data.toList).toArray⟩ : ByteArray).size : Nat) : Int)) = true := by rw [hqs]; simp
  have b3 : (((⟨(quoteS x0.data.toList).toArray⟩ : ByteArray) == ⟨(quoteS x1.data.toList).toArray⟩) == (x0 == x1)) = true := by
    rw [ba_beq, ba_beq]
    have : ((⟨(quoteS x0.data.toList).toArray⟩ : ByteArray) = ⟨(quoteS x1.data.toList).toArray⟩) ↔ x0 = x1 := by
      constructor
      · intro h
        have h2 : quoteS x0.data.toList = quoteS x1.data.toList := by simpa using congrArg (fun z => z.data.toList) h
        have h3 := quote_inj h2
        apply ByteArray.ext
        apply Array.ext'
        exact h3
      · rintro rfl; rfl
    simp [this]
  (try (conv => whnf)); (repeat (first | (refine Ob.of (by first | with_reducible assumption | rfl | (exact ald rfl rfl (by assumption) rfl) | (exact ald_agg rfl rfl rfl (by assumption) rfl)) ?_; (conv => whnf)) | (refine bIf.yes (by first | assumption | rfl) ?_; (conv => whnf)) | (refine bIf.no (by first | assumption | rfl) ?_; (conv => whnf))))
  refine (quote_ax H (s := x1) (by omega)).mono ?_
  rintro _ X ⟨rfl, e⟩
  subst X
  (try (conv => whnf)); (repeat (first | (refine Ob.of (by first | with_reducible assumption | rfl | (exact ald rfl rfl (by assumption) rfl) | (exact ald_agg rfl rfl rfl (by assumption) rfl)) ?_; (conv => whnf)) | (refine bIf.yes (by first | assumption | rfl) ?_; (conv => whnf)) | (refine bIf.no (by first | assumption | rfl) ?_; (conv => whnf))))
  refine (works_ax H).mono ?_
  rintro _ X ⟨rfl, e⟩
  (try (conv => whnf)); (repeat (first | (refine Ob.of (by first | with_reducible assumption | rfl | (exact ald rfl rfl (by assumption) rfl) | (exact ald_agg rfl rfl rfl (by assumption) rfl)) ?_; (conv => whnf)) | (refine bIf.yes (by first | assumption | rfl) ?_; (conv => whnf)) | (refine bIf.no (by first | assumption | rfl) ?_; (conv => whnf))))
  rfl
end Go.Proofs.Ytffgdcmiacooaaa
