/- The law TextQuotes, told of abstract memory: whatever the input, it answers true. No condition. -/
import Derived.Test.YtffgdcmiacooaaaTy
import Derived.Test.YtffgdcmiacooaaaTx7
import Derived.Test.YtffgdcmiacooaaaTx9
set_option linter.unusedVariables false
set_option linter.unusedSimpArgs false
set_option maxRecDepth 20000
namespace Go.Proofs.Ytffgdcmiacooaaa
open Go Ax
theorem TextQuotes_ax (H : Heap) (c0 : List Value) (x0 : ByteArray) (hn : NoOwn H) (R0 : ty9.R H c0 x0) (o0 : ty9.ok x0) :
    AX Try.prog 4 #[arg1 c0] H fun v _ => v = .bool true := by
  obtain rfl : c0 = [.string x0] := R0
  show AX Try.prog 4 #[.string x0] H _
  refine AX.body (n := 22) (rs := [.tmp 2]) Try.func4 rfl (by decide) rfl rfl (bC_sound _ _ _ _ ?_)
  by_cases hl : x0.size ≤ 1000
  rotate_left
  · have d1 : decide ((x0.size : Int) > 1000) = true := decide_eq_true (by omega)
    (try (conv => whnf)); (repeat (first | (refine Ob.of (by first | with_reducible assumption | rfl | (exact ald rfl rfl (by assumption) rfl) | (exact ald_agg rfl rfl rfl (by assumption) rfl)) ?_; (conv => whnf)) | (refine bIf.yes (by first | assumption | rfl) ?_; (conv => whnf)) | (refine bIf.no (by first | assumption | rfl) ?_; (conv => whnf))))
    refine (works_ax H).mono ?_
    rintro _ X ⟨rfl, e⟩
    (try (conv => whnf)); (repeat (first | (refine Ob.of (by first | with_reducible assumption | rfl | (exact ald rfl rfl (by assumption) rfl) | (exact ald_agg rfl rfl rfl (by assumption) rfl)) ?_; (conv => whnf)) | (refine bIf.yes (by first | assumption | rfl) ?_; (conv => whnf)) | (refine bIf.no (by first | assumption | rfl) ?_; (conv => whnf))))
    rfl
  have d1 : decide ((x0.size : Int) > 1000) = false := decide_eq_false (by omega)
  (try (conv => whnf)); (repeat (first | (refine Ob.of (by first | with_reducible assumption | rfl | (exact ald rfl rfl (by assumption) rfl) | (exact ald_agg rfl rfl rfl (by assumption) rfl)) ?_; (conv => whnf)) | (refine bIf.yes (by first | assumption | rfl) ?_; (conv => whnf)) | (refine bIf.no (by first | assumption | rfl) ?_; (conv => whnf))))
  refine (quote_ax H (s := x0) (by omega)).mono ?_
  rintro _ X ⟨rfl, e⟩
  subst X
  (try (conv => whnf)); (repeat (first | (refine Ob.of (by first | with_reducible assumption | rfl | (exact ald rfl rfl (by assumption) rfl) | (exact ald_agg rfl rfl rfl (by assumption) rfl)) ?_; (conv => whnf)) | (refine bIf.yes (by first | assumption | rfl) ?_; (conv => whnf)) | (refine bIf.no (by first | assumption | rfl) ?_; (conv => whnf))))
  refine (rquote_ax H (s := x0) (by omega)).mono ?_
  rintro _ X ⟨rfl, e⟩
  subst X
  have b1 : ((⟨(quoteS x0.data.toList).toArray⟩ : ByteArray) == ⟨(quoteS x0.data.toList).toArray⟩) = true := by rw [ba_beq]; exact decide_eq_true rfl
  have b2 : (nameS x0.data.toList == nameS x0.data.toList) = true := by simp
  (try (conv => whnf)); (repeat (first | (refine Ob.of (by first | with_reducible assumption | rfl | (exact ald rfl rfl (by assumption) rfl) | (exact ald_agg rfl rfl rfl (by assumption) rfl)) ?_; (conv => whnf)) | (refine bIf.yes (by first | assumption | rfl) ?_; (conv => whnf)) | (refine bIf.no (by first | assumption | rfl) ?_; (conv => whnf))))
  refine (name_ax H (s := x0) (by omega)).mono ?_
  rintro _ X ⟨rfl, e⟩
  subst X
  (try (conv => whnf)); (repeat (first | (refine Ob.of (by first | with_reducible assumption | rfl | (exact ald rfl rfl (by assumption) rfl) | (exact ald_agg rfl rfl rfl (by assumption) rfl)) ?_; (conv => whnf)) | (refine bIf.yes (by first | assumption | rfl) ?_; (conv => whnf)) | (refine bIf.no (by first | assumption | rfl) ?_; (conv => whnf))))
  refine (rname_ax H (s := x0) (by omega)).mono ?_
  rintro _ X ⟨rfl, e⟩
  subst X
  (try (conv => whnf)); (repeat (first | (refine Ob.of (by first | with_reducible assumption | rfl | (exact ald rfl rfl (by assumption) rfl) | (exact ald_agg rfl rfl rfl (by assumption) rfl)) ?_; (conv => whnf)) | (refine bIf.yes (by first | assumption | rfl) ?_; (conv => whnf)) | (refine bIf.no (by first | assumption | rfl) ?_; (conv => whnf))))
  refine (works_ax H).mono ?_
  rintro _ X ⟨rfl, e⟩
  (try (conv => whnf)); (repeat (first | (refine Ob.of (by first | with_reducible assumption | rfl | (exact ald rfl rfl (by assumption) rfl) | (exact ald_agg rfl rfl rfl (by assumption) rfl)) ?_; (conv => whnf)) | (refine bIf.yes (by first | assumption | rfl) ?_; (conv => whnf)) | (refine bIf.no (by first | assumption | rfl) ?_; (conv => whnf))))
  rfl
end Go.Proofs.Ytffgdcmiacooaaa
