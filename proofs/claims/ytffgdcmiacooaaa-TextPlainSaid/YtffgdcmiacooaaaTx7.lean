/- Package text works. -/
import Derived.Test.YtffgdcmiacooaaaTx5
import Derived.Test.YtffgdcmiacooaaaTx6
set_option linter.unusedVariables false
set_option linter.unusedSimpArgs false
set_option maxRecDepth 20000
namespace Go.Proofs.Ytffgdcmiacooaaa
open Go Ax
theorem works_ax (H : Heap) : AX Try.prog 7 #[] H (fun v H' => v = .bool true ∧ H' = H) := by
  refine AX.body (n := 22) (rs := [.tmp 0]) Try.func7 rfl (by decide) rfl rfl (bC_sound _ _ _ _ ?_)
  (try (conv => whnf)); (repeat (first | (refine Ob.of (by first | with_reducible assumption | rfl | (exact ald rfl rfl (by assumption) rfl) | (exact ald_agg rfl rfl rfl (by assumption) rfl)) ?_; (conv => whnf)) | (refine bIf.yes (by first | assumption | rfl) ?_; (conv => whnf)) | (refine bIf.no (by first | assumption | rfl) ?_; (conv => whnf))))
  refine (take_ax H (s := ⟨#[34, 97, 92, 120, 48, 97, 34, 98]⟩) (by decide)).mono ?_
  rintro v X ⟨hv, e⟩
  subst X
  have ht : takeV (takeS [34, 97, 92, 120, 48, 97, 34, 98]) = .tuple #[.string ⟨#[97, 10]⟩, .int .i64 7, .int .i64 0] := by
    have : takeS [34, 97, 92, 120, 48, 97, 34, 98] = ([97, 10], 7, 0) := by decide
    rw [this]
    rfl
  replace hv : v = .tuple #[.string ⟨#[97, 10]⟩, .int .i64 7, .int .i64 0] := hv.trans ht
  subst hv
  (try (conv => whnf)); (repeat (first | (refine Ob.of (by first | with_reducible assumption | rfl | (exact ald rfl rfl (by assumption) rfl) | (exact ald_agg rfl rfl rfl (by assumption) rfl)) ?_; (conv => whnf)) | (refine bIf.yes (by first | assumption | rfl) ?_; (conv => whnf)) | (refine bIf.no (by first | assumption | rfl) ?_; (conv => whnf))))
  refine (name_ax H (s := ⟨#[97, 95, 49]⟩) (by decide)).mono ?_
  rintro v X ⟨hv, e⟩
  subst X
  have hn : nameS [97, 95, 49] = true := by decide
  replace hv : v = .bool true := hv.trans (congrArg Value.bool hn)
  subst hv
  (try (conv => whnf)); (repeat (first | (refine Ob.of (by first | with_reducible assumption | rfl | (exact ald rfl rfl (by assumption) rfl) | (exact ald_agg rfl rfl rfl (by assumption) rfl)) ?_; (conv => whnf)) | (refine bIf.yes (by first | assumption | rfl) ?_; (conv => whnf)) | (refine bIf.no (by first | assumption | rfl) ?_; (conv => whnf))))
  exact ⟨rfl, rfl⟩
end Go.Proofs.Ytffgdcmiacooaaa
