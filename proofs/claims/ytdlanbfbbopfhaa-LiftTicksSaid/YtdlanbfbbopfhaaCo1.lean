/- Package code and its document: built-in calls, and what an instruction takes and lays. -/
import Derived.Test.YtdlanbfbbopfhaaAx18
import Derived.Test.YtdlanbfbbopfhaaProg
set_option linter.unusedVariables false
set_option linter.unusedSimpArgs false
set_option maxRecDepth 20000
set_option maxHeartbeats 4000000
namespace Go.Proofs.Ytdlanbfbbopfhaa
open Go Ax
def builtN (a : Int) : Int := if a = 1 ∨ a = 4 ∨ a = 6 ∨ a = 7 then 1 else if a = 2 ∨ a = 3 ∨ a = 5 then 2 else 0
def builtS (a : Int) : ByteArray :=
  if a = 1 then ⟨#[99, 111, 117, 110, 116]⟩ else if a = 2 then ⟨#[107, 101, 121]⟩ else if a = 3 then ⟨#[104, 97, 115]⟩ else if a = 4 then ⟨#[112, 114, 111, 116, 111]⟩ else if a = 5 then ⟨#[115, 101, 116, 112, 114, 111, 116, 111]⟩ else
  if a = 6 then ⟨#[108, 101, 110]⟩ else if a = 7 then ⟨#[115, 116, 114]⟩ else .empty
theorem seven {a : Int} (h1 : 1 ≤ a) (h7 : a ≤ 7) : a = 1 ∨ a = 2 ∨ a = 3 ∨ a = 4 ∨ a = 5 ∨ a = 6 ∨ a = 7 := by omega
theorem built_ax (H : Heap) (a : Int) : AX Try.prog 64 #[.int .i64 a] H (fun v H' => v = .tuple #[.string (builtS a), .int .i64 (builtN a)] ∧ H' = H) := by
  refine AX.body (n := 19) (rs := [.tmp 2, .tmp 3]) Try.func64 rfl (by decide) rfl rfl (bC_sound _ _ _ _ ?_)
  by_cases h : 1 ≤ a ∧ a ≤ 7
  · rcases seven h.1 h.2 with rfl | rfl | rfl | rfl | rfl | rfl | rfl <;> ((try (conv => whnf)); (repeat ((fail_if_success (with_reducible refine And.intro ?_ ?_)); (fail_if_success (with_reducible refine Exists.intro ?_ ?_)); (first | (apply Ob.of; (first | with_reducible assumption | with_reducible exact ex20 _ _ | with_reducible exact ex21 _ _ | with_reducible exact ex30 _ _ _ | with_reducible exact ex31 _ _ _ | with_reducible exact ex32 _ _ _ | rfl | (exact ald rfl rfl (by assumption) rfl) | (exact ald_agg rfl rfl rfl (by assumption) rfl)); (conv => whnf)) | (apply bIf.yes; (first | assumption | rfl); (conv => whnf)) | (apply bIf.no; (first | assumption | rfl); (conv => whnf)) | ((with_reducible refine Ob.load (by with_unfolding_all assumption) ?_); (conv => whnf)) | (apply Grows.mk; (first | exact Grow.refl _ | assumption); (conv => whnf))))); exact ⟨rfl, rfl⟩)
  · have e1 : (a == 1) = false := by rw [beq_eq_false_iff_ne]; omega
    have e2 : (a == 2) = false := by rw [beq_eq_false_iff_ne]; omega
    have e3 : (a == 3) = false := by rw [beq_eq_false_iff_ne]; omega
    have e4 : (a == 4) = false := by rw [beq_eq_false_iff_ne]; omega
    have e5 : (a == 5) = false := by rw [beq_eq_false_iff_ne]; omega
    have e6 : (a == 6) = false := by rw [beq_eq_false_iff_ne]; omega
    have e7 : (a == 7) = false := by rw [beq_eq_false_iff_ne]; omega
    have hs : builtS a = .empty := by unfold builtS; rw [if_neg (by omega), if_neg (by omega), if_neg (by omega), if_neg (by omega), if_neg (by omega), if_neg (by omega), if_neg (by omega)]
    have hn : builtN a = 0 := by unfold builtN; rw [if_neg (by omega), if_neg (by omega)]
    rw [hs, hn]
    (try (conv => whnf)); (repeat ((fail_if_success (with_reducible refine And.intro ?_ ?_)); (fail_if_success (with_reducible refine Exists.intro ?_ ?_)); (first | (apply Ob.of; (first | with_reducible assumption | with_reducible exact ex20 _ _ | with_reducible exact ex21 _ _ | with_reducible exact ex30 _ _ _ | with_reducible exact ex31 _ _ _ | with_reducible exact ex32 _ _ _ | rfl | (exact ald rfl rfl (by assumption) rfl) | (exact ald_agg rfl rfl rfl (by assumption) rfl)); (conv => whnf)) | (apply bIf.yes; (first | assumption | rfl); (conv => whnf)) | (apply bIf.no; (first | assumption | rfl); (conv => whnf)) | ((with_reducible refine Ob.load (by with_unfolding_all assumption) ?_); (conv => whnf)) | (apply Grows.mk; (first | exact Grow.refl _ | assumption); (conv => whnf)))))
    exact ⟨rfl, rfl⟩
end Go.Proofs.Ytdlanbfbbopfhaa
