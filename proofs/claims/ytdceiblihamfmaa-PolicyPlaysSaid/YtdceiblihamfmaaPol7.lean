/- A policy: the laws' picks, and where After lies. -/
import Derived.Test.YtdceiblihamfmaaTy
import Derived.Test.YtdceiblihamfmaaPol6
import Derived.KernelRfl
set_option linter.unusedVariables false
set_option linter.unusedSimpArgs false
namespace Go.Proofs.Ytdceiblihamfmaa
open Go Ax
theorem pick_eq (a b : Int × Int) : abin Try.prog .eql 28 (pickV a) (pickV b) = some (.bool ((a.1 == b.1) && ((a.2 == b.2) && true))) := by kernel_rfl
theorem nAft_in (n : Int) : 1 ≤ nAft n ∧ nAft n ≤ 1048576 := by
  unfold nAft
  split <;> split at * <;> omega
theorem nA_in {after : Int} (h1 : 1 ≤ after) (h2 : after ≤ 1048576) (L : List (Int × Int)) : 1 ≤ nA after L ∧ nA after L ≤ 1048576 := by
  cases L with
  | nil => exact ⟨h1, h2⟩
  | cons x L =>
    simp only [nA, nxA]
    split
    · exact nAft_in _
    · exact ⟨h1, h2⟩
theorem picks_of {H : Heap} {c0 : List Value} {x0 : List (Int × Int)} (R : ty22.R H c0 x0) : ∃ sv, arg1 c0 = sv ∧ Pk H sv x0 ∧ ∀ H', alen Try.prog 22 sv H' = some (.int .i64 x0.length) := by
  rcases R with ⟨rfl, rfl⟩ | ⟨b, rfl, h⟩
  · exact ⟨_, rfl, .inl ⟨rfl, rfl⟩, fun _ => rfl⟩
  · refine ⟨_, rfl, .inr ⟨b, 0, rfl, ?_⟩, fun _ => rfl⟩
    rcases h with h | ⟨c, h1, h2, h3⟩
    · exact .inl h
    · refine .inr ⟨_, c, h1, rfl, fun i x hx => ?_⟩
      obtain ⟨k1, k2⟩ := h3 i x hx
      have k1' : ((c.drop (i * 2)).take 2).take 1 = [.int .i64 x.1] := k1
      have k2' : ((c.drop (i * 2)).take 2).drop 1 = [.int .i64 x.2] := k2
      have e1 : (((c.drop (i * 2)).take 2).take 1)[0]? = some (.int .i64 x.1) := by rw [k1']; rfl
      have e2 : (((c.drop (i * 2)).take 2).drop 1)[0]? = some (.int .i64 x.2) := by rw [k2']; rfl
      simp [List.getElem?_take, List.getElem?_drop] at e1 e2
      exact ⟨by rw [Nat.zero_add]; exact e1, by rw [Nat.zero_add]; exact e2⟩
end Go.Proofs.Ytdceiblihamfmaa
