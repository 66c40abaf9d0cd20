/- A policy's counts and the document's are alike. -/
import Derived.Test.YtdceiblihamfmaaPol10
set_option linter.unusedVariables false
set_option linter.unusedSimpArgs false
namespace Go.Proofs.Ytdceiblihamfmaa
open Go Ax
def Same (F : Int) (cs cs' : List Int) : Prop := (cs'.length : Int) = F ∧ F ≤ 32 ∧ cs.length = 32 ∧ ∀ i, i < cs'.length → cs[i]? = cs'[i]?
theorem cnt_same {F : Int} {cs cs' : List Int} (h : Same F cs cs') (f : Int) : cnt cs'.length cs' f = cnt F cs f := by
  obtain ⟨h1, h2, h3, h4⟩ := h
  unfold cnt
  rw [h1]
  split
  · rw [List.getD_eq_getElem?_getD, List.getD_eq_getElem?_getD, h4 _ (by omega)]
  · rfl
theorem set_same {F : Int} {cs cs' : List Int} (h : Same F cs cs') (i : Nat) (v : Int) : Same F (cs.set i v) (cs'.set i v) := by
  obtain ⟨h1, h2, h3, h4⟩ := h
  refine ⟨by simpa using h1, h2, by simpa using h3, fun j hj => ?_⟩
  simp only [List.length_set] at hj
  rw [List.getElem?_set, List.getElem?_set, h4 j hj]
  by_cases e : i = j
  · rw [if_pos e, if_pos e, if_pos (by omega), if_pos (by omega)]
  · rw [if_neg e, if_neg e]
theorem bump_same {F : Int} {cs cs' : List Int} (h : Same F cs cs') (f : Int) : Same F (bump F cs f) (bump cs'.length cs' f) := by
  have hc := cnt_same h f
  unfold bump
  rw [hc, h.1]
  split
  · exact set_same h _ _
  · exact h
theorem cool_same {F : Int} {cs cs' : List Int} (h : Same F cs cs') (f : Int) : Same F (cool F cs f) (cool cs'.length cs' f) := by
  unfold cool
  rw [h.1]
  split
  · exact set_same h _ _
  · exact h
end Go.Proofs.Ytdceiblihamfmaa
