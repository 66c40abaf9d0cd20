/- A cell of a row is written. (Out of Li6.) -/
import Derived.Test.YtmdpifedcaaobaaDoorJAs1
set_option linter.unusedVariables false
set_option linter.unusedSimpArgs false
set_option maxRecDepth 20000
set_option maxHeartbeats 4000000
namespace Go.Proofs.YtmdpifedcaaobaaDoor
open Go Ax
theorem slots_set {c : List Value} {o k j : Nat} {v : Value} {l : List Value} (h : slotsOf c o k = some l) (hj : j < k) : slotsOf (c.set (o + j) v) o k = some (l.set j v) := by
  unfold slotsOf at h
  split at h
  · rename_i hle
    simp only [Option.some.injEq] at h
    subst h
    rw [slots_of (by simpa using hle)]
    congr 1
    apply List.ext_getElem?
    intro i
    rw [List.getElem?_take, List.getElem?_drop, List.getElem?_set, List.getElem?_set, List.getElem?_take, List.getElem?_drop]
    by_cases hi : i < k
    · by_cases hij : j = i
      · subst hij
        rw [if_pos hi, if_pos rfl, if_pos (by omega), if_pos rfl, if_pos (by rw [List.length_take, List.length_drop]; omega)]
      · simp [hi, hij]
    · have : j ≠ i := by omega
      simp [hi, this]
  · simp at h
theorem slots_set_ne {c : List Value} {o k p : Nat} {v : Value} (h : p < o ∨ o + k ≤ p) : slotsOf (c.set p v) o k = slotsOf c o k := by
  unfold slotsOf
  simp only [List.length_set]
  split
  · congr 1
    apply List.ext_getElem?
    intro i
    rw [List.getElem?_take, List.getElem?_take, List.getElem?_drop, List.getElem?_drop]
    by_cases hi : i < k
    · rw [if_pos hi, if_pos hi, List.getElem?_set_ne (by omega)]
    · rw [if_neg hi, if_neg hi]
  · rfl
/-- One cell of an element is written. -/
theorem OwnR.put1 {α : Type} {k : Nat} {e : TypeId} {f : Heap → List Value → α → Prop} {A B : Heap} {b i j : Nat} {c l : List Value} {L : List α} {x x' : α} {v : Value} (hc : c.length = L.length * k) (h4 : ∀ (i : Nat) x, L[i]? = some x → ∃ l, slotsOf c (i * k) k = some l ∧ f A l x)
    (hB : B[b]? = some (.cells (.row e) (putL c (i * k + j) [v]))) (hi : L[i]? = some x) (hl : slotsOf c (i * k) k = some l) (hj : j < k) (hx' : f B (l.set j v) x') (hf : ∀ l x, f A l x → f B l x) : OwnR k e f B (.slice (some ⟨b, 0, none⟩) L.length k) (L.set i x') := by
  have hil := lt_of_get hi
  refine .inr ⟨b, c.set (i * k + j) v, by simp, hB, by simp [hc], fun i' y hy => ?_⟩
  by_cases hii : i = i'
  · subst hii
    rw [List.getElem?_set_self hil] at hy
    simp only [Option.some.injEq] at hy
    subst hy
    exact ⟨_, slots_set hl hj, hx'⟩
  · rw [List.getElem?_set_ne hii] at hy
    obtain ⟨w, k1, k2⟩ := h4 i' y hy
    refine ⟨w, ?_, hf _ _ k2⟩
    rw [slots_set_ne]; exact k1
    rcases Nat.lt_or_gt_of_ne hii with h | h
    · left
      have : (i + 1) * k ≤ i' * k := Nat.mul_le_mul_right _ h
      rw [Nat.succ_mul] at this; omega
    · right
      have : (i' + 1) * k ≤ i * k := Nat.mul_le_mul_right _ h
      rw [Nat.succ_mul] at this; omega
end Go.Proofs.YtmdpifedcaaobaaDoor
