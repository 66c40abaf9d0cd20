/- The document's policy stays where the other one is changed; calls that lie in memory. -/
import Derived.Test.YtdceiblihamfmaaPol11
import Derived.KernelRfl
set_option linter.unusedVariables false
set_option linter.unusedSimpArgs false
namespace Go.Proofs.Ytdceiblihamfmaa
open Go Ax
theorem pick_neq (a b : Int × Int) : abin Try.prog .neq 28 (pickV a) (pickV b) = some (.bool !((a.1 == b.1) && ((a.2 == b.2) && true))) := by kernel_rfl
theorem Pol.var {H : Heap} {p : Nat} {L : List (Int × Int)} {fns after : Int} {cs : List Int} (h : Pol H p L fns after cs) : ∃ c, H[p]? = some (.cells .var c) := by obtain ⟨sv, h1, _⟩ := h; exact ⟨_, h1⟩
theorem RPol.var {H : Heap} {r t : Nat} {L : List (Int × Int)} {after : Int} {cs : List Int} (h : RPol H r L t after cs) : ∃ c, H[r]? = some (.cells .var c) := by obtain ⟨sv, b, h1, _⟩ := h; exact ⟨_, h1⟩
theorem RPol.but {H H' : Heap} {p r t : Nat} {L : List (Int × Int)} {after : Int} {cs : List Int} (h : RPol H r L t after cs) (k : But p H H') (hp : ∃ c, H[p]? = some (.cells .var c)) (hne : r ≠ p) : RPol H' r L t after cs := by
  obtain ⟨c, hp⟩ := hp
  obtain ⟨lv, b, h1, h2, h3, h4⟩ := h
  exact ⟨lv, b, k.at h1 hne, k.at h2 (by rintro rfl; rw [hp] at h2; simp at h2), h3.at k (.of hp), h4⟩
/-- Numbers that were handed in. -/
def Ints (H : Heap) (sv : Value) (L : List Int) : Prop := (sv = .slice none 0 0 ∧ L = []) ∨ ∃ b, sv = .slice (some ⟨b, 0, none⟩) L.length 1 ∧ (L = [] ∨ ∃ c, H[b]? = some (.cells .ro c) ∧ ∀ (i : Nat) (x : Int), L[i]? = some x → c[0 + i * 1]? = some (.int .i64 x))
theorem Ints.but {H H' : Heap} {p : Nat} {sv : Value} {L : List Int} (h : Ints H sv L) (k : But p H H') (hp : ∃ c, H[p]? = some (.cells .var c)) : Ints H' sv L := by
  obtain ⟨c, hp⟩ := hp
  rcases h with h | ⟨b, h1, h2 | ⟨c', h2, h3⟩⟩
  · exact .inl h
  · exact .inr ⟨b, h1, .inl h2⟩
  · exact .inr ⟨b, h1, .inr ⟨c', k.at h2 (by rintro rfl; rw [hp] at h2; simp at h2), h3⟩⟩
theorem Ints.frame {H H' : Heap} {r : Nat} {sv : Value} {L : List Int} (h : Ints H sv L) (k : FrR r H H') (hp : ∃ c, H[r]? = some (.cells .var c)) : Ints H' sv L := by
  obtain ⟨c, hp⟩ := hp
  rcases h with h | ⟨b, h1, h2 | ⟨c', h2, h3⟩⟩
  · exact .inl h
  · exact .inr ⟨b, h1, .inl h2⟩
  · exact .inr ⟨b, h1, .inr ⟨c', k.2 _ _ h2 (by rintro rfl; rw [hp] at h2; simp at h2) (by simp), h3⟩⟩
theorem Ints.grow {H H' : Heap} {sv : Value} {L : List Int} (h : Ints H sv L) (k : Grow H H') : Ints H' sv L := by
  rcases h with h | ⟨b, h1, h2 | ⟨c', h2, h3⟩⟩
  · exact .inl h
  · exact .inr ⟨b, h1, .inl h2⟩
  · exact .inr ⟨b, h1, .inr ⟨c', k.at h2, h3⟩⟩
theorem ints_of {H : Heap} {c0 : List Value} {x0 : List Int} (R : ty33.R H c0 x0) : ∃ sv, arg1 c0 = sv ∧ Ints H sv x0 ∧ ∀ H', alen Try.prog 33 sv H' = some (.int .i64 x0.length) := by
  rcases R with ⟨rfl, rfl⟩ | ⟨b, rfl, h⟩
  · exact ⟨_, rfl, .inl ⟨rfl, rfl⟩, fun _ => rfl⟩
  · refine ⟨_, rfl, .inr ⟨b, rfl, ?_⟩, fun _ => rfl⟩
    rcases h with h | ⟨c, h1, h2, h3⟩
    · exact .inl h
    · refine .inr ⟨c, h1, fun i x hx => ?_⟩
      have k1 : (c.drop (i * 1)).take 1 = [.int .i64 x] := h3 i x hx
      have e1 : ((c.drop (i * 1)).take 1)[0]? = some (.int .i64 x) := by rw [k1]; rfl
      simp [List.getElem?_take, List.getElem?_drop] at e1
      simpa using e1
end Go.Proofs.Ytdceiblihamfmaa
