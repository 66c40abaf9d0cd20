/- The statements of package dict: what is handed in. -/
import Derived.Test.YtnmfmgnkfkhdhaaTy
import Derived.Test.YtnmfmgnkfkhdhaaDi14
set_option linter.unusedVariables false
set_option linter.unusedSimpArgs false
set_option maxRecDepth 20000
namespace Go.Proofs.Ytnmfmgnkfkhdhaa
open Go Ax
abbrev ActT := Int × ByteArray × V
abbrev actC (x : ActT) : List Value := [.int .i64 x.1, .string x.2.1, .int .i64 x.2.2.1, .int .i64 x.2.2.2.1, .string x.2.2.2.2]
theorem cons_of {c l : List Value} {a : Value} (h1 : c.take 1 = [a]) (h2 : c.drop 1 = l) : c = a :: l := by rw [← List.take_append_drop 1 c, h1, h2]; rfl
theorem act_of {H : Heap} {c : List Value} {x : ActT} (R : ty34.R H c x) : c = actC x := by
  obtain ⟨h1, h2, h3, h4, h5⟩ := R
  exact cons_of h1 (cons_of h2 (cons_of h3 (cons_of h4 h5)))
/-- Acts that were handed in. -/
def Acts (H : Heap) (sv : Value) (L : List ActT) : Prop :=
  (sv = .slice none 0 0 ∧ L = []) ∨ ∃ b, sv = .slice (some ⟨b, 0, none⟩) L.length 5 ∧ (L = [] ∨ ∃ c, H[b]? = some (.cells .ro c) ∧ ∀ (i : Nat) (x : ActT), L[i]? = some x → slotsOf c (i * 5) 5 = some (actC x))
theorem acts_of {H : Heap} {c0 : List Value} {x0 : List ActT} (R : ty22.R H c0 x0) : ∃ sv, arg1 c0 = sv ∧ Acts H sv x0 ∧ ∀ H', alen Try.prog 22 sv H' = some (.int .i64 x0.length) := by
  rcases R with ⟨rfl, rfl⟩ | ⟨b, rfl, h⟩
  · exact ⟨_, rfl, .inl ⟨rfl, rfl⟩, fun _ => rfl⟩
  · refine ⟨_, rfl, .inr ⟨b, rfl, ?_⟩, fun _ => rfl⟩
    rcases h with h | ⟨c, h1, h2, h3⟩
    · exact .inl h
    · refine .inr ⟨c, h1, fun i x hx => ?_⟩
      have h4 := act_of (h3 i x hx)
      have hl := (List.getElem?_eq_some_iff.1 hx).1
      have h2' : c.length = x0.length * 5 := h2
      rw [slots_of (by omega)]
      exact congrArg some h4
theorem Acts.keep {H H' : Heap} {sv : Value} {L : List ActT} (h : Acts H sv L) (k : ∀ (b : Nat) (c : List Value), H[b]? = some (.cells .ro c) → H'[b]? = some (.cells .ro c)) : Acts H' sv L := by
  rcases h with h | ⟨b, h1, h2 | ⟨c, h2, h3⟩⟩
  · exact .inl h
  · exact .inr ⟨b, h1, .inl h2⟩
  · exact .inr ⟨b, h1, .inr ⟨c, k _ _ h2, h3⟩⟩
theorem Acts.at {H : Heap} {sv : Value} {L : List ActT} (h : Acts H sv L) {i : Nat} {x : ActT} (hx : L[i]? = some x) : ∃ b, aindexAddr Try.prog 22 sv (.int .i64 (i : Int)) = some (.pointer (some ⟨b, i * 5, none⟩)) ∧ ∃ c, hblk H b = some c ∧ slotsOf c (i * 5) 5 = some (actC x) := by
  have hl := (List.getElem?_eq_some_iff.1 hx).1
  rcases h with ⟨rfl, rfl⟩ | ⟨b, rfl, rfl | ⟨c, h2, h3⟩⟩
  · simp at hx
  · simp at hx
  · refine ⟨b, ?_, c, hblk_of h2, h3 i x hx⟩
    rw [idx_slice (off := 0) (k := 5) rfl rfl (by omega) (by omega)]
    simp
end Go.Proofs.Ytnmfmgnkfkhdhaa
