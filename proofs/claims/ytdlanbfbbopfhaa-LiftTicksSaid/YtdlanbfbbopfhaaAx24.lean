/- The abstract machine: a region whose order is open, that lays two new blocks and fills each with a value: what is known while it is under way. -/
import Derived.Test.YtdlanbfbbopfhaaAx23
set_option linter.unusedVariables false
set_option linter.unusedSimpArgs false
namespace Go.Proofs.Ytdlanbfbbopfhaa.Ax
open Go Go.RowKit
/-- nf operations that only read, then two new blocks (numbers nf, nf + 1), then a store into each. -/
structure R2 (nf : Nat) (C : List Value) (H0 : Heap) (z1 z2 x1 x2 : List Value) (L : Nat → Bool) (V : List Value) (K : Heap) : Prop where
  len : V.length = nf + 4
  val : ∀ j, j < nf → L j = true → V.getD j undef = C.getD j undef
  grow : Grow H0 K
  fst : L nf = true → ∃ a, H0.length ≤ a ∧ V.getD nf undef = .pointer (some ⟨a, 0, none⟩) ∧ K[a]? = some (.cells .var (if L (nf + 2) then x1 else z1))
  snd : L (nf + 1) = true → ∃ a, H0.length ≤ a ∧ V.getD (nf + 1) undef = .pointer (some ⟨a, 0, none⟩) ∧ K[a]? = some (.cells .var (if L (nf + 3) then x2 else z2))
  ne : L nf = true → L (nf + 1) = true → V.getD nf undef ≠ V.getD (nf + 1) undef
theorem getD_set {V : List Value} {i j : Nat} {v : Value} (hi : i < V.length) : (V.set i v).getD j undef = if j = i then v else V.getD j undef := by
  rw [List.getD_eq_getElem?_getD, List.getElem?_set, List.getD_eq_getElem?_getD]
  by_cases h : i = j
  · subst h; simp [hi]
  · rw [if_neg h, if_neg (fun e => h e.symm)]
abbrev R2.Next (nf : Nat) (C : List Value) (H0 : Heap) (z1 z2 x1 x2 : List Value) (L : Nat → Bool) (V : List Value) (i size : Nat) (v : Value) (K : Heap) : Prop :=
  ∃ V', R2 nf C H0 z1 z2 x1 x2 (fun j => L j || decide (j = i)) V' K ∧ V'.getD i undef = v ∧ ∀ (j : Nat), j < size → L j = true → V'.getD j undef = V.getD j undef
section
variable {nf : Nat} {C : List Value} {H0 : Heap} {z1 z2 x1 x2 : List Value} {L : Nat → Bool} {V : List Value} {K : Heap} {i size : Nat}
theorem R2.init (nf : Nat) (C : List Value) (H0 : Heap) (z1 z2 x1 x2 : List Value) : ∃ V, R2 nf C H0 z1 z2 x1 x2 (fun _ => false) V H0 :=
  ⟨List.replicate (nf + 4) undef, by simp, fun _ _ h => by simp at h, .refl _, fun h => by simp at h, fun h => by simp at h, fun h => by simp at h⟩
theorem R2.rest (h : R2 nf C H0 z1 z2 x1 x2 L V K) (hl : L i = false) (hi : i < nf + 4) (v : Value) : ∀ (j : Nat), j < size → L j = true → (V.set i v).getD j undef = V.getD j undef := by
  intro j _ hj
  rw [getD_set (by have := h.len; omega), if_neg (fun e => by subst e; rw [hl] at hj; simp at hj)]
theorem R2.float (h : R2 nf C H0 z1 z2 x1 x2 L V K) (hl : L i = false) (hi : i < nf) {v : Value} (hv : C.getD i undef = v) : R2.Next nf C H0 z1 z2 x1 x2 L V i size v K := by
  have hs := h.len
  have ne : ∀ j, nf ≤ j → (L j || decide (j = i)) = L j := fun j hj => by simp [show j ≠ i by omega]
  refine ⟨V.set i v, ⟨by simp [hs], fun j hj hL => ?_, h.grow, fun hL => ?_, fun hL => ?_, fun hL hL' => ?_⟩, by rw [getD_set (by omega), if_pos rfl], h.rest hl (by omega) v⟩
  · rw [getD_set (by omega)]
    split
    · rename_i e; subst e; exact hv.symm
    · rename_i e; refine h.val j hj ?_; simpa [e] using hL
  · simp only [ne _ (Nat.le_refl nf)] at hL
    obtain ⟨a, h1, h2, h3⟩ := h.fst hL
    simp only [ne (nf + 2) (by omega)]
    exact ⟨a, h1, by rw [getD_set (by omega), if_neg (by omega)]; exact h2, h3⟩
  · simp only [ne (nf + 1) (by omega)] at hL
    obtain ⟨a, h1, h2, h3⟩ := h.snd hL
    simp only [ne (nf + 3) (by omega)]
    exact ⟨a, h1, by rw [getD_set (by omega), if_neg (by omega)]; exact h2, h3⟩
  · simp only [ne _ (Nat.le_refl nf)] at hL
    simp only [ne (nf + 1) (by omega)] at hL'
    rw [getD_set (by omega), if_neg (by omega), getD_set (by omega), if_neg (by omega)]
    exact h.ne hL hL'
theorem R2.allocA (h : R2 nf C H0 z1 z2 x1 x2 L V K) (hi : i = nf) (hl : L i = false) (hs : L (nf + 2) = false) : R2.Next nf C H0 z1 z2 x1 x2 L V i size (.pointer (some ⟨K.length, 0, none⟩)) (K ++ [.cells .var z1]) := by
  subst hi
  have hs' := h.len
  refine ⟨V.set i (.pointer (some ⟨K.length, 0, none⟩)), ⟨by simp [hs'], fun j hj hL => ?_, h.grow.trans (.push _ _), fun _ => ?_, fun hL => ?_, fun _ hL' => ?_⟩, by rw [getD_set (by omega), if_pos rfl], h.rest hl (by omega) _⟩
  · rw [getD_set (by omega), if_neg (by omega)]
    refine h.val j hj ?_
    simpa [show j ≠ i by omega] using hL
  · refine ⟨K.length, h.grow.1, by rw [getD_set (by omega), if_pos rfl], ?_⟩
    simp [hs]
  · simp only [show (decide (i + 1 = i)) = false by simp, Bool.or_false] at hL
    obtain ⟨a, h1, h2, h3⟩ := h.snd hL
    refine ⟨a, h1, by rw [getD_set (by omega), if_neg (by omega)]; exact h2, ?_⟩
    simp only [show (decide (i + 3 = i)) = false by simp, Bool.or_false]
    rw [List.getElem?_append_left (lt_at h3)]; exact h3
  · simp only [show (decide (i + 1 = i)) = false by simp, Bool.or_false] at hL'
    obtain ⟨a, h1, h2, h3⟩ := h.snd hL'
    rw [getD_set (by omega), if_pos rfl, getD_set (by omega), if_neg (by omega), h2]
    have := lt_at h3
    intro e
    simp only [Value.pointer.injEq, Option.some.injEq, Addr.mk.injEq, and_true] at e
    omega
theorem R2.allocB (h : R2 nf C H0 z1 z2 x1 x2 L V K) (hi : i = nf + 1) (hl : L i = false) (hs : L (nf + 3) = false) : R2.Next nf C H0 z1 z2 x1 x2 L V i size (.pointer (some ⟨K.length, 0, none⟩)) (K ++ [.cells .var z2]) := by
  subst hi
  have hs' := h.len
  refine ⟨V.set (nf + 1) (.pointer (some ⟨K.length, 0, none⟩)), ⟨by simp [hs'], fun j hj hL => ?_, h.grow.trans (.push _ _), fun hL => ?_, fun _ => ?_, fun hL _ => ?_⟩, by rw [getD_set (by omega), if_pos rfl], h.rest hl (by omega) _⟩
  · rw [getD_set (by omega), if_neg (by omega)]
    refine h.val j hj ?_
    simpa [show j ≠ nf + 1 by omega] using hL
  · simp only [show (decide (nf = nf + 1)) = false by simp, Bool.or_false] at hL
    obtain ⟨a, h1, h2, h3⟩ := h.fst hL
    refine ⟨a, h1, by rw [getD_set (by omega), if_neg (by omega)]; exact h2, ?_⟩
    simp only [show (decide (nf + 2 = nf + 1)) = false by simp, Bool.or_false]
    rw [List.getElem?_append_left (lt_at h3)]; exact h3
  · refine ⟨K.length, h.grow.1, by rw [getD_set (by omega), if_pos rfl], ?_⟩
    simp [hs]
  · simp only [show (decide (nf = nf + 1)) = false by simp, Bool.or_false] at hL
    obtain ⟨a, h1, h2, h3⟩ := h.fst hL
    rw [getD_set (by omega), if_neg (by omega), getD_set (by omega), if_pos rfl, h2]
    have := lt_at h3
    intro e
    simp only [Value.pointer.injEq, Option.some.injEq, Addr.mk.injEq, and_true] at e
    omega
theorem R2.storeA (h : R2 nf C H0 z1 z2 x1 x2 L V K) (hi : i = nf + 2) (hl : L i = false) (h0 : L nf = true) {a : Nat} (ha : V.getD nf undef = .pointer (some ⟨a, 0, none⟩)) {K' : Heap} (hK : K'[a]? = some (.cells .var x1)) (hB : But a K K') : R2.Next nf C H0 z1 z2 x1 x2 L V i size undef K' := by
  subst hi
  have hs' := h.len
  obtain ⟨a', h1, h2, h3⟩ := h.fst h0
  rw [ha] at h2
  simp only [Value.pointer.injEq, Option.some.injEq, Addr.mk.injEq, and_true] at h2
  subst h2
  refine ⟨V.set (nf + 2) undef, ⟨by simp [hs'], fun j hj hL => ?_, h.grow.but_new hB h1, fun _ => ?_, fun hL => ?_, fun _ hL' => ?_⟩, by rw [getD_set (by omega), if_pos rfl], h.rest hl (by omega) _⟩
  · rw [getD_set (by omega), if_neg (by omega)]
    refine h.val j hj ?_
    simpa [show j ≠ nf + 2 by omega] using hL
  · refine ⟨a, h1, by rw [getD_set (by omega), if_neg (by omega)]; exact ha, ?_⟩
    simpa using hK
  · simp only [show (decide (nf + 1 = nf + 2)) = false by simp, Bool.or_false] at hL
    obtain ⟨b, k1, k2, k3⟩ := h.snd hL
    refine ⟨b, k1, by rw [getD_set (by omega), if_neg (by omega)]; exact k2, ?_⟩
    simp only [show (decide (nf + 3 = nf + 2)) = false by simp, Bool.or_false]
    refine hB.at k3 fun e => h.ne h0 hL ?_
    rw [ha, k2, e]
  · simp only [show (decide (nf + 1 = nf + 2)) = false by simp, Bool.or_false] at hL'
    rw [getD_set (by omega), if_neg (by omega), getD_set (by omega), if_neg (by omega)]
    exact h.ne h0 hL'
theorem R2.storeB (h : R2 nf C H0 z1 z2 x1 x2 L V K) (hi : i = nf + 3) (hl : L i = false) (h0 : L (nf + 1) = true) {a : Nat} (ha : V.getD (nf + 1) undef = .pointer (some ⟨a, 0, none⟩)) {K' : Heap} (hK : K'[a]? = some (.cells .var x2)) (hB : But a K K') : R2.Next nf C H0 z1 z2 x1 x2 L V i size undef K' := by
  subst hi
  have hs' := h.len
  obtain ⟨a', h1, h2, h3⟩ := h.snd h0
  rw [ha] at h2
  simp only [Value.pointer.injEq, Option.some.injEq, Addr.mk.injEq, and_true] at h2
  subst h2
  refine ⟨V.set (nf + 3) undef, ⟨by simp [hs'], fun j hj hL => ?_, h.grow.but_new hB h1, fun hL => ?_, fun _ => ?_, fun hL _ => ?_⟩, by rw [getD_set (by omega), if_pos rfl], h.rest hl (by omega) _⟩
  · rw [getD_set (by omega), if_neg (by omega)]
    refine h.val j hj ?_
    simpa [show j ≠ nf + 3 by omega] using hL
  · simp only [show (decide (nf = nf + 3)) = false by simp, Bool.or_false] at hL
    obtain ⟨b, k1, k2, k3⟩ := h.fst hL
    refine ⟨b, k1, by rw [getD_set (by omega), if_neg (by omega)]; exact k2, ?_⟩
    simp only [show (decide (nf + 2 = nf + 3)) = false by simp, Bool.or_false]
    refine hB.at k3 fun e => h.ne hL h0 ?_
    rw [ha, k2, e]
  · refine ⟨a, h1, by rw [getD_set (by omega), if_neg (by omega)]; exact ha, ?_⟩
    simpa using hK
  · simp only [show (decide (nf = nf + 3)) = false by simp, Bool.or_false] at hL
    rw [getD_set (by omega), if_neg (by omega), getD_set (by omega), if_neg (by omega)]
    exact h.ne hL h0
end
end Go.Proofs.Ytdlanbfbbopfhaa.Ax
