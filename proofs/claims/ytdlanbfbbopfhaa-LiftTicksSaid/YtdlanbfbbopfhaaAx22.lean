/- The abstract machine: lists that lie in rows of cells, strings compared, and small laws of counting. -/
import Derived.Test.YtdlanbfbbopfhaaAx21
set_option linter.unusedVariables false
set_option linter.unusedSimpArgs false
namespace Go.Proofs.Ytdlanbfbbopfhaa.Ax
open Go Go.RowKit
theorem ba_beq (s t : ByteArray) : (s == t) = decide (s = t) := by
  show (s.data == t.data) = _
  by_cases h : s = t
  · subst h; simp
  · rw [decide_eq_false h, beq_eq_false_iff_ne]; exact fun e => h (ByteArray.ext e)
theorem ba_bne (s t : ByteArray) : (s != t) = decide (s ≠ t) := by
  show (!(s == t)) = _
  rw [ba_beq]; by_cases h : s = t <;> simp [h]
theorem ba_ne_t {s t : ByteArray} : (s != t) = true ↔ s ≠ t := by rw [ba_bne, decide_eq_true_eq]
theorem ba_ne_f {s t : ByteArray} : (s != t) = false ↔ s = t := by rw [ba_bne, decide_eq_false_iff_not]; simp
theorem ba_eq_t {s t : ByteArray} : (s == t) = true ↔ s = t := by rw [ba_beq, decide_eq_true_eq]
theorem ba_eq_f {s t : ByteArray} : (s == t) = false ↔ s ≠ t := by rw [ba_beq, decide_eq_false_iff_not]
theorem w_succ {k : Nat} (h : k < 9223372036854775807) : IntKind.i64.wrap ((k : Int) + 1) = ((k + 1 : Nat) : Int) := by rw [wrap_i64 (by omega) (by omega)]; omega
theorem take_next {α : Type} {L M : List α} {m : Nat} {x : α} (h : L.take m = M.take m) (hx : L[m]? = some x) (hy : M[m]? = some x) : L.take (m + 1) = M.take (m + 1) := by
  apply List.ext_getElem?
  intro i
  have := congrArg (·[i]?) h
  simp only [List.getElem?_take] at this ⊢
  by_cases hi : i < m
  · simp only [if_pos hi] at this; simpa [if_pos (show i < m + 1 by omega)] using this
  · by_cases hm : i = m
    · subst hm; rw [if_pos (by omega), if_pos (by omega), hx, hy]
    · rw [if_neg (by omega), if_neg (by omega)]
theorem get_lt {α : Type} {L : List α} {m : Nat} (h : m < L.length) : ∃ x, L[m]? = some x := ⟨_, List.getElem?_eq_getElem h⟩
theorem lt_of_get {α : Type} {L : List α} {m : Nat} {x : α} (h : L[m]? = some x) : m < L.length := (List.getElem?_eq_some_iff.1 h).1
/-- A list that lies in a row of cells. -/
def RL {α : Type} (k : Nat) (f : Heap → List Value → α → Prop) (H : Heap) (sv : Value) (L : List α) : Prop :=
  (sv = .slice none 0 0 ∧ L = []) ∨ ∃ b, sv = .slice (some ⟨b, 0, none⟩) L.length k ∧ (L = [] ∨ ∃ m c, H[b]? = some (.cells m c) ∧ ∀ (i : Nat) (x : α), L[i]? = some x → ∃ l, slotsOf c (i * k) k = some l ∧ f H l x)
theorem RL.grow {α : Type} {k : Nat} {f : Heap → List Value → α → Prop} {H H' : Heap} {sv : Value} {L : List α} (hf : ∀ l x, f H l x → f H' l x) (h : RL k f H sv L) (g : Grow H H') : RL k f H' sv L := by
  rcases h with h | ⟨b, h1, h2 | ⟨m, c, h2, h3⟩⟩
  · exact .inl h
  · exact .inr ⟨b, h1, .inl h2⟩
  · exact .inr ⟨b, h1, .inr ⟨m, c, g.at h2, fun i x hx => let ⟨l, h4, h5⟩ := h3 i x hx; ⟨l, h4, hf _ _ h5⟩⟩⟩
theorem RL.len {α : Type} {k : Nat} {f : Heap → List Value → α → Prop} {H : Heap} {sv : Value} {L : List α} (h : RL k f H sv L) {P : Program} {t e : TypeId} (ht : P.underlying t = some (.slice e)) (H' : Heap) : alen P t sv H' = some (.int .i64 L.length) := by
  rcases h with ⟨rfl, rfl⟩ | ⟨b, rfl, _⟩ <;> simp [alen, ht]
theorem RL.at {α : Type} {k : Nat} {f : Heap → List Value → α → Prop} {H : Heap} {sv : Value} {L : List α} (h : RL k f H sv L) {P : Program} {t e : TypeId} (he : sliceElem P t = some e) (hk : tsize P e = some k) {i : Nat} {x : α} (hx : L[i]? = some x) :
    ∃ b c l, aindexAddr P t sv (.int .i64 (i : Int)) = some (.pointer (some ⟨b, i * k, none⟩)) ∧ hblk H b = some c ∧ slotsOf c (i * k) k = some l ∧ f H l x := by
  have hl := (List.getElem?_eq_some_iff.1 hx).1
  rcases h with ⟨rfl, rfl⟩ | ⟨b, rfl, rfl | ⟨m, c, h2, h3⟩⟩
  · simp at hx
  · simp at hx
  · obtain ⟨l, h4, h5⟩ := h3 i x hx
    refine ⟨b, c, l, ?_, hblk_of h2, h4, h5⟩
    rw [idx_slice (off := 0) (k := k) he hk (by omega) (by omega)]
    simp
theorem RL.ofTy {α : Type} {T : Ty α} {f : Heap → List Value → α → Prop} {H : Heap} {c0 : List Value} {x0 : List α} (hf : ∀ l x, T.R H l x → f H l x) (R : (tSlice T).R H c0 x0) : ∃ sv, c0 = [sv] ∧ RL T.sz f H sv x0 := by
  rcases R with ⟨rfl, rfl⟩ | ⟨b, rfl, h⟩
  · exact ⟨_, rfl, .inl ⟨rfl, rfl⟩⟩
  · refine ⟨_, rfl, .inr ⟨b, rfl, ?_⟩⟩
    rcases h with h | ⟨c, h1, h2, h3⟩
    · exact .inl h
    · refine .inr ⟨_, c, h1, fun i x hx => ⟨_, ?_, hf _ _ (h3 i x hx)⟩⟩
      have hl := (List.getElem?_eq_some_iff.1 hx).1
      have : i * T.sz + T.sz ≤ x0.length * T.sz := by rw [← Nat.succ_mul]; exact Nat.mul_le_mul_right _ hl
      exact slots_of (by omega)
/-- An element of one cell. -/
theorem RL.ld1 {α : Type} {f : Heap → List Value → α → Prop} {g : α → Value} (hf : ∀ H l x, f H l x → l = [g x]) {H : Heap} {sv : Value} {L : List α} (h : RL 1 f H sv L) {P : Program} {t e : TypeId} {d : TypeDesc} (he : sliceElem P t = some e) (hk : tsize P e = some 1) (hd : P.underlying e = some d) (ha : isAggD d = false) {i : Nat} {x : α} (hx : L[i]? = some x) :
    ∃ q, aindexAddr P t sv (.int .i64 (i : Int)) = some q ∧ ∀ H', Grow H H' → aload P e q H' = some (g x) := by
  obtain ⟨b, c, l, h1, h2, h3, h4⟩ := h.at he hk hx
  have := hf _ _ _ h4
  subst this
  refine ⟨_, h1, fun H' gr => ald hd ha (gr.hblk h2) ?_⟩
  unfold slotsOf at h3
  split at h3
  · simp only [Option.some.injEq] at h3
    have := congrArg (·[0]?) h3
    simpa [List.getElem?_take, List.getElem?_drop] using this
  · simp at h3
/-- An element of many cells. -/
theorem RL.ldA {α : Type} {k : Nat} {f : Heap → List Value → α → Prop} {H : Heap} {sv : Value} {L : List α} (h : RL k f H sv L) {P : Program} {t e : TypeId} {d : TypeDesc} (he : sliceElem P t = some e) (hk : tsize P e = some k) (hd : P.underlying e = some d) (ha : isAggD d = true) {i : Nat} {x : α} (hx : L[i]? = some x) :
    ∃ q l, aindexAddr P t sv (.int .i64 (i : Int)) = some q ∧ f H l x ∧ ∀ H', Grow H H' → aload P e q H' = some (.agg l.toArray) := by
  obtain ⟨b, c, l, h1, h2, h3, h4⟩ := h.at he hk hx
  exact ⟨_, l, h1, h4, fun H' gr => ald_agg hd ha hk (gr.hblk h2) h3⟩
def strR (_ : Heap) (l : List Value) (x : ByteArray) : Prop := l = [.string x]
theorem strR.grow {H H' : Heap} {sv : Value} {L : List ByteArray} (h : RL 1 strR H sv L) (g : Grow H H') : RL 1 strR H' sv L := RL.grow (fun l x (h : strR H l x) => (h : strR H' l x)) h g
def intR (_ : Heap) (l : List Value) (x : Int) : Prop := l = [.int .i64 x]
theorem intR.grow {H H' : Heap} {sv : Value} {L : List Int} (h : RL 1 intR H sv L) (g : Grow H H') : RL 1 intR H' sv L := RL.grow (fun l x (h : intR H l x) => (h : intR H' l x)) h g
theorem cons_of {c l : List Value} {a : Value} (h1 : c.take 1 = [a]) (h2 : c.drop 1 = l) : c = a :: l := by rw [← List.take_append_drop 1 c, h1, h2]; rfl
/-- A row that is one's own is a list that lies in a row of cells. -/
theorem RL.own {α : Type} {f : Heap → List Value → α → Prop} {g : α → Value} (hf : ∀ H x, f H [g x] x) {H : Heap} {b : Nat} {m : Mode} {L : List α} (hb : H[b]? = some (.cells m (L.map g))) : RL 1 f H (.slice (some ⟨b, 0, none⟩) L.length 1) L := by
  refine .inr ⟨b, rfl, .inr ⟨m, _, hb, fun i x hx => ⟨[g x], ?_, hf H x⟩⟩⟩
  have hl := lt_of_get hx
  rw [slots_of (by simp; omega)]
  congr 1
  apply List.ext_getElem?
  intro j
  rw [List.getElem?_take, List.getElem?_drop]
  cases j with
  | zero => simp [hx]
  | succ j => simp
/-- A new block that is told by its cells. -/
theorem Ob2.lay {x : Option (Value × Heap)} {K : Value → Heap → Prop} {H : Heap} (B : Blk) (v : Value) (h : x = some (v, H ++ [B])) (k : ∀ H', H'[H.length]? = some B → Grow H H' → H'.length = H.length + 1 → K v H') : Ob2 x K :=
  .of h (k _ (at_push _ _) (.push _ _) (by simp))
theorem Ob.load {P : Program} {t : TypeId} {q a : Value} {H : Heap} {K : Value → Prop} (h : aload P t q H = some a) (k : K a) : Ob (aload P t q H) K := ⟨a, h, k⟩
end Go.Proofs.Ytdlanbfbbopfhaa.Ax
