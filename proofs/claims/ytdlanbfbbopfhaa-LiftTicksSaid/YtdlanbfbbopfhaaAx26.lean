/- The abstract machine: rows that are one's own, of elements of some cells: appended to, read and written; what stays, told by the types of rows. -/
import Derived.Test.YtdlanbfbbopfhaaAx25
set_option linter.unusedVariables false
set_option linter.unusedSimpArgs false
namespace Go.Proofs.Ytdlanbfbbopfhaa.Ax
open Go Go.RowKit
structure RowOK (P : Program) (t e : TypeId) (k : Nat) : Prop where
  el : sliceElem P t = some e
  inf : ∃ i, P.info? e = some i ∧ i.size = k ∧ i.bytes ≤ 4096
  und : ∃ d, P.underlying t = some d ∧ noInt d = true
  k0 : k ≠ 0
  zs : ∃ z, tzero P e = some z ∧ z.length = k
/-- No row of a type. -/
def NotRow (e : TypeId) (X : Blk) : Prop := ∀ c, X ≠ .cells (.row e) c
/-- All stays but rows of one type, from a block on. -/
def FrR (n : Nat) (e : TypeId) (A B : Heap) : Prop := A.length ≤ B.length ∧ ∀ q X, A[q]? = some X → q < n ∨ NotRow e X → B[q]? = some X
theorem FrR.refl (n : Nat) (e : TypeId) (A : Heap) : FrR n e A A := ⟨Nat.le_refl _, fun _ _ h _ => h⟩
theorem FrR.trans {n : Nat} {e : TypeId} {A B C : Heap} (h : FrR n e A B) (k : FrR n e B C) : FrR n e A C := ⟨Nat.le_trans h.1 k.1, fun q X hq hx => k.2 q X (h.2 q X hq hx) hx⟩
theorem FrR.of {n : Nat} {e : TypeId} {A B : Heap} (h : Grow A B) : FrR n e A B := ⟨h.1, fun q X hq _ => h.at hq⟩
theorem FrR.grow {n : Nat} {e : TypeId} {A0 A B : Heap} (g : Grow A0 A) (h : FrR n e A B) (hn : A0.length ≤ n) : Grow A0 B :=
  ⟨Nat.le_trans g.1 h.1, fun q hq => by
    have h1 := g.2 q hq
    cases hx : A[q]? with
    | none => have := List.getElem?_eq_none_iff.1 hx; have := g.1; omega
    | some X => rw [← h1, hx]; exact h.2 q X hx (.inl (by omega))⟩
/-- A list that lies in a row that is one's own. -/
def OwnR {α : Type} (k : Nat) (e : TypeId) (f : Heap → List Value → α → Prop) (H : Heap) (sv : Value) (L : List α) : Prop :=
  (sv = .slice none 0 0 ∧ L = []) ∨ ∃ b c, sv = .slice (some ⟨b, 0, none⟩) L.length k ∧ H[b]? = some (.cells (.row e) c) ∧ c.length = L.length * k ∧ ∀ (i : Nat) x, L[i]? = some x → ∃ l, slotsOf c (i * k) k = some l ∧ f H l x
theorem OwnR.rl {α : Type} {k : Nat} {e : TypeId} {f : Heap → List Value → α → Prop} {H : Heap} {sv : Value} {L : List α} (h : OwnR k e f H sv L) : RL k f H sv L := by
  rcases h with h | ⟨b, c, h1, h2, h3, h4⟩
  · exact .inl h
  · exact .inr ⟨b, h1, .inr ⟨_, c, h2, h4⟩⟩
theorem OwnR.form {α : Type} {k : Nat} {e : TypeId} {f : Heap → List Value → α → Prop} {H : Heap} {sv : Value} {L : List α} (h : OwnR k e f H sv L) : ∃ a n m, sv = .slice a n m := by
  rcases h with ⟨h, _⟩ | ⟨b, c, h, _⟩ <;> exact ⟨_, _, _, h⟩
/-- Where it lies. -/
def blkIs (sv : Value) (b : Nat) : Prop := ∃ n k, sv = .slice (some ⟨b, 0, none⟩) n k
theorem OwnR.keep {α : Type} {k : Nat} {e : TypeId} {f : Heap → List Value → α → Prop} {H H' : Heap} {sv : Value} {L : List α} (h : OwnR k e f H sv L) (hb : ∀ b c, blkIs sv b → H[b]? = some (.cells (.row e) c) → H'[b]? = some (.cells (.row e) c)) (hf : ∀ l x, x ∈ L → f H l x → f H' l x) : OwnR k e f H' sv L := by
  rcases h with h | ⟨b, c, h1, h2, h3, h4⟩
  · exact .inl h
  · exact .inr ⟨b, c, h1, hb b c ⟨_, _, h1⟩ h2, h3, fun i x hx => let ⟨l, k1, k2⟩ := h4 i x hx; ⟨l, k1, hf l x (List.mem_of_getElem? hx) k2⟩⟩
theorem OwnR.keepR {α : Type} {k n : Nat} {e e' : TypeId} {f : Heap → List Value → α → Prop} {H H' : Heap} {sv : Value} {L : List α} (h : OwnR k e f H sv L) (hF : FrR n e' H H') (hne : e ≠ e') (hf : ∀ l x, x ∈ L → f H l x → f H' l x) : OwnR k e f H' sv L :=
  h.keep (fun b c _ hb => hF.2 b _ hb (.inr fun c' e1 => by simp only [Blk.cells.injEq, Mode.row.injEq] at e1; exact hne e1.1)) hf
theorem slots_app {c l : List Value} {i k n : Nat} (hc : c.length = n * k) (hl : l.length = k) : (∀ j w, j < n → slotsOf c (j * k) k = some w → slotsOf (c ++ l) (j * k) k = some w) ∧ slotsOf (c ++ l) (n * k) k = some l := by
  refine ⟨fun j w hj hw => ?_, ?_⟩
  · have hle : j * k + k ≤ c.length := by rw [hc, ← Nat.succ_mul]; exact Nat.mul_le_mul_right _ hj
    rw [slots_of (by rw [List.length_append]; omega)]
    rw [slots_of hle] at hw
    rw [← hw]
    congr 1
    rw [List.drop_append_of_le_length (by omega), List.take_append_of_le_length (by rw [List.length_drop]; omega)]
  · rw [slots_of (by rw [List.length_append]; omega), List.drop_append_of_le_length (by omega), List.drop_of_length_le (by omega), List.nil_append, List.take_of_length_le (by omega)]
/-- One element more. -/
theorem OwnR.append {α : Type} {P : Program} {t tx e : TypeId} {k n : Nat} (ok : RowOK P t e k) (okx : RowOK P tx e k) {f : Heap → List Value → α → Prop} {H : Heap} {sv : Value} {L : List α} {x : α} {l : List Value} {m2 : Mode} {b2 : Nat} (h : OwnR k e f H sv L)
    (hb2 : H[b2]? = some (.cells m2 l)) (hl : l.length = k) (hx : f H l x) (hsv : ∀ b, blkIs sv b → n ≤ b) (hn : n ≤ H.length) (hL : L.length ≤ 1000000) (hf : ∀ A B, FrR n e A B → ∀ l x, f A l x → f B l x) :
    ∃ H', aappend P t tx sv (.slice (some ⟨b2, 0, none⟩) 1 k) H = some (.slice (some ⟨H.length, 0, none⟩) (L.length + 1) k, H') ∧ OwnR k e f H' (.slice (some ⟨H.length, 0, none⟩) (L.length + 1) k) (L ++ [x]) ∧ FrR n e H H' ∧ ∀ q X, H[q]? = some X → ¬ blkIs sv q → H'[q]? = some X := by
  obtain ⟨he, ⟨i, hi, hk, hby⟩, ⟨d, hd, hni⟩, h0, ⟨z, hz, hzl⟩⟩ := ok
  obtain ⟨_, _, ⟨dx, hdx, hnx⟩, _, _⟩ := okx
  have hsrc : asrc k (.slice (some ⟨b2, 0, none⟩) 1 k) H = some (1, l) := src_some (off := 0) (by decide) (hblk_of hb2) (by rw [Nat.one_mul, slots_of (by omega), List.drop_zero, List.take_of_length_le (by omega)])
  rcases h with ⟨rfl, rfl⟩ | ⟨b, c, rfl, h2, h3, h4⟩
  · refine ⟨H ++ [.cells (.row e) l], ?_, .inr ⟨H.length, l, rfl, at_push _ _, by simp [hl], fun i x' hx' => ?_⟩, .of (.push _ _), fun q X hq _ => (Grow.push _ _).at hq⟩
    · exact append_nil (n := 1) he hi hk hdx hnx h0 (by simp [srcOk]) hz hzl hsrc (by decide) (by omega) (by unfold maxLen; omega)
    · cases i with
      | zero =>
        simp only [List.nil_append, List.getElem?_cons_zero, Option.some.injEq] at hx'
        subst hx'
        exact ⟨l, by rw [Nat.zero_mul, slots_of (by omega), List.drop_zero, List.take_of_length_le (by omega)], hf _ _ (.of (.push _ _)) _ _ hx⟩
      | succ i => simp at hx'
  · have hold : slotsOf c 0 (L.length * k) = some c := by rw [slots_of (by omega), List.drop_zero, List.take_of_length_le (by omega)]
    have hfr : FrR n e H (H.set b .dead ++ [.cells (.row e) (c ++ l)]) := by
      refine ⟨by simp, fun q X hq hX => ?_⟩
      have hqb : q ≠ b := by
        rintro rfl
        rcases hX with hX | hX
        · have := hsv q ⟨_, _, rfl⟩; omega
        · rw [h2] at hq; simp only [Option.some.injEq] at hq; exact hX c hq.symm
      rw [List.getElem?_append_left (by simpa using lt_at hq), List.getElem?_set_ne (by omega)]
      exact hq
    refine ⟨H.set b .dead ++ [.cells (.row e) (c ++ l)], ?_, .inr ⟨H.length, c ++ l, by rw [List.length_append]; rfl, ?_, by rw [List.length_append, List.length_append, h3, hl, List.length_singleton, Nat.succ_mul], fun i x' hx' => ?_⟩, hfr, fun q X hq hb => ?_⟩
    · refine append_row he hi hk hdx hnx h0 (by simp [srcOk]) hz hzl hsrc (by decide) h2 hold ?_ (by unfold maxLen; omega)
      have : (L.length + 1) * i.bytes ≤ 1000001 * 4096 := Nat.mul_le_mul (by omega) hby
      omega
    · rw [List.getElem?_append_right (by simp), List.length_set, Nat.sub_self]; rfl
    rotate_left
    · have hqb : q ≠ b := by rintro rfl; exact hb ⟨_, _, rfl⟩
      rw [List.getElem?_append_left (by simpa using lt_at hq), List.getElem?_set_ne (by omega)]
      exact hq
    · by_cases hi' : i < L.length
      · rw [List.getElem?_append_left hi'] at hx'
        obtain ⟨w, k1, k2⟩ := h4 i x' hx'
        exact ⟨w, (slots_app h3 hl (i := 0)).1 i w hi' k1, hf _ _ hfr _ _ k2⟩
      · have hil : i = L.length := by
          have := lt_of_get hx'
          simp at this; omega
        subst hil
        rw [List.getElem?_append_right (by omega), Nat.sub_self] at hx'
        simp only [List.getElem?_cons_zero, Option.some.injEq] at hx'
        subst hx'
        exact ⟨l, (slots_app h3 hl (i := 0)).2, hf _ _ hfr _ _ hx⟩
end Go.Proofs.Ytdlanbfbbopfhaa.Ax
