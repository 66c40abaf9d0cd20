/- The document's dict in abstract memory. -/
import Derived.Test.YtnmfmgnkfkhdhaaDi10
set_option linter.unusedVariables false
set_option linter.unusedSimpArgs false
set_option maxRecDepth 20000
set_option maxHeartbeats 1000000
namespace Go.Proofs.Ytnmfmgnkfkhdhaa
open Go Ax
def valsC (L : List V) : List Value := L.flatMap valC
theorem valsC_len (L : List V) : (valsC L).length = L.length * 3 := by
  induction L with
  | nil => rfl
  | cons x L ih =>
    have : valsC (x :: L) = valC x ++ valsC L := by simp [valsC]
    rw [this, List.length_append, ih, List.length_cons]; simp; omega
theorem valsC_get : ∀ (L : List V) (q : Nat), (valsC L)[q]? = (L[q / 3]?).bind fun x => (valC x)[q % 3]? := by
  intro L
  induction L with
  | nil => intro q; simp [valsC]
  | cons x L ih =>
    intro q
    have h : valsC (x :: L) = valC x ++ valsC L := by simp [valsC]
    rw [h]
    by_cases hq : q < 3
    · rw [List.getElem?_append_left (by simpa using hq), show q / 3 = 0 by omega, show q % 3 = q by omega]
      rfl
    · rw [List.getElem?_append_right (by simp; omega), show q - (valC x).length = q - 3 from rfl, ih, show q / 3 = (q - 3) / 3 + 1 by omega, show (q - 3) % 3 = q % 3 by omega]
      rfl
theorem vals_slots {L : List V} {i : Nat} {v : V} (h : L[i]? = some v) : slotsOf (valsC L) (i * 3) 3 = some (valC v) := by
  have hl := (List.getElem?_eq_some_iff.1 h).1
  rw [slots_of (by rw [valsC_len]; omega)]
  congr 1
  apply List.ext_getElem?
  intro j
  rw [List.getElem?_take]
  split
  · rename_i hj
    rw [List.getElem?_drop, valsC_get, show (i * 3 + j) / 3 = i by omega, show (i * 3 + j) % 3 = j by omega, h]
    rfl
  · rename_i hj; rw [List.getElem?_eq_none (by simp; omega)]
theorem vals_put {L : List V} {i : Nat} (v : V) (h : i < L.length) : putL (valsC L) (i * 3) (valC v) = valsC (L.set i v) := by
  apply List.ext_getElem?
  intro q
  rw [putL_get]
  have hl := valsC_len L
  rw [valsC_get, valsC_get]
  by_cases hi : q / 3 = i
  · rw [if_pos ⟨by omega, by simp; omega, by omega⟩, hi, List.getElem?_set_self h, show q - i * 3 = q % 3 by omega]; rfl
  · rw [if_neg (by simp; omega), List.getElem?_set_ne (fun e => hi e.symm)]
def Vals (H : Heap) (v : Value) (L : List V) : Prop :=
  (v = .slice none 0 0 ∧ L = []) ∨ ∃ g, v = .slice (some ⟨g, 0, none⟩) L.length 3 ∧ L ≠ [] ∧ H[g]? = some (.cells (.row 32) (valsC L))
theorem Vals.grow {H H' : Heap} {v : Value} {L : List V} (h : Vals H v L) (k : Grow H H') : Vals H' v L := by
  rcases h with h | ⟨g, h1, h2, h3⟩
  · exact .inl h
  · exact .inr ⟨g, h1, h2, k.at h3⟩
theorem Vals.keep {H H' : Heap} {v : Value} {L : List V} (h : Vals H v L) (k : ∀ (b : Nat) (c : List Value), H[b]? = some (.cells (.row 32) c) → H'[b]? = some (.cells (.row 32) c)) : Vals H' v L := by
  rcases h with h | ⟨g, h1, h2, h3⟩
  · exact .inl h
  · exact .inr ⟨g, h1, h2, k _ _ h3⟩
theorem Strs.keep {H H' : Heap} {v : Value} {L : List ByteArray} (h : Strs H v L) (k : ∀ (b : Nat) (c : List Value), H[b]? = some (.cells (.row 9) c) → H'[b]? = some (.cells (.row 9) c)) : Strs H' v L := by
  rcases h with h | ⟨g, h1, h2, h3⟩
  · exact .inl h
  · exact .inr ⟨g, h1, h2, k _ _ h3⟩
theorem Vals.cells {H : Heap} {v : Value} {L : List V} (h : Vals H v L) : vcells v = some [v] := by rcases h with ⟨rfl, _⟩ | ⟨g, rfl, _⟩ <;> rfl
theorem app_val {H : Heap} {v : Value} {L : List V} (x : V) (h : Vals H v L) (hl : L.length ≤ 1000000) :
    ∃ q H1 v' H2, abuildSlice Try.prog 27 1 [(0, valV x)] H = some (.slice (some ⟨q, 0, none⟩) 1 3, H1) ∧ Grow H H1 ∧ aappend Try.prog 27 27 v (.slice (some ⟨q, 0, none⟩) 1 3) H1 = some (v', H2) ∧ Vals H2 v' (L ++ [x]) ∧ H.length ≤ H2.length ∧
      (∀ (k : Nat) (B : Blk), H[k]? = some B → (∀ c, B ≠ .cells (.row 32) c) → H2[k]? = some B) ∧ (∀ (k : Nat) (B : Blk), H[k]? = some B → (∀ g n e, v = .slice (some ⟨g, 0, none⟩) n e → k ≠ g) → H2[k]? = some B) ∧ ∀ g n e, v' = .slice (some ⟨g, 0, none⟩) n e → H.length ≤ g := by
  have hq : (H ++ [Blk.cells (.row 32) (valC x)])[H.length]? = some (.cells (.row 32) (valC x)) := at_push _ _
  have hsrc : asrc 3 (.slice (some ⟨H.length, 0, none⟩) 1 3) (H ++ [Blk.cells (.row 32) (valC x)]) = some (1, valC x) := src_some (by decide) (hblk_of hq) rfl
  have g := Grow.push H [Blk.cells (.row 32) (valC x)]
  rcases h with ⟨rfl, rfl⟩ | ⟨b, rfl, h2, h3⟩
  · exact ⟨_, _, _, _, rfl, g, append_nil (k := 3) (e := 32) (zs := valC zeroV) rfl rfl rfl rfl rfl (by decide) rfl rfl rfl hsrc (by decide) (by decide) (by decide), .inr ⟨_, rfl, by simp, at_push _ _⟩, by simp, fun k B hk _ => (Grow.push _ _).at (g.at hk), fun k B hk _ => (Grow.push _ _).at (g.at hk), fun g n e hv => by cases hv; simp⟩
  · have hb := g.at h3
    have ho : slotsOf (valsC L) 0 (L.length * 3) = some (valsC L) := by
      rw [slots_of (by rw [valsC_len]; omega), List.drop_zero, List.take_of_length_le (by rw [valsC_len]; omega)]
    refine ⟨_, _, _, _, rfl, g, append_row (k := 3) (e := 32) (zs := valC zeroV) rfl rfl rfl rfl rfl (by decide) rfl rfl rfl hsrc (by decide) hb ho (show (L.length + 1) * 32 ≤ _ by omega) (by simp only [maxLen]; omega), .inr ⟨(H ++ [Blk.cells (.row 32) (valC x)]).length, by simp, by simp, ?_⟩, by simp; omega, fun k B hk hn => ?_, fun k B hk hn => ?_, fun g n e hv => by cases hv; simp⟩
    · rw [List.getElem?_append_right (by simp)]
      simp [valsC]
    · have := g.at hk
      rw [List.getElem?_append_left (by rw [List.length_set]; exact lt_at this), List.getElem?_set_ne (by rintro rfl; rw [h3] at hk; simp only [Option.some.injEq] at hk; exact hn _ hk.symm)]
      exact this
    · have := g.at hk
      rw [List.getElem?_append_left (by rw [List.length_set]; exact lt_at this), List.getElem?_set_ne (Ne.symm (hn b _ _ rfl))]
      exact this
def RD (H : Heap) (q : Nat) (L : List (ByteArray × V)) : Prop := ∃ nv vv, H[q]? = some (.cells .var [nv, vv]) ∧ Strs H nv (L.map Prod.fst) ∧ Vals H vv (L.map Prod.snd)
def keepR : Blk → Bool
  | .cells (.row e) _ => !Nat.beq e 9 && !Nat.beq e 32
  | _ => true
def FootR (H : Heap) (q k : Nat) : Prop := ∃ nv vv, H[q]? = some (.cells .var [nv, vv]) ∧ ((∃ n e, nv = .slice (some ⟨k, 0, none⟩) n e) ∨ ∃ n e, vv = .slice (some ⟨k, 0, none⟩) n e)
def FrR (q : Nat) (H H' : Heap) : Prop := H.length ≤ H'.length ∧ (∀ (k : Nat) (B : Blk), H[k]? = some B → k ≠ q → ¬ FootR H q k → H'[k]? = some B) ∧ ∀ k, k < H.length → FootR H' q k → FootR H q k
theorem FrR.refl (p : Nat) (H : Heap) : FrR p H H := ⟨Nat.le_refl _, fun _ _ h _ _ => h, fun _ _ h => h⟩
theorem FrR.trans {p : Nat} {A B C : Heap} (h : FrR p A B) (k : FrR p B C) : FrR p A C :=
  ⟨Nat.le_trans h.1 k.1, fun i b hb hp hn => k.2.1 i b (h.2.1 i b hb hp hn) hp fun hf => hn (h.2.2 i (lt_at hb) hf), fun i hi hf => h.2.2 i hi (k.2.2 i (Nat.lt_of_lt_of_le hi h.1) hf)⟩
theorem FrR.of {q : Nat} {nv vv nv' vv' : Value} {H H' : Heap} (g : H[q]? = some (.cells .var [nv, vv])) (f : FrS (fun k => k = q ∨ FootR H q k) H H') (g' : H'[q]? = some (.cells .var [nv', vv']))
    (h1 : ∀ (k n e : Nat), nv' = .slice (some ⟨k, 0, none⟩) n e → k < H.length → FootR H q k) (h2 : ∀ (k n e : Nat), vv' = .slice (some ⟨k, 0, none⟩) n e → k < H.length → FootR H q k) : FrR q H H' := by
  refine ⟨f.1, fun k B hk hp hn => f.2 k B hk fun hs => hs.elim hp hn, fun k hk hf => ?_⟩
  obtain ⟨nv2, vv2, e1, e2⟩ := hf
  rw [g'] at e1
  simp only [Option.some.injEq, Blk.cells.injEq, List.cons.injEq, and_true, true_and] at e1
  obtain ⟨rfl, rfl⟩ := e1
  rcases e2 with ⟨n, e, e2⟩ | ⟨n, e, e2⟩
  · exact h1 k n e e2 hk
  · exact h2 k n e e2 hk
theorem FrR.begin {q : Nat} {H K H' : Heap} (g : Grow H K) (hq : q < H.length) (f : FrR q K H') : FrR q H H' := by
  have e := g.2 q hq
  refine ⟨Nat.le_trans g.1 f.1, fun k B hk hkp hn => f.2.1 k B (g.at hk) hkp fun ⟨nv, vv, h1, h2⟩ => hn ⟨nv, vv, by rw [← e]; exact h1, h2⟩, fun k hk hf => ?_⟩
  obtain ⟨nv, vv, h1, h2⟩ := f.2.2 k (Nat.lt_of_lt_of_le hk g.1) hf
  exact ⟨nv, vv, by rw [← e]; exact h1, h2⟩
theorem RD.keepF {H H' : Heap} {q : Nat} {L : List (ByteArray × V)} (h : RD H q L) (f : FrR q H H') {k : Nat} {B : Blk} (hk : H[k]? = some B) (hq : k ≠ q) (hB : keepR B = true) : H'[k]? = some B := by
  refine f.2.1 k B hk hq fun ⟨nv', vv', h1, h2⟩ => ?_
  obtain ⟨nv, vv, g1, g2, g3⟩ := h
  rw [g1] at h1
  simp only [Option.some.injEq, Blk.cells.injEq, List.cons.injEq, and_true, true_and] at h1
  obtain ⟨rfl, rfl⟩ := h1
  rcases h2 with ⟨n, e, rfl⟩ | ⟨n, e, rfl⟩
  · rcases g2 with ⟨h, _⟩ | ⟨b, h, _, g5⟩
    · cases h
    · cases h
      rw [g5] at hk
      simp only [Option.some.injEq] at hk
      subst hk
      simp [keepR] at hB
  · rcases g3 with ⟨h, _⟩ | ⟨b, h, _, g5⟩
    · cases h
    · cases h
      rw [g5] at hk
      simp only [Option.some.injEq] at hk
      subst hk
      simp [keepR] at hB
theorem RD.grow {H H' : Heap} {q : Nat} {L : List (ByteArray × V)} (h : RD H q L) (k : Grow H H') : RD H' q L := by
  obtain ⟨nv, vv, h1, h2, h3⟩ := h
  exact ⟨nv, vv, k.at h1, h2.grow k, h3.grow k⟩
theorem RD.lt {H : Heap} {q : Nat} {L : List (ByteArray × V)} (h : RD H q L) : q < H.length := by obtain ⟨nv, vv, h1, _⟩ := h; exact lt_at h1
theorem RD.var {H : Heap} {q : Nat} {L : List (ByteArray × V)} (h : RD H q L) : ∃ c, H[q]? = some (.cells .var c) := by obtain ⟨nv, vv, h1, _⟩ := h; exact ⟨_, h1⟩
theorem Has9.var {H : Heap} {p : Nat} {L : List (ByteArray × V)} {N : Nat} (h : Has9 H p L N) : ∃ c, H[p]? = some (.cells .var c) := by obtain ⟨ps, ⟨mb, sv, em, h1, _⟩, _⟩ := h; exact ⟨_, h1⟩
/-- What the dict's calls leave. -/
theorem Has9.keepF {H H' : Heap} {p N : Nat} {L : List (ByteArray × V)} (h : Has9 H p L N) (f : FrD p H H') {k : Nat} {B : Blk} (hk : H[k]? = some B) (hp : k ≠ p) (hB : keepD B = true) : H'[k]? = some B := by obtain ⟨ps, h1, _⟩ := h; exact h1.keepF f hk hp hB
theorem RD.frD {H H' : Heap} {p q N : Nat} {L M : List (ByteArray × V)} (h : RD H q L) (f : FrD p H H') (hne : q ≠ p) (hd : Has9 H p M N) : RD H' q L := by
  obtain ⟨nv, vv, h1, h2, h3⟩ := h
  obtain ⟨c0, hp⟩ := hd.var
  exact ⟨nv, vv, hd.keepF f h1 hne rfl, h2.keep fun b c hb => hd.keepF f hb (by rintro rfl; rw [hp] at hb; simp at hb) (by rfl), h3.keep fun b c hb => hd.keepF f hb (by rintro rfl; rw [hp] at hb; simp at hb) (by rfl)⟩
theorem Has9.frR {H H' : Heap} {p q : Nat} {L : List (ByteArray × V)} {N : Nat} (h : Has9 H p L N) {M : List (ByteArray × V)} (f : FrR q H H') (hne : p ≠ q) (hr : RD H q M) : Has9 H' p L N := by
  obtain ⟨c0, hq⟩ := hr.var
  obtain ⟨c1, hp⟩ := h.var
  refine h.keep (fun B hB => hr.keepF f hB hne ?_) (fun b es hb => hr.keepF f hb (by rintro rfl; rw [hq] at hb; cases hb) rfl) fun b c hb => hr.keepF f hb (by rintro rfl; rw [hq] at hb; simp at hb) (by rfl)
  rw [hp] at hB
  simp only [Option.some.injEq] at hB
  subst hB
  rfl
end Go.Proofs.Ytnmfmgnkfkhdhaa
