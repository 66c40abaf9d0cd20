/- The abstract machine: small laws that a walk uses: loads, stores, new blocks, indexes. -/
import Derived.Test.YtdlanbfbbopfhaaAx14
set_option linter.unusedVariables false
set_option linter.unusedSimpArgs false
namespace Go.Proofs.Ytdlanbfbbopfhaa.Ax
open Go Go.RowKit

theorem hblk_of {H : Heap} {b : Nat} {m : Mode} {c : List Value} (h : H[b]? = some (.cells m c)) : hblk H b = some c := by simp [hblk, h]
theorem hblk_some {H : Heap} {b : Nat} {c : List Value} (h : hblk H b = some c) : ∃ m, H[b]? = some (.cells m c) := by
  unfold hblk at h
  split at h
  · rename_i m c' he; simp only [Option.some.injEq] at h; subst h; exact ⟨m, he⟩
  · simp at h
theorem ald {P : Program} {t : TypeId} {b off : Nat} {H : Heap} {d : TypeDesc} {c : List Value} {v : Value} (hd : P.underlying t = some d) (ha : isAggD d = false) (hb : hblk H b = some c) (hv : c[off]? = some v) :
    aload P t (.pointer (some ⟨b, off, none⟩)) H = some v := by simp [aload, hb, hd, ha, hv]
theorem ald_agg {P : Program} {t : TypeId} {b off n : Nat} {H : Heap} {d : TypeDesc} {c l : List Value} (hd : P.underlying t = some d) (ha : isAggD d = true) (hn : tsize P t = some n) (hb : hblk H b = some c) (hv : slotsOf c off n = some l) :
    aload P t (.pointer (some ⟨b, off, none⟩)) H = some (.agg l.toArray) := by simp [aload, hb, hd, ha, hn, hv]
theorem slots_of {c : List Value} {off n : Nat} (h : off + n ≤ c.length) : slotsOf c off n = some ((c.drop off).take n) := by simp [slotsOf, h]

/-- A store: what becomes of the heap. -/
theorem ast {P : Program} {t : TypeId} {b off n : Nat} {H : Heap} {m : Mode} {c vs : List Value} {v : Value} (hv : vcells v = some vs) (hn : tsize P t = some n) (hl : vs.length = n) (hb : H[b]? = some (.cells m c)) (hm : m.own = true) (hle : off + vs.length ≤ c.length) :
    astore P t (.pointer (some ⟨b, off, none⟩)) v H = some (H.set b (.cells m (putL c off vs))) := by
  simp [astore, hv, hn, hl, hput, hb, hm]
  omega
/-- What is left of the heap but for one block. -/
def But (p : Nat) (H H' : Heap) : Prop := H.length ≤ H'.length ∧ ∀ b, b < H.length → b ≠ p → H'[b]? = H[b]?
theorem But.refl (p : Nat) (H : Heap) : But p H H := ⟨Nat.le_refl _, fun _ _ _ => rfl⟩
theorem But.trans {p : Nat} {A B C : Heap} (h : But p A B) (k : But p B C) : But p A C := ⟨Nat.le_trans h.1 k.1, fun b hb hne => (k.2 b (Nat.lt_of_lt_of_le hb h.1) hne).trans (h.2 b hb hne)⟩
theorem But.set {p : Nat} (H : Heap) (B : Blk) : But p H (H.set p B) := ⟨by simp, fun b hb hne => by rw [List.getElem?_set_ne (by omega)]⟩
theorem But.push {p : Nat} (H T : Heap) : But p H (H ++ T) := ⟨by simp, fun b hb hne => by rw [List.getElem?_append_left hb]⟩
theorem But.at {p : Nat} {H H' : Heap} (h : But p H H') {b : Nat} {B : Blk} (hb : H[b]? = some B) (hne : b ≠ p) : H'[b]? = some B := (h.2 b (List.getElem?_eq_some_iff.1 hb).1 hne).trans hb
/-- New blocks alone. -/
def Grow (H H' : Heap) : Prop := H.length ≤ H'.length ∧ ∀ b, b < H.length → H'[b]? = H[b]?
theorem Grow.refl (H : Heap) : Grow H H := ⟨Nat.le_refl _, fun _ _ => rfl⟩
theorem Grow.trans {A B C : Heap} (h : Grow A B) (k : Grow B C) : Grow A C := ⟨Nat.le_trans h.1 k.1, fun b hb => (k.2 b (Nat.lt_of_lt_of_le hb h.1)).trans (h.2 b hb)⟩
theorem Grow.push (H T : Heap) : Grow H (H ++ T) := ⟨by simp, fun b hb => by rw [List.getElem?_append_left hb]⟩
theorem Grow.at {H H' : Heap} (h : Grow H H') {b : Nat} {B : Blk} (hb : H[b]? = some B) : H'[b]? = some B := (h.2 b (List.getElem?_eq_some_iff.1 hb).1).trans hb
theorem Grow.but {H H' : Heap} (h : Grow H H') (p : Nat) : But p H H' := ⟨h.1, fun b hb _ => h.2 b hb⟩
theorem Grow.take {H H' : Heap} (h : Grow H H') : ∃ T, H' = H ++ T := by
  refine ⟨H'.drop H.length, ?_⟩
  apply List.ext_getElem?
  intro i
  by_cases hi : i < H.length
  · rw [List.getElem?_append_left hi]; exact h.2 i hi
  · rw [List.getElem?_append_right (by omega), List.getElem?_drop]; congr 1; omega
theorem Grow.set {H H' : Heap} (h : Grow H H') {b : Nat} (hb : H.length ≤ b) (B : Blk) : Grow H (H'.set b B) := ⟨by simp [h.1], fun c hc => by rw [List.getElem?_set_ne (by omega)]; exact h.2 c hc⟩
theorem Grow.kept {H H' : Heap} (h : Grow H H') : RoExt H H' := fun b c hb => h.at hb

theorem at_push (H : Heap) (B : Blk) : (H ++ [B])[H.length]? = some B := by simp
theorem at_set {H : Heap} {b : Nat} {B C : Blk} (h : H[b]? = some B) : (H.set b C)[b]? = some C := List.getElem?_set_self (List.getElem?_eq_some_iff.1 h).1

/-- A call's answer is plain, and it lays new blocks alone: then the heap is as it was. -/
theorem AX.quiet {P : Program} {f : FuncId} {args : Array Value} {H : Heap} {Q : Value → Prop} (h : AX P f args H fun v H' => plain v ∧ Q v ∧ Grow H H') : AX P f args H fun v H' => Q v ∧ H' = H :=
  (h.mono fun v H' ⟨h1, h2, h3⟩ => ⟨h1, h2, h3.take⟩).forget

theorem idx_slice {P : Program} {t e : TypeId} {b off len es k : Nat} {kd : IntKind} {n : Int} (he : sliceElem P t = some e) (hk : tsize P e = some k) (h0 : 0 ≤ n) (h1 : n < (len : Int)) :
    aindexAddr P t (.slice (some ⟨b, off, none⟩) len es) (.int kd n) = some (.pointer (some ⟨b, off + n.toNat * k, none⟩)) := by simp [aindexAddr, he, hk, h0, h1]
theorem idx_array {P : Program} {t e : TypeId} {b off len k : Nat} {kd : IntKind} {n : Int} (he : arrayOf P t = some (len, e)) (hk : tsize P e = some k) (h0 : 0 ≤ n) (h1 : n < (len : Int)) :
    aindexAddr P t (.pointer (some ⟨b, off, none⟩)) (.int kd n) = some (.pointer (some ⟨b, off + n.toNat * k, none⟩)) := by simp [aindexAddr, he, hk, h0, h1]

theorem ex20 (a b : Value) : aextract (.tuple #[a, b]) 0 = some a := rfl
theorem ex21 (a b : Value) : aextract (.tuple #[a, b]) 1 = some b := rfl
theorem ex30 (a b c : Value) : aextract (.tuple #[a, b, c]) 0 = some a := rfl
theorem ex31 (a b c : Value) : aextract (.tuple #[a, b, c]) 1 = some b := rfl
theorem ex32 (a b c : Value) : aextract (.tuple #[a, b, c]) 2 = some c := rfl
end Go.Proofs.Ytdlanbfbbopfhaa.Ax
