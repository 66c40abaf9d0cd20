/- The abstract machine: steps of a walk that name the heap they leave; slices of slices. -/
import Derived.Test.YtdlanbfbbopfhaaAx15
set_option linter.unusedVariables false
set_option linter.unusedSimpArgs false
namespace Go.Proofs.Ytdlanbfbbopfhaa.Ax
open Go Go.RowKit

theorem Ob2.allocM {P : Program} {t : TypeId} {H : Heap} {zs : List Value} {K : Value → Heap → Prop} (m : Mode) (hz : tzero P t = some zs) (hm : modeOf P t zs.length = m)
    (k : ∀ q H', q = H.length → H'[q]? = some (.cells m zs) → Grow H H' → K (.pointer (some ⟨q, 0, none⟩)) H') : Ob2 (aalloc P t H) K :=
  .of (a := .pointer (some ⟨H.length, 0, none⟩)) (b := H ++ [.cells m zs]) (by simp [aalloc, hz, hm]) (k _ _ rfl (at_push _ _) (.push _ _))
theorem Ob2.boxM {P : Program} {t : TypeId} {v : Value} {H : Heap} {zs : List Value} {K : Value → Heap → Prop} (m : Mode) (hz : vcells v = some zs) (hm : modeOf P t zs.length = m)
    (k : ∀ q H', q = H.length → H'[q]? = some (.cells m zs) → Grow H H' → K (.pointer (some ⟨q, 0, none⟩)) H') : Ob2 (abox P t v H) K :=
  .of (a := .pointer (some ⟨H.length, 0, none⟩)) (b := H ++ [.cells m zs]) (by simp [abox, hz, hm]) (k _ _ rfl (at_push _ _) (.push _ _))
theorem modeOf_var {P : Program} {t : TypeId} (h : typed P t = false) (n : Nat) : modeOf P t n = .var := by simp [modeOf, h]
theorem Ob2.alloc {P : Program} {t : TypeId} {H : Heap} {zs : List Value} {K : Value → Heap → Prop} (hz : tzero P t = some zs)
    (k : ∀ q H', q = H.length → H'[q]? = some (.cells .var zs) → Grow H H' → K (.pointer (some ⟨q, 0, none⟩)) H') (hm : typed P t = false := by rfl) : Ob2 (aalloc P t H) K := .allocM .var hz (modeOf_var hm _) k
theorem Ob2.box {P : Program} {t : TypeId} {v : Value} {H : Heap} {zs : List Value} {K : Value → Heap → Prop} (hz : vcells v = some zs)
    (k : ∀ q H', q = H.length → H'[q]? = some (.cells .var zs) → Grow H H' → K (.pointer (some ⟨q, 0, none⟩)) H') (hm : typed P t = false := by rfl) : Ob2 (abox P t v H) K := .boxM .var hz (modeOf_var hm _) k
theorem Ob.store {P : Program} {t : TypeId} {b off n : Nat} {H : Heap} {m : Mode} {c vs : List Value} {v : Value} {K : Heap → Prop} (hv : vcells v = some vs) (hn : tsize P t = some n) (hl : vs.length = n) (hb : H[b]? = some (.cells m c)) (hm : m.own = true) (hle : off + vs.length ≤ c.length)
    (k : ∀ H', H'[b]? = some (.cells m (putL c off vs)) → But b H H' → H'.length = H.length → K H') : Ob (astore P t (.pointer (some ⟨b, off, none⟩)) v H) K :=
  .of (ast hv hn hl hb hm hle) (k _ (at_set hb) (.set _ _) (by simp))
theorem store_ex {P : Program} {t : TypeId} {b off n : Nat} {H : Heap} {m : Mode} {c vs : List Value} {v : Value} (hv : vcells v = some vs) (hn : tsize P t = some n) (hl : vs.length = n) (hb : H[b]? = some (.cells m c)) (hm : m.own = true) (hle : off + vs.length ≤ c.length) :
    ∃ H', astore P t (.pointer (some ⟨b, off, none⟩)) v H = some H' ∧ H'[b]? = some (.cells m (putL c off vs)) ∧ But b H H' ∧ H'.length = H.length := ⟨_, ast hv hn hl hb hm hle, at_set hb, .set _ _, by simp⟩
theorem alloc_ex {P : Program} {t : TypeId} (H : Heap) {zs : List Value} (hz : tzero P t = some zs) : ∃ q H', aalloc P t H = some (.pointer (some ⟨q, 0, none⟩), H') ∧ q = H.length ∧ H'[q]? = some (.cells (modeOf P t zs.length) zs) ∧ Grow H H' :=
  ⟨H.length, H ++ [.cells (modeOf P t zs.length) zs], by simp [aalloc, hz], rfl, at_push _ _, .push _ _⟩
theorem rem_ok {P : Program} {t : TypeId} {k : IntKind} {a b : Int} (h : b ≠ 0) : abin P .rem t (.int k a) (.int k b) = some (.int k (a.tmod b)) := by simp [abin, aint, h]
theorem slice_lo {P : Program} {t e : TypeId} {b off len k : Nat} {kd : IntKind} {n : Int} (he : sliceElem P t = some e) (hk : tsize P e = some k) (h0 : 0 ≤ n) (h1 : n ≤ (len : Int)) :
    aslice P t (.slice (some ⟨b, off, none⟩) len k) (some (.int kd n)) none none = some (.slice (some ⟨b, off + n.toNat * k, none⟩) (len - n.toNat) k) := by
  simp [aslice, he, hk, natIn, h0, h1]
theorem slice_hi {P : Program} {t e : TypeId} {b off len k : Nat} {kd : IntKind} {n : Int} (he : sliceElem P t = some e) (hk : tsize P e = some k) (h0 : 0 ≤ n) (h1 : n ≤ (len : Int)) :
    aslice P t (.slice (some ⟨b, off, none⟩) len k) none (some (.int kd n)) none = some (.slice (some ⟨b, off, none⟩) n.toNat k) := by
  simp [aslice, he, hk, natIn, h0, h1]
theorem lt_at {H : Heap} {b : Nat} {B : Blk} (h : H[b]? = some B) : b < H.length := (List.getElem?_eq_some_iff.1 h).1
theorem lt_hblk {H : Heap} {b : Nat} {c : List Value} (h : hblk H b = some c) : b < H.length := by obtain ⟨m, hm⟩ := hblk_some h; exact lt_at hm
theorem Grow.hblk {H H' : Heap} (h : Grow H H') {b : Nat} {c : List Value} (hb : Ax.hblk H b = some c) : Ax.hblk H' b = some c := by obtain ⟨m, hm⟩ := hblk_some hb; exact hblk_of (h.at hm)
theorem But.hblk {p : Nat} {H H' : Heap} (h : But p H H') {b : Nat} {c : List Value} (hb : Ax.hblk H b = some c) (hne : b ≠ p) : Ax.hblk H' b = some c := by obtain ⟨m, hm⟩ := hblk_some hb; exact hblk_of (h.at hm hne)
/-- A store into a new block leaves the old ones. -/
theorem Grow.but_new {A H H' : Heap} {q : Nat} (h : Grow A H) (k : But q H H') (hq : A.length ≤ q) : Grow A H' :=
  ⟨Nat.le_trans h.1 k.1, fun b hb => (k.2 b (Nat.lt_of_lt_of_le hb h.1) (by omega)).trans (h.2 b hb)⟩
theorem But.but_new {A H H' : Heap} {p q : Nat} (h : But p A H) (k : But q H H') (hq : A.length ≤ q) : But p A H' :=
  ⟨Nat.le_trans h.1 k.1, fun b hb hne => (k.2 b (Nat.lt_of_lt_of_le hb h.1) (by omega)).trans (h.2 b hb hne)⟩
theorem But.grow {A H H' : Heap} {p : Nat} (h : But p A H) (k : Grow H H') : But p A H' := h.trans (k.but p)
theorem slots_two {c : List Value} {o : Nat} {a b : Value} (ha : c[o]? = some a) (hb : c[o + 1]? = some b) : slotsOf c o 2 = some [a, b] := by
  have h1 := (List.getElem?_eq_some_iff.1 hb).1
  rw [slots_of (by omega)]
  congr 1
  apply List.ext_getElem?
  intro i
  rw [List.getElem?_take]
  match i with
  | 0 => simpa using ha
  | 1 => simpa using hb
  | i + 2 => simp; omega
theorem append_row {P : Program} {t tx e : TypeId} {i : TypeInfo} {d : TypeDesc} {zs c old l : List Value} {x : Value} {H : Heap} {b off m n k : Nat} (he : sliceElem P t = some e) (hi : P.info? e = some i) (hk : i.size = k) (hd : P.underlying tx = some d) (hn : noInt d = true) (h0 : k ≠ 0)
    (hsrc : srcOk x k = true) (hz : tzero P e = some zs) (hzl : zs.length = k) (ha : asrc k x H = some (n, l)) (hn0 : n ≠ 0) (hb : H[b]? = some (.cells (.row e) c)) (ho : slotsOf c off (m * k) = some old) (h1 : (m + n) * i.bytes ≤ 140737488355328) (h2 : m + n ≤ maxLen) :
    aappend P t tx (.slice (some ⟨b, off, none⟩) m k) x H = some (.slice (some ⟨H.length, 0, none⟩) (m + n) k, H.set b .dead ++ [.cells (.row e) (old ++ l)]) := by
  subst hk
  simp [aappend, he, hi, hd, hn, h0, hsrc, hz, hzl, ha, hn0, hb, ho, h1, h2]
theorem append_nil {P : Program} {t tx e : TypeId} {i : TypeInfo} {d : TypeDesc} {zs l : List Value} {x : Value} {H : Heap} {n k : Nat} (he : sliceElem P t = some e) (hi : P.info? e = some i) (hk : i.size = k) (hd : P.underlying tx = some d) (hn : noInt d = true) (h0 : k ≠ 0)
    (hsrc : srcOk x k = true) (hz : tzero P e = some zs) (hzl : zs.length = k) (ha : asrc k x H = some (n, l)) (hn0 : n ≠ 0) (h1 : n * i.bytes ≤ 140737488355328) (h2 : n ≤ maxLen) :
    aappend P t tx (.slice none 0 0) x H = some (.slice (some ⟨H.length, 0, none⟩) n k, H ++ [.cells (.row e) l]) := by
  subst hk
  simp [aappend, he, hi, hd, hn, h0, hsrc, hz, hzl, ha, hn0, h1, h2]
theorem append_zero {P : Program} {t tx e : TypeId} {i : TypeInfo} {d : TypeDesc} {zs l : List Value} {x : Value} {H : Heap} {a : Option Addr} {m k es : Nat} (he : sliceElem P t = some e) (hi : P.info? e = some i) (hk : i.size = k) (hd : P.underlying tx = some d) (hn : noInt d = true) (h0 : k ≠ 0)
    (hsrc : srcOk x k = true) (hz : tzero P e = some zs) (hzl : zs.length = k) (ha : asrc k x H = some (0, l)) (hs : a = none ∧ m = 0 ∧ es = 0 ∨ ∃ b off, a = some ⟨b, off, none⟩) :
    aappend P t tx (.slice a m es) x H = some (.slice a m es, H) := by
  subst hk
  rcases hs with ⟨rfl, rfl, rfl⟩ | ⟨b, off, rfl⟩
  · simp [aappend, he, hi, hd, hn, h0, hsrc, hz, hzl, ha]
  · simp [aappend, he, hi, hd, hn, h0, hsrc, hz, hzl, ha]
theorem make_slice {P : Program} {t e : TypeId} {i : TypeInfo} {zs : List Value} {H : Heap} {n : Int} {k : Nat} {kd kd' : IntKind} (he : sliceElem P t = some e) (hi : P.info? e = some i) (hk : i.size = k) (hz : tzero P e = some zs) (h0 : k ≠ 0) (hzl : zs.length = k) (hn : 0 ≤ n) (h1 : n ≤ 9223372036854775807) (h2 : i.bytes * n ≤ 140737488355328) :
    amakeSlice P t (.int kd n) (.int kd' n) H = some (.slice (some ⟨H.length, 0, none⟩) n.toNat k, H ++ [.cells (.row e) (zerosL zs n.toNat)]) := by
  subst hk
  simp [amakeSlice, he, hi, hz, h0, hzl, hn, h1, h2]
theorem zeros_one (z : Value) (n : Nat) : zerosL [z] n = List.replicate n z := by
  induction n with
  | zero => rfl
  | succ n ih => simp [zerosL, ih, List.replicate_succ]
theorem src_some {k b off n : Nat} {H : Heap} {c l : List Value} (hn : n ≠ 0) (hb : hblk H b = some c) (hs : slotsOf c off (n * k) = some l) : asrc k (.slice (some ⟨b, off, none⟩) n k) H = some (n, l) := by simp [asrc, hn, hb, hs]
theorem src_zero {k es : Nat} {a : Addr} {H : Heap} (ha : a.spot = none) : asrc k (.slice (some a) 0 es) H = some (0, []) := by
  obtain ⟨b, o, s⟩ := a
  simp only at ha
  subst ha
  simp [asrc]
/-- One piece of code behind another, with what is known between them. -/
theorem SW.seq {P : Program} {n : Nat} {x y : Code} {Q : BPost} {fr : Fr} {H : Heap} (M : Fr → Heap → Prop) (hx : SW P n x (thenB M Q) fr H) (hy : ∀ fr H, M fr H → SW P n y Q fr H) : SW P n (.seq x y) Q fr H := by
  refine ⟨fun w0 ι a w hw hf hd => wp_seq (wp_mono (hx.out w0 ι a w hw hf hd) fun e a' w' hq => ?_)⟩
  obtain ⟨ae, he, fr', H', ι', hxt, hw', hf', hd', q⟩ := hq
  cases e with
  | normal =>
    simp only [toA, Option.some.injEq] at he; subst he
    exact wp_mono ((hy fr' H' q).out w0 ι' a' w' hw' hf' hd') fun e a w hq => hq.ext hxt
  | exit id => simp only [toA, Option.some.injEq] at he; subst he; exact ⟨_, rfl, fr', H', ι', hxt, hw', hf', hd', q⟩
  | goto l => simp only [toA, Option.some.injEq] at he; subst he; exact ⟨_, rfl, fr', H', ι', hxt, hw', hf', hd', q⟩
  | ret => simp only [toA, Option.some.injEq] at he; subst he; exact ⟨_, rfl, fr', H', ι', hxt, hw', hf', hd', q⟩
  | panic ch => simp [toA] at he
  | outgrown => simp [toA] at he
/-- A block that is no row. -/
def aVar : Mode → Bool
  | .var => true
  | .one _ => true
  | _ => false
def NV (H : Heap) (q : Nat) : Prop := ∀ m c, H[q]? = some (.cells m c) → aVar m = true
theorem NV.of {H : Heap} {q : Nat} {c : List Value} (h : H[q]? = some (.cells .var c)) : NV H q := by
  intro m c' h'
  rw [h] at h'
  simp only [Option.some.injEq, Blk.cells.injEq] at h'
  obtain ⟨rfl, _⟩ := h'
  rfl
theorem NV.new {H : Heap} {q : Nat} (h : H.length ≤ q) : NV H q := by
  intro m c h'
  rw [List.getElem?_eq_none h] at h'
  simp at h'
theorem NV.ne {H : Heap} {q b : Nat} {m : Mode} {c : List Value} (h : NV H q) (hb : H[b]? = some (.cells m c)) (hm : aVar m = false) : b ≠ q := by
  rintro rfl
  have := h _ _ hb
  simp [hm] at this
end Go.Proofs.Ytdlanbfbbopfhaa.Ax
