/- An abstract machine for Go programs in the model: no tape, no capacities; values, heap, the relation to the real world, and how the relation is kept. -/
import Derived.WalkKit
set_option linter.unusedVariables false
set_option linter.unusedSimpArgs false
namespace Go.Proofs.Ytdlanbfbbopfhaa.Ax
open Go Go.RowKit

/-- Where an abstract block lies: a block of the world, the first cell, how many cells there are from it on, and (of a row that may be appended to) the size of an element. -/
structure Pl where
  blk : Nat
  off : Nat
  size : Nat
  esz : Nat

inductive Mode where
  | ro
  | var
  | one (t : TypeId)
  | row (e : TypeId)

inductive Blk where
  | cells (m : Mode) (c : List Value)
  | map (own : Bool) (es : List (Value × Value))
  | dead

abbrev Heap := List Blk

def Mode.own : Mode → Bool
  | .ro => false
  | _ => true
def Blk.own : Blk → Bool
  | .cells m _ => m.own
  | .map o _ => o
  | .dead => false
def Blk.alive : Blk → Bool
  | .dead => false
  | _ => true
theorem Blk.alive_of_own {B : Blk} (h : B.own = true) : B.alive = true := by cases B <;> simp_all [Blk.own, Blk.alive]

/-- A value and what stands for it. -/
inductive VR (ι : List Pl) : Value → Value → Prop where
  | bool (b : Bool) : VR ι (.bool b) (.bool b)
  | int (k : IntKind) (n : Int) : VR ι (.int k n) (.int k n)
  | str (s : ByteArray) : VR ι (.string s) (.string s)
  | nilFunc : VR ι .nilFunc .nilFunc
  | nilIface : VR ι .nilIface .nilIface
  | ptr0 : VR ι (.pointer none) (.pointer none)
  | ptr (b off : Nat) (pl : Pl) : ι[b]? = some pl → VR ι (.pointer (some ⟨b, off, none⟩)) (.pointer (some ⟨pl.blk, pl.off + off, none⟩))
  | slice0 : VR ι (.slice none 0 0) (.slice none 0 0)
  | slice (b off len es cap : Nat) (ca : Addr) (pl : Pl) : ι[b]? = some pl → len ≤ cap → cap ≤ maxLen → (0 < cap → ca = ⟨pl.blk, pl.off + off, none⟩) → (pl.esz ≠ 0 → 0 < cap → off + cap * es ≤ pl.size) →
      VR ι (.slice (some ⟨b, off, none⟩) len es) (.slice (some ca) len cap)
  | map0 : VR ι (.map none) (.map none)
  | map (b : Nat) (pl : Pl) : ι[b]? = some pl → VR ι (.map (some b)) (.map (some pl.blk))
  | func (fn : Fn) (fs fs' cs cs' : Array Value) : fs.size = fs'.size → cs.size = cs'.size → (∀ i, i < fs.size → VR ι (fs.getD i undef) (fs'.getD i undef)) →
      (∀ i, i < cs.size → VR ι (cs.getD i undef) (cs'.getD i undef)) → VR ι (.func fn fs cs) (.func fn fs' cs')
  | agg (cs cs' : Array Value) : cs.size = cs'.size → (∀ i, i < cs.size → VR ι (cs.getD i undef) (cs'.getD i undef)) → (∀ i, i < cs.size → (cs.getD i undef).oneCell' = true) → VR ι (.agg cs) (.agg cs')
  | tuple (vs vs' : Array Value) : vs.size = vs'.size → (∀ i, i < vs.size → VR ι (vs.getD i undef) (vs'.getD i undef)) → VR ι (.tuple vs) (.tuple vs')
  | iface (t : TypeId) (v c : Value) : VR ι v c → VR ι (.iface t v) (.iface t c)

def Ext (ι ι' : List Pl) : Prop := ∀ (b : Nat) (pl : Pl), ι[b]? = some pl → ι'[b]? = some pl
theorem Ext.refl (ι : List Pl) : Ext ι ι := fun _ _ h => h
theorem Ext.trans {a b c : List Pl} (h : Ext a b) (k : Ext b c) : Ext a c := fun i pl hi => k i pl (h i pl hi)
theorem Ext.push (ι : List Pl) (pl : Pl) : Ext ι (ι ++ [pl]) := fun b q h => by
  have hb : b < ι.length := (List.getElem?_eq_some_iff.1 h).1
  rw [List.getElem?_append_left hb]; exact h

theorem VR.ext {ι ι' : List Pl} (h : Ext ι ι') {v c : Value} (r : VR ι v c) : VR ι' v c := by
  induction r with
  | bool b => exact .bool b
  | int k n => exact .int k n
  | str s => exact .str s
  | nilFunc => exact .nilFunc
  | nilIface => exact .nilIface
  | ptr0 => exact .ptr0
  | ptr b off pl hb => exact .ptr b off pl (h _ _ hb)
  | slice0 => exact .slice0
  | slice b off len es cap ca pl hb h1 h2 h3 h4 => exact .slice b off len es cap ca pl (h _ _ hb) h1 h2 h3 h4
  | map0 => exact .map0
  | map b pl hb => exact .map b pl (h _ _ hb)
  | func fn fs fs' cs cs' h1 h2 _ _ i1 i2 => exact .func fn fs fs' cs cs' h1 h2 i1 i2
  | agg cs cs' h1 _ h3 i1 => exact .agg cs cs' h1 i1 h3
  | tuple vs vs' h1 _ i1 => exact .tuple vs vs' h1 i1
  | iface t v c _ i1 => exact .iface t v c i1

theorem VR.undef (ι : List Pl) : VR ι undef undef := .tuple #[] #[] rfl (fun i h => absurd h (Nat.not_lt_zero _))

/-- One cell stays one cell. -/
theorem VR.oneCell {ι : List Pl} {v c : Value} (r : VR ι v c) : c.oneCell' = v.oneCell' := by cases r <;> rfl

/-- What can stand in code, and in new memory, as it is. -/
def const1 : Value → Bool
  | .bool _ | .int _ _ | .string _ | .nilFunc | .nilIface | .pointer none | .map none => true
  | .slice none 0 0 => true
  | .func _ fs cs => fs.isEmpty && cs.isEmpty
  | _ => false
def constOk : Value → Bool
  | .agg cs => cs.toList.all const1
  | v => const1 v
theorem VR.const1 {ι : List Pl} {v : Value} (h : const1 v = true) : VR ι v v := by
  unfold Ax.const1 at h
  split at h
  · exact .bool _
  · exact .int _ _
  · exact .str _
  · exact .nilFunc
  · exact .nilIface
  · exact .ptr0
  · exact .map0
  · exact .slice0
  · rename_i fn fs cs
    simp only [Bool.and_eq_true, Array.isEmpty_iff] at h
    obtain ⟨rfl, rfl⟩ := h
    exact .func _ _ _ _ _ rfl rfl (fun i h => absurd h (Nat.not_lt_zero _)) (fun i h => absurd h (Nat.not_lt_zero _))
  · exact absurd h (by simp)
theorem oneCell_of_const1 {v : Value} (h : Ax.const1 v = true) : v.oneCell' = true := by
  cases v <;> simp_all [Ax.const1, Value.oneCell']
theorem getD_mem {cs : Array Value} {i : Nat} (h : i < cs.size) : cs.getD i Go.undef ∈ cs.toList := by
  rw [Array.getD_eq_getD_getElem?, Array.getElem?_eq_getElem h]
  simp
theorem VR.constOk {ι : List Pl} {v : Value} (h : constOk v = true) : VR ι v v := by
  unfold Ax.constOk at h
  split at h
  · rename_i cs
    rw [List.all_eq_true] at h
    exact .agg cs cs rfl (fun i hi => .const1 (h _ (getD_mem hi))) (fun i hi => oneCell_of_const1 (h _ (getD_mem hi)))
  · exact .const1 h

/-- The cells of a value. -/
def vcells : Value → Option (List Value)
  | .agg cs => some cs.toList
  | .tuple _ => none
  | v => some [v]

/-- Lists of values, one by one. -/
def LR (ι : List Pl) (xs ys : List Value) : Prop := xs.length = ys.length ∧ ∀ (i : Nat) (v : Value), xs[i]? = some v → ∃ c, ys[i]? = some c ∧ VR ι v c
theorem LR.ext {ι ι' : List Pl} (h : Ext ι ι') {xs ys : List Value} (r : LR ι xs ys) : LR ι' xs ys :=
  ⟨r.1, fun i v hi => let ⟨c, hc, k⟩ := r.2 i v hi; ⟨c, hc, k.ext h⟩⟩
theorem LR.nil (ι : List Pl) : LR ι [] [] := ⟨rfl, fun i v h => by simp at h⟩
theorem LR.cons {ι : List Pl} {x y : Value} {xs ys : List Value} (h : VR ι x y) (r : LR ι xs ys) : LR ι (x :: xs) (y :: ys) :=
  ⟨by simp [r.1], fun i v hi => by
    cases i with
    | zero => simp only [List.getElem?_cons_zero, Option.some.injEq] at hi; subst hi; exact ⟨y, rfl, h⟩
    | succ i => simp only [List.getElem?_cons_succ] at hi ⊢; exact r.2 i v hi⟩
theorem LR.append {ι : List Pl} {xs ys xs' ys' : List Value} (h : LR ι xs ys) (k : LR ι xs' ys') : LR ι (xs ++ xs') (ys ++ ys') := by
  refine ⟨by simp [h.1, k.1], fun i v hi => ?_⟩
  by_cases hlt : i < xs.length
  · rw [List.getElem?_append_left hlt] at hi
    rw [List.getElem?_append_left (h.1 ▸ hlt)]
    exact h.2 i v hi
  · rw [List.getElem?_append_right (by omega)] at hi
    rw [List.getElem?_append_right (by have := h.1; omega), ← h.1]
    exact k.2 _ v hi
theorem LR.arr {ι : List Pl} {cs cs' : Array Value} (h1 : cs.size = cs'.size) (h2 : ∀ i, i < cs.size → VR ι (cs.getD i Go.undef) (cs'.getD i Go.undef)) : LR ι cs.toList cs'.toList := by
  refine ⟨by simpa using h1, fun i v hi => ?_⟩
  have hlt : i < cs.size := by have := (List.getElem?_eq_some_iff.1 hi).1; simpa using this
  have e := h2 i hlt
  rw [Array.getElem?_toList] at hi
  rw [Array.getD_eq_getD_getElem?, Array.getD_eq_getD_getElem?, hi, Array.getElem?_eq_getElem (h1 ▸ hlt)] at e
  exact ⟨_, by rw [Array.getElem?_toList, Array.getElem?_eq_getElem (h1 ▸ hlt)], by simpa using e⟩
theorem LR.toArr {ι : List Pl} {xs ys : List Value} (r : LR ι xs ys) (i : Nat) (h : i < xs.length) : VR ι (xs.toArray.getD i Go.undef) (ys.toArray.getD i Go.undef) := by
  obtain ⟨c, hc, k⟩ := r.2 i xs[i] (by simp [h])
  simpa [Array.getD_eq_getD_getElem?, h, hc] using k
theorem LR.take {ι : List Pl} {xs ys : List Value} (r : LR ι xs ys) (n : Nat) : LR ι (xs.take n) (ys.take n) := by
  refine ⟨by simp [r.1], fun i v hi => ?_⟩
  rw [List.getElem?_take] at hi ⊢
  split at hi
  · rename_i h; rw [if_pos h]; exact r.2 i v hi
  · simp at hi
theorem LR.drop {ι : List Pl} {xs ys : List Value} (r : LR ι xs ys) (n : Nat) : LR ι (xs.drop n) (ys.drop n) := by
  refine ⟨by simp [r.1], fun i v hi => ?_⟩
  rw [List.getElem?_drop] at hi ⊢
  exact r.2 _ v hi
theorem LR.const {ι : List Pl} {xs : List Value} (h : xs.all Ax.const1 = true) : LR ι xs xs :=
  ⟨rfl, fun i v hi => ⟨v, hi, .const1 (List.all_eq_true.1 h v (List.mem_of_getElem? hi))⟩⟩
theorem vcells_rel {ι : List Pl} {v c : Value} (r : VR ι v c) {xs : List Value} (h : vcells v = some xs) : LR ι xs c.cells.toList ∧ ∀ x ∈ xs, x.oneCell' = true := by
  cases r with
  | agg cs cs' h1 h2 h3 =>
    simp only [vcells, Option.some.injEq] at h
    subst h
    refine ⟨.arr h1 h2, fun x hx => ?_⟩
    obtain ⟨i, hi, e⟩ := List.getElem_of_mem hx
    have := h3 i (by simpa using hi)
    rw [Array.getD_eq_getD_getElem?, Array.getElem?_eq_getElem (by simpa using hi)] at this
    rw [← e]; simpa using this
  | tuple vs vs' h1 h2 => simp [vcells] at h
  | _ =>
    simp only [vcells, Option.some.injEq] at h
    subst h
    refine ⟨?_, fun x hx => by simp at hx; subst hx; rfl⟩
    simp only [Value.cells]
    refine .cons ?_ (.nil _)
    first
      | exact .bool _ | exact .int _ _ | exact .str _ | exact .nilFunc | exact .nilIface | exact .ptr0 | exact .slice0 | exact .map0
      | (apply VR.ptr; assumption) | (apply VR.map; assumption) | (apply VR.slice <;> assumption) | (apply VR.func <;> assumption) | (apply VR.iface; assumption)

/-! ### The heap and the world -/
/-- The cells of a row, where they lie. -/
def CellsAt (ι : List Pl) (w : World) (pl : Pl) (c : List Value) (cc : Array Value) (e : TypeId) (fr : Nat × Nat) : Prop :=
  w.heap[pl.blk]? = some (.cells cc e fr) ∧ pl.off + pl.size ≤ cc.size ∧ c.length ≤ pl.size ∧
  ∀ (i : Nat) (v : Value), c[i]? = some v → v.oneCell' = true ∧ ∃ cv, cc[pl.off + i]? = some cv ∧ VR ι v cv
def BR (P : Program) (w0 : World) (ι : List Pl) (w : World) (pl : Pl) : Blk → Prop
  | .dead => True
  | .cells m c => ∃ cc e fr, CellsAt ι w pl c cc e fr ∧ (m.own = true → w0.heap.size ≤ pl.blk ∧ fr.1 = fr.2) ∧
      (match m with | .row t => e = t ∧ pl.esz ≠ 0 ∧ ∃ i, P.info? t = some i ∧ i.size = pl.esz | .one t => pl.esz = 0 ∧ e = t ∧ pl.off = 0 ∧ cc.size = P.cellsOf t ∧ pl.size = P.cellsOf t | _ => pl.esz = 0)
  | .map o es => ∃ ms clock, w.heap[pl.blk]? = some (.map ms clock) ∧ (o = true → w0.heap.size ≤ pl.blk) ∧ ms.size = es.length ∧
      ∀ (i : Nat) (k v : Value), es[i]? = some (k, v) → ∃ m, ms[i]? = some m ∧ VR ι k m.key ∧ VR ι v m.val

structure WR (P : Program) (w0 : World) (ι : List Pl) (H : Heap) (w : World) : Prop where
  len : ι.length = H.length
  below : Below w0.heap.size w0 w
  blk : ∀ (b : Nat) (B : Blk) (pl : Pl), H[b]? = some B → ι[b]? = some pl → BR P w0 ι w pl B
  inj : ∀ (b b' : Nat) (B B' : Blk) (pl pl' : Pl), H[b]? = some B → H[b']? = some B' → ι[b]? = some pl → ι[b']? = some pl' → B.own = true → B'.alive = true → pl.blk = pl'.blk → b = b'

theorem BR.lt {P : Program} {w0 w : World} {ι : List Pl} {pl : Pl} {B : Blk} (h : BR P w0 ι w pl B) (ha : B.alive = true) : pl.blk < w.heap.size := by
  cases B with
  | dead => simp [Blk.alive] at ha
  | cells m c => obtain ⟨cc, e, fr, ⟨h1, _⟩, _⟩ := h; exact (Array.getElem?_eq_some_iff.1 h1).1
  | map o es => obtain ⟨ms, clock, h1, _⟩ := h; exact (Array.getElem?_eq_some_iff.1 h1).1
theorem BR.ge {P : Program} {w0 w : World} {ι : List Pl} {pl : Pl} {B : Blk} (h : BR P w0 ι w pl B) (ha : B.own = true) : w0.heap.size ≤ pl.blk := by
  cases B with
  | dead => simp [Blk.own] at ha
  | cells m c => obtain ⟨cc, e, fr, _, h2, _⟩ := h; exact (h2 ha).1
  | map o es => obtain ⟨ms, clock, _, h2, _⟩ := h; exact h2 ha
/-- A block that lies as it lay. -/
theorem BR.same {P : Program} {w0 w w' : World} {ι ι' : List Pl} {pl : Pl} {B : Blk} (h : BR P w0 ι w pl B) (hi : Ext ι ι') (hw : B.alive = true → w'.heap[pl.blk]? = w.heap[pl.blk]?) : BR P w0 ι' w' pl B := by
  cases B with
  | dead => trivial
  | cells m c =>
    obtain ⟨cc, e, fr, ⟨h1, h2, h3, h4⟩, h5, h6⟩ := h
    exact ⟨cc, e, fr, ⟨(hw rfl).trans h1, h2, h3, fun i v hv => let ⟨a, cv, b, d⟩ := h4 i v hv; ⟨a, cv, b, d.ext hi⟩⟩, h5, h6⟩
  | map o es =>
    obtain ⟨ms, clock, h1, h2, h3, h4⟩ := h
    exact ⟨ms, clock, (hw rfl).trans h1, h2, h3, fun i k v hv => let ⟨m, a, b, d⟩ := h4 i k v hv; ⟨m, a, b.ext hi, d.ext hi⟩⟩

theorem WR.get {P : Program} {w0 w : World} {ι : List Pl} {H : Heap} (h : WR P w0 ι H w) {b : Nat} {B : Blk} (hb : H[b]? = some B) : ∃ pl, ι[b]? = some pl ∧ BR P w0 ι w pl B := by
  have hlt : b < ι.length := by rw [h.len]; exact (List.getElem?_eq_some_iff.1 hb).1
  exact ⟨ι[b], by simp [hlt], h.blk b B _ hb (by simp [hlt])⟩

/-- The world has new blocks, and draws; nothing that was there is touched. -/
theorem WR.grow {P : Program} {w0 w w' : World} {ι : List Pl} {H : Heap} (h : WR P w0 ι H w) (hb : Below w.heap.size w w') : WR P w0 ι H w' where
  len := h.len
  below := h.below.trans (hb.mono h.below.size)
  blk := fun b B pl h1 h2 => (h.blk b B pl h1 h2).same (.refl _) fun ha => hb.block _ ((h.blk b B pl h1 h2).lt ha)
  inj := h.inj
theorem WR.drew {P : Program} {w0 w : World} {ι : List Pl} {H : Heap} (h : WR P w0 ι H w) : WR P w0 ι H w.drew := h.grow (Below.refl _ _).drew

/-- One block more. -/
theorem WR.push {P : Program} {w0 w : World} {ι : List Pl} {H : Heap} (h : WR P w0 ι H w) (pl : Pl) (B : Blk) (hB : BR P w0 (ι ++ [pl]) w pl B)
    (hn : ∀ (b : Nat) (C : Blk) (q : Pl), H[b]? = some C → ι[b]? = some q → C.alive = true → q.blk = pl.blk → C.own = false ∧ B.own = false) : WR P w0 (ι ++ [pl]) (H ++ [B]) w where
  len := by simp [h.len]
  below := h.below
  blk := fun b C q h1 h2 => by
    by_cases hlt : b < H.length
    · rw [List.getElem?_append_left hlt] at h1
      rw [List.getElem?_append_left (h.len ▸ hlt)] at h2
      exact (h.blk b C q h1 h2).same (.push _ _) fun _ => rfl
    · rw [List.getElem?_append_right (by omega)] at h1
      rw [List.getElem?_append_right (by have := h.len; omega), h.len] at h2
      have hz : b - H.length = 0 := by
        have := (List.getElem?_eq_some_iff.1 h1).1
        simp at this; omega
      rw [hz] at h1 h2
      simp only [List.getElem?_cons_zero, Option.some.injEq] at h1 h2
      subst h1 h2
      exact hB
  inj := fun b b' C C' q q' h1 h1' h2 h2' ho ha he => by
    by_cases hlt : b < H.length <;> by_cases hlt' : b' < H.length
    · rw [List.getElem?_append_left hlt] at h1
      rw [List.getElem?_append_left hlt'] at h1'
      rw [List.getElem?_append_left (h.len ▸ hlt)] at h2
      rw [List.getElem?_append_left (h.len ▸ hlt')] at h2'
      exact h.inj b b' C C' q q' h1 h1' h2 h2' ho ha he
    · rw [List.getElem?_append_left hlt] at h1
      rw [List.getElem?_append_left (h.len ▸ hlt)] at h2
      rw [List.getElem?_append_right (by omega)] at h1'
      rw [List.getElem?_append_right (by have := h.len; omega), h.len] at h2'
      have hz : b' - H.length = 0 := by
        have := (List.getElem?_eq_some_iff.1 h1').1
        simp at this; omega
      rw [hz] at h1' h2'
      simp only [List.getElem?_cons_zero, Option.some.injEq] at h1' h2'
      subst h1' h2'
      have := (hn b C q h1 h2 (Blk.alive_of_own ho) he).1
      rw [this] at ho; simp at ho
    · rw [List.getElem?_append_left hlt'] at h1'
      rw [List.getElem?_append_left (h.len ▸ hlt')] at h2'
      rw [List.getElem?_append_right (by omega)] at h1
      rw [List.getElem?_append_right (by have := h.len; omega), h.len] at h2
      have hz : b - H.length = 0 := by
        have := (List.getElem?_eq_some_iff.1 h1).1
        simp at this; omega
      rw [hz] at h1 h2
      simp only [List.getElem?_cons_zero, Option.some.injEq] at h1 h2
      subst h1 h2
      have := (hn b' C' q' h1' h2' ha he.symm).2
      rw [this] at ho; simp at ho
    · have e1 := (List.getElem?_eq_some_iff.1 h1).1
      have e2 := (List.getElem?_eq_some_iff.1 h1').1
      simp at e1 e2
      omega

/-- One block is written. -/
theorem WR.upd {P : Program} {w0 w w' : World} {ι : List Pl} {H : Heap} (h : WR P w0 ι H w) {b : Nat} {B B' : Blk} {pl : Pl} (hb : H[b]? = some B) (hp : ι[b]? = some pl) (ho : B.own = true)
    (hos : w'.os = w.os) (ht : w'.tape = w.tape) (hout : w'.output = w.output) (hs : w.heap.size ≤ w'.heap.size) (hk : ∀ k, k < w.heap.size → k ≠ pl.blk → w'.heap[k]? = w.heap[k]?)
    (hB : BR P w0 ι w' pl B') : WR P w0 ι (H.set b B') w' := by
  have hge := (h.blk b B pl hb hp).ge ho
  have hbl : b < H.length := (List.getElem?_eq_some_iff.1 hb).1
  refine ⟨by simp [h.len], h.below.trans ⟨hos, ht, hout, hs, fun k hk' => hk k (by have := h.below.size; omega) (by omega)⟩, fun c C q h1 h2 => ?_, fun c c' C C' q q' h1 h1' h2 h2' o a e => ?_⟩
  · by_cases hc : c = b
    · subst hc
      rw [List.getElem?_set_self hbl] at h1
      simp only [Option.some.injEq] at h1
      rw [hp] at h2
      simp only [Option.some.injEq] at h2
      subst h1 h2
      exact hB
    · rw [List.getElem?_set_ne (by omega)] at h1
      refine (h.blk c C q h1 h2).same (.refl _) fun ha => hk _ ((h.blk c C q h1 h2).lt ha) fun e => hc ?_
      exact (h.inj b c B C pl q hb h1 hp h2 ho ha e.symm).symm
  · have key : ∀ (c : Nat) (C : Blk), (H.set b B')[c]? = some C → ∃ D, H[c]? = some D ∧ (C.own = true → D.own = true ∨ c = b) ∧ (C.alive = true → D.alive = true) := by
      intro c C hC
      by_cases hc : c = b
      · subst hc; exact ⟨B, hb, fun _ => .inr rfl, fun _ => Blk.alive_of_own ho⟩
      · rw [List.getElem?_set_ne (by omega)] at hC; exact ⟨C, hC, .inl, id⟩
    obtain ⟨D, hD, k1, _⟩ := key c C h1
    obtain ⟨D', hD', _, k2⟩ := key c' C' h1'
    have hDo : D.own = true := by
      rcases k1 o with k | k
      · exact k
      · subst k; rw [hb] at hD; simp only [Option.some.injEq] at hD; subst hD; exact ho
    exact h.inj c c' D D' q q' hD hD' h2 h2' hDo (k2 a) e

/-- A block is let go. -/
theorem WR.kill {P : Program} {w0 w : World} {ι : List Pl} {H : Heap} (h : WR P w0 ι H w) (b : Nat) : WR P w0 ι (H.set b .dead) w := by
  refine ⟨by simp [h.len], h.below, fun c C q h1 h2 => ?_, fun c c' C C' q q' h1 h1' h2 h2' o a e => ?_⟩
  · by_cases hc : c = b
    · subst hc
      by_cases hl : c < H.length
      · rw [List.getElem?_set_self hl] at h1; simp only [Option.some.injEq] at h1; subst h1; trivial
      · rw [List.getElem?_eq_none (by simp; omega)] at h1; simp at h1
    · rw [List.getElem?_set_ne (by omega)] at h1; exact h.blk c C q h1 h2
  · have key : ∀ (c : Nat) (C : Blk), (H.set b .dead)[c]? = some C → C.alive = true → H[c]? = some C := by
      intro c C hC ha
      by_cases hc : c = b
      · subst hc
        by_cases hl : c < H.length
        · rw [List.getElem?_set_self hl] at hC; simp only [Option.some.injEq] at hC; subst hC; simp [Blk.alive] at ha
        · rw [List.getElem?_eq_none (by simp; omega)] at hC; simp at hC
      · rw [List.getElem?_set_ne (by omega)] at hC; exact hC
    exact h.inj c c' C C' q q' (key c C h1 (Blk.alive_of_own o)) (key c' C' h1' a) h2 h2' o a e

end Go.Proofs.Ytdlanbfbbopfhaa.Ax
