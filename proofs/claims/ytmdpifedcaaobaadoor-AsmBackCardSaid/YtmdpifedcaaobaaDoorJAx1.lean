/- An abstract machine for Go programs in the model: no tape, no capacities; values, heap, the relation to the real world, and how the relation is kept. -/
import Derived.WalkKit
import Derived.ChangeKeysEq
import Derived.Lib.UnsafeStr
set_option linter.unusedVariables false
set_option linter.unusedSimpArgs false
namespace Go.Proofs.YtmdpifedcaaobaaDoor.Ax
open Go Go.RowKit

/-- Where an abstract block lies: a block of the world, the first cell, how many cells there are from it on, and (of a row that may be appended to) the size of an element. -/
structure Pl where
  blk : Nat
  off : Nat
  size : Nat
  esz : Nat

/-- What is known of a function's slots; the newest first. -/
abbrev Fr := List (Nat × Value)
def getK : Fr → Nat → (Value → Prop) → Prop
  | [], _, _ => False
  | (i, v) :: r, t, K => match Nat.beq i t with | true => K v | false => getK r t K
def getF : Fr → Nat → Option Value
  | [], _ => none
  | (i, v) :: r, t => match Nat.beq i t with | true => some v | false => getF r t
theorem getK_iff {fr : Fr} {t : Nat} {K : Value → Prop} : getK fr t K ↔ ∃ v, getF fr t = some v ∧ K v := by
  induction fr with
  | nil => simp [getK, getF]
  | cons p r ih =>
    obtain ⟨i, v⟩ := p
    simp only [getK, getF]
    split
    · simp
    · exact ih

inductive Mode where
  | ro
  | var
  | one (t : TypeId)
  | row (e : TypeId)

inductive Blk where
  | cells (m : Mode) (c : List Value)
  | map (own : Bool) (es : List (Value × Value))
  | iter (s : ByteArray) (pos : Nat)
  | defd
  | lrec (n : Nat) (fr : List (Nat × Value)) (st : LoopState) (pend : Option Code) (ps : Array Tmp) (assign body : Code)
  | dead

abbrev Heap := List Blk

def Mode.own : Mode → Bool
  | .ro => false
  | _ => true
def Blk.own : Blk → Bool
  | .cells m _ => m.own
  | .map o _ => o
  | .iter _ _ => true
  | .defd => true
  | .lrec .. => true
  | .dead => false
def Blk.alive : Blk → Bool
  | .dead => false
  | _ => true
theorem Blk.alive_of_own {B : Blk} (h : B.own = true) : B.alive = true := by cases B <;> simp_all [Blk.own, Blk.alive]

/-- A value and what stands for it. -/
inductive VR (ι : List Pl) : Value → Value → Prop where
  | bool (b : Bool) : VR ι (.bool b) (.bool b)
  | int (k : IntKind) (n : Int) : VR ι (.int k n) (.int k n)
  | str (s : ByteArray) : VR ι (.string s) (.string s)
  | nilFunc : VR ι .nilFunc .nilFunc
  | nilIface : VR ι .nilIface .nilIface
  | ptr0 : VR ι (.pointer none) (.pointer none)
  | ptr (b off : Nat) (pl : Pl) : ι[b]? = some pl → VR ι (.pointer (some ⟨b, off, none⟩)) (.pointer (some ⟨pl.blk, pl.off + off, none⟩))
  | slice0 : VR ι (.slice none 0 0) (.slice none 0 0)
  | slice (b off len es cap : Nat) (ca : Addr) (pl : Pl) : ι[b]? = some pl → len ≤ cap → cap ≤ maxLen → (0 < cap → ca = ⟨pl.blk, pl.off + off, none⟩) → (pl.esz ≠ 0 → 0 < cap → off + cap * es ≤ pl.size) →
      VR ι (.slice (some ⟨b, off, none⟩) len es) (.slice (some ca) len cap)
  | map0 : VR ι (.map none) (.map none)
  | map (b : Nat) (pl : Pl) : ι[b]? = some pl → VR ι (.map (some b)) (.map (some pl.blk))
  | func (f : FuncId) (fs fs' cs cs' : Array Value) : fs.size = fs'.size → cs.size = cs'.size → (∀ i, i < fs.size → VR ι (fs.getD i undef) (fs'.getD i undef)) →
      (∀ i, i < cs.size → VR ι (cs.getD i undef) (cs'.getD i undef)) → VR ι (.func (.func f) fs cs) (.func (.func f) fs' cs')
  | yld (q : Nat) (pl : Pl) : ι[q]? = some pl → VR ι (.func (.yield q) #[] #[]) (.func (.yield pl.blk) #[] #[])
  | agg (cs cs' : Array Value) : cs.size = cs'.size → (∀ i, i < cs.size → VR ι (cs.getD i undef) (cs'.getD i undef)) → (∀ i, i < cs.size → (cs.getD i undef).oneCell' = true) → VR ι (.agg cs) (.agg cs')
  | tuple (vs vs' : Array Value) : vs.size = vs'.size → (∀ i, i < vs.size → VR ι (vs.getD i undef) (vs'.getD i undef)) → VR ι (.tuple vs) (.tuple vs')
  | iface (t : TypeId) (v c : Value) : VR ι v c → VR ι (.iface t v) (.iface t c)

def Ext (ι ι' : List Pl) : Prop := ∀ (b : Nat) (pl : Pl), ι[b]? = some pl → ι'[b]? = some pl
theorem Ext.refl (ι : List Pl) : Ext ι ι := fun _ _ h => h
theorem Ext.trans {a b c : List Pl} (h : Ext a b) (k : Ext b c) : Ext a c := fun i pl hi => k i pl (h i pl hi)
theorem Ext.push (ι : List Pl) (pl : Pl) : Ext ι (ι ++ [pl]) := fun b q h => by
  have hb : b < ι.length := (List.getElem?_eq_some_iff.1 h).1
  rw [List.getElem?_append_left hb]; exact h

theorem VR.ext {ι ι' : List Pl} (h : Ext ι ι') {v c : Value} (r : VR ι v c) : VR ι' v c := by
  induction r with
  | bool b => exact .bool b
  | int k n => exact .int k n
  | str s => exact .str s
  | nilFunc => exact .nilFunc
  | nilIface => exact .nilIface
  | ptr0 => exact .ptr0
  | ptr b off pl hb => exact .ptr b off pl (h _ _ hb)
  | slice0 => exact .slice0
  | slice b off len es cap ca pl hb h1 h2 h3 h4 => exact .slice b off len es cap ca pl (h _ _ hb) h1 h2 h3 h4
  | map0 => exact .map0
  | map b pl hb => exact .map b pl (h _ _ hb)
  | func fn fs fs' cs cs' h1 h2 _ _ i1 i2 => exact .func fn fs fs' cs cs' h1 h2 i1 i2
  | yld q pl hq => exact .yld q pl (h _ _ hq)
  | agg cs cs' h1 _ h3 i1 => exact .agg cs cs' h1 i1 h3
  | tuple vs vs' h1 _ i1 => exact .tuple vs vs' h1 i1
  | iface t v c _ i1 => exact .iface t v c i1

theorem VR.undef (ι : List Pl) : VR ι undef undef := .tuple #[] #[] rfl (fun i h => absurd h (Nat.not_lt_zero _))

/-- One cell stays one cell. -/
theorem VR.oneCell {ι : List Pl} {v c : Value} (r : VR ι v c) : c.oneCell' = v.oneCell' := by cases r <;> rfl

/-- What can stand in code, and in new memory, as it is. -/
def const1 : Value → Bool
  | .bool _ | .int _ _ | .string _ | .nilFunc | .nilIface | .pointer none | .map none => true
  | .slice none 0 0 => true
  | .func (.func _) fs cs => fs.isEmpty && cs.isEmpty
  | _ => false
def constOk : Value → Bool
  | .agg cs => cs.toList.all const1
  | v => const1 v
theorem VR.const1 {ι : List Pl} {v : Value} (h : const1 v = true) : VR ι v v := by
  unfold Ax.const1 at h
  split at h
  · exact .bool _
  · exact .int _ _
  · exact .str _
  · exact .nilFunc
  · exact .nilIface
  · exact .ptr0
  · exact .map0
  · exact .slice0
  · rename_i fn fs cs
    simp only [Bool.and_eq_true, Array.isEmpty_iff] at h
    obtain ⟨rfl, rfl⟩ := h
    exact .func _ _ _ _ _ rfl rfl (fun i h => absurd h (Nat.not_lt_zero _)) (fun i h => absurd h (Nat.not_lt_zero _))
  · exact absurd h (by simp)
theorem oneCell_of_const1 {v : Value} (h : Ax.const1 v = true) : v.oneCell' = true := by
  cases v <;> simp_all [Ax.const1, Value.oneCell']
theorem getD_mem {cs : Array Value} {i : Nat} (h : i < cs.size) : cs.getD i Go.undef ∈ cs.toList := by
  rw [Array.getD_eq_getD_getElem?, Array.getElem?_eq_getElem h]
  simp
theorem VR.constOk {ι : List Pl} {v : Value} (h : constOk v = true) : VR ι v v := by
  unfold Ax.constOk at h
  split at h
  · rename_i cs
    rw [List.all_eq_true] at h
    exact .agg cs cs rfl (fun i hi => .const1 (h _ (getD_mem hi))) (fun i hi => oneCell_of_const1 (h _ (getD_mem hi)))
  · exact .const1 h

/-- The cells of a value. -/
def vcells : Value → Option (List Value)
  | .agg cs => some cs.toList
  | .tuple _ => none
  | v => some [v]

/-- Lists of values, one by one. -/
def LR (ι : List Pl) (xs ys : List Value) : Prop := xs.length = ys.length ∧ ∀ (i : Nat) (v : Value), xs[i]? = some v → ∃ c, ys[i]? = some c ∧ VR ι v c
theorem LR.ext {ι ι' : List Pl} (h : Ext ι ι') {xs ys : List Value} (r : LR ι xs ys) : LR ι' xs ys :=
  ⟨r.1, fun i v hi => let ⟨c, hc, k⟩ := r.2 i v hi; ⟨c, hc, k.ext h⟩⟩
theorem LR.nil (ι : List Pl) : LR ι [] [] := ⟨rfl, fun i v h => by simp at h⟩
theorem LR.cons {ι : List Pl} {x y : Value} {xs ys : List Value} (h : VR ι x y) (r : LR ι xs ys) : LR ι (x :: xs) (y :: ys) :=
  ⟨by simp [r.1], fun i v hi => by
    cases i with
    | zero => simp only [List.getElem?_cons_zero, Option.some.injEq] at hi; subst hi; exact ⟨y, rfl, h⟩
    | succ i => simp only [List.getElem?_cons_succ] at hi ⊢; exact r.2 i v hi⟩
theorem LR.append {ι : List Pl} {xs ys xs' ys' : List Value} (h : LR ι xs ys) (k : LR ι xs' ys') : LR ι (xs ++ xs') (ys ++ ys') := by
  refine ⟨by simp [h.1, k.1], fun i v hi => ?_⟩
  by_cases hlt : i < xs.length
  · rw [List.getElem?_append_left hlt] at hi
    rw [List.getElem?_append_left (h.1 ▸ hlt)]
    exact h.2 i v hi
  · rw [List.getElem?_append_right (by omega)] at hi
    rw [List.getElem?_append_right (by have := h.1; omega), ← h.1]
    exact k.2 _ v hi
theorem LR.arr {ι : List Pl} {cs cs' : Array Value} (h1 : cs.size = cs'.size) (h2 : ∀ i, i < cs.size → VR ι (cs.getD i Go.undef) (cs'.getD i Go.undef)) : LR ι cs.toList cs'.toList := by
  refine ⟨by simpa using h1, fun i v hi => ?_⟩
  have hlt : i < cs.size := by have := (List.getElem?_eq_some_iff.1 hi).1; simpa using this
  have e := h2 i hlt
  rw [Array.getElem?_toList] at hi
  rw [Array.getD_eq_getD_getElem?, Array.getD_eq_getD_getElem?, hi, Array.getElem?_eq_getElem (h1 ▸ hlt)] at e
  exact ⟨_, by rw [Array.getElem?_toList, Array.getElem?_eq_getElem (h1 ▸ hlt)], by simpa using e⟩
theorem LR.toArr {ι : List Pl} {xs ys : List Value} (r : LR ι xs ys) (i : Nat) (h : i < xs.length) : VR ι (xs.toArray.getD i Go.undef) (ys.toArray.getD i Go.undef) := by
  obtain ⟨c, hc, k⟩ := r.2 i xs[i] (by simp [h])
  simpa [Array.getD_eq_getD_getElem?, h, hc] using k
theorem LR.take {ι : List Pl} {xs ys : List Value} (r : LR ι xs ys) (n : Nat) : LR ι (xs.take n) (ys.take n) := by
  refine ⟨by simp [r.1], fun i v hi => ?_⟩
  rw [List.getElem?_take] at hi ⊢
  split at hi
  · rename_i h; rw [if_pos h]; exact r.2 i v hi
  · simp at hi
theorem LR.drop {ι : List Pl} {xs ys : List Value} (r : LR ι xs ys) (n : Nat) : LR ι (xs.drop n) (ys.drop n) := by
  refine ⟨by simp [r.1], fun i v hi => ?_⟩
  rw [List.getElem?_drop] at hi ⊢
  exact r.2 _ v hi
theorem LR.const {ι : List Pl} {xs : List Value} (h : xs.all Ax.const1 = true) : LR ι xs xs :=
  ⟨rfl, fun i v hi => ⟨v, hi, .const1 (List.all_eq_true.1 h v (List.mem_of_getElem? hi))⟩⟩
theorem vcells_rel {ι : List Pl} {v c : Value} (r : VR ι v c) {xs : List Value} (h : vcells v = some xs) : LR ι xs c.cells.toList ∧ ∀ x ∈ xs, x.oneCell' = true := by
  cases r with
  | agg cs cs' h1 h2 h3 =>
    simp only [vcells, Option.some.injEq] at h
    subst h
    refine ⟨.arr h1 h2, fun x hx => ?_⟩
    obtain ⟨i, hi, e⟩ := List.getElem_of_mem hx
    have := h3 i (by simpa using hi)
    rw [Array.getD_eq_getD_getElem?, Array.getElem?_eq_getElem (by simpa using hi)] at this
    rw [← e]; simpa using this
  | tuple vs vs' h1 h2 => simp [vcells] at h
  | _ =>
    simp only [vcells, Option.some.injEq] at h
    subst h
    refine ⟨?_, fun x hx => by simp at hx; subst hx; rfl⟩
    simp only [Value.cells]
    refine .cons ?_ (.nil _)
    first
      | exact .bool _ | exact .int _ _ | exact .str _ | exact .nilFunc | exact .nilIface | exact .ptr0 | exact .slice0 | exact .map0
      | (apply VR.ptr; assumption) | (apply VR.map; assumption) | (apply VR.slice <;> assumption) | (apply VR.func <;> assumption) | (apply VR.yld; assumption) | (apply VR.iface; assumption)

/-! ### The heap and the world -/
/-- The cells of a row, where they lie. -/
def CellsAt (ι : List Pl) (w : World) (pl : Pl) (c : List Value) (cc : Array Value) (e : TypeId) (fr : Nat × Nat) : Prop :=
  w.heap[pl.blk]? = some (.cells cc e fr) ∧ pl.off + pl.size ≤ cc.size ∧ c.length ≤ pl.size ∧
  ∀ (i : Nat) (v : Value), c[i]? = some v → v.oneCell' = true ∧ ∃ cv, cc[pl.off + i]? = some cv ∧ VR ι v cv
def BR (P : Program) (w0 : World) (ι : List Pl) (w : World) (pl : Pl) : Blk → Prop
  | .dead => True
  | .cells m c => ∃ cc e fr, CellsAt ι w pl c cc e fr ∧ (m.own = true → w0.heap.size ≤ pl.blk ∧ fr.1 = fr.2) ∧
      (match m with | .row t => e = t ∧ pl.esz ≠ 0 ∧ ∃ i, P.info? t = some i ∧ i.size = pl.esz | .one t => pl.esz = 0 ∧ e = t ∧ pl.off = 0 ∧ cc.size = P.cellsOf t ∧ pl.size = P.cellsOf t | _ => pl.esz = 0)
  | .map o es => ∃ ms clock, w.heap[pl.blk]? = some (.map ms clock) ∧ (o = true → w0.heap.size ≤ pl.blk) ∧ ms.size = es.length ∧
      ∀ (i : Nat) (k v : Value), es[i]? = some (k, v) → ∃ m, ms[i]? = some m ∧ VR ι k m.key ∧ VR ι v m.val
  | .iter s pos => w.heap[pl.blk]? = some (.stringIter s pos) ∧ w0.heap.size ≤ pl.blk ∧ pl.off = 0
  | .defd => w.heap[pl.blk]? = some (.deferred (some [])) ∧ w0.heap.size ≤ pl.blk
  | .lrec n fr st pend ps assign body => ∃ fn tmps d, w.heap[pl.blk]? = some (.loop ⟨st, pend, fn, tmps, ps, assign, body, d⟩) ∧ w0.heap.size ≤ pl.blk ∧ tmps.size = n ∧ ∀ (t : Nat) (v : Value), getF fr t = some v → t < n ∧ VR ι v (tmps.getD t undef)

structure WR (P : Program) (w0 : World) (ι : List Pl) (H : Heap) (w : World) : Prop where
  len : ι.length = H.length
  below : Below w0.heap.size w0 w
  blk : ∀ (b : Nat) (B : Blk) (pl : Pl), H[b]? = some B → ι[b]? = some pl → BR P w0 ι w pl B
  inj : ∀ (b b' : Nat) (B B' : Blk) (pl pl' : Pl), H[b]? = some B → H[b']? = some B' → ι[b]? = some pl → ι[b']? = some pl' → B.own = true → B'.alive = true → pl.blk = pl'.blk → b = b'

theorem BR.lt {P : Program} {w0 w : World} {ι : List Pl} {pl : Pl} {B : Blk} (h : BR P w0 ι w pl B) (ha : B.alive = true) : pl.blk < w.heap.size := by
  cases B with
  | dead => simp [Blk.alive] at ha
  | cells m c => obtain ⟨cc, e, fr, ⟨h1, _⟩, _⟩ := h; exact (Array.getElem?_eq_some_iff.1 h1).1
  | map o es => obtain ⟨ms, clock, h1, _⟩ := h; exact (Array.getElem?_eq_some_iff.1 h1).1
  | iter s pos => exact (Array.getElem?_eq_some_iff.1 h.1).1
  | defd => exact (Array.getElem?_eq_some_iff.1 h.1).1
  | lrec n fr st pend ps assign body => obtain ⟨fn, tmps, d, h1, _⟩ := h; exact (Array.getElem?_eq_some_iff.1 h1).1
theorem BR.ge {P : Program} {w0 w : World} {ι : List Pl} {pl : Pl} {B : Blk} (h : BR P w0 ι w pl B) (ha : B.own = true) : w0.heap.size ≤ pl.blk := by
  cases B with
  | dead => simp [Blk.own] at ha
  | cells m c => obtain ⟨cc, e, fr, _, h2, _⟩ := h; exact (h2 ha).1
  | map o es => obtain ⟨ms, clock, _, h2, _⟩ := h; exact h2 ha
  | iter s pos => exact h.2.1
  | defd => exact h.2
  | lrec n fr st pend ps assign body => obtain ⟨fn, tmps, d, _, h2, _⟩ := h; exact h2
/-- A block that lies as it lay. -/
theorem BR.same {P : Program} {w0 w w' : World} {ι ι' : List Pl} {pl : Pl} {B : Blk} (h : BR P w0 ι w pl B) (hi : Ext ι ι') (hw : B.alive = true → w'.heap[pl.blk]? = w.heap[pl.blk]?) : BR P w0 ι' w' pl B := by
  cases B with
  | dead => trivial
  | cells m c =>
    obtain ⟨cc, e, fr, ⟨h1, h2, h3, h4⟩, h5, h6⟩ := h
    exact ⟨cc, e, fr, ⟨(hw rfl).trans h1, h2, h3, fun i v hv => let ⟨a, cv, b, d⟩ := h4 i v hv; ⟨a, cv, b, d.ext hi⟩⟩, h5, h6⟩
  | map o es =>
    obtain ⟨ms, clock, h1, h2, h3, h4⟩ := h
    exact ⟨ms, clock, (hw rfl).trans h1, h2, h3, fun i k v hv => let ⟨m, a, b, d⟩ := h4 i k v hv; ⟨m, a, b.ext hi, d.ext hi⟩⟩
  | iter s pos => exact ⟨(hw rfl).trans h.1, h.2⟩
  | defd => exact ⟨(hw rfl).trans h.1, h.2⟩
  | lrec n fr st pend ps assign body =>
    obtain ⟨fn, tmps, d, h1, h2, h3, h4⟩ := h
    exact ⟨fn, tmps, d, (hw rfl).trans h1, h2, h3, fun t v ht => ⟨(h4 t v ht).1, (h4 t v ht).2.ext hi⟩⟩

theorem WR.get {P : Program} {w0 w : World} {ι : List Pl} {H : Heap} (h : WR P w0 ι H w) {b : Nat} {B : Blk} (hb : H[b]? = some B) : ∃ pl, ι[b]? = some pl ∧ BR P w0 ι w pl B := by
  have hlt : b < ι.length := by rw [h.len]; exact (List.getElem?_eq_some_iff.1 hb).1
  exact ⟨ι[b], by simp [hlt], h.blk b B _ hb (by simp [hlt])⟩

/-- The world has new blocks, and draws; nothing that was there is touched. -/
theorem WR.grow {P : Program} {w0 w w' : World} {ι : List Pl} {H : Heap} (h : WR P w0 ι H w) (hb : Below w.heap.size w w') : WR P w0 ι H w' where
  len := h.len
  below := h.below.trans (hb.mono h.below.size)
  blk := fun b B pl h1 h2 => (h.blk b B pl h1 h2).same (.refl _) fun ha => hb.block _ ((h.blk b B pl h1 h2).lt ha)
  inj := h.inj
theorem WR.drew {P : Program} {w0 w : World} {ι : List Pl} {H : Heap} (h : WR P w0 ι H w) : WR P w0 ι H w.drew := h.grow (Below.refl _ _).drew

/-- One block more. -/
theorem WR.push {P : Program} {w0 w : World} {ι : List Pl} {H : Heap} (h : WR P w0 ι H w) (pl : Pl) (B : Blk) (hB : BR P w0 (ι ++ [pl]) w pl B)
    (hn : ∀ (b : Nat) (C : Blk) (q : Pl), H[b]? = some C → ι[b]? = some q → C.alive = true → q.blk = pl.blk → C.own = false ∧ B.own = false) : WR P w0 (ι ++ [pl]) (H ++ [B]) w where
  len := by simp [h.len]
  below := h.below
  blk := fun b C q h1 h2 => by
    by_cases hlt : b < H.length
    · rw [List.getElem?_append_left hlt] at h1
      rw [List.getElem?_append_left (h.len ▸ hlt)] at h2
      exact (h.blk b C q h1 h2).same (.push _ _) fun _ => rfl
    · rw [List.getElem?_append_right (by omega)] at h1
      rw [List.getElem?_append_right (by have := h.len; omega), h.len] at h2
      have hz : b - H.length = 0 := by
        have := (List.getElem?_eq_some_iff.1 h1).1
        simp at this; omega
      rw [hz] at h1 h2
      simp only [List.getElem?_cons_zero, Option.some.injEq] at h1 h2
      subst h1 h2
      exact hB
  inj := fun b b' C C' q q' h1 h1' h2 h2' ho ha he => by
    by_cases hlt : b < H.length <;> by_cases hlt' : b' < H.length
    · rw [List.getElem?_append_left hlt] at h1
      rw [List.getElem?_append_left hlt'] at h1'
      rw [List.getElem?_append_left (h.len ▸ hlt)] at h2
      rw [List.getElem?_append_left (h.len ▸ hlt')] at h2'
      exact h.inj b b' C C' q q' h1 h1' h2 h2' ho ha he
    · rw [List.getElem?_append_left hlt] at h1
      rw [List.getElem?_append_left (h.len ▸ hlt)] at h2
      rw [List.getElem?_append_right (by omega)] at h1'
      rw [List.getElem?_append_right (by have := h.len; omega), h.len] at h2'
      have hz : b' - H.length = 0 := by
        have := (List.getElem?_eq_some_iff.1 h1').1
        simp at this; omega
      rw [hz] at h1' h2'
      simp only [List.getElem?_cons_zero, Option.some.injEq] at h1' h2'
      subst h1' h2'
      have := (hn b C q h1 h2 (Blk.alive_of_own ho) he).1
      rw [this] at ho; simp at ho
    · rw [List.getElem?_append_left hlt'] at h1'
      rw [List.getElem?_append_left (h.len ▸ hlt')] at h2'
      rw [List.getElem?_append_right (by omega)] at h1
      rw [List.getElem?_append_right (by have := h.len; omega), h.len] at h2
      have hz : b - H.length = 0 := by
        have := (List.getElem?_eq_some_iff.1 h1).1
        simp at this; omega
      rw [hz] at h1 h2
      simp only [List.getElem?_cons_zero, Option.some.injEq] at h1 h2
      subst h1 h2
      have := (hn b' C' q' h1' h2' ha he.symm).2
      rw [this] at ho; simp at ho
    · have e1 := (List.getElem?_eq_some_iff.1 h1).1
      have e2 := (List.getElem?_eq_some_iff.1 h1').1
      simp at e1 e2
      omega

/-- One block is written. -/
theorem WR.upd {P : Program} {w0 w w' : World} {ι : List Pl} {H : Heap} (h : WR P w0 ι H w) {b : Nat} {B B' : Blk} {pl : Pl} (hb : H[b]? = some B) (hp : ι[b]? = some pl) (ho : B.own = true)
    (hos : w'.os = w.os) (ht : w'.tape = w.tape) (hout : w'.output = w.output) (hs : w.heap.size ≤ w'.heap.size) (hk : ∀ k, k < w.heap.size → k ≠ pl.blk → w'.heap[k]? = w.heap[k]?)
    (hB : BR P w0 ι w' pl B') : WR P w0 ι (H.set b B') w' := by
  have hge := (h.blk b B pl hb hp).ge ho
  have hbl : b < H.length := (List.getElem?_eq_some_iff.1 hb).1
  refine ⟨by simp [h.len], h.below.trans ⟨hos, ht, hout, hs, fun k hk' => hk k (by have := h.below.size; omega) (by omega)⟩, fun c C q h1 h2 => ?_, fun c c' C C' q q' h1 h1' h2 h2' o a e => ?_⟩
  · by_cases hc : c = b
    · subst hc
      rw [List.getElem?_set_self hbl] at h1
      simp only [Option.some.injEq] at h1
      rw [hp] at h2
      simp only [Option.some.injEq] at h2
      subst h1 h2
      exact hB
    · rw [List.getElem?_set_ne (by omega)] at h1
      refine (h.blk c C q h1 h2).same (.refl _) fun ha => hk _ ((h.blk c C q h1 h2).lt ha) fun e => hc ?_
      exact (h.inj b c B C pl q hb h1 hp h2 ho ha e.symm).symm
  · have key : ∀ (c : Nat) (C : Blk), (H.set b B')[c]? = some C → ∃ D, H[c]? = some D ∧ (C.own = true → D.own = true ∨ c = b) ∧ (C.alive = true → D.alive = true) := by
      intro c C hC
      by_cases hc : c = b
      · subst hc; exact ⟨B, hb, fun _ => .inr rfl, fun _ => Blk.alive_of_own ho⟩
      · rw [List.getElem?_set_ne (by omega)] at hC; exact ⟨C, hC, .inl, id⟩
    obtain ⟨D, hD, k1, _⟩ := key c C h1
    obtain ⟨D', hD', _, k2⟩ := key c' C' h1'
    have hDo : D.own = true := by
      rcases k1 o with k | k
      · exact k
      · subst k; rw [hb] at hD; simp only [Option.some.injEq] at hD; subst hD; exact ho
    exact h.inj c c' D D' q q' hD hD' h2 h2' hDo (k2 a) e

/-- A block is let go. -/
theorem WR.kill {P : Program} {w0 w : World} {ι : List Pl} {H : Heap} (h : WR P w0 ι H w) (b : Nat) : WR P w0 ι (H.set b .dead) w := by
  refine ⟨by simp [h.len], h.below, fun c C q h1 h2 => ?_, fun c c' C C' q q' h1 h1' h2 h2' o a e => ?_⟩
  · by_cases hc : c = b
    · subst hc
      by_cases hl : c < H.length
      · rw [List.getElem?_set_self hl] at h1; simp only [Option.some.injEq] at h1; subst h1; trivial
      · rw [List.getElem?_eq_none (by simp; omega)] at h1; simp at h1
    · rw [List.getElem?_set_ne (by omega)] at h1; exact h.blk c C q h1 h2
  · have key : ∀ (c : Nat) (C : Blk), (H.set b .dead)[c]? = some C → C.alive = true → H[c]? = some C := by
      intro c C hC ha
      by_cases hc : c = b
      · subst hc
        by_cases hl : c < H.length
        · rw [List.getElem?_set_self hl] at hC; simp only [Option.some.injEq] at hC; subst hC; simp [Blk.alive] at ha
        · rw [List.getElem?_eq_none (by simp; omega)] at hC; simp at hC
      · rw [List.getElem?_set_ne (by omega)] at hC; exact hC
    exact h.inj c c' C C' q q' (key c C h1 (Blk.alive_of_own o)) (key c' C' h1' a) h2 h2' o a e

end Go.Proofs.YtmdpifedcaaobaaDoor.Ax
/- The abstract machine: loads, stores and new blocks, and that the real ones follow them. -/
set_option linter.unusedVariables false
set_option linter.unusedSimpArgs false
namespace Go.Proofs.YtmdpifedcaaobaaDoor.Ax
open Go Go.RowKit

def isAggD : TypeDesc → Bool
  | .struct _ | .array _ _ => true
  | _ => false
def tsize (P : Program) (t : TypeId) : Option Nat := (P.info? t).map (·.size)
def tzero (P : Program) (t : TypeId) : Option (List Value) := (P.info? t).bind fun i => i.zero.bind fun z => (vcells z).bind fun cs => if cs.all Ax.const1 then some cs else none

theorem run_isAgg {P : Program} {t : TypeId} {d : TypeDesc} (h : P.underlying t = some d) (w : World) : (isAgg t).run P w = .ok (isAggD d) w := by
  cases d <;> simp [isAgg, run_underlying h, isAggD]
theorem run_sizeOf {P : Program} {t : TypeId} {n : Nat} (h : tsize P t = some n) (w : World) : (sizeOf t).run P w = .ok n w := by
  unfold tsize at h
  obtain ⟨i, hi, rfl⟩ := Option.map_eq_some_iff.1 h
  simp [sizeOf, typeInfo, hi]
theorem run_zeroValue {P : Program} {t : TypeId} {cs : List Value} (h : tzero P t = some cs) (w : World) : ∃ z, (zeroValue t).run P w = .ok z w ∧ z.cells.toList = cs ∧ cs.all Ax.const1 = true ∧ VR [] z z ∧ vcells z = some cs := by
  unfold tzero at h
  simp only [Option.bind_eq_some_iff] at h
  obtain ⟨i, hi, z, hz, xs, hx, h⟩ := h
  split at h
  · rename_i hc
    simp only [Option.some.injEq] at h
    subst h
    refine ⟨z, by simp [zeroValue, typeInfo, hi, hz], ?_, hc, ?_, hx⟩
    · cases z <;> simp_all [vcells, Value.cells]
    · apply VR.constOk
      cases z with
      | agg cs => simp only [vcells, Option.some.injEq] at hx; subst hx; simpa [Ax.constOk] using hc
      | tuple vs => simp [vcells] at hx
      | _ => simp only [vcells, Option.some.injEq] at hx; subst hx; simpa [Ax.constOk] using hc
  · simp at h

theorem add_none (b o n : Nat) : (⟨b, o, none⟩ : Addr).add n = ⟨b, o + n, none⟩ := by
  unfold Addr.add; split
  · subst_vars; rfl
  · rfl

/-! ### Reading -/
theorem cell_of {w : World} {b o : Nat} {cc : Array Value} {e : TypeId} {fr : Nat × Nat} (h : w.heap[b]? = some (.cells cc e fr)) : w.cell? ⟨b, o, none⟩ = cc[o]? := by
  simp [World.cell?, h]
theorem frozen_of {w : World} {b o : Nat} {cc : Array Value} {e : TypeId} {fr : Nat × Nat} (h : w.heap[b]? = some (.cells cc e fr)) (hf : fr.1 = fr.2) : w.frozen? ⟨b, o, none⟩ = false := by
  obtain ⟨lo, hi⟩ := fr
  simp only at hf
  subst hf
  simp [World.frozen?, h]

/-- Some cells of an abstract block, and of the real one. -/
theorem CellsAt.range {ι : List Pl} {w : World} {pl : Pl} {c : List Value} {cc : Array Value} {e : TypeId} {fr : Nat × Nat} (h : CellsAt ι w pl c cc e fr) (off n : Nat) (hn : off + n ≤ c.length) :
    LR ι ((c.drop off).take n) ((cc.toList.drop (pl.off + off)).take n) ∧ (∀ x ∈ (c.drop off).take n, x.oneCell' = true) ∧
    ((cc.toList.drop (pl.off + off)).take n).length = n ∧ ∀ j v, ((cc.toList.drop (pl.off + off)).take n)[j]? = some v → w.cell? ((⟨pl.blk, pl.off + off, none⟩ : Addr).add j) = some v := by
  obtain ⟨h1, h2, h3, h4⟩ := h
  have hl : ((cc.toList.drop (pl.off + off)).take n).length = n := by simp; omega
  refine ⟨⟨by rw [hl]; simp; omega, fun i v hi => ?_⟩, fun x hx => ?_, hl, fun j v hv => ?_⟩
  · rw [List.getElem?_take] at hi ⊢
    split at hi
    · rename_i hlt
      rw [List.getElem?_drop] at hi
      obtain ⟨_, cv, hc, hr⟩ := h4 _ v hi
      refine ⟨cv, ?_, hr⟩
      rw [if_pos hlt, List.getElem?_drop, Array.getElem?_toList, Nat.add_assoc]
      exact hc
    · simp at hi
  · obtain ⟨i, hi, rfl⟩ := List.getElem_of_mem hx
    have : (c)[off + i]? = some ((c.drop off).take n)[i] := by
      rw [List.getElem_take, List.getElem_drop]
      exact List.getElem?_eq_getElem _
    exact (h4 _ _ this).1
  · rw [add_none, cell_of h1]
    rw [List.getElem?_take] at hv
    split at hv
    · rw [List.getElem?_drop, Array.getElem?_toList] at hv; exact hv
    · simp at hv

/-- The cells of a block. -/
def hblk (H : Heap) (b : Nat) : Option (List Value) := match H[b]? with | some (.cells _ c) => some c | _ => none
theorem WR.cells {P : Program} {w0 w : World} {ι : List Pl} {H : Heap} (h : WR P w0 ι H w) {b : Nat} {c : List Value} (hb : hblk H b = some c) :
    ∃ m pl cc e fr, H[b]? = some (.cells m c) ∧ ι[b]? = some pl ∧ CellsAt ι w pl c cc e fr := by
  unfold hblk at hb
  split at hb
  · rename_i m c' he
    simp only [Option.some.injEq] at hb
    subst hb
    obtain ⟨pl, hp, cc, e, fr, h1, _⟩ := h.get he
    exact ⟨m, pl, cc, e, fr, he, hp, h1⟩
  · simp at hb

def slotsOf (c : List Value) (off n : Nat) : Option (List Value) := if off + n ≤ c.length then some ((c.drop off).take n) else none

def aload (P : Program) (t : TypeId) (v : Value) (H : Heap) : Option Value :=
  match v with
  | .pointer (some ⟨b, off, none⟩) => (hblk H b).bind fun c => (P.underlying t).bind fun d =>
      if isAggD d then (tsize P t).bind fun n => (slotsOf c off n).map fun l => .agg l.toArray else c[off]?
  | _ => none

theorem aload_run {P : Program} {w0 w : World} {ι : List Pl} {H : Heap} (h : WR P w0 ι H w) {t : TypeId} {v x cv : Value} (hr : VR ι v cv) (hl : aload P t v H = some x) :
    ∃ cx, (Instr.loadAt t cv).run P w = .ok cx w ∧ VR ι x cx := by
  unfold aload at hl
  split at hl
  · rename_i b off
    simp only [Option.bind_eq_some_iff] at hl
    obtain ⟨c, hc, d, hd, hl⟩ := hl
    obtain ⟨m, pl, cc, e, fr, hb, hp, hC⟩ := h.cells hc
    cases hr with
    | ptr _ _ pl' hp' =>
      rw [hp] at hp'
      simp only [Option.some.injEq] at hp'
      subst hp'
      split at hl
      · rename_i ha
        simp only [Option.bind_eq_some_iff, Option.map_eq_some_iff] at hl
        obtain ⟨n, hn, l, hl, rfl⟩ := hl
        unfold slotsOf at hl
        split at hl
        · rename_i hle
          simp only [Option.some.injEq] at hl
          subst hl
          obtain ⟨hL, hone, hlen, hcell⟩ := hC.range off n hle
          have hrun := run_loadCells_list (P := P) w ⟨pl.blk, pl.off + off, none⟩ _ hcell
          rw [hlen] at hrun
          refine ⟨.agg ((cc.toList.drop (pl.off + off)).take n).toArray, ?_, .agg _ _ (by simpa using hL.1) (fun i hi => hL.toArr i (by simpa using hi)) (fun i hi => ?_)⟩
          · simp [Instr.loadAt, Instr.sureAddr, loadVar, run_isAgg hd, ha, run_sizeOf hn, hrun]
          · exact hone _ (by simpa using getD_mem hi)
        · simp at hl
      · rename_i ha
        obtain ⟨hone, cv, hcv, hrv⟩ := hC.2.2.2 off x hl
        refine ⟨cv, ?_, hrv⟩
        have : w.cell? ⟨pl.blk, pl.off + off, none⟩ = some cv := by rw [cell_of hC.1]; exact hcv
        simp [Instr.loadAt, Instr.sureAddr, loadVar, run_isAgg hd, ha, this]
  · simp at hl

/-! ### Writing -/
def putL (c : List Value) : Nat → List Value → List Value
  | _, [] => c
  | o, v :: vs => putL (c.set o v) (o + 1) vs
def putA (c : Array Value) : Nat → List Value → Array Value
  | _, [] => c
  | o, v :: vs => putA (c.setIfInBounds o v) (o + 1) vs
theorem putL_length (vs : List Value) : ∀ (c : List Value) (o : Nat), (putL c o vs).length = c.length := by
  induction vs with
  | nil => intro c o; rfl
  | cons v vs ih => intro c o; simp [putL, ih]
theorem putA_size (vs : List Value) : ∀ (c : Array Value) (o : Nat), (putA c o vs).size = c.size := by
  induction vs with
  | nil => intro c o; rfl
  | cons v vs ih => intro c o; simp [putA, ih]
theorem putL_get (vs : List Value) : ∀ (c : List Value) (o i : Nat), (putL c o vs)[i]? = if o ≤ i ∧ i < o + vs.length ∧ i < c.length then vs[i - o]? else c[i]? := by
  induction vs with
  | nil => intro c o i; simp [putL]; omega
  | cons v vs ih =>
    intro c o i
    rw [putL, ih]
    simp only [List.length_set, List.length_cons]
    by_cases h1 : o + 1 ≤ i ∧ i < o + 1 + vs.length ∧ i < c.length
    · rw [if_pos h1, if_pos (by omega)]
      obtain ⟨k, rfl⟩ : ∃ k, i = o + 1 + k := ⟨i - (o + 1), by omega⟩
      rw [show o + 1 + k - (o + 1) = k by omega, show o + 1 + k - o = k + 1 by omega]
      simp
    · rw [if_neg h1]
      by_cases h2 : i = o
      · subst h2
        by_cases h3 : i < c.length
        · rw [if_pos (by omega), List.getElem?_set_self h3]; simp
        · rw [if_neg (by omega), List.getElem?_eq_none (by simp; omega), List.getElem?_eq_none (by omega)]
      · rw [List.getElem?_set_ne (by omega)]
        by_cases h4 : o ≤ i ∧ i < o + (vs.length + 1) ∧ i < c.length
        · omega
        · rw [if_neg h4]
theorem putA_toList (vs : List Value) : ∀ (c : Array Value) (o : Nat), (putA c o vs).toList = putL c.toList o vs := by
  induction vs with
  | nil => intro c o; rfl
  | cons v vs ih => intro c o; simp [putA, putL, ih]

theorem heap_setCell_self {w : World} {b o : Nat} {v : Value} {cc : Array Value} {e : TypeId} {fr : Nat × Nat} (h : w.heap[b]? = some (.cells cc e fr)) :
    (w.setCell ⟨b, o, none⟩ v).heap[b]? = some (.cells (cc.setIfInBounds o v) e fr) := by
  simp [World.setCell, Array.getElem?_modify, h]

theorem run_storeCells {P : Program} {b : Nat} {e : TypeId} {fr : Nat × Nat} (hf : fr.1 = fr.2) (vs : List Value) : ∀ (w : World) (cc : Array Value) (off i : Nat), w.heap[b]? = some (.cells cc e fr) →
    off + i + vs.length ≤ cc.size → (∀ v ∈ vs, v.oneCell' = true) →
    ∃ w', (storeCells ⟨b, off, none⟩ vs i).run P w = .ok () w' ∧ w'.os = w.os ∧ w'.tape = w.tape ∧ w'.output = w.output ∧ w'.heap.size = w.heap.size ∧
      (∀ k, k ≠ b → w'.heap[k]? = w.heap[k]?) ∧ w'.heap[b]? = some (.cells (putA cc (off + i) vs) e fr) := by
  induction vs with
  | nil => intro w cc off i h _ _; exact ⟨w, rfl, rfl, rfl, rfl, rfl, fun _ _ => rfl, h⟩
  | cons v vs ih =>
    intro w cc off i h hle hone
    simp only [List.length_cons] at hle
    have h1 := heap_setCell_self (o := off + i) (v := v) h
    obtain ⟨w', hr, e1, e2, e3, e4, e5, e6⟩ := ih (w.setCell ⟨b, off + i, none⟩ v) _ off (i + 1) h1 (by simp; omega) (fun x hx => hone x (List.mem_cons_of_mem _ hx))
    have hc : w.cell? ⟨b, off + i, none⟩ = some cc[off + i] := by rw [cell_of h]; simp [show off + i < cc.size by omega]
    refine ⟨w', ?_, e1, e2, e3, by rw [e4]; simp, fun k hk => by rw [e5 k hk]; exact Below.heap_setCell _ _ _ _ hk, e6⟩
    simp only [storeCells, Sem.run_bind, add_none]
    rw [run_store P w _ v .plain (hone v (List.mem_cons_self ..)), hc]
    simp only [frozen_of h hf, Bool.false_eq_true, if_false, Result.andThen_ok]
    exact hr

def hput (H : Heap) (b off : Nat) (vs : List Value) : Option Heap :=
  match H[b]? with
  | some (.cells m c) => if m.own = true ∧ off + vs.length ≤ c.length then some (H.set b (.cells m (putL c off vs))) else none
  | _ => none

/-- Cells are written. -/
theorem WR.store {P : Program} {w0 w : World} {ι : List Pl} {H H' : Heap} (h : WR P w0 ι H w) {b off : Nat} {vs cvs : List Value} (hp : hput H b off vs = some H') (hv : LR ι vs cvs) (hone : ∀ v ∈ vs, v.oneCell' = true)
    {pl : Pl} (hpl : ι[b]? = some pl) : ∃ w', (storeCells ⟨pl.blk, pl.off + off, none⟩ cvs).run P w = .ok () w' ∧ WR P w0 ι H' w' := by
  unfold hput at hp
  split at hp
  · rename_i m c hb
    split at hp
    · rename_i hc
      simp only [Option.some.injEq] at hp
      subst hp
      obtain ⟨cc, e, fr, ⟨h1, h2, h3, h4⟩, h5, h6⟩ := h.blk b _ pl hb hpl
      have hone' : ∀ v ∈ cvs, v.oneCell' = true := by
        intro v hvm
        obtain ⟨i, hi, rfl⟩ := List.getElem_of_mem hvm
        obtain ⟨c', hc', hr⟩ := hv.2 i (vs[i]'(by have := hv.1; omega)) (by simp)
        rw [List.getElem?_eq_getElem hi] at hc'
        simp only [Option.some.injEq] at hc'
        rw [hc', VR.oneCell hr]
        exact hone _ (List.getElem_mem _)
      obtain ⟨w', hr, e1, e2, e3, e4, e5, e6⟩ := run_storeCells (P := P) (h5 hc.1).2 cvs w cc (pl.off + off) 0 h1 (by have := hv.1; omega) hone'
      refine ⟨w', hr, h.upd hb hpl hc.1 e1 e2 e3 (by omega) (fun k _ hk => e5 k hk) ⟨_, e, fr, ⟨e6, by rw [putA_size]; exact h2, by rw [putL_length]; exact h3, fun i v hi => ?_⟩, h5, (by revert h6; cases m <;> simp only [putA_size] <;> exact id)⟩⟩
      rw [putL_get] at hi
      rw [← Array.getElem?_toList, putA_toList, putL_get]
      split at hi
      · rename_i hlt
        have hz : v ∈ vs := List.mem_of_getElem? hi
        obtain ⟨cv, hcv, hrv⟩ := hv.2 _ v hi
        refine ⟨hone v hz, cv, ?_, hrv⟩
        rw [if_pos (by have := hv.1; simp; omega), ← hcv]
        congr 1
        omega
      · rename_i hlt
        obtain ⟨a1, cv, hcv, hrv⟩ := h4 i v hi
        have hil : i < c.length := (List.getElem?_eq_some_iff.1 hi).1
        refine ⟨a1, cv, ?_, hrv⟩
        rw [if_neg (by have := hv.1; simp; omega), Array.getElem?_toList]
        exact hcv
    · simp at hp
  · simp at hp

def astore (P : Program) (t : TypeId) (p v : Value) (H : Heap) : Option Heap :=
  match p with
  | .pointer (some ⟨b, off, none⟩) => (vcells v).bind fun vs => (tsize P t).bind fun n => if vs.length = n then hput H b off vs else none
  | _ => none
theorem astore_run {P : Program} {w0 w : World} {ι : List Pl} {H H' : Heap} (h : WR P w0 ι H w) {t : TypeId} {p v cp cv : Value} (hp : VR ι p cp) (hv : VR ι v cv) (hs : astore P t p v H = some H') :
    ∃ w', (Instr.storeAt t cp cv).run P w = .ok () w' ∧ WR P w0 ι H' w' := by
  unfold astore at hs
  split at hs
  · rename_i b off
    simp only [Option.bind_eq_some_iff] at hs
    obtain ⟨vs, hvs, n, hn, hs⟩ := hs
    split at hs
    · rename_i hlen
      obtain ⟨hL, hone⟩ := vcells_rel hv hvs
      cases hp with
      | ptr _ _ pl hpl =>
        obtain ⟨w', hr, hw⟩ := h.store hs hL hone hpl
        refine ⟨w', ?_, hw⟩
        have hsz : cv.cells.size = n := by have := hL.1; simp at this; omega
        simp [Instr.storeAt, Instr.sureAddr, storeVar, run_sizeOf hn, hsz, hr]
    · simp at hs
  · simp at hs

/-! ### New blocks -/
theorem heap_alloc_self (w : World) (o : Obj) : (w.alloc o).heap[w.heap.size]? = some o := by
  show (w.heap.push o)[w.heap.size]? = some o
  simp
theorem WR.fresh {P : Program} {w0 w : World} {ι : List Pl} {H : Heap} (h : WR P w0 ι H w) (o : Obj) (pl : Pl) (B : Blk) (hp : pl.blk = w.heap.size) (hB : BR P w0 (ι ++ [pl]) (w.alloc o) pl B) :
    WR P w0 (ι ++ [pl]) (H ++ [B]) (w.alloc o) := by
  have hw : Below w.heap.size w (w.alloc o) := (Below.refl _ _).alloc (Nat.le_refl _) o
  refine (h.grow hw).push pl B hB fun b C q h1 h2 ha he => ?_
  have := (h.blk b C q h1 h2).lt ha
  omega
/-- Does a type begin with a pointer to itself, or with a part that does? (Of such a variable the type is kept in mind.) -/
def selfed (P : Program) (t : TypeId) : Bool :=
  match P.underlying t with
  | some (.struct fs) => match fs[0]? with | some f => (match P.underlying f.type with | some (.pointer u) => Nat.beq u t | _ => false) | none => false
  | _ => false
def typed (P : Program) (t : TypeId) : Bool :=
  match P.underlying t with
  | some (.struct fs) => match fs[0]? with | some f => (match P.underlying f.type with | some (.pointer u) => Nat.beq u t | some (.struct _) => selfed P f.type | _ => false) | none => false
  | _ => false
def modeOf (P : Program) (t : TypeId) (n : Nat) : Mode :=
  match typed P t with
  | true => match Nat.beq (P.cellsOf t) n with | true => .one t | false => .var
  | false => .var
theorem modeOf_cases (P : Program) (t : TypeId) (n : Nat) : modeOf P t n = .var ∨ (modeOf P t n = .one t ∧ P.cellsOf t = n) := by
  unfold modeOf
  split
  · split
    · rename_i h; exact .inr ⟨rfl, Nat.eq_of_beq_eq_true h⟩
    · exact .inl rfl
  · exact .inl rfl
/-- A new variable. -/
theorem WR.newVar {P : Program} {w0 w : World} {ι : List Pl} {H : Heap} (h : WR P w0 ι H w) {cs : List Value} {ccs : Array Value} (hL : LR ι cs ccs.toList) (hone : ∀ v ∈ cs, v.oneCell' = true) (t : TypeId) :
    ∃ ι', Ext ι ι' ∧ WR P w0 ι' (H ++ [.cells (modeOf P t cs.length) cs]) (w.alloc (.cells ccs t)) ∧ VR ι' (.pointer (some ⟨H.length, 0, none⟩)) (.pointer (some ⟨w.heap.size, 0, none⟩)) := by
  have hx : (ι ++ [⟨w.heap.size, 0, cs.length, 0⟩])[H.length]? = some ⟨w.heap.size, 0, cs.length, 0⟩ := by rw [← h.len]; simp
  have hs : ccs.size = cs.length := by have := hL.1; simp at this; omega
  refine ⟨ι ++ [⟨w.heap.size, 0, cs.length, 0⟩], .push _ _, h.fresh _ _ _ rfl ⟨ccs, t, (0, 0), ⟨heap_alloc_self _ _, ?_, Nat.le_refl _, fun i v hi => ?_⟩, fun _ => ⟨h.below.size, rfl⟩, ?_⟩, ?_⟩
  · have := hL.1; simp at this ⊢; omega
  · obtain ⟨cv, hc, hr⟩ := hL.2 i v hi
    exact ⟨hone v (List.mem_of_getElem? hi), cv, by simpa using hc, hr.ext (.push _ _)⟩
  · rcases modeOf_cases P t cs.length with e | ⟨e, hc⟩
    · rw [e]
    · rw [e]; exact ⟨rfl, rfl, rfl, by rw [hs, hc], hc.symm⟩
  · simpa using VR.ptr (ι := ι ++ [⟨w.heap.size, 0, cs.length, 0⟩]) H.length 0 _ hx
/-- A new row. -/
theorem WR.newRow {P : Program} {w0 w : World} {ι : List Pl} {H : Heap} (h : WR P w0 ι H w) {cs : List Value} {ccs : Array Value} (hL : LR ι cs (ccs.toList.take cs.length)) (hone : ∀ v ∈ cs, v.oneCell' = true) (e : TypeId)
    {len cap es : Nat} (hes : tsize P e = some es) (h0 : es ≠ 0) (hcs : cs.length = len * es) (hcc : ccs.size = cap * es) (hlc : len ≤ cap) (hm : cap ≤ maxLen) :
    ∃ ι', Ext ι ι' ∧ WR P w0 ι' (H ++ [.cells (.row e) cs]) (w.alloc (.cells ccs e)) ∧ VR ι' (.slice (some ⟨H.length, 0, none⟩) len es) (.slice (some ⟨w.heap.size, 0, none⟩) len cap) := by
  have hx : (ι ++ [⟨w.heap.size, 0, ccs.size, es⟩])[H.length]? = some ⟨w.heap.size, 0, ccs.size, es⟩ := by rw [← h.len]; simp
  unfold tsize at hes
  obtain ⟨i, hi, he⟩ := Option.map_eq_some_iff.1 hes
  have hle : len * es ≤ cap * es := Nat.mul_le_mul_right _ hlc
  refine ⟨ι ++ [⟨w.heap.size, 0, ccs.size, es⟩], .push _ _, h.fresh _ _ _ rfl ⟨ccs, e, (0, 0), ⟨heap_alloc_self _ _, by simp, by simp; omega, fun j v hj => ?_⟩, fun _ => ⟨h.below.size, rfl⟩, rfl, h0, i, hi, he⟩, ?_⟩
  · obtain ⟨cv, hc, hr⟩ := hL.2 j v hj
    refine ⟨hone v (List.mem_of_getElem? hj), cv, ?_, hr.ext (.push _ _)⟩
    rw [List.getElem?_take] at hc
    split at hc
    · simpa using hc
    · simp at hc
  · exact VR.slice H.length 0 len es cap ⟨w.heap.size, 0, none⟩ _ hx hlc hm (fun _ => rfl) (fun _ _ => by simp only [Nat.zero_add]; omega)

end Go.Proofs.YtmdpifedcaaobaaDoor.Ax
/- The abstract machine: addresses, parts, indexes, slices, numbers and comparisons, and that the real ones follow them. -/
set_option linter.unusedVariables false
set_option linter.unusedSimpArgs false
namespace Go.Proofs.YtmdpifedcaaobaaDoor.Ax
open Go Go.RowKit

def structOf (P : Program) (t : TypeId) : Option (Array Field) := match P.underlying t with | some (.struct fs) => some fs | _ => none
theorem structOf_eq {P : Program} {t : TypeId} {fs : Array Field} (h : structOf P t = some fs) : P.underlying t = some (.struct fs) := by
  unfold structOf at h; split at h
  · rename_i e; simp only [Option.some.injEq] at h; subst h; exact e
  · simp at h

def afieldAddr (P : Program) (s : TypeId) (v : Value) (f : Nat) : Option Value :=
  match v with
  | .pointer (some ⟨b, off, none⟩) => (structOf P s).bind fun fs => fs[f]?.bind fun fd => (tsize P fd.type).bind fun n => if n = 0 then none else some (.pointer (some ⟨b, off + fd.offset, none⟩))
  | _ => none
theorem afieldAddr_run {P : Program} {ι : List Pl} {s : TypeId} {v x cv : Value} {f : Nat} (hr : VR ι v cv) (h : afieldAddr P s v f = some x) (w : World) :
    ∃ cx, (Instr.fieldAt s cv f).run P w = .ok cx w ∧ VR ι x cx := by
  unfold afieldAddr at h
  split at h
  · rename_i b off
    simp only [Option.bind_eq_some_iff] at h
    obtain ⟨fs, hfs, fd, hfd, n, hn, h⟩ := h
    split at h
    · simp at h
    · rename_i h0
      simp only [Option.some.injEq] at h
      subst h
      cases hr with
      | ptr _ _ pl hp =>
        refine ⟨.pointer (some ⟨pl.blk, pl.off + (off + fd.offset), none⟩), ?_, .ptr _ _ _ hp⟩
        simp [Instr.fieldAt, run_underlying (structOf_eq hfs), hfd, Instr.sureAddr, fieldPlace, run_sizeOf hn, h0, add_none, Nat.add_assoc]
  · simp at h

def apart (P : Program) (t : TypeId) (cs : Array Value) (off : Nat) : Option Value :=
  (P.underlying t).bind fun d => if isAggD d then (tsize P t).map fun n => .agg (cs.extract off (off + n)) else cs[off]?
theorem apart_run {P : Program} {ι : List Pl} {t : TypeId} {cs ccs : Array Value} {off : Nat} {x : Value} (hs : cs.size = ccs.size) (hv : ∀ i, i < cs.size → VR ι (cs.getD i Go.undef) (ccs.getD i Go.undef))
    (hone : ∀ i, i < cs.size → (cs.getD i Go.undef).oneCell' = true) (h : apart P t cs off = some x) (w : World) : ∃ cx, (part t ccs off).run P w = .ok cx w ∧ VR ι x cx := by
  unfold apart at h
  simp only [Option.bind_eq_some_iff] at h
  obtain ⟨d, hd, h⟩ := h
  split at h
  · rename_i ha
    simp only [Option.map_eq_some_iff] at h
    obtain ⟨n, hn, rfl⟩ := h
    have key : ∀ (a : Array Value) (i : Nat), i < (a.extract off (off + n)).size → (a.extract off (off + n)).getD i Go.undef = a.getD (off + i) Go.undef := by
      intro a i hi
      rw [Array.getD_eq_getD_getElem?, Array.getD_eq_getD_getElem?, Array.getElem?_extract]
      simp at hi
      rw [if_pos (by omega)]
    refine ⟨.agg (ccs.extract off (off + n)), by simp [part, run_isAgg hd, ha, run_sizeOf hn], .agg _ _ (by simp [hs]) (fun i hi => ?_) (fun i hi => ?_)⟩
    · rw [key _ _ hi, key _ _ (by simpa [hs] using hi)]
      exact hv _ (by simp at hi; omega)
    · rw [key _ _ hi]
      exact hone _ (by simp at hi; omega)
  · rename_i ha
    have hlt : off < cs.size := (Array.getElem?_eq_some_iff.1 h).1
    have e := hv off hlt
    rw [Array.getD_eq_getD_getElem?, h, Array.getD_eq_getD_getElem?, Array.getElem?_eq_getElem (hs ▸ hlt)] at e
    refine ⟨ccs[off]'(hs ▸ hlt), ?_, by simpa using e⟩
    simp [part, run_isAgg hd, ha, Array.getElem?_eq_getElem (hs ▸ hlt)]

def afield (P : Program) (t : TypeId) (v : Value) (f : Nat) : Option Value :=
  match v with
  | .agg cs => (structOf P t).bind fun fs => fs[f]?.bind fun fd => apart P fd.type cs fd.offset
  | _ => none
theorem afield_run {P : Program} {ι : List Pl} {t : TypeId} {v x cv : Value} {f : Nat} (hr : VR ι v cv) (h : afield P t v f = some x) (w : World) : ∃ cx, (Instr.field t cv f).run P w = .ok cx w ∧ VR ι x cx := by
  unfold afield at h
  split at h
  · rename_i cs
    simp only [Option.bind_eq_some_iff] at h
    obtain ⟨fs, hfs, fd, hfd, h⟩ := h
    cases hr with
    | agg _ ccs h1 h2 h3 =>
      obtain ⟨cx, hc, hrx⟩ := apart_run h1 h2 h3 h w
      exact ⟨cx, by simp [Instr.field, run_underlying (structOf_eq hfs), hfd, asAgg, hc], hrx⟩
  · simp at h

def aindex (P : Program) (t : TypeId) (v i : Value) : Option Value :=
  match i with
  | .int _ n =>
    match v with
    | .agg cs => match P.underlying t with
      | some (.array len e) => if 0 ≤ n ∧ n < (len : Int) then (tsize P e).bind fun k => apart P e cs (n.toNat * k) else none
      | _ => none
    | .string s => match P.underlying t with
      | some .string => if 0 ≤ n then s[n.toNat]?.map fun b => .int .u8 b.toNat else none
      | _ => none
    | _ => none
  | _ => none
theorem aindex_run {P : Program} {ι : List Pl} {t : TypeId} {v i x cv ci : Value} (hr : VR ι v cv) (hi : VR ι i ci) (h : aindex P t v i = some x) (w : World) : ∃ cx, (Instr.index t cv ci).run P w = .ok cx w ∧ VR ι x cx := by
  unfold aindex at h
  split at h
  · rename_i k n
    cases hi
    split at h
    · rename_i cs
      split at h
      · rename_i len e hu
        split at h
        · rename_i hn
          simp only [Option.bind_eq_some_iff] at h
          obtain ⟨m, hm, h⟩ := h
          cases hr with
          | agg _ ccs h1 h2 h3 =>
            obtain ⟨cx, hc, hrx⟩ := apart_run h1 h2 h3 h w
            exact ⟨cx, by simp [Instr.index, asIntOf, run_underlying hu, hn.1, hn.2, run_sizeOf hm, hc], hrx⟩
        · simp at h
      · simp at h
    · rename_i s
      split at h
      · rename_i hu
        split at h
        · rename_i hn
          cases hr
          simp only [Option.map_eq_some_iff] at h
          obtain ⟨b, hb, rfl⟩ := h
          exact ⟨_, by simp [Instr.index, asIntOf, run_underlying hu, hn, hb], .int _ _⟩
        · simp at h
      · simp at h
    · simp at h
  · simp at h

def sliceElem (P : Program) (t : TypeId) : Option TypeId := match P.underlying t with | some (.slice e) => some e | _ => none
theorem sliceElem_eq {P : Program} {t e : TypeId} (h : sliceElem P t = some e) : P.underlying t = some (.slice e) := by
  unfold sliceElem at h; split at h
  · rename_i e'; simp only [Option.some.injEq] at h; subst h; exact e'
  · simp at h
def arrayOf (P : Program) (t : TypeId) : Option (Nat × TypeId) := match P.underlying t with | some (.array n e) => some (n, e) | _ => none
theorem arrayOf_eq {P : Program} {t e : TypeId} {n : Nat} (h : arrayOf P t = some (n, e)) : P.underlying t = some (.array n e) := by
  unfold arrayOf at h; split at h
  · rename_i n' e' hu; simp only [Option.some.injEq, Prod.mk.injEq] at h; obtain ⟨rfl, rfl⟩ := h; exact hu
  · simp at h

def aindexAddr (P : Program) (t : TypeId) (v i : Value) : Option Value :=
  match i with
  | .int _ n =>
    match v with
    | .slice (some ⟨b, off, none⟩) len es => (sliceElem P t).bind fun e => (tsize P e).bind fun k => if 0 ≤ n ∧ n < (len : Int) then some (.pointer (some ⟨b, off + n.toNat * k, none⟩)) else none
    | .pointer (some ⟨b, off, none⟩) => (arrayOf P t).bind fun (len, e) => (tsize P e).bind fun k => if 0 ≤ n ∧ n < (len : Int) then some (.pointer (some ⟨b, off + n.toNat * k, none⟩)) else none
    | _ => none
  | _ => none
theorem aindexAddr_run {P : Program} {ι : List Pl} {t : TypeId} {v i x cv ci : Value} (hr : VR ι v cv) (hi : VR ι i ci) (h : aindexAddr P t v i = some x) (w : World) : ∃ cx, (Instr.indexAt t cv ci).run P w = .ok cx w ∧ VR ι x cx := by
  unfold aindexAddr at h
  split at h
  · rename_i k n
    cases hi
    split at h
    · rename_i b off len c0
      simp only [Option.bind_eq_some_iff] at h
      obtain ⟨e, he, m, hm, h⟩ := h
      split at h
      · rename_i hn
        simp only [Option.some.injEq] at h
        subst h
        cases hr with
        | slice _ _ _ _ cap ca pl hp h1 h2 h3 h4 =>
          have e3 := h3 (by omega)
          subst e3
          refine ⟨_, ?_, .ptr _ _ _ hp⟩
          simp [Instr.indexAt, asIntOf, run_underlying (sliceElem_eq he), hn.1, hn.2, run_sizeOf hm, add_none, Nat.add_assoc]
      · simp at h
    · rename_i b off
      simp only [Option.bind_eq_some_iff] at h
      obtain ⟨⟨len, e⟩, he, h⟩ := h
      simp only [Option.bind_eq_some_iff] at h
      obtain ⟨m, hm, h⟩ := h
      split at h
      · rename_i hn
        simp only [Option.some.injEq] at h
        subst h
        cases hr with
        | ptr _ _ pl hp =>
          refine ⟨_, ?_, .ptr _ _ _ hp⟩
          simp [Instr.indexAt, asIntOf, run_underlying (arrayOf_eq he), Instr.sureAddr, hn.1, hn.2, run_sizeOf hm, add_none, Nat.add_assoc]
      · simp at h
    · simp at h
  · simp at h

def aextract (v : Value) (i : Nat) : Option Value := match v with | .tuple vs => vs[i]? | _ => none
theorem aextract_run {P : Program} {ι : List Pl} {v x cv : Value} {i : Nat} (hr : VR ι v cv) (h : aextract v i = some x) (w : World) : ∃ cx, (Instr.extract cv i).run P w = .ok cx w ∧ VR ι x cx := by
  unfold aextract at h
  split at h
  · rename_i vs
    cases hr with
    | tuple _ cvs h1 h2 =>
      have hlt : i < vs.size := (Array.getElem?_eq_some_iff.1 h).1
      have e := h2 i hlt
      rw [Array.getD_eq_getD_getElem?, h, Array.getD_eq_getD_getElem?, Array.getElem?_eq_getElem (h1 ▸ hlt)] at e
      exact ⟨cvs[i]'(h1 ▸ hlt), by simp [Instr.extract, Array.getElem?_eq_getElem (h1 ▸ hlt)], by simpa using e⟩
  · simp at h

/-! ### Slices of slices -/
def natIn (v : Option Value) (dflt most : Nat) : Option Nat :=
  match v with
  | none => some dflt
  | some (.int _ n) => if 0 ≤ n ∧ n ≤ (most : Int) then some n.toNat else none
  | _ => none
/-- s[lo:hi] within the length. -/
def aslice (P : Program) (t : TypeId) (v : Value) (lo hi mx : Option Value) : Option Value :=
  match mx with
  | some _ => none
  | none =>
    match v with
    | .string s => match P.underlying t with
      | some .string => (natIn hi s.size s.size).bind fun h => (natIn lo 0 h).map fun l => .string (s.extract l h)
      | _ => none
    | .slice none 0 0 => (sliceElem P t).bind fun e => (tsize P e).bind fun _ => (natIn hi 0 0).bind fun h => (natIn lo 0 h).map fun l => .slice none 0 0
    | .slice (some ⟨b, off, none⟩) len es => (sliceElem P t).bind fun e => (tsize P e).bind fun k => if k = es then (natIn hi len len).bind fun h => (natIn lo 0 h).map fun l => .slice (some ⟨b, off + l * k, none⟩) (h - l) es else none
    | .pointer (some ⟨b, off, none⟩) => (arrayOf P t).bind fun (n, e) => (tsize P e).bind fun k => (natIn hi n n).bind fun h => (natIn lo 0 h).bind fun l => none
    | _ => none
theorem run_sliceBound {P : Program} {k : IntKind} {n : Int} {most : Nat} {code : BoundsCode} (h : 0 ≤ n ∧ n ≤ (most : Int)) (w : World) : (Instr.sliceBound (.int k n) most code).run P w = .ok n.toNat w := by
  simp [Instr.sliceBound, asIntOf, h.1, h.2]
def VRO (ι : List Pl) (v cv : Option Value) : Prop := match v, cv with | none, none => True | some a, some b => VR ι a b | _, _ => False
theorem natIn_rel {ι : List Pl} {v cv : Option Value} {dflt most n : Nat} (h : natIn v dflt most = some n) (hr : VRO ι v cv) :
    (v = none ∧ cv = none ∧ n = dflt) ∨ (∃ k m, v = some (.int k m) ∧ cv = some (.int k m) ∧ 0 ≤ m ∧ m ≤ (most : Int) ∧ n = m.toNat) := by
  unfold natIn at h
  split at h
  · simp only [Option.some.injEq] at h
    subst h
    cases cv with
    | none => exact .inl ⟨rfl, rfl, rfl⟩
    | some c => exact hr.elim
  · rename_i k m
    split at h
    · rename_i hm
      simp only [Option.some.injEq] at h
      subst h
      cases cv with
      | none => exact hr.elim
      | some c => cases hr; exact .inr ⟨k, m, rfl, rfl, hm.1, hm.2, rfl⟩
    · simp at h
  · simp at h
theorem run_bounds {P : Program} {ι : List Pl} {lo hi clo chi : Option Value} {len cap h l : Nat} {isSlice : Bool} (hlo : VRO ι lo clo) (hhi : VRO ι hi chi) (hh : natIn hi len len = some h) (hl : natIn lo 0 h = some l) (hc : len ≤ cap) (w : World) :
    (Instr.sliceBounds isSlice len cap clo chi none).run P w = .ok (l, h, cap) w ∧ l ≤ h ∧ h ≤ len := by
  rcases natIn_rel hh hhi with ⟨rfl, rfl, rfl⟩ | ⟨k, m, rfl, rfl, h0, h1, rfl⟩
  · rcases natIn_rel hl hlo with ⟨rfl, rfl, rfl⟩ | ⟨k', m', rfl, rfl, g0, g1, rfl⟩
    · exact ⟨by simp [Instr.sliceBounds], by omega, by omega⟩
    · exact ⟨by simp [Instr.sliceBounds, run_sliceBound (P := P) ⟨g0, g1⟩], by omega, by omega⟩
  · rcases natIn_rel hl hlo with ⟨rfl, rfl, rfl⟩ | ⟨k', m', rfl, rfl, g0, g1, rfl⟩
    · exact ⟨by simp [Instr.sliceBounds, run_sliceBound (P := P) (most := cap) ⟨h0, by omega⟩], by omega, by omega⟩
    · exact ⟨by simp [Instr.sliceBounds, run_sliceBound (P := P) (most := cap) ⟨h0, by omega⟩, run_sliceBound (P := P) ⟨g0, g1⟩], by omega, by omega⟩
theorem aslice_run {P : Program} {ι : List Pl} {t : TypeId} {v x cv : Value} {lo hi mx clo chi cmx : Option Value} (hr : VR ι v cv) (hlo : VRO ι lo clo) (hhi : VRO ι hi chi) (hmx : VRO ι mx cmx)
    (h : aslice P t v lo hi mx = some x) (w : World) : ∃ cx, (Instr.sliceAt t cv clo chi cmx).run P w = .ok cx w ∧ VR ι x cx := by
  unfold aslice at h
  split at h
  · simp at h
  · cases cmx with
    | some c => exact hmx.elim
    | none =>
      split at h
      · rename_i s
        split at h
        · rename_i hu
          simp only [Option.bind_eq_some_iff, Option.map_eq_some_iff] at h
          obtain ⟨hh, h1, l, h2, rfl⟩ := h
          cases hr
          have hb := (run_bounds (P := P) (isSlice := false) hlo hhi h1 h2 (Nat.le_refl _) w).1
          exact ⟨_, by simp [Instr.sliceAt, Instr.slice, run_underlying hu, hb], .str _⟩
        · simp at h
      · simp only [Option.bind_eq_some_iff, Option.map_eq_some_iff] at h
        obtain ⟨e, he, k, hk, hh, h1, l, h2, rfl⟩ := h
        cases hr
        obtain ⟨hb, b1, b2⟩ := run_bounds (P := P) (isSlice := true) hlo hhi h1 h2 (Nat.le_refl _) w
        have hz : hh = 0 := by omega
        have hlz : l = 0 := by omega
        subst hz hlz
        exact ⟨_, by simp [Instr.sliceAt, Instr.slice, run_underlying (sliceElem_eq he), hb, run_sizeOf hk], .slice0⟩
      · rename_i b off len es
        simp only [Option.bind_eq_some_iff] at h
        obtain ⟨e, he, k, hk, h⟩ := h
        split at h
        rotate_left
        · simp at h
        rename_i hkes
        subst hkes
        simp only [Option.bind_eq_some_iff, Option.map_eq_some_iff] at h
        obtain ⟨hh, h1, l, h2, rfl⟩ := h
        cases hr with
        | slice _ _ _ _ cap ca pl hp g1 g2 g3 g4 =>
          obtain ⟨hb, b1, b2⟩ := run_bounds (P := P) (isSlice := true) hlo hhi h1 h2 g1 w
          refine ⟨.slice (if cap = l then some ca else some (ca.add (l * k))) (hh - l) (cap - l), ?_, ?_⟩
          · simp [Instr.sliceAt, Instr.slice, run_underlying (sliceElem_eq he), hb, run_sizeOf hk]
          · by_cases hc : cap = l
            · rw [if_pos hc]
              subst hc
              rw [show hh - cap = 0 by omega, show cap - cap = 0 by omega]
              exact .slice _ _ _ _ _ _ _ hp (Nat.le_refl _) (by omega) (fun h => absurd h (by omega)) (fun _ h => absurd h (by omega))
            · rw [if_neg hc]
              refine .slice _ _ _ _ _ _ _ hp (by omega) (by omega) (fun _ => by rw [g3 (by omega), add_none, Nat.add_assoc]) (fun he0 _ => ?_)
              have := g4 he0 (by omega)
              have : l * k + (cap - l) * k = cap * k := by rw [← Nat.add_mul]; congr 1; omega
              omega
      · simp only [Option.bind_eq_some_iff] at h
        obtain ⟨⟨n, e⟩, _, h⟩ := h
        simp only [Option.bind_eq_some_iff] at h
        obtain ⟨_, _, _, _, _, _, h⟩ := h
        simp at h
      · simp at h

/-- A block that is a variable's. -/
def isVarB (H : Heap) (b : Nat) : Bool := match H[b]? with | some (.cells .var _) => true | _ => false
/-- a[lo:hi:max] of a variable that is an array. -/
def aslice3 (P : Program) (n : Nat) (e : TypeId) (v : Value) (lo hi mx : Option Value) (H : Heap) : Option Value :=
  match v with
  | .pointer (some ⟨b, off, none⟩) =>
    (tsize P e).bind fun k => (natIn mx n n).bind fun m => (natIn hi m m).bind fun h => (natIn lo 0 h).bind fun l =>
      if (hi.isSome || mx.isNone) && Nat.ble n maxLen && isVarB H b then some (.slice (some ⟨b, off + l * k, none⟩) (h - l) k) else none
  | _ => none
theorem run_bounds3 {P : Program} {ι : List Pl} {lo hi mx clo chi cmx : Option Value} {n h l m : Nat} (hlo : VRO ι lo clo) (hhi : VRO ι hi chi) (hmx : VRO ι mx cmx) (hm : natIn mx n n = some m) (hh : natIn hi m m = some h) (hl : natIn lo 0 h = some l)
    (hs : (hi.isSome || mx.isNone) = true) (w : World) : (Instr.sliceBounds false n n clo chi cmx).run P w = .ok (l, h, m) w ∧ l ≤ h ∧ h ≤ m ∧ m ≤ n := by
  rcases natIn_rel hm hmx with ⟨rfl, rfl, rfl⟩ | ⟨k, a, rfl, rfl, a0, a1, rfl⟩
  · obtain ⟨h1, h2, h3⟩ := run_bounds (P := P) (isSlice := false) hlo hhi hh hl (Nat.le_refl _) w
    exact ⟨h1, h2, h3, Nat.le_refl _⟩
  · rcases natIn_rel hh hhi with ⟨rfl, rfl, rfl⟩ | ⟨k', b, rfl, rfl, b0, b1, rfl⟩
    · simp at hs
    · rcases natIn_rel hl hlo with ⟨rfl, rfl, rfl⟩ | ⟨k2, c, rfl, rfl, c0, c1, rfl⟩
      · exact ⟨by simp [Instr.sliceBounds, run_sliceBound (P := P) ⟨a0, a1⟩, run_sliceBound (P := P) ⟨b0, b1⟩], by omega, by omega, by omega⟩
      · exact ⟨by simp [Instr.sliceBounds, run_sliceBound (P := P) ⟨a0, a1⟩, run_sliceBound (P := P) ⟨b0, b1⟩, run_sliceBound (P := P) ⟨c0, c1⟩], by omega, by omega, by omega⟩
theorem aslice3_run {P : Program} {w0 w : World} {ι : List Pl} {H : Heap} (hw : WR P w0 ι H w) {t e : TypeId} {n : Nat} (hu : arrayOf P t = some (n, e)) {v x cv : Value} {lo hi mx clo chi cmx : Option Value} (hr : VR ι v cv) (hlo : VRO ι lo clo) (hhi : VRO ι hi chi) (hmx : VRO ι mx cmx)
    (h : aslice3 P n e v lo hi mx H = some x) : ∃ cx, (Instr.sliceAt t cv clo chi cmx).run P w = .ok cx w ∧ VR ι x cx := by
  unfold aslice3 at h
  split at h
  · rename_i b off
    simp only [Option.bind_eq_some_iff] at h
    obtain ⟨k, hk, m, hm, hh, h1, l, h2, h⟩ := h
    split at h
    · rename_i hc
      simp only [Bool.and_eq_true] at hc
      obtain ⟨⟨hs, hle⟩, hv⟩ := hc
      simp only [Option.some.injEq] at h
      subst h
      have hle := Nat.le_of_ble_eq_true hle
      obtain ⟨hb, b1, b2, b3⟩ := run_bounds3 (P := P) hlo hhi hmx hm h1 h2 hs w
      cases hr with
      | ptr _ _ pl hp =>
        have hes : pl.esz = 0 := by
          unfold isVarB at hv
          split at hv
          · rename_i c hc
            obtain ⟨pl', hp', hB⟩ := hw.get hc
            rw [hp] at hp'
            simp only [Option.some.injEq] at hp'
            subst hp'
            obtain ⟨cc, e', fr, _, _, h6⟩ := hB
            exact h6
          · simp at hv
        refine ⟨.slice (some (if m = l then ⟨pl.blk, pl.off + off, none⟩ else (⟨pl.blk, pl.off + off, none⟩ : Addr).add (l * k))) (hh - l) (m - l), ?_, ?_⟩
        · simp [Instr.sliceAt, run_underlying (arrayOf_eq hu), Instr.sureAddr, hb, run_sizeOf hk]
        · refine .slice _ _ _ _ _ _ _ hp (by omega) (by omega) (fun hc => ?_) (fun he => absurd hes he)
          rw [if_neg (by omega), add_none, Nat.add_assoc]
    · simp at h
  · simp at h
end Go.Proofs.YtmdpifedcaaobaaDoor.Ax
/- The abstract machine: operators, conversions, made values, and that the real ones follow them. -/
set_option linter.unusedVariables false
set_option linter.unusedSimpArgs false
namespace Go.Proofs.YtmdpifedcaaobaaDoor.Ax
open Go Go.RowKit

def aint (op : BinOp) (k : IntKind) (a b : Int) : Option Value :=
  match op with
  | .add => some (.int k (k.wrap (a + b)))
  | .sub => some (.int k (k.wrap (a - b)))
  | .mul => some (.int k (k.wrap (a * b)))
  | .quo => if b = 0 then none else some (.int k (k.wrap (a.tdiv b)))
  | .rem => if b = 0 then none else some (.int k (a.tmod b))
  | .and => some (.int k (k.wrap (BitVec.ofInt k.bits a &&& BitVec.ofInt k.bits b).toNat))
  | .or => some (.int k (k.wrap (BitVec.ofInt k.bits a ||| BitVec.ofInt k.bits b).toNat))
  | .xor => some (.int k (k.wrap (BitVec.ofInt k.bits a ^^^ BitVec.ofInt k.bits b).toNat))
  | .andNot => some (.int k (k.wrap (BitVec.ofInt k.bits a &&& ~~~ BitVec.ofInt k.bits b).toNat))
  | .eql => some (.bool (a == b))
  | .neq => some (.bool (a != b))
  | .lss => some (.bool (decide (a < b)))
  | .leq => some (.bool (decide (a ≤ b)))
  | .gtr => some (.bool (decide (a > b)))
  | .geq => some (.bool (decide (a ≥ b)))
  | _ => none
def ashift (op : BinOp) (k : IntKind) (a b : Int) : Option Value :=
  if b < 0 then none else
  match op with
  | .shl => some (.int k (k.wrap (a * 2 ^ (min b.toNat k.bits))))
  | .shr => some (.int k (a.fdiv (2 ^ (min b.toNat k.bits))))
  | _ => none
def astr (op : BinOp) (a b : ByteArray) : Option Value :=
  match op with
  | .add => if ((a.size + b.size : Nat) : Int) > 9223372036854775807 then none else some (.string (a ++ b))
  | .eql => some (.bool (a == b))
  | .neq => some (.bool (a != b))
  | .lss => some (.bool (Op.bytesLess a.toList b.toList))
  | .leq => some (.bool (Op.bytesLess a.toList b.toList || a == b))
  | .gtr => some (.bool !(Op.bytesLess a.toList b.toList || a == b))
  | .geq => some (.bool !(Op.bytesLess a.toList b.toList))
  | _ => none
/-- Two cells that lead nowhere. -/
def eq1 : Value → Value → Option Bool
  | .int k a, .int k' b => if k = k' then some (a == b) else none
  | .bool a, .bool b => some (a == b)
  | .string a, .string b => some (a == b)
  | _, _ => none
/-- Structs of whole numbers, bools and strings, field by field. -/
def eqFs (P : Program) (xs ys : Array Value) : List Field → Option Bool
  | [] => some true
  | f :: fs =>
    if f.name = "_" then none else
    match P.underlying f.type with
    | some (.int _) | some .bool | some .string => (xs[f.offset]?).bind fun x => (ys[f.offset]?).bind fun y => (eq1 x y).bind fun b => if b then eqFs P xs ys fs else some false
    | _ => none
/-- Field by field, without haste: all fields are looked at. -/
def eqAll (P : Program) (xs ys : Array Value) : List Field → Option Bool
  | [] => some true
  | f :: fs =>
    if f.name = "_" then none else
    match P.underlying f.type, xs[f.offset]?, ys[f.offset]? with
    | some (.int _), some (.int k a), some (.int k' b) => if k = k' then (eqAll P xs ys fs).map fun r => (a == b) && r else none
    | some .bool, some (.bool a), some (.bool b) => (eqAll P xs ys fs).map fun r => (a == b) && r
    | some .string, some (.string a), some (.string b) => (eqAll P xs ys fs).map fun r => (a == b) && r
    | _, _, _ => none
/-- Arrays of whole numbers, element by element. -/
def eqIts (xs ys : Array Value) : List Nat → Option Bool
  | [] => some true
  | i :: is =>
    match xs[i]?, ys[i]? with
    | some (.int k a), some (.int k' b) => if k = k' then (eqIts xs ys is).map fun r => (a == b) && r else none
    | _, _ => none
def neg? (op : BinOp) (b : Bool) : Option Value := match op with | .eql => some (.bool b) | .neq => some (.bool !b) | _ => none
def abin (P : Program) (op : BinOp) (t : TypeId) (v u : Value) : Option Value :=
  match v, u with
  | .int k a, .int k' b => match op with
    | .shl | .shr => ashift op k a b
    | _ => if k = k' then aint op k a b else none
  | .string a, .string b => astr op a b
  | .bool a, .bool b => match P.underlying t with | some .bool => neg? op (a == b) | _ => none
  | .pointer none, .pointer p => match P.underlying t with | some (.pointer _) => neg? op p.isNone | _ => none
  | .pointer (some _), .pointer none => match P.underlying t with | some (.pointer _) => neg? op false | _ => none
  | .pointer (some a), .pointer (some b) => match P.underlying t with | some (.pointer e) => if a = b then (P.info? e).bind fun _ => neg? op true else none | _ => none
  | .slice none _ _, .slice p _ _ => match P.underlying t with | some (.slice _) => neg? op p.isNone | _ => none
  | .slice (some _) _ _, .slice none _ _ => match P.underlying t with | some (.slice _) => neg? op false | _ => none
  | .map none, .map p => match P.underlying t with | some (.map _ _) => neg? op p.isNone | _ => none
  | .map (some _), .map none => match P.underlying t with | some (.map _ _) => neg? op false | _ => none
  | .nilFunc, .nilFunc => match P.underlying t with | some (.func ..) => neg? op true | _ => none
  | .func .., .nilFunc | .nilFunc, .func .. => match P.underlying t with | some (.func ..) => neg? op false | _ => none
  | .agg xs, .agg ys =>
    match arrayOf P t with
    | some (n, e) => match P.underlying e, P.info? e with
      | some (.int _), some i => if P.eqGuardType P.depth t || i.size != 1 then none else (eqIts xs ys (List.range n)).bind (neg? op)
      | _, _ => none
    | none => (structOf P t).bind fun fs => if P.eqGuardType P.depth t || P.stoodInHeld t then none else (eqAll P xs ys fs.toList).bind (neg? op)
  | _, _ => none

theorem eqAll_run {P : Program} {ι : List Pl} {xs ys cxs cys : Array Value} (hx : xs.size = cxs.size) (hxv : ∀ i, i < xs.size → VR ι (xs.getD i Go.undef) (cxs.getD i Go.undef))
    (hy : ys.size = cys.size) (hyv : ∀ i, i < ys.size → VR ι (ys.getD i Go.undef) (cys.getD i Go.undef)) (d : Nat) (w : World) : ∀ (fs : List Field) (r : Bool), eqAll P xs ys fs = some r → (Op.eqFields (d + 1) cxs cys fs).run P w = .ok r w := by
  have get : ∀ (a ca : Array Value), a.size = ca.size → (∀ i, i < a.size → VR ι (a.getD i Go.undef) (ca.getD i Go.undef)) → ∀ (i : Nat) (v : Value), a[i]? = some v → ∃ cv, ca[i]? = some cv ∧ VR ι v cv := by
    intro a ca h1 h2 i v hv
    have hlt : i < a.size := (Array.getElem?_eq_some_iff.1 hv).1
    have e := h2 i hlt
    rw [Array.getD_eq_getD_getElem?, hv, Array.getD_eq_getD_getElem?, Array.getElem?_eq_getElem (h1 ▸ hlt)] at e
    exact ⟨ca[i]'(h1 ▸ hlt), Array.getElem?_eq_getElem (h1 ▸ hlt), by simpa using e⟩
  intro fs
  induction fs with
  | nil => intro r h; simp only [eqAll, Option.some.injEq] at h; subst h; rfl
  | cons f fs ih =>
    intro r h
    unfold eqAll at h
    split at h
    · simp at h
    rename_i hn
    split at h
    · rename_i kk k a k' b hu ha hb
      split at h
      · rename_i hk
        subst hk
        simp only [Option.map_eq_some_iff] at h
        obtain ⟨r', h', rfl⟩ := h
        obtain ⟨ca, hca, ra⟩ := get _ _ hx hxv _ _ ha
        obtain ⟨cb, hcb, rb⟩ := get _ _ hy hyv _ _ hb
        cases ra
        cases rb
        have hag : (isAgg f.type).run P w = .ok false w := run_isAgg hu w
        simp only [Op.eqFields, hn, ne_eq, not_false_eq_true, if_true, Sem.run_bind, part, hag, Result.andThen_ok, Bool.false_eq_true, if_false, hca, hcb, Sem.run_pure, run_equalIn_int (P := P) w d f.type _ _ a b hu, Sem.run_ite]
        by_cases hab : a = b
        · subst hab; simp [ih r' h']
        · simp [hab]
      · simp at h
    · rename_i a b hu ha hb
      simp only [Option.map_eq_some_iff] at h
      obtain ⟨r', h', rfl⟩ := h
      obtain ⟨ca, hca, ra⟩ := get _ _ hx hxv _ _ ha
      obtain ⟨cb, hcb, rb⟩ := get _ _ hy hyv _ _ hb
      cases ra
      cases rb
      have hag : (isAgg f.type).run P w = .ok false w := run_isAgg hu w
      simp only [Op.eqFields, hn, ne_eq, not_false_eq_true, if_true, Sem.run_bind, part, hag, Result.andThen_ok, Bool.false_eq_true, if_false, hca, hcb, Sem.run_pure, run_equalIn_bool' (P := P) w d f.type a b hu, Sem.run_ite]
      by_cases hab : a = b
      · subst hab; simp [ih r' h']
      · simp [hab]
    · rename_i a b hu ha hb
      simp only [Option.map_eq_some_iff] at h
      obtain ⟨r', h', rfl⟩ := h
      obtain ⟨ca, hca, ra⟩ := get _ _ hx hxv _ _ ha
      obtain ⟨cb, hcb, rb⟩ := get _ _ hy hyv _ _ hb
      cases ra
      cases rb
      have hag : (isAgg f.type).run P w = .ok false w := run_isAgg hu w
      simp only [Op.eqFields, hn, ne_eq, not_false_eq_true, if_true, Sem.run_bind, part, hag, Result.andThen_ok, Bool.false_eq_true, if_false, hca, hcb, Sem.run_pure, run_equalIn_string (P := P) w d f.type a b hu, Sem.run_ite]
      rw [beq_toListBytes]
      by_cases hab : a.toList = b.toList
      · simp [hab, ih r' h']
      · simp [hab]
    · simp at h

theorem eqIts_run {P : Program} {ι : List Pl} {xs ys cxs cys : Array Value} {e : TypeId} {kk : IntKind} (hu : P.underlying e = some (.int kk)) (hx : xs.size = cxs.size) (hxv : ∀ i, i < xs.size → VR ι (xs.getD i Go.undef) (cxs.getD i Go.undef))
    (hy : ys.size = cys.size) (hyv : ∀ i, i < ys.size → VR ι (ys.getD i Go.undef) (cys.getD i Go.undef)) (d : Nat) (w : World) : ∀ (is : List Nat) (r : Bool), eqIts xs ys is = some r → (Op.eqItems (d + 1) e 1 cxs cys is).run P w = .ok r w := by
  have get : ∀ (a ca : Array Value), a.size = ca.size → (∀ i, i < a.size → VR ι (a.getD i Go.undef) (ca.getD i Go.undef)) → ∀ (i : Nat) (v : Value), a[i]? = some v → ∃ cv, ca[i]? = some cv ∧ VR ι v cv := by
    intro a ca h1 h2 i v hv
    have hlt : i < a.size := (Array.getElem?_eq_some_iff.1 hv).1
    have e := h2 i hlt
    rw [Array.getD_eq_getD_getElem?, hv, Array.getD_eq_getD_getElem?, Array.getElem?_eq_getElem (h1 ▸ hlt)] at e
    exact ⟨ca[i]'(h1 ▸ hlt), Array.getElem?_eq_getElem (h1 ▸ hlt), by simpa using e⟩
  intro is
  induction is with
  | nil => intro r h; simp only [eqIts, Option.some.injEq] at h; subst h; rfl
  | cons i is ih =>
    intro r h
    unfold eqIts at h
    split at h
    · rename_i k a k' b ha hb
      split at h
      · rename_i hk
        subst hk
        simp only [Option.map_eq_some_iff] at h
        obtain ⟨r', h', rfl⟩ := h
        obtain ⟨ca, hca, ra⟩ := get _ _ hx hxv _ _ ha
        obtain ⟨cb, hcb, rb⟩ := get _ _ hy hyv _ _ hb
        cases ra
        cases rb
        have hag : (isAgg e).run P w = .ok false w := run_isAgg hu w
        simp only [Op.eqItems, Nat.mul_one, Sem.run_bind, part, hag, Result.andThen_ok, Bool.false_eq_true, if_false, hca, hcb, Sem.run_pure, run_equalIn_int (P := P) w d e _ _ a b hu, Sem.run_ite]
        by_cases hab : a = b
        · subst hab; simp [ih r' h']
        · simp [hab]
      · simp at h
    · simp at h
theorem neg?_run {P : Program} {ι : List Pl} {op : BinOp} {b : Bool} {r : Value} {s : Sem Bool} {w : World} (h : neg? op b = some r) (hs : s.run P w = .ok b w) :
    ∃ cr, VR ι r cr ∧ ((op = .eql ∧ (do pure (.bool (← s)) : Sem Value).run P w = .ok cr w) ∨ (op = .neq ∧ (do pure (.bool (!(← s))) : Sem Value).run P w = .ok cr w)) := by
  unfold neg? at h
  split at h
  · simp only [Option.some.injEq] at h; subst h; exact ⟨_, .bool _, .inl ⟨rfl, by simp [hs]⟩⟩
  · simp only [Option.some.injEq] at h; subst h; exact ⟨_, .bool _, .inr ⟨rfl, by simp [hs]⟩⟩
  · simp at h
theorem aint_run {P : Program} {ι : List Pl} {op : BinOp} {t : TypeId} {x y : Operand} {k : IntKind} {a b : Int} {r : Value} (h : aint op k a b = some r) (w : World) :
    ∃ cr, (do eqGuard op t x y (.int k a) (.int k b); binOp op t (.int k a) (.int k b) : Sem Value).run P w = .ok cr w ∧ VR ι r cr := by
  unfold aint at h
  split at h <;>
    first
    | (simp at h; done)
    | (simp only [Option.some.injEq] at h; subst h; refine ⟨_, ?_, VR.int _ _⟩; simp [eqGuard, binOp, Op.intArith, Op.intBits, Op.intCmp]; done)
    | (simp only [Option.some.injEq] at h; subst h; refine ⟨_, ?_, VR.bool _⟩; simp [eqGuard, binOp, Op.intArith, Op.intBits, Op.intCmp]; done)
    | (split at h
       · simp at h
       · rename_i hb; simp only [Option.some.injEq] at h; subst h; refine ⟨_, ?_, VR.int _ _⟩; simp [eqGuard, binOp, Op.intDiv, hb])
theorem ashift_run {P : Program} {ι : List Pl} {op : BinOp} {t : TypeId} {x y : Operand} {k k' : IntKind} {a b : Int} {r : Value} (ho : op = .shl ∨ op = .shr) (h : ashift op k a b = some r) (w : World) :
    ∃ cr, (do eqGuard op t x y (.int k a) (.int k' b); binOp op t (.int k a) (.int k' b) : Sem Value).run P w = .ok cr w ∧ VR ι r cr := by
  unfold ashift at h
  split at h
  · simp at h
  rename_i hb
  rcases ho with rfl | rfl <;> (simp only [Option.some.injEq] at h; subst h; refine ⟨_, ?_, VR.int _ _⟩; simp [eqGuard, binOp, Op.shift, hb])
theorem astr_run {P : Program} {ι : List Pl} {op : BinOp} {t : TypeId} {x y : Operand} {a b : ByteArray} {r : Value} (h : astr op a b = some r) (w : World) :
    ∃ cr, (do eqGuard op t x y (.string a) (.string b); binOp op t (.string a) (.string b) : Sem Value).run P w = .ok cr w ∧ VR ι r cr := by
  unfold astr at h
  have e : (a == b) = (a.toList == b.toList) := beq_toListBytes a b
  split at h <;>
    first
    | (simp at h; done)
    | (simp only [Option.some.injEq] at h; subst h; refine ⟨_, ?_, VR.bool _⟩; simp [eqGuard, binOp, Op.stringOp, e, bne]; done)
    | (split at h
       · simp at h
       · rename_i hb; simp only [Option.some.injEq] at h; subst h; refine ⟨_, ?_, VR.str _⟩; simp only [eqGuard, binOp, Op.stringOp, IntKind.i64]; simp; omega)
theorem equal_run {P : Program} {ι : List Pl} {op : BinOp} {t : TypeId} {x y : Operand} {cv cu r : Value} {b : Bool} (w : World) (h : neg? op b = some r) (hg : ∀ o, (eqGuard o t x y cv cu).run P w = .ok () w)
    (hb : ∀ w : World, binOp .eql t cv cu = (do pure (.bool (← Op.equal t cv cu))) ∧ binOp .neq t cv cu = (do pure (.bool (!(← Op.equal t cv cu))))) (he : (Op.equal t cv cu).run P w = .ok b w) :
    ∃ cr, (do eqGuard op t x y cv cu; binOp op t cv cu : Sem Value).run P w = .ok cr w ∧ VR ι r cr := by
  obtain ⟨cr, hr, ⟨rfl, h1⟩ | ⟨rfl, h1⟩⟩ := neg?_run (ι := ι) h he
  · exact ⟨cr, by rw [Sem.run_bind, hg, Result.andThen_ok, (hb w).1, h1], hr⟩
  · exact ⟨cr, by rw [Sem.run_bind, hg, Result.andThen_ok, (hb w).2, h1], hr⟩
theorem equal_eq (t : TypeId) (x y : Value) : Op.equal t x y = Op.equalIn (9999 + 1) t x y := rfl
theorem eq_bool {P : Program} {t : TypeId} (h : P.underlying t = some .bool) (a b : Bool) (d : Nat) (w : World) : (Op.equalIn (d + 1) t (.bool a) (.bool b)).run P w = .ok (a == b) w := by simp [Op.equalIn, run_underlying h]
theorem eq_ptr1 {P : Program} {t e : TypeId} (h : P.underlying t = some (.pointer e)) (p : Option Addr) (d : Nat) (w : World) : (Op.equalIn (d + 1) t (.pointer none) (.pointer p)).run P w = .ok p.isNone w := by simp [Op.equalIn, run_underlying h]
theorem eq_ptr2 {P : Program} {t e : TypeId} (h : P.underlying t = some (.pointer e)) (a : Addr) (d : Nat) (w : World) : (Op.equalIn (d + 1) t (.pointer (some a)) (.pointer none)).run P w = .ok false w := by simp [Op.equalIn, run_underlying h]
theorem eq_sl1 {P : Program} {t e : TypeId} (h : P.underlying t = some (.slice e)) (p : Option Addr) (n c n' c' d : Nat) (w : World) : (Op.equalIn (d + 1) t (.slice none n c) (.slice p n' c')).run P w = .ok p.isNone w := by simp [Op.equalIn, run_underlying h]
theorem eq_sl2 {P : Program} {t e : TypeId} (h : P.underlying t = some (.slice e)) (a : Addr) (n c n' c' d : Nat) (w : World) : (Op.equalIn (d + 1) t (.slice (some a) n c) (.slice none n' c')).run P w = .ok false w := by simp [Op.equalIn, run_underlying h]
theorem eq_map1 {P : Program} {t k e : TypeId} (h : P.underlying t = some (.map k e)) (p : Option Nat) (d : Nat) (w : World) : (Op.equalIn (d + 1) t (.map none) (.map p)).run P w = .ok p.isNone w := by simp [Op.equalIn, run_underlying h]
theorem eq_map2 {P : Program} {t k e : TypeId} (h : P.underlying t = some (.map k e)) (a : Nat) (d : Nat) (w : World) : (Op.equalIn (d + 1) t (.map (some a)) (.map none)).run P w = .ok false w := by simp [Op.equalIn, run_underlying h]
theorem eq_fn0 {P : Program} {t : TypeId} {ps rs : Array TypeId} {v : Bool} (h : P.underlying t = some (.func ps rs v)) (d : Nat) (w : World) : (Op.equalIn (d + 1) t .nilFunc .nilFunc).run P w = .ok true w := by simp [Op.equalIn, run_underlying h]
theorem eq_fn1 {P : Program} {t : TypeId} {ps rs : Array TypeId} {v : Bool} (h : P.underlying t = some (.func ps rs v)) (fn : Fn) (a b : Array Value) (d : Nat) (w : World) : (Op.equalIn (d + 1) t (.func fn a b) .nilFunc).run P w = .ok false w := by simp [Op.equalIn, run_underlying h]
theorem eq_fn2 {P : Program} {t : TypeId} {ps rs : Array TypeId} {v : Bool} (h : P.underlying t = some (.func ps rs v)) (fn : Fn) (a b : Array Value) (d : Nat) (w : World) : (Op.equalIn (d + 1) t .nilFunc (.func fn a b)).run P w = .ok false w := by simp [Op.equalIn, run_underlying h]
theorem eq_ptr3 {P : Program} {t e : TypeId} {i : TypeInfo} (h : P.underlying t = some (.pointer e)) (hi : P.info? e = some i) (a : Addr) (d : Nat) (w : World) : (Op.equalIn (d + 1) t (.pointer (some a)) (.pointer (some a))).run P w = .ok true w := by
  have h1 : (sameAddr a a).run P w = .ok true w := by simp [sameAddr]
  simp [Op.equalIn, run_underlying h, sizeOf, typeInfo, hi, h1]
theorem abin_run {P : Program} {ι : List Pl} {op : BinOp} {t : TypeId} {x y : Operand} {v u r cv cu : Value} (hv : VR ι v cv) (hu : VR ι u cu) (h : abin P op t v u = some r) (w : World) :
    ∃ cr, (do eqGuard op t x y cv cu; binOp op t cv cu : Sem Value).run P w = .ok cr w ∧ VR ι r cr := by
  unfold abin at h
  split at h
  · cases hv; cases hu
    split at h
    · exact ashift_run (.inl rfl) h w
    · exact ashift_run (.inr rfl) h w
    · split at h
      · rename_i hk; subst hk; exact aint_run h w
      · simp at h
  · cases hv; cases hu
    exact astr_run h w
  · cases hv; cases hu
    split at h
    · rename_i hu'
      exact equal_run w h (fun o => by cases o <;> simp [eqGuard]) (fun _ => ⟨rfl, rfl⟩) (by rw [equal_eq]; first | exact eq_bool hu' _ _ _ _ | exact eq_ptr1 hu' _ _ _ | exact eq_ptr2 hu' _ _ _ | exact eq_sl1 hu' _ _ _ _ _ _ _ | exact eq_sl2 hu' _ _ _ _ _ _ _ | exact eq_map1 hu' _ _ _ | exact eq_map2 hu' _ _ _ | exact eq_fn0 hu' _ _ | exact eq_fn1 hu' _ _ _ _ _ | exact eq_fn2 hu' _ _ _ _ _)
    · simp at h
  · cases hv
    split at h
    · rename_i hu'
      cases hu
      · exact equal_run w h (fun o => by cases o <;> simp [eqGuard]) (fun _ => ⟨rfl, rfl⟩) (by rw [equal_eq]; first | exact eq_bool hu' _ _ _ _ | exact eq_ptr1 hu' _ _ _ | exact eq_ptr2 hu' _ _ _ | exact eq_sl1 hu' _ _ _ _ _ _ _ | exact eq_sl2 hu' _ _ _ _ _ _ _ | exact eq_map1 hu' _ _ _ | exact eq_map2 hu' _ _ _ | exact eq_fn0 hu' _ _ | exact eq_fn1 hu' _ _ _ _ _ | exact eq_fn2 hu' _ _ _ _ _)
      · exact equal_run w h (fun o => by cases o <;> simp [eqGuard]) (fun _ => ⟨rfl, rfl⟩) (by rw [equal_eq]; first | exact eq_bool hu' _ _ _ _ | exact eq_ptr1 hu' _ _ _ | exact eq_ptr2 hu' _ _ _ | exact eq_sl1 hu' _ _ _ _ _ _ _ | exact eq_sl2 hu' _ _ _ _ _ _ _ | exact eq_map1 hu' _ _ _ | exact eq_map2 hu' _ _ _ | exact eq_fn0 hu' _ _ | exact eq_fn1 hu' _ _ _ _ _ | exact eq_fn2 hu' _ _ _ _ _)
    · simp at h
  · cases hu
    split at h
    · rename_i hu'
      cases hv
      exact equal_run w h (fun o => by cases o <;> simp [eqGuard]) (fun _ => ⟨rfl, rfl⟩) (by rw [equal_eq]; first | exact eq_bool hu' _ _ _ _ | exact eq_ptr1 hu' _ _ _ | exact eq_ptr2 hu' _ _ _ | exact eq_sl1 hu' _ _ _ _ _ _ _ | exact eq_sl2 hu' _ _ _ _ _ _ _ | exact eq_map1 hu' _ _ _ | exact eq_map2 hu' _ _ _ | exact eq_fn0 hu' _ _ | exact eq_fn1 hu' _ _ _ _ _ | exact eq_fn2 hu' _ _ _ _ _)
    · simp at h
  · rename_i a b
    split at h
    · rename_i e hu'
      split at h
      · rename_i hab
        subst hab
        simp only [Option.bind_eq_some_iff] at h
        obtain ⟨i, hi, h⟩ := h
        cases hv with
        | ptr b1 o1 pl1 hp1 =>
          cases hu with
          | ptr _ _ pl2 hp2 =>
            rw [hp1] at hp2
            simp only [Option.some.injEq] at hp2
            subst hp2
            exact equal_run w h (fun o => by cases o <;> simp [eqGuard]) (fun _ => ⟨rfl, rfl⟩) (by rw [equal_eq]; exact eq_ptr3 hu' hi _ _ _)
      · simp at h
    · simp at h
  · cases hv
    split at h
    · rename_i hu'
      cases hu
      · exact equal_run w h (fun o => by cases o <;> simp [eqGuard]) (fun _ => ⟨rfl, rfl⟩) (by rw [equal_eq]; first | exact eq_bool hu' _ _ _ _ | exact eq_ptr1 hu' _ _ _ | exact eq_ptr2 hu' _ _ _ | exact eq_sl1 hu' _ _ _ _ _ _ _ | exact eq_sl2 hu' _ _ _ _ _ _ _ | exact eq_map1 hu' _ _ _ | exact eq_map2 hu' _ _ _ | exact eq_fn0 hu' _ _ | exact eq_fn1 hu' _ _ _ _ _ | exact eq_fn2 hu' _ _ _ _ _)
      · exact equal_run w h (fun o => by cases o <;> simp [eqGuard]) (fun _ => ⟨rfl, rfl⟩) (by rw [equal_eq]; first | exact eq_bool hu' _ _ _ _ | exact eq_ptr1 hu' _ _ _ | exact eq_ptr2 hu' _ _ _ | exact eq_sl1 hu' _ _ _ _ _ _ _ | exact eq_sl2 hu' _ _ _ _ _ _ _ | exact eq_map1 hu' _ _ _ | exact eq_map2 hu' _ _ _ | exact eq_fn0 hu' _ _ | exact eq_fn1 hu' _ _ _ _ _ | exact eq_fn2 hu' _ _ _ _ _)
    · simp at h
  · cases hu
    split at h
    · rename_i hu'
      cases hv
      exact equal_run w h (fun o => by cases o <;> simp [eqGuard]) (fun _ => ⟨rfl, rfl⟩) (by rw [equal_eq]; first | exact eq_bool hu' _ _ _ _ | exact eq_ptr1 hu' _ _ _ | exact eq_ptr2 hu' _ _ _ | exact eq_sl1 hu' _ _ _ _ _ _ _ | exact eq_sl2 hu' _ _ _ _ _ _ _ | exact eq_map1 hu' _ _ _ | exact eq_map2 hu' _ _ _ | exact eq_fn0 hu' _ _ | exact eq_fn1 hu' _ _ _ _ _ | exact eq_fn2 hu' _ _ _ _ _)
    · simp at h
  · cases hv
    split at h
    · rename_i hu'
      cases hu
      · exact equal_run w h (fun o => by cases o <;> simp [eqGuard]) (fun _ => ⟨rfl, rfl⟩) (by rw [equal_eq]; first | exact eq_bool hu' _ _ _ _ | exact eq_ptr1 hu' _ _ _ | exact eq_ptr2 hu' _ _ _ | exact eq_sl1 hu' _ _ _ _ _ _ _ | exact eq_sl2 hu' _ _ _ _ _ _ _ | exact eq_map1 hu' _ _ _ | exact eq_map2 hu' _ _ _ | exact eq_fn0 hu' _ _ | exact eq_fn1 hu' _ _ _ _ _ | exact eq_fn2 hu' _ _ _ _ _)
      · exact equal_run w h (fun o => by cases o <;> simp [eqGuard]) (fun _ => ⟨rfl, rfl⟩) (by rw [equal_eq]; first | exact eq_bool hu' _ _ _ _ | exact eq_ptr1 hu' _ _ _ | exact eq_ptr2 hu' _ _ _ | exact eq_sl1 hu' _ _ _ _ _ _ _ | exact eq_sl2 hu' _ _ _ _ _ _ _ | exact eq_map1 hu' _ _ _ | exact eq_map2 hu' _ _ _ | exact eq_fn0 hu' _ _ | exact eq_fn1 hu' _ _ _ _ _ | exact eq_fn2 hu' _ _ _ _ _)
    · simp at h
  · cases hu
    split at h
    · rename_i hu'
      cases hv
      exact equal_run w h (fun o => by cases o <;> simp [eqGuard]) (fun _ => ⟨rfl, rfl⟩) (by rw [equal_eq]; first | exact eq_bool hu' _ _ _ _ | exact eq_ptr1 hu' _ _ _ | exact eq_ptr2 hu' _ _ _ | exact eq_sl1 hu' _ _ _ _ _ _ _ | exact eq_sl2 hu' _ _ _ _ _ _ _ | exact eq_map1 hu' _ _ _ | exact eq_map2 hu' _ _ _ | exact eq_fn0 hu' _ _ | exact eq_fn1 hu' _ _ _ _ _ | exact eq_fn2 hu' _ _ _ _ _)
    · simp at h
  · cases hv; cases hu
    split at h
    · rename_i hu'
      exact equal_run w h (fun o => by cases o <;> simp [eqGuard]) (fun _ => ⟨rfl, rfl⟩) (by rw [equal_eq]; first | exact eq_bool hu' _ _ _ _ | exact eq_ptr1 hu' _ _ _ | exact eq_ptr2 hu' _ _ _ | exact eq_sl1 hu' _ _ _ _ _ _ _ | exact eq_sl2 hu' _ _ _ _ _ _ _ | exact eq_map1 hu' _ _ _ | exact eq_map2 hu' _ _ _ | exact eq_fn0 hu' _ _ | exact eq_fn1 hu' _ _ _ _ _ | exact eq_fn2 hu' _ _ _ _ _)
    · simp at h
  · cases hv <;> cases hu
    all_goals
      split at h
      · rename_i hu'
        exact equal_run w h (fun o => by cases o <;> simp [eqGuard]) (fun _ => ⟨rfl, rfl⟩) (by rw [equal_eq]; first | exact eq_bool hu' _ _ _ _ | exact eq_ptr1 hu' _ _ _ | exact eq_ptr2 hu' _ _ _ | exact eq_sl1 hu' _ _ _ _ _ _ _ | exact eq_sl2 hu' _ _ _ _ _ _ _ | exact eq_map1 hu' _ _ _ | exact eq_map2 hu' _ _ _ | exact eq_fn0 hu' _ _ | exact eq_fn1 hu' _ _ _ _ _ | exact eq_fn2 hu' _ _ _ _ _)
      · simp at h
  · cases hv <;> cases hu
    all_goals
      split at h
      · rename_i hu'
        exact equal_run w h (fun o => by cases o <;> simp [eqGuard]) (fun _ => ⟨rfl, rfl⟩) (by rw [equal_eq]; first | exact eq_bool hu' _ _ _ _ | exact eq_ptr1 hu' _ _ _ | exact eq_ptr2 hu' _ _ _ | exact eq_sl1 hu' _ _ _ _ _ _ _ | exact eq_sl2 hu' _ _ _ _ _ _ _ | exact eq_map1 hu' _ _ _ | exact eq_map2 hu' _ _ _ | exact eq_fn0 hu' _ _ | exact eq_fn1 hu' _ _ _ _ _ | exact eq_fn2 hu' _ _ _ _ _)
      · simp at h
  · rename_i xs ys
    split at h
    · rename_i n e hao
      split at h
      · rename_i kk i hue hie
        split at h
        · simp at h
        rename_i hgd
        simp only [Bool.or_eq_true, not_or, Bool.not_eq_true, bne_eq_false_iff_eq] at hgd
        simp only [Option.bind_eq_some_iff] at h
        obtain ⟨b, hb, h⟩ := h
        cases hv with
        | agg _ cxs a1 a2 a3 =>
          cases hu with
          | agg _ cys b1 b2 b3 =>
            have he := eqIts_run (P := P) hue a1 a2 b1 b2 9998 w (List.range n) b hb
            have hce : P.cellsOf e = 1 := by simp [Program.cellsOf, hie, hgd.2]
            refine equal_run (b := b) w h (fun o => ?_) (fun _ => ⟨rfl, rfl⟩) ?_
            · cases o <;> simp [eqGuard, hgd.1]
            · rw [equal_eq, run_equalIn_array w 9999 cxs cys (arrayOf_eq hao) hie, hce]
              exact he
      · simp at h
    simp only [Option.bind_eq_some_iff] at h
    obtain ⟨fs, hfs, h⟩ := h
    split at h
    · simp at h
    rename_i hgd
    simp only [Bool.or_eq_true, not_or, Bool.not_eq_true] at hgd
    simp only [Option.bind_eq_some_iff] at h
    obtain ⟨b, hb, h⟩ := h
    cases hv with
    | agg _ cxs a1 a2 a3 =>
      cases hu with
      | agg _ cys b1 b2 b3 =>
        have hut := structOf_eq hfs
        have hfo : P.fieldsOf t = fs := by simp [Program.fieldsOf, hut]
        have he := eqAll_run (P := P) a1 a2 b1 b2 9998 w fs.toList b hb
        refine equal_run (b := b) w h (fun o => ?_) (fun _ => ⟨rfl, rfl⟩) ?_
        · cases o <;> simp [eqGuard, hgd.1]
        · rw [equal_eq, run_equalIn_struct w 9999 t cxs cys (by rw [hfo]; exact hut) hgd.2, hfo]
          exact he
  · simp at h

def aun (op : UnOp) (v : Value) : Option Value :=
  match op, v with
  | .neg, .int k n => some (.int k (k.wrap (0 - n)))
  | .not, .bool b => some (.bool !b)
  | .xor, .int k n => some (.int k (k.wrap (BitVec.ofInt k.bits (if k.signed then -1 else k.max) ^^^ BitVec.ofInt k.bits n).toNat))
  | _, _ => none
theorem aun_run {P : Program} {ι : List Pl} {op : UnOp} {v r cv : Value} (hv : VR ι v cv) (h : aun op v = some r) (w : World) : ∃ cr, (Op.unary op cv).run P w = .ok cr w ∧ VR ι r cr := by
  unfold aun at h
  split at h
  · simp only [Option.some.injEq] at h; subst h; cases hv; exact ⟨_, rfl, .int _ _⟩
  · simp only [Option.some.injEq] at h; subst h; cases hv; exact ⟨_, rfl, .bool _⟩
  · simp only [Option.some.injEq] at h; subst h; cases hv; exact ⟨_, rfl, .int _ _⟩
  · simp at h

end Go.Proofs.YtmdpifedcaaobaaDoor.Ax
/- The abstract machine: built-in calls, conversions, made structs, slices and functions, and that the real ones follow them. -/
set_option linter.unusedVariables false
set_option linter.unusedSimpArgs false
namespace Go.Proofs.YtmdpifedcaaobaaDoor.Ax
open Go Go.RowKit

def hmap (H : Heap) (b : Nat) : Option (List (Value × Value)) := match H[b]? with | some (.map _ es) => some es | _ => none
theorem WR.map {P : Program} {w0 w : World} {ι : List Pl} {H : Heap} (h : WR P w0 ι H w) {b : Nat} {es : List (Value × Value)} (hb : hmap H b = some es) :
    ∃ o pl ms clock, H[b]? = some (.map o es) ∧ ι[b]? = some pl ∧ w.heap[pl.blk]? = some (.map ms clock) ∧ ms.size = es.length ∧ (o = true → w0.heap.size ≤ pl.blk) ∧
      ∀ (i : Nat) (k v : Value), es[i]? = some (k, v) → ∃ m, ms[i]? = some m ∧ VR ι k m.key ∧ VR ι v m.val := by
  unfold hmap at hb
  split at hb
  · rename_i o es' he
    simp only [Option.some.injEq] at hb
    subst hb
    obtain ⟨pl, hp, ms, clock, h1, h2, h3, h4⟩ := h.get he
    exact ⟨o, pl, ms, clock, he, hp, h1, h3, h2, h4⟩
  · simp at hb

def alen (P : Program) (t : TypeId) (v : Value) (H : Heap) : Option Value :=
  match P.underlying t with
  | some .string => match v with | .string s => some (.int .i64 s.size) | _ => none
  | some (.array n _) => some (.int .i64 n)
  | some (.slice _) => match v with | .slice _ n _ => some (.int .i64 n) | _ => none
  | some (.map _ _) => match v with | .map none => some (.int .i64 0) | .map (some b) => (hmap H b).map fun es => .int .i64 es.length | _ => none
  | _ => none
theorem alen_run {P : Program} {w0 w : World} {ι : List Pl} {H : Heap} (hw : WR P w0 ι H w) {t ty : TypeId} {v r cv : Value} {ts : Array TypeId} (ht : ts[0]? = some t) (hv : VR ι v cv) (h : alen P t v H = some r) :
    ∃ cr, (Builtin.len_ ts ty #[cv]).run P w = .ok cr w ∧ VR ι r cr := by
  unfold alen at h
  split at h
  · rename_i hu
    split at h
    · simp only [Option.some.injEq] at h; subst h; cases hv
      exact ⟨_, by simp [Builtin.len_, ht, run_underlying hu, goInt], .int _ _⟩
    · simp at h
  · rename_i hu
    simp only [Option.some.injEq] at h; subst h
    exact ⟨_, by simp [Builtin.len_, ht, run_underlying hu, goInt], .int _ _⟩
  · rename_i hu
    split at h
    · simp only [Option.some.injEq] at h; subst h; cases hv
      · exact ⟨_, by simp [Builtin.len_, ht, run_underlying hu, goInt], .int _ _⟩
      · exact ⟨_, by simp [Builtin.len_, ht, run_underlying hu, goInt], .int _ _⟩
    · simp at h
  · rename_i hu
    split at h
    · simp only [Option.some.injEq] at h; subst h; cases hv
      exact ⟨_, by simp [Builtin.len_, ht, run_underlying hu, goInt], .int _ _⟩
    · simp only [Option.map_eq_some_iff] at h
      obtain ⟨es, he, rfl⟩ := h
      obtain ⟨o, pl, ms, clock, _, hp, h1, h2, _⟩ := hw.map he
      cases hv with
      | map _ pl' hp' =>
        rw [hp] at hp'
        simp only [Option.some.injEq] at hp'
        subst hp'
        refine ⟨.int .i64 (ms.size : Int), ?_, by rw [h2]; exact .int _ _⟩
        simp [Builtin.len_, ht, run_underlying hu, goInt, getObj, Sem.run, h1]
    · simp at h
  · simp at h

/-- The least, or the greatest, of two whole numbers. -/
def aminmax (mx : Bool) (v u : Value) : Option Value :=
  match mx, v, u with
  | true, .int k a, .int k' b => if k = k' then some (.int k (if b > a then b else a)) else none
  | false, .int k a, .int k' b => if k = k' then some (.int k (if b < a then b else a)) else none
  | _, _, _ => none
theorem amin_run {P : Program} {ι : List Pl} {v u r cv cu : Value} (hv : VR ι v cv) (hu : VR ι u cu) (h : aminmax false v u = some r) (ts : Array TypeId) (ty : TypeId) (w : World) : ∃ cr, (Builtin.min_ ts ty #[cv, cu]).run P w = .ok cr w ∧ VR ι r cr := by
  unfold aminmax at h
  split at h
  · simp at *
  · split at h
    · simp only [Option.some.injEq] at h; subst h; cases hv; cases hu
      exact ⟨_, by simp [Builtin.min_, Builtin.min2], .int _ _⟩
    · simp at h
  · simp at h
theorem amax_run {P : Program} {ι : List Pl} {v u r cv cu : Value} (hv : VR ι v cv) (hu : VR ι u cu) (h : aminmax true v u = some r) (ts : Array TypeId) (ty : TypeId) (w : World) : ∃ cr, (Builtin.max_ ts ty #[cv, cu]).run P w = .ok cr w ∧ VR ι r cr := by
  unfold aminmax at h
  split at h
  · split at h
    · simp only [Option.some.injEq] at h; subst h; cases hv; cases hu
      exact ⟨_, by simp [Builtin.max_, Builtin.max2], .int _ _⟩
    · simp at h
  · simp at *
  · simp at h

/-- The cells of what is appended, or copied: of so many elements of a slice, or of a string's bytes. -/
def asrc (k : Nat) (v : Value) (H : Heap) : Option (Nat × List Value) :=
  match v with
  | .slice none n _ => if n = 0 then some (0, []) else none
  | .slice (some ⟨b, off, none⟩) n es => if n = 0 then some (0, []) else if es = k then (hblk H b).bind fun c => (slotsOf c off (n * k)).map fun l => (n, l) else none
  | .string s => some (s.size, s.data.toList.map fun x => .int .u8 x.toNat)
  | _ => none
theorem asrc_run {P : Program} {w0 w : World} {ι : List Pl} {H : Heap} (hw : WR P w0 ι H w) {k n : Nat} {v cv : Value} {l : List Value} (hv : VR ι v cv) (h : asrc k v H = some (n, l)) (hst : ∀ s, v = .string s → k = 1) :
    ∃ cl, (∀ w', Below w.heap.size w w' → (Builtin.firstCells k n cv).run P w' = .ok cl w') ∧ (∀ w', (Builtin.lenOf cv).run P w' = .ok n w') ∧ LR ι l cl.toList ∧ (∀ x ∈ l, x.oneCell' = true) ∧ l.length = n * k := by
  unfold asrc at h
  split at h
  · split at h
    · rename_i hn
      simp only [Option.some.injEq, Prod.mk.injEq] at h
      obtain ⟨rfl, rfl⟩ := h
      subst hn
      cases hv
      exact ⟨#[], fun w' _ => rfl, fun w' => rfl, .nil _, fun x hx => by simp at hx, by simp⟩
    · simp at h
  · rename_i b off n' es
    split at h
    · rename_i hn
      simp only [Option.some.injEq, Prod.mk.injEq] at h
      obtain ⟨rfl, rfl⟩ := h
      subst hn
      cases hv
      exact ⟨#[], fun w' _ => by simp [Builtin.firstCells, loadCells, loadCellsFrom], fun w' => rfl, .nil _, fun x hx => by simp at hx, by simp⟩
    · rename_i hn
      split at h
      rotate_left
      · simp at h
      rename_i hes
      subst hes
      simp only [Option.bind_eq_some_iff, Option.map_eq_some_iff, Prod.mk.injEq] at h
      obtain ⟨c, hc, l', hl, rfl, rfl⟩ := h
      obtain ⟨m, pl, cc, e, fr, hb, hp, hC⟩ := hw.cells hc
      unfold slotsOf at hl
      split at hl
      rotate_left
      · simp at hl
      rename_i hle
      simp only [Option.some.injEq] at hl
      subst hl
      cases hv with
      | slice _ _ _ _ cap ca pl' hp' g1 g2 g3 g4 =>
        rw [hp] at hp'
        simp only [Option.some.injEq] at hp'
        subst hp'
        have e3 := g3 (by omega)
        subst e3
        obtain ⟨hL, hone, hlen, hcell⟩ := hC.range off _ hle
        refine ⟨((cc.toList.drop (pl.off + off)).take (n' * es)).toArray, fun w' hb' => ?_, fun w' => rfl, by simpa using hL, hone, by simp; omega⟩
        have hlt : pl.blk < w.heap.size := (Array.getElem?_eq_some_iff.1 hC.1).1
        exact run_firstCells_some (P := P) w' es n' ⟨pl.blk, pl.off + off, none⟩ n' cap _ hlen (fun j v hj => by
          rw [hb'.cell (p := (⟨pl.blk, pl.off + off, none⟩ : Addr).add j) (by rw [add_none]; exact hlt)]; exact hcell j v hj)
  · rename_i s
    simp only [Option.some.injEq, Prod.mk.injEq] at h
    obtain ⟨rfl, rfl⟩ := h
    have := hst s rfl
    subst this
    cases hv
    refine ⟨s.data.map fun b => .int .u8 b.toNat, fun w' _ => ?_, fun w' => rfl, ?_, fun x hx => ?_, ?_⟩
    · simp only [Builtin.firstCells, Sem.run_pure]
      congr 3
      exact ByteArray.extract_zero_size
    · rw [Array.toList_map]
      exact .const (List.all_eq_true.2 fun x hx => by simp only [List.mem_map] at hx; obtain ⟨y, _, rfl⟩ := hx; rfl)
    · simp only [List.mem_map] at hx
      obtain ⟨y, _, rfl⟩ := hx
      rfl
    · simp
  · simp at h

end Go.Proofs.YtmdpifedcaaobaaDoor.Ax
/- The abstract machine: append, copy, made slices, and that the real ones follow them. -/
set_option linter.unusedVariables false
set_option linter.unusedSimpArgs false
namespace Go.Proofs.YtmdpifedcaaobaaDoor.Ax
open Go Go.RowKit

def noInt : TypeDesc → Bool
  | .slice _ | .string => true
  | _ => false

theorem app_room {P : Program} {t tx ty e : TypeId} {i : TypeInfo} {d : TypeDesc} (ht : P.underlying t = some (.slice e)) (hi : P.info? e = some i) (htx : P.underlying tx = some d) (hd : noInt d = true)
    {a : Option Addr} {sLen sCap n : Nat} {x : Value} {cl : Array Value} {w w' : World} (hlen : (Builtin.lenOf x).run P w = .ok n w) (hf : (Builtin.firstCells i.size n x).run P w = .ok cl w) (hroom : sLen + n ≤ sCap)
    (hst : ∀ b, a = some b → (storeCells (b.add (sLen * i.size)) cl.toList).run P w = .ok () w') (hno : a = none → w' = w) :
    (Builtin.append_ #[t, tx] ty #[.slice a sLen sCap, x]).run P w = .ok (.slice a (sLen + n) sCap) w' := by
  cases d <;> simp [noInt] at hd
  all_goals
    cases a with
    | none =>
      have := hno rfl
      subst this
      simp [Builtin.append_, run_underlying ht, run_underlying htx, sizeOf, typeInfo, hi, hlen, hroom, hf]
    | some b =>
      have h2 := hst b rfl
      simp [Builtin.append_, run_underlying ht, run_underlying htx, sizeOf, typeInfo, hi, hlen, hroom, hf, h2]

theorem app_grow {P : Program} {t tx ty e : TypeId} {i : TypeInfo} {d : TypeDesc} {z : Value} (ht : P.underlying t = some (.slice e)) (hi : P.info? e = some i) (hz : i.zero = some z) (htx : P.underlying tx = some d) (hd : noInt d = true)
    {a : Option Addr} {sLen sCap n : Nat} {x : Value} {cl old : Array Value} {w : World} (hlen : (Builtin.lenOf x).run P w = .ok n w) (hf : (Builtin.firstCells i.size n x).run P w.drew = .ok cl w.drew)
    (ho : (Builtin.firstCells i.size sLen (.slice a sLen sCap)).run P w.drew = .ok old w.drew) (hroom : sCap < sLen + n) (h63 : ((sLen + n : Nat) : Int) ≤ 9223372036854775807) (hb : (sLen + n) * i.bytes ≤ 140737488355328) :
    (Builtin.append_ #[t, tx] ty #[.slice a sLen sCap, x]).run P w = .ok (.slice (some ⟨w.heap.size, 0, none⟩) (sLen + n) (grownCap w (sLen + n) sCap e))
      (w.drew.alloc (.cells (old ++ cl ++ Builtin.zeroCells z.cells (grownCap w (sLen + n) sCap e - (sLen + n))) e)) := by
  have hfit := growslice_fits hroom hb
  have hn : ¬ (sLen + n ≤ sCap) := by omega
  have h63' : ¬ (9223372036854775807 < ((sLen : Int) + (n : Int))) := by omega
  have h48' : ¬ (281474976710656 < Builtin.nextslicecap (sLen + n) sCap * i.bytes) := by omega
  cases d <;> simp [noInt] at hd
  all_goals
    simp [Builtin.append_, run_underlying ht, run_underlying htx, sizeOf, typeInfo, zeroValue, hi, hz, hlen, hn, h63', h48', Question.forced, hf, ho, newRow, grownCap]

def srcOk (x : Value) (k : Nat) : Bool := match x with | .string _ => k == 1 | _ => true
/-- append. What was appended to is gone. -/
def aappend (P : Program) (t tx : TypeId) (s x : Value) (H : Heap) : Option (Value × Heap) :=
  (sliceElem P t).bind fun e => (P.info? e).bind fun i => (P.underlying tx).bind fun d =>
  if noInt d = true ∧ i.size ≠ 0 ∧ srcOk x i.size = true then
    (tzero P e).bind fun zs => (asrc i.size x H).bind fun (n, l) =>
    if zs.length ≠ i.size then none else
    if n = 0 then (match s with | .slice none 0 0 => some (s, H) | .slice (some ⟨_, _, none⟩) _ _ => some (s, H) | _ => none) else
    match s with
    | .slice none 0 0 => if n * i.bytes ≤ 140737488355328 ∧ n ≤ maxLen then some (.slice (some ⟨H.length, 0, none⟩) n i.size, H ++ [.cells (.row e) l]) else none
    | .slice (some ⟨b, off, none⟩) m es =>
      match H[b]? with
      | some (.cells (.row e') c) =>
        if e' = e ∧ es = i.size ∧ (m + n) * i.bytes ≤ 140737488355328 ∧ m + n ≤ maxLen then
          (slotsOf c off (m * i.size)).map fun old => (.slice (some ⟨H.length, 0, none⟩) (m + n) i.size, H.set b .dead ++ [.cells (.row e) (old ++ l)])
        else none
      | _ => none
    | _ => none
  else none

theorem zeroCells_size (z : Array Value) (n : Nat) : (Builtin.zeroCells z n).size = n * z.size := by simp [Builtin.zeroCells]

theorem aappend_run {P : Program} {w0 w : World} {ι : List Pl} {H H' : Heap} (hw : WR P w0 ι H w) {t tx ty : TypeId} {s x r cs cx : Value} (hs : VR ι s cs) (hx : VR ι x cx) (h : aappend P t tx s x H = some (r, H')) :
    ∃ ι' cr w', Ext ι ι' ∧ (Builtin.append_ #[t, tx] ty #[cs, cx]).run P w = .ok cr w' ∧ WR P w0 ι' H' w' ∧ VR ι' r cr := by
  unfold aappend at h
  simp only [Option.bind_eq_some_iff] at h
  obtain ⟨e, he, i, hi, d, hd, h⟩ := h
  split at h
  rotate_left
  · simp at h
  rename_i hc
  obtain ⟨hc1, hc2, hc3⟩ := hc
  simp only [Option.bind_eq_some_iff] at h
  obtain ⟨zs, hzs, ⟨n, l⟩, hl, h⟩ := h
  split at h
  · simp at h
  rename_i hzl
  simp only [ne_eq, Decidable.not_not] at hzl
  have hsl := sliceElem_eq he
  have hes : tsize P e = some i.size := by simp [tsize, hi]
  obtain ⟨cl, hf, hlen, hL, hone, hln⟩ := asrc_run hw hx hl (fun s hs => by subst hs; simpa [srcOk] using hc3)
  have hfw := hf w (Below.refl _ _)
  have hfd := hf w.drew (Below.refl _ _).drew
  -- the zero value
  obtain ⟨z, hz, hzc⟩ : ∃ z, i.zero = some z ∧ z.cells.toList = zs := by
    obtain ⟨z, hz, hzc, _⟩ := run_zeroValue hzs w
    simp only [zeroValue, typeInfo, Sem.run_bind, run_program, Result.andThen_ok, hi, Sem.run_pure] at hz
    cases hzz : i.zero with
    | none => simp [hzz] at hz
    | some z' => simp [hzz] at hz; exact ⟨z', rfl, by rw [hz]; exact hzc⟩
  have hzsz : z.cells.size = i.size := by rw [← hzl, ← hzc]; simp
  split at h
  · -- nothing is appended
    rename_i hn
    subst hn
    have hcl : cl.toList = [] := by
      have h1 := hL.1
      simp only [Nat.zero_mul] at hln
      rw [hln] at h1
      exact List.eq_nil_of_length_eq_zero h1.symm
    split at h
    · simp only [Option.some.injEq, Prod.mk.injEq] at h
      obtain ⟨rfl, rfl⟩ := h
      cases hs
      refine ⟨ι, _, w, .refl _, app_room hsl hi hd hc1 (hlen w) hfw (Nat.le_refl _) (fun b hb => by simp at hb) (fun _ => rfl), hw, .slice0⟩
    · simp only [Option.some.injEq, Prod.mk.injEq] at h
      obtain ⟨rfl, rfl⟩ := h
      have hs' := hs
      cases hs with
      | slice _ _ _ _ cap ca pl hp g1 g2 g3 g4 =>
        exact ⟨ι, _, w, .refl _, app_room hsl hi hd hc1 (hlen w) hfw (by omega) (fun b hb => by rw [hcl]; rfl) (fun _ => rfl), hw, hs'⟩
    · simp at h
  · rename_i hn
    split at h
    · -- onto nil
      split at h
      rotate_left
      · simp at h
      rename_i hb
      simp only [Option.some.injEq, Prod.mk.injEq] at h
      obtain ⟨rfl, rfl⟩ := h
      cases hs
      have hml := hb.2
      unfold maxLen at hml
      have hrun := app_grow (P := P) (ty := ty) hsl hi hz hd hc1 (a := none) (sLen := 0) (sCap := 0) (hlen w) hfd (by simp [Builtin.firstCells]; rfl) (by omega) (by omega) (by rw [Nat.zero_add]; exact hb.1)
      rw [Nat.zero_add] at hrun
      have hg1 := grownCap_ge w n 0 e
      have hg2 := grownCap_le_maxLen w n 0 e hb.2
      have hcls : cl.size = n * i.size := by have := hL.1; simp at this; omega
      have hadd : n * i.size + (grownCap w n 0 e - n) * i.size = grownCap w n 0 e * i.size := by rw [← Nat.add_mul]; congr 1; omega
      obtain ⟨ι', hx', hW, hV⟩ := hw.drew.newRow (cs := l) (ccs := #[] ++ cl ++ Builtin.zeroCells z.cells (grownCap w n 0 e - n)) (by
          rw [Array.toList_append, Array.toList_append, hln]
          have : (#[].toList ++ cl.toList ++ (Builtin.zeroCells z.cells (grownCap w n 0 e - n)).toList).take (n * i.size) = cl.toList := by
            rw [List.take_append_of_le_length (by simp; omega)]
            simp only [List.nil_append, ← hcls]
            exact List.take_of_length_le (by simp)
          rw [this]; exact hL) hone e hes hc2 hln (by simp [zeroCells_size, hzsz]; omega) hg1 hg2
      exact ⟨ι', _, _, hx', hrun, hW, hV⟩
    · -- onto a row
      rename_i b off m es
      split at h
      rotate_left
      · simp at h
      rename_i e' c hb
      split at h
      rotate_left
      · simp at h
      rename_i hq
      obtain ⟨rfl, rfl, hq1, hq2⟩ := hq
      simp only [Option.map_eq_some_iff, Prod.mk.injEq] at h
      obtain ⟨old, hold, rfl, rfl⟩ := h
      unfold slotsOf at hold
      split at hold
      rotate_left
      · simp at hold
      rename_i hle
      simp only [Option.some.injEq] at hold
      subst hold
      obtain ⟨pl, hp, cc, e2, fr, hC, ho, hrow⟩ := hw.get hb
      obtain ⟨rfl, hez, i2, hi2, hi2s⟩ := hrow
      rw [hi] at hi2
      simp only [Option.some.injEq] at hi2
      subst hi2
      have hml := hq2
      unfold maxLen at hml
      cases hs with
      | slice _ _ _ _ cap ca pl' hp' g1 g2 g3 g4 =>
        rw [hp] at hp'
        simp only [Option.some.injEq] at hp'
        subst hp'
        obtain ⟨hLo, honeo, hleno, hcello⟩ := hC.range off (m * i.size) hle
        have hbl : b < H.length := (List.getElem?_eq_some_iff.1 hb).1
        by_cases hroom : m + n ≤ cap
        · -- in place
          have e3 := g3 (by omega)
          subst e3
          have g4' := g4 hez (by omega)
          obtain ⟨ge, hfr⟩ := ho rfl
          have hmul : m * i.size + n * i.size ≤ cap * i.size := by rw [← Nat.add_mul]; exact Nat.mul_le_mul_right _ hroom
          have hcln : cl.toList.length = n * i.size := by rw [← hL.1]; exact hln
          have hone' : ∀ v ∈ cl.toList, v.oneCell' = true := by
            intro v hvm
            obtain ⟨j, hj, rfl⟩ := List.getElem_of_mem hvm
            obtain ⟨c', hc', hr⟩ := hL.2 j (l[j]'(by have := hL.1; omega)) (by simp)
            rw [List.getElem?_eq_getElem hj] at hc'
            simp only [Option.some.injEq] at hc'
            rw [hc', VR.oneCell hr]
            exact hone _ (List.getElem_mem _)
          have hCs := hC.2.1
          obtain ⟨w', hr, e1, e2', e3', e4, e5, e6⟩ := run_storeCells (P := P) hfr cl.toList w cc (pl.off + off + m * i.size) 0 hC.1 (by omega) hone'
          have hrun := app_room (P := P) (ty := ty) hsl hi hd hc1 (a := some ⟨pl.blk, pl.off + off, none⟩) (sLen := m) (sCap := cap) (w' := w') (hlen w) hfw hroom
            (fun b' hb' => by simp only [Option.some.injEq] at hb'; subst hb'; rw [add_none]; exact hr) (fun hh => by simp at hh)
          have hW1 : WR P w0 ι (H.set b .dead) w' := hw.upd hb hp rfl e1 e2' e3' (by omega) (fun k _ hk => e5 k hk) trivial
          have hlen1 : ι.length = (H.set b .dead).length := hW1.len
          have hx' : (ι ++ [⟨pl.blk, pl.off + off, pl.size - off, pl.esz⟩])[H.length]? = some ⟨pl.blk, pl.off + off, pl.size - off, pl.esz⟩ := by rw [← hw.len]; simp
          refine ⟨ι ++ [⟨pl.blk, pl.off + off, pl.size - off, pl.esz⟩], _, w', .push _ _, hrun, hW1.push _ _ ⟨_, e2, fr, ⟨e6, by rw [putA_size]; have := hC.2.1; simp only; omega, ?_, fun j v hj => ?_⟩, fun _ => ⟨ge, hfr⟩, rfl, hez, i, hi, hi2s⟩ ?_, ?_⟩
          · have := hL.1; simp [hln]; omega
          · dsimp only
            rw [← Array.getElem?_toList, putA_toList, putL_get]
            by_cases hj1 : j < m * i.size
            · rw [List.getElem?_append_left (by simp; omega)] at hj
              obtain ⟨cv, hcv, hrv⟩ := hLo.2 j v hj
              refine ⟨honeo v (List.mem_of_getElem? hj), cv, ?_, hrv.ext (.push _ _)⟩
              rw [if_neg (by omega)]
              rw [List.getElem?_take, if_pos hj1, List.getElem?_drop] at hcv
              exact hcv
            · rw [List.getElem?_append_right (by simp; omega)] at hj
              have hlo : ((c.drop off).take (m * i.size)).length = m * i.size := by simp; omega
              rw [hlo] at hj
              have hjl := (List.getElem?_eq_some_iff.1 hj).1
              obtain ⟨cv, hcv, hrv⟩ := hL.2 _ v hj
              refine ⟨hone v (List.mem_of_getElem? hj), cv, ?_, hrv.ext (.push _ _)⟩
              rw [if_pos (by have hcz : cc.toList.length = cc.size := Array.length_toList; have := hL.1; omega), ← hcv]
              congr 1
              omega
          · intro b2 C q h1 h2 ha hbq
            exfalso
            by_cases hbb : b2 = b
            · subst hbb
              rw [List.getElem?_set_self hbl] at h1
              simp only [Option.some.injEq] at h1
              subst h1
              simp [Blk.alive] at ha
            · rw [List.getElem?_set_ne (by omega)] at h1
              exact hbb (hw.inj b b2 _ C pl q hb h1 hp h2 rfl ha hbq.symm).symm
          · exact VR.slice (ι := ι ++ [⟨pl.blk, pl.off + off, pl.size - off, pl.esz⟩]) H.length 0 (m + n) i.size cap ⟨pl.blk, pl.off + off, none⟩ ⟨pl.blk, pl.off + off, pl.size - off, pl.esz⟩ hx' hroom g2 (fun _ => rfl) (fun _ _ => by simp only [Nat.zero_add]; omega)
        · -- a new array
          have hof : (Builtin.firstCells i.size m (.slice (some ca) m cap)).run P w.drew = .ok ((cc.toList.drop (pl.off + off)).take (m * i.size)).toArray w.drew := by
            by_cases hm0 : m = 0
            · subst hm0
              simp [Builtin.firstCells, loadCells, loadCellsFrom]
            · have e3 := g3 (by omega)
              subst e3
              exact run_firstCells_some (P := P) w.drew i.size m ⟨pl.blk, pl.off + off, none⟩ m cap _ hleno (fun j v hj => by simpa using hcello j v hj)
          have hrun := app_grow (P := P) (ty := ty) hsl hi hz hd hc1 (a := some ca) (sLen := m) (sCap := cap) (hlen w) hfd hof (by omega) (by omega) hq1
          have hg1 := grownCap_ge w (m + n) cap e2
          have hg2 := grownCap_le_maxLen w (m + n) cap e2 hq2
          have hcln : cl.toList.length = n * i.size := by rw [← hL.1]; exact hln
          have hmn : m * i.size + n * i.size = (m + n) * i.size := by rw [Nat.add_mul]
          have hadd : (m + n) * i.size + (grownCap w (m + n) cap e2 - (m + n)) * i.size = grownCap w (m + n) cap e2 * i.size := by rw [← Nat.add_mul]; congr 1; omega
          obtain ⟨ι', hx', hW, hV⟩ := (hw.kill b).drew.newRow (cs := (c.drop off).take (m * i.size) ++ l)
            (ccs := ((cc.toList.drop (pl.off + off)).take (m * i.size)).toArray ++ cl ++ Builtin.zeroCells z.cells (grownCap w (m + n) cap e2 - (m + n))) (by
              have hlen2 : ((c.drop off).take (m * i.size) ++ l).length = (m + n) * i.size := by simp; omega
              rw [hlen2, Array.toList_append, Array.toList_append]
              have hl3 : ((cc.toList.drop (pl.off + off)).take (m * i.size) ++ cl.toList).length = (m + n) * i.size := by rw [List.length_append, hcln, hleno]; exact hmn
              have : (((cc.toList.drop (pl.off + off)).take (m * i.size)).toArray.toList ++ cl.toList ++ (Builtin.zeroCells z.cells (grownCap w (m + n) cap e2 - (m + n))).toList).take ((m + n) * i.size) = (cc.toList.drop (pl.off + off)).take (m * i.size) ++ cl.toList := by
                rw [List.toList_toArray, List.take_append_of_le_length (by omega), List.take_of_length_le (by omega)]
              rw [this]
              exact hLo.append hL) (fun v hv => by
                rcases List.mem_append.1 hv with hv | hv
                · exact honeo v hv
                · exact hone v hv) e2 hes hc2 (by simp; omega) (by
                  have : ((cc.toList.drop (pl.off + off)).take (m * i.size)).length = m * i.size := hleno
                  have hcz : cl.size = n * i.size := by simpa using hcln
                  simp only [Array.size_append, List.size_toArray, this, hcz, zeroCells_size, hzsz]; omega) hg1 hg2
          have hl2 : (H.set b .dead).length = H.length := by simp
          rw [hl2] at hV
          exact ⟨ι', _, _, hx', hrun, hW, hV⟩
    · simp at h

end Go.Proofs.YtmdpifedcaaobaaDoor.Ax
/- The abstract machine: made values, copies, conversions, maps, and that the real ones follow them. -/
set_option linter.unusedVariables false
set_option linter.unusedSimpArgs false
namespace Go.Proofs.YtmdpifedcaaobaaDoor.Ax
open Go Go.RowKit

/-! ### Filled structs and slices -/
def fillL (place : Nat → Option (Nat × Nat)) (cells : List Value) : List (Nat × Value) → Option (List Value)
  | [] => some cells
  | (i, v) :: rest =>
    (place i).bind fun (off, size) => (vcells v).bind fun vs => if vs.length ≠ size ∨ off + vs.length > cells.length then none else fillL place (putL cells off vs) rest
theorem foldl_put (vs : List Value) : ∀ (off k : Nat) (cs : Array Value), ((vs.zipIdx k).foldl (fun cs (x : Value × Nat) => cs.setIfInBounds (off + x.2) x.1) cs) = putA cs (off + k) vs := by
  induction vs with
  | nil => intro off k cs; rfl
  | cons v vs ih => intro off k cs; simp only [List.zipIdx_cons, List.foldl_cons, putA]; rw [ih]; rfl
theorem LR.put {ι : List Pl} {xs ys vs ws : List Value} (h : LR ι xs ys) (k : LR ι vs ws) (o : Nat) : LR ι (putL xs o vs) (putL ys o ws) := by
  refine ⟨by rw [putL_length, putL_length]; exact h.1, fun i v hi => ?_⟩
  rw [putL_get] at hi ⊢
  have e1 := h.1
  have e2 := k.1
  split at hi
  · rename_i hc; rw [if_pos (by omega)]; exact k.2 _ v hi
  · rename_i hc; rw [if_neg (by omega)]; exact h.2 _ v hi
theorem putL_one {xs vs : List Value} (h : ∀ x ∈ xs, x.oneCell' = true) (k : ∀ x ∈ vs, x.oneCell' = true) (o : Nat) : ∀ x ∈ putL xs o vs, x.oneCell' = true := by
  intro x hx
  obtain ⟨i, hi, rfl⟩ := List.getElem_of_mem hx
  have e : (putL xs o vs)[i]? = some (putL xs o vs)[i] := by simp
  rw [putL_get] at e
  split at e
  · exact k _ (List.mem_of_getElem? e)
  · exact h _ (List.mem_of_getElem? e)
/-- Parts, one by one. -/
def PR (ι : List Pl) : List (Nat × Value) → List (Nat × Value) → Prop
  | [], [] => True
  | (i, v) :: r, (j, c) :: s => i = j ∧ VR ι v c ∧ PR ι r s
  | _, _ => False
theorem fill_run {ι : List Pl} {place : Nat → Option (Nat × Nat)} : ∀ (parts cparts : List (Nat × Value)) (cells out : List Value) (ccells : Array Value), PR ι parts cparts → LR ι cells ccells.toList →
    (∀ x ∈ cells, x.oneCell' = true) → fillL place cells parts = some out → ∃ cout, Instr.fill place ccells cparts = some cout ∧ LR ι out cout.toList ∧ (∀ x ∈ out, x.oneCell' = true) := by
  intro parts
  induction parts with
  | nil =>
    intro cparts cells out ccells hp hL hone h
    cases cparts with
    | nil => simp only [fillL, Option.some.injEq] at h; subst h; exact ⟨ccells, rfl, hL, hone⟩
    | cons a b => exact hp.elim
  | cons p rest ih =>
    obtain ⟨i, v⟩ := p
    intro cparts cells out ccells hp hL hone h
    cases cparts with
    | nil => exact hp.elim
    | cons q crest =>
      obtain ⟨j, c⟩ := q
      obtain ⟨rfl, hv, hr⟩ := hp
      simp only [fillL, Option.bind_eq_some_iff] at h
      obtain ⟨⟨off, size⟩, hpl, vs, hvs, h⟩ := h
      split at h
      · simp at h
      rename_i hc
      simp only [not_or, ne_eq, Decidable.not_not, Nat.not_lt, gt_iff_lt] at hc
      obtain ⟨hLv, honev⟩ := vcells_rel hv hvs
      have hsz : c.cells.size = vs.length := by have := hLv.1; simp at this; omega
      have hcs : ccells.size = cells.length := by have := hL.1; simp at this; omega
      have hfold : (c.cells.zipIdx.foldl (fun cs (x : Value × Nat) => cs.setIfInBounds (off + x.2) x.1) ccells) = putA ccells off c.cells.toList := by
        have := foldl_put c.cells.toList off 0 ccells
        rw [Nat.add_zero] at this
        rw [← this, ← Array.foldl_toList, Array.toList_zipIdx]
      obtain ⟨cout, h1, h2, h3⟩ := ih crest (putL cells off vs) out (putA ccells off c.cells.toList) hr (by rw [putA_toList]; exact hL.put hLv off) (putL_one hone honev off) h
      refine ⟨cout, ?_, h2, h3⟩
      rw [Instr.fill, hpl]
      simp only [hsz, hcs]
      rw [if_neg (by simp; omega)]
      rw [← h1, ← hfold]

def fieldPlaces (P : Program) (fs : Array Field) : Option (List (Nat × Nat)) := fs.toList.mapM fun f => (tsize P f.type).map fun n => (f.offset, n)
theorem mapM_places {P : Program} (w : World) : ∀ (fs : List Field) (l : List (Nat × Nat)), fs.mapM (fun f => (tsize P f.type).map fun n => (f.offset, n)) = some l →
    (fs.mapM (fun f => do pure (f.offset, ← sizeOf f.type) : Field → Sem (Nat × Nat))).run P w = .ok l w := by
  intro fs
  induction fs with
  | nil => intro l h; simp at h; subst h; rfl
  | cons f fs ih =>
    intro l h
    rw [List.mapM_cons] at h
    simp only [Option.bind_eq_bind, Option.bind_eq_some_iff, Option.map_eq_some_iff, Option.pure_def, Option.some.injEq] at h
    obtain ⟨p, ⟨n, hn, rfl⟩, l', hl', rfl⟩ := h
    rw [List.mapM_cons]
    simp only [Sem.run_bind, run_sizeOf hn, Result.andThen_ok, Sem.run_pure]
    rw [ih l' hl']
    rfl

def abuild (P : Program) (t : TypeId) (parts : List (Nat × Value)) : Option Value :=
  (tzero P t).bind fun zs => (P.underlying t).bind fun d =>
  match d with
  | .struct fs => (fieldPlaces P fs).bind fun pl => (fillL (fun i => pl.toArray[i]?) zs parts).map fun l => .agg l.toArray
  | .array _ e => (tsize P e).bind fun n => (fillL (fun i => some (i * n, n)) zs parts).map fun l => .agg l.toArray
  | _ => none
theorem VR.ofL {ι : List Pl} {xs : List Value} {ys : Array Value} (h : LR ι xs ys.toList) (hone : ∀ x ∈ xs, x.oneCell' = true) : VR ι (.agg xs.toArray) (.agg ys) := by
  refine .agg _ _ (by simpa using h.1) (fun i hi => ?_) (fun i hi => hone _ (by simpa using getD_mem hi))
  have := h.toArr i (by simpa using hi)
  simpa using this
theorem abuild_run {P : Program} {ι : List Pl} {t : TypeId} {parts : List (Nat × Value)} {cparts : Array (Nat × Value)} {r : Value} (hp : PR ι parts cparts.toList) (h : abuild P t parts = some r) (w : World) :
    ∃ cr, (Instr.build t cparts).run P w = .ok cr w ∧ VR ι r cr := by
  unfold abuild at h
  simp only [Option.bind_eq_some_iff] at h
  obtain ⟨zs, hzs, d, hd, h⟩ := h
  obtain ⟨z, hz, hzc, hzo, _, _⟩ := run_zeroValue hzs w
  have hLz : LR ι zs z.cells.toList := by rw [hzc]; exact .const hzo
  have honez : ∀ x ∈ zs, x.oneCell' = true := fun x hx => oneCell_of_const1 (List.all_eq_true.1 hzo x hx)
  split at h
  · rename_i fs
    simp only [Option.bind_eq_some_iff, Option.map_eq_some_iff] at h
    obtain ⟨pl, hpl, l, hl, rfl⟩ := h
    obtain ⟨cout, h1, h2, h3⟩ := fill_run parts cparts.toList zs l z.cells hp hLz honez hl
    have hm := mapM_places (P := P) w fs.toList pl hpl
    have hm2 : (fs.mapM (fun f => do pure (f.offset, ← sizeOf f.type) : Field → Sem (Nat × Nat))).run P w = .ok pl.toArray w := by
      rw [Array.mapM_eq_mapM_toList, Sem.run_map, hm]
      rfl
    refine ⟨.agg cout, ?_, .ofL h2 h3⟩
    simp only [Instr.build, Sem.run_bind, hz, Result.andThen_ok, run_underlying hd, hm2]
    rw [show (fun x => pl.toArray[x]?) = (fun i => pl.toArray[i]?) from rfl, h1]
    rfl
  · rename_i n e
    simp only [Option.bind_eq_some_iff, Option.map_eq_some_iff] at h
    obtain ⟨m, hm, l, hl, rfl⟩ := h
    obtain ⟨cout, h1, h2, h3⟩ := fill_run parts cparts.toList zs l z.cells hp hLz honez hl
    refine ⟨.agg cout, ?_, .ofL h2 h3⟩
    simp only [Instr.build, Sem.run_bind, hz, Result.andThen_ok, run_underlying hd, run_sizeOf hm, h1]
    rfl
  · simp at h

/-- So many times the zero's cells. -/
def zerosL (zs : List Value) : Nat → List Value
  | 0 => []
  | n + 1 => zs ++ zerosL zs n
theorem zerosL_length (zs : List Value) (n : Nat) : (zerosL zs n).length = n * zs.length := by
  induction n with
  | zero => simp [zerosL]
  | succ n ih => simp [zerosL, ih, Nat.add_mul]; omega
theorem zerosL_get (zs : List Value) (n i : Nat) (h : i < n * zs.length) : (zerosL zs n)[i]? = zs[i % zs.length]? := by
  induction n generalizing i with
  | zero => omega
  | succ n ih =>
    rw [zerosL]
    by_cases hi : i < zs.length
    · rw [List.getElem?_append_left hi, Nat.mod_eq_of_lt hi]
    · rw [List.getElem?_append_right (by omega), ih _ (by rw [Nat.add_mul] at h; omega)]
      rw [← Nat.mod_eq_sub_mod (by omega)]
theorem zerosL_const {zs : List Value} (h : zs.all Ax.const1 = true) (n : Nat) : (zerosL zs n).all Ax.const1 = true := by
  induction n with
  | zero => rfl
  | succ n ih => simp only [zerosL, List.all_append, h, ih, Bool.and_self]
theorem range_zeros (z : Array Value) (zs : List Value) (h : z.toList = zs) (n : Nat) (h0 : 0 < zs.length) : ((Array.range (n * zs.length)).map (z[· % z.size]!)).toList = zerosL zs n := by
  apply List.ext_getElem?
  intro i
  by_cases hi : i < n * zs.length
  · rw [zerosL_get _ _ _ hi]
    have hm : i % z.size < z.size := Nat.mod_lt _ (by rw [← h] at h0; simpa using h0)
    have e : zs.length = z.size := by rw [← h]; simp
    have hr : (Array.range (n * zs.length))[i]? = some i := by simp [hi]
    rw [Array.getElem?_toList, Array.getElem?_map, hr]
    simp only [Option.map_some, e, ← h, Array.getElem?_toList, Array.getElem?_eq_getElem hm]
    rw [getElem!_pos z _ hm, Array.length_toList, Array.getElem?_eq_getElem hm]
  · rw [List.getElem?_eq_none (by simp; omega), List.getElem?_eq_none (by rw [zerosL_length]; omega)]

def abuildSlice (P : Program) (t : TypeId) (n : Nat) (parts : List (Nat × Value)) (H : Heap) : Option (Value × Heap) :=
  (sliceElem P t).bind fun e => (tsize P e).bind fun k => (tzero P e).bind fun zs =>
  if k ≠ 0 ∧ zs.length = k ∧ n * k ≤ 16777216 ∧ n ≤ maxLen then (fillL (fun i => some (i * k, k)) (zerosL zs n) parts).map fun l => (.slice (some ⟨H.length, 0, none⟩) n k, H ++ [.cells (.row e) l])
  else none
theorem fillL_length {place : Nat → Option (Nat × Nat)} : ∀ (parts : List (Nat × Value)) (cells out : List Value), fillL place cells parts = some out → out.length = cells.length := by
  intro parts
  induction parts with
  | nil => intro cells out h; simp only [fillL, Option.some.injEq] at h; subst h; rfl
  | cons p rest ih =>
    intro cells out h
    obtain ⟨i, v⟩ := p
    simp only [fillL, Option.bind_eq_some_iff] at h
    obtain ⟨⟨off, size⟩, _, vs, _, h⟩ := h
    split at h
    · simp at h
    · rw [ih _ _ h, putL_length]
theorem abuildSlice_run {P : Program} {w0 w : World} {ι : List Pl} {H H' : Heap} (hw : WR P w0 ι H w) {t : TypeId} {n : Nat} {parts : List (Nat × Value)} {cparts : Array (Nat × Value)} {r : Value} (hp : PR ι parts cparts.toList)
    (h : abuildSlice P t n parts H = some (r, H')) : ∃ ι' cr w', Ext ι ι' ∧ (Instr.buildSlice t n cparts).run P w = .ok cr w' ∧ WR P w0 ι' H' w' ∧ VR ι' r cr := by
  unfold abuildSlice at h
  simp only [Option.bind_eq_some_iff] at h
  obtain ⟨e, he, k, hk, zs, hzs, h⟩ := h
  split at h
  rotate_left
  · simp at h
  rename_i hc
  obtain ⟨hk0, hzl, hbig, hml⟩ := hc
  simp only [Option.map_eq_some_iff, Prod.mk.injEq] at h
  obtain ⟨l, hl, rfl, rfl⟩ := h
  obtain ⟨z, hz, hzc, hzo, _, _⟩ := run_zeroValue hzs w
  have hzsz : z.cells.size = k := by rw [← hzl, ← hzc]; simp
  -- the cells to begin with
  have hbegin : ∃ cc : Array Value, (if n * k = 0 then pure #[] else do pure (← zeroValue e).cells : Sem (Array Value)).run P w = .ok (if n * k = 0 then #[] else z.cells) w ∧
      ((Array.range (n * k)).map ((if n * k = 0 then #[] else z.cells)[· % (if n * k = 0 then #[] else z.cells).size]!)).toList = zerosL zs n := by
    by_cases h0 : n * k = 0
    · refine ⟨#[], by simp [h0], ?_⟩
      have : n = 0 := by
        rcases Nat.mul_eq_zero.1 h0 with h | h
        · exact h
        · exact absurd h hk0
      subst this
      simp [zerosL]
    · refine ⟨#[], by simp [h0, hz], ?_⟩
      simp only [h0, if_false]
      have := range_zeros z.cells zs hzc n (by omega)
      rw [hzl] at this
      exact this
  obtain ⟨_, hb1, hb2⟩ := hbegin
  obtain ⟨cout, h1, h2, h3⟩ := fill_run (ι := ι) parts cparts.toList (zerosL zs n) l ((Array.range (n * k)).map ((if n * k = 0 then #[] else z.cells)[· % (if n * k = 0 then #[] else z.cells).size]!)) hp
    (by rw [hb2]; exact .const (zerosL_const hzo n)) (fun x hx => oneCell_of_const1 (List.all_eq_true.1 (zerosL_const hzo n) x hx)) hl
  have hln : l.length = n * k := by rw [fillL_length _ _ _ hl, zerosL_length, hzl]
  have hcs : cout.size = n * k := by have := h2.1; simp at this; omega
  obtain ⟨ι', hx, hW, hV⟩ := hw.newRow (cs := l) (ccs := cout) (by rw [List.take_of_length_le (by simp; omega)]; exact h2) h3 e hk hk0 hln hcs (Nat.le_refl _) hml
  refine ⟨ι', _, _, hx, ?_, hW, hV⟩
  have hbig' : ¬ (n * k > 2 ^ 24) := by omega
  simp only [Instr.buildSlice, Sem.run_bind, run_underlying (sliceElem_eq he), Result.andThen_ok, run_sizeOf hk, hbig', if_false]
  by_cases h0 : n * k = 0
  · simp only [h0, if_true, Sem.run_bind, Sem.run_pure, Result.andThen_ok] at h1 ⊢
    rw [h1]; rfl
  · simp only [h0, if_false, Sem.run_bind, hz, Sem.run_pure, Result.andThen_ok] at h1 ⊢
    rw [h1]; rfl

end Go.Proofs.YtmdpifedcaaobaaDoor.Ax
/- The abstract machine: make, copy, clear, conversions, maps, and that the real ones follow them. -/
set_option linter.unusedVariables false
set_option linter.unusedSimpArgs false
namespace Go.Proofs.YtmdpifedcaaobaaDoor.Ax
open Go Go.RowKit

theorem wrap_i64 {n : Int} (h0 : -9223372036854775808 ≤ n) (h1 : n ≤ 9223372036854775807) : IntKind.i64.wrap n = n := IntWalk.i64_in _ (by omega)

def amakeSlice (P : Program) (t : TypeId) (l c : Value) (H : Heap) : Option (Value × Heap) :=
  (sliceElem P t).bind fun e => (P.info? e).bind fun i => (tzero P e).bind fun zs =>
  match l, c with
  | .int _ l, .int _ c =>
    if i.size ≠ 0 ∧ zs.length = i.size ∧ 0 ≤ l ∧ l ≤ c ∧ c ≤ 9223372036854775807 ∧ i.bytes * c ≤ 140737488355328 then
      some (.slice (some ⟨H.length, 0, none⟩) l.toNat i.size, H ++ [.cells (.row e) (zerosL zs l.toNat)])
    else none
  | _, _ => none
theorem zerosL_take (zs : List Value) {l c : Nat} (h : l ≤ c) : (zerosL zs c).take (l * zs.length) = zerosL zs l := by
  apply List.ext_getElem?
  intro i
  rw [List.getElem?_take]
  split
  · rename_i hi
    rw [zerosL_get _ _ _ hi, zerosL_get _ _ _ (Nat.lt_of_lt_of_le hi (Nat.mul_le_mul_right _ h))]
  · rw [List.getElem?_eq_none (by rw [zerosL_length]; omega)]
theorem amakeSlice_run {P : Program} {w0 w : World} {ι : List Pl} {H H' : Heap} (hw : WR P w0 ι H w) {t : TypeId} {l c cl cc r : Value} (hl : VR ι l cl) (hc : VR ι c cc) (h : amakeSlice P t l c H = some (r, H')) :
    ∃ ι' cr w', Ext ι ι' ∧ (Instr.makeSlice t cl cc).run P w = .ok cr w' ∧ WR P w0 ι' H' w' ∧ VR ι' r cr := by
  unfold amakeSlice at h
  simp only [Option.bind_eq_some_iff] at h
  obtain ⟨e, he, i, hi, zs, hzs, h⟩ := h
  split at h
  rotate_left
  · simp at h
  rename_i k l k' c
  split at h
  rotate_left
  · simp at h
  rename_i hq
  obtain ⟨h0, hzl, hl0, hlc, hc63, hb⟩ := hq
  simp only [Option.some.injEq, Prod.mk.injEq] at h
  obtain ⟨rfl, rfl⟩ := h
  cases hl; cases hc
  obtain ⟨z, hz, hzc, hzo, _, _⟩ := run_zeroValue hzs w
  have hes : tsize P e = some i.size := by simp [tsize, hi]
  have hwl : IntKind.i64.wrap l = l := wrap_i64 (by omega) (by omega)
  have hwc : IntKind.i64.wrap c = c := wrap_i64 (by omega) (by omega)
  have hzsz : z.cells.size = i.size := by rw [← hzl, ← hzc]; simp
  have hcells : ∃ cells : Array Value, cells.toList = zerosL zs c.toNat ∧ ∀ w : World, (zeroValue e).run P w = .ok z w →
      (do let zero ← (if c.toNat * i.size = 0 then pure #[] else do pure (← zeroValue e).cells : Sem (Array Value)); pure ((Array.range (c.toNat * i.size)).map (zero[· % zero.size]!)) : Sem (Array Value)).run P w = .ok cells w := by
    by_cases hcz : c.toNat * i.size = 0
    · have hc0 : c.toNat = 0 := by
        rcases Nat.mul_eq_zero.1 hcz with h | h
        · exact h
        · exact absurd h h0
      exact ⟨#[], by rw [hc0]; rfl, fun w _ => by simp [hcz]⟩
    · refine ⟨(Array.range (c.toNat * i.size)).map (z.cells[· % z.cells.size]!), ?_, fun w hz => by simp [hcz, hz]⟩
      have := range_zeros z.cells zs hzc c.toNat (by omega)
      rw [hzl] at this
      exact this
  obtain ⟨cells, hcl, hrunc⟩ := hcells
  have hsz : cells.size = c.toNat * i.size := by
    have := congrArg List.length hcl
    rw [zerosL_length, hzl] at this
    simpa using this
  obtain ⟨ι', hx, hW, hV⟩ := hw.newRow (cs := zerosL zs l.toNat) (ccs := cells)
    (by rw [hcl, zerosL_length, zerosL_take zs (by omega)]; exact .const (zerosL_const hzo _)) (fun x hx => oneCell_of_const1 (List.all_eq_true.1 (zerosL_const hzo _) x hx)) e hes h0
    (by rw [zerosL_length, hzl]) hsz (by omega : l.toNat ≤ c.toNat) (by unfold maxLen; omega)
  refine ⟨ι', _, _, hx, ?_, hW, hV⟩
  have t1 : ¬ (c < 0) := by omega
  have t2 : ¬ ((i.bytes : Int) * c > 2 ^ 48) := by omega
  have t3 : ¬ (l < 0) := by omega
  have t4 : ¬ (l > c) := by omega
  have hr := hrunc w hz
  simp only [Instr.makeSlice, Sem.run_bind, run_underlying (sliceElem_eq he), Result.andThen_ok, asInt, asIntOf, Sem.run_pure, typeInfo, run_program, hi, hwl, hwc, t1, t2, t3, t4, decide_false, Bool.or_self, Bool.false_eq_true, if_false, run_askRoom, run_sizeOf hes]
  simp only [Sem.run_bind, Sem.run_pure] at hr
  split at hr
  · rename_i hcz
    simp only [Sem.run_pure, Result.andThen_ok, Result.ok.injEq, and_true] at hr
    simp only [hcz, if_true, Sem.run_bind, Sem.run_pure, Result.andThen_ok]
    rw [← hr]
    simp [newRow, hcz]
  · rename_i hcz
    simp only [Sem.run_bind, hz, Sem.run_pure, Result.andThen_ok, Result.ok.injEq, and_true] at hr
    simp only [hcz, if_false, Sem.run_bind, hz, Sem.run_pure, Result.andThen_ok]
    rw [← hr]
    simp [newRow]

/-- copy between slices. -/
def acopy (P : Program) (t : TypeId) (d s : Value) (H : Heap) : Option (Value × Heap) :=
  (sliceElem P t).bind fun e => (tsize P e).bind fun k =>
  match d, s with
  | .slice a n es, .slice a' n' es' =>
    if min n' n = 0 then some (.int .i64 0, H) else
    match a, a' with
    | some ⟨b, off, none⟩, some ⟨b', off', none⟩ => if es = k ∧ es' = k then (hblk H b').bind fun c => (slotsOf c off' (min n' n * k)).bind fun l => (hput H b off l).map fun H' => (.int .i64 (min n' n : Nat), H') else none
    | _, _ => none
  | _, _ => none
theorem acopy_run {P : Program} {w0 w : World} {ι : List Pl} {H H' : Heap} (hw : WR P w0 ι H w) {t ty : TypeId} {ts : Array TypeId} {d s r cd cs : Value} (ht : ts[0]? = some t) (hd : VR ι d cd) (hs : VR ι s cs) (h : acopy P t d s H = some (r, H')) :
    ∃ cr w', (Builtin.copy_ ts ty #[cd, cs]).run P w = .ok cr w' ∧ WR P w0 ι H' w' ∧ VR ι r cr := by
  unfold acopy at h
  simp only [Option.bind_eq_some_iff] at h
  obtain ⟨e, he, k, hk, h⟩ := h
  split at h
  rotate_left
  · simp at h
  rename_i a n es a' n' es'
  -- the shape of the two
  obtain ⟨ca, cap, rfl, hca⟩ : ∃ ca cap, cd = .slice ca n cap ∧ (a = none → ca = none) := by
    cases hd
    · exact ⟨none, 0, rfl, fun _ => rfl⟩
    · exact ⟨_, _, rfl, fun h => by simp at h⟩
  obtain ⟨ca', cap', rfl⟩ : ∃ ca cap, cs = .slice ca n' cap := by
    cases hs
    · exact ⟨none, 0, rfl⟩
    · exact ⟨_, _, rfl⟩
  split at h
  · rename_i hz
    simp only [Option.some.injEq, Prod.mk.injEq] at h
    obtain ⟨rfl, rfl⟩ := h
    refine ⟨_, w, ?_, hw, .int _ _⟩
    have hz' : Nat.min n' n = 0 := hz
    cases ca' with
    | none => cases ca <;> simp [Builtin.copy_, ht, run_underlying (sliceElem_eq he), Builtin.lenOf, run_sizeOf hk, hz', Builtin.firstCells, goInt, storeCells]
    | some q => cases ca <;> simp [Builtin.copy_, ht, run_underlying (sliceElem_eq he), Builtin.lenOf, run_sizeOf hk, hz', Builtin.firstCells, loadCells, loadCellsFrom, goInt, storeCells]
  · rename_i hz
    split at h
    rotate_left
    · simp at h
    rename_i b off b' off'
    split at h
    rotate_left
    · simp at h
    rename_i hes
    obtain ⟨rfl, rfl⟩ := hes
    simp only [Option.bind_eq_some_iff, Option.map_eq_some_iff, Prod.mk.injEq] at h
    obtain ⟨c, hc, l, hl, H1, hp, rfl, rfl⟩ := h
    unfold slotsOf at hl
    split at hl
    rotate_left
    · simp at hl
    rename_i hle
    simp only [Option.some.injEq] at hl
    obtain ⟨m, pl, cc, e1, fr, hb, hpl, hC⟩ := hw.cells hc
    obtain ⟨hL, hone, hlen, hcell⟩ := hC.range off' _ hle
    rw [hl] at hL hone
    cases hs with
    | slice _ _ _ _ _ _ pl' hp' g1 g2 g3 g4 =>
      rw [hpl] at hp'
      simp only [Option.some.injEq] at hp'
      subst hp'
      have e3 := g3 (by omega)
      subst e3
      cases hd with
      | slice _ _ _ _ _ _ pl2 hp2 f1 f2 f3 f4 =>
        have e4 := f3 (by omega)
        subst e4
        obtain ⟨w', hr, hW⟩ := hw.store hp hL hone hp2
        refine ⟨_, w', ?_, hW, .int _ _⟩
        have hfc := run_firstCells_some (P := P) w _ (min n' n) ⟨pl.blk, pl.off + off', none⟩ n' cap' _ hlen hcell
        have hmm : Nat.min n' n = min n' n := rfl
        simp [Builtin.copy_, ht, run_underlying (sliceElem_eq he), Builtin.lenOf, run_sizeOf hk, hmm, hfc, goInt, hr]

/-- clear, of a slice. -/
def aclear (P : Program) (t : TypeId) (s : Value) (H : Heap) : Option Heap :=
  (sliceElem P t).bind fun e => (tzero P e).bind fun zs =>
  match s with
  | .slice none 0 0 => some H
  | .slice (some ⟨b, off, none⟩) n es => if n = 0 then some H else hput H b off (zerosL zs n)
  | _ => none
theorem zeroCells_list (z : Array Value) (zs : List Value) (h : z.toList = zs) (n : Nat) : (Builtin.zeroCells z n).toList = zerosL zs n := by
  by_cases h0 : 0 < zs.length
  · have := range_zeros z zs h n h0
    unfold Builtin.zeroCells
    rw [show z.size = zs.length by rw [← h]; simp] at this ⊢
    exact this
  · have hz : zs = [] := List.eq_nil_of_length_eq_zero (by omega)
    have : (zerosL zs n).length = 0 := by rw [zerosL_length, hz]; simp
    rw [List.eq_nil_of_length_eq_zero this]
    apply List.eq_nil_of_length_eq_zero
    rw [Array.length_toList, zeroCells_size]
    rw [show z.size = zs.length by rw [← h]; simp, hz]; simp
theorem aclear_run {P : Program} {w0 w : World} {ι : List Pl} {H H' : Heap} (hw : WR P w0 ι H w) {t ty : TypeId} {ts : Array TypeId} {s cs : Value} (ht : ts[0]? = some t) (hs : VR ι s cs) (h : aclear P t s H = some H') :
    ∃ w', (Builtin.clear_ ts ty #[cs]).run P w = .ok undef w' ∧ WR P w0 ι H' w' := by
  unfold aclear at h
  simp only [Option.bind_eq_some_iff] at h
  obtain ⟨e, he, zs, hzs, h⟩ := h
  split at h
  · simp only [Option.some.injEq] at h
    subst h
    cases hs
    exact ⟨w, by simp [Builtin.clear_, ht, run_underlying (sliceElem_eq he)]; rfl, hw⟩
  · rename_i b off n es
    cases hs with
    | slice _ _ _ _ cap ca pl hp g1 g2 g3 g4 =>
      split at h
      · rename_i hn
        subst hn
        simp only [Option.some.injEq] at h
        subst h
        exact ⟨w, by simp [Builtin.clear_, ht, run_underlying (sliceElem_eq he)]; rfl, hw⟩
      · rename_i hn
        have e3 := g3 (by omega)
        subst e3
        obtain ⟨z, hz, hzc, hzo, _, _⟩ := run_zeroValue hzs w
        have hzl := zeroCells_list z.cells zs hzc n
        obtain ⟨w', hr, hW⟩ := hw.store h (cvs := (Builtin.zeroCells z.cells n).toList) (by rw [hzl]; exact .const (zerosL_const hzo n)) (fun x hx => oneCell_of_const1 (List.all_eq_true.1 (zerosL_const hzo n) x hx)) hp
        refine ⟨w', ?_, hW⟩
        cases n with
        | zero => exact absurd rfl hn
        | succ n =>
          simp only [Builtin.clear_, ht, List.getElem?_toArray, List.getElem?_cons_zero, Sem.run_bind, run_underlying (sliceElem_eq he), Result.andThen_ok]
          simp only [Sem.run_bind, hz, Result.andThen_ok, hr]
          rfl
  · simp at h

/-! ### Conversions -/
def aint8s : List Value → Option (List UInt8)
  | [] => some []
  | .int .u8 n :: r => (aint8s r).map (UInt8.ofNat n.toNat :: ·)
  | _ => none
def aconvert (P : Program) (src dst : TypeId) (v : Value) (H : Heap) : Option Value :=
  (P.underlying src).bind fun ds => (P.underlying dst).bind fun dd =>
  match ds, dd with
  | _, .int k => match v with | .int _ n => some (.int k (k.wrap n)) | _ => none
  | .string, .string => match v with | .string s => some (.string s) | _ => none
  | .slice e, .string =>
    match P.underlying e with
    | some (.int .u8) =>
      match v with
      | .slice none 0 0 => some (.string .empty)
      | .slice (some ⟨b, off, none⟩) n es => if n = 0 then some (.string .empty) else (hblk H b).bind fun c => (slotsOf c off n).bind fun l => (aint8s l).map fun bs => .string ⟨bs.toArray⟩
      | _ => none
    | _ => none
  | .pointer t, .unsafePointer =>
    match v with
    | .pointer none => some (.pointer none)
    | .pointer (some ⟨b, off, none⟩) => (P.info? t).bind fun j => if j.size = 0 then none else match H[b]? with
      | some (.cells (.one T) _) => if off < P.cellsOf T then some (.pointer (some ⟨b, off, none⟩)) else none
      | _ => none
    | _ => none
  | .unsafePointer, .pointer u =>
    match v with
    | .pointer none => some (.pointer none)
    | .pointer (some ⟨b, off, none⟩) => (P.info? u).bind fun j => match H[b]? with
      | some (.cells (.one T) _) => if P.cellsOf T ≠ 0 ∧ liesAt P P.depth T 1 off u 1 = true then some (.pointer (some ⟨b, off, none⟩)) else none
      | _ => none
    | _ => none
  | _, _ => none
theorem aint8s_rel {P : Program} {w : World} {ι : List Pl} {f : Value → ByteArray → Sem (ForInStep ByteArray)} (hf : ∀ (n : Int) (s : ByteArray), (f (.int .u8 n) s).run P w = .ok (.yield (s.push (UInt8.ofNat n.toNat))) w) :
    ∀ (l cl : List Value) (bs : List UInt8) (acc : ByteArray), LR ι l cl → aint8s l = some bs → (forIn cl acc f).run P w = .ok ⟨acc.data ++ bs.toArray⟩ w := by
  intro l
  induction l with
  | nil =>
    intro cl bs acc hL h
    cases cl with
    | cons a b => have := hL.1; simp at this
    | nil =>
      simp only [aint8s, Option.some.injEq] at h
      subst h
      simp
  | cons v l ih =>
    intro cl bs acc hL h
    cases cl with
    | nil => have := hL.1; simp at this
    | cons c cl =>
      have hv : VR ι v c := by
        obtain ⟨c', hc, hr⟩ := hL.2 0 v rfl
        simp only [List.getElem?_cons_zero, Option.some.injEq] at hc
        rw [hc]; exact hr
      have hL' : LR ι l cl := ⟨by have := hL.1; simpa using this, fun i v' hi => by simpa using hL.2 (i + 1) v' (by simpa using hi)⟩
      unfold aint8s at h
      split at h
      · simp at *
      · rename_i n r hvr
        simp only [List.cons.injEq] at hvr
        obtain ⟨rfl, rfl⟩ := hvr
        simp only [Option.map_eq_some_iff] at h
        obtain ⟨bs', hbs, rfl⟩ := h
        cases hv
        rw [List.forIn_cons, Sem.run_bind, hf]
        simp only [Result.andThen_ok]
        rw [ih cl bs' (acc.push (UInt8.ofNat n.toNat)) hL' hbs]
        congr 1
        apply ByteArray.ext
        apply Array.ext'
        simp
      · simp at h

theorem aconvert_run {P : Program} {w0 w : World} {ι : List Pl} {H : Heap} (hw : WR P w0 ι H w) {src dst : TypeId} {v r cv : Value} (hv : VR ι v cv) (h : aconvert P src dst v H = some r) :
    ∃ cr, (convert src dst cv).run P w = .ok cr w ∧ VR ι r cr := by
  unfold aconvert at h
  simp only [Option.bind_eq_some_iff] at h
  obtain ⟨ds, hs, dd, hd, h⟩ := h
  split at h
  · split at h
    · simp only [Option.some.injEq] at h; subst h; cases hv
      exact ⟨_, by simp [convert, run_underlying hs, run_underlying hd, Conv.intToInt], .int _ _⟩
    · simp at h
  · split at h
    · simp only [Option.some.injEq] at h; subst h; cases hv
      exact ⟨_, by simp [convert, run_underlying hs, run_underlying hd], .str _⟩
    · simp at h
  · split at h
    · rename_i e hu
      split at h
      · simp only [Option.some.injEq] at h; subst h; cases hv
        exact ⟨_, by simp [convert, run_underlying hs, run_underlying hd, run_underlying hu, Conv.bytesToString], .str _⟩
      · rename_i b off n es
        cases hv with
        | slice _ _ _ _ cap ca pl hp g1 g2 g3 g4 =>
          split at h
          · rename_i hn
            subst hn
            simp only [Option.some.injEq] at h
            subst h
            exact ⟨.string .empty, by simp [convert, run_underlying hs, run_underlying hd, run_underlying hu, Conv.bytesToString, loadCells, loadCellsFrom], .str _⟩
          · rename_i hn
            have e3 := g3 (by omega)
            subst e3
            simp only [Option.bind_eq_some_iff, Option.map_eq_some_iff] at h
            obtain ⟨c, hc, l, hl, bs, hbs, rfl⟩ := h
            unfold slotsOf at hl
            split at hl
            rotate_left
            · simp at hl
            rename_i hle
            simp only [Option.some.injEq] at hl
            obtain ⟨m, pl', cc, e1, fr, hb, hp', hC⟩ := hw.cells hc
            rw [hp] at hp'
            simp only [Option.some.injEq] at hp'
            subst hp'
            obtain ⟨hL, hone, hlen, hcell⟩ := hC.range off _ hle
            rw [hl] at hL hone
            have hld := run_loadCells_list (P := P) w ⟨pl.blk, pl.off + off, none⟩ _ hcell
            rw [hlen] at hld
            refine ⟨.string ⟨bs.toArray⟩, ?_, .str _⟩
            simp only [convert, Sem.run_bind, run_underlying hs, run_underlying hd, Result.andThen_ok, run_underlying hu, Conv.bytesToString, hld]
            rw [← Array.forIn_toList, List.toList_toArray]
            rw [aint8s_rel (P := P) (w := w) (ι := ι) (fun n s => by simp) l _ bs ByteArray.empty hL hbs]
            simp
      · simp at h
    · simp at h
  · rename_i t
    split at h
    · simp only [Option.some.injEq] at h; subst h; cases hv
      exact ⟨_, by simp [convert, run_underlying hs, run_underlying hd, Conv.unsafePointer], .ptr0⟩
    · rename_i b off
      simp only [Option.bind_eq_some_iff] at h
      obtain ⟨j, hj, h⟩ := h
      split at h
      · simp at h
      · rename_i hj0
        split at h
        · rename_i T c hb
          split at h
          · rename_i hlt
            simp only [Option.some.injEq] at h
            subst h
            cases hv with
            | ptr _ _ pl hp =>
              obtain ⟨cc, e, fr, ⟨h1, h2, h3, h4⟩, h5, h6, rfl, h8, h9, h10⟩ := hw.blk b _ pl hb hp
              have hsh : w.shape? pl.blk = some (e, cc.size) := by simp [World.shape?, h1]
              have hlt' : pl.off + off < cc.size := by omega
              refine ⟨_, ?_, .ptr b off pl hp⟩
              simp [convert, run_underlying hs, run_underlying hd, Conv.unsafePointer, Conv.seenAt, viewAt, cellsIn, hsh, sizeOf, typeInfo, hj, hj0]
              intro h
              omega
          · simp at h
        · simp at h
    · simp at h
  · rename_i u
    split at h
    · simp only [Option.some.injEq] at h; subst h; cases hv
      exact ⟨_, by simp [convert, run_underlying hs, run_underlying hd, Conv.unsafePointer], .ptr0⟩
    · rename_i b off
      simp only [Option.bind_eq_some_iff] at h
      obtain ⟨j, hj, h⟩ := h
      split at h
      · rename_i T c hb
        split at h
        · rename_i hlt
          simp only [Option.some.injEq] at h
          subst h
          cases hv with
          | ptr _ _ pl hp =>
            obtain ⟨cc, e, fr, ⟨h1, h2, h3, h4⟩, h5, h6, rfl, h8, h9, h10⟩ := hw.blk b _ pl hb hp
            have hsh : w.shape? pl.blk = some (e, cc.size) := by simp [World.shape?, h1]
            have h1' : P.cellsOf e / P.cellsOf e = 1 := Nat.div_self (Nat.pos_of_ne_zero hlt.1)
            have hl : liesAt P P.depth e (cc.size / P.cellsOf e) (pl.off + off) u 1 = true := by rw [h9, h1', h8, Nat.zero_add]; exact hlt.2
            refine ⟨_, ?_, .ptr b off pl hp⟩
            simp [convert, run_underlying hs, run_underlying hd, Conv.unsafePointer, Conv.seenAt, viewAt, hsh, variablesAt, hl, sizeOf, typeInfo, hj]
        · simp at h
      · simp at h
    · simp at h
  · simp at h

/-! ### A string over bytes -/
def asliceData : Value → Option Value
  | .slice none 0 0 => some (.pointer none)
  | .slice (some ⟨b, off, none⟩) (n + 1) _ => some (.pointer (some ⟨b, off, none⟩))
  | _ => none
theorem asliceData_run {P : Program} {ι : List Pl} {v r cv : Value} (hv : VR ι v cv) (h : asliceData v = some r) (ts : Array TypeId) (ty : TypeId) (w : World) : ∃ cr, (Builtin.unsafeSliceData_ ts ty #[cv]).run P w = .ok cr w ∧ VR ι r cr := by
  unfold asliceData at h
  split at h
  · simp only [Option.some.injEq] at h; subst h; cases hv
    exact ⟨_, rfl, .ptr0⟩
  · rename_i b off n es
    simp only [Option.some.injEq] at h
    subst h
    cases hv with
    | slice _ _ _ _ cap ca pl hp g1 g2 g3 g4 =>
      obtain ⟨k, rfl⟩ : ∃ k, cap = k + 1 := ⟨cap - 1, by omega⟩
      have := g3 (by omega)
      subst this
      exact ⟨_, rfl, .ptr b off pl hp⟩
  · simp at h
/-- A string out of a row's bytes: the row is gone. -/
def aunsafeString (P : Program) (tp : TypeId) (p n : Value) (H : Heap) : Option (Value × Heap) :=
  match p, n with
  | .pointer none, .int .i64 0 => some (.string .empty, H)
  | .pointer (some ⟨b, off, none⟩), .int .i64 n =>
    match H[b]? with
    | some (.cells (.row e) c) =>
      match P.underlying tp with
      | some (.pointer e') =>
        if e' = e ∧ P.cellsOf e = 1 ∧ 0 < n ∧ n ≤ 9223372036854775807 then
          (slotsOf c off n.toNat).bind fun l => (aint8s l).map fun bs => (.string ⟨bs.toArray⟩, H.set b .dead)
        else none
      | _ => none
    | _ => none
  | _, _ => none
theorem liesAt_bytes' {P : Program} {e : TypeId} (hc : P.cellsOf e = 1) (count off n : Nat) (hn : off + n ≤ count) : liesAt P P.depth e count off e n = true := by
  have hd : P.depth = (2 * (P.types.size + Made.depth) + 1) + 1 := rfl
  rw [hd]
  simp only [liesAt, Bool.or_eq_true]
  left
  rw [hd]
  simp [rowAt, hc, hn, sameLayout, Nat.mod_one]
theorem aint8s_cons {v : Value} {l : List Value} {bs : List UInt8} (h : aint8s (v :: l) = some bs) : ∃ n bs', v = .int .u8 n ∧ bs = UInt8.ofNat n.toNat :: bs' ∧ aint8s l = some bs' := by
  cases v with
  | int k n =>
    cases k with
    | u8 =>
      simp only [aint8s, Option.map_eq_some_iff] at h
      obtain ⟨bs', h1, rfl⟩ := h
      exact ⟨n, bs', rfl, rfl, h1⟩
    | _ => simp [aint8s] at h
  | _ => simp [aint8s] at h
theorem loadBytes_run {P : Program} (w : World) : ∀ (l : List Value) (bs : List UInt8) (a : Addr) (acc : ByteArray), a.spot = none → aint8s l = some bs → (∀ j v, l[j]? = some v → w.cell? ⟨a.block, a.off + j, none⟩ = some v) →
    (loadBytes a acc l.length).run P w = .ok ⟨acc.data ++ bs.toArray⟩ w := by
  intro l
  induction l with
  | nil => intro bs a acc ha hb h; simp only [aint8s, Option.some.injEq] at hb; subst hb; simp [loadBytes]
  | cons v l ih =>
    intro bs a acc ha hb h
    obtain ⟨n, bs', rfl, rfl, hb'⟩ := aint8s_cons hb
    have h0 : w.cell? a = some (.int .u8 n) := by
      have := h 0 _ rfl
      obtain ⟨ab, ao, asp⟩ := a
      simp only at ha
      subst ha
      simpa using this
    have e : a.add 1 = ⟨a.block, a.off + 1, none⟩ := by
      obtain ⟨ab, ao, asp⟩ := a
      simp only at ha
      subst ha
      simp [Addr.add]
    have := ih bs' (a.add 1) (acc.push (UInt8.ofNat n.toNat)) (by rw [e]) hb' (fun j u hj => by
      rw [e]
      have := h (j + 1) u (by simpa using hj)
      rw [← this]
      congr 2
      simp; omega)
    simp only [List.length_cons, loadBytes, Sem.run_bind, run_load, h0, Result.andThen_ok]
    have hx : n.toNat.toUInt8 = UInt8.ofNat n.toNat := rfl
    simp only [hx] at *
    rw [this]
    congr 1
    apply ByteArray.ext
    simp [ByteArray.push]
theorem aint8s_real {ι : List Pl} : ∀ (l cl : List Value) (bs : List UInt8), LR ι l cl → aint8s l = some bs → aint8s cl = some bs := by
  intro l
  induction l with
  | nil =>
    intro cl bs hL h
    cases cl with
    | nil => exact h
    | cons a b => have := hL.1; simp at this
  | cons v l ih =>
    intro cl bs hL h
    cases cl with
    | nil => have := hL.1; simp at this
    | cons c cl =>
      obtain ⟨n, bs', rfl, rfl, h'⟩ := aint8s_cons h
      obtain ⟨c', hc, hr⟩ := hL.2 0 _ rfl
      simp only [List.getElem?_cons_zero, Option.some.injEq] at hc
      subst hc
      cases hr
      have := ih cl bs' ⟨by have := hL.1; simpa using this, fun i v hi => by simpa using hL.2 (i + 1) v (by simpa using hi)⟩ h'
      simp [aint8s, this]
theorem aunsafeString_run {P : Program} {w0 w : World} {ι : List Pl} {H H' : Heap} (hw : WR P w0 ι H w) {tp ti ty : TypeId} {p n r cp cn : Value} (hp : VR ι p cp) (hn : VR ι n cn) (h : aunsafeString P tp p n H = some (r, H')) :
    ∃ ι' cr w', Ext ι ι' ∧ (Builtin.unsafeString_ #[tp, ti] ty #[cp, cn]).run P w = .ok cr w' ∧ WR P w0 ι' H' w' ∧ VR ι' r cr := by
  have hmax : IntKind.i64.max = 9223372036854775807 := rfl
  unfold aunsafeString at h
  split at h
  · simp only [Option.some.injEq, Prod.mk.injEq] at h
    obtain ⟨rfl, rfl⟩ := h
    cases hp; cases hn
    refine ⟨ι, .string .empty, w, .refl _, ?_, hw, .str _⟩
    exact Lib.run_unsafeString_none w tp ti ty none
  · rename_i b off n
    cases hn
    split at h
    · rename_i e c hb
      split at h
      · rename_i e' hu
        split at h
        · rename_i hc
          obtain ⟨rfl, hc1, hc2, hc3⟩ := hc
          simp only [Option.bind_eq_some_iff, Option.map_eq_some_iff, Prod.mk.injEq] at h
          obtain ⟨l, hl, bs, hbs, rfl, rfl⟩ := h
          cases hp with
          | ptr _ _ pl hpl =>
            obtain ⟨cc, e1, fr, hC, h5, h6⟩ := hw.blk b _ pl hb hpl
            obtain ⟨rfl, h7, h8⟩ := h6
            unfold slotsOf at hl
            split at hl
            rotate_left
            · simp at hl
            rename_i hle
            simp only [Option.some.injEq] at hl
            obtain ⟨hL, hone, hlen, hcell⟩ := hC.range off _ hle
            rw [hl] at hL
            have hcl := aint8s_real _ _ _ hL hbs
            have h1 := hC.1
            have hsz := hC.2.1
            have hcz := hC.2.2.1
            have hload := loadBytes_run (P := P) w _ bs ⟨pl.blk, pl.off + off, none⟩ ByteArray.empty rfl hcl (fun j v hj => by
              have := hcell j v hj
              rw [← this]
              congr 1
              by_cases hj0 : j = 0
              · subst hj0; simp [Addr.add]
              · simp [Addr.add, hj0])
            rw [hlen] at hload
            have hlies := liesAt_bytes' (P := P) hc1 cc.size (pl.off + off) n.toNat (by omega)
            have hsh : w.shape? pl.blk = some (e1, cc.size) := by simp [World.shape?, h1]
            refine ⟨ι, .string ⟨bs.toArray⟩, w.freeze ⟨pl.blk, pl.off + off, none⟩ n.toNat, .refl _, ?_, ?_, .str _⟩
            · have g1 : ¬ n < 0 := by omega
              have g2 : ¬ (9223372036854775807 : Int) < n := by omega
              have g3 : n ≠ 0 := by omega
              have hdef : Builtin.unsafeString_ #[tp, ti] ty #[.pointer (some ⟨pl.blk, pl.off + off, none⟩), .int .i64 n] =
                  (do
                    let n ← asInt (.int .i64 n)
                    if n < 0 then runtimePanic (.error "unsafe.String: len out of range")
                    if n > IntKind.i64.max then unsupported (.unsafePointer "String: a length above the largest int")
                    if n = 0 then pure (.string .empty)
                    else if ← variablesAt ⟨pl.blk, pl.off + off, none⟩ (← elemOf tp) n.toNat then do
                      let s ← loadBytes ⟨pl.blk, pl.off + off, none⟩ .empty n.toNat
                      freeze ⟨pl.blk, pl.off + off, none⟩ n.toNat
                      pure (.string s)
                    else unsupported (.unsafePointer "String: not so many bytes at ptr")) := rfl
              rw [hdef]
              simp [asInt, asIntOf, hmax, g1, g2, g3, variablesAt, hsh, elemOf, run_underlying hu, hc1, hlies, hload]
            · refine hw.upd hb hpl rfl ?_ ?_ ?_ ?_ ?_ trivial
              · unfold World.freeze; split <;> rfl
              · unfold World.freeze; split <;> rfl
              · unfold World.freeze; split <;> rfl
              · unfold World.freeze; split <;> simp
              · intro k _ hk
                unfold World.freeze
                split
                · rfl
                · simp only [Array.getElem?_modify]
                  rw [if_neg (by simpa using fun e => hk e.symm)]
        · simp at h
      · simp at h
    · simp at h
  · simp at h

end Go.Proofs.YtmdpifedcaaobaaDoor.Ax
/- The abstract machine: maps, and that the real ones follow them. -/
set_option linter.unusedVariables false
set_option linter.unusedSimpArgs false
namespace Go.Proofs.YtmdpifedcaaobaaDoor.Ax
open Go Go.RowKit

/-- Are two keys one? Of whole numbers, bools, strings, and structs of these. -/
def eqKey (P : Program) (kt : TypeId) (a b : Value) : Option Bool :=
  match P.underlying kt with
  | some (.int _) => match a, b with | .int k x, .int k' y => if k = k' then some (x == y) else none | _, _ => none
  | some .bool => match a, b with | .bool x, .bool y => some (x == y) | _, _ => none
  | some .string => match a, b with | .string x, .string y => some (x == y) | _, _ => none
  | some (.struct fs) => match a, b with | .agg xs, .agg ys => if P.stoodInHeld kt then none else eqAll P xs ys fs.toList | _, _ => none
  | _ => none
/-- The place of a key from i on. -/
def mfind (P : Program) (kt : TypeId) (k : Value) : List (Value × Value) → Nat → Option (Option Nat)
  | [], _ => some none
  | (x, _) :: es, i => (eqKey P kt k x).bind fun b => if b then some (some i) else mfind P kt k es (i + 1)

/-- Entries, one by one. -/
def ER (ι : List Pl) (es : List (Value × Value)) (ms : List MapEntry) : Prop :=
  ms.length = es.length ∧ ∀ (i : Nat) (k v : Value), es[i]? = some (k, v) → ∃ m, ms[i]? = some m ∧ VR ι k m.key ∧ VR ι v m.val
theorem ER.tail {ι : List Pl} {e : Value × Value} {es : List (Value × Value)} {m : MapEntry} {ms : List MapEntry} (h : ER ι (e :: es) (m :: ms)) : VR ι e.1 m.key ∧ VR ι e.2 m.val ∧ ER ι es ms := by
  obtain ⟨m', hm, h1, h2⟩ := h.2 0 e.1 e.2 rfl
  simp only [List.getElem?_cons_zero, Option.some.injEq] at hm
  subst hm
  exact ⟨h1, h2, by have := h.1; simpa using this, fun i k v hi => by simpa using h.2 (i + 1) k v (by simpa using hi)⟩

theorem mfind_lt {P : Program} {kt : TypeId} {k : Value} : ∀ (es : List (Value × Value)) (i j : Nat), mfind P kt k es i = some (some j) → i ≤ j ∧ j < i + es.length := by
  intro es
  induction es with
  | nil => intro i j h; simp [mfind] at h
  | cons e es ih =>
    intro i j h
    obtain ⟨x, y⟩ := e
    simp only [mfind, Option.bind_eq_some_iff] at h
    obtain ⟨b, hb, h⟩ := h
    split at h
    · simp only [Option.some.injEq] at h; subst h; simp
    · have := ih _ _ h; simp; omega

/-- What is found: the place, and the real value there. -/
def foundAs (ms : List MapEntry) : Option Nat → Nat → Option (Nat × Value)
  | none, _ => none
  | some j, i => (ms[j - i]?).map fun m => (j, m.val)

theorem find_scalar {P : Program} {ι : List Pl} {kt : TypeId} {d : TypeDesc} (hd : P.underlying kt = some d) (hs : (match d with | .int _ | .bool | .string => True | _ => False)) {k ck : Value} (hk : VR ι k ck) :
    ∀ (es : List (Value × Value)) (ms : List MapEntry) (i : Nat) (r : Option Nat), ER ι es ms → mfind P kt k es i = some r → Instr.findNow d ck ms i = some (foundAs ms r i) := by
  intro es
  induction es with
  | nil =>
    intro ms i r hE h
    cases ms with
    | cons a b => have := hE.1; simp at this
    | nil => simp only [mfind, Option.some.injEq] at h; subst h; rfl
  | cons e es ih =>
    intro ms i r hE h
    cases ms with
    | nil => have := hE.1; simp at this
    | cons m ms =>
      obtain ⟨x, y⟩ := e
      obtain ⟨h1, h2, hE'⟩ := hE.tail
      simp only [mfind, Option.bind_eq_some_iff] at h
      obtain ⟨b, hb, h⟩ := h
      have hsame : Instr.sameNow d ck m.key = some b := by
        unfold eqKey at hb
        rw [hd] at hb
        simp only at h1
        cases d <;> simp only [] at hs hb
        · split at hb
          · simp only [Option.some.injEq] at hb; subst hb; cases hk
            generalize m.key = mk at h1
            cases h1
            rfl
          · simp at hb
        · split at hb
          · rename_i k1 x1 k2 y1
            split at hb
            · rename_i hkk
              subst hkk
              simp only [Option.some.injEq] at hb; subst hb; cases hk
              generalize m.key = mk at h1
              cases h1
              simp [Instr.sameNow]
            · simp at hb
          · simp at hb
        · split at hb
          · simp only [Option.some.injEq] at hb; subst hb; cases hk
            generalize m.key = mk at h1
            cases h1
            rfl
          · simp at hb
      rw [Instr.findNow, hsame]
      cases b with
      | true =>
        simp only [if_true, Option.some.injEq] at h
        subst h
        simp [foundAs]
      | false =>
        simp only [Bool.false_eq_true, if_false] at h
        simp only
        rw [ih ms (i + 1) r hE' h]
        cases r with
        | none => rfl
        | some j =>
          have := (mfind_lt es _ _ h).1
          simp only [foundAs]
          rw [show j - i = (j - (i + 1)) + 1 by omega]
          simp

theorem find_struct {P : Program} {ι : List Pl} {kt : TypeId} {fs : Array Field} (hd : P.underlying kt = some (.struct fs)) {k ck : Value} (hk : VR ι k ck) (w : World) :
    ∀ (es : List (Value × Value)) (ms : List MapEntry) (i : Nat) (r : Option Nat), ER ι es ms → mfind P kt k es i = some r → (Instr.findAsking kt ck ms i).run P w = .ok (foundAs ms r i) w := by
  intro es
  induction es with
  | nil =>
    intro ms i r hE h
    cases ms with
    | cons a b => have := hE.1; simp at this
    | nil => simp only [mfind, Option.some.injEq] at h; subst h; rfl
  | cons e es ih =>
    intro ms i r hE h
    cases ms with
    | nil => have := hE.1; simp at this
    | cons m ms =>
      obtain ⟨x, y⟩ := e
      obtain ⟨h1, h2, hE'⟩ := hE.tail
      simp only [mfind, Option.bind_eq_some_iff] at h
      obtain ⟨b, hb, h⟩ := h
      have hsame : (Op.equal kt ck m.key).run P w = .ok b w := by
        unfold eqKey at hb
        rw [hd] at hb
        simp only at h1 hb
        split at hb
        · rename_i xs ys
          split at hb
          · simp at hb
          · rename_i hst
            simp only [Bool.not_eq_true] at hst
            cases hk with
            | agg _ cxs a1 a2 a3 =>
              generalize m.key = mk at h1
              cases h1 with
              | agg _ cys b1 b2 b3 =>
                have hfo : P.fieldsOf kt = fs := by simp [Program.fieldsOf, hd]
                rw [equal_eq, run_equalIn_struct w 9999 kt cxs cys (by rw [hfo]; exact hd) hst, hfo]
                exact eqAll_run (P := P) a1 a2 b1 b2 9998 w fs.toList b hb
        · simp at hb
      rw [Instr.findAsking]
      simp only [Sem.run_bind, hsame, Result.andThen_ok, Sem.run_ite]
      cases b with
      | true =>
        simp only [if_true, Option.some.injEq] at h
        subst h
        simp [foundAs]
      | false =>
        simp only [Bool.false_eq_true, if_false] at h ⊢
        rw [ih ms (i + 1) r hE' h]
        cases r with
        | none => rfl
        | some j =>
          have := (mfind_lt es _ _ h).1
          simp only [foundAs]
          rw [show j - i = (j - (i + 1)) + 1 by omega]
          simp

/-- Fields that a key's check passes over. -/
def plainKey (P : Program) (kt : TypeId) (k : Value) : Bool :=
  match P.underlying kt, k with
  | some (.int _), .int _ _ => true
  | some .bool, .bool _ => true
  | some .string, .string _ => true
  | some (.struct fs), .agg cs => fs.toList.all fun f => f.name != "_" && (match P.underlying f.type with | some (.int _) | some .bool | some .string => decide (f.offset < cs.size) | _ => false)
  | _, _ => false

theorem checkKey_run {P : Program} {ι : List Pl} {kt : TypeId} {k ck : Value} (hk : VR ι k ck) (h : plainKey P kt k = true) (emp : Bool) (n : Nat) (w : World) : (Instr.checkKey emp (n + 2) kt ck).run P w = .ok () w := by
  unfold plainKey at h
  split at h
  · rename_i hu; cases hk; simp [Instr.checkKey, run_underlying hu]
  · rename_i hu; cases hk; simp [Instr.checkKey, run_underlying hu]
  · rename_i hu; cases hk; simp [Instr.checkKey, run_underlying hu]
  · rename_i fs cs hu
    cases hk with
    | agg _ ccs a1 a2 a3 =>
      rw [show n + 2 = (n + 1) + 1 from rfl, Instr.checkKey]
      simp only [Sem.run_bind, run_underlying hu, Result.andThen_ok]
      rw [← Array.forIn_toList]
      generalize fs.toList = l at h
      clear hu
      induction l with
      | nil => rfl
      | cons f l ih =>
        simp only [List.all_cons, Bool.and_eq_true, bne_iff_ne, ne_eq] at h
        obtain ⟨⟨hn, hf⟩, hl⟩ := h
        rw [List.forIn_cons]
        have hpart : ∀ d, P.underlying f.type = some d → isAggD d = false → f.offset < cs.size → ∃ v, (part f.type ccs f.offset).run P w = .ok v w := by
          intro d hd ha ho
          have hag := run_isAgg hd w
          rw [ha] at hag
          exact ⟨ccs[f.offset]'(by omega), by simp [part, hag, Array.getElem?_eq_getElem (show f.offset < ccs.size by omega)]⟩
        have hstep : ∃ v, (part f.type ccs f.offset).run P w = .ok v w ∧ (Instr.checkKey emp (n + 1) f.type v).run P w = .ok () w := by
          split at hf
          · rename_i hu; obtain ⟨v, hv⟩ := hpart _ hu rfl (by simpa using hf); exact ⟨v, hv, by simp [Instr.checkKey, run_underlying hu]⟩
          · rename_i hu; obtain ⟨v, hv⟩ := hpart _ hu rfl (by simpa using hf); exact ⟨v, hv, by simp [Instr.checkKey, run_underlying hu]⟩
          · rename_i hu; obtain ⟨v, hv⟩ := hpart _ hu rfl (by simpa using hf); exact ⟨v, hv, by simp [Instr.checkKey, run_underlying hu]⟩
          · simp at hf
        obtain ⟨v, hv1, hv2⟩ := hstep
        simp only [hn, ne_eq, not_false_eq_true, if_true, Sem.run_bind, hv1, Result.andThen_ok, hv2, Sem.run_pure]
        exact ih hl
  · simp at h

/-- A key among entries. -/
def akey (P : Program) (kt : TypeId) (k : Value) (es : List (Value × Value)) : Option (Option Nat) :=
  if plainKey P kt k then mfind P kt k es 0 else none
theorem akey_run {P : Program} {ι : List Pl} {kt : TypeId} {k ck : Value} (hk : VR ι k ck) {es : List (Value × Value)} {ms : List MapEntry} {r : Option Nat} (hE : ER ι es ms) (h : akey P kt k es = some r) (w : World) :
    (∀ emp, (Instr.checkKey emp 10000 kt ck).run P w = .ok () w) ∧ (Instr.findKey kt ck ms).run P w = .ok (foundAs ms r 0) w := by
  unfold akey at h
  split at h
  rotate_left
  · simp at h
  rename_i hp
  refine ⟨fun emp => checkKey_run hk hp emp 9998 w, ?_⟩
  unfold plainKey at hp
  split at hp
  · rename_i hu
    simp only [Instr.findKey, Sem.run_bind, run_underlying hu, Result.andThen_ok, find_scalar hu trivial hk es ms 0 r hE h]; rfl
  · rename_i hu
    simp only [Instr.findKey, Sem.run_bind, run_underlying hu, Result.andThen_ok, find_scalar hu trivial hk es ms 0 r hE h]; rfl
  · rename_i hu
    simp only [Instr.findKey, Sem.run_bind, run_underlying hu, Result.andThen_ok, find_scalar hu trivial hk es ms 0 r hE h]; rfl
  · rename_i fs cs hu
    simp only [Instr.findKey, Sem.run_bind, run_underlying hu, Result.andThen_ok]
    have hf := find_struct hu hk w es ms 0 r hE h
    cases ms with
    | nil =>
      cases es with
      | cons a b => have := hE.1; simp at this
      | nil => simp only [mfind, Option.some.injEq] at h; subst h; rfl
    | cons m ms =>
      have : Instr.findNow (.struct fs) ck (m :: ms) 0 = none := by simp [Instr.findNow, Instr.sameNow]
      rw [this]
      exact hf
  · simp at hp

def mapOf (P : Program) (t : TypeId) : Option (TypeId × TypeId) := match P.underlying t with | some (.map k e) => some (k, e) | _ => none
theorem mapOf_eq {P : Program} {t k e : TypeId} (h : mapOf P t = some (k, e)) : P.underlying t = some (.map k e) := by
  unfold mapOf at h; split at h
  · rename_i n' e' hu; simp only [Option.some.injEq, Prod.mk.injEq] at h; obtain ⟨rfl, rfl⟩ := h; exact hu
  · simp at h

def tzeroV (P : Program) (t : TypeId) : Option Value := (P.info? t).bind fun i => i.zero.bind fun z => if constOk z then some z else none
theorem run_zeroV {P : Program} {t : TypeId} {z : Value} (h : tzeroV P t = some z) (w : World) : (zeroValue t).run P w = .ok z w ∧ ∀ ι, VR ι z z := by
  unfold tzeroV at h
  simp only [Option.bind_eq_some_iff] at h
  obtain ⟨i, hi, z', hz, h⟩ := h
  split at h
  · rename_i hc
    simp only [Option.some.injEq] at h
    subst h
    exact ⟨by simp [zeroValue, typeInfo, hi, hz], fun ι => .constOk hc⟩
  · simp at h

def mentries (m : Value) (H : Heap) : Option (List (Value × Value)) :=
  match m with
  | .map none => some []
  | .map (some b) => hmap H b
  | _ => none
def alookup (P : Program) (t : TypeId) (m k : Value) (ok : Bool) (H : Heap) : Option Value :=
  (mapOf P t).bind fun (kt, e) => (mentries m H).bind fun es => (akey P kt k es).bind fun r =>
  match r with
  | some j => (es[j]?).map fun x => if ok then .tuple #[x.2, .bool true] else x.2
  | none => (tzeroV P e).map fun z => if ok then .tuple #[z, .bool false] else z
theorem VR.pair {ι : List Pl} {a b c d : Value} (h : VR ι a c) (k : VR ι b d) : VR ι (.tuple #[a, b]) (.tuple #[c, d]) := by
  refine .tuple _ _ rfl fun i hi => ?_
  match i, hi with
  | 0, _ => exact h
  | 1, _ => exact k
theorem alookup_run {P : Program} {w0 w : World} {ι : List Pl} {H : Heap} (hw : WR P w0 ι H w) {t : TypeId} {m k r cm ck : Value} {ok : Bool} (hm : VR ι m cm) (hk : VR ι k ck) (h : alookup P t m k ok H = some r) :
    ∃ cr, (Instr.lookup t cm ck ok).run P w = .ok cr w ∧ VR ι r cr := by
  unfold alookup at h
  simp only [Option.bind_eq_some_iff] at h
  obtain ⟨⟨kt, e⟩, ht, es, hes, j, hj, h⟩ := h
  -- the real entries
  obtain ⟨ms, hcm, hE⟩ : ∃ ms : Array MapEntry, ((cm = .map none ∧ ms = #[]) ∨ ∃ r clock, cm = .map (some r) ∧ w.heap[r]? = some (.map ms clock)) ∧ ER ι es ms.toList := by
    unfold mentries at hes
    split at hes
    · simp only [Option.some.injEq] at hes
      subst hes
      cases hm
      exact ⟨#[], .inl ⟨rfl, rfl⟩, rfl, fun i k v hi => by simp at hi⟩
    · obtain ⟨o, pl, ms, clock, _, hp, h1, h2, _, h3⟩ := hw.map hes
      cases hm with
      | map _ pl' hp' =>
        rw [hp] at hp'
        simp only [Option.some.injEq] at hp'
        subst hp'
        exact ⟨ms, .inr ⟨_, clock, rfl, h1⟩, by simpa using h2, fun i k v hi => by simpa using h3 i k v hi⟩
    · simp at hes
  obtain ⟨hck, hfk⟩ := akey_run hk hE hj w
  split at h
  · rename_i j
    simp only [Option.map_eq_some_iff] at h
    obtain ⟨⟨kk, vv⟩, hx, rfl⟩ := h
    obtain ⟨m', hm', hr1, hr2⟩ := hE.2 j kk vv hx
    have hfa : foundAs ms.toList (some j) 0 = some (j, m'.val) := by simp [foundAs] at hm' ⊢; exact ⟨m', hm', rfl⟩
    rw [hfa] at hfk
    refine ⟨if ok then .tuple #[m'.val, .bool true] else m'.val, ?_, by cases ok <;> first | exact hr2 | exact .pair hr2 (.bool _)⟩
    rcases hcm with ⟨rfl, rfl⟩ | ⟨r, clock, rfl, hh⟩
    · simp only [Instr.lookup, Sem.run_bind, run_underlying (mapOf_eq ht), Result.andThen_ok, hck, hfk, Sem.run_pure]
    · have hg : (getObj r).run P w = .ok (.map ms clock) w := by simp [getObj, Sem.run, hh]
      simp only [Instr.lookup, Sem.run_bind, run_underlying (mapOf_eq ht), Result.andThen_ok, hg, hck, hfk, Sem.run_pure]
  · simp only [Option.map_eq_some_iff] at h
    obtain ⟨z, hz, rfl⟩ := h
    obtain ⟨hz1, hz2⟩ := run_zeroV hz w
    rw [show foundAs ms.toList none 0 = none from rfl] at hfk
    refine ⟨if ok then .tuple #[z, .bool false] else z, ?_, by cases ok <;> first | exact hz2 ι | exact .pair (hz2 ι) (.bool _)⟩
    rcases hcm with ⟨rfl, rfl⟩ | ⟨r, clock, rfl, hh⟩
    · simp only [Instr.lookup, Sem.run_bind, run_underlying (mapOf_eq ht), Result.andThen_ok, hck, hfk, hz1, Sem.run_pure]
    · have hg : (getObj r).run P w = .ok (.map ms clock) w := by simp [getObj, Sem.run, hh]
      simp only [Instr.lookup, Sem.run_bind, run_underlying (mapOf_eq ht), Result.andThen_ok, hg, hck, hfk, hz1, Sem.run_pure]

/-- A key that is kept, or renewed: of scalars it is one. -/
def flat : Value → Bool
  | .int _ _ | .bool _ | .string _ => true
  | .agg cs => cs.toList.all fun | .int _ _ | .bool _ | .string _ => true | _ => false
  | _ => false
theorem flat_eq {ι : List Pl} {v c : Value} (h : flat v = true) (r : VR ι v c) : c = v := by
  unfold flat at h
  split at h
  · cases r; rfl
  · cases r; rfl
  · cases r; rfl
  · rename_i cs
    cases r with
    | agg _ ccs a1 a2 a3 =>
      congr 1
      apply Array.ext a1.symm
      intro i h1 h2
      have e := a2 i h2
      have hm := List.all_eq_true.1 h _ (getD_mem h2)
      rw [Array.getD_eq_getD_getElem?, Array.getD_eq_getD_getElem?, Array.getElem?_eq_getElem h1, Array.getElem?_eq_getElem h2] at e
      rw [Array.getD_eq_getD_getElem?, Array.getElem?_eq_getElem h2] at hm
      simp only [Option.getD_some] at e hm
      revert hm e
      generalize cs[i] = x
      generalize ccs[i] = y
      intro e hm
      cases e <;> simp_all
  · simp at h

def amapUpdate (P : Program) (t : TypeId) (m k v : Value) (H : Heap) : Option Heap :=
  (mapOf P t).bind fun (kt, e) =>
  match m with
  | .map (some b) =>
    match H[b]? with
    | some (.map true es) => (akey P kt k es).bind fun r =>
      match r with
      | some j => (es[j]?).bind fun x => if flat k = true ∧ flat x.1 = true ∧ Instr.sameBits 10000 x.1 k = true then some (H.set b (.map true (es.set j (k, v)))) else none
      | none => some (H.set b (.map true (es ++ [(k, v)])))
    | _ => none
  | _ => none

theorem ER.set {ι : List Pl} {es : List (Value × Value)} {ms : List MapEntry} (h : ER ι es ms) (j : Nat) {k v : Value} {m : MapEntry} (hk : VR ι k m.key) (hv : VR ι v m.val) : ER ι (es.set j (k, v)) (ms.set j m) := by
  refine ⟨by simp [h.1], fun i k' v' hi => ?_⟩
  have hil : i < es.length := by have := (List.getElem?_eq_some_iff.1 hi).1; simpa using this
  by_cases hij : j = i
  · subst hij
    rw [List.getElem?_set_self hil] at hi
    simp only [Option.some.injEq, Prod.mk.injEq] at hi
    obtain ⟨rfl, rfl⟩ := hi
    exact ⟨m, List.getElem?_set_self (by rw [h.1]; exact hil), hk, hv⟩
  · rw [List.getElem?_set_ne hij] at hi ⊢
    exact h.2 i k' v' hi
theorem ER.push {ι : List Pl} {es : List (Value × Value)} {ms : List MapEntry} (h : ER ι es ms) {k v : Value} {m : MapEntry} (hk : VR ι k m.key) (hv : VR ι v m.val) : ER ι (es ++ [(k, v)]) (ms ++ [m]) := by
  refine ⟨by simp [h.1], fun i k' v' hi => ?_⟩
  by_cases hil : i < es.length
  · rw [List.getElem?_append_left hil] at hi
    rw [List.getElem?_append_left (by rw [h.1]; exact hil)]
    exact h.2 i k' v' hi
  · rw [List.getElem?_append_right (by omega)] at hi
    rw [List.getElem?_append_right (by rw [h.1]; omega), h.1]
    have hz : i - es.length = 0 := by have := (List.getElem?_eq_some_iff.1 hi).1; simp at this; omega
    rw [hz] at hi ⊢
    simp only [List.getElem?_cons_zero, Option.some.injEq, Prod.mk.injEq] at hi
    obtain ⟨rfl, rfl⟩ := hi
    exact ⟨m, rfl, hk, hv⟩
theorem ER.erase {ι : List Pl} {es : List (Value × Value)} {ms : List MapEntry} (h : ER ι es ms) (j : Nat) : ER ι (es.eraseIdx j) (ms.eraseIdx j) := by
  refine ⟨?_, fun i k' v' hi => ?_⟩
  · rw [List.length_eraseIdx, List.length_eraseIdx, h.1]
  · rw [List.getElem?_eraseIdx] at hi ⊢
    split at hi
    · rename_i hc; rw [if_pos hc]; exact h.2 _ _ _ hi
    · rename_i hc; rw [if_neg hc]; exact h.2 _ _ _ hi

/-- A map of one's own is written. -/
theorem WR.setMap {P : Program} {w0 w : World} {ι : List Pl} {H : Heap} (hw : WR P w0 ι H w) {b : Nat} {es es' : List (Value × Value)} {pl : Pl} (hb : H[b]? = some (.map true es)) (hp : ι[b]? = some pl) {ms : Array MapEntry} (clock : Nat)
    (hE : ER ι es' ms.toList) : ∃ w', (setObj pl.blk (.map ms clock)).run P w = .ok () w' ∧ WR P w0 ι (H.set b (.map true es')) w' := by
  obtain ⟨ms0, clock0, h1, h2, h3, h4⟩ := hw.blk b _ pl hb hp
  have hlt : pl.blk < w.heap.size := (Array.getElem?_eq_some_iff.1 h1).1
  refine ⟨{ w with heap := w.heap.setIfInBounds pl.blk (.map ms clock) }, by simp [setObj, Sem.run, h1], hw.upd hb hp rfl rfl rfl rfl (by simp) (fun k _ hk => ?_) ⟨ms, clock, ?_, h2, by simpa using hE.1, fun i k v hi => by simpa using hE.2 i k v hi⟩⟩
  · simp [Array.getElem?_setIfInBounds]; intro hh; omega
  · simp [Array.getElem?_setIfInBounds, hlt]

theorem WR.mapOwn {P : Program} {w0 w : World} {ι : List Pl} {H : Heap} (h : WR P w0 ι H w) {b : Nat} {es : List (Value × Value)} (hb : H[b]? = some (.map true es)) :
    ∃ pl ms clock, ι[b]? = some pl ∧ w.heap[pl.blk]? = some (.map ms clock) ∧ ER ι es ms.toList := by
  obtain ⟨pl, hp, ms, clock, h1, h2, h3, h4⟩ := h.get hb
  exact ⟨pl, ms, clock, hp, h1, by simpa using h3, fun i k v hi => by simpa using h4 i k v hi⟩

theorem amapUpdate_run {P : Program} {w0 w : World} {ι : List Pl} {H H' : Heap} (hw : WR P w0 ι H w) {t : TypeId} {m k v cm ck cv : Value} (hm : VR ι m cm) (hk : VR ι k ck) (hv : VR ι v cv) (h : amapUpdate P t m k v H = some H') :
    ∃ w', (Instr.mapUpdate t cm ck cv).run P w = .ok () w' ∧ WR P w0 ι H' w' := by
  unfold amapUpdate at h
  simp only [Option.bind_eq_some_iff] at h
  obtain ⟨⟨kt, e⟩, ht, h⟩ := h
  split at h
  rotate_left
  · simp at h
  rename_i b
  split at h
  rotate_left
  · simp at h
  rename_i es hb
  simp only [Option.bind_eq_some_iff] at h
  obtain ⟨r, hr, h⟩ := h
  obtain ⟨pl, ms, clock, hp, h1, hE⟩ := hw.mapOwn hb
  obtain ⟨hck, hfk⟩ := akey_run hk hE hr w
  cases hm with
  | map _ pl' hp' =>
    rw [hp] at hp'
    simp only [Option.some.injEq] at hp'
    subst hp'
    split at h
    · rename_i j
      simp only [Option.bind_eq_some_iff] at h
      obtain ⟨⟨x1, x2⟩, hx, h⟩ := h
      split at h
      rotate_left
      · simp at h
      rename_i hc
      obtain ⟨hf1, hf2, hs⟩ := hc
      simp only [Option.some.injEq] at h
      subst h
      obtain ⟨m', hm', hr1, hr2⟩ := hE.2 j x1 x2 hx
      have e1 := flat_eq hf1 hk
      have e2 := flat_eq hf2 hr1
      subst e1
      have hm2 : ms[j]? = some m' := by simpa using hm'
      have hfa : foundAs ms.toList (some j) 0 = some (j, m'.val) := by simp [foundAs] at hm' ⊢; exact ⟨m', hm', rfl⟩
      rw [hfa] at hfk
      have hjl : j < ms.size := (Array.getElem?_eq_some_iff.1 hm2).1
      obtain ⟨w', hr', hW⟩ := hw.setMap hb hp (es' := es.set j (ck, v)) (ms := ms.modify j fun e => { e with key := ck, val := cv }) clock (by
        have : (ms.modify j fun e => { e with key := ck, val := cv }).toList = ms.toList.set j { m' with key := ck, val := cv } := by
          apply List.ext_getElem?
          intro i
          rw [Array.getElem?_toList, Array.getElem?_modify, List.getElem?_set]
          by_cases hij : j = i
          · subst hij
            have hmj : ms[j] = m' := (Array.getElem?_eq_some_iff.1 hm2).2
            simp [hm2, hjl, hmj]
          · simp [hij]
        rw [this]
        exact hE.set j hk hv)
      refine ⟨w', ?_, hW⟩
      have hkey : (Instr.keyThatStays m'.key ck).run P w = .ok ck w := by rw [e2]; simp [Instr.keyThatStays, hs]
      simp only [Instr.mapUpdate, Sem.run_bind, run_underlying (mapOf_eq ht), Result.andThen_ok]
      have hg : (getObj pl.blk).run P w = .ok (.map ms clock) w := by simp [getObj, Sem.run, h1]
      simp only [hg, Result.andThen_ok, Sem.run_bind, hck, hfk, hm2, Option.map_some, Option.getD_some, hkey, hr']
    · simp only [Option.some.injEq] at h
      subst h
      rw [show foundAs ms.toList none 0 = none from rfl] at hfk
      obtain ⟨w', hr', hW⟩ := hw.setMap hb hp (es' := es ++ [(k, v)]) (ms := ms.push { key := ck, val := cv, born := clock }) (clock + 1) (by
        rw [Array.toList_push]; exact hE.push hk hv)
      refine ⟨w', ?_, hW⟩
      have hg : (getObj pl.blk).run P w = .ok (.map ms clock) w := by simp [getObj, Sem.run, h1]
      simp only [Instr.mapUpdate, Sem.run_bind, run_underlying (mapOf_eq ht), Result.andThen_ok, hg, hck, hfk, hr']

def adelete (P : Program) (t : TypeId) (m k : Value) (H : Heap) : Option Heap :=
  (mapOf P t).bind fun (kt, e) =>
  match m with
  | .map (some b) =>
    match H[b]? with
    | some (.map true es) => (akey P kt k es).map fun r =>
      match r with
      | some j => H.set b (.map true (es.eraseIdx j))
      | none => H.set b (.map true es)
    | _ => none
  | _ => none
theorem adelete_run {P : Program} {w0 w : World} {ι : List Pl} {H H' : Heap} (hw : WR P w0 ι H w) {t ty : TypeId} {ts : Array TypeId} {m k cm ck : Value} (hts : ts[0]? = some t) (hm : VR ι m cm) (hk : VR ι k ck) (h : adelete P t m k H = some H') :
    ∃ w', (Builtin.delete_ ts ty #[cm, ck]).run P w = .ok undef w' ∧ WR P w0 ι H' w' := by
  unfold adelete at h
  simp only [Option.bind_eq_some_iff] at h
  obtain ⟨⟨kt, e⟩, ht, h⟩ := h
  split at h
  rotate_left
  · simp at h
  rename_i b
  split at h
  rotate_left
  · simp at h
  rename_i es hb
  simp only [Option.map_eq_some_iff] at h
  obtain ⟨r, hr, rfl⟩ := h
  obtain ⟨pl, ms, clock, hp, h1, hE⟩ := hw.mapOwn hb
  obtain ⟨hck, hfk⟩ := akey_run hk hE hr w
  have hg : (getObj pl.blk).run P w = .ok (.map ms clock) w := by simp [getObj, Sem.run, h1]
  cases hm with
  | map _ pl' hp' =>
    rw [hp] at hp'
    simp only [Option.some.injEq] at hp'
    subst hp'
    cases r with
    | some j =>
      have hjl := (mfind_lt es 0 j (by unfold akey at hr; split at hr; exact hr; simp at hr)).2
      have hml : j < ms.size := by have := hE.1; simp at this; omega
      have hfa : foundAs ms.toList (some j) 0 = some (j, ms[j].val) := by simp [foundAs, hml]
      rw [hfa] at hfk
      obtain ⟨w', hr', hW⟩ := hw.setMap hb hp (es' := es.eraseIdx j) (ms := ms.eraseIdxIfInBounds j) clock (by
        rw [Array.eraseIdxIfInBounds, dif_pos hml, Array.toList_eraseIdx]; exact hE.erase j)
      refine ⟨w', ?_, hW⟩
      simp only [Builtin.delete_, hts, List.getElem?_toArray, List.getElem?_cons_zero, List.getElem?_cons_succ, Sem.run_bind, run_underlying (mapOf_eq ht), Result.andThen_ok, hg, hck, hfk, hr', Sem.run_pure]
      rfl
    | none =>
      rw [show foundAs ms.toList none 0 = none from rfl] at hfk
      obtain ⟨w', hr', hW⟩ := hw.setMap hb hp (es' := es) (ms := ms) clock hE
      refine ⟨w', ?_, hW⟩
      simp only [Builtin.delete_, hts, List.getElem?_toArray, List.getElem?_cons_zero, List.getElem?_cons_succ, Sem.run_bind, run_underlying (mapOf_eq ht), Result.andThen_ok, hg, hck, hfk, hr', Sem.run_pure]
      rfl

def amakeMap (P : Program) (t : TypeId) (r : Option Value) (H : Heap) : Option (Value × Heap) :=
  match r with
  | none => some (.map (some H.length), H ++ [.map true []])
  | some (.int _ _) => (mapOf P t).map fun _ => (.map (some H.length), H ++ [.map true []])
  | _ => none
theorem amakeMap_run {P : Program} {w0 w : World} {ι : List Pl} {H H' : Heap} (hw : WR P w0 ι H w) {t : TypeId} {r cr : Option Value} {v : Value} (hr : VRO ι r cr) (h : amakeMap P t r H = some (v, H')) :
    ∃ ι' cv w', Ext ι ι' ∧ (Instr.makeMap t cr).run P w = .ok cv w' ∧ WR P w0 ι' H' w' ∧ VR ι' v cv := by
  have hx : (ι ++ [⟨w.heap.size, 0, 0, 0⟩])[H.length]? = some ⟨w.heap.size, 0, 0, 0⟩ := by rw [← hw.len]; simp
  have hW : WR P w0 (ι ++ [⟨w.heap.size, 0, 0, 0⟩]) (H ++ [.map true []]) (w.alloc (.map #[] 0)) :=
    hw.fresh _ _ _ rfl ⟨#[], 0, heap_alloc_self _ _, fun _ => hw.below.size, rfl, fun i k v hi => by simp at hi⟩
  have hV : VR (ι ++ [⟨w.heap.size, 0, 0, 0⟩]) (.map (some H.length)) (.map (some w.heap.size)) := .map _ ⟨w.heap.size, 0, 0, 0⟩ hx
  unfold amakeMap at h
  split at h
  · simp only [Option.some.injEq, Prod.mk.injEq] at h
    obtain ⟨rfl, rfl⟩ := h
    cases cr with
    | some c => exact hr.elim
    | none => exact ⟨_, _, _, .push _ _, by simp [Instr.makeMap], hW, hV⟩
  · simp only [Option.map_eq_some_iff, Prod.mk.injEq] at h
    obtain ⟨⟨k, e⟩, ht, rfl, rfl⟩ := h
    cases cr with
    | none => exact hr.elim
    | some c =>
      cases hr
      exact ⟨_, _, _, .push _ _, by simp [Instr.makeMap, run_underlying (mapOf_eq ht), asInt, asIntOf], hW, hV⟩
  · simp at h

/-- A string is gone through, rune by rune. -/
def arange (P : Program) (t : TypeId) (v : Value) (H : Heap) : Option (Value × Heap) :=
  match P.underlying t, v with
  | some .string, .string s => some (.pointer (some ⟨H.length, 0, none⟩), H ++ [.iter s 0])
  | _, _ => none
theorem arange_run {P : Program} {w0 w : World} {ι : List Pl} {H H' : Heap} (hw : WR P w0 ι H w) {t : TypeId} {x cx v : Value} (hx : VR ι x cx) (h : arange P t x H = some (v, H')) :
    ∃ ι' cv w', Ext ι ι' ∧ (Instr.range t cx).run P w = .ok cv w' ∧ WR P w0 ι' H' w' ∧ VR ι' v cv := by
  have hp : (ι ++ [⟨w.heap.size, 0, 0, 0⟩])[H.length]? = some ⟨w.heap.size, 0, 0, 0⟩ := by rw [← hw.len]; simp
  unfold arange at h
  split at h
  · rename_i s ht
    simp only [Option.some.injEq, Prod.mk.injEq] at h
    obtain ⟨rfl, rfl⟩ := h
    cases hx
    exact ⟨_, _, _, .push _ _, by simp [Instr.range, run_underlying ht], hw.fresh (.stringIter s 0) ⟨w.heap.size, 0, 0, 0⟩ _ rfl ⟨heap_alloc_self _ _, hw.below.size, rfl⟩, .ptr _ 0 ⟨w.heap.size, 0, 0, 0⟩ hp⟩
  · simp at h
def anext (v : Value) (isString : Bool) (H : Heap) : Option (Value × Heap) :=
  match v, isString with
  | .pointer (some ⟨b, 0, none⟩), true =>
    match H[b]? with
    | some (.iter s pos) => if pos < s.size then some (.tuple #[.bool true, .int .i64 pos, .int .i32 (Utf8.decode s pos).1], H.set b (.iter s (pos + (Utf8.decode s pos).2))) else some (.tuple #[.bool false], H)
    | _ => none
  | _, _ => none
theorem anext_run {P : Program} {w0 w : World} {ι : List Pl} {H H' : Heap} (hw : WR P w0 ι H w) {t : TypeId} {b : Bool} {x cx v : Value} (hx : VR ι x cx) (h : anext x b H = some (v, H')) :
    ∃ ι' cv w', Ext ι ι' ∧ (Instr.next cx b t).run P w = .ok cv w' ∧ WR P w0 ι' H' w' ∧ VR ι' v cv := by
  unfold anext at h
  split at h
  rotate_left
  · simp at h
  rename_i q
  split at h
  rotate_left
  · simp at h
  rename_i s pos hq
  cases hx with
  | ptr _ _ pl hp =>
    obtain ⟨h1, h2, h3⟩ := hw.blk q _ pl hq hp
    have hlt : pl.blk < w.heap.size := (Array.getElem?_eq_some_iff.1 h1).1
    rw [h3]
    split at h
    · rename_i hpos
      simp only [Option.some.injEq, Prod.mk.injEq] at h
      obtain ⟨rfl, rfl⟩ := h
      refine ⟨ι, .tuple #[.bool true, .int .i64 pos, .int .i32 (Utf8.decode s pos).1], { w with heap := w.heap.setIfInBounds pl.blk (.stringIter s (pos + (Utf8.decode s pos).2)) }, .refl _, ?_, hw.upd hq hp rfl rfl rfl rfl (by simp) (fun k _ hk => ?_) ⟨?_, h2, h3⟩, ?_⟩
      · simp [Instr.next, getObj, setObj, Sem.run, h1, hpos, goInt]
      · simp [Array.getElem?_setIfInBounds]; intro hh; omega
      · simp [Array.getElem?_setIfInBounds, hlt]
      · refine .tuple _ _ rfl fun i hi => ?_
        match i, hi with
        | 0, _ => exact .bool _
        | 1, _ => exact .int _ _
        | 2, _ => exact .int _ _
    · rename_i hpos
      simp only [Option.some.injEq, Prod.mk.injEq] at h
      obtain ⟨rfl, rfl⟩ := h
      refine ⟨ι, .tuple #[.bool false], w, .refl _, ?_, hw, ?_⟩
      · simp [Instr.next, getObj, Sem.run, h1, hpos]
      · refine .tuple _ _ rfl fun i hi => ?_
        match i, hi with
        | 0, _ => exact .bool _

end Go.Proofs.YtmdpifedcaaobaaDoor.Ax
/- The abstract machine: one operation, told onward (what is behind it is handed in), and that the real one follows it. -/
set_option linter.unusedVariables false
set_option linter.unusedSimpArgs false
namespace Go.Proofs.YtmdpifedcaaobaaDoor.Ax
open Go Go.RowKit

/-- Something that must come out. -/
structure Ob {α : Type} (x : Option α) (K : α → Prop) : Prop where
  out : ∃ a, x = some a ∧ K a
theorem Ob.of {α : Type} {x : Option α} {K : α → Prop} {a : α} (h : x = some a) (k : K a) : Ob x K := ⟨a, h, k⟩
theorem Ob.step {α : Type} {x y : Option α} {K : α → Prop} (h : x = y) (k : Ob y K) : Ob x K := h ▸ k
/-- Two things that must come out. -/
structure Ob2 {α β : Type} (x : Option (α × β)) (K : α → β → Prop) : Prop where
  out : ∃ r, x = some r ∧ K r.1 r.2
theorem Ob2.of {α β : Type} {x : Option (α × β)} {K : α → β → Prop} {a : α} {b : β} (h : x = some (a, b)) (k : K a b) : Ob2 x K := ⟨(a, b), h, k⟩
def bIf (t : Bool) (X Y : Prop) : Prop := match t with | true => X | false => Y
theorem bIf.of {t : Bool} {X Y : Prop} (h : t = true → X) (k : t = false → Y) : bIf t X Y := by cases t; exact k rfl; exact h rfl
theorem bIf.yes {t : Bool} {X Y : Prop} (h : t = true) (k : X) : bIf t X Y := by subst h; exact k
theorem bIf.no {t : Bool} {X Y : Prop} (h : t = false) (k : Y) : bIf t X Y := by subst h; exact k
theorem bIf.id {t : Bool} {X Y : Prop} (h : bIf t X Y) : bIf t X Y := h
theorem bIf.out {t : Bool} {X Y : Prop} (h : bIf t X Y) : (t = true ∧ X) ∨ (t = false ∧ Y) := by cases t; exact .inr ⟨rfl, h⟩; exact .inl ⟨rfl, h⟩

def evK (fr : Fr) : Operand → (Value → Prop) → Prop
  | .tmp t, K => getK fr t K
  | .const v, K => match constOk v with | true => K v | false => False
  | .func f, K => K (.func (.func f) #[] #[])
  | .global _, _ => False
def evL (fr : Fr) : List Operand → (List Value → Prop) → Prop
  | [], K => K []
  | x :: r, K => evK fr x fun v => evL fr r fun vs => K (v :: vs)
def evP (fr : Fr) : List (Nat × Operand) → (List (Nat × Value) → Prop) → Prop
  | [], K => K []
  | (i, x) :: r, K => evK fr x fun v => evP fr r fun vs => K ((i, v) :: vs)
def evQ (fr : Fr) : Option Operand → (Option Value → Prop) → Prop
  | none, K => K none
  | some x, K => evK fr x fun v => K (some v)

structure FB (n : Nat) (ι : List Pl) (fr : Fr) (a : Act) : Prop where
  size : a.tmps.size = n
  val : ∀ (t : Nat) (v : Value), getF fr t = some v → t < n ∧ VR ι v (a.tmps.getD t Go.undef)
theorem FB.ext {n : Nat} {ι ι' : List Pl} {fr : Fr} {a : Act} (h : FB n ι fr a) (hi : Ext ι ι') : FB n ι' fr a := ⟨h.size, fun t v ht => ⟨(h.val t v ht).1, (h.val t v ht).2.ext hi⟩⟩
theorem FB.put {n : Nat} {ι : List Pl} {fr : Fr} {a : Act} (h : FB n ι fr a) {v cv : Value} (hv : VR ι v cv) {d : Nat} (hd : d < n) : FB n ι ((d, v) :: fr) (a.put (some d) cv) := by
  refine ⟨by simp [Act.put, h.size], fun t u ht => ?_⟩
  simp only [getF] at ht
  have hs := h.size
  split at ht
  · rename_i e
    have e' := Nat.eq_of_beq_eq_true e
    subst e'
    simp only [Option.some.injEq] at ht
    subst ht
    refine ⟨hd, ?_⟩
    simp only [Act.put]
    rw [Array.getD_eq_getD_getElem?, Array.getElem?_setIfInBounds, if_pos rfl, if_pos (by omega)]
    exact hv
  · rename_i e
    obtain ⟨h1, h2⟩ := h.val t u ht
    refine ⟨h1, ?_⟩
    simp only [Act.put]
    rw [Array.getD_eq_getD_getElem?, Array.getElem?_setIfInBounds, if_neg (fun he => by subst he; simp at e)]
    rwa [Array.getD_eq_getD_getElem?] at h2
theorem put_defers (a : Act) (dst : Option Tmp) (v : Value) : (a.put dst v).defers = a.defers := by cases dst <;> rfl

theorem evK_rel {n : Nat} {ι : List Pl} {fr : Fr} {a : Act} (h : FB n ι fr a) {x : Operand} {K : Value → Prop} (he : evK fr x K) : ∃ v, VR ι v (a.eval x) ∧ K v := by
  cases x with
  | tmp t => obtain ⟨v, hv, k⟩ := getK_iff.1 he; exact ⟨v, (h.val t v hv).2, k⟩
  | const c =>
    simp only [evK] at he
    split at he
    · rename_i hc; exact ⟨c, .constOk hc, he⟩
    · exact he.elim
  | global g => exact he.elim
  | func f => exact ⟨_, .func _ _ _ _ _ rfl rfl (fun i h => absurd h (Nat.not_lt_zero _)) (fun i h => absurd h (Nat.not_lt_zero _)), he⟩
theorem evL_rel {n : Nat} {ι : List Pl} {fr : Fr} {a : Act} (h : FB n ι fr a) : ∀ (l : List Operand) (K : List Value → Prop), evL fr l K → ∃ vs, LR ι vs (l.map a.eval) ∧ K vs := by
  intro l
  induction l with
  | nil => intro K he; exact ⟨[], .nil ι, he⟩
  | cons x l ih =>
    intro K he
    obtain ⟨v, hv, he⟩ := evK_rel h he
    obtain ⟨vs, hvs, k⟩ := ih _ he
    exact ⟨v :: vs, .cons hv hvs, k⟩
theorem evP_rel {n : Nat} {ι : List Pl} {fr : Fr} {a : Act} (h : FB n ι fr a) : ∀ (l : List (Nat × Operand)) (K : List (Nat × Value) → Prop), evP fr l K → ∃ vs, PR ι vs (l.map fun (i, x) => (i, a.eval x)) ∧ K vs := by
  intro l
  induction l with
  | nil => intro K he; exact ⟨[], trivial, he⟩
  | cons x l ih =>
    obtain ⟨i, x⟩ := x
    intro K he
    obtain ⟨v, hv, he⟩ := evK_rel h he
    obtain ⟨vs, hvs, k⟩ := ih _ he
    exact ⟨(i, v) :: vs, ⟨rfl, hv, hvs⟩, k⟩
theorem evQ_rel {n : Nat} {ι : List Pl} {fr : Fr} {a : Act} (h : FB n ι fr a) {x : Option Operand} {K : Option Value → Prop} (he : evQ fr x K) : ∃ v, VRO ι v (x.map a.eval) ∧ K v := by
  cases x with
  | none => exact ⟨none, trivial, he⟩
  | some x => obtain ⟨v, hv, k⟩ := evK_rel h he; exact ⟨some v, hv, k⟩

abbrev OpK := Value → Heap → Prop
def builtinK (P : Program) (H : Heap) (b : Builtin) (ts : List TypeId) (vs : List Value) (K : OpK) : Prop :=
  match b, ts, vs with
  | .len, [t], [v] => Ob (alen P t v H) fun r => K r H
  | .min, [_, _], [v, u] => Ob (aminmax false v u) fun r => K r H
  | .max, [_, _], [v, u] => Ob (aminmax true v u) fun r => K r H
  | .append, [t, tx], [s, x] => Ob2 (aappend P t tx s x H) K
  | .copy, [t, _], [d, s] => Ob2 (acopy P t d s H) K
  | .clear, [t], [s] => Ob (aclear P t s H) fun H' => K undef H'
  | .delete, [t, _], [m, k] => Ob (adelete P t m k H) fun H' => K undef H'
  | .unsafeSliceData, [_], [s] => Ob (asliceData s) fun r => K r H
  | .unsafeString, [t, _], [p, n] => Ob2 (aunsafeString P t p n H) K
  | _, _, _ => False

def aalloc (P : Program) (t : TypeId) (H : Heap) : Option (Value × Heap) := (tzero P t).map fun cs => (.pointer (some ⟨H.length, 0, none⟩), H ++ [.cells (modeOf P t cs.length) cs])
def abox (P : Program) (t : TypeId) (v : Value) (H : Heap) : Option (Value × Heap) := (vcells v).map fun cs => (.pointer (some ⟨H.length, 0, none⟩), H ++ [.cells (modeOf P t cs.length) cs])

def noIface (P : Program) (t : TypeId) : Bool := match P.underlying t with | some (.interface _) => false | some _ => true | none => false
def amakeIface (P : Program) (t : TypeId) (v : Value) : Option Value := match noIface P t with | true => some (.iface t v) | false => none
/-- An assertion that holds, of a type that is no interface. -/
def aassert (P : Program) (t : TypeId) (v : Value) (ok : Bool) : Option Value :=
  match v, ok with
  | .iface t' u, false => match noIface P t, Nat.beq t' t with | true, true => some u | _, _ => none
  | _, _ => none
theorem noIface_spec {P : Program} {t : TypeId} (h : noIface P t = true) : ∃ d, P.underlying t = some d ∧ ∀ m, d ≠ .interface m := by
  unfold noIface at h
  split at h
  · cases h
  · rename_i d hne hd
    exact ⟨d, hd, hne⟩
  · cases h
theorem amakeIface_run {P : Program} {ι : List Pl} {t : TypeId} {v r cv : Value} (hv : VR ι v cv) (h : amakeIface P t v = some r) (w : World) : ∃ cr, (Instr.makeInterface t cv).run P w = .ok cr w ∧ VR ι r cr := by
  unfold amakeIface at h
  split at h
  · rename_i hn
    obtain ⟨d, hd, hne⟩ := noIface_spec hn
    simp only [Option.some.injEq] at h
    subst h
    refine ⟨_, ?_, .iface t _ _ hv⟩
    cases d <;> first | exact absurd rfl (hne _) | simp [Instr.makeInterface, run_underlying hd]
  · cases h
theorem aassert_run {P : Program} {ι : List Pl} {t xt : TypeId} {v r cv : Value} {ok : Bool} (hv : VR ι v cv) (h : aassert P t v ok = some r) (w : World) : ∃ cr, (Instr.typeAssert cv xt t ok).run P w = .ok cr w ∧ VR ι r cr := by
  unfold aassert at h
  split at h
  · split at h
    · rename_i hn hb
      obtain ⟨d, hd, hne⟩ := noIface_spec hn
      have := Nat.eq_of_beq_eq_true hb
      subst this
      simp only [Option.some.injEq] at h
      subst h
      cases hv with
      | iface _ _ c g =>
        refine ⟨c, ?_, g⟩
        cases d <;> first | exact absurd rfl (hne _) | simp [Instr.typeAssert, run_underlying hd]
    · cases h
  · cases h
/-- An operation that is no call of a function. -/
def bop (P : Program) (fr : Fr) (H : Heap) : Op → OpK → Prop
  | .move x, K | .assign x, K => evK fr x fun v => K v H
  | .pick c a b, K => evK fr c fun c => match c with | .bool t => bIf t (evK fr a fun v => K v H) (evK fr b fun v => K v H) | _ => False
  | .alloc t, K => Ob2 (aalloc P t H) K
  | .box t x, K => evK fr x fun v => Ob2 (abox P t v H) K
  | .build t parts, K => evP fr parts.toList fun ps => Ob (abuild P t ps) fun r => K r H
  | .buildSlice t n parts, K => evP fr parts.toList fun ps => Ob2 (abuildSlice P t n ps H) K
  | .load t x, K => evK fr x fun p => Ob (aload P t p H) fun r => K r H
  | .store t x y, K => evK fr x fun p => evK fr y fun v => Ob (astore P t p v H) fun H' => K undef H'
  | .nilCheck x, K => evK fr x fun v => match v with | .pointer (some p) => K (.pointer (some p)) H | .func (.func f) a b => K (.func (.func f) a b) H | _ => False
  | .binOp op t x y _, K => evK fr x fun v => evK fr y fun u => Ob (abin P op t v u) fun r => K r H
  | .unOp op _ x, K => evK fr x fun v => Ob (aun op v) fun r => K r H
  | .convert s d x, K => evK fr x fun v => Ob (aconvert P s d v H) fun r => K r H
  | .makeFunc (.func fn) first captured, K => evL fr first.toList fun fs => evL fr captured.toList fun cs => K (.func (.func fn) fs.toArray cs.toArray) H
  | .makeMap t r, K => evQ fr r fun r => Ob2 (amakeMap P t r H) K
  | .range t x, K => evK fr x fun v => Ob2 (arange P t v H) K
  | .next x b, K => evK fr x fun v => Ob2 (anext v b H) K
  | .makeSlice t l c, K => evK fr l fun l => evK fr c fun c => Ob2 (amakeSlice P t l c H) K
  | .slice t x lo hi mx, K => evK fr x fun v => evQ fr lo fun lo => evQ fr hi fun hi => evQ fr mx fun mx => match arrayOf P t with | none => Ob (aslice P t v lo hi mx) fun r => K r H | some (n, e) => Ob (aslice3 P n e v lo hi mx H) fun r => K r H
  | .fieldAddr s x f, K => evK fr x fun v => Ob (afieldAddr P s v f) fun r => K r H
  | .field t x f, K => evK fr x fun v => Ob (afield P t v f) fun r => K r H
  | .indexAddr t x i, K => evK fr x fun v => evK fr i fun i => Ob (aindexAddr P t v i) fun r => K r H
  | .index t x i, K => evK fr x fun v => evK fr i fun i => Ob (aindex P t v i) fun r => K r H
  | .lookup t x k ok, K => evK fr x fun m => evK fr k fun k => Ob (alookup P t m k ok H) fun r => K r H
  | .mapUpdate t m k x, K | .insert t m k x, K => evK fr m fun m => evK fr k fun k => evK fr x fun v => Ob (amapUpdate P t m k v H) fun H' => K undef H'
  | .extract t i, K => evK fr t fun v => Ob (aextract v i) fun r => K r H
  | .makeInterface t x, K => evK fr x fun v => Ob (amakeIface P t v) fun r => K r H
  | .typeAssert x _ t ok, K => evK fr x fun v => Ob (aassert P t v ok) fun r => K r H
  | .call c, K => match c.callee with
    | .builtin b => evL fr c.args.toList fun vs => builtinK P H b c.argTypes.toList vs K
    | _ => False
  | _, _ => False

/-- What a run comes to. -/
def Came (P : Program) (w0 : World) (ι : List Pl) (w : World) (s : Sem Next) (v : Value) (H' : Heap) : Prop :=
  ∃ ι' cv w', Ext ι ι' ∧ WR P w0 ι' H' w' ∧ VR ι' v cv ∧ (s.run P w = .ok (.value cv) w' ∨ (s.run P w = .ok .skip w' ∧ cv = undef))
theorem came_pure {P : Program} {w0 w : World} {ι : List Pl} {H : Heap} (hw : WR P w0 ι H w) {s : Sem Value} {v : Value} (h : ∃ cv, s.run P w = .ok cv w ∧ VR ι v cv) :
    Came P w0 ι w (do pure (.value (← s))) v H := by
  obtain ⟨cv, h1, h2⟩ := h
  exact ⟨ι, cv, w, .refl _, hw, h2, .inl (by simp [h1])⟩
theorem came_mk {P : Program} {w0 w : World} {ι : List Pl} {H : Heap} {s : Sem Value} {v : Value} (h : ∃ ι' cv w', Ext ι ι' ∧ s.run P w = .ok cv w' ∧ WR P w0 ι' H w' ∧ VR ι' v cv) :
    Came P w0 ι w (do pure (.value (← s))) v H := by
  obtain ⟨ι', cv, w', h1, h2, h3, h4⟩ := h
  exact ⟨ι', cv, w', h1, h3, h4, .inl (by simp [h2])⟩
theorem came_unit {P : Program} {w0 w : World} {ι : List Pl} {H : Heap} {s : Sem Unit} (h : ∃ w', s.run P w = .ok () w' ∧ WR P w0 ι H w') :
    Came P w0 ι w (do s; pure .skip) undef H := by
  obtain ⟨w', h1, h2⟩ := h
  exact ⟨ι, undef, w', .refl _, h2, .undef _, .inr ⟨by simp [h1], rfl⟩⟩
theorem came_done {P : Program} {w0 w : World} {ι : List Pl} {H : Heap} {s : Sem Value} (h : ∃ w', s.run P w = .ok undef w' ∧ WR P w0 ι H w') :
    Came P w0 ι w (do pure (.value (← s))) undef H := by
  obtain ⟨w', h1, h2⟩ := h
  exact ⟨ι, undef, w', .refl _, h2, .undef _, .inl (by simp [h1])⟩

theorem toList_one {α : Type} {a : Array α} {x : α} (h : a.toList = [x]) : a = #[x] := by rw [← Array.toArray_toList (xs := a), h]
theorem toList_two {α : Type} {a : Array α} {x y : α} (h : a.toList = [x, y]) : a = #[x, y] := by rw [← Array.toArray_toList (xs := a), h]
theorem LR.one {ι : List Pl} {v : Value} {cs : List Value} (h : LR ι [v] cs) : ∃ c, cs = [c] ∧ VR ι v c := by
  obtain ⟨c, hc, hr⟩ := h.2 0 v rfl
  have h1 := h.1
  match cs, h1 with
  | [d], _ => simp only [List.getElem?_cons_zero, Option.some.injEq] at hc; subst hc; exact ⟨_, rfl, hr⟩
theorem LR.two {ι : List Pl} {v u : Value} {cs : List Value} (h : LR ι [v, u] cs) : ∃ c d, cs = [c, d] ∧ VR ι v c ∧ VR ι u d := by
  obtain ⟨c, hc, hr⟩ := h.2 0 v rfl
  obtain ⟨d, hd, hs⟩ := h.2 1 u rfl
  have h1 := h.1
  match cs, h1 with
  | [c', d'], _ =>
    simp only [List.getElem?_cons_zero, List.getElem?_cons_succ, Option.some.injEq] at hc hd
    subst hc hd
    exact ⟨_, _, rfl, hr, hs⟩

theorem builtinK_run {P : Program} {w0 w : World} {ι : List Pl} {H : Heap} (hw : WR P w0 ι H w) {b : Builtin} {ts : Array TypeId} {ty : TypeId} {vs : List Value} {cvs : Array Value} {cons : Array Bool} {K : OpK} (hL : LR ι vs cvs.toList)
    (h : builtinK P H b ts.toList vs K) : ∃ v H', K v H' ∧ Came P w0 ι w (builtin b ts ty cons cvs) v H' := by
  unfold builtinK at h
  split at h
  · rename_i t v' hts
    obtain ⟨r, hr, k⟩ := h.out
    obtain ⟨c, hc, hv⟩ := hL.one
    rw [toList_one hts, toList_one hc]
    exact ⟨_, _, k, came_pure hw (alen_run hw rfl hv hr)⟩
  · rename_i t1 t2 v' u hts
    obtain ⟨r, hr, k⟩ := h.out
    obtain ⟨c, d, hc, hv, hu⟩ := hL.two
    rw [toList_two hc]
    exact ⟨_, _, k, came_pure hw (amin_run hv hu hr _ _ w)⟩
  · rename_i t1 t2 v' u hts
    obtain ⟨r, hr, k⟩ := h.out
    obtain ⟨c, d, hc, hv, hu⟩ := hL.two
    rw [toList_two hc]
    exact ⟨_, _, k, came_pure hw (amax_run hv hu hr _ _ w)⟩
  · rename_i t tx s x hts
    obtain ⟨⟨r, H'⟩, hr, k⟩ := h.out
    obtain ⟨c, d, hc, hv, hu⟩ := hL.two
    rw [toList_two hc, toList_two hts]
    exact ⟨_, _, k, came_mk (aappend_run hw hv hu hr)⟩
  · rename_i t tx d s hts
    obtain ⟨⟨r, H'⟩, hr, k⟩ := h.out
    obtain ⟨c, d, hc, hv, hu⟩ := hL.two
    rw [toList_two hc, toList_two hts]
    obtain ⟨cr, w', h1, h2, h3⟩ := acopy_run (ts := #[t, tx]) (ty := ty) hw rfl hv hu hr
    exact ⟨_, _, k, came_mk ⟨ι, cr, w', .refl _, h1, h2, h3⟩⟩
  · rename_i t s hts
    obtain ⟨r, hr, k⟩ := h.out
    obtain ⟨c, hc, hv⟩ := hL.one
    rw [toList_one hts, toList_one hc]
    exact ⟨_, _, k, came_done (aclear_run (ts := #[t]) hw rfl hv hr)⟩
  · rename_i t tx m k' hts
    obtain ⟨r, hr, k⟩ := h.out
    obtain ⟨c, d, hc, hv, hu⟩ := hL.two
    rw [toList_two hc, toList_two hts]
    exact ⟨_, _, k, came_done (adelete_run (ts := #[t, tx]) hw rfl hv hu hr)⟩
  · rename_i t s hts
    obtain ⟨r, hr, k⟩ := h.out
    obtain ⟨c, hc, hv⟩ := hL.one
    rw [toList_one hc]
    exact ⟨_, _, k, came_pure hw (asliceData_run hv hr _ _ w)⟩
  · rename_i t tx p n hts
    obtain ⟨⟨r, H'⟩, hr, k⟩ := h.out
    obtain ⟨c, d, hc, hv, hu⟩ := hL.two
    rw [toList_two hc, toList_two hts]
    exact ⟨_, _, k, came_mk (aunsafeString_run hw hv hu hr)⟩
  · exact h.elim

theorem bop_run {P : Program} {w0 w : World} {n : Nat} {ι : List Pl} {H : Heap} (hw : WR P w0 ι H w) {fr : Fr} {a : Act} (hf : FB n ι fr a) {o : Oper} {K : OpK} (h : bop P fr H o.op K) :
    ∃ v H', K v H' ∧ Came P w0 ι w (execOp a.eval o) v H' := by
  obtain ⟨dst, op, ty, pos, after, guard⟩ := o
  simp only at h
  unfold bop at h
  split at h
  all_goals simp only [execOp]
  · obtain ⟨v, hv, k⟩ := evK_rel hf h
    exact ⟨_, _, k, ι, _, w, .refl _, hw, hv, .inl rfl⟩
  · obtain ⟨v, hv, k⟩ := evK_rel hf h
    exact ⟨_, _, k, ι, _, w, .refl _, hw, hv, .inl rfl⟩
  · obtain ⟨c, hc, h⟩ := evK_rel hf h
    split at h
    · rename_i t
      generalize a.eval _ = cc at hc
      cases hc
      rcases h.out with ⟨rfl, h⟩ | ⟨rfl, h⟩
      · obtain ⟨v, hv, k⟩ := evK_rel hf h
        exact ⟨_, _, k, ι, _, w, .refl _, hw, hv, .inl (by simp [asBool])⟩
      · obtain ⟨v, hv, k⟩ := evK_rel hf h
        exact ⟨_, _, k, ι, _, w, .refl _, hw, hv, .inl (by simp [asBool])⟩
    · exact h.elim
  · rename_i K t
    obtain ⟨⟨v, H'⟩, hr, k⟩ := h.out
    simp only [aalloc, Option.map_eq_some_iff, Prod.mk.injEq] at hr
    obtain ⟨cs, hcs, rfl, rfl⟩ := hr
    obtain ⟨z, hz, hzc, hzo, _, _⟩ := run_zeroValue hcs w
    obtain ⟨ι', hx, hW, hV⟩ := hw.newVar (cs := cs) (ccs := z.cells) (by rw [hzc]; exact .const hzo) (fun x hx => oneCell_of_const1 (List.all_eq_true.1 hzo x hx)) t
    exact ⟨_, _, k, came_mk ⟨ι', _, _, hx, by simp [Instr.alloc, hz, Go.newVar, Go.newRow], hW, hV⟩⟩
  · rename_i K t x0
    obtain ⟨x, hx, h⟩ := evK_rel hf h
    obtain ⟨⟨v, H'⟩, hr, k⟩ := h.out
    simp only [abox, Option.map_eq_some_iff, Prod.mk.injEq] at hr
    obtain ⟨cs, hcs, rfl, rfl⟩ := hr
    obtain ⟨hL, hone⟩ := vcells_rel hx hcs
    obtain ⟨ι', hx, hW, hV⟩ := hw.newVar hL hone t
    exact ⟨_, _, k, came_mk ⟨ι', _, _, hx, by simp [Instr.box, Go.newVar, Go.newRow], hW, hV⟩⟩
  · obtain ⟨ps, hps, h⟩ := evP_rel hf _ _ h
    obtain ⟨r, hr, k⟩ := h.out
    exact ⟨_, _, k, came_pure hw (abuild_run (by simpa using hps) hr w)⟩
  · obtain ⟨ps, hps, h⟩ := evP_rel hf _ _ h
    obtain ⟨⟨r, H'⟩, hr, k⟩ := h.out
    exact ⟨_, _, k, came_mk (abuildSlice_run hw (by simpa using hps) hr)⟩
  · obtain ⟨p, hp, h⟩ := evK_rel hf h
    obtain ⟨r, hr, k⟩ := h.out
    exact ⟨_, _, k, came_pure hw (aload_run hw hp hr)⟩
  · obtain ⟨p, hp, h⟩ := evK_rel hf h
    obtain ⟨x, hx, h⟩ := evK_rel hf h
    obtain ⟨r, hr, k⟩ := h.out
    exact ⟨_, _, k, came_unit (astore_run hw hp hx hr)⟩
  · obtain ⟨x, hv, h⟩ := evK_rel hf h
    split at h
    · refine ⟨_, _, h, ι, _, w, .refl _, hw, hv, .inl ?_⟩
      generalize a.eval _ = cc at hv
      cases hv
      rfl
    · refine ⟨_, _, h, ι, _, w, .refl _, hw, hv, .inl ?_⟩
      generalize a.eval _ = cc at hv
      cases hv
      rfl
    · exact h.elim
  · obtain ⟨x, hx, h⟩ := evK_rel hf h
    obtain ⟨y, hy, h⟩ := evK_rel hf h
    obtain ⟨r, hr, k⟩ := h.out
    exact ⟨_, _, k, came_pure hw (abin_run hx hy hr w)⟩
  · obtain ⟨x, hx, h⟩ := evK_rel hf h
    obtain ⟨r, hr, k⟩ := h.out
    exact ⟨_, _, k, came_pure hw (aun_run hx hr w)⟩
  · obtain ⟨x, hx, h⟩ := evK_rel hf h
    obtain ⟨r, hr, k⟩ := h.out
    exact ⟨_, _, k, came_pure hw (aconvert_run hw hx hr)⟩
  · obtain ⟨fs, h1, h⟩ := evL_rel hf _ _ h
    obtain ⟨cs, h2, h⟩ := evL_rel hf _ _ h
    refine ⟨_, _, h, came_pure hw ⟨_, rfl, .func _ _ _ _ _ (by simpa using h1.1) (by simpa using h2.1) (fun i hi => ?_) (fun i hi => ?_)⟩⟩
    · have := h1.toArr i (by simpa using hi)
      rw [← Array.toList_map, Array.toArray_toList] at this; exact this
    · have := h2.toArr i (by simpa using hi)
      rw [← Array.toList_map, Array.toArray_toList] at this; exact this
  · obtain ⟨r, hr, h⟩ := evQ_rel hf h
    obtain ⟨⟨x, H'⟩, hx, k⟩ := h.out
    exact ⟨_, _, k, came_mk (amakeMap_run hw hr hx)⟩
  · obtain ⟨r, hr, h⟩ := evK_rel hf h
    obtain ⟨⟨x, H'⟩, hx, k⟩ := h.out
    exact ⟨_, _, k, came_mk (arange_run hw hr hx)⟩
  · obtain ⟨r, hr, h⟩ := evK_rel hf h
    obtain ⟨⟨x, H'⟩, hx, k⟩ := h.out
    exact ⟨_, _, k, came_mk (anext_run hw hr hx)⟩
  · obtain ⟨l, hl, h⟩ := evK_rel hf h
    obtain ⟨c, hc, h⟩ := evK_rel hf h
    obtain ⟨⟨x, H'⟩, hx, k⟩ := h.out
    exact ⟨_, _, k, came_mk (amakeSlice_run hw hl hc hx)⟩
  · obtain ⟨x, hx, h⟩ := evK_rel hf h
    obtain ⟨lo, hlo, h⟩ := evQ_rel hf h
    obtain ⟨hi, hhi, h⟩ := evQ_rel hf h
    obtain ⟨mx, hmx, h⟩ := evQ_rel hf h
    split at h
    · obtain ⟨r, hr, k⟩ := h.out
      exact ⟨_, _, k, came_pure hw (aslice_run hx hlo hhi hmx hr w)⟩
    · rename_i n e hu
      obtain ⟨r, hr, k⟩ := h.out
      exact ⟨_, _, k, came_pure hw (aslice3_run hw hu hx hlo hhi hmx hr)⟩
  · obtain ⟨x, hx, h⟩ := evK_rel hf h
    obtain ⟨r, hr, k⟩ := h.out
    exact ⟨_, _, k, came_pure hw (afieldAddr_run hx hr w)⟩
  · obtain ⟨x, hx, h⟩ := evK_rel hf h
    obtain ⟨r, hr, k⟩ := h.out
    exact ⟨_, _, k, came_pure hw (afield_run hx hr w)⟩
  · obtain ⟨x, hx, h⟩ := evK_rel hf h
    obtain ⟨i, hi, h⟩ := evK_rel hf h
    obtain ⟨r, hr, k⟩ := h.out
    exact ⟨_, _, k, came_pure hw (aindexAddr_run hx hi hr w)⟩
  · obtain ⟨x, hx, h⟩ := evK_rel hf h
    obtain ⟨i, hi, h⟩ := evK_rel hf h
    obtain ⟨r, hr, k⟩ := h.out
    exact ⟨_, _, k, came_pure hw (aindex_run hx hi hr w)⟩
  · obtain ⟨x, hx, h⟩ := evK_rel hf h
    obtain ⟨i, hi, h⟩ := evK_rel hf h
    obtain ⟨r, hr, k⟩ := h.out
    exact ⟨_, _, k, came_pure hw (alookup_run hw hx hi hr)⟩
  · obtain ⟨m, hm, h⟩ := evK_rel hf h
    obtain ⟨i, hi, h⟩ := evK_rel hf h
    obtain ⟨x, hx, h⟩ := evK_rel hf h
    obtain ⟨r, hr, k⟩ := h.out
    exact ⟨_, _, k, came_unit (amapUpdate_run hw hm hi hx hr)⟩
  · obtain ⟨m, hm, h⟩ := evK_rel hf h
    obtain ⟨i, hi, h⟩ := evK_rel hf h
    obtain ⟨x, hx, h⟩ := evK_rel hf h
    obtain ⟨r, hr, k⟩ := h.out
    exact ⟨_, _, k, came_unit (amapUpdate_run hw hm hi hx hr)⟩
  · obtain ⟨x, hx, h⟩ := evK_rel hf h
    obtain ⟨r, hr, k⟩ := h.out
    exact ⟨_, _, k, came_pure hw (aextract_run hx hr w)⟩
  · obtain ⟨x, hx, h⟩ := evK_rel hf h
    obtain ⟨r, hr, k⟩ := h.out
    exact ⟨_, _, k, came_pure hw (amakeIface_run hx hr w)⟩
  · obtain ⟨x, hx, h⟩ := evK_rel hf h
    obtain ⟨r, hr, k⟩ := h.out
    exact ⟨_, _, k, came_pure hw (aassert_run hx hr w)⟩
  · rename_i K c
    split at h
    · rename_i b hb
      obtain ⟨vs, hvs, h⟩ := evL_rel hf _ _ h
      obtain ⟨v, H', k, ι', cv, w', g1, g2, g3, g4⟩ := builtinK_run (cvs := c.args.map a.eval) (ty := ty) (cons := c.args.map fun | .const _ => true | _ => false) hw (by simpa using hvs) h
      refine ⟨v, H', k, ι', cv, w', g1, g2, g3, ?_⟩
      simp only [resolve, hb, invoke, Sem.run_bind, Sem.run_pure, Result.andThen_ok]
      exact g4
    · exact h.elim
  · exact h.elim

end Go.Proofs.YtmdpifedcaaobaaDoor.Ax
