/- The abstract machine: loads, stores and new blocks, and that the real ones follow them. -/
import Derived.Test.YtdlanbfbbopfhaaAx1
set_option linter.unusedVariables false
set_option linter.unusedSimpArgs false
namespace Go.Proofs.Ytdlanbfbbopfhaa.Ax
open Go Go.RowKit

def isAggD : TypeDesc → Bool
  | .struct _ | .array _ _ => true
  | _ => false
def tsize (P : Program) (t : TypeId) : Option Nat := (P.info? t).map (·.size)
def tzero (P : Program) (t : TypeId) : Option (List Value) := (P.info? t).bind fun i => i.zero.bind fun z => (vcells z).bind fun cs => if cs.all Ax.const1 then some cs else none

theorem run_isAgg {P : Program} {t : TypeId} {d : TypeDesc} (h : P.underlying t = some d) (w : World) : (isAgg t).run P w = .ok (isAggD d) w := by
  cases d <;> simp [isAgg, run_underlying h, isAggD]
theorem run_sizeOf {P : Program} {t : TypeId} {n : Nat} (h : tsize P t = some n) (w : World) : (sizeOf t).run P w = .ok n w := by
  unfold tsize at h
  obtain ⟨i, hi, rfl⟩ := Option.map_eq_some_iff.1 h
  simp [sizeOf, typeInfo, hi]
theorem run_zeroValue {P : Program} {t : TypeId} {cs : List Value} (h : tzero P t = some cs) (w : World) : ∃ z, (zeroValue t).run P w = .ok z w ∧ z.cells.toList = cs ∧ cs.all Ax.const1 = true ∧ VR [] z z ∧ vcells z = some cs := by
  unfold tzero at h
  simp only [Option.bind_eq_some_iff] at h
  obtain ⟨i, hi, z, hz, xs, hx, h⟩ := h
  split at h
  · rename_i hc
    simp only [Option.some.injEq] at h
    subst h
    refine ⟨z, by simp [zeroValue, typeInfo, hi, hz], ?_, hc, ?_, hx⟩
    · cases z <;> simp_all [vcells, Value.cells]
    · apply VR.constOk
      cases z with
      | agg cs => simp only [vcells, Option.some.injEq] at hx; subst hx; simpa [Ax.constOk] using hc
      | tuple vs => simp [vcells] at hx
      | _ => simp only [vcells, Option.some.injEq] at hx; subst hx; simpa [Ax.constOk] using hc
  · simp at h

theorem add_none (b o n : Nat) : (⟨b, o, none⟩ : Addr).add n = ⟨b, o + n, none⟩ := by
  unfold Addr.add; split
  · subst_vars; rfl
  · rfl

/-! ### Reading -/
theorem cell_of {w : World} {b o : Nat} {cc : Array Value} {e : TypeId} {fr : Nat × Nat} (h : w.heap[b]? = some (.cells cc e fr)) : w.cell? ⟨b, o, none⟩ = cc[o]? := by
  simp [World.cell?, h]
theorem frozen_of {w : World} {b o : Nat} {cc : Array Value} {e : TypeId} {fr : Nat × Nat} (h : w.heap[b]? = some (.cells cc e fr)) (hf : fr.1 = fr.2) : w.frozen? ⟨b, o, none⟩ = false := by
  obtain ⟨lo, hi⟩ := fr
  simp only at hf
  subst hf
  simp [World.frozen?, h]

/-- Some cells of an abstract block, and of the real one. -/
theorem CellsAt.range {ι : List Pl} {w : World} {pl : Pl} {c : List Value} {cc : Array Value} {e : TypeId} {fr : Nat × Nat} (h : CellsAt ι w pl c cc e fr) (off n : Nat) (hn : off + n ≤ c.length) :
    LR ι ((c.drop off).take n) ((cc.toList.drop (pl.off + off)).take n) ∧ (∀ x ∈ (c.drop off).take n, x.oneCell' = true) ∧
    ((cc.toList.drop (pl.off + off)).take n).length = n ∧ ∀ j v, ((cc.toList.drop (pl.off + off)).take n)[j]? = some v → w.cell? ((⟨pl.blk, pl.off + off, none⟩ : Addr).add j) = some v := by
  obtain ⟨h1, h2, h3, h4⟩ := h
  have hl : ((cc.toList.drop (pl.off + off)).take n).length = n := by simp; omega
  refine ⟨⟨by rw [hl]; simp; omega, fun i v hi => ?_⟩, fun x hx => ?_, hl, fun j v hv => ?_⟩
  · rw [List.getElem?_take] at hi ⊢
    split at hi
    · rename_i hlt
      rw [List.getElem?_drop] at hi
      obtain ⟨_, cv, hc, hr⟩ := h4 _ v hi
      refine ⟨cv, ?_, hr⟩
      rw [if_pos hlt, List.getElem?_drop, Array.getElem?_toList, Nat.add_assoc]
      exact hc
    · simp at hi
  · obtain ⟨i, hi, rfl⟩ := List.getElem_of_mem hx
    have : (c)[off + i]? = some ((c.drop off).take n)[i] := by
      rw [List.getElem_take, List.getElem_drop]
      exact List.getElem?_eq_getElem _
    exact (h4 _ _ this).1
  · rw [add_none, cell_of h1]
    rw [List.getElem?_take] at hv
    split at hv
    · rw [List.getElem?_drop, Array.getElem?_toList] at hv; exact hv
    · simp at hv

/-- The cells of a block. -/
def hblk (H : Heap) (b : Nat) : Option (List Value) := match H[b]? with | some (.cells _ c) => some c | _ => none
theorem WR.cells {P : Program} {w0 w : World} {ι : List Pl} {H : Heap} (h : WR P w0 ι H w) {b : Nat} {c : List Value} (hb : hblk H b = some c) :
    ∃ m pl cc e fr, H[b]? = some (.cells m c) ∧ ι[b]? = some pl ∧ CellsAt ι w pl c cc e fr := by
  unfold hblk at hb
  split at hb
  · rename_i m c' he
    simp only [Option.some.injEq] at hb
    subst hb
    obtain ⟨pl, hp, cc, e, fr, h1, _⟩ := h.get he
    exact ⟨m, pl, cc, e, fr, he, hp, h1⟩
  · simp at hb

def slotsOf (c : List Value) (off n : Nat) : Option (List Value) := if off + n ≤ c.length then some ((c.drop off).take n) else none

def aload (P : Program) (t : TypeId) (v : Value) (H : Heap) : Option Value :=
  match v with
  | .pointer (some ⟨b, off, none⟩) => (hblk H b).bind fun c => (P.underlying t).bind fun d =>
      if isAggD d then (tsize P t).bind fun n => (slotsOf c off n).map fun l => .agg l.toArray else c[off]?
  | _ => none

theorem aload_run {P : Program} {w0 w : World} {ι : List Pl} {H : Heap} (h : WR P w0 ι H w) {t : TypeId} {v x cv : Value} (hr : VR ι v cv) (hl : aload P t v H = some x) :
    ∃ cx, (Instr.loadAt t cv).run P w = .ok cx w ∧ VR ι x cx := by
  unfold aload at hl
  split at hl
  · rename_i b off
    simp only [Option.bind_eq_some_iff] at hl
    obtain ⟨c, hc, d, hd, hl⟩ := hl
    obtain ⟨m, pl, cc, e, fr, hb, hp, hC⟩ := h.cells hc
    cases hr with
    | ptr _ _ pl' hp' =>
      rw [hp] at hp'
      simp only [Option.some.injEq] at hp'
      subst hp'
      split at hl
      · rename_i ha
        simp only [Option.bind_eq_some_iff, Option.map_eq_some_iff] at hl
        obtain ⟨n, hn, l, hl, rfl⟩ := hl
        unfold slotsOf at hl
        split at hl
        · rename_i hle
          simp only [Option.some.injEq] at hl
          subst hl
          obtain ⟨hL, hone, hlen, hcell⟩ := hC.range off n hle
          have hrun := run_loadCells_list (P := P) w ⟨pl.blk, pl.off + off, none⟩ _ hcell
          rw [hlen] at hrun
          refine ⟨.agg ((cc.toList.drop (pl.off + off)).take n).toArray, ?_, .agg _ _ (by simpa using hL.1) (fun i hi => hL.toArr i (by simpa using hi)) (fun i hi => ?_)⟩
          · simp [Instr.loadAt, Instr.sureAddr, loadVar, run_isAgg hd, ha, run_sizeOf hn, hrun]
          · exact hone _ (by simpa using getD_mem hi)
        · simp at hl
      · rename_i ha
        obtain ⟨hone, cv, hcv, hrv⟩ := hC.2.2.2 off x hl
        refine ⟨cv, ?_, hrv⟩
        have : w.cell? ⟨pl.blk, pl.off + off, none⟩ = some cv := by rw [cell_of hC.1]; exact hcv
        simp [Instr.loadAt, Instr.sureAddr, loadVar, run_isAgg hd, ha, this]
  · simp at hl

/-! ### Writing -/
def putL (c : List Value) : Nat → List Value → List Value
  | _, [] => c
  | o, v :: vs => putL (c.set o v) (o + 1) vs
def putA (c : Array Value) : Nat → List Value → Array Value
  | _, [] => c
  | o, v :: vs => putA (c.setIfInBounds o v) (o + 1) vs
theorem putL_length (vs : List Value) : ∀ (c : List Value) (o : Nat), (putL c o vs).length = c.length := by
  induction vs with
  | nil => intro c o; rfl
  | cons v vs ih => intro c o; simp [putL, ih]
theorem putA_size (vs : List Value) : ∀ (c : Array Value) (o : Nat), (putA c o vs).size = c.size := by
  induction vs with
  | nil => intro c o; rfl
  | cons v vs ih => intro c o; simp [putA, ih]
theorem putL_get (vs : List Value) : ∀ (c : List Value) (o i : Nat), (putL c o vs)[i]? = if o ≤ i ∧ i < o + vs.length ∧ i < c.length then vs[i - o]? else c[i]? := by
  induction vs with
  | nil => intro c o i; simp [putL]; omega
  | cons v vs ih =>
    intro c o i
    rw [putL, ih]
    simp only [List.length_set, List.length_cons]
    by_cases h1 : o + 1 ≤ i ∧ i < o + 1 + vs.length ∧ i < c.length
    · rw [if_pos h1, if_pos (by omega)]
      obtain ⟨k, rfl⟩ : ∃ k, i = o + 1 + k := ⟨i - (o + 1), by omega⟩
      rw [show o + 1 + k - (o + 1) = k by omega, show o + 1 + k - o = k + 1 by omega]
      simp
    · rw [if_neg h1]
      by_cases h2 : i = o
      · subst h2
        by_cases h3 : i < c.length
        · rw [if_pos (by omega), List.getElem?_set_self h3]; simp
        · rw [if_neg (by omega), List.getElem?_eq_none (by simp; omega), List.getElem?_eq_none (by omega)]
      · rw [List.getElem?_set_ne (by omega)]
        by_cases h4 : o ≤ i ∧ i < o + (vs.length + 1) ∧ i < c.length
        · omega
        · rw [if_neg h4]
theorem putA_toList (vs : List Value) : ∀ (c : Array Value) (o : Nat), (putA c o vs).toList = putL c.toList o vs := by
  induction vs with
  | nil => intro c o; rfl
  | cons v vs ih => intro c o; simp [putA, putL, ih]

theorem heap_setCell_self {w : World} {b o : Nat} {v : Value} {cc : Array Value} {e : TypeId} {fr : Nat × Nat} (h : w.heap[b]? = some (.cells cc e fr)) :
    (w.setCell ⟨b, o, none⟩ v).heap[b]? = some (.cells (cc.setIfInBounds o v) e fr) := by
  simp [World.setCell, Array.getElem?_modify, h]

theorem run_storeCells {P : Program} {b : Nat} {e : TypeId} {fr : Nat × Nat} (hf : fr.1 = fr.2) (vs : List Value) : ∀ (w : World) (cc : Array Value) (off i : Nat), w.heap[b]? = some (.cells cc e fr) →
    off + i + vs.length ≤ cc.size → (∀ v ∈ vs, v.oneCell' = true) →
    ∃ w', (storeCells ⟨b, off, none⟩ vs i).run P w = .ok () w' ∧ w'.os = w.os ∧ w'.tape = w.tape ∧ w'.output = w.output ∧ w'.heap.size = w.heap.size ∧
      (∀ k, k ≠ b → w'.heap[k]? = w.heap[k]?) ∧ w'.heap[b]? = some (.cells (putA cc (off + i) vs) e fr) := by
  induction vs with
  | nil => intro w cc off i h _ _; exact ⟨w, rfl, rfl, rfl, rfl, rfl, fun _ _ => rfl, h⟩
  | cons v vs ih =>
    intro w cc off i h hle hone
    simp only [List.length_cons] at hle
    have h1 := heap_setCell_self (o := off + i) (v := v) h
    obtain ⟨w', hr, e1, e2, e3, e4, e5, e6⟩ := ih (w.setCell ⟨b, off + i, none⟩ v) _ off (i + 1) h1 (by simp; omega) (fun x hx => hone x (List.mem_cons_of_mem _ hx))
    have hc : w.cell? ⟨b, off + i, none⟩ = some cc[off + i] := by rw [cell_of h]; simp [show off + i < cc.size by omega]
    refine ⟨w', ?_, e1, e2, e3, by rw [e4]; simp, fun k hk => by rw [e5 k hk]; exact Below.heap_setCell _ _ _ _ hk, e6⟩
    simp only [storeCells, Sem.run_bind, add_none]
    rw [run_store P w _ v .plain (hone v (List.mem_cons_self ..)), hc]
    simp only [frozen_of h hf, Bool.false_eq_true, if_false, Result.andThen_ok]
    exact hr

def hput (H : Heap) (b off : Nat) (vs : List Value) : Option Heap :=
  match H[b]? with
  | some (.cells m c) => if m.own = true ∧ off + vs.length ≤ c.length then some (H.set b (.cells m (putL c off vs))) else none
  | _ => none

/-- Cells are written. -/
theorem WR.store {P : Program} {w0 w : World} {ι : List Pl} {H H' : Heap} (h : WR P w0 ι H w) {b off : Nat} {vs cvs : List Value} (hp : hput H b off vs = some H') (hv : LR ι vs cvs) (hone : ∀ v ∈ vs, v.oneCell' = true)
    {pl : Pl} (hpl : ι[b]? = some pl) : ∃ w', (storeCells ⟨pl.blk, pl.off + off, none⟩ cvs).run P w = .ok () w' ∧ WR P w0 ι H' w' := by
  unfold hput at hp
  split at hp
  · rename_i m c hb
    split at hp
    · rename_i hc
      simp only [Option.some.injEq] at hp
      subst hp
      obtain ⟨cc, e, fr, ⟨h1, h2, h3, h4⟩, h5, h6⟩ := h.blk b _ pl hb hpl
      have hone' : ∀ v ∈ cvs, v.oneCell' = true := by
        intro v hvm
        obtain ⟨i, hi, rfl⟩ := List.getElem_of_mem hvm
        obtain ⟨c', hc', hr⟩ := hv.2 i (vs[i]'(by have := hv.1; omega)) (by simp)
        rw [List.getElem?_eq_getElem hi] at hc'
        simp only [Option.some.injEq] at hc'
        rw [hc', VR.oneCell hr]
        exact hone _ (List.getElem_mem _)
      obtain ⟨w', hr, e1, e2, e3, e4, e5, e6⟩ := run_storeCells (P := P) (h5 hc.1).2 cvs w cc (pl.off + off) 0 h1 (by have := hv.1; omega) hone'
      refine ⟨w', hr, h.upd hb hpl hc.1 e1 e2 e3 (by omega) (fun k _ hk => e5 k hk) ⟨_, e, fr, ⟨e6, by rw [putA_size]; exact h2, by rw [putL_length]; exact h3, fun i v hi => ?_⟩, h5, (by revert h6; cases m <;> simp only [putA_size] <;> exact id)⟩⟩
      rw [putL_get] at hi
      rw [← Array.getElem?_toList, putA_toList, putL_get]
      split at hi
      · rename_i hlt
        have hz : v ∈ vs := List.mem_of_getElem? hi
        obtain ⟨cv, hcv, hrv⟩ := hv.2 _ v hi
        refine ⟨hone v hz, cv, ?_, hrv⟩
        rw [if_pos (by have := hv.1; simp; omega), ← hcv]
        congr 1
        omega
      · rename_i hlt
        obtain ⟨a1, cv, hcv, hrv⟩ := h4 i v hi
        have hil : i < c.length := (List.getElem?_eq_some_iff.1 hi).1
        refine ⟨a1, cv, ?_, hrv⟩
        rw [if_neg (by have := hv.1; simp; omega), Array.getElem?_toList]
        exact hcv
    · simp at hp
  · simp at hp

def astore (P : Program) (t : TypeId) (p v : Value) (H : Heap) : Option Heap :=
  match p with
  | .pointer (some ⟨b, off, none⟩) => (vcells v).bind fun vs => (tsize P t).bind fun n => if vs.length = n then hput H b off vs else none
  | _ => none
theorem astore_run {P : Program} {w0 w : World} {ι : List Pl} {H H' : Heap} (h : WR P w0 ι H w) {t : TypeId} {p v cp cv : Value} (hp : VR ι p cp) (hv : VR ι v cv) (hs : astore P t p v H = some H') :
    ∃ w', (Instr.storeAt t cp cv).run P w = .ok () w' ∧ WR P w0 ι H' w' := by
  unfold astore at hs
  split at hs
  · rename_i b off
    simp only [Option.bind_eq_some_iff] at hs
    obtain ⟨vs, hvs, n, hn, hs⟩ := hs
    split at hs
    · rename_i hlen
      obtain ⟨hL, hone⟩ := vcells_rel hv hvs
      cases hp with
      | ptr _ _ pl hpl =>
        obtain ⟨w', hr, hw⟩ := h.store hs hL hone hpl
        refine ⟨w', ?_, hw⟩
        have hsz : cv.cells.size = n := by have := hL.1; simp at this; omega
        simp [Instr.storeAt, Instr.sureAddr, storeVar, run_sizeOf hn, hsz, hr]
    · simp at hs
  · simp at hs

/-! ### New blocks -/
theorem heap_alloc_self (w : World) (o : Obj) : (w.alloc o).heap[w.heap.size]? = some o := by
  show (w.heap.push o)[w.heap.size]? = some o
  simp
theorem WR.fresh {P : Program} {w0 w : World} {ι : List Pl} {H : Heap} (h : WR P w0 ι H w) (o : Obj) (pl : Pl) (B : Blk) (hp : pl.blk = w.heap.size) (hB : BR P w0 (ι ++ [pl]) (w.alloc o) pl B) :
    WR P w0 (ι ++ [pl]) (H ++ [B]) (w.alloc o) := by
  have hw : Below w.heap.size w (w.alloc o) := (Below.refl _ _).alloc (Nat.le_refl _) o
  refine (h.grow hw).push pl B hB fun b C q h1 h2 ha he => ?_
  have := (h.blk b C q h1 h2).lt ha
  omega
/-- Does a type begin with a pointer to itself, or with a part that does? (Of such a variable the type is kept in mind.) -/
def selfed (P : Program) (t : TypeId) : Bool :=
  match P.underlying t with
  | some (.struct fs) => match fs[0]? with | some f => (match P.underlying f.type with | some (.pointer u) => Nat.beq u t | _ => false) | none => false
  | _ => false
def typed (P : Program) (t : TypeId) : Bool :=
  match P.underlying t with
  | some (.struct fs) => match fs[0]? with | some f => (match P.underlying f.type with | some (.pointer u) => Nat.beq u t | some (.struct _) => selfed P f.type | _ => false) | none => false
  | _ => false
def modeOf (P : Program) (t : TypeId) (n : Nat) : Mode :=
  match typed P t with
  | true => match Nat.beq (P.cellsOf t) n with | true => .one t | false => .var
  | false => .var
theorem modeOf_cases (P : Program) (t : TypeId) (n : Nat) : modeOf P t n = .var ∨ (modeOf P t n = .one t ∧ P.cellsOf t = n) := by
  unfold modeOf
  split
  · split
    · rename_i h; exact .inr ⟨rfl, Nat.eq_of_beq_eq_true h⟩
    · exact .inl rfl
  · exact .inl rfl
/-- A new variable. -/
theorem WR.newVar {P : Program} {w0 w : World} {ι : List Pl} {H : Heap} (h : WR P w0 ι H w) {cs : List Value} {ccs : Array Value} (hL : LR ι cs ccs.toList) (hone : ∀ v ∈ cs, v.oneCell' = true) (t : TypeId) :
    ∃ ι', Ext ι ι' ∧ WR P w0 ι' (H ++ [.cells (modeOf P t cs.length) cs]) (w.alloc (.cells ccs t)) ∧ VR ι' (.pointer (some ⟨H.length, 0, none⟩)) (.pointer (some ⟨w.heap.size, 0, none⟩)) := by
  have hx : (ι ++ [⟨w.heap.size, 0, cs.length, 0⟩])[H.length]? = some ⟨w.heap.size, 0, cs.length, 0⟩ := by rw [← h.len]; simp
  have hs : ccs.size = cs.length := by have := hL.1; simp at this; omega
  refine ⟨ι ++ [⟨w.heap.size, 0, cs.length, 0⟩], .push _ _, h.fresh _ _ _ rfl ⟨ccs, t, (0, 0), ⟨heap_alloc_self _ _, ?_, Nat.le_refl _, fun i v hi => ?_⟩, fun _ => ⟨h.below.size, rfl⟩, ?_⟩, ?_⟩
  · have := hL.1; simp at this ⊢; omega
  · obtain ⟨cv, hc, hr⟩ := hL.2 i v hi
    exact ⟨hone v (List.mem_of_getElem? hi), cv, by simpa using hc, hr.ext (.push _ _)⟩
  · rcases modeOf_cases P t cs.length with e | ⟨e, hc⟩
    · rw [e]
    · rw [e]; exact ⟨rfl, rfl, rfl, by rw [hs, hc], hc.symm⟩
  · simpa using VR.ptr (ι := ι ++ [⟨w.heap.size, 0, cs.length, 0⟩]) H.length 0 _ hx
/-- A new row. -/
theorem WR.newRow {P : Program} {w0 w : World} {ι : List Pl} {H : Heap} (h : WR P w0 ι H w) {cs : List Value} {ccs : Array Value} (hL : LR ι cs (ccs.toList.take cs.length)) (hone : ∀ v ∈ cs, v.oneCell' = true) (e : TypeId)
    {len cap es : Nat} (hes : tsize P e = some es) (h0 : es ≠ 0) (hcs : cs.length = len * es) (hcc : ccs.size = cap * es) (hlc : len ≤ cap) (hm : cap ≤ maxLen) :
    ∃ ι', Ext ι ι' ∧ WR P w0 ι' (H ++ [.cells (.row e) cs]) (w.alloc (.cells ccs e)) ∧ VR ι' (.slice (some ⟨H.length, 0, none⟩) len es) (.slice (some ⟨w.heap.size, 0, none⟩) len cap) := by
  have hx : (ι ++ [⟨w.heap.size, 0, ccs.size, es⟩])[H.length]? = some ⟨w.heap.size, 0, ccs.size, es⟩ := by rw [← h.len]; simp
  unfold tsize at hes
  obtain ⟨i, hi, he⟩ := Option.map_eq_some_iff.1 hes
  have hle : len * es ≤ cap * es := Nat.mul_le_mul_right _ hlc
  refine ⟨ι ++ [⟨w.heap.size, 0, ccs.size, es⟩], .push _ _, h.fresh _ _ _ rfl ⟨ccs, e, (0, 0), ⟨heap_alloc_self _ _, by simp, by simp; omega, fun j v hj => ?_⟩, fun _ => ⟨h.below.size, rfl⟩, rfl, h0, i, hi, he⟩, ?_⟩
  · obtain ⟨cv, hc, hr⟩ := hL.2 j v hj
    refine ⟨hone v (List.mem_of_getElem? hj), cv, ?_, hr.ext (.push _ _)⟩
    rw [List.getElem?_take] at hc
    split at hc
    · simpa using hc
    · simp at hc
  · exact VR.slice H.length 0 len es cap ⟨w.heap.size, 0, none⟩ _ hx hlc hm (fun _ => rfl) (fun _ _ => by simp only [Nat.zero_add]; omega)

end Go.Proofs.Ytdlanbfbbopfhaa.Ax
