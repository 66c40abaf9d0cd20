/- The abstract machine: made values, copies, conversions, maps, and that the real ones follow them. -/
import Derived.Test.YtdlanbfbbopfhaaAx6
set_option linter.unusedVariables false
set_option linter.unusedSimpArgs false
namespace Go.Proofs.Ytdlanbfbbopfhaa.Ax
open Go Go.RowKit

/-! ### Filled structs and slices -/
def fillL (place : Nat → Option (Nat × Nat)) (cells : List Value) : List (Nat × Value) → Option (List Value)
  | [] => some cells
  | (i, v) :: rest =>
    (place i).bind fun (off, size) => (vcells v).bind fun vs => if vs.length ≠ size ∨ off + vs.length > cells.length then none else fillL place (putL cells off vs) rest
theorem foldl_put (vs : List Value) : ∀ (off k : Nat) (cs : Array Value), ((vs.zipIdx k).foldl (fun cs (x : Value × Nat) => cs.setIfInBounds (off + x.2) x.1) cs) = putA cs (off + k) vs := by
  induction vs with
  | nil => intro off k cs; rfl
  | cons v vs ih => intro off k cs; simp only [List.zipIdx_cons, List.foldl_cons, putA]; rw [ih]; rfl
theorem LR.put {ι : List Pl} {xs ys vs ws : List Value} (h : LR ι xs ys) (k : LR ι vs ws) (o : Nat) : LR ι (putL xs o vs) (putL ys o ws) := by
  refine ⟨by rw [putL_length, putL_length]; exact h.1, fun i v hi => ?_⟩
  rw [putL_get] at hi ⊢
  have e1 := h.1
  have e2 := k.1
  split at hi
  · rename_i hc; rw [if_pos (by omega)]; exact k.2 _ v hi
  · rename_i hc; rw [if_neg (by omega)]; exact h.2 _ v hi
theorem putL_one {xs vs : List Value} (h : ∀ x ∈ xs, x.oneCell' = true) (k : ∀ x ∈ vs, x.oneCell' = true) (o : Nat) : ∀ x ∈ putL xs o vs, x.oneCell' = true := by
  intro x hx
  obtain ⟨i, hi, rfl⟩ := List.getElem_of_mem hx
  have e : (putL xs o vs)[i]? = some (putL xs o vs)[i] := by simp
  rw [putL_get] at e
  split at e
  · exact k _ (List.mem_of_getElem? e)
  · exact h _ (List.mem_of_getElem? e)
/-- Parts, one by one. -/
def PR (ι : List Pl) : List (Nat × Value) → List (Nat × Value) → Prop
  | [], [] => True
  | (i, v) :: r, (j, c) :: s => i = j ∧ VR ι v c ∧ PR ι r s
  | _, _ => False
theorem fill_run {ι : List Pl} {place : Nat → Option (Nat × Nat)} : ∀ (parts cparts : List (Nat × Value)) (cells out : List Value) (ccells : Array Value), PR ι parts cparts → LR ι cells ccells.toList →
    (∀ x ∈ cells, x.oneCell' = true) → fillL place cells parts = some out → ∃ cout, Instr.fill place ccells cparts = some cout ∧ LR ι out cout.toList ∧ (∀ x ∈ out, x.oneCell' = true) := by
  intro parts
  induction parts with
  | nil =>
    intro cparts cells out ccells hp hL hone h
    cases cparts with
    | nil => simp only [fillL, Option.some.injEq] at h; subst h; exact ⟨ccells, rfl, hL, hone⟩
    | cons a b => exact hp.elim
  | cons p rest ih =>
    obtain ⟨i, v⟩ := p
    intro cparts cells out ccells hp hL hone h
    cases cparts with
    | nil => exact hp.elim
    | cons q crest =>
      obtain ⟨j, c⟩ := q
      obtain ⟨rfl, hv, hr⟩ := hp
      simp only [fillL, Option.bind_eq_some_iff] at h
      obtain ⟨⟨off, size⟩, hpl, vs, hvs, h⟩ := h
      split at h
      · simp at h
      rename_i hc
      simp only [not_or, ne_eq, Decidable.not_not, Nat.not_lt, gt_iff_lt] at hc
      obtain ⟨hLv, honev⟩ := vcells_rel hv hvs
      have hsz : c.cells.size = vs.length := by have := hLv.1; simp at this; omega
      have hcs : ccells.size = cells.length := by have := hL.1; simp at this; omega
      have hfold : (c.cells.zipIdx.foldl (fun cs (x : Value × Nat) => cs.setIfInBounds (off + x.2) x.1) ccells) = putA ccells off c.cells.toList := by
        have := foldl_put c.cells.toList off 0 ccells
        rw [Nat.add_zero] at this
        rw [← this, ← Array.foldl_toList, Array.toList_zipIdx]
      obtain ⟨cout, h1, h2, h3⟩ := ih crest (putL cells off vs) out (putA ccells off c.cells.toList) hr (by rw [putA_toList]; exact hL.put hLv off) (putL_one hone honev off) h
      refine ⟨cout, ?_, h2, h3⟩
      rw [Instr.fill, hpl]
      simp only [hsz, hcs]
      rw [if_neg (by simp; omega)]
      rw [← h1, ← hfold]

def fieldPlaces (P : Program) (fs : Array Field) : Option (List (Nat × Nat)) := fs.toList.mapM fun f => (tsize P f.type).map fun n => (f.offset, n)
theorem mapM_places {P : Program} (w : World) : ∀ (fs : List Field) (l : List (Nat × Nat)), fs.mapM (fun f => (tsize P f.type).map fun n => (f.offset, n)) = some l →
    (fs.mapM (fun f => do pure (f.offset, ← sizeOf f.type) : Field → Sem (Nat × Nat))).run P w = .ok l w := by
  intro fs
  induction fs with
  | nil => intro l h; simp at h; subst h; rfl
  | cons f fs ih =>
    intro l h
    rw [List.mapM_cons] at h
    simp only [Option.bind_eq_bind, Option.bind_eq_some_iff, Option.map_eq_some_iff, Option.pure_def, Option.some.injEq] at h
    obtain ⟨p, ⟨n, hn, rfl⟩, l', hl', rfl⟩ := h
    rw [List.mapM_cons]
    simp only [Sem.run_bind, run_sizeOf hn, Result.andThen_ok, Sem.run_pure]
    rw [ih l' hl']
    rfl

def abuild (P : Program) (t : TypeId) (parts : List (Nat × Value)) : Option Value :=
  (tzero P t).bind fun zs => (P.underlying t).bind fun d =>
  match d with
  | .struct fs => (fieldPlaces P fs).bind fun pl => (fillL (fun i => pl.toArray[i]?) zs parts).map fun l => .agg l.toArray
  | .array _ e => (tsize P e).bind fun n => (fillL (fun i => some (i * n, n)) zs parts).map fun l => .agg l.toArray
  | _ => none
theorem VR.ofL {ι : List Pl} {xs : List Value} {ys : Array Value} (h : LR ι xs ys.toList) (hone : ∀ x ∈ xs, x.oneCell' = true) : VR ι (.agg xs.toArray) (.agg ys) := by
  refine .agg _ _ (by simpa using h.1) (fun i hi => ?_) (fun i hi => hone _ (by simpa using getD_mem hi))
  have := h.toArr i (by simpa using hi)
  simpa using this
theorem abuild_run {P : Program} {ι : List Pl} {t : TypeId} {parts : List (Nat × Value)} {cparts : Array (Nat × Value)} {r : Value} (hp : PR ι parts cparts.toList) (h : abuild P t parts = some r) (w : World) :
    ∃ cr, (Instr.build t cparts).run P w = .ok cr w ∧ VR ι r cr := by
  unfold abuild at h
  simp only [Option.bind_eq_some_iff] at h
  obtain ⟨zs, hzs, d, hd, h⟩ := h
  obtain ⟨z, hz, hzc, hzo, _, _⟩ := run_zeroValue hzs w
  have hLz : LR ι zs z.cells.toList := by rw [hzc]; exact .const hzo
  have honez : ∀ x ∈ zs, x.oneCell' = true := fun x hx => oneCell_of_const1 (List.all_eq_true.1 hzo x hx)
  split at h
  · rename_i fs
    simp only [Option.bind_eq_some_iff, Option.map_eq_some_iff] at h
    obtain ⟨pl, hpl, l, hl, rfl⟩ := h
    obtain ⟨cout, h1, h2, h3⟩ := fill_run parts cparts.toList zs l z.cells hp hLz honez hl
    have hm := mapM_places (P := P) w fs.toList pl hpl
    have hm2 : (fs.mapM (fun f => do pure (f.offset, ← sizeOf f.type) : Field → Sem (Nat × Nat))).run P w = .ok pl.toArray w := by
      rw [Array.mapM_eq_mapM_toList, Sem.run_map, hm]
      rfl
    refine ⟨.agg cout, ?_, .ofL h2 h3⟩
    simp only [Instr.build, Sem.run_bind, hz, Result.andThen_ok, run_underlying hd, hm2]
    rw [show (fun x => pl.toArray[x]?) = (fun i => pl.toArray[i]?) from rfl, h1]
    rfl
  · rename_i n e
    simp only [Option.bind_eq_some_iff, Option.map_eq_some_iff] at h
    obtain ⟨m, hm, l, hl, rfl⟩ := h
    obtain ⟨cout, h1, h2, h3⟩ := fill_run parts cparts.toList zs l z.cells hp hLz honez hl
    refine ⟨.agg cout, ?_, .ofL h2 h3⟩
    simp only [Instr.build, Sem.run_bind, hz, Result.andThen_ok, run_underlying hd, run_sizeOf hm, h1]
    rfl
  · simp at h

/-- So many times the zero's cells. -/
def zerosL (zs : List Value) : Nat → List Value
  | 0 => []
  | n + 1 => zs ++ zerosL zs n
theorem zerosL_length (zs : List Value) (n : Nat) : (zerosL zs n).length = n * zs.length := by
  induction n with
  | zero => simp [zerosL]
  | succ n ih => simp [zerosL, ih, Nat.add_mul]; omega
theorem zerosL_get (zs : List Value) (n i : Nat) (h : i < n * zs.length) : (zerosL zs n)[i]? = zs[i % zs.length]? := by
  induction n generalizing i with
  | zero => omega
  | succ n ih =>
    rw [zerosL]
    by_cases hi : i < zs.length
    · rw [List.getElem?_append_left hi, Nat.mod_eq_of_lt hi]
    · rw [List.getElem?_append_right (by omega), ih _ (by rw [Nat.add_mul] at h; omega)]
      rw [← Nat.mod_eq_sub_mod (by omega)]
theorem zerosL_const {zs : List Value} (h : zs.all Ax.const1 = true) (n : Nat) : (zerosL zs n).all Ax.const1 = true := by
  induction n with
  | zero => rfl
  | succ n ih => simp only [zerosL, List.all_append, h, ih, Bool.and_self]
theorem range_zeros (z : Array Value) (zs : List Value) (h : z.toList = zs) (n : Nat) (h0 : 0 < zs.length) : ((Array.range (n * zs.length)).map (z[· % z.size]!)).toList = zerosL zs n := by
  apply List.ext_getElem?
  intro i
  by_cases hi : i < n * zs.length
  · rw [zerosL_get _ _ _ hi]
    have hm : i % z.size < z.size := Nat.mod_lt _ (by rw [← h] at h0; simpa using h0)
    have e : zs.length = z.size := by rw [← h]; simp
    have hr : (Array.range (n * zs.length))[i]? = some i := by simp [hi]
    rw [Array.getElem?_toList, Array.getElem?_map, hr]
    simp only [Option.map_some, e, ← h, Array.getElem?_toList, Array.getElem?_eq_getElem hm]
    rw [getElem!_pos z _ hm, Array.length_toList, Array.getElem?_eq_getElem hm]
  · rw [List.getElem?_eq_none (by simp; omega), List.getElem?_eq_none (by rw [zerosL_length]; omega)]

def abuildSlice (P : Program) (t : TypeId) (n : Nat) (parts : List (Nat × Value)) (H : Heap) : Option (Value × Heap) :=
  (sliceElem P t).bind fun e => (tsize P e).bind fun k => (tzero P e).bind fun zs =>
  if k ≠ 0 ∧ zs.length = k ∧ n * k ≤ 16777216 ∧ n ≤ maxLen then (fillL (fun i => some (i * k, k)) (zerosL zs n) parts).map fun l => (.slice (some ⟨H.length, 0, none⟩) n k, H ++ [.cells (.row e) l])
  else none
theorem fillL_length {place : Nat → Option (Nat × Nat)} : ∀ (parts : List (Nat × Value)) (cells out : List Value), fillL place cells parts = some out → out.length = cells.length := by
  intro parts
  induction parts with
  | nil => intro cells out h; simp only [fillL, Option.some.injEq] at h; subst h; rfl
  | cons p rest ih =>
    intro cells out h
    obtain ⟨i, v⟩ := p
    simp only [fillL, Option.bind_eq_some_iff] at h
    obtain ⟨⟨off, size⟩, _, vs, _, h⟩ := h
    split at h
    · simp at h
    · rw [ih _ _ h, putL_length]
theorem abuildSlice_run {P : Program} {w0 w : World} {ι : List Pl} {H H' : Heap} (hw : WR P w0 ι H w) {t : TypeId} {n : Nat} {parts : List (Nat × Value)} {cparts : Array (Nat × Value)} {r : Value} (hp : PR ι parts cparts.toList)
    (h : abuildSlice P t n parts H = some (r, H')) : ∃ ι' cr w', Ext ι ι' ∧ (Instr.buildSlice t n cparts).run P w = .ok cr w' ∧ WR P w0 ι' H' w' ∧ VR ι' r cr := by
  unfold abuildSlice at h
  simp only [Option.bind_eq_some_iff] at h
  obtain ⟨e, he, k, hk, zs, hzs, h⟩ := h
  split at h
  rotate_left
  · simp at h
  rename_i hc
  obtain ⟨hk0, hzl, hbig, hml⟩ := hc
  simp only [Option.map_eq_some_iff, Prod.mk.injEq] at h
  obtain ⟨l, hl, rfl, rfl⟩ := h
  obtain ⟨z, hz, hzc, hzo, _, _⟩ := run_zeroValue hzs w
  have hzsz : z.cells.size = k := by rw [← hzl, ← hzc]; simp
  -- the cells to begin with
  have hbegin : ∃ cc : Array Value, (if n * k = 0 then pure #[] else do pure (← zeroValue e).cells : Sem (Array Value)).run P w = .ok (if n * k = 0 then #[] else z.cells) w ∧
      ((Array.range (n * k)).map ((if n * k = 0 then #[] else z.cells)[· % (if n * k = 0 then #[] else z.cells).size]!)).toList = zerosL zs n := by
    by_cases h0 : n * k = 0
    · refine ⟨#[], by simp [h0], ?_⟩
      have : n = 0 := by
        rcases Nat.mul_eq_zero.1 h0 with h | h
        · exact h
        · exact absurd h hk0
      subst this
      simp [zerosL]
    · refine ⟨#[], by simp [h0, hz], ?_⟩
      simp only [h0, if_false]
      have := range_zeros z.cells zs hzc n (by omega)
      rw [hzl] at this
      exact this
  obtain ⟨_, hb1, hb2⟩ := hbegin
  obtain ⟨cout, h1, h2, h3⟩ := fill_run (ι := ι) parts cparts.toList (zerosL zs n) l ((Array.range (n * k)).map ((if n * k = 0 then #[] else z.cells)[· % (if n * k = 0 then #[] else z.cells).size]!)) hp
    (by rw [hb2]; exact .const (zerosL_const hzo n)) (fun x hx => oneCell_of_const1 (List.all_eq_true.1 (zerosL_const hzo n) x hx)) hl
  have hln : l.length = n * k := by rw [fillL_length _ _ _ hl, zerosL_length, hzl]
  have hcs : cout.size = n * k := by have := h2.1; simp at this; omega
  obtain ⟨ι', hx, hW, hV⟩ := hw.newRow (cs := l) (ccs := cout) (by rw [List.take_of_length_le (by simp; omega)]; exact h2) h3 e hk hk0 hln hcs (Nat.le_refl _) hml
  refine ⟨ι', _, _, hx, ?_, hW, hV⟩
  have hbig' : ¬ (n * k > 2 ^ 24) := by omega
  simp only [Instr.buildSlice, Sem.run_bind, run_underlying (sliceElem_eq he), Result.andThen_ok, run_sizeOf hk, hbig', if_false]
  by_cases h0 : n * k = 0
  · simp only [h0, if_true, Sem.run_bind, Sem.run_pure, Result.andThen_ok] at h1 ⊢
    rw [h1]; rfl
  · simp only [h0, if_false, Sem.run_bind, hz, Sem.run_pure, Result.andThen_ok] at h1 ⊢
    rw [h1]; rfl

end Go.Proofs.Ytdlanbfbbopfhaa.Ax
