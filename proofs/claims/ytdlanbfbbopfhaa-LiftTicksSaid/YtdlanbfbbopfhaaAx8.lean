/- The abstract machine: make, copy, clear, conversions, maps, and that the real ones follow them. -/
import Derived.Test.YtdlanbfbbopfhaaAx7
import Derived.Lib.UnsafeStr
set_option linter.unusedVariables false
set_option linter.unusedSimpArgs false
namespace Go.Proofs.Ytdlanbfbbopfhaa.Ax
open Go Go.RowKit

theorem wrap_i64 {n : Int} (h0 : -9223372036854775808 ≤ n) (h1 : n ≤ 9223372036854775807) : IntKind.i64.wrap n = n := IntWalk.i64_in _ (by omega)

def amakeSlice (P : Program) (t : TypeId) (l c : Value) (H : Heap) : Option (Value × Heap) :=
  (sliceElem P t).bind fun e => (P.info? e).bind fun i => (tzero P e).bind fun zs =>
  match l, c with
  | .int _ l, .int _ c =>
    if i.size ≠ 0 ∧ zs.length = i.size ∧ 0 ≤ l ∧ l ≤ c ∧ c ≤ 9223372036854775807 ∧ i.bytes * c ≤ 140737488355328 then
      some (.slice (some ⟨H.length, 0, none⟩) l.toNat i.size, H ++ [.cells (.row e) (zerosL zs l.toNat)])
    else none
  | _, _ => none
theorem zerosL_take (zs : List Value) {l c : Nat} (h : l ≤ c) : (zerosL zs c).take (l * zs.length) = zerosL zs l := by
  apply List.ext_getElem?
  intro i
  rw [List.getElem?_take]
  split
  · rename_i hi
    rw [zerosL_get _ _ _ hi, zerosL_get _ _ _ (Nat.lt_of_lt_of_le hi (Nat.mul_le_mul_right _ h))]
  · rw [List.getElem?_eq_none (by rw [zerosL_length]; omega)]
theorem amakeSlice_run {P : Program} {w0 w : World} {ι : List Pl} {H H' : Heap} (hw : WR P w0 ι H w) {t : TypeId} {l c cl cc r : Value} (hl : VR ι l cl) (hc : VR ι c cc) (h : amakeSlice P t l c H = some (r, H')) :
    ∃ ι' cr w', Ext ι ι' ∧ (Instr.makeSlice t cl cc).run P w = .ok cr w' ∧ WR P w0 ι' H' w' ∧ VR ι' r cr := by
  unfold amakeSlice at h
  simp only [Option.bind_eq_some_iff] at h
  obtain ⟨e, he, i, hi, zs, hzs, h⟩ := h
  split at h
  rotate_left
  · simp at h
  rename_i k l k' c
  split at h
  rotate_left
  · simp at h
  rename_i hq
  obtain ⟨h0, hzl, hl0, hlc, hc63, hb⟩ := hq
  simp only [Option.some.injEq, Prod.mk.injEq] at h
  obtain ⟨rfl, rfl⟩ := h
  cases hl; cases hc
  obtain ⟨z, hz, hzc, hzo, _, _⟩ := run_zeroValue hzs w
  have hes : tsize P e = some i.size := by simp [tsize, hi]
  have hwl : IntKind.i64.wrap l = l := wrap_i64 (by omega) (by omega)
  have hwc : IntKind.i64.wrap c = c := wrap_i64 (by omega) (by omega)
  have hzsz : z.cells.size = i.size := by rw [← hzl, ← hzc]; simp
  have hcells : ∃ cells : Array Value, cells.toList = zerosL zs c.toNat ∧ ∀ w : World, (zeroValue e).run P w = .ok z w →
      (do let zero ← (if c.toNat * i.size = 0 then pure #[] else do pure (← zeroValue e).cells : Sem (Array Value)); pure ((Array.range (c.toNat * i.size)).map (zero[· % zero.size]!)) : Sem (Array Value)).run P w = .ok cells w := by
    by_cases hcz : c.toNat * i.size = 0
    · have hc0 : c.toNat = 0 := by
        rcases Nat.mul_eq_zero.1 hcz with h | h
        · exact h
        · exact absurd h h0
      exact ⟨#[], by rw [hc0]; rfl, fun w _ => by simp [hcz]⟩
    · refine ⟨(Array.range (c.toNat * i.size)).map (z.cells[· % z.cells.size]!), ?_, fun w hz => by simp [hcz, hz]⟩
      have := range_zeros z.cells zs hzc c.toNat (by omega)
      rw [hzl] at this
      exact this
  obtain ⟨cells, hcl, hrunc⟩ := hcells
  have hsz : cells.size = c.toNat * i.size := by
    have := congrArg List.length hcl
    rw [zerosL_length, hzl] at this
    simpa using this
  obtain ⟨ι', hx, hW, hV⟩ := hw.newRow (cs := zerosL zs l.toNat) (ccs := cells)
    (by rw [hcl, zerosL_length, zerosL_take zs (by omega)]; exact .const (zerosL_const hzo _)) (fun x hx => oneCell_of_const1 (List.all_eq_true.1 (zerosL_const hzo _) x hx)) e hes h0
    (by rw [zerosL_length, hzl]) hsz (by omega : l.toNat ≤ c.toNat) (by unfold maxLen; omega)
  refine ⟨ι', _, _, hx, ?_, hW, hV⟩
  have t1 : ¬ (c < 0) := by omega
  have t2 : ¬ ((i.bytes : Int) * c > 2 ^ 48) := by omega
  have t3 : ¬ (l < 0) := by omega
  have t4 : ¬ (l > c) := by omega
  have hr := hrunc w hz
  simp only [Instr.makeSlice, Sem.run_bind, run_underlying (sliceElem_eq he), Result.andThen_ok, asInt, asIntOf, Sem.run_pure, typeInfo, run_program, hi, hwl, hwc, t1, t2, t3, t4, decide_false, Bool.or_self, Bool.false_eq_true, if_false, run_askRoom, run_sizeOf hes]
  simp only [Sem.run_bind, Sem.run_pure] at hr
  split at hr
  · rename_i hcz
    simp only [Sem.run_pure, Result.andThen_ok, Result.ok.injEq, and_true] at hr
    simp only [hcz, if_true, Sem.run_bind, Sem.run_pure, Result.andThen_ok]
    rw [← hr]
    simp [newRow, hcz]
  · rename_i hcz
    simp only [Sem.run_bind, hz, Sem.run_pure, Result.andThen_ok, Result.ok.injEq, and_true] at hr
    simp only [hcz, if_false, Sem.run_bind, hz, Sem.run_pure, Result.andThen_ok]
    rw [← hr]
    simp [newRow]

/-- copy between slices. -/
def acopy (P : Program) (t : TypeId) (d s : Value) (H : Heap) : Option (Value × Heap) :=
  (sliceElem P t).bind fun e => (tsize P e).bind fun k =>
  match d, s with
  | .slice a n es, .slice a' n' es' =>
    if min n' n = 0 then some (.int .i64 0, H) else
    match a, a' with
    | some ⟨b, off, none⟩, some ⟨b', off', none⟩ => if es = k ∧ es' = k then (hblk H b').bind fun c => (slotsOf c off' (min n' n * k)).bind fun l => (hput H b off l).map fun H' => (.int .i64 (min n' n : Nat), H') else none
    | _, _ => none
  | _, _ => none
theorem acopy_run {P : Program} {w0 w : World} {ι : List Pl} {H H' : Heap} (hw : WR P w0 ι H w) {t ty : TypeId} {ts : Array TypeId} {d s r cd cs : Value} (ht : ts[0]? = some t) (hd : VR ι d cd) (hs : VR ι s cs) (h : acopy P t d s H = some (r, H')) :
    ∃ cr w', (Builtin.copy_ ts ty #[cd, cs]).run P w = .ok cr w' ∧ WR P w0 ι H' w' ∧ VR ι r cr := by
  unfold acopy at h
  simp only [Option.bind_eq_some_iff] at h
  obtain ⟨e, he, k, hk, h⟩ := h
  split at h
  rotate_left
  · simp at h
  rename_i a n es a' n' es'
  -- the shape of the two
  obtain ⟨ca, cap, rfl, hca⟩ : ∃ ca cap, cd = .slice ca n cap ∧ (a = none → ca = none) := by
    cases hd
    · exact ⟨none, 0, rfl, fun _ => rfl⟩
    · exact ⟨_, _, rfl, fun h => by simp at h⟩
  obtain ⟨ca', cap', rfl⟩ : ∃ ca cap, cs = .slice ca n' cap := by
    cases hs
    · exact ⟨none, 0, rfl⟩
    · exact ⟨_, _, rfl⟩
  split at h
  · rename_i hz
    simp only [Option.some.injEq, Prod.mk.injEq] at h
    obtain ⟨rfl, rfl⟩ := h
    refine ⟨_, w, ?_, hw, .int _ _⟩
    have hz' : Nat.min n' n = 0 := hz
    cases ca' with
    | none => cases ca <;> simp [Builtin.copy_, ht, run_underlying (sliceElem_eq he), Builtin.lenOf, run_sizeOf hk, hz', Builtin.firstCells, goInt, storeCells]
    | some q => cases ca <;> simp [Builtin.copy_, ht, run_underlying (sliceElem_eq he), Builtin.lenOf, run_sizeOf hk, hz', Builtin.firstCells, loadCells, loadCellsFrom, goInt, storeCells]
  · rename_i hz
    split at h
    rotate_left
    · simp at h
    rename_i b off b' off'
    split at h
    rotate_left
    · simp at h
    rename_i hes
    obtain ⟨rfl, rfl⟩ := hes
    simp only [Option.bind_eq_some_iff, Option.map_eq_some_iff, Prod.mk.injEq] at h
    obtain ⟨c, hc, l, hl, H1, hp, rfl, rfl⟩ := h
    unfold slotsOf at hl
    split at hl
    rotate_left
    · simp at hl
    rename_i hle
    simp only [Option.some.injEq] at hl
    obtain ⟨m, pl, cc, e1, fr, hb, hpl, hC⟩ := hw.cells hc
    obtain ⟨hL, hone, hlen, hcell⟩ := hC.range off' _ hle
    rw [hl] at hL hone
    cases hs with
    | slice _ _ _ _ _ _ pl' hp' g1 g2 g3 g4 =>
      rw [hpl] at hp'
      simp only [Option.some.injEq] at hp'
      subst hp'
      have e3 := g3 (by omega)
      subst e3
      cases hd with
      | slice _ _ _ _ _ _ pl2 hp2 f1 f2 f3 f4 =>
        have e4 := f3 (by omega)
        subst e4
        obtain ⟨w', hr, hW⟩ := hw.store hp hL hone hp2
        refine ⟨_, w', ?_, hW, .int _ _⟩
        have hfc := run_firstCells_some (P := P) w _ (min n' n) ⟨pl.blk, pl.off + off', none⟩ n' cap' _ hlen hcell
        have hmm : Nat.min n' n = min n' n := rfl
        simp [Builtin.copy_, ht, run_underlying (sliceElem_eq he), Builtin.lenOf, run_sizeOf hk, hmm, hfc, goInt, hr]

/-- clear, of a slice. -/
def aclear (P : Program) (t : TypeId) (s : Value) (H : Heap) : Option Heap :=
  (sliceElem P t).bind fun e => (tzero P e).bind fun zs =>
  match s with
  | .slice none 0 0 => some H
  | .slice (some ⟨b, off, none⟩) n es => if n = 0 then some H else hput H b off (zerosL zs n)
  | _ => none
theorem zeroCells_list (z : Array Value) (zs : List Value) (h : z.toList = zs) (n : Nat) : (Builtin.zeroCells z n).toList = zerosL zs n := by
  by_cases h0 : 0 < zs.length
  · have := range_zeros z zs h n h0
    unfold Builtin.zeroCells
    rw [show z.size = zs.length by rw [← h]; simp] at this ⊢
    exact this
  · have hz : zs = [] := List.eq_nil_of_length_eq_zero (by omega)
    have : (zerosL zs n).length = 0 := by rw [zerosL_length, hz]; simp
    rw [List.eq_nil_of_length_eq_zero this]
    apply List.eq_nil_of_length_eq_zero
    rw [Array.length_toList, zeroCells_size]
    rw [show z.size = zs.length by rw [← h]; simp, hz]; simp
theorem aclear_run {P : Program} {w0 w : World} {ι : List Pl} {H H' : Heap} (hw : WR P w0 ι H w) {t ty : TypeId} {ts : Array TypeId} {s cs : Value} (ht : ts[0]? = some t) (hs : VR ι s cs) (h : aclear P t s H = some H') :
    ∃ w', (Builtin.clear_ ts ty #[cs]).run P w = .ok undef w' ∧ WR P w0 ι H' w' := by
  unfold aclear at h
  simp only [Option.bind_eq_some_iff] at h
  obtain ⟨e, he, zs, hzs, h⟩ := h
  split at h
  · simp only [Option.some.injEq] at h
    subst h
    cases hs
    exact ⟨w, by simp [Builtin.clear_, ht, run_underlying (sliceElem_eq he)]; rfl, hw⟩
  · rename_i b off n es
    cases hs with
    | slice _ _ _ _ cap ca pl hp g1 g2 g3 g4 =>
      split at h
      · rename_i hn
        subst hn
        simp only [Option.some.injEq] at h
        subst h
        exact ⟨w, by simp [Builtin.clear_, ht, run_underlying (sliceElem_eq he)]; rfl, hw⟩
      · rename_i hn
        have e3 := g3 (by omega)
        subst e3
        obtain ⟨z, hz, hzc, hzo, _, _⟩ := run_zeroValue hzs w
        have hzl := zeroCells_list z.cells zs hzc n
        obtain ⟨w', hr, hW⟩ := hw.store h (cvs := (Builtin.zeroCells z.cells n).toList) (by rw [hzl]; exact .const (zerosL_const hzo n)) (fun x hx => oneCell_of_const1 (List.all_eq_true.1 (zerosL_const hzo n) x hx)) hp
        refine ⟨w', ?_, hW⟩
        cases n with
        | zero => exact absurd rfl hn
        | succ n =>
          simp only [Builtin.clear_, ht, List.getElem?_toArray, List.getElem?_cons_zero, Sem.run_bind, run_underlying (sliceElem_eq he), Result.andThen_ok]
          simp only [Sem.run_bind, hz, Result.andThen_ok, hr]
          rfl
  · simp at h

/-! ### Conversions -/
def aint8s : List Value → Option (List UInt8)
  | [] => some []
  | .int .u8 n :: r => (aint8s r).map (UInt8.ofNat n.toNat :: ·)
  | _ => none
def aconvert (P : Program) (src dst : TypeId) (v : Value) (H : Heap) : Option Value :=
  (P.underlying src).bind fun ds => (P.underlying dst).bind fun dd =>
  match ds, dd with
  | _, .int k => match v with | .int _ n => some (.int k (k.wrap n)) | _ => none
  | .string, .string => match v with | .string s => some (.string s) | _ => none
  | .slice e, .string =>
    match P.underlying e with
    | some (.int .u8) =>
      match v with
      | .slice none 0 0 => some (.string .empty)
      | .slice (some ⟨b, off, none⟩) n es => if n = 0 then some (.string .empty) else (hblk H b).bind fun c => (slotsOf c off n).bind fun l => (aint8s l).map fun bs => .string ⟨bs.toArray⟩
      | _ => none
    | _ => none
  | .pointer t, .unsafePointer =>
    match v with
    | .pointer none => some (.pointer none)
    | .pointer (some ⟨b, off, none⟩) => (P.info? t).bind fun j => if j.size = 0 then none else match H[b]? with
      | some (.cells (.one T) _) => if off < P.cellsOf T then some (.pointer (some ⟨b, off, none⟩)) else none
      | _ => none
    | _ => none
  | .unsafePointer, .pointer u =>
    match v with
    | .pointer none => some (.pointer none)
    | .pointer (some ⟨b, off, none⟩) => (P.info? u).bind fun j => match H[b]? with
      | some (.cells (.one T) _) => if P.cellsOf T ≠ 0 ∧ liesAt P P.depth T 1 off u 1 = true then some (.pointer (some ⟨b, off, none⟩)) else none
      | _ => none
    | _ => none
  | _, _ => none
theorem aint8s_rel {P : Program} {w : World} {ι : List Pl} {f : Value → ByteArray → Sem (ForInStep ByteArray)} (hf : ∀ (n : Int) (s : ByteArray), (f (.int .u8 n) s).run P w = .ok (.yield (s.push (UInt8.ofNat n.toNat))) w) :
    ∀ (l cl : List Value) (bs : List UInt8) (acc : ByteArray), LR ι l cl → aint8s l = some bs → (forIn cl acc f).run P w = .ok ⟨acc.data ++ bs.toArray⟩ w := by
  intro l
  induction l with
  | nil =>
    intro cl bs acc hL h
    cases cl with
    | cons a b => have := hL.1; simp at this
    | nil =>
      simp only [aint8s, Option.some.injEq] at h
      subst h
      simp
  | cons v l ih =>
    intro cl bs acc hL h
    cases cl with
    | nil => have := hL.1; simp at this
    | cons c cl =>
      have hv : VR ι v c := by
        obtain ⟨c', hc, hr⟩ := hL.2 0 v rfl
        simp only [List.getElem?_cons_zero, Option.some.injEq] at hc
        rw [hc]; exact hr
      have hL' : LR ι l cl := ⟨by have := hL.1; simpa using this, fun i v' hi => by simpa using hL.2 (i + 1) v' (by simpa using hi)⟩
      unfold aint8s at h
      split at h
      · simp at *
      · rename_i n r hvr
        simp only [List.cons.injEq] at hvr
        obtain ⟨rfl, rfl⟩ := hvr
        simp only [Option.map_eq_some_iff] at h
        obtain ⟨bs', hbs, rfl⟩ := h
        cases hv
        rw [List.forIn_cons, Sem.run_bind, hf]
        simp only [Result.andThen_ok]
        rw [ih cl bs' (acc.push (UInt8.ofNat n.toNat)) hL' hbs]
        congr 1
        apply ByteArray.ext
        apply Array.ext'
        simp
      · simp at h

theorem aconvert_run {P : Program} {w0 w : World} {ι : List Pl} {H : Heap} (hw : WR P w0 ι H w) {src dst : TypeId} {v r cv : Value} (hv : VR ι v cv) (h : aconvert P src dst v H = some r) :
    ∃ cr, (convert src dst cv).run P w = .ok cr w ∧ VR ι r cr := by
  unfold aconvert at h
  simp only [Option.bind_eq_some_iff] at h
  obtain ⟨ds, hs, dd, hd, h⟩ := h
  split at h
  · split at h
    · simp only [Option.some.injEq] at h; subst h; cases hv
      exact ⟨_, by simp [convert, run_underlying hs, run_underlying hd, Conv.intToInt], .int _ _⟩
    · simp at h
  · split at h
    · simp only [Option.some.injEq] at h; subst h; cases hv
      exact ⟨_, by simp [convert, run_underlying hs, run_underlying hd], .str _⟩
    · simp at h
  · split at h
    · rename_i e hu
      split at h
      · simp only [Option.some.injEq] at h; subst h; cases hv
        exact ⟨_, by simp [convert, run_underlying hs, run_underlying hd, run_underlying hu, Conv.bytesToString], .str _⟩
      · rename_i b off n es
        cases hv with
        | slice _ _ _ _ cap ca pl hp g1 g2 g3 g4 =>
          split at h
          · rename_i hn
            subst hn
            simp only [Option.some.injEq] at h
            subst h
            exact ⟨.string .empty, by simp [convert, run_underlying hs, run_underlying hd, run_underlying hu, Conv.bytesToString, loadCells, loadCellsFrom], .str _⟩
          · rename_i hn
            have e3 := g3 (by omega)
            subst e3
            simp only [Option.bind_eq_some_iff, Option.map_eq_some_iff] at h
            obtain ⟨c, hc, l, hl, bs, hbs, rfl⟩ := h
            unfold slotsOf at hl
            split at hl
            rotate_left
            · simp at hl
            rename_i hle
            simp only [Option.some.injEq] at hl
            obtain ⟨m, pl', cc, e1, fr, hb, hp', hC⟩ := hw.cells hc
            rw [hp] at hp'
            simp only [Option.some.injEq] at hp'
            subst hp'
            obtain ⟨hL, hone, hlen, hcell⟩ := hC.range off _ hle
            rw [hl] at hL hone
            have hld := run_loadCells_list (P := P) w ⟨pl.blk, pl.off + off, none⟩ _ hcell
            rw [hlen] at hld
            refine ⟨.string ⟨bs.toArray⟩, ?_, .str _⟩
            simp only [convert, Sem.run_bind, run_underlying hs, run_underlying hd, Result.andThen_ok, run_underlying hu, Conv.bytesToString, hld]
            rw [← Array.forIn_toList, List.toList_toArray]
            rw [aint8s_rel (P := P) (w := w) (ι := ι) (fun n s => by simp) l _ bs ByteArray.empty hL hbs]
            simp
      · simp at h
    · simp at h
  · rename_i t
    split at h
    · simp only [Option.some.injEq] at h; subst h; cases hv
      exact ⟨_, by simp [convert, run_underlying hs, run_underlying hd, Conv.unsafePointer], .ptr0⟩
    · rename_i b off
      simp only [Option.bind_eq_some_iff] at h
      obtain ⟨j, hj, h⟩ := h
      split at h
      · simp at h
      · rename_i hj0
        split at h
        · rename_i T c hb
          split at h
          · rename_i hlt
            simp only [Option.some.injEq] at h
            subst h
            cases hv with
            | ptr _ _ pl hp =>
              obtain ⟨cc, e, fr, ⟨h1, h2, h3, h4⟩, h5, h6, rfl, h8, h9, h10⟩ := hw.blk b _ pl hb hp
              have hsh : w.shape? pl.blk = some (e, cc.size) := by simp [World.shape?, h1]
              have hlt' : pl.off + off < cc.size := by omega
              refine ⟨_, ?_, .ptr b off pl hp⟩
              simp [convert, run_underlying hs, run_underlying hd, Conv.unsafePointer, Conv.seenAt, viewAt, cellsIn, hsh, sizeOf, typeInfo, hj, hj0]
              intro h
              omega
          · simp at h
        · simp at h
    · simp at h
  · rename_i u
    split at h
    · simp only [Option.some.injEq] at h; subst h; cases hv
      exact ⟨_, by simp [convert, run_underlying hs, run_underlying hd, Conv.unsafePointer], .ptr0⟩
    · rename_i b off
      simp only [Option.bind_eq_some_iff] at h
      obtain ⟨j, hj, h⟩ := h
      split at h
      · rename_i T c hb
        split at h
        · rename_i hlt
          simp only [Option.some.injEq] at h
          subst h
          cases hv with
          | ptr _ _ pl hp =>
            obtain ⟨cc, e, fr, ⟨h1, h2, h3, h4⟩, h5, h6, rfl, h8, h9, h10⟩ := hw.blk b _ pl hb hp
            have hsh : w.shape? pl.blk = some (e, cc.size) := by simp [World.shape?, h1]
            have h1' : P.cellsOf e / P.cellsOf e = 1 := Nat.div_self (Nat.pos_of_ne_zero hlt.1)
            have hl : liesAt P P.depth e (cc.size / P.cellsOf e) (pl.off + off) u 1 = true := by rw [h9, h1', h8, Nat.zero_add]; exact hlt.2
            refine ⟨_, ?_, .ptr b off pl hp⟩
            simp [convert, run_underlying hs, run_underlying hd, Conv.unsafePointer, Conv.seenAt, viewAt, hsh, variablesAt, hl, sizeOf, typeInfo, hj]
        · simp at h
      · simp at h
    · simp at h
  · simp at h

/-! ### A string over bytes -/
def asliceData : Value → Option Value
  | .slice none 0 0 => some (.pointer none)
  | .slice (some ⟨b, off, none⟩) (n + 1) _ => some (.pointer (some ⟨b, off, none⟩))
  | _ => none
theorem asliceData_run {P : Program} {ι : List Pl} {v r cv : Value} (hv : VR ι v cv) (h : asliceData v = some r) (ts : Array TypeId) (ty : TypeId) (w : World) : ∃ cr, (Builtin.unsafeSliceData_ ts ty #[cv]).run P w = .ok cr w ∧ VR ι r cr := by
  unfold asliceData at h
  split at h
  · simp only [Option.some.injEq] at h; subst h; cases hv
    exact ⟨_, rfl, .ptr0⟩
  · rename_i b off n es
    simp only [Option.some.injEq] at h
    subst h
    cases hv with
    | slice _ _ _ _ cap ca pl hp g1 g2 g3 g4 =>
      obtain ⟨k, rfl⟩ : ∃ k, cap = k + 1 := ⟨cap - 1, by omega⟩
      have := g3 (by omega)
      subst this
      exact ⟨_, rfl, .ptr b off pl hp⟩
  · simp at h
/-- A string out of a row's bytes: the row is gone. -/
def aunsafeString (P : Program) (tp : TypeId) (p n : Value) (H : Heap) : Option (Value × Heap) :=
  match p, n with
  | .pointer none, .int .i64 0 => some (.string .empty, H)
  | .pointer (some ⟨b, off, none⟩), .int .i64 n =>
    match H[b]? with
    | some (.cells (.row e) c) =>
      match P.underlying tp with
      | some (.pointer e') =>
        if e' = e ∧ P.cellsOf e = 1 ∧ 0 < n ∧ n ≤ 9223372036854775807 then
          (slotsOf c off n.toNat).bind fun l => (aint8s l).map fun bs => (.string ⟨bs.toArray⟩, H.set b .dead)
        else none
      | _ => none
    | _ => none
  | _, _ => none
theorem liesAt_bytes' {P : Program} {e : TypeId} (hc : P.cellsOf e = 1) (count off n : Nat) (hn : off + n ≤ count) : liesAt P P.depth e count off e n = true := by
  have hd : P.depth = (2 * (P.types.size + Made.depth) + 1) + 1 := rfl
  rw [hd]
  simp only [liesAt, Bool.or_eq_true]
  left
  rw [hd]
  simp [rowAt, hc, hn, sameLayout, Nat.mod_one]
theorem aint8s_cons {v : Value} {l : List Value} {bs : List UInt8} (h : aint8s (v :: l) = some bs) : ∃ n bs', v = .int .u8 n ∧ bs = UInt8.ofNat n.toNat :: bs' ∧ aint8s l = some bs' := by
  cases v with
  | int k n =>
    cases k with
    | u8 =>
      simp only [aint8s, Option.map_eq_some_iff] at h
      obtain ⟨bs', h1, rfl⟩ := h
      exact ⟨n, bs', rfl, rfl, h1⟩
    | _ => simp [aint8s] at h
  | _ => simp [aint8s] at h
theorem loadBytes_run {P : Program} (w : World) : ∀ (l : List Value) (bs : List UInt8) (a : Addr) (acc : ByteArray), a.spot = none → aint8s l = some bs → (∀ j v, l[j]? = some v → w.cell? ⟨a.block, a.off + j, none⟩ = some v) →
    (loadBytes a acc l.length).run P w = .ok ⟨acc.data ++ bs.toArray⟩ w := by
  intro l
  induction l with
  | nil => intro bs a acc ha hb h; simp only [aint8s, Option.some.injEq] at hb; subst hb; simp [loadBytes]
  | cons v l ih =>
    intro bs a acc ha hb h
    obtain ⟨n, bs', rfl, rfl, hb'⟩ := aint8s_cons hb
    have h0 : w.cell? a = some (.int .u8 n) := by
      have := h 0 _ rfl
      obtain ⟨ab, ao, asp⟩ := a
      simp only at ha
      subst ha
      simpa using this
    have e : a.add 1 = ⟨a.block, a.off + 1, none⟩ := by
      obtain ⟨ab, ao, asp⟩ := a
      simp only at ha
      subst ha
      simp [Addr.add]
    have := ih bs' (a.add 1) (acc.push (UInt8.ofNat n.toNat)) (by rw [e]) hb' (fun j u hj => by
      rw [e]
      have := h (j + 1) u (by simpa using hj)
      rw [← this]
      congr 2
      simp; omega)
    simp only [List.length_cons, loadBytes, Sem.run_bind, run_load, h0, Result.andThen_ok]
    have hx : n.toNat.toUInt8 = UInt8.ofNat n.toNat := rfl
    simp only [hx] at *
    rw [this]
    congr 1
    apply ByteArray.ext
    simp [ByteArray.push]
theorem aint8s_real {ι : List Pl} : ∀ (l cl : List Value) (bs : List UInt8), LR ι l cl → aint8s l = some bs → aint8s cl = some bs := by
  intro l
  induction l with
  | nil =>
    intro cl bs hL h
    cases cl with
    | nil => exact h
    | cons a b => have := hL.1; simp at this
  | cons v l ih =>
    intro cl bs hL h
    cases cl with
    | nil => have := hL.1; simp at this
    | cons c cl =>
      obtain ⟨n, bs', rfl, rfl, h'⟩ := aint8s_cons h
      obtain ⟨c', hc, hr⟩ := hL.2 0 _ rfl
      simp only [List.getElem?_cons_zero, Option.some.injEq] at hc
      subst hc
      cases hr
      have := ih cl bs' ⟨by have := hL.1; simpa using this, fun i v hi => by simpa using hL.2 (i + 1) v (by simpa using hi)⟩ h'
      simp [aint8s, this]
theorem aunsafeString_run {P : Program} {w0 w : World} {ι : List Pl} {H H' : Heap} (hw : WR P w0 ι H w) {tp ti ty : TypeId} {p n r cp cn : Value} (hp : VR ι p cp) (hn : VR ι n cn) (h : aunsafeString P tp p n H = some (r, H')) :
    ∃ ι' cr w', Ext ι ι' ∧ (Builtin.unsafeString_ #[tp, ti] ty #[cp, cn]).run P w = .ok cr w' ∧ WR P w0 ι' H' w' ∧ VR ι' r cr := by
  have hmax : IntKind.i64.max = 9223372036854775807 := rfl
  unfold aunsafeString at h
  split at h
  · simp only [Option.some.injEq, Prod.mk.injEq] at h
    obtain ⟨rfl, rfl⟩ := h
    cases hp; cases hn
    refine ⟨ι, .string .empty, w, .refl _, ?_, hw, .str _⟩
    exact Lib.run_unsafeString_none w tp ti ty none
  · rename_i b off n
    cases hn
    split at h
    · rename_i e c hb
      split at h
      · rename_i e' hu
        split at h
        · rename_i hc
          obtain ⟨rfl, hc1, hc2, hc3⟩ := hc
          simp only [Option.bind_eq_some_iff, Option.map_eq_some_iff, Prod.mk.injEq] at h
          obtain ⟨l, hl, bs, hbs, rfl, rfl⟩ := h
          cases hp with
          | ptr _ _ pl hpl =>
            obtain ⟨cc, e1, fr, hC, h5, h6⟩ := hw.blk b _ pl hb hpl
            obtain ⟨rfl, h7, h8⟩ := h6
            unfold slotsOf at hl
            split at hl
            rotate_left
            · simp at hl
            rename_i hle
            simp only [Option.some.injEq] at hl
            obtain ⟨hL, hone, hlen, hcell⟩ := hC.range off _ hle
            rw [hl] at hL
            have hcl := aint8s_real _ _ _ hL hbs
            have h1 := hC.1
            have hsz := hC.2.1
            have hcz := hC.2.2.1
            have hload := loadBytes_run (P := P) w _ bs ⟨pl.blk, pl.off + off, none⟩ ByteArray.empty rfl hcl (fun j v hj => by
              have := hcell j v hj
              rw [← this]
              congr 1
              by_cases hj0 : j = 0
              · subst hj0; simp [Addr.add]
              · simp [Addr.add, hj0])
            rw [hlen] at hload
            have hlies := liesAt_bytes' (P := P) hc1 cc.size (pl.off + off) n.toNat (by omega)
            have hsh : w.shape? pl.blk = some (e1, cc.size) := by simp [World.shape?, h1]
            refine ⟨ι, .string ⟨bs.toArray⟩, w.freeze ⟨pl.blk, pl.off + off, none⟩ n.toNat, .refl _, ?_, ?_, .str _⟩
            · have g1 : ¬ n < 0 := by omega
              have g2 : ¬ (9223372036854775807 : Int) < n := by omega
              have g3 : n ≠ 0 := by omega
              have hdef : Builtin.unsafeString_ #[tp, ti] ty #[.pointer (some ⟨pl.blk, pl.off + off, none⟩), .int .i64 n] =
                  (do
                    let n ← asInt (.int .i64 n)
                    if n < 0 then runtimePanic (.error "unsafe.String: len out of range")
                    if n > IntKind.i64.max then unsupported (.unsafePointer "String: a length above the largest int")
                    if n = 0 then pure (.string .empty)
                    else if ← variablesAt ⟨pl.blk, pl.off + off, none⟩ (← elemOf tp) n.toNat then do
                      let s ← loadBytes ⟨pl.blk, pl.off + off, none⟩ .empty n.toNat
                      freeze ⟨pl.blk, pl.off + off, none⟩ n.toNat
                      pure (.string s)
                    else unsupported (.unsafePointer "String: not so many bytes at ptr")) := rfl
              rw [hdef]
              simp [asInt, asIntOf, hmax, g1, g2, g3, variablesAt, hsh, elemOf, run_underlying hu, hc1, hlies, hload]
            · refine hw.upd hb hpl rfl ?_ ?_ ?_ ?_ ?_ trivial
              · unfold World.freeze; split <;> rfl
              · unfold World.freeze; split <;> rfl
              · unfold World.freeze; split <;> rfl
              · unfold World.freeze; split <;> simp
              · intro k _ hk
                unfold World.freeze
                split
                · rfl
                · simp only [Array.getElem?_modify]
                  rw [if_neg (by simpa using fun e => hk e.symm)]
        · simp at h
      · simp at h
    · simp at h
  · simp at h

end Go.Proofs.Ytdlanbfbbopfhaa.Ax
