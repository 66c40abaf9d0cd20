/- The abstract machine: addresses, parts, indexes, slices, numbers and comparisons, and that the real ones follow them. -/
import Derived.Test.YtdlanbfbbopfhaaAx2
set_option linter.unusedVariables false
set_option linter.unusedSimpArgs false
namespace Go.Proofs.Ytdlanbfbbopfhaa.Ax
open Go Go.RowKit

def structOf (P : Program) (t : TypeId) : Option (Array Field) := match P.underlying t with | some (.struct fs) => some fs | _ => none
theorem structOf_eq {P : Program} {t : TypeId} {fs : Array Field} (h : structOf P t = some fs) : P.underlying t = some (.struct fs) := by
  unfold structOf at h; split at h
  · rename_i e; simp only [Option.some.injEq] at h; subst h; exact e
  · simp at h

def afieldAddr (P : Program) (s : TypeId) (v : Value) (f : Nat) : Option Value :=
  match v with
  | .pointer (some ⟨b, off, none⟩) => (structOf P s).bind fun fs => fs[f]?.bind fun fd => (tsize P fd.type).bind fun n => if n = 0 then none else some (.pointer (some ⟨b, off + fd.offset, none⟩))
  | _ => none
theorem afieldAddr_run {P : Program} {ι : List Pl} {s : TypeId} {v x cv : Value} {f : Nat} (hr : VR ι v cv) (h : afieldAddr P s v f = some x) (w : World) :
    ∃ cx, (Instr.fieldAt s cv f).run P w = .ok cx w ∧ VR ι x cx := by
  unfold afieldAddr at h
  split at h
  · rename_i b off
    simp only [Option.bind_eq_some_iff] at h
    obtain ⟨fs, hfs, fd, hfd, n, hn, h⟩ := h
    split at h
    · simp at h
    · rename_i h0
      simp only [Option.some.injEq] at h
      subst h
      cases hr with
      | ptr _ _ pl hp =>
        refine ⟨.pointer (some ⟨pl.blk, pl.off + (off + fd.offset), none⟩), ?_, .ptr _ _ _ hp⟩
        simp [Instr.fieldAt, run_underlying (structOf_eq hfs), hfd, Instr.sureAddr, fieldPlace, run_sizeOf hn, h0, add_none, Nat.add_assoc]
  · simp at h

def apart (P : Program) (t : TypeId) (cs : Array Value) (off : Nat) : Option Value :=
  (P.underlying t).bind fun d => if isAggD d then (tsize P t).map fun n => .agg (cs.extract off (off + n)) else cs[off]?
theorem apart_run {P : Program} {ι : List Pl} {t : TypeId} {cs ccs : Array Value} {off : Nat} {x : Value} (hs : cs.size = ccs.size) (hv : ∀ i, i < cs.size → VR ι (cs.getD i Go.undef) (ccs.getD i Go.undef))
    (hone : ∀ i, i < cs.size → (cs.getD i Go.undef).oneCell' = true) (h : apart P t cs off = some x) (w : World) : ∃ cx, (part t ccs off).run P w = .ok cx w ∧ VR ι x cx := by
  unfold apart at h
  simp only [Option.bind_eq_some_iff] at h
  obtain ⟨d, hd, h⟩ := h
  split at h
  · rename_i ha
    simp only [Option.map_eq_some_iff] at h
    obtain ⟨n, hn, rfl⟩ := h
    have key : ∀ (a : Array Value) (i : Nat), i < (a.extract off (off + n)).size → (a.extract off (off + n)).getD i Go.undef = a.getD (off + i) Go.undef := by
      intro a i hi
      rw [Array.getD_eq_getD_getElem?, Array.getD_eq_getD_getElem?, Array.getElem?_extract]
      simp at hi
      rw [if_pos (by omega)]
    refine ⟨.agg (ccs.extract off (off + n)), by simp [part, run_isAgg hd, ha, run_sizeOf hn], .agg _ _ (by simp [hs]) (fun i hi => ?_) (fun i hi => ?_)⟩
    · rw [key _ _ hi, key _ _ (by simpa [hs] using hi)]
      exact hv _ (by simp at hi; omega)
    · rw [key _ _ hi]
      exact hone _ (by simp at hi; omega)
  · rename_i ha
    have hlt : off < cs.size := (Array.getElem?_eq_some_iff.1 h).1
    have e := hv off hlt
    rw [Array.getD_eq_getD_getElem?, h, Array.getD_eq_getD_getElem?, Array.getElem?_eq_getElem (hs ▸ hlt)] at e
    refine ⟨ccs[off]'(hs ▸ hlt), ?_, by simpa using e⟩
    simp [part, run_isAgg hd, ha, Array.getElem?_eq_getElem (hs ▸ hlt)]

def afield (P : Program) (t : TypeId) (v : Value) (f : Nat) : Option Value :=
  match v with
  | .agg cs => (structOf P t).bind fun fs => fs[f]?.bind fun fd => apart P fd.type cs fd.offset
  | _ => none
theorem afield_run {P : Program} {ι : List Pl} {t : TypeId} {v x cv : Value} {f : Nat} (hr : VR ι v cv) (h : afield P t v f = some x) (w : World) : ∃ cx, (Instr.field t cv f).run P w = .ok cx w ∧ VR ι x cx := by
  unfold afield at h
  split at h
  · rename_i cs
    simp only [Option.bind_eq_some_iff] at h
    obtain ⟨fs, hfs, fd, hfd, h⟩ := h
    cases hr with
    | agg _ ccs h1 h2 h3 =>
      obtain ⟨cx, hc, hrx⟩ := apart_run h1 h2 h3 h w
      exact ⟨cx, by simp [Instr.field, run_underlying (structOf_eq hfs), hfd, asAgg, hc], hrx⟩
  · simp at h

def aindex (P : Program) (t : TypeId) (v i : Value) : Option Value :=
  match i with
  | .int _ n =>
    match v with
    | .agg cs => match P.underlying t with
      | some (.array len e) => if 0 ≤ n ∧ n < (len : Int) then (tsize P e).bind fun k => apart P e cs (n.toNat * k) else none
      | _ => none
    | .string s => match P.underlying t with
      | some .string => if 0 ≤ n then s[n.toNat]?.map fun b => .int .u8 b.toNat else none
      | _ => none
    | _ => none
  | _ => none
theorem aindex_run {P : Program} {ι : List Pl} {t : TypeId} {v i x cv ci : Value} (hr : VR ι v cv) (hi : VR ι i ci) (h : aindex P t v i = some x) (w : World) : ∃ cx, (Instr.index t cv ci).run P w = .ok cx w ∧ VR ι x cx := by
  unfold aindex at h
  split at h
  · rename_i k n
    cases hi
    split at h
    · rename_i cs
      split at h
      · rename_i len e hu
        split at h
        · rename_i hn
          simp only [Option.bind_eq_some_iff] at h
          obtain ⟨m, hm, h⟩ := h
          cases hr with
          | agg _ ccs h1 h2 h3 =>
            obtain ⟨cx, hc, hrx⟩ := apart_run h1 h2 h3 h w
            exact ⟨cx, by simp [Instr.index, asIntOf, run_underlying hu, hn.1, hn.2, run_sizeOf hm, hc], hrx⟩
        · simp at h
      · simp at h
    · rename_i s
      split at h
      · rename_i hu
        split at h
        · rename_i hn
          cases hr
          simp only [Option.map_eq_some_iff] at h
          obtain ⟨b, hb, rfl⟩ := h
          exact ⟨_, by simp [Instr.index, asIntOf, run_underlying hu, hn, hb], .int _ _⟩
        · simp at h
      · simp at h
    · simp at h
  · simp at h

def sliceElem (P : Program) (t : TypeId) : Option TypeId := match P.underlying t with | some (.slice e) => some e | _ => none
theorem sliceElem_eq {P : Program} {t e : TypeId} (h : sliceElem P t = some e) : P.underlying t = some (.slice e) := by
  unfold sliceElem at h; split at h
  · rename_i e'; simp only [Option.some.injEq] at h; subst h; exact e'
  · simp at h
def arrayOf (P : Program) (t : TypeId) : Option (Nat × TypeId) := match P.underlying t with | some (.array n e) => some (n, e) | _ => none
theorem arrayOf_eq {P : Program} {t e : TypeId} {n : Nat} (h : arrayOf P t = some (n, e)) : P.underlying t = some (.array n e) := by
  unfold arrayOf at h; split at h
  · rename_i n' e' hu; simp only [Option.some.injEq, Prod.mk.injEq] at h; obtain ⟨rfl, rfl⟩ := h; exact hu
  · simp at h

def aindexAddr (P : Program) (t : TypeId) (v i : Value) : Option Value :=
  match i with
  | .int _ n =>
    match v with
    | .slice (some ⟨b, off, none⟩) len es => (sliceElem P t).bind fun e => (tsize P e).bind fun k => if 0 ≤ n ∧ n < (len : Int) then some (.pointer (some ⟨b, off + n.toNat * k, none⟩)) else none
    | .pointer (some ⟨b, off, none⟩) => (arrayOf P t).bind fun (len, e) => (tsize P e).bind fun k => if 0 ≤ n ∧ n < (len : Int) then some (.pointer (some ⟨b, off + n.toNat * k, none⟩)) else none
    | _ => none
  | _ => none
theorem aindexAddr_run {P : Program} {ι : List Pl} {t : TypeId} {v i x cv ci : Value} (hr : VR ι v cv) (hi : VR ι i ci) (h : aindexAddr P t v i = some x) (w : World) : ∃ cx, (Instr.indexAt t cv ci).run P w = .ok cx w ∧ VR ι x cx := by
  unfold aindexAddr at h
  split at h
  · rename_i k n
    cases hi
    split at h
    · rename_i b off len c0
      simp only [Option.bind_eq_some_iff] at h
      obtain ⟨e, he, m, hm, h⟩ := h
      split at h
      · rename_i hn
        simp only [Option.some.injEq] at h
        subst h
        cases hr with
        | slice _ _ _ _ cap ca pl hp h1 h2 h3 h4 =>
          have e3 := h3 (by omega)
          subst e3
          refine ⟨_, ?_, .ptr _ _ _ hp⟩
          simp [Instr.indexAt, asIntOf, run_underlying (sliceElem_eq he), hn.1, hn.2, run_sizeOf hm, add_none, Nat.add_assoc]
      · simp at h
    · rename_i b off
      simp only [Option.bind_eq_some_iff] at h
      obtain ⟨⟨len, e⟩, he, h⟩ := h
      simp only [Option.bind_eq_some_iff] at h
      obtain ⟨m, hm, h⟩ := h
      split at h
      · rename_i hn
        simp only [Option.some.injEq] at h
        subst h
        cases hr with
        | ptr _ _ pl hp =>
          refine ⟨_, ?_, .ptr _ _ _ hp⟩
          simp [Instr.indexAt, asIntOf, run_underlying (arrayOf_eq he), Instr.sureAddr, hn.1, hn.2, run_sizeOf hm, add_none, Nat.add_assoc]
      · simp at h
    · simp at h
  · simp at h

def aextract (v : Value) (i : Nat) : Option Value := match v with | .tuple vs => vs[i]? | _ => none
theorem aextract_run {P : Program} {ι : List Pl} {v x cv : Value} {i : Nat} (hr : VR ι v cv) (h : aextract v i = some x) (w : World) : ∃ cx, (Instr.extract cv i).run P w = .ok cx w ∧ VR ι x cx := by
  unfold aextract at h
  split at h
  · rename_i vs
    cases hr with
    | tuple _ cvs h1 h2 =>
      have hlt : i < vs.size := (Array.getElem?_eq_some_iff.1 h).1
      have e := h2 i hlt
      rw [Array.getD_eq_getD_getElem?, h, Array.getD_eq_getD_getElem?, Array.getElem?_eq_getElem (h1 ▸ hlt)] at e
      exact ⟨cvs[i]'(h1 ▸ hlt), by simp [Instr.extract, Array.getElem?_eq_getElem (h1 ▸ hlt)], by simpa using e⟩
  · simp at h

/-! ### Slices of slices -/
def natIn (v : Option Value) (dflt most : Nat) : Option Nat :=
  match v with
  | none => some dflt
  | some (.int _ n) => if 0 ≤ n ∧ n ≤ (most : Int) then some n.toNat else none
  | _ => none
/-- s[lo:hi] within the length. -/
def aslice (P : Program) (t : TypeId) (v : Value) (lo hi mx : Option Value) : Option Value :=
  match mx with
  | some _ => none
  | none =>
    match v with
    | .string s => match P.underlying t with
      | some .string => (natIn hi s.size s.size).bind fun h => (natIn lo 0 h).map fun l => .string (s.extract l h)
      | _ => none
    | .slice none 0 0 => (sliceElem P t).bind fun e => (tsize P e).bind fun _ => (natIn hi 0 0).bind fun h => (natIn lo 0 h).map fun l => .slice none 0 0
    | .slice (some ⟨b, off, none⟩) len es => (sliceElem P t).bind fun e => (tsize P e).bind fun k => if k = es then (natIn hi len len).bind fun h => (natIn lo 0 h).map fun l => .slice (some ⟨b, off + l * k, none⟩) (h - l) es else none
    | .pointer (some ⟨b, off, none⟩) => (arrayOf P t).bind fun (n, e) => (tsize P e).bind fun k => (natIn hi n n).bind fun h => (natIn lo 0 h).bind fun l => none
    | _ => none
theorem run_sliceBound {P : Program} {k : IntKind} {n : Int} {most : Nat} {code : BoundsCode} (h : 0 ≤ n ∧ n ≤ (most : Int)) (w : World) : (Instr.sliceBound (.int k n) most code).run P w = .ok n.toNat w := by
  simp [Instr.sliceBound, asIntOf, h.1, h.2]
def VRO (ι : List Pl) (v cv : Option Value) : Prop := match v, cv with | none, none => True | some a, some b => VR ι a b | _, _ => False
theorem natIn_rel {ι : List Pl} {v cv : Option Value} {dflt most n : Nat} (h : natIn v dflt most = some n) (hr : VRO ι v cv) :
    (v = none ∧ cv = none ∧ n = dflt) ∨ (∃ k m, v = some (.int k m) ∧ cv = some (.int k m) ∧ 0 ≤ m ∧ m ≤ (most : Int) ∧ n = m.toNat) := by
  unfold natIn at h
  split at h
  · simp only [Option.some.injEq] at h
    subst h
    cases cv with
    | none => exact .inl ⟨rfl, rfl, rfl⟩
    | some c => exact hr.elim
  · rename_i k m
    split at h
    · rename_i hm
      simp only [Option.some.injEq] at h
      subst h
      cases cv with
      | none => exact hr.elim
      | some c => cases hr; exact .inr ⟨k, m, rfl, rfl, hm.1, hm.2, rfl⟩
    · simp at h
  · simp at h
theorem run_bounds {P : Program} {ι : List Pl} {lo hi clo chi : Option Value} {len cap h l : Nat} {isSlice : Bool} (hlo : VRO ι lo clo) (hhi : VRO ι hi chi) (hh : natIn hi len len = some h) (hl : natIn lo 0 h = some l) (hc : len ≤ cap) (w : World) :
    (Instr.sliceBounds isSlice len cap clo chi none).run P w = .ok (l, h, cap) w ∧ l ≤ h ∧ h ≤ len := by
  rcases natIn_rel hh hhi with ⟨rfl, rfl, rfl⟩ | ⟨k, m, rfl, rfl, h0, h1, rfl⟩
  · rcases natIn_rel hl hlo with ⟨rfl, rfl, rfl⟩ | ⟨k', m', rfl, rfl, g0, g1, rfl⟩
    · exact ⟨by simp [Instr.sliceBounds], by omega, by omega⟩
    · exact ⟨by simp [Instr.sliceBounds, run_sliceBound (P := P) ⟨g0, g1⟩], by omega, by omega⟩
  · rcases natIn_rel hl hlo with ⟨rfl, rfl, rfl⟩ | ⟨k', m', rfl, rfl, g0, g1, rfl⟩
    · exact ⟨by simp [Instr.sliceBounds, run_sliceBound (P := P) (most := cap) ⟨h0, by omega⟩], by omega, by omega⟩
    · exact ⟨by simp [Instr.sliceBounds, run_sliceBound (P := P) (most := cap) ⟨h0, by omega⟩, run_sliceBound (P := P) ⟨g0, g1⟩], by omega, by omega⟩
theorem aslice_run {P : Program} {ι : List Pl} {t : TypeId} {v x cv : Value} {lo hi mx clo chi cmx : Option Value} (hr : VR ι v cv) (hlo : VRO ι lo clo) (hhi : VRO ι hi chi) (hmx : VRO ι mx cmx)
    (h : aslice P t v lo hi mx = some x) (w : World) : ∃ cx, (Instr.sliceAt t cv clo chi cmx).run P w = .ok cx w ∧ VR ι x cx := by
  unfold aslice at h
  split at h
  · simp at h
  · cases cmx with
    | some c => exact hmx.elim
    | none =>
      split at h
      · rename_i s
        split at h
        · rename_i hu
          simp only [Option.bind_eq_some_iff, Option.map_eq_some_iff] at h
          obtain ⟨hh, h1, l, h2, rfl⟩ := h
          cases hr
          have hb := (run_bounds (P := P) (isSlice := false) hlo hhi h1 h2 (Nat.le_refl _) w).1
          exact ⟨_, by simp [Instr.sliceAt, Instr.slice, run_underlying hu, hb], .str _⟩
        · simp at h
      · simp only [Option.bind_eq_some_iff, Option.map_eq_some_iff] at h
        obtain ⟨e, he, k, hk, hh, h1, l, h2, rfl⟩ := h
        cases hr
        obtain ⟨hb, b1, b2⟩ := run_bounds (P := P) (isSlice := true) hlo hhi h1 h2 (Nat.le_refl _) w
        have hz : hh = 0 := by omega
        have hlz : l = 0 := by omega
        subst hz hlz
        exact ⟨_, by simp [Instr.sliceAt, Instr.slice, run_underlying (sliceElem_eq he), hb, run_sizeOf hk], .slice0⟩
      · rename_i b off len es
        simp only [Option.bind_eq_some_iff] at h
        obtain ⟨e, he, k, hk, h⟩ := h
        split at h
        rotate_left
        · simp at h
        rename_i hkes
        subst hkes
        simp only [Option.bind_eq_some_iff, Option.map_eq_some_iff] at h
        obtain ⟨hh, h1, l, h2, rfl⟩ := h
        cases hr with
        | slice _ _ _ _ cap ca pl hp g1 g2 g3 g4 =>
          obtain ⟨hb, b1, b2⟩ := run_bounds (P := P) (isSlice := true) hlo hhi h1 h2 g1 w
          refine ⟨.slice (if cap = l then some ca else some (ca.add (l * k))) (hh - l) (cap - l), ?_, ?_⟩
          · simp [Instr.sliceAt, Instr.slice, run_underlying (sliceElem_eq he), hb, run_sizeOf hk]
          · by_cases hc : cap = l
            · rw [if_pos hc]
              subst hc
              rw [show hh - cap = 0 by omega, show cap - cap = 0 by omega]
              exact .slice _ _ _ _ _ _ _ hp (Nat.le_refl _) (by omega) (fun h => absurd h (by omega)) (fun _ h => absurd h (by omega))
            · rw [if_neg hc]
              refine .slice _ _ _ _ _ _ _ hp (by omega) (by omega) (fun _ => by rw [g3 (by omega), add_none, Nat.add_assoc]) (fun he0 _ => ?_)
              have := g4 he0 (by omega)
              have : l * k + (cap - l) * k = cap * k := by rw [← Nat.add_mul]; congr 1; omega
              omega
      · simp only [Option.bind_eq_some_iff] at h
        obtain ⟨⟨n, e⟩, _, h⟩ := h
        simp only [Option.bind_eq_some_iff] at h
        obtain ⟨_, _, _, _, _, _, h⟩ := h
        simp at h
      · simp at h

end Go.Proofs.Ytdlanbfbbopfhaa.Ax
