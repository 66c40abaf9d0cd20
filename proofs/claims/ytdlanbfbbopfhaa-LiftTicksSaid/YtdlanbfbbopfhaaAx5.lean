/- The abstract machine: built-in calls, conversions, made structs, slices and functions, and that the real ones follow them. -/
import Derived.Test.YtdlanbfbbopfhaaAx4
set_option linter.unusedVariables false
set_option linter.unusedSimpArgs false
namespace Go.Proofs.Ytdlanbfbbopfhaa.Ax
open Go Go.RowKit

def hmap (H : Heap) (b : Nat) : Option (List (Value × Value)) := match H[b]? with | some (.map _ es) => some es | _ => none
theorem WR.map {P : Program} {w0 w : World} {ι : List Pl} {H : Heap} (h : WR P w0 ι H w) {b : Nat} {es : List (Value × Value)} (hb : hmap H b = some es) :
    ∃ o pl ms clock, H[b]? = some (.map o es) ∧ ι[b]? = some pl ∧ w.heap[pl.blk]? = some (.map ms clock) ∧ ms.size = es.length ∧ (o = true → w0.heap.size ≤ pl.blk) ∧
      ∀ (i : Nat) (k v : Value), es[i]? = some (k, v) → ∃ m, ms[i]? = some m ∧ VR ι k m.key ∧ VR ι v m.val := by
  unfold hmap at hb
  split at hb
  · rename_i o es' he
    simp only [Option.some.injEq] at hb
    subst hb
    obtain ⟨pl, hp, ms, clock, h1, h2, h3, h4⟩ := h.get he
    exact ⟨o, pl, ms, clock, he, hp, h1, h3, h2, h4⟩
  · simp at hb

def alen (P : Program) (t : TypeId) (v : Value) (H : Heap) : Option Value :=
  match P.underlying t with
  | some .string => match v with | .string s => some (.int .i64 s.size) | _ => none
  | some (.array n _) => some (.int .i64 n)
  | some (.slice _) => match v with | .slice _ n _ => some (.int .i64 n) | _ => none
  | some (.map _ _) => match v with | .map none => some (.int .i64 0) | .map (some b) => (hmap H b).map fun es => .int .i64 es.length | _ => none
  | _ => none
theorem alen_run {P : Program} {w0 w : World} {ι : List Pl} {H : Heap} (hw : WR P w0 ι H w) {t ty : TypeId} {v r cv : Value} {ts : Array TypeId} (ht : ts[0]? = some t) (hv : VR ι v cv) (h : alen P t v H = some r) :
    ∃ cr, (Builtin.len_ ts ty #[cv]).run P w = .ok cr w ∧ VR ι r cr := by
  unfold alen at h
  split at h
  · rename_i hu
    split at h
    · simp only [Option.some.injEq] at h; subst h; cases hv
      exact ⟨_, by simp [Builtin.len_, ht, run_underlying hu, goInt], .int _ _⟩
    · simp at h
  · rename_i hu
    simp only [Option.some.injEq] at h; subst h
    exact ⟨_, by simp [Builtin.len_, ht, run_underlying hu, goInt], .int _ _⟩
  · rename_i hu
    split at h
    · simp only [Option.some.injEq] at h; subst h; cases hv
      · exact ⟨_, by simp [Builtin.len_, ht, run_underlying hu, goInt], .int _ _⟩
      · exact ⟨_, by simp [Builtin.len_, ht, run_underlying hu, goInt], .int _ _⟩
    · simp at h
  · rename_i hu
    split at h
    · simp only [Option.some.injEq] at h; subst h; cases hv
      exact ⟨_, by simp [Builtin.len_, ht, run_underlying hu, goInt], .int _ _⟩
    · simp only [Option.map_eq_some_iff] at h
      obtain ⟨es, he, rfl⟩ := h
      obtain ⟨o, pl, ms, clock, _, hp, h1, h2, _⟩ := hw.map he
      cases hv with
      | map _ pl' hp' =>
        rw [hp] at hp'
        simp only [Option.some.injEq] at hp'
        subst hp'
        refine ⟨.int .i64 (ms.size : Int), ?_, by rw [h2]; exact .int _ _⟩
        simp [Builtin.len_, ht, run_underlying hu, goInt, getObj, Sem.run, h1]
    · simp at h
  · simp at h

/-- The least, or the greatest, of two whole numbers. -/
def aminmax (mx : Bool) (v u : Value) : Option Value :=
  match mx, v, u with
  | true, .int k a, .int k' b => if k = k' then some (.int k (if b > a then b else a)) else none
  | false, .int k a, .int k' b => if k = k' then some (.int k (if b < a then b else a)) else none
  | _, _, _ => none
theorem amin_run {P : Program} {ι : List Pl} {v u r cv cu : Value} (hv : VR ι v cv) (hu : VR ι u cu) (h : aminmax false v u = some r) (ts : Array TypeId) (ty : TypeId) (w : World) : ∃ cr, (Builtin.min_ ts ty #[cv, cu]).run P w = .ok cr w ∧ VR ι r cr := by
  unfold aminmax at h
  split at h
  · simp at *
  · split at h
    · simp only [Option.some.injEq] at h; subst h; cases hv; cases hu
      exact ⟨_, by simp [Builtin.min_, Builtin.min2], .int _ _⟩
    · simp at h
  · simp at h
theorem amax_run {P : Program} {ι : List Pl} {v u r cv cu : Value} (hv : VR ι v cv) (hu : VR ι u cu) (h : aminmax true v u = some r) (ts : Array TypeId) (ty : TypeId) (w : World) : ∃ cr, (Builtin.max_ ts ty #[cv, cu]).run P w = .ok cr w ∧ VR ι r cr := by
  unfold aminmax at h
  split at h
  · split at h
    · simp only [Option.some.injEq] at h; subst h; cases hv; cases hu
      exact ⟨_, by simp [Builtin.max_, Builtin.max2], .int _ _⟩
    · simp at h
  · simp at *
  · simp at h

/-- The cells of what is appended, or copied: of so many elements of a slice, or of a string's bytes. -/
def asrc (k : Nat) (v : Value) (H : Heap) : Option (Nat × List Value) :=
  match v with
  | .slice none n _ => if n = 0 then some (0, []) else none
  | .slice (some ⟨b, off, none⟩) n es => if n = 0 then some (0, []) else if es = k then (hblk H b).bind fun c => (slotsOf c off (n * k)).map fun l => (n, l) else none
  | .string s => some (s.size, s.data.toList.map fun x => .int .u8 x.toNat)
  | _ => none
theorem asrc_run {P : Program} {w0 w : World} {ι : List Pl} {H : Heap} (hw : WR P w0 ι H w) {k n : Nat} {v cv : Value} {l : List Value} (hv : VR ι v cv) (h : asrc k v H = some (n, l)) (hst : ∀ s, v = .string s → k = 1) :
    ∃ cl, (∀ w', Below w.heap.size w w' → (Builtin.firstCells k n cv).run P w' = .ok cl w') ∧ (∀ w', (Builtin.lenOf cv).run P w' = .ok n w') ∧ LR ι l cl.toList ∧ (∀ x ∈ l, x.oneCell' = true) ∧ l.length = n * k := by
  unfold asrc at h
  split at h
  · split at h
    · rename_i hn
      simp only [Option.some.injEq, Prod.mk.injEq] at h
      obtain ⟨rfl, rfl⟩ := h
      subst hn
      cases hv
      exact ⟨#[], fun w' _ => rfl, fun w' => rfl, .nil _, fun x hx => by simp at hx, by simp⟩
    · simp at h
  · rename_i b off n' es
    split at h
    · rename_i hn
      simp only [Option.some.injEq, Prod.mk.injEq] at h
      obtain ⟨rfl, rfl⟩ := h
      subst hn
      cases hv
      exact ⟨#[], fun w' _ => by simp [Builtin.firstCells, loadCells, loadCellsFrom], fun w' => rfl, .nil _, fun x hx => by simp at hx, by simp⟩
    · rename_i hn
      split at h
      rotate_left
      · simp at h
      rename_i hes
      subst hes
      simp only [Option.bind_eq_some_iff, Option.map_eq_some_iff, Prod.mk.injEq] at h
      obtain ⟨c, hc, l', hl, rfl, rfl⟩ := h
      obtain ⟨m, pl, cc, e, fr, hb, hp, hC⟩ := hw.cells hc
      unfold slotsOf at hl
      split at hl
      rotate_left
      · simp at hl
      rename_i hle
      simp only [Option.some.injEq] at hl
      subst hl
      cases hv with
      | slice _ _ _ _ cap ca pl' hp' g1 g2 g3 g4 =>
        rw [hp] at hp'
        simp only [Option.some.injEq] at hp'
        subst hp'
        have e3 := g3 (by omega)
        subst e3
        obtain ⟨hL, hone, hlen, hcell⟩ := hC.range off _ hle
        refine ⟨((cc.toList.drop (pl.off + off)).take (n' * es)).toArray, fun w' hb' => ?_, fun w' => rfl, by simpa using hL, hone, by simp; omega⟩
        have hlt : pl.blk < w.heap.size := (Array.getElem?_eq_some_iff.1 hC.1).1
        exact run_firstCells_some (P := P) w' es n' ⟨pl.blk, pl.off + off, none⟩ n' cap _ hlen (fun j v hj => by
          rw [hb'.cell (p := (⟨pl.blk, pl.off + off, none⟩ : Addr).add j) (by rw [add_none]; exact hlt)]; exact hcell j v hj)
  · rename_i s
    simp only [Option.some.injEq, Prod.mk.injEq] at h
    obtain ⟨rfl, rfl⟩ := h
    have := hst s rfl
    subst this
    cases hv
    refine ⟨s.data.map fun b => .int .u8 b.toNat, fun w' _ => ?_, fun w' => rfl, ?_, fun x hx => ?_, ?_⟩
    · simp only [Builtin.firstCells, Sem.run_pure]
      congr 3
      exact ByteArray.extract_zero_size
    · rw [Array.toList_map]
      exact .const (List.all_eq_true.2 fun x hx => by simp only [List.mem_map] at hx; obtain ⟨y, _, rfl⟩ := hx; rfl)
    · simp only [List.mem_map] at hx
      obtain ⟨y, _, rfl⟩ := hx
      rfl
    · simp
  · simp at h

end Go.Proofs.Ytdlanbfbbopfhaa.Ax
