/- What Go's data are in abstract memory: types as relations, and that what is read before a call stands there. -/
import Derived.ProofKit
import Derived.OpenShut
import Derived.ShutString
import Derived.ChangeOld
import Derived.SizedLaws
import Derived.Orders
import Derived.KernelRfl
import Derived.Test.YtfobbmllbbckkaaJAx1
set_option linter.unusedVariables false
set_option linter.unusedSimpArgs false
namespace Go.Proofs.Ytfobbmllbbckkaa.Ax
open Go Go.RowKit

/-- A Go type's values, as cells, and what they say. -/
structure Ty (α : Type) where
  sz : Nat
  R : Heap → List Value → α → Prop
  ok : α → Prop

def RoExt (H H' : Heap) : Prop := ∀ (b : Nat) (c : List Value), H[b]? = some (.cells .ro c) → H'[b]? = some (.cells .ro c)
theorem RoExt.refl (H : Heap) : RoExt H H := fun _ _ h => h
theorem RoExt.trans {A B C : Heap} (h : RoExt A B) (k : RoExt B C) : RoExt A C := fun b c hb => k b c (h b c hb)
theorem RoExt.push (H T : Heap) : RoExt H (H ++ T) := fun b c h => by
  rw [List.getElem?_append_left (List.getElem?_eq_some_iff.1 h).1]; exact h
def NoOwn (H : Heap) : Prop := ∀ (b : Nat) (B : Blk), H[b]? = some B → B.own = false

structure Ty.Good {α : Type} (T : Ty α) : Prop where
  stable : ∀ {H H' : Heap} {cs : List Value} {x : α}, RoExt H H' → T.R H cs x → T.R H' cs x
  len : ∀ {H : Heap} {cs : List Value} {x : α}, T.R H cs x → cs.length = T.sz
  one : ∀ {H : Heap} {cs : List Value} {x : α}, T.R H cs x → ∀ v ∈ cs, v.oneCell' = true

def Opens {α : Type} (P : Program) (t : TypeId) (T : Ty α) : Prop :=
  P.cellsOf t = T.sz ∧ ∀ {D : Type} (enc : TypeId × Value → D) (fuel : Nat) (w0 w : World) (ι : List Pl) (H : Heap) (cs : List Value) (x : DataW D × List MemPlace), WR P w0 ι H w → NoOwn H →
    DataW.trod enc P w 0 (fun _ => true) true fuel t cs = some x →
    ∃ ι' H' acs a, Ext ι ι' ∧ WR P w0 ι' H' w ∧ NoOwn H' ∧ RoExt H H' ∧ LR ι' acs cs ∧ T.R H' acs a ∧ T.ok a

/-! ### Plain types -/
def tInt (k : IntKind) : Ty Int := ⟨1, fun _ cs n => cs = [.int k n], fun n => (Lit.int k n).wf = true⟩
def tBool : Ty Bool := ⟨1, fun _ cs b => cs = [.bool b], fun _ => True⟩
def tStr : Ty ByteArray := ⟨1, fun _ cs s => cs = [.string s], fun s => s.size ≤ maxLen⟩
theorem tInt_good (k : IntKind) : (tInt k).Good := ⟨fun _ h => h, fun h => by rw [h]; rfl, fun h v hv => by rw [h] at hv; simp at hv; subst hv; rfl⟩
theorem tBool_good : tBool.Good := ⟨fun _ h => h, fun h => by rw [h]; rfl, fun h v hv => by rw [h] at hv; simp at hv; subst hv; rfl⟩
theorem tStr_good : tStr.Good := ⟨fun _ h => h, fun h => by rw [h]; rfl, fun h v hv => by rw [h] at hv; simp at hv; subst hv; rfl⟩
theorem opens_int {P : Program} {t : TypeId} {k : IntKind} (ht : P.underlying t = some (.int k)) (hc : P.cellsOf t = 1) : Opens P t (tInt k) :=
  ⟨hc, fun enc fuel w0 w ι H cs x hw hn h => by
    obtain ⟨n, rfl, rfl, hwf⟩ := DataW.trod_int ht h
    exact ⟨ι, H, [.int k n], n, .refl _, hw, hn, .refl _, .cons (.int _ _) (.nil _), rfl, hwf⟩⟩
theorem opens_bool {P : Program} {t : TypeId} (ht : P.underlying t = some .bool) (hc : P.cellsOf t = 1) : Opens P t tBool :=
  ⟨hc, fun enc fuel w0 w ι H cs x hw hn h => by
    obtain ⟨b, rfl, rfl⟩ := DataW.trod_bool ht h
    exact ⟨ι, H, [.bool b], b, .refl _, hw, hn, .refl _, .cons (.bool _) (.nil _), rfl, trivial⟩⟩
theorem opens_str {P : Program} {t : TypeId} (ht : P.underlying t = some .string) (hc : P.cellsOf t = 1) : Opens P t tStr :=
  ⟨hc, fun enc fuel w0 w ι H cs x hw hn h => by
    obtain ⟨s, rfl, rfl, hs⟩ := DataW.trod_string ht h
    exact ⟨ι, H, [.string s], s, .refl _, hw, hn, .refl _, .cons (.str _) (.nil _), rfl, hs⟩⟩

/-! ### Structs: one field, and the others -/
def tPair {α β : Type} (S : Ty α) (T : Ty β) : Ty (α × β) :=
  ⟨S.sz + T.sz, fun H cs x => S.R H (cs.take S.sz) x.1 ∧ T.R H (cs.drop S.sz) x.2, fun x => S.ok x.1 ∧ T.ok x.2⟩
theorem tPair_good {α β : Type} {S : Ty α} {T : Ty β} (hs : S.Good) (ht : T.Good) : (tPair S T).Good :=
  ⟨fun hx h => ⟨hs.stable hx h.1, ht.stable hx h.2⟩, fun {H cs x} h => by
    have h1 := hs.len h.1
    have h2 := ht.len h.2
    simp at h1 h2
    simp only [tPair]
    omega, fun {H cs x} h v hv => by
    rw [← List.take_append_drop S.sz cs] at hv
    rcases List.mem_append.1 hv with hv | hv
    · exact hs.one h.1 v hv
    · exact ht.one h.2 v hv⟩
/-- Fields from a place on. -/
structure OpensF {α : Type} (P : Program) (fs : List Field) (off : Nat) (T : Ty α) : Prop where
  out : ∀ {D : Type} (enc : TypeId × Value → D) (fuel : Nat) (w0 w : World) (ι : List Pl) (H : Heap) (cs : List Value), WR P w0 ι H w → NoOwn H → cs.length = off + T.sz →
    (∀ f ∈ fs, ∃ x, DataW.trod enc P w 0 (fun _ => true) true fuel f.type ((cs.drop f.offset).take (P.cellsOf f.type)) = some x) →
    ∃ ι' H' acs a, Ext ι ι' ∧ WR P w0 ι' H' w ∧ NoOwn H' ∧ RoExt H H' ∧ LR ι' acs (cs.drop off) ∧ T.R H' acs a ∧ T.ok a
theorem opensF_one {α : Type} {P : Program} {f : Field} {off : Nat} {T : Ty α} (hf : f.offset = off) (hO : Opens P f.type T) : OpensF P [f] off T := by
  refine ⟨fun {D} enc fuel w0 w ι H cs hw hn hl h => ?_⟩
  obtain ⟨x, hx⟩ := h f (List.mem_singleton.2 rfl)
  rw [hf, hO.1, List.take_of_length_le (by simp; omega)] at hx
  exact hO.2 enc fuel w0 w ι H _ x hw hn hx
theorem opensF_cons {α β : Type} {P : Program} {f : Field} {fs : List Field} {off : Nat} {S : Ty α} {T : Ty β} (hS : S.Good) (hf : f.offset = off) (hO : Opens P f.type S) (hr : OpensF P fs (off + S.sz) T) : OpensF P (f :: fs) off (tPair S T) := by
  refine ⟨fun {D} enc fuel w0 w ι H cs hw hn hl h => ?_⟩
  obtain ⟨x, hx⟩ := h f (List.mem_cons_self ..)
  rw [hf, hO.1] at hx
  obtain ⟨ι1, H1, acs, a, x1, hw1, hn1, e1, l1, r1, o1⟩ := hO.2 enc fuel w0 w ι H _ x hw hn hx
  obtain ⟨ι2, H2, bcs, b, x2, hw2, hn2, e2, l2, r2, o2⟩ := hr.out enc fuel w0 w ι1 H1 cs hw1 hn1 (by simp only [tPair] at hl; omega) (fun g hg => h g (List.mem_cons_of_mem _ hg))
  have hal : acs.length = S.sz := hS.len r1
  refine ⟨ι2, H2, acs ++ bcs, (a, b), x1.trans x2, hw2, hn2, e1.trans e2, ?_, ⟨?_, ?_⟩, o1, o2⟩
  · have : cs.drop off = (cs.drop off).take S.sz ++ cs.drop (off + S.sz) := by
      rw [← List.drop_drop, List.take_append_drop]
    rw [this]
    exact (l1.ext x2).append l2
  · rw [List.take_append_of_le_length (by omega), List.take_of_length_le (by omega)]; exact hS.stable e2 r1
  · rw [List.drop_append_of_le_length (by omega), List.drop_of_length_le (by omega)]; exact r2
theorem opens_struct {α : Type} {P : Program} {t : TypeId} {fs : Array Field} {T : Ty α} (ht : P.underlying t = some (.struct fs)) (hc : P.cellsOf t = T.sz) (hO : OpensF P fs.toList 0 T) : Opens P t T :=
  ⟨hc, fun enc fuel w0 w ι H cs x hw hn h => by
    obtain ⟨xs, n, rfl, rfl, hl, hxs, hall⟩ := DataW.trod_struct ht h
    have := hO.out enc n w0 w ι H cs hw hn (by omega) (fun f hf => by
      obtain ⟨i, hi, rfl⟩ := List.getElem_of_mem hf
      have hi' : i < fs.size := by simpa using hi
      have := hall i fs[i] (by simp [hi'])
      refine ⟨xs[i]'(by omega), ?_⟩
      rw [List.getElem?_eq_getElem (by omega)] at this
      simpa using this)
    simpa using this⟩
/-- The same values, under another name. -/
def Ty.map {α β : Type} (T : Ty α) (g : α → β) : Ty β := ⟨T.sz, fun H cs y => ∃ x, T.R H cs x ∧ g x = y, fun y => ∃ x, T.ok x ∧ g x = y⟩

/-! ### Slices -/
def tSlice {α : Type} (T : Ty α) : Ty (List α) :=
  ⟨1, fun H cs xs => (cs = [.slice none 0 0] ∧ xs = []) ∨ ∃ b, cs = [.slice (some ⟨b, 0, none⟩) xs.length T.sz] ∧ (xs = [] ∨ ∃ c, H[b]? = some (.cells .ro c) ∧ c.length = xs.length * T.sz ∧
      ∀ (i : Nat) (x : α), xs[i]? = some x → T.R H ((c.drop (i * T.sz)).take T.sz) x),
    fun xs => xs.length ≤ maxLen ∧ ∀ x ∈ xs, T.ok x⟩
theorem tSlice_good {α : Type} {T : Ty α} (hT : T.Good) : (tSlice T).Good :=
  ⟨fun hx h => by
    rcases h with h | ⟨b, h1, h2⟩
    · exact .inl h
    · refine .inr ⟨b, h1, ?_⟩
      rcases h2 with h2 | ⟨c, h2, h3, h4⟩
      · exact .inl h2
      · exact .inr ⟨c, hx _ _ h2, h3, fun i x hi => hT.stable hx (h4 i x hi)⟩,
   fun h => by rcases h with ⟨rfl, _⟩ | ⟨b, rfl, _⟩ <;> rfl,
   fun h v hv => by rcases h with ⟨rfl, _⟩ | ⟨b, rfl, _⟩ <;> (simp at hv; subst hv; rfl)⟩

theorem mapM_get {α β : Type} {f : α → Option β} : ∀ (l : List α) (r : List β), l.mapM f = some r → r.length = l.length ∧ ∀ (i : Nat) (x : α), l[i]? = some x → f x = r[i]? := by
  intro l
  induction l with
  | nil => intro r h; simp at h; subst h; exact ⟨rfl, fun i x hi => by simp at hi⟩
  | cons a l ih =>
    intro r h
    rw [List.mapM_cons] at h
    simp only [Option.bind_eq_bind, Option.bind_eq_some_iff, Option.pure_def, Option.some.injEq] at h
    obtain ⟨b, hb, r', hr', rfl⟩ := h
    obtain ⟨h1, h2⟩ := ih r' hr'
    refine ⟨by simp [h1], fun i x hi => ?_⟩
    cases i with
    | zero => simp only [List.getElem?_cons_zero, Option.some.injEq] at hi ⊢; subst hi; exact hb
    | succ i => simp only [List.getElem?_cons_succ] at hi ⊢; exact h2 i x hi
theorem cells_get {w : World} {a : Addr} {n : Nat} {cs : List Value} (h : w.cells? 0 a n = some cs) : cs.length = n ∧ ∀ j, j < n → w.cell? (a.add j) = cs[j]? := by
  unfold World.cells? at h
  rw [if_pos (Nat.zero_le _)] at h
  obtain ⟨h1, h2⟩ := mapM_get _ _ h
  exact ⟨by simpa using h1, fun j hj => h2 j j (by simp [hj])⟩

/-- Elements, one behind the other. -/
theorem opens_list {α : Type} {P : Program} {e : TypeId} {T : Ty α} (hO : Opens P e T) (hG : T.Good) {D : Type} (enc : TypeId × Value → D) (fuel : Nat) (w0 w : World) : ∀ (l : List (List Value)) (ι : List Pl) (H : Heap), WR P w0 ι H w → NoOwn H →
    (∀ cs ∈ l, ∃ x, DataW.trod enc P w 0 (fun _ => true) true fuel e cs = some x) →
    ∃ (ι' : List Pl) (H' : Heap) (c : List Value) (as : List α), Ext ι ι' ∧ WR P w0 ι' H' w ∧ NoOwn H' ∧ RoExt H H' ∧ LR ι' c l.flatten ∧ as.length = l.length ∧ c.length = l.length * T.sz ∧ (∀ v ∈ c, v.oneCell' = true) ∧ (∀ x ∈ as, T.ok x) ∧
      ∀ (i : Nat) (x : α), as[i]? = some x → T.R H' ((c.drop (i * T.sz)).take T.sz) x := by
  intro l
  induction l with
  | nil => intro ι H hw hn _; exact ⟨ι, H, [], [], .refl _, hw, hn, .refl _, .nil _, rfl, by simp, fun v hv => by simp at hv, fun x hx => by simp at hx, fun i x hi => by simp at hi⟩
  | cons cs l ih =>
    intro ι H hw hn h
    obtain ⟨x, hx⟩ := h cs (List.mem_cons_self ..)
    obtain ⟨ι1, H1, acs, a, x1, hw1, hn1, e1, l1, r1, o1⟩ := hO.2 enc fuel w0 w ι H _ x hw hn hx
    obtain ⟨ι2, H2, c, as, x2, hw2, hn2, e2, l2, hlen, hcl, hone, hok, hR⟩ := ih ι1 H1 hw1 hn1 (fun cs hcs => h cs (List.mem_cons_of_mem _ hcs))
    have hal : acs.length = T.sz := hG.len r1
    refine ⟨ι2, H2, acs ++ c, a :: as, x1.trans x2, hw2, hn2, e1.trans e2, (l1.ext x2).append l2, by simp [hlen], by simp [hal, hcl, Nat.add_mul]; omega, fun v hv => ?_, fun y hy => ?_, fun i y hi => ?_⟩
    · rcases List.mem_append.1 hv with hv | hv
      · exact hG.one r1 v hv
      · exact hone v hv
    · rcases List.mem_cons.1 hy with rfl | hy
      · exact o1
      · exact hok y hy
    · cases i with
      | zero =>
        simp only [List.getElem?_cons_zero, Option.some.injEq] at hi
        subst hi
        rw [Nat.zero_mul, List.drop_zero, List.take_append_of_le_length (by omega), List.take_of_length_le (by omega)]
        exact hG.stable e2 r1
      | succ i =>
        simp only [List.getElem?_cons_succ] at hi
        rw [show (i + 1) * T.sz = acs.length + i * T.sz by rw [Nat.add_mul, hal]; omega, List.drop_append, List.drop_of_length_le (by omega), List.nil_append, show acs.length + i * T.sz - acs.length = i * T.sz by omega]
        exact hR i y hi

theorem flatten_get {k : Nat} (hk : 0 < k) : ∀ (l : List (List Value)) (j : Nat), (∀ cs ∈ l, cs.length = k) → j < l.length * k → ∃ cs, l[j / k]? = some cs ∧ l.flatten[j]? = cs[j % k]? := by
  intro l
  induction l with
  | nil => intro j _ h; simp at h
  | cons cs l ih =>
    intro j h hj
    have hcs := h cs (List.mem_cons_self ..)
    by_cases hlt : j < k
    · refine ⟨cs, by rw [Nat.div_eq_of_lt hlt]; rfl, ?_⟩
      rw [List.flatten_cons, List.getElem?_append_left (by omega), Nat.mod_eq_of_lt hlt]
    · obtain ⟨cs', h1, h2⟩ := ih (j - k) (fun c hc => h c (List.mem_cons_of_mem _ hc)) (by simp [Nat.add_mul] at hj; omega)
      have hdiv : j / k = (j - k) / k + 1 := by rw [Nat.div_eq, if_pos ⟨hk, by omega⟩]
      refine ⟨cs', by rw [hdiv]; simpa using h1, ?_⟩
      rw [List.flatten_cons, List.getElem?_append_right (by omega), hcs, h2, ← Nat.mod_eq_sub_mod (by omega)]

/-- A block that is read alone. -/
theorem WR.read {P : Program} {w0 w : World} {ι : List Pl} {H : Heap} (hw : WR P w0 ι H w) (hn : NoOwn H) {c : List Value} {cc : Array Value} {e : TypeId} {fr : Nat × Nat} {blk off : Nat} (hb : w.heap[blk]? = some (.cells cc e fr)) (hle : off + c.length ≤ cc.size)
    (hL : ∀ (i : Nat) (v : Value), c[i]? = some v → v.oneCell' = true ∧ ∃ cv, cc[off + i]? = some cv ∧ VR ι v cv) :
    WR P w0 (ι ++ [⟨blk, off, c.length, 0⟩]) (H ++ [.cells .ro c]) w ∧ NoOwn (H ++ [.cells .ro c]) := by
  refine ⟨hw.push _ _ ⟨cc, e, fr, ⟨hb, hle, Nat.le_refl _, fun i v hi => let ⟨h1, cv, h2, h3⟩ := hL i v hi; ⟨h1, cv, h2, h3.ext (.push _ _)⟩⟩, fun h => by simp [Mode.own] at h, rfl⟩ fun b C q h1 h2 ha hq => ⟨hn b C h1, rfl⟩, fun b B h => ?_⟩
  by_cases hlt : b < H.length
  · rw [List.getElem?_append_left hlt] at h; exact hn b B h
  · rw [List.getElem?_append_right (by omega)] at h
    have hz : b - H.length = 0 := by have := (List.getElem?_eq_some_iff.1 h).1; simp at this; omega
    rw [hz] at h
    simp only [List.getElem?_cons_zero, Option.some.injEq] at h
    subst h; rfl
theorem WR.pushDead {P : Program} {w0 w : World} {ι : List Pl} {H : Heap} (hw : WR P w0 ι H w) (hn : NoOwn H) (pl : Pl) : WR P w0 (ι ++ [pl]) (H ++ [.dead]) w ∧ NoOwn (H ++ [.dead]) := by
  refine ⟨hw.push pl .dead trivial fun b C q h1 h2 ha hq => ⟨hn b C h1, rfl⟩, fun b B h => ?_⟩
  by_cases hlt : b < H.length
  · rw [List.getElem?_append_left hlt] at h; exact hn b B h
  · rw [List.getElem?_append_right (by omega)] at h
    have hz : b - H.length = 0 := by have := (List.getElem?_eq_some_iff.1 h).1; simp at this; omega
    rw [hz] at h
    simp only [List.getElem?_cons_zero, Option.some.injEq] at h
    subst h; rfl

theorem opens_slice {α : Type} {P : Program} {t e : TypeId} {T : Ty α} (ht : P.underlying t = some (.slice e)) (hc : P.cellsOf t = 1) (hO : Opens P e T) (hG : T.Good) (hz : 0 < T.sz) : Opens P t (tSlice T) :=
  ⟨hc, fun {D} enc fuel w0 w ι H cs x hw hn h => by
    rcases DataW.trod_slice ht h with ⟨rfl, rfl⟩ | ⟨a, len, cap, elems, rest, n, rfl, rfl, rfl, hb, hl, hm, hlen, hel, hsp, hns⟩
    · exact ⟨ι, H, [.slice none 0 0], [], .refl _, hw, hn, .refl _, .cons .slice0 (.nil _), .inl ⟨rfl, rfl⟩, by simp, fun x hx => by simp at hx⟩
    · have hk : P.cellsOf e = T.sz := hO.1
      obtain ⟨hsp1, hsp2⟩ := hsp rfl
      -- every cell up to the capacity is there
      have hcell : ∀ i, i < cap → ∃ cs, w.cells? 0 (a.add (i * T.sz)) T.sz = some cs ∧ ∃ x, DataW.trod enc P w 0 (fun _ => true) true n e cs = some x := by
        intro i hi
        by_cases hil : i < len
        · have := hel i hil
          rw [hk, List.getElem?_eq_getElem (by omega)] at this
          simp only [Option.bind_eq_some_iff] at this
          obtain ⟨cs, h1, h2⟩ := this
          exact ⟨cs, h1, _, h2⟩
        · have := hsp2 (i - len) (by omega)
          rw [hk, List.getElem?_eq_getElem (by omega), show len + (i - len) = i by omega] at this
          simp only [Option.bind_eq_some_iff] at this
          obtain ⟨cs, h1, h2⟩ := this
          exact ⟨cs, h1, _, h2⟩
      have haddr : 0 < cap → a.spot = none ∧ ∃ cc e' fr, w.heap[a.block]? = some (.cells cc e' fr) := by
        intro hcap
        obtain ⟨cs, h1, _⟩ := hcell 0 hcap
        obtain ⟨h2, h3⟩ := cells_get h1
        have h4 := h3 0 hz
        rw [Nat.zero_mul, show a.add 0 = a from rfl, show a.add 0 = a from rfl, List.getElem?_eq_getElem (by omega)] at h4
        unfold World.cell? at h4
        split at h4
        · rename_i cc e' fr hh
          split at h4
          · simp at h4
          · rename_i hs
            exact ⟨by cases h : a.spot <;> simp_all, cc, e', fr, hh⟩
        · simp at h4
      by_cases hl0 : len = 0
      · subst hl0
        obtain ⟨hw', hn'⟩ := hw.pushDead hn ⟨a.block, a.off, 0, 0⟩
        have hx : (ι ++ [(⟨a.block, a.off, 0, 0⟩ : Pl)])[H.length]? = some ⟨a.block, a.off, 0, 0⟩ := by rw [← hw.len]; simp
        refine ⟨_, _, [.slice (some ⟨H.length, 0, none⟩) 0 T.sz], [], .push _ _, hw', hn', .push _ _, .cons (.slice _ _ _ _ _ _ _ hx hl hm (fun hcap => ?_) (fun h => absurd rfl h)) (.nil _), .inr ⟨H.length, rfl, .inl rfl⟩, by simp, fun x hx => by simp at hx⟩
        obtain ⟨hs, _⟩ := haddr hcap
        obtain ⟨b, o, s⟩ := a
        simp only at hs
        subst hs
        rfl
      · obtain ⟨hs, cc, e', fr, hh⟩ := haddr (by omega)
        obtain ⟨blk, off, s⟩ := a
        simp only at hs hh
        subst hs
        -- the cells of each element
        let l : List (List Value) := (List.range len).map fun i => (w.cells? 0 ⟨blk, off + i * T.sz, none⟩ T.sz).getD []
        have hli : ∀ i, i < len → ∃ cs, l[i]? = some cs ∧ w.cells? 0 ⟨blk, off + i * T.sz, none⟩ T.sz = some cs ∧ ∃ x, DataW.trod enc P w 0 (fun _ => true) true n e cs = some x := by
          intro i hi
          obtain ⟨cs, h1, h2⟩ := hcell i (by omega)
          rw [add_none] at h1
          exact ⟨cs, by simp [l, hi, h1], h1, h2⟩
        have hll : l.length = len := by simp [l]
        obtain ⟨ι1, H1, c, as, x1, hw1, hn1, e1, l1, hasl, hcl, hone, hok, hR⟩ := opens_list hO hG enc n w0 w l ι H hw hn (fun cs hcs => by
          obtain ⟨i, hi, rfl⟩ := List.getElem_of_mem hcs
          obtain ⟨cs', h1, _, h2⟩ := hli i (by omega)
          rw [List.getElem?_eq_getElem hi] at h1
          simp only [Option.some.injEq] at h1
          rw [h1]; exact h2)
        have hflat : ∀ j, j < len * T.sz → l.flatten[j]? = cc[off + j]? := by
          intro j hj
          obtain ⟨cs, h1, h2⟩ := flatten_get hz l j (fun cs hcs => by
            obtain ⟨i, hi, rfl⟩ := List.getElem_of_mem hcs
            obtain ⟨cs', h1, h2, _⟩ := hli i (by omega)
            rw [List.getElem?_eq_getElem hi] at h1
            simp only [Option.some.injEq] at h1
            rw [h1]; exact (cells_get h2).1) (by rw [hll]; exact hj)
          have hdl : j / T.sz < len := Nat.div_lt_of_lt_mul (by rw [Nat.mul_comm]; exact hj)
          obtain ⟨cs', h3, h4, _⟩ := hli (j / T.sz) hdl
          rw [h1] at h3
          simp only [Option.some.injEq] at h3
          subst h3
          rw [h2]
          have h5 := (cells_get h4).2 (j % T.sz) (Nat.mod_lt _ hz)
          rw [add_none, cell_of hh] at h5
          rw [← h5]
          congr 1
          have := Nat.div_add_mod j T.sz
          rw [Nat.mul_comm] at this
          omega
        have hsz : off + c.length ≤ cc.size := by
          rw [hcl, hll]
          have hp : 0 < len * T.sz := Nat.mul_pos (by omega) hz
          have h1 := hflat (len * T.sz - 1) (by omega)
          have h2 : len * T.sz - 1 < l.flatten.length := by rw [← l1.1, hcl, hll]; omega
          rw [List.getElem?_eq_getElem h2] at h1
          have := (Array.getElem?_eq_some_iff.1 h1.symm).1
          omega
        obtain ⟨hw2, hn2⟩ := hw1.read hn1 (c := c) hh hsz (fun i v hi => by
          obtain ⟨cv, h1, h2⟩ := l1.2 i v hi
          have hil : i < len * T.sz := by have := (List.getElem?_eq_some_iff.1 hi).1; rw [hcl, hll] at this; exact this
          exact ⟨hone v (List.mem_of_getElem? hi), cv, by rw [← hflat i hil]; exact h1, h2⟩)
        have hx : (ι1 ++ [(⟨blk, off, c.length, 0⟩ : Pl)])[H1.length]? = some ⟨blk, off, c.length, 0⟩ := by rw [← hw1.len]; simp
        refine ⟨_, _, [.slice (some ⟨H1.length, 0, none⟩) len T.sz], as, x1.trans (.push _ _), hw2, hn2, e1.trans (.push _ _), .cons (.slice _ _ _ _ _ _ _ hx hl hm (fun hcap => rfl) (fun h => absurd rfl h)) (.nil _), .inr ⟨H1.length, by rw [hasl, hll], .inr ⟨c, by simp, by rw [hcl, hasl], fun i x hi => hG.stable (.push _ _) (hR i x hi)⟩⟩, by omega, hok⟩⟩

end Go.Proofs.Ytfobbmllbbckkaa.Ax
/- From a law told of abstract memory to what its row asks: arguments, and the beginning. -/
set_option linter.unusedVariables false
set_option linter.unusedSimpArgs false
namespace Go.Proofs.Ytfobbmllbbckkaa.Ax
open Go Go.RowKit

theorem WR.start (P : Program) (W : World) : WR P W [] [] W :=
  ⟨rfl, Below.refl _ _, fun b B pl h _ => by simp at h, fun b b' B B' pl pl' h _ _ _ _ _ _ => by simp at h⟩
theorem NoOwn.nil : NoOwn [] := fun b B h => by simp at h

/-- An argument: of one cell, or a struct. -/
def arg1 (acs : List Value) : Value := acs.headD undef
def argS (acs : List Value) : Value := .agg acs.toArray
theorem arg1_rel {ι : List Pl} {acs : List Value} {v : Value} (h : LR ι acs v.cells.toList) (hv : v.cells = #[v]) : VR ι (arg1 acs) v := by
  rw [hv] at h
  have h1 := h.1
  match acs, h1 with
  | [x], _ =>
    obtain ⟨c, hc, hr⟩ := h.2 0 x rfl
    simp at hc
    subst hc
    exact hr
theorem argS_rel {ι : List Pl} {acs : List Value} {cs : Array Value} (h : LR ι acs (Value.agg cs).cells.toList) (hone : ∀ v ∈ acs, v.oneCell' = true) : VR ι (argS acs) (.agg cs) := VR.ofL h hone

theorem AsR.nil (ι : List Pl) : AsR ι #[] #[] := ⟨rfl, fun i h => absurd h (Nat.not_lt_zero _)⟩
theorem AsR.ofL {ι : List Pl} {as cs : List Value} (h : LR ι as cs) : AsR ι as.toArray cs.toArray :=
  ⟨by simp [h.1], fun i hi => h.toArr i (by simpa using hi)⟩

/-- What a law's call comes to. -/
theorem AX.law {P : Program} {f : FuncId} {as cs : List Value} {ι : List Pl} {H : Heap} {W : World} (h : AX P f as.toArray H fun v _ => v = .bool true) (hw : WR P W ι H W) (ha : LR ι as cs) :
    Calls P f cs.toArray W fun e w' => e = .returned (.bool true) ∧ Below W.heap.size W w' := by
  refine (h.out W ι W _ hw (.ofL ha)).mono fun e w' he => ?_
  cases e with
  | returned cv =>
    obtain ⟨v, H', ι', rfl, _, hw', hv⟩ := he
    cases hv
    exact ⟨rfl, hw'.below⟩
  | panicked ch => exact he.elim
  | outgrown => exact he.elim

/-! ### A call that is done from elsewhere -/
theorem VR.back {ι ι' : List Pl} (hx : Ext ι ι') {v c0 : Value} (h : VR ι v c0) : ∀ {c : Value}, VR ι' v c → VR ι v c := by
  induction h with
  | bool b => intro c r; cases r; exact .bool _
  | int k n => intro c r; cases r; exact .int _ _
  | str s => intro c r; cases r; exact .str _
  | nilFunc => intro c r; cases r; exact .nilFunc
  | nilIface => intro c r; cases r; exact .nilIface
  | ptr0 => intro c r; cases r; exact .ptr0
  | ptr b off pl hb =>
    intro c r
    cases r with
    | ptr _ _ pl' hb' =>
      have := hx b pl hb
      rw [this] at hb'
      simp only [Option.some.injEq] at hb'
      subst hb'
      exact .ptr _ _ _ hb
  | slice0 => intro c r; cases r; exact .slice0
  | slice b off len es cap ca pl hb h1 h2 h3 h4 =>
    intro c r
    cases r with
    | slice _ _ _ _ cap' ca' pl' hb' g1 g2 g3 g4 =>
      have := hx b pl hb
      rw [this] at hb'
      simp only [Option.some.injEq] at hb'
      subst hb'
      exact .slice _ _ _ _ _ _ _ hb g1 g2 g3 g4
  | map0 => intro c r; cases r; exact .map0
  | map b pl hb =>
    intro c r
    cases r with
    | map _ pl' hb' =>
      have := hx b pl hb
      rw [this] at hb'
      simp only [Option.some.injEq] at hb'
      subst hb'
      exact .map _ _ hb
  | func fn fs fs' cs cs' h1 h2 _ _ i1 i2 =>
    intro c r
    cases r with
    | func _ _ gs _ ds g1 g2 v1 v2 => exact .func _ _ _ _ _ g1 g2 (fun i hi => i1 i hi (v1 i hi)) (fun i hi => i2 i hi (v2 i hi))
  | agg cs cs' h1 _ h3 i1 =>
    intro c r
    cases r with
    | agg _ ds g1 v1 g3 => exact .agg _ _ g1 (fun i hi => i1 i hi (v1 i hi)) g3
  | tuple vs vs' h1 _ i1 =>
    intro c r
    cases r with
    | tuple _ ds g1 v1 => exact .tuple _ _ g1 (fun i hi => i1 i hi (v1 i hi))
  | iface t v c _ i1 =>
    intro c r
    cases r with
    | iface _ _ d g1 => exact .iface _ _ _ (i1 g1)

/-- Some blocks more are let go at the end; what was there stays, if it is as it was. -/
theorem WR.back {P : Program} {w0 w w' : World} {ι ι' : List Pl} {H T : Heap} (h : WR P w0 ι H w) (hx : Ext ι ι') (h' : WR P w0 ι' (H ++ T) w') : WR P w0 ι H w' := by
  have hin : ∀ (b : Nat) (B : Blk), H[b]? = some B → (H ++ T)[b]? = some B := fun b B hb => by rw [List.getElem?_append_left (List.getElem?_eq_some_iff.1 hb).1]; exact hb
  refine ⟨h.len, h'.below, fun b B pl hb hp => ?_, fun b b' B B' pl pl' hb hb' hp hp' => h'.inj b b' B B' pl pl' (hin _ _ hb) (hin _ _ hb') (hx _ _ hp) (hx _ _ hp')⟩
  have h1 := h.blk b B pl hb hp
  have h2 := h'.blk b B pl (hin _ _ hb) (hx _ _ hp)
  cases B with
  | dead => trivial
  | cells m c =>
    obtain ⟨cc, e, fr, ⟨a1, a2, a3, a4⟩, a5, a6⟩ := h1
    obtain ⟨cc', e', fr', ⟨b1, b2, b3, b4⟩, b5, b6⟩ := h2
    refine ⟨cc', e', fr', ⟨b1, b2, b3, fun i v hv => ?_⟩, b5, b6⟩
    obtain ⟨o, cv, c1, c2⟩ := a4 i v hv
    obtain ⟨_, cv', d1, d2⟩ := b4 i v hv
    exact ⟨o, cv', d1, VR.back hx c2 d2⟩
  | map o es =>
    obtain ⟨ms, clock, a1, a2, a3, a4⟩ := h1
    obtain ⟨ms', clock', b1, b2, b3, b4⟩ := h2
    refine ⟨ms', clock', b1, b2, b3, fun i k v hv => ?_⟩
    obtain ⟨m, c1, c2, c3⟩ := a4 i k v hv
    obtain ⟨m', d1, d2, d3⟩ := b4 i k v hv
    exact ⟨m', d1, VR.back hx c2 d2, VR.back hx c3 d3⟩
  | iter s pos => exact h2

/-- Values that lead nowhere. -/
def plain (v : Value) : Prop := ∀ (ι ι' : List Pl) (c : Value), VR ι v c → VR ι' v c
theorem plain_bool (b : Bool) : plain (.bool b) := fun ι ι' c h => by cases h; exact .bool _
theorem plain_int (k : IntKind) (n : Int) : plain (.int k n) := fun ι ι' c h => by cases h; exact .int _ _
theorem plain_str (s : ByteArray) : plain (.string s) := fun ι ι' c h => by cases h; exact .str _
theorem plain_undef : plain undef := fun ι ι' c h => by
  cases h with
  | tuple _ ds g1 v1 => exact .tuple _ _ g1 (fun i hi => absurd hi (Nat.not_lt_zero _))
theorem plain_tuple {vs : List Value} (h : ∀ v ∈ vs, plain v) : plain (.tuple vs.toArray) := fun ι ι' c r => by
  cases r with
  | tuple _ ds g1 v1 => exact .tuple _ _ g1 (fun i hi => h _ (by simpa using getD_mem hi) _ _ _ (v1 i hi))
theorem plain_agg {vs : List Value} (h : ∀ v ∈ vs, plain v) : plain (.agg vs.toArray) := fun ι ι' c r => by
  cases r with
  | agg _ ds g1 v1 g3 => exact .agg _ _ g1 (fun i hi => h _ (by simpa using getD_mem hi) _ _ _ (v1 i hi)) g3

/-- A call that answers plainly, and only lays new blocks, leaves the heap as it was. -/
theorem AX.forget {P : Program} {f : FuncId} {args : Array Value} {H : Heap} {Q : Value → Prop} (h : AX P f args H fun v H' => plain v ∧ Q v ∧ ∃ T, H' = H ++ T) : AX P f args H fun v H' => Q v ∧ H' = H :=
  ⟨h.able, fun w0 ι w cargs hw ha => (h.out w0 ι w cargs hw ha).mono fun e w' he => by
    cases e with
    | returned cv =>
      obtain ⟨v, H', ι', ⟨hp, q, T, rfl⟩, hx, hw', hv⟩ := he
      exact ⟨v, H, ι, ⟨q, rfl⟩, .refl _, hw.back hx hw', hp _ _ _ hv⟩
    | panicked ch => exact he.elim
    | outgrown => exact he.elim⟩

/-- A call without arguments that lead anywhere is done from the empty heap. -/
theorem AX.alone {P : Program} {f : FuncId} {args : List Value} {H : Heap} {Q : Value → Prop} (hp : ∀ v ∈ args, plain v) (h : AX P f args.toArray [] fun v _ => plain v ∧ Q v) : AX P f args.toArray H fun v H' => Q v ∧ H' = H :=
  ⟨h.able, fun w0 ι w cargs hw ha => (h.out w [] w cargs (.start P w) ⟨ha.1, fun i hi => hp _ (by simpa using getD_mem hi) _ _ _ (ha.2 i hi)⟩).mono fun e w' he => by
    cases e with
    | returned cv =>
      obtain ⟨v, H', ι', ⟨hp, q⟩, hx, hw', hv⟩ := he
      exact ⟨v, H, ι, ⟨q, rfl⟩, .refl _, hw.grow hw'.below, hp _ _ _ hv⟩
    | panicked ch => exact he.elim
    | outgrown => exact he.elim⟩

end Go.Proofs.Ytfobbmllbbckkaa.Ax
/- The abstract machine: a region whose order is open. Each operation's value is told once; each is asked for at every heap at which it may be done. -/
set_option linter.unusedVariables false
set_option linter.unusedSimpArgs false
namespace Go.Proofs.Ytfobbmllbbckkaa.Ax
open Go Go.RowKit

def plainE (e : Edge) : Bool := Region.binds .any e
/-- What must be done ahead of an operation, directly or not: bit by bit. -/
def maskOf (acc : List Nat) : List Edge → Nat
  | [] => 0
  | e :: es => match plainE e with
    | true => Nat.lor (Nat.lor (2 ^ e.on) (acc.getD e.on 0)) (maskOf acc es)
    | false => maskOf acc es
def masksFrom (acc : List Nat) : List Oper → List Nat
  | [] => acc
  | o :: os => masksFrom (acc ++ [maskOf acc o.after.toList]) os
def masks (ops : List Oper) : List Nat := masksFrom [] ops
/-- Is j ahead of i? -/
def ahead (ms : List Nat) (i j : Nat) : Bool := (ms.getD i 0).testBit j

theorem masksFrom_prefix : ∀ (os : List Oper) (acc : List Nat) (i : Nat), i < acc.length → (masksFrom acc os).getD i 0 = acc.getD i 0 := by
  intro os
  induction os with
  | nil => intro acc i h; rfl
  | cons o os ih =>
    intro acc i h
    rw [masksFrom, ih _ i (by simp; omega)]
    simp [List.getD_eq_getElem?_getD, List.getElem?_append_left h]
theorem masksFrom_get : ∀ (os : List Oper) (acc : List Nat) (i : Nat) (o : Oper), os[i]? = some o →
    ∃ acc', acc'.length = acc.length + i ∧ (masksFrom acc os).getD (acc.length + i) 0 = maskOf acc' o.after.toList ∧ ∀ j, j < acc'.length → acc'.getD j 0 = (masksFrom acc os).getD j 0 := by
  intro os
  induction os with
  | nil => intro acc i o h; simp at h
  | cons p os ih =>
    intro acc i o h
    cases i with
    | zero =>
      simp only [List.getElem?_cons_zero, Option.some.injEq] at h
      subst h
      refine ⟨acc, by simp, ?_, fun j hj => ?_⟩
      · rw [Nat.add_zero, masksFrom, masksFrom_prefix _ _ _ (by simp)]
        simp [List.getD_eq_getElem?_getD]
      · rw [masksFrom, masksFrom_prefix _ _ _ (by simp; omega)]
        simp [List.getD_eq_getElem?_getD, List.getElem?_append_left hj]
    | succ i =>
      simp only [List.getElem?_cons_succ] at h
      obtain ⟨acc', h1, h2, h3⟩ := ih (acc ++ [maskOf acc p.after.toList]) i o h
      refine ⟨acc', by rw [h1]; simp; omega, ?_, fun j hj => ?_⟩
      · rw [masksFrom, ← h2]
        congr 1
        simp; omega
      · rw [masksFrom]; exact h3 j hj
theorem maskOf_bit {acc : List Nat} {j : Nat} : ∀ {es : List Edge}, (maskOf acc es).testBit j = true → ∃ e ∈ es, plainE e = true ∧ (e.on = j ∨ (acc.getD e.on 0).testBit j = true) := by
  intro es
  induction es with
  | nil => intro h; simp [maskOf] at h
  | cons e es ih =>
    intro h
    simp only [maskOf] at h
    split at h
    · rename_i hp
      have hh : ((2 ^ e.on ||| acc.getD e.on 0) ||| maskOf acc es).testBit j = true := h
      rw [Nat.testBit_or, Nat.testBit_or, Nat.testBit_two_pow] at hh
      simp only [Bool.or_eq_true, decide_eq_true_eq] at hh
      rcases hh with (h1 | h1) | h1
      · exact ⟨e, List.mem_cons_self .., hp, .inl h1⟩
      · exact ⟨e, List.mem_cons_self .., hp, .inr h1⟩
      · obtain ⟨e', he, h2⟩ := ih h1
        exact ⟨e', List.mem_cons_of_mem _ he, h2⟩
    · obtain ⟨e', he, h2⟩ := ih h
      exact ⟨e', List.mem_cons_of_mem _ he, h2⟩

/-- What is listed has all that is ahead of it. -/
def DownC (ops : List Oper) (L : Nat → Prop) : Prop := ∀ (i : Nat) (o : Oper), ops[i]? = some o → L i → ∀ e ∈ o.after.toList, plainE e = true → L e.on
def backE (ops : List Oper) : Bool := (ops.zipIdx).all fun (o, i) => o.after.toList.all fun e => !plainE e || Nat.blt e.on i
theorem backE_spec {ops : List Oper} (h : backE ops = true) {i : Nat} {o : Oper} (ho : ops[i]? = some o) {e : Edge} (he : e ∈ o.after.toList) (hp : plainE e = true) : e.on < i := by
  unfold backE at h
  rw [List.all_eq_true] at h
  have := h (o, i) (List.mem_zipIdx_iff_getElem?.2 ho)
  rw [List.all_eq_true] at this
  have := this e he
  simpa [hp, Nat.blt_eq] using this
theorem ahead_listed {ops : List Oper} (hb : backE ops = true) {L : Nat → Prop} (hL : DownC ops L) : ∀ (n i j : Nat), i ≤ n → i < ops.length → L i → ahead (masks ops) i j = true → L j := by
  intro n
  induction n with
  | zero =>
    intro i j hi hil hLi h
    obtain rfl : i = 0 := by omega
    obtain ⟨acc', h1, h2, h3⟩ := masksFrom_get ops [] 0 ops[0] (by simp)
    simp only [List.length_nil, Nat.zero_add] at h1 h2
    unfold ahead masks at h
    rw [h2] at h
    obtain ⟨e, he, hp, h4⟩ := maskOf_bit h
    have := backE_spec hb (i := 0) (o := ops[0]) (by simp) he hp
    omega
  | succ n ih =>
    intro i j hi hil hLi h
    obtain ⟨acc', h1, h2, h3⟩ := masksFrom_get ops [] i ops[i] (by simp [hil])
    simp only [List.length_nil, Nat.zero_add] at h1 h2
    unfold ahead masks at h
    rw [h2] at h
    obtain ⟨e, he, hp, h4⟩ := maskOf_bit h
    have hlt := backE_spec hb (i := i) (o := ops[i]) (by simp [hil]) he hp
    have hLe := hL i ops[i] (by simp [hil]) hLi e he hp
    rcases h4 with rfl | h4
    · exact hLe
    · rw [h3 _ (by omega)] at h4
      exact ih e.on j (by omega) (by omega) hLe h4

/-- Which operations change the heap. -/
def isMover (o : Oper) : Bool :=
  match o.op with
  | .move _ | .assign _ | .pick .. | .build .. | .load .. | .nilCheck _ | .binOp .. | .unOp .. | .convert .. | .makeFunc .. | .slice .. | .fieldAddr .. | .field .. | .indexAddr .. | .index .. | .lookup .. | .extract .. => false
  | .call c => match c.callee with | .builtin .len | .builtin .min | .builtin .max | .builtin .unsafeSliceData => false | _ => true
  | _ => true
def movers (ops : List Oper) : List Nat := ((ops.zipIdx).filter fun x => isMover x.1).map (·.2)
def rankOf (ops : List Oper) (i : Nat) : Nat := ((movers ops).filter fun j => Nat.blt j i).length
/-- The first heap, and the last, at which an operation may be done. -/
def loOf (ops : List Oper) (ms : List Nat) (i : Nat) : Nat := ((movers ops).filter fun j => ahead ms i j).length
def hiOf (ops : List Oper) (ms : List Nat) (i : Nat) : Nat := ((movers ops).filter fun j => !(Nat.beq i j || ahead ms j i)).length

def dsts (ops : List Oper) : List (Option Nat) := ops.map (·.dst)
def uniqueD : List (Option Nat) → Bool
  | [] => true
  | none :: r => uniqueD r
  | some d :: r => r.all (fun x => match x with | some d' => !Nat.beq d d' | none => true) && uniqueD r
/-- The movers stand in one order. -/
def chainM (ms : List Nat) : List Nat → Bool
  | [] => true
  | i :: r => r.all (fun j => ahead ms j i) && chainM ms r
def drawOK (n : Nat) (ops : List Oper) : Bool :=
  backE ops && uniqueD (dsts ops) && chainM (masks ops) (movers ops) && ops.all fun o => match o.dst with | some d => Nat.blt d n | none => true

/-- What is known when an operation may be done. -/
def envOf (ops : List Oper) (ms : List Nat) (V : List Value) (fr : Fr) (i : Nat) : Fr :=
  ((ops.zipIdx).filterMap fun y => match y.1.dst with | some d => if ahead ms i y.2 then some (d, V.getD y.2 undef) else none | none => none) ++
  fr.filter fun x => (ops.zipIdx).all fun y => match y.1.dst with | some d => !Nat.beq d x.1 || Nat.beq y.2 i || ahead ms y.2 i | none => true
def endOf (ops : List Oper) (V : List Value) (fr : Fr) : Fr :=
  ((ops.zipIdx).filterMap fun y => match y.1.dst with | some d => some (d, V.getD y.2 undef) | none => none) ++ fr

/-- An operation at a heap. -/
def stepAt (P : Program) (ops : List Oper) (ms : List Nat) (V : List Value) (Hs : List Heap) (fr : Fr) (o : Oper) (i k : Nat) : Prop :=
  wantK ops (envOf ops ms V fr i) o.guard (boper P o (envOf ops ms V fr i) (Hs.getD k []) fun v H' => v = V.getD i undef ∧ H' = Hs.getD (if isMover o then k + 1 else k) []) (V.getD i undef = undef ∧ Hs.getD (if isMover o then k + 1 else k) [] = Hs.getD k [])
def stepsFrom (P : Program) (ops : List Oper) (ms : List Nat) (V : List Value) (Hs : List Heap) (fr : Fr) (o : Oper) (i lo : Nat) : Nat → Prop
  | 0 => stepAt P ops ms V Hs fr o i lo
  | k + 1 => stepAt P ops ms V Hs fr o i (lo + (k + 1)) ∧ stepsFrom P ops ms V Hs fr o i lo k
def allSteps (P : Program) (ops : List Oper) (ms : List Nat) (V : List Value) (Hs : List Heap) (fr : Fr) : List Oper → Nat → Prop
  | [], _ => True
  | o :: os, i => stepsFrom P ops ms V Hs fr o i (loOf ops ms i) (hiOf ops ms i - loOf ops ms i) ∧ allSteps P ops ms V Hs fr os (i + 1)

theorem stepsFrom_get {P : Program} {ops : List Oper} {ms : List Nat} {V : List Value} {Hs : List Heap} {fr : Fr} {o : Oper} {i lo : Nat} : ∀ {m k : Nat}, stepsFrom P ops ms V Hs fr o i lo m → lo ≤ k → k ≤ lo + m → stepAt P ops ms V Hs fr o i k := by
  intro m
  induction m with
  | zero => intro k h h1 h2; have e : k = lo := by omega
            rw [e]; exact h
  | succ m ih =>
    intro k h h1 h2
    by_cases hk : k = lo + (m + 1)
    · subst hk; exact h.1
    · exact ih h.2 h1 (by omega)
theorem allSteps_get {P : Program} {ops : List Oper} {ms : List Nat} {V : List Value} {Hs : List Heap} {fr : Fr} : ∀ {os : List Oper} {b i : Nat} {o : Oper}, allSteps P ops ms V Hs fr os b → os[i]? = some o →
    stepsFrom P ops ms V Hs fr o (b + i) (loOf ops ms (b + i)) (hiOf ops ms (b + i) - loOf ops ms (b + i)) := by
  intro os
  induction os with
  | nil => intro b i o h ho; simp at ho
  | cons p os ih =>
    intro b i o h ho
    cases i with
    | zero => simp only [List.getElem?_cons_zero, Option.some.injEq] at ho; subst ho; exact h.1
    | succ i => simp only [List.getElem?_cons_succ] at ho; have := ih h.2 ho; rwa [show b + 1 + i = b + (i + 1) by omega] at this

theorem getF_mem : ∀ {l : Fr} {t : Nat} {v : Value}, getF l t = some v → (t, v) ∈ l := by
  intro l
  induction l with
  | nil => intro t v h; simp [getF] at h
  | cons p l ih =>
    obtain ⟨i, u⟩ := p
    intro t v h
    simp only [getF] at h
    split at h
    · rename_i e
      have := Nat.eq_of_beq_eq_true e
      subst this
      simp only [Option.some.injEq] at h
      subst h
      exact List.mem_cons_self ..
    · exact List.mem_cons_of_mem _ (ih h)
theorem getF_append {A B : Fr} {t : Nat} {v : Value} (h : getF (A ++ B) t = some v) : (t, v) ∈ A ∨ ((∀ u, (t, u) ∉ A) ∧ getF B t = some v) := by
  induction A with
  | nil => exact .inr ⟨fun u hu => by simp at hu, h⟩
  | cons p A ih =>
    obtain ⟨i, u⟩ := p
    simp only [List.cons_append, getF] at h
    split at h
    · rename_i e
      have := Nat.eq_of_beq_eq_true e
      subst this
      simp only [Option.some.injEq] at h
      subst h
      exact .inl (List.mem_cons_self ..)
    · rename_i e
      have hne := Nat.ne_of_beq_eq_false e
      rcases ih h with h | ⟨h1, h2⟩
      · exact .inl (List.mem_cons_of_mem _ h)
      · refine .inr ⟨fun u' hu' => ?_, h2⟩
        rcases List.mem_cons.1 hu' with hu' | hu'
        · simp only [Prod.mk.injEq] at hu'; exact hne hu'.1.symm
        · exact h1 u' hu'
theorem getF_filter {q : Nat → Bool} : ∀ {l : Fr} {t : Nat} {v : Value}, getF (l.filter fun x => q x.1) t = some v → q t = true ∧ getF l t = some v := by
  intro l
  induction l with
  | nil => intro t v h; simp [getF] at h
  | cons p l ih =>
    obtain ⟨i, u⟩ := p
    intro t v h
    rw [List.filter_cons] at h
    split at h
    · rename_i hq
      simp only [getF] at h ⊢
      split at h
      · rename_i e
        have := Nat.eq_of_beq_eq_true e
        subst this
        exact ⟨hq, h⟩
      · exact ih h
    · rename_i hq
      obtain ⟨h1, h2⟩ := ih h
      refine ⟨h1, ?_⟩
      simp only [getF]
      split
      · rename_i e
        have := Nat.eq_of_beq_eq_true e
        subst this
        exact absurd h1 hq
      · exact h2

theorem uniqueD_spec : ∀ {l : List (Option Nat)}, uniqueD l = true → ∀ {i j d : Nat}, l[i]? = some (some d) → l[j]? = some (some d) → i = j := by
  intro l
  induction l with
  | nil => intro h i j d hi; simp at hi
  | cons x l ih =>
    intro h i j d hi hj
    cases x with
    | none =>
      simp only [uniqueD] at h
      cases i with
      | zero => simp at hi
      | succ i =>
        cases j with
        | zero => simp at hj
        | succ j => have := ih h (i := i) (j := j) (d := d) (by simpa using hi) (by simpa using hj); omega
    | some d0 =>
      simp only [uniqueD, Bool.and_eq_true, List.all_eq_true] at h
      have key : ∀ (k : Nat), l[k]? ≠ some (some d0) := by
        intro k hk
        have := h.1 _ (List.mem_of_getElem? hk)
        simp at this
      cases i with
      | zero =>
        simp only [List.getElem?_cons_zero, Option.some.injEq] at hi
        subst hi
        cases j with
        | zero => rfl
        | succ j => exact absurd (by simpa using hj) (key j)
      | succ i =>
        cases j with
        | zero =>
          simp only [List.getElem?_cons_zero, Option.some.injEq] at hj
          subst hj
          exact absurd (by simpa using hi) (key i)
        | succ j => have := ih h.2 (i := i) (j := j) (d := d) (by simpa using hi) (by simpa using hj); omega

theorem mem_movers {ops : List Oper} {i : Nat} : i ∈ movers ops ↔ ∃ o, ops[i]? = some o ∧ isMover o = true := by
  unfold movers
  simp only [List.mem_map, List.mem_filter, Prod.exists, exists_and_right, exists_eq_right]
  constructor
  · rintro ⟨o, h1, h2⟩; exact ⟨o, List.mem_zipIdx_iff_getElem?.1 h1, h2⟩
  · rintro ⟨o, h1, h2⟩; exact ⟨o, List.mem_zipIdx_iff_getElem?.2 h1, h2⟩
theorem movers_nodup (ops : List Oper) : (movers ops).Nodup := by
  unfold movers
  have h : ((ops.zipIdx).map (·.2)).Nodup := by
    rw [List.zipIdx_map_snd]
    exact List.nodup_range'
  exact List.Sublist.nodup ((List.filter_sublist).map _) h
theorem count_add {l : List Nat} (hn : l.Nodup) {i : Nat} (hi : i ∈ l) (p q : Nat → Bool) (hp : p i = false) (hq : ∀ j, q j = (p j || decide (j = i))) : l.countP q = l.countP p + 1 := by
  induction l with
  | nil => simp at hi
  | cons a l ih =>
    rw [List.nodup_cons] at hn
    rcases List.mem_cons.1 hi with rfl | hi
    · have : l.countP q = l.countP p := by
        apply List.countP_congr
        intro x hx
        have : x ≠ i := fun h => hn.1 (h ▸ hx)
        simp [hq, this]
      rw [List.countP_cons_of_pos (by simp [hq]), List.countP_cons_of_neg (by simp [hp]), this]
    · have := ih hn.2 hi
      have hai : a ≠ i := fun h => hn.1 (h ▸ hi)
      by_cases hpa : p a = true
      · rw [List.countP_cons_of_pos (by simp [hq, hpa]), List.countP_cons_of_pos hpa, this]
      · rw [List.countP_cons_of_neg (by simp [hq, hpa, hai]), List.countP_cons_of_neg hpa, this]

/-- A region whose order is open. -/
theorem SW.draw {P : Program} {n : Nat} {id : Nat} {ops : Array Oper} {Q : BPost} {fr : Fr} {H : Heap} (V : List Value) (Hs : List Heap) (hm : P.follows .mixedOrders = true) (hok : drawOK n ops.toList = true) (h0 : Hs.getD 0 [] = H)
    (steps : allSteps P ops.toList (masks ops.toList) V Hs fr ops.toList 0) (fin : Q .normal (endOf ops.toList V fr) (Hs.getD (movers ops.toList).length [])) : SW P n (.region id ops true) Q fr H := by
  subst h0
  simp only [drawOK, Bool.and_eq_true, List.all_eq_true] at hok
  obtain ⟨⟨⟨hback, huniq⟩, hchain⟩, hdst⟩ := hok
  refine ⟨fun w0 ι a w hw hf hd => wp_region_any hm ?_⟩
  have uniq : ∀ {i j d : Nat} {o o' : Oper}, ops.toList[i]? = some o → ops.toList[j]? = some o' → o.dst = some d → o'.dst = some d → i = j := by
    intro i j d o o' h1 h2 h3 h4
    exact uniqueD_spec huniq (i := i) (j := j) (d := d) (by simp [dsts] at h1 ⊢; exact ⟨o, h1, h3⟩) (by simp [dsts] at h2 ⊢; exact ⟨o', h2, h4⟩)
  have lt_of : ∀ {i : Nat} {o : Oper}, ops.toList[i]? = some o → i < ops.size := fun h => by have := (List.getElem?_eq_some_iff.1 h).1; simpa using this
  -- the state of a region that is under way
  have go : ∀ (fuel : Nat) (listed : Array Bool) (ι1 : List Pl) (a : Act) (w : World), listed.size = ops.size →
      fuel + (List.range ops.size).countP (fun i => listed.getD i false) = ops.size → DownC ops.toList (fun i => listed.getD i false = true) → Ext ι ι1 →
      WR P w0 ι1 (Hs.getD ((movers ops.toList).countP fun i => listed.getD i false) []) w → a.tmps.size = n → a.defers = [] →
      (∀ (j : Nat) (o : Oper) (d : Nat), ops.toList[j]? = some o → o.dst = some d → listed.getD j false = true → VR ι1 (V.getD j undef) (a.tmps.getD d undef)) →
      (∀ (t : Nat) (v : Value), getF fr t = some v → (∀ (j : Nat) (o : Oper), ops.toList[j]? = some o → o.dst = some t → listed.getD j false = false) → t < n ∧ VR ι1 v (a.tmps.getD t undef)) →
      wpAny P .any ops (LB P n w0 ι Q) fuel listed a w := by
    intro fuel
    induction fuel with
    | zero =>
      intro listed ι1 a w hsz hcnt hdown hx hw hn hd hv1 hv2
      have hall : ∀ i, i < ops.size → listed.getD i false = true := by
        rw [Nat.zero_add] at hcnt
        have := List.countP_eq_length (p := fun i => listed.getD i false) (l := List.range ops.size)
        rw [List.length_range] at this
        intro i hi
        exact this.1 hcnt i (List.mem_range.2 hi)
      have hready : Region.ready .any ops listed = [] := by
        rw [List.eq_nil_iff_forall_not_mem]
        intro j hj
        obtain ⟨h1, o, h2, _⟩ := mem_ready.1 hj
        have hlt := (Array.getElem?_eq_some_iff.1 h2).1
        have := hall j hlt
        rw [Array.getD_eq_getD_getElem?, Array.getElem?_eq_getElem (by omega)] at this h1
        simp only [Option.getD_some] at this h1
        rw [h1] at this; simp at this
      refine ⟨hready, (LB.intro (e := .normal) (fr := endOf ops.toList V fr) rfl hw ⟨hn, fun t v ht => ?_⟩ hd ?_).ext hx⟩
      · unfold endOf at ht
        rcases getF_append ht with h | h
        · simp only [List.mem_filterMap, Prod.exists] at h
          obtain ⟨o, j, hj, h⟩ := h
          have ho := List.mem_zipIdx_iff_getElem?.1 hj
          simp only at ho h
          split at h
          · rename_i d hdd
            simp only [Option.some.injEq, Prod.mk.injEq] at h
            obtain ⟨rfl, rfl⟩ := h
            have h3 := hdst o (List.mem_of_getElem? ho)
            rw [hdd] at h3
            exact ⟨by simpa [Nat.blt_eq] using h3, hv1 j o _ ho hdd (hall j (lt_of ho))⟩
          · simp at h
        · by_cases hex : ∃ (j : Nat) (o : Oper), ops.toList[j]? = some o ∧ o.dst = some t
          · -- it has been written: then the first part tells it
            exfalso
            obtain ⟨j, o, ho, hdd⟩ := hex
            refine h.1 (V.getD j undef) ?_
            simp only [List.mem_filterMap, Prod.exists]
            exact ⟨o, j, List.mem_zipIdx_iff_getElem?.2 ho, by simp only [hdd]⟩
          · exact hv2 t v h.2 fun j o ho hdd => absurd ⟨j, o, ho, hdd⟩ hex
      · have : (movers ops.toList).countP (fun i => listed.getD i false) = (movers ops.toList).length := by
          rw [List.countP_eq_length]
          intro i hi
          obtain ⟨o, ho, _⟩ := mem_movers.1 hi
          exact hall i (lt_of ho)
        rw [this]
        exact fin
    | succ fuel ih =>
      intro listed ι1 a w hsz hcnt hdown hx hw hn hd hv1 hv2
      refine ⟨fun hempty => ?_, fun i hi => ?_⟩
      · -- something is ready
        exfalso
        have hne : ∃ i, i < ops.size ∧ listed.getD i false = false := by
          apply Classical.byContradiction
          intro hno
          have : (List.range ops.size).countP (fun i => listed.getD i false) = ops.size := by
            have h1 := (List.countP_eq_length (p := fun i => listed.getD i false) (l := List.range ops.size)).2 (fun i hi => by
              have : ¬ (listed.getD i false = false) := fun h => hno ⟨i, List.mem_range.1 hi, h⟩
              simpa using this)
            rwa [List.length_range] at h1
          omega
        have key : ∀ m, ∀ i, i ≤ m → i < ops.size → listed.getD i false = false → ∃ j, j ∈ Region.ready .any ops listed := by
          intro m
          induction m with
          | zero =>
            intro i hi hlt hl
            refine ⟨i, mem_ready.2 ⟨?_, ops[i], by simp [hlt], fun e he hb => ?_⟩⟩
            · rw [Array.getD_eq_getD_getElem?, Array.getElem?_eq_getElem (by omega)] at hl ⊢; exact hl
            · have := backE_spec hback (i := i) (o := ops[i]) (by simp [hlt]) (by simpa using he) hb
              omega
          | succ m ihm =>
            intro i hi hlt hl
            by_cases hall : ∀ e ∈ ops[i].after, Region.binds .any e = true → listed.getD e.on false = true
            · refine ⟨i, mem_ready.2 ⟨?_, ops[i], by simp [hlt], hall⟩⟩
              rw [Array.getD_eq_getD_getElem?, Array.getElem?_eq_getElem (by omega)] at hl ⊢; exact hl
            · simp only [Classical.not_forall, Bool.not_eq_true] at hall
              obtain ⟨e, he, hb, hle⟩ := hall
              have := backE_spec hback (i := i) (o := ops[i]) (by simp [hlt]) (by simpa using he) hb
              exact ihm e.on (by omega) (by omega) hle
        obtain ⟨i, hlt, hl⟩ := hne
        obtain ⟨j, hj⟩ := key i i (Nat.le_refl _) hlt hl
        rw [hempty] at hj
        simp at hj
      · obtain ⟨hl1, o, ho, hpre⟩ := mem_ready.1 hi
        have hlt : i < ops.size := (Array.getElem?_eq_some_iff.1 ho).1
        have hol : ops.toList[i]? = some o := by rw [Array.getElem?_toList]; exact ho
        have hl : listed.getD i false = false := by
          rw [Array.getD_eq_getD_getElem?, Array.getElem?_eq_getElem (by omega)] at hl1 ⊢; exact hl1
        have hset : ∀ j, (listed.setIfInBounds i true).getD j false = (listed.getD j false || decide (j = i)) := by
          intro j
          rw [Array.getD_eq_getD_getElem?, Array.getD_eq_getD_getElem?, Array.getElem?_setIfInBounds]
          by_cases hji : i = j
          · subst hji; rw [if_pos rfl, if_pos (by omega)]; simp
          · rw [if_neg hji]; simp [show ¬ j = i from fun h => hji h.symm]
        -- what is ahead of it is listed; what it is ahead of is not
        have hah : ∀ j, ahead (masks ops.toList) i j = true → listed.getD j false = true := by
          intro j hj
          obtain ⟨acc', h1, h2, h3⟩ := masksFrom_get ops.toList [] i o hol
          simp only [List.length_nil, Nat.zero_add] at h1 h2
          unfold ahead masks at hj
          rw [h2] at hj
          obtain ⟨e, he, hp, h4⟩ := maskOf_bit hj
          have hlt2 := backE_spec hback hol he hp
          have hle := hpre e (by simpa using he) hp
          rcases h4 with rfl | h4
          · exact hle
          · rw [h3 _ (by omega)] at h4
            exact ahead_listed hback hdown e.on e.on j (Nat.le_refl _) (by simp; omega) hle h4
        have hbh : ∀ j, j < ops.size → ahead (masks ops.toList) j i = true → listed.getD j false = false := by
          intro j hj h
          cases hlj : listed.getD j false with
          | false => rfl
          | true =>
            have := ahead_listed hback hdown j j i (Nat.le_refl _) (by simpa using hj) hlj h
            rw [hl] at this; simp at this
        -- the heap's place
        have hlo : loOf ops.toList (masks ops.toList) i ≤ (movers ops.toList).countP fun i => listed.getD i false := by
          unfold loOf
          rw [← List.countP_eq_length_filter]
          exact List.countP_mono_left fun j _ h => hah j h
        have hhi : ((movers ops.toList).countP fun i => listed.getD i false) ≤ hiOf ops.toList (masks ops.toList) i := by
          unfold hiOf
          rw [← List.countP_eq_length_filter]
          refine List.countP_mono_left fun j hj h => ?_
          obtain ⟨oj, hoj, _⟩ := mem_movers.1 hj
          simp only [Bool.not_eq_true', Bool.or_eq_false_iff]
          refine ⟨?_, ?_⟩
          · cases hb : Nat.beq i j with
            | false => rfl
            | true => have := Nat.eq_of_beq_eq_true hb; subst this; rw [hl] at h; simp at h
          · cases hb : ahead (masks ops.toList) j i with
            | false => rfl
            | true => rw [hbh j (lt_of hoj) hb] at h; simp at h
        have hst := stepsFrom_get (allSteps_get (b := 0) steps hol) (by rw [Nat.zero_add]; exact hlo) (by rw [Nat.zero_add]; omega)
        rw [Nat.zero_add] at hst
        unfold stepAt at hst
        -- what is known
        have henv : FB n ι1 (envOf ops.toList (masks ops.toList) V fr i) a := by
          refine ⟨hn, fun t v ht => ?_⟩
          unfold envOf at ht
          rcases getF_append ht with h | h
          · simp only [List.mem_filterMap, Prod.exists] at h
            obtain ⟨o', j, hj, h⟩ := h
            have ho' := List.mem_zipIdx_iff_getElem?.1 hj
            simp only at ho' h
            split at h
            · rename_i d hdd
              split at h
              · rename_i haj
                simp only [Option.some.injEq, Prod.mk.injEq] at h
                obtain ⟨rfl, rfl⟩ := h
                have h3 := hdst o' (List.mem_of_getElem? ho')
                rw [hdd] at h3
                exact ⟨by simpa [Nat.blt_eq] using h3, hv1 j o' _ ho' hdd (hah j haj)⟩
              · simp at h
            · simp at h
          · obtain ⟨h1, h2⟩ := getF_filter (q := fun t => (ops.toList.zipIdx).all fun y => match y.1.dst with | some d => !Nat.beq d t || Nat.beq y.2 i || ahead (masks ops.toList) y.2 i | none => true) h.2
            refine hv2 t v h2 fun j o' ho' hdd => ?_
            rw [List.all_eq_true] at h1
            have h3 := h1 (o', j) (List.mem_zipIdx_iff_getElem?.2 ho')
            simp only [hdd, Nat.beq_refl, Bool.not_true, Bool.false_or, Bool.or_eq_true] at h3
            rcases h3 with h3 | h3
            · have := Nat.eq_of_beq_eq_true h3; subst this; exact hl
            · exact hbh j (lt_of ho') h3
        -- what comes behind
        have next : ∀ (v cv : Value) (H' : Heap) (ι2 : List Pl) (w' : World), v = V.getD i undef → H' = Hs.getD (if isMover o then ((movers ops.toList).countP fun i => listed.getD i false) + 1 else (movers ops.toList).countP fun i => listed.getD i false) [] →
            Ext ι1 ι2 → WR P w0 ι2 H' w' → VR ι2 v cv → wpAny P .any ops (LB P n w0 ι Q) fuel (listed.setIfInBounds i true) (a.put o.dst cv) w' := by
          intro v cv H' ι2 w' hv hH hx2 hw2 hr
          subst hv hH
          have hcount : (movers ops.toList).countP (fun j => (listed.setIfInBounds i true).getD j false) = if isMover o then ((movers ops.toList).countP fun i => listed.getD i false) + 1 else (movers ops.toList).countP fun i => listed.getD i false := by
            split
            · rename_i hmv
              exact count_add (movers_nodup _) (mem_movers.2 ⟨o, hol, hmv⟩) _ _ hl hset
            · rename_i hmv
              apply List.countP_congr
              intro j hj
              obtain ⟨oj, hoj, hmj⟩ := mem_movers.1 hj
              have : j ≠ i := fun h => by subst h; rw [hol] at hoj; simp only [Option.some.injEq] at hoj; subst hoj; exact hmv hmj
              simp [hset, this]
          refine ih (listed.setIfInBounds i true) ι2 (a.put o.dst cv) w' (by simpa using hsz) ?_ ?_ (hx.trans hx2) (by rw [hcount]; exact hw2) ?_ (by rw [put_defers]; exact hd) ?_ ?_
          · have := count_add (l := List.range ops.size) List.nodup_range (List.mem_range.2 hlt) (fun j => listed.getD j false) (fun j => (listed.setIfInBounds i true).getD j false) hl hset
            omega
          · intro j oj hoj hLj e he hp
            simp only [hset, Bool.or_eq_true, decide_eq_true_eq] at hLj ⊢
            rcases hLj with hLj | rfl
            · exact .inl (hdown j oj hoj hLj e he hp)
            · rw [hol] at hoj; simp only [Option.some.injEq] at hoj; subst hoj
              exact .inl (hpre e (by simpa using he) hp)
          · cases hod : o.dst with
            | none => exact hn
            | some d => simp [Act.put, hn]
          · intro j oj d hoj hdd hLj
            rw [hset] at hLj
            simp only [Bool.or_eq_true, decide_eq_true_eq] at hLj
            by_cases hji : j = i
            · subst hji
              rw [hol] at hoj; simp only [Option.some.injEq] at hoj; subst hoj
              have h3 := hdst o (List.mem_of_getElem? hol)
              rw [hdd] at h3 ⊢
              simp only [Nat.blt_eq] at h3
              simp only [Act.put]
              rw [Array.getD_eq_getD_getElem?, Array.getElem?_setIfInBounds, if_pos rfl, if_pos (by omega)]
              exact hr
            · have hLj' := hLj.resolve_right hji
              have h4 := (hv1 j oj d hoj hdd hLj').ext hx2
              cases hod : o.dst with
              | none => exact h4
              | some d' =>
                have hne : d' ≠ d := fun h => by subst h; exact hji (uniq hoj hol hdd hod)
                simp only [Act.put]
                rw [Array.getD_eq_getD_getElem?, Array.getElem?_setIfInBounds, if_neg hne]
                rwa [Array.getD_eq_getD_getElem?] at h4
          · intro t v ht hno
            obtain ⟨h4, h5⟩ := hv2 t v ht fun j oj hoj hdd => by
              have := hno j oj hoj hdd
              rw [hset] at this
              simp only [Bool.or_eq_false_iff] at this
              exact this.1
            refine ⟨h4, ?_⟩
            have h5 := h5.ext hx2
            cases hod : o.dst with
            | none => exact h5
            | some d' =>
              have hne : d' ≠ t := fun h => by
                subst h
                have := hno i o hol hod
                rw [hset] at this
                simp at this
              simp only [Act.put]
              rw [Array.getD_eq_getD_getElem?, Array.getElem?_setIfInBounds, if_neg hne]
              rwa [Array.getD_eq_getD_getElem?] at h5
        unfold wpOp
        rw [ho]
        simp only
        rcases wantK_sound henv hst with ⟨h1, h⟩ | ⟨h1, h⟩
        · rw [if_pos h1]
          exact .inl (boper_sound hw henv h fun v H' ι' cv w' k h1 h2 h3 => next v cv H' ι' w' k.1 k.2 h1 h2 h3)
        · rw [if_neg (by simp [h1])]
          exact next undef undef _ ι1 w h.1.symm rfl (.refl _) (by rw [h.2]; exact hw) (.undef ι1)
  refine go ops.size _ ι a _ (by simp) ?_ ?_ (.refl _) ?_ hf.size hd ?_ ?_
  · have : (List.range ops.size).countP (fun i => (Array.replicate ops.size false).getD i false) = 0 := by
      rw [List.countP_eq_zero]
      intro i hi
      have := List.mem_range.1 hi
      simp [Array.getD_eq_getD_getElem?, this]
    omega
  · intro i o ho hL
    have := lt_of ho
    simp [Array.getD_eq_getD_getElem?, this] at hL
  · have : (movers ops.toList).countP (fun i => (Array.replicate ops.size false).getD i false) = 0 := by
      rw [List.countP_eq_zero]
      intro i hi
      obtain ⟨o, ho, _⟩ := mem_movers.1 hi
      have := lt_of ho
      simp [Array.getD_eq_getD_getElem?, this]
    rw [this]
    exact hw.drew
  · intro j o d ho hdd hL
    have := lt_of ho
    simp [Array.getD_eq_getD_getElem?, this] at hL
  · intro t v ht _
    exact hf.val t v ht

end Go.Proofs.Ytfobbmllbbckkaa.Ax
/- The abstract machine: small laws that a walk uses: loads, stores, new blocks, indexes. -/
set_option linter.unusedVariables false
set_option linter.unusedSimpArgs false
namespace Go.Proofs.Ytfobbmllbbckkaa.Ax
open Go Go.RowKit

theorem hblk_of {H : Heap} {b : Nat} {m : Mode} {c : List Value} (h : H[b]? = some (.cells m c)) : hblk H b = some c := by simp [hblk, h]
theorem hblk_some {H : Heap} {b : Nat} {c : List Value} (h : hblk H b = some c) : ∃ m, H[b]? = some (.cells m c) := by
  unfold hblk at h
  split at h
  · rename_i m c' he; simp only [Option.some.injEq] at h; subst h; exact ⟨m, he⟩
  · simp at h
theorem ald {P : Program} {t : TypeId} {b off : Nat} {H : Heap} {d : TypeDesc} {c : List Value} {v : Value} (hd : P.underlying t = some d) (ha : isAggD d = false) (hb : hblk H b = some c) (hv : c[off]? = some v) :
    aload P t (.pointer (some ⟨b, off, none⟩)) H = some v := by simp [aload, hb, hd, ha, hv]
theorem ald_agg {P : Program} {t : TypeId} {b off n : Nat} {H : Heap} {d : TypeDesc} {c l : List Value} (hd : P.underlying t = some d) (ha : isAggD d = true) (hn : tsize P t = some n) (hb : hblk H b = some c) (hv : slotsOf c off n = some l) :
    aload P t (.pointer (some ⟨b, off, none⟩)) H = some (.agg l.toArray) := by simp [aload, hb, hd, ha, hn, hv]
theorem slots_of {c : List Value} {off n : Nat} (h : off + n ≤ c.length) : slotsOf c off n = some ((c.drop off).take n) := by simp [slotsOf, h]

/-- A store: what becomes of the heap. -/
theorem ast {P : Program} {t : TypeId} {b off n : Nat} {H : Heap} {m : Mode} {c vs : List Value} {v : Value} (hv : vcells v = some vs) (hn : tsize P t = some n) (hl : vs.length = n) (hb : H[b]? = some (.cells m c)) (hm : m.own = true) (hle : off + vs.length ≤ c.length) :
    astore P t (.pointer (some ⟨b, off, none⟩)) v H = some (H.set b (.cells m (putL c off vs))) := by
  simp [astore, hv, hn, hl, hput, hb, hm]
  omega
/-- What is left of the heap but for one block. -/
def But (p : Nat) (H H' : Heap) : Prop := H.length ≤ H'.length ∧ ∀ b, b < H.length → b ≠ p → H'[b]? = H[b]?
theorem But.refl (p : Nat) (H : Heap) : But p H H := ⟨Nat.le_refl _, fun _ _ _ => rfl⟩
theorem But.trans {p : Nat} {A B C : Heap} (h : But p A B) (k : But p B C) : But p A C := ⟨Nat.le_trans h.1 k.1, fun b hb hne => (k.2 b (Nat.lt_of_lt_of_le hb h.1) hne).trans (h.2 b hb hne)⟩
theorem But.set {p : Nat} (H : Heap) (B : Blk) : But p H (H.set p B) := ⟨by simp, fun b hb hne => by rw [List.getElem?_set_ne (by omega)]⟩
theorem But.push {p : Nat} (H T : Heap) : But p H (H ++ T) := ⟨by simp, fun b hb hne => by rw [List.getElem?_append_left hb]⟩
theorem But.at {p : Nat} {H H' : Heap} (h : But p H H') {b : Nat} {B : Blk} (hb : H[b]? = some B) (hne : b ≠ p) : H'[b]? = some B := (h.2 b (List.getElem?_eq_some_iff.1 hb).1 hne).trans hb
/-- New blocks alone. -/
def Grow (H H' : Heap) : Prop := H.length ≤ H'.length ∧ ∀ b, b < H.length → H'[b]? = H[b]?
theorem Grow.refl (H : Heap) : Grow H H := ⟨Nat.le_refl _, fun _ _ => rfl⟩
theorem Grow.trans {A B C : Heap} (h : Grow A B) (k : Grow B C) : Grow A C := ⟨Nat.le_trans h.1 k.1, fun b hb => (k.2 b (Nat.lt_of_lt_of_le hb h.1)).trans (h.2 b hb)⟩
theorem Grow.push (H T : Heap) : Grow H (H ++ T) := ⟨by simp, fun b hb => by rw [List.getElem?_append_left hb]⟩
theorem Grow.at {H H' : Heap} (h : Grow H H') {b : Nat} {B : Blk} (hb : H[b]? = some B) : H'[b]? = some B := (h.2 b (List.getElem?_eq_some_iff.1 hb).1).trans hb
theorem Grow.but {H H' : Heap} (h : Grow H H') (p : Nat) : But p H H' := ⟨h.1, fun b hb _ => h.2 b hb⟩
theorem Grow.take {H H' : Heap} (h : Grow H H') : ∃ T, H' = H ++ T := by
  refine ⟨H'.drop H.length, ?_⟩
  apply List.ext_getElem?
  intro i
  by_cases hi : i < H.length
  · rw [List.getElem?_append_left hi]; exact h.2 i hi
  · rw [List.getElem?_append_right (by omega), List.getElem?_drop]; congr 1; omega
theorem Grow.set {H H' : Heap} (h : Grow H H') {b : Nat} (hb : H.length ≤ b) (B : Blk) : Grow H (H'.set b B) := ⟨by simp [h.1], fun c hc => by rw [List.getElem?_set_ne (by omega)]; exact h.2 c hc⟩
theorem Grow.kept {H H' : Heap} (h : Grow H H') : RoExt H H' := fun b c hb => h.at hb

theorem at_push (H : Heap) (B : Blk) : (H ++ [B])[H.length]? = some B := by simp
theorem at_set {H : Heap} {b : Nat} {B C : Blk} (h : H[b]? = some B) : (H.set b C)[b]? = some C := List.getElem?_set_self (List.getElem?_eq_some_iff.1 h).1

/-- A call's answer is plain, and it lays new blocks alone: then the heap is as it was. -/
theorem AX.quiet {P : Program} {f : FuncId} {args : Array Value} {H : Heap} {Q : Value → Prop} (h : AX P f args H fun v H' => plain v ∧ Q v ∧ Grow H H') : AX P f args H fun v H' => Q v ∧ H' = H :=
  (h.mono fun v H' ⟨h1, h2, h3⟩ => ⟨h1, h2, h3.take⟩).forget

theorem idx_slice {P : Program} {t e : TypeId} {b off len es k : Nat} {kd : IntKind} {n : Int} (he : sliceElem P t = some e) (hk : tsize P e = some k) (h0 : 0 ≤ n) (h1 : n < (len : Int)) :
    aindexAddr P t (.slice (some ⟨b, off, none⟩) len es) (.int kd n) = some (.pointer (some ⟨b, off + n.toNat * k, none⟩)) := by simp [aindexAddr, he, hk, h0, h1]
theorem idx_array {P : Program} {t e : TypeId} {b off len k : Nat} {kd : IntKind} {n : Int} (he : arrayOf P t = some (len, e)) (hk : tsize P e = some k) (h0 : 0 ≤ n) (h1 : n < (len : Int)) :
    aindexAddr P t (.pointer (some ⟨b, off, none⟩)) (.int kd n) = some (.pointer (some ⟨b, off + n.toNat * k, none⟩)) := by simp [aindexAddr, he, hk, h0, h1]

theorem ex20 (a b : Value) : aextract (.tuple #[a, b]) 0 = some a := rfl
theorem ex21 (a b : Value) : aextract (.tuple #[a, b]) 1 = some b := rfl
theorem ex30 (a b c : Value) : aextract (.tuple #[a, b, c]) 0 = some a := rfl
theorem ex31 (a b c : Value) : aextract (.tuple #[a, b, c]) 1 = some b := rfl
theorem ex32 (a b c : Value) : aextract (.tuple #[a, b, c]) 2 = some c := rfl
end Go.Proofs.Ytfobbmllbbckkaa.Ax
/- The abstract machine: steps of a walk that name the heap they leave; slices of slices. -/
set_option linter.unusedVariables false
set_option linter.unusedSimpArgs false
namespace Go.Proofs.Ytfobbmllbbckkaa.Ax
open Go Go.RowKit

theorem Ob2.allocM {P : Program} {t : TypeId} {H : Heap} {zs : List Value} {K : Value → Heap → Prop} (m : Mode) (hz : tzero P t = some zs) (hm : modeOf P t zs.length = m)
    (k : ∀ q H', q = H.length → H'[q]? = some (.cells m zs) → Grow H H' → K (.pointer (some ⟨q, 0, none⟩)) H') : Ob2 (aalloc P t H) K :=
  .of (a := .pointer (some ⟨H.length, 0, none⟩)) (b := H ++ [.cells m zs]) (by simp [aalloc, hz, hm]) (k _ _ rfl (at_push _ _) (.push _ _))
theorem Ob2.boxM {P : Program} {t : TypeId} {v : Value} {H : Heap} {zs : List Value} {K : Value → Heap → Prop} (m : Mode) (hz : vcells v = some zs) (hm : modeOf P t zs.length = m)
    (k : ∀ q H', q = H.length → H'[q]? = some (.cells m zs) → Grow H H' → K (.pointer (some ⟨q, 0, none⟩)) H') : Ob2 (abox P t v H) K :=
  .of (a := .pointer (some ⟨H.length, 0, none⟩)) (b := H ++ [.cells m zs]) (by simp [abox, hz, hm]) (k _ _ rfl (at_push _ _) (.push _ _))
theorem modeOf_var {P : Program} {t : TypeId} (h : typed P t = false) (n : Nat) : modeOf P t n = .var := by simp [modeOf, h]
theorem Ob2.alloc {P : Program} {t : TypeId} {H : Heap} {zs : List Value} {K : Value → Heap → Prop} (hz : tzero P t = some zs)
    (k : ∀ q H', q = H.length → H'[q]? = some (.cells .var zs) → Grow H H' → K (.pointer (some ⟨q, 0, none⟩)) H') (hm : typed P t = false := by rfl) : Ob2 (aalloc P t H) K := .allocM .var hz (modeOf_var hm _) k
theorem Ob2.box {P : Program} {t : TypeId} {v : Value} {H : Heap} {zs : List Value} {K : Value → Heap → Prop} (hz : vcells v = some zs)
    (k : ∀ q H', q = H.length → H'[q]? = some (.cells .var zs) → Grow H H' → K (.pointer (some ⟨q, 0, none⟩)) H') (hm : typed P t = false := by rfl) : Ob2 (abox P t v H) K := .boxM .var hz (modeOf_var hm _) k
theorem Ob.store {P : Program} {t : TypeId} {b off n : Nat} {H : Heap} {m : Mode} {c vs : List Value} {v : Value} {K : Heap → Prop} (hv : vcells v = some vs) (hn : tsize P t = some n) (hl : vs.length = n) (hb : H[b]? = some (.cells m c)) (hm : m.own = true) (hle : off + vs.length ≤ c.length)
    (k : ∀ H', H'[b]? = some (.cells m (putL c off vs)) → But b H H' → H'.length = H.length → K H') : Ob (astore P t (.pointer (some ⟨b, off, none⟩)) v H) K :=
  .of (ast hv hn hl hb hm hle) (k _ (at_set hb) (.set _ _) (by simp))
theorem store_ex {P : Program} {t : TypeId} {b off n : Nat} {H : Heap} {m : Mode} {c vs : List Value} {v : Value} (hv : vcells v = some vs) (hn : tsize P t = some n) (hl : vs.length = n) (hb : H[b]? = some (.cells m c)) (hm : m.own = true) (hle : off + vs.length ≤ c.length) :
    ∃ H', astore P t (.pointer (some ⟨b, off, none⟩)) v H = some H' ∧ H'[b]? = some (.cells m (putL c off vs)) ∧ But b H H' ∧ H'.length = H.length := ⟨_, ast hv hn hl hb hm hle, at_set hb, .set _ _, by simp⟩
theorem alloc_ex {P : Program} {t : TypeId} (H : Heap) {zs : List Value} (hz : tzero P t = some zs) : ∃ q H', aalloc P t H = some (.pointer (some ⟨q, 0, none⟩), H') ∧ q = H.length ∧ H'[q]? = some (.cells (modeOf P t zs.length) zs) ∧ Grow H H' :=
  ⟨H.length, H ++ [.cells (modeOf P t zs.length) zs], by simp [aalloc, hz], rfl, at_push _ _, .push _ _⟩
theorem rem_ok {P : Program} {t : TypeId} {k : IntKind} {a b : Int} (h : b ≠ 0) : abin P .rem t (.int k a) (.int k b) = some (.int k (a.tmod b)) := by simp [abin, aint, h]
theorem slice_lo {P : Program} {t e : TypeId} {b off len k : Nat} {kd : IntKind} {n : Int} (he : sliceElem P t = some e) (hk : tsize P e = some k) (h0 : 0 ≤ n) (h1 : n ≤ (len : Int)) :
    aslice P t (.slice (some ⟨b, off, none⟩) len k) (some (.int kd n)) none none = some (.slice (some ⟨b, off + n.toNat * k, none⟩) (len - n.toNat) k) := by
  simp [aslice, he, hk, natIn, h0, h1]
theorem slice_hi {P : Program} {t e : TypeId} {b off len k : Nat} {kd : IntKind} {n : Int} (he : sliceElem P t = some e) (hk : tsize P e = some k) (h0 : 0 ≤ n) (h1 : n ≤ (len : Int)) :
    aslice P t (.slice (some ⟨b, off, none⟩) len k) none (some (.int kd n)) none = some (.slice (some ⟨b, off, none⟩) n.toNat k) := by
  simp [aslice, he, hk, natIn, h0, h1]
theorem lt_at {H : Heap} {b : Nat} {B : Blk} (h : H[b]? = some B) : b < H.length := (List.getElem?_eq_some_iff.1 h).1
theorem lt_hblk {H : Heap} {b : Nat} {c : List Value} (h : hblk H b = some c) : b < H.length := by obtain ⟨m, hm⟩ := hblk_some h; exact lt_at hm
theorem Grow.hblk {H H' : Heap} (h : Grow H H') {b : Nat} {c : List Value} (hb : Ax.hblk H b = some c) : Ax.hblk H' b = some c := by obtain ⟨m, hm⟩ := hblk_some hb; exact hblk_of (h.at hm)
theorem But.hblk {p : Nat} {H H' : Heap} (h : But p H H') {b : Nat} {c : List Value} (hb : Ax.hblk H b = some c) (hne : b ≠ p) : Ax.hblk H' b = some c := by obtain ⟨m, hm⟩ := hblk_some hb; exact hblk_of (h.at hm hne)
/-- A store into a new block leaves the old ones. -/
theorem Grow.but_new {A H H' : Heap} {q : Nat} (h : Grow A H) (k : But q H H') (hq : A.length ≤ q) : Grow A H' :=
  ⟨Nat.le_trans h.1 k.1, fun b hb => (k.2 b (Nat.lt_of_lt_of_le hb h.1) (by omega)).trans (h.2 b hb)⟩
theorem But.but_new {A H H' : Heap} {p q : Nat} (h : But p A H) (k : But q H H') (hq : A.length ≤ q) : But p A H' :=
  ⟨Nat.le_trans h.1 k.1, fun b hb hne => (k.2 b (Nat.lt_of_lt_of_le hb h.1) (by omega)).trans (h.2 b hb hne)⟩
theorem But.grow {A H H' : Heap} {p : Nat} (h : But p A H) (k : Grow H H') : But p A H' := h.trans (k.but p)
theorem slots_two {c : List Value} {o : Nat} {a b : Value} (ha : c[o]? = some a) (hb : c[o + 1]? = some b) : slotsOf c o 2 = some [a, b] := by
  have h1 := (List.getElem?_eq_some_iff.1 hb).1
  rw [slots_of (by omega)]
  congr 1
  apply List.ext_getElem?
  intro i
  rw [List.getElem?_take]
  match i with
  | 0 => simpa using ha
  | 1 => simpa using hb
  | i + 2 => simp; omega
theorem append_row {P : Program} {t tx e : TypeId} {i : TypeInfo} {d : TypeDesc} {zs c old l : List Value} {x : Value} {H : Heap} {b off m n k : Nat} (he : sliceElem P t = some e) (hi : P.info? e = some i) (hk : i.size = k) (hd : P.underlying tx = some d) (hn : noInt d = true) (h0 : k ≠ 0)
    (hsrc : srcOk x k = true) (hz : tzero P e = some zs) (hzl : zs.length = k) (ha : asrc k x H = some (n, l)) (hn0 : n ≠ 0) (hb : H[b]? = some (.cells (.row e) c)) (ho : slotsOf c off (m * k) = some old) (h1 : (m + n) * i.bytes ≤ 140737488355328) (h2 : m + n ≤ maxLen) :
    aappend P t tx (.slice (some ⟨b, off, none⟩) m k) x H = some (.slice (some ⟨H.length, 0, none⟩) (m + n) k, H.set b .dead ++ [.cells (.row e) (old ++ l)]) := by
  subst hk
  simp [aappend, he, hi, hd, hn, h0, hsrc, hz, hzl, ha, hn0, hb, ho, h1, h2]
theorem append_nil {P : Program} {t tx e : TypeId} {i : TypeInfo} {d : TypeDesc} {zs l : List Value} {x : Value} {H : Heap} {n k : Nat} (he : sliceElem P t = some e) (hi : P.info? e = some i) (hk : i.size = k) (hd : P.underlying tx = some d) (hn : noInt d = true) (h0 : k ≠ 0)
    (hsrc : srcOk x k = true) (hz : tzero P e = some zs) (hzl : zs.length = k) (ha : asrc k x H = some (n, l)) (hn0 : n ≠ 0) (h1 : n * i.bytes ≤ 140737488355328) (h2 : n ≤ maxLen) :
    aappend P t tx (.slice none 0 0) x H = some (.slice (some ⟨H.length, 0, none⟩) n k, H ++ [.cells (.row e) l]) := by
  subst hk
  simp [aappend, he, hi, hd, hn, h0, hsrc, hz, hzl, ha, hn0, h1, h2]
theorem append_zero {P : Program} {t tx e : TypeId} {i : TypeInfo} {d : TypeDesc} {zs l : List Value} {x : Value} {H : Heap} {a : Option Addr} {m k es : Nat} (he : sliceElem P t = some e) (hi : P.info? e = some i) (hk : i.size = k) (hd : P.underlying tx = some d) (hn : noInt d = true) (h0 : k ≠ 0)
    (hsrc : srcOk x k = true) (hz : tzero P e = some zs) (hzl : zs.length = k) (ha : asrc k x H = some (0, l)) (hs : a = none ∧ m = 0 ∧ es = 0 ∨ ∃ b off, a = some ⟨b, off, none⟩) :
    aappend P t tx (.slice a m es) x H = some (.slice a m es, H) := by
  subst hk
  rcases hs with ⟨rfl, rfl, rfl⟩ | ⟨b, off, rfl⟩
  · simp [aappend, he, hi, hd, hn, h0, hsrc, hz, hzl, ha]
  · simp [aappend, he, hi, hd, hn, h0, hsrc, hz, hzl, ha]
theorem make_slice {P : Program} {t e : TypeId} {i : TypeInfo} {zs : List Value} {H : Heap} {n : Int} {k : Nat} {kd kd' : IntKind} (he : sliceElem P t = some e) (hi : P.info? e = some i) (hk : i.size = k) (hz : tzero P e = some zs) (h0 : k ≠ 0) (hzl : zs.length = k) (hn : 0 ≤ n) (h1 : n ≤ 9223372036854775807) (h2 : i.bytes * n ≤ 140737488355328) :
    amakeSlice P t (.int kd n) (.int kd' n) H = some (.slice (some ⟨H.length, 0, none⟩) n.toNat k, H ++ [.cells (.row e) (zerosL zs n.toNat)]) := by
  subst hk
  simp [amakeSlice, he, hi, hz, h0, hzl, hn, h1, h2]
theorem zeros_one (z : Value) (n : Nat) : zerosL [z] n = List.replicate n z := by
  induction n with
  | zero => rfl
  | succ n ih => simp [zerosL, ih, List.replicate_succ]
theorem src_some {k b off n : Nat} {H : Heap} {c l : List Value} (hn : n ≠ 0) (hb : hblk H b = some c) (hs : slotsOf c off (n * k) = some l) : asrc k (.slice (some ⟨b, off, none⟩) n k) H = some (n, l) := by simp [asrc, hn, hb, hs]
theorem src_zero {k es : Nat} {a : Addr} {H : Heap} (ha : a.spot = none) : asrc k (.slice (some a) 0 es) H = some (0, []) := by
  obtain ⟨b, o, s⟩ := a
  simp only at ha
  subst ha
  simp [asrc]
/-- One piece of code behind another, with what is known between them. -/
theorem SW.seq {P : Program} {n : Nat} {x y : Code} {Q : BPost} {fr : Fr} {H : Heap} (M : Fr → Heap → Prop) (hx : SW P n x (thenB M Q) fr H) (hy : ∀ fr H, M fr H → SW P n y Q fr H) : SW P n (.seq x y) Q fr H := by
  refine ⟨fun w0 ι a w hw hf hd => wp_seq (wp_mono (hx.out w0 ι a w hw hf hd) fun e a' w' hq => ?_)⟩
  obtain ⟨ae, he, fr', H', ι', hxt, hw', hf', hd', q⟩ := hq
  cases e with
  | normal =>
    simp only [toA, Option.some.injEq] at he; subst he
    exact wp_mono ((hy fr' H' q).out w0 ι' a' w' hw' hf' hd') fun e a w hq => hq.ext hxt
  | exit id => simp only [toA, Option.some.injEq] at he; subst he; exact ⟨_, rfl, fr', H', ι', hxt, hw', hf', hd', q⟩
  | goto l => simp only [toA, Option.some.injEq] at he; subst he; exact ⟨_, rfl, fr', H', ι', hxt, hw', hf', hd', q⟩
  | ret => simp only [toA, Option.some.injEq] at he; subst he; exact ⟨_, rfl, fr', H', ι', hxt, hw', hf', hd', q⟩
  | panic ch => simp [toA] at he
  | outgrown => simp [toA] at he
/-- A block that is no row. -/
def aVar : Mode → Bool
  | .var => true
  | .one _ => true
  | _ => false
def NV (H : Heap) (q : Nat) : Prop := ∀ m c, H[q]? = some (.cells m c) → aVar m = true
theorem NV.of {H : Heap} {q : Nat} {c : List Value} (h : H[q]? = some (.cells .var c)) : NV H q := by
  intro m c' h'
  rw [h] at h'
  simp only [Option.some.injEq, Blk.cells.injEq] at h'
  obtain ⟨rfl, _⟩ := h'
  rfl
theorem NV.new {H : Heap} {q : Nat} (h : H.length ≤ q) : NV H q := by
  intro m c h'
  rw [List.getElem?_eq_none h] at h'
  simp at h'
theorem NV.ne {H : Heap} {q b : Nat} {m : Mode} {c : List Value} (h : NV H q) (hb : H[b]? = some (.cells m c)) (hm : aVar m = false) : b ≠ q := by
  rintro rfl
  have := h _ _ hb
  simp [hm] at this
end Go.Proofs.Ytfobbmllbbckkaa.Ax
/- The abstract machine: a region whose order is open, with what depends on the order worked out ahead. -/
set_option linter.unusedVariables false
set_option linter.unusedSimpArgs false
namespace Go.Proofs.Ytfobbmllbbckkaa.Ax
open Go Go.RowKit

/-- Of an operation: what is ahead of it (slot, operation), which slots are not settled, the first heap, how many more, does it change the heap. -/
abbrev Dat := List (Nat × Nat) × List Nat × Nat × Nat × Bool
def pairsOf (ops : List Oper) (ms : List Nat) (i : Nat) : List (Nat × Nat) := (ops.zipIdx).filterMap fun y => match y.1.dst with | some d => if ahead ms i y.2 then some (d, y.2) else none | none => none
def exOf (ops : List Oper) (ms : List Nat) (i : Nat) : List Nat := (ops.zipIdx).filterMap fun y => match y.1.dst with | some d => if Nat.beq y.2 i || ahead ms y.2 i then none else some d | none => none
def endsOf (ops : List Oper) : List (Nat × Nat) := (ops.zipIdx).filterMap fun y => match y.1.dst with | some d => some (d, y.2) | none => none
def datFrom (ops : List Oper) (ms : List Nat) : List Oper → Nat → List Dat
  | [], _ => []
  | o :: os, i => (pairsOf ops ms i, exOf ops ms i, loOf ops ms i, hiOf ops ms i - loOf ops ms i, isMover o) :: datFrom ops ms os (i + 1)
def drawIs (n : Nat) (ops : List Oper) (D : List Dat) (E : List (Nat × Nat)) (nm : Nat) : Bool :=
  drawOK n ops && decide (datFrom ops (masks ops) ops 0 = D) && decide (endsOf ops = E) && Nat.beq (movers ops).length nm

def valsOf (V : List Value) : List (Nat × Nat) → Fr → Fr
  | [], fr => fr
  | (d, j) :: l, fr => (d, V.getD j undef) :: valsOf V l fr
/-- The values that are asked for, one by one. -/
def bring (V : List Value) : List (Nat × Nat) → Fr → (Fr → Prop) → Prop
  | [], fr, K => K fr
  | (d, j) :: l, fr, K => Ob V[j]? fun v => bring V l fr fun fr' => K ((d, v) :: fr')
theorem bring_to {V : List Value} : ∀ {l : List (Nat × Nat)} {fr : Fr} {K : Fr → Prop}, bring V l fr K → K (valsOf V l fr) := by
  intro l
  induction l with
  | nil => intro fr K h; exact h
  | cons p l ih =>
    obtain ⟨d, j⟩ := p
    intro fr K h
    obtain ⟨v, hv, h⟩ := h.out
    have := ih h
    simpa [valsOf, List.getD_eq_getElem?_getD, hv] using this
def outOf (ex : List Nat) (i : Nat) : Bool := ex.any fun d => Nat.beq d i
def cutF (ex : List Nat) : Fr → Fr
  | [] => []
  | (i, v) :: r => match outOf ex i with | true => cutF ex r | false => (i, v) :: cutF ex r
structure Leaf (v u : Value) (H K : Heap) : Prop where
  val : v = u
  heap : H = K
theorem Leaf.iff {v u : Value} {H K : Heap} : Leaf v u H K ↔ v = u ∧ H = K := ⟨fun h => ⟨h.1, h.2⟩, fun h => ⟨h.1, h.2⟩⟩
def heapAt (Hs : List Heap) (k : Nat) : Bool → Heap
  | true => Hs.getD (k + 1) []
  | false => Hs.getD k []
def stepAt2 (P : Program) (ops : List Oper) (V : List Value) (Hs : List Heap) (av : List (Nat × Nat)) (fr : Fr) (mv : Bool) (o : Oper) (i k : Nat) : Prop :=
  Ob Hs[k]? fun H => bring V av fr fun env => wantK ops env o.guard (boper P o env H fun v H' => Leaf v (V.getD i undef) H' (heapAt Hs k mv)) (Leaf (V.getD i undef) undef (heapAt Hs k mv) H)
def stepsFrom2 (P : Program) (ops : List Oper) (V : List Value) (Hs : List Heap) (av : List (Nat × Nat)) (fr : Fr) (mv : Bool) (o : Oper) (i lo : Nat) : Nat → Prop
  | 0 => stepAt2 P ops V Hs av fr mv o i lo
  | k + 1 => stepsFrom2 P ops V Hs av fr mv o i lo k ∧ stepAt2 P ops V Hs av fr mv o i (lo + (k + 1))
def steps2 (P : Program) (ops : List Oper) (V : List Value) (Hs : List Heap) (fr : Fr) : List Oper → List Dat → Nat → Prop
  | [], _, _ => True
  | o :: os, (av, ex, lo, m, mv) :: ds, i => stepsFrom2 P ops V Hs av (cutF ex fr) mv o i lo m ∧ steps2 P ops V Hs fr os ds (i + 1)
  | _ :: _, [], _ => False

theorem valsOf_eq (V : List Value) (l : List (Nat × Nat)) (fr : Fr) : valsOf V l fr = (l.map fun p => (p.1, V.getD p.2 undef)) ++ fr := by
  induction l with
  | nil => rfl
  | cons p l ih => obtain ⟨d, j⟩ := p; simp [valsOf, ih]
theorem cutF_eq (ex : List Nat) (fr : Fr) : cutF ex fr = fr.filter fun x => !outOf ex x.1 := by
  induction fr with
  | nil => rfl
  | cons p l ih =>
    obtain ⟨i, v⟩ := p
    simp only [cutF, List.filter_cons]
    split
    · rename_i h; simp [h, ih]
    · rename_i h; simp [h, ih]
theorem envOf_eq (ops : List Oper) (ms : List Nat) (V : List Value) (fr : Fr) (i : Nat) : envOf ops ms V fr i = valsOf V (pairsOf ops ms i) (cutF (exOf ops ms i) fr) := by
  rw [valsOf_eq, cutF_eq]
  unfold envOf pairsOf
  rw [List.map_filterMap]
  congr 1
  · congr 1
    funext y
    cases h : y.1.dst with
    | none => rfl
    | some d => by_cases hc : ahead ms i y.2 = true <;> simp [hc]
  apply List.filter_congr
  intro x _
  rw [Bool.eq_iff_iff]
  simp only [List.all_eq_true, Bool.not_eq_true', outOf, Bool.eq_false_iff, ne_eq, List.any_eq_true, exOf, List.mem_filterMap, not_exists, not_and]
  constructor
  · rintro h d ⟨y, hy, hd⟩ hb
    have := h y hy
    cases hdst : y.1.dst with
    | none => simp [hdst] at hd
    | some d' =>
      simp only [hdst] at hd this
      split at hd
      · simp at hd
      · rename_i hc
        simp only [Option.some.injEq] at hd
        subst hd
        simp only [Bool.or_eq_true, not_or] at hc
        simp_all
  · intro h y hy
    cases hdst : y.1.dst with
    | none => rfl
    | some d =>
      by_cases hc : (Nat.beq y.2 i || ahead ms y.2 i) = true
      · simp [Bool.or_assoc, hc]
      · have := h d ⟨y, hy, by simp [hdst, hc]⟩
        simp [this]
theorem endOf_eq (ops : List Oper) (V : List Value) (fr : Fr) : endOf ops V fr = valsOf V (endsOf ops) fr := by
  rw [valsOf_eq]
  unfold endOf endsOf
  rw [List.map_filterMap]
  congr 1
  congr 1
  funext y
  cases h : y.1.dst with
  | none => rfl
  | some d => rfl
theorem heapAt_eq (Hs : List Heap) (k : Nat) (mv : Bool) : heapAt Hs k mv = Hs.getD (if mv then k + 1 else k) [] := by cases mv <;> rfl

theorem stepAt2_to {P : Program} {ops : List Oper} {ms : List Nat} {V : List Value} {Hs : List Heap} {fr : Fr} {o : Oper} {i k : Nat} (h : stepAt2 P ops V Hs (pairsOf ops ms i) (cutF (exOf ops ms i) fr) (isMover o) o i k) : stepAt P ops ms V Hs fr o i k := by
  obtain ⟨H, hH, h⟩ := h.out
  have h := bring_to h
  rw [← envOf_eq] at h
  have e : Hs.getD k [] = H := by rw [List.getD_eq_getElem?_getD, hH]; rfl
  unfold stepAt
  rw [e]
  simpa only [heapAt_eq, Leaf.iff] using h
theorem stepsFrom2_to {P : Program} {ops : List Oper} {ms : List Nat} {V : List Value} {Hs : List Heap} {fr : Fr} {o : Oper} {i lo : Nat} : ∀ {m : Nat}, stepsFrom2 P ops V Hs (pairsOf ops ms i) (cutF (exOf ops ms i) fr) (isMover o) o i lo m → stepsFrom P ops ms V Hs fr o i lo m := by
  intro m
  induction m with
  | zero => intro h; exact stepAt2_to h
  | succ m ih => intro h; exact ⟨stepAt2_to h.2, ih h.1⟩
theorem steps2_to {P : Program} {ops : List Oper} {ms : List Nat} {V : List Value} {Hs : List Heap} {fr : Fr} : ∀ {os : List Oper} {i : Nat}, steps2 P ops V Hs fr os (datFrom ops ms os i) i → allSteps P ops ms V Hs fr os i := by
  intro os
  induction os with
  | nil => intro i _; trivial
  | cons o os ih =>
    intro i h
    simp only [datFrom, steps2] at h
    exact ⟨stepsFrom2_to h.1, ih h.2⟩

/-- A region whose order is open; F is what of the slots is asked for. -/
theorem SW.draw2 {P : Program} {n : Nat} {id : Nat} {ops : Array Oper} {Q : BPost} {fr : Fr} {H : Heap} (D : List Dat) (E : List (Nat × Nat)) (nm : Nat) (F : Fr) (V : List Value) (Hs : List Heap) (hm : P.follows .mixedOrders = true)
    (hok : drawIs n ops.toList D E nm = true) (hF : Has fr F) (h0 : Hs.getD 0 [] = H) (steps : steps2 P ops.toList V Hs F ops.toList D 0) (fin : Ob Hs[nm]? fun H' => bring V E F fun fr' => Q .normal fr' H') : SW P n (.region id ops true) Q fr H := by
  simp only [drawIs, Bool.and_eq_true, decide_eq_true_eq] at hok
  obtain ⟨⟨⟨h1, rfl⟩, rfl⟩, h4⟩ := hok
  have h4' := Nat.eq_of_beq_eq_true h4
  subst h4'
  refine SW.sub (SW.draw V Hs hm h1 h0 (steps2_to steps) ?_) (Sub.of hF)
  rw [endOf_eq]
  obtain ⟨H', hH, fin⟩ := fin.out
  have e : Hs.getD (movers ops.toList).length [] = H' := by rw [List.getD_eq_getElem?_getD, hH]; rfl
  rw [e]
  exact bring_to fin
end Go.Proofs.Ytfobbmllbbckkaa.Ax
/- The abstract machine: a region whose order is open, where calls answer some heap of a kind. -/
set_option linter.unusedVariables false
set_option linter.unusedSimpArgs false
namespace Go.Proofs.Ytfobbmllbbckkaa.Ax
open Go Go.RowKit
/-- An operation at a heap of which a kind is known. -/
def stepAtR (P : Program) (ops : List Oper) (ms : List Nat) (V : List Value) (R : Nat → Heap → Prop) (fr : Fr) (o : Oper) (i k : Nat) : Prop :=
  ∀ H, R k H → wantK ops (envOf ops ms V fr i) o.guard (boper P o (envOf ops ms V fr i) H fun v H' => v = V.getD i undef ∧ (if isMover o = true then R (k + 1) H' else H' = H)) (V.getD i undef = undef ∧ (isMover o = true → R (k + 1) H))
def stepsFromR (P : Program) (ops : List Oper) (ms : List Nat) (V : List Value) (R : Nat → Heap → Prop) (fr : Fr) (o : Oper) (i lo : Nat) : Nat → Prop
  | 0 => stepAtR P ops ms V R fr o i lo
  | k + 1 => stepAtR P ops ms V R fr o i (lo + (k + 1)) ∧ stepsFromR P ops ms V R fr o i lo k
def allStepsR (P : Program) (ops : List Oper) (ms : List Nat) (V : List Value) (R : Nat → Heap → Prop) (fr : Fr) : List Oper → Nat → Prop
  | [], _ => True
  | o :: os, i => stepsFromR P ops ms V R fr o i (loOf ops ms i) (hiOf ops ms i - loOf ops ms i) ∧ allStepsR P ops ms V R fr os (i + 1)
theorem stepsFromR_get {P : Program} {ops : List Oper} {ms : List Nat} {V : List Value} {R : Nat → Heap → Prop} {fr : Fr} {o : Oper} {i lo : Nat} : ∀ {m k : Nat}, stepsFromR P ops ms V R fr o i lo m → lo ≤ k → k ≤ lo + m → stepAtR P ops ms V R fr o i k := by
  intro m
  induction m with
  | zero => intro k h h1 h2; have e : k = lo := by omega
            rw [e]; exact h
  | succ m ih =>
    intro k h h1 h2
    by_cases hk : k = lo + (m + 1)
    · subst hk; exact h.1
    · exact ih h.2 h1 (by omega)
theorem allStepsR_get {P : Program} {ops : List Oper} {ms : List Nat} {V : List Value} {R : Nat → Heap → Prop} {fr : Fr} : ∀ {os : List Oper} {b i : Nat} {o : Oper}, allStepsR P ops ms V R fr os b → os[i]? = some o →
    stepsFromR P ops ms V R fr o (b + i) (loOf ops ms (b + i)) (hiOf ops ms (b + i) - loOf ops ms (b + i)) := by
  intro os
  induction os with
  | nil => intro b i o h ho; simp at ho
  | cons p os ih =>
    intro b i o h ho
    cases i with
    | zero => simp only [List.getElem?_cons_zero, Option.some.injEq] at ho; subst ho; exact h.1
    | succ i => simp only [List.getElem?_cons_succ] at ho; have := ih h.2 ho; rwa [show b + 1 + i = b + (i + 1) by omega] at this
theorem SW.drawR {P : Program} {n : Nat} {id : Nat} {ops : Array Oper} {Q : BPost} {fr : Fr} {H : Heap} (V : List Value) (R : Nat → Heap → Prop) (hm : P.follows .mixedOrders = true) (hok : drawOK n ops.toList = true) (h0 : R 0 H)
    (steps : allStepsR P ops.toList (masks ops.toList) V R fr ops.toList 0) (fin : ∀ H', R (movers ops.toList).length H' → Q .normal (endOf ops.toList V fr) H') : SW P n (.region id ops true) Q fr H := by
  simp only [drawOK, Bool.and_eq_true, List.all_eq_true] at hok
  obtain ⟨⟨⟨hback, huniq⟩, hchain⟩, hdst⟩ := hok
  refine ⟨fun w0 ι a w hw hf hd => wp_region_any hm ?_⟩
  have uniq : ∀ {i j d : Nat} {o o' : Oper}, ops.toList[i]? = some o → ops.toList[j]? = some o' → o.dst = some d → o'.dst = some d → i = j := by
    intro i j d o o' h1 h2 h3 h4
    exact uniqueD_spec huniq (i := i) (j := j) (d := d) (by simp [dsts] at h1 ⊢; exact ⟨o, h1, h3⟩) (by simp [dsts] at h2 ⊢; exact ⟨o', h2, h4⟩)
  have lt_of : ∀ {i : Nat} {o : Oper}, ops.toList[i]? = some o → i < ops.size := fun h => by have := (List.getElem?_eq_some_iff.1 h).1; simpa using this
  -- the state of a region that is under way
  have go : ∀ (fuel : Nat) (listed : Array Bool) (ι1 : List Pl) (a : Act) (w : World), listed.size = ops.size →
      fuel + (List.range ops.size).countP (fun i => listed.getD i false) = ops.size → DownC ops.toList (fun i => listed.getD i false = true) → Ext ι ι1 →
      (∃ K, R ((movers ops.toList).countP fun i => listed.getD i false) K ∧ WR P w0 ι1 K w) → a.tmps.size = n → a.defers = [] →
      (∀ (j : Nat) (o : Oper) (d : Nat), ops.toList[j]? = some o → o.dst = some d → listed.getD j false = true → VR ι1 (V.getD j undef) (a.tmps.getD d undef)) →
      (∀ (t : Nat) (v : Value), getF fr t = some v → (∀ (j : Nat) (o : Oper), ops.toList[j]? = some o → o.dst = some t → listed.getD j false = false) → t < n ∧ VR ι1 v (a.tmps.getD t undef)) →
      wpAny P .any ops (LB P n w0 ι Q) fuel listed a w := by
    intro fuel
    induction fuel with
    | zero =>
      intro listed ι1 a w hsz hcnt hdown hx hwx hn hd hv1 hv2
      obtain ⟨K, hRK, hw⟩ := hwx
      have hall : ∀ i, i < ops.size → listed.getD i false = true := by
        rw [Nat.zero_add] at hcnt
        have := List.countP_eq_length (p := fun i => listed.getD i false) (l := List.range ops.size)
        rw [List.length_range] at this
        intro i hi
        exact this.1 hcnt i (List.mem_range.2 hi)
      have hready : Region.ready .any ops listed = [] := by
        rw [List.eq_nil_iff_forall_not_mem]
        intro j hj
        obtain ⟨h1, o, h2, _⟩ := mem_ready.1 hj
        have hlt := (Array.getElem?_eq_some_iff.1 h2).1
        have := hall j hlt
        rw [Array.getD_eq_getD_getElem?, Array.getElem?_eq_getElem (by omega)] at this h1
        simp only [Option.getD_some] at this h1
        rw [h1] at this; simp at this
      refine ⟨hready, (LB.intro (e := .normal) (fr := endOf ops.toList V fr) rfl hw ⟨hn, fun t v ht => ?_⟩ hd ?_).ext hx⟩
      · unfold endOf at ht
        rcases getF_append ht with h | h
        · simp only [List.mem_filterMap, Prod.exists] at h
          obtain ⟨o, j, hj, h⟩ := h
          have ho := List.mem_zipIdx_iff_getElem?.1 hj
          simp only at ho h
          split at h
          · rename_i d hdd
            simp only [Option.some.injEq, Prod.mk.injEq] at h
            obtain ⟨rfl, rfl⟩ := h
            have h3 := hdst o (List.mem_of_getElem? ho)
            rw [hdd] at h3
            exact ⟨by simpa [Nat.blt_eq] using h3, hv1 j o _ ho hdd (hall j (lt_of ho))⟩
          · simp at h
        · by_cases hex : ∃ (j : Nat) (o : Oper), ops.toList[j]? = some o ∧ o.dst = some t
          · -- it has been written: then the first part tells it
            exfalso
            obtain ⟨j, o, ho, hdd⟩ := hex
            refine h.1 (V.getD j undef) ?_
            simp only [List.mem_filterMap, Prod.exists]
            exact ⟨o, j, List.mem_zipIdx_iff_getElem?.2 ho, by simp only [hdd]⟩
          · exact hv2 t v h.2 fun j o ho hdd => absurd ⟨j, o, ho, hdd⟩ hex
      · have : (movers ops.toList).countP (fun i => listed.getD i false) = (movers ops.toList).length := by
          rw [List.countP_eq_length]
          intro i hi
          obtain ⟨o, ho, _⟩ := mem_movers.1 hi
          exact hall i (lt_of ho)
        rw [this] at hRK
        exact fin K hRK
    | succ fuel ih =>
      intro listed ι1 a w hsz hcnt hdown hx hwx hn hd hv1 hv2
      obtain ⟨K, hRK, hw⟩ := hwx
      refine ⟨fun hempty => ?_, fun i hi => ?_⟩
      · -- something is ready
        exfalso
        have hne : ∃ i, i < ops.size ∧ listed.getD i false = false := by
          apply Classical.byContradiction
          intro hno
          have : (List.range ops.size).countP (fun i => listed.getD i false) = ops.size := by
            have h1 := (List.countP_eq_length (p := fun i => listed.getD i false) (l := List.range ops.size)).2 (fun i hi => by
              have : ¬ (listed.getD i false = false) := fun h => hno ⟨i, List.mem_range.1 hi, h⟩
              simpa using this)
            rwa [List.length_range] at h1
          omega
        have key : ∀ m, ∀ i, i ≤ m → i < ops.size → listed.getD i false = false → ∃ j, j ∈ Region.ready .any ops listed := by
          intro m
          induction m with
          | zero =>
            intro i hi hlt hl
            refine ⟨i, mem_ready.2 ⟨?_, ops[i], by simp [hlt], fun e he hb => ?_⟩⟩
            · rw [Array.getD_eq_getD_getElem?, Array.getElem?_eq_getElem (by omega)] at hl ⊢; exact hl
            · have := backE_spec hback (i := i) (o := ops[i]) (by simp [hlt]) (by simpa using he) hb
              omega
          | succ m ihm =>
            intro i hi hlt hl
            by_cases hall : ∀ e ∈ ops[i].after, Region.binds .any e = true → listed.getD e.on false = true
            · refine ⟨i, mem_ready.2 ⟨?_, ops[i], by simp [hlt], hall⟩⟩
              rw [Array.getD_eq_getD_getElem?, Array.getElem?_eq_getElem (by omega)] at hl ⊢; exact hl
            · simp only [Classical.not_forall, Bool.not_eq_true] at hall
              obtain ⟨e, he, hb, hle⟩ := hall
              have := backE_spec hback (i := i) (o := ops[i]) (by simp [hlt]) (by simpa using he) hb
              exact ihm e.on (by omega) (by omega) hle
        obtain ⟨i, hlt, hl⟩ := hne
        obtain ⟨j, hj⟩ := key i i (Nat.le_refl _) hlt hl
        rw [hempty] at hj
        simp at hj
      · obtain ⟨hl1, o, ho, hpre⟩ := mem_ready.1 hi
        have hlt : i < ops.size := (Array.getElem?_eq_some_iff.1 ho).1
        have hol : ops.toList[i]? = some o := by rw [Array.getElem?_toList]; exact ho
        have hl : listed.getD i false = false := by
          rw [Array.getD_eq_getD_getElem?, Array.getElem?_eq_getElem (by omega)] at hl1 ⊢; exact hl1
        have hset : ∀ j, (listed.setIfInBounds i true).getD j false = (listed.getD j false || decide (j = i)) := by
          intro j
          rw [Array.getD_eq_getD_getElem?, Array.getD_eq_getD_getElem?, Array.getElem?_setIfInBounds]
          by_cases hji : i = j
          · subst hji; rw [if_pos rfl, if_pos (by omega)]; simp
          · rw [if_neg hji]; simp [show ¬ j = i from fun h => hji h.symm]
        -- what is ahead of it is listed; what it is ahead of is not
        have hah : ∀ j, ahead (masks ops.toList) i j = true → listed.getD j false = true := by
          intro j hj
          obtain ⟨acc', h1, h2, h3⟩ := masksFrom_get ops.toList [] i o hol
          simp only [List.length_nil, Nat.zero_add] at h1 h2
          unfold ahead masks at hj
          rw [h2] at hj
          obtain ⟨e, he, hp, h4⟩ := maskOf_bit hj
          have hlt2 := backE_spec hback hol he hp
          have hle := hpre e (by simpa using he) hp
          rcases h4 with rfl | h4
          · exact hle
          · rw [h3 _ (by omega)] at h4
            exact ahead_listed hback hdown e.on e.on j (Nat.le_refl _) (by simp; omega) hle h4
        have hbh : ∀ j, j < ops.size → ahead (masks ops.toList) j i = true → listed.getD j false = false := by
          intro j hj h
          cases hlj : listed.getD j false with
          | false => rfl
          | true =>
            have := ahead_listed hback hdown j j i (Nat.le_refl _) (by simpa using hj) hlj h
            rw [hl] at this; simp at this
        -- the heap's place
        have hlo : loOf ops.toList (masks ops.toList) i ≤ (movers ops.toList).countP fun i => listed.getD i false := by
          unfold loOf
          rw [← List.countP_eq_length_filter]
          exact List.countP_mono_left fun j _ h => hah j h
        have hhi : ((movers ops.toList).countP fun i => listed.getD i false) ≤ hiOf ops.toList (masks ops.toList) i := by
          unfold hiOf
          rw [← List.countP_eq_length_filter]
          refine List.countP_mono_left fun j hj h => ?_
          obtain ⟨oj, hoj, _⟩ := mem_movers.1 hj
          simp only [Bool.not_eq_true', Bool.or_eq_false_iff]
          refine ⟨?_, ?_⟩
          · cases hb : Nat.beq i j with
            | false => rfl
            | true => have := Nat.eq_of_beq_eq_true hb; subst this; rw [hl] at h; simp at h
          · cases hb : ahead (masks ops.toList) j i with
            | false => rfl
            | true => rw [hbh j (lt_of hoj) hb] at h; simp at h
        have hst := stepsFromR_get (allStepsR_get (b := 0) steps hol) (by rw [Nat.zero_add]; exact hlo) (by rw [Nat.zero_add]; omega)
        rw [Nat.zero_add] at hst
        replace hst := hst K hRK
        -- what is known
        have henv : FB n ι1 (envOf ops.toList (masks ops.toList) V fr i) a := by
          refine ⟨hn, fun t v ht => ?_⟩
          unfold envOf at ht
          rcases getF_append ht with h | h
          · simp only [List.mem_filterMap, Prod.exists] at h
            obtain ⟨o', j, hj, h⟩ := h
            have ho' := List.mem_zipIdx_iff_getElem?.1 hj
            simp only at ho' h
            split at h
            · rename_i d hdd
              split at h
              · rename_i haj
                simp only [Option.some.injEq, Prod.mk.injEq] at h
                obtain ⟨rfl, rfl⟩ := h
                have h3 := hdst o' (List.mem_of_getElem? ho')
                rw [hdd] at h3
                exact ⟨by simpa [Nat.blt_eq] using h3, hv1 j o' _ ho' hdd (hah j haj)⟩
              · simp at h
            · simp at h
          · obtain ⟨h1, h2⟩ := getF_filter (q := fun t => (ops.toList.zipIdx).all fun y => match y.1.dst with | some d => !Nat.beq d t || Nat.beq y.2 i || ahead (masks ops.toList) y.2 i | none => true) h.2
            refine hv2 t v h2 fun j o' ho' hdd => ?_
            rw [List.all_eq_true] at h1
            have h3 := h1 (o', j) (List.mem_zipIdx_iff_getElem?.2 ho')
            simp only [hdd, Nat.beq_refl, Bool.not_true, Bool.false_or, Bool.or_eq_true] at h3
            rcases h3 with h3 | h3
            · have := Nat.eq_of_beq_eq_true h3; subst this; exact hl
            · exact hbh j (lt_of ho') h3
        -- what comes behind
        have next : ∀ (v cv : Value) (H' : Heap) (ι2 : List Pl) (w' : World), v = V.getD i undef → R (if isMover o then ((movers ops.toList).countP fun i => listed.getD i false) + 1 else (movers ops.toList).countP fun i => listed.getD i false) H' →
            Ext ι1 ι2 → WR P w0 ι2 H' w' → VR ι2 v cv → wpAny P .any ops (LB P n w0 ι Q) fuel (listed.setIfInBounds i true) (a.put o.dst cv) w' := by
          intro v cv H' ι2 w' hv hH hx2 hw2 hr
          subst hv
          have hcount : (movers ops.toList).countP (fun j => (listed.setIfInBounds i true).getD j false) = if isMover o then ((movers ops.toList).countP fun i => listed.getD i false) + 1 else (movers ops.toList).countP fun i => listed.getD i false := by
            split
            · rename_i hmv
              exact count_add (movers_nodup _) (mem_movers.2 ⟨o, hol, hmv⟩) _ _ hl hset
            · rename_i hmv
              apply List.countP_congr
              intro j hj
              obtain ⟨oj, hoj, hmj⟩ := mem_movers.1 hj
              have : j ≠ i := fun h => by subst h; rw [hol] at hoj; simp only [Option.some.injEq] at hoj; subst hoj; exact hmv hmj
              simp [hset, this]
          refine ih (listed.setIfInBounds i true) ι2 (a.put o.dst cv) w' (by simpa using hsz) ?_ ?_ (hx.trans hx2) ⟨H', by rw [hcount]; exact hH, hw2⟩ ?_ (by rw [put_defers]; exact hd) ?_ ?_
          · have := count_add (l := List.range ops.size) List.nodup_range (List.mem_range.2 hlt) (fun j => listed.getD j false) (fun j => (listed.setIfInBounds i true).getD j false) hl hset
            omega
          · intro j oj hoj hLj e he hp
            simp only [hset, Bool.or_eq_true, decide_eq_true_eq] at hLj ⊢
            rcases hLj with hLj | rfl
            · exact .inl (hdown j oj hoj hLj e he hp)
            · rw [hol] at hoj; simp only [Option.some.injEq] at hoj; subst hoj
              exact .inl (hpre e (by simpa using he) hp)
          · cases hod : o.dst with
            | none => exact hn
            | some d => simp [Act.put, hn]
          · intro j oj d hoj hdd hLj
            rw [hset] at hLj
            simp only [Bool.or_eq_true, decide_eq_true_eq] at hLj
            by_cases hji : j = i
            · subst hji
              rw [hol] at hoj; simp only [Option.some.injEq] at hoj; subst hoj
              have h3 := hdst o (List.mem_of_getElem? hol)
              rw [hdd] at h3 ⊢
              simp only [Nat.blt_eq] at h3
              simp only [Act.put]
              rw [Array.getD_eq_getD_getElem?, Array.getElem?_setIfInBounds, if_pos rfl, if_pos (by omega)]
              exact hr
            · have hLj' := hLj.resolve_right hji
              have h4 := (hv1 j oj d hoj hdd hLj').ext hx2
              cases hod : o.dst with
              | none => exact h4
              | some d' =>
                have hne : d' ≠ d := fun h => by subst h; exact hji (uniq hoj hol hdd hod)
                simp only [Act.put]
                rw [Array.getD_eq_getD_getElem?, Array.getElem?_setIfInBounds, if_neg hne]
                rwa [Array.getD_eq_getD_getElem?] at h4
          · intro t v ht hno
            obtain ⟨h4, h5⟩ := hv2 t v ht fun j oj hoj hdd => by
              have := hno j oj hoj hdd
              rw [hset] at this
              simp only [Bool.or_eq_false_iff] at this
              exact this.1
            refine ⟨h4, ?_⟩
            have h5 := h5.ext hx2
            cases hod : o.dst with
            | none => exact h5
            | some d' =>
              have hne : d' ≠ t := fun h => by
                subst h
                have := hno i o hol hod
                rw [hset] at this
                simp at this
              simp only [Act.put]
              rw [Array.getD_eq_getD_getElem?, Array.getElem?_setIfInBounds, if_neg hne]
              rwa [Array.getD_eq_getD_getElem?] at h5
        unfold wpOp
        rw [ho]
        simp only
        rcases wantK_sound henv hst with ⟨h1, h⟩ | ⟨h1, h⟩
        · rw [if_pos h1]
          exact .inl (boper_sound hw henv h fun v H' ι' cv w' k h1 h2 h3 => next v cv H' ι' w' k.1 (by have k2 := k.2; revert k2; split <;> intro k2; exact k2; exact k2 ▸ hRK) h1 h2 h3)
        · rw [if_neg (by simp [h1])]
          exact next undef undef K ι1 w h.1.symm (by split; exact h.2 (by assumption); exact hRK) (.refl _) hw (.undef ι1)
  refine go ops.size _ ι a _ (by simp) ?_ ?_ (.refl _) ?_ hf.size hd ?_ ?_
  · have : (List.range ops.size).countP (fun i => (Array.replicate ops.size false).getD i false) = 0 := by
      rw [List.countP_eq_zero]
      intro i hi
      have := List.mem_range.1 hi
      simp [Array.getD_eq_getD_getElem?, this]
    omega
  · intro i o ho hL
    have := lt_of ho
    simp [Array.getD_eq_getD_getElem?, this] at hL
  · have : (movers ops.toList).countP (fun i => (Array.replicate ops.size false).getD i false) = 0 := by
      rw [List.countP_eq_zero]
      intro i hi
      obtain ⟨o, ho, _⟩ := mem_movers.1 hi
      have := lt_of ho
      simp [Array.getD_eq_getD_getElem?, this]
    rw [this]
    exact ⟨H, h0, hw.drew⟩
  · intro j o d ho hdd hL
    have := lt_of ho
    simp [Array.getD_eq_getD_getElem?, this] at hL
  · intro t v ht _
    exact hf.val t v ht


/-- What is asked of an operation's end: its value; the heap as it was, or of the next kind. -/
structure LeafM (v u : Value) (X : Prop) : Prop where
  val : v = u
  heap : X
def kind (Rs : List (Heap → Prop)) (k : Nat) (H : Heap) : Prop := match Rs[k]? with | some r => r H | none => False
def endR (V : List Value) (Rs : List (Heap → Prop)) (mv : Bool) (i k : Nat) (H : Heap) (v : Value) (H' : Heap) : Prop :=
  match mv with
  | true => LeafM v (V.getD i undef) (kind Rs (k + 1) H')
  | false => Leaf v (V.getD i undef) H' H
def noneR (V : List Value) (Rs : List (Heap → Prop)) (mv : Bool) (i k : Nat) (H : Heap) : Prop :=
  match mv with
  | true => LeafM (V.getD i undef) undef (kind Rs (k + 1) H)
  | false => LeafM (V.getD i undef) undef True
def stepAtR2 (P : Program) (ops : List Oper) (V : List Value) (Rs : List (Heap → Prop)) (av : List (Nat × Nat)) (fr : Fr) (mv : Bool) (o : Oper) (i k : Nat) : Prop :=
  ∀ H, kind Rs k H → bring V av fr fun env => wantK ops env o.guard (boper P o env H (endR V Rs mv i k H)) (noneR V Rs mv i k H)
def stepsFromR2 (P : Program) (ops : List Oper) (V : List Value) (Rs : List (Heap → Prop)) (av : List (Nat × Nat)) (fr : Fr) (mv : Bool) (o : Oper) (i lo : Nat) : Nat → Prop
  | 0 => stepAtR2 P ops V Rs av fr mv o i lo
  | k + 1 => stepsFromR2 P ops V Rs av fr mv o i lo k ∧ stepAtR2 P ops V Rs av fr mv o i (lo + (k + 1))
def stepsR2 (P : Program) (ops : List Oper) (V : List Value) (Rs : List (Heap → Prop)) (fr : Fr) : List Oper → List Dat → Nat → Prop
  | [], _, _ => True
  | o :: os, (av, ex, lo, m, mv) :: ds, i => stepsFromR2 P ops V Rs av (cutF ex fr) mv o i lo m ∧ stepsR2 P ops V Rs fr os ds (i + 1)
  | _ :: _, [], _ => False
theorem stepAtR2_to {P : Program} {ops : List Oper} {ms : List Nat} {V : List Value} {Rs : List (Heap → Prop)} {fr : Fr} {o : Oper} {i k : Nat} (h : stepAtR2 P ops V Rs (pairsOf ops ms i) (cutF (exOf ops ms i) fr) (isMover o) o i k) : stepAtR P ops ms V (kind Rs) fr o i k := by
  intro H hH
  have h := bring_to (h H hH)
  rw [← envOf_eq] at h
  have e1 : endR V Rs (isMover o) i k H = fun v H' => v = V.getD i undef ∧ (if isMover o = true then kind Rs (k + 1) H' else H' = H) := by
    funext v H'
    cases isMover o with
    | true => exact propext ⟨fun h => ⟨h.1, by rw [if_pos rfl]; exact h.2⟩, fun h => ⟨h.1, by have := h.2; rwa [if_pos rfl] at this⟩⟩
    | false => exact propext ⟨fun h => ⟨h.1, by rw [if_neg (by simp)]; exact h.2⟩, fun h => ⟨h.1, by have := h.2; rwa [if_neg (by simp)] at this⟩⟩
  have e2 : noneR V Rs (isMover o) i k H = (V.getD i undef = undef ∧ (isMover o = true → kind Rs (k + 1) H)) := by
    cases isMover o with
    | true => exact propext ⟨fun h => ⟨h.1, fun _ => h.2⟩, fun h => ⟨h.1, h.2 rfl⟩⟩
    | false => exact propext ⟨fun h => ⟨h.1, fun h => by cases h⟩, fun h => ⟨h.1, trivial⟩⟩
  rw [e1, e2] at h
  exact h
theorem stepsFromR2_to {P : Program} {ops : List Oper} {ms : List Nat} {V : List Value} {Rs : List (Heap → Prop)} {fr : Fr} {o : Oper} {i lo : Nat} : ∀ {m : Nat}, stepsFromR2 P ops V Rs (pairsOf ops ms i) (cutF (exOf ops ms i) fr) (isMover o) o i lo m → stepsFromR P ops ms V (kind Rs) fr o i lo m := by
  intro m
  induction m with
  | zero => intro h; exact stepAtR2_to h
  | succ m ih => intro h; exact ⟨stepAtR2_to h.2, ih h.1⟩
theorem stepsR2_to {P : Program} {ops : List Oper} {ms : List Nat} {V : List Value} {Rs : List (Heap → Prop)} {fr : Fr} : ∀ {os : List Oper} {i : Nat}, stepsR2 P ops V Rs fr os (datFrom ops ms os i) i → allStepsR P ops ms V (kind Rs) fr os i := by
  intro os
  induction os with
  | nil => intro i _; trivial
  | cons o os ih =>
    intro i h
    simp only [datFrom, stepsR2] at h
    exact ⟨stepsFromR2_to h.1, ih h.2⟩
/-- A region whose order is open; of each heap on the way a kind is known. -/
theorem SW.draw4 {P : Program} {n : Nat} {id : Nat} {ops : Array Oper} {Q : BPost} {fr : Fr} {H : Heap} (D : List Dat) (E : List (Nat × Nat)) (nm : Nat) (F : Fr) (V : List Value) (Rs : List (Heap → Prop)) (hm : P.follows .mixedOrders = true)
    (hok : drawIs n ops.toList D E nm = true) (hF : Has fr F) (h0 : kind Rs 0 H) (steps : stepsR2 P ops.toList V Rs F ops.toList D 0) (fin : ∀ H', kind Rs nm H' → bring V E F fun fr' => Q .normal fr' H') : SW P n (.region id ops true) Q fr H := by
  simp only [drawIs, Bool.and_eq_true, decide_eq_true_eq] at hok
  obtain ⟨⟨⟨h1, rfl⟩, rfl⟩, h4⟩ := hok
  have h4' := Nat.eq_of_beq_eq_true h4
  subst h4'
  refine SW.sub (SW.drawR V (kind Rs) hm h1 h0 (stepsR2_to steps) fun H' hH => ?_) (Sub.of hF)
  rw [endOf_eq]
  exact bring_to (fin H' hH)
end Go.Proofs.Ytfobbmllbbckkaa.Ax
/- The abstract machine: a region whose order is open, where all that changes the heap lays new blocks alone: it is done in one order, the earliest. -/
set_option linter.unusedVariables false
set_option linter.unusedSimpArgs false
namespace Go.Proofs.Ytfobbmllbbckkaa.Ax
open Go Go.RowKit
theorem SW.drawV {P : Program} {n : Nat} {id : Nat} {ops : Array Oper} {Q : BPost} {fr : Fr} {H : Heap} (R : Nat → List Value → Heap → Prop) (hm : P.follows .mixedOrders = true) (hok : drawOK n ops.toList = true) (h0 : ∃ V, R 0 V H)
    (floats : ∀ (i : Nat) (o : Oper) (k : Nat) (V : List Value) (K : Heap), ops.toList[i]? = some o → isMover o = false → loOf ops.toList (masks ops.toList) i ≤ k → k ≤ hiOf ops.toList (masks ops.toList) i → R k V K →
      wantK ops.toList (envOf ops.toList (masks ops.toList) V fr i) o.guard (boper P o (envOf ops.toList (masks ops.toList) V fr i) K fun v H' => v = V.getD i undef ∧ H' = K) (V.getD i undef = undef))
    (movs : ∀ (i : Nat) (o : Oper) (k : Nat) (V : List Value) (K : Heap), ops.toList[i]? = some o → isMover o = true → loOf ops.toList (masks ops.toList) i ≤ k → k ≤ hiOf ops.toList (masks ops.toList) i → R k V K →
      wantK ops.toList (envOf ops.toList (masks ops.toList) V fr i) o.guard
        (boper P o (envOf ops.toList (masks ops.toList) V fr i) K fun v H' => ∃ V', R (k + 1) V' H' ∧ V'.getD i undef = v ∧ ∀ (j : Nat), j < ops.size → loOf ops.toList (masks ops.toList) j ≤ k → j ≠ i → V'.getD j undef = V.getD j undef)
        (∃ V', R (k + 1) V' K ∧ V'.getD i undef = undef ∧ ∀ (j : Nat), j < ops.size → loOf ops.toList (masks ops.toList) j ≤ k → j ≠ i → V'.getD j undef = V.getD j undef))
    (fin : ∀ V H', R (movers ops.toList).length V H' → Q .normal (endOf ops.toList V fr) H') : SW P n (.region id ops true) Q fr H := by
  simp only [drawOK, Bool.and_eq_true, List.all_eq_true] at hok
  obtain ⟨⟨⟨hback, huniq⟩, hchain⟩, hdst⟩ := hok
  refine ⟨fun w0 ι a w hw hf hd => wp_region_any hm ?_⟩
  have uniq : ∀ {i j d : Nat} {o o' : Oper}, ops.toList[i]? = some o → ops.toList[j]? = some o' → o.dst = some d → o'.dst = some d → i = j := by
    intro i j d o o' h1 h2 h3 h4
    exact uniqueD_spec huniq (i := i) (j := j) (d := d) (by simp [dsts] at h1 ⊢; exact ⟨o, h1, h3⟩) (by simp [dsts] at h2 ⊢; exact ⟨o', h2, h4⟩)
  have lt_of : ∀ {i : Nat} {o : Oper}, ops.toList[i]? = some o → i < ops.size := fun h => by have := (List.getElem?_eq_some_iff.1 h).1; simpa using this
  -- the state of a region that is under way
  have go : ∀ (fuel : Nat) (listed : Array Bool) (ι1 : List Pl) (a : Act) (w : World), listed.size = ops.size →
      fuel + (List.range ops.size).countP (fun i => listed.getD i false) = ops.size → DownC ops.toList (fun i => listed.getD i false = true) → Ext ι ι1 →
      (∃ V K, R ((movers ops.toList).countP fun i => listed.getD i false) V K ∧ WR P w0 ι1 K w ∧ (∀ (j : Nat) (o : Oper) (d : Nat), ops.toList[j]? = some o → o.dst = some d → listed.getD j false = true → VR ι1 (V.getD j undef) (a.tmps.getD d undef))) → a.tmps.size = n → a.defers = [] →
      (∀ (t : Nat) (v : Value), getF fr t = some v → (∀ (j : Nat) (o : Oper), ops.toList[j]? = some o → o.dst = some t → listed.getD j false = false) → t < n ∧ VR ι1 v (a.tmps.getD t undef)) →
      wpAny P .any ops (LB P n w0 ι Q) fuel listed a w := by
    intro fuel
    induction fuel with
    | zero =>
      intro listed ι1 a w hsz hcnt hdown hx hwx hn hd hv2
      obtain ⟨V, K, hRK, hw, hv1⟩ := hwx
      have hall : ∀ i, i < ops.size → listed.getD i false = true := by
        rw [Nat.zero_add] at hcnt
        have := List.countP_eq_length (p := fun i => listed.getD i false) (l := List.range ops.size)
        rw [List.length_range] at this
        intro i hi
        exact this.1 hcnt i (List.mem_range.2 hi)
      have hready : Region.ready .any ops listed = [] := by
        rw [List.eq_nil_iff_forall_not_mem]
        intro j hj
        obtain ⟨h1, o, h2, _⟩ := mem_ready.1 hj
        have hlt := (Array.getElem?_eq_some_iff.1 h2).1
        have := hall j hlt
        rw [Array.getD_eq_getD_getElem?, Array.getElem?_eq_getElem (by omega)] at this h1
        simp only [Option.getD_some] at this h1
        rw [h1] at this; simp at this
      refine ⟨hready, (LB.intro (e := .normal) (fr := endOf ops.toList V fr) rfl hw ⟨hn, fun t v ht => ?_⟩ hd ?_).ext hx⟩
      · unfold endOf at ht
        rcases getF_append ht with h | h
        · simp only [List.mem_filterMap, Prod.exists] at h
          obtain ⟨o, j, hj, h⟩ := h
          have ho := List.mem_zipIdx_iff_getElem?.1 hj
          simp only at ho h
          split at h
          · rename_i d hdd
            simp only [Option.some.injEq, Prod.mk.injEq] at h
            obtain ⟨rfl, rfl⟩ := h
            have h3 := hdst o (List.mem_of_getElem? ho)
            rw [hdd] at h3
            exact ⟨by simpa [Nat.blt_eq] using h3, hv1 j o _ ho hdd (hall j (lt_of ho))⟩
          · simp at h
        · by_cases hex : ∃ (j : Nat) (o : Oper), ops.toList[j]? = some o ∧ o.dst = some t
          · -- it has been written: then the first part tells it
            exfalso
            obtain ⟨j, o, ho, hdd⟩ := hex
            refine h.1 (V.getD j undef) ?_
            simp only [List.mem_filterMap, Prod.exists]
            exact ⟨o, j, List.mem_zipIdx_iff_getElem?.2 ho, by simp only [hdd]⟩
          · exact hv2 t v h.2 fun j o ho hdd => absurd ⟨j, o, ho, hdd⟩ hex
      · have : (movers ops.toList).countP (fun i => listed.getD i false) = (movers ops.toList).length := by
          rw [List.countP_eq_length]
          intro i hi
          obtain ⟨o, ho, _⟩ := mem_movers.1 hi
          exact hall i (lt_of ho)
        rw [this] at hRK
        exact fin V K hRK
    | succ fuel ih =>
      intro listed ι1 a w hsz hcnt hdown hx hwx hn hd hv2
      obtain ⟨V, K, hRK, hw, hv1⟩ := hwx
      refine ⟨fun hempty => ?_, fun i hi => ?_⟩
      · -- something is ready
        exfalso
        have hne : ∃ i, i < ops.size ∧ listed.getD i false = false := by
          apply Classical.byContradiction
          intro hno
          have : (List.range ops.size).countP (fun i => listed.getD i false) = ops.size := by
            have h1 := (List.countP_eq_length (p := fun i => listed.getD i false) (l := List.range ops.size)).2 (fun i hi => by
              have : ¬ (listed.getD i false = false) := fun h => hno ⟨i, List.mem_range.1 hi, h⟩
              simpa using this)
            rwa [List.length_range] at h1
          omega
        have key : ∀ m, ∀ i, i ≤ m → i < ops.size → listed.getD i false = false → ∃ j, j ∈ Region.ready .any ops listed := by
          intro m
          induction m with
          | zero =>
            intro i hi hlt hl
            refine ⟨i, mem_ready.2 ⟨?_, ops[i], by simp [hlt], fun e he hb => ?_⟩⟩
            · rw [Array.getD_eq_getD_getElem?, Array.getElem?_eq_getElem (by omega)] at hl ⊢; exact hl
            · have := backE_spec hback (i := i) (o := ops[i]) (by simp [hlt]) (by simpa using he) hb
              omega
          | succ m ihm =>
            intro i hi hlt hl
            by_cases hall : ∀ e ∈ ops[i].after, Region.binds .any e = true → listed.getD e.on false = true
            · refine ⟨i, mem_ready.2 ⟨?_, ops[i], by simp [hlt], hall⟩⟩
              rw [Array.getD_eq_getD_getElem?, Array.getElem?_eq_getElem (by omega)] at hl ⊢; exact hl
            · simp only [Classical.not_forall, Bool.not_eq_true] at hall
              obtain ⟨e, he, hb, hle⟩ := hall
              have := backE_spec hback (i := i) (o := ops[i]) (by simp [hlt]) (by simpa using he) hb
              exact ihm e.on (by omega) (by omega) hle
        obtain ⟨i, hlt, hl⟩ := hne
        obtain ⟨j, hj⟩ := key i i (Nat.le_refl _) hlt hl
        rw [hempty] at hj
        simp at hj
      · obtain ⟨hl1, o, ho, hpre⟩ := mem_ready.1 hi
        have hlt : i < ops.size := (Array.getElem?_eq_some_iff.1 ho).1
        have hol : ops.toList[i]? = some o := by rw [Array.getElem?_toList]; exact ho
        have hl : listed.getD i false = false := by
          rw [Array.getD_eq_getD_getElem?, Array.getElem?_eq_getElem (by omega)] at hl1 ⊢; exact hl1
        have hset : ∀ j, (listed.setIfInBounds i true).getD j false = (listed.getD j false || decide (j = i)) := by
          intro j
          rw [Array.getD_eq_getD_getElem?, Array.getD_eq_getD_getElem?, Array.getElem?_setIfInBounds]
          by_cases hji : i = j
          · subst hji; rw [if_pos rfl, if_pos (by omega)]; simp
          · rw [if_neg hji]; simp [show ¬ j = i from fun h => hji h.symm]
        -- what is ahead of it is listed; what it is ahead of is not
        have hah : ∀ j, ahead (masks ops.toList) i j = true → listed.getD j false = true := by
          intro j hj
          obtain ⟨acc', h1, h2, h3⟩ := masksFrom_get ops.toList [] i o hol
          simp only [List.length_nil, Nat.zero_add] at h1 h2
          unfold ahead masks at hj
          rw [h2] at hj
          obtain ⟨e, he, hp, h4⟩ := maskOf_bit hj
          have hlt2 := backE_spec hback hol he hp
          have hle := hpre e (by simpa using he) hp
          rcases h4 with rfl | h4
          · exact hle
          · rw [h3 _ (by omega)] at h4
            exact ahead_listed hback hdown e.on e.on j (Nat.le_refl _) (by simp; omega) hle h4
        have hbh : ∀ j, j < ops.size → ahead (masks ops.toList) j i = true → listed.getD j false = false := by
          intro j hj h
          cases hlj : listed.getD j false with
          | false => rfl
          | true =>
            have := ahead_listed hback hdown j j i (Nat.le_refl _) (by simpa using hj) hlj h
            rw [hl] at this; simp at this
        -- the heap's place
        have hlo : loOf ops.toList (masks ops.toList) i ≤ (movers ops.toList).countP fun i => listed.getD i false := by
          unfold loOf
          rw [← List.countP_eq_length_filter]
          exact List.countP_mono_left fun j _ h => hah j h
        have hhi : ((movers ops.toList).countP fun i => listed.getD i false) ≤ hiOf ops.toList (masks ops.toList) i := by
          unfold hiOf
          rw [← List.countP_eq_length_filter]
          refine List.countP_mono_left fun j hj h => ?_
          obtain ⟨oj, hoj, _⟩ := mem_movers.1 hj
          simp only [Bool.not_eq_true', Bool.or_eq_false_iff]
          refine ⟨?_, ?_⟩
          · cases hb : Nat.beq i j with
            | false => rfl
            | true => have := Nat.eq_of_beq_eq_true hb; subst this; rw [hl] at h; simp at h
          · cases hb : ahead (masks ops.toList) j i with
            | false => rfl
            | true => rw [hbh j (lt_of hoj) hb] at h; simp at h
        have hlt_lo : ∀ (j : Nat), j < ops.size → listed.getD j false = true → loOf ops.toList (masks ops.toList) j ≤ (movers ops.toList).countP fun i => listed.getD i false := by
          intro j hj hlj
          unfold loOf
          rw [← List.countP_eq_length_filter]
          exact List.countP_mono_left fun k _ h => ahead_listed hback hdown j j k (Nat.le_refl _) (by simpa using hj) hlj h
        -- what is known
        have henv : FB n ι1 (envOf ops.toList (masks ops.toList) V fr i) a := by
          refine ⟨hn, fun t v ht => ?_⟩
          unfold envOf at ht
          rcases getF_append ht with h | h
          · simp only [List.mem_filterMap, Prod.exists] at h
            obtain ⟨o', j, hj, h⟩ := h
            have ho' := List.mem_zipIdx_iff_getElem?.1 hj
            simp only at ho' h
            split at h
            · rename_i d hdd
              split at h
              · rename_i haj
                simp only [Option.some.injEq, Prod.mk.injEq] at h
                obtain ⟨rfl, rfl⟩ := h
                have h3 := hdst o' (List.mem_of_getElem? ho')
                rw [hdd] at h3
                exact ⟨by simpa [Nat.blt_eq] using h3, hv1 j o' _ ho' hdd (hah j haj)⟩
              · simp at h
            · simp at h
          · obtain ⟨h1, h2⟩ := getF_filter (q := fun t => (ops.toList.zipIdx).all fun y => match y.1.dst with | some d => !Nat.beq d t || Nat.beq y.2 i || ahead (masks ops.toList) y.2 i | none => true) h.2
            refine hv2 t v h2 fun j o' ho' hdd => ?_
            rw [List.all_eq_true] at h1
            have h3 := h1 (o', j) (List.mem_zipIdx_iff_getElem?.2 ho')
            simp only [hdd, Nat.beq_refl, Bool.not_true, Bool.false_or, Bool.or_eq_true] at h3
            rcases h3 with h3 | h3
            · have := Nat.eq_of_beq_eq_true h3; subst this; exact hl
            · exact hbh j (lt_of ho') h3
        -- what comes behind
        have next : ∀ (v cv : Value) (H' : Heap) (ι2 : List Pl) (w' : World) (V' : List Value), v = V'.getD i undef → R (if isMover o then ((movers ops.toList).countP fun i => listed.getD i false) + 1 else (movers ops.toList).countP fun i => listed.getD i false) V' H' →
            (∀ j, j < ops.size → listed.getD j false = true → V'.getD j undef = V.getD j undef) →
            Ext ι1 ι2 → WR P w0 ι2 H' w' → VR ι2 v cv → wpAny P .any ops (LB P n w0 ι Q) fuel (listed.setIfInBounds i true) (a.put o.dst cv) w' := by
          intro v cv H' ι2 w' V' hv hH hag hx2 hw2 hr
          subst hv
          have hcount : (movers ops.toList).countP (fun j => (listed.setIfInBounds i true).getD j false) = if isMover o then ((movers ops.toList).countP fun i => listed.getD i false) + 1 else (movers ops.toList).countP fun i => listed.getD i false := by
            split
            · rename_i hmv
              exact count_add (movers_nodup _) (mem_movers.2 ⟨o, hol, hmv⟩) _ _ hl hset
            · rename_i hmv
              apply List.countP_congr
              intro j hj
              obtain ⟨oj, hoj, hmj⟩ := mem_movers.1 hj
              have : j ≠ i := fun h => by subst h; rw [hol] at hoj; simp only [Option.some.injEq] at hoj; subst hoj; exact hmv hmj
              simp [hset, this]
          refine ih (listed.setIfInBounds i true) ι2 (a.put o.dst cv) w' (by simpa using hsz) ?_ ?_ (hx.trans hx2) ⟨V', H', by rw [hcount]; exact hH, hw2, ?_⟩ ?_ (by rw [put_defers]; exact hd) ?_
          · have := count_add (l := List.range ops.size) List.nodup_range (List.mem_range.2 hlt) (fun j => listed.getD j false) (fun j => (listed.setIfInBounds i true).getD j false) hl hset
            omega
          · intro j oj hoj hLj e he hp
            simp only [hset, Bool.or_eq_true, decide_eq_true_eq] at hLj ⊢
            rcases hLj with hLj | rfl
            · exact .inl (hdown j oj hoj hLj e he hp)
            · rw [hol] at hoj; simp only [Option.some.injEq] at hoj; subst hoj
              exact .inl (hpre e (by simpa using he) hp)
          · intro j oj d hoj hdd hLj
            rw [hset] at hLj
            simp only [Bool.or_eq_true, decide_eq_true_eq] at hLj
            by_cases hji : j = i
            · subst hji
              rw [hol] at hoj; simp only [Option.some.injEq] at hoj; subst hoj
              have h3 := hdst o (List.mem_of_getElem? hol)
              rw [hdd] at h3 ⊢
              simp only [Nat.blt_eq] at h3
              simp only [Act.put]
              rw [Array.getD_eq_getD_getElem? (xs := a.tmps.setIfInBounds _ _), Array.getElem?_setIfInBounds, if_pos rfl, if_pos (by omega)]
              exact hr
            · have hLj' := hLj.resolve_right hji
              rw [hag j (lt_of hoj) hLj']
              have h4 := (hv1 j oj d hoj hdd hLj').ext hx2
              cases hod : o.dst with
              | none => exact h4
              | some d' =>
                have hne : d' ≠ d := fun h => by subst h; exact hji (uniq hoj hol hdd hod)
                simp only [Act.put]
                rw [Array.getD_eq_getD_getElem? (xs := a.tmps.setIfInBounds _ _), Array.getElem?_setIfInBounds, if_neg hne]
                rwa [Array.getD_eq_getD_getElem? (xs := a.tmps)] at h4
          · cases hod : o.dst with
            | none => exact hn
            | some d => simp [Act.put, hn]
          · intro t v ht hno
            obtain ⟨h4, h5⟩ := hv2 t v ht fun j oj hoj hdd => by
              have := hno j oj hoj hdd
              rw [hset] at this
              simp only [Bool.or_eq_false_iff] at this
              exact this.1
            refine ⟨h4, ?_⟩
            have h5 := h5.ext hx2
            cases hod : o.dst with
            | none => exact h5
            | some d' =>
              have hne : d' ≠ t := fun h => by
                subst h
                have := hno i o hol hod
                rw [hset] at this
                simp at this
              simp only [Act.put]
              rw [Array.getD_eq_getD_getElem?, Array.getElem?_setIfInBounds, if_neg hne]
              rwa [Array.getD_eq_getD_getElem?] at h5
        unfold wpOp
        rw [ho]
        simp only
        cases hmv : isMover o with
        | false =>
          rcases wantK_sound henv (floats i o _ V K hol hmv hlo hhi hRK) with ⟨h1, h⟩ | ⟨h1, h⟩
          · rw [if_pos h1]
            exact .inl (boper_sound hw henv h fun v H' ι' cv w' k h1 h2 h3 => next v cv H' ι' w' V k.1 (by rw [hmv]; exact k.2 ▸ hRK) (fun _ _ _ => rfl) h1 h2 h3)
          · rw [if_neg (by simp [h1])]
            exact next undef undef K ι1 w V h.symm (by rw [hmv]; exact hRK) (fun _ _ _ => rfl) (.refl _) hw (.undef ι1)
        | true =>
          have hne : ∀ j, listed.getD j false = true → j ≠ i := fun j hj he => by subst he; rw [hl] at hj; simp at hj
          rcases wantK_sound henv (movs i o _ V K hol hmv hlo hhi hRK) with ⟨h1, h⟩ | ⟨h1, h⟩
          · rw [if_pos h1]
            refine .inl (boper_sound hw henv h fun v H' ι' cv w' k h1 h2 h3 => ?_)
            obtain ⟨V', k1, k2, k3⟩ := k
            exact next v cv H' ι' w' V' k2.symm (by rw [hmv]; exact k1) (fun j hj hlj => k3 j hj (hlt_lo j hj hlj) (hne j hlj)) h1 h2 h3
          · rw [if_neg (by simp [h1])]
            obtain ⟨V', k1, k2, k3⟩ := h
            exact next undef undef K ι1 w V' k2.symm (by rw [hmv]; exact k1) (fun j hj hlj => k3 j hj (hlt_lo j hj hlj) (hne j hlj)) (.refl _) hw (.undef ι1)
  obtain ⟨V0, hV0⟩ := h0
  refine go ops.size _ ι a _ (by simp) ?_ ?_ (.refl _) ⟨V0, H, ?_, hw.drew, ?_⟩ hf.size hd ?_
  · have : (List.range ops.size).countP (fun i => (Array.replicate ops.size false).getD i false) = 0 := by
      rw [List.countP_eq_zero]
      intro i hi
      have := List.mem_range.1 hi
      simp [Array.getD_eq_getD_getElem?, this]
    omega
  · intro i o ho hL
    have := lt_of ho
    simp [Array.getD_eq_getD_getElem?, this] at hL
  · have : (movers ops.toList).countP (fun i => (Array.replicate ops.size false).getD i false) = 0 := by
      rw [List.countP_eq_zero]
      intro i hi
      obtain ⟨o, ho, _⟩ := mem_movers.1 hi
      have := lt_of ho
      simp [Array.getD_eq_getD_getElem?, this]
    rw [this]
    exact hV0
  · intro j o d ho hdd hL
    have := lt_of ho
    simp [Array.getD_eq_getD_getElem?, this] at hL
  · intro t v ht _
    exact hf.val t v ht

end Go.Proofs.Ytfobbmllbbckkaa.Ax
/- The abstract machine: a region whose order is open, where all that changes the heap lays new blocks alone: the walk in its earliest order. -/
set_option linter.unusedVariables false
set_option linter.unusedSimpArgs false
namespace Go.Proofs.Ytfobbmllbbckkaa.Ax
open Go Go.RowKit

theorem Grow.hmap {H H' : Heap} (h : Grow H H') {b : Nat} {es : List (Value × Value)} (hb : Ax.hmap H b = some es) : Ax.hmap H' b = some es := by
  unfold Ax.hmap at hb ⊢
  split at hb
  · rename_i o es' he
    rw [h.at he]; exact hb
  · simp at hb
theorem aload_grow {P : Program} {t : TypeId} {v r : Value} {H H' : Heap} (g : Grow H H') (h : aload P t v H = some r) : aload P t v H' = some r := by
  unfold aload at h ⊢
  split at h
  · simp only [Option.bind_eq_some_iff] at h ⊢
    obtain ⟨c, hc, h⟩ := h
    exact ⟨c, g.hblk hc, h⟩
  · simp at h
theorem alen_grow {P : Program} {t : TypeId} {v r : Value} {H H' : Heap} (g : Grow H H') (h : alen P t v H = some r) : alen P t v H' = some r := by
  unfold alen at h ⊢
  split at h
  · exact h
  · exact h
  · exact h
  · split at h
    · exact h
    · simp only [Option.map_eq_some_iff] at h ⊢
      obtain ⟨es, he, h⟩ := h
      exact ⟨es, g.hmap he, h⟩
    · simp at h
  · simp at h
theorem mentries_grow {m : Value} {es : List (Value × Value)} {H H' : Heap} (g : Grow H H') (h : mentries m H = some es) : mentries m H' = some es := by
  unfold mentries at h ⊢
  split at h
  · exact h
  · exact g.hmap h
  · simp at h
theorem alookup_grow {P : Program} {t : TypeId} {m k r : Value} {ok : Bool} {H H' : Heap} (g : Grow H H') (h : alookup P t m k ok H = some r) : alookup P t m k ok H' = some r := by
  unfold alookup at h ⊢
  simp only [Option.bind_eq_some_iff] at h ⊢
  obtain ⟨x, hx, es, he, h⟩ := h
  exact ⟨x, hx, es, mentries_grow g he, h⟩
theorem aconvert_grow {P : Program} {s d : TypeId} {v r : Value} {H H' : Heap} (g : Grow H H') (h : aconvert P s d v H = some r) : aconvert P s d v H' = some r := by
  unfold aconvert at h ⊢
  simp only [Option.bind_eq_some_iff] at h ⊢
  obtain ⟨ds, h1, dd, h2, h⟩ := h
  refine ⟨ds, h1, dd, h2, ?_⟩
  split at h
  · exact h
  · exact h
  · split at h
    · split at h
      · exact h
      · split at h
        · rename_i hn; rw [if_pos hn]; exact h
        · rename_i hn
          rw [if_neg hn]
          simp only [Option.bind_eq_some_iff] at h ⊢
          obtain ⟨c, hc, h⟩ := h
          exact ⟨c, g.hblk hc, h⟩
      · simp at h
    · simp at h
  · split at h
    · exact h
    · simp only [Option.bind_eq_some_iff] at h ⊢
      obtain ⟨j, hj, h⟩ := h
      refine ⟨j, hj, ?_⟩
      split at h
      · simp at h
      · rename_i hz
        rw [if_neg hz]
        split at h
        · rename_i T c hc
          rw [g.at hc]; exact h
        · simp at h
    · simp at h
  · split at h
    · exact h
    · simp only [Option.bind_eq_some_iff] at h ⊢
      obtain ⟨j, hj, h⟩ := h
      refine ⟨j, hj, ?_⟩
      split at h
      · rename_i T c hc
        rw [g.at hc]; exact h
      · simp at h
    · simp at h
  · first | exact h | (simp at h)

/-- An operation's operands, found. -/
theorem evK_iff {fr : Fr} {x : Operand} {K : Value → Prop} : evK fr x K → ∃ v, K v ∧ ∀ K', K' v → evK fr x K' := by
  cases x with
  | tmp t => intro h; obtain ⟨v, hv, k⟩ := getK_iff.1 h; exact ⟨v, k, fun K' k' => getK_iff.2 ⟨v, hv, k'⟩⟩
  | const v =>
    intro h
    simp only [evK] at h ⊢
    split at h
    · rename_i hc; exact ⟨v, h, fun K' k' => k'⟩
    · exact h.elim
  | func f => intro h; exact ⟨_, h, fun K' k' => k'⟩
  | global g => intro h; exact h.elim
theorem evL_iff {fr : Fr} : ∀ {l : List Operand} {K : List Value → Prop}, evL fr l K → ∃ v, K v ∧ ∀ K', K' v → evL fr l K' := by
  intro l
  induction l with
  | nil => intro K h; exact ⟨[], h, fun K' k => k⟩
  | cons x l ih =>
    intro K h
    obtain ⟨v, h, k⟩ := evK_iff h
    obtain ⟨vs, h, k2⟩ := ih h
    exact ⟨v :: vs, h, fun K' k' => k _ (k2 _ k')⟩
theorem evP_iff {fr : Fr} : ∀ {l : List (Nat × Operand)} {K : List (Nat × Value) → Prop}, evP fr l K → ∃ v, K v ∧ ∀ K', K' v → evP fr l K' := by
  intro l
  induction l with
  | nil => intro K h; exact ⟨[], h, fun K' k => k⟩
  | cons x l ih =>
    obtain ⟨i, x⟩ := x
    intro K h
    obtain ⟨v, h, k⟩ := evK_iff h
    obtain ⟨vs, h, k2⟩ := ih h
    exact ⟨(i, v) :: vs, h, fun K' k' => k _ (k2 _ k')⟩
theorem evQ_iff {fr : Fr} {x : Option Operand} {K : Option Value → Prop} (h : evQ fr x K) : ∃ v, K v ∧ ∀ K', K' v → evQ fr x K' := by
  cases x with
  | none => exact ⟨none, h, fun K' k => k⟩
  | some x => obtain ⟨v, h, k⟩ := evK_iff h; exact ⟨some v, h, fun K' k' => k _ k'⟩

/-- What changes nothing says the same in a heap that has grown. -/
theorem float_mono {P : Program} {o : Oper} {fr : Fr} {H : Heap} {K : OpK} (hm : isMover o = false) (h : boper P o fr H K) : ∃ v, K v H ∧ ∀ H', Grow H H' → ∀ K' : OpK, K' v H' → boper P o fr H' K' := by
  obtain ⟨dst, op, ty, pos, after, guard⟩ := o
  cases op with
  | move x => obtain ⟨v, h, k⟩ := evK_iff (show evK fr x _ from h); exact ⟨v, h, fun H' g K' k' => k _ k'⟩
  | assign x => obtain ⟨v, h, k⟩ := evK_iff (show evK fr x _ from h); exact ⟨v, h, fun H' g K' k' => k _ k'⟩
  | pick c a b =>
    obtain ⟨v, h, k⟩ := evK_iff (show evK fr c _ from h)
    split at h
    · rename_i t
      rcases h.out with ⟨rfl, h⟩ | ⟨rfl, h⟩
      · obtain ⟨u, h, k2⟩ := evK_iff h; exact ⟨u, h, fun H' g K' k' => k _ (k2 _ k')⟩
      · obtain ⟨u, h, k2⟩ := evK_iff h; exact ⟨u, h, fun H' g K' k' => k _ (k2 _ k')⟩
    · exact h.elim
  | build t ps => obtain ⟨v, h, k⟩ := evP_iff (show evP fr ps.toList _ from h); obtain ⟨r, hr, h⟩ := h.out; exact ⟨r, h, fun H' g K' k' => k _ (.of hr k')⟩
  | load t x => obtain ⟨v, h, k⟩ := evK_iff (show evK fr x _ from h); obtain ⟨r, hr, h⟩ := h.out; exact ⟨r, h, fun H' g K' k' => k _ (.of (aload_grow g hr) k')⟩
  | nilCheck x =>
    obtain ⟨v, h, k⟩ := evK_iff (show evK fr x _ from h)
    split at h
    · exact ⟨_, h, fun H' g K' k' => k _ k'⟩
    · exact ⟨_, h, fun H' g K' k' => k _ k'⟩
    · exact h.elim
  | binOp bo t x y t2 => obtain ⟨v, h, k⟩ := evK_iff (show evK fr x _ from h); obtain ⟨u, h, k2⟩ := evK_iff h; obtain ⟨r, hr, h⟩ := h.out; exact ⟨r, h, fun H' g K' k' => k _ (k2 _ (.of hr k'))⟩
  | unOp uo t x => obtain ⟨v, h, k⟩ := evK_iff (show evK fr x _ from h); obtain ⟨r, hr, h⟩ := h.out; exact ⟨r, h, fun H' g K' k' => k _ (.of hr k')⟩
  | convert s d x => obtain ⟨v, h, k⟩ := evK_iff (show evK fr x _ from h); obtain ⟨r, hr, h⟩ := h.out; exact ⟨r, h, fun H' g K' k' => k _ (.of (aconvert_grow g hr) k')⟩
  | makeFunc f a b => obtain ⟨v, h, k⟩ := evL_iff (show evL fr a.toList _ from h); obtain ⟨u, h, k2⟩ := evL_iff h; exact ⟨_, h, fun H' g K' k' => k _ (k2 _ k')⟩
  | slice t x lo hi mx =>
    obtain ⟨v, h, k⟩ := evK_iff (show evK fr x _ from h)
    obtain ⟨a, h, k1⟩ := evQ_iff h
    obtain ⟨b, h, k2⟩ := evQ_iff h
    obtain ⟨c, h, k3⟩ := evQ_iff h
    obtain ⟨r, hr, h⟩ := h.out
    exact ⟨r, h, fun H' g K' k' => k _ (k1 _ (k2 _ (k3 _ (.of hr k'))))⟩
  | fieldAddr s x f => obtain ⟨v, h, k⟩ := evK_iff (show evK fr x _ from h); obtain ⟨r, hr, h⟩ := h.out; exact ⟨r, h, fun H' g K' k' => k _ (.of hr k')⟩
  | field s x f => obtain ⟨v, h, k⟩ := evK_iff (show evK fr x _ from h); obtain ⟨r, hr, h⟩ := h.out; exact ⟨r, h, fun H' g K' k' => k _ (.of hr k')⟩
  | indexAddr t x i => obtain ⟨v, h, k⟩ := evK_iff (show evK fr x _ from h); obtain ⟨u, h, k2⟩ := evK_iff h; obtain ⟨r, hr, h⟩ := h.out; exact ⟨r, h, fun H' g K' k' => k _ (k2 _ (.of hr k'))⟩
  | index t x i => obtain ⟨v, h, k⟩ := evK_iff (show evK fr x _ from h); obtain ⟨u, h, k2⟩ := evK_iff h; obtain ⟨r, hr, h⟩ := h.out; exact ⟨r, h, fun H' g K' k' => k _ (k2 _ (.of hr k'))⟩
  | lookup t x i ok => obtain ⟨v, h, k⟩ := evK_iff (show evK fr x _ from h); obtain ⟨u, h, k2⟩ := evK_iff h; obtain ⟨r, hr, h⟩ := h.out; exact ⟨r, h, fun H' g K' k' => k _ (k2 _ (.of (alookup_grow g hr) k'))⟩
  | extract x i => obtain ⟨v, h, k⟩ := evK_iff (show evK fr x _ from h); obtain ⟨r, hr, h⟩ := h.out; exact ⟨r, h, fun H' g K' k' => k _ (.of hr k')⟩
  | call c =>
    obtain ⟨callee, args, tys⟩ := c
    cases callee with
    | value f => simp [isMover] at hm
    | invoke a b => simp [isMover] at hm
    | builtin b =>
      obtain ⟨vs, h, k⟩ := evL_iff (show evL fr args.toList (fun vs => builtinK P H b tys.toList vs K) from h)
      have key : ∃ v, K v H ∧ ∀ H', Grow H H' → ∀ K' : OpK, K' v H' → builtinK P H' b tys.toList vs K' := by
        unfold builtinK at h ⊢
        split at h
        all_goals first | (simp [isMover] at hm; done) | skip
        · obtain ⟨r, hr, h⟩ := h.out; exact ⟨r, h, fun H' g K' k' => .of (alen_grow g hr) k'⟩
        · obtain ⟨r, hr, h⟩ := h.out; exact ⟨r, h, fun H' g K' k' => .of hr k'⟩
        · obtain ⟨r, hr, h⟩ := h.out; exact ⟨r, h, fun H' g K' k' => .of hr k'⟩
        · obtain ⟨r, hr, h⟩ := h.out; exact ⟨r, h, fun H' g K' k' => .of hr k'⟩
        · exact h.elim
      obtain ⟨v, k1, k2⟩ := key
      exact ⟨v, k1, fun H' g K' k' => k _ (k2 H' g K' k')⟩
  | _ => simp [isMover] at hm
theorem Ob.mono {α : Type} {x : Option α} {K K' : α → Prop} (h : Ob x K) (k : ∀ a, K a → K' a) : Ob x K' := let ⟨a, h1, h2⟩ := h.out; ⟨a, h1, k a h2⟩
theorem Ob2.mono {α β : Type} {x : Option (α × β)} {K K' : α → β → Prop} (h : Ob2 x K) (k : ∀ a b, K a b → K' a b) : Ob2 x K' := let ⟨a, h1, h2⟩ := h.out; ⟨a, h1, k _ _ h2⟩
theorem evK_mono {fr : Fr} {x : Operand} {K K' : Value → Prop} (h : evK fr x K) (k : ∀ v, K v → K' v) : evK fr x K' := let ⟨v, h1, h2⟩ := evK_iff h; h2 _ (k v h1)
theorem evL_mono {fr : Fr} {x : List Operand} {K K' : List Value → Prop} (h : evL fr x K) (k : ∀ v, K v → K' v) : evL fr x K' := let ⟨v, h1, h2⟩ := evL_iff h; h2 _ (k v h1)
theorem evP_mono {fr : Fr} {x : List (Nat × Operand)} {K K' : List (Nat × Value) → Prop} (h : evP fr x K) (k : ∀ v, K v → K' v) : evP fr x K' := let ⟨v, h1, h2⟩ := evP_iff h; h2 _ (k v h1)
theorem evQ_mono {fr : Fr} {x : Option Operand} {K K' : Option Value → Prop} (h : evQ fr x K) (k : ∀ v, K v → K' v) : evQ fr x K' := let ⟨v, h1, h2⟩ := evQ_iff h; h2 _ (k v h1)
theorem builtinK_mono {P : Program} {H : Heap} {b : Builtin} {ts : List TypeId} {vs : List Value} {K K' : OpK} (h : builtinK P H b ts vs K) (k : ∀ v H', K v H' → K' v H') : builtinK P H b ts vs K' := by
  unfold builtinK at h ⊢
  split at h
  all_goals first | exact h.mono (fun r h => k _ _ h) | exact Ob2.mono h k | exact h.elim
theorem bop_mono {P : Program} {fr : Fr} {H : Heap} {op : Op} {K K' : OpK} (h : bop P fr H op K) (k : ∀ v H', K v H' → K' v H') : bop P fr H op K' := by
  unfold bop at h ⊢
  split at h
  · exact evK_mono h fun v h => k _ _ h
  · exact evK_mono h fun v h => k _ _ h
  · refine evK_mono h fun c h => ?_
    split at h
    · rcases h.out with ⟨rfl, h⟩ | ⟨rfl, h⟩
      · exact bIf.yes rfl (evK_mono h fun v h => k _ _ h)
      · exact bIf.no rfl (evK_mono h fun v h => k _ _ h)
    · exact h.elim
  · exact h.mono k
  · exact evK_mono h fun v h => Ob2.mono h k
  · exact evP_mono h fun v h => Ob.mono h fun r h => k _ _ h
  · exact evP_mono h fun v h => Ob2.mono h k
  · exact evK_mono h fun v h => Ob.mono h fun r h => k _ _ h
  · exact evK_mono h fun v h => evK_mono h fun v h => Ob.mono h fun r h => k _ _ h
  · refine evK_mono h fun c h => ?_
    split at h
    · exact k _ _ h
    · exact k _ _ h
    · exact h.elim
  · exact evK_mono h fun v h => evK_mono h fun v h => Ob.mono h fun r h => k _ _ h
  · exact evK_mono h fun v h => Ob.mono h fun r h => k _ _ h
  · exact evK_mono h fun v h => Ob.mono h fun r h => k _ _ h
  · exact evL_mono h fun v h => evL_mono h fun v h => k _ _ h
  · exact evQ_mono h fun v h => Ob2.mono h k
  · exact evK_mono h fun v h => Ob2.mono h k
  · exact evK_mono h fun v h => Ob2.mono h k
  · exact evK_mono h fun v h => evK_mono h fun v h => Ob2.mono h k
  · exact evK_mono h fun v h => evQ_mono h fun v h => evQ_mono h fun v h => evQ_mono h fun v h => Ob.mono h fun r h => k _ _ h
  · exact evK_mono h fun v h => Ob.mono h fun r h => k _ _ h
  · exact evK_mono h fun v h => Ob.mono h fun r h => k _ _ h
  · exact evK_mono h fun v h => evK_mono h fun v h => Ob.mono h fun r h => k _ _ h
  · exact evK_mono h fun v h => evK_mono h fun v h => Ob.mono h fun r h => k _ _ h
  · exact evK_mono h fun v h => evK_mono h fun v h => Ob.mono h fun r h => k _ _ h
  · exact evK_mono h fun v h => evK_mono h fun v h => evK_mono h fun v h => Ob.mono h fun r h => k _ _ h
  · exact evK_mono h fun v h => evK_mono h fun v h => evK_mono h fun v h => Ob.mono h fun r h => k _ _ h
  · exact evK_mono h fun v h => Ob.mono h fun r h => k _ _ h
  · exact evK_mono h fun v h => Ob.mono h fun r h => k _ _ h
  · exact evK_mono h fun v h => Ob.mono h fun r h => k _ _ h
  · split at h
    · exact evL_mono h fun v h => builtinK_mono h k
    · exact h.elim
  · exact h.elim
theorem boper_mono {P : Program} {o : Oper} {fr : Fr} {H : Heap} {K K' : OpK} (h : boper P o fr H K) (k : ∀ v H', K v H' → K' v H') : boper P o fr H K' := by
  unfold boper at h ⊢
  split at h
  · split at h
    · split at h
      · refine evL_mono h fun as h => ?_
        split at h
        · split at h
          · exact k _ _ h
          · exact h.elim
        · split at h
          · split at h
            · exact Ob2.mono h k
            · exact h.elim
          · exact h.mono k
      · refine evK_mono h fun f h => ?_
        split at h
        · exact evL_mono h fun as h => h.mono k
        · exact h.elim
    · exact bop_mono h k
    · exact h.elim
  · exact bop_mono h k
end Go.Proofs.Ytfobbmllbbckkaa.Ax
/- The abstract machine: a region whose order is open, done in its earliest order. -/
set_option linter.unusedVariables false
set_option linter.unusedSimpArgs false
namespace Go.Proofs.Ytfobbmllbbckkaa.Ax
open Go Go.RowKit

/-- An operation's place in the earliest order: its number, what is ahead of it, which slots are not settled, does it change the heap. -/
abbrev GDat := Nat × List (Nat × Nat) × List Nat × Bool
def bringA (A : Fr) : List (Nat × Nat) → Fr → (Fr → Prop) → Prop
  | [], fr, K => K fr
  | (d, j) :: l, fr, K => getK A j fun v => bringA A l fr fun fr' => K ((d, v) :: fr')
structure Grows (H H' : Heap) (X : Prop) : Prop where
  g : Grow H H'
  x : X
def gkeep (mv : Bool) (H H' : Heap) (X : Prop) : Prop := match mv with | true => Grows H H' X | false => X
def gdo (P : Program) (o : Oper) (env : Fr) (A : Fr) (H : Heap) (i : Nat) (mv w : Bool) (next : Fr → Heap → Prop) : Prop :=
  match w with
  | true => boper P o env H fun v H' => gkeep mv H H' (next ((i, v) :: A) H')
  | false => next ((i, undef) :: A) H
def gops (P : Program) (ops : List Oper) (fr : Fr) (E : List (Nat × Nat)) (Q : BPost) : List GDat → Fr → Heap → Prop
  | [] => fun A H => bringA A E fr fun fr' => Q .normal fr' H
  | (i, av, ex, mv) :: rest => fun A H => Ob ops[i]? fun o => bringA A av (cutF ex fr) fun env => wantB ops env o.guard fun w => gdo P o env A H i mv w (gops P ops fr E Q rest)

def cmov : List GDat → Nat
  | [] => 0
  | (_, _, _, mv) :: r => (match mv with | true => 1 | false => 0) + cmov r
theorem cmov_append (a b : List GDat) : cmov (a ++ b) = cmov a + cmov b := by
  induction a with
  | nil => simp [cmov]
  | cons x a ih => obtain ⟨i, av, ex, mv⟩ := x; simp only [List.cons_append, cmov, ih]; omega
/-- Each one fits: its data, and how many changes are ahead of it. -/
def gfit (ops : List Oper) (ms : List Nat) : List GDat → Nat → Bool
  | [], _ => true
  | (i, av, ex, mv) :: r, k => (match ops[i]? with
      | some o => decide (av = pairsOf ops ms i) && decide (ex = exOf ops ms i) && (mv == isMover o) && Nat.beq (loOf ops ms i) k && (!mv || Nat.beq (hiOf ops ms i) k)
      | none => false) && gfit ops ms r ((match mv with | true => 1 | false => 0) + k)
def gnodup : List GDat → Bool
  | [] => true
  | x :: r => r.all (fun y => !Nat.beq x.1 y.1) && gnodup r
def gIs (n : Nat) (ops : List Oper) (L : List GDat) (E : List (Nat × Nat)) : Bool :=
  drawOK n ops && gfit ops (masks ops) L 0 && gnodup L && (List.range ops.length).all (fun i => L.any fun x => Nat.beq x.1 i) && decide (endsOf ops = E) && Nat.beq (cmov L) (movers ops).length

theorem gfit_get {ops : List Oper} {ms : List Nat} : ∀ {pre rest : List GDat} {x : GDat} {k : Nat}, gfit ops ms (pre ++ x :: rest) k = true →
    ∃ o, ops[x.1]? = some o ∧ x.2.1 = pairsOf ops ms x.1 ∧ x.2.2.1 = exOf ops ms x.1 ∧ x.2.2.2 = isMover o ∧ loOf ops ms x.1 = k + cmov pre ∧ (x.2.2.2 = true → hiOf ops ms x.1 = k + cmov pre) := by
  intro pre
  induction pre with
  | nil =>
    intro rest x k h
    obtain ⟨i, av, ex, mv⟩ := x
    simp only [List.nil_append, gfit, Bool.and_eq_true] at h
    obtain ⟨h, _⟩ := h
    split at h
    · rename_i o ho
      simp only [Bool.and_eq_true, decide_eq_true_eq, beq_iff_eq, Bool.or_eq_true, Bool.not_eq_true'] at h
      obtain ⟨⟨⟨⟨h1, h2⟩, h3⟩, h4⟩, h5⟩ := h
      refine ⟨o, ho, h1, h2, h3, by simpa [cmov] using Nat.eq_of_beq_eq_true h4, fun hm => ?_⟩
      rcases h5 with h5 | h5
      · exact absurd hm (by rw [show (i, av, ex, mv).2.2.2 = mv from rfl, h5]; simp)
      · simpa [cmov] using Nat.eq_of_beq_eq_true h5
    · simp at h
  | cons y pre ih =>
    intro rest x k h
    obtain ⟨i, av, ex, mv⟩ := y
    simp only [List.cons_append, gfit, Bool.and_eq_true] at h
    obtain ⟨o, h1, h2, h3, h4, h5, h6⟩ := ih h.2
    refine ⟨o, h1, h2, h3, h4, by rw [h5]; simp only [cmov]; omega, fun hm => by rw [h6 hm]; simp only [cmov]; omega⟩
theorem gnodup_get : ∀ {pre rest : List GDat} {x : GDat}, gnodup (pre ++ x :: rest) = true → ∀ y ∈ pre, y.1 ≠ x.1 := by
  intro pre
  induction pre with
  | nil => intro rest x h y hy; simp at hy
  | cons z pre ih =>
    intro rest x h y hy
    simp only [List.cons_append, gnodup, Bool.and_eq_true, List.all_eq_true] at h
    rcases List.mem_cons.1 hy with rfl | hy
    · have := h.1 x (by simp)
      intro e
      rw [e] at this
      simp at this
    · exact ih h.2 y hy

/-- The values of all operations, as far as they are known. -/
def VA (A : Fr) (m : Nat) : List Value := (List.range m).map fun j => (getF A j).getD undef
theorem VA_get {A : Fr} {m j : Nat} (h : j < m) : (VA A m).getD j undef = (getF A j).getD undef := by
  simp [VA, List.getD_eq_getElem?_getD, h]
theorem bringA_to {A : Fr} {m : Nat} : ∀ {l : List (Nat × Nat)} {fr : Fr} {K : Fr → Prop}, (∀ p ∈ l, p.2 < m) → bringA A l fr K → (∀ p ∈ l, ∃ v, getF A p.2 = some v) ∧ K (valsOf (VA A m) l fr) := by
  intro l
  induction l with
  | nil => intro fr K _ h; exact ⟨fun p hp => by simp at hp, h⟩
  | cons p l ih =>
    obtain ⟨d, j⟩ := p
    intro fr K hl h
    obtain ⟨v, hv, h⟩ := getK_iff.1 h
    obtain ⟨h1, h2⟩ := ih (fun p hp => hl p (List.mem_cons_of_mem _ hp)) h
    refine ⟨fun p hp => ?_, ?_⟩
    · rcases List.mem_cons.1 hp with rfl | hp
      · exact ⟨v, hv⟩
      · exact h1 p hp
    · have : (VA A m).getD j undef = v := by rw [VA_get (hl _ (List.mem_cons_self ..)), hv]; rfl
      simpa only [valsOf, this] using h2
theorem valsOf_congr {V W : List Value} : ∀ {l : List (Nat × Nat)} {fr : Fr}, (∀ p ∈ l, V.getD p.2 undef = W.getD p.2 undef) → valsOf V l fr = valsOf W l fr := by
  intro l
  induction l with
  | nil => intro fr _; rfl
  | cons p l ih => obtain ⟨d, j⟩ := p; intro fr h; simp only [valsOf]; rw [h _ (List.mem_cons_self ..), ih fun p hp => h p (List.mem_cons_of_mem _ hp)]
theorem pairs_lt {ops : List Oper} {ms : List Nat} {i : Nat} : ∀ p ∈ pairsOf ops ms i, p.2 < ops.length := by
  intro p hp
  unfold pairsOf at hp
  simp only [List.mem_filterMap, Prod.exists] at hp
  obtain ⟨o, j, hj, h⟩ := hp
  have ho := List.mem_zipIdx_iff_getElem?.1 hj
  simp only at h ho
  split at h
  · split at h
    · simp only [Option.some.injEq] at h; subst h; exact (List.getElem?_eq_some_iff.1 ho).1
    · simp at h
  · simp at h
theorem ends_lt {ops : List Oper} : ∀ p ∈ endsOf ops, p.2 < ops.length := by
  intro p hp
  unfold endsOf at hp
  simp only [List.mem_filterMap, Prod.exists] at hp
  obtain ⟨o, j, hj, h⟩ := hp
  have ho := List.mem_zipIdx_iff_getElem?.1 hj
  simp only at h ho
  split at h
  · simp only [Option.some.injEq] at h; subst h; exact (List.getElem?_eq_some_iff.1 ho).1
  · simp at h

/-- What is known of an operation that changes nothing, from a heap on. -/
def FF (P : Program) (ops : List Oper) (ms : List Nat) (fr : Fr) (A : Fr) (i : Nat) (o : Oper) (K : Heap) : Prop :=
  (∀ p ∈ pairsOf ops ms i, ∃ v, getF A p.2 = some v) ∧ (∃ v, getF A i = some v) ∧
  ∀ K', Grow K K' → wantK ops (envOf ops ms (VA A ops.length) fr i) o.guard (boper P o (envOf ops ms (VA A ops.length) fr i) K' fun v H' => v = (VA A ops.length).getD i undef ∧ H' = K') ((VA A ops.length).getD i undef = undef)
theorem FF.grow {P : Program} {ops : List Oper} {ms : List Nat} {fr : Fr} {A : Fr} {i : Nat} {o : Oper} {K K' : Heap} (h : FF P ops ms fr A i o K) (g : Grow K K') : FF P ops ms fr A i o K' :=
  ⟨h.1, h.2.1, fun L gl => h.2.2 L (g.trans gl)⟩
theorem FF.add {P : Program} {ops : List Oper} {ms : List Nat} {fr : Fr} {A : Fr} {i : Nat} {o : Oper} {K : Heap} (hil : i < ops.length) (h : FF P ops ms fr A i o K) {j : Nat} {v : Value} (hj : getF A j = none) : FF P ops ms fr ((j, v) :: A) i o K := by
  have key : ∀ t u, getF A t = some u → getF ((j, v) :: A) t = some u := by
    intro t u h1
    simp only [getF]
    split
    · rename_i e; have := Nat.eq_of_beq_eq_true e; subst this; rw [hj] at h1; simp at h1
    · exact h1
  obtain ⟨h1, ⟨u, h2⟩, h3⟩ := h
  have e : envOf ops ms (VA ((j, v) :: A) ops.length) fr i = envOf ops ms (VA A ops.length) fr i := by
    rw [envOf_eq, envOf_eq]
    refine valsOf_congr fun p hp => ?_
    obtain ⟨x, hx⟩ := h1 p hp
    rw [VA_get (pairs_lt p hp), VA_get (pairs_lt p hp), hx, key _ _ hx]
  refine ⟨fun p hp => let ⟨x, hx⟩ := h1 p hp; ⟨x, key _ _ hx⟩, ⟨u, key _ _ h2⟩, fun K' g => ?_⟩
  have h4 := h3 K' g
  have e2 : (VA ((j, v) :: A) ops.length).getD i undef = (VA A ops.length).getD i undef := by rw [VA_get hil, VA_get hil, h2, key _ _ h2]
  rw [e, e2]
  exact h4
theorem wantK_iff {ops : List Oper} {fr : Fr} {g : Option (Nat × Bool)} {X Y : Prop} (h : wantK ops fr g X Y) : (X ∧ ∀ X' Y', X' → wantK ops fr g X' Y') ∨ (Y ∧ ∀ X' Y', Y' → wantK ops fr g X' Y') := by
  unfold wantK at h ⊢
  split at h
  · exact .inl ⟨h, fun X' Y' x => x⟩
  · split at h
    · obtain ⟨v, hv, h⟩ := getK_iff.1 h
      split at h
      · rename_i b
        split at h
        · rcases h.out with ⟨rfl, h⟩ | ⟨rfl, h⟩
          · exact .inl ⟨h, fun X' Y' x => getK_iff.2 ⟨_, hv, x⟩⟩
          · exact .inr ⟨h, fun X' Y' x => getK_iff.2 ⟨_, hv, x⟩⟩
        · rcases h.out with ⟨rfl, h⟩ | ⟨rfl, h⟩
          · exact .inr ⟨h, fun X' Y' x => getK_iff.2 ⟨_, hv, x⟩⟩
          · exact .inl ⟨h, fun X' Y' x => getK_iff.2 ⟨_, hv, x⟩⟩
      · rename_i hne
        refine .inr ⟨h, fun X' Y' x => getK_iff.2 ⟨_, hv, ?_⟩⟩
        split
        · exact absurd rfl (hne _)
        · exact x
    · exact .inr ⟨h, fun X' Y' x => x⟩

/-- How far a region has come in its earliest order. -/
structure St (P : Program) (ops : List Oper) (ms : List Nat) (fr : Fr) (E : List (Nat × Nat)) (Q : BPost) (pre rest : List GDat) (A : Fr) (K : Heap) : Prop where
  dom : ∀ j v, getF A j = some v → ∃ x ∈ pre, x.1 = j
  facts : ∀ x ∈ pre, ∀ o, ops[x.1]? = some o → isMover o = false → FF P ops ms fr A x.1 o K
  go : gops P ops fr E Q rest A K

theorem St.floats {P : Program} {ops : List Oper} {fr : Fr} {E : List (Nat × Nat)} {Q : BPost} : ∀ {rest pre : List GDat} {A : Fr} {K : Heap}, gfit ops (masks ops) (pre ++ rest) 0 = true → gnodup (pre ++ rest) = true → St P ops (masks ops) fr E Q pre rest A K →
    ∃ pre' rest' A', pre ++ rest = pre' ++ rest' ∧ cmov pre' = cmov pre ∧ (rest' = [] ∨ ∃ x r, rest' = x :: r ∧ x.2.2.2 = true) ∧ St P ops (masks ops) fr E Q pre' rest' A' K ∧ ∀ j, (∃ x ∈ pre, x.1 = j) → getF A' j = getF A j := by
  intro rest
  induction rest with
  | nil => intro pre A K hf hn h; exact ⟨pre, [], A, rfl, rfl, .inl rfl, h, fun _ _ => rfl⟩
  | cons x rest ih =>
    intro pre A K hf hn h
    cases hx : x.2.2.2 with
    | true => exact ⟨pre, x :: rest, A, rfl, rfl, .inr ⟨x, rest, rfl, hx⟩, h, fun _ _ => rfl⟩
    | false =>
      obtain ⟨o, ho, hav, hex, hmv, hlo, _⟩ := gfit_get hf
      have hnd := gnodup_get hn
      obtain ⟨i, av, ex, mv⟩ := x
      simp only at ho hav hex hmv hlo hx hnd
      subst hx hav hex
      have hil : i < ops.length := (List.getElem?_eq_some_iff.1 ho).1
      have hnone : getF A i = none := by
        cases hg : getF A i with
        | none => rfl
        | some v => obtain ⟨y, hy, e⟩ := h.dom i v hg; exact absurd e (hnd y hy)
      have hgo := h.go
      simp only [gops] at hgo
      obtain ⟨o', ho', hgo⟩ := hgo.out
      rw [ho] at ho'
      simp only [Option.some.injEq] at ho'
      subst ho'
      obtain ⟨hp, hgo⟩ := bringA_to (m := ops.length) pairs_lt hgo
      rw [← envOf_eq] at hgo
      have fin : ∀ v, gops P ops fr E Q rest ((i, v) :: A) K → (∀ K', Grow K K' → wantK ops (envOf ops (masks ops) (VA A ops.length) fr i) o.guard (boper P o (envOf ops (masks ops) (VA A ops.length) fr i) K' fun u H' => u = v ∧ H' = K') (v = undef)) →
          ∃ pre' rest' A', pre ++ (i, pairsOf ops (masks ops) i, exOf ops (masks ops) i, false) :: rest = pre' ++ rest' ∧ cmov pre' = cmov pre ∧ (rest' = [] ∨ ∃ x r, rest' = x :: r ∧ x.2.2.2 = true) ∧ St P ops (masks ops) fr E Q pre' rest' A' K ∧ ∀ j, (∃ x ∈ pre, x.1 = j) → getF A' j = getF A j := by
        intro v hg hff
        have hgi : getF ((i, v) :: A) i = some v := by simp [getF]
        have hkeep : ∀ t u, getF A t = some u → getF ((i, v) :: A) t = some u := by
          intro t u h1
          simp only [getF]
          split
          · rename_i e; have := Nat.eq_of_beq_eq_true e; subst this; rw [hnone] at h1; simp at h1
          · exact h1
        have hE : envOf ops (masks ops) (VA ((i, v) :: A) ops.length) fr i = envOf ops (masks ops) (VA A ops.length) fr i := by
          rw [envOf_eq, envOf_eq]
          refine valsOf_congr fun p hp' => ?_
          obtain ⟨x, hx⟩ := hp p hp'
          rw [VA_get (pairs_lt p hp'), VA_get (pairs_lt p hp'), hx, hkeep _ _ hx]
        have hnew : St P ops (masks ops) fr E Q (pre ++ [(i, pairsOf ops (masks ops) i, exOf ops (masks ops) i, false)]) rest ((i, v) :: A) K := by
          refine ⟨fun j u hj => ?_, fun y hy o1 ho1 hm1 => ?_, hg⟩
          · simp only [getF] at hj
            split at hj
            · rename_i e; have := Nat.eq_of_beq_eq_true e; subst this; exact ⟨_, List.mem_append_right _ (List.mem_singleton.2 rfl), rfl⟩
            · obtain ⟨y, hy, e⟩ := h.dom j u hj; exact ⟨y, List.mem_append_left _ hy, e⟩
          · rcases List.mem_append.1 hy with hy | hy
            · exact (h.facts y hy o1 ho1 hm1).add (List.getElem?_eq_some_iff.1 ho1).1 hnone
            · rw [List.mem_singleton] at hy
              subst hy
              simp only at ho1
              rw [ho] at ho1
              simp only [Option.some.injEq] at ho1
              subst ho1
              refine ⟨fun p hp' => let ⟨x, hx⟩ := hp p hp'; ⟨x, hkeep _ _ hx⟩, ⟨v, hgi⟩, fun K' g => ?_⟩
              have e2 : (VA ((i, v) :: A) ops.length).getD i undef = v := by rw [VA_get hil, hgi]; rfl
              simp only [hE, e2]
              exact hff K' g
        obtain ⟨pre', rest', A', e1, e2, e3, e4, e5⟩ := ih (by simpa using hf) (by simpa using hn) hnew
        refine ⟨pre', rest', A', by rw [← e1]; simp, by rw [e2, cmov_append]; simp [cmov], e3, e4, fun j hj => ?_⟩
        obtain ⟨y, hy, rfl⟩ := hj
        rw [e5 _ ⟨y, List.mem_append_left _ hy, rfl⟩]
        have : y.1 ≠ i := hnd y hy
        simp only [getF]
        split
        · rename_i e; exact absurd (Nat.eq_of_beq_eq_true e).symm this
        · rfl
      rcases wantK_iff (show wantK ops _ o.guard _ _ from hgo) with ⟨hgo, hw⟩ | ⟨hgo, hw⟩
      · obtain ⟨v, h1, h2⟩ := float_mono hmv.symm (show boper P o _ K _ from hgo)
        exact fin v h1 fun K' g => hw _ _ (h2 K' g _ ⟨rfl, rfl⟩)
      · exact fin undef hgo fun K' g => hw _ _ rfl

theorem SW.drawG {P : Program} {n : Nat} {id : Nat} {ops : Array Oper} {Q : BPost} {fr : Fr} {H : Heap} (L : List GDat) (E : List (Nat × Nat)) (F : Fr) (hm : P.follows .mixedOrders = true) (hok : gIs n ops.toList L E = true) (hF : Has fr F)
    (h : gops P ops.toList F E Q L [] H) : SW P n (.region id ops true) Q fr H := by
  refine SW.sub ?_ (Sub.of hF)
  simp only [gIs, Bool.and_eq_true, List.all_eq_true, decide_eq_true_eq] at hok
  obtain ⟨⟨⟨⟨⟨h1, hfit⟩, hnd⟩, hall⟩, rfl⟩, hnm⟩ := hok
  have hnm' := Nat.eq_of_beq_eq_true hnm
  let R : Nat → List Value → Heap → Prop := fun k V K => ∃ A pre rest, V = VA A ops.toList.length ∧ L = pre ++ rest ∧ cmov pre = k ∧ (rest = [] ∨ ∃ x r, rest = x :: r ∧ x.2.2.2 = true) ∧ St P ops.toList (masks ops.toList) F (endsOf ops.toList) Q pre rest A K
  have place : ∀ i, i < ops.toList.length → ∃ a b x, L = a ++ x :: b ∧ x.1 = i := by
    intro i hi
    have := hall i (List.mem_range.2 hi)
    rw [List.any_eq_true] at this
    obtain ⟨x, hx, e⟩ := this
    obtain ⟨a, b, hab⟩ := List.append_of_mem hx
    exact ⟨a, b, x, hab, Nat.eq_of_beq_eq_true e⟩
  refine SW.drawV R hm h1 ?_ ?_ ?_ ?_
  · have s0 : St P ops.toList (masks ops.toList) F (endsOf ops.toList) Q [] L [] H := ⟨fun j v hj => by simp [getF] at hj, fun x hx => by simp at hx, h⟩
    obtain ⟨pre', rest', A', e1, e2, e3, e4, _⟩ := s0.floats (by simpa using hfit) (by simpa using hnd)
    exact ⟨_, A', pre', rest', rfl, by simpa using e1, by simpa [cmov] using e2, e3, e4⟩
  · -- what changes nothing
    rintro i o k V K ho hmo hlo hhi ⟨A, pre, rest, rfl, e1, e2, e3, st⟩
    obtain ⟨a, b, x, hab, rfl⟩ := place i (List.getElem?_eq_some_iff.1 ho).1
    have hfx := hfit
    rw [hab] at hfx
    obtain ⟨o', ho', _, _, hmv, hlo', _⟩ := gfit_get hfx
    rw [ho] at ho'
    simp only [Option.some.injEq] at ho'
    subst ho'
    have hin : x ∈ pre := by
      -- else it stands in the rest, behind a change
      have hx : x ∈ pre ++ rest := by rw [← e1, hab]; simp
      rcases List.mem_append.1 hx with hx | hx
      · exact hx
      · exfalso
        obtain ⟨r1, r2, hr⟩ := List.append_of_mem hx
        rcases e3 with e3 | ⟨y, r, e3, hy⟩
        · rw [e3] at hx; simp at hx
        · have hfx2 := hfit
          rw [e1, hr, ← List.append_assoc] at hfx2
          obtain ⟨_, _, _, _, _, hlo2, _⟩ := gfit_get hfx2
          rw [cmov_append] at hlo2
          cases r1 with
          | nil =>
            rw [List.nil_append, e3] at hr
            simp only [List.cons.injEq] at hr
            rw [hr.1, hmv, hmo] at hy
            simp at hy
          | cons z r1 =>
            rw [e3, List.cons_append] at hr
            simp only [List.cons.injEq] at hr
            obtain ⟨rfl, _⟩ := hr
            obtain ⟨zi, za, ze, zm⟩ := y
            simp only at hy
            subst hy
            simp only [cmov] at hlo2
            omega
    exact (st.facts x hin o ho hmo).2.2 K (.refl _)
  · -- what lays blocks
    rintro i o k V K ho hmo hlo hhi ⟨A, pre, rest, rfl, e1, e2, e3, st⟩
    obtain ⟨a, b, x, hab, rfl⟩ := place i (List.getElem?_eq_some_iff.1 ho).1
    have hfx := hfit
    rw [hab] at hfx
    obtain ⟨o', ho', _, _, hmv, hlo', hhi'⟩ := gfit_get hfx
    rw [ho] at ho'
    simp only [Option.some.injEq] at ho'
    subst ho'
    have hxm : x.2.2.2 = true := hmv.trans hmo
    have hhi2 := hhi' hxm
    -- it is the next one
    have hrest : ∃ r, rest = x :: r := by
      have hx : x ∈ pre ++ rest := by rw [← e1, hab]; simp
      rcases List.mem_append.1 hx with hx | hx
      · exfalso
        obtain ⟨p1, p2, hp⟩ := List.append_of_mem hx
        have hfx2 := hfit
        rw [e1, hp, List.append_assoc, List.cons_append] at hfx2
        obtain ⟨_, _, _, _, _, hlo2, _⟩ := gfit_get hfx2
        rw [hp, cmov_append] at e2
        obtain ⟨zi, za, ze, zm⟩ := x
        simp only at hxm
        subst hxm
        simp only [cmov] at e2
        simp only at hlo2 hlo' hlo hhi hhi2
        omega
      · obtain ⟨r1, r2, hr⟩ := List.append_of_mem hx
        rcases e3 with e3 | ⟨y, r, e3, hy⟩
        · rw [e3] at hx; simp at hx
        · have hfx2 := hfit
          rw [e1, hr, ← List.append_assoc] at hfx2
          obtain ⟨_, _, _, _, _, hlo2, _⟩ := gfit_get hfx2
          rw [cmov_append] at hlo2
          cases r1 with
          | nil => exact ⟨r2, by simpa using hr⟩
          | cons z r1 =>
            exfalso
            rw [e3, List.cons_append] at hr
            simp only [List.cons.injEq] at hr
            obtain ⟨rfl, _⟩ := hr
            obtain ⟨zi, za, ze, zm⟩ := y
            simp only at hy
            subst hy
            simp only [cmov] at hlo2
            omega
    obtain ⟨r, rfl⟩ := hrest
    have hfx2 := hfit
    rw [e1] at hfx2
    have hnd2 := hnd
    rw [e1] at hnd2
    obtain ⟨_, ho2, hav, hex, _, _, _⟩ := gfit_get hfx2
    have hne := gnodup_get hnd2
    have hnone : getF A x.1 = none := by
      cases hg : getF A x.1 with
      | none => rfl
      | some v => obtain ⟨y, hy, e⟩ := st.dom _ v hg; exact absurd e (hne y hy)
    have hil : x.1 < ops.toList.length := (List.getElem?_eq_some_iff.1 ho).1
    have hgo := st.go
    obtain ⟨i, av, ex, mv⟩ := x
    simp only at hxm hav hex ho hnone hne hil
    subst hxm hav hex
    simp only [gops] at hgo
    obtain ⟨o', ho', hgo⟩ := hgo.out
    rw [ho] at ho'
    simp only [Option.some.injEq] at ho'
    subst ho'
    obtain ⟨hp, hgo⟩ := bringA_to (m := ops.toList.length) pairs_lt hgo
    rw [← envOf_eq] at hgo
    have fin : ∀ (v : Value) (H' : Heap), Grow K H' → gops P ops.toList F (endsOf ops.toList) Q r ((i, v) :: A) H' →
        ∃ V', R (k + 1) V' H' ∧ V'.getD i undef = v ∧ ∀ (j : Nat), j < ops.size → loOf ops.toList (masks ops.toList) j ≤ k → j ≠ i → V'.getD j undef = (VA A ops.toList.length).getD j undef := by
      intro v H' g hg
      have hnew : St P ops.toList (masks ops.toList) F (endsOf ops.toList) Q (pre ++ [(i, pairsOf ops.toList (masks ops.toList) i, exOf ops.toList (masks ops.toList) i, true)]) r ((i, v) :: A) H' := by
        refine ⟨fun j u hj => ?_, fun y hy o1 ho1 hm1 => ?_, hg⟩
        · simp only [getF] at hj
          split at hj
          · rename_i e; have := Nat.eq_of_beq_eq_true e; subst this; exact ⟨_, List.mem_append_right _ (List.mem_singleton.2 rfl), rfl⟩
          · obtain ⟨y, hy, e⟩ := st.dom j u hj; exact ⟨y, List.mem_append_left _ hy, e⟩
        · rcases List.mem_append.1 hy with hy | hy
          · exact ((st.facts y hy o1 ho1 hm1).grow g).add (List.getElem?_eq_some_iff.1 ho1).1 hnone
          · rw [List.mem_singleton] at hy
            subst hy
            simp only at ho1
            rw [ho] at ho1
            simp only [Option.some.injEq] at ho1
            subst ho1
            rw [hmo] at hm1
            simp at hm1
      obtain ⟨pre', rest', A', f1, f2, f3, f4, f5⟩ := hnew.floats (by simpa using hfx2) (by simpa using hnd2)
      refine ⟨_, ⟨A', pre', rest', rfl, by rw [e1, ← f1]; simp, by rw [f2, cmov_append, e2]; simp [cmov], f3, f4⟩, ?_, fun j hj hloj hji => ?_⟩
      · rw [VA_get hil, f5 i ⟨_, List.mem_append_right _ (List.mem_singleton.2 rfl), rfl⟩]
        simp [getF]
      · have hjl : j < ops.toList.length := by simpa using hj
        rw [VA_get hjl, VA_get hjl]
        -- j stands ahead
        obtain ⟨a2, b2, x2, hab2, rfl⟩ := place j hjl
        have hin : x2 ∈ pre := by
          have hx : x2 ∈ pre ++ (i, pairsOf ops.toList (masks ops.toList) i, exOf ops.toList (masks ops.toList) i, true) :: r := by rw [← e1, hab2]; simp
          rcases List.mem_append.1 hx with hx | hx
          · exact hx
          · exfalso
            rcases List.mem_cons.1 hx with rfl | hx
            · exact hji rfl
            · obtain ⟨r1, r2, hr⟩ := List.append_of_mem hx
              have hfx3 := hfit
              rw [e1, hr, ← List.cons_append, ← List.append_assoc] at hfx3
              obtain ⟨_, _, _, _, _, hlo2, _⟩ := gfit_get hfx3
              rw [cmov_append] at hlo2
              simp only [cmov] at hlo2
              omega
        rw [f5 x2.1 ⟨x2, List.mem_append_left _ hin, rfl⟩]
        simp only [getF]
        split
        · rename_i e; exact absurd (Nat.eq_of_beq_eq_true e).symm hji
        · rfl
    rcases wantK_iff (show wantK ops.toList _ o.guard _ _ from hgo) with ⟨hgo, hw⟩ | ⟨hgo, hw⟩
    · refine hw _ _ (boper_mono (K := fun v H' => Grows K H' (gops P ops.toList F (endsOf ops.toList) Q r ((i, v) :: A) H')) hgo fun v H' hk => fin v H' hk.g hk.x)
    · exact hw _ _ (fin undef K (.refl _) hgo)
  · -- the end
    rintro V K ⟨A, pre, rest, rfl, e1, e2, e3, st⟩
    have hr : rest = [] := by
      rcases e3 with e3 | ⟨y, r, e3, hy⟩
      · exact e3
      · exfalso
        rw [e1, cmov_append, e3, e2] at hnm'
        obtain ⟨zi, za, ze, zm⟩ := y
        simp only at hy
        subst hy
        simp only [cmov] at hnm'
        omega
    have hgo := st.go
    rw [hr] at hgo
    simp only [gops] at hgo
    obtain ⟨_, hgo⟩ := bringA_to (m := ops.toList.length) ends_lt hgo
    rw [endOf_eq]
    exact hgo
end Go.Proofs.Ytfobbmllbbckkaa.Ax
/- The abstract machine: lists that lie in rows of cells, strings compared, and small laws of counting. -/
set_option linter.unusedVariables false
set_option linter.unusedSimpArgs false
namespace Go.Proofs.Ytfobbmllbbckkaa.Ax
open Go Go.RowKit
theorem ba_beq (s t : ByteArray) : (s == t) = decide (s = t) := by
  show (s.data == t.data) = _
  by_cases h : s = t
  · subst h; simp
  · rw [decide_eq_false h, beq_eq_false_iff_ne]; exact fun e => h (ByteArray.ext e)
theorem ba_bne (s t : ByteArray) : (s != t) = decide (s ≠ t) := by
  show (!(s == t)) = _
  rw [ba_beq]; by_cases h : s = t <;> simp [h]
theorem ba_ne_t {s t : ByteArray} : (s != t) = true ↔ s ≠ t := by rw [ba_bne, decide_eq_true_eq]
theorem ba_ne_f {s t : ByteArray} : (s != t) = false ↔ s = t := by rw [ba_bne, decide_eq_false_iff_not]; simp
theorem ba_eq_t {s t : ByteArray} : (s == t) = true ↔ s = t := by rw [ba_beq, decide_eq_true_eq]
theorem ba_eq_f {s t : ByteArray} : (s == t) = false ↔ s ≠ t := by rw [ba_beq, decide_eq_false_iff_not]
theorem w_succ {k : Nat} (h : k < 9223372036854775807) : IntKind.i64.wrap ((k : Int) + 1) = ((k + 1 : Nat) : Int) := by rw [wrap_i64 (by omega) (by omega)]; omega
theorem take_next {α : Type} {L M : List α} {m : Nat} {x : α} (h : L.take m = M.take m) (hx : L[m]? = some x) (hy : M[m]? = some x) : L.take (m + 1) = M.take (m + 1) := by
  apply List.ext_getElem?
  intro i
  have := congrArg (·[i]?) h
  simp only [List.getElem?_take] at this ⊢
  by_cases hi : i < m
  · simp only [if_pos hi] at this; simpa [if_pos (show i < m + 1 by omega)] using this
  · by_cases hm : i = m
    · subst hm; rw [if_pos (by omega), if_pos (by omega), hx, hy]
    · rw [if_neg (by omega), if_neg (by omega)]
theorem get_lt {α : Type} {L : List α} {m : Nat} (h : m < L.length) : ∃ x, L[m]? = some x := ⟨_, List.getElem?_eq_getElem h⟩
theorem lt_of_get {α : Type} {L : List α} {m : Nat} {x : α} (h : L[m]? = some x) : m < L.length := (List.getElem?_eq_some_iff.1 h).1
/-- A list that lies in a row of cells. -/
def RL {α : Type} (k : Nat) (f : Heap → List Value → α → Prop) (H : Heap) (sv : Value) (L : List α) : Prop :=
  (sv = .slice none 0 0 ∧ L = []) ∨ ∃ b, sv = .slice (some ⟨b, 0, none⟩) L.length k ∧ (L = [] ∨ ∃ m c, H[b]? = some (.cells m c) ∧ ∀ (i : Nat) (x : α), L[i]? = some x → ∃ l, slotsOf c (i * k) k = some l ∧ f H l x)
theorem RL.grow {α : Type} {k : Nat} {f : Heap → List Value → α → Prop} {H H' : Heap} {sv : Value} {L : List α} (hf : ∀ l x, f H l x → f H' l x) (h : RL k f H sv L) (g : Grow H H') : RL k f H' sv L := by
  rcases h with h | ⟨b, h1, h2 | ⟨m, c, h2, h3⟩⟩
  · exact .inl h
  · exact .inr ⟨b, h1, .inl h2⟩
  · exact .inr ⟨b, h1, .inr ⟨m, c, g.at h2, fun i x hx => let ⟨l, h4, h5⟩ := h3 i x hx; ⟨l, h4, hf _ _ h5⟩⟩⟩
theorem RL.len {α : Type} {k : Nat} {f : Heap → List Value → α → Prop} {H : Heap} {sv : Value} {L : List α} (h : RL k f H sv L) {P : Program} {t e : TypeId} (ht : P.underlying t = some (.slice e)) (H' : Heap) : alen P t sv H' = some (.int .i64 L.length) := by
  rcases h with ⟨rfl, rfl⟩ | ⟨b, rfl, _⟩ <;> simp [alen, ht]
theorem RL.at {α : Type} {k : Nat} {f : Heap → List Value → α → Prop} {H : Heap} {sv : Value} {L : List α} (h : RL k f H sv L) {P : Program} {t e : TypeId} (he : sliceElem P t = some e) (hk : tsize P e = some k) {i : Nat} {x : α} (hx : L[i]? = some x) :
    ∃ b c l, aindexAddr P t sv (.int .i64 (i : Int)) = some (.pointer (some ⟨b, i * k, none⟩)) ∧ hblk H b = some c ∧ slotsOf c (i * k) k = some l ∧ f H l x := by
  have hl := (List.getElem?_eq_some_iff.1 hx).1
  rcases h with ⟨rfl, rfl⟩ | ⟨b, rfl, rfl | ⟨m, c, h2, h3⟩⟩
  · simp at hx
  · simp at hx
  · obtain ⟨l, h4, h5⟩ := h3 i x hx
    refine ⟨b, c, l, ?_, hblk_of h2, h4, h5⟩
    rw [idx_slice (off := 0) (k := k) he hk (by omega) (by omega)]
    simp
theorem RL.ofTy {α : Type} {T : Ty α} {f : Heap → List Value → α → Prop} {H : Heap} {c0 : List Value} {x0 : List α} (hf : ∀ l x, T.R H l x → f H l x) (R : (tSlice T).R H c0 x0) : ∃ sv, c0 = [sv] ∧ RL T.sz f H sv x0 := by
  rcases R with ⟨rfl, rfl⟩ | ⟨b, rfl, h⟩
  · exact ⟨_, rfl, .inl ⟨rfl, rfl⟩⟩
  · refine ⟨_, rfl, .inr ⟨b, rfl, ?_⟩⟩
    rcases h with h | ⟨c, h1, h2, h3⟩
    · exact .inl h
    · refine .inr ⟨_, c, h1, fun i x hx => ⟨_, ?_, hf _ _ (h3 i x hx)⟩⟩
      have hl := (List.getElem?_eq_some_iff.1 hx).1
      have : i * T.sz + T.sz ≤ x0.length * T.sz := by rw [← Nat.succ_mul]; exact Nat.mul_le_mul_right _ hl
      exact slots_of (by omega)
/-- An element of one cell. -/
theorem RL.ld1 {α : Type} {f : Heap → List Value → α → Prop} {g : α → Value} (hf : ∀ H l x, f H l x → l = [g x]) {H : Heap} {sv : Value} {L : List α} (h : RL 1 f H sv L) {P : Program} {t e : TypeId} {d : TypeDesc} (he : sliceElem P t = some e) (hk : tsize P e = some 1) (hd : P.underlying e = some d) (ha : isAggD d = false) {i : Nat} {x : α} (hx : L[i]? = some x) :
    ∃ q, aindexAddr P t sv (.int .i64 (i : Int)) = some q ∧ ∀ H', Grow H H' → aload P e q H' = some (g x) := by
  obtain ⟨b, c, l, h1, h2, h3, h4⟩ := h.at he hk hx
  have := hf _ _ _ h4
  subst this
  refine ⟨_, h1, fun H' gr => ald hd ha (gr.hblk h2) ?_⟩
  unfold slotsOf at h3
  split at h3
  · simp only [Option.some.injEq] at h3
    have := congrArg (·[0]?) h3
    simpa [List.getElem?_take, List.getElem?_drop] using this
  · simp at h3
/-- An element of many cells. -/
theorem RL.ldA {α : Type} {k : Nat} {f : Heap → List Value → α → Prop} {H : Heap} {sv : Value} {L : List α} (h : RL k f H sv L) {P : Program} {t e : TypeId} {d : TypeDesc} (he : sliceElem P t = some e) (hk : tsize P e = some k) (hd : P.underlying e = some d) (ha : isAggD d = true) {i : Nat} {x : α} (hx : L[i]? = some x) :
    ∃ q l, aindexAddr P t sv (.int .i64 (i : Int)) = some q ∧ f H l x ∧ ∀ H', Grow H H' → aload P e q H' = some (.agg l.toArray) := by
  obtain ⟨b, c, l, h1, h2, h3, h4⟩ := h.at he hk hx
  exact ⟨_, l, h1, h4, fun H' gr => ald_agg hd ha hk (gr.hblk h2) h3⟩
def strR (_ : Heap) (l : List Value) (x : ByteArray) : Prop := l = [.string x]
theorem strR.grow {H H' : Heap} {sv : Value} {L : List ByteArray} (h : RL 1 strR H sv L) (g : Grow H H') : RL 1 strR H' sv L := RL.grow (fun l x (h : strR H l x) => (h : strR H' l x)) h g
def intR (_ : Heap) (l : List Value) (x : Int) : Prop := l = [.int .i64 x]
theorem intR.grow {H H' : Heap} {sv : Value} {L : List Int} (h : RL 1 intR H sv L) (g : Grow H H') : RL 1 intR H' sv L := RL.grow (fun l x (h : intR H l x) => (h : intR H' l x)) h g
theorem cons_of {c l : List Value} {a : Value} (h1 : c.take 1 = [a]) (h2 : c.drop 1 = l) : c = a :: l := by rw [← List.take_append_drop 1 c, h1, h2]; rfl
/-- A row that is one's own is a list that lies in a row of cells. -/
theorem RL.own {α : Type} {f : Heap → List Value → α → Prop} {g : α → Value} (hf : ∀ H x, f H [g x] x) {H : Heap} {b : Nat} {m : Mode} {L : List α} (hb : H[b]? = some (.cells m (L.map g))) : RL 1 f H (.slice (some ⟨b, 0, none⟩) L.length 1) L := by
  refine .inr ⟨b, rfl, .inr ⟨m, _, hb, fun i x hx => ⟨[g x], ?_, hf H x⟩⟩⟩
  have hl := lt_of_get hx
  rw [slots_of (by simp; omega)]
  congr 1
  apply List.ext_getElem?
  intro j
  rw [List.getElem?_take, List.getElem?_drop]
  cases j with
  | zero => simp [hx]
  | succ j => simp
/-- A new block that is told by its cells. -/
theorem Ob2.lay {x : Option (Value × Heap)} {K : Value → Heap → Prop} {H : Heap} (B : Blk) (v : Value) (h : x = some (v, H ++ [B])) (k : ∀ H', H'[H.length]? = some B → Grow H H' → H'.length = H.length + 1 → K v H') : Ob2 x K :=
  .of h (k _ (at_push _ _) (.push _ _) (by simp))
theorem Ob.load {P : Program} {t : TypeId} {q a : Value} {H : Heap} {K : Value → Prop} (h : aload P t q H = some a) (k : K a) : Ob (aload P t q H) K := ⟨a, h, k⟩
end Go.Proofs.Ytfobbmllbbckkaa.Ax
/- The abstract machine: a region whose order is open, told by which operations are done. -/
set_option linter.unusedVariables false
set_option linter.unusedSimpArgs false
namespace Go.Proofs.Ytfobbmllbbckkaa.Ax
open Go Go.RowKit
def drawOK2 (n : Nat) (ops : List Oper) : Bool :=
  backE ops && uniqueD (dsts ops) && ops.all fun o => match o.dst with | some d => Nat.blt d n | none => true
theorem SW.drawS {P : Program} {n : Nat} {id : Nat} {ops : Array Oper} {Q : BPost} {fr : Fr} {H : Heap} (R : (Nat → Bool) → List Value → Heap → Prop) (hm : P.follows .mixedOrders = true) (hok : drawOK2 n ops.toList = true) (h0 : ∃ V, R (fun _ => false) V H)
    (step : ∀ (i : Nat) (o : Oper) (L : Nat → Bool) (V : List Value) (K : Heap), ops.toList[i]? = some o → L i = false → (∀ j, ahead (masks ops.toList) i j = true → L j = true) → (∀ j, j < ops.size → ahead (masks ops.toList) j i = true → L j = false) → R L V K →
      wantK ops.toList (envOf ops.toList (masks ops.toList) V fr i) o.guard
        (boper P o (envOf ops.toList (masks ops.toList) V fr i) K fun v H' => ∃ V', R (fun j => L j || decide (j = i)) V' H' ∧ V'.getD i undef = v ∧ ∀ (j : Nat), j < ops.size → L j = true → V'.getD j undef = V.getD j undef)
        (∃ V', R (fun j => L j || decide (j = i)) V' K ∧ V'.getD i undef = undef ∧ ∀ (j : Nat), j < ops.size → L j = true → V'.getD j undef = V.getD j undef))
    (fin : ∀ V H', R (fun i => decide (i < ops.size)) V H' → Q .normal (endOf ops.toList V fr) H') : SW P n (.region id ops true) Q fr H := by
  simp only [drawOK2, Bool.and_eq_true, List.all_eq_true] at hok
  obtain ⟨⟨hback, huniq⟩, hdst⟩ := hok
  refine ⟨fun w0 ι a w hw hf hd => wp_region_any hm ?_⟩
  have uniq : ∀ {i j d : Nat} {o o' : Oper}, ops.toList[i]? = some o → ops.toList[j]? = some o' → o.dst = some d → o'.dst = some d → i = j := by
    intro i j d o o' h1 h2 h3 h4
    exact uniqueD_spec huniq (i := i) (j := j) (d := d) (by simp [dsts] at h1 ⊢; exact ⟨o, h1, h3⟩) (by simp [dsts] at h2 ⊢; exact ⟨o', h2, h4⟩)
  have lt_of : ∀ {i : Nat} {o : Oper}, ops.toList[i]? = some o → i < ops.size := fun h => by have := (List.getElem?_eq_some_iff.1 h).1; simpa using this
  -- the state of a region that is under way
  have go : ∀ (fuel : Nat) (listed : Array Bool) (ι1 : List Pl) (a : Act) (w : World), listed.size = ops.size →
      fuel + (List.range ops.size).countP (fun i => listed.getD i false) = ops.size → DownC ops.toList (fun i => listed.getD i false = true) → Ext ι ι1 →
      (∃ V K, R (fun i => listed.getD i false) V K ∧ WR P w0 ι1 K w ∧ (∀ (j : Nat) (o : Oper) (d : Nat), ops.toList[j]? = some o → o.dst = some d → listed.getD j false = true → VR ι1 (V.getD j undef) (a.tmps.getD d undef))) → a.tmps.size = n → a.defers = [] →
      (∀ (t : Nat) (v : Value), getF fr t = some v → (∀ (j : Nat) (o : Oper), ops.toList[j]? = some o → o.dst = some t → listed.getD j false = false) → t < n ∧ VR ι1 v (a.tmps.getD t undef)) →
      wpAny P .any ops (LB P n w0 ι Q) fuel listed a w := by
    intro fuel
    induction fuel with
    | zero =>
      intro listed ι1 a w hsz hcnt hdown hx hwx hn hd hv2
      obtain ⟨V, K, hRK, hw, hv1⟩ := hwx
      have hall : ∀ i, i < ops.size → listed.getD i false = true := by
        rw [Nat.zero_add] at hcnt
        have := List.countP_eq_length (p := fun i => listed.getD i false) (l := List.range ops.size)
        rw [List.length_range] at this
        intro i hi
        exact this.1 hcnt i (List.mem_range.2 hi)
      have hready : Region.ready .any ops listed = [] := by
        rw [List.eq_nil_iff_forall_not_mem]
        intro j hj
        obtain ⟨h1, o, h2, _⟩ := mem_ready.1 hj
        have hlt := (Array.getElem?_eq_some_iff.1 h2).1
        have := hall j hlt
        rw [Array.getD_eq_getD_getElem?, Array.getElem?_eq_getElem (by omega)] at this h1
        simp only [Option.getD_some] at this h1
        rw [h1] at this; simp at this
      refine ⟨hready, (LB.intro (e := .normal) (fr := endOf ops.toList V fr) rfl hw ⟨hn, fun t v ht => ?_⟩ hd ?_).ext hx⟩
      · unfold endOf at ht
        rcases getF_append ht with h | h
        · simp only [List.mem_filterMap, Prod.exists] at h
          obtain ⟨o, j, hj, h⟩ := h
          have ho := List.mem_zipIdx_iff_getElem?.1 hj
          simp only at ho h
          split at h
          · rename_i d hdd
            simp only [Option.some.injEq, Prod.mk.injEq] at h
            obtain ⟨rfl, rfl⟩ := h
            have h3 := hdst o (List.mem_of_getElem? ho)
            rw [hdd] at h3
            exact ⟨by simpa [Nat.blt_eq] using h3, hv1 j o _ ho hdd (hall j (lt_of ho))⟩
          · simp at h
        · by_cases hex : ∃ (j : Nat) (o : Oper), ops.toList[j]? = some o ∧ o.dst = some t
          · -- it has been written: then the first part tells it
            exfalso
            obtain ⟨j, o, ho, hdd⟩ := hex
            refine h.1 (V.getD j undef) ?_
            simp only [List.mem_filterMap, Prod.exists]
            exact ⟨o, j, List.mem_zipIdx_iff_getElem?.2 ho, by simp only [hdd]⟩
          · exact hv2 t v h.2 fun j o ho hdd => absurd ⟨j, o, ho, hdd⟩ hex
      · have : (fun i => listed.getD i false) = fun i => decide (i < ops.size) := by
          funext i
          by_cases hi : i < ops.size
          · rw [hall i hi]; simp [hi]
          · rw [Array.getD_eq_getD_getElem?, Array.getElem?_eq_none (by omega)]; simp [hi]
        rw [this] at hRK
        exact fin V K hRK
    | succ fuel ih =>
      intro listed ι1 a w hsz hcnt hdown hx hwx hn hd hv2
      obtain ⟨V, K, hRK, hw, hv1⟩ := hwx
      refine ⟨fun hempty => ?_, fun i hi => ?_⟩
      · -- something is ready
        exfalso
        have hne : ∃ i, i < ops.size ∧ listed.getD i false = false := by
          apply Classical.byContradiction
          intro hno
          have : (List.range ops.size).countP (fun i => listed.getD i false) = ops.size := by
            have h1 := (List.countP_eq_length (p := fun i => listed.getD i false) (l := List.range ops.size)).2 (fun i hi => by
              have : ¬ (listed.getD i false = false) := fun h => hno ⟨i, List.mem_range.1 hi, h⟩
              simpa using this)
            rwa [List.length_range] at h1
          omega
        have key : ∀ m, ∀ i, i ≤ m → i < ops.size → listed.getD i false = false → ∃ j, j ∈ Region.ready .any ops listed := by
          intro m
          induction m with
          | zero =>
            intro i hi hlt hl
            refine ⟨i, mem_ready.2 ⟨?_, ops[i], by simp [hlt], fun e he hb => ?_⟩⟩
            · rw [Array.getD_eq_getD_getElem?, Array.getElem?_eq_getElem (by omega)] at hl ⊢; exact hl
            · have := backE_spec hback (i := i) (o := ops[i]) (by simp [hlt]) (by simpa using he) hb
              omega
          | succ m ihm =>
            intro i hi hlt hl
            by_cases hall : ∀ e ∈ ops[i].after, Region.binds .any e = true → listed.getD e.on false = true
            · refine ⟨i, mem_ready.2 ⟨?_, ops[i], by simp [hlt], hall⟩⟩
              rw [Array.getD_eq_getD_getElem?, Array.getElem?_eq_getElem (by omega)] at hl ⊢; exact hl
            · simp only [Classical.not_forall, Bool.not_eq_true] at hall
              obtain ⟨e, he, hb, hle⟩ := hall
              have := backE_spec hback (i := i) (o := ops[i]) (by simp [hlt]) (by simpa using he) hb
              exact ihm e.on (by omega) (by omega) hle
        obtain ⟨i, hlt, hl⟩ := hne
        obtain ⟨j, hj⟩ := key i i (Nat.le_refl _) hlt hl
        rw [hempty] at hj
        simp at hj
      · obtain ⟨hl1, o, ho, hpre⟩ := mem_ready.1 hi
        have hlt : i < ops.size := (Array.getElem?_eq_some_iff.1 ho).1
        have hol : ops.toList[i]? = some o := by rw [Array.getElem?_toList]; exact ho
        have hl : listed.getD i false = false := by
          rw [Array.getD_eq_getD_getElem?, Array.getElem?_eq_getElem (by omega)] at hl1 ⊢; exact hl1
        have hset : ∀ j, (listed.setIfInBounds i true).getD j false = (listed.getD j false || decide (j = i)) := by
          intro j
          rw [Array.getD_eq_getD_getElem?, Array.getD_eq_getD_getElem?, Array.getElem?_setIfInBounds]
          by_cases hji : i = j
          · subst hji; rw [if_pos rfl, if_pos (by omega)]; simp
          · rw [if_neg hji]; simp [show ¬ j = i from fun h => hji h.symm]
        -- what is ahead of it is listed; what it is ahead of is not
        have hah : ∀ j, ahead (masks ops.toList) i j = true → listed.getD j false = true := by
          intro j hj
          obtain ⟨acc', h1, h2, h3⟩ := masksFrom_get ops.toList [] i o hol
          simp only [List.length_nil, Nat.zero_add] at h1 h2
          unfold ahead masks at hj
          rw [h2] at hj
          obtain ⟨e, he, hp, h4⟩ := maskOf_bit hj
          have hlt2 := backE_spec hback hol he hp
          have hle := hpre e (by simpa using he) hp
          rcases h4 with rfl | h4
          · exact hle
          · rw [h3 _ (by omega)] at h4
            exact ahead_listed hback hdown e.on e.on j (Nat.le_refl _) (by simp; omega) hle h4
        have hbh : ∀ j, j < ops.size → ahead (masks ops.toList) j i = true → listed.getD j false = false := by
          intro j hj h
          cases hlj : listed.getD j false with
          | false => rfl
          | true =>
            have := ahead_listed hback hdown j j i (Nat.le_refl _) (by simpa using hj) hlj h
            rw [hl] at this; simp at this
        -- what is known
        have henv : FB n ι1 (envOf ops.toList (masks ops.toList) V fr i) a := by
          refine ⟨hn, fun t v ht => ?_⟩
          unfold envOf at ht
          rcases getF_append ht with h | h
          · simp only [List.mem_filterMap, Prod.exists] at h
            obtain ⟨o', j, hj, h⟩ := h
            have ho' := List.mem_zipIdx_iff_getElem?.1 hj
            simp only at ho' h
            split at h
            · rename_i d hdd
              split at h
              · rename_i haj
                simp only [Option.some.injEq, Prod.mk.injEq] at h
                obtain ⟨rfl, rfl⟩ := h
                have h3 := hdst o' (List.mem_of_getElem? ho')
                rw [hdd] at h3
                exact ⟨by simpa [Nat.blt_eq] using h3, hv1 j o' _ ho' hdd (hah j haj)⟩
              · simp at h
            · simp at h
          · obtain ⟨h1, h2⟩ := getF_filter (q := fun t => (ops.toList.zipIdx).all fun y => match y.1.dst with | some d => !Nat.beq d t || Nat.beq y.2 i || ahead (masks ops.toList) y.2 i | none => true) h.2
            refine hv2 t v h2 fun j o' ho' hdd => ?_
            rw [List.all_eq_true] at h1
            have h3 := h1 (o', j) (List.mem_zipIdx_iff_getElem?.2 ho')
            simp only [hdd, Nat.beq_refl, Bool.not_true, Bool.false_or, Bool.or_eq_true] at h3
            rcases h3 with h3 | h3
            · have := Nat.eq_of_beq_eq_true h3; subst this; exact hl
            · exact hbh j (lt_of ho') h3
        -- what comes behind
        have next : ∀ (v cv : Value) (H' : Heap) (ι2 : List Pl) (w' : World) (V' : List Value), v = V'.getD i undef → R (fun j => listed.getD j false || decide (j = i)) V' H' →
            (∀ j, j < ops.size → listed.getD j false = true → V'.getD j undef = V.getD j undef) →
            Ext ι1 ι2 → WR P w0 ι2 H' w' → VR ι2 v cv → wpAny P .any ops (LB P n w0 ι Q) fuel (listed.setIfInBounds i true) (a.put o.dst cv) w' := by
          intro v cv H' ι2 w' V' hv hH hag hx2 hw2 hr
          subst hv
          have hfun : (fun j => (listed.setIfInBounds i true).getD j false) = fun j => listed.getD j false || decide (j = i) := funext hset
          refine ih (listed.setIfInBounds i true) ι2 (a.put o.dst cv) w' (by simpa using hsz) ?_ ?_ (hx.trans hx2) ⟨V', H', by rw [hfun]; exact hH, hw2, ?_⟩ ?_ (by rw [put_defers]; exact hd) ?_
          · have := count_add (l := List.range ops.size) List.nodup_range (List.mem_range.2 hlt) (fun j => listed.getD j false) (fun j => (listed.setIfInBounds i true).getD j false) hl hset
            omega
          · intro j oj hoj hLj e he hp
            simp only [hset, Bool.or_eq_true, decide_eq_true_eq] at hLj ⊢
            rcases hLj with hLj | rfl
            · exact .inl (hdown j oj hoj hLj e he hp)
            · rw [hol] at hoj; simp only [Option.some.injEq] at hoj; subst hoj
              exact .inl (hpre e (by simpa using he) hp)
          · intro j oj d hoj hdd hLj
            rw [hset] at hLj
            simp only [Bool.or_eq_true, decide_eq_true_eq] at hLj
            by_cases hji : j = i
            · subst hji
              rw [hol] at hoj; simp only [Option.some.injEq] at hoj; subst hoj
              have h3 := hdst o (List.mem_of_getElem? hol)
              rw [hdd] at h3 ⊢
              simp only [Nat.blt_eq] at h3
              simp only [Act.put]
              rw [Array.getD_eq_getD_getElem? (xs := a.tmps.setIfInBounds _ _), Array.getElem?_setIfInBounds, if_pos rfl, if_pos (by omega)]
              exact hr
            · have hLj' := hLj.resolve_right hji
              rw [hag j (lt_of hoj) hLj']
              have h4 := (hv1 j oj d hoj hdd hLj').ext hx2
              cases hod : o.dst with
              | none => exact h4
              | some d' =>
                have hne : d' ≠ d := fun h => by subst h; exact hji (uniq hoj hol hdd hod)
                simp only [Act.put]
                rw [Array.getD_eq_getD_getElem? (xs := a.tmps.setIfInBounds _ _), Array.getElem?_setIfInBounds, if_neg hne]
                rwa [Array.getD_eq_getD_getElem? (xs := a.tmps)] at h4
          · cases hod : o.dst with
            | none => exact hn
            | some d => simp [Act.put, hn]
          · intro t v ht hno
            obtain ⟨h4, h5⟩ := hv2 t v ht fun j oj hoj hdd => by
              have := hno j oj hoj hdd
              rw [hset] at this
              simp only [Bool.or_eq_false_iff] at this
              exact this.1
            refine ⟨h4, ?_⟩
            have h5 := h5.ext hx2
            cases hod : o.dst with
            | none => exact h5
            | some d' =>
              have hne : d' ≠ t := fun h => by
                subst h
                have := hno i o hol hod
                rw [hset] at this
                simp at this
              simp only [Act.put]
              rw [Array.getD_eq_getD_getElem?, Array.getElem?_setIfInBounds, if_neg hne]
              rwa [Array.getD_eq_getD_getElem?] at h5
        unfold wpOp
        rw [ho]
        simp only
        rcases wantK_sound henv (step i o _ V K hol hl hah hbh hRK) with ⟨h1, h⟩ | ⟨h1, h⟩
        · rw [if_pos h1]
          refine .inl (boper_sound hw henv h fun v H' ι' cv w' k h1 h2 h3 => ?_)
          obtain ⟨V', k1, k2, k3⟩ := k
          exact next v cv H' ι' w' V' k2.symm k1 k3 h1 h2 h3
        · rw [if_neg (by simp [h1])]
          obtain ⟨V', k1, k2, k3⟩ := h
          exact next undef undef K ι1 w V' k2.symm k1 k3 (.refl _) hw (.undef ι1)
  obtain ⟨V0, hV0⟩ := h0
  refine go ops.size _ ι a _ (by simp) ?_ ?_ (.refl _) ⟨V0, H, ?_, hw.drew, ?_⟩ hf.size hd ?_
  · have : (List.range ops.size).countP (fun i => (Array.replicate ops.size false).getD i false) = 0 := by
      rw [List.countP_eq_zero]
      intro i hi
      have := List.mem_range.1 hi
      simp [Array.getD_eq_getD_getElem?, this]
    omega
  · intro i o ho hL
    have := lt_of ho
    simp [Array.getD_eq_getD_getElem?, this] at hL
  · have : (fun i => (Array.replicate ops.size false).getD i false) = fun _ => false := by
      funext i
      by_cases hi : i < ops.size
      · simp [Array.getD_eq_getD_getElem?, hi]
      · rw [Array.getD_eq_getD_getElem?, Array.getElem?_eq_none (by simp; omega)]; rfl
    rw [this]
    exact hV0
  · intro j o d ho hdd hL
    have := lt_of ho
    simp [Array.getD_eq_getD_getElem?, this] at hL
  · intro t v ht _
    exact hf.val t v ht

end Go.Proofs.Ytfobbmllbbckkaa.Ax
/- The abstract machine: a region whose order is open, that lays two new blocks and fills each with a value: what is known while it is under way. -/
set_option linter.unusedVariables false
set_option linter.unusedSimpArgs false
namespace Go.Proofs.Ytfobbmllbbckkaa.Ax
open Go Go.RowKit
/-- nf operations that only read, then two new blocks (numbers nf, nf + 1), then a store into each. -/
structure R2 (nf : Nat) (C : List Value) (H0 : Heap) (z1 z2 x1 x2 : List Value) (L : Nat → Bool) (V : List Value) (K : Heap) : Prop where
  len : V.length = nf + 4
  val : ∀ j, j < nf → L j = true → V.getD j undef = C.getD j undef
  grow : Grow H0 K
  fst : L nf = true → ∃ a, H0.length ≤ a ∧ V.getD nf undef = .pointer (some ⟨a, 0, none⟩) ∧ K[a]? = some (.cells .var (if L (nf + 2) then x1 else z1))
  snd : L (nf + 1) = true → ∃ a, H0.length ≤ a ∧ V.getD (nf + 1) undef = .pointer (some ⟨a, 0, none⟩) ∧ K[a]? = some (.cells .var (if L (nf + 3) then x2 else z2))
  ne : L nf = true → L (nf + 1) = true → V.getD nf undef ≠ V.getD (nf + 1) undef
theorem getD_set {V : List Value} {i j : Nat} {v : Value} (hi : i < V.length) : (V.set i v).getD j undef = if j = i then v else V.getD j undef := by
  rw [List.getD_eq_getElem?_getD, List.getElem?_set, List.getD_eq_getElem?_getD]
  by_cases h : i = j
  · subst h; simp [hi]
  · rw [if_neg h, if_neg (fun e => h e.symm)]
abbrev R2.Next (nf : Nat) (C : List Value) (H0 : Heap) (z1 z2 x1 x2 : List Value) (L : Nat → Bool) (V : List Value) (i size : Nat) (v : Value) (K : Heap) : Prop :=
  ∃ V', R2 nf C H0 z1 z2 x1 x2 (fun j => L j || decide (j = i)) V' K ∧ V'.getD i undef = v ∧ ∀ (j : Nat), j < size → L j = true → V'.getD j undef = V.getD j undef
section
variable {nf : Nat} {C : List Value} {H0 : Heap} {z1 z2 x1 x2 : List Value} {L : Nat → Bool} {V : List Value} {K : Heap} {i size : Nat}
theorem R2.init (nf : Nat) (C : List Value) (H0 : Heap) (z1 z2 x1 x2 : List Value) : ∃ V, R2 nf C H0 z1 z2 x1 x2 (fun _ => false) V H0 :=
  ⟨List.replicate (nf + 4) undef, by simp, fun _ _ h => by simp at h, .refl _, fun h => by simp at h, fun h => by simp at h, fun h => by simp at h⟩
theorem R2.rest (h : R2 nf C H0 z1 z2 x1 x2 L V K) (hl : L i = false) (hi : i < nf + 4) (v : Value) : ∀ (j : Nat), j < size → L j = true → (V.set i v).getD j undef = V.getD j undef := by
  intro j _ hj
  rw [getD_set (by have := h.len; omega), if_neg (fun e => by subst e; rw [hl] at hj; simp at hj)]
theorem R2.float (h : R2 nf C H0 z1 z2 x1 x2 L V K) (hl : L i = false) (hi : i < nf) {v : Value} (hv : C.getD i undef = v) : R2.Next nf C H0 z1 z2 x1 x2 L V i size v K := by
  have hs := h.len
  have ne : ∀ j, nf ≤ j → (L j || decide (j = i)) = L j := fun j hj => by simp [show j ≠ i by omega]
  refine ⟨V.set i v, ⟨by simp [hs], fun j hj hL => ?_, h.grow, fun hL => ?_, fun hL => ?_, fun hL hL' => ?_⟩, by rw [getD_set (by omega), if_pos rfl], h.rest hl (by omega) v⟩
  · rw [getD_set (by omega)]
    split
    · rename_i e; subst e; exact hv.symm
    · rename_i e; refine h.val j hj ?_; simpa [e] using hL
  · simp only [ne _ (Nat.le_refl nf)] at hL
    obtain ⟨a, h1, h2, h3⟩ := h.fst hL
    simp only [ne (nf + 2) (by omega)]
    exact ⟨a, h1, by rw [getD_set (by omega), if_neg (by omega)]; exact h2, h3⟩
  · simp only [ne (nf + 1) (by omega)] at hL
    obtain ⟨a, h1, h2, h3⟩ := h.snd hL
    simp only [ne (nf + 3) (by omega)]
    exact ⟨a, h1, by rw [getD_set (by omega), if_neg (by omega)]; exact h2, h3⟩
  · simp only [ne _ (Nat.le_refl nf)] at hL
    simp only [ne (nf + 1) (by omega)] at hL'
    rw [getD_set (by omega), if_neg (by omega), getD_set (by omega), if_neg (by omega)]
    exact h.ne hL hL'
theorem R2.allocA (h : R2 nf C H0 z1 z2 x1 x2 L V K) (hi : i = nf) (hl : L i = false) (hs : L (nf + 2) = false) : R2.Next nf C H0 z1 z2 x1 x2 L V i size (.pointer (some ⟨K.length, 0, none⟩)) (K ++ [.cells .var z1]) := by
  subst hi
  have hs' := h.len
  refine ⟨V.set i (.pointer (some ⟨K.length, 0, none⟩)), ⟨by simp [hs'], fun j hj hL => ?_, h.grow.trans (.push _ _), fun _ => ?_, fun hL => ?_, fun _ hL' => ?_⟩, by rw [getD_set (by omega), if_pos rfl], h.rest hl (by omega) _⟩
  · rw [getD_set (by omega), if_neg (by omega)]
    refine h.val j hj ?_
    simpa [show j ≠ i by omega] using hL
  · refine ⟨K.length, h.grow.1, by rw [getD_set (by omega), if_pos rfl], ?_⟩
    simp [hs]
  · simp only [show (decide (i + 1 = i)) = false by simp, Bool.or_false] at hL
    obtain ⟨a, h1, h2, h3⟩ := h.snd hL
    refine ⟨a, h1, by rw [getD_set (by omega), if_neg (by omega)]; exact h2, ?_⟩
    simp only [show (decide (i + 3 = i)) = false by simp, Bool.or_false]
    rw [List.getElem?_append_left (lt_at h3)]; exact h3
  · simp only [show (decide (i + 1 = i)) = false by simp, Bool.or_false] at hL'
    obtain ⟨a, h1, h2, h3⟩ := h.snd hL'
    rw [getD_set (by omega), if_pos rfl, getD_set (by omega), if_neg (by omega), h2]
    have := lt_at h3
    intro e
    simp only [Value.pointer.injEq, Option.some.injEq, Addr.mk.injEq, and_true] at e
    omega
theorem R2.allocB (h : R2 nf C H0 z1 z2 x1 x2 L V K) (hi : i = nf + 1) (hl : L i = false) (hs : L (nf + 3) = false) : R2.Next nf C H0 z1 z2 x1 x2 L V i size (.pointer (some ⟨K.length, 0, none⟩)) (K ++ [.cells .var z2]) := by
  subst hi
  have hs' := h.len
  refine ⟨V.set (nf + 1) (.pointer (some ⟨K.length, 0, none⟩)), ⟨by simp [hs'], fun j hj hL => ?_, h.grow.trans (.push _ _), fun hL => ?_, fun _ => ?_, fun hL _ => ?_⟩, by rw [getD_set (by omega), if_pos rfl], h.rest hl (by omega) _⟩
  · rw [getD_set (by omega), if_neg (by omega)]
    refine h.val j hj ?_
    simpa [show j ≠ nf + 1 by omega] using hL
  · simp only [show (decide (nf = nf + 1)) = false by simp, Bool.or_false] at hL
    obtain ⟨a, h1, h2, h3⟩ := h.fst hL
    refine ⟨a, h1, by rw [getD_set (by omega), if_neg (by omega)]; exact h2, ?_⟩
    simp only [show (decide (nf + 2 = nf + 1)) = false by simp, Bool.or_false]
    rw [List.getElem?_append_left (lt_at h3)]; exact h3
  · refine ⟨K.length, h.grow.1, by rw [getD_set (by omega), if_pos rfl], ?_⟩
    simp [hs]
  · simp only [show (decide (nf = nf + 1)) = false by simp, Bool.or_false] at hL
    obtain ⟨a, h1, h2, h3⟩ := h.fst hL
    rw [getD_set (by omega), if_neg (by omega), getD_set (by omega), if_pos rfl, h2]
    have := lt_at h3
    intro e
    simp only [Value.pointer.injEq, Option.some.injEq, Addr.mk.injEq, and_true] at e
    omega
theorem R2.storeA (h : R2 nf C H0 z1 z2 x1 x2 L V K) (hi : i = nf + 2) (hl : L i = false) (h0 : L nf = true) {a : Nat} (ha : V.getD nf undef = .pointer (some ⟨a, 0, none⟩)) {K' : Heap} (hK : K'[a]? = some (.cells .var x1)) (hB : But a K K') : R2.Next nf C H0 z1 z2 x1 x2 L V i size undef K' := by
  subst hi
  have hs' := h.len
  obtain ⟨a', h1, h2, h3⟩ := h.fst h0
  rw [ha] at h2
  simp only [Value.pointer.injEq, Option.some.injEq, Addr.mk.injEq, and_true] at h2
  subst h2
  refine ⟨V.set (nf + 2) undef, ⟨by simp [hs'], fun j hj hL => ?_, h.grow.but_new hB h1, fun _ => ?_, fun hL => ?_, fun _ hL' => ?_⟩, by rw [getD_set (by omega), if_pos rfl], h.rest hl (by omega) _⟩
  · rw [getD_set (by omega), if_neg (by omega)]
    refine h.val j hj ?_
    simpa [show j ≠ nf + 2 by omega] using hL
  · refine ⟨a, h1, by rw [getD_set (by omega), if_neg (by omega)]; exact ha, ?_⟩
    simpa using hK
  · simp only [show (decide (nf + 1 = nf + 2)) = false by simp, Bool.or_false] at hL
    obtain ⟨b, k1, k2, k3⟩ := h.snd hL
    refine ⟨b, k1, by rw [getD_set (by omega), if_neg (by omega)]; exact k2, ?_⟩
    simp only [show (decide (nf + 3 = nf + 2)) = false by simp, Bool.or_false]
    refine hB.at k3 fun e => h.ne h0 hL ?_
    rw [ha, k2, e]
  · simp only [show (decide (nf + 1 = nf + 2)) = false by simp, Bool.or_false] at hL'
    rw [getD_set (by omega), if_neg (by omega), getD_set (by omega), if_neg (by omega)]
    exact h.ne h0 hL'
theorem R2.storeB (h : R2 nf C H0 z1 z2 x1 x2 L V K) (hi : i = nf + 3) (hl : L i = false) (h0 : L (nf + 1) = true) {a : Nat} (ha : V.getD (nf + 1) undef = .pointer (some ⟨a, 0, none⟩)) {K' : Heap} (hK : K'[a]? = some (.cells .var x2)) (hB : But a K K') : R2.Next nf C H0 z1 z2 x1 x2 L V i size undef K' := by
  subst hi
  have hs' := h.len
  obtain ⟨a', h1, h2, h3⟩ := h.snd h0
  rw [ha] at h2
  simp only [Value.pointer.injEq, Option.some.injEq, Addr.mk.injEq, and_true] at h2
  subst h2
  refine ⟨V.set (nf + 3) undef, ⟨by simp [hs'], fun j hj hL => ?_, h.grow.but_new hB h1, fun hL => ?_, fun _ => ?_, fun hL _ => ?_⟩, by rw [getD_set (by omega), if_pos rfl], h.rest hl (by omega) _⟩
  · rw [getD_set (by omega), if_neg (by omega)]
    refine h.val j hj ?_
    simpa [show j ≠ nf + 3 by omega] using hL
  · simp only [show (decide (nf = nf + 3)) = false by simp, Bool.or_false] at hL
    obtain ⟨b, k1, k2, k3⟩ := h.fst hL
    refine ⟨b, k1, by rw [getD_set (by omega), if_neg (by omega)]; exact k2, ?_⟩
    simp only [show (decide (nf + 2 = nf + 3)) = false by simp, Bool.or_false]
    refine hB.at k3 fun e => h.ne hL h0 ?_
    rw [ha, k2, e]
  · refine ⟨a, h1, by rw [getD_set (by omega), if_neg (by omega)]; exact ha, ?_⟩
    simpa using hK
  · simp only [show (decide (nf = nf + 3)) = false by simp, Bool.or_false] at hL
    rw [getD_set (by omega), if_neg (by omega), getD_set (by omega), if_neg (by omega)]
    exact h.ne hL h0
end
end Go.Proofs.Ytfobbmllbbckkaa.Ax
/- The abstract machine: a loop made by a label: what is ahead of the label, then each round from the label on. -/
set_option linter.unusedVariables false
set_option linter.unusedSimpArgs false
namespace Go.Proofs.Ytfobbmllbbckkaa.Ax
open Go Go.RowKit
/-- What is behind a label. -/
def behind : Code → Nat → Option Code
  | .seq x y, l => match x with
    | .label l' => match Nat.beq l' l with | true => some y | false => none
    | .region _ _ _ => behind y l
    | _ => none
  | _, _ => none
theorem behind_find {l : Nat} : ∀ {c r : Code}, behind c l = some r → findLabel c l = some (.seq .skip r) := by
  intro c
  induction c with
  | seq x y ihx ihy =>
    intro r h
    cases x with
    | label l' =>
      simp only [behind] at h
      cases hb : Nat.beq l' l with
      | true =>
        simp only [hb, Option.some.injEq] at h
        subst h
        have := Nat.eq_of_beq_eq_true hb
        subst this
        simp [findLabel]
      | false => simp [hb] at h
    | region id ops d =>
      simp only [behind] at h
      simp [findLabel, ihy h]
    | _ => simp [behind] at h
  | _ => intro r h; simp [behind] at h
/-- Code up to a label; there M is to hold. -/
def bCut (P : Program) (n l : Nat) : Code → BPost → (Fr → Heap → Prop) → Fr → Heap → Prop
  | .seq x y, Q, M => match x with
    | .label l' => match Nat.beq l' l with | true => M | false => fun _ _ => False
    | .region id ops d => bC P n (.region id ops d) (thenB (bCut P n l y Q M) Q)
    | _ => fun _ _ => False
  | _, _, _ => fun _ _ => False
theorem bCut_sound {P : Program} {n l : Nat} : ∀ (c : Code) (Q : BPost) (M : Fr → Heap → Prop) (fr : Fr) (H : Heap), bCut P n l c Q M fr H →
    (∀ r fr H, behind c l = some r → M fr H → SW P n r Q fr H) → SW P n c Q fr H := by
  intro c
  induction c with
  | seq x y ihx ihy =>
    intro Q M fr H h hM
    cases x with
    | label l' =>
      simp only [bCut] at h
      cases hb : Nat.beq l' l with
      | true =>
        simp only [hb] at h
        have h1 := hM y fr H (by simp [behind, hb]) h
        exact SW.seq (fun fr' H' => fr' = fr ∧ H' = H) (bC_sound _ _ _ _ ⟨rfl, rfl⟩) fun fr' H' ⟨e1, e2⟩ => by subst e1 e2; exact h1
      | false => simp [hb] at h
    | region id ops d =>
      simp only [bCut] at h
      exact SW.seq (bCut P n l y Q M) (bC_sound _ _ _ _ h) fun fr H hb => ihy Q M fr H hb fun r fr H hr => hM r fr H (by simp [behind, hr])
    | _ => simp [bCut] at h
  | _ => intro Q M fr H h hM; exact h.elim
/-- A scope of one label that is come to again and again. -/
theorem SW.scopeC {P : Program} {n : Nat} {c : Code} {Q : BPost} {fr : Fr} {H : Heap} {α : Type} (l : Nat) (r : Code) (F : α → Fr) (I : α → Heap → Prop) (μ : α → Nat) (hr : behind c l = some r)
    (first : bCut P n l c (scopeP c (fun _ => l) F I (fun _ => True) Q) (fun fr H => ∃ x, Has fr (F x) ∧ I x H) fr H)
    (step : ∀ x H, I x H → SW P n r (scopeP c (fun _ => l) F I (fun y => μ y < μ x) Q) (F x) H) : SW P n (.scope c) Q fr H := by
  have hf := behind_find hr
  have weak : ∀ x, ∀ e fr H, scopeP c (fun _ => l) F I (fun y => μ y < μ x) Q e fr H → scopeP c (fun _ => l) F I (fun _ => True) Q e fr H := by
    intro x e fr H h
    cases e with
    | goto l' =>
      simp only [scopeP] at h ⊢
      cases hl : findLabel c l' with
      | none => simpa [hl] using h
      | some r' =>
        simp only [hl] at h ⊢
        obtain ⟨y, h1, h2, h3, h4⟩ := h
        exact ⟨y, h1, h2, h3, trivial⟩
    | _ => exact h
  refine SW.scope (fun _ => l) F I μ (bCut_sound _ _ _ _ _ first fun r' fr H hr' hM => ?_) fun x H r' hI hr' => ?_
  · rw [hr] at hr'
    simp only [Option.some.injEq] at hr'
    subst hr'
    obtain ⟨x, hx, hI⟩ := hM
    exact SW.sub ((step x H hI).mono (weak x)) (Sub.of hx)
  · rw [hf] at hr'
    simp only [Option.some.injEq] at hr'
    subst hr'
    exact SW.seq (fun fr' H' => fr' = F x ∧ H' = H) (bC_sound _ _ _ _ ⟨rfl, rfl⟩) fun fr' H' ⟨e1, e2⟩ => by subst e1 e2; exact step x _ hI
end Go.Proofs.Ytfobbmllbbckkaa.Ax
/- The abstract machine: rows that are one's own, of elements of some cells: appended to, read and written; what stays, told by the types of rows. -/
set_option linter.unusedVariables false
set_option linter.unusedSimpArgs false
namespace Go.Proofs.Ytfobbmllbbckkaa.Ax
open Go Go.RowKit
structure RowOK (P : Program) (t e : TypeId) (k : Nat) : Prop where
  el : sliceElem P t = some e
  inf : ∃ i, P.info? e = some i ∧ i.size = k ∧ i.bytes ≤ 4096
  und : ∃ d, P.underlying t = some d ∧ noInt d = true
  k0 : k ≠ 0
  zs : ∃ z, tzero P e = some z ∧ z.length = k
/-- No row of a type. -/
def NotRow (e : TypeId) (X : Blk) : Prop := ∀ c, X ≠ .cells (.row e) c
/-- All stays but rows of one type, from a block on. -/
def FrR (n : Nat) (e : TypeId) (A B : Heap) : Prop := A.length ≤ B.length ∧ ∀ q X, A[q]? = some X → q < n ∨ NotRow e X → B[q]? = some X
theorem FrR.refl (n : Nat) (e : TypeId) (A : Heap) : FrR n e A A := ⟨Nat.le_refl _, fun _ _ h _ => h⟩
theorem FrR.trans {n : Nat} {e : TypeId} {A B C : Heap} (h : FrR n e A B) (k : FrR n e B C) : FrR n e A C := ⟨Nat.le_trans h.1 k.1, fun q X hq hx => k.2 q X (h.2 q X hq hx) hx⟩
theorem FrR.of {n : Nat} {e : TypeId} {A B : Heap} (h : Grow A B) : FrR n e A B := ⟨h.1, fun q X hq _ => h.at hq⟩
theorem FrR.grow {n : Nat} {e : TypeId} {A0 A B : Heap} (g : Grow A0 A) (h : FrR n e A B) (hn : A0.length ≤ n) : Grow A0 B :=
  ⟨Nat.le_trans g.1 h.1, fun q hq => by
    have h1 := g.2 q hq
    cases hx : A[q]? with
    | none => have := List.getElem?_eq_none_iff.1 hx; have := g.1; omega
    | some X => rw [← h1, hx]; exact h.2 q X hx (.inl (by omega))⟩
/-- A list that lies in a row that is one's own. -/
def OwnR {α : Type} (k : Nat) (e : TypeId) (f : Heap → List Value → α → Prop) (H : Heap) (sv : Value) (L : List α) : Prop :=
  (sv = .slice none 0 0 ∧ L = []) ∨ ∃ b c, sv = .slice (some ⟨b, 0, none⟩) L.length k ∧ H[b]? = some (.cells (.row e) c) ∧ c.length = L.length * k ∧ ∀ (i : Nat) x, L[i]? = some x → ∃ l, slotsOf c (i * k) k = some l ∧ f H l x
theorem OwnR.rl {α : Type} {k : Nat} {e : TypeId} {f : Heap → List Value → α → Prop} {H : Heap} {sv : Value} {L : List α} (h : OwnR k e f H sv L) : RL k f H sv L := by
  rcases h with h | ⟨b, c, h1, h2, h3, h4⟩
  · exact .inl h
  · exact .inr ⟨b, h1, .inr ⟨_, c, h2, h4⟩⟩
theorem OwnR.form {α : Type} {k : Nat} {e : TypeId} {f : Heap → List Value → α → Prop} {H : Heap} {sv : Value} {L : List α} (h : OwnR k e f H sv L) : ∃ a n m, sv = .slice a n m := by
  rcases h with ⟨h, _⟩ | ⟨b, c, h, _⟩ <;> exact ⟨_, _, _, h⟩
/-- Where it lies. -/
def blkIs (sv : Value) (b : Nat) : Prop := ∃ n k, sv = .slice (some ⟨b, 0, none⟩) n k
theorem OwnR.keep {α : Type} {k : Nat} {e : TypeId} {f : Heap → List Value → α → Prop} {H H' : Heap} {sv : Value} {L : List α} (h : OwnR k e f H sv L) (hb : ∀ b c, blkIs sv b → H[b]? = some (.cells (.row e) c) → H'[b]? = some (.cells (.row e) c)) (hf : ∀ l x, x ∈ L → f H l x → f H' l x) : OwnR k e f H' sv L := by
  rcases h with h | ⟨b, c, h1, h2, h3, h4⟩
  · exact .inl h
  · exact .inr ⟨b, c, h1, hb b c ⟨_, _, h1⟩ h2, h3, fun i x hx => let ⟨l, k1, k2⟩ := h4 i x hx; ⟨l, k1, hf l x (List.mem_of_getElem? hx) k2⟩⟩
theorem OwnR.keepR {α : Type} {k n : Nat} {e e' : TypeId} {f : Heap → List Value → α → Prop} {H H' : Heap} {sv : Value} {L : List α} (h : OwnR k e f H sv L) (hF : FrR n e' H H') (hne : e ≠ e') (hf : ∀ l x, x ∈ L → f H l x → f H' l x) : OwnR k e f H' sv L :=
  h.keep (fun b c _ hb => hF.2 b _ hb (.inr fun c' e1 => by simp only [Blk.cells.injEq, Mode.row.injEq] at e1; exact hne e1.1)) hf
theorem slots_app {c l : List Value} {i k n : Nat} (hc : c.length = n * k) (hl : l.length = k) : (∀ j w, j < n → slotsOf c (j * k) k = some w → slotsOf (c ++ l) (j * k) k = some w) ∧ slotsOf (c ++ l) (n * k) k = some l := by
  refine ⟨fun j w hj hw => ?_, ?_⟩
  · have hle : j * k + k ≤ c.length := by rw [hc, ← Nat.succ_mul]; exact Nat.mul_le_mul_right _ hj
    rw [slots_of (by rw [List.length_append]; omega)]
    rw [slots_of hle] at hw
    rw [← hw]
    congr 1
    rw [List.drop_append_of_le_length (by omega), List.take_append_of_le_length (by rw [List.length_drop]; omega)]
  · rw [slots_of (by rw [List.length_append]; omega), List.drop_append_of_le_length (by omega), List.drop_of_length_le (by omega), List.nil_append, List.take_of_length_le (by omega)]
/-- One element more. -/
theorem OwnR.append {α : Type} {P : Program} {t tx e : TypeId} {k n : Nat} (ok : RowOK P t e k) (okx : RowOK P tx e k) {f : Heap → List Value → α → Prop} {H : Heap} {sv : Value} {L : List α} {x : α} {l : List Value} {m2 : Mode} {b2 : Nat} (h : OwnR k e f H sv L)
    (hb2 : H[b2]? = some (.cells m2 l)) (hl : l.length = k) (hx : f H l x) (hsv : ∀ b, blkIs sv b → n ≤ b) (hn : n ≤ H.length) (hL : L.length ≤ 1000000) (hf : ∀ A B, FrR n e A B → ∀ l x, f A l x → f B l x) :
    ∃ H', aappend P t tx sv (.slice (some ⟨b2, 0, none⟩) 1 k) H = some (.slice (some ⟨H.length, 0, none⟩) (L.length + 1) k, H') ∧ OwnR k e f H' (.slice (some ⟨H.length, 0, none⟩) (L.length + 1) k) (L ++ [x]) ∧ FrR n e H H' ∧ ∀ q X, H[q]? = some X → ¬ blkIs sv q → H'[q]? = some X := by
  obtain ⟨he, ⟨i, hi, hk, hby⟩, ⟨d, hd, hni⟩, h0, ⟨z, hz, hzl⟩⟩ := ok
  obtain ⟨_, _, ⟨dx, hdx, hnx⟩, _, _⟩ := okx
  have hsrc : asrc k (.slice (some ⟨b2, 0, none⟩) 1 k) H = some (1, l) := src_some (off := 0) (by decide) (hblk_of hb2) (by rw [Nat.one_mul, slots_of (by omega), List.drop_zero, List.take_of_length_le (by omega)])
  rcases h with ⟨rfl, rfl⟩ | ⟨b, c, rfl, h2, h3, h4⟩
  · refine ⟨H ++ [.cells (.row e) l], ?_, .inr ⟨H.length, l, rfl, at_push _ _, by simp [hl], fun i x' hx' => ?_⟩, .of (.push _ _), fun q X hq _ => (Grow.push _ _).at hq⟩
    · exact append_nil (n := 1) he hi hk hdx hnx h0 (by simp [srcOk]) hz hzl hsrc (by decide) (by omega) (by unfold maxLen; omega)
    · cases i with
      | zero =>
        simp only [List.nil_append, List.getElem?_cons_zero, Option.some.injEq] at hx'
        subst hx'
        exact ⟨l, by rw [Nat.zero_mul, slots_of (by omega), List.drop_zero, List.take_of_length_le (by omega)], hf _ _ (.of (.push _ _)) _ _ hx⟩
      | succ i => simp at hx'
  · have hold : slotsOf c 0 (L.length * k) = some c := by rw [slots_of (by omega), List.drop_zero, List.take_of_length_le (by omega)]
    have hfr : FrR n e H (H.set b .dead ++ [.cells (.row e) (c ++ l)]) := by
      refine ⟨by simp, fun q X hq hX => ?_⟩
      have hqb : q ≠ b := by
        rintro rfl
        rcases hX with hX | hX
        · have := hsv q ⟨_, _, rfl⟩; omega
        · rw [h2] at hq; simp only [Option.some.injEq] at hq; exact hX c hq.symm
      rw [List.getElem?_append_left (by simpa using lt_at hq), List.getElem?_set_ne (by omega)]
      exact hq
    refine ⟨H.set b .dead ++ [.cells (.row e) (c ++ l)], ?_, .inr ⟨H.length, c ++ l, by rw [List.length_append]; rfl, ?_, by rw [List.length_append, List.length_append, h3, hl, List.length_singleton, Nat.succ_mul], fun i x' hx' => ?_⟩, hfr, fun q X hq hb => ?_⟩
    · refine append_row he hi hk hdx hnx h0 (by simp [srcOk]) hz hzl hsrc (by decide) h2 hold ?_ (by unfold maxLen; omega)
      have : (L.length + 1) * i.bytes ≤ 1000001 * 4096 := Nat.mul_le_mul (by omega) hby
      omega
    · rw [List.getElem?_append_right (by simp), List.length_set, Nat.sub_self]; rfl
    rotate_left
    · have hqb : q ≠ b := by rintro rfl; exact hb ⟨_, _, rfl⟩
      rw [List.getElem?_append_left (by simpa using lt_at hq), List.getElem?_set_ne (by omega)]
      exact hq
    · by_cases hi' : i < L.length
      · rw [List.getElem?_append_left hi'] at hx'
        obtain ⟨w, k1, k2⟩ := h4 i x' hx'
        exact ⟨w, (slots_app h3 hl (i := 0)).1 i w hi' k1, hf _ _ hfr _ _ k2⟩
      · have hil : i = L.length := by
          have := lt_of_get hx'
          simp at this; omega
        subst hil
        rw [List.getElem?_append_right (by omega), Nat.sub_self] at hx'
        simp only [List.getElem?_cons_zero, Option.some.injEq] at hx'
        subst hx'
        exact ⟨l, (slots_app h3 hl (i := 0)).2, hf _ _ hfr _ _ hx⟩
end Go.Proofs.Ytfobbmllbbckkaa.Ax
