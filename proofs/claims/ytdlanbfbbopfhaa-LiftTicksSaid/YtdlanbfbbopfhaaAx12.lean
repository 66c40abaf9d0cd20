/- What Go's data are in abstract memory: types as relations, and that what is read before a call stands there. -/
import Derived.Test.YtdlanbfbbopfhaaAx11
import Derived.ProofKit
import Derived.OpenShut
import Derived.ShutString
import Derived.ChangeOld
import Derived.SizedLaws
set_option linter.unusedVariables false
set_option linter.unusedSimpArgs false
namespace Go.Proofs.Ytdlanbfbbopfhaa.Ax
open Go Go.RowKit

/-- A Go type's values, as cells, and what they say. -/
structure Ty (α : Type) where
  sz : Nat
  R : Heap → List Value → α → Prop
  ok : α → Prop

def RoExt (H H' : Heap) : Prop := ∀ (b : Nat) (c : List Value), H[b]? = some (.cells .ro c) → H'[b]? = some (.cells .ro c)
theorem RoExt.refl (H : Heap) : RoExt H H := fun _ _ h => h
theorem RoExt.trans {A B C : Heap} (h : RoExt A B) (k : RoExt B C) : RoExt A C := fun b c hb => k b c (h b c hb)
theorem RoExt.push (H T : Heap) : RoExt H (H ++ T) := fun b c h => by
  rw [List.getElem?_append_left (List.getElem?_eq_some_iff.1 h).1]; exact h
def NoOwn (H : Heap) : Prop := ∀ (b : Nat) (B : Blk), H[b]? = some B → B.own = false

structure Ty.Good {α : Type} (T : Ty α) : Prop where
  stable : ∀ {H H' : Heap} {cs : List Value} {x : α}, RoExt H H' → T.R H cs x → T.R H' cs x
  len : ∀ {H : Heap} {cs : List Value} {x : α}, T.R H cs x → cs.length = T.sz
  one : ∀ {H : Heap} {cs : List Value} {x : α}, T.R H cs x → ∀ v ∈ cs, v.oneCell' = true

def Opens {α : Type} (P : Program) (t : TypeId) (T : Ty α) : Prop :=
  P.cellsOf t = T.sz ∧ ∀ {D : Type} (enc : TypeId × Value → D) (fuel : Nat) (w0 w : World) (ι : List Pl) (H : Heap) (cs : List Value) (x : DataW D × List MemPlace), WR P w0 ι H w → NoOwn H →
    DataW.trod enc P w 0 (fun _ => true) true fuel t cs = some x →
    ∃ ι' H' acs a, Ext ι ι' ∧ WR P w0 ι' H' w ∧ NoOwn H' ∧ RoExt H H' ∧ LR ι' acs cs ∧ T.R H' acs a ∧ T.ok a

/-! ### Plain types -/
def tInt (k : IntKind) : Ty Int := ⟨1, fun _ cs n => cs = [.int k n], fun n => (Lit.int k n).wf = true⟩
def tBool : Ty Bool := ⟨1, fun _ cs b => cs = [.bool b], fun _ => True⟩
def tStr : Ty ByteArray := ⟨1, fun _ cs s => cs = [.string s], fun s => s.size ≤ maxLen⟩
theorem tInt_good (k : IntKind) : (tInt k).Good := ⟨fun _ h => h, fun h => by rw [h]; rfl, fun h v hv => by rw [h] at hv; simp at hv; subst hv; rfl⟩
theorem tBool_good : tBool.Good := ⟨fun _ h => h, fun h => by rw [h]; rfl, fun h v hv => by rw [h] at hv; simp at hv; subst hv; rfl⟩
theorem tStr_good : tStr.Good := ⟨fun _ h => h, fun h => by rw [h]; rfl, fun h v hv => by rw [h] at hv; simp at hv; subst hv; rfl⟩
theorem opens_int {P : Program} {t : TypeId} {k : IntKind} (ht : P.underlying t = some (.int k)) (hc : P.cellsOf t = 1) : Opens P t (tInt k) :=
  ⟨hc, fun enc fuel w0 w ι H cs x hw hn h => by
    obtain ⟨n, rfl, rfl, hwf⟩ := DataW.trod_int ht h
    exact ⟨ι, H, [.int k n], n, .refl _, hw, hn, .refl _, .cons (.int _ _) (.nil _), rfl, hwf⟩⟩
theorem opens_bool {P : Program} {t : TypeId} (ht : P.underlying t = some .bool) (hc : P.cellsOf t = 1) : Opens P t tBool :=
  ⟨hc, fun enc fuel w0 w ι H cs x hw hn h => by
    obtain ⟨b, rfl, rfl⟩ := DataW.trod_bool ht h
    exact ⟨ι, H, [.bool b], b, .refl _, hw, hn, .refl _, .cons (.bool _) (.nil _), rfl, trivial⟩⟩
theorem opens_str {P : Program} {t : TypeId} (ht : P.underlying t = some .string) (hc : P.cellsOf t = 1) : Opens P t tStr :=
  ⟨hc, fun enc fuel w0 w ι H cs x hw hn h => by
    obtain ⟨s, rfl, rfl, hs⟩ := DataW.trod_string ht h
    exact ⟨ι, H, [.string s], s, .refl _, hw, hn, .refl _, .cons (.str _) (.nil _), rfl, hs⟩⟩

/-! ### Structs: one field, and the others -/
def tPair {α β : Type} (S : Ty α) (T : Ty β) : Ty (α × β) :=
  ⟨S.sz + T.sz, fun H cs x => S.R H (cs.take S.sz) x.1 ∧ T.R H (cs.drop S.sz) x.2, fun x => S.ok x.1 ∧ T.ok x.2⟩
theorem tPair_good {α β : Type} {S : Ty α} {T : Ty β} (hs : S.Good) (ht : T.Good) : (tPair S T).Good :=
  ⟨fun hx h => ⟨hs.stable hx h.1, ht.stable hx h.2⟩, fun {H cs x} h => by
    have h1 := hs.len h.1
    have h2 := ht.len h.2
    simp at h1 h2
    simp only [tPair]
    omega, fun {H cs x} h v hv => by
    rw [← List.take_append_drop S.sz cs] at hv
    rcases List.mem_append.1 hv with hv | hv
    · exact hs.one h.1 v hv
    · exact ht.one h.2 v hv⟩
/-- Fields from a place on. -/
structure OpensF {α : Type} (P : Program) (fs : List Field) (off : Nat) (T : Ty α) : Prop where
  out : ∀ {D : Type} (enc : TypeId × Value → D) (fuel : Nat) (w0 w : World) (ι : List Pl) (H : Heap) (cs : List Value), WR P w0 ι H w → NoOwn H → cs.length = off + T.sz →
    (∀ f ∈ fs, ∃ x, DataW.trod enc P w 0 (fun _ => true) true fuel f.type ((cs.drop f.offset).take (P.cellsOf f.type)) = some x) →
    ∃ ι' H' acs a, Ext ι ι' ∧ WR P w0 ι' H' w ∧ NoOwn H' ∧ RoExt H H' ∧ LR ι' acs (cs.drop off) ∧ T.R H' acs a ∧ T.ok a
theorem opensF_one {α : Type} {P : Program} {f : Field} {off : Nat} {T : Ty α} (hf : f.offset = off) (hO : Opens P f.type T) : OpensF P [f] off T := by
  refine ⟨fun {D} enc fuel w0 w ι H cs hw hn hl h => ?_⟩
  obtain ⟨x, hx⟩ := h f (List.mem_singleton.2 rfl)
  rw [hf, hO.1, List.take_of_length_le (by simp; omega)] at hx
  exact hO.2 enc fuel w0 w ι H _ x hw hn hx
theorem opensF_cons {α β : Type} {P : Program} {f : Field} {fs : List Field} {off : Nat} {S : Ty α} {T : Ty β} (hS : S.Good) (hf : f.offset = off) (hO : Opens P f.type S) (hr : OpensF P fs (off + S.sz) T) : OpensF P (f :: fs) off (tPair S T) := by
  refine ⟨fun {D} enc fuel w0 w ι H cs hw hn hl h => ?_⟩
  obtain ⟨x, hx⟩ := h f (List.mem_cons_self ..)
  rw [hf, hO.1] at hx
  obtain ⟨ι1, H1, acs, a, x1, hw1, hn1, e1, l1, r1, o1⟩ := hO.2 enc fuel w0 w ι H _ x hw hn hx
  obtain ⟨ι2, H2, bcs, b, x2, hw2, hn2, e2, l2, r2, o2⟩ := hr.out enc fuel w0 w ι1 H1 cs hw1 hn1 (by simp only [tPair] at hl; omega) (fun g hg => h g (List.mem_cons_of_mem _ hg))
  have hal : acs.length = S.sz := hS.len r1
  refine ⟨ι2, H2, acs ++ bcs, (a, b), x1.trans x2, hw2, hn2, e1.trans e2, ?_, ⟨?_, ?_⟩, o1, o2⟩
  · have : cs.drop off = (cs.drop off).take S.sz ++ cs.drop (off + S.sz) := by
      rw [← List.drop_drop, List.take_append_drop]
    rw [this]
    exact (l1.ext x2).append l2
  · rw [List.take_append_of_le_length (by omega), List.take_of_length_le (by omega)]; exact hS.stable e2 r1
  · rw [List.drop_append_of_le_length (by omega), List.drop_of_length_le (by omega)]; exact r2
theorem opens_struct {α : Type} {P : Program} {t : TypeId} {fs : Array Field} {T : Ty α} (ht : P.underlying t = some (.struct fs)) (hc : P.cellsOf t = T.sz) (hO : OpensF P fs.toList 0 T) : Opens P t T :=
  ⟨hc, fun enc fuel w0 w ι H cs x hw hn h => by
    obtain ⟨xs, n, rfl, rfl, hl, hxs, hall⟩ := DataW.trod_struct ht h
    have := hO.out enc n w0 w ι H cs hw hn (by omega) (fun f hf => by
      obtain ⟨i, hi, rfl⟩ := List.getElem_of_mem hf
      have hi' : i < fs.size := by simpa using hi
      have := hall i fs[i] (by simp [hi'])
      refine ⟨xs[i]'(by omega), ?_⟩
      rw [List.getElem?_eq_getElem (by omega)] at this
      simpa using this)
    simpa using this⟩
/-- The same values, under another name. -/
def Ty.map {α β : Type} (T : Ty α) (g : α → β) : Ty β := ⟨T.sz, fun H cs y => ∃ x, T.R H cs x ∧ g x = y, fun y => ∃ x, T.ok x ∧ g x = y⟩

/-! ### Slices -/
def tSlice {α : Type} (T : Ty α) : Ty (List α) :=
  ⟨1, fun H cs xs => (cs = [.slice none 0 0] ∧ xs = []) ∨ ∃ b, cs = [.slice (some ⟨b, 0, none⟩) xs.length T.sz] ∧ (xs = [] ∨ ∃ c, H[b]? = some (.cells .ro c) ∧ c.length = xs.length * T.sz ∧
      ∀ (i : Nat) (x : α), xs[i]? = some x → T.R H ((c.drop (i * T.sz)).take T.sz) x),
    fun xs => xs.length ≤ maxLen ∧ ∀ x ∈ xs, T.ok x⟩
theorem tSlice_good {α : Type} {T : Ty α} (hT : T.Good) : (tSlice T).Good :=
  ⟨fun hx h => by
    rcases h with h | ⟨b, h1, h2⟩
    · exact .inl h
    · refine .inr ⟨b, h1, ?_⟩
      rcases h2 with h2 | ⟨c, h2, h3, h4⟩
      · exact .inl h2
      · exact .inr ⟨c, hx _ _ h2, h3, fun i x hi => hT.stable hx (h4 i x hi)⟩,
   fun h => by rcases h with ⟨rfl, _⟩ | ⟨b, rfl, _⟩ <;> rfl,
   fun h v hv => by rcases h with ⟨rfl, _⟩ | ⟨b, rfl, _⟩ <;> (simp at hv; subst hv; rfl)⟩

theorem mapM_get {α β : Type} {f : α → Option β} : ∀ (l : List α) (r : List β), l.mapM f = some r → r.length = l.length ∧ ∀ (i : Nat) (x : α), l[i]? = some x → f x = r[i]? := by
  intro l
  induction l with
  | nil => intro r h; simp at h; subst h; exact ⟨rfl, fun i x hi => by simp at hi⟩
  | cons a l ih =>
    intro r h
    rw [List.mapM_cons] at h
    simp only [Option.bind_eq_bind, Option.bind_eq_some_iff, Option.pure_def, Option.some.injEq] at h
    obtain ⟨b, hb, r', hr', rfl⟩ := h
    obtain ⟨h1, h2⟩ := ih r' hr'
    refine ⟨by simp [h1], fun i x hi => ?_⟩
    cases i with
    | zero => simp only [List.getElem?_cons_zero, Option.some.injEq] at hi ⊢; subst hi; exact hb
    | succ i => simp only [List.getElem?_cons_succ] at hi ⊢; exact h2 i x hi
theorem cells_get {w : World} {a : Addr} {n : Nat} {cs : List Value} (h : w.cells? 0 a n = some cs) : cs.length = n ∧ ∀ j, j < n → w.cell? (a.add j) = cs[j]? := by
  unfold World.cells? at h
  rw [if_pos (Nat.zero_le _)] at h
  obtain ⟨h1, h2⟩ := mapM_get _ _ h
  exact ⟨by simpa using h1, fun j hj => h2 j j (by simp [hj])⟩

/-- Elements, one behind the other. -/
theorem opens_list {α : Type} {P : Program} {e : TypeId} {T : Ty α} (hO : Opens P e T) (hG : T.Good) {D : Type} (enc : TypeId × Value → D) (fuel : Nat) (w0 w : World) : ∀ (l : List (List Value)) (ι : List Pl) (H : Heap), WR P w0 ι H w → NoOwn H →
    (∀ cs ∈ l, ∃ x, DataW.trod enc P w 0 (fun _ => true) true fuel e cs = some x) →
    ∃ (ι' : List Pl) (H' : Heap) (c : List Value) (as : List α), Ext ι ι' ∧ WR P w0 ι' H' w ∧ NoOwn H' ∧ RoExt H H' ∧ LR ι' c l.flatten ∧ as.length = l.length ∧ c.length = l.length * T.sz ∧ (∀ v ∈ c, v.oneCell' = true) ∧ (∀ x ∈ as, T.ok x) ∧
      ∀ (i : Nat) (x : α), as[i]? = some x → T.R H' ((c.drop (i * T.sz)).take T.sz) x := by
  intro l
  induction l with
  | nil => intro ι H hw hn _; exact ⟨ι, H, [], [], .refl _, hw, hn, .refl _, .nil _, rfl, by simp, fun v hv => by simp at hv, fun x hx => by simp at hx, fun i x hi => by simp at hi⟩
  | cons cs l ih =>
    intro ι H hw hn h
    obtain ⟨x, hx⟩ := h cs (List.mem_cons_self ..)
    obtain ⟨ι1, H1, acs, a, x1, hw1, hn1, e1, l1, r1, o1⟩ := hO.2 enc fuel w0 w ι H _ x hw hn hx
    obtain ⟨ι2, H2, c, as, x2, hw2, hn2, e2, l2, hlen, hcl, hone, hok, hR⟩ := ih ι1 H1 hw1 hn1 (fun cs hcs => h cs (List.mem_cons_of_mem _ hcs))
    have hal : acs.length = T.sz := hG.len r1
    refine ⟨ι2, H2, acs ++ c, a :: as, x1.trans x2, hw2, hn2, e1.trans e2, (l1.ext x2).append l2, by simp [hlen], by simp [hal, hcl, Nat.add_mul]; omega, fun v hv => ?_, fun y hy => ?_, fun i y hi => ?_⟩
    · rcases List.mem_append.1 hv with hv | hv
      · exact hG.one r1 v hv
      · exact hone v hv
    · rcases List.mem_cons.1 hy with rfl | hy
      · exact o1
      · exact hok y hy
    · cases i with
      | zero =>
        simp only [List.getElem?_cons_zero, Option.some.injEq] at hi
        subst hi
        rw [Nat.zero_mul, List.drop_zero, List.take_append_of_le_length (by omega), List.take_of_length_le (by omega)]
        exact hG.stable e2 r1
      | succ i =>
        simp only [List.getElem?_cons_succ] at hi
        rw [show (i + 1) * T.sz = acs.length + i * T.sz by rw [Nat.add_mul, hal]; omega, List.drop_append, List.drop_of_length_le (by omega), List.nil_append, show acs.length + i * T.sz - acs.length = i * T.sz by omega]
        exact hR i y hi

theorem flatten_get {k : Nat} (hk : 0 < k) : ∀ (l : List (List Value)) (j : Nat), (∀ cs ∈ l, cs.length = k) → j < l.length * k → ∃ cs, l[j / k]? = some cs ∧ l.flatten[j]? = cs[j % k]? := by
  intro l
  induction l with
  | nil => intro j _ h; simp at h
  | cons cs l ih =>
    intro j h hj
    have hcs := h cs (List.mem_cons_self ..)
    by_cases hlt : j < k
    · refine ⟨cs, by rw [Nat.div_eq_of_lt hlt]; rfl, ?_⟩
      rw [List.flatten_cons, List.getElem?_append_left (by omega), Nat.mod_eq_of_lt hlt]
    · obtain ⟨cs', h1, h2⟩ := ih (j - k) (fun c hc => h c (List.mem_cons_of_mem _ hc)) (by simp [Nat.add_mul] at hj; omega)
      have hdiv : j / k = (j - k) / k + 1 := by rw [Nat.div_eq, if_pos ⟨hk, by omega⟩]
      refine ⟨cs', by rw [hdiv]; simpa using h1, ?_⟩
      rw [List.flatten_cons, List.getElem?_append_right (by omega), hcs, h2, ← Nat.mod_eq_sub_mod (by omega)]

/-- A block that is read alone. -/
theorem WR.read {P : Program} {w0 w : World} {ι : List Pl} {H : Heap} (hw : WR P w0 ι H w) (hn : NoOwn H) {c : List Value} {cc : Array Value} {e : TypeId} {fr : Nat × Nat} {blk off : Nat} (hb : w.heap[blk]? = some (.cells cc e fr)) (hle : off + c.length ≤ cc.size)
    (hL : ∀ (i : Nat) (v : Value), c[i]? = some v → v.oneCell' = true ∧ ∃ cv, cc[off + i]? = some cv ∧ VR ι v cv) :
    WR P w0 (ι ++ [⟨blk, off, c.length, 0⟩]) (H ++ [.cells .ro c]) w ∧ NoOwn (H ++ [.cells .ro c]) := by
  refine ⟨hw.push _ _ ⟨cc, e, fr, ⟨hb, hle, Nat.le_refl _, fun i v hi => let ⟨h1, cv, h2, h3⟩ := hL i v hi; ⟨h1, cv, h2, h3.ext (.push _ _)⟩⟩, fun h => by simp [Mode.own] at h, rfl⟩ fun b C q h1 h2 ha hq => ⟨hn b C h1, rfl⟩, fun b B h => ?_⟩
  by_cases hlt : b < H.length
  · rw [List.getElem?_append_left hlt] at h; exact hn b B h
  · rw [List.getElem?_append_right (by omega)] at h
    have hz : b - H.length = 0 := by have := (List.getElem?_eq_some_iff.1 h).1; simp at this; omega
    rw [hz] at h
    simp only [List.getElem?_cons_zero, Option.some.injEq] at h
    subst h; rfl
theorem WR.pushDead {P : Program} {w0 w : World} {ι : List Pl} {H : Heap} (hw : WR P w0 ι H w) (hn : NoOwn H) (pl : Pl) : WR P w0 (ι ++ [pl]) (H ++ [.dead]) w ∧ NoOwn (H ++ [.dead]) := by
  refine ⟨hw.push pl .dead trivial fun b C q h1 h2 ha hq => ⟨hn b C h1, rfl⟩, fun b B h => ?_⟩
  by_cases hlt : b < H.length
  · rw [List.getElem?_append_left hlt] at h; exact hn b B h
  · rw [List.getElem?_append_right (by omega)] at h
    have hz : b - H.length = 0 := by have := (List.getElem?_eq_some_iff.1 h).1; simp at this; omega
    rw [hz] at h
    simp only [List.getElem?_cons_zero, Option.some.injEq] at h
    subst h; rfl

theorem opens_slice {α : Type} {P : Program} {t e : TypeId} {T : Ty α} (ht : P.underlying t = some (.slice e)) (hc : P.cellsOf t = 1) (hO : Opens P e T) (hG : T.Good) (hz : 0 < T.sz) : Opens P t (tSlice T) :=
  ⟨hc, fun {D} enc fuel w0 w ι H cs x hw hn h => by
    rcases DataW.trod_slice ht h with ⟨rfl, rfl⟩ | ⟨a, len, cap, elems, rest, n, rfl, rfl, rfl, hb, hl, hm, hlen, hel, hsp, hns⟩
    · exact ⟨ι, H, [.slice none 0 0], [], .refl _, hw, hn, .refl _, .cons .slice0 (.nil _), .inl ⟨rfl, rfl⟩, by simp, fun x hx => by simp at hx⟩
    · have hk : P.cellsOf e = T.sz := hO.1
      obtain ⟨hsp1, hsp2⟩ := hsp rfl
      -- every cell up to the capacity is there
      have hcell : ∀ i, i < cap → ∃ cs, w.cells? 0 (a.add (i * T.sz)) T.sz = some cs ∧ ∃ x, DataW.trod enc P w 0 (fun _ => true) true n e cs = some x := by
        intro i hi
        by_cases hil : i < len
        · have := hel i hil
          rw [hk, List.getElem?_eq_getElem (by omega)] at this
          simp only [Option.bind_eq_some_iff] at this
          obtain ⟨cs, h1, h2⟩ := this
          exact ⟨cs, h1, _, h2⟩
        · have := hsp2 (i - len) (by omega)
          rw [hk, List.getElem?_eq_getElem (by omega), show len + (i - len) = i by omega] at this
          simp only [Option.bind_eq_some_iff] at this
          obtain ⟨cs, h1, h2⟩ := this
          exact ⟨cs, h1, _, h2⟩
      have haddr : 0 < cap → a.spot = none ∧ ∃ cc e' fr, w.heap[a.block]? = some (.cells cc e' fr) := by
        intro hcap
        obtain ⟨cs, h1, _⟩ := hcell 0 hcap
        obtain ⟨h2, h3⟩ := cells_get h1
        have h4 := h3 0 hz
        rw [Nat.zero_mul, show a.add 0 = a from rfl, show a.add 0 = a from rfl, List.getElem?_eq_getElem (by omega)] at h4
        unfold World.cell? at h4
        split at h4
        · rename_i cc e' fr hh
          split at h4
          · simp at h4
          · rename_i hs
            exact ⟨by cases h : a.spot <;> simp_all, cc, e', fr, hh⟩
        · simp at h4
      by_cases hl0 : len = 0
      · subst hl0
        obtain ⟨hw', hn'⟩ := hw.pushDead hn ⟨a.block, a.off, 0, 0⟩
        have hx : (ι ++ [(⟨a.block, a.off, 0, 0⟩ : Pl)])[H.length]? = some ⟨a.block, a.off, 0, 0⟩ := by rw [← hw.len]; simp
        refine ⟨_, _, [.slice (some ⟨H.length, 0, none⟩) 0 T.sz], [], .push _ _, hw', hn', .push _ _, .cons (.slice _ _ _ _ _ _ _ hx hl hm (fun hcap => ?_) (fun h => absurd rfl h)) (.nil _), .inr ⟨H.length, rfl, .inl rfl⟩, by simp, fun x hx => by simp at hx⟩
        obtain ⟨hs, _⟩ := haddr hcap
        obtain ⟨b, o, s⟩ := a
        simp only at hs
        subst hs
        rfl
      · obtain ⟨hs, cc, e', fr, hh⟩ := haddr (by omega)
        obtain ⟨blk, off, s⟩ := a
        simp only at hs hh
        subst hs
        -- the cells of each element
        let l : List (List Value) := (List.range len).map fun i => (w.cells? 0 ⟨blk, off + i * T.sz, none⟩ T.sz).getD []
        have hli : ∀ i, i < len → ∃ cs, l[i]? = some cs ∧ w.cells? 0 ⟨blk, off + i * T.sz, none⟩ T.sz = some cs ∧ ∃ x, DataW.trod enc P w 0 (fun _ => true) true n e cs = some x := by
          intro i hi
          obtain ⟨cs, h1, h2⟩ := hcell i (by omega)
          rw [add_none] at h1
          exact ⟨cs, by simp [l, hi, h1], h1, h2⟩
        have hll : l.length = len := by simp [l]
        obtain ⟨ι1, H1, c, as, x1, hw1, hn1, e1, l1, hasl, hcl, hone, hok, hR⟩ := opens_list hO hG enc n w0 w l ι H hw hn (fun cs hcs => by
          obtain ⟨i, hi, rfl⟩ := List.getElem_of_mem hcs
          obtain ⟨cs', h1, _, h2⟩ := hli i (by omega)
          rw [List.getElem?_eq_getElem hi] at h1
          simp only [Option.some.injEq] at h1
          rw [h1]; exact h2)
        have hflat : ∀ j, j < len * T.sz → l.flatten[j]? = cc[off + j]? := by
          intro j hj
          obtain ⟨cs, h1, h2⟩ := flatten_get hz l j (fun cs hcs => by
            obtain ⟨i, hi, rfl⟩ := List.getElem_of_mem hcs
            obtain ⟨cs', h1, h2, _⟩ := hli i (by omega)
            rw [List.getElem?_eq_getElem hi] at h1
            simp only [Option.some.injEq] at h1
            rw [h1]; exact (cells_get h2).1) (by rw [hll]; exact hj)
          have hdl : j / T.sz < len := Nat.div_lt_of_lt_mul (by rw [Nat.mul_comm]; exact hj)
          obtain ⟨cs', h3, h4, _⟩ := hli (j / T.sz) hdl
          rw [h1] at h3
          simp only [Option.some.injEq] at h3
          subst h3
          rw [h2]
          have h5 := (cells_get h4).2 (j % T.sz) (Nat.mod_lt _ hz)
          rw [add_none, cell_of hh] at h5
          rw [← h5]
          congr 1
          have := Nat.div_add_mod j T.sz
          rw [Nat.mul_comm] at this
          omega
        have hsz : off + c.length ≤ cc.size := by
          rw [hcl, hll]
          have hp : 0 < len * T.sz := Nat.mul_pos (by omega) hz
          have h1 := hflat (len * T.sz - 1) (by omega)
          have h2 : len * T.sz - 1 < l.flatten.length := by rw [← l1.1, hcl, hll]; omega
          rw [List.getElem?_eq_getElem h2] at h1
          have := (Array.getElem?_eq_some_iff.1 h1.symm).1
          omega
        obtain ⟨hw2, hn2⟩ := hw1.read hn1 (c := c) hh hsz (fun i v hi => by
          obtain ⟨cv, h1, h2⟩ := l1.2 i v hi
          have hil : i < len * T.sz := by have := (List.getElem?_eq_some_iff.1 hi).1; rw [hcl, hll] at this; exact this
          exact ⟨hone v (List.mem_of_getElem? hi), cv, by rw [← hflat i hil]; exact h1, h2⟩)
        have hx : (ι1 ++ [(⟨blk, off, c.length, 0⟩ : Pl)])[H1.length]? = some ⟨blk, off, c.length, 0⟩ := by rw [← hw1.len]; simp
        refine ⟨_, _, [.slice (some ⟨H1.length, 0, none⟩) len T.sz], as, x1.trans (.push _ _), hw2, hn2, e1.trans (.push _ _), .cons (.slice _ _ _ _ _ _ _ hx hl hm (fun hcap => rfl) (fun h => absurd rfl h)) (.nil _), .inr ⟨H1.length, by rw [hasl, hll], .inr ⟨c, by simp, by rw [hcl, hasl], fun i x hi => hG.stable (.push _ _) (hR i x hi)⟩⟩, by omega, hok⟩⟩

end Go.Proofs.Ytdlanbfbbopfhaa.Ax
