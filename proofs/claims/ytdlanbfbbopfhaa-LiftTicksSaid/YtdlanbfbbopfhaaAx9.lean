/- The abstract machine: maps, and that the real ones follow them. -/
import Derived.Test.YtdlanbfbbopfhaaAx8
set_option linter.unusedVariables false
set_option linter.unusedSimpArgs false
namespace Go.Proofs.Ytdlanbfbbopfhaa.Ax
open Go Go.RowKit

/-- Are two keys one? Of whole numbers, bools, strings, and structs of these. -/
def eqKey (P : Program) (kt : TypeId) (a b : Value) : Option Bool :=
  match P.underlying kt with
  | some (.int _) => match a, b with | .int k x, .int k' y => if k = k' then some (x == y) else none | _, _ => none
  | some .bool => match a, b with | .bool x, .bool y => some (x == y) | _, _ => none
  | some .string => match a, b with | .string x, .string y => some (x == y) | _, _ => none
  | some (.struct fs) => match a, b with | .agg xs, .agg ys => if P.stoodInHeld kt then none else eqAll P xs ys fs.toList | _, _ => none
  | _ => none
/-- The place of a key from i on. -/
def mfind (P : Program) (kt : TypeId) (k : Value) : List (Value × Value) → Nat → Option (Option Nat)
  | [], _ => some none
  | (x, _) :: es, i => (eqKey P kt k x).bind fun b => if b then some (some i) else mfind P kt k es (i + 1)

/-- Entries, one by one. -/
def ER (ι : List Pl) (es : List (Value × Value)) (ms : List MapEntry) : Prop :=
  ms.length = es.length ∧ ∀ (i : Nat) (k v : Value), es[i]? = some (k, v) → ∃ m, ms[i]? = some m ∧ VR ι k m.key ∧ VR ι v m.val
theorem ER.tail {ι : List Pl} {e : Value × Value} {es : List (Value × Value)} {m : MapEntry} {ms : List MapEntry} (h : ER ι (e :: es) (m :: ms)) : VR ι e.1 m.key ∧ VR ι e.2 m.val ∧ ER ι es ms := by
  obtain ⟨m', hm, h1, h2⟩ := h.2 0 e.1 e.2 rfl
  simp only [List.getElem?_cons_zero, Option.some.injEq] at hm
  subst hm
  exact ⟨h1, h2, by have := h.1; simpa using this, fun i k v hi => by simpa using h.2 (i + 1) k v (by simpa using hi)⟩

theorem mfind_lt {P : Program} {kt : TypeId} {k : Value} : ∀ (es : List (Value × Value)) (i j : Nat), mfind P kt k es i = some (some j) → i ≤ j ∧ j < i + es.length := by
  intro es
  induction es with
  | nil => intro i j h; simp [mfind] at h
  | cons e es ih =>
    intro i j h
    obtain ⟨x, y⟩ := e
    simp only [mfind, Option.bind_eq_some_iff] at h
    obtain ⟨b, hb, h⟩ := h
    split at h
    · simp only [Option.some.injEq] at h; subst h; simp
    · have := ih _ _ h; simp; omega

/-- What is found: the place, and the real value there. -/
def foundAs (ms : List MapEntry) : Option Nat → Nat → Option (Nat × Value)
  | none, _ => none
  | some j, i => (ms[j - i]?).map fun m => (j, m.val)

theorem find_scalar {P : Program} {ι : List Pl} {kt : TypeId} {d : TypeDesc} (hd : P.underlying kt = some d) (hs : (match d with | .int _ | .bool | .string => True | _ => False)) {k ck : Value} (hk : VR ι k ck) :
    ∀ (es : List (Value × Value)) (ms : List MapEntry) (i : Nat) (r : Option Nat), ER ι es ms → mfind P kt k es i = some r → Instr.findNow d ck ms i = some (foundAs ms r i) := by
  intro es
  induction es with
  | nil =>
    intro ms i r hE h
    cases ms with
    | cons a b => have := hE.1; simp at this
    | nil => simp only [mfind, Option.some.injEq] at h; subst h; rfl
  | cons e es ih =>
    intro ms i r hE h
    cases ms with
    | nil => have := hE.1; simp at this
    | cons m ms =>
      obtain ⟨x, y⟩ := e
      obtain ⟨h1, h2, hE'⟩ := hE.tail
      simp only [mfind, Option.bind_eq_some_iff] at h
      obtain ⟨b, hb, h⟩ := h
      have hsame : Instr.sameNow d ck m.key = some b := by
        unfold eqKey at hb
        rw [hd] at hb
        simp only at h1
        cases d <;> simp only [] at hs hb
        · split at hb
          · simp only [Option.some.injEq] at hb; subst hb; cases hk
            generalize m.key = mk at h1
            cases h1
            rfl
          · simp at hb
        · split at hb
          · rename_i k1 x1 k2 y1
            split at hb
            · rename_i hkk
              subst hkk
              simp only [Option.some.injEq] at hb; subst hb; cases hk
              generalize m.key = mk at h1
              cases h1
              simp [Instr.sameNow]
            · simp at hb
          · simp at hb
        · split at hb
          · simp only [Option.some.injEq] at hb; subst hb; cases hk
            generalize m.key = mk at h1
            cases h1
            rfl
          · simp at hb
      rw [Instr.findNow, hsame]
      cases b with
      | true =>
        simp only [if_true, Option.some.injEq] at h
        subst h
        simp [foundAs]
      | false =>
        simp only [Bool.false_eq_true, if_false] at h
        simp only
        rw [ih ms (i + 1) r hE' h]
        cases r with
        | none => rfl
        | some j =>
          have := (mfind_lt es _ _ h).1
          simp only [foundAs]
          rw [show j - i = (j - (i + 1)) + 1 by omega]
          simp

theorem find_struct {P : Program} {ι : List Pl} {kt : TypeId} {fs : Array Field} (hd : P.underlying kt = some (.struct fs)) {k ck : Value} (hk : VR ι k ck) (w : World) :
    ∀ (es : List (Value × Value)) (ms : List MapEntry) (i : Nat) (r : Option Nat), ER ι es ms → mfind P kt k es i = some r → (Instr.findAsking kt ck ms i).run P w = .ok (foundAs ms r i) w := by
  intro es
  induction es with
  | nil =>
    intro ms i r hE h
    cases ms with
    | cons a b => have := hE.1; simp at this
    | nil => simp only [mfind, Option.some.injEq] at h; subst h; rfl
  | cons e es ih =>
    intro ms i r hE h
    cases ms with
    | nil => have := hE.1; simp at this
    | cons m ms =>
      obtain ⟨x, y⟩ := e
      obtain ⟨h1, h2, hE'⟩ := hE.tail
      simp only [mfind, Option.bind_eq_some_iff] at h
      obtain ⟨b, hb, h⟩ := h
      have hsame : (Op.equal kt ck m.key).run P w = .ok b w := by
        unfold eqKey at hb
        rw [hd] at hb
        simp only at h1 hb
        split at hb
        · rename_i xs ys
          split at hb
          · simp at hb
          · rename_i hst
            simp only [Bool.not_eq_true] at hst
            cases hk with
            | agg _ cxs a1 a2 a3 =>
              generalize m.key = mk at h1
              cases h1 with
              | agg _ cys b1 b2 b3 =>
                have hfo : P.fieldsOf kt = fs := by simp [Program.fieldsOf, hd]
                rw [equal_eq, run_equalIn_struct w 9999 kt cxs cys (by rw [hfo]; exact hd) hst, hfo]
                exact eqAll_run (P := P) a1 a2 b1 b2 9998 w fs.toList b hb
        · simp at hb
      rw [Instr.findAsking]
      simp only [Sem.run_bind, hsame, Result.andThen_ok, Sem.run_ite]
      cases b with
      | true =>
        simp only [if_true, Option.some.injEq] at h
        subst h
        simp [foundAs]
      | false =>
        simp only [Bool.false_eq_true, if_false] at h ⊢
        rw [ih ms (i + 1) r hE' h]
        cases r with
        | none => rfl
        | some j =>
          have := (mfind_lt es _ _ h).1
          simp only [foundAs]
          rw [show j - i = (j - (i + 1)) + 1 by omega]
          simp

/-- Fields that a key's check passes over. -/
def plainKey (P : Program) (kt : TypeId) (k : Value) : Bool :=
  match P.underlying kt, k with
  | some (.int _), .int _ _ => true
  | some .bool, .bool _ => true
  | some .string, .string _ => true
  | some (.struct fs), .agg cs => fs.toList.all fun f => f.name != "_" && (match P.underlying f.type with | some (.int _) | some .bool | some .string => decide (f.offset < cs.size) | _ => false)
  | _, _ => false

theorem checkKey_run {P : Program} {ι : List Pl} {kt : TypeId} {k ck : Value} (hk : VR ι k ck) (h : plainKey P kt k = true) (emp : Bool) (n : Nat) (w : World) : (Instr.checkKey emp (n + 2) kt ck).run P w = .ok () w := by
  unfold plainKey at h
  split at h
  · rename_i hu; cases hk; simp [Instr.checkKey, run_underlying hu]
  · rename_i hu; cases hk; simp [Instr.checkKey, run_underlying hu]
  · rename_i hu; cases hk; simp [Instr.checkKey, run_underlying hu]
  · rename_i fs cs hu
    cases hk with
    | agg _ ccs a1 a2 a3 =>
      rw [show n + 2 = (n + 1) + 1 from rfl, Instr.checkKey]
      simp only [Sem.run_bind, run_underlying hu, Result.andThen_ok]
      rw [← Array.forIn_toList]
      generalize fs.toList = l at h
      clear hu
      induction l with
      | nil => rfl
      | cons f l ih =>
        simp only [List.all_cons, Bool.and_eq_true, bne_iff_ne, ne_eq] at h
        obtain ⟨⟨hn, hf⟩, hl⟩ := h
        rw [List.forIn_cons]
        have hpart : ∀ d, P.underlying f.type = some d → isAggD d = false → f.offset < cs.size → ∃ v, (part f.type ccs f.offset).run P w = .ok v w := by
          intro d hd ha ho
          have hag := run_isAgg hd w
          rw [ha] at hag
          exact ⟨ccs[f.offset]'(by omega), by simp [part, hag, Array.getElem?_eq_getElem (show f.offset < ccs.size by omega)]⟩
        have hstep : ∃ v, (part f.type ccs f.offset).run P w = .ok v w ∧ (Instr.checkKey emp (n + 1) f.type v).run P w = .ok () w := by
          split at hf
          · rename_i hu; obtain ⟨v, hv⟩ := hpart _ hu rfl (by simpa using hf); exact ⟨v, hv, by simp [Instr.checkKey, run_underlying hu]⟩
          · rename_i hu; obtain ⟨v, hv⟩ := hpart _ hu rfl (by simpa using hf); exact ⟨v, hv, by simp [Instr.checkKey, run_underlying hu]⟩
          · rename_i hu; obtain ⟨v, hv⟩ := hpart _ hu rfl (by simpa using hf); exact ⟨v, hv, by simp [Instr.checkKey, run_underlying hu]⟩
          · simp at hf
        obtain ⟨v, hv1, hv2⟩ := hstep
        simp only [hn, ne_eq, not_false_eq_true, if_true, Sem.run_bind, hv1, Result.andThen_ok, hv2, Sem.run_pure]
        exact ih hl
  · simp at h

/-- A key among entries. -/
def akey (P : Program) (kt : TypeId) (k : Value) (es : List (Value × Value)) : Option (Option Nat) :=
  if plainKey P kt k then mfind P kt k es 0 else none
theorem akey_run {P : Program} {ι : List Pl} {kt : TypeId} {k ck : Value} (hk : VR ι k ck) {es : List (Value × Value)} {ms : List MapEntry} {r : Option Nat} (hE : ER ι es ms) (h : akey P kt k es = some r) (w : World) :
    (∀ emp, (Instr.checkKey emp 10000 kt ck).run P w = .ok () w) ∧ (Instr.findKey kt ck ms).run P w = .ok (foundAs ms r 0) w := by
  unfold akey at h
  split at h
  rotate_left
  · simp at h
  rename_i hp
  refine ⟨fun emp => checkKey_run hk hp emp 9998 w, ?_⟩
  unfold plainKey at hp
  split at hp
  · rename_i hu
    simp only [Instr.findKey, Sem.run_bind, run_underlying hu, Result.andThen_ok, find_scalar hu trivial hk es ms 0 r hE h]; rfl
  · rename_i hu
    simp only [Instr.findKey, Sem.run_bind, run_underlying hu, Result.andThen_ok, find_scalar hu trivial hk es ms 0 r hE h]; rfl
  · rename_i hu
    simp only [Instr.findKey, Sem.run_bind, run_underlying hu, Result.andThen_ok, find_scalar hu trivial hk es ms 0 r hE h]; rfl
  · rename_i fs cs hu
    simp only [Instr.findKey, Sem.run_bind, run_underlying hu, Result.andThen_ok]
    have hf := find_struct hu hk w es ms 0 r hE h
    cases ms with
    | nil =>
      cases es with
      | cons a b => have := hE.1; simp at this
      | nil => simp only [mfind, Option.some.injEq] at h; subst h; rfl
    | cons m ms =>
      have : Instr.findNow (.struct fs) ck (m :: ms) 0 = none := by simp [Instr.findNow, Instr.sameNow]
      rw [this]
      exact hf
  · simp at hp

def mapOf (P : Program) (t : TypeId) : Option (TypeId × TypeId) := match P.underlying t with | some (.map k e) => some (k, e) | _ => none
theorem mapOf_eq {P : Program} {t k e : TypeId} (h : mapOf P t = some (k, e)) : P.underlying t = some (.map k e) := by
  unfold mapOf at h; split at h
  · rename_i n' e' hu; simp only [Option.some.injEq, Prod.mk.injEq] at h; obtain ⟨rfl, rfl⟩ := h; exact hu
  · simp at h

def tzeroV (P : Program) (t : TypeId) : Option Value := (P.info? t).bind fun i => i.zero.bind fun z => if constOk z then some z else none
theorem run_zeroV {P : Program} {t : TypeId} {z : Value} (h : tzeroV P t = some z) (w : World) : (zeroValue t).run P w = .ok z w ∧ ∀ ι, VR ι z z := by
  unfold tzeroV at h
  simp only [Option.bind_eq_some_iff] at h
  obtain ⟨i, hi, z', hz, h⟩ := h
  split at h
  · rename_i hc
    simp only [Option.some.injEq] at h
    subst h
    exact ⟨by simp [zeroValue, typeInfo, hi, hz], fun ι => .constOk hc⟩
  · simp at h

def mentries (m : Value) (H : Heap) : Option (List (Value × Value)) :=
  match m with
  | .map none => some []
  | .map (some b) => hmap H b
  | _ => none
def alookup (P : Program) (t : TypeId) (m k : Value) (ok : Bool) (H : Heap) : Option Value :=
  (mapOf P t).bind fun (kt, e) => (mentries m H).bind fun es => (akey P kt k es).bind fun r =>
  match r with
  | some j => (es[j]?).map fun x => if ok then .tuple #[x.2, .bool true] else x.2
  | none => (tzeroV P e).map fun z => if ok then .tuple #[z, .bool false] else z
theorem VR.pair {ι : List Pl} {a b c d : Value} (h : VR ι a c) (k : VR ι b d) : VR ι (.tuple #[a, b]) (.tuple #[c, d]) := by
  refine .tuple _ _ rfl fun i hi => ?_
  match i, hi with
  | 0, _ => exact h
  | 1, _ => exact k
theorem alookup_run {P : Program} {w0 w : World} {ι : List Pl} {H : Heap} (hw : WR P w0 ι H w) {t : TypeId} {m k r cm ck : Value} {ok : Bool} (hm : VR ι m cm) (hk : VR ι k ck) (h : alookup P t m k ok H = some r) :
    ∃ cr, (Instr.lookup t cm ck ok).run P w = .ok cr w ∧ VR ι r cr := by
  unfold alookup at h
  simp only [Option.bind_eq_some_iff] at h
  obtain ⟨⟨kt, e⟩, ht, es, hes, j, hj, h⟩ := h
  -- the real entries
  obtain ⟨ms, hcm, hE⟩ : ∃ ms : Array MapEntry, ((cm = .map none ∧ ms = #[]) ∨ ∃ r clock, cm = .map (some r) ∧ w.heap[r]? = some (.map ms clock)) ∧ ER ι es ms.toList := by
    unfold mentries at hes
    split at hes
    · simp only [Option.some.injEq] at hes
      subst hes
      cases hm
      exact ⟨#[], .inl ⟨rfl, rfl⟩, rfl, fun i k v hi => by simp at hi⟩
    · obtain ⟨o, pl, ms, clock, _, hp, h1, h2, _, h3⟩ := hw.map hes
      cases hm with
      | map _ pl' hp' =>
        rw [hp] at hp'
        simp only [Option.some.injEq] at hp'
        subst hp'
        exact ⟨ms, .inr ⟨_, clock, rfl, h1⟩, by simpa using h2, fun i k v hi => by simpa using h3 i k v hi⟩
    · simp at hes
  obtain ⟨hck, hfk⟩ := akey_run hk hE hj w
  split at h
  · rename_i j
    simp only [Option.map_eq_some_iff] at h
    obtain ⟨⟨kk, vv⟩, hx, rfl⟩ := h
    obtain ⟨m', hm', hr1, hr2⟩ := hE.2 j kk vv hx
    have hfa : foundAs ms.toList (some j) 0 = some (j, m'.val) := by simp [foundAs] at hm' ⊢; exact ⟨m', hm', rfl⟩
    rw [hfa] at hfk
    refine ⟨if ok then .tuple #[m'.val, .bool true] else m'.val, ?_, by cases ok <;> first | exact hr2 | exact .pair hr2 (.bool _)⟩
    rcases hcm with ⟨rfl, rfl⟩ | ⟨r, clock, rfl, hh⟩
    · simp only [Instr.lookup, Sem.run_bind, run_underlying (mapOf_eq ht), Result.andThen_ok, hck, hfk, Sem.run_pure]
    · have hg : (getObj r).run P w = .ok (.map ms clock) w := by simp [getObj, Sem.run, hh]
      simp only [Instr.lookup, Sem.run_bind, run_underlying (mapOf_eq ht), Result.andThen_ok, hg, hck, hfk, Sem.run_pure]
  · simp only [Option.map_eq_some_iff] at h
    obtain ⟨z, hz, rfl⟩ := h
    obtain ⟨hz1, hz2⟩ := run_zeroV hz w
    rw [show foundAs ms.toList none 0 = none from rfl] at hfk
    refine ⟨if ok then .tuple #[z, .bool false] else z, ?_, by cases ok <;> first | exact hz2 ι | exact .pair (hz2 ι) (.bool _)⟩
    rcases hcm with ⟨rfl, rfl⟩ | ⟨r, clock, rfl, hh⟩
    · simp only [Instr.lookup, Sem.run_bind, run_underlying (mapOf_eq ht), Result.andThen_ok, hck, hfk, hz1, Sem.run_pure]
    · have hg : (getObj r).run P w = .ok (.map ms clock) w := by simp [getObj, Sem.run, hh]
      simp only [Instr.lookup, Sem.run_bind, run_underlying (mapOf_eq ht), Result.andThen_ok, hg, hck, hfk, hz1, Sem.run_pure]

/-- A key that is kept, or renewed: of scalars it is one. -/
def flat : Value → Bool
  | .int _ _ | .bool _ | .string _ => true
  | .agg cs => cs.toList.all fun | .int _ _ | .bool _ | .string _ => true | _ => false
  | _ => false
theorem flat_eq {ι : List Pl} {v c : Value} (h : flat v = true) (r : VR ι v c) : c = v := by
  unfold flat at h
  split at h
  · cases r; rfl
  · cases r; rfl
  · cases r; rfl
  · rename_i cs
    cases r with
    | agg _ ccs a1 a2 a3 =>
      congr 1
      apply Array.ext a1.symm
      intro i h1 h2
      have e := a2 i h2
      have hm := List.all_eq_true.1 h _ (getD_mem h2)
      rw [Array.getD_eq_getD_getElem?, Array.getD_eq_getD_getElem?, Array.getElem?_eq_getElem h1, Array.getElem?_eq_getElem h2] at e
      rw [Array.getD_eq_getD_getElem?, Array.getElem?_eq_getElem h2] at hm
      simp only [Option.getD_some] at e hm
      revert hm e
      generalize cs[i] = x
      generalize ccs[i] = y
      intro e hm
      cases e <;> simp_all
  · simp at h

def amapUpdate (P : Program) (t : TypeId) (m k v : Value) (H : Heap) : Option Heap :=
  (mapOf P t).bind fun (kt, e) =>
  match m with
  | .map (some b) =>
    match H[b]? with
    | some (.map true es) => (akey P kt k es).bind fun r =>
      match r with
      | some j => (es[j]?).bind fun x => if flat k = true ∧ flat x.1 = true ∧ Instr.sameBits 10000 x.1 k = true then some (H.set b (.map true (es.set j (k, v)))) else none
      | none => some (H.set b (.map true (es ++ [(k, v)])))
    | _ => none
  | _ => none

theorem ER.set {ι : List Pl} {es : List (Value × Value)} {ms : List MapEntry} (h : ER ι es ms) (j : Nat) {k v : Value} {m : MapEntry} (hk : VR ι k m.key) (hv : VR ι v m.val) : ER ι (es.set j (k, v)) (ms.set j m) := by
  refine ⟨by simp [h.1], fun i k' v' hi => ?_⟩
  have hil : i < es.length := by have := (List.getElem?_eq_some_iff.1 hi).1; simpa using this
  by_cases hij : j = i
  · subst hij
    rw [List.getElem?_set_self hil] at hi
    simp only [Option.some.injEq, Prod.mk.injEq] at hi
    obtain ⟨rfl, rfl⟩ := hi
    exact ⟨m, List.getElem?_set_self (by rw [h.1]; exact hil), hk, hv⟩
  · rw [List.getElem?_set_ne hij] at hi ⊢
    exact h.2 i k' v' hi
theorem ER.push {ι : List Pl} {es : List (Value × Value)} {ms : List MapEntry} (h : ER ι es ms) {k v : Value} {m : MapEntry} (hk : VR ι k m.key) (hv : VR ι v m.val) : ER ι (es ++ [(k, v)]) (ms ++ [m]) := by
  refine ⟨by simp [h.1], fun i k' v' hi => ?_⟩
  by_cases hil : i < es.length
  · rw [List.getElem?_append_left hil] at hi
    rw [List.getElem?_append_left (by rw [h.1]; exact hil)]
    exact h.2 i k' v' hi
  · rw [List.getElem?_append_right (by omega)] at hi
    rw [List.getElem?_append_right (by rw [h.1]; omega), h.1]
    have hz : i - es.length = 0 := by have := (List.getElem?_eq_some_iff.1 hi).1; simp at this; omega
    rw [hz] at hi ⊢
    simp only [List.getElem?_cons_zero, Option.some.injEq, Prod.mk.injEq] at hi
    obtain ⟨rfl, rfl⟩ := hi
    exact ⟨m, rfl, hk, hv⟩
theorem ER.erase {ι : List Pl} {es : List (Value × Value)} {ms : List MapEntry} (h : ER ι es ms) (j : Nat) : ER ι (es.eraseIdx j) (ms.eraseIdx j) := by
  refine ⟨?_, fun i k' v' hi => ?_⟩
  · rw [List.length_eraseIdx, List.length_eraseIdx, h.1]
  · rw [List.getElem?_eraseIdx] at hi ⊢
    split at hi
    · rename_i hc; rw [if_pos hc]; exact h.2 _ _ _ hi
    · rename_i hc; rw [if_neg hc]; exact h.2 _ _ _ hi

/-- A map of one's own is written. -/
theorem WR.setMap {P : Program} {w0 w : World} {ι : List Pl} {H : Heap} (hw : WR P w0 ι H w) {b : Nat} {es es' : List (Value × Value)} {pl : Pl} (hb : H[b]? = some (.map true es)) (hp : ι[b]? = some pl) {ms : Array MapEntry} (clock : Nat)
    (hE : ER ι es' ms.toList) : ∃ w', (setObj pl.blk (.map ms clock)).run P w = .ok () w' ∧ WR P w0 ι (H.set b (.map true es')) w' := by
  obtain ⟨ms0, clock0, h1, h2, h3, h4⟩ := hw.blk b _ pl hb hp
  have hlt : pl.blk < w.heap.size := (Array.getElem?_eq_some_iff.1 h1).1
  refine ⟨{ w with heap := w.heap.setIfInBounds pl.blk (.map ms clock) }, by simp [setObj, Sem.run, h1], hw.upd hb hp rfl rfl rfl rfl (by simp) (fun k _ hk => ?_) ⟨ms, clock, ?_, h2, by simpa using hE.1, fun i k v hi => by simpa using hE.2 i k v hi⟩⟩
  · simp [Array.getElem?_setIfInBounds]; intro hh; omega
  · simp [Array.getElem?_setIfInBounds, hlt]

theorem WR.mapOwn {P : Program} {w0 w : World} {ι : List Pl} {H : Heap} (h : WR P w0 ι H w) {b : Nat} {es : List (Value × Value)} (hb : H[b]? = some (.map true es)) :
    ∃ pl ms clock, ι[b]? = some pl ∧ w.heap[pl.blk]? = some (.map ms clock) ∧ ER ι es ms.toList := by
  obtain ⟨pl, hp, ms, clock, h1, h2, h3, h4⟩ := h.get hb
  exact ⟨pl, ms, clock, hp, h1, by simpa using h3, fun i k v hi => by simpa using h4 i k v hi⟩

theorem amapUpdate_run {P : Program} {w0 w : World} {ι : List Pl} {H H' : Heap} (hw : WR P w0 ι H w) {t : TypeId} {m k v cm ck cv : Value} (hm : VR ι m cm) (hk : VR ι k ck) (hv : VR ι v cv) (h : amapUpdate P t m k v H = some H') :
    ∃ w', (Instr.mapUpdate t cm ck cv).run P w = .ok () w' ∧ WR P w0 ι H' w' := by
  unfold amapUpdate at h
  simp only [Option.bind_eq_some_iff] at h
  obtain ⟨⟨kt, e⟩, ht, h⟩ := h
  split at h
  rotate_left
  · simp at h
  rename_i b
  split at h
  rotate_left
  · simp at h
  rename_i es hb
  simp only [Option.bind_eq_some_iff] at h
  obtain ⟨r, hr, h⟩ := h
  obtain ⟨pl, ms, clock, hp, h1, hE⟩ := hw.mapOwn hb
  obtain ⟨hck, hfk⟩ := akey_run hk hE hr w
  cases hm with
  | map _ pl' hp' =>
    rw [hp] at hp'
    simp only [Option.some.injEq] at hp'
    subst hp'
    split at h
    · rename_i j
      simp only [Option.bind_eq_some_iff] at h
      obtain ⟨⟨x1, x2⟩, hx, h⟩ := h
      split at h
      rotate_left
      · simp at h
      rename_i hc
      obtain ⟨hf1, hf2, hs⟩ := hc
      simp only [Option.some.injEq] at h
      subst h
      obtain ⟨m', hm', hr1, hr2⟩ := hE.2 j x1 x2 hx
      have e1 := flat_eq hf1 hk
      have e2 := flat_eq hf2 hr1
      subst e1
      have hm2 : ms[j]? = some m' := by simpa using hm'
      have hfa : foundAs ms.toList (some j) 0 = some (j, m'.val) := by simp [foundAs] at hm' ⊢; exact ⟨m', hm', rfl⟩
      rw [hfa] at hfk
      have hjl : j < ms.size := (Array.getElem?_eq_some_iff.1 hm2).1
      obtain ⟨w', hr', hW⟩ := hw.setMap hb hp (es' := es.set j (ck, v)) (ms := ms.modify j fun e => { e with key := ck, val := cv }) clock (by
        have : (ms.modify j fun e => { e with key := ck, val := cv }).toList = ms.toList.set j { m' with key := ck, val := cv } := by
          apply List.ext_getElem?
          intro i
          rw [Array.getElem?_toList, Array.getElem?_modify, List.getElem?_set]
          by_cases hij : j = i
          · subst hij
            have hmj : ms[j] = m' := (Array.getElem?_eq_some_iff.1 hm2).2
            simp [hm2, hjl, hmj]
          · simp [hij]
        rw [this]
        exact hE.set j hk hv)
      refine ⟨w', ?_, hW⟩
      have hkey : (Instr.keyThatStays m'.key ck).run P w = .ok ck w := by rw [e2]; simp [Instr.keyThatStays, hs]
      simp only [Instr.mapUpdate, Sem.run_bind, run_underlying (mapOf_eq ht), Result.andThen_ok]
      have hg : (getObj pl.blk).run P w = .ok (.map ms clock) w := by simp [getObj, Sem.run, h1]
      simp only [hg, Result.andThen_ok, Sem.run_bind, hck, hfk, hm2, Option.map_some, Option.getD_some, hkey, hr']
    · simp only [Option.some.injEq] at h
      subst h
      rw [show foundAs ms.toList none 0 = none from rfl] at hfk
      obtain ⟨w', hr', hW⟩ := hw.setMap hb hp (es' := es ++ [(k, v)]) (ms := ms.push { key := ck, val := cv, born := clock }) (clock + 1) (by
        rw [Array.toList_push]; exact hE.push hk hv)
      refine ⟨w', ?_, hW⟩
      have hg : (getObj pl.blk).run P w = .ok (.map ms clock) w := by simp [getObj, Sem.run, h1]
      simp only [Instr.mapUpdate, Sem.run_bind, run_underlying (mapOf_eq ht), Result.andThen_ok, hg, hck, hfk, hr']

def adelete (P : Program) (t : TypeId) (m k : Value) (H : Heap) : Option Heap :=
  (mapOf P t).bind fun (kt, e) =>
  match m with
  | .map (some b) =>
    match H[b]? with
    | some (.map true es) => (akey P kt k es).map fun r =>
      match r with
      | some j => H.set b (.map true (es.eraseIdx j))
      | none => H.set b (.map true es)
    | _ => none
  | _ => none
theorem adelete_run {P : Program} {w0 w : World} {ι : List Pl} {H H' : Heap} (hw : WR P w0 ι H w) {t ty : TypeId} {ts : Array TypeId} {m k cm ck : Value} (hts : ts[0]? = some t) (hm : VR ι m cm) (hk : VR ι k ck) (h : adelete P t m k H = some H') :
    ∃ w', (Builtin.delete_ ts ty #[cm, ck]).run P w = .ok undef w' ∧ WR P w0 ι H' w' := by
  unfold adelete at h
  simp only [Option.bind_eq_some_iff] at h
  obtain ⟨⟨kt, e⟩, ht, h⟩ := h
  split at h
  rotate_left
  · simp at h
  rename_i b
  split at h
  rotate_left
  · simp at h
  rename_i es hb
  simp only [Option.map_eq_some_iff] at h
  obtain ⟨r, hr, rfl⟩ := h
  obtain ⟨pl, ms, clock, hp, h1, hE⟩ := hw.mapOwn hb
  obtain ⟨hck, hfk⟩ := akey_run hk hE hr w
  have hg : (getObj pl.blk).run P w = .ok (.map ms clock) w := by simp [getObj, Sem.run, h1]
  cases hm with
  | map _ pl' hp' =>
    rw [hp] at hp'
    simp only [Option.some.injEq] at hp'
    subst hp'
    cases r with
    | some j =>
      have hjl := (mfind_lt es 0 j (by unfold akey at hr; split at hr; exact hr; simp at hr)).2
      have hml : j < ms.size := by have := hE.1; simp at this; omega
      have hfa : foundAs ms.toList (some j) 0 = some (j, ms[j].val) := by simp [foundAs, hml]
      rw [hfa] at hfk
      obtain ⟨w', hr', hW⟩ := hw.setMap hb hp (es' := es.eraseIdx j) (ms := ms.eraseIdxIfInBounds j) clock (by
        rw [Array.eraseIdxIfInBounds, dif_pos hml, Array.toList_eraseIdx]; exact hE.erase j)
      refine ⟨w', ?_, hW⟩
      simp only [Builtin.delete_, hts, List.getElem?_toArray, List.getElem?_cons_zero, List.getElem?_cons_succ, Sem.run_bind, run_underlying (mapOf_eq ht), Result.andThen_ok, hg, hck, hfk, hr', Sem.run_pure]
      rfl
    | none =>
      rw [show foundAs ms.toList none 0 = none from rfl] at hfk
      obtain ⟨w', hr', hW⟩ := hw.setMap hb hp (es' := es) (ms := ms) clock hE
      refine ⟨w', ?_, hW⟩
      simp only [Builtin.delete_, hts, List.getElem?_toArray, List.getElem?_cons_zero, List.getElem?_cons_succ, Sem.run_bind, run_underlying (mapOf_eq ht), Result.andThen_ok, hg, hck, hfk, hr', Sem.run_pure]
      rfl

def amakeMap (P : Program) (t : TypeId) (r : Option Value) (H : Heap) : Option (Value × Heap) :=
  match r with
  | none => some (.map (some H.length), H ++ [.map true []])
  | some (.int _ _) => (mapOf P t).map fun _ => (.map (some H.length), H ++ [.map true []])
  | _ => none
theorem amakeMap_run {P : Program} {w0 w : World} {ι : List Pl} {H H' : Heap} (hw : WR P w0 ι H w) {t : TypeId} {r cr : Option Value} {v : Value} (hr : VRO ι r cr) (h : amakeMap P t r H = some (v, H')) :
    ∃ ι' cv w', Ext ι ι' ∧ (Instr.makeMap t cr).run P w = .ok cv w' ∧ WR P w0 ι' H' w' ∧ VR ι' v cv := by
  have hx : (ι ++ [⟨w.heap.size, 0, 0, 0⟩])[H.length]? = some ⟨w.heap.size, 0, 0, 0⟩ := by rw [← hw.len]; simp
  have hW : WR P w0 (ι ++ [⟨w.heap.size, 0, 0, 0⟩]) (H ++ [.map true []]) (w.alloc (.map #[] 0)) :=
    hw.fresh _ _ _ rfl ⟨#[], 0, heap_alloc_self _ _, fun _ => hw.below.size, rfl, fun i k v hi => by simp at hi⟩
  have hV : VR (ι ++ [⟨w.heap.size, 0, 0, 0⟩]) (.map (some H.length)) (.map (some w.heap.size)) := .map _ ⟨w.heap.size, 0, 0, 0⟩ hx
  unfold amakeMap at h
  split at h
  · simp only [Option.some.injEq, Prod.mk.injEq] at h
    obtain ⟨rfl, rfl⟩ := h
    cases cr with
    | some c => exact hr.elim
    | none => exact ⟨_, _, _, .push _ _, by simp [Instr.makeMap], hW, hV⟩
  · simp only [Option.map_eq_some_iff, Prod.mk.injEq] at h
    obtain ⟨⟨k, e⟩, ht, rfl, rfl⟩ := h
    cases cr with
    | none => exact hr.elim
    | some c =>
      cases hr
      exact ⟨_, _, _, .push _ _, by simp [Instr.makeMap, run_underlying (mapOf_eq ht), asInt, asIntOf], hW, hV⟩
  · simp at h

end Go.Proofs.Ytdlanbfbbopfhaa.Ax
