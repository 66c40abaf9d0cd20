/- The abstract machine: one operation, told onward (what is behind it is handed in), and that the real one follows it. -/
import Derived.Test.YtdlanbfbbopfhaaAx9
set_option linter.unusedVariables false
set_option linter.unusedSimpArgs false
namespace Go.Proofs.Ytdlanbfbbopfhaa.Ax
open Go Go.RowKit

/-- What is known of a function's slots; the newest first. -/
abbrev Fr := List (Nat × Value)
def getK : Fr → Nat → (Value → Prop) → Prop
  | [], _, _ => False
  | (i, v) :: r, t, K => match Nat.beq i t with | true => K v | false => getK r t K
def getF : Fr → Nat → Option Value
  | [], _ => none
  | (i, v) :: r, t => match Nat.beq i t with | true => some v | false => getF r t
theorem getK_iff {fr : Fr} {t : Nat} {K : Value → Prop} : getK fr t K ↔ ∃ v, getF fr t = some v ∧ K v := by
  induction fr with
  | nil => simp [getK, getF]
  | cons p r ih =>
    obtain ⟨i, v⟩ := p
    simp only [getK, getF]
    split
    · simp
    · exact ih

/-- Something that must come out. -/
structure Ob {α : Type} (x : Option α) (K : α → Prop) : Prop where
  out : ∃ a, x = some a ∧ K a
theorem Ob.of {α : Type} {x : Option α} {K : α → Prop} {a : α} (h : x = some a) (k : K a) : Ob x K := ⟨a, h, k⟩
theorem Ob.step {α : Type} {x y : Option α} {K : α → Prop} (h : x = y) (k : Ob y K) : Ob x K := h ▸ k
/-- Two things that must come out. -/
structure Ob2 {α β : Type} (x : Option (α × β)) (K : α → β → Prop) : Prop where
  out : ∃ r, x = some r ∧ K r.1 r.2
theorem Ob2.of {α β : Type} {x : Option (α × β)} {K : α → β → Prop} {a : α} {b : β} (h : x = some (a, b)) (k : K a b) : Ob2 x K := ⟨(a, b), h, k⟩
def bIf (t : Bool) (X Y : Prop) : Prop := match t with | true => X | false => Y
theorem bIf.of {t : Bool} {X Y : Prop} (h : t = true → X) (k : t = false → Y) : bIf t X Y := by cases t; exact k rfl; exact h rfl
theorem bIf.yes {t : Bool} {X Y : Prop} (h : t = true) (k : X) : bIf t X Y := by subst h; exact k
theorem bIf.no {t : Bool} {X Y : Prop} (h : t = false) (k : Y) : bIf t X Y := by subst h; exact k
theorem bIf.id {t : Bool} {X Y : Prop} (h : bIf t X Y) : bIf t X Y := h
theorem bIf.out {t : Bool} {X Y : Prop} (h : bIf t X Y) : (t = true ∧ X) ∨ (t = false ∧ Y) := by cases t; exact .inr ⟨rfl, h⟩; exact .inl ⟨rfl, h⟩

def evK (fr : Fr) : Operand → (Value → Prop) → Prop
  | .tmp t, K => getK fr t K
  | .const v, K => match constOk v with | true => K v | false => False
  | .func f, K => K (.func (.func f) #[] #[])
  | .global _, _ => False
def evL (fr : Fr) : List Operand → (List Value → Prop) → Prop
  | [], K => K []
  | x :: r, K => evK fr x fun v => evL fr r fun vs => K (v :: vs)
def evP (fr : Fr) : List (Nat × Operand) → (List (Nat × Value) → Prop) → Prop
  | [], K => K []
  | (i, x) :: r, K => evK fr x fun v => evP fr r fun vs => K ((i, v) :: vs)
def evQ (fr : Fr) : Option Operand → (Option Value → Prop) → Prop
  | none, K => K none
  | some x, K => evK fr x fun v => K (some v)

structure FB (n : Nat) (ι : List Pl) (fr : Fr) (a : Act) : Prop where
  size : a.tmps.size = n
  val : ∀ (t : Nat) (v : Value), getF fr t = some v → t < n ∧ VR ι v (a.tmps.getD t Go.undef)
theorem FB.ext {n : Nat} {ι ι' : List Pl} {fr : Fr} {a : Act} (h : FB n ι fr a) (hi : Ext ι ι') : FB n ι' fr a := ⟨h.size, fun t v ht => ⟨(h.val t v ht).1, (h.val t v ht).2.ext hi⟩⟩
theorem FB.put {n : Nat} {ι : List Pl} {fr : Fr} {a : Act} (h : FB n ι fr a) {v cv : Value} (hv : VR ι v cv) {d : Nat} (hd : d < n) : FB n ι ((d, v) :: fr) (a.put (some d) cv) := by
  refine ⟨by simp [Act.put, h.size], fun t u ht => ?_⟩
  simp only [getF] at ht
  have hs := h.size
  split at ht
  · rename_i e
    have e' := Nat.eq_of_beq_eq_true e
    subst e'
    simp only [Option.some.injEq] at ht
    subst ht
    refine ⟨hd, ?_⟩
    simp only [Act.put]
    rw [Array.getD_eq_getD_getElem?, Array.getElem?_setIfInBounds, if_pos rfl, if_pos (by omega)]
    exact hv
  · rename_i e
    obtain ⟨h1, h2⟩ := h.val t u ht
    refine ⟨h1, ?_⟩
    simp only [Act.put]
    rw [Array.getD_eq_getD_getElem?, Array.getElem?_setIfInBounds, if_neg (fun he => by subst he; simp at e)]
    rwa [Array.getD_eq_getD_getElem?] at h2
theorem put_defers (a : Act) (dst : Option Tmp) (v : Value) : (a.put dst v).defers = a.defers := by cases dst <;> rfl

theorem evK_rel {n : Nat} {ι : List Pl} {fr : Fr} {a : Act} (h : FB n ι fr a) {x : Operand} {K : Value → Prop} (he : evK fr x K) : ∃ v, VR ι v (a.eval x) ∧ K v := by
  cases x with
  | tmp t => obtain ⟨v, hv, k⟩ := getK_iff.1 he; exact ⟨v, (h.val t v hv).2, k⟩
  | const c =>
    simp only [evK] at he
    split at he
    · rename_i hc; exact ⟨c, .constOk hc, he⟩
    · exact he.elim
  | global g => exact he.elim
  | func f => exact ⟨_, .func _ _ _ _ _ rfl rfl (fun i h => absurd h (Nat.not_lt_zero _)) (fun i h => absurd h (Nat.not_lt_zero _)), he⟩
theorem evL_rel {n : Nat} {ι : List Pl} {fr : Fr} {a : Act} (h : FB n ι fr a) : ∀ (l : List Operand) (K : List Value → Prop), evL fr l K → ∃ vs, LR ι vs (l.map a.eval) ∧ K vs := by
  intro l
  induction l with
  | nil => intro K he; exact ⟨[], .nil ι, he⟩
  | cons x l ih =>
    intro K he
    obtain ⟨v, hv, he⟩ := evK_rel h he
    obtain ⟨vs, hvs, k⟩ := ih _ he
    exact ⟨v :: vs, .cons hv hvs, k⟩
theorem evP_rel {n : Nat} {ι : List Pl} {fr : Fr} {a : Act} (h : FB n ι fr a) : ∀ (l : List (Nat × Operand)) (K : List (Nat × Value) → Prop), evP fr l K → ∃ vs, PR ι vs (l.map fun (i, x) => (i, a.eval x)) ∧ K vs := by
  intro l
  induction l with
  | nil => intro K he; exact ⟨[], trivial, he⟩
  | cons x l ih =>
    obtain ⟨i, x⟩ := x
    intro K he
    obtain ⟨v, hv, he⟩ := evK_rel h he
    obtain ⟨vs, hvs, k⟩ := ih _ he
    exact ⟨(i, v) :: vs, ⟨rfl, hv, hvs⟩, k⟩
theorem evQ_rel {n : Nat} {ι : List Pl} {fr : Fr} {a : Act} (h : FB n ι fr a) {x : Option Operand} {K : Option Value → Prop} (he : evQ fr x K) : ∃ v, VRO ι v (x.map a.eval) ∧ K v := by
  cases x with
  | none => exact ⟨none, trivial, he⟩
  | some x => obtain ⟨v, hv, k⟩ := evK_rel h he; exact ⟨some v, hv, k⟩

abbrev OpK := Value → Heap → Prop
def builtinK (P : Program) (H : Heap) (b : Builtin) (ts : List TypeId) (vs : List Value) (K : OpK) : Prop :=
  match b, ts, vs with
  | .len, [t], [v] => Ob (alen P t v H) fun r => K r H
  | .min, [_, _], [v, u] => Ob (aminmax false v u) fun r => K r H
  | .max, [_, _], [v, u] => Ob (aminmax true v u) fun r => K r H
  | .append, [t, tx], [s, x] => Ob2 (aappend P t tx s x H) K
  | .copy, [t, _], [d, s] => Ob2 (acopy P t d s H) K
  | .clear, [t], [s] => Ob (aclear P t s H) fun H' => K undef H'
  | .delete, [t, _], [m, k] => Ob (adelete P t m k H) fun H' => K undef H'
  | .unsafeSliceData, [_], [s] => Ob (asliceData s) fun r => K r H
  | .unsafeString, [t, _], [p, n] => Ob2 (aunsafeString P t p n H) K
  | _, _, _ => False

def aalloc (P : Program) (t : TypeId) (H : Heap) : Option (Value × Heap) := (tzero P t).map fun cs => (.pointer (some ⟨H.length, 0, none⟩), H ++ [.cells (modeOf P t cs.length) cs])
def abox (P : Program) (t : TypeId) (v : Value) (H : Heap) : Option (Value × Heap) := (vcells v).map fun cs => (.pointer (some ⟨H.length, 0, none⟩), H ++ [.cells (modeOf P t cs.length) cs])

def noIface (P : Program) (t : TypeId) : Bool := match P.underlying t with | some (.interface _) => false | some _ => true | none => false
def amakeIface (P : Program) (t : TypeId) (v : Value) : Option Value := match noIface P t with | true => some (.iface t v) | false => none
/-- An assertion that holds, of a type that is no interface. -/
def aassert (P : Program) (t : TypeId) (v : Value) (ok : Bool) : Option Value :=
  match v, ok with
  | .iface t' u, false => match noIface P t, Nat.beq t' t with | true, true => some u | _, _ => none
  | _, _ => none
theorem noIface_spec {P : Program} {t : TypeId} (h : noIface P t = true) : ∃ d, P.underlying t = some d ∧ ∀ m, d ≠ .interface m := by
  unfold noIface at h
  split at h
  · cases h
  · rename_i d hne hd
    exact ⟨d, hd, hne⟩
  · cases h
theorem amakeIface_run {P : Program} {ι : List Pl} {t : TypeId} {v r cv : Value} (hv : VR ι v cv) (h : amakeIface P t v = some r) (w : World) : ∃ cr, (Instr.makeInterface t cv).run P w = .ok cr w ∧ VR ι r cr := by
  unfold amakeIface at h
  split at h
  · rename_i hn
    obtain ⟨d, hd, hne⟩ := noIface_spec hn
    simp only [Option.some.injEq] at h
    subst h
    refine ⟨_, ?_, .iface t _ _ hv⟩
    cases d <;> first | exact absurd rfl (hne _) | simp [Instr.makeInterface, run_underlying hd]
  · cases h
theorem aassert_run {P : Program} {ι : List Pl} {t xt : TypeId} {v r cv : Value} {ok : Bool} (hv : VR ι v cv) (h : aassert P t v ok = some r) (w : World) : ∃ cr, (Instr.typeAssert cv xt t ok).run P w = .ok cr w ∧ VR ι r cr := by
  unfold aassert at h
  split at h
  · split at h
    · rename_i hn hb
      obtain ⟨d, hd, hne⟩ := noIface_spec hn
      have := Nat.eq_of_beq_eq_true hb
      subst this
      simp only [Option.some.injEq] at h
      subst h
      cases hv with
      | iface _ _ c g =>
        refine ⟨c, ?_, g⟩
        cases d <;> first | exact absurd rfl (hne _) | simp [Instr.typeAssert, run_underlying hd]
    · cases h
  · cases h
/-- An operation that is no call of a function. -/
def bop (P : Program) (fr : Fr) (H : Heap) : Op → OpK → Prop
  | .move x, K | .assign x, K => evK fr x fun v => K v H
  | .pick c a b, K => evK fr c fun c => match c with | .bool t => bIf t (evK fr a fun v => K v H) (evK fr b fun v => K v H) | _ => False
  | .alloc t, K => Ob2 (aalloc P t H) K
  | .box t x, K => evK fr x fun v => Ob2 (abox P t v H) K
  | .build t parts, K => evP fr parts.toList fun ps => Ob (abuild P t ps) fun r => K r H
  | .buildSlice t n parts, K => evP fr parts.toList fun ps => Ob2 (abuildSlice P t n ps H) K
  | .load t x, K => evK fr x fun p => Ob (aload P t p H) fun r => K r H
  | .store t x y, K => evK fr x fun p => evK fr y fun v => Ob (astore P t p v H) fun H' => K undef H'
  | .nilCheck x, K => evK fr x fun v => match v with | .pointer (some p) => K (.pointer (some p)) H | .func (.func f) a b => K (.func (.func f) a b) H | _ => False
  | .binOp op t x y _, K => evK fr x fun v => evK fr y fun u => Ob (abin P op t v u) fun r => K r H
  | .unOp op _ x, K => evK fr x fun v => Ob (aun op v) fun r => K r H
  | .convert s d x, K => evK fr x fun v => Ob (aconvert P s d v H) fun r => K r H
  | .makeFunc fn first captured, K => evL fr first.toList fun fs => evL fr captured.toList fun cs => K (.func fn fs.toArray cs.toArray) H
  | .makeMap t r, K => evQ fr r fun r => Ob2 (amakeMap P t r H) K
  | .makeSlice t l c, K => evK fr l fun l => evK fr c fun c => Ob2 (amakeSlice P t l c H) K
  | .slice t x lo hi mx, K => evK fr x fun v => evQ fr lo fun lo => evQ fr hi fun hi => evQ fr mx fun mx => Ob (aslice P t v lo hi mx) fun r => K r H
  | .fieldAddr s x f, K => evK fr x fun v => Ob (afieldAddr P s v f) fun r => K r H
  | .field t x f, K => evK fr x fun v => Ob (afield P t v f) fun r => K r H
  | .indexAddr t x i, K => evK fr x fun v => evK fr i fun i => Ob (aindexAddr P t v i) fun r => K r H
  | .index t x i, K => evK fr x fun v => evK fr i fun i => Ob (aindex P t v i) fun r => K r H
  | .lookup t x k ok, K => evK fr x fun m => evK fr k fun k => Ob (alookup P t m k ok H) fun r => K r H
  | .mapUpdate t m k x, K | .insert t m k x, K => evK fr m fun m => evK fr k fun k => evK fr x fun v => Ob (amapUpdate P t m k v H) fun H' => K undef H'
  | .extract t i, K => evK fr t fun v => Ob (aextract v i) fun r => K r H
  | .makeInterface t x, K => evK fr x fun v => Ob (amakeIface P t v) fun r => K r H
  | .typeAssert x _ t ok, K => evK fr x fun v => Ob (aassert P t v ok) fun r => K r H
  | .call c, K => match c.callee with
    | .builtin b => evL fr c.args.toList fun vs => builtinK P H b c.argTypes.toList vs K
    | _ => False
  | _, _ => False

/-- What a run comes to. -/
def Came (P : Program) (w0 : World) (ι : List Pl) (w : World) (s : Sem Next) (v : Value) (H' : Heap) : Prop :=
  ∃ ι' cv w', Ext ι ι' ∧ WR P w0 ι' H' w' ∧ VR ι' v cv ∧ (s.run P w = .ok (.value cv) w' ∨ (s.run P w = .ok .skip w' ∧ cv = undef))
theorem came_pure {P : Program} {w0 w : World} {ι : List Pl} {H : Heap} (hw : WR P w0 ι H w) {s : Sem Value} {v : Value} (h : ∃ cv, s.run P w = .ok cv w ∧ VR ι v cv) :
    Came P w0 ι w (do pure (.value (← s))) v H := by
  obtain ⟨cv, h1, h2⟩ := h
  exact ⟨ι, cv, w, .refl _, hw, h2, .inl (by simp [h1])⟩
theorem came_mk {P : Program} {w0 w : World} {ι : List Pl} {H : Heap} {s : Sem Value} {v : Value} (h : ∃ ι' cv w', Ext ι ι' ∧ s.run P w = .ok cv w' ∧ WR P w0 ι' H w' ∧ VR ι' v cv) :
    Came P w0 ι w (do pure (.value (← s))) v H := by
  obtain ⟨ι', cv, w', h1, h2, h3, h4⟩ := h
  exact ⟨ι', cv, w', h1, h3, h4, .inl (by simp [h2])⟩
theorem came_unit {P : Program} {w0 w : World} {ι : List Pl} {H : Heap} {s : Sem Unit} (h : ∃ w', s.run P w = .ok () w' ∧ WR P w0 ι H w') :
    Came P w0 ι w (do s; pure .skip) undef H := by
  obtain ⟨w', h1, h2⟩ := h
  exact ⟨ι, undef, w', .refl _, h2, .undef _, .inr ⟨by simp [h1], rfl⟩⟩
theorem came_done {P : Program} {w0 w : World} {ι : List Pl} {H : Heap} {s : Sem Value} (h : ∃ w', s.run P w = .ok undef w' ∧ WR P w0 ι H w') :
    Came P w0 ι w (do pure (.value (← s))) undef H := by
  obtain ⟨w', h1, h2⟩ := h
  exact ⟨ι, undef, w', .refl _, h2, .undef _, .inl (by simp [h1])⟩

theorem toList_one {α : Type} {a : Array α} {x : α} (h : a.toList = [x]) : a = #[x] := by rw [← Array.toArray_toList (xs := a), h]
theorem toList_two {α : Type} {a : Array α} {x y : α} (h : a.toList = [x, y]) : a = #[x, y] := by rw [← Array.toArray_toList (xs := a), h]
theorem LR.one {ι : List Pl} {v : Value} {cs : List Value} (h : LR ι [v] cs) : ∃ c, cs = [c] ∧ VR ι v c := by
  obtain ⟨c, hc, hr⟩ := h.2 0 v rfl
  have h1 := h.1
  match cs, h1 with
  | [d], _ => simp only [List.getElem?_cons_zero, Option.some.injEq] at hc; subst hc; exact ⟨_, rfl, hr⟩
theorem LR.two {ι : List Pl} {v u : Value} {cs : List Value} (h : LR ι [v, u] cs) : ∃ c d, cs = [c, d] ∧ VR ι v c ∧ VR ι u d := by
  obtain ⟨c, hc, hr⟩ := h.2 0 v rfl
  obtain ⟨d, hd, hs⟩ := h.2 1 u rfl
  have h1 := h.1
  match cs, h1 with
  | [c', d'], _ =>
    simp only [List.getElem?_cons_zero, List.getElem?_cons_succ, Option.some.injEq] at hc hd
    subst hc hd
    exact ⟨_, _, rfl, hr, hs⟩

theorem builtinK_run {P : Program} {w0 w : World} {ι : List Pl} {H : Heap} (hw : WR P w0 ι H w) {b : Builtin} {ts : Array TypeId} {ty : TypeId} {vs : List Value} {cvs : Array Value} {cons : Array Bool} {K : OpK} (hL : LR ι vs cvs.toList)
    (h : builtinK P H b ts.toList vs K) : ∃ v H', K v H' ∧ Came P w0 ι w (builtin b ts ty cons cvs) v H' := by
  unfold builtinK at h
  split at h
  · rename_i t v' hts
    obtain ⟨r, hr, k⟩ := h.out
    obtain ⟨c, hc, hv⟩ := hL.one
    rw [toList_one hts, toList_one hc]
    exact ⟨_, _, k, came_pure hw (alen_run hw rfl hv hr)⟩
  · rename_i t1 t2 v' u hts
    obtain ⟨r, hr, k⟩ := h.out
    obtain ⟨c, d, hc, hv, hu⟩ := hL.two
    rw [toList_two hc]
    exact ⟨_, _, k, came_pure hw (amin_run hv hu hr _ _ w)⟩
  · rename_i t1 t2 v' u hts
    obtain ⟨r, hr, k⟩ := h.out
    obtain ⟨c, d, hc, hv, hu⟩ := hL.two
    rw [toList_two hc]
    exact ⟨_, _, k, came_pure hw (amax_run hv hu hr _ _ w)⟩
  · rename_i t tx s x hts
    obtain ⟨⟨r, H'⟩, hr, k⟩ := h.out
    obtain ⟨c, d, hc, hv, hu⟩ := hL.two
    rw [toList_two hc, toList_two hts]
    exact ⟨_, _, k, came_mk (aappend_run hw hv hu hr)⟩
  · rename_i t tx d s hts
    obtain ⟨⟨r, H'⟩, hr, k⟩ := h.out
    obtain ⟨c, d, hc, hv, hu⟩ := hL.two
    rw [toList_two hc, toList_two hts]
    obtain ⟨cr, w', h1, h2, h3⟩ := acopy_run (ts := #[t, tx]) (ty := ty) hw rfl hv hu hr
    exact ⟨_, _, k, came_mk ⟨ι, cr, w', .refl _, h1, h2, h3⟩⟩
  · rename_i t s hts
    obtain ⟨r, hr, k⟩ := h.out
    obtain ⟨c, hc, hv⟩ := hL.one
    rw [toList_one hts, toList_one hc]
    exact ⟨_, _, k, came_done (aclear_run (ts := #[t]) hw rfl hv hr)⟩
  · rename_i t tx m k' hts
    obtain ⟨r, hr, k⟩ := h.out
    obtain ⟨c, d, hc, hv, hu⟩ := hL.two
    rw [toList_two hc, toList_two hts]
    exact ⟨_, _, k, came_done (adelete_run (ts := #[t, tx]) hw rfl hv hu hr)⟩
  · rename_i t s hts
    obtain ⟨r, hr, k⟩ := h.out
    obtain ⟨c, hc, hv⟩ := hL.one
    rw [toList_one hc]
    exact ⟨_, _, k, came_pure hw (asliceData_run hv hr _ _ w)⟩
  · rename_i t tx p n hts
    obtain ⟨⟨r, H'⟩, hr, k⟩ := h.out
    obtain ⟨c, d, hc, hv, hu⟩ := hL.two
    rw [toList_two hc, toList_two hts]
    exact ⟨_, _, k, came_mk (aunsafeString_run hw hv hu hr)⟩
  · exact h.elim

theorem bop_run {P : Program} {w0 w : World} {n : Nat} {ι : List Pl} {H : Heap} (hw : WR P w0 ι H w) {fr : Fr} {a : Act} (hf : FB n ι fr a) {o : Oper} {K : OpK} (h : bop P fr H o.op K) :
    ∃ v H', K v H' ∧ Came P w0 ι w (execOp a.eval o) v H' := by
  obtain ⟨dst, op, ty, pos, after, guard⟩ := o
  simp only at h
  unfold bop at h
  split at h
  all_goals simp only [execOp]
  · obtain ⟨v, hv, k⟩ := evK_rel hf h
    exact ⟨_, _, k, ι, _, w, .refl _, hw, hv, .inl rfl⟩
  · obtain ⟨v, hv, k⟩ := evK_rel hf h
    exact ⟨_, _, k, ι, _, w, .refl _, hw, hv, .inl rfl⟩
  · obtain ⟨c, hc, h⟩ := evK_rel hf h
    split at h
    · rename_i t
      generalize a.eval _ = cc at hc
      cases hc
      rcases h.out with ⟨rfl, h⟩ | ⟨rfl, h⟩
      · obtain ⟨v, hv, k⟩ := evK_rel hf h
        exact ⟨_, _, k, ι, _, w, .refl _, hw, hv, .inl (by simp [asBool])⟩
      · obtain ⟨v, hv, k⟩ := evK_rel hf h
        exact ⟨_, _, k, ι, _, w, .refl _, hw, hv, .inl (by simp [asBool])⟩
    · exact h.elim
  · rename_i K t
    obtain ⟨⟨v, H'⟩, hr, k⟩ := h.out
    simp only [aalloc, Option.map_eq_some_iff, Prod.mk.injEq] at hr
    obtain ⟨cs, hcs, rfl, rfl⟩ := hr
    obtain ⟨z, hz, hzc, hzo, _, _⟩ := run_zeroValue hcs w
    obtain ⟨ι', hx, hW, hV⟩ := hw.newVar (cs := cs) (ccs := z.cells) (by rw [hzc]; exact .const hzo) (fun x hx => oneCell_of_const1 (List.all_eq_true.1 hzo x hx)) t
    exact ⟨_, _, k, came_mk ⟨ι', _, _, hx, by simp [Instr.alloc, hz, Go.newVar, Go.newRow], hW, hV⟩⟩
  · rename_i K t x0
    obtain ⟨x, hx, h⟩ := evK_rel hf h
    obtain ⟨⟨v, H'⟩, hr, k⟩ := h.out
    simp only [abox, Option.map_eq_some_iff, Prod.mk.injEq] at hr
    obtain ⟨cs, hcs, rfl, rfl⟩ := hr
    obtain ⟨hL, hone⟩ := vcells_rel hx hcs
    obtain ⟨ι', hx, hW, hV⟩ := hw.newVar hL hone t
    exact ⟨_, _, k, came_mk ⟨ι', _, _, hx, by simp [Instr.box, Go.newVar, Go.newRow], hW, hV⟩⟩
  · obtain ⟨ps, hps, h⟩ := evP_rel hf _ _ h
    obtain ⟨r, hr, k⟩ := h.out
    exact ⟨_, _, k, came_pure hw (abuild_run (by simpa using hps) hr w)⟩
  · obtain ⟨ps, hps, h⟩ := evP_rel hf _ _ h
    obtain ⟨⟨r, H'⟩, hr, k⟩ := h.out
    exact ⟨_, _, k, came_mk (abuildSlice_run hw (by simpa using hps) hr)⟩
  · obtain ⟨p, hp, h⟩ := evK_rel hf h
    obtain ⟨r, hr, k⟩ := h.out
    exact ⟨_, _, k, came_pure hw (aload_run hw hp hr)⟩
  · obtain ⟨p, hp, h⟩ := evK_rel hf h
    obtain ⟨x, hx, h⟩ := evK_rel hf h
    obtain ⟨r, hr, k⟩ := h.out
    exact ⟨_, _, k, came_unit (astore_run hw hp hx hr)⟩
  · obtain ⟨x, hv, h⟩ := evK_rel hf h
    split at h
    · refine ⟨_, _, h, ι, _, w, .refl _, hw, hv, .inl ?_⟩
      generalize a.eval _ = cc at hv
      cases hv
      rfl
    · refine ⟨_, _, h, ι, _, w, .refl _, hw, hv, .inl ?_⟩
      generalize a.eval _ = cc at hv
      cases hv
      rfl
    · exact h.elim
  · obtain ⟨x, hx, h⟩ := evK_rel hf h
    obtain ⟨y, hy, h⟩ := evK_rel hf h
    obtain ⟨r, hr, k⟩ := h.out
    exact ⟨_, _, k, came_pure hw (abin_run hx hy hr w)⟩
  · obtain ⟨x, hx, h⟩ := evK_rel hf h
    obtain ⟨r, hr, k⟩ := h.out
    exact ⟨_, _, k, came_pure hw (aun_run hx hr w)⟩
  · obtain ⟨x, hx, h⟩ := evK_rel hf h
    obtain ⟨r, hr, k⟩ := h.out
    exact ⟨_, _, k, came_pure hw (aconvert_run hw hx hr)⟩
  · obtain ⟨fs, h1, h⟩ := evL_rel hf _ _ h
    obtain ⟨cs, h2, h⟩ := evL_rel hf _ _ h
    refine ⟨_, _, h, came_pure hw ⟨_, rfl, .func _ _ _ _ _ (by simpa using h1.1) (by simpa using h2.1) (fun i hi => ?_) (fun i hi => ?_)⟩⟩
    · have := h1.toArr i (by simpa using hi)
      rw [← Array.toList_map, Array.toArray_toList] at this; exact this
    · have := h2.toArr i (by simpa using hi)
      rw [← Array.toList_map, Array.toArray_toList] at this; exact this
  · obtain ⟨r, hr, h⟩ := evQ_rel hf h
    obtain ⟨⟨x, H'⟩, hx, k⟩ := h.out
    exact ⟨_, _, k, came_mk (amakeMap_run hw hr hx)⟩
  · obtain ⟨l, hl, h⟩ := evK_rel hf h
    obtain ⟨c, hc, h⟩ := evK_rel hf h
    obtain ⟨⟨x, H'⟩, hx, k⟩ := h.out
    exact ⟨_, _, k, came_mk (amakeSlice_run hw hl hc hx)⟩
  · obtain ⟨x, hx, h⟩ := evK_rel hf h
    obtain ⟨lo, hlo, h⟩ := evQ_rel hf h
    obtain ⟨hi, hhi, h⟩ := evQ_rel hf h
    obtain ⟨mx, hmx, h⟩ := evQ_rel hf h
    obtain ⟨r, hr, k⟩ := h.out
    exact ⟨_, _, k, came_pure hw (aslice_run hx hlo hhi hmx hr w)⟩
  · obtain ⟨x, hx, h⟩ := evK_rel hf h
    obtain ⟨r, hr, k⟩ := h.out
    exact ⟨_, _, k, came_pure hw (afieldAddr_run hx hr w)⟩
  · obtain ⟨x, hx, h⟩ := evK_rel hf h
    obtain ⟨r, hr, k⟩ := h.out
    exact ⟨_, _, k, came_pure hw (afield_run hx hr w)⟩
  · obtain ⟨x, hx, h⟩ := evK_rel hf h
    obtain ⟨i, hi, h⟩ := evK_rel hf h
    obtain ⟨r, hr, k⟩ := h.out
    exact ⟨_, _, k, came_pure hw (aindexAddr_run hx hi hr w)⟩
  · obtain ⟨x, hx, h⟩ := evK_rel hf h
    obtain ⟨i, hi, h⟩ := evK_rel hf h
    obtain ⟨r, hr, k⟩ := h.out
    exact ⟨_, _, k, came_pure hw (aindex_run hx hi hr w)⟩
  · obtain ⟨x, hx, h⟩ := evK_rel hf h
    obtain ⟨i, hi, h⟩ := evK_rel hf h
    obtain ⟨r, hr, k⟩ := h.out
    exact ⟨_, _, k, came_pure hw (alookup_run hw hx hi hr)⟩
  · obtain ⟨m, hm, h⟩ := evK_rel hf h
    obtain ⟨i, hi, h⟩ := evK_rel hf h
    obtain ⟨x, hx, h⟩ := evK_rel hf h
    obtain ⟨r, hr, k⟩ := h.out
    exact ⟨_, _, k, came_unit (amapUpdate_run hw hm hi hx hr)⟩
  · obtain ⟨m, hm, h⟩ := evK_rel hf h
    obtain ⟨i, hi, h⟩ := evK_rel hf h
    obtain ⟨x, hx, h⟩ := evK_rel hf h
    obtain ⟨r, hr, k⟩ := h.out
    exact ⟨_, _, k, came_unit (amapUpdate_run hw hm hi hx hr)⟩
  · obtain ⟨x, hx, h⟩ := evK_rel hf h
    obtain ⟨r, hr, k⟩ := h.out
    exact ⟨_, _, k, came_pure hw (aextract_run hx hr w)⟩
  · obtain ⟨x, hx, h⟩ := evK_rel hf h
    obtain ⟨r, hr, k⟩ := h.out
    exact ⟨_, _, k, came_pure hw (amakeIface_run hx hr w)⟩
  · obtain ⟨x, hx, h⟩ := evK_rel hf h
    obtain ⟨r, hr, k⟩ := h.out
    exact ⟨_, _, k, came_pure hw (aassert_run hx hr w)⟩
  · rename_i K c
    split at h
    · rename_i b hb
      obtain ⟨vs, hvs, h⟩ := evL_rel hf _ _ h
      obtain ⟨v, H', k, ι', cv, w', g1, g2, g3, g4⟩ := builtinK_run (cvs := c.args.map a.eval) (ty := ty) (cons := c.args.map fun | .const _ => true | _ => false) hw (by simpa using hvs) h
      refine ⟨v, H', k, ι', cv, w', g1, g2, g3, ?_⟩
      simp only [resolve, hb, invoke, Sem.run_bind, Sem.run_pure, Result.andThen_ok]
      exact g4
    · exact h.elim
  · exact h.elim

end Go.Proofs.Ytdlanbfbbopfhaa.Ax
