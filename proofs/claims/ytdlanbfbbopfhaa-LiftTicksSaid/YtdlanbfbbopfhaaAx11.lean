/- The abstract machine: code and calls, told onward, and that the real ones follow them; loops, scopes. -/
import Derived.Test.YtdlanbfbbopfhaaAx10
import Derived.Laws.Externs
import Derived.KernelRfl
set_option linter.unusedVariables false
set_option linter.unusedSimpArgs false
namespace Go.Proofs.Ytdlanbfbbopfhaa.Ax
open Go Go.RowKit

def AsR (ι : List Pl) (args cargs : Array Value) : Prop := cargs.size = args.size ∧ ∀ i, i < args.size → VR ι (args.getD i Go.undef) (cargs.getD i Go.undef)

/-- What a call answers, and leaves behind. -/
def AEnd (P : Program) (w0 : World) (ι : List Pl) (Q : Value → Heap → Prop) : Ending → World → Prop
  | .returned cv, w' => ∃ v H' ι', Q v H' ∧ Ext ι ι' ∧ WR P w0 ι' H' w' ∧ VR ι' v cv
  | _, _ => False

def Callable (P : Program) (f : FuncId) : Prop := ∃ fn, P.funcs[f]? = some fn ∧ fn.body.isSome = true ∧ fn.name ≠ "runtime.NumGoroutine"

/-- A call of a function, told of abstract memory. -/
structure AX (P : Program) (f : FuncId) (args : Array Value) (H : Heap) (Q : Value → Heap → Prop) : Prop where
  able : Callable P f
  out : ∀ (w0 : World) (ι : List Pl) (w : World) (cargs : Array Value), WR P w0 ι H w → AsR ι args cargs → Calls P f cargs w (AEnd P w0 ι Q)

theorem AX.mono {P : Program} {f : FuncId} {args : Array Value} {H : Heap} {Q R : Value → Heap → Prop} (h : AX P f args H Q) (k : ∀ v H', Q v H' → R v H') : AX P f args H R :=
  ⟨h.1, fun w0 ι w cargs hw ha => (h.2 w0 ι w cargs hw ha).mono fun e w' he => by
    cases e with
    | returned cv => obtain ⟨v, H', ι', q, r⟩ := he; exact ⟨v, H', ι', k v H' q, r⟩
    | panicked ch => exact he.elim
    | outgrown => exact he.elim⟩

theorem AX.id {P : Program} {f : FuncId} {args : Array Value} {H : Heap} {Q : Value → Heap → Prop} (h : AX P f args H Q) : AX P f args H Q := h
inductive AExit where
  | normal
  | exit (id : Nat)
  | goto (l : Nat)
  | ret
abbrev BPost := AExit → Fr → Heap → Prop

def toA : Exit → Option AExit
  | .normal => some .normal
  | .exit id => some (.exit id)
  | .goto l => some (.goto l)
  | .ret => some .ret
  | _ => none
def LB (P : Program) (n : Nat) (w0 : World) (ι : List Pl) (Q : BPost) (e : Exit) (a : Act) (w : World) : Prop :=
  ∃ ae, toA e = some ae ∧ ∃ fr H ι', Ext ι ι' ∧ WR P w0 ι' H w ∧ FB n ι' fr a ∧ a.defers = [] ∧ Q ae fr H
theorem LB.ext {P : Program} {n : Nat} {w0 : World} {ι ι' : List Pl} {Q : BPost} {e : Exit} {a : Act} {w : World} (hi : Ext ι ι') (h : LB P n w0 ι' Q e a w) : LB P n w0 ι Q e a w := by
  obtain ⟨ae, h1, fr, H, ι2, h2, r⟩ := h
  exact ⟨ae, h1, fr, H, ι2, hi.trans h2, r⟩
theorem LB.intro {P : Program} {n : Nat} {w0 : World} {ι : List Pl} {Q : BPost} {e : Exit} {ae : AExit} {a : Act} {w : World} {fr : Fr} {H : Heap} (he : toA e = some ae) (hw : WR P w0 ι H w) (hf : FB n ι fr a) (hd : a.defers = []) (q : Q ae fr H) : LB P n w0 ι Q e a w :=
  ⟨ae, he, fr, H, ι, .refl _, hw, hf, hd, q⟩
theorem LB.mono {P : Program} {n : Nat} {w0 : World} {ι : List Pl} {Q R : BPost} (h : ∀ e fr H, Q e fr H → R e fr H) {e : Exit} {a : Act} {w : World} (k : LB P n w0 ι Q e a w) : LB P n w0 ι R e a w := by
  obtain ⟨ae, h1, fr, H, ι2, h2, h3, h4, h5, q⟩ := k
  exact ⟨ae, h1, fr, H, ι2, h2, h3, h4, h5, h _ _ _ q⟩

/-- A piece of code does what is asked, from what is known. -/
structure SW (P : Program) (n : Nat) (c : Code) (Q : BPost) (fr : Fr) (H : Heap) : Prop where
  out : ∀ (w0 : World) (ι : List Pl) (a : Act) (w : World), WR P w0 ι H w → FB n ι fr a → a.defers = [] → c.wp P (LB P n w0 ι Q) a w
theorem SW.mono {P : Program} {n : Nat} {c : Code} {Q R : BPost} {fr : Fr} {H : Heap} (h : SW P n c Q fr H) (k : ∀ e fr H, Q e fr H → R e fr H) : SW P n c R fr H :=
  ⟨fun w0 ι a w hw hf hd => wp_mono (h.out w0 ι a w hw hf hd) fun e a w => LB.mono k⟩
/-- What is known, told in part. -/
def Sub (F fr : Fr) : Prop := ∀ (t : Nat) (v : Value), getF F t = some v → getF fr t = some v
theorem SW.sub {P : Program} {n : Nat} {c : Code} {Q : BPost} {F fr : Fr} {H : Heap} (h : SW P n c Q F H) (k : Sub F fr) : SW P n c Q fr H :=
  ⟨fun w0 ι a w hw hf hd => h.out w0 ι a w hw ⟨hf.size, fun t v ht => hf.val t v (k t v ht)⟩ hd⟩
/-- Slots and values, one by one. -/
def Has (fr : Fr) : Fr → Prop
  | [] => True
  | (t, v) :: r => getF fr t = some v ∧ Has fr r
theorem Sub.of {F fr : Fr} (h : Has fr F) : Sub F fr := by
  induction F with
  | nil => intro t v ht; simp [getF] at ht
  | cons p r ih =>
    obtain ⟨i, u⟩ := p
    intro t v ht
    simp only [getF] at ht
    split at ht
    · rename_i e
      have := Nat.eq_of_beq_eq_true e
      subst this
      simp only [Option.some.injEq] at ht
      subst ht
      exact h.1
    · exact ih h.2 t v ht

/-- The library's function that hands its pointer back. -/
def noEsc (P : Program) (g : FuncId) : Bool :=
  match P.funcs[g]? with
  | some fn => match fn.body with | some _ => false | none => fn.name == "internal/abi.NoEscape" && fn.origin == ""
  | none => false
/-- The library's function that makes a map anew. -/
def mapsClone (P : Program) (g : FuncId) : Bool :=
  match P.funcs[g]? with
  | some fn => match fn.body with | some _ => false | none => fn.name == "maps.clone" && fn.origin == ""
  | none => false
def aclone (v : Value) (H : Heap) : Option (Value × Heap) :=
  match v with
  | .iface t (.map (some b)) => (hmap H b).map fun es => (.iface t (.map (some H.length)), H ++ [.map true es])
  | _ => none
/-- One operation, and what comes behind it. -/
def boper (P : Program) (o : Oper) (fr : Fr) (H : Heap) (K : OpK) : Prop :=
  match o.op with
  | .call c =>
    match c.callee with
    | .value f =>
      match f with
      | .func g => evL fr c.args.toList fun as => match noEsc P g with | true => (match as with | [v] => K v H | _ => False) | false => match mapsClone P g with | true => (match as with | [v] => Ob2 (aclone v H) K | _ => False) | false => AX P g as.toArray H K
      | f => evK fr f fun fv => match fv with | .func (.func g) first cap => evL fr c.args.toList fun as => AX P g (first ++ as.toArray ++ cap) H K | _ => False
    | .builtin b => bop P fr H (.call c) K
    | .invoke _ _ => False
  | op => bop P fr H op K

def wantK (ops : List Oper) (fr : Fr) (g : Option (Nat × Bool)) (X Y : Prop) : Prop :=
  match g with
  | none => X
  | some (j, want) =>
    match (ops[j]?).bind (·.dst) with
    | some d => getK fr d fun v => match v with | .bool b => (match want with | true => bIf b X Y | false => bIf b Y X) | _ => Y
    | none => Y
def putK (n : Nat) (fr : Fr) (d : Option Nat) (v : Value) (K : Fr → Prop) : Prop :=
  match d with
  | none => K fr
  | some d => match Nat.blt d n with | true => K ((d, v) :: fr) | false => False
def wantB (ops : List Oper) (fr : Fr) (g : Option (Nat × Bool)) (K : Bool → Prop) : Prop := wantK ops fr g (K true) (K false)
def doB (P : Program) (n : Nat) (o : Oper) (fr : Fr) (H : Heap) (w : Bool) (K : Fr → Heap → Prop) : Prop :=
  match w with
  | true => boper P o fr H fun v H' => putK n fr o.dst v fun fr' => K fr' H'
  | false => putK n fr o.dst undef fun fr' => K fr' H
def bops (P : Program) (n : Nat) (ops : List Oper) (Q : BPost) : List Oper → Fr → Heap → Prop
  | [] => fun fr H => Q .normal fr H
  | o :: rest => fun fr H => wantB ops fr o.guard fun w => doB P n o fr H w (bops P n ops Q rest)

def thenB (K : Fr → Heap → Prop) (Q : BPost) : BPost
  | .normal, fr, H => K fr H
  | e, fr, H => Q e fr H
def inBl (id : Nat) (Q : BPost) : BPost
  | .exit id', fr, H => match Nat.beq id' id with | true => Q .normal fr H | false => Q (.exit id') fr H
  | e, fr, H => Q e fr H
def bC (P : Program) (n : Nat) : Code → BPost → Fr → Heap → Prop
  | .skip, Q => Q .normal
  | .label _, Q => Q .normal
  | .region id ops draw, Q => match draw with | false => bops P n ops.toList Q ops.toList | true => SW P n (.region id ops true) Q
  | .seq x y, Q => bC P n x (thenB (bC P n y Q) Q)
  | .cond c x y, Q => fun fr H => evK fr c fun v => match v with | .bool b => bIf b (bC P n x Q fr H) (bC P n y Q fr H) | _ => False
  | .block id x, Q => bC P n x (inBl id Q)
  | .loop x, Q => SW P n (.loop x) Q
  | .exit id, Q => Q (.exit id)
  | .scope x, Q => SW P n (.scope x) Q
  | .goto l, Q => Q (.goto l)
  | .ret, Q => Q .ret
  | .rangeFunc f ps x y, Q => SW P n (.rangeFunc f ps x y) Q
  | .refuse _, _ => fun _ _ => False

theorem noEsc_parts {P : Program} {g : FuncId} (h : noEsc P g = true) : ∃ fn, P.funcs[g]? = some fn ∧ fn.body = none ∧ fn.name = "internal/abi.NoEscape" ∧ fn.origin = "" := by
  unfold noEsc at h
  split at h
  · rename_i fn hfn
    split at h
    · simp at h
    · rename_i hb
      simp only [Bool.and_eq_true, beq_iff_eq] at h
      exact ⟨fn, hfn, hb, h.1, h.2⟩
  · simp at h
theorem run_noEsc {P : Program} {g : FuncId} {fn : Func} (hfn : P.funcs[g]? = some fn) (hb : fn.body = none) (hnm : fn.name = "internal/abi.NoEscape") (hor : fn.origin = "") (v : Value) (w : World) :
    (callFunc g #[v]).run P w = .ok (.value v) w := by
  have k1 : Extern.allGenericRows.lookup "internal/abi.NoEscape" = none := by kernel_rfl
  have k2 : Extern.allTypedRows.lookup "internal/abi.NoEscape" = none := by kernel_rfl
  have k3 : Extern.allRows.lookup "internal/abi.NoEscape" = some Extern.AbiNoEscape.same := by kernel_rfl
  have k4 : Extern.allNextRows.lookup "internal/abi.NoEscape" = none := by kernel_rfl
  have k5 : Extern.allNextRows.lookup "" = none := by kernel_rfl
  have h1 : Extern.findNext fn = none := by simp [Extern.findNext, hnm, hor, k4, k5]
  have h2 : Extern.find fn = some Extern.AbiNoEscape.same := by simp [Extern.find, hnm, hor, k1, k2, k3]
  rw [run_callFunc_extern hfn (by rw [hnm]; kernel_rfl) (by simp [hb]) h1 h2]
  rfl
theorem mapsClone_parts {P : Program} {g : FuncId} (h : mapsClone P g = true) : ∃ fn, P.funcs[g]? = some fn ∧ fn.body = none ∧ fn.name = "maps.clone" ∧ fn.origin = "" := by
  unfold mapsClone at h
  split at h
  · rename_i fn hfn
    split at h
    · simp at h
    · rename_i hb
      simp only [Bool.and_eq_true, beq_iff_eq] at h
      exact ⟨fn, hfn, hb, h.1, h.2⟩
  · simp at h
theorem aclone_run {P : Program} {w0 w : World} {ι : List Pl} {H H' : Heap} (hw : WR P w0 ι H w) {v r cv : Value} (hv : VR ι v cv) (h : aclone v H = some (r, H')) :
    ∃ ι' cr w', Ext ι ι' ∧ (Extern.MapsClone.clone #[cv]).run P w = .ok cr w' ∧ WR P w0 ι' H' w' ∧ VR ι' r cr := by
  unfold aclone at h
  split at h
  · rename_i t b
    simp only [Option.map_eq_some_iff, Prod.mk.injEq] at h
    obtain ⟨es, hes, rfl, rfl⟩ := h
    cases hv with
    | iface _ _ c g =>
      cases g with
      | map _ pl hp =>
        obtain ⟨o, pl', ms, clock, hb, hp', hm, hsz, _, hE⟩ := hw.map hes
        rw [hp] at hp'
        simp only [Option.some.injEq] at hp'
        subst hp'
        have hx : (ι ++ [⟨w.heap.size, 0, 0, 0⟩])[H.length]? = some ⟨w.heap.size, 0, 0, 0⟩ := by rw [← hw.len]; simp
        refine ⟨ι ++ [⟨w.heap.size, 0, 0, 0⟩], .iface t (.map (some w.heap.size)), w.alloc (.map ms clock), .push _ _, ?_, hw.fresh _ _ _ rfl ⟨ms, clock, heap_alloc_self _ _, fun _ => hw.below.size, hsz, fun i k v hi => ?_⟩, .iface t _ _ (.map H.length _ hx)⟩
        · have e : Extern.MapsClone.clone #[.iface t (.map (some pl.blk))] = (getObj pl.blk >>= fun o => match o with
              | .map entries clock => (newObj (.map entries clock) >>= fun n => pure (.iface t (.map (some n))))
              | _ => stuck "maps.clone: a map expected") := rfl
          rw [e]
          simp [getObj, hm, newObj, Sem.run]
        · obtain ⟨m, h1, h2, h3⟩ := hE i k v hi
          exact ⟨m, h1, h2.ext (.push _ _), h3.ext (.push _ _)⟩
  · cases h
theorem run_mapsClone {P : Program} {g : FuncId} {fn : Func} (hfn : P.funcs[g]? = some fn) (hb : fn.body = none) (hnm : fn.name = "maps.clone") (hor : fn.origin = "") (v : Value) (w : World) :
    (callFunc g #[v]).run P w = ((Extern.MapsClone.clone #[v]).run P w).andThen fun v w' => .ok (.value v) w' := by
  have k1 : Extern.allGenericRows.lookup "maps.clone" = none := by kernel_rfl
  have k2 : Extern.allTypedRows.lookup "maps.clone" = none := by kernel_rfl
  have k3 : Extern.allRows.lookup "maps.clone" = some Extern.MapsClone.clone := by kernel_rfl
  have k4 : Extern.allNextRows.lookup "maps.clone" = none := by kernel_rfl
  have k5 : Extern.allNextRows.lookup "" = none := by kernel_rfl
  have h1 : Extern.findNext fn = none := by simp [Extern.findNext, hnm, hor, k4, k5]
  have h2 : Extern.find fn = some Extern.MapsClone.clone := by simp [Extern.find, hnm, hor, k1, k2, k3]
  exact run_callFunc_extern hfn (by rw [hnm]; kernel_rfl) (by simp [hb]) h1 h2 #[v] w
theorem boper_sound {P : Program} {n : Nat} {w0 w : World} {ι : List Pl} {H : Heap} (hw : WR P w0 ι H w) {fr : Fr} {a : Act} (hf : FB n ι fr a) {o : Oper} {K : OpK} (h : boper P o fr H K)
    {next : Act → World → Prop} {Q : Exit → Act → World → Prop} (hn : ∀ v H' ι' cv w', K v H' → Ext ι ι' → WR P w0 ι' H' w' → VR ι' v cv → next (a.put o.dst cv) w') : o.wp P a w next Q := by
  have fin : bop P fr H o.op K → o.wp P a w next Q := by
    intro h
    obtain ⟨v, H', k, ι', cv, w', h1, h2, h3, h4⟩ := bop_run hw hf h
    unfold Oper.wp
    rcases h4 with h4 | ⟨h4, h5⟩
    · rw [h4]; exact hn v H' ι' cv w' k h1 h2 h3
    · rw [h4]; subst h5; exact hn v H' ι' _ w' k h1 h2 h3
  have call : ∀ (c : Call) (f : Operand), o.op = .call c → c.callee = .value f → (∃ g first cap as, VR ι (.func (.func g) first cap) (a.eval f) ∧ LR ι as (c.args.toList.map a.eval) ∧ AX P g (first ++ as.toArray ++ cap) H K) → o.wp P a w next Q := by
    rintro c f hop hcl ⟨g, first, cap, as, e1, e2, ⟨⟨fn, hfn, hbody, hname⟩, hax⟩⟩
    generalize hce : a.eval f = ce at e1
    cases e1 with
    | func _ _ cfirst _ ccap s1 s2 v1 v2 =>
      have hargs : AsR ι (first ++ as.toArray ++ cap) (cfirst ++ c.args.map a.eval ++ ccap) := by
        have l1 : LR ι first.toList cfirst.toList := .arr s1 v1
        have l2 : LR ι cap.toList ccap.toList := .arr s2 v2
        have l := (l1.append e2).append l2
        have e3 : (first ++ as.toArray ++ cap).toList = first.toList ++ as ++ cap.toList := by simp
        have e4 : (cfirst ++ c.args.map a.eval ++ ccap).toList = cfirst.toList ++ List.map a.eval c.args.toList ++ ccap.toList := by simp
        rw [← e3, ← e4] at l
        refine ⟨by have := l.1; simp only [Array.length_toList] at this; omega, fun i hi => ?_⟩
        have := l.toArr i (by simpa using hi)
        rw [Array.toArray_toList, Array.toArray_toList] at this
        exact this
      have hcalls := hax w0 ι w _ hw hargs
      have hrun : (execOp a.eval o).run P w = .ok (.enter g (cfirst ++ c.args.map a.eval ++ ccap)) w := by
        have hb : fn.body ≠ none := by intro hb; simp [hb] at hbody
        simp [execOp, hop, resolve, hcl, hce, Deferred.ofValue, invoke, callFunc, hfn, hb, hname]
      unfold Oper.wp
      rw [hrun]
      refine hcalls.mono fun e w' he => ?_
      cases e with
      | returned cv =>
        obtain ⟨v, H', ι', q, h1, h2, h3⟩ := he
        exact hn v H' ι' cv w' q h1 h2 h3
      | panicked ch => exact he.elim
      | outgrown => exact he.elim
  unfold boper at h
  split at h
  · rename_i c hop
    split at h
    · rename_i f hcl
      split at h
      · rename_i g
        obtain ⟨as, has, h⟩ := evL_rel hf _ _ h
        split at h
        · rename_i hne
          split at h
          · rename_i v
            obtain ⟨fn, hfn, hb, hnm, hor⟩ := noEsc_parts hne
            obtain ⟨cv, hcv, hr⟩ := has.one
            have hargs : c.args.map a.eval = #[cv] := by
              have : (c.args.map a.eval).toList = [cv] := by simpa using hcv
              exact toList_one this
            have hrun : (execOp a.eval o).run P w = .ok (.value cv) w := by
              simp [execOp, hop, resolve, hcl, Act.eval, Deferred.ofValue, invoke, hargs]
              exact run_noEsc hfn hb hnm hor cv w
            unfold Oper.wp
            rw [hrun]
            exact hn v H ι cv w h (.refl _) hw hr
          · exact h.elim
        split at h
        · rename_i hne
          split at h
          · rename_i v
            obtain ⟨⟨r, H'⟩, hr0, hK⟩ := h.out
            obtain ⟨fn, hfn, hb, hnm, hor⟩ := mapsClone_parts hne
            obtain ⟨cv, hcv, hr⟩ := has.one
            have hargs : c.args.map a.eval = #[cv] := by
              have : (c.args.map a.eval).toList = [cv] := by simpa using hcv
              exact toList_one this
            obtain ⟨ι', cr, w', x1, x2, x3, x4⟩ := aclone_run hw hr hr0
            have hrun : (execOp a.eval o).run P w = .ok (.value cr) w' := by
              simp [execOp, hop, resolve, hcl, Act.eval, Deferred.ofValue, invoke, hargs]
              rw [run_mapsClone hfn hb hnm hor cv w, x2]
              rfl
            unfold Oper.wp
            rw [hrun]
            exact hn r H' ι' cr w' hK x1 x3 x4
          · exact h.elim
        refine call c _ hop hcl ⟨g, #[], #[], as, .func _ _ _ _ _ rfl rfl (fun i h => absurd h (Nat.not_lt_zero _)) (fun i h => absurd h (Nat.not_lt_zero _)), has, ?_⟩
        simpa using h
      · obtain ⟨fv, hfv, h⟩ := evK_rel hf h
        split at h
        · obtain ⟨as, has, h⟩ := evL_rel hf _ _ h
          exact call c _ hop hcl ⟨_, _, _, as, hfv, has, h⟩
        · exact h.elim
    · exact fin (by rw [hop]; exact h)
    · exact h.elim
  · exact fin (by rename_i hne; revert h; cases hop : o.op <;> first | exact id | (exfalso; exact hne _ hop))

theorem wantK_sound {n : Nat} {ι : List Pl} {fr : Fr} {a : Act} (hf : FB n ι fr a) {ops : Array Oper} {o : Oper} {X Y : Prop} (h : wantK ops.toList fr o.guard X Y) :
    (Region.wanted o (yielded ops a.tmps) = true ∧ X) ∨ (Region.wanted o (yielded ops a.tmps) = false ∧ Y) := by
  unfold wantK at h
  split at h
  · rename_i hg; exact .inl ⟨by simp [Region.wanted, hg], h⟩
  · rename_i j want hg
    have hl : (ops.toList[j]?).bind (·.dst) = (ops[j]?).bind (·.dst) := by rw [Array.getElem?_toList]
    rw [hl] at h
    split at h
    · rename_i d hd
      obtain ⟨v, hv, h⟩ := getK_iff.1 h
      obtain ⟨h1, h2⟩ := hf.val d v hv
      have hlt : d < a.tmps.size := by rw [hf.size]; exact h1
      rw [Array.getD_eq_getD_getElem?, Array.getElem?_eq_getElem hlt] at h2
      simp only [Option.getD_some] at h2
      have hy : ∀ b, a.tmps[d]'hlt = .bool b → yielded ops a.tmps j = some b := by
        intro b hb
        simp [yielded, hd, Array.getElem?_eq_getElem hlt, hb]
      have hn : (∀ b, a.tmps[d]'hlt ≠ .bool b) → yielded ops a.tmps j = none := by
        intro hb
        unfold yielded
        simp only [hd, Option.bind_some, Array.getElem?_eq_getElem hlt]
        split
        · rename_i b he; simp only [Option.some.injEq] at he; exact absurd he (hb b)
        · rfl
      split at h
      · rename_i b
        have hb : a.tmps[d]'hlt = .bool b := by
          revert h2
          generalize a.tmps[d]'hlt = y
          intro h2
          cases h2
          rfl
        have := hy b hb
        split at h
        · rcases h.out with ⟨rfl, h⟩ | ⟨rfl, h⟩
          · exact .inl ⟨by simp [Region.wanted, hg, this], h⟩
          · exact .inr ⟨by simp [Region.wanted, hg, this], h⟩
        · rcases h.out with ⟨rfl, h⟩ | ⟨rfl, h⟩
          · exact .inr ⟨by simp [Region.wanted, hg, this], h⟩
          · exact .inl ⟨by simp [Region.wanted, hg, this], h⟩
      · rename_i hnb
        have hb : ∀ b, a.tmps[d]'hlt ≠ .bool b := by
          intro b
          revert h2
          generalize a.tmps[d]'hlt = y
          intro h2 he
          subst he
          cases h2
          exact hnb _ rfl
        exact .inr ⟨by simp [Region.wanted, hg, hn hb], h⟩
    · rename_i hd
      exact .inr ⟨by simp [Region.wanted, hg, yielded, hd], h⟩

theorem bops_sound {P : Program} {n : Nat} {w0 : World} {ops : Array Oper} {Q : BPost} {ι0 : List Pl} : ∀ (l : List Oper) (fr : Fr) (H : Heap) (ι : List Pl) (a : Act) (w : World), Ext ι0 ι → WR P w0 ι H w → FB n ι fr a → a.defers = [] → bops P n ops.toList Q l fr H →
    wpList P ops (LB P n w0 ι0 Q) l a w := by
  intro l
  induction l with
  | nil => intro fr H ι a w hx hw hf hd h; exact (LB.intro (e := .normal) rfl hw hf hd h).ext hx
  | cons o l ih =>
    intro fr H ι a w hx hw hf hd h
    have put : ∀ (v : Value) (cv : Value) (H' : Heap) (ι' : List Pl) (w' : World), (putK n fr o.dst v fun fr' => bops P n ops.toList Q l fr' H') → Ext ι ι' → WR P w0 ι' H' w' → VR ι' v cv → wpList P ops (LB P n w0 ι0 Q) l (a.put o.dst cv) w' := by
      intro v cv H' ι' w' k h1 h2 h3
      unfold putK at k
      split at k
      · rename_i hd'; rw [hd']; exact ih _ _ ι' _ w' (hx.trans h1) h2 (hf.ext h1) hd k
      · rename_i d hd'
        split at k
        · rename_i hb
          rw [hd']
          exact ih _ _ ι' _ w' (hx.trans h1) h2 ((hf.ext h1).put h3 (by simpa [Nat.blt_eq] using hb)) hd k
        · exact k.elim
    unfold wpList
    have h : wantK ops.toList fr o.guard (boper P o fr H fun v H' => putK n fr o.dst v fun fr' => bops P n ops.toList Q l fr' H') (putK n fr o.dst undef fun fr' => bops P n ops.toList Q l fr' H) := h
    rcases wantK_sound hf h with ⟨h1, h⟩ | ⟨h1, h⟩
    · rw [if_pos h1]
      exact .inl (boper_sound hw hf h fun v H' ι' cv w' k h1 h2 h3 => put v cv H' ι' w' k h1 h2 h3)
    · rw [if_neg (by simp [h1])]
      exact put undef undef H ι w h (.refl _) hw (.undef ι)

theorem bC_sound {P : Program} {n : Nat} : ∀ (c : Code) (Q : BPost) (fr : Fr) (H : Heap), bC P n c Q fr H → SW P n c Q fr H := by
  intro c
  induction c with
  | skip => intro Q fr H h; exact ⟨fun w0 ι a w hw hf hd => wp_skip (.intro rfl hw hf hd h)⟩
  | label l => intro Q fr H h; exact ⟨fun w0 ι a w hw hf hd => wp_label (.intro rfl hw hf hd h)⟩
  | region id ops draw =>
    intro Q fr H h
    cases draw with
    | false => exact ⟨fun w0 ι a w hw hf hd => wp_region_list (bops_sound _ fr H ι a w (.refl _) hw hf hd h)⟩
    | true => exact h
  | seq x y ihx ihy =>
    intro Q fr H h
    refine ⟨fun w0 ι a w hw hf hd => wp_seq (wp_mono ((ihx _ fr H h).out w0 ι a w hw hf hd) fun e a' w' hq => ?_)⟩
    obtain ⟨ae, he, fr', H', ι', hx, hw', hf', hd', q⟩ := hq
    cases e with
    | normal =>
      simp only [toA, Option.some.injEq] at he; subst he
      exact wp_mono ((ihy _ fr' H' q).out w0 ι' a' w' hw' hf' hd') fun e a w hq => hq.ext hx
    | exit id => simp only [toA, Option.some.injEq] at he; subst he; exact ⟨_, rfl, fr', H', ι', hx, hw', hf', hd', q⟩
    | goto l => simp only [toA, Option.some.injEq] at he; subst he; exact ⟨_, rfl, fr', H', ι', hx, hw', hf', hd', q⟩
    | ret => simp only [toA, Option.some.injEq] at he; subst he; exact ⟨_, rfl, fr', H', ι', hx, hw', hf', hd', q⟩
    | panic ch => simp [toA] at he
    | outgrown => simp [toA] at he
  | cond c x y ihx ihy =>
    intro Q fr H h
    refine ⟨fun w0 ι a w hw hf hd => ?_⟩
    obtain ⟨v, hv, h⟩ := evK_rel hf h
    split at h
    · rename_i b
      generalize hce : a.eval c = ce at hv
      cases hv
      rcases h.out with ⟨rfl, h⟩ | ⟨rfl, h⟩
      · exact wp_cond_true hce ((ihx _ fr H h).out w0 ι a w hw hf hd)
      · exact wp_cond_false hce ((ihy _ fr H h).out w0 ι a w hw hf hd)
    · exact h.elim
  | block id x ihx =>
    intro Q fr H h
    refine ⟨fun w0 ι a w hw hf hd => wp_block (wp_mono ((ihx _ fr H h).out w0 ι a w hw hf hd) fun e a' w' hq => ?_)⟩
    obtain ⟨ae, he, fr', H', ι', hx, hw', hf', hd', q⟩ := hq
    cases e with
    | normal => simp only [toA, Option.some.injEq] at he; subst he; exact ⟨_, rfl, fr', H', ι', hx, hw', hf', hd', q⟩
    | exit id' =>
      simp only [toA, Option.some.injEq] at he; subst he
      simp only [inBl] at q
      simp only [Exit.inBlock]
      split at q
      · rename_i hid; rw [if_pos (Nat.eq_of_beq_eq_true hid)]; exact ⟨_, rfl, fr', H', ι', hx, hw', hf', hd', q⟩
      · rename_i hid; rw [if_neg (Nat.ne_of_beq_eq_false hid)]; exact ⟨_, rfl, fr', H', ι', hx, hw', hf', hd', q⟩
    | goto l => simp only [toA, Option.some.injEq] at he; subst he; exact ⟨_, rfl, fr', H', ι', hx, hw', hf', hd', q⟩
    | ret => simp only [toA, Option.some.injEq] at he; subst he; exact ⟨_, rfl, fr', H', ι', hx, hw', hf', hd', q⟩
    | panic ch => simp [toA] at he
    | outgrown => simp [toA] at he
  | loop x ihx => intro Q fr H h; exact h
  | rangeFunc f ps x y => intro Q fr H h; exact h
  | exit id => intro Q fr H h; exact ⟨fun w0 ι a w hw hf hd => wp_exit (.intro rfl hw hf hd h)⟩
  | scope x ihx => intro Q fr H h; exact h
  | goto l => intro Q fr H h; exact ⟨fun w0 ι a w hw hf hd => wp_goto (.intro rfl hw hf hd h)⟩
  | ret => intro Q fr H h; exact ⟨fun w0 ι a w hw hf hd => wp_ret (.intro rfl hw hf hd h)⟩
  | refuse s => intro Q fr H h; exact h.elim

/-! ### Loops and scopes -/
/-- A loop: F x is what is known at the head of a round, I what holds of the heap; μ goes down. -/
def roundP {α : Type} (F : α → Fr) (I : α → Heap → Prop) (μ : α → Nat) (x : α) (Q : BPost) : BPost
  | .normal, fr, H => ∃ y, Has fr (F y) ∧ I y H ∧ μ y < μ x
  | e, fr, H => Q e fr H
theorem SW.loop {P : Program} {n : Nat} {c : Code} {Q : BPost} {fr : Fr} {H : Heap} {α : Type} (F : α → Fr) (I : α → Heap → Prop) (μ : α → Nat) (h0 : ∃ x, Has fr (F x) ∧ I x H)
    (step : ∀ x H, I x H → SW P n c (roundP F I μ x Q) (F x) H) : SW P n (.loop c) Q fr H := by
  refine ⟨fun w0 ι a w hw hf hd b k cs => ?_⟩
  have key : ∀ (m : Nat) (x : α) (H : Heap) (ι : List Pl) (a : Act) (w : World), μ x = m → I x H → WR P w0 ι H w → FB n ι (F x) a → a.defers = [] →
      ∃ e a' w', LB P n w0 ι Q e a' w' ∧ Arrives P (lone (b.at a (.code c :: .inLoop c :: k)) cs w) b k cs e a' w' := by
    intro m
    induction m using Nat.strongRecOn with
    | _ m ih =>
      intro x H ι a w hm hI hw hf hd
      obtain ⟨e, a1, w1, ⟨ae, he, fr1, H1, ι1, hx, hw1, hf1, hd1, q⟩, harr⟩ := (step x H hI).out w0 ι a w hw hf hd b (.inLoop c :: k) cs
      have pass : Q ae fr1 H1 → e ≠ .normal → ∃ e a' w', LB P n w0 ι Q e a' w' ∧ Arrives P (lone (b.at a (.code c :: .inLoop c :: k)) cs w) b k cs e a' w' := fun q' hn =>
        ⟨e, a1, w1, ⟨ae, he, fr1, H1, ι1, hx, hw1, hf1, hd1, q'⟩, .pass (x := .inLoop c) rfl (fun _ _ => .inl hn) harr⟩
      cases e with
      | normal =>
        simp only [toA, Option.some.injEq] at he
        subst he
        obtain ⟨y, hy, hIy, hlt⟩ := q
        obtain ⟨e2, a2, w2, q2, harr2⟩ := ih (μ y) (hm ▸ hlt) y H1 ι1 a1 w1 rfl hIy hw1 ⟨hf1.size, fun t v ht => hf1.val t v (Sub.of hy t v ht)⟩ hd1
        exact ⟨e2, a2, w2, q2.ext hx, .of_steps (Steps.trans harr (.one step_inLoop)) harr2⟩
      | exit id => simp only [toA, Option.some.injEq] at he; subst he; exact pass q (by simp)
      | goto l => simp only [toA, Option.some.injEq] at he; subst he; exact pass q (by simp)
      | ret => simp only [toA, Option.some.injEq] at he; subst he; exact pass q (by simp)
      | panic ch => simp [toA] at he
      | outgrown => simp [toA] at he
  obtain ⟨x, hx, hI⟩ := h0
  obtain ⟨e, a', w', q, harr⟩ := key _ x H ι a w rfl hI hw ⟨hf.size, fun t v ht => hf.val t v (Sub.of hx t v ht)⟩ hd
  exact ⟨e, a', w', q, .of_steps (.one step_loop) harr⟩

/-- A scope: at each label it is known what holds; what is behind the label is gone on with. -/
def scopeP {α : Type} (c : Code) (L : α → Nat) (F : α → Fr) (I : α → Heap → Prop) (M : α → Prop) (Q : BPost) : BPost
  | .goto l, fr, H => match findLabel c l with | some _ => ∃ y, L y = l ∧ Has fr (F y) ∧ I y H ∧ M y | none => Q (.goto l) fr H
  | e, fr, H => Q e fr H
theorem SW.scope {P : Program} {n : Nat} {c : Code} {Q : BPost} {fr : Fr} {H : Heap} {α : Type} (L : α → Nat) (F : α → Fr) (I : α → Heap → Prop) (μ : α → Nat) (first : SW P n c (scopeP c L F I (fun _ => True) Q) fr H)
    (step : ∀ x H r, I x H → findLabel c (L x) = some r → SW P n r (scopeP c L F I (fun y => μ y < μ x) Q) (F x) H) : SW P n (.scope c) Q fr H := by
  refine ⟨fun w0 ι a w hw hf hd b k cs => ?_⟩
  have out : ∀ (M : α → Prop) (d : Code) (fr : Fr) (H : Heap) (ι : List Pl) (a : Act) (w : World),
      (∀ (y : α) (r : Code) (H1 : Heap) (ι1 : List Pl) (a1 : Act) (w1 : World), M y → findLabel c (L y) = some r → I y H1 → WR P w0 ι1 H1 w1 → FB n ι1 (F y) a1 → a1.defers = [] →
        ∃ e a' w', LB P n w0 ι1 Q e a' w' ∧ Arrives P (lone (b.at a1 (.code r :: .inScope c :: k)) cs w1) b k cs e a' w') →
      SW P n d (scopeP c L F I M Q) fr H → WR P w0 ι H w → FB n ι fr a → a.defers = [] → ∃ e a' w', LB P n w0 ι Q e a' w' ∧ Arrives P (lone (b.at a (.code d :: .inScope c :: k)) cs w) b k cs e a' w' := by
    intro M d fr H ι a w go hd' hw hf hd
    obtain ⟨e, a1, w1, ⟨ae, he, fr1, H1, ι1, hx, hw1, hf1, hd1, q⟩, harr⟩ := hd'.out w0 ι a w hw hf hd b (.inScope c :: k) cs
    cases e with
    | normal =>
      simp only [toA, Option.some.injEq] at he; subst he
      exact ⟨.normal, a1, w1, ⟨_, rfl, fr1, H1, ι1, hx, hw1, hf1, hd1, q⟩, Steps.trans harr (.one step_inScope)⟩
    | exit id =>
      simp only [toA, Option.some.injEq] at he; subst he
      exact ⟨.exit id, a1, w1, ⟨_, rfl, fr1, H1, ι1, hx, hw1, hf1, hd1, q⟩, fun k' hk => harr k' (by simpa [exitTo] using hk)⟩
    | goto l =>
      simp only [toA, Option.some.injEq] at he; subst he
      simp only [scopeP] at q
      cases hl : findLabel c l with
      | none =>
        simp only [hl] at q
        exact ⟨.goto l, a1, w1, ⟨_, rfl, fr1, H1, ι1, hx, hw1, hf1, hd1, q⟩, fun k' hk => harr k' (by simp [gotoIn, hl, hk])⟩
      | some r =>
        simp only [hl] at q
        obtain ⟨y, rfl, hy, hIy, hM⟩ := q
        have hs := harr (.code r :: .inScope c :: k) (by simp [gotoIn, hl])
        obtain ⟨e2, a2, w2, q2, harr2⟩ := go y r H1 ι1 a1 w1 hM hl hIy hw1 ⟨hf1.size, fun t v ht => hf1.val t v (Sub.of hy t v ht)⟩ hd1
        exact ⟨e2, a2, w2, q2.ext hx, .of_steps hs harr2⟩
    | ret =>
      simp only [toA, Option.some.injEq] at he; subst he
      exact ⟨.ret, a1, w1, ⟨_, rfl, fr1, H1, ι1, hx, hw1, hf1, hd1, q⟩, harr⟩
    | panic ch => simp [toA] at he
    | outgrown => simp [toA] at he
  have key : ∀ (m : Nat) (y : α) (r : Code) (H1 : Heap) (ι1 : List Pl) (a1 : Act) (w1 : World), μ y = m → findLabel c (L y) = some r → I y H1 → WR P w0 ι1 H1 w1 → FB n ι1 (F y) a1 → a1.defers = [] →
      ∃ e a' w', LB P n w0 ι1 Q e a' w' ∧ Arrives P (lone (b.at a1 (.code r :: .inScope c :: k)) cs w1) b k cs e a' w' := by
    intro m
    induction m using Nat.strongRecOn with
    | _ m ih =>
      intro y r H1 ι1 a1 w1 hm hl hI hw hf hd
      exact out (fun z => μ z < μ y) r (F y) H1 ι1 a1 w1 (fun z r' H2 ι2 a2 w2 hz hl2 hI2 hw2 hf2 hd2 => ih (μ z) (hm ▸ hz) z r' H2 ι2 a2 w2 rfl hl2 hI2 hw2 hf2 hd2) (step y H1 r hI hl) hw hf hd
  obtain ⟨e, a', w', q, harr⟩ := out (fun _ => True) c fr H ι a w (fun y r H1 ι1 a1 w1 _ hl hI hw hf hd => key _ y r H1 ι1 a1 w1 rfl hl hI hw hf hd) first hw hf hd
  exact ⟨e, a', w', q, .of_steps (.one step_scope) harr⟩

/-! ### Whole functions -/
def oneOr : List Value → Value
  | [v] => v
  | vs => .tuple vs.toArray
def resK (P : Program) (fr : Fr) (H : Heap) : List ResultVar → (List Value → Prop) → Prop
  | [], K => K []
  | .tmp t :: r, K => getK fr t fun v => resK P fr H r fun vs => K (v :: vs)
  | .cell x t :: r, K => getK fr x fun p => Ob (aload P t p H) fun v => resK P fr H r fun vs => K (v :: vs)
def bpost (P : Program) (rs : List ResultVar) (Q : Value → Heap → Prop) : BPost
  | .normal, fr, H => resK P fr H rs fun vs => Q (oneOr vs) H
  | .ret, fr, H => resK P fr H rs fun vs => Q (oneOr vs) H
  | _, _, _ => False

theorem resK_run {P : Program} {n : Nat} {w0 w : World} {ι : List Pl} {H : Heap} (hw : WR P w0 ι H w) {fr : Fr} {a : Act} (hf : FB n ι fr a) : ∀ (rs : List ResultVar) (K : List Value → Prop), resK P fr H rs K →
    ∃ vs cvs, K vs ∧ (rs.mapM (fun | .tmp t => pure (a.tmps.getD t undef) | .cell x t => do loadVar t (← asAddr (a.tmps.getD x undef)) : ResultVar → Sem Value)).run P w = .ok cvs w ∧ LR ι vs cvs := by
  intro rs
  induction rs with
  | nil => intro K h; exact ⟨[], [], h, rfl, .nil ι⟩
  | cons r rs ih =>
    intro K h
    have fin : ∀ (v cv : Value), (match r with | .tmp t => pure (a.tmps.getD t undef) | .cell x t => do loadVar t (← asAddr (a.tmps.getD x undef)) : Sem Value).run P w = .ok cv w → VR ι v cv → (resK P fr H rs fun vs => K (v :: vs)) →
        ∃ vs cvs, K vs ∧ ((r :: rs).mapM (fun | .tmp t => pure (a.tmps.getD t undef) | .cell x t => do loadVar t (← asAddr (a.tmps.getD x undef)) : ResultVar → Sem Value)).run P w = .ok cvs w ∧ LR ι vs cvs := by
      intro v cv h1 h2 h
      obtain ⟨vs, cvs, k, h3, h4⟩ := ih _ h
      refine ⟨v :: vs, cv :: cvs, k, ?_, .cons h2 h4⟩
      rw [List.mapM_cons]
      simp only [Sem.run_bind]
      cases r <;> simp only [Sem.run_bind] at h1 h3 ⊢ <;> rw [h1] <;> simp only [Result.andThen_ok] <;> rw [h3] <;> rfl
    cases r with
    | tmp t =>
      obtain ⟨v, hv, h⟩ := getK_iff.1 h
      exact fin v _ rfl (hf.val t v hv).2 h
    | cell x t =>
      obtain ⟨p, hp, h⟩ := getK_iff.1 h
      obtain ⟨v, hv, h⟩ := h.out
      have e := (hf.val x p hp).2
      obtain ⟨cx, h1, h2⟩ := aload_run hw e hv
      refine fin v cx ?_ h2 h
      show Sem.run P (do loadVar t (← asAddr (a.tmps.getD x undef))) w = _
      rw [← h1]
      revert e
      generalize a.tmps.getD x undef = c
      intro e
      unfold aload at hv
      split at hv
      · cases e; rfl
      · simp at hv

def frame0 : Nat → List Value → Fr
  | _, [] => []
  | i, v :: r => (i, v) :: frame0 (i + 1) r
theorem frame0_get : ∀ (vs : List Value) (i t : Nat) (v : Value), getF (frame0 i vs) t = some v → i ≤ t ∧ vs[t - i]? = some v := by
  intro vs
  induction vs with
  | nil => intro i t v h; simp [frame0, getF] at h
  | cons u vs ih =>
    intro i t v h
    simp only [frame0, getF] at h
    split at h
    · rename_i e
      have := Nat.eq_of_beq_eq_true e
      subst this
      simp only [Option.some.injEq] at h
      subst h
      simp
    · obtain ⟨h1, h2⟩ := ih _ _ _ h
      refine ⟨by omega, ?_⟩
      rw [show t - i = (t - (i + 1)) + 1 by omega]
      simpa using h2

/-- A function by its body. -/
theorem AX.body {P : Program} {f : FuncId} {fn : Func} {c : Code} (hfn : P.funcs[f]? = some fn) (hb : fn.body = some c) (hname : fn.name ≠ "runtime.NumGoroutine") {args : List Value} {H : Heap} {Q : Value → Heap → Prop} {n : Nat} {rs : List ResultVar}
    (hn : args.length + (fn.ntmps - args.length) = n) (hrs : fn.results.toList = rs)
    (h : SW P n c (bpost P rs Q) (frame0 0 args) H) : AX P f args.toArray H Q := by
  refine ⟨⟨fn, hfn, by simp [hb], hname⟩, fun w0 ι w cargs hw ha => ?_⟩
  have hs : cargs.size = args.length := by simpa using ha.1
  have hf : FB n ι (frame0 0 args) { tmps := cargs ++ Array.replicate (fn.ntmps - cargs.size) undef, defers := [] } := by
    refine ⟨by simp [hs]; omega, fun t v ht => ?_⟩
    obtain ⟨_, h2⟩ := frame0_get _ _ _ _ ht
    simp only [Nat.sub_zero] at h2
    have hlt : t < args.length := (List.getElem?_eq_some_iff.1 h2).1
    refine ⟨by omega, ?_⟩
    have := ha.2 t (by simpa using hlt)
    simp only
    rw [Array.getD_eq_getD_getElem?, Array.getElem?_append, if_pos (by omega)]
    rw [Array.getD_eq_getD_getElem?, Array.getD_eq_getD_getElem?] at this
    simpa [h2] using this
  refine calls_of_wp hfn hb (wp_mono (h.out w0 ι _ w hw hf rfl) fun e a' w' hq => ?_)
  obtain ⟨ae, he, fr', H', ι', hx, hw', hf', hd', q⟩ := hq
  have fin : (resK P fr' H' rs fun vs => Q (oneOr vs) H') → a'.defers = [] ∧ ∃ v, (results fn a'.tmps).run P w' = .ok v w' ∧ AEnd P w0 ι Q (.returned v) w' := by
    intro q
    obtain ⟨vs, cvs, k, h1, h2⟩ := resK_run hw' hf' _ _ q
    rw [← hrs] at h1
    have h3 : (fn.results.mapM (fun | .tmp t => pure (a'.tmps.getD t undef) | .cell x t => do loadVar t (← asAddr (a'.tmps.getD x undef)) : ResultVar → Sem Value)).run P w' = .ok cvs.toArray w' := by
      rw [Array.mapM_eq_mapM_toList, Sem.run_map, h1]; rfl
    refine ⟨hd', if hs : cvs.toArray.size = 1 then cvs.toArray[0] else .tuple cvs.toArray, ?_, _, H', ι', k, hx, hw', ?_⟩
    · have e : results fn a'.tmps = (do
          let vs ← fn.results.mapM (fun | .tmp t => pure (a'.tmps.getD t undef) | .cell x t => do loadVar t (← asAddr (a'.tmps.getD x undef)) : ResultVar → Sem Value)
          pure (if h : vs.size = 1 then vs[0] else .tuple vs)) := rfl
      rw [e, Sem.run_bind, h3]
      rfl
    · have hl := h2.1
      match vs, cvs, h2, hl with
      | [], [], h2, _ => exact .tuple _ _ rfl (fun i hi => absurd hi (Nat.not_lt_zero _))
      | [v], [c], h2, _ =>
        obtain ⟨c', hc, hr⟩ := h2.one
        simp only [List.cons.injEq, and_true] at hc
        subst hc
        simpa [oneOr] using hr
      | v :: u :: vs, c :: d :: cvs, h2, _ =>
        rw [dif_neg (by simp)]
        exact .tuple _ _ (by have := h2.1; simpa using this) (fun i hi => h2.toArr i (by simpa using hi))
  cases e with
  | normal => simp only [toA, Option.some.injEq] at he; subst he; exact fin q
  | ret => simp only [toA, Option.some.injEq] at he; subst he; exact fin q
  | exit id => simp only [toA, Option.some.injEq] at he; subst he; exact q.elim
  | goto l => simp only [toA, Option.some.injEq] at he; subst he; exact q.elim
  | panic ch => simp [toA] at he
  | outgrown => simp [toA] at he

end Go.Proofs.Ytdlanbfbbopfhaa.Ax
