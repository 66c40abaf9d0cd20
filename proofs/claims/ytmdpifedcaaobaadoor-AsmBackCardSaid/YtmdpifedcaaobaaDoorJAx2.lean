/- The abstract machine: code and calls, told onward, and that the real ones follow them; loops, scopes. -/
import Derived.Laws.Externs
import Derived.KernelRfl
import Derived.TacticsIn
import Derived.RangeFuncOwn
import Derived.RangeFuncLeaves
import Derived.ProofKit
import Derived.OpenShut
import Derived.ShutString
import Derived.ChangeOld
import Derived.SizedLaws
import Derived.OrdersIn
import Derived.Test.YtmdpifedcaaobaaDoorJAx1
set_option linter.unusedVariables false
set_option linter.unusedSimpArgs false
namespace Go.Proofs.YtmdpifedcaaobaaDoor.Ax
open Go Go.RowKit

def AsR (ι : List Pl) (args cargs : Array Value) : Prop := cargs.size = args.size ∧ ∀ i, i < args.size → VR ι (args.getD i Go.undef) (cargs.getD i Go.undef)

/-- What a call answers, and leaves behind. -/
def AEnd (P : Program) (w0 : World) (ι : List Pl) (Q : Value → Heap → Prop) : Ending → World → Prop
  | .returned cv, w' => ∃ v H' ι', Q v H' ∧ Ext ι ι' ∧ WR P w0 ι' H' w' ∧ VR ι' v cv
  | _, _ => False

def Callable (P : Program) (f : FuncId) : Prop := ∃ fn, P.funcs[f]? = some fn ∧ fn.body.isSome = true ∧ fn.name ≠ "runtime.NumGoroutine"

/-- A call of a loop's yield, told of abstract memory. -/
structure YX (P : Program) (q : Nat) (as : List Value) (H : Heap) (K : Value → Heap → Prop) : Prop where
  out : ∀ (w0 : World) (ι : List Pl) (w : World) (pl : Pl) (cas : Array Value), WR P w0 ι H w → ι[q]? = some pl → LR ι as cas.toList → YieldAt Fence.wide 0 P pl.blk cas w (AEnd P w0 ι K)
theorem YX.mono {P : Program} {q : Nat} {as_ : List Value} {H : Heap} {Q R : Value → Heap → Prop} (h : YX P q as_ H Q) (k : ∀ v H', Q v H' → R v H') : YX P q as_ H R :=
  ⟨fun w0 ι w pl cas hw hq ha => by
    obtain ⟨fn, tmps, assign, body, h1, h2⟩ := h.1 w0 ι w pl cas hw hq ha
    refine ⟨fn, tmps, assign, body, h1, h2.mono fun e w' he => ?_⟩
    cases e with
    | returned cv => obtain ⟨v, H', ι', q, r⟩ := he; exact ⟨v, H', ι', k v H' q, r⟩
    | panicked ch => exact he.elim
    | outgrown => exact he.elim⟩
theorem YX.id {P : Program} {q : Nat} {as_ : List Value} {H : Heap} {Q : Value → Heap → Prop} (h : YX P q as_ H Q) : YX P q as_ H Q := h
/-- A call of a function, told of abstract memory. -/
structure AX (P : Program) (f : FuncId) (args : Array Value) (H : Heap) (Q : Value → Heap → Prop) : Prop where
  able : Callable P f
  out : ∀ (w0 : World) (ι : List Pl) (w : World) (cargs : Array Value), WR P w0 ι H w → AsR ι args cargs → Calls P f cargs w (AEnd P w0 ι Q)

theorem AX.mono {P : Program} {f : FuncId} {args : Array Value} {H : Heap} {Q R : Value → Heap → Prop} (h : AX P f args H Q) (k : ∀ v H', Q v H' → R v H') : AX P f args H R :=
  ⟨h.1, fun w0 ι w cargs hw ha => (h.2 w0 ι w cargs hw ha).mono fun e w' he => by
    cases e with
    | returned cv => obtain ⟨v, H', ι', q, r⟩ := he; exact ⟨v, H', ι', k v H' q, r⟩
    | panicked ch => exact he.elim
    | outgrown => exact he.elim⟩

theorem AX.id {P : Program} {f : FuncId} {args : Array Value} {H : Heap} {Q : Value → Heap → Prop} (h : AX P f args H Q) : AX P f args H Q := h
inductive AExit where
  | normal
  | exit (id : Nat)
  | goto (l : Nat)
  | ret
abbrev BPost := AExit → Fr → Heap → Prop

def toA : Exit → Option AExit
  | .normal => some .normal
  | .exit id => some (.exit id)
  | .goto l => some (.goto l)
  | .ret => some .ret
  | _ => none
def LB (P : Program) (n : Nat) (w0 : World) (ι : List Pl) (ds : List Deferred) (Q : BPost) (e : Exit) (a : Act) (w : World) : Prop :=
  ∃ ae, toA e = some ae ∧ ∃ fr H ι', Ext ι ι' ∧ WR P w0 ι' H w ∧ FB n ι' fr a ∧ a.defers = ds ∧ Q ae fr H
theorem LB.ext {P : Program} {n : Nat} {w0 : World} {ι ι' : List Pl} {ds : List Deferred} {Q : BPost} {e : Exit} {a : Act} {w : World} (hi : Ext ι ι') (h : LB P n w0 ι' ds Q e a w) : LB P n w0 ι ds Q e a w := by
  obtain ⟨ae, h1, fr, H, ι2, h2, r⟩ := h
  exact ⟨ae, h1, fr, H, ι2, hi.trans h2, r⟩
theorem LB.intro {P : Program} {n : Nat} {w0 : World} {ι : List Pl} {ds : List Deferred} {Q : BPost} {e : Exit} {ae : AExit} {a : Act} {w : World} {fr : Fr} {H : Heap} (he : toA e = some ae) (hw : WR P w0 ι H w) (hf : FB n ι fr a) (hd : a.defers = ds) (q : Q ae fr H) : LB P n w0 ι ds Q e a w :=
  ⟨ae, he, fr, H, ι, .refl _, hw, hf, hd, q⟩
theorem LB.mono {P : Program} {n : Nat} {w0 : World} {ι : List Pl} {ds : List Deferred} {Q R : BPost} (h : ∀ e fr H, Q e fr H → R e fr H) {e : Exit} {a : Act} {w : World} (k : LB P n w0 ι ds Q e a w) : LB P n w0 ι ds R e a w := by
  obtain ⟨ae, h1, fr, H, ι2, h2, h3, h4, h5, q⟩ := k
  exact ⟨ae, h1, fr, H, ι2, h2, h3, h4, h5, h _ _ _ q⟩

/-- No fence; the frame may be a round's. -/
abbrev rF (ro : Option Nat) : Fence := { fn := fun _ => True, depth := none, alive := false, round := ro }
theorem fenced_rF (P : Program) (ro : Option Nat) (m : Machine) : m.fenced P (rF ro) := fenced_wide P m
theorem callsIn_rF {ro : Option Nat} {n : Nat} {P : Program} {f : FuncId} {args : Array Value} {w : World} {R : Ending → World → Prop} : CallsIn (rF ro) n P f args w R ↔ Calls P f args w R := callsIn_wide (n := n)
/-- A piece of code does what is asked, from what is known. -/
structure SW (P : Program) (n : Nat) (c : Code) (Q : BPost) (fr : Fr) (H : Heap) : Prop where
  out : ∀ (ro : Option Nat) (ds : List Deferred) (w0 : World) (ι : List Pl) (a : Act) (w : World), WR P w0 ι H w → FB n ι fr a → a.defers = ds → c.wpIn (rF ro) 0 P (LB P n w0 ι ds Q) a w
theorem SW.mono {P : Program} {n : Nat} {c : Code} {Q R : BPost} {fr : Fr} {H : Heap} (h : SW P n c Q fr H) (k : ∀ e fr H, Q e fr H → R e fr H) : SW P n c R fr H :=
  ⟨fun ro ds w0 ι a w hw hf hd => wpIn_mono (h.out ro ds w0 ι a w hw hf hd) fun e a w => LB.mono k⟩
/-- What is known, told in part. -/
def Sub (F fr : Fr) : Prop := ∀ (t : Nat) (v : Value), getF F t = some v → getF fr t = some v
theorem SW.sub {P : Program} {n : Nat} {c : Code} {Q : BPost} {F fr : Fr} {H : Heap} (h : SW P n c Q F H) (k : Sub F fr) : SW P n c Q fr H :=
  ⟨fun ro ds w0 ι a w hw hf hd => h.out ro ds w0 ι a w hw ⟨hf.size, fun t v ht => hf.val t v (k t v ht)⟩ hd⟩
/-- Slots and values, one by one. -/
def Has (fr : Fr) : Fr → Prop
  | [] => True
  | (t, v) :: r => getF fr t = some v ∧ Has fr r
theorem Sub.of {F fr : Fr} (h : Has fr F) : Sub F fr := by
  induction F with
  | nil => intro t v ht; simp [getF] at ht
  | cons p r ih =>
    obtain ⟨i, u⟩ := p
    intro t v ht
    simp only [getF] at ht
    split at ht
    · rename_i e
      have := Nat.eq_of_beq_eq_true e
      subst this
      simp only [Option.some.injEq] at ht
      subst ht
      exact h.1
    · exact ih h.2 t v ht

/-- The library's function that hands its pointer back. -/
def noEsc (P : Program) (g : FuncId) : Bool :=
  match P.funcs[g]? with
  | some fn => match fn.body with | some _ => false | none => fn.name == "internal/abi.NoEscape" && fn.origin == ""
  | none => false
/-- The library's function that makes a map anew. -/
def mapsClone (P : Program) (g : FuncId) : Bool :=
  match P.funcs[g]? with
  | some fn => match fn.body with | some _ => false | none => fn.name == "maps.clone" && fn.origin == ""
  | none => false
/-- The library's function that looks for a byte in a string. -/
def idxByte (P : Program) (g : FuncId) : Bool :=
  match P.funcs[g]? with
  | some fn => match fn.body with | some _ => false | none => fn.name == "internal/bytealg.IndexByteString" && fn.origin == ""
  | none => false
def indexB (s : ByteArray) (c : Int) : Int := match (List.range s.size).find? fun i => s[i]! == c.toNat.toUInt8 with | some i => (i : Int) | none => -1
def aclone (v : Value) (H : Heap) : Option (Value × Heap) :=
  match v with
  | .iface t (.map (some b)) => (hmap H b).map fun es => (.iface t (.map (some H.length)), H ++ [.map true es])
  | _ => none
/-- One operation, and what comes behind it. -/
def boper (P : Program) (o : Oper) (fr : Fr) (H : Heap) (K : OpK) : Prop :=
  match o.op with
  | .call c =>
    match c.callee with
    | .value f =>
      match f with
      | .func g => evL fr c.args.toList fun as => match noEsc P g with | true => (match as with | [v] => K v H | _ => False) | false => match mapsClone P g with | true => (match as with | [v] => Ob2 (aclone v H) K | _ => False) | false => match idxByte P g with | true => (match as with | [.string s, .int .u8 c] => K (.int .i64 (indexB s c)) H | _ => False) | false => AX P g as.toArray H K
      | f => evK fr f fun fv => match fv with | .func (.func g) first cap => evL fr c.args.toList fun as => AX P g (first ++ as.toArray ++ cap) H K | .func (.yield q) _ _ => evL fr c.args.toList fun as => YX P q as H K | _ => False
    | .builtin b => bop P fr H (.call c) K
    | .invoke _ _ => False
  | op => bop P fr H op K

def wantK (ops : List Oper) (fr : Fr) (g : Option (Nat × Bool)) (X Y : Prop) : Prop :=
  match g with
  | none => X
  | some (j, want) =>
    match (ops[j]?).bind (·.dst) with
    | some d => getK fr d fun v => match v with | .bool b => (match want with | true => bIf b X Y | false => bIf b Y X) | _ => Y
    | none => Y
def putK (n : Nat) (fr : Fr) (d : Option Nat) (v : Value) (K : Fr → Prop) : Prop :=
  match d with
  | none => K fr
  | some d => match Nat.blt d n with | true => K ((d, v) :: fr) | false => False
def wantB (ops : List Oper) (fr : Fr) (g : Option (Nat × Bool)) (K : Bool → Prop) : Prop := wantK ops fr g (K true) (K false)
def doB (P : Program) (n : Nat) (o : Oper) (fr : Fr) (H : Heap) (w : Bool) (K : Fr → Heap → Prop) : Prop :=
  match w with
  | true => boper P o fr H fun v H' => putK n fr o.dst v fun fr' => K fr' H'
  | false => putK n fr o.dst undef fun fr' => K fr' H
def bops (P : Program) (n : Nat) (ops : List Oper) (Q : BPost) : List Oper → Fr → Heap → Prop
  | [] => fun fr H => Q .normal fr H
  | o :: rest => fun fr H => wantB ops fr o.guard fun w => doB P n o fr H w (bops P n ops Q rest)

def thenB (K : Fr → Heap → Prop) (Q : BPost) : BPost
  | .normal, fr, H => K fr H
  | e, fr, H => Q e fr H
def inBl (id : Nat) (Q : BPost) : BPost
  | .exit id', fr, H => match Nat.beq id' id with | true => Q .normal fr H | false => Q (.exit id') fr H
  | e, fr, H => Q e fr H
def bC (P : Program) (n : Nat) : Code → BPost → Fr → Heap → Prop
  | .skip, Q => Q .normal
  | .label _, Q => Q .normal
  | .region id ops draw, Q => match draw with | false => bops P n ops.toList Q ops.toList | true => SW P n (.region id ops true) Q
  | .seq x y, Q => bC P n x (thenB (bC P n y Q) Q)
  | .cond c x y, Q => fun fr H => evK fr c fun v => match v with | .bool b => bIf b (bC P n x Q fr H) (bC P n y Q fr H) | _ => False
  | .block id x, Q => bC P n x (inBl id Q)
  | .loop x, Q => SW P n (.loop x) Q
  | .exit id, Q => Q (.exit id)
  | .scope x, Q => SW P n (.scope x) Q
  | .goto l, Q => Q (.goto l)
  | .ret, Q => Q .ret
  | .rangeFunc f ps x y, Q => SW P n (.rangeFunc f ps x y) Q
  | .refuse _, _ => fun _ _ => False

theorem noEsc_parts {P : Program} {g : FuncId} (h : noEsc P g = true) : ∃ fn, P.funcs[g]? = some fn ∧ fn.body = none ∧ fn.name = "internal/abi.NoEscape" ∧ fn.origin = "" := by
  unfold noEsc at h
  split at h
  · rename_i fn hfn
    split at h
    · simp at h
    · rename_i hb
      simp only [Bool.and_eq_true, beq_iff_eq] at h
      exact ⟨fn, hfn, hb, h.1, h.2⟩
  · simp at h
theorem run_noEsc {P : Program} {g : FuncId} {fn : Func} (hfn : P.funcs[g]? = some fn) (hb : fn.body = none) (hnm : fn.name = "internal/abi.NoEscape") (hor : fn.origin = "") (v : Value) (w : World) :
    (callFunc g #[v]).run P w = .ok (.value v) w := by
  have k1 : Extern.allGenericRows.lookup "internal/abi.NoEscape" = none := by kernel_rfl
  have k2 : Extern.allTypedRows.lookup "internal/abi.NoEscape" = none := by kernel_rfl
  have k3 : Extern.allRows.lookup "internal/abi.NoEscape" = some Extern.AbiNoEscape.same := by kernel_rfl
  have k4 : Extern.allNextRows.lookup "internal/abi.NoEscape" = none := by kernel_rfl
  have k5 : Extern.allNextRows.lookup "" = none := by kernel_rfl
  have h1 : Extern.findNext fn = none := by simp [Extern.findNext, hnm, hor, k4, k5]
  have h2 : Extern.find fn = some Extern.AbiNoEscape.same := by simp [Extern.find, hnm, hor, k1, k2, k3]
  rw [run_callFunc_extern hfn (by rw [hnm]; kernel_rfl) (by simp [hb]) h1 h2]
  rfl
theorem mapsClone_parts {P : Program} {g : FuncId} (h : mapsClone P g = true) : ∃ fn, P.funcs[g]? = some fn ∧ fn.body = none ∧ fn.name = "maps.clone" ∧ fn.origin = "" := by
  unfold mapsClone at h
  split at h
  · rename_i fn hfn
    split at h
    · simp at h
    · rename_i hb
      simp only [Bool.and_eq_true, beq_iff_eq] at h
      exact ⟨fn, hfn, hb, h.1, h.2⟩
  · simp at h
theorem aclone_run {P : Program} {w0 w : World} {ι : List Pl} {H H' : Heap} (hw : WR P w0 ι H w) {v r cv : Value} (hv : VR ι v cv) (h : aclone v H = some (r, H')) :
    ∃ ι' cr w', Ext ι ι' ∧ (Extern.MapsClone.clone #[cv]).run P w = .ok cr w' ∧ WR P w0 ι' H' w' ∧ VR ι' r cr := by
  unfold aclone at h
  split at h
  · rename_i t b
    simp only [Option.map_eq_some_iff, Prod.mk.injEq] at h
    obtain ⟨es, hes, rfl, rfl⟩ := h
    cases hv with
    | iface _ _ c g =>
      cases g with
      | map _ pl hp =>
        obtain ⟨o, pl', ms, clock, hb, hp', hm, hsz, _, hE⟩ := hw.map hes
        rw [hp] at hp'
        simp only [Option.some.injEq] at hp'
        subst hp'
        have hx : (ι ++ [⟨w.heap.size, 0, 0, 0⟩])[H.length]? = some ⟨w.heap.size, 0, 0, 0⟩ := by rw [← hw.len]; simp
        refine ⟨ι ++ [⟨w.heap.size, 0, 0, 0⟩], .iface t (.map (some w.heap.size)), w.alloc (.map ms clock), .push _ _, ?_, hw.fresh _ _ _ rfl ⟨ms, clock, heap_alloc_self _ _, fun _ => hw.below.size, hsz, fun i k v hi => ?_⟩, .iface t _ _ (.map H.length _ hx)⟩
        · have e : Extern.MapsClone.clone #[.iface t (.map (some pl.blk))] = (getObj pl.blk >>= fun o => match o with
              | .map entries clock => (newObj (.map entries clock) >>= fun n => pure (.iface t (.map (some n))))
              | _ => stuck "maps.clone: a map expected") := rfl
          rw [e]
          simp [getObj, hm, newObj, Sem.run]
        · obtain ⟨m, h1, h2, h3⟩ := hE i k v hi
          exact ⟨m, h1, h2.ext (.push _ _), h3.ext (.push _ _)⟩
  · cases h
theorem run_mapsClone {P : Program} {g : FuncId} {fn : Func} (hfn : P.funcs[g]? = some fn) (hb : fn.body = none) (hnm : fn.name = "maps.clone") (hor : fn.origin = "") (v : Value) (w : World) :
    (callFunc g #[v]).run P w = ((Extern.MapsClone.clone #[v]).run P w).andThen fun v w' => .ok (.value v) w' := by
  have k1 : Extern.allGenericRows.lookup "maps.clone" = none := by kernel_rfl
  have k2 : Extern.allTypedRows.lookup "maps.clone" = none := by kernel_rfl
  have k3 : Extern.allRows.lookup "maps.clone" = some Extern.MapsClone.clone := by kernel_rfl
  have k4 : Extern.allNextRows.lookup "maps.clone" = none := by kernel_rfl
  have k5 : Extern.allNextRows.lookup "" = none := by kernel_rfl
  have h1 : Extern.findNext fn = none := by simp [Extern.findNext, hnm, hor, k4, k5]
  have h2 : Extern.find fn = some Extern.MapsClone.clone := by simp [Extern.find, hnm, hor, k1, k2, k3]
  exact run_callFunc_extern hfn (by rw [hnm]; kernel_rfl) (by simp [hb]) h1 h2 #[v] w
theorem idxByte_parts {P : Program} {g : FuncId} (h : idxByte P g = true) : ∃ fn, P.funcs[g]? = some fn ∧ fn.body = none ∧ fn.name = "internal/bytealg.IndexByteString" ∧ fn.origin = "" := by
  unfold idxByte at h
  split at h
  · rename_i fn hfn
    split at h
    · simp at h
    · rename_i hb
      simp only [Bool.and_eq_true, beq_iff_eq] at h
      exact ⟨fn, hfn, hb, h.1, h.2⟩
  · simp at h
theorem run_idxByte {P : Program} {g : FuncId} {fn : Func} (hfn : P.funcs[g]? = some fn) (hb : fn.body = none) (hnm : fn.name = "internal/bytealg.IndexByteString") (hor : fn.origin = "") (s : ByteArray) (c : Int) (w : World) :
    (callFunc g #[.string s, .int .u8 c]).run P w = .ok (.value (.int .i64 (indexB s c))) w := by
  have k1 : Extern.allGenericRows.lookup "internal/bytealg.IndexByteString" = none := by kernel_rfl
  have k2 : Extern.allTypedRows.lookup "internal/bytealg.IndexByteString" = none := by kernel_rfl
  have k3 : Extern.allRows.lookup "internal/bytealg.IndexByteString" = some Extern.BytealgIndexByte.indexByte := by kernel_rfl
  have k4 : Extern.allNextRows.lookup "internal/bytealg.IndexByteString" = none := by kernel_rfl
  have k5 : Extern.allNextRows.lookup "" = none := by kernel_rfl
  have h1 : Extern.findNext fn = none := by simp [Extern.findNext, hnm, hor, k4, k5]
  have h2 : Extern.find fn = some Extern.BytealgIndexByte.indexByte := by simp [Extern.find, hnm, hor, k1, k2, k3]
  rw [run_callFunc_extern hfn (by rw [hnm]; kernel_rfl) (by simp [hb]) h1 h2]
  have e : (Extern.BytealgIndexByte.indexByte #[.string s, .int .u8 c]).run P w = .ok (.int .i64 (indexB s c)) w := by
    have e0 : Extern.BytealgIndexByte.indexByte #[.string s, .int .u8 c] = (match (List.range s.size).find? fun i => s[i]! == c.toNat.toUInt8 with | some i => pure (Value.int .i64 (i : Int)) | none => pure (Value.int .i64 (-1))) := rfl
    rw [e0]
    unfold indexB
    cases (List.range s.size).find? fun i => s[i]! == c.toNat.toUInt8 <;> rfl
  rw [e]
  rfl
theorem wpIn_of_run {ro : Option Nat} {P : Program} {o : Oper} {a : Act} {w : World} {next : Act → World → Prop} {Q : Exit → Act → World → Prop} {r : Result Next} (hop : ∀ c, o.op ≠ .defer c) (h : (execOp a.eval o).run P w = r)
    (k : o.uponIn (rF ro) 0 P a next Q r) : o.wpIn (rF ro) 0 P a w next Q := ⟨fun _ _ => trivial, by rw [Oper.semAt_eq _ _ _ hop, h]; exact k⟩
theorem stepR_scope {P : Program} {b : Frame} {a : Act} {k : List Item} {cs : List Frame} {w : World} {c : Code} : step P (lone (b.atR a (.code (.scope c) :: k)) cs w) = .next (lone (b.atR a (.code c :: .inScope c :: k)) cs w) :=
  step_lone_go (by simp [stepG, stepG.exec, Frame.atR])
theorem stepR_inScope {P : Program} {b : Frame} {a : Act} {k : List Item} {cs : List Frame} {w : World} {c : Code} : step P (lone (b.atR a (.inScope c :: k)) cs w) = .next (lone (b.atR a k) cs w) :=
  step_lone_go (by simp [stepG, stepG.exec, Frame.atR])
theorem boper_sound {ro : Option Nat} {P : Program} {n : Nat} {w0 w : World} {ι : List Pl} {H : Heap} (hw : WR P w0 ι H w) {fr : Fr} {a : Act} (hf : FB n ι fr a) {o : Oper} {K : OpK} (h : boper P o fr H K)
    {next : Act → World → Prop} {Q : Exit → Act → World → Prop} (hn : ∀ v H' ι' cv w', K v H' → Ext ι ι' → WR P w0 ι' H' w' → VR ι' v cv → next (a.put o.dst cv) w') : o.wpIn (rF ro) 0 P a w next Q := by
  have fin : bop P fr H o.op K → o.wpIn (rF ro) 0 P a w next Q := by
    intro h
    obtain ⟨v, H', k, ι', cv, w', h1, h2, h3, h4⟩ := bop_run hw hf h
    have hne : ∀ c, o.op ≠ .defer c := fun c hc => by rw [hc] at h; exact h
    rcases h4 with h4 | ⟨h4, h5⟩
    · exact wpIn_of_run hne h4 (hn v H' ι' cv w' k h1 h2 h3)
    · refine wpIn_of_run hne h4 ?_; subst h5; exact hn v H' ι' _ w' k h1 h2 h3
  have hnc : ∀ {c : Call}, o.op = .call c → ∀ d, o.op ≠ .defer d := fun hc d hd => by rw [hc] at hd; simp at hd
  have call : ∀ (c : Call) (f : Operand), o.op = .call c → c.callee = .value f → (∃ g first cap as, VR ι (.func (.func g) first cap) (a.eval f) ∧ LR ι as (c.args.toList.map a.eval) ∧ AX P g (first ++ as.toArray ++ cap) H K) → o.wpIn (rF ro) 0 P a w next Q := by
    rintro c f hop hcl ⟨g, first, cap, as, e1, e2, ⟨⟨fn, hfn, hbody, hname⟩, hax⟩⟩
    generalize hce : a.eval f = ce at e1
    cases e1 with
    | func _ _ cfirst _ ccap s1 s2 v1 v2 =>
      have hargs : AsR ι (first ++ as.toArray ++ cap) (cfirst ++ c.args.map a.eval ++ ccap) := by
        have l1 : LR ι first.toList cfirst.toList := .arr s1 v1
        have l2 : LR ι cap.toList ccap.toList := .arr s2 v2
        have l := (l1.append e2).append l2
        have e3 : (first ++ as.toArray ++ cap).toList = first.toList ++ as ++ cap.toList := by simp
        have e4 : (cfirst ++ c.args.map a.eval ++ ccap).toList = cfirst.toList ++ List.map a.eval c.args.toList ++ ccap.toList := by simp
        rw [← e3, ← e4] at l
        refine ⟨by have := l.1; simp only [Array.length_toList] at this; omega, fun i hi => ?_⟩
        have := l.toArr i (by simpa using hi)
        rw [Array.toArray_toList, Array.toArray_toList] at this
        exact this
      have hcalls := hax w0 ι w _ hw hargs
      have hrun : (execOp a.eval o).run P w = .ok (.enter g (cfirst ++ c.args.map a.eval ++ ccap)) w := by
        have hb : fn.body ≠ none := by intro hb; simp [hb] at hbody
        simp [execOp, hop, resolve, hcl, hce, Deferred.ofValue, invoke, callFunc, hfn, hb, hname]
      refine wpIn_of_run (hnc hop) hrun ⟨fun h => by simp at h, callsIn_rF.2 ?_⟩
      refine hcalls.mono fun e w' he => ?_
      cases e with
      | returned cv =>
        obtain ⟨v, H', ι', q, h1, h2, h3⟩ := he
        exact hn v H' ι' cv w' q h1 h2 h3
      | panicked ch => exact he.elim
      | outgrown => exact he.elim
  unfold boper at h
  split at h
  · rename_i c hop
    split at h
    · rename_i f hcl
      split at h
      · rename_i g
        obtain ⟨as, has, h⟩ := evL_rel hf _ _ h
        split at h
        · rename_i hne
          split at h
          · rename_i v
            obtain ⟨fn, hfn, hb, hnm, hor⟩ := noEsc_parts hne
            obtain ⟨cv, hcv, hr⟩ := has.one
            have hargs : c.args.map a.eval = #[cv] := by
              have : (c.args.map a.eval).toList = [cv] := by simpa using hcv
              exact toList_one this
            have hrun : (execOp a.eval o).run P w = .ok (.value cv) w := by
              simp [execOp, hop, resolve, hcl, Act.eval, Deferred.ofValue, invoke, hargs]
              exact run_noEsc hfn hb hnm hor cv w
            exact wpIn_of_run (hnc hop) hrun (hn v H ι cv w h (.refl _) hw hr)
          · exact h.elim
        split at h
        · rename_i hne
          split at h
          · rename_i v
            obtain ⟨⟨r, H'⟩, hr0, hK⟩ := h.out
            obtain ⟨fn, hfn, hb, hnm, hor⟩ := mapsClone_parts hne
            obtain ⟨cv, hcv, hr⟩ := has.one
            have hargs : c.args.map a.eval = #[cv] := by
              have : (c.args.map a.eval).toList = [cv] := by simpa using hcv
              exact toList_one this
            obtain ⟨ι', cr, w', x1, x2, x3, x4⟩ := aclone_run hw hr hr0
            have hrun : (execOp a.eval o).run P w = .ok (.value cr) w' := by
              simp [execOp, hop, resolve, hcl, Act.eval, Deferred.ofValue, invoke, hargs]
              rw [run_mapsClone hfn hb hnm hor cv w, x2]
              rfl
            exact wpIn_of_run (hnc hop) hrun (hn r H' ι' cr w' hK x1 x3 x4)
          · exact h.elim
        split at h
        · rename_i hne
          split at h
          · rename_i s n
            obtain ⟨fn, hfn, hb, hnm, hor⟩ := idxByte_parts hne
            obtain ⟨cv1, cv2, hcv, hr1, hr2⟩ := has.two
            cases hr1
            cases hr2
            have hargs : c.args.map a.eval = #[.string s, .int .u8 n] := by
              have : (c.args.map a.eval).toList = [.string s, .int .u8 n] := by simpa using hcv
              rw [← Array.toArray_toList (xs := c.args.map a.eval), this]
            have hrun : (execOp a.eval o).run P w = .ok (.value (.int .i64 (indexB s n))) w := by
              simp [execOp, hop, resolve, hcl, Act.eval, Deferred.ofValue, invoke, hargs]
              exact run_idxByte hfn hb hnm hor s n w
            exact wpIn_of_run (hnc hop) hrun (hn _ H ι _ w h (.refl _) hw (.int _ _))
          · exact h.elim
        refine call c _ hop hcl ⟨g, #[], #[], as, .func _ _ _ _ _ rfl rfl (fun i h => absurd h (Nat.not_lt_zero _)) (fun i h => absurd h (Nat.not_lt_zero _)), has, ?_⟩
        simpa using h
      · obtain ⟨fv, hfv, h⟩ := evK_rel hf h
        split at h
        · obtain ⟨as, has, h⟩ := evL_rel hf _ _ h
          exact call c _ hop hcl ⟨_, _, _, as, hfv, has, h⟩
        · obtain ⟨as, has, h⟩ := evL_rel hf _ _ h
          generalize hce : a.eval _ = ce at hfv
          cases hfv with
          | yld q pl hq =>
            obtain ⟨fn, tmps, assign, body, h1, h2⟩ := h.out w0 ι w pl (c.args.map a.eval) hw hq (by simpa using has)
            refine wpIn_of_run (r := .ok (.round pl.blk fn tmps assign body) w) (hnc hop) ?_ ⟨fun h => by simp at h, ?_⟩
            · simp [execOp, hop, resolve, hcl, hce, Deferred.ofValue, invoke, h1]
            · refine RoundIn.mono (F := rF ro) h2 fun e w' he => ?_
              cases e with
              | returned cv =>
                obtain ⟨v, H', ι', q, h1, h2, h3⟩ := he
                exact hn v H' ι' cv w' q h1 h2 h3
              | panicked ch => exact he.elim
              | outgrown => exact he.elim
        · exact h.elim
    · exact fin (by rw [hop]; exact h)
    · exact h.elim
  · exact fin (by rename_i hne; revert h; cases hop : o.op <;> first | exact id | (exfalso; exact hne _ hop))

theorem wantK_sound {n : Nat} {ι : List Pl} {fr : Fr} {a : Act} (hf : FB n ι fr a) {ops : Array Oper} {o : Oper} {X Y : Prop} (h : wantK ops.toList fr o.guard X Y) :
    (Region.wanted o (yielded ops a.tmps) = true ∧ X) ∨ (Region.wanted o (yielded ops a.tmps) = false ∧ Y) := by
  unfold wantK at h
  split at h
  · rename_i hg; exact .inl ⟨by simp [Region.wanted, hg], h⟩
  · rename_i j want hg
    have hl : (ops.toList[j]?).bind (·.dst) = (ops[j]?).bind (·.dst) := by rw [Array.getElem?_toList]
    rw [hl] at h
    split at h
    · rename_i d hd
      obtain ⟨v, hv, h⟩ := getK_iff.1 h
      obtain ⟨h1, h2⟩ := hf.val d v hv
      have hlt : d < a.tmps.size := by rw [hf.size]; exact h1
      rw [Array.getD_eq_getD_getElem?, Array.getElem?_eq_getElem hlt] at h2
      simp only [Option.getD_some] at h2
      have hy : ∀ b, a.tmps[d]'hlt = .bool b → yielded ops a.tmps j = some b := by
        intro b hb
        simp [yielded, hd, Array.getElem?_eq_getElem hlt, hb]
      have hn : (∀ b, a.tmps[d]'hlt ≠ .bool b) → yielded ops a.tmps j = none := by
        intro hb
        unfold yielded
        simp only [hd, Option.bind_some, Array.getElem?_eq_getElem hlt]
        split
        · rename_i b he; simp only [Option.some.injEq] at he; exact absurd he (hb b)
        · rfl
      split at h
      · rename_i b
        have hb : a.tmps[d]'hlt = .bool b := by
          revert h2
          generalize a.tmps[d]'hlt = y
          intro h2
          cases h2
          rfl
        have := hy b hb
        split at h
        · rcases h.out with ⟨rfl, h⟩ | ⟨rfl, h⟩
          · exact .inl ⟨by simp [Region.wanted, hg, this], h⟩
          · exact .inr ⟨by simp [Region.wanted, hg, this], h⟩
        · rcases h.out with ⟨rfl, h⟩ | ⟨rfl, h⟩
          · exact .inr ⟨by simp [Region.wanted, hg, this], h⟩
          · exact .inl ⟨by simp [Region.wanted, hg, this], h⟩
      · rename_i hnb
        have hb : ∀ b, a.tmps[d]'hlt ≠ .bool b := by
          intro b
          revert h2
          generalize a.tmps[d]'hlt = y
          intro h2 he
          subst he
          cases h2
          exact hnb _ rfl
        exact .inr ⟨by simp [Region.wanted, hg, hn hb], h⟩
    · rename_i hd
      exact .inr ⟨by simp [Region.wanted, hg, yielded, hd], h⟩

theorem bops_sound {ro : Option Nat} {ds : List Deferred} {P : Program} {n : Nat} {w0 : World} {ops : Array Oper} {Q : BPost} {ι0 : List Pl} : ∀ (l : List Oper) (fr : Fr) (H : Heap) (ι : List Pl) (a : Act) (w : World), Ext ι0 ι → WR P w0 ι H w → FB n ι fr a → a.defers = ds → bops P n ops.toList Q l fr H →
    wpListIn (rF ro) 0 P ops (LB P n w0 ι0 ds Q) l a w := by
  intro l
  induction l with
  | nil => intro fr H ι a w hx hw hf hd h; exact (LB.intro (e := .normal) rfl hw hf hd h).ext hx
  | cons o l ih =>
    intro fr H ι a w hx hw hf hd h
    have put : ∀ (v : Value) (cv : Value) (H' : Heap) (ι' : List Pl) (w' : World), (putK n fr o.dst v fun fr' => bops P n ops.toList Q l fr' H') → Ext ι ι' → WR P w0 ι' H' w' → VR ι' v cv → wpListIn (rF ro) 0 P ops (LB P n w0 ι0 ds Q) l (a.put o.dst cv) w' := by
      intro v cv H' ι' w' k h1 h2 h3
      unfold putK at k
      split at k
      · rename_i hd'; rw [hd']; exact ih _ _ ι' _ w' (hx.trans h1) h2 (hf.ext h1) hd k
      · rename_i d hd'
        split at k
        · rename_i hb
          rw [hd']
          exact ih _ _ ι' _ w' (hx.trans h1) h2 ((hf.ext h1).put h3 (by simpa [Nat.blt_eq] using hb)) hd k
        · exact k.elim
    unfold wpListIn
    have h : wantK ops.toList fr o.guard (boper P o fr H fun v H' => putK n fr o.dst v fun fr' => bops P n ops.toList Q l fr' H') (putK n fr o.dst undef fun fr' => bops P n ops.toList Q l fr' H) := h
    rcases wantK_sound hf h with ⟨h1, h⟩ | ⟨h1, h⟩
    · rw [if_pos h1]
      exact (boper_sound hw hf h fun v H' ι' cv w' k h1 h2 h3 => put v cv H' ι' w' k h1 h2 h3)
    · rw [if_neg (by simp [h1])]
      exact ⟨fun _ _ => trivial, put undef undef H ι w h (.refl _) hw (.undef ι)⟩

theorem bC_sound {P : Program} {n : Nat} : ∀ (c : Code) (Q : BPost) (fr : Fr) (H : Heap), bC P n c Q fr H → SW P n c Q fr H := by
  intro c
  induction c with
  | skip => intro Q fr H h; exact ⟨fun ro ds w0 ι a w hw hf hd => wpIn_skip (.intro rfl hw hf hd h)⟩
  | label l => intro Q fr H h; exact ⟨fun ro ds w0 ι a w hw hf hd => wpIn_label (.intro rfl hw hf hd h)⟩
  | region id ops draw =>
    intro Q fr H h
    cases draw with
    | false => exact ⟨fun ro ds w0 ι a w hw hf hd => wpIn_region_list (bops_sound _ fr H ι a w (.refl _) hw hf hd h)⟩
    | true => exact h
  | seq x y ihx ihy =>
    intro Q fr H h
    refine ⟨fun ro ds w0 ι a w hw hf hd => wpIn_seq (wpIn_mono ((ihx _ fr H h).out ro ds w0 ι a w hw hf hd) fun e a' w' hq => ?_)⟩
    obtain ⟨ae, he, fr', H', ι', hx, hw', hf', hd', q⟩ := hq
    cases e with
    | normal =>
      simp only [toA, Option.some.injEq] at he; subst he
      exact wpIn_mono ((ihy _ fr' H' q).out ro ds w0 ι' a' w' hw' hf' hd') fun e a w hq => hq.ext hx
    | exit id => simp only [toA, Option.some.injEq] at he; subst he; exact ⟨_, rfl, fr', H', ι', hx, hw', hf', hd', q⟩
    | goto l => simp only [toA, Option.some.injEq] at he; subst he; exact ⟨_, rfl, fr', H', ι', hx, hw', hf', hd', q⟩
    | ret => simp only [toA, Option.some.injEq] at he; subst he; exact ⟨_, rfl, fr', H', ι', hx, hw', hf', hd', q⟩
    | panic ch => simp [toA] at he
    | outgrown => simp [toA] at he
  | cond c x y ihx ihy =>
    intro Q fr H h
    refine ⟨fun ro ds w0 ι a w hw hf hd => ?_⟩
    obtain ⟨v, hv, h⟩ := evK_rel hf h
    split at h
    · rename_i b
      generalize hce : a.eval c = ce at hv
      cases hv
      rcases h.out with ⟨rfl, h⟩ | ⟨rfl, h⟩
      · exact wpIn_cond_true hce ((ihx _ fr H h).out ro ds w0 ι a w hw hf hd)
      · exact wpIn_cond_false hce ((ihy _ fr H h).out ro ds w0 ι a w hw hf hd)
    · exact h.elim
  | block id x ihx =>
    intro Q fr H h
    refine ⟨fun ro ds w0 ι a w hw hf hd => wpIn_block (wpIn_mono ((ihx _ fr H h).out ro ds w0 ι a w hw hf hd) fun e a' w' hq => ?_)⟩
    obtain ⟨ae, he, fr', H', ι', hx, hw', hf', hd', q⟩ := hq
    cases e with
    | normal => simp only [toA, Option.some.injEq] at he; subst he; exact ⟨_, rfl, fr', H', ι', hx, hw', hf', hd', q⟩
    | exit id' =>
      simp only [toA, Option.some.injEq] at he; subst he
      simp only [inBl] at q
      simp only [Exit.inBlock]
      split at q
      · rename_i hid; rw [if_pos (Nat.eq_of_beq_eq_true hid)]; exact ⟨_, rfl, fr', H', ι', hx, hw', hf', hd', q⟩
      · rename_i hid; rw [if_neg (Nat.ne_of_beq_eq_false hid)]; exact ⟨_, rfl, fr', H', ι', hx, hw', hf', hd', q⟩
    | goto l => simp only [toA, Option.some.injEq] at he; subst he; exact ⟨_, rfl, fr', H', ι', hx, hw', hf', hd', q⟩
    | ret => simp only [toA, Option.some.injEq] at he; subst he; exact ⟨_, rfl, fr', H', ι', hx, hw', hf', hd', q⟩
    | panic ch => simp [toA] at he
    | outgrown => simp [toA] at he
  | loop x ihx => intro Q fr H h; exact h
  | rangeFunc f ps x y => intro Q fr H h; exact h
  | exit id => intro Q fr H h; exact ⟨fun ro ds w0 ι a w hw hf hd => wpIn_exit (.intro rfl hw hf hd h)⟩
  | scope x ihx => intro Q fr H h; exact h
  | goto l => intro Q fr H h; exact ⟨fun ro ds w0 ι a w hw hf hd => wpIn_goto (.intro rfl hw hf hd h)⟩
  | ret => intro Q fr H h; exact ⟨fun ro ds w0 ι a w hw hf hd => wpIn_ret (.intro rfl hw hf hd h)⟩
  | refuse s => intro Q fr H h; exact h.elim

/-! ### Loops and scopes -/
/-- A loop: F x is what is known at the head of a round, I what holds of the heap; μ goes down. -/
def roundP {α : Type} (F : α → Fr) (I : α → Heap → Prop) (μ : α → Nat) (x : α) (Q : BPost) : BPost
  | .normal, fr, H => ∃ y, Has fr (F y) ∧ I y H ∧ μ y < μ x
  | e, fr, H => Q e fr H
theorem SW.loop {P : Program} {n : Nat} {c : Code} {Q : BPost} {fr : Fr} {H : Heap} {α : Type} (F : α → Fr) (I : α → Heap → Prop) (μ : α → Nat) (h0 : ∃ x, Has fr (F x) ∧ I x H)
    (step : ∀ x H, I x H → SW P n c (roundP F I μ x Q) (F x) H) : SW P n (.loop c) Q fr H := by
  refine ⟨fun ro ds w0 ι a w hw hf hd b k cs hro _ _ => ?_⟩
  have key : ∀ (m : Nat) (x : α) (H : Heap) (ι : List Pl) (a : Act) (w : World), μ x = m → I x H → WR P w0 ι H w → FB n ι (F x) a → a.defers = ds →
      ∃ e a' w', LB P n w0 ι ds Q e a' w' ∧ ArrivesIn (Machine.fenced P (rF ro)) P (lone (b.atR a (.code c :: .inLoop c :: k)) cs w) b k cs e a' w' := by
    intro m
    induction m using Nat.strongRecOn with
    | _ m ih =>
      intro x H ι a w hm hI hw hf hd
      obtain ⟨e, a1, w1, ⟨ae, he, fr1, H1, ι1, hx, hw1, hf1, hd1, q⟩, harr⟩ := (step x H hI).out ro ds w0 ι a w hw hf hd b (.inLoop c :: k) cs hro trivial (room_wide _)
      have pass : Q ae fr1 H1 → e ≠ .normal → ∃ e a' w', LB P n w0 ι ds Q e a' w' ∧ ArrivesIn (Machine.fenced P (rF ro)) P (lone (b.atR a (.code c :: .inLoop c :: k)) cs w) b k cs e a' w' := fun q' hn =>
        ⟨e, a1, w1, ⟨ae, he, fr1, H1, ι1, hx, hw1, hf1, hd1, q'⟩, .pass (x := .inLoop c) rfl (fun _ _ => .inl hn) harr⟩
      cases e with
      | normal =>
        simp only [toA, Option.some.injEq] at he
        subst he
        obtain ⟨y, hy, hIy, hlt⟩ := q
        obtain ⟨e2, a2, w2, q2, harr2⟩ := ih (μ y) (hm ▸ hlt) y H1 ι1 a1 w1 rfl hIy hw1 ⟨hf1.size, fun t v ht => hf1.val t v (Sub.of hy t v ht)⟩ hd1
        exact ⟨e2, a2, w2, q2.ext hx, .of_steps (StepsIn.trans harr (.one (fenced_rF P ro _) stepR_inLoop)) harr2⟩
      | exit id => simp only [toA, Option.some.injEq] at he; subst he; exact pass q (by simp)
      | goto l => simp only [toA, Option.some.injEq] at he; subst he; exact pass q (by simp)
      | ret => simp only [toA, Option.some.injEq] at he; subst he; exact pass q (by simp)
      | panic ch => simp [toA] at he
      | outgrown => simp [toA] at he
  obtain ⟨x, hx, hI⟩ := h0
  obtain ⟨e, a', w', q, harr⟩ := key _ x H ι a w rfl hI hw ⟨hf.size, fun t v ht => hf.val t v (Sub.of hx t v ht)⟩ hd
  exact ⟨e, a', w', q, .of_steps (.one (fenced_rF P ro _) stepR_loop) harr⟩

/-- A scope: at each label it is known what holds; what is behind the label is gone on with. -/
def scopeP {α : Type} (c : Code) (L : α → Nat) (F : α → Fr) (I : α → Heap → Prop) (M : α → Prop) (Q : BPost) : BPost
  | .goto l, fr, H => match findLabel c l with | some _ => ∃ y, L y = l ∧ Has fr (F y) ∧ I y H ∧ M y | none => Q (.goto l) fr H
  | e, fr, H => Q e fr H
theorem SW.scope {P : Program} {n : Nat} {c : Code} {Q : BPost} {fr : Fr} {H : Heap} {α : Type} (L : α → Nat) (F : α → Fr) (I : α → Heap → Prop) (μ : α → Nat) (first : SW P n c (scopeP c L F I (fun _ => True) Q) fr H)
    (step : ∀ x H r, I x H → findLabel c (L x) = some r → SW P n r (scopeP c L F I (fun y => μ y < μ x) Q) (F x) H) : SW P n (.scope c) Q fr H := by
  refine ⟨fun ro ds w0 ι a w hw hf hd b k cs hro _ _ => ?_⟩
  have out : ∀ (M : α → Prop) (d : Code) (fr : Fr) (H : Heap) (ι : List Pl) (a : Act) (w : World),
      (∀ (y : α) (r : Code) (H1 : Heap) (ι1 : List Pl) (a1 : Act) (w1 : World), M y → findLabel c (L y) = some r → I y H1 → WR P w0 ι1 H1 w1 → FB n ι1 (F y) a1 → a1.defers = ds →
        ∃ e a' w', LB P n w0 ι1 ds Q e a' w' ∧ ArrivesIn (Machine.fenced P (rF ro)) P (lone (b.atR a1 (.code r :: .inScope c :: k)) cs w1) b k cs e a' w') →
      SW P n d (scopeP c L F I M Q) fr H → WR P w0 ι H w → FB n ι fr a → a.defers = ds → ∃ e a' w', LB P n w0 ι ds Q e a' w' ∧ ArrivesIn (Machine.fenced P (rF ro)) P (lone (b.atR a (.code d :: .inScope c :: k)) cs w) b k cs e a' w' := by
    intro M d fr H ι a w go hd' hw hf hd
    obtain ⟨e, a1, w1, ⟨ae, he, fr1, H1, ι1, hx, hw1, hf1, hd1, q⟩, harr⟩ := hd'.out ro ds w0 ι a w hw hf hd b (.inScope c :: k) cs hro trivial (room_wide _)
    cases e with
    | normal =>
      simp only [toA, Option.some.injEq] at he; subst he
      exact ⟨.normal, a1, w1, ⟨_, rfl, fr1, H1, ι1, hx, hw1, hf1, hd1, q⟩, StepsIn.trans harr (.one (fenced_rF P ro _) stepR_inScope)⟩
    | exit id =>
      simp only [toA, Option.some.injEq] at he; subst he
      exact ⟨.exit id, a1, w1, ⟨_, rfl, fr1, H1, ι1, hx, hw1, hf1, hd1, q⟩, ⟨fun k' hk => harr.1 k' (by simpa [exitTo] using hk), fun hr hk => harr.2 hr (by simpa [exitTo] using hk)⟩⟩
    | goto l =>
      simp only [toA, Option.some.injEq] at he; subst he
      simp only [scopeP] at q
      cases hl : findLabel c l with
      | none =>
        simp only [hl] at q
        exact ⟨.goto l, a1, w1, ⟨_, rfl, fr1, H1, ι1, hx, hw1, hf1, hd1, q⟩, ⟨fun k' hk => harr.1 k' (by simp [gotoIn, hl, hk]), fun hr hk => harr.2 hr (by simp [gotoIn, hl, hk])⟩⟩
      | some r =>
        simp only [hl] at q
        obtain ⟨y, rfl, hy, hIy, hM⟩ := q
        have hs := harr.1 (.code r :: .inScope c :: k) (by simp [gotoIn, hl])
        obtain ⟨e2, a2, w2, q2, harr2⟩ := go y r H1 ι1 a1 w1 hM hl hIy hw1 ⟨hf1.size, fun t v ht => hf1.val t v (Sub.of hy t v ht)⟩ hd1
        exact ⟨e2, a2, w2, q2.ext hx, .of_steps hs harr2⟩
    | ret =>
      simp only [toA, Option.some.injEq] at he; subst he
      exact ⟨.ret, a1, w1, ⟨_, rfl, fr1, H1, ι1, hx, hw1, hf1, hd1, q⟩, harr⟩
    | panic ch => simp [toA] at he
    | outgrown => simp [toA] at he
  have key : ∀ (m : Nat) (y : α) (r : Code) (H1 : Heap) (ι1 : List Pl) (a1 : Act) (w1 : World), μ y = m → findLabel c (L y) = some r → I y H1 → WR P w0 ι1 H1 w1 → FB n ι1 (F y) a1 → a1.defers = ds →
      ∃ e a' w', LB P n w0 ι1 ds Q e a' w' ∧ ArrivesIn (Machine.fenced P (rF ro)) P (lone (b.atR a1 (.code r :: .inScope c :: k)) cs w1) b k cs e a' w' := by
    intro m
    induction m using Nat.strongRecOn with
    | _ m ih =>
      intro y r H1 ι1 a1 w1 hm hl hI hw hf hd
      exact out (fun z => μ z < μ y) r (F y) H1 ι1 a1 w1 (fun z r' H2 ι2 a2 w2 hz hl2 hI2 hw2 hf2 hd2 => ih (μ z) (hm ▸ hz) z r' H2 ι2 a2 w2 rfl hl2 hI2 hw2 hf2 hd2) (step y H1 r hI hl) hw hf hd
  obtain ⟨e, a', w', q, harr⟩ := out (fun _ => True) c fr H ι a w (fun y r H1 ι1 a1 w1 _ hl hI hw hf hd => key _ y r H1 ι1 a1 w1 rfl hl hI hw hf hd) first hw hf hd
  exact ⟨e, a', w', q, .of_steps (.one (fenced_rF P ro _) stepR_scope) harr⟩

/-! ### Whole functions -/
def oneOr : List Value → Value
  | [v] => v
  | vs => .tuple vs.toArray
def resK (P : Program) (fr : Fr) (H : Heap) : List ResultVar → (List Value → Prop) → Prop
  | [], K => K []
  | .tmp t :: r, K => getK fr t fun v => resK P fr H r fun vs => K (v :: vs)
  | .cell x t :: r, K => getK fr x fun p => Ob (aload P t p H) fun v => resK P fr H r fun vs => K (v :: vs)
def bpost (P : Program) (rs : List ResultVar) (Q : Value → Heap → Prop) : BPost
  | .normal, fr, H => resK P fr H rs fun vs => Q (oneOr vs) H
  | .ret, fr, H => resK P fr H rs fun vs => Q (oneOr vs) H
  | _, _, _ => False

theorem resK_run {P : Program} {n : Nat} {w0 w : World} {ι : List Pl} {H : Heap} (hw : WR P w0 ι H w) {fr : Fr} {a : Act} (hf : FB n ι fr a) : ∀ (rs : List ResultVar) (K : List Value → Prop), resK P fr H rs K →
    ∃ vs cvs, K vs ∧ (rs.mapM (fun | .tmp t => pure (a.tmps.getD t undef) | .cell x t => do loadVar t (← asAddr (a.tmps.getD x undef)) : ResultVar → Sem Value)).run P w = .ok cvs w ∧ LR ι vs cvs := by
  intro rs
  induction rs with
  | nil => intro K h; exact ⟨[], [], h, rfl, .nil ι⟩
  | cons r rs ih =>
    intro K h
    have fin : ∀ (v cv : Value), (match r with | .tmp t => pure (a.tmps.getD t undef) | .cell x t => do loadVar t (← asAddr (a.tmps.getD x undef)) : Sem Value).run P w = .ok cv w → VR ι v cv → (resK P fr H rs fun vs => K (v :: vs)) →
        ∃ vs cvs, K vs ∧ ((r :: rs).mapM (fun | .tmp t => pure (a.tmps.getD t undef) | .cell x t => do loadVar t (← asAddr (a.tmps.getD x undef)) : ResultVar → Sem Value)).run P w = .ok cvs w ∧ LR ι vs cvs := by
      intro v cv h1 h2 h
      obtain ⟨vs, cvs, k, h3, h4⟩ := ih _ h
      refine ⟨v :: vs, cv :: cvs, k, ?_, .cons h2 h4⟩
      rw [List.mapM_cons]
      simp only [Sem.run_bind]
      cases r <;> simp only [Sem.run_bind] at h1 h3 ⊢ <;> rw [h1] <;> simp only [Result.andThen_ok] <;> rw [h3] <;> rfl
    cases r with
    | tmp t =>
      obtain ⟨v, hv, h⟩ := getK_iff.1 h
      exact fin v _ rfl (hf.val t v hv).2 h
    | cell x t =>
      obtain ⟨p, hp, h⟩ := getK_iff.1 h
      obtain ⟨v, hv, h⟩ := h.out
      have e := (hf.val x p hp).2
      obtain ⟨cx, h1, h2⟩ := aload_run hw e hv
      refine fin v cx ?_ h2 h
      show Sem.run P (do loadVar t (← asAddr (a.tmps.getD x undef))) w = _
      rw [← h1]
      revert e
      generalize a.tmps.getD x undef = c
      intro e
      unfold aload at hv
      split at hv
      · cases e; rfl
      · simp at hv

def frame0 : Nat → List Value → Fr
  | _, [] => []
  | i, v :: r => (i, v) :: frame0 (i + 1) r
theorem frame0_get : ∀ (vs : List Value) (i t : Nat) (v : Value), getF (frame0 i vs) t = some v → i ≤ t ∧ vs[t - i]? = some v := by
  intro vs
  induction vs with
  | nil => intro i t v h; simp [frame0, getF] at h
  | cons u vs ih =>
    intro i t v h
    simp only [frame0, getF] at h
    split at h
    · rename_i e
      have := Nat.eq_of_beq_eq_true e
      subst this
      simp only [Option.some.injEq] at h
      subst h
      simp
    · obtain ⟨h1, h2⟩ := ih _ _ _ h
      refine ⟨by omega, ?_⟩
      rw [show t - i = (t - (i + 1)) + 1 by omega]
      simpa using h2

/-- What a function's results come to. -/
theorem results_run {P : Program} {n : Nat} {w0 w' : World} {ι ι' : List Pl} {H' : Heap} {fr' : Fr} {a' : Act} {fn : Func} {rs : List ResultVar} {Q : Value → Heap → Prop} (hrs : fn.results.toList = rs) (hx : Ext ι ι') (hw' : WR P w0 ι' H' w') (hf' : FB n ι' fr' a')
    (q : resK P fr' H' rs fun vs => Q (oneOr vs) H') : ∃ v, (results fn a'.tmps).run P w' = .ok v w' ∧ AEnd P w0 ι Q (.returned v) w' := by
  obtain ⟨vs, cvs, k, h1, h2⟩ := resK_run hw' hf' _ _ q
  rw [← hrs] at h1
  have h3 : (fn.results.mapM (fun | .tmp t => pure (a'.tmps.getD t undef) | .cell x t => do loadVar t (← asAddr (a'.tmps.getD x undef)) : ResultVar → Sem Value)).run P w' = .ok cvs.toArray w' := by
    rw [Array.mapM_eq_mapM_toList, Sem.run_map, h1]; rfl
  refine ⟨if hs : cvs.toArray.size = 1 then cvs.toArray[0] else .tuple cvs.toArray, ?_, _, H', ι', k, hx, hw', ?_⟩
  · have e : results fn a'.tmps = (do
        let vs ← fn.results.mapM (fun | .tmp t => pure (a'.tmps.getD t undef) | .cell x t => do loadVar t (← asAddr (a'.tmps.getD x undef)) : ResultVar → Sem Value)
        pure (if h : vs.size = 1 then vs[0] else .tuple vs)) := rfl
    rw [e, Sem.run_bind, h3]
    rfl
  · have hl := h2.1
    match vs, cvs, h2, hl with
    | [], [], h2, _ => exact .tuple _ _ rfl (fun i hi => absurd hi (Nat.not_lt_zero _))
    | [v], [c], h2, _ =>
      obtain ⟨c', hc, hr⟩ := h2.one
      simp only [List.cons.injEq, and_true] at hc
      subst hc
      simpa [oneOr] using hr
    | v :: u :: vs, c :: d :: cvs, h2, _ =>
      rw [dif_neg (by simp)]
      exact .tuple _ _ (by have := h2.1; simpa using this) (fun i hi => h2.toArr i (by simpa using hi))
/-- A function by its body. -/
theorem AX.body {P : Program} {f : FuncId} {fn : Func} {c : Code} (hfn : P.funcs[f]? = some fn) (hb : fn.body = some c) (hname : fn.name ≠ "runtime.NumGoroutine") {args : List Value} {H : Heap} {Q : Value → Heap → Prop} {n : Nat} {rs : List ResultVar}
    (hn : args.length + (fn.ntmps - args.length) = n) (hrs : fn.results.toList = rs)
    (h : SW P n c (bpost P rs Q) (frame0 0 args) H) : AX P f args.toArray H Q := by
  refine ⟨⟨fn, hfn, by simp [hb], hname⟩, fun w0 ι w cargs hw ha => ?_⟩
  have hs : cargs.size = args.length := by simpa using ha.1
  have hf : FB n ι (frame0 0 args) { tmps := cargs ++ Array.replicate (fn.ntmps - cargs.size) undef, defers := [] } := by
    refine ⟨by simp [hs]; omega, fun t v ht => ?_⟩
    obtain ⟨_, h2⟩ := frame0_get _ _ _ _ ht
    simp only [Nat.sub_zero] at h2
    have hlt : t < args.length := (List.getElem?_eq_some_iff.1 h2).1
    refine ⟨by omega, ?_⟩
    have := ha.2 t (by simpa using hlt)
    simp only
    rw [Array.getD_eq_getD_getElem?, Array.getElem?_append, if_pos (by omega)]
    rw [Array.getD_eq_getD_getElem?, Array.getD_eq_getD_getElem?] at this
    simpa [h2] using this
  refine callsIn_rF.1 <| callsIn_of_wp (F := rF none) (n := 0) hfn hb trivial (wpIn_mono (h.out none [] w0 ι _ w hw hf rfl) fun e a' w' hq => ?_)
  obtain ⟨ae, he, fr', H', ι', hx, hw', hf', hd', q⟩ := hq
  have fin : (resK P fr' H' rs fun vs => Q (oneOr vs) H') → a'.defers = [] ∧ ∃ v, (results fn a'.tmps).run P w' = .ok v w' ∧ AEnd P w0 ι Q (.returned v) w' := by
    intro q
    obtain ⟨vs, cvs, k, h1, h2⟩ := resK_run hw' hf' _ _ q
    rw [← hrs] at h1
    have h3 : (fn.results.mapM (fun | .tmp t => pure (a'.tmps.getD t undef) | .cell x t => do loadVar t (← asAddr (a'.tmps.getD x undef)) : ResultVar → Sem Value)).run P w' = .ok cvs.toArray w' := by
      rw [Array.mapM_eq_mapM_toList, Sem.run_map, h1]; rfl
    refine ⟨hd', if hs : cvs.toArray.size = 1 then cvs.toArray[0] else .tuple cvs.toArray, ?_, _, H', ι', k, hx, hw', ?_⟩
    · have e : results fn a'.tmps = (do
          let vs ← fn.results.mapM (fun | .tmp t => pure (a'.tmps.getD t undef) | .cell x t => do loadVar t (← asAddr (a'.tmps.getD x undef)) : ResultVar → Sem Value)
          pure (if h : vs.size = 1 then vs[0] else .tuple vs)) := rfl
      rw [e, Sem.run_bind, h3]
      rfl
    · have hl := h2.1
      match vs, cvs, h2, hl with
      | [], [], h2, _ => exact .tuple _ _ rfl (fun i hi => absurd hi (Nat.not_lt_zero _))
      | [v], [c], h2, _ =>
        obtain ⟨c', hc, hr⟩ := h2.one
        simp only [List.cons.injEq, and_true] at hc
        subst hc
        simpa [oneOr] using hr
      | v :: u :: vs, c :: d :: cvs, h2, _ =>
        rw [dif_neg (by simp)]
        exact .tuple _ _ (by have := h2.1; simpa using this) (fun i hi => h2.toArr i (by simpa using hi))
  cases e with
  | normal => simp only [toA, Option.some.injEq] at he; subst he; exact fin q
  | ret => simp only [toA, Option.some.injEq] at he; subst he; exact fin q
  | exit id => simp only [toA, Option.some.injEq] at he; subst he; exact q.elim
  | goto l => simp only [toA, Option.some.injEq] at he; subst he; exact q.elim
  | panic ch => simp [toA] at he
  | outgrown => simp [toA] at he

end Go.Proofs.YtmdpifedcaaobaaDoor.Ax
/- What Go's data are in abstract memory: types as relations, and that what is read before a call stands there. -/
set_option linter.unusedVariables false
set_option linter.unusedSimpArgs false
namespace Go.Proofs.YtmdpifedcaaobaaDoor.Ax
open Go Go.RowKit

/-- A Go type's values, as cells, and what they say. -/
structure Ty (α : Type) where
  sz : Nat
  R : Heap → List Value → α → Prop
  ok : α → Prop

def RoExt (H H' : Heap) : Prop := ∀ (b : Nat) (c : List Value), H[b]? = some (.cells .ro c) → H'[b]? = some (.cells .ro c)
theorem RoExt.refl (H : Heap) : RoExt H H := fun _ _ h => h
theorem RoExt.trans {A B C : Heap} (h : RoExt A B) (k : RoExt B C) : RoExt A C := fun b c hb => k b c (h b c hb)
theorem RoExt.push (H T : Heap) : RoExt H (H ++ T) := fun b c h => by
  rw [List.getElem?_append_left (List.getElem?_eq_some_iff.1 h).1]; exact h
def NoOwn (H : Heap) : Prop := ∀ (b : Nat) (B : Blk), H[b]? = some B → B.own = false

structure Ty.Good {α : Type} (T : Ty α) : Prop where
  stable : ∀ {H H' : Heap} {cs : List Value} {x : α}, RoExt H H' → T.R H cs x → T.R H' cs x
  len : ∀ {H : Heap} {cs : List Value} {x : α}, T.R H cs x → cs.length = T.sz
  one : ∀ {H : Heap} {cs : List Value} {x : α}, T.R H cs x → ∀ v ∈ cs, v.oneCell' = true

def Opens {α : Type} (P : Program) (t : TypeId) (T : Ty α) : Prop :=
  P.cellsOf t = T.sz ∧ ∀ {D : Type} (enc : TypeId × Value → D) (fuel : Nat) (w0 w : World) (ι : List Pl) (H : Heap) (cs : List Value) (x : DataW D × List MemPlace), WR P w0 ι H w → NoOwn H →
    DataW.trod enc P w 0 (fun _ => true) true fuel t cs = some x →
    ∃ ι' H' acs a, Ext ι ι' ∧ WR P w0 ι' H' w ∧ NoOwn H' ∧ RoExt H H' ∧ LR ι' acs cs ∧ T.R H' acs a ∧ T.ok a

/-- At a depth of reading. -/
def OpensE {α : Type} (P : Program) (t : TypeId) (T : Ty α) (fuel : Nat) : Prop :=
  ∀ {D : Type} (enc : TypeId × Value → D) (w0 w : World) (ι : List Pl) (H : Heap) (cs : List Value) (x : DataW D × List MemPlace), WR P w0 ι H w → NoOwn H →
    DataW.trod enc P w 0 (fun _ => true) true fuel t cs = some x →
    ∃ ι' H' acs a, Ext ι ι' ∧ WR P w0 ι' H' w ∧ NoOwn H' ∧ RoExt H H' ∧ LR ι' acs cs ∧ T.R H' acs a ∧ T.ok a
theorem Opens.e {α : Type} {P : Program} {t : TypeId} {T : Ty α} (h : Opens P t T) (fuel : Nat) : OpensE P t T fuel := fun enc => h.2 enc fuel
theorem Opens.of {α : Type} {P : Program} {t : TypeId} {T : Ty α} (hc : P.cellsOf t = T.sz) (h : ∀ fuel, OpensE P t T fuel) : Opens P t T := ⟨hc, fun enc fuel => h fuel enc⟩
/-! ### Plain types -/
def tInt (k : IntKind) : Ty Int := ⟨1, fun _ cs n => cs = [.int k n], fun n => (Lit.int k n).wf = true⟩
def tBool : Ty Bool := ⟨1, fun _ cs b => cs = [.bool b], fun _ => True⟩
def tStr : Ty ByteArray := ⟨1, fun _ cs s => cs = [.string s], fun s => s.size ≤ maxLen⟩
theorem tInt_good (k : IntKind) : (tInt k).Good := ⟨fun _ h => h, fun h => by rw [h]; rfl, fun h v hv => by rw [h] at hv; simp at hv; subst hv; rfl⟩
theorem tBool_good : tBool.Good := ⟨fun _ h => h, fun h => by rw [h]; rfl, fun h v hv => by rw [h] at hv; simp at hv; subst hv; rfl⟩
theorem tStr_good : tStr.Good := ⟨fun _ h => h, fun h => by rw [h]; rfl, fun h v hv => by rw [h] at hv; simp at hv; subst hv; rfl⟩
theorem opens_int {P : Program} {t : TypeId} {k : IntKind} (ht : P.underlying t = some (.int k)) (hc : P.cellsOf t = 1) : Opens P t (tInt k) :=
  ⟨hc, fun enc fuel w0 w ι H cs x hw hn h => by
    obtain ⟨n, rfl, rfl, hwf⟩ := DataW.trod_int ht h
    exact ⟨ι, H, [.int k n], n, .refl _, hw, hn, .refl _, .cons (.int _ _) (.nil _), rfl, hwf⟩⟩
theorem opens_bool {P : Program} {t : TypeId} (ht : P.underlying t = some .bool) (hc : P.cellsOf t = 1) : Opens P t tBool :=
  ⟨hc, fun enc fuel w0 w ι H cs x hw hn h => by
    obtain ⟨b, rfl, rfl⟩ := DataW.trod_bool ht h
    exact ⟨ι, H, [.bool b], b, .refl _, hw, hn, .refl _, .cons (.bool _) (.nil _), rfl, trivial⟩⟩
theorem opens_str {P : Program} {t : TypeId} (ht : P.underlying t = some .string) (hc : P.cellsOf t = 1) : Opens P t tStr :=
  ⟨hc, fun enc fuel w0 w ι H cs x hw hn h => by
    obtain ⟨s, rfl, rfl, hs⟩ := DataW.trod_string ht h
    exact ⟨ι, H, [.string s], s, .refl _, hw, hn, .refl _, .cons (.str _) (.nil _), rfl, hs⟩⟩

/-! ### Structs: one field, and the others -/
def tPair {α β : Type} (S : Ty α) (T : Ty β) : Ty (α × β) :=
  ⟨S.sz + T.sz, fun H cs x => S.R H (cs.take S.sz) x.1 ∧ T.R H (cs.drop S.sz) x.2, fun x => S.ok x.1 ∧ T.ok x.2⟩
theorem tPair_good {α β : Type} {S : Ty α} {T : Ty β} (hs : S.Good) (ht : T.Good) : (tPair S T).Good :=
  ⟨fun hx h => ⟨hs.stable hx h.1, ht.stable hx h.2⟩, fun {H cs x} h => by
    have h1 := hs.len h.1
    have h2 := ht.len h.2
    simp at h1 h2
    simp only [tPair]
    omega, fun {H cs x} h v hv => by
    rw [← List.take_append_drop S.sz cs] at hv
    rcases List.mem_append.1 hv with hv | hv
    · exact hs.one h.1 v hv
    · exact ht.one h.2 v hv⟩
/-- Fields from a place on. -/
structure OpensFE {α : Type} (P : Program) (fs : List Field) (off : Nat) (T : Ty α) (fuel : Nat) : Prop where
  out : ∀ {D : Type} (enc : TypeId × Value → D) (w0 w : World) (ι : List Pl) (H : Heap) (cs : List Value), WR P w0 ι H w → NoOwn H → cs.length = off + T.sz →
    (∀ f ∈ fs, ∃ x, DataW.trod enc P w 0 (fun _ => true) true fuel f.type ((cs.drop f.offset).take (P.cellsOf f.type)) = some x) →
    ∃ ι' H' acs a, Ext ι ι' ∧ WR P w0 ι' H' w ∧ NoOwn H' ∧ RoExt H H' ∧ LR ι' acs (cs.drop off) ∧ T.R H' acs a ∧ T.ok a
theorem opensF_oneE {α : Type} {P : Program} {f : Field} {off : Nat} {T : Ty α} {fuel : Nat} (hf : f.offset = off) (hz : P.cellsOf f.type = T.sz) (hO : OpensE P f.type T fuel) : OpensFE P [f] off T fuel := by
  refine ⟨fun {D} enc w0 w ι H cs hw hn hl h => ?_⟩
  obtain ⟨x, hx⟩ := h f (List.mem_singleton.2 rfl)
  rw [hf, hz, List.take_of_length_le (by simp; omega)] at hx
  exact hO enc w0 w ι H _ x hw hn hx
theorem opensF_consE {α β : Type} {P : Program} {f : Field} {fs : List Field} {off : Nat} {S : Ty α} {T : Ty β} {fuel : Nat} (hS : S.Good) (hf : f.offset = off) (hz : P.cellsOf f.type = S.sz) (hO : OpensE P f.type S fuel) (hr : OpensFE P fs (off + S.sz) T fuel) : OpensFE P (f :: fs) off (tPair S T) fuel := by
  refine ⟨fun {D} enc w0 w ι H cs hw hn hl h => ?_⟩
  obtain ⟨x, hx⟩ := h f (List.mem_cons_self ..)
  rw [hf, hz] at hx
  obtain ⟨ι1, H1, acs, a, x1, hw1, hn1, e1, l1, r1, o1⟩ := hO enc w0 w ι H _ x hw hn hx
  obtain ⟨ι2, H2, bcs, b, x2, hw2, hn2, e2, l2, r2, o2⟩ := hr.out enc w0 w ι1 H1 cs hw1 hn1 (by simp only [tPair] at hl; omega) (fun g hg => h g (List.mem_cons_of_mem _ hg))
  have hal : acs.length = S.sz := hS.len r1
  refine ⟨ι2, H2, acs ++ bcs, (a, b), x1.trans x2, hw2, hn2, e1.trans e2, ?_, ⟨?_, ?_⟩, o1, o2⟩
  · have : cs.drop off = (cs.drop off).take S.sz ++ cs.drop (off + S.sz) := by
      rw [← List.drop_drop, List.take_append_drop]
    rw [this]
    exact (l1.ext x2).append l2
  · rw [List.take_append_of_le_length (by omega), List.take_of_length_le (by omega)]; exact hS.stable e2 r1
  · rw [List.drop_append_of_le_length (by omega), List.drop_of_length_le (by omega)]; exact r2
theorem opens_structE {α : Type} {P : Program} {t : TypeId} {fs : Array Field} {T : Ty α} {fuel : Nat} (ht : P.underlying t = some (.struct fs)) (hc : P.cellsOf t = T.sz) (hO : ∀ n, fuel = n + 1 → OpensFE P fs.toList 0 T n) : OpensE P t T fuel :=
  fun enc w0 w ι H cs x hw hn h => by
    obtain ⟨xs, n, hfu, rfl, hl, hxs, hall⟩ := DataW.trod_struct ht h
    have := (hO n hfu).out enc w0 w ι H cs hw hn (by omega) (fun f hf => by
      obtain ⟨i, hi, rfl⟩ := List.getElem_of_mem hf
      have hi' : i < fs.size := by simpa using hi
      have := hall i fs[i] (by simp [hi'])
      refine ⟨xs[i]'(by omega), ?_⟩
      rw [List.getElem?_eq_getElem (by omega)] at this
      simpa using this)
    simpa using this
def OpensF {α : Type} (P : Program) (fs : List Field) (off : Nat) (T : Ty α) : Prop := ∀ fuel, OpensFE P fs off T fuel
theorem opensF_one {α : Type} {P : Program} {f : Field} {off : Nat} {T : Ty α} (hf : f.offset = off) (hO : Opens P f.type T) : OpensF P [f] off T := fun fuel => opensF_oneE hf hO.1 (hO.e fuel)
theorem opensF_cons {α β : Type} {P : Program} {f : Field} {fs : List Field} {off : Nat} {S : Ty α} {T : Ty β} (hS : S.Good) (hf : f.offset = off) (hO : Opens P f.type S) (hr : OpensF P fs (off + S.sz) T) : OpensF P (f :: fs) off (tPair S T) :=
  fun fuel => opensF_consE hS hf hO.1 (hO.e fuel) (hr fuel)
theorem opens_struct {α : Type} {P : Program} {t : TypeId} {fs : Array Field} {T : Ty α} (ht : P.underlying t = some (.struct fs)) (hc : P.cellsOf t = T.sz) (hO : OpensF P fs.toList 0 T) : Opens P t T := .of hc fun fuel => opens_structE ht hc fun n _ => hO n
/-- The same values, under another name. -/
def Ty.map {α β : Type} (T : Ty α) (g : α → β) : Ty β := ⟨T.sz, fun H cs y => ∃ x, T.R H cs x ∧ g x = y, fun y => ∃ x, T.ok x ∧ g x = y⟩

/-- Told by parts. -/
def Ty.pull {α β : Type} (T : Ty α) (g : β → α) : Ty β := ⟨T.sz, fun H cs y => T.R H cs (g y), fun y => T.ok (g y)⟩
theorem Ty.pull_good {α β : Type} {T : Ty α} (h : T.Good) (g : β → α) : (T.pull g).Good := ⟨fun hx k => h.stable hx k, fun k => h.len k, fun k => h.one k⟩
theorem OpensE.pull {α β : Type} {P : Program} {t : TypeId} {T : Ty α} {fuel : Nat} (h : OpensE P t T fuel) (g : β → α) (f : α → β) (hg : ∀ a, g (f a) = a) : OpensE P t (T.pull g) fuel := fun enc w0 w ι H cs x hw hn hx => by
  obtain ⟨ι', H', acs, a, h1, h2, h3, h4, h5, h6, h7⟩ := h enc w0 w ι H cs x hw hn hx
  exact ⟨ι', H', acs, f a, h1, h2, h3, h4, h5, by show T.R H' acs (g (f a)); rw [hg]; exact h6, by show T.ok (g (f a)); rw [hg]; exact h7⟩
/-! ### Slices -/
def tSlice {α : Type} (T : Ty α) : Ty (List α) :=
  ⟨1, fun H cs xs => (cs = [.slice none 0 0] ∧ xs = []) ∨ ∃ b, cs = [.slice (some ⟨b, 0, none⟩) xs.length T.sz] ∧ (xs = [] ∨ ∃ c, H[b]? = some (.cells .ro c) ∧ c.length = xs.length * T.sz ∧
      ∀ (i : Nat) (x : α), xs[i]? = some x → T.R H ((c.drop (i * T.sz)).take T.sz) x),
    fun xs => xs.length ≤ maxLen ∧ ∀ x ∈ xs, T.ok x⟩
theorem tSlice_good {α : Type} {T : Ty α} (hT : T.Good) : (tSlice T).Good :=
  ⟨fun hx h => by
    rcases h with h | ⟨b, h1, h2⟩
    · exact .inl h
    · refine .inr ⟨b, h1, ?_⟩
      rcases h2 with h2 | ⟨c, h2, h3, h4⟩
      · exact .inl h2
      · exact .inr ⟨c, hx _ _ h2, h3, fun i x hi => hT.stable hx (h4 i x hi)⟩,
   fun h => by rcases h with ⟨rfl, _⟩ | ⟨b, rfl, _⟩ <;> rfl,
   fun h v hv => by rcases h with ⟨rfl, _⟩ | ⟨b, rfl, _⟩ <;> (simp at hv; subst hv; rfl)⟩

theorem mapM_get {α β : Type} {f : α → Option β} : ∀ (l : List α) (r : List β), l.mapM f = some r → r.length = l.length ∧ ∀ (i : Nat) (x : α), l[i]? = some x → f x = r[i]? := by
  intro l
  induction l with
  | nil => intro r h; simp at h; subst h; exact ⟨rfl, fun i x hi => by simp at hi⟩
  | cons a l ih =>
    intro r h
    rw [List.mapM_cons] at h
    simp only [Option.bind_eq_bind, Option.bind_eq_some_iff, Option.pure_def, Option.some.injEq] at h
    obtain ⟨b, hb, r', hr', rfl⟩ := h
    obtain ⟨h1, h2⟩ := ih r' hr'
    refine ⟨by simp [h1], fun i x hi => ?_⟩
    cases i with
    | zero => simp only [List.getElem?_cons_zero, Option.some.injEq] at hi ⊢; subst hi; exact hb
    | succ i => simp only [List.getElem?_cons_succ] at hi ⊢; exact h2 i x hi
theorem cells_get {w : World} {a : Addr} {n : Nat} {cs : List Value} (h : w.cells? 0 a n = some cs) : cs.length = n ∧ ∀ j, j < n → w.cell? (a.add j) = cs[j]? := by
  unfold World.cells? at h
  rw [if_pos (Nat.zero_le _)] at h
  obtain ⟨h1, h2⟩ := mapM_get _ _ h
  exact ⟨by simpa using h1, fun j hj => h2 j j (by simp [hj])⟩

/-- Elements, one behind the other. -/
theorem opens_list {α : Type} {P : Program} {e : TypeId} {T : Ty α} {fuel : Nat} (hO : OpensE P e T fuel) (hG : T.Good) {D : Type} (enc : TypeId × Value → D) (w0 w : World) : ∀ (l : List (List Value)) (ι : List Pl) (H : Heap), WR P w0 ι H w → NoOwn H →
    (∀ cs ∈ l, ∃ x, DataW.trod enc P w 0 (fun _ => true) true fuel e cs = some x) →
    ∃ (ι' : List Pl) (H' : Heap) (c : List Value) (as : List α), Ext ι ι' ∧ WR P w0 ι' H' w ∧ NoOwn H' ∧ RoExt H H' ∧ LR ι' c l.flatten ∧ as.length = l.length ∧ c.length = l.length * T.sz ∧ (∀ v ∈ c, v.oneCell' = true) ∧ (∀ x ∈ as, T.ok x) ∧
      ∀ (i : Nat) (x : α), as[i]? = some x → T.R H' ((c.drop (i * T.sz)).take T.sz) x := by
  intro l
  induction l with
  | nil => intro ι H hw hn _; exact ⟨ι, H, [], [], .refl _, hw, hn, .refl _, .nil _, rfl, by simp, fun v hv => by simp at hv, fun x hx => by simp at hx, fun i x hi => by simp at hi⟩
  | cons cs l ih =>
    intro ι H hw hn h
    obtain ⟨x, hx⟩ := h cs (List.mem_cons_self ..)
    obtain ⟨ι1, H1, acs, a, x1, hw1, hn1, e1, l1, r1, o1⟩ := hO enc w0 w ι H _ x hw hn hx
    obtain ⟨ι2, H2, c, as, x2, hw2, hn2, e2, l2, hlen, hcl, hone, hok, hR⟩ := ih ι1 H1 hw1 hn1 (fun cs hcs => h cs (List.mem_cons_of_mem _ hcs))
    have hal : acs.length = T.sz := hG.len r1
    refine ⟨ι2, H2, acs ++ c, a :: as, x1.trans x2, hw2, hn2, e1.trans e2, (l1.ext x2).append l2, by simp [hlen], by simp [hal, hcl, Nat.add_mul]; omega, fun v hv => ?_, fun y hy => ?_, fun i y hi => ?_⟩
    · rcases List.mem_append.1 hv with hv | hv
      · exact hG.one r1 v hv
      · exact hone v hv
    · rcases List.mem_cons.1 hy with rfl | hy
      · exact o1
      · exact hok y hy
    · cases i with
      | zero =>
        simp only [List.getElem?_cons_zero, Option.some.injEq] at hi
        subst hi
        rw [Nat.zero_mul, List.drop_zero, List.take_append_of_le_length (by omega), List.take_of_length_le (by omega)]
        exact hG.stable e2 r1
      | succ i =>
        simp only [List.getElem?_cons_succ] at hi
        rw [show (i + 1) * T.sz = acs.length + i * T.sz by rw [Nat.add_mul, hal]; omega, List.drop_append, List.drop_of_length_le (by omega), List.nil_append, show acs.length + i * T.sz - acs.length = i * T.sz by omega]
        exact hR i y hi

theorem flatten_get {k : Nat} (hk : 0 < k) : ∀ (l : List (List Value)) (j : Nat), (∀ cs ∈ l, cs.length = k) → j < l.length * k → ∃ cs, l[j / k]? = some cs ∧ l.flatten[j]? = cs[j % k]? := by
  intro l
  induction l with
  | nil => intro j _ h; simp at h
  | cons cs l ih =>
    intro j h hj
    have hcs := h cs (List.mem_cons_self ..)
    by_cases hlt : j < k
    · refine ⟨cs, by rw [Nat.div_eq_of_lt hlt]; rfl, ?_⟩
      rw [List.flatten_cons, List.getElem?_append_left (by omega), Nat.mod_eq_of_lt hlt]
    · obtain ⟨cs', h1, h2⟩ := ih (j - k) (fun c hc => h c (List.mem_cons_of_mem _ hc)) (by simp [Nat.add_mul] at hj; omega)
      have hdiv : j / k = (j - k) / k + 1 := by rw [Nat.div_eq, if_pos ⟨hk, by omega⟩]
      refine ⟨cs', by rw [hdiv]; simpa using h1, ?_⟩
      rw [List.flatten_cons, List.getElem?_append_right (by omega), hcs, h2, ← Nat.mod_eq_sub_mod (by omega)]

/-- A block that is read alone. -/
theorem WR.read {P : Program} {w0 w : World} {ι : List Pl} {H : Heap} (hw : WR P w0 ι H w) (hn : NoOwn H) {c : List Value} {cc : Array Value} {e : TypeId} {fr : Nat × Nat} {blk off : Nat} (hb : w.heap[blk]? = some (.cells cc e fr)) (hle : off + c.length ≤ cc.size)
    (hL : ∀ (i : Nat) (v : Value), c[i]? = some v → v.oneCell' = true ∧ ∃ cv, cc[off + i]? = some cv ∧ VR ι v cv) :
    WR P w0 (ι ++ [⟨blk, off, c.length, 0⟩]) (H ++ [.cells .ro c]) w ∧ NoOwn (H ++ [.cells .ro c]) := by
  refine ⟨hw.push _ _ ⟨cc, e, fr, ⟨hb, hle, Nat.le_refl _, fun i v hi => let ⟨h1, cv, h2, h3⟩ := hL i v hi; ⟨h1, cv, h2, h3.ext (.push _ _)⟩⟩, fun h => by simp [Mode.own] at h, rfl⟩ fun b C q h1 h2 ha hq => ⟨hn b C h1, rfl⟩, fun b B h => ?_⟩
  by_cases hlt : b < H.length
  · rw [List.getElem?_append_left hlt] at h; exact hn b B h
  · rw [List.getElem?_append_right (by omega)] at h
    have hz : b - H.length = 0 := by have := (List.getElem?_eq_some_iff.1 h).1; simp at this; omega
    rw [hz] at h
    simp only [List.getElem?_cons_zero, Option.some.injEq] at h
    subst h; rfl
theorem WR.pushDead {P : Program} {w0 w : World} {ι : List Pl} {H : Heap} (hw : WR P w0 ι H w) (hn : NoOwn H) (pl : Pl) : WR P w0 (ι ++ [pl]) (H ++ [.dead]) w ∧ NoOwn (H ++ [.dead]) := by
  refine ⟨hw.push pl .dead trivial fun b C q h1 h2 ha hq => ⟨hn b C h1, rfl⟩, fun b B h => ?_⟩
  by_cases hlt : b < H.length
  · rw [List.getElem?_append_left hlt] at h; exact hn b B h
  · rw [List.getElem?_append_right (by omega)] at h
    have hz : b - H.length = 0 := by have := (List.getElem?_eq_some_iff.1 h).1; simp at this; omega
    rw [hz] at h
    simp only [List.getElem?_cons_zero, Option.some.injEq] at h
    subst h; rfl

theorem opens_sliceE {α : Type} {P : Program} {t e : TypeId} {T : Ty α} {fuel : Nat} (ht : P.underlying t = some (.slice e)) (hk : P.cellsOf e = T.sz) (hO : ∀ n, fuel = n + 1 → OpensE P e T n) (hG : T.Good) (hz : 0 < T.sz) : OpensE P t (tSlice T) fuel :=
  fun {D} enc w0 w ι H cs x hw hn h => by
    rcases DataW.trod_slice ht h with ⟨rfl, rfl⟩ | ⟨a, len, cap, elems, rest, n, hfu, rfl, rfl, hb, hl, hm, hlen, hel, hsp, hns⟩
    · exact ⟨ι, H, [.slice none 0 0], [], .refl _, hw, hn, .refl _, .cons .slice0 (.nil _), .inl ⟨rfl, rfl⟩, by simp, fun x hx => by simp at hx⟩
    · obtain ⟨hsp1, hsp2⟩ := hsp rfl
      -- every cell up to the capacity is there
      have hcell : ∀ i, i < cap → ∃ cs, w.cells? 0 (a.add (i * T.sz)) T.sz = some cs ∧ ∃ x, DataW.trod enc P w 0 (fun _ => true) true n e cs = some x := by
        intro i hi
        by_cases hil : i < len
        · have := hel i hil
          rw [hk, List.getElem?_eq_getElem (by omega)] at this
          simp only [Option.bind_eq_some_iff] at this
          obtain ⟨cs, h1, h2⟩ := this
          exact ⟨cs, h1, _, h2⟩
        · have := hsp2 (i - len) (by omega)
          rw [hk, List.getElem?_eq_getElem (by omega), show len + (i - len) = i by omega] at this
          simp only [Option.bind_eq_some_iff] at this
          obtain ⟨cs, h1, h2⟩ := this
          exact ⟨cs, h1, _, h2⟩
      have haddr : 0 < cap → a.spot = none ∧ ∃ cc e' fr, w.heap[a.block]? = some (.cells cc e' fr) := by
        intro hcap
        obtain ⟨cs, h1, _⟩ := hcell 0 hcap
        obtain ⟨h2, h3⟩ := cells_get h1
        have h4 := h3 0 hz
        rw [Nat.zero_mul, show a.add 0 = a from rfl, show a.add 0 = a from rfl, List.getElem?_eq_getElem (by omega)] at h4
        unfold World.cell? at h4
        split at h4
        · rename_i cc e' fr hh
          split at h4
          · simp at h4
          · rename_i hs
            exact ⟨by cases h : a.spot <;> simp_all, cc, e', fr, hh⟩
        · simp at h4
      by_cases hl0 : len = 0
      · subst hl0
        obtain ⟨hw', hn'⟩ := hw.pushDead hn ⟨a.block, a.off, 0, 0⟩
        have hx : (ι ++ [(⟨a.block, a.off, 0, 0⟩ : Pl)])[H.length]? = some ⟨a.block, a.off, 0, 0⟩ := by rw [← hw.len]; simp
        refine ⟨_, _, [.slice (some ⟨H.length, 0, none⟩) 0 T.sz], [], .push _ _, hw', hn', .push _ _, .cons (.slice _ _ _ _ _ _ _ hx hl hm (fun hcap => ?_) (fun h => absurd rfl h)) (.nil _), .inr ⟨H.length, rfl, .inl rfl⟩, by simp, fun x hx => by simp at hx⟩
        obtain ⟨hs, _⟩ := haddr hcap
        obtain ⟨b, o, s⟩ := a
        simp only at hs
        subst hs
        rfl
      · obtain ⟨hs, cc, e', fr, hh⟩ := haddr (by omega)
        obtain ⟨blk, off, s⟩ := a
        simp only at hs hh
        subst hs
        -- the cells of each element
        let l : List (List Value) := (List.range len).map fun i => (w.cells? 0 ⟨blk, off + i * T.sz, none⟩ T.sz).getD []
        have hli : ∀ i, i < len → ∃ cs, l[i]? = some cs ∧ w.cells? 0 ⟨blk, off + i * T.sz, none⟩ T.sz = some cs ∧ ∃ x, DataW.trod enc P w 0 (fun _ => true) true n e cs = some x := by
          intro i hi
          obtain ⟨cs, h1, h2⟩ := hcell i (by omega)
          rw [add_none] at h1
          exact ⟨cs, by simp [l, hi, h1], h1, h2⟩
        have hll : l.length = len := by simp [l]
        obtain ⟨ι1, H1, c, as, x1, hw1, hn1, e1, l1, hasl, hcl, hone, hok, hR⟩ := opens_list (hO n hfu) hG enc w0 w l ι H hw hn (fun cs hcs => by
          obtain ⟨i, hi, rfl⟩ := List.getElem_of_mem hcs
          obtain ⟨cs', h1, _, h2⟩ := hli i (by omega)
          rw [List.getElem?_eq_getElem hi] at h1
          simp only [Option.some.injEq] at h1
          rw [h1]; exact h2)
        have hflat : ∀ j, j < len * T.sz → l.flatten[j]? = cc[off + j]? := by
          intro j hj
          obtain ⟨cs, h1, h2⟩ := flatten_get hz l j (fun cs hcs => by
            obtain ⟨i, hi, rfl⟩ := List.getElem_of_mem hcs
            obtain ⟨cs', h1, h2, _⟩ := hli i (by omega)
            rw [List.getElem?_eq_getElem hi] at h1
            simp only [Option.some.injEq] at h1
            rw [h1]; exact (cells_get h2).1) (by rw [hll]; exact hj)
          have hdl : j / T.sz < len := Nat.div_lt_of_lt_mul (by rw [Nat.mul_comm]; exact hj)
          obtain ⟨cs', h3, h4, _⟩ := hli (j / T.sz) hdl
          rw [h1] at h3
          simp only [Option.some.injEq] at h3
          subst h3
          rw [h2]
          have h5 := (cells_get h4).2 (j % T.sz) (Nat.mod_lt _ hz)
          rw [add_none, cell_of hh] at h5
          rw [← h5]
          congr 1
          have := Nat.div_add_mod j T.sz
          rw [Nat.mul_comm] at this
          omega
        have hsz : off + c.length ≤ cc.size := by
          rw [hcl, hll]
          have hp : 0 < len * T.sz := Nat.mul_pos (by omega) hz
          have h1 := hflat (len * T.sz - 1) (by omega)
          have h2 : len * T.sz - 1 < l.flatten.length := by rw [← l1.1, hcl, hll]; omega
          rw [List.getElem?_eq_getElem h2] at h1
          have := (Array.getElem?_eq_some_iff.1 h1.symm).1
          omega
        obtain ⟨hw2, hn2⟩ := hw1.read hn1 (c := c) hh hsz (fun i v hi => by
          obtain ⟨cv, h1, h2⟩ := l1.2 i v hi
          have hil : i < len * T.sz := by have := (List.getElem?_eq_some_iff.1 hi).1; rw [hcl, hll] at this; exact this
          exact ⟨hone v (List.mem_of_getElem? hi), cv, by rw [← hflat i hil]; exact h1, h2⟩)
        have hx : (ι1 ++ [(⟨blk, off, c.length, 0⟩ : Pl)])[H1.length]? = some ⟨blk, off, c.length, 0⟩ := by rw [← hw1.len]; simp
        refine ⟨_, _, [.slice (some ⟨H1.length, 0, none⟩) len T.sz], as, x1.trans (.push _ _), hw2, hn2, e1.trans (.push _ _), .cons (.slice _ _ _ _ _ _ _ hx hl hm (fun hcap => rfl) (fun h => absurd rfl h)) (.nil _), .inr ⟨H1.length, by rw [hasl, hll], .inr ⟨c, by simp, by rw [hcl, hasl], fun i x hi => hG.stable (.push _ _) (hR i x hi)⟩⟩, by omega, hok⟩
theorem opens_slice {α : Type} {P : Program} {t e : TypeId} {T : Ty α} (ht : P.underlying t = some (.slice e)) (hc : P.cellsOf t = 1) (hO : Opens P e T) (hG : T.Good) (hz : 0 < T.sz) : Opens P t (tSlice T) :=
  .of hc fun fuel => opens_sliceE ht hO.1 (fun n _ => hO.e n) hG hz
end Go.Proofs.YtmdpifedcaaobaaDoor.Ax
/- From a law told of abstract memory to what its row asks: arguments, and the beginning. -/
set_option linter.unusedVariables false
set_option linter.unusedSimpArgs false
namespace Go.Proofs.YtmdpifedcaaobaaDoor.Ax
open Go Go.RowKit

theorem WR.start (P : Program) (W : World) : WR P W [] [] W :=
  ⟨rfl, Below.refl _ _, fun b B pl h _ => by simp at h, fun b b' B B' pl pl' h _ _ _ _ _ _ => by simp at h⟩
theorem NoOwn.nil : NoOwn [] := fun b B h => by simp at h

/-- An argument: of one cell, or a struct. -/
def arg1 (acs : List Value) : Value := acs.headD undef
def argS (acs : List Value) : Value := .agg acs.toArray
theorem arg1_rel {ι : List Pl} {acs : List Value} {v : Value} (h : LR ι acs v.cells.toList) (hv : v.cells = #[v]) : VR ι (arg1 acs) v := by
  rw [hv] at h
  have h1 := h.1
  match acs, h1 with
  | [x], _ =>
    obtain ⟨c, hc, hr⟩ := h.2 0 x rfl
    simp at hc
    subst hc
    exact hr
theorem argS_rel {ι : List Pl} {acs : List Value} {cs : Array Value} (h : LR ι acs (Value.agg cs).cells.toList) (hone : ∀ v ∈ acs, v.oneCell' = true) : VR ι (argS acs) (.agg cs) := VR.ofL h hone

theorem AsR.nil (ι : List Pl) : AsR ι #[] #[] := ⟨rfl, fun i h => absurd h (Nat.not_lt_zero _)⟩
theorem AsR.ofL {ι : List Pl} {as cs : List Value} (h : LR ι as cs) : AsR ι as.toArray cs.toArray :=
  ⟨by simp [h.1], fun i hi => h.toArr i (by simpa using hi)⟩

/-- What a law's call comes to. -/
theorem AX.law {P : Program} {f : FuncId} {as cs : List Value} {ι : List Pl} {H : Heap} {W : World} (h : AX P f as.toArray H fun v _ => v = .bool true) (hw : WR P W ι H W) (ha : LR ι as cs) :
    Calls P f cs.toArray W fun e w' => e = .returned (.bool true) ∧ Below W.heap.size W w' := by
  refine (h.out W ι W _ hw (.ofL ha)).mono fun e w' he => ?_
  cases e with
  | returned cv =>
    obtain ⟨v, H', ι', rfl, _, hw', hv⟩ := he
    cases hv
    exact ⟨rfl, hw'.below⟩
  | panicked ch => exact he.elim
  | outgrown => exact he.elim

/-! ### A call that is done from elsewhere -/
theorem VR.back {ι ι' : List Pl} (hx : Ext ι ι') {v c0 : Value} (h : VR ι v c0) : ∀ {c : Value}, VR ι' v c → VR ι v c := by
  induction h with
  | bool b => intro c r; cases r; exact .bool _
  | int k n => intro c r; cases r; exact .int _ _
  | str s => intro c r; cases r; exact .str _
  | nilFunc => intro c r; cases r; exact .nilFunc
  | nilIface => intro c r; cases r; exact .nilIface
  | ptr0 => intro c r; cases r; exact .ptr0
  | ptr b off pl hb =>
    intro c r
    cases r with
    | ptr _ _ pl' hb' =>
      have := hx b pl hb
      rw [this] at hb'
      simp only [Option.some.injEq] at hb'
      subst hb'
      exact .ptr _ _ _ hb
  | slice0 => intro c r; cases r; exact .slice0
  | slice b off len es cap ca pl hb h1 h2 h3 h4 =>
    intro c r
    cases r with
    | slice _ _ _ _ cap' ca' pl' hb' g1 g2 g3 g4 =>
      have := hx b pl hb
      rw [this] at hb'
      simp only [Option.some.injEq] at hb'
      subst hb'
      exact .slice _ _ _ _ _ _ _ hb g1 g2 g3 g4
  | map0 => intro c r; cases r; exact .map0
  | map b pl hb =>
    intro c r
    cases r with
    | map _ pl' hb' =>
      have := hx b pl hb
      rw [this] at hb'
      simp only [Option.some.injEq] at hb'
      subst hb'
      exact .map _ _ hb
  | func fn fs fs' cs cs' h1 h2 _ _ i1 i2 =>
    intro c r
    cases r with
    | func _ _ gs _ ds g1 g2 v1 v2 => exact .func _ _ _ _ _ g1 g2 (fun i hi => i1 i hi (v1 i hi)) (fun i hi => i2 i hi (v2 i hi))
  | yld q pl hb =>
    intro c r
    cases r with
    | yld _ pl' hb' =>
      have := hx q pl hb
      rw [this] at hb'
      simp only [Option.some.injEq] at hb'
      subst hb'
      exact .yld _ _ hb
  | agg cs cs' h1 _ h3 i1 =>
    intro c r
    cases r with
    | agg _ ds g1 v1 g3 => exact .agg _ _ g1 (fun i hi => i1 i hi (v1 i hi)) g3
  | tuple vs vs' h1 _ i1 =>
    intro c r
    cases r with
    | tuple _ ds g1 v1 => exact .tuple _ _ g1 (fun i hi => i1 i hi (v1 i hi))
  | iface t v c _ i1 =>
    intro c r
    cases r with
    | iface _ _ d g1 => exact .iface _ _ _ (i1 g1)

/-- Some blocks more are let go at the end; what was there stays, if it is as it was. -/
theorem WR.back {P : Program} {w0 w w' : World} {ι ι' : List Pl} {H T : Heap} (h : WR P w0 ι H w) (hx : Ext ι ι') (h' : WR P w0 ι' (H ++ T) w') : WR P w0 ι H w' := by
  have hin : ∀ (b : Nat) (B : Blk), H[b]? = some B → (H ++ T)[b]? = some B := fun b B hb => by rw [List.getElem?_append_left (List.getElem?_eq_some_iff.1 hb).1]; exact hb
  refine ⟨h.len, h'.below, fun b B pl hb hp => ?_, fun b b' B B' pl pl' hb hb' hp hp' => h'.inj b b' B B' pl pl' (hin _ _ hb) (hin _ _ hb') (hx _ _ hp) (hx _ _ hp')⟩
  have h1 := h.blk b B pl hb hp
  have h2 := h'.blk b B pl (hin _ _ hb) (hx _ _ hp)
  cases B with
  | dead => trivial
  | cells m c =>
    obtain ⟨cc, e, fr, ⟨a1, a2, a3, a4⟩, a5, a6⟩ := h1
    obtain ⟨cc', e', fr', ⟨b1, b2, b3, b4⟩, b5, b6⟩ := h2
    refine ⟨cc', e', fr', ⟨b1, b2, b3, fun i v hv => ?_⟩, b5, b6⟩
    obtain ⟨o, cv, c1, c2⟩ := a4 i v hv
    obtain ⟨_, cv', d1, d2⟩ := b4 i v hv
    exact ⟨o, cv', d1, VR.back hx c2 d2⟩
  | map o es =>
    obtain ⟨ms, clock, a1, a2, a3, a4⟩ := h1
    obtain ⟨ms', clock', b1, b2, b3, b4⟩ := h2
    refine ⟨ms', clock', b1, b2, b3, fun i k v hv => ?_⟩
    obtain ⟨m, c1, c2, c3⟩ := a4 i k v hv
    obtain ⟨m', d1, d2, d3⟩ := b4 i k v hv
    exact ⟨m', d1, VR.back hx c2 d2, VR.back hx c3 d3⟩
  | iter s pos => exact h2
  | defd => exact h2
  | lrec n fr st pend ps assign body =>
    obtain ⟨fn, tmps, d, a1, a2, a3, a4⟩ := h1
    obtain ⟨fn', tmps', d', b1, b2, b3, b4⟩ := h2
    exact ⟨fn', tmps', d', b1, b2, b3, fun t v ht => ⟨(b4 t v ht).1, VR.back hx (a4 t v ht).2 (b4 t v ht).2⟩⟩

/-- Values that lead nowhere. -/
def plain (v : Value) : Prop := ∀ (ι ι' : List Pl) (c : Value), VR ι v c → VR ι' v c
theorem plain_bool (b : Bool) : plain (.bool b) := fun ι ι' c h => by cases h; exact .bool _
theorem plain_int (k : IntKind) (n : Int) : plain (.int k n) := fun ι ι' c h => by cases h; exact .int _ _
theorem plain_str (s : ByteArray) : plain (.string s) := fun ι ι' c h => by cases h; exact .str _
theorem plain_undef : plain undef := fun ι ι' c h => by
  cases h with
  | tuple _ ds g1 v1 => exact .tuple _ _ g1 (fun i hi => absurd hi (Nat.not_lt_zero _))
theorem plain_tuple {vs : List Value} (h : ∀ v ∈ vs, plain v) : plain (.tuple vs.toArray) := fun ι ι' c r => by
  cases r with
  | tuple _ ds g1 v1 => exact .tuple _ _ g1 (fun i hi => h _ (by simpa using getD_mem hi) _ _ _ (v1 i hi))
theorem plain_agg {vs : List Value} (h : ∀ v ∈ vs, plain v) : plain (.agg vs.toArray) := fun ι ι' c r => by
  cases r with
  | agg _ ds g1 v1 g3 => exact .agg _ _ g1 (fun i hi => h _ (by simpa using getD_mem hi) _ _ _ (v1 i hi)) g3

/-- A call that answers plainly, and only lays new blocks, leaves the heap as it was. -/
theorem AX.forget {P : Program} {f : FuncId} {args : Array Value} {H : Heap} {Q : Value → Prop} (h : AX P f args H fun v H' => plain v ∧ Q v ∧ ∃ T, H' = H ++ T) : AX P f args H fun v H' => Q v ∧ H' = H :=
  ⟨h.able, fun w0 ι w cargs hw ha => (h.out w0 ι w cargs hw ha).mono fun e w' he => by
    cases e with
    | returned cv =>
      obtain ⟨v, H', ι', ⟨hp, q, T, rfl⟩, hx, hw', hv⟩ := he
      exact ⟨v, H, ι, ⟨q, rfl⟩, .refl _, hw.back hx hw', hp _ _ _ hv⟩
    | panicked ch => exact he.elim
    | outgrown => exact he.elim⟩

/-- A call without arguments that lead anywhere is done from the empty heap. -/
theorem AX.alone {P : Program} {f : FuncId} {args : List Value} {H : Heap} {Q : Value → Prop} (hp : ∀ v ∈ args, plain v) (h : AX P f args.toArray [] fun v _ => plain v ∧ Q v) : AX P f args.toArray H fun v H' => Q v ∧ H' = H :=
  ⟨h.able, fun w0 ι w cargs hw ha => (h.out w [] w cargs (.start P w) ⟨ha.1, fun i hi => hp _ (by simpa using getD_mem hi) _ _ _ (ha.2 i hi)⟩).mono fun e w' he => by
    cases e with
    | returned cv =>
      obtain ⟨v, H', ι', ⟨hp, q⟩, hx, hw', hv⟩ := he
      exact ⟨v, H, ι, ⟨q, rfl⟩, .refl _, hw.grow hw'.below, hp _ _ _ hv⟩
    | panicked ch => exact he.elim
    | outgrown => exact he.elim⟩

end Go.Proofs.YtmdpifedcaaobaaDoor.Ax
/- The abstract machine: a region whose order is open. Each operation's value is told once; each is asked for at every heap at which it may be done. -/
set_option linter.unusedVariables false
set_option linter.unusedSimpArgs false
namespace Go.Proofs.YtmdpifedcaaobaaDoor.Ax
open Go Go.RowKit

def plainE (e : Edge) : Bool := Region.binds .any e
/-- What must be done ahead of an operation, directly or not: bit by bit. -/
def maskOf (acc : List Nat) : List Edge → Nat
  | [] => 0
  | e :: es => match plainE e with
    | true => Nat.lor (Nat.lor (2 ^ e.on) (acc.getD e.on 0)) (maskOf acc es)
    | false => maskOf acc es
def masksFrom (acc : List Nat) : List Oper → List Nat
  | [] => acc
  | o :: os => masksFrom (acc ++ [maskOf acc o.after.toList]) os
def masks (ops : List Oper) : List Nat := masksFrom [] ops
/-- Is j ahead of i? -/
def ahead (ms : List Nat) (i j : Nat) : Bool := (ms.getD i 0).testBit j

theorem masksFrom_prefix : ∀ (os : List Oper) (acc : List Nat) (i : Nat), i < acc.length → (masksFrom acc os).getD i 0 = acc.getD i 0 := by
  intro os
  induction os with
  | nil => intro acc i h; rfl
  | cons o os ih =>
    intro acc i h
    rw [masksFrom, ih _ i (by simp; omega)]
    simp [List.getD_eq_getElem?_getD, List.getElem?_append_left h]
theorem masksFrom_get : ∀ (os : List Oper) (acc : List Nat) (i : Nat) (o : Oper), os[i]? = some o →
    ∃ acc', acc'.length = acc.length + i ∧ (masksFrom acc os).getD (acc.length + i) 0 = maskOf acc' o.after.toList ∧ ∀ j, j < acc'.length → acc'.getD j 0 = (masksFrom acc os).getD j 0 := by
  intro os
  induction os with
  | nil => intro acc i o h; simp at h
  | cons p os ih =>
    intro acc i o h
    cases i with
    | zero =>
      simp only [List.getElem?_cons_zero, Option.some.injEq] at h
      subst h
      refine ⟨acc, by simp, ?_, fun j hj => ?_⟩
      · rw [Nat.add_zero, masksFrom, masksFrom_prefix _ _ _ (by simp)]
        simp [List.getD_eq_getElem?_getD]
      · rw [masksFrom, masksFrom_prefix _ _ _ (by simp; omega)]
        simp [List.getD_eq_getElem?_getD, List.getElem?_append_left hj]
    | succ i =>
      simp only [List.getElem?_cons_succ] at h
      obtain ⟨acc', h1, h2, h3⟩ := ih (acc ++ [maskOf acc p.after.toList]) i o h
      refine ⟨acc', by rw [h1]; simp; omega, ?_, fun j hj => ?_⟩
      · rw [masksFrom, ← h2]
        congr 1
        simp; omega
      · rw [masksFrom]; exact h3 j hj
theorem maskOf_bit {acc : List Nat} {j : Nat} : ∀ {es : List Edge}, (maskOf acc es).testBit j = true → ∃ e ∈ es, plainE e = true ∧ (e.on = j ∨ (acc.getD e.on 0).testBit j = true) := by
  intro es
  induction es with
  | nil => intro h; simp [maskOf] at h
  | cons e es ih =>
    intro h
    simp only [maskOf] at h
    split at h
    · rename_i hp
      have hh : ((2 ^ e.on ||| acc.getD e.on 0) ||| maskOf acc es).testBit j = true := h
      rw [Nat.testBit_or, Nat.testBit_or, Nat.testBit_two_pow] at hh
      simp only [Bool.or_eq_true, decide_eq_true_eq] at hh
      rcases hh with (h1 | h1) | h1
      · exact ⟨e, List.mem_cons_self .., hp, .inl h1⟩
      · exact ⟨e, List.mem_cons_self .., hp, .inr h1⟩
      · obtain ⟨e', he, h2⟩ := ih h1
        exact ⟨e', List.mem_cons_of_mem _ he, h2⟩
    · obtain ⟨e', he, h2⟩ := ih h
      exact ⟨e', List.mem_cons_of_mem _ he, h2⟩

/-- What is listed has all that is ahead of it. -/
def DownC (ops : List Oper) (L : Nat → Prop) : Prop := ∀ (i : Nat) (o : Oper), ops[i]? = some o → L i → ∀ e ∈ o.after.toList, plainE e = true → L e.on
def backE (ops : List Oper) : Bool := (ops.zipIdx).all fun (o, i) => o.after.toList.all fun e => !plainE e || Nat.blt e.on i
theorem backE_spec {ops : List Oper} (h : backE ops = true) {i : Nat} {o : Oper} (ho : ops[i]? = some o) {e : Edge} (he : e ∈ o.after.toList) (hp : plainE e = true) : e.on < i := by
  unfold backE at h
  rw [List.all_eq_true] at h
  have := h (o, i) (List.mem_zipIdx_iff_getElem?.2 ho)
  rw [List.all_eq_true] at this
  have := this e he
  simpa [hp, Nat.blt_eq] using this
theorem ahead_listed {ops : List Oper} (hb : backE ops = true) {L : Nat → Prop} (hL : DownC ops L) : ∀ (n i j : Nat), i ≤ n → i < ops.length → L i → ahead (masks ops) i j = true → L j := by
  intro n
  induction n with
  | zero =>
    intro i j hi hil hLi h
    obtain rfl : i = 0 := by omega
    obtain ⟨acc', h1, h2, h3⟩ := masksFrom_get ops [] 0 ops[0] (by simp)
    simp only [List.length_nil, Nat.zero_add] at h1 h2
    unfold ahead masks at h
    rw [h2] at h
    obtain ⟨e, he, hp, h4⟩ := maskOf_bit h
    have := backE_spec hb (i := 0) (o := ops[0]) (by simp) he hp
    omega
  | succ n ih =>
    intro i j hi hil hLi h
    obtain ⟨acc', h1, h2, h3⟩ := masksFrom_get ops [] i ops[i] (by simp [hil])
    simp only [List.length_nil, Nat.zero_add] at h1 h2
    unfold ahead masks at h
    rw [h2] at h
    obtain ⟨e, he, hp, h4⟩ := maskOf_bit h
    have hlt := backE_spec hb (i := i) (o := ops[i]) (by simp [hil]) he hp
    have hLe := hL i ops[i] (by simp [hil]) hLi e he hp
    rcases h4 with rfl | h4
    · exact hLe
    · rw [h3 _ (by omega)] at h4
      exact ih e.on j (by omega) (by omega) hLe h4

/-- Which operations change the heap. -/
def isMover (o : Oper) : Bool :=
  match o.op with
  | .move _ | .assign _ | .pick .. | .build .. | .load .. | .nilCheck _ | .binOp .. | .unOp .. | .convert .. | .makeFunc .. | .slice .. | .fieldAddr .. | .field .. | .indexAddr .. | .index .. | .lookup .. | .extract .. => false
  | .call c => match c.callee with | .builtin .len | .builtin .min | .builtin .max | .builtin .unsafeSliceData => false | _ => true
  | _ => true
def movers (ops : List Oper) : List Nat := ((ops.zipIdx).filter fun x => isMover x.1).map (·.2)
def rankOf (ops : List Oper) (i : Nat) : Nat := ((movers ops).filter fun j => Nat.blt j i).length
/-- The first heap, and the last, at which an operation may be done. -/
def loOf (ops : List Oper) (ms : List Nat) (i : Nat) : Nat := ((movers ops).filter fun j => ahead ms i j).length
def hiOf (ops : List Oper) (ms : List Nat) (i : Nat) : Nat := ((movers ops).filter fun j => !(Nat.beq i j || ahead ms j i)).length

def dsts (ops : List Oper) : List (Option Nat) := ops.map (·.dst)
def uniqueD : List (Option Nat) → Bool
  | [] => true
  | none :: r => uniqueD r
  | some d :: r => r.all (fun x => match x with | some d' => !Nat.beq d d' | none => true) && uniqueD r
/-- The movers stand in one order. -/
def chainM (ms : List Nat) : List Nat → Bool
  | [] => true
  | i :: r => r.all (fun j => ahead ms j i) && chainM ms r
def drawOK (n : Nat) (ops : List Oper) : Bool :=
  backE ops && uniqueD (dsts ops) && chainM (masks ops) (movers ops) && ops.all fun o => match o.dst with | some d => Nat.blt d n | none => true

/-- What is known when an operation may be done. -/
def envOf (ops : List Oper) (ms : List Nat) (V : List Value) (fr : Fr) (i : Nat) : Fr :=
  ((ops.zipIdx).filterMap fun y => match y.1.dst with | some d => if ahead ms i y.2 then some (d, V.getD y.2 undef) else none | none => none) ++
  fr.filter fun x => (ops.zipIdx).all fun y => match y.1.dst with | some d => !Nat.beq d x.1 || Nat.beq y.2 i || ahead ms y.2 i | none => true
def endOf (ops : List Oper) (V : List Value) (fr : Fr) : Fr :=
  ((ops.zipIdx).filterMap fun y => match y.1.dst with | some d => some (d, V.getD y.2 undef) | none => none) ++ fr

/-- An operation at a heap. -/
def stepAt (P : Program) (ops : List Oper) (ms : List Nat) (V : List Value) (Hs : List Heap) (fr : Fr) (o : Oper) (i k : Nat) : Prop :=
  wantK ops (envOf ops ms V fr i) o.guard (boper P o (envOf ops ms V fr i) (Hs.getD k []) fun v H' => v = V.getD i undef ∧ H' = Hs.getD (if isMover o then k + 1 else k) []) (V.getD i undef = undef ∧ Hs.getD (if isMover o then k + 1 else k) [] = Hs.getD k [])
def stepsFrom (P : Program) (ops : List Oper) (ms : List Nat) (V : List Value) (Hs : List Heap) (fr : Fr) (o : Oper) (i lo : Nat) : Nat → Prop
  | 0 => stepAt P ops ms V Hs fr o i lo
  | k + 1 => stepAt P ops ms V Hs fr o i (lo + (k + 1)) ∧ stepsFrom P ops ms V Hs fr o i lo k
def allSteps (P : Program) (ops : List Oper) (ms : List Nat) (V : List Value) (Hs : List Heap) (fr : Fr) : List Oper → Nat → Prop
  | [], _ => True
  | o :: os, i => stepsFrom P ops ms V Hs fr o i (loOf ops ms i) (hiOf ops ms i - loOf ops ms i) ∧ allSteps P ops ms V Hs fr os (i + 1)

theorem stepsFrom_get {P : Program} {ops : List Oper} {ms : List Nat} {V : List Value} {Hs : List Heap} {fr : Fr} {o : Oper} {i lo : Nat} : ∀ {m k : Nat}, stepsFrom P ops ms V Hs fr o i lo m → lo ≤ k → k ≤ lo + m → stepAt P ops ms V Hs fr o i k := by
  intro m
  induction m with
  | zero => intro k h h1 h2; have e : k = lo := by omega
            rw [e]; exact h
  | succ m ih =>
    intro k h h1 h2
    by_cases hk : k = lo + (m + 1)
    · subst hk; exact h.1
    · exact ih h.2 h1 (by omega)
theorem allSteps_get {P : Program} {ops : List Oper} {ms : List Nat} {V : List Value} {Hs : List Heap} {fr : Fr} : ∀ {os : List Oper} {b i : Nat} {o : Oper}, allSteps P ops ms V Hs fr os b → os[i]? = some o →
    stepsFrom P ops ms V Hs fr o (b + i) (loOf ops ms (b + i)) (hiOf ops ms (b + i) - loOf ops ms (b + i)) := by
  intro os
  induction os with
  | nil => intro b i o h ho; simp at ho
  | cons p os ih =>
    intro b i o h ho
    cases i with
    | zero => simp only [List.getElem?_cons_zero, Option.some.injEq] at ho; subst ho; exact h.1
    | succ i => simp only [List.getElem?_cons_succ] at ho; have := ih h.2 ho; rwa [show b + 1 + i = b + (i + 1) by omega] at this

theorem getF_mem : ∀ {l : Fr} {t : Nat} {v : Value}, getF l t = some v → (t, v) ∈ l := by
  intro l
  induction l with
  | nil => intro t v h; simp [getF] at h
  | cons p l ih =>
    obtain ⟨i, u⟩ := p
    intro t v h
    simp only [getF] at h
    split at h
    · rename_i e
      have := Nat.eq_of_beq_eq_true e
      subst this
      simp only [Option.some.injEq] at h
      subst h
      exact List.mem_cons_self ..
    · exact List.mem_cons_of_mem _ (ih h)
theorem getF_append {A B : Fr} {t : Nat} {v : Value} (h : getF (A ++ B) t = some v) : (t, v) ∈ A ∨ ((∀ u, (t, u) ∉ A) ∧ getF B t = some v) := by
  induction A with
  | nil => exact .inr ⟨fun u hu => by simp at hu, h⟩
  | cons p A ih =>
    obtain ⟨i, u⟩ := p
    simp only [List.cons_append, getF] at h
    split at h
    · rename_i e
      have := Nat.eq_of_beq_eq_true e
      subst this
      simp only [Option.some.injEq] at h
      subst h
      exact .inl (List.mem_cons_self ..)
    · rename_i e
      have hne := Nat.ne_of_beq_eq_false e
      rcases ih h with h | ⟨h1, h2⟩
      · exact .inl (List.mem_cons_of_mem _ h)
      · refine .inr ⟨fun u' hu' => ?_, h2⟩
        rcases List.mem_cons.1 hu' with hu' | hu'
        · simp only [Prod.mk.injEq] at hu'; exact hne hu'.1.symm
        · exact h1 u' hu'
theorem getF_filter {q : Nat → Bool} : ∀ {l : Fr} {t : Nat} {v : Value}, getF (l.filter fun x => q x.1) t = some v → q t = true ∧ getF l t = some v := by
  intro l
  induction l with
  | nil => intro t v h; simp [getF] at h
  | cons p l ih =>
    obtain ⟨i, u⟩ := p
    intro t v h
    rw [List.filter_cons] at h
    split at h
    · rename_i hq
      simp only [getF] at h ⊢
      split at h
      · rename_i e
        have := Nat.eq_of_beq_eq_true e
        subst this
        exact ⟨hq, h⟩
      · exact ih h
    · rename_i hq
      obtain ⟨h1, h2⟩ := ih h
      refine ⟨h1, ?_⟩
      simp only [getF]
      split
      · rename_i e
        have := Nat.eq_of_beq_eq_true e
        subst this
        exact absurd h1 hq
      · exact h2

theorem uniqueD_spec : ∀ {l : List (Option Nat)}, uniqueD l = true → ∀ {i j d : Nat}, l[i]? = some (some d) → l[j]? = some (some d) → i = j := by
  intro l
  induction l with
  | nil => intro h i j d hi; simp at hi
  | cons x l ih =>
    intro h i j d hi hj
    cases x with
    | none =>
      simp only [uniqueD] at h
      cases i with
      | zero => simp at hi
      | succ i =>
        cases j with
        | zero => simp at hj
        | succ j => have := ih h (i := i) (j := j) (d := d) (by simpa using hi) (by simpa using hj); omega
    | some d0 =>
      simp only [uniqueD, Bool.and_eq_true, List.all_eq_true] at h
      have key : ∀ (k : Nat), l[k]? ≠ some (some d0) := by
        intro k hk
        have := h.1 _ (List.mem_of_getElem? hk)
        simp at this
      cases i with
      | zero =>
        simp only [List.getElem?_cons_zero, Option.some.injEq] at hi
        subst hi
        cases j with
        | zero => rfl
        | succ j => exact absurd (by simpa using hj) (key j)
      | succ i =>
        cases j with
        | zero =>
          simp only [List.getElem?_cons_zero, Option.some.injEq] at hj
          subst hj
          exact absurd (by simpa using hi) (key i)
        | succ j => have := ih h.2 (i := i) (j := j) (d := d) (by simpa using hi) (by simpa using hj); omega

theorem mem_movers {ops : List Oper} {i : Nat} : i ∈ movers ops ↔ ∃ o, ops[i]? = some o ∧ isMover o = true := by
  unfold movers
  simp only [List.mem_map, List.mem_filter, Prod.exists, exists_and_right, exists_eq_right]
  constructor
  · rintro ⟨o, h1, h2⟩; exact ⟨o, List.mem_zipIdx_iff_getElem?.1 h1, h2⟩
  · rintro ⟨o, h1, h2⟩; exact ⟨o, List.mem_zipIdx_iff_getElem?.2 h1, h2⟩
theorem movers_nodup (ops : List Oper) : (movers ops).Nodup := by
  unfold movers
  have h : ((ops.zipIdx).map (·.2)).Nodup := by
    rw [List.zipIdx_map_snd]
    exact List.nodup_range'
  exact List.Sublist.nodup ((List.filter_sublist).map _) h
theorem count_add {l : List Nat} (hn : l.Nodup) {i : Nat} (hi : i ∈ l) (p q : Nat → Bool) (hp : p i = false) (hq : ∀ j, q j = (p j || decide (j = i))) : l.countP q = l.countP p + 1 := by
  induction l with
  | nil => simp at hi
  | cons a l ih =>
    rw [List.nodup_cons] at hn
    rcases List.mem_cons.1 hi with rfl | hi
    · have : l.countP q = l.countP p := by
        apply List.countP_congr
        intro x hx
        have : x ≠ i := fun h => hn.1 (h ▸ hx)
        simp [hq, this]
      rw [List.countP_cons_of_pos (by simp [hq]), List.countP_cons_of_neg (by simp [hp]), this]
    · have := ih hn.2 hi
      have hai : a ≠ i := fun h => hn.1 (h ▸ hi)
      by_cases hpa : p a = true
      · rw [List.countP_cons_of_pos (by simp [hq, hpa]), List.countP_cons_of_pos hpa, this]
      · rw [List.countP_cons_of_neg (by simp [hq, hpa, hai]), List.countP_cons_of_neg hpa, this]

/-- A region whose order is open. -/
theorem SW.draw {P : Program} {n : Nat} {id : Nat} {ops : Array Oper} {Q : BPost} {fr : Fr} {H : Heap} (V : List Value) (Hs : List Heap) (hm : P.follows .mixedOrders = true) (hok : drawOK n ops.toList = true) (h0 : Hs.getD 0 [] = H)
    (steps : allSteps P ops.toList (masks ops.toList) V Hs fr ops.toList 0) (fin : Q .normal (endOf ops.toList V fr) (Hs.getD (movers ops.toList).length [])) : SW P n (.region id ops true) Q fr H := by
  subst h0
  simp only [drawOK, Bool.and_eq_true, List.all_eq_true] at hok
  obtain ⟨⟨⟨hback, huniq⟩, hchain⟩, hdst⟩ := hok
  refine ⟨fun ro ds w0 ι a w hw hf hd => wpIn_region_any hm ?_⟩
  have uniq : ∀ {i j d : Nat} {o o' : Oper}, ops.toList[i]? = some o → ops.toList[j]? = some o' → o.dst = some d → o'.dst = some d → i = j := by
    intro i j d o o' h1 h2 h3 h4
    exact uniqueD_spec huniq (i := i) (j := j) (d := d) (by simp [dsts] at h1 ⊢; exact ⟨o, h1, h3⟩) (by simp [dsts] at h2 ⊢; exact ⟨o', h2, h4⟩)
  have lt_of : ∀ {i : Nat} {o : Oper}, ops.toList[i]? = some o → i < ops.size := fun h => by have := (List.getElem?_eq_some_iff.1 h).1; simpa using this
  -- the state of a region that is under way
  have go : ∀ (fuel : Nat) (listed : Array Bool) (ι1 : List Pl) (a : Act) (w : World), listed.size = ops.size →
      fuel + (List.range ops.size).countP (fun i => listed.getD i false) = ops.size → DownC ops.toList (fun i => listed.getD i false = true) → Ext ι ι1 →
      WR P w0 ι1 (Hs.getD ((movers ops.toList).countP fun i => listed.getD i false) []) w → a.tmps.size = n → a.defers = ds →
      (∀ (j : Nat) (o : Oper) (d : Nat), ops.toList[j]? = some o → o.dst = some d → listed.getD j false = true → VR ι1 (V.getD j undef) (a.tmps.getD d undef)) →
      (∀ (t : Nat) (v : Value), getF fr t = some v → (∀ (j : Nat) (o : Oper), ops.toList[j]? = some o → o.dst = some t → listed.getD j false = false) → t < n ∧ VR ι1 v (a.tmps.getD t undef)) →
      wpAnyIn (rF ro) 0 P .any ops (LB P n w0 ι ds Q) fuel listed a w := by
    intro fuel
    induction fuel with
    | zero =>
      intro listed ι1 a w hsz hcnt hdown hx hw hn hd hv1 hv2
      have hall : ∀ i, i < ops.size → listed.getD i false = true := by
        rw [Nat.zero_add] at hcnt
        have := List.countP_eq_length (p := fun i => listed.getD i false) (l := List.range ops.size)
        rw [List.length_range] at this
        intro i hi
        exact this.1 hcnt i (List.mem_range.2 hi)
      have hready : Region.ready .any ops listed = [] := by
        rw [List.eq_nil_iff_forall_not_mem]
        intro j hj
        obtain ⟨h1, o, h2, _⟩ := mem_ready.1 hj
        have hlt := (Array.getElem?_eq_some_iff.1 h2).1
        have := hall j hlt
        rw [Array.getD_eq_getD_getElem?, Array.getElem?_eq_getElem (by omega)] at this h1
        simp only [Option.getD_some] at this h1
        rw [h1] at this; simp at this
      refine ⟨hready, (LB.intro (e := .normal) (fr := endOf ops.toList V fr) rfl hw ⟨hn, fun t v ht => ?_⟩ hd ?_).ext hx⟩
      · unfold endOf at ht
        rcases getF_append ht with h | h
        · simp only [List.mem_filterMap, Prod.exists] at h
          obtain ⟨o, j, hj, h⟩ := h
          have ho := List.mem_zipIdx_iff_getElem?.1 hj
          simp only at ho h
          split at h
          · rename_i d hdd
            simp only [Option.some.injEq, Prod.mk.injEq] at h
            obtain ⟨rfl, rfl⟩ := h
            have h3 := hdst o (List.mem_of_getElem? ho)
            rw [hdd] at h3
            exact ⟨by simpa [Nat.blt_eq] using h3, hv1 j o _ ho hdd (hall j (lt_of ho))⟩
          · simp at h
        · by_cases hex : ∃ (j : Nat) (o : Oper), ops.toList[j]? = some o ∧ o.dst = some t
          · -- it has been written: then the first part tells it
            exfalso
            obtain ⟨j, o, ho, hdd⟩ := hex
            refine h.1 (V.getD j undef) ?_
            simp only [List.mem_filterMap, Prod.exists]
            exact ⟨o, j, List.mem_zipIdx_iff_getElem?.2 ho, by simp only [hdd]⟩
          · exact hv2 t v h.2 fun j o ho hdd => absurd ⟨j, o, ho, hdd⟩ hex
      · have : (movers ops.toList).countP (fun i => listed.getD i false) = (movers ops.toList).length := by
          rw [List.countP_eq_length]
          intro i hi
          obtain ⟨o, ho, _⟩ := mem_movers.1 hi
          exact hall i (lt_of ho)
        rw [this]
        exact fin
    | succ fuel ih =>
      intro listed ι1 a w hsz hcnt hdown hx hw hn hd hv1 hv2
      refine ⟨fun hempty => ?_, fun i hi => ?_⟩
      · -- something is ready
        exfalso
        have hne : ∃ i, i < ops.size ∧ listed.getD i false = false := by
          apply Classical.byContradiction
          intro hno
          have : (List.range ops.size).countP (fun i => listed.getD i false) = ops.size := by
            have h1 := (List.countP_eq_length (p := fun i => listed.getD i false) (l := List.range ops.size)).2 (fun i hi => by
              have : ¬ (listed.getD i false = false) := fun h => hno ⟨i, List.mem_range.1 hi, h⟩
              simpa using this)
            rwa [List.length_range] at h1
          omega
        have key : ∀ m, ∀ i, i ≤ m → i < ops.size → listed.getD i false = false → ∃ j, j ∈ Region.ready .any ops listed := by
          intro m
          induction m with
          | zero =>
            intro i hi hlt hl
            refine ⟨i, mem_ready.2 ⟨?_, ops[i], by simp [hlt], fun e he hb => ?_⟩⟩
            · rw [Array.getD_eq_getD_getElem?, Array.getElem?_eq_getElem (by omega)] at hl ⊢; exact hl
            · have := backE_spec hback (i := i) (o := ops[i]) (by simp [hlt]) (by simpa using he) hb
              omega
          | succ m ihm =>
            intro i hi hlt hl
            by_cases hall : ∀ e ∈ ops[i].after, Region.binds .any e = true → listed.getD e.on false = true
            · refine ⟨i, mem_ready.2 ⟨?_, ops[i], by simp [hlt], hall⟩⟩
              rw [Array.getD_eq_getD_getElem?, Array.getElem?_eq_getElem (by omega)] at hl ⊢; exact hl
            · simp only [Classical.not_forall, Bool.not_eq_true] at hall
              obtain ⟨e, he, hb, hle⟩ := hall
              have := backE_spec hback (i := i) (o := ops[i]) (by simp [hlt]) (by simpa using he) hb
              exact ihm e.on (by omega) (by omega) hle
        obtain ⟨i, hlt, hl⟩ := hne
        obtain ⟨j, hj⟩ := key i i (Nat.le_refl _) hlt hl
        rw [hempty] at hj
        simp at hj
      · obtain ⟨hl1, o, ho, hpre⟩ := mem_ready.1 hi
        have hlt : i < ops.size := (Array.getElem?_eq_some_iff.1 ho).1
        have hol : ops.toList[i]? = some o := by rw [Array.getElem?_toList]; exact ho
        have hl : listed.getD i false = false := by
          rw [Array.getD_eq_getD_getElem?, Array.getElem?_eq_getElem (by omega)] at hl1 ⊢; exact hl1
        have hset : ∀ j, (listed.setIfInBounds i true).getD j false = (listed.getD j false || decide (j = i)) := by
          intro j
          rw [Array.getD_eq_getD_getElem?, Array.getD_eq_getD_getElem?, Array.getElem?_setIfInBounds]
          by_cases hji : i = j
          · subst hji; rw [if_pos rfl, if_pos (by omega)]; simp
          · rw [if_neg hji]; simp [show ¬ j = i from fun h => hji h.symm]
        -- what is ahead of it is listed; what it is ahead of is not
        have hah : ∀ j, ahead (masks ops.toList) i j = true → listed.getD j false = true := by
          intro j hj
          obtain ⟨acc', h1, h2, h3⟩ := masksFrom_get ops.toList [] i o hol
          simp only [List.length_nil, Nat.zero_add] at h1 h2
          unfold ahead masks at hj
          rw [h2] at hj
          obtain ⟨e, he, hp, h4⟩ := maskOf_bit hj
          have hlt2 := backE_spec hback hol he hp
          have hle := hpre e (by simpa using he) hp
          rcases h4 with rfl | h4
          · exact hle
          · rw [h3 _ (by omega)] at h4
            exact ahead_listed hback hdown e.on e.on j (Nat.le_refl _) (by simp; omega) hle h4
        have hbh : ∀ j, j < ops.size → ahead (masks ops.toList) j i = true → listed.getD j false = false := by
          intro j hj h
          cases hlj : listed.getD j false with
          | false => rfl
          | true =>
            have := ahead_listed hback hdown j j i (Nat.le_refl _) (by simpa using hj) hlj h
            rw [hl] at this; simp at this
        -- the heap's place
        have hlo : loOf ops.toList (masks ops.toList) i ≤ (movers ops.toList).countP fun i => listed.getD i false := by
          unfold loOf
          rw [← List.countP_eq_length_filter]
          exact List.countP_mono_left fun j _ h => hah j h
        have hhi : ((movers ops.toList).countP fun i => listed.getD i false) ≤ hiOf ops.toList (masks ops.toList) i := by
          unfold hiOf
          rw [← List.countP_eq_length_filter]
          refine List.countP_mono_left fun j hj h => ?_
          obtain ⟨oj, hoj, _⟩ := mem_movers.1 hj
          simp only [Bool.not_eq_true', Bool.or_eq_false_iff]
          refine ⟨?_, ?_⟩
          · cases hb : Nat.beq i j with
            | false => rfl
            | true => have := Nat.eq_of_beq_eq_true hb; subst this; rw [hl] at h; simp at h
          · cases hb : ahead (masks ops.toList) j i with
            | false => rfl
            | true => rw [hbh j (lt_of hoj) hb] at h; simp at h
        have hst := stepsFrom_get (allSteps_get (b := 0) steps hol) (by rw [Nat.zero_add]; exact hlo) (by rw [Nat.zero_add]; omega)
        rw [Nat.zero_add] at hst
        unfold stepAt at hst
        -- what is known
        have henv : FB n ι1 (envOf ops.toList (masks ops.toList) V fr i) a := by
          refine ⟨hn, fun t v ht => ?_⟩
          unfold envOf at ht
          rcases getF_append ht with h | h
          · simp only [List.mem_filterMap, Prod.exists] at h
            obtain ⟨o', j, hj, h⟩ := h
            have ho' := List.mem_zipIdx_iff_getElem?.1 hj
            simp only at ho' h
            split at h
            · rename_i d hdd
              split at h
              · rename_i haj
                simp only [Option.some.injEq, Prod.mk.injEq] at h
                obtain ⟨rfl, rfl⟩ := h
                have h3 := hdst o' (List.mem_of_getElem? ho')
                rw [hdd] at h3
                exact ⟨by simpa [Nat.blt_eq] using h3, hv1 j o' _ ho' hdd (hah j haj)⟩
              · simp at h
            · simp at h
          · obtain ⟨h1, h2⟩ := getF_filter (q := fun t => (ops.toList.zipIdx).all fun y => match y.1.dst with | some d => !Nat.beq d t || Nat.beq y.2 i || ahead (masks ops.toList) y.2 i | none => true) h.2
            refine hv2 t v h2 fun j o' ho' hdd => ?_
            rw [List.all_eq_true] at h1
            have h3 := h1 (o', j) (List.mem_zipIdx_iff_getElem?.2 ho')
            simp only [hdd, Nat.beq_refl, Bool.not_true, Bool.false_or, Bool.or_eq_true] at h3
            rcases h3 with h3 | h3
            · have := Nat.eq_of_beq_eq_true h3; subst this; exact hl
            · exact hbh j (lt_of ho') h3
        -- what comes behind
        have next : ∀ (v cv : Value) (H' : Heap) (ι2 : List Pl) (w' : World), v = V.getD i undef → H' = Hs.getD (if isMover o then ((movers ops.toList).countP fun i => listed.getD i false) + 1 else (movers ops.toList).countP fun i => listed.getD i false) [] →
            Ext ι1 ι2 → WR P w0 ι2 H' w' → VR ι2 v cv → wpAnyIn (rF ro) 0 P .any ops (LB P n w0 ι ds Q) fuel (listed.setIfInBounds i true) (a.put o.dst cv) w' := by
          intro v cv H' ι2 w' hv hH hx2 hw2 hr
          subst hv hH
          have hcount : (movers ops.toList).countP (fun j => (listed.setIfInBounds i true).getD j false) = if isMover o then ((movers ops.toList).countP fun i => listed.getD i false) + 1 else (movers ops.toList).countP fun i => listed.getD i false := by
            split
            · rename_i hmv
              exact count_add (movers_nodup _) (mem_movers.2 ⟨o, hol, hmv⟩) _ _ hl hset
            · rename_i hmv
              apply List.countP_congr
              intro j hj
              obtain ⟨oj, hoj, hmj⟩ := mem_movers.1 hj
              have : j ≠ i := fun h => by subst h; rw [hol] at hoj; simp only [Option.some.injEq] at hoj; subst hoj; exact hmv hmj
              simp [hset, this]
          refine ih (listed.setIfInBounds i true) ι2 (a.put o.dst cv) w' (by simpa using hsz) ?_ ?_ (hx.trans hx2) (by rw [hcount]; exact hw2) ?_ (by rw [put_defers]; exact hd) ?_ ?_
          · have := count_add (l := List.range ops.size) List.nodup_range (List.mem_range.2 hlt) (fun j => listed.getD j false) (fun j => (listed.setIfInBounds i true).getD j false) hl hset
            omega
          · intro j oj hoj hLj e he hp
            simp only [hset, Bool.or_eq_true, decide_eq_true_eq] at hLj ⊢
            rcases hLj with hLj | rfl
            · exact .inl (hdown j oj hoj hLj e he hp)
            · rw [hol] at hoj; simp only [Option.some.injEq] at hoj; subst hoj
              exact .inl (hpre e (by simpa using he) hp)
          · cases hod : o.dst with
            | none => exact hn
            | some d => simp [Act.put, hn]
          · intro j oj d hoj hdd hLj
            rw [hset] at hLj
            simp only [Bool.or_eq_true, decide_eq_true_eq] at hLj
            by_cases hji : j = i
            · subst hji
              rw [hol] at hoj; simp only [Option.some.injEq] at hoj; subst hoj
              have h3 := hdst o (List.mem_of_getElem? hol)
              rw [hdd] at h3 ⊢
              simp only [Nat.blt_eq] at h3
              simp only [Act.put]
              rw [Array.getD_eq_getD_getElem?, Array.getElem?_setIfInBounds, if_pos rfl, if_pos (by omega)]
              exact hr
            · have hLj' := hLj.resolve_right hji
              have h4 := (hv1 j oj d hoj hdd hLj').ext hx2
              cases hod : o.dst with
              | none => exact h4
              | some d' =>
                have hne : d' ≠ d := fun h => by subst h; exact hji (uniq hoj hol hdd hod)
                simp only [Act.put]
                rw [Array.getD_eq_getD_getElem?, Array.getElem?_setIfInBounds, if_neg hne]
                rwa [Array.getD_eq_getD_getElem?] at h4
          · intro t v ht hno
            obtain ⟨h4, h5⟩ := hv2 t v ht fun j oj hoj hdd => by
              have := hno j oj hoj hdd
              rw [hset] at this
              simp only [Bool.or_eq_false_iff] at this
              exact this.1
            refine ⟨h4, ?_⟩
            have h5 := h5.ext hx2
            cases hod : o.dst with
            | none => exact h5
            | some d' =>
              have hne : d' ≠ t := fun h => by
                subst h
                have := hno i o hol hod
                rw [hset] at this
                simp at this
              simp only [Act.put]
              rw [Array.getD_eq_getD_getElem?, Array.getElem?_setIfInBounds, if_neg hne]
              rwa [Array.getD_eq_getD_getElem?] at h5
        unfold wpOpIn
        rw [ho]
        simp only
        rcases wantK_sound henv hst with ⟨h1, h⟩ | ⟨h1, h⟩
        · rw [if_pos h1]
          exact (boper_sound hw henv h fun v H' ι' cv w' k h1 h2 h3 => next v cv H' ι' w' k.1 k.2 h1 h2 h3)
        · rw [if_neg (by simp [h1])]
          exact ⟨fun _ _ => trivial, next undef undef _ ι1 w h.1.symm rfl (.refl _) (by rw [h.2]; exact hw) (.undef ι1)⟩
  refine go ops.size _ ι a _ (by simp) ?_ ?_ (.refl _) ?_ hf.size hd ?_ ?_
  · have : (List.range ops.size).countP (fun i => (Array.replicate ops.size false).getD i false) = 0 := by
      rw [List.countP_eq_zero]
      intro i hi
      have := List.mem_range.1 hi
      simp [Array.getD_eq_getD_getElem?, this]
    omega
  · intro i o ho hL
    have := lt_of ho
    simp [Array.getD_eq_getD_getElem?, this] at hL
  · have : (movers ops.toList).countP (fun i => (Array.replicate ops.size false).getD i false) = 0 := by
      rw [List.countP_eq_zero]
      intro i hi
      obtain ⟨o, ho, _⟩ := mem_movers.1 hi
      have := lt_of ho
      simp [Array.getD_eq_getD_getElem?, this]
    rw [this]
    exact hw.drew
  · intro j o d ho hdd hL
    have := lt_of ho
    simp [Array.getD_eq_getD_getElem?, this] at hL
  · intro t v ht _
    exact hf.val t v ht

end Go.Proofs.YtmdpifedcaaobaaDoor.Ax
/- The abstract machine: small laws that a walk uses: loads, stores, new blocks, indexes. -/
set_option linter.unusedVariables false
set_option linter.unusedSimpArgs false
namespace Go.Proofs.YtmdpifedcaaobaaDoor.Ax
open Go Go.RowKit

theorem hblk_of {H : Heap} {b : Nat} {m : Mode} {c : List Value} (h : H[b]? = some (.cells m c)) : hblk H b = some c := by simp [hblk, h]
theorem hblk_some {H : Heap} {b : Nat} {c : List Value} (h : hblk H b = some c) : ∃ m, H[b]? = some (.cells m c) := by
  unfold hblk at h
  split at h
  · rename_i m c' he; simp only [Option.some.injEq] at h; subst h; exact ⟨m, he⟩
  · simp at h
theorem ald {P : Program} {t : TypeId} {b off : Nat} {H : Heap} {d : TypeDesc} {c : List Value} {v : Value} (hd : P.underlying t = some d) (ha : isAggD d = false) (hb : hblk H b = some c) (hv : c[off]? = some v) :
    aload P t (.pointer (some ⟨b, off, none⟩)) H = some v := by simp [aload, hb, hd, ha, hv]
theorem ald_agg {P : Program} {t : TypeId} {b off n : Nat} {H : Heap} {d : TypeDesc} {c l : List Value} (hd : P.underlying t = some d) (ha : isAggD d = true) (hn : tsize P t = some n) (hb : hblk H b = some c) (hv : slotsOf c off n = some l) :
    aload P t (.pointer (some ⟨b, off, none⟩)) H = some (.agg l.toArray) := by simp [aload, hb, hd, ha, hn, hv]
theorem slots_of {c : List Value} {off n : Nat} (h : off + n ≤ c.length) : slotsOf c off n = some ((c.drop off).take n) := by simp [slotsOf, h]

/-- A store: what becomes of the heap. -/
theorem ast {P : Program} {t : TypeId} {b off n : Nat} {H : Heap} {m : Mode} {c vs : List Value} {v : Value} (hv : vcells v = some vs) (hn : tsize P t = some n) (hl : vs.length = n) (hb : H[b]? = some (.cells m c)) (hm : m.own = true) (hle : off + vs.length ≤ c.length) :
    astore P t (.pointer (some ⟨b, off, none⟩)) v H = some (H.set b (.cells m (putL c off vs))) := by
  simp [astore, hv, hn, hl, hput, hb, hm]
  omega
/-- What is left of the heap but for one block. -/
def But (p : Nat) (H H' : Heap) : Prop := H.length ≤ H'.length ∧ ∀ b, b < H.length → b ≠ p → H'[b]? = H[b]?
theorem But.refl (p : Nat) (H : Heap) : But p H H := ⟨Nat.le_refl _, fun _ _ _ => rfl⟩
theorem But.trans {p : Nat} {A B C : Heap} (h : But p A B) (k : But p B C) : But p A C := ⟨Nat.le_trans h.1 k.1, fun b hb hne => (k.2 b (Nat.lt_of_lt_of_le hb h.1) hne).trans (h.2 b hb hne)⟩
theorem But.set {p : Nat} (H : Heap) (B : Blk) : But p H (H.set p B) := ⟨by simp, fun b hb hne => by rw [List.getElem?_set_ne (by omega)]⟩
theorem But.push {p : Nat} (H T : Heap) : But p H (H ++ T) := ⟨by simp, fun b hb hne => by rw [List.getElem?_append_left hb]⟩
theorem But.at {p : Nat} {H H' : Heap} (h : But p H H') {b : Nat} {B : Blk} (hb : H[b]? = some B) (hne : b ≠ p) : H'[b]? = some B := (h.2 b (List.getElem?_eq_some_iff.1 hb).1 hne).trans hb
/-- New blocks alone. -/
def Grow (H H' : Heap) : Prop := H.length ≤ H'.length ∧ ∀ b, b < H.length → H'[b]? = H[b]?
theorem Grow.refl (H : Heap) : Grow H H := ⟨Nat.le_refl _, fun _ _ => rfl⟩
theorem Grow.trans {A B C : Heap} (h : Grow A B) (k : Grow B C) : Grow A C := ⟨Nat.le_trans h.1 k.1, fun b hb => (k.2 b (Nat.lt_of_lt_of_le hb h.1)).trans (h.2 b hb)⟩
theorem Grow.push (H T : Heap) : Grow H (H ++ T) := ⟨by simp, fun b hb => by rw [List.getElem?_append_left hb]⟩
theorem Grow.at {H H' : Heap} (h : Grow H H') {b : Nat} {B : Blk} (hb : H[b]? = some B) : H'[b]? = some B := (h.2 b (List.getElem?_eq_some_iff.1 hb).1).trans hb
theorem Grow.but {H H' : Heap} (h : Grow H H') (p : Nat) : But p H H' := ⟨h.1, fun b hb _ => h.2 b hb⟩
theorem Grow.take {H H' : Heap} (h : Grow H H') : ∃ T, H' = H ++ T := by
  refine ⟨H'.drop H.length, ?_⟩
  apply List.ext_getElem?
  intro i
  by_cases hi : i < H.length
  · rw [List.getElem?_append_left hi]; exact h.2 i hi
  · rw [List.getElem?_append_right (by omega), List.getElem?_drop]; congr 1; omega
theorem Grow.set {H H' : Heap} (h : Grow H H') {b : Nat} (hb : H.length ≤ b) (B : Blk) : Grow H (H'.set b B) := ⟨by simp [h.1], fun c hc => by rw [List.getElem?_set_ne (by omega)]; exact h.2 c hc⟩
theorem Grow.kept {H H' : Heap} (h : Grow H H') : RoExt H H' := fun b c hb => h.at hb

theorem at_push (H : Heap) (B : Blk) : (H ++ [B])[H.length]? = some B := by simp
theorem at_set {H : Heap} {b : Nat} {B C : Blk} (h : H[b]? = some B) : (H.set b C)[b]? = some C := List.getElem?_set_self (List.getElem?_eq_some_iff.1 h).1

/-- A call's answer is plain, and it lays new blocks alone: then the heap is as it was. -/
theorem AX.quiet {P : Program} {f : FuncId} {args : Array Value} {H : Heap} {Q : Value → Prop} (h : AX P f args H fun v H' => plain v ∧ Q v ∧ Grow H H') : AX P f args H fun v H' => Q v ∧ H' = H :=
  (h.mono fun v H' ⟨h1, h2, h3⟩ => ⟨h1, h2, h3.take⟩).forget

theorem idx_slice {P : Program} {t e : TypeId} {b off len es k : Nat} {kd : IntKind} {n : Int} (he : sliceElem P t = some e) (hk : tsize P e = some k) (h0 : 0 ≤ n) (h1 : n < (len : Int)) :
    aindexAddr P t (.slice (some ⟨b, off, none⟩) len es) (.int kd n) = some (.pointer (some ⟨b, off + n.toNat * k, none⟩)) := by simp [aindexAddr, he, hk, h0, h1]
theorem idx_array {P : Program} {t e : TypeId} {b off len k : Nat} {kd : IntKind} {n : Int} (he : arrayOf P t = some (len, e)) (hk : tsize P e = some k) (h0 : 0 ≤ n) (h1 : n < (len : Int)) :
    aindexAddr P t (.pointer (some ⟨b, off, none⟩)) (.int kd n) = some (.pointer (some ⟨b, off + n.toNat * k, none⟩)) := by simp [aindexAddr, he, hk, h0, h1]

theorem ex20 (a b : Value) : aextract (.tuple #[a, b]) 0 = some a := rfl
theorem ex21 (a b : Value) : aextract (.tuple #[a, b]) 1 = some b := rfl
theorem ex30 (a b c : Value) : aextract (.tuple #[a, b, c]) 0 = some a := rfl
theorem ex31 (a b c : Value) : aextract (.tuple #[a, b, c]) 1 = some b := rfl
theorem ex32 (a b c : Value) : aextract (.tuple #[a, b, c]) 2 = some c := rfl
end Go.Proofs.YtmdpifedcaaobaaDoor.Ax
/- The abstract machine: steps of a walk that name the heap they leave; slices of slices. -/
set_option linter.unusedVariables false
set_option linter.unusedSimpArgs false
namespace Go.Proofs.YtmdpifedcaaobaaDoor.Ax
open Go Go.RowKit

theorem Ob2.allocM {P : Program} {t : TypeId} {H : Heap} {zs : List Value} {K : Value → Heap → Prop} (m : Mode) (hz : tzero P t = some zs) (hm : modeOf P t zs.length = m)
    (k : ∀ q H', q = H.length → H'[q]? = some (.cells m zs) → Grow H H' → K (.pointer (some ⟨q, 0, none⟩)) H') : Ob2 (aalloc P t H) K :=
  .of (a := .pointer (some ⟨H.length, 0, none⟩)) (b := H ++ [.cells m zs]) (by simp [aalloc, hz, hm]) (k _ _ rfl (at_push _ _) (.push _ _))
theorem Ob2.boxM {P : Program} {t : TypeId} {v : Value} {H : Heap} {zs : List Value} {K : Value → Heap → Prop} (m : Mode) (hz : vcells v = some zs) (hm : modeOf P t zs.length = m)
    (k : ∀ q H', q = H.length → H'[q]? = some (.cells m zs) → Grow H H' → K (.pointer (some ⟨q, 0, none⟩)) H') : Ob2 (abox P t v H) K :=
  .of (a := .pointer (some ⟨H.length, 0, none⟩)) (b := H ++ [.cells m zs]) (by simp [abox, hz, hm]) (k _ _ rfl (at_push _ _) (.push _ _))
theorem modeOf_var {P : Program} {t : TypeId} (h : typed P t = false) (n : Nat) : modeOf P t n = .var := by simp [modeOf, h]
theorem Ob2.alloc {P : Program} {t : TypeId} {H : Heap} {zs : List Value} {K : Value → Heap → Prop} (hz : tzero P t = some zs)
    (k : ∀ q H', q = H.length → H'[q]? = some (.cells .var zs) → Grow H H' → K (.pointer (some ⟨q, 0, none⟩)) H') (hm : typed P t = false := by rfl) : Ob2 (aalloc P t H) K := .allocM .var hz (modeOf_var hm _) k
theorem Ob2.box {P : Program} {t : TypeId} {v : Value} {H : Heap} {zs : List Value} {K : Value → Heap → Prop} (hz : vcells v = some zs)
    (k : ∀ q H', q = H.length → H'[q]? = some (.cells .var zs) → Grow H H' → K (.pointer (some ⟨q, 0, none⟩)) H') (hm : typed P t = false := by rfl) : Ob2 (abox P t v H) K := .boxM .var hz (modeOf_var hm _) k
theorem Ob.store {P : Program} {t : TypeId} {b off n : Nat} {H : Heap} {m : Mode} {c vs : List Value} {v : Value} {K : Heap → Prop} (hv : vcells v = some vs) (hn : tsize P t = some n) (hl : vs.length = n) (hb : H[b]? = some (.cells m c)) (hm : m.own = true) (hle : off + vs.length ≤ c.length)
    (k : ∀ H', H'[b]? = some (.cells m (putL c off vs)) → But b H H' → H'.length = H.length → K H') : Ob (astore P t (.pointer (some ⟨b, off, none⟩)) v H) K :=
  .of (ast hv hn hl hb hm hle) (k _ (at_set hb) (.set _ _) (by simp))
theorem store_ex {P : Program} {t : TypeId} {b off n : Nat} {H : Heap} {m : Mode} {c vs : List Value} {v : Value} (hv : vcells v = some vs) (hn : tsize P t = some n) (hl : vs.length = n) (hb : H[b]? = some (.cells m c)) (hm : m.own = true) (hle : off + vs.length ≤ c.length) :
    ∃ H', astore P t (.pointer (some ⟨b, off, none⟩)) v H = some H' ∧ H'[b]? = some (.cells m (putL c off vs)) ∧ But b H H' ∧ H'.length = H.length := ⟨_, ast hv hn hl hb hm hle, at_set hb, .set _ _, by simp⟩
theorem alloc_ex {P : Program} {t : TypeId} (H : Heap) {zs : List Value} (hz : tzero P t = some zs) : ∃ q H', aalloc P t H = some (.pointer (some ⟨q, 0, none⟩), H') ∧ q = H.length ∧ H'[q]? = some (.cells (modeOf P t zs.length) zs) ∧ Grow H H' :=
  ⟨H.length, H ++ [.cells (modeOf P t zs.length) zs], by simp [aalloc, hz], rfl, at_push _ _, .push _ _⟩
theorem rem_ok {P : Program} {t : TypeId} {k : IntKind} {a b : Int} (h : b ≠ 0) : abin P .rem t (.int k a) (.int k b) = some (.int k (a.tmod b)) := by simp [abin, aint, h]
theorem slice_arr {P : Program} {e : TypeId} {b off n k : Nat} {H : Heap} {c : List Value} {kd kd2 kd3 : IntKind} {lo hi mx : Int} (hk : tsize P e = some k) (hb : H[b]? = some (.cells .var c)) (h0 : 0 ≤ lo) (h1 : lo ≤ hi) (h2 : hi ≤ mx) (h3 : mx ≤ (n : Int)) (hn : n ≤ maxLen) :
    aslice3 P n e (.pointer (some ⟨b, off, none⟩)) (some (.int kd lo)) (some (.int kd2 hi)) (some (.int kd3 mx)) H = some (.slice (some ⟨b, off + lo.toNat * k, none⟩) (hi.toNat - lo.toNat) k) := by
  have e1 : ((mx.toNat : Nat) : Int) = mx := by omega
  have e2 : ((hi.toNat : Nat) : Int) = hi := by omega
  have hv : isVarB H b = true := by simp [isVarB, hb]
  simp [aslice3, hk, natIn, hv, e1, e2, show 0 ≤ mx by omega, h3, show 0 ≤ hi by omega, h2, h0, h1, hn]
theorem slice_arr2 {P : Program} {e : TypeId} {b off n k : Nat} {H : Heap} {c : List Value} {kd : IntKind} {hi : Int} (hk : tsize P e = some k) (hb : H[b]? = some (.cells .var c)) (h1 : 0 ≤ hi) (h2 : hi ≤ (n : Int)) (hn : n ≤ maxLen) :
    aslice3 P n e (.pointer (some ⟨b, off, none⟩)) none (some (.int kd hi)) none H = some (.slice (some ⟨b, off, none⟩) hi.toNat k) := by
  have hv : isVarB H b = true := by simp [isVarB, hb]
  simp [aslice3, hk, natIn, hv, h1, h2, hn]
theorem slice_lo {P : Program} {t e : TypeId} {b off len k : Nat} {kd : IntKind} {n : Int} (he : sliceElem P t = some e) (hk : tsize P e = some k) (h0 : 0 ≤ n) (h1 : n ≤ (len : Int)) :
    aslice P t (.slice (some ⟨b, off, none⟩) len k) (some (.int kd n)) none none = some (.slice (some ⟨b, off + n.toNat * k, none⟩) (len - n.toNat) k) := by
  simp [aslice, he, hk, natIn, h0, h1]
theorem slice_hi {P : Program} {t e : TypeId} {b off len k : Nat} {kd : IntKind} {n : Int} (he : sliceElem P t = some e) (hk : tsize P e = some k) (h0 : 0 ≤ n) (h1 : n ≤ (len : Int)) :
    aslice P t (.slice (some ⟨b, off, none⟩) len k) none (some (.int kd n)) none = some (.slice (some ⟨b, off, none⟩) n.toNat k) := by
  simp [aslice, he, hk, natIn, h0, h1]
theorem lt_at {H : Heap} {b : Nat} {B : Blk} (h : H[b]? = some B) : b < H.length := (List.getElem?_eq_some_iff.1 h).1
theorem lt_hblk {H : Heap} {b : Nat} {c : List Value} (h : hblk H b = some c) : b < H.length := by obtain ⟨m, hm⟩ := hblk_some h; exact lt_at hm
theorem Grow.hblk {H H' : Heap} (h : Grow H H') {b : Nat} {c : List Value} (hb : Ax.hblk H b = some c) : Ax.hblk H' b = some c := by obtain ⟨m, hm⟩ := hblk_some hb; exact hblk_of (h.at hm)
theorem But.hblk {p : Nat} {H H' : Heap} (h : But p H H') {b : Nat} {c : List Value} (hb : Ax.hblk H b = some c) (hne : b ≠ p) : Ax.hblk H' b = some c := by obtain ⟨m, hm⟩ := hblk_some hb; exact hblk_of (h.at hm hne)
/-- A store into a new block leaves the old ones. -/
theorem Grow.but_new {A H H' : Heap} {q : Nat} (h : Grow A H) (k : But q H H') (hq : A.length ≤ q) : Grow A H' :=
  ⟨Nat.le_trans h.1 k.1, fun b hb => (k.2 b (Nat.lt_of_lt_of_le hb h.1) (by omega)).trans (h.2 b hb)⟩
theorem But.but_new {A H H' : Heap} {p q : Nat} (h : But p A H) (k : But q H H') (hq : A.length ≤ q) : But p A H' :=
  ⟨Nat.le_trans h.1 k.1, fun b hb hne => (k.2 b (Nat.lt_of_lt_of_le hb h.1) (by omega)).trans (h.2 b hb hne)⟩
theorem But.grow {A H H' : Heap} {p : Nat} (h : But p A H) (k : Grow H H') : But p A H' := h.trans (k.but p)
theorem slots_two {c : List Value} {o : Nat} {a b : Value} (ha : c[o]? = some a) (hb : c[o + 1]? = some b) : slotsOf c o 2 = some [a, b] := by
  have h1 := (List.getElem?_eq_some_iff.1 hb).1
  rw [slots_of (by omega)]
  congr 1
  apply List.ext_getElem?
  intro i
  rw [List.getElem?_take]
  match i with
  | 0 => simpa using ha
  | 1 => simpa using hb
  | i + 2 => simp; omega
theorem append_row {P : Program} {t tx e : TypeId} {i : TypeInfo} {d : TypeDesc} {zs c old l : List Value} {x : Value} {H : Heap} {b off m n k : Nat} (he : sliceElem P t = some e) (hi : P.info? e = some i) (hk : i.size = k) (hd : P.underlying tx = some d) (hn : noInt d = true) (h0 : k ≠ 0)
    (hsrc : srcOk x k = true) (hz : tzero P e = some zs) (hzl : zs.length = k) (ha : asrc k x H = some (n, l)) (hn0 : n ≠ 0) (hb : H[b]? = some (.cells (.row e) c)) (ho : slotsOf c off (m * k) = some old) (h1 : (m + n) * i.bytes ≤ 140737488355328) (h2 : m + n ≤ maxLen) :
    aappend P t tx (.slice (some ⟨b, off, none⟩) m k) x H = some (.slice (some ⟨H.length, 0, none⟩) (m + n) k, H.set b .dead ++ [.cells (.row e) (old ++ l)]) := by
  subst hk
  simp [aappend, he, hi, hd, hn, h0, hsrc, hz, hzl, ha, hn0, hb, ho, h1, h2]
theorem append_nil {P : Program} {t tx e : TypeId} {i : TypeInfo} {d : TypeDesc} {zs l : List Value} {x : Value} {H : Heap} {n k : Nat} (he : sliceElem P t = some e) (hi : P.info? e = some i) (hk : i.size = k) (hd : P.underlying tx = some d) (hn : noInt d = true) (h0 : k ≠ 0)
    (hsrc : srcOk x k = true) (hz : tzero P e = some zs) (hzl : zs.length = k) (ha : asrc k x H = some (n, l)) (hn0 : n ≠ 0) (h1 : n * i.bytes ≤ 140737488355328) (h2 : n ≤ maxLen) :
    aappend P t tx (.slice none 0 0) x H = some (.slice (some ⟨H.length, 0, none⟩) n k, H ++ [.cells (.row e) l]) := by
  subst hk
  simp [aappend, he, hi, hd, hn, h0, hsrc, hz, hzl, ha, hn0, h1, h2]
theorem append_zero {P : Program} {t tx e : TypeId} {i : TypeInfo} {d : TypeDesc} {zs l : List Value} {x : Value} {H : Heap} {a : Option Addr} {m k es : Nat} (he : sliceElem P t = some e) (hi : P.info? e = some i) (hk : i.size = k) (hd : P.underlying tx = some d) (hn : noInt d = true) (h0 : k ≠ 0)
    (hsrc : srcOk x k = true) (hz : tzero P e = some zs) (hzl : zs.length = k) (ha : asrc k x H = some (0, l)) (hs : a = none ∧ m = 0 ∧ es = 0 ∨ ∃ b off, a = some ⟨b, off, none⟩) :
    aappend P t tx (.slice a m es) x H = some (.slice a m es, H) := by
  subst hk
  rcases hs with ⟨rfl, rfl, rfl⟩ | ⟨b, off, rfl⟩
  · simp [aappend, he, hi, hd, hn, h0, hsrc, hz, hzl, ha]
  · simp [aappend, he, hi, hd, hn, h0, hsrc, hz, hzl, ha]
theorem make_slice {P : Program} {t e : TypeId} {i : TypeInfo} {zs : List Value} {H : Heap} {n : Int} {k : Nat} {kd kd' : IntKind} (he : sliceElem P t = some e) (hi : P.info? e = some i) (hk : i.size = k) (hz : tzero P e = some zs) (h0 : k ≠ 0) (hzl : zs.length = k) (hn : 0 ≤ n) (h1 : n ≤ 9223372036854775807) (h2 : i.bytes * n ≤ 140737488355328) :
    amakeSlice P t (.int kd n) (.int kd' n) H = some (.slice (some ⟨H.length, 0, none⟩) n.toNat k, H ++ [.cells (.row e) (zerosL zs n.toNat)]) := by
  subst hk
  simp [amakeSlice, he, hi, hz, h0, hzl, hn, h1, h2]
theorem zeros_one (z : Value) (n : Nat) : zerosL [z] n = List.replicate n z := by
  induction n with
  | zero => rfl
  | succ n ih => simp [zerosL, ih, List.replicate_succ]
theorem src_some {k b off n : Nat} {H : Heap} {c l : List Value} (hn : n ≠ 0) (hb : hblk H b = some c) (hs : slotsOf c off (n * k) = some l) : asrc k (.slice (some ⟨b, off, none⟩) n k) H = some (n, l) := by simp [asrc, hn, hb, hs]
theorem src_zero {k es : Nat} {a : Addr} {H : Heap} (ha : a.spot = none) : asrc k (.slice (some a) 0 es) H = some (0, []) := by
  obtain ⟨b, o, s⟩ := a
  simp only at ha
  subst ha
  simp [asrc]
/-- One piece of code behind another, with what is known between them. -/
theorem SW.seq {P : Program} {n : Nat} {x y : Code} {Q : BPost} {fr : Fr} {H : Heap} (M : Fr → Heap → Prop) (hx : SW P n x (thenB M Q) fr H) (hy : ∀ fr H, M fr H → SW P n y Q fr H) : SW P n (.seq x y) Q fr H := by
  refine ⟨fun ro ds w0 ι a w hw hf hd => wpIn_seq (wpIn_mono (hx.out ro ds w0 ι a w hw hf hd) fun e a' w' hq => ?_)⟩
  obtain ⟨ae, he, fr', H', ι', hxt, hw', hf', hd', q⟩ := hq
  cases e with
  | normal =>
    simp only [toA, Option.some.injEq] at he; subst he
    exact wpIn_mono ((hy fr' H' q).out ro ds w0 ι' a' w' hw' hf' hd') fun e a w hq => hq.ext hxt
  | exit id => simp only [toA, Option.some.injEq] at he; subst he; exact ⟨_, rfl, fr', H', ι', hxt, hw', hf', hd', q⟩
  | goto l => simp only [toA, Option.some.injEq] at he; subst he; exact ⟨_, rfl, fr', H', ι', hxt, hw', hf', hd', q⟩
  | ret => simp only [toA, Option.some.injEq] at he; subst he; exact ⟨_, rfl, fr', H', ι', hxt, hw', hf', hd', q⟩
  | panic ch => simp [toA] at he
  | outgrown => simp [toA] at he
/-- A block that is no row. -/
def aVar : Mode → Bool
  | .var => true
  | .one _ => true
  | _ => false
def NV (H : Heap) (q : Nat) : Prop := ∀ m c, H[q]? = some (.cells m c) → aVar m = true
theorem NV.of {H : Heap} {q : Nat} {c : List Value} (h : H[q]? = some (.cells .var c)) : NV H q := by
  intro m c' h'
  rw [h] at h'
  simp only [Option.some.injEq, Blk.cells.injEq] at h'
  obtain ⟨rfl, _⟩ := h'
  rfl
theorem NV.new {H : Heap} {q : Nat} (h : H.length ≤ q) : NV H q := by
  intro m c h'
  rw [List.getElem?_eq_none h] at h'
  simp at h'
theorem NV.ne {H : Heap} {q b : Nat} {m : Mode} {c : List Value} (h : NV H q) (hb : H[b]? = some (.cells m c)) (hm : aVar m = false) : b ≠ q := by
  rintro rfl
  have := h _ _ hb
  simp [hm] at this
end Go.Proofs.YtmdpifedcaaobaaDoor.Ax
/- The abstract machine: a region whose order is open, with what depends on the order worked out ahead. -/
set_option linter.unusedVariables false
set_option linter.unusedSimpArgs false
namespace Go.Proofs.YtmdpifedcaaobaaDoor.Ax
open Go Go.RowKit

/-- Of an operation: what is ahead of it (slot, operation), which slots are not settled, the first heap, how many more, does it change the heap. -/
abbrev Dat := List (Nat × Nat) × List Nat × Nat × Nat × Bool
def pairsOf (ops : List Oper) (ms : List Nat) (i : Nat) : List (Nat × Nat) := (ops.zipIdx).filterMap fun y => match y.1.dst with | some d => if ahead ms i y.2 then some (d, y.2) else none | none => none
def exOf (ops : List Oper) (ms : List Nat) (i : Nat) : List Nat := (ops.zipIdx).filterMap fun y => match y.1.dst with | some d => if Nat.beq y.2 i || ahead ms y.2 i then none else some d | none => none
def endsOf (ops : List Oper) : List (Nat × Nat) := (ops.zipIdx).filterMap fun y => match y.1.dst with | some d => some (d, y.2) | none => none
def datFrom (ops : List Oper) (ms : List Nat) : List Oper → Nat → List Dat
  | [], _ => []
  | o :: os, i => (pairsOf ops ms i, exOf ops ms i, loOf ops ms i, hiOf ops ms i - loOf ops ms i, isMover o) :: datFrom ops ms os (i + 1)
def drawIs (n : Nat) (ops : List Oper) (D : List Dat) (E : List (Nat × Nat)) (nm : Nat) : Bool :=
  drawOK n ops && decide (datFrom ops (masks ops) ops 0 = D) && decide (endsOf ops = E) && Nat.beq (movers ops).length nm

def valsOf (V : List Value) : List (Nat × Nat) → Fr → Fr
  | [], fr => fr
  | (d, j) :: l, fr => (d, V.getD j undef) :: valsOf V l fr
/-- The values that are asked for, one by one. -/
def bring (V : List Value) : List (Nat × Nat) → Fr → (Fr → Prop) → Prop
  | [], fr, K => K fr
  | (d, j) :: l, fr, K => Ob V[j]? fun v => bring V l fr fun fr' => K ((d, v) :: fr')
theorem bring_to {V : List Value} : ∀ {l : List (Nat × Nat)} {fr : Fr} {K : Fr → Prop}, bring V l fr K → K (valsOf V l fr) := by
  intro l
  induction l with
  | nil => intro fr K h; exact h
  | cons p l ih =>
    obtain ⟨d, j⟩ := p
    intro fr K h
    obtain ⟨v, hv, h⟩ := h.out
    have := ih h
    simpa [valsOf, List.getD_eq_getElem?_getD, hv] using this
def outOf (ex : List Nat) (i : Nat) : Bool := ex.any fun d => Nat.beq d i
def cutF (ex : List Nat) : Fr → Fr
  | [] => []
  | (i, v) :: r => match outOf ex i with | true => cutF ex r | false => (i, v) :: cutF ex r
structure Leaf (v u : Value) (H K : Heap) : Prop where
  val : v = u
  heap : H = K
theorem Leaf.iff {v u : Value} {H K : Heap} : Leaf v u H K ↔ v = u ∧ H = K := ⟨fun h => ⟨h.1, h.2⟩, fun h => ⟨h.1, h.2⟩⟩
def heapAt (Hs : List Heap) (k : Nat) : Bool → Heap
  | true => Hs.getD (k + 1) []
  | false => Hs.getD k []
def stepAt2 (P : Program) (ops : List Oper) (V : List Value) (Hs : List Heap) (av : List (Nat × Nat)) (fr : Fr) (mv : Bool) (o : Oper) (i k : Nat) : Prop :=
  Ob Hs[k]? fun H => bring V av fr fun env => wantK ops env o.guard (boper P o env H fun v H' => Leaf v (V.getD i undef) H' (heapAt Hs k mv)) (Leaf (V.getD i undef) undef (heapAt Hs k mv) H)
def stepsFrom2 (P : Program) (ops : List Oper) (V : List Value) (Hs : List Heap) (av : List (Nat × Nat)) (fr : Fr) (mv : Bool) (o : Oper) (i lo : Nat) : Nat → Prop
  | 0 => stepAt2 P ops V Hs av fr mv o i lo
  | k + 1 => stepsFrom2 P ops V Hs av fr mv o i lo k ∧ stepAt2 P ops V Hs av fr mv o i (lo + (k + 1))
def steps2 (P : Program) (ops : List Oper) (V : List Value) (Hs : List Heap) (fr : Fr) : List Oper → List Dat → Nat → Prop
  | [], _, _ => True
  | o :: os, (av, ex, lo, m, mv) :: ds, i => stepsFrom2 P ops V Hs av (cutF ex fr) mv o i lo m ∧ steps2 P ops V Hs fr os ds (i + 1)
  | _ :: _, [], _ => False

theorem valsOf_eq (V : List Value) (l : List (Nat × Nat)) (fr : Fr) : valsOf V l fr = (l.map fun p => (p.1, V.getD p.2 undef)) ++ fr := by
  induction l with
  | nil => rfl
  | cons p l ih => obtain ⟨d, j⟩ := p; simp [valsOf, ih]
theorem cutF_eq (ex : List Nat) (fr : Fr) : cutF ex fr = fr.filter fun x => !outOf ex x.1 := by
  induction fr with
  | nil => rfl
  | cons p l ih =>
    obtain ⟨i, v⟩ := p
    simp only [cutF, List.filter_cons]
    split
    · rename_i h; simp [h, ih]
    · rename_i h; simp [h, ih]
theorem envOf_eq (ops : List Oper) (ms : List Nat) (V : List Value) (fr : Fr) (i : Nat) : envOf ops ms V fr i = valsOf V (pairsOf ops ms i) (cutF (exOf ops ms i) fr) := by
  rw [valsOf_eq, cutF_eq]
  unfold envOf pairsOf
  rw [List.map_filterMap]
  congr 1
  · congr 1
    funext y
    cases h : y.1.dst with
    | none => rfl
    | some d => by_cases hc : ahead ms i y.2 = true <;> simp [hc]
  apply List.filter_congr
  intro x _
  rw [Bool.eq_iff_iff]
  simp only [List.all_eq_true, Bool.not_eq_true', outOf, Bool.eq_false_iff, ne_eq, List.any_eq_true, exOf, List.mem_filterMap, not_exists, not_and]
  constructor
  · rintro h d ⟨y, hy, hd⟩ hb
    have := h y hy
    cases hdst : y.1.dst with
    | none => simp [hdst] at hd
    | some d' =>
      simp only [hdst] at hd this
      split at hd
      · simp at hd
      · rename_i hc
        simp only [Option.some.injEq] at hd
        subst hd
        simp only [Bool.or_eq_true, not_or] at hc
        simp_all
  · intro h y hy
    cases hdst : y.1.dst with
    | none => rfl
    | some d =>
      by_cases hc : (Nat.beq y.2 i || ahead ms y.2 i) = true
      · simp [Bool.or_assoc, hc]
      · have := h d ⟨y, hy, by simp [hdst, hc]⟩
        simp [this]
theorem endOf_eq (ops : List Oper) (V : List Value) (fr : Fr) : endOf ops V fr = valsOf V (endsOf ops) fr := by
  rw [valsOf_eq]
  unfold endOf endsOf
  rw [List.map_filterMap]
  congr 1
  congr 1
  funext y
  cases h : y.1.dst with
  | none => rfl
  | some d => rfl
theorem heapAt_eq (Hs : List Heap) (k : Nat) (mv : Bool) : heapAt Hs k mv = Hs.getD (if mv then k + 1 else k) [] := by cases mv <;> rfl

theorem stepAt2_to {P : Program} {ops : List Oper} {ms : List Nat} {V : List Value} {Hs : List Heap} {fr : Fr} {o : Oper} {i k : Nat} (h : stepAt2 P ops V Hs (pairsOf ops ms i) (cutF (exOf ops ms i) fr) (isMover o) o i k) : stepAt P ops ms V Hs fr o i k := by
  obtain ⟨H, hH, h⟩ := h.out
  have h := bring_to h
  rw [← envOf_eq] at h
  have e : Hs.getD k [] = H := by rw [List.getD_eq_getElem?_getD, hH]; rfl
  unfold stepAt
  rw [e]
  simpa only [heapAt_eq, Leaf.iff] using h
theorem stepsFrom2_to {P : Program} {ops : List Oper} {ms : List Nat} {V : List Value} {Hs : List Heap} {fr : Fr} {o : Oper} {i lo : Nat} : ∀ {m : Nat}, stepsFrom2 P ops V Hs (pairsOf ops ms i) (cutF (exOf ops ms i) fr) (isMover o) o i lo m → stepsFrom P ops ms V Hs fr o i lo m := by
  intro m
  induction m with
  | zero => intro h; exact stepAt2_to h
  | succ m ih => intro h; exact ⟨stepAt2_to h.2, ih h.1⟩
theorem steps2_to {P : Program} {ops : List Oper} {ms : List Nat} {V : List Value} {Hs : List Heap} {fr : Fr} : ∀ {os : List Oper} {i : Nat}, steps2 P ops V Hs fr os (datFrom ops ms os i) i → allSteps P ops ms V Hs fr os i := by
  intro os
  induction os with
  | nil => intro i _; trivial
  | cons o os ih =>
    intro i h
    simp only [datFrom, steps2] at h
    exact ⟨stepsFrom2_to h.1, ih h.2⟩

/-- A region whose order is open; F is what of the slots is asked for. -/
theorem SW.draw2 {P : Program} {n : Nat} {id : Nat} {ops : Array Oper} {Q : BPost} {fr : Fr} {H : Heap} (D : List Dat) (E : List (Nat × Nat)) (nm : Nat) (F : Fr) (V : List Value) (Hs : List Heap) (hm : P.follows .mixedOrders = true)
    (hok : drawIs n ops.toList D E nm = true) (hF : Has fr F) (h0 : Hs.getD 0 [] = H) (steps : steps2 P ops.toList V Hs F ops.toList D 0) (fin : Ob Hs[nm]? fun H' => bring V E F fun fr' => Q .normal fr' H') : SW P n (.region id ops true) Q fr H := by
  simp only [drawIs, Bool.and_eq_true, decide_eq_true_eq] at hok
  obtain ⟨⟨⟨h1, rfl⟩, rfl⟩, h4⟩ := hok
  have h4' := Nat.eq_of_beq_eq_true h4
  subst h4'
  refine SW.sub (SW.draw V Hs hm h1 h0 (steps2_to steps) ?_) (Sub.of hF)
  rw [endOf_eq]
  obtain ⟨H', hH, fin⟩ := fin.out
  have e : Hs.getD (movers ops.toList).length [] = H' := by rw [List.getD_eq_getElem?_getD, hH]; rfl
  rw [e]
  exact bring_to fin
end Go.Proofs.YtmdpifedcaaobaaDoor.Ax
/- The abstract machine: a region whose order is open, where calls answer some heap of a kind. -/
set_option linter.unusedVariables false
set_option linter.unusedSimpArgs false
namespace Go.Proofs.YtmdpifedcaaobaaDoor.Ax
open Go Go.RowKit
/-- An operation at a heap of which a kind is known. -/
def stepAtR (P : Program) (ops : List Oper) (ms : List Nat) (V : List Value) (R : Nat → Heap → Prop) (fr : Fr) (o : Oper) (i k : Nat) : Prop :=
  ∀ H, R k H → wantK ops (envOf ops ms V fr i) o.guard (boper P o (envOf ops ms V fr i) H fun v H' => v = V.getD i undef ∧ (if isMover o = true then R (k + 1) H' else H' = H)) (V.getD i undef = undef ∧ (isMover o = true → R (k + 1) H))
def stepsFromR (P : Program) (ops : List Oper) (ms : List Nat) (V : List Value) (R : Nat → Heap → Prop) (fr : Fr) (o : Oper) (i lo : Nat) : Nat → Prop
  | 0 => stepAtR P ops ms V R fr o i lo
  | k + 1 => stepAtR P ops ms V R fr o i (lo + (k + 1)) ∧ stepsFromR P ops ms V R fr o i lo k
def allStepsR (P : Program) (ops : List Oper) (ms : List Nat) (V : List Value) (R : Nat → Heap → Prop) (fr : Fr) : List Oper → Nat → Prop
  | [], _ => True
  | o :: os, i => stepsFromR P ops ms V R fr o i (loOf ops ms i) (hiOf ops ms i - loOf ops ms i) ∧ allStepsR P ops ms V R fr os (i + 1)
theorem stepsFromR_get {P : Program} {ops : List Oper} {ms : List Nat} {V : List Value} {R : Nat → Heap → Prop} {fr : Fr} {o : Oper} {i lo : Nat} : ∀ {m k : Nat}, stepsFromR P ops ms V R fr o i lo m → lo ≤ k → k ≤ lo + m → stepAtR P ops ms V R fr o i k := by
  intro m
  induction m with
  | zero => intro k h h1 h2; have e : k = lo := by omega
            rw [e]; exact h
  | succ m ih =>
    intro k h h1 h2
    by_cases hk : k = lo + (m + 1)
    · subst hk; exact h.1
    · exact ih h.2 h1 (by omega)
theorem allStepsR_get {P : Program} {ops : List Oper} {ms : List Nat} {V : List Value} {R : Nat → Heap → Prop} {fr : Fr} : ∀ {os : List Oper} {b i : Nat} {o : Oper}, allStepsR P ops ms V R fr os b → os[i]? = some o →
    stepsFromR P ops ms V R fr o (b + i) (loOf ops ms (b + i)) (hiOf ops ms (b + i) - loOf ops ms (b + i)) := by
  intro os
  induction os with
  | nil => intro b i o h ho; simp at ho
  | cons p os ih =>
    intro b i o h ho
    cases i with
    | zero => simp only [List.getElem?_cons_zero, Option.some.injEq] at ho; subst ho; exact h.1
    | succ i => simp only [List.getElem?_cons_succ] at ho; have := ih h.2 ho; rwa [show b + 1 + i = b + (i + 1) by omega] at this
theorem SW.drawR {P : Program} {n : Nat} {id : Nat} {ops : Array Oper} {Q : BPost} {fr : Fr} {H : Heap} (V : List Value) (R : Nat → Heap → Prop) (hm : P.follows .mixedOrders = true) (hok : drawOK n ops.toList = true) (h0 : R 0 H)
    (steps : allStepsR P ops.toList (masks ops.toList) V R fr ops.toList 0) (fin : ∀ H', R (movers ops.toList).length H' → Q .normal (endOf ops.toList V fr) H') : SW P n (.region id ops true) Q fr H := by
  simp only [drawOK, Bool.and_eq_true, List.all_eq_true] at hok
  obtain ⟨⟨⟨hback, huniq⟩, hchain⟩, hdst⟩ := hok
  refine ⟨fun ro ds w0 ι a w hw hf hd => wpIn_region_any hm ?_⟩
  have uniq : ∀ {i j d : Nat} {o o' : Oper}, ops.toList[i]? = some o → ops.toList[j]? = some o' → o.dst = some d → o'.dst = some d → i = j := by
    intro i j d o o' h1 h2 h3 h4
    exact uniqueD_spec huniq (i := i) (j := j) (d := d) (by simp [dsts] at h1 ⊢; exact ⟨o, h1, h3⟩) (by simp [dsts] at h2 ⊢; exact ⟨o', h2, h4⟩)
  have lt_of : ∀ {i : Nat} {o : Oper}, ops.toList[i]? = some o → i < ops.size := fun h => by have := (List.getElem?_eq_some_iff.1 h).1; simpa using this
  -- the state of a region that is under way
  have go : ∀ (fuel : Nat) (listed : Array Bool) (ι1 : List Pl) (a : Act) (w : World), listed.size = ops.size →
      fuel + (List.range ops.size).countP (fun i => listed.getD i false) = ops.size → DownC ops.toList (fun i => listed.getD i false = true) → Ext ι ι1 →
      (∃ K, R ((movers ops.toList).countP fun i => listed.getD i false) K ∧ WR P w0 ι1 K w) → a.tmps.size = n → a.defers = ds →
      (∀ (j : Nat) (o : Oper) (d : Nat), ops.toList[j]? = some o → o.dst = some d → listed.getD j false = true → VR ι1 (V.getD j undef) (a.tmps.getD d undef)) →
      (∀ (t : Nat) (v : Value), getF fr t = some v → (∀ (j : Nat) (o : Oper), ops.toList[j]? = some o → o.dst = some t → listed.getD j false = false) → t < n ∧ VR ι1 v (a.tmps.getD t undef)) →
      wpAnyIn (rF ro) 0 P .any ops (LB P n w0 ι ds Q) fuel listed a w := by
    intro fuel
    induction fuel with
    | zero =>
      intro listed ι1 a w hsz hcnt hdown hx hwx hn hd hv1 hv2
      obtain ⟨K, hRK, hw⟩ := hwx
      have hall : ∀ i, i < ops.size → listed.getD i false = true := by
        rw [Nat.zero_add] at hcnt
        have := List.countP_eq_length (p := fun i => listed.getD i false) (l := List.range ops.size)
        rw [List.length_range] at this
        intro i hi
        exact this.1 hcnt i (List.mem_range.2 hi)
      have hready : Region.ready .any ops listed = [] := by
        rw [List.eq_nil_iff_forall_not_mem]
        intro j hj
        obtain ⟨h1, o, h2, _⟩ := mem_ready.1 hj
        have hlt := (Array.getElem?_eq_some_iff.1 h2).1
        have := hall j hlt
        rw [Array.getD_eq_getD_getElem?, Array.getElem?_eq_getElem (by omega)] at this h1
        simp only [Option.getD_some] at this h1
        rw [h1] at this; simp at this
      refine ⟨hready, (LB.intro (e := .normal) (fr := endOf ops.toList V fr) rfl hw ⟨hn, fun t v ht => ?_⟩ hd ?_).ext hx⟩
      · unfold endOf at ht
        rcases getF_append ht with h | h
        · simp only [List.mem_filterMap, Prod.exists] at h
          obtain ⟨o, j, hj, h⟩ := h
          have ho := List.mem_zipIdx_iff_getElem?.1 hj
          simp only at ho h
          split at h
          · rename_i d hdd
            simp only [Option.some.injEq, Prod.mk.injEq] at h
            obtain ⟨rfl, rfl⟩ := h
            have h3 := hdst o (List.mem_of_getElem? ho)
            rw [hdd] at h3
            exact ⟨by simpa [Nat.blt_eq] using h3, hv1 j o _ ho hdd (hall j (lt_of ho))⟩
          · simp at h
        · by_cases hex : ∃ (j : Nat) (o : Oper), ops.toList[j]? = some o ∧ o.dst = some t
          · -- it has been written: then the first part tells it
            exfalso
            obtain ⟨j, o, ho, hdd⟩ := hex
            refine h.1 (V.getD j undef) ?_
            simp only [List.mem_filterMap, Prod.exists]
            exact ⟨o, j, List.mem_zipIdx_iff_getElem?.2 ho, by simp only [hdd]⟩
          · exact hv2 t v h.2 fun j o ho hdd => absurd ⟨j, o, ho, hdd⟩ hex
      · have : (movers ops.toList).countP (fun i => listed.getD i false) = (movers ops.toList).length := by
          rw [List.countP_eq_length]
          intro i hi
          obtain ⟨o, ho, _⟩ := mem_movers.1 hi
          exact hall i (lt_of ho)
        rw [this] at hRK
        exact fin K hRK
    | succ fuel ih =>
      intro listed ι1 a w hsz hcnt hdown hx hwx hn hd hv1 hv2
      obtain ⟨K, hRK, hw⟩ := hwx
      refine ⟨fun hempty => ?_, fun i hi => ?_⟩
      · -- something is ready
        exfalso
        have hne : ∃ i, i < ops.size ∧ listed.getD i false = false := by
          apply Classical.byContradiction
          intro hno
          have : (List.range ops.size).countP (fun i => listed.getD i false) = ops.size := by
            have h1 := (List.countP_eq_length (p := fun i => listed.getD i false) (l := List.range ops.size)).2 (fun i hi => by
              have : ¬ (listed.getD i false = false) := fun h => hno ⟨i, List.mem_range.1 hi, h⟩
              simpa using this)
            rwa [List.length_range] at h1
          omega
        have key : ∀ m, ∀ i, i ≤ m → i < ops.size → listed.getD i false = false → ∃ j, j ∈ Region.ready .any ops listed := by
          intro m
          induction m with
          | zero =>
            intro i hi hlt hl
            refine ⟨i, mem_ready.2 ⟨?_, ops[i], by simp [hlt], fun e he hb => ?_⟩⟩
            · rw [Array.getD_eq_getD_getElem?, Array.getElem?_eq_getElem (by omega)] at hl ⊢; exact hl
            · have := backE_spec hback (i := i) (o := ops[i]) (by simp [hlt]) (by simpa using he) hb
              omega
          | succ m ihm =>
            intro i hi hlt hl
            by_cases hall : ∀ e ∈ ops[i].after, Region.binds .any e = true → listed.getD e.on false = true
            · refine ⟨i, mem_ready.2 ⟨?_, ops[i], by simp [hlt], hall⟩⟩
              rw [Array.getD_eq_getD_getElem?, Array.getElem?_eq_getElem (by omega)] at hl ⊢; exact hl
            · simp only [Classical.not_forall, Bool.not_eq_true] at hall
              obtain ⟨e, he, hb, hle⟩ := hall
              have := backE_spec hback (i := i) (o := ops[i]) (by simp [hlt]) (by simpa using he) hb
              exact ihm e.on (by omega) (by omega) hle
        obtain ⟨i, hlt, hl⟩ := hne
        obtain ⟨j, hj⟩ := key i i (Nat.le_refl _) hlt hl
        rw [hempty] at hj
        simp at hj
      · obtain ⟨hl1, o, ho, hpre⟩ := mem_ready.1 hi
        have hlt : i < ops.size := (Array.getElem?_eq_some_iff.1 ho).1
        have hol : ops.toList[i]? = some o := by rw [Array.getElem?_toList]; exact ho
        have hl : listed.getD i false = false := by
          rw [Array.getD_eq_getD_getElem?, Array.getElem?_eq_getElem (by omega)] at hl1 ⊢; exact hl1
        have hset : ∀ j, (listed.setIfInBounds i true).getD j false = (listed.getD j false || decide (j = i)) := by
          intro j
          rw [Array.getD_eq_getD_getElem?, Array.getD_eq_getD_getElem?, Array.getElem?_setIfInBounds]
          by_cases hji : i = j
          · subst hji; rw [if_pos rfl, if_pos (by omega)]; simp
          · rw [if_neg hji]; simp [show ¬ j = i from fun h => hji h.symm]
        -- what is ahead of it is listed; what it is ahead of is not
        have hah : ∀ j, ahead (masks ops.toList) i j = true → listed.getD j false = true := by
          intro j hj
          obtain ⟨acc', h1, h2, h3⟩ := masksFrom_get ops.toList [] i o hol
          simp only [List.length_nil, Nat.zero_add] at h1 h2
          unfold ahead masks at hj
          rw [h2] at hj
          obtain ⟨e, he, hp, h4⟩ := maskOf_bit hj
          have hlt2 := backE_spec hback hol he hp
          have hle := hpre e (by simpa using he) hp
          rcases h4 with rfl | h4
          · exact hle
          · rw [h3 _ (by omega)] at h4
            exact ahead_listed hback hdown e.on e.on j (Nat.le_refl _) (by simp; omega) hle h4
        have hbh : ∀ j, j < ops.size → ahead (masks ops.toList) j i = true → listed.getD j false = false := by
          intro j hj h
          cases hlj : listed.getD j false with
          | false => rfl
          | true =>
            have := ahead_listed hback hdown j j i (Nat.le_refl _) (by simpa using hj) hlj h
            rw [hl] at this; simp at this
        -- the heap's place
        have hlo : loOf ops.toList (masks ops.toList) i ≤ (movers ops.toList).countP fun i => listed.getD i false := by
          unfold loOf
          rw [← List.countP_eq_length_filter]
          exact List.countP_mono_left fun j _ h => hah j h
        have hhi : ((movers ops.toList).countP fun i => listed.getD i false) ≤ hiOf ops.toList (masks ops.toList) i := by
          unfold hiOf
          rw [← List.countP_eq_length_filter]
          refine List.countP_mono_left fun j hj h => ?_
          obtain ⟨oj, hoj, _⟩ := mem_movers.1 hj
          simp only [Bool.not_eq_true', Bool.or_eq_false_iff]
          refine ⟨?_, ?_⟩
          · cases hb : Nat.beq i j with
            | false => rfl
            | true => have := Nat.eq_of_beq_eq_true hb; subst this; rw [hl] at h; simp at h
          · cases hb : ahead (masks ops.toList) j i with
            | false => rfl
            | true => rw [hbh j (lt_of hoj) hb] at h; simp at h
        have hst := stepsFromR_get (allStepsR_get (b := 0) steps hol) (by rw [Nat.zero_add]; exact hlo) (by rw [Nat.zero_add]; omega)
        rw [Nat.zero_add] at hst
        replace hst := hst K hRK
        -- what is known
        have henv : FB n ι1 (envOf ops.toList (masks ops.toList) V fr i) a := by
          refine ⟨hn, fun t v ht => ?_⟩
          unfold envOf at ht
          rcases getF_append ht with h | h
          · simp only [List.mem_filterMap, Prod.exists] at h
            obtain ⟨o', j, hj, h⟩ := h
            have ho' := List.mem_zipIdx_iff_getElem?.1 hj
            simp only at ho' h
            split at h
            · rename_i d hdd
              split at h
              · rename_i haj
                simp only [Option.some.injEq, Prod.mk.injEq] at h
                obtain ⟨rfl, rfl⟩ := h
                have h3 := hdst o' (List.mem_of_getElem? ho')
                rw [hdd] at h3
                exact ⟨by simpa [Nat.blt_eq] using h3, hv1 j o' _ ho' hdd (hah j haj)⟩
              · simp at h
            · simp at h
          · obtain ⟨h1, h2⟩ := getF_filter (q := fun t => (ops.toList.zipIdx).all fun y => match y.1.dst with | some d => !Nat.beq d t || Nat.beq y.2 i || ahead (masks ops.toList) y.2 i | none => true) h.2
            refine hv2 t v h2 fun j o' ho' hdd => ?_
            rw [List.all_eq_true] at h1
            have h3 := h1 (o', j) (List.mem_zipIdx_iff_getElem?.2 ho')
            simp only [hdd, Nat.beq_refl, Bool.not_true, Bool.false_or, Bool.or_eq_true] at h3
            rcases h3 with h3 | h3
            · have := Nat.eq_of_beq_eq_true h3; subst this; exact hl
            · exact hbh j (lt_of ho') h3
        -- what comes behind
        have next : ∀ (v cv : Value) (H' : Heap) (ι2 : List Pl) (w' : World), v = V.getD i undef → R (if isMover o then ((movers ops.toList).countP fun i => listed.getD i false) + 1 else (movers ops.toList).countP fun i => listed.getD i false) H' →
            Ext ι1 ι2 → WR P w0 ι2 H' w' → VR ι2 v cv → wpAnyIn (rF ro) 0 P .any ops (LB P n w0 ι ds Q) fuel (listed.setIfInBounds i true) (a.put o.dst cv) w' := by
          intro v cv H' ι2 w' hv hH hx2 hw2 hr
          subst hv
          have hcount : (movers ops.toList).countP (fun j => (listed.setIfInBounds i true).getD j false) = if isMover o then ((movers ops.toList).countP fun i => listed.getD i false) + 1 else (movers ops.toList).countP fun i => listed.getD i false := by
            split
            · rename_i hmv
              exact count_add (movers_nodup _) (mem_movers.2 ⟨o, hol, hmv⟩) _ _ hl hset
            · rename_i hmv
              apply List.countP_congr
              intro j hj
              obtain ⟨oj, hoj, hmj⟩ := mem_movers.1 hj
              have : j ≠ i := fun h => by subst h; rw [hol] at hoj; simp only [Option.some.injEq] at hoj; subst hoj; exact hmv hmj
              simp [hset, this]
          refine ih (listed.setIfInBounds i true) ι2 (a.put o.dst cv) w' (by simpa using hsz) ?_ ?_ (hx.trans hx2) ⟨H', by rw [hcount]; exact hH, hw2⟩ ?_ (by rw [put_defers]; exact hd) ?_ ?_
          · have := count_add (l := List.range ops.size) List.nodup_range (List.mem_range.2 hlt) (fun j => listed.getD j false) (fun j => (listed.setIfInBounds i true).getD j false) hl hset
            omega
          · intro j oj hoj hLj e he hp
            simp only [hset, Bool.or_eq_true, decide_eq_true_eq] at hLj ⊢
            rcases hLj with hLj | rfl
            · exact .inl (hdown j oj hoj hLj e he hp)
            · rw [hol] at hoj; simp only [Option.some.injEq] at hoj; subst hoj
              exact .inl (hpre e (by simpa using he) hp)
          · cases hod : o.dst with
            | none => exact hn
            | some d => simp [Act.put, hn]
          · intro j oj d hoj hdd hLj
            rw [hset] at hLj
            simp only [Bool.or_eq_true, decide_eq_true_eq] at hLj
            by_cases hji : j = i
            · subst hji
              rw [hol] at hoj; simp only [Option.some.injEq] at hoj; subst hoj
              have h3 := hdst o (List.mem_of_getElem? hol)
              rw [hdd] at h3 ⊢
              simp only [Nat.blt_eq] at h3
              simp only [Act.put]
              rw [Array.getD_eq_getD_getElem?, Array.getElem?_setIfInBounds, if_pos rfl, if_pos (by omega)]
              exact hr
            · have hLj' := hLj.resolve_right hji
              have h4 := (hv1 j oj d hoj hdd hLj').ext hx2
              cases hod : o.dst with
              | none => exact h4
              | some d' =>
                have hne : d' ≠ d := fun h => by subst h; exact hji (uniq hoj hol hdd hod)
                simp only [Act.put]
                rw [Array.getD_eq_getD_getElem?, Array.getElem?_setIfInBounds, if_neg hne]
                rwa [Array.getD_eq_getD_getElem?] at h4
          · intro t v ht hno
            obtain ⟨h4, h5⟩ := hv2 t v ht fun j oj hoj hdd => by
              have := hno j oj hoj hdd
              rw [hset] at this
              simp only [Bool.or_eq_false_iff] at this
              exact this.1
            refine ⟨h4, ?_⟩
            have h5 := h5.ext hx2
            cases hod : o.dst with
            | none => exact h5
            | some d' =>
              have hne : d' ≠ t := fun h => by
                subst h
                have := hno i o hol hod
                rw [hset] at this
                simp at this
              simp only [Act.put]
              rw [Array.getD_eq_getD_getElem?, Array.getElem?_setIfInBounds, if_neg hne]
              rwa [Array.getD_eq_getD_getElem?] at h5
        unfold wpOpIn
        rw [ho]
        simp only
        rcases wantK_sound henv hst with ⟨h1, h⟩ | ⟨h1, h⟩
        · rw [if_pos h1]
          exact (boper_sound hw henv h fun v H' ι' cv w' k h1 h2 h3 => next v cv H' ι' w' k.1 (by have k2 := k.2; revert k2; split <;> intro k2; exact k2; exact k2 ▸ hRK) h1 h2 h3)
        · rw [if_neg (by simp [h1])]
          exact ⟨fun _ _ => trivial, next undef undef K ι1 w h.1.symm (by split; exact h.2 (by assumption); exact hRK) (.refl _) hw (.undef ι1)⟩
  refine go ops.size _ ι a _ (by simp) ?_ ?_ (.refl _) ?_ hf.size hd ?_ ?_
  · have : (List.range ops.size).countP (fun i => (Array.replicate ops.size false).getD i false) = 0 := by
      rw [List.countP_eq_zero]
      intro i hi
      have := List.mem_range.1 hi
      simp [Array.getD_eq_getD_getElem?, this]
    omega
  · intro i o ho hL
    have := lt_of ho
    simp [Array.getD_eq_getD_getElem?, this] at hL
  · have : (movers ops.toList).countP (fun i => (Array.replicate ops.size false).getD i false) = 0 := by
      rw [List.countP_eq_zero]
      intro i hi
      obtain ⟨o, ho, _⟩ := mem_movers.1 hi
      have := lt_of ho
      simp [Array.getD_eq_getD_getElem?, this]
    rw [this]
    exact ⟨H, h0, hw.drew⟩
  · intro j o d ho hdd hL
    have := lt_of ho
    simp [Array.getD_eq_getD_getElem?, this] at hL
  · intro t v ht _
    exact hf.val t v ht


/-- What is asked of an operation's end: its value; the heap as it was, or of the next kind. -/
structure LeafM (v u : Value) (X : Prop) : Prop where
  val : v = u
  heap : X
def kind (Rs : List (Heap → Prop)) (k : Nat) (H : Heap) : Prop := match Rs[k]? with | some r => r H | none => False
def endR (V : List Value) (Rs : List (Heap → Prop)) (mv : Bool) (i k : Nat) (H : Heap) (v : Value) (H' : Heap) : Prop :=
  match mv with
  | true => LeafM v (V.getD i undef) (kind Rs (k + 1) H')
  | false => Leaf v (V.getD i undef) H' H
def noneR (V : List Value) (Rs : List (Heap → Prop)) (mv : Bool) (i k : Nat) (H : Heap) : Prop :=
  match mv with
  | true => LeafM (V.getD i undef) undef (kind Rs (k + 1) H)
  | false => LeafM (V.getD i undef) undef True
def stepAtR2 (P : Program) (ops : List Oper) (V : List Value) (Rs : List (Heap → Prop)) (av : List (Nat × Nat)) (fr : Fr) (mv : Bool) (o : Oper) (i k : Nat) : Prop :=
  ∀ H, kind Rs k H → bring V av fr fun env => wantK ops env o.guard (boper P o env H (endR V Rs mv i k H)) (noneR V Rs mv i k H)
def stepsFromR2 (P : Program) (ops : List Oper) (V : List Value) (Rs : List (Heap → Prop)) (av : List (Nat × Nat)) (fr : Fr) (mv : Bool) (o : Oper) (i lo : Nat) : Nat → Prop
  | 0 => stepAtR2 P ops V Rs av fr mv o i lo
  | k + 1 => stepsFromR2 P ops V Rs av fr mv o i lo k ∧ stepAtR2 P ops V Rs av fr mv o i (lo + (k + 1))
def stepsR2 (P : Program) (ops : List Oper) (V : List Value) (Rs : List (Heap → Prop)) (fr : Fr) : List Oper → List Dat → Nat → Prop
  | [], _, _ => True
  | o :: os, (av, ex, lo, m, mv) :: ds, i => stepsFromR2 P ops V Rs av (cutF ex fr) mv o i lo m ∧ stepsR2 P ops V Rs fr os ds (i + 1)
  | _ :: _, [], _ => False
theorem stepAtR2_to {P : Program} {ops : List Oper} {ms : List Nat} {V : List Value} {Rs : List (Heap → Prop)} {fr : Fr} {o : Oper} {i k : Nat} (h : stepAtR2 P ops V Rs (pairsOf ops ms i) (cutF (exOf ops ms i) fr) (isMover o) o i k) : stepAtR P ops ms V (kind Rs) fr o i k := by
  intro H hH
  have h := bring_to (h H hH)
  rw [← envOf_eq] at h
  have e1 : endR V Rs (isMover o) i k H = fun v H' => v = V.getD i undef ∧ (if isMover o = true then kind Rs (k + 1) H' else H' = H) := by
    funext v H'
    cases isMover o with
    | true => exact propext ⟨fun h => ⟨h.1, by rw [if_pos rfl]; exact h.2⟩, fun h => ⟨h.1, by have := h.2; rwa [if_pos rfl] at this⟩⟩
    | false => exact propext ⟨fun h => ⟨h.1, by rw [if_neg (by simp)]; exact h.2⟩, fun h => ⟨h.1, by have := h.2; rwa [if_neg (by simp)] at this⟩⟩
  have e2 : noneR V Rs (isMover o) i k H = (V.getD i undef = undef ∧ (isMover o = true → kind Rs (k + 1) H)) := by
    cases isMover o with
    | true => exact propext ⟨fun h => ⟨h.1, fun _ => h.2⟩, fun h => ⟨h.1, h.2 rfl⟩⟩
    | false => exact propext ⟨fun h => ⟨h.1, fun h => by cases h⟩, fun h => ⟨h.1, trivial⟩⟩
  rw [e1, e2] at h
  exact h
theorem stepsFromR2_to {P : Program} {ops : List Oper} {ms : List Nat} {V : List Value} {Rs : List (Heap → Prop)} {fr : Fr} {o : Oper} {i lo : Nat} : ∀ {m : Nat}, stepsFromR2 P ops V Rs (pairsOf ops ms i) (cutF (exOf ops ms i) fr) (isMover o) o i lo m → stepsFromR P ops ms V (kind Rs) fr o i lo m := by
  intro m
  induction m with
  | zero => intro h; exact stepAtR2_to h
  | succ m ih => intro h; exact ⟨stepAtR2_to h.2, ih h.1⟩
theorem stepsR2_to {P : Program} {ops : List Oper} {ms : List Nat} {V : List Value} {Rs : List (Heap → Prop)} {fr : Fr} : ∀ {os : List Oper} {i : Nat}, stepsR2 P ops V Rs fr os (datFrom ops ms os i) i → allStepsR P ops ms V (kind Rs) fr os i := by
  intro os
  induction os with
  | nil => intro i _; trivial
  | cons o os ih =>
    intro i h
    simp only [datFrom, stepsR2] at h
    exact ⟨stepsFromR2_to h.1, ih h.2⟩
/-- A region whose order is open; of each heap on the way a kind is known. -/
theorem SW.draw4 {P : Program} {n : Nat} {id : Nat} {ops : Array Oper} {Q : BPost} {fr : Fr} {H : Heap} (D : List Dat) (E : List (Nat × Nat)) (nm : Nat) (F : Fr) (V : List Value) (Rs : List (Heap → Prop)) (hm : P.follows .mixedOrders = true)
    (hok : drawIs n ops.toList D E nm = true) (hF : Has fr F) (h0 : kind Rs 0 H) (steps : stepsR2 P ops.toList V Rs F ops.toList D 0) (fin : ∀ H', kind Rs nm H' → bring V E F fun fr' => Q .normal fr' H') : SW P n (.region id ops true) Q fr H := by
  simp only [drawIs, Bool.and_eq_true, decide_eq_true_eq] at hok
  obtain ⟨⟨⟨h1, rfl⟩, rfl⟩, h4⟩ := hok
  have h4' := Nat.eq_of_beq_eq_true h4
  subst h4'
  refine SW.sub (SW.drawR V (kind Rs) hm h1 h0 (stepsR2_to steps) fun H' hH => ?_) (Sub.of hF)
  rw [endOf_eq]
  exact bring_to (fin H' hH)
end Go.Proofs.YtmdpifedcaaobaaDoor.Ax
/- The abstract machine: a region whose order is open, where all that changes the heap lays new blocks alone: it is done in one order, the earliest. -/
set_option linter.unusedVariables false
set_option linter.unusedSimpArgs false
namespace Go.Proofs.YtmdpifedcaaobaaDoor.Ax
open Go Go.RowKit
theorem SW.drawV {P : Program} {n : Nat} {id : Nat} {ops : Array Oper} {Q : BPost} {fr : Fr} {H : Heap} (R : Nat → List Value → Heap → Prop) (hm : P.follows .mixedOrders = true) (hok : drawOK n ops.toList = true) (h0 : ∃ V, R 0 V H)
    (floats : ∀ (i : Nat) (o : Oper) (k : Nat) (V : List Value) (K : Heap), ops.toList[i]? = some o → isMover o = false → loOf ops.toList (masks ops.toList) i ≤ k → k ≤ hiOf ops.toList (masks ops.toList) i → R k V K →
      wantK ops.toList (envOf ops.toList (masks ops.toList) V fr i) o.guard (boper P o (envOf ops.toList (masks ops.toList) V fr i) K fun v H' => v = V.getD i undef ∧ H' = K) (V.getD i undef = undef))
    (movs : ∀ (i : Nat) (o : Oper) (k : Nat) (V : List Value) (K : Heap), ops.toList[i]? = some o → isMover o = true → loOf ops.toList (masks ops.toList) i ≤ k → k ≤ hiOf ops.toList (masks ops.toList) i → R k V K →
      wantK ops.toList (envOf ops.toList (masks ops.toList) V fr i) o.guard
        (boper P o (envOf ops.toList (masks ops.toList) V fr i) K fun v H' => ∃ V', R (k + 1) V' H' ∧ V'.getD i undef = v ∧ ∀ (j : Nat), j < ops.size → loOf ops.toList (masks ops.toList) j ≤ k → j ≠ i → V'.getD j undef = V.getD j undef)
        (∃ V', R (k + 1) V' K ∧ V'.getD i undef = undef ∧ ∀ (j : Nat), j < ops.size → loOf ops.toList (masks ops.toList) j ≤ k → j ≠ i → V'.getD j undef = V.getD j undef))
    (fin : ∀ V H', R (movers ops.toList).length V H' → Q .normal (endOf ops.toList V fr) H') : SW P n (.region id ops true) Q fr H := by
  simp only [drawOK, Bool.and_eq_true, List.all_eq_true] at hok
  obtain ⟨⟨⟨hback, huniq⟩, hchain⟩, hdst⟩ := hok
  refine ⟨fun ro ds w0 ι a w hw hf hd => wpIn_region_any hm ?_⟩
  have uniq : ∀ {i j d : Nat} {o o' : Oper}, ops.toList[i]? = some o → ops.toList[j]? = some o' → o.dst = some d → o'.dst = some d → i = j := by
    intro i j d o o' h1 h2 h3 h4
    exact uniqueD_spec huniq (i := i) (j := j) (d := d) (by simp [dsts] at h1 ⊢; exact ⟨o, h1, h3⟩) (by simp [dsts] at h2 ⊢; exact ⟨o', h2, h4⟩)
  have lt_of : ∀ {i : Nat} {o : Oper}, ops.toList[i]? = some o → i < ops.size := fun h => by have := (List.getElem?_eq_some_iff.1 h).1; simpa using this
  -- the state of a region that is under way
  have go : ∀ (fuel : Nat) (listed : Array Bool) (ι1 : List Pl) (a : Act) (w : World), listed.size = ops.size →
      fuel + (List.range ops.size).countP (fun i => listed.getD i false) = ops.size → DownC ops.toList (fun i => listed.getD i false = true) → Ext ι ι1 →
      (∃ V K, R ((movers ops.toList).countP fun i => listed.getD i false) V K ∧ WR P w0 ι1 K w ∧ (∀ (j : Nat) (o : Oper) (d : Nat), ops.toList[j]? = some o → o.dst = some d → listed.getD j false = true → VR ι1 (V.getD j undef) (a.tmps.getD d undef))) → a.tmps.size = n → a.defers = ds →
      (∀ (t : Nat) (v : Value), getF fr t = some v → (∀ (j : Nat) (o : Oper), ops.toList[j]? = some o → o.dst = some t → listed.getD j false = false) → t < n ∧ VR ι1 v (a.tmps.getD t undef)) →
      wpAnyIn (rF ro) 0 P .any ops (LB P n w0 ι ds Q) fuel listed a w := by
    intro fuel
    induction fuel with
    | zero =>
      intro listed ι1 a w hsz hcnt hdown hx hwx hn hd hv2
      obtain ⟨V, K, hRK, hw, hv1⟩ := hwx
      have hall : ∀ i, i < ops.size → listed.getD i false = true := by
        rw [Nat.zero_add] at hcnt
        have := List.countP_eq_length (p := fun i => listed.getD i false) (l := List.range ops.size)
        rw [List.length_range] at this
        intro i hi
        exact this.1 hcnt i (List.mem_range.2 hi)
      have hready : Region.ready .any ops listed = [] := by
        rw [List.eq_nil_iff_forall_not_mem]
        intro j hj
        obtain ⟨h1, o, h2, _⟩ := mem_ready.1 hj
        have hlt := (Array.getElem?_eq_some_iff.1 h2).1
        have := hall j hlt
        rw [Array.getD_eq_getD_getElem?, Array.getElem?_eq_getElem (by omega)] at this h1
        simp only [Option.getD_some] at this h1
        rw [h1] at this; simp at this
      refine ⟨hready, (LB.intro (e := .normal) (fr := endOf ops.toList V fr) rfl hw ⟨hn, fun t v ht => ?_⟩ hd ?_).ext hx⟩
      · unfold endOf at ht
        rcases getF_append ht with h | h
        · simp only [List.mem_filterMap, Prod.exists] at h
          obtain ⟨o, j, hj, h⟩ := h
          have ho := List.mem_zipIdx_iff_getElem?.1 hj
          simp only at ho h
          split at h
          · rename_i d hdd
            simp only [Option.some.injEq, Prod.mk.injEq] at h
            obtain ⟨rfl, rfl⟩ := h
            have h3 := hdst o (List.mem_of_getElem? ho)
            rw [hdd] at h3
            exact ⟨by simpa [Nat.blt_eq] using h3, hv1 j o _ ho hdd (hall j (lt_of ho))⟩
          · simp at h
        · by_cases hex : ∃ (j : Nat) (o : Oper), ops.toList[j]? = some o ∧ o.dst = some t
          · -- it has been written: then the first part tells it
            exfalso
            obtain ⟨j, o, ho, hdd⟩ := hex
            refine h.1 (V.getD j undef) ?_
            simp only [List.mem_filterMap, Prod.exists]
            exact ⟨o, j, List.mem_zipIdx_iff_getElem?.2 ho, by simp only [hdd]⟩
          · exact hv2 t v h.2 fun j o ho hdd => absurd ⟨j, o, ho, hdd⟩ hex
      · have : (movers ops.toList).countP (fun i => listed.getD i false) = (movers ops.toList).length := by
          rw [List.countP_eq_length]
          intro i hi
          obtain ⟨o, ho, _⟩ := mem_movers.1 hi
          exact hall i (lt_of ho)
        rw [this] at hRK
        exact fin V K hRK
    | succ fuel ih =>
      intro listed ι1 a w hsz hcnt hdown hx hwx hn hd hv2
      obtain ⟨V, K, hRK, hw, hv1⟩ := hwx
      refine ⟨fun hempty => ?_, fun i hi => ?_⟩
      · -- something is ready
        exfalso
        have hne : ∃ i, i < ops.size ∧ listed.getD i false = false := by
          apply Classical.byContradiction
          intro hno
          have : (List.range ops.size).countP (fun i => listed.getD i false) = ops.size := by
            have h1 := (List.countP_eq_length (p := fun i => listed.getD i false) (l := List.range ops.size)).2 (fun i hi => by
              have : ¬ (listed.getD i false = false) := fun h => hno ⟨i, List.mem_range.1 hi, h⟩
              simpa using this)
            rwa [List.length_range] at h1
          omega
        have key : ∀ m, ∀ i, i ≤ m → i < ops.size → listed.getD i false = false → ∃ j, j ∈ Region.ready .any ops listed := by
          intro m
          induction m with
          | zero =>
            intro i hi hlt hl
            refine ⟨i, mem_ready.2 ⟨?_, ops[i], by simp [hlt], fun e he hb => ?_⟩⟩
            · rw [Array.getD_eq_getD_getElem?, Array.getElem?_eq_getElem (by omega)] at hl ⊢; exact hl
            · have := backE_spec hback (i := i) (o := ops[i]) (by simp [hlt]) (by simpa using he) hb
              omega
          | succ m ihm =>
            intro i hi hlt hl
            by_cases hall : ∀ e ∈ ops[i].after, Region.binds .any e = true → listed.getD e.on false = true
            · refine ⟨i, mem_ready.2 ⟨?_, ops[i], by simp [hlt], hall⟩⟩
              rw [Array.getD_eq_getD_getElem?, Array.getElem?_eq_getElem (by omega)] at hl ⊢; exact hl
            · simp only [Classical.not_forall, Bool.not_eq_true] at hall
              obtain ⟨e, he, hb, hle⟩ := hall
              have := backE_spec hback (i := i) (o := ops[i]) (by simp [hlt]) (by simpa using he) hb
              exact ihm e.on (by omega) (by omega) hle
        obtain ⟨i, hlt, hl⟩ := hne
        obtain ⟨j, hj⟩ := key i i (Nat.le_refl _) hlt hl
        rw [hempty] at hj
        simp at hj
      · obtain ⟨hl1, o, ho, hpre⟩ := mem_ready.1 hi
        have hlt : i < ops.size := (Array.getElem?_eq_some_iff.1 ho).1
        have hol : ops.toList[i]? = some o := by rw [Array.getElem?_toList]; exact ho
        have hl : listed.getD i false = false := by
          rw [Array.getD_eq_getD_getElem?, Array.getElem?_eq_getElem (by omega)] at hl1 ⊢; exact hl1
        have hset : ∀ j, (listed.setIfInBounds i true).getD j false = (listed.getD j false || decide (j = i)) := by
          intro j
          rw [Array.getD_eq_getD_getElem?, Array.getD_eq_getD_getElem?, Array.getElem?_setIfInBounds]
          by_cases hji : i = j
          · subst hji; rw [if_pos rfl, if_pos (by omega)]; simp
          · rw [if_neg hji]; simp [show ¬ j = i from fun h => hji h.symm]
        -- what is ahead of it is listed; what it is ahead of is not
        have hah : ∀ j, ahead (masks ops.toList) i j = true → listed.getD j false = true := by
          intro j hj
          obtain ⟨acc', h1, h2, h3⟩ := masksFrom_get ops.toList [] i o hol
          simp only [List.length_nil, Nat.zero_add] at h1 h2
          unfold ahead masks at hj
          rw [h2] at hj
          obtain ⟨e, he, hp, h4⟩ := maskOf_bit hj
          have hlt2 := backE_spec hback hol he hp
          have hle := hpre e (by simpa using he) hp
          rcases h4 with rfl | h4
          · exact hle
          · rw [h3 _ (by omega)] at h4
            exact ahead_listed hback hdown e.on e.on j (Nat.le_refl _) (by simp; omega) hle h4
        have hbh : ∀ j, j < ops.size → ahead (masks ops.toList) j i = true → listed.getD j false = false := by
          intro j hj h
          cases hlj : listed.getD j false with
          | false => rfl
          | true =>
            have := ahead_listed hback hdown j j i (Nat.le_refl _) (by simpa using hj) hlj h
            rw [hl] at this; simp at this
        -- the heap's place
        have hlo : loOf ops.toList (masks ops.toList) i ≤ (movers ops.toList).countP fun i => listed.getD i false := by
          unfold loOf
          rw [← List.countP_eq_length_filter]
          exact List.countP_mono_left fun j _ h => hah j h
        have hhi : ((movers ops.toList).countP fun i => listed.getD i false) ≤ hiOf ops.toList (masks ops.toList) i := by
          unfold hiOf
          rw [← List.countP_eq_length_filter]
          refine List.countP_mono_left fun j hj h => ?_
          obtain ⟨oj, hoj, _⟩ := mem_movers.1 hj
          simp only [Bool.not_eq_true', Bool.or_eq_false_iff]
          refine ⟨?_, ?_⟩
          · cases hb : Nat.beq i j with
            | false => rfl
            | true => have := Nat.eq_of_beq_eq_true hb; subst this; rw [hl] at h; simp at h
          · cases hb : ahead (masks ops.toList) j i with
            | false => rfl
            | true => rw [hbh j (lt_of hoj) hb] at h; simp at h
        have hlt_lo : ∀ (j : Nat), j < ops.size → listed.getD j false = true → loOf ops.toList (masks ops.toList) j ≤ (movers ops.toList).countP fun i => listed.getD i false := by
          intro j hj hlj
          unfold loOf
          rw [← List.countP_eq_length_filter]
          exact List.countP_mono_left fun k _ h => ahead_listed hback hdown j j k (Nat.le_refl _) (by simpa using hj) hlj h
        -- what is known
        have henv : FB n ι1 (envOf ops.toList (masks ops.toList) V fr i) a := by
          refine ⟨hn, fun t v ht => ?_⟩
          unfold envOf at ht
          rcases getF_append ht with h | h
          · simp only [List.mem_filterMap, Prod.exists] at h
            obtain ⟨o', j, hj, h⟩ := h
            have ho' := List.mem_zipIdx_iff_getElem?.1 hj
            simp only at ho' h
            split at h
            · rename_i d hdd
              split at h
              · rename_i haj
                simp only [Option.some.injEq, Prod.mk.injEq] at h
                obtain ⟨rfl, rfl⟩ := h
                have h3 := hdst o' (List.mem_of_getElem? ho')
                rw [hdd] at h3
                exact ⟨by simpa [Nat.blt_eq] using h3, hv1 j o' _ ho' hdd (hah j haj)⟩
              · simp at h
            · simp at h
          · obtain ⟨h1, h2⟩ := getF_filter (q := fun t => (ops.toList.zipIdx).all fun y => match y.1.dst with | some d => !Nat.beq d t || Nat.beq y.2 i || ahead (masks ops.toList) y.2 i | none => true) h.2
            refine hv2 t v h2 fun j o' ho' hdd => ?_
            rw [List.all_eq_true] at h1
            have h3 := h1 (o', j) (List.mem_zipIdx_iff_getElem?.2 ho')
            simp only [hdd, Nat.beq_refl, Bool.not_true, Bool.false_or, Bool.or_eq_true] at h3
            rcases h3 with h3 | h3
            · have := Nat.eq_of_beq_eq_true h3; subst this; exact hl
            · exact hbh j (lt_of ho') h3
        -- what comes behind
        have next : ∀ (v cv : Value) (H' : Heap) (ι2 : List Pl) (w' : World) (V' : List Value), v = V'.getD i undef → R (if isMover o then ((movers ops.toList).countP fun i => listed.getD i false) + 1 else (movers ops.toList).countP fun i => listed.getD i false) V' H' →
            (∀ j, j < ops.size → listed.getD j false = true → V'.getD j undef = V.getD j undef) →
            Ext ι1 ι2 → WR P w0 ι2 H' w' → VR ι2 v cv → wpAnyIn (rF ro) 0 P .any ops (LB P n w0 ι ds Q) fuel (listed.setIfInBounds i true) (a.put o.dst cv) w' := by
          intro v cv H' ι2 w' V' hv hH hag hx2 hw2 hr
          subst hv
          have hcount : (movers ops.toList).countP (fun j => (listed.setIfInBounds i true).getD j false) = if isMover o then ((movers ops.toList).countP fun i => listed.getD i false) + 1 else (movers ops.toList).countP fun i => listed.getD i false := by
            split
            · rename_i hmv
              exact count_add (movers_nodup _) (mem_movers.2 ⟨o, hol, hmv⟩) _ _ hl hset
            · rename_i hmv
              apply List.countP_congr
              intro j hj
              obtain ⟨oj, hoj, hmj⟩ := mem_movers.1 hj
              have : j ≠ i := fun h => by subst h; rw [hol] at hoj; simp only [Option.some.injEq] at hoj; subst hoj; exact hmv hmj
              simp [hset, this]
          refine ih (listed.setIfInBounds i true) ι2 (a.put o.dst cv) w' (by simpa using hsz) ?_ ?_ (hx.trans hx2) ⟨V', H', by rw [hcount]; exact hH, hw2, ?_⟩ ?_ (by rw [put_defers]; exact hd) ?_
          · have := count_add (l := List.range ops.size) List.nodup_range (List.mem_range.2 hlt) (fun j => listed.getD j false) (fun j => (listed.setIfInBounds i true).getD j false) hl hset
            omega
          · intro j oj hoj hLj e he hp
            simp only [hset, Bool.or_eq_true, decide_eq_true_eq] at hLj ⊢
            rcases hLj with hLj | rfl
            · exact .inl (hdown j oj hoj hLj e he hp)
            · rw [hol] at hoj; simp only [Option.some.injEq] at hoj; subst hoj
              exact .inl (hpre e (by simpa using he) hp)
          · intro j oj d hoj hdd hLj
            rw [hset] at hLj
            simp only [Bool.or_eq_true, decide_eq_true_eq] at hLj
            by_cases hji : j = i
            · subst hji
              rw [hol] at hoj; simp only [Option.some.injEq] at hoj; subst hoj
              have h3 := hdst o (List.mem_of_getElem? hol)
              rw [hdd] at h3 ⊢
              simp only [Nat.blt_eq] at h3
              simp only [Act.put]
              rw [Array.getD_eq_getD_getElem? (xs := a.tmps.setIfInBounds _ _), Array.getElem?_setIfInBounds, if_pos rfl, if_pos (by omega)]
              exact hr
            · have hLj' := hLj.resolve_right hji
              rw [hag j (lt_of hoj) hLj']
              have h4 := (hv1 j oj d hoj hdd hLj').ext hx2
              cases hod : o.dst with
              | none => exact h4
              | some d' =>
                have hne : d' ≠ d := fun h => by subst h; exact hji (uniq hoj hol hdd hod)
                simp only [Act.put]
                rw [Array.getD_eq_getD_getElem? (xs := a.tmps.setIfInBounds _ _), Array.getElem?_setIfInBounds, if_neg hne]
                rwa [Array.getD_eq_getD_getElem? (xs := a.tmps)] at h4
          · cases hod : o.dst with
            | none => exact hn
            | some d => simp [Act.put, hn]
          · intro t v ht hno
            obtain ⟨h4, h5⟩ := hv2 t v ht fun j oj hoj hdd => by
              have := hno j oj hoj hdd
              rw [hset] at this
              simp only [Bool.or_eq_false_iff] at this
              exact this.1
            refine ⟨h4, ?_⟩
            have h5 := h5.ext hx2
            cases hod : o.dst with
            | none => exact h5
            | some d' =>
              have hne : d' ≠ t := fun h => by
                subst h
                have := hno i o hol hod
                rw [hset] at this
                simp at this
              simp only [Act.put]
              rw [Array.getD_eq_getD_getElem?, Array.getElem?_setIfInBounds, if_neg hne]
              rwa [Array.getD_eq_getD_getElem?] at h5
        unfold wpOpIn
        rw [ho]
        simp only
        cases hmv : isMover o with
        | false =>
          rcases wantK_sound henv (floats i o _ V K hol hmv hlo hhi hRK) with ⟨h1, h⟩ | ⟨h1, h⟩
          · rw [if_pos h1]
            exact (boper_sound hw henv h fun v H' ι' cv w' k h1 h2 h3 => next v cv H' ι' w' V k.1 (by rw [hmv]; exact k.2 ▸ hRK) (fun _ _ _ => rfl) h1 h2 h3)
          · rw [if_neg (by simp [h1])]
            exact ⟨fun _ _ => trivial, next undef undef K ι1 w V h.symm (by rw [hmv]; exact hRK) (fun _ _ _ => rfl) (.refl _) hw (.undef ι1)⟩
        | true =>
          have hne : ∀ j, listed.getD j false = true → j ≠ i := fun j hj he => by subst he; rw [hl] at hj; simp at hj
          rcases wantK_sound henv (movs i o _ V K hol hmv hlo hhi hRK) with ⟨h1, h⟩ | ⟨h1, h⟩
          · rw [if_pos h1]
            refine (boper_sound hw henv h fun v H' ι' cv w' k h1 h2 h3 => ?_)
            obtain ⟨V', k1, k2, k3⟩ := k
            exact next v cv H' ι' w' V' k2.symm (by rw [hmv]; exact k1) (fun j hj hlj => k3 j hj (hlt_lo j hj hlj) (hne j hlj)) h1 h2 h3
          · rw [if_neg (by simp [h1])]
            obtain ⟨V', k1, k2, k3⟩ := h
            exact ⟨fun _ _ => trivial, next undef undef K ι1 w V' k2.symm (by rw [hmv]; exact k1) (fun j hj hlj => k3 j hj (hlt_lo j hj hlj) (hne j hlj)) (.refl _) hw (.undef ι1)⟩
  obtain ⟨V0, hV0⟩ := h0
  refine go ops.size _ ι a _ (by simp) ?_ ?_ (.refl _) ⟨V0, H, ?_, hw.drew, ?_⟩ hf.size hd ?_
  · have : (List.range ops.size).countP (fun i => (Array.replicate ops.size false).getD i false) = 0 := by
      rw [List.countP_eq_zero]
      intro i hi
      have := List.mem_range.1 hi
      simp [Array.getD_eq_getD_getElem?, this]
    omega
  · intro i o ho hL
    have := lt_of ho
    simp [Array.getD_eq_getD_getElem?, this] at hL
  · have : (movers ops.toList).countP (fun i => (Array.replicate ops.size false).getD i false) = 0 := by
      rw [List.countP_eq_zero]
      intro i hi
      obtain ⟨o, ho, _⟩ := mem_movers.1 hi
      have := lt_of ho
      simp [Array.getD_eq_getD_getElem?, this]
    rw [this]
    exact hV0
  · intro j o d ho hdd hL
    have := lt_of ho
    simp [Array.getD_eq_getD_getElem?, this] at hL
  · intro t v ht _
    exact hf.val t v ht

end Go.Proofs.YtmdpifedcaaobaaDoor.Ax
/- The abstract machine: a region whose order is open, where all that changes the heap lays new blocks alone: the walk in its earliest order. -/
set_option linter.unusedVariables false
set_option linter.unusedSimpArgs false
namespace Go.Proofs.YtmdpifedcaaobaaDoor.Ax
open Go Go.RowKit

theorem Grow.hmap {H H' : Heap} (h : Grow H H') {b : Nat} {es : List (Value × Value)} (hb : Ax.hmap H b = some es) : Ax.hmap H' b = some es := by
  unfold Ax.hmap at hb ⊢
  split at hb
  · rename_i o es' he
    rw [h.at he]; exact hb
  · simp at hb
theorem aload_grow {P : Program} {t : TypeId} {v r : Value} {H H' : Heap} (g : Grow H H') (h : aload P t v H = some r) : aload P t v H' = some r := by
  unfold aload at h ⊢
  split at h
  · simp only [Option.bind_eq_some_iff] at h ⊢
    obtain ⟨c, hc, h⟩ := h
    exact ⟨c, g.hblk hc, h⟩
  · simp at h
theorem alen_grow {P : Program} {t : TypeId} {v r : Value} {H H' : Heap} (g : Grow H H') (h : alen P t v H = some r) : alen P t v H' = some r := by
  unfold alen at h ⊢
  split at h
  · exact h
  · exact h
  · exact h
  · split at h
    · exact h
    · simp only [Option.map_eq_some_iff] at h ⊢
      obtain ⟨es, he, h⟩ := h
      exact ⟨es, g.hmap he, h⟩
    · simp at h
  · simp at h
theorem mentries_grow {m : Value} {es : List (Value × Value)} {H H' : Heap} (g : Grow H H') (h : mentries m H = some es) : mentries m H' = some es := by
  unfold mentries at h ⊢
  split at h
  · exact h
  · exact g.hmap h
  · simp at h
theorem alookup_grow {P : Program} {t : TypeId} {m k r : Value} {ok : Bool} {H H' : Heap} (g : Grow H H') (h : alookup P t m k ok H = some r) : alookup P t m k ok H' = some r := by
  unfold alookup at h ⊢
  simp only [Option.bind_eq_some_iff] at h ⊢
  obtain ⟨x, hx, es, he, h⟩ := h
  exact ⟨x, hx, es, mentries_grow g he, h⟩
theorem aconvert_grow {P : Program} {s d : TypeId} {v r : Value} {H H' : Heap} (g : Grow H H') (h : aconvert P s d v H = some r) : aconvert P s d v H' = some r := by
  unfold aconvert at h ⊢
  simp only [Option.bind_eq_some_iff] at h ⊢
  obtain ⟨ds, h1, dd, h2, h⟩ := h
  refine ⟨ds, h1, dd, h2, ?_⟩
  split at h
  · exact h
  · exact h
  · split at h
    · split at h
      · exact h
      · split at h
        · rename_i hn; rw [if_pos hn]; exact h
        · rename_i hn
          rw [if_neg hn]
          simp only [Option.bind_eq_some_iff] at h ⊢
          obtain ⟨c, hc, h⟩ := h
          exact ⟨c, g.hblk hc, h⟩
      · simp at h
    · simp at h
  · split at h
    · exact h
    · simp only [Option.bind_eq_some_iff] at h ⊢
      obtain ⟨j, hj, h⟩ := h
      refine ⟨j, hj, ?_⟩
      split at h
      · simp at h
      · rename_i hz
        rw [if_neg hz]
        split at h
        · rename_i T c hc
          rw [g.at hc]; exact h
        · simp at h
    · simp at h
  · split at h
    · exact h
    · simp only [Option.bind_eq_some_iff] at h ⊢
      obtain ⟨j, hj, h⟩ := h
      refine ⟨j, hj, ?_⟩
      split at h
      · rename_i T c hc
        rw [g.at hc]; exact h
      · simp at h
    · simp at h
  · first | exact h | (simp at h)

/-- An operation's operands, found. -/
theorem evK_iff {fr : Fr} {x : Operand} {K : Value → Prop} : evK fr x K → ∃ v, K v ∧ ∀ K', K' v → evK fr x K' := by
  cases x with
  | tmp t => intro h; obtain ⟨v, hv, k⟩ := getK_iff.1 h; exact ⟨v, k, fun K' k' => getK_iff.2 ⟨v, hv, k'⟩⟩
  | const v =>
    intro h
    simp only [evK] at h ⊢
    split at h
    · rename_i hc; exact ⟨v, h, fun K' k' => k'⟩
    · exact h.elim
  | func f => intro h; exact ⟨_, h, fun K' k' => k'⟩
  | global g => intro h; exact h.elim
theorem evL_iff {fr : Fr} : ∀ {l : List Operand} {K : List Value → Prop}, evL fr l K → ∃ v, K v ∧ ∀ K', K' v → evL fr l K' := by
  intro l
  induction l with
  | nil => intro K h; exact ⟨[], h, fun K' k => k⟩
  | cons x l ih =>
    intro K h
    obtain ⟨v, h, k⟩ := evK_iff h
    obtain ⟨vs, h, k2⟩ := ih h
    exact ⟨v :: vs, h, fun K' k' => k _ (k2 _ k')⟩
theorem evP_iff {fr : Fr} : ∀ {l : List (Nat × Operand)} {K : List (Nat × Value) → Prop}, evP fr l K → ∃ v, K v ∧ ∀ K', K' v → evP fr l K' := by
  intro l
  induction l with
  | nil => intro K h; exact ⟨[], h, fun K' k => k⟩
  | cons x l ih =>
    obtain ⟨i, x⟩ := x
    intro K h
    obtain ⟨v, h, k⟩ := evK_iff h
    obtain ⟨vs, h, k2⟩ := ih h
    exact ⟨(i, v) :: vs, h, fun K' k' => k _ (k2 _ k')⟩
theorem evQ_iff {fr : Fr} {x : Option Operand} {K : Option Value → Prop} (h : evQ fr x K) : ∃ v, K v ∧ ∀ K', K' v → evQ fr x K' := by
  cases x with
  | none => exact ⟨none, h, fun K' k => k⟩
  | some x => obtain ⟨v, h, k⟩ := evK_iff h; exact ⟨some v, h, fun K' k' => k _ k'⟩

/-- What changes nothing says the same in a heap that has grown. -/
theorem aslice3_grow {P : Program} {n : Nat} {e : TypeId} {v r : Value} {lo hi mx : Option Value} {H H' : Heap} (g : Grow H H') (h : aslice3 P n e v lo hi mx H = some r) : aslice3 P n e v lo hi mx H' = some r := by
  unfold aslice3 at h ⊢
  split at h
  · rename_i b off
    simp only [Option.bind_eq_some_iff] at h ⊢
    obtain ⟨k, hk, m, hm, hh, h1, l, h2, h⟩ := h
    refine ⟨k, hk, m, hm, hh, h1, l, h2, ?_⟩
    split at h
    · rename_i hc
      simp only [Bool.and_eq_true] at hc
      obtain ⟨⟨hs, hle⟩, hv⟩ := hc
      have hv' : isVarB H' b = true := by
        unfold isVarB at hv ⊢
        split at hv
        · rename_i c hc
          rw [g.at hc]
        · simp at hv
      rw [if_pos (by simp only [hs, hle, hv', Bool.and_self])]
      exact h
    · simp at h
  · simp at h
theorem float_mono {P : Program} {o : Oper} {fr : Fr} {H : Heap} {K : OpK} (hm : isMover o = false) (h : boper P o fr H K) : ∃ v, K v H ∧ ∀ H', Grow H H' → ∀ K' : OpK, K' v H' → boper P o fr H' K' := by
  obtain ⟨dst, op, ty, pos, after, guard⟩ := o
  cases op with
  | move x => obtain ⟨v, h, k⟩ := evK_iff (show evK fr x _ from h); exact ⟨v, h, fun H' g K' k' => k _ k'⟩
  | assign x => obtain ⟨v, h, k⟩ := evK_iff (show evK fr x _ from h); exact ⟨v, h, fun H' g K' k' => k _ k'⟩
  | pick c a b =>
    obtain ⟨v, h, k⟩ := evK_iff (show evK fr c _ from h)
    split at h
    · rename_i t
      rcases h.out with ⟨rfl, h⟩ | ⟨rfl, h⟩
      · obtain ⟨u, h, k2⟩ := evK_iff h; exact ⟨u, h, fun H' g K' k' => k _ (k2 _ k')⟩
      · obtain ⟨u, h, k2⟩ := evK_iff h; exact ⟨u, h, fun H' g K' k' => k _ (k2 _ k')⟩
    · exact h.elim
  | build t ps => obtain ⟨v, h, k⟩ := evP_iff (show evP fr ps.toList _ from h); obtain ⟨r, hr, h⟩ := h.out; exact ⟨r, h, fun H' g K' k' => k _ (.of hr k')⟩
  | load t x => obtain ⟨v, h, k⟩ := evK_iff (show evK fr x _ from h); obtain ⟨r, hr, h⟩ := h.out; exact ⟨r, h, fun H' g K' k' => k _ (.of (aload_grow g hr) k')⟩
  | nilCheck x =>
    obtain ⟨v, h, k⟩ := evK_iff (show evK fr x _ from h)
    split at h
    · exact ⟨_, h, fun H' g K' k' => k _ k'⟩
    · exact ⟨_, h, fun H' g K' k' => k _ k'⟩
    · exact h.elim
  | binOp bo t x y t2 => obtain ⟨v, h, k⟩ := evK_iff (show evK fr x _ from h); obtain ⟨u, h, k2⟩ := evK_iff h; obtain ⟨r, hr, h⟩ := h.out; exact ⟨r, h, fun H' g K' k' => k _ (k2 _ (.of hr k'))⟩
  | unOp uo t x => obtain ⟨v, h, k⟩ := evK_iff (show evK fr x _ from h); obtain ⟨r, hr, h⟩ := h.out; exact ⟨r, h, fun H' g K' k' => k _ (.of hr k')⟩
  | convert s d x => obtain ⟨v, h, k⟩ := evK_iff (show evK fr x _ from h); obtain ⟨r, hr, h⟩ := h.out; exact ⟨r, h, fun H' g K' k' => k _ (.of (aconvert_grow g hr) k')⟩
  | makeFunc f a b =>
    cases f with
    | func f => obtain ⟨v, h, k⟩ := evL_iff (show evL fr a.toList _ from h); obtain ⟨u, h, k2⟩ := evL_iff h; exact ⟨_, h, fun H' g K' k' => k _ (k2 _ k')⟩
    | _ => exact False.elim h
  | slice t x lo hi mx =>
    obtain ⟨v, h, k⟩ := evK_iff (show evK fr x _ from h)
    obtain ⟨a, h, k1⟩ := evQ_iff h
    obtain ⟨b, h, k2⟩ := evQ_iff h
    obtain ⟨c, h, k3⟩ := evQ_iff h
    cases ha : arrayOf P t with
    | none =>
      simp only [ha] at h
      obtain ⟨r, hr, h⟩ := h.out
      exact ⟨r, h, fun H' g K' k' => k _ (k1 _ (k2 _ (k3 _ (by simp only [ha]; exact .of hr k'))))⟩
    | some p =>
      obtain ⟨n, e⟩ := p
      simp only [ha] at h
      obtain ⟨r, hr, h⟩ := h.out
      exact ⟨r, h, fun H' g K' k' => k _ (k1 _ (k2 _ (k3 _ (by simp only [ha]; exact .of (aslice3_grow g hr) k'))))⟩
  | fieldAddr s x f => obtain ⟨v, h, k⟩ := evK_iff (show evK fr x _ from h); obtain ⟨r, hr, h⟩ := h.out; exact ⟨r, h, fun H' g K' k' => k _ (.of hr k')⟩
  | field s x f => obtain ⟨v, h, k⟩ := evK_iff (show evK fr x _ from h); obtain ⟨r, hr, h⟩ := h.out; exact ⟨r, h, fun H' g K' k' => k _ (.of hr k')⟩
  | indexAddr t x i => obtain ⟨v, h, k⟩ := evK_iff (show evK fr x _ from h); obtain ⟨u, h, k2⟩ := evK_iff h; obtain ⟨r, hr, h⟩ := h.out; exact ⟨r, h, fun H' g K' k' => k _ (k2 _ (.of hr k'))⟩
  | index t x i => obtain ⟨v, h, k⟩ := evK_iff (show evK fr x _ from h); obtain ⟨u, h, k2⟩ := evK_iff h; obtain ⟨r, hr, h⟩ := h.out; exact ⟨r, h, fun H' g K' k' => k _ (k2 _ (.of hr k'))⟩
  | lookup t x i ok => obtain ⟨v, h, k⟩ := evK_iff (show evK fr x _ from h); obtain ⟨u, h, k2⟩ := evK_iff h; obtain ⟨r, hr, h⟩ := h.out; exact ⟨r, h, fun H' g K' k' => k _ (k2 _ (.of (alookup_grow g hr) k'))⟩
  | extract x i => obtain ⟨v, h, k⟩ := evK_iff (show evK fr x _ from h); obtain ⟨r, hr, h⟩ := h.out; exact ⟨r, h, fun H' g K' k' => k _ (.of hr k')⟩
  | call c =>
    obtain ⟨callee, args, tys⟩ := c
    cases callee with
    | value f => simp [isMover] at hm
    | invoke a b => simp [isMover] at hm
    | builtin b =>
      obtain ⟨vs, h, k⟩ := evL_iff (show evL fr args.toList (fun vs => builtinK P H b tys.toList vs K) from h)
      have key : ∃ v, K v H ∧ ∀ H', Grow H H' → ∀ K' : OpK, K' v H' → builtinK P H' b tys.toList vs K' := by
        unfold builtinK at h ⊢
        split at h
        all_goals first | (simp [isMover] at hm; done) | skip
        · obtain ⟨r, hr, h⟩ := h.out; exact ⟨r, h, fun H' g K' k' => .of (alen_grow g hr) k'⟩
        · obtain ⟨r, hr, h⟩ := h.out; exact ⟨r, h, fun H' g K' k' => .of hr k'⟩
        · obtain ⟨r, hr, h⟩ := h.out; exact ⟨r, h, fun H' g K' k' => .of hr k'⟩
        · obtain ⟨r, hr, h⟩ := h.out; exact ⟨r, h, fun H' g K' k' => .of hr k'⟩
        · exact h.elim
      obtain ⟨v, k1, k2⟩ := key
      exact ⟨v, k1, fun H' g K' k' => k _ (k2 H' g K' k')⟩
  | _ => simp [isMover] at hm
theorem Ob.mono {α : Type} {x : Option α} {K K' : α → Prop} (h : Ob x K) (k : ∀ a, K a → K' a) : Ob x K' := let ⟨a, h1, h2⟩ := h.out; ⟨a, h1, k a h2⟩
theorem Ob2.mono {α β : Type} {x : Option (α × β)} {K K' : α → β → Prop} (h : Ob2 x K) (k : ∀ a b, K a b → K' a b) : Ob2 x K' := let ⟨a, h1, h2⟩ := h.out; ⟨a, h1, k _ _ h2⟩
theorem evK_mono {fr : Fr} {x : Operand} {K K' : Value → Prop} (h : evK fr x K) (k : ∀ v, K v → K' v) : evK fr x K' := let ⟨v, h1, h2⟩ := evK_iff h; h2 _ (k v h1)
theorem evL_mono {fr : Fr} {x : List Operand} {K K' : List Value → Prop} (h : evL fr x K) (k : ∀ v, K v → K' v) : evL fr x K' := let ⟨v, h1, h2⟩ := evL_iff h; h2 _ (k v h1)
theorem evP_mono {fr : Fr} {x : List (Nat × Operand)} {K K' : List (Nat × Value) → Prop} (h : evP fr x K) (k : ∀ v, K v → K' v) : evP fr x K' := let ⟨v, h1, h2⟩ := evP_iff h; h2 _ (k v h1)
theorem evQ_mono {fr : Fr} {x : Option Operand} {K K' : Option Value → Prop} (h : evQ fr x K) (k : ∀ v, K v → K' v) : evQ fr x K' := let ⟨v, h1, h2⟩ := evQ_iff h; h2 _ (k v h1)
theorem builtinK_mono {P : Program} {H : Heap} {b : Builtin} {ts : List TypeId} {vs : List Value} {K K' : OpK} (h : builtinK P H b ts vs K) (k : ∀ v H', K v H' → K' v H') : builtinK P H b ts vs K' := by
  unfold builtinK at h ⊢
  split at h
  all_goals first | exact h.mono (fun r h => k _ _ h) | exact Ob2.mono h k | exact h.elim
theorem bop_mono {P : Program} {fr : Fr} {H : Heap} {op : Op} {K K' : OpK} (h : bop P fr H op K) (k : ∀ v H', K v H' → K' v H') : bop P fr H op K' := by
  unfold bop at h ⊢
  split at h
  · exact evK_mono h fun v h => k _ _ h
  · exact evK_mono h fun v h => k _ _ h
  · refine evK_mono h fun c h => ?_
    split at h
    · rcases h.out with ⟨rfl, h⟩ | ⟨rfl, h⟩
      · exact bIf.yes rfl (evK_mono h fun v h => k _ _ h)
      · exact bIf.no rfl (evK_mono h fun v h => k _ _ h)
    · exact h.elim
  · exact h.mono k
  · exact evK_mono h fun v h => Ob2.mono h k
  · exact evP_mono h fun v h => Ob.mono h fun r h => k _ _ h
  · exact evP_mono h fun v h => Ob2.mono h k
  · exact evK_mono h fun v h => Ob.mono h fun r h => k _ _ h
  · exact evK_mono h fun v h => evK_mono h fun v h => Ob.mono h fun r h => k _ _ h
  · refine evK_mono h fun c h => ?_
    split at h
    · exact k _ _ h
    · exact k _ _ h
    · exact h.elim
  · exact evK_mono h fun v h => evK_mono h fun v h => Ob.mono h fun r h => k _ _ h
  · exact evK_mono h fun v h => Ob.mono h fun r h => k _ _ h
  · exact evK_mono h fun v h => Ob.mono h fun r h => k _ _ h
  · exact evL_mono h fun v h => evL_mono h fun v h => k _ _ h
  · exact evQ_mono h fun v h => Ob2.mono h k
  · exact evK_mono h fun v h => Ob2.mono h k
  · exact evK_mono h fun v h => Ob2.mono h k
  · exact evK_mono h fun v h => evK_mono h fun v h => Ob2.mono h k
  · refine evK_mono h fun v h => evQ_mono h fun v h => evQ_mono h fun v h => evQ_mono h fun v h => ?_
    split at h
    · exact Ob.mono h fun r h => k _ _ h
    · exact Ob.mono h fun r h => k _ _ h
  · exact evK_mono h fun v h => Ob.mono h fun r h => k _ _ h
  · exact evK_mono h fun v h => Ob.mono h fun r h => k _ _ h
  · exact evK_mono h fun v h => evK_mono h fun v h => Ob.mono h fun r h => k _ _ h
  · exact evK_mono h fun v h => evK_mono h fun v h => Ob.mono h fun r h => k _ _ h
  · exact evK_mono h fun v h => evK_mono h fun v h => Ob.mono h fun r h => k _ _ h
  · exact evK_mono h fun v h => evK_mono h fun v h => evK_mono h fun v h => Ob.mono h fun r h => k _ _ h
  · exact evK_mono h fun v h => evK_mono h fun v h => evK_mono h fun v h => Ob.mono h fun r h => k _ _ h
  · exact evK_mono h fun v h => Ob.mono h fun r h => k _ _ h
  · exact evK_mono h fun v h => Ob.mono h fun r h => k _ _ h
  · exact evK_mono h fun v h => Ob.mono h fun r h => k _ _ h
  · split at h
    · exact evL_mono h fun v h => builtinK_mono h k
    · exact h.elim
  · exact h.elim
theorem boper_mono {P : Program} {o : Oper} {fr : Fr} {H : Heap} {K K' : OpK} (h : boper P o fr H K) (k : ∀ v H', K v H' → K' v H') : boper P o fr H K' := by
  unfold boper at h ⊢
  split at h
  · split at h
    · split at h
      · refine evL_mono h fun as h => ?_
        split at h
        · split at h
          · exact k _ _ h
          · exact h.elim
        · split at h
          · split at h
            · exact Ob2.mono h k
            · exact h.elim
          · split at h
            · split at h
              · exact k _ _ h
              · exact h.elim
            · exact h.mono k
      · refine evK_mono h fun f h => ?_
        split at h
        · exact evL_mono h fun as h => h.mono k
        · exact evL_mono h fun as h => h.mono k
        · exact h.elim
    · exact bop_mono h k
    · exact h.elim
  · exact bop_mono h k
end Go.Proofs.YtmdpifedcaaobaaDoor.Ax
/- The abstract machine: a region whose order is open, done in its earliest order. -/
set_option linter.unusedVariables false
set_option linter.unusedSimpArgs false
namespace Go.Proofs.YtmdpifedcaaobaaDoor.Ax
open Go Go.RowKit

/-- An operation's place in the earliest order: its number, what is ahead of it, which slots are not settled, does it change the heap. -/
abbrev GDat := Nat × List (Nat × Nat) × List Nat × Bool
def bringA (A : Fr) : List (Nat × Nat) → Fr → (Fr → Prop) → Prop
  | [], fr, K => K fr
  | (d, j) :: l, fr, K => getK A j fun v => bringA A l fr fun fr' => K ((d, v) :: fr')
structure Grows (H H' : Heap) (X : Prop) : Prop where
  g : Grow H H'
  x : X
def gkeep (mv : Bool) (H H' : Heap) (X : Prop) : Prop := match mv with | true => Grows H H' X | false => X
def gdo (P : Program) (o : Oper) (env : Fr) (A : Fr) (H : Heap) (i : Nat) (mv w : Bool) (next : Fr → Heap → Prop) : Prop :=
  match w with
  | true => boper P o env H fun v H' => gkeep mv H H' (next ((i, v) :: A) H')
  | false => next ((i, undef) :: A) H
def gops (P : Program) (ops : List Oper) (fr : Fr) (E : List (Nat × Nat)) (Q : BPost) : List GDat → Fr → Heap → Prop
  | [] => fun A H => bringA A E fr fun fr' => Q .normal fr' H
  | (i, av, ex, mv) :: rest => fun A H => Ob ops[i]? fun o => bringA A av (cutF ex fr) fun env => wantB ops env o.guard fun w => gdo P o env A H i mv w (gops P ops fr E Q rest)

def cmov : List GDat → Nat
  | [] => 0
  | (_, _, _, mv) :: r => (match mv with | true => 1 | false => 0) + cmov r
theorem cmov_append (a b : List GDat) : cmov (a ++ b) = cmov a + cmov b := by
  induction a with
  | nil => simp [cmov]
  | cons x a ih => obtain ⟨i, av, ex, mv⟩ := x; simp only [List.cons_append, cmov, ih]; omega
/-- Each one fits: its data, and how many changes are ahead of it. -/
def gfit (ops : List Oper) (ms : List Nat) : List GDat → Nat → Bool
  | [], _ => true
  | (i, av, ex, mv) :: r, k => (match ops[i]? with
      | some o => decide (av = pairsOf ops ms i) && decide (ex = exOf ops ms i) && (mv == isMover o) && Nat.beq (loOf ops ms i) k && (!mv || Nat.beq (hiOf ops ms i) k)
      | none => false) && gfit ops ms r ((match mv with | true => 1 | false => 0) + k)
def gnodup : List GDat → Bool
  | [] => true
  | x :: r => r.all (fun y => !Nat.beq x.1 y.1) && gnodup r
def gIs (n : Nat) (ops : List Oper) (L : List GDat) (E : List (Nat × Nat)) : Bool :=
  drawOK n ops && gfit ops (masks ops) L 0 && gnodup L && (List.range ops.length).all (fun i => L.any fun x => Nat.beq x.1 i) && decide (endsOf ops = E) && Nat.beq (cmov L) (movers ops).length

theorem gfit_get {ops : List Oper} {ms : List Nat} : ∀ {pre rest : List GDat} {x : GDat} {k : Nat}, gfit ops ms (pre ++ x :: rest) k = true →
    ∃ o, ops[x.1]? = some o ∧ x.2.1 = pairsOf ops ms x.1 ∧ x.2.2.1 = exOf ops ms x.1 ∧ x.2.2.2 = isMover o ∧ loOf ops ms x.1 = k + cmov pre ∧ (x.2.2.2 = true → hiOf ops ms x.1 = k + cmov pre) := by
  intro pre
  induction pre with
  | nil =>
    intro rest x k h
    obtain ⟨i, av, ex, mv⟩ := x
    simp only [List.nil_append, gfit, Bool.and_eq_true] at h
    obtain ⟨h, _⟩ := h
    split at h
    · rename_i o ho
      simp only [Bool.and_eq_true, decide_eq_true_eq, beq_iff_eq, Bool.or_eq_true, Bool.not_eq_true'] at h
      obtain ⟨⟨⟨⟨h1, h2⟩, h3⟩, h4⟩, h5⟩ := h
      refine ⟨o, ho, h1, h2, h3, by simpa [cmov] using Nat.eq_of_beq_eq_true h4, fun hm => ?_⟩
      rcases h5 with h5 | h5
      · exact absurd hm (by rw [show (i, av, ex, mv).2.2.2 = mv from rfl, h5]; simp)
      · simpa [cmov] using Nat.eq_of_beq_eq_true h5
    · simp at h
  | cons y pre ih =>
    intro rest x k h
    obtain ⟨i, av, ex, mv⟩ := y
    simp only [List.cons_append, gfit, Bool.and_eq_true] at h
    obtain ⟨o, h1, h2, h3, h4, h5, h6⟩ := ih h.2
    refine ⟨o, h1, h2, h3, h4, by rw [h5]; simp only [cmov]; omega, fun hm => by rw [h6 hm]; simp only [cmov]; omega⟩
theorem gnodup_get : ∀ {pre rest : List GDat} {x : GDat}, gnodup (pre ++ x :: rest) = true → ∀ y ∈ pre, y.1 ≠ x.1 := by
  intro pre
  induction pre with
  | nil => intro rest x h y hy; simp at hy
  | cons z pre ih =>
    intro rest x h y hy
    simp only [List.cons_append, gnodup, Bool.and_eq_true, List.all_eq_true] at h
    rcases List.mem_cons.1 hy with rfl | hy
    · have := h.1 x (by simp)
      intro e
      rw [e] at this
      simp at this
    · exact ih h.2 y hy

/-- The values of all operations, as far as they are known. -/
def VA (A : Fr) (m : Nat) : List Value := (List.range m).map fun j => (getF A j).getD undef
theorem VA_get {A : Fr} {m j : Nat} (h : j < m) : (VA A m).getD j undef = (getF A j).getD undef := by
  simp [VA, List.getD_eq_getElem?_getD, h]
theorem bringA_to {A : Fr} {m : Nat} : ∀ {l : List (Nat × Nat)} {fr : Fr} {K : Fr → Prop}, (∀ p ∈ l, p.2 < m) → bringA A l fr K → (∀ p ∈ l, ∃ v, getF A p.2 = some v) ∧ K (valsOf (VA A m) l fr) := by
  intro l
  induction l with
  | nil => intro fr K _ h; exact ⟨fun p hp => by simp at hp, h⟩
  | cons p l ih =>
    obtain ⟨d, j⟩ := p
    intro fr K hl h
    obtain ⟨v, hv, h⟩ := getK_iff.1 h
    obtain ⟨h1, h2⟩ := ih (fun p hp => hl p (List.mem_cons_of_mem _ hp)) h
    refine ⟨fun p hp => ?_, ?_⟩
    · rcases List.mem_cons.1 hp with rfl | hp
      · exact ⟨v, hv⟩
      · exact h1 p hp
    · have : (VA A m).getD j undef = v := by rw [VA_get (hl _ (List.mem_cons_self ..)), hv]; rfl
      simpa only [valsOf, this] using h2
theorem valsOf_congr {V W : List Value} : ∀ {l : List (Nat × Nat)} {fr : Fr}, (∀ p ∈ l, V.getD p.2 undef = W.getD p.2 undef) → valsOf V l fr = valsOf W l fr := by
  intro l
  induction l with
  | nil => intro fr _; rfl
  | cons p l ih => obtain ⟨d, j⟩ := p; intro fr h; simp only [valsOf]; rw [h _ (List.mem_cons_self ..), ih fun p hp => h p (List.mem_cons_of_mem _ hp)]
theorem pairs_lt {ops : List Oper} {ms : List Nat} {i : Nat} : ∀ p ∈ pairsOf ops ms i, p.2 < ops.length := by
  intro p hp
  unfold pairsOf at hp
  simp only [List.mem_filterMap, Prod.exists] at hp
  obtain ⟨o, j, hj, h⟩ := hp
  have ho := List.mem_zipIdx_iff_getElem?.1 hj
  simp only at h ho
  split at h
  · split at h
    · simp only [Option.some.injEq] at h; subst h; exact (List.getElem?_eq_some_iff.1 ho).1
    · simp at h
  · simp at h
theorem ends_lt {ops : List Oper} : ∀ p ∈ endsOf ops, p.2 < ops.length := by
  intro p hp
  unfold endsOf at hp
  simp only [List.mem_filterMap, Prod.exists] at hp
  obtain ⟨o, j, hj, h⟩ := hp
  have ho := List.mem_zipIdx_iff_getElem?.1 hj
  simp only at h ho
  split at h
  · simp only [Option.some.injEq] at h; subst h; exact (List.getElem?_eq_some_iff.1 ho).1
  · simp at h

/-- What is known of an operation that changes nothing, from a heap on. -/
def FF (P : Program) (ops : List Oper) (ms : List Nat) (fr : Fr) (A : Fr) (i : Nat) (o : Oper) (K : Heap) : Prop :=
  (∀ p ∈ pairsOf ops ms i, ∃ v, getF A p.2 = some v) ∧ (∃ v, getF A i = some v) ∧
  ∀ K', Grow K K' → wantK ops (envOf ops ms (VA A ops.length) fr i) o.guard (boper P o (envOf ops ms (VA A ops.length) fr i) K' fun v H' => v = (VA A ops.length).getD i undef ∧ H' = K') ((VA A ops.length).getD i undef = undef)
theorem FF.grow {P : Program} {ops : List Oper} {ms : List Nat} {fr : Fr} {A : Fr} {i : Nat} {o : Oper} {K K' : Heap} (h : FF P ops ms fr A i o K) (g : Grow K K') : FF P ops ms fr A i o K' :=
  ⟨h.1, h.2.1, fun L gl => h.2.2 L (g.trans gl)⟩
theorem FF.add {P : Program} {ops : List Oper} {ms : List Nat} {fr : Fr} {A : Fr} {i : Nat} {o : Oper} {K : Heap} (hil : i < ops.length) (h : FF P ops ms fr A i o K) {j : Nat} {v : Value} (hj : getF A j = none) : FF P ops ms fr ((j, v) :: A) i o K := by
  have key : ∀ t u, getF A t = some u → getF ((j, v) :: A) t = some u := by
    intro t u h1
    simp only [getF]
    split
    · rename_i e; have := Nat.eq_of_beq_eq_true e; subst this; rw [hj] at h1; simp at h1
    · exact h1
  obtain ⟨h1, ⟨u, h2⟩, h3⟩ := h
  have e : envOf ops ms (VA ((j, v) :: A) ops.length) fr i = envOf ops ms (VA A ops.length) fr i := by
    rw [envOf_eq, envOf_eq]
    refine valsOf_congr fun p hp => ?_
    obtain ⟨x, hx⟩ := h1 p hp
    rw [VA_get (pairs_lt p hp), VA_get (pairs_lt p hp), hx, key _ _ hx]
  refine ⟨fun p hp => let ⟨x, hx⟩ := h1 p hp; ⟨x, key _ _ hx⟩, ⟨u, key _ _ h2⟩, fun K' g => ?_⟩
  have h4 := h3 K' g
  have e2 : (VA ((j, v) :: A) ops.length).getD i undef = (VA A ops.length).getD i undef := by rw [VA_get hil, VA_get hil, h2, key _ _ h2]
  rw [e, e2]
  exact h4
theorem wantK_iff {ops : List Oper} {fr : Fr} {g : Option (Nat × Bool)} {X Y : Prop} (h : wantK ops fr g X Y) : (X ∧ ∀ X' Y', X' → wantK ops fr g X' Y') ∨ (Y ∧ ∀ X' Y', Y' → wantK ops fr g X' Y') := by
  unfold wantK at h ⊢
  split at h
  · exact .inl ⟨h, fun X' Y' x => x⟩
  · split at h
    · obtain ⟨v, hv, h⟩ := getK_iff.1 h
      split at h
      · rename_i b
        split at h
        · rcases h.out with ⟨rfl, h⟩ | ⟨rfl, h⟩
          · exact .inl ⟨h, fun X' Y' x => getK_iff.2 ⟨_, hv, x⟩⟩
          · exact .inr ⟨h, fun X' Y' x => getK_iff.2 ⟨_, hv, x⟩⟩
        · rcases h.out with ⟨rfl, h⟩ | ⟨rfl, h⟩
          · exact .inr ⟨h, fun X' Y' x => getK_iff.2 ⟨_, hv, x⟩⟩
          · exact .inl ⟨h, fun X' Y' x => getK_iff.2 ⟨_, hv, x⟩⟩
      · rename_i hne
        refine .inr ⟨h, fun X' Y' x => getK_iff.2 ⟨_, hv, ?_⟩⟩
        split
        · exact absurd rfl (hne _)
        · exact x
    · exact .inr ⟨h, fun X' Y' x => x⟩

/-- How far a region has come in its earliest order. -/
structure St (P : Program) (ops : List Oper) (ms : List Nat) (fr : Fr) (E : List (Nat × Nat)) (Q : BPost) (pre rest : List GDat) (A : Fr) (K : Heap) : Prop where
  dom : ∀ j v, getF A j = some v → ∃ x ∈ pre, x.1 = j
  facts : ∀ x ∈ pre, ∀ o, ops[x.1]? = some o → isMover o = false → FF P ops ms fr A x.1 o K
  go : gops P ops fr E Q rest A K

theorem St.floats {P : Program} {ops : List Oper} {fr : Fr} {E : List (Nat × Nat)} {Q : BPost} : ∀ {rest pre : List GDat} {A : Fr} {K : Heap}, gfit ops (masks ops) (pre ++ rest) 0 = true → gnodup (pre ++ rest) = true → St P ops (masks ops) fr E Q pre rest A K →
    ∃ pre' rest' A', pre ++ rest = pre' ++ rest' ∧ cmov pre' = cmov pre ∧ (rest' = [] ∨ ∃ x r, rest' = x :: r ∧ x.2.2.2 = true) ∧ St P ops (masks ops) fr E Q pre' rest' A' K ∧ ∀ j, (∃ x ∈ pre, x.1 = j) → getF A' j = getF A j := by
  intro rest
  induction rest with
  | nil => intro pre A K hf hn h; exact ⟨pre, [], A, rfl, rfl, .inl rfl, h, fun _ _ => rfl⟩
  | cons x rest ih =>
    intro pre A K hf hn h
    cases hx : x.2.2.2 with
    | true => exact ⟨pre, x :: rest, A, rfl, rfl, .inr ⟨x, rest, rfl, hx⟩, h, fun _ _ => rfl⟩
    | false =>
      obtain ⟨o, ho, hav, hex, hmv, hlo, _⟩ := gfit_get hf
      have hnd := gnodup_get hn
      obtain ⟨i, av, ex, mv⟩ := x
      simp only at ho hav hex hmv hlo hx hnd
      subst hx hav hex
      have hil : i < ops.length := (List.getElem?_eq_some_iff.1 ho).1
      have hnone : getF A i = none := by
        cases hg : getF A i with
        | none => rfl
        | some v => obtain ⟨y, hy, e⟩ := h.dom i v hg; exact absurd e (hnd y hy)
      have hgo := h.go
      simp only [gops] at hgo
      obtain ⟨o', ho', hgo⟩ := hgo.out
      rw [ho] at ho'
      simp only [Option.some.injEq] at ho'
      subst ho'
      obtain ⟨hp, hgo⟩ := bringA_to (m := ops.length) pairs_lt hgo
      rw [← envOf_eq] at hgo
      have fin : ∀ v, gops P ops fr E Q rest ((i, v) :: A) K → (∀ K', Grow K K' → wantK ops (envOf ops (masks ops) (VA A ops.length) fr i) o.guard (boper P o (envOf ops (masks ops) (VA A ops.length) fr i) K' fun u H' => u = v ∧ H' = K') (v = undef)) →
          ∃ pre' rest' A', pre ++ (i, pairsOf ops (masks ops) i, exOf ops (masks ops) i, false) :: rest = pre' ++ rest' ∧ cmov pre' = cmov pre ∧ (rest' = [] ∨ ∃ x r, rest' = x :: r ∧ x.2.2.2 = true) ∧ St P ops (masks ops) fr E Q pre' rest' A' K ∧ ∀ j, (∃ x ∈ pre, x.1 = j) → getF A' j = getF A j := by
        intro v hg hff
        have hgi : getF ((i, v) :: A) i = some v := by simp [getF]
        have hkeep : ∀ t u, getF A t = some u → getF ((i, v) :: A) t = some u := by
          intro t u h1
          simp only [getF]
          split
          · rename_i e; have := Nat.eq_of_beq_eq_true e; subst this; rw [hnone] at h1; simp at h1
          · exact h1
        have hE : envOf ops (masks ops) (VA ((i, v) :: A) ops.length) fr i = envOf ops (masks ops) (VA A ops.length) fr i := by
          rw [envOf_eq, envOf_eq]
          refine valsOf_congr fun p hp' => ?_
          obtain ⟨x, hx⟩ := hp p hp'
          rw [VA_get (pairs_lt p hp'), VA_get (pairs_lt p hp'), hx, hkeep _ _ hx]
        have hnew : St P ops (masks ops) fr E Q (pre ++ [(i, pairsOf ops (masks ops) i, exOf ops (masks ops) i, false)]) rest ((i, v) :: A) K := by
          refine ⟨fun j u hj => ?_, fun y hy o1 ho1 hm1 => ?_, hg⟩
          · simp only [getF] at hj
            split at hj
            · rename_i e; have := Nat.eq_of_beq_eq_true e; subst this; exact ⟨_, List.mem_append_right _ (List.mem_singleton.2 rfl), rfl⟩
            · obtain ⟨y, hy, e⟩ := h.dom j u hj; exact ⟨y, List.mem_append_left _ hy, e⟩
          · rcases List.mem_append.1 hy with hy | hy
            · exact (h.facts y hy o1 ho1 hm1).add (List.getElem?_eq_some_iff.1 ho1).1 hnone
            · rw [List.mem_singleton] at hy
              subst hy
              simp only at ho1
              rw [ho] at ho1
              simp only [Option.some.injEq] at ho1
              subst ho1
              refine ⟨fun p hp' => let ⟨x, hx⟩ := hp p hp'; ⟨x, hkeep _ _ hx⟩, ⟨v, hgi⟩, fun K' g => ?_⟩
              have e2 : (VA ((i, v) :: A) ops.length).getD i undef = v := by rw [VA_get hil, hgi]; rfl
              simp only [hE, e2]
              exact hff K' g
        obtain ⟨pre', rest', A', e1, e2, e3, e4, e5⟩ := ih (by simpa using hf) (by simpa using hn) hnew
        refine ⟨pre', rest', A', by rw [← e1]; simp, by rw [e2, cmov_append]; simp [cmov], e3, e4, fun j hj => ?_⟩
        obtain ⟨y, hy, rfl⟩ := hj
        rw [e5 _ ⟨y, List.mem_append_left _ hy, rfl⟩]
        have : y.1 ≠ i := hnd y hy
        simp only [getF]
        split
        · rename_i e; exact absurd (Nat.eq_of_beq_eq_true e).symm this
        · rfl
      rcases wantK_iff (show wantK ops _ o.guard _ _ from hgo) with ⟨hgo, hw⟩ | ⟨hgo, hw⟩
      · obtain ⟨v, h1, h2⟩ := float_mono hmv.symm (show boper P o _ K _ from hgo)
        exact fin v h1 fun K' g => hw _ _ (h2 K' g _ ⟨rfl, rfl⟩)
      · exact fin undef hgo fun K' g => hw _ _ rfl

theorem SW.drawG {P : Program} {n : Nat} {id : Nat} {ops : Array Oper} {Q : BPost} {fr : Fr} {H : Heap} (L : List GDat) (E : List (Nat × Nat)) (F : Fr) (hm : P.follows .mixedOrders = true) (hok : gIs n ops.toList L E = true) (hF : Has fr F)
    (h : gops P ops.toList F E Q L [] H) : SW P n (.region id ops true) Q fr H := by
  refine SW.sub ?_ (Sub.of hF)
  simp only [gIs, Bool.and_eq_true, List.all_eq_true, decide_eq_true_eq] at hok
  obtain ⟨⟨⟨⟨⟨h1, hfit⟩, hnd⟩, hall⟩, rfl⟩, hnm⟩ := hok
  have hnm' := Nat.eq_of_beq_eq_true hnm
  let R : Nat → List Value → Heap → Prop := fun k V K => ∃ A pre rest, V = VA A ops.toList.length ∧ L = pre ++ rest ∧ cmov pre = k ∧ (rest = [] ∨ ∃ x r, rest = x :: r ∧ x.2.2.2 = true) ∧ St P ops.toList (masks ops.toList) F (endsOf ops.toList) Q pre rest A K
  have place : ∀ i, i < ops.toList.length → ∃ a b x, L = a ++ x :: b ∧ x.1 = i := by
    intro i hi
    have := hall i (List.mem_range.2 hi)
    rw [List.any_eq_true] at this
    obtain ⟨x, hx, e⟩ := this
    obtain ⟨a, b, hab⟩ := List.append_of_mem hx
    exact ⟨a, b, x, hab, Nat.eq_of_beq_eq_true e⟩
  refine SW.drawV R hm h1 ?_ ?_ ?_ ?_
  · have s0 : St P ops.toList (masks ops.toList) F (endsOf ops.toList) Q [] L [] H := ⟨fun j v hj => by simp [getF] at hj, fun x hx => by simp at hx, h⟩
    obtain ⟨pre', rest', A', e1, e2, e3, e4, _⟩ := s0.floats (by simpa using hfit) (by simpa using hnd)
    exact ⟨_, A', pre', rest', rfl, by simpa using e1, by simpa [cmov] using e2, e3, e4⟩
  · -- what changes nothing
    rintro i o k V K ho hmo hlo hhi ⟨A, pre, rest, rfl, e1, e2, e3, st⟩
    obtain ⟨a, b, x, hab, rfl⟩ := place i (List.getElem?_eq_some_iff.1 ho).1
    have hfx := hfit
    rw [hab] at hfx
    obtain ⟨o', ho', _, _, hmv, hlo', _⟩ := gfit_get hfx
    rw [ho] at ho'
    simp only [Option.some.injEq] at ho'
    subst ho'
    have hin : x ∈ pre := by
      -- else it stands in the rest, behind a change
      have hx : x ∈ pre ++ rest := by rw [← e1, hab]; simp
      rcases List.mem_append.1 hx with hx | hx
      · exact hx
      · exfalso
        obtain ⟨r1, r2, hr⟩ := List.append_of_mem hx
        rcases e3 with e3 | ⟨y, r, e3, hy⟩
        · rw [e3] at hx; simp at hx
        · have hfx2 := hfit
          rw [e1, hr, ← List.append_assoc] at hfx2
          obtain ⟨_, _, _, _, _, hlo2, _⟩ := gfit_get hfx2
          rw [cmov_append] at hlo2
          cases r1 with
          | nil =>
            rw [List.nil_append, e3] at hr
            simp only [List.cons.injEq] at hr
            rw [hr.1, hmv, hmo] at hy
            simp at hy
          | cons z r1 =>
            rw [e3, List.cons_append] at hr
            simp only [List.cons.injEq] at hr
            obtain ⟨rfl, _⟩ := hr
            obtain ⟨zi, za, ze, zm⟩ := y
            simp only at hy
            subst hy
            simp only [cmov] at hlo2
            omega
    exact (st.facts x hin o ho hmo).2.2 K (.refl _)
  · -- what lays blocks
    rintro i o k V K ho hmo hlo hhi ⟨A, pre, rest, rfl, e1, e2, e3, st⟩
    obtain ⟨a, b, x, hab, rfl⟩ := place i (List.getElem?_eq_some_iff.1 ho).1
    have hfx := hfit
    rw [hab] at hfx
    obtain ⟨o', ho', _, _, hmv, hlo', hhi'⟩ := gfit_get hfx
    rw [ho] at ho'
    simp only [Option.some.injEq] at ho'
    subst ho'
    have hxm : x.2.2.2 = true := hmv.trans hmo
    have hhi2 := hhi' hxm
    -- it is the next one
    have hrest : ∃ r, rest = x :: r := by
      have hx : x ∈ pre ++ rest := by rw [← e1, hab]; simp
      rcases List.mem_append.1 hx with hx | hx
      · exfalso
        obtain ⟨p1, p2, hp⟩ := List.append_of_mem hx
        have hfx2 := hfit
        rw [e1, hp, List.append_assoc, List.cons_append] at hfx2
        obtain ⟨_, _, _, _, _, hlo2, _⟩ := gfit_get hfx2
        rw [hp, cmov_append] at e2
        obtain ⟨zi, za, ze, zm⟩ := x
        simp only at hxm
        subst hxm
        simp only [cmov] at e2
        simp only at hlo2 hlo' hlo hhi hhi2
        omega
      · obtain ⟨r1, r2, hr⟩ := List.append_of_mem hx
        rcases e3 with e3 | ⟨y, r, e3, hy⟩
        · rw [e3] at hx; simp at hx
        · have hfx2 := hfit
          rw [e1, hr, ← List.append_assoc] at hfx2
          obtain ⟨_, _, _, _, _, hlo2, _⟩ := gfit_get hfx2
          rw [cmov_append] at hlo2
          cases r1 with
          | nil => exact ⟨r2, by simpa using hr⟩
          | cons z r1 =>
            exfalso
            rw [e3, List.cons_append] at hr
            simp only [List.cons.injEq] at hr
            obtain ⟨rfl, _⟩ := hr
            obtain ⟨zi, za, ze, zm⟩ := y
            simp only at hy
            subst hy
            simp only [cmov] at hlo2
            omega
    obtain ⟨r, rfl⟩ := hrest
    have hfx2 := hfit
    rw [e1] at hfx2
    have hnd2 := hnd
    rw [e1] at hnd2
    obtain ⟨_, ho2, hav, hex, _, _, _⟩ := gfit_get hfx2
    have hne := gnodup_get hnd2
    have hnone : getF A x.1 = none := by
      cases hg : getF A x.1 with
      | none => rfl
      | some v => obtain ⟨y, hy, e⟩ := st.dom _ v hg; exact absurd e (hne y hy)
    have hil : x.1 < ops.toList.length := (List.getElem?_eq_some_iff.1 ho).1
    have hgo := st.go
    obtain ⟨i, av, ex, mv⟩ := x
    simp only at hxm hav hex ho hnone hne hil
    subst hxm hav hex
    simp only [gops] at hgo
    obtain ⟨o', ho', hgo⟩ := hgo.out
    rw [ho] at ho'
    simp only [Option.some.injEq] at ho'
    subst ho'
    obtain ⟨hp, hgo⟩ := bringA_to (m := ops.toList.length) pairs_lt hgo
    rw [← envOf_eq] at hgo
    have fin : ∀ (v : Value) (H' : Heap), Grow K H' → gops P ops.toList F (endsOf ops.toList) Q r ((i, v) :: A) H' →
        ∃ V', R (k + 1) V' H' ∧ V'.getD i undef = v ∧ ∀ (j : Nat), j < ops.size → loOf ops.toList (masks ops.toList) j ≤ k → j ≠ i → V'.getD j undef = (VA A ops.toList.length).getD j undef := by
      intro v H' g hg
      have hnew : St P ops.toList (masks ops.toList) F (endsOf ops.toList) Q (pre ++ [(i, pairsOf ops.toList (masks ops.toList) i, exOf ops.toList (masks ops.toList) i, true)]) r ((i, v) :: A) H' := by
        refine ⟨fun j u hj => ?_, fun y hy o1 ho1 hm1 => ?_, hg⟩
        · simp only [getF] at hj
          split at hj
          · rename_i e; have := Nat.eq_of_beq_eq_true e; subst this; exact ⟨_, List.mem_append_right _ (List.mem_singleton.2 rfl), rfl⟩
          · obtain ⟨y, hy, e⟩ := st.dom j u hj; exact ⟨y, List.mem_append_left _ hy, e⟩
        · rcases List.mem_append.1 hy with hy | hy
          · exact ((st.facts y hy o1 ho1 hm1).grow g).add (List.getElem?_eq_some_iff.1 ho1).1 hnone
          · rw [List.mem_singleton] at hy
            subst hy
            simp only at ho1
            rw [ho] at ho1
            simp only [Option.some.injEq] at ho1
            subst ho1
            rw [hmo] at hm1
            simp at hm1
      obtain ⟨pre', rest', A', f1, f2, f3, f4, f5⟩ := hnew.floats (by simpa using hfx2) (by simpa using hnd2)
      refine ⟨_, ⟨A', pre', rest', rfl, by rw [e1, ← f1]; simp, by rw [f2, cmov_append, e2]; simp [cmov], f3, f4⟩, ?_, fun j hj hloj hji => ?_⟩
      · rw [VA_get hil, f5 i ⟨_, List.mem_append_right _ (List.mem_singleton.2 rfl), rfl⟩]
        simp [getF]
      · have hjl : j < ops.toList.length := by simpa using hj
        rw [VA_get hjl, VA_get hjl]
        -- j stands ahead
        obtain ⟨a2, b2, x2, hab2, rfl⟩ := place j hjl
        have hin : x2 ∈ pre := by
          have hx : x2 ∈ pre ++ (i, pairsOf ops.toList (masks ops.toList) i, exOf ops.toList (masks ops.toList) i, true) :: r := by rw [← e1, hab2]; simp
          rcases List.mem_append.1 hx with hx | hx
          · exact hx
          · exfalso
            rcases List.mem_cons.1 hx with rfl | hx
            · exact hji rfl
            · obtain ⟨r1, r2, hr⟩ := List.append_of_mem hx
              have hfx3 := hfit
              rw [e1, hr, ← List.cons_append, ← List.append_assoc] at hfx3
              obtain ⟨_, _, _, _, _, hlo2, _⟩ := gfit_get hfx3
              rw [cmov_append] at hlo2
              simp only [cmov] at hlo2
              omega
        rw [f5 x2.1 ⟨x2, List.mem_append_left _ hin, rfl⟩]
        simp only [getF]
        split
        · rename_i e; exact absurd (Nat.eq_of_beq_eq_true e).symm hji
        · rfl
    rcases wantK_iff (show wantK ops.toList _ o.guard _ _ from hgo) with ⟨hgo, hw⟩ | ⟨hgo, hw⟩
    · refine hw _ _ (boper_mono (K := fun v H' => Grows K H' (gops P ops.toList F (endsOf ops.toList) Q r ((i, v) :: A) H')) hgo fun v H' hk => fin v H' hk.g hk.x)
    · exact hw _ _ (fin undef K (.refl _) hgo)
  · -- the end
    rintro V K ⟨A, pre, rest, rfl, e1, e2, e3, st⟩
    have hr : rest = [] := by
      rcases e3 with e3 | ⟨y, r, e3, hy⟩
      · exact e3
      · exfalso
        rw [e1, cmov_append, e3, e2] at hnm'
        obtain ⟨zi, za, ze, zm⟩ := y
        simp only at hy
        subst hy
        simp only [cmov] at hnm'
        omega
    have hgo := st.go
    rw [hr] at hgo
    simp only [gops] at hgo
    obtain ⟨_, hgo⟩ := bringA_to (m := ops.toList.length) ends_lt hgo
    rw [endOf_eq]
    exact hgo
end Go.Proofs.YtmdpifedcaaobaaDoor.Ax
/- The abstract machine: lists that lie in rows of cells, strings compared, and small laws of counting. -/
set_option linter.unusedVariables false
set_option linter.unusedSimpArgs false
namespace Go.Proofs.YtmdpifedcaaobaaDoor.Ax
open Go Go.RowKit
theorem ba_beq (s t : ByteArray) : (s == t) = decide (s = t) := by
  show (s.data == t.data) = _
  by_cases h : s = t
  · subst h; simp
  · rw [decide_eq_false h, beq_eq_false_iff_ne]; exact fun e => h (ByteArray.ext e)
theorem ba_bne (s t : ByteArray) : (s != t) = decide (s ≠ t) := by
  show (!(s == t)) = _
  rw [ba_beq]; by_cases h : s = t <;> simp [h]
theorem ba_ne_t {s t : ByteArray} : (s != t) = true ↔ s ≠ t := by rw [ba_bne, decide_eq_true_eq]
theorem ba_ne_f {s t : ByteArray} : (s != t) = false ↔ s = t := by rw [ba_bne, decide_eq_false_iff_not]; simp
theorem ba_eq_t {s t : ByteArray} : (s == t) = true ↔ s = t := by rw [ba_beq, decide_eq_true_eq]
theorem ba_eq_f {s t : ByteArray} : (s == t) = false ↔ s ≠ t := by rw [ba_beq, decide_eq_false_iff_not]
theorem w_succ {k : Nat} (h : k < 9223372036854775807) : IntKind.i64.wrap ((k : Int) + 1) = ((k + 1 : Nat) : Int) := by rw [wrap_i64 (by omega) (by omega)]; omega
theorem take_next {α : Type} {L M : List α} {m : Nat} {x : α} (h : L.take m = M.take m) (hx : L[m]? = some x) (hy : M[m]? = some x) : L.take (m + 1) = M.take (m + 1) := by
  apply List.ext_getElem?
  intro i
  have := congrArg (·[i]?) h
  simp only [List.getElem?_take] at this ⊢
  by_cases hi : i < m
  · simp only [if_pos hi] at this; simpa [if_pos (show i < m + 1 by omega)] using this
  · by_cases hm : i = m
    · subst hm; rw [if_pos (by omega), if_pos (by omega), hx, hy]
    · rw [if_neg (by omega), if_neg (by omega)]
theorem get_lt {α : Type} {L : List α} {m : Nat} (h : m < L.length) : ∃ x, L[m]? = some x := ⟨_, List.getElem?_eq_getElem h⟩
theorem lt_of_get {α : Type} {L : List α} {m : Nat} {x : α} (h : L[m]? = some x) : m < L.length := (List.getElem?_eq_some_iff.1 h).1
/-- A list that lies in a row of cells. -/
def RL {α : Type} (k : Nat) (f : Heap → List Value → α → Prop) (H : Heap) (sv : Value) (L : List α) : Prop :=
  (sv = .slice none 0 0 ∧ L = []) ∨ ∃ b, sv = .slice (some ⟨b, 0, none⟩) L.length k ∧ (L = [] ∨ ∃ m c, H[b]? = some (.cells m c) ∧ ∀ (i : Nat) (x : α), L[i]? = some x → ∃ l, slotsOf c (i * k) k = some l ∧ f H l x)
theorem RL.grow {α : Type} {k : Nat} {f : Heap → List Value → α → Prop} {H H' : Heap} {sv : Value} {L : List α} (hf : ∀ l x, f H l x → f H' l x) (h : RL k f H sv L) (g : Grow H H') : RL k f H' sv L := by
  rcases h with h | ⟨b, h1, h2 | ⟨m, c, h2, h3⟩⟩
  · exact .inl h
  · exact .inr ⟨b, h1, .inl h2⟩
  · exact .inr ⟨b, h1, .inr ⟨m, c, g.at h2, fun i x hx => let ⟨l, h4, h5⟩ := h3 i x hx; ⟨l, h4, hf _ _ h5⟩⟩⟩
theorem RL.len {α : Type} {k : Nat} {f : Heap → List Value → α → Prop} {H : Heap} {sv : Value} {L : List α} (h : RL k f H sv L) {P : Program} {t e : TypeId} (ht : P.underlying t = some (.slice e)) (H' : Heap) : alen P t sv H' = some (.int .i64 L.length) := by
  rcases h with ⟨rfl, rfl⟩ | ⟨b, rfl, _⟩ <;> simp [alen, ht]
theorem RL.at {α : Type} {k : Nat} {f : Heap → List Value → α → Prop} {H : Heap} {sv : Value} {L : List α} (h : RL k f H sv L) {P : Program} {t e : TypeId} (he : sliceElem P t = some e) (hk : tsize P e = some k) {i : Nat} {x : α} (hx : L[i]? = some x) :
    ∃ b c l, aindexAddr P t sv (.int .i64 (i : Int)) = some (.pointer (some ⟨b, i * k, none⟩)) ∧ hblk H b = some c ∧ slotsOf c (i * k) k = some l ∧ f H l x := by
  have hl := (List.getElem?_eq_some_iff.1 hx).1
  rcases h with ⟨rfl, rfl⟩ | ⟨b, rfl, rfl | ⟨m, c, h2, h3⟩⟩
  · simp at hx
  · simp at hx
  · obtain ⟨l, h4, h5⟩ := h3 i x hx
    refine ⟨b, c, l, ?_, hblk_of h2, h4, h5⟩
    rw [idx_slice (off := 0) (k := k) he hk (by omega) (by omega)]
    simp
theorem RL.ofTy {α : Type} {T : Ty α} {f : Heap → List Value → α → Prop} {H : Heap} {c0 : List Value} {x0 : List α} (hf : ∀ l x, T.R H l x → f H l x) (R : (tSlice T).R H c0 x0) : ∃ sv, c0 = [sv] ∧ RL T.sz f H sv x0 := by
  rcases R with ⟨rfl, rfl⟩ | ⟨b, rfl, h⟩
  · exact ⟨_, rfl, .inl ⟨rfl, rfl⟩⟩
  · refine ⟨_, rfl, .inr ⟨b, rfl, ?_⟩⟩
    rcases h with h | ⟨c, h1, h2, h3⟩
    · exact .inl h
    · refine .inr ⟨_, c, h1, fun i x hx => ⟨_, ?_, hf _ _ (h3 i x hx)⟩⟩
      have hl := (List.getElem?_eq_some_iff.1 hx).1
      have : i * T.sz + T.sz ≤ x0.length * T.sz := by rw [← Nat.succ_mul]; exact Nat.mul_le_mul_right _ hl
      exact slots_of (by omega)
/-- An element of one cell. -/
theorem RL.ld1 {α : Type} {f : Heap → List Value → α → Prop} {g : α → Value} (hf : ∀ H l x, f H l x → l = [g x]) {H : Heap} {sv : Value} {L : List α} (h : RL 1 f H sv L) {P : Program} {t e : TypeId} {d : TypeDesc} (he : sliceElem P t = some e) (hk : tsize P e = some 1) (hd : P.underlying e = some d) (ha : isAggD d = false) {i : Nat} {x : α} (hx : L[i]? = some x) :
    ∃ q, aindexAddr P t sv (.int .i64 (i : Int)) = some q ∧ ∀ H', Grow H H' → aload P e q H' = some (g x) := by
  obtain ⟨b, c, l, h1, h2, h3, h4⟩ := h.at he hk hx
  have := hf _ _ _ h4
  subst this
  refine ⟨_, h1, fun H' gr => ald hd ha (gr.hblk h2) ?_⟩
  unfold slotsOf at h3
  split at h3
  · simp only [Option.some.injEq] at h3
    have := congrArg (·[0]?) h3
    simpa [List.getElem?_take, List.getElem?_drop] using this
  · simp at h3
/-- An element of many cells. -/
theorem RL.ldA {α : Type} {k : Nat} {f : Heap → List Value → α → Prop} {H : Heap} {sv : Value} {L : List α} (h : RL k f H sv L) {P : Program} {t e : TypeId} {d : TypeDesc} (he : sliceElem P t = some e) (hk : tsize P e = some k) (hd : P.underlying e = some d) (ha : isAggD d = true) {i : Nat} {x : α} (hx : L[i]? = some x) :
    ∃ q l, aindexAddr P t sv (.int .i64 (i : Int)) = some q ∧ f H l x ∧ ∀ H', Grow H H' → aload P e q H' = some (.agg l.toArray) := by
  obtain ⟨b, c, l, h1, h2, h3, h4⟩ := h.at he hk hx
  exact ⟨_, l, h1, h4, fun H' gr => ald_agg hd ha hk (gr.hblk h2) h3⟩
def strR (_ : Heap) (l : List Value) (x : ByteArray) : Prop := l = [.string x]
theorem strR.grow {H H' : Heap} {sv : Value} {L : List ByteArray} (h : RL 1 strR H sv L) (g : Grow H H') : RL 1 strR H' sv L := RL.grow (fun l x (h : strR H l x) => (h : strR H' l x)) h g
def intR (_ : Heap) (l : List Value) (x : Int) : Prop := l = [.int .i64 x]
theorem intR.grow {H H' : Heap} {sv : Value} {L : List Int} (h : RL 1 intR H sv L) (g : Grow H H') : RL 1 intR H' sv L := RL.grow (fun l x (h : intR H l x) => (h : intR H' l x)) h g
theorem cons_of {c l : List Value} {a : Value} (h1 : c.take 1 = [a]) (h2 : c.drop 1 = l) : c = a :: l := by rw [← List.take_append_drop 1 c, h1, h2]; rfl
/-- A row that is one's own is a list that lies in a row of cells. -/
theorem RL.own {α : Type} {f : Heap → List Value → α → Prop} {g : α → Value} (hf : ∀ H x, f H [g x] x) {H : Heap} {b : Nat} {m : Mode} {L : List α} (hb : H[b]? = some (.cells m (L.map g))) : RL 1 f H (.slice (some ⟨b, 0, none⟩) L.length 1) L := by
  refine .inr ⟨b, rfl, .inr ⟨m, _, hb, fun i x hx => ⟨[g x], ?_, hf H x⟩⟩⟩
  have hl := lt_of_get hx
  rw [slots_of (by simp; omega)]
  congr 1
  apply List.ext_getElem?
  intro j
  rw [List.getElem?_take, List.getElem?_drop]
  cases j with
  | zero => simp [hx]
  | succ j => simp
/-- A new block that is told by its cells. -/
theorem Ob2.lay {x : Option (Value × Heap)} {K : Value → Heap → Prop} {H : Heap} (B : Blk) (v : Value) (h : x = some (v, H ++ [B])) (k : ∀ H', H'[H.length]? = some B → Grow H H' → H'.length = H.length + 1 → K v H') : Ob2 x K :=
  .of h (k _ (at_push _ _) (.push _ _) (by simp))
theorem Ob.load {P : Program} {t : TypeId} {q a : Value} {H : Heap} {K : Value → Prop} (h : aload P t q H = some a) (k : K a) : Ob (aload P t q H) K := ⟨a, h, k⟩
end Go.Proofs.YtmdpifedcaaobaaDoor.Ax
