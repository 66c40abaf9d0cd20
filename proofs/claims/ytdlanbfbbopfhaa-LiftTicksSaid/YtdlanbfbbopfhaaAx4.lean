/- The abstract machine: operators, conversions, made values, and that the real ones follow them. -/
import Derived.Test.YtdlanbfbbopfhaaAx3
set_option linter.unusedVariables false
set_option linter.unusedSimpArgs false
namespace Go.Proofs.Ytdlanbfbbopfhaa.Ax
open Go Go.RowKit

def aint (op : BinOp) (k : IntKind) (a b : Int) : Option Value :=
  match op with
  | .add => some (.int k (k.wrap (a + b)))
  | .sub => some (.int k (k.wrap (a - b)))
  | .mul => some (.int k (k.wrap (a * b)))
  | .quo => if b = 0 then none else some (.int k (k.wrap (a.tdiv b)))
  | .rem => if b = 0 then none else some (.int k (a.tmod b))
  | .and => some (.int k (k.wrap (BitVec.ofInt k.bits a &&& BitVec.ofInt k.bits b).toNat))
  | .or => some (.int k (k.wrap (BitVec.ofInt k.bits a ||| BitVec.ofInt k.bits b).toNat))
  | .xor => some (.int k (k.wrap (BitVec.ofInt k.bits a ^^^ BitVec.ofInt k.bits b).toNat))
  | .andNot => some (.int k (k.wrap (BitVec.ofInt k.bits a &&& ~~~ BitVec.ofInt k.bits b).toNat))
  | .eql => some (.bool (a == b))
  | .neq => some (.bool (a != b))
  | .lss => some (.bool (decide (a < b)))
  | .leq => some (.bool (decide (a ≤ b)))
  | .gtr => some (.bool (decide (a > b)))
  | .geq => some (.bool (decide (a ≥ b)))
  | _ => none
def ashift (op : BinOp) (k : IntKind) (a b : Int) : Option Value :=
  if b < 0 then none else
  match op with
  | .shl => some (.int k (k.wrap (a * 2 ^ (min b.toNat k.bits))))
  | .shr => some (.int k (a.fdiv (2 ^ (min b.toNat k.bits))))
  | _ => none
def astr (op : BinOp) (a b : ByteArray) : Option Value :=
  match op with
  | .add => if ((a.size + b.size : Nat) : Int) > 9223372036854775807 then none else some (.string (a ++ b))
  | .eql => some (.bool (a == b))
  | .neq => some (.bool (a != b))
  | .lss => some (.bool (Op.bytesLess a.toList b.toList))
  | .leq => some (.bool (Op.bytesLess a.toList b.toList || a == b))
  | .gtr => some (.bool !(Op.bytesLess a.toList b.toList || a == b))
  | .geq => some (.bool !(Op.bytesLess a.toList b.toList))
  | _ => none
/-- Two cells that lead nowhere. -/
def eq1 : Value → Value → Option Bool
  | .int k a, .int k' b => if k = k' then some (a == b) else none
  | .bool a, .bool b => some (a == b)
  | .string a, .string b => some (a == b)
  | _, _ => none
/-- Structs of whole numbers, bools and strings, field by field. -/
def eqFs (P : Program) (xs ys : Array Value) : List Field → Option Bool
  | [] => some true
  | f :: fs =>
    if f.name = "_" then none else
    match P.underlying f.type with
    | some (.int _) | some .bool | some .string => (xs[f.offset]?).bind fun x => (ys[f.offset]?).bind fun y => (eq1 x y).bind fun b => if b then eqFs P xs ys fs else some false
    | _ => none
/-- Field by field, without haste: all fields are looked at. -/
def eqAll (P : Program) (xs ys : Array Value) : List Field → Option Bool
  | [] => some true
  | f :: fs =>
    if f.name = "_" then none else
    match P.underlying f.type, xs[f.offset]?, ys[f.offset]? with
    | some (.int _), some (.int k a), some (.int k' b) => if k = k' then (eqAll P xs ys fs).map fun r => (a == b) && r else none
    | some .bool, some (.bool a), some (.bool b) => (eqAll P xs ys fs).map fun r => (a == b) && r
    | some .string, some (.string a), some (.string b) => (eqAll P xs ys fs).map fun r => (a == b) && r
    | _, _, _ => none
def neg? (op : BinOp) (b : Bool) : Option Value := match op with | .eql => some (.bool b) | .neq => some (.bool !b) | _ => none
def abin (P : Program) (op : BinOp) (t : TypeId) (v u : Value) : Option Value :=
  match v, u with
  | .int k a, .int k' b => match op with
    | .shl | .shr => ashift op k a b
    | _ => if k = k' then aint op k a b else none
  | .string a, .string b => astr op a b
  | .bool a, .bool b => match P.underlying t with | some .bool => neg? op (a == b) | _ => none
  | .pointer none, .pointer p => match P.underlying t with | some (.pointer _) => neg? op p.isNone | _ => none
  | .pointer (some _), .pointer none => match P.underlying t with | some (.pointer _) => neg? op false | _ => none
  | .pointer (some a), .pointer (some b) => match P.underlying t with | some (.pointer e) => if a = b then (P.info? e).bind fun _ => neg? op true else none | _ => none
  | .slice none _ _, .slice p _ _ => match P.underlying t with | some (.slice _) => neg? op p.isNone | _ => none
  | .slice (some _) _ _, .slice none _ _ => match P.underlying t with | some (.slice _) => neg? op false | _ => none
  | .map none, .map p => match P.underlying t with | some (.map _ _) => neg? op p.isNone | _ => none
  | .map (some _), .map none => match P.underlying t with | some (.map _ _) => neg? op false | _ => none
  | .nilFunc, .nilFunc => match P.underlying t with | some (.func ..) => neg? op true | _ => none
  | .func .., .nilFunc | .nilFunc, .func .. => match P.underlying t with | some (.func ..) => neg? op false | _ => none
  | .agg xs, .agg ys => (structOf P t).bind fun fs => if P.eqGuardType P.depth t || P.stoodInHeld t then none else (eqAll P xs ys fs.toList).bind (neg? op)
  | _, _ => none

theorem eqAll_run {P : Program} {ι : List Pl} {xs ys cxs cys : Array Value} (hx : xs.size = cxs.size) (hxv : ∀ i, i < xs.size → VR ι (xs.getD i Go.undef) (cxs.getD i Go.undef))
    (hy : ys.size = cys.size) (hyv : ∀ i, i < ys.size → VR ι (ys.getD i Go.undef) (cys.getD i Go.undef)) (d : Nat) (w : World) : ∀ (fs : List Field) (r : Bool), eqAll P xs ys fs = some r → (Op.eqFields (d + 1) cxs cys fs).run P w = .ok r w := by
  have get : ∀ (a ca : Array Value), a.size = ca.size → (∀ i, i < a.size → VR ι (a.getD i Go.undef) (ca.getD i Go.undef)) → ∀ (i : Nat) (v : Value), a[i]? = some v → ∃ cv, ca[i]? = some cv ∧ VR ι v cv := by
    intro a ca h1 h2 i v hv
    have hlt : i < a.size := (Array.getElem?_eq_some_iff.1 hv).1
    have e := h2 i hlt
    rw [Array.getD_eq_getD_getElem?, hv, Array.getD_eq_getD_getElem?, Array.getElem?_eq_getElem (h1 ▸ hlt)] at e
    exact ⟨ca[i]'(h1 ▸ hlt), Array.getElem?_eq_getElem (h1 ▸ hlt), by simpa using e⟩
  intro fs
  induction fs with
  | nil => intro r h; simp only [eqAll, Option.some.injEq] at h; subst h; rfl
  | cons f fs ih =>
    intro r h
    unfold eqAll at h
    split at h
    · simp at h
    rename_i hn
    split at h
    · rename_i kk k a k' b hu ha hb
      split at h
      · rename_i hk
        subst hk
        simp only [Option.map_eq_some_iff] at h
        obtain ⟨r', h', rfl⟩ := h
        obtain ⟨ca, hca, ra⟩ := get _ _ hx hxv _ _ ha
        obtain ⟨cb, hcb, rb⟩ := get _ _ hy hyv _ _ hb
        cases ra
        cases rb
        have hag : (isAgg f.type).run P w = .ok false w := run_isAgg hu w
        simp only [Op.eqFields, hn, ne_eq, not_false_eq_true, if_true, Sem.run_bind, part, hag, Result.andThen_ok, Bool.false_eq_true, if_false, hca, hcb, Sem.run_pure, run_equalIn_int (P := P) w d f.type _ _ a b hu, Sem.run_ite]
        by_cases hab : a = b
        · subst hab; simp [ih r' h']
        · simp [hab]
      · simp at h
    · rename_i a b hu ha hb
      simp only [Option.map_eq_some_iff] at h
      obtain ⟨r', h', rfl⟩ := h
      obtain ⟨ca, hca, ra⟩ := get _ _ hx hxv _ _ ha
      obtain ⟨cb, hcb, rb⟩ := get _ _ hy hyv _ _ hb
      cases ra
      cases rb
      have hag : (isAgg f.type).run P w = .ok false w := run_isAgg hu w
      simp only [Op.eqFields, hn, ne_eq, not_false_eq_true, if_true, Sem.run_bind, part, hag, Result.andThen_ok, Bool.false_eq_true, if_false, hca, hcb, Sem.run_pure, run_equalIn_bool' (P := P) w d f.type a b hu, Sem.run_ite]
      by_cases hab : a = b
      · subst hab; simp [ih r' h']
      · simp [hab]
    · rename_i a b hu ha hb
      simp only [Option.map_eq_some_iff] at h
      obtain ⟨r', h', rfl⟩ := h
      obtain ⟨ca, hca, ra⟩ := get _ _ hx hxv _ _ ha
      obtain ⟨cb, hcb, rb⟩ := get _ _ hy hyv _ _ hb
      cases ra
      cases rb
      have hag : (isAgg f.type).run P w = .ok false w := run_isAgg hu w
      simp only [Op.eqFields, hn, ne_eq, not_false_eq_true, if_true, Sem.run_bind, part, hag, Result.andThen_ok, Bool.false_eq_true, if_false, hca, hcb, Sem.run_pure, run_equalIn_string (P := P) w d f.type a b hu, Sem.run_ite]
      rw [beq_toListBytes]
      by_cases hab : a.toList = b.toList
      · simp [hab, ih r' h']
      · simp [hab]
    · simp at h

theorem neg?_run {P : Program} {ι : List Pl} {op : BinOp} {b : Bool} {r : Value} {s : Sem Bool} {w : World} (h : neg? op b = some r) (hs : s.run P w = .ok b w) :
    ∃ cr, VR ι r cr ∧ ((op = .eql ∧ (do pure (.bool (← s)) : Sem Value).run P w = .ok cr w) ∨ (op = .neq ∧ (do pure (.bool (!(← s))) : Sem Value).run P w = .ok cr w)) := by
  unfold neg? at h
  split at h
  · simp only [Option.some.injEq] at h; subst h; exact ⟨_, .bool _, .inl ⟨rfl, by simp [hs]⟩⟩
  · simp only [Option.some.injEq] at h; subst h; exact ⟨_, .bool _, .inr ⟨rfl, by simp [hs]⟩⟩
  · simp at h
theorem aint_run {P : Program} {ι : List Pl} {op : BinOp} {t : TypeId} {x y : Operand} {k : IntKind} {a b : Int} {r : Value} (h : aint op k a b = some r) (w : World) :
    ∃ cr, (do eqGuard op t x y (.int k a) (.int k b); binOp op t (.int k a) (.int k b) : Sem Value).run P w = .ok cr w ∧ VR ι r cr := by
  unfold aint at h
  split at h <;>
    first
    | (simp at h; done)
    | (simp only [Option.some.injEq] at h; subst h; refine ⟨_, ?_, VR.int _ _⟩; simp [eqGuard, binOp, Op.intArith, Op.intBits, Op.intCmp]; done)
    | (simp only [Option.some.injEq] at h; subst h; refine ⟨_, ?_, VR.bool _⟩; simp [eqGuard, binOp, Op.intArith, Op.intBits, Op.intCmp]; done)
    | (split at h
       · simp at h
       · rename_i hb; simp only [Option.some.injEq] at h; subst h; refine ⟨_, ?_, VR.int _ _⟩; simp [eqGuard, binOp, Op.intDiv, hb])
theorem ashift_run {P : Program} {ι : List Pl} {op : BinOp} {t : TypeId} {x y : Operand} {k k' : IntKind} {a b : Int} {r : Value} (ho : op = .shl ∨ op = .shr) (h : ashift op k a b = some r) (w : World) :
    ∃ cr, (do eqGuard op t x y (.int k a) (.int k' b); binOp op t (.int k a) (.int k' b) : Sem Value).run P w = .ok cr w ∧ VR ι r cr := by
  unfold ashift at h
  split at h
  · simp at h
  rename_i hb
  rcases ho with rfl | rfl <;> (simp only [Option.some.injEq] at h; subst h; refine ⟨_, ?_, VR.int _ _⟩; simp [eqGuard, binOp, Op.shift, hb])
theorem astr_run {P : Program} {ι : List Pl} {op : BinOp} {t : TypeId} {x y : Operand} {a b : ByteArray} {r : Value} (h : astr op a b = some r) (w : World) :
    ∃ cr, (do eqGuard op t x y (.string a) (.string b); binOp op t (.string a) (.string b) : Sem Value).run P w = .ok cr w ∧ VR ι r cr := by
  unfold astr at h
  have e : (a == b) = (a.toList == b.toList) := beq_toListBytes a b
  split at h <;>
    first
    | (simp at h; done)
    | (simp only [Option.some.injEq] at h; subst h; refine ⟨_, ?_, VR.bool _⟩; simp [eqGuard, binOp, Op.stringOp, e, bne]; done)
    | (split at h
       · simp at h
       · rename_i hb; simp only [Option.some.injEq] at h; subst h; refine ⟨_, ?_, VR.str _⟩; simp only [eqGuard, binOp, Op.stringOp, IntKind.i64]; simp; omega)
theorem equal_run {P : Program} {ι : List Pl} {op : BinOp} {t : TypeId} {x y : Operand} {cv cu r : Value} {b : Bool} (w : World) (h : neg? op b = some r) (hg : ∀ o, (eqGuard o t x y cv cu).run P w = .ok () w)
    (hb : ∀ w : World, binOp .eql t cv cu = (do pure (.bool (← Op.equal t cv cu))) ∧ binOp .neq t cv cu = (do pure (.bool (!(← Op.equal t cv cu))))) (he : (Op.equal t cv cu).run P w = .ok b w) :
    ∃ cr, (do eqGuard op t x y cv cu; binOp op t cv cu : Sem Value).run P w = .ok cr w ∧ VR ι r cr := by
  obtain ⟨cr, hr, ⟨rfl, h1⟩ | ⟨rfl, h1⟩⟩ := neg?_run (ι := ι) h he
  · exact ⟨cr, by rw [Sem.run_bind, hg, Result.andThen_ok, (hb w).1, h1], hr⟩
  · exact ⟨cr, by rw [Sem.run_bind, hg, Result.andThen_ok, (hb w).2, h1], hr⟩
theorem equal_eq (t : TypeId) (x y : Value) : Op.equal t x y = Op.equalIn (9999 + 1) t x y := rfl
theorem eq_bool {P : Program} {t : TypeId} (h : P.underlying t = some .bool) (a b : Bool) (d : Nat) (w : World) : (Op.equalIn (d + 1) t (.bool a) (.bool b)).run P w = .ok (a == b) w := by simp [Op.equalIn, run_underlying h]
theorem eq_ptr1 {P : Program} {t e : TypeId} (h : P.underlying t = some (.pointer e)) (p : Option Addr) (d : Nat) (w : World) : (Op.equalIn (d + 1) t (.pointer none) (.pointer p)).run P w = .ok p.isNone w := by simp [Op.equalIn, run_underlying h]
theorem eq_ptr2 {P : Program} {t e : TypeId} (h : P.underlying t = some (.pointer e)) (a : Addr) (d : Nat) (w : World) : (Op.equalIn (d + 1) t (.pointer (some a)) (.pointer none)).run P w = .ok false w := by simp [Op.equalIn, run_underlying h]
theorem eq_sl1 {P : Program} {t e : TypeId} (h : P.underlying t = some (.slice e)) (p : Option Addr) (n c n' c' d : Nat) (w : World) : (Op.equalIn (d + 1) t (.slice none n c) (.slice p n' c')).run P w = .ok p.isNone w := by simp [Op.equalIn, run_underlying h]
theorem eq_sl2 {P : Program} {t e : TypeId} (h : P.underlying t = some (.slice e)) (a : Addr) (n c n' c' d : Nat) (w : World) : (Op.equalIn (d + 1) t (.slice (some a) n c) (.slice none n' c')).run P w = .ok false w := by simp [Op.equalIn, run_underlying h]
theorem eq_map1 {P : Program} {t k e : TypeId} (h : P.underlying t = some (.map k e)) (p : Option Nat) (d : Nat) (w : World) : (Op.equalIn (d + 1) t (.map none) (.map p)).run P w = .ok p.isNone w := by simp [Op.equalIn, run_underlying h]
theorem eq_map2 {P : Program} {t k e : TypeId} (h : P.underlying t = some (.map k e)) (a : Nat) (d : Nat) (w : World) : (Op.equalIn (d + 1) t (.map (some a)) (.map none)).run P w = .ok false w := by simp [Op.equalIn, run_underlying h]
theorem eq_fn0 {P : Program} {t : TypeId} {ps rs : Array TypeId} {v : Bool} (h : P.underlying t = some (.func ps rs v)) (d : Nat) (w : World) : (Op.equalIn (d + 1) t .nilFunc .nilFunc).run P w = .ok true w := by simp [Op.equalIn, run_underlying h]
theorem eq_fn1 {P : Program} {t : TypeId} {ps rs : Array TypeId} {v : Bool} (h : P.underlying t = some (.func ps rs v)) (fn : Fn) (a b : Array Value) (d : Nat) (w : World) : (Op.equalIn (d + 1) t (.func fn a b) .nilFunc).run P w = .ok false w := by simp [Op.equalIn, run_underlying h]
theorem eq_fn2 {P : Program} {t : TypeId} {ps rs : Array TypeId} {v : Bool} (h : P.underlying t = some (.func ps rs v)) (fn : Fn) (a b : Array Value) (d : Nat) (w : World) : (Op.equalIn (d + 1) t .nilFunc (.func fn a b)).run P w = .ok false w := by simp [Op.equalIn, run_underlying h]
theorem eq_ptr3 {P : Program} {t e : TypeId} {i : TypeInfo} (h : P.underlying t = some (.pointer e)) (hi : P.info? e = some i) (a : Addr) (d : Nat) (w : World) : (Op.equalIn (d + 1) t (.pointer (some a)) (.pointer (some a))).run P w = .ok true w := by
  have h1 : (sameAddr a a).run P w = .ok true w := by simp [sameAddr]
  simp [Op.equalIn, run_underlying h, sizeOf, typeInfo, hi, h1]
theorem abin_run {P : Program} {ι : List Pl} {op : BinOp} {t : TypeId} {x y : Operand} {v u r cv cu : Value} (hv : VR ι v cv) (hu : VR ι u cu) (h : abin P op t v u = some r) (w : World) :
    ∃ cr, (do eqGuard op t x y cv cu; binOp op t cv cu : Sem Value).run P w = .ok cr w ∧ VR ι r cr := by
  unfold abin at h
  split at h
  · cases hv; cases hu
    split at h
    · exact ashift_run (.inl rfl) h w
    · exact ashift_run (.inr rfl) h w
    · split at h
      · rename_i hk; subst hk; exact aint_run h w
      · simp at h
  · cases hv; cases hu
    exact astr_run h w
  · cases hv; cases hu
    split at h
    · rename_i hu'
      exact equal_run w h (fun o => by cases o <;> simp [eqGuard]) (fun _ => ⟨rfl, rfl⟩) (by rw [equal_eq]; first | exact eq_bool hu' _ _ _ _ | exact eq_ptr1 hu' _ _ _ | exact eq_ptr2 hu' _ _ _ | exact eq_sl1 hu' _ _ _ _ _ _ _ | exact eq_sl2 hu' _ _ _ _ _ _ _ | exact eq_map1 hu' _ _ _ | exact eq_map2 hu' _ _ _ | exact eq_fn0 hu' _ _ | exact eq_fn1 hu' _ _ _ _ _ | exact eq_fn2 hu' _ _ _ _ _)
    · simp at h
  · cases hv
    split at h
    · rename_i hu'
      cases hu
      · exact equal_run w h (fun o => by cases o <;> simp [eqGuard]) (fun _ => ⟨rfl, rfl⟩) (by rw [equal_eq]; first | exact eq_bool hu' _ _ _ _ | exact eq_ptr1 hu' _ _ _ | exact eq_ptr2 hu' _ _ _ | exact eq_sl1 hu' _ _ _ _ _ _ _ | exact eq_sl2 hu' _ _ _ _ _ _ _ | exact eq_map1 hu' _ _ _ | exact eq_map2 hu' _ _ _ | exact eq_fn0 hu' _ _ | exact eq_fn1 hu' _ _ _ _ _ | exact eq_fn2 hu' _ _ _ _ _)
      · exact equal_run w h (fun o => by cases o <;> simp [eqGuard]) (fun _ => ⟨rfl, rfl⟩) (by rw [equal_eq]; first | exact eq_bool hu' _ _ _ _ | exact eq_ptr1 hu' _ _ _ | exact eq_ptr2 hu' _ _ _ | exact eq_sl1 hu' _ _ _ _ _ _ _ | exact eq_sl2 hu' _ _ _ _ _ _ _ | exact eq_map1 hu' _ _ _ | exact eq_map2 hu' _ _ _ | exact eq_fn0 hu' _ _ | exact eq_fn1 hu' _ _ _ _ _ | exact eq_fn2 hu' _ _ _ _ _)
    · simp at h
  · cases hu
    split at h
    · rename_i hu'
      cases hv
      exact equal_run w h (fun o => by cases o <;> simp [eqGuard]) (fun _ => ⟨rfl, rfl⟩) (by rw [equal_eq]; first | exact eq_bool hu' _ _ _ _ | exact eq_ptr1 hu' _ _ _ | exact eq_ptr2 hu' _ _ _ | exact eq_sl1 hu' _ _ _ _ _ _ _ | exact eq_sl2 hu' _ _ _ _ _ _ _ | exact eq_map1 hu' _ _ _ | exact eq_map2 hu' _ _ _ | exact eq_fn0 hu' _ _ | exact eq_fn1 hu' _ _ _ _ _ | exact eq_fn2 hu' _ _ _ _ _)
    · simp at h
  · rename_i a b
    split at h
    · rename_i e hu'
      split at h
      · rename_i hab
        subst hab
        simp only [Option.bind_eq_some_iff] at h
        obtain ⟨i, hi, h⟩ := h
        cases hv with
        | ptr b1 o1 pl1 hp1 =>
          cases hu with
          | ptr _ _ pl2 hp2 =>
            rw [hp1] at hp2
            simp only [Option.some.injEq] at hp2
            subst hp2
            exact equal_run w h (fun o => by cases o <;> simp [eqGuard]) (fun _ => ⟨rfl, rfl⟩) (by rw [equal_eq]; exact eq_ptr3 hu' hi _ _ _)
      · simp at h
    · simp at h
  · cases hv
    split at h
    · rename_i hu'
      cases hu
      · exact equal_run w h (fun o => by cases o <;> simp [eqGuard]) (fun _ => ⟨rfl, rfl⟩) (by rw [equal_eq]; first | exact eq_bool hu' _ _ _ _ | exact eq_ptr1 hu' _ _ _ | exact eq_ptr2 hu' _ _ _ | exact eq_sl1 hu' _ _ _ _ _ _ _ | exact eq_sl2 hu' _ _ _ _ _ _ _ | exact eq_map1 hu' _ _ _ | exact eq_map2 hu' _ _ _ | exact eq_fn0 hu' _ _ | exact eq_fn1 hu' _ _ _ _ _ | exact eq_fn2 hu' _ _ _ _ _)
      · exact equal_run w h (fun o => by cases o <;> simp [eqGuard]) (fun _ => ⟨rfl, rfl⟩) (by rw [equal_eq]; first | exact eq_bool hu' _ _ _ _ | exact eq_ptr1 hu' _ _ _ | exact eq_ptr2 hu' _ _ _ | exact eq_sl1 hu' _ _ _ _ _ _ _ | exact eq_sl2 hu' _ _ _ _ _ _ _ | exact eq_map1 hu' _ _ _ | exact eq_map2 hu' _ _ _ | exact eq_fn0 hu' _ _ | exact eq_fn1 hu' _ _ _ _ _ | exact eq_fn2 hu' _ _ _ _ _)
    · simp at h
  · cases hu
    split at h
    · rename_i hu'
      cases hv
      exact equal_run w h (fun o => by cases o <;> simp [eqGuard]) (fun _ => ⟨rfl, rfl⟩) (by rw [equal_eq]; first | exact eq_bool hu' _ _ _ _ | exact eq_ptr1 hu' _ _ _ | exact eq_ptr2 hu' _ _ _ | exact eq_sl1 hu' _ _ _ _ _ _ _ | exact eq_sl2 hu' _ _ _ _ _ _ _ | exact eq_map1 hu' _ _ _ | exact eq_map2 hu' _ _ _ | exact eq_fn0 hu' _ _ | exact eq_fn1 hu' _ _ _ _ _ | exact eq_fn2 hu' _ _ _ _ _)
    · simp at h
  · cases hv
    split at h
    · rename_i hu'
      cases hu
      · exact equal_run w h (fun o => by cases o <;> simp [eqGuard]) (fun _ => ⟨rfl, rfl⟩) (by rw [equal_eq]; first | exact eq_bool hu' _ _ _ _ | exact eq_ptr1 hu' _ _ _ | exact eq_ptr2 hu' _ _ _ | exact eq_sl1 hu' _ _ _ _ _ _ _ | exact eq_sl2 hu' _ _ _ _ _ _ _ | exact eq_map1 hu' _ _ _ | exact eq_map2 hu' _ _ _ | exact eq_fn0 hu' _ _ | exact eq_fn1 hu' _ _ _ _ _ | exact eq_fn2 hu' _ _ _ _ _)
      · exact equal_run w h (fun o => by cases o <;> simp [eqGuard]) (fun _ => ⟨rfl, rfl⟩) (by rw [equal_eq]; first | exact eq_bool hu' _ _ _ _ | exact eq_ptr1 hu' _ _ _ | exact eq_ptr2 hu' _ _ _ | exact eq_sl1 hu' _ _ _ _ _ _ _ | exact eq_sl2 hu' _ _ _ _ _ _ _ | exact eq_map1 hu' _ _ _ | exact eq_map2 hu' _ _ _ | exact eq_fn0 hu' _ _ | exact eq_fn1 hu' _ _ _ _ _ | exact eq_fn2 hu' _ _ _ _ _)
    · simp at h
  · cases hu
    split at h
    · rename_i hu'
      cases hv
      exact equal_run w h (fun o => by cases o <;> simp [eqGuard]) (fun _ => ⟨rfl, rfl⟩) (by rw [equal_eq]; first | exact eq_bool hu' _ _ _ _ | exact eq_ptr1 hu' _ _ _ | exact eq_ptr2 hu' _ _ _ | exact eq_sl1 hu' _ _ _ _ _ _ _ | exact eq_sl2 hu' _ _ _ _ _ _ _ | exact eq_map1 hu' _ _ _ | exact eq_map2 hu' _ _ _ | exact eq_fn0 hu' _ _ | exact eq_fn1 hu' _ _ _ _ _ | exact eq_fn2 hu' _ _ _ _ _)
    · simp at h
  · cases hv; cases hu
    split at h
    · rename_i hu'
      exact equal_run w h (fun o => by cases o <;> simp [eqGuard]) (fun _ => ⟨rfl, rfl⟩) (by rw [equal_eq]; first | exact eq_bool hu' _ _ _ _ | exact eq_ptr1 hu' _ _ _ | exact eq_ptr2 hu' _ _ _ | exact eq_sl1 hu' _ _ _ _ _ _ _ | exact eq_sl2 hu' _ _ _ _ _ _ _ | exact eq_map1 hu' _ _ _ | exact eq_map2 hu' _ _ _ | exact eq_fn0 hu' _ _ | exact eq_fn1 hu' _ _ _ _ _ | exact eq_fn2 hu' _ _ _ _ _)
    · simp at h
  · cases hv; cases hu
    split at h
    · rename_i hu'
      exact equal_run w h (fun o => by cases o <;> simp [eqGuard]) (fun _ => ⟨rfl, rfl⟩) (by rw [equal_eq]; first | exact eq_bool hu' _ _ _ _ | exact eq_ptr1 hu' _ _ _ | exact eq_ptr2 hu' _ _ _ | exact eq_sl1 hu' _ _ _ _ _ _ _ | exact eq_sl2 hu' _ _ _ _ _ _ _ | exact eq_map1 hu' _ _ _ | exact eq_map2 hu' _ _ _ | exact eq_fn0 hu' _ _ | exact eq_fn1 hu' _ _ _ _ _ | exact eq_fn2 hu' _ _ _ _ _)
    · simp at h
  · cases hv; cases hu
    split at h
    · rename_i hu'
      exact equal_run w h (fun o => by cases o <;> simp [eqGuard]) (fun _ => ⟨rfl, rfl⟩) (by rw [equal_eq]; first | exact eq_bool hu' _ _ _ _ | exact eq_ptr1 hu' _ _ _ | exact eq_ptr2 hu' _ _ _ | exact eq_sl1 hu' _ _ _ _ _ _ _ | exact eq_sl2 hu' _ _ _ _ _ _ _ | exact eq_map1 hu' _ _ _ | exact eq_map2 hu' _ _ _ | exact eq_fn0 hu' _ _ | exact eq_fn1 hu' _ _ _ _ _ | exact eq_fn2 hu' _ _ _ _ _)
    · simp at h
  · rename_i xs ys
    simp only [Option.bind_eq_some_iff] at h
    obtain ⟨fs, hfs, h⟩ := h
    split at h
    · simp at h
    rename_i hgd
    simp only [Bool.or_eq_true, not_or, Bool.not_eq_true] at hgd
    simp only [Option.bind_eq_some_iff] at h
    obtain ⟨b, hb, h⟩ := h
    cases hv with
    | agg _ cxs a1 a2 a3 =>
      cases hu with
      | agg _ cys b1 b2 b3 =>
        have hut := structOf_eq hfs
        have hfo : P.fieldsOf t = fs := by simp [Program.fieldsOf, hut]
        have he := eqAll_run (P := P) a1 a2 b1 b2 9998 w fs.toList b hb
        refine equal_run (b := b) w h (fun o => ?_) (fun _ => ⟨rfl, rfl⟩) ?_
        · cases o <;> simp [eqGuard, hgd.1]
        · rw [equal_eq, run_equalIn_struct w 9999 t cxs cys (by rw [hfo]; exact hut) hgd.2, hfo]
          exact he
  · simp at h

def aun (op : UnOp) (v : Value) : Option Value :=
  match op, v with
  | .neg, .int k n => some (.int k (k.wrap (0 - n)))
  | .not, .bool b => some (.bool !b)
  | .xor, .int k n => some (.int k (k.wrap (BitVec.ofInt k.bits (if k.signed then -1 else k.max) ^^^ BitVec.ofInt k.bits n).toNat))
  | _, _ => none
theorem aun_run {P : Program} {ι : List Pl} {op : UnOp} {v r cv : Value} (hv : VR ι v cv) (h : aun op v = some r) (w : World) : ∃ cr, (Op.unary op cv).run P w = .ok cr w ∧ VR ι r cr := by
  unfold aun at h
  split at h
  · simp only [Option.some.injEq] at h; subst h; cases hv; exact ⟨_, rfl, .int _ _⟩
  · simp only [Option.some.injEq] at h; subst h; cases hv; exact ⟨_, rfl, .bool _⟩
  · simp only [Option.some.injEq] at h; subst h; cases hv; exact ⟨_, rfl, .int _ _⟩
  · simp at h

end Go.Proofs.Ytdlanbfbbopfhaa.Ax
