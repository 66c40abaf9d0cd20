/- Package lift: what a code becomes, in plain data, and how a lifter lies in abstract memory. -/
import Derived.Test.YtfobbmllbbckkaaJCo2
set_option linter.unusedVariables false
set_option linter.unusedSimpArgs false
set_option maxRecDepth 20000
set_option maxHeartbeats 4000000
namespace Go.Proofs.Ytfobbmllbbckkaa
open Go Ax
abbrev V := Int × Int × ByteArray
theorem V_eq {a b : V} : a = b ↔ a.1 = b.1 ∧ a.2.1 = b.2.1 ∧ a.2.2 = b.2.2 := by
  obtain ⟨a1, a2, a3⟩ := a
  obtain ⟨b1, b2, b3⟩ := b
  simp
instance : DecidableEq V := fun a b => decidable_of_iff _ (V_eq (a := a) (b := b)).symm
abbrev valV (v : V) : Value := .agg #[.int .i64 v.1, .int .i64 v.2.1, .string v.2.2]
def valR (_ : Heap) (l : List Value) (v : V) : Prop := l = [.int .i64 v.1, .int .i64 v.2.1, .string v.2.2]
/-- An operation. -/
structure OpT where
  kind : Int
  a : Int
  b : Int
  c : Int
  d : Int
  regs : List Int
  pc : Int
  map : List Int
/-- The registers that an instruction takes. -/
def took (t pops : Int) : List Int := (List.range pops.toNat).map fun k : Nat => t - pops + (k : Int)
/-- The operation of an instruction that lays no constant, and is no Pop. -/
def oneL (x : Ins) (t : Int) : OpT :=
  let n := pops x
  if x.1 = 1 then ⟨1, x.2.1, 0, 0, 0, [], 0, []⟩ else if x.1 = 6 then ⟨3, t, 0, 0, 0, [], 0, []⟩ else if x.1 = 8 then ⟨4, t, x.2.1, 0, 0, [], 0, []⟩ else if x.1 = 9 then ⟨4, x.2.1, t - 1, 0, 0, [], 0, []⟩ else
  if x.1 = 10 then ⟨5, t, x.2.1, 0, 0, [], 0, []⟩ else if x.1 = 11 then ⟨6, x.2.1, t - 1, 0, 0, [], 0, []⟩ else if x.1 = 12 then ⟨7, t, 0, 0, 0, [], 0, []⟩ else if x.1 = 13 then ⟨8, t - 2, t - 1, x.2.1, x.2.2, [], 0, []⟩ else
  if x.1 = 14 then ⟨9, t - 1, t - 1, x.2.1, x.2.2, [], 0, []⟩ else if x.1 = 15 then ⟨10, t - 2, t - 1, x.2.1, x.2.2, [], 0, []⟩ else if x.1 = 16 then ⟨11, t - 2, t - 2, t - 1, 0, [], 0, []⟩ else if x.1 = 17 then ⟨12, t - 3, t - 2, t - 1, 0, [], 0, []⟩ else
  if x.1 = 18 then ⟨13, t - 1, 0, x.2.1, 0, [], 0, []⟩ else if x.1 = 19 then ⟨14, t - 2, t - 1, 0, 0, [], 0, []⟩ else if x.1 = 20 then ⟨15, t - 1, t - 1, x.2.1, 0, [], 0, []⟩ else if x.1 = 21 then ⟨16, t - 2, t - 2, t - 1, x.2.1, [], 0, []⟩ else
  if x.1 = 22 then ⟨17, x.2.1, 0, 0, 0, [], 0, []⟩ else if x.1 = 23 ∨ x.1 = 24 then ⟨18, x.2.1, t - 1, 0, 0, [], 0, []⟩ else if x.1 = 25 then ⟨19, x.2.1, t - 1, 0, 0, [], 0, []⟩ else if x.1 = 27 then ⟨9, t, t - 1, x.2.1, x.2.2, [], 0, []⟩ else
  if x.1 = 30 then ⟨23, t - 1, 0, 0, 0, [], 0, []⟩ else if x.1 = 32 then ⟨24, t - 1, 0, 0, 0, [], 0, []⟩ else if x.1 = 26 then ⟨20, t - n, 0, 0, 0, took t n, 0, []⟩ else if x.1 = 28 then ⟨21, t - n, 0, 0, 0, took t n, 0, []⟩ else
  ⟨22, t - n, 0, x.2.1, 0, took t n, 0, []⟩
/-- What an instruction lays, if it is a constant. -/
def constL (pool : List ByteArray) (x : Ins) : Option V :=
  if x.1 = 2 then some (0, 0, .empty) else if x.1 = 3 then some (1, x.2.1, .empty) else if x.1 = 4 then some (2, x.2.1, .empty) else if x.1 = 5 then some (3, 0, pool.getD x.2.1.toNat .empty) else if x.1 = 7 then some (5, x.2.1, .empty) else none
structure LS where
  consts : List V
  ops : List OpT
  places : List Int
def isV (v x : V) : Bool := decide (x = v)
def idV (l : List V) (v : V) : Nat := l.findIdx (isV v)
def addV (l : List V) (v : V) : List V := if l.any (isV v) then l else l ++ [v]
/-- The stack's registers. -/
def mapL (loc d : Int) : List Int := (List.range d.toNat).map fun j : Nat => loc + (j : Int)
def putL_ (s : LS) (o : OpT) (loc at_ d : Int) : LS := { s with ops := s.ops ++ [{ o with pc := at_, map := mapL loc d }] }
def instrL (pool : List ByteArray) (x : Ins) (s : LS) (loc at_ d : Int) : LS :=
  if x.1 = 31 then s else
  match constL pool x with
  | some v => putL_ { s with consts := addV s.consts v } ⟨2, loc + d, (idV s.consts v : Int), 0, 0, [], 0, []⟩ loc at_ d
  | none => putL_ s (oneL x (loc + d)) loc at_ d
def stepL (pool : List ByteArray) (loc : Int) (s : LS) (at_ : Nat) (x : Ins) (d : Int) : LS :=
  if d < 0 then { s with places := s.places ++ [-1] } else instrL pool x { s with places := s.places ++ [(s.ops.length : Int)] } loc at_ d
def runL (pool : List ByteArray) (c : CodeT) (L : List Int) : Nat → LS
  | 0 => ⟨[], [], []⟩
  | n + 1 => match c.ins[n]?, L[n]? with | some x, some d => stepL pool c.2.1 (runL pool c L n) n x d | _, _ => runL pool c L n
def isJump (k : Int) : Bool := decide (17 ≤ k ∧ k ≤ 19)
def patch1 (places : List Int) (o : OpT) : OpT := if isJump o.kind then { o with a := places.getD o.a.toNat 0 } else o
/-- What comes of a code. -/
def bodyL (pool : List ByteArray) (c : CodeT) (L : List Int) : LS :=
  let s := runL pool c L c.ins.length
  { s with ops := s.ops.map (patch1 s.places) }
/-! How it lies. -/
def IntRow (av : Nat) (H : Heap) (v : Value) (L : List Int) : Prop := OwnR 1 3 intR H v L ∧ ∀ b, blkIs v b → b ≠ av
def opR (av : Nat) (H : Heap) (l : List Value) (o : OpT) : Prop :=
  ∃ rv mv, l = [.int .i64 o.kind, .int .i64 o.a, .int .i64 o.b, .int .i64 o.c, .int .i64 o.d, rv, .slice none 0 0, .int .i64 o.pc, mv] ∧ IntRow av H rv o.regs ∧ IntRow av H mv o.map
abbrev entsV (l : List V) : List (Value × Value) := l.zipIdx.map fun x => (valV x.1, .int .i64 (x.2 : Int))
/-- All rows of numbers stay, but one. -/
def IntKeep (av : Nat) (A B : Heap) : Prop := ∀ q c, A[q]? = some (.cells (.row 3) c) → q ≠ av → B[q]? = some (.cells (.row 3) c)
theorem IntRow.keep {av : Nat} {A B : Heap} {v : Value} {L : List Int} (h : IntRow av A v L) (k : IntKeep av A B) : IntRow av B v L :=
  ⟨h.1.keep (fun b c hb hc => k b c hc (h.2 b hb)) fun _ _ _ h => h, h.2⟩
theorem opR.keep {av : Nat} {A B : Heap} {l : List Value} {o : OpT} (h : opR av A l o) (k : IntKeep av A B) : opR av B l o := by
  obtain ⟨rv, mv, h1, h2, h3⟩ := h
  exact ⟨rv, mv, h1, h2.keep k, h3.keep k⟩
theorem IntKeep.of {av n : Nat} {e : TypeId} {A B : Heap} (h : FrR n e A B) (hne : e ≠ 3) : IntKeep av A B :=
  fun q c hq _ => h.2 q _ hq (.inr fun c' e1 => by simp only [Blk.cells.injEq, Mode.row.injEq] at e1; exact hne e1.1.symm)
structure LK where
  n0 : Nat
  l : Nat
  p : ProgT
  c : CodeT
  f : Int
  ps : Value
  cs : Value
  sv : Value
def cellsL (K : LK) (cv ov pv : Value) (mp : Nat) (at_ d : Int) : List Value :=
  [.int .i64 K.p.1, K.ps, K.cs, .int .i64 K.c.1, .int .i64 K.c.2.1, .int .i64 K.c.2.2.1, .int .i64 K.c.2.2.2.1, K.sv, .int .i64 K.f, .int .i64 (IntKind.i64.wrap (K.c.2.1 + K.c.2.2.2.1)), cv, ov, .slice none 0 0, .map (some mp), pv, .int .i64 at_, .int .i64 d]
structure LR (K : LK) (H : Heap) (s : LS) (at_ d : Int) (cv ov pv : Value) (mp pb : Nat) : Prop where
  blk : H[K.l]? = some (.cells .var (cellsL K cv ov pv mp at_ d))
  l0 : K.n0 ≤ K.l
  con : OwnR 3 51 valR H cv s.consts
  con0 : ∀ b, blkIs cv b → K.n0 ≤ b
  ops : OwnR 9 42 (opR pb) H ov s.ops
  ops0 : ∀ b, blkIs ov b → K.n0 ≤ b
  pla : OwnR 1 3 intR H pv s.places
  pla0 : ∀ b, blkIs pv b → K.n0 ≤ b ∧ b = pb
  map : H[mp]? = some (.map true (entsV s.consts))
  map0 : K.n0 ≤ mp
  nodup : s.consts.Nodup
  few : s.consts.length ≤ 100000 ∧ s.ops.length ≤ 100000
  top : K.l < H.length
/-- What an instruction's operations leave as it was. -/
def FrL (K : LK) (A B : Heap) : Prop :=
  A.length ≤ B.length ∧ ∀ q X, A[q]? = some X → q < K.n0 ∨ (q ≠ K.l ∧ NotRow 42 X ∧ NotRow 51 X ∧ ∀ es, X ≠ .map true es) → B[q]? = some X
theorem FrL.refl (K : LK) (A : Heap) : FrL K A A := ⟨Nat.le_refl _, fun _ _ h _ => h⟩
theorem FrL.trans {K : LK} {A B C : Heap} (h : FrL K A B) (k : FrL K B C) : FrL K A C := ⟨Nat.le_trans h.1 k.1, fun q X hq hx => k.2 q X (h.2 q X hq hx) hx⟩
theorem FrL.of {K : LK} {A B : Heap} (h : Grow A B) : FrL K A B := ⟨h.1, fun q X hq _ => h.at hq⟩
theorem FrL.ofR {K : LK} {A B : Heap} {e : TypeId} (h : FrR K.n0 e A B) (he : e = 42 ∨ e = 51) : FrL K A B :=
  ⟨h.1, fun q X hq hx => h.2 q X hq (hx.imp id fun hx => by rcases he with rfl | rfl; exact hx.2.1; exact hx.2.2.1)⟩
theorem FrL.ofBut {K : LK} {A B : Heap} (h : But K.l A B) (h0 : K.n0 ≤ K.l) : FrL K A B :=
  ⟨h.1, fun q X hq hx => h.at hq (by rcases hx with hx | hx; omega; exact hx.1)⟩
theorem FrL.ofMap {K : LK} {A B : Heap} {mp : Nat} {es : List (Value × Value)} (h : But mp A B) (h0 : K.n0 ≤ mp) (hm : A[mp]? = some (.map true es)) : FrL K A B :=
  ⟨h.1, fun q X hq hx => h.at hq (by
    rintro rfl
    rcases hx with hx | hx
    · omega
    · rw [hm] at hq; simp only [Option.some.injEq] at hq; exact hx.2.2.2 es hq.symm)⟩
theorem FrL.grow {K : LK} {A0 A B : Heap} (g : Grow A0 A) (h : FrL K A B) (hn : A0.length ≤ K.n0) : Grow A0 B :=
  ⟨Nat.le_trans g.1 h.1, fun q hq => by
    have h1 := g.2 q hq
    cases hx : A[q]? with
    | none => have := List.getElem?_eq_none_iff.1 hx; have := g.1; omega
    | some X => rw [← h1, hx]; exact h.2 q X hx (.inl (by omega))⟩
theorem rowI : RowOK Try.prog 38 3 1 := ⟨rfl, ⟨_, rfl, rfl, by decide⟩, ⟨_, rfl, rfl⟩, by decide, ⟨_, rfl, rfl⟩⟩
theorem rowO : RowOK Try.prog 27 42 9 := ⟨rfl, ⟨_, rfl, rfl, by decide⟩, ⟨_, rfl, rfl⟩, by decide, ⟨_, rfl, rfl⟩⟩
theorem rowVal : RowOK Try.prog 26 51 3 := ⟨rfl, ⟨_, rfl, rfl, by decide⟩, ⟨_, rfl, rfl⟩, by decide, ⟨_, rfl, rfl⟩⟩
end Go.Proofs.Ytfobbmllbbckkaa
