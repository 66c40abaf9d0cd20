/- Package lift: what a code becomes, in plain data, and how a lifter lies in abstract memory. -/
import Derived.Test.YtdlanbfbbopfhaaJCo3
set_option linter.unusedVariables false
set_option linter.unusedSimpArgs false
set_option maxRecDepth 20000
set_option maxHeartbeats 4000000
namespace Go.Proofs.Ytdlanbfbbopfhaa
open Go Ax
abbrev V := Int × Int × ByteArray
theorem V_eq {a b : V} : a = b ↔ a.1 = b.1 ∧ a.2.1 = b.2.1 ∧ a.2.2 = b.2.2 := by
  obtain ⟨a1, a2, a3⟩ := a
  obtain ⟨b1, b2, b3⟩ := b
  simp
instance : DecidableEq V := fun a b => decidable_of_iff _ (V_eq (a := a) (b := b)).symm
abbrev valV (v : V) : Value := .agg #[.int .i64 v.1, .int .i64 v.2.1, .string v.2.2]
def valR (_ : Heap) (l : List Value) (v : V) : Prop := l = [.int .i64 v.1, .int .i64 v.2.1, .string v.2.2]
/-- An operation. -/
structure OpT where
  kind : Int
  a : Int
  b : Int
  c : Int
  d : Int
  regs : List Int
  pc : Int
  map : List Int
/-- The registers that an instruction takes. -/
def took (t pops : Int) : List Int := (List.range pops.toNat).map fun k : Nat => t - pops + (k : Int)
/-- The operation of an instruction that lays no constant, and is no Pop. -/
def oneL (x : Ins) (t : Int) : OpT :=
  let n := pops x
  if x.1 = 1 then ⟨1, x.2.1, 0, 0, 0, [], 0, []⟩ else if x.1 = 6 then ⟨3, t, 0, 0, 0, [], 0, []⟩ else if x.1 = 8 then ⟨4, t, x.2.1, 0, 0, [], 0, []⟩ else if x.1 = 9 then ⟨4, x.2.1, t - 1, 0, 0, [], 0, []⟩ else
  if x.1 = 10 then ⟨5, t, x.2.1, 0, 0, [], 0, []⟩ else if x.1 = 11 then ⟨6, x.2.1, t - 1, 0, 0, [], 0, []⟩ else if x.1 = 12 then ⟨7, t, 0, 0, 0, [], 0, []⟩ else if x.1 = 13 then ⟨8, t - 2, t - 1, x.2.1, x.2.2, [], 0, []⟩ else
  if x.1 = 14 then ⟨9, t - 1, t - 1, x.2.1, x.2.2, [], 0, []⟩ else if x.1 = 15 then ⟨10, t - 2, t - 1, x.2.1, x.2.2, [], 0, []⟩ else if x.1 = 16 then ⟨11, t - 2, t - 2, t - 1, 0, [], 0, []⟩ else if x.1 = 17 then ⟨12, t - 3, t - 2, t - 1, 0, [], 0, []⟩ else
  if x.1 = 18 then ⟨13, t - 1, 0, x.2.1, 0, [], 0, []⟩ else if x.1 = 19 then ⟨14, t - 2, t - 1, 0, 0, [], 0, []⟩ else if x.1 = 20 then ⟨15, t - 1, t - 1, x.2.1, 0, [], 0, []⟩ else if x.1 = 21 then ⟨16, t - 2, t - 2, t - 1, x.2.1, [], 0, []⟩ else
  if x.1 = 22 then ⟨17, x.2.1, 0, 0, 0, [], 0, []⟩ else if x.1 = 23 ∨ x.1 = 24 then ⟨18, x.2.1, t - 1, 0, 0, [], 0, []⟩ else if x.1 = 25 then ⟨19, x.2.1, t - 1, 0, 0, [], 0, []⟩ else if x.1 = 27 then ⟨9, t, t - 1, x.2.1, x.2.2, [], 0, []⟩ else
  if x.1 = 30 then ⟨23, t - 1, 0, 0, 0, [], 0, []⟩ else if x.1 = 32 then ⟨24, t - 1, 0, 0, 0, [], 0, []⟩ else if x.1 = 26 then ⟨20, t - n, 0, 0, 0, took t n, 0, []⟩ else if x.1 = 28 then ⟨21, t - n, 0, 0, 0, took t n, 0, []⟩ else
  ⟨22, t - n, 0, x.2.1, 0, took t n, 0, []⟩
/-- What an instruction lays, if it is a constant. -/
def constL (pool : List ByteArray) (x : Ins) : Option V :=
  if x.1 = 2 then some (0, 0, .empty) else if x.1 = 3 then some (1, x.2.1, .empty) else if x.1 = 4 then some (2, x.2.1, .empty) else if x.1 = 5 then some (3, 0, pool.getD x.2.1.toNat .empty) else if x.1 = 7 then some (5, x.2.1, .empty) else none
structure LS where
  consts : List V
  ops : List OpT
  places : List Int
def isV (v x : V) : Bool := decide (x = v)
def idV (l : List V) (v : V) : Nat := l.findIdx (isV v)
def addV (l : List V) (v : V) : List V := if l.any (isV v) then l else l ++ [v]
/-- The stack's registers. -/
def mapL (loc d : Int) : List Int := (List.range d.toNat).map fun j : Nat => loc + (j : Int)
def putL_ (s : LS) (o : OpT) (loc at_ d : Int) : LS := { s with ops := s.ops ++ [{ o with pc := at_, map := mapL loc d }] }
def instrL (pool : List ByteArray) (x : Ins) (s : LS) (loc at_ d : Int) : LS :=
  if x.1 = 31 then s else
  match constL pool x with
  | some v => putL_ { s with consts := addV s.consts v } ⟨2, loc + d, (idV s.consts v : Int), 0, 0, [], 0, []⟩ loc at_ d
  | none => putL_ s (oneL x (loc + d)) loc at_ d
def stepL (pool : List ByteArray) (loc : Int) (s : LS) (at_ : Nat) (x : Ins) (d : Int) : LS :=
  if d < 0 then { s with places := s.places ++ [-1] } else instrL pool x { s with places := s.places ++ [(s.ops.length : Int)] } loc at_ d
def runL (pool : List ByteArray) (c : CodeT) (L : List Int) : Nat → LS
  | 0 => ⟨[], [], []⟩
  | n + 1 => match c.ins[n]?, L[n]? with | some x, some d => stepL pool c.2.1 (runL pool c L n) n x d | _, _ => runL pool c L n
def isJump (k : Int) : Bool := decide (17 ≤ k ∧ k ≤ 19)
def patch1 (places : List Int) (o : OpT) : OpT := if isJump o.kind then { o with a := places.getD o.a.toNat 0 } else o
/-- What comes of a code. -/
def bodyL (pool : List ByteArray) (c : CodeT) (L : List Int) : LS :=
  let s := runL pool c L c.ins.length
  { s with ops := s.ops.map (patch1 s.places) }
/-! How it lies. -/
def IntRow (av : Nat) (H : Heap) (v : Value) (L : List Int) : Prop := OwnR 1 3 intR H v L ∧ ∀ b, blkIs v b → b ≠ av
def opR (av : Nat) (H : Heap) (l : List Value) (o : OpT) : Prop :=
  ∃ rv mv, l = [.int .i64 o.kind, .int .i64 o.a, .int .i64 o.b, .int .i64 o.c, .int .i64 o.d, rv, .slice none 0 0, .int .i64 o.pc, mv] ∧ IntRow av H rv o.regs ∧ IntRow av H mv o.map
abbrev entsV (l : List V) : List (Value × Value) := l.zipIdx.map fun x => (valV x.1, .int .i64 (x.2 : Int))
/-- All rows of numbers stay, but one. -/
def IntKeep (av : Nat) (A B : Heap) : Prop := ∀ q c, A[q]? = some (.cells (.row 3) c) → q ≠ av → B[q]? = some (.cells (.row 3) c)
theorem IntRow.keep {av : Nat} {A B : Heap} {v : Value} {L : List Int} (h : IntRow av A v L) (k : IntKeep av A B) : IntRow av B v L :=
  ⟨h.1.keep (fun b c hb hc => k b c hc (h.2 b hb)) fun _ _ _ h => h, h.2⟩
theorem opR.keep {av : Nat} {A B : Heap} {l : List Value} {o : OpT} (h : opR av A l o) (k : IntKeep av A B) : opR av B l o := by
  obtain ⟨rv, mv, h1, h2, h3⟩ := h
  exact ⟨rv, mv, h1, h2.keep k, h3.keep k⟩
theorem IntKeep.of {av n : Nat} {e : TypeId} {A B : Heap} (h : FrR n e A B) (hne : e ≠ 3) : IntKeep av A B :=
  fun q c hq _ => h.2 q _ hq (.inr fun c' e1 => by simp only [Blk.cells.injEq, Mode.row.injEq] at e1; exact hne e1.1.symm)
structure LK where
  n0 : Nat
  l : Nat
  p : ProgT
  c : CodeT
  f : Int
  ps : Value
  cs : Value
  sv : Value
def cellsL (K : LK) (cv ov pv : Value) (mp : Nat) (at_ d : Int) : List Value :=
  [.int .i64 K.p.1, K.ps, K.cs, .int .i64 K.c.1, .int .i64 K.c.2.1, .int .i64 K.c.2.2.1, .int .i64 K.c.2.2.2.1, K.sv, .int .i64 K.f, .int .i64 (IntKind.i64.wrap (K.c.2.1 + K.c.2.2.2.1)), cv, ov, .slice none 0 0, .map (some mp), pv, .int .i64 at_, .int .i64 d]
structure LR (K : LK) (H : Heap) (s : LS) (at_ d : Int) (cv ov pv : Value) (mp pb : Nat) : Prop where
  blk : H[K.l]? = some (.cells .var (cellsL K cv ov pv mp at_ d))
  l0 : K.n0 ≤ K.l
  con : OwnR 3 54 valR H cv s.consts
  con0 : ∀ b, blkIs cv b → K.n0 ≤ b
  ops : OwnR 9 44 (opR pb) H ov s.ops
  ops0 : ∀ b, blkIs ov b → K.n0 ≤ b
  pla : OwnR 1 3 intR H pv s.places
  pla0 : ∀ b, blkIs pv b → K.n0 ≤ b ∧ b = pb
  map : H[mp]? = some (.map true (entsV s.consts))
  map0 : K.n0 ≤ mp
  nodup : s.consts.Nodup
  few : s.consts.length ≤ 100000 ∧ s.ops.length ≤ 100000
  top : K.l < H.length
/-- What an instruction's operations leave as it was. -/
def FrL (K : LK) (A B : Heap) : Prop :=
  A.length ≤ B.length ∧ ∀ q X, A[q]? = some X → q < K.n0 ∨ (q ≠ K.l ∧ NotRow 44 X ∧ NotRow 54 X ∧ ∀ es, X ≠ .map true es) → B[q]? = some X
theorem FrL.refl (K : LK) (A : Heap) : FrL K A A := ⟨Nat.le_refl _, fun _ _ h _ => h⟩
theorem FrL.trans {K : LK} {A B C : Heap} (h : FrL K A B) (k : FrL K B C) : FrL K A C := ⟨Nat.le_trans h.1 k.1, fun q X hq hx => k.2 q X (h.2 q X hq hx) hx⟩
theorem FrL.of {K : LK} {A B : Heap} (h : Grow A B) : FrL K A B := ⟨h.1, fun q X hq _ => h.at hq⟩
theorem FrL.ofR {K : LK} {A B : Heap} {e : TypeId} (h : FrR K.n0 e A B) (he : e = 44 ∨ e = 54) : FrL K A B :=
  ⟨h.1, fun q X hq hx => h.2 q X hq (hx.imp id fun hx => by rcases he with rfl | rfl; exact hx.2.1; exact hx.2.2.1)⟩
theorem FrL.ofBut {K : LK} {A B : Heap} (h : But K.l A B) (h0 : K.n0 ≤ K.l) : FrL K A B :=
  ⟨h.1, fun q X hq hx => h.at hq (by rcases hx with hx | hx; omega; exact hx.1)⟩
theorem FrL.ofMap {K : LK} {A B : Heap} {mp : Nat} {es : List (Value × Value)} (h : But mp A B) (h0 : K.n0 ≤ mp) (hm : A[mp]? = some (.map true es)) : FrL K A B :=
  ⟨h.1, fun q X hq hx => h.at hq (by
    rintro rfl
    rcases hx with hx | hx
    · omega
    · rw [hm] at hq; simp only [Option.some.injEq] at hq; exact hx.2.2.2 es hq.symm)⟩
theorem FrL.grow {K : LK} {A0 A B : Heap} (g : Grow A0 A) (h : FrL K A B) (hn : A0.length ≤ K.n0) : Grow A0 B :=
  ⟨Nat.le_trans g.1 h.1, fun q hq => by
    have h1 := g.2 q hq
    cases hx : A[q]? with
    | none => have := List.getElem?_eq_none_iff.1 hx; have := g.1; omega
    | some X => rw [← h1, hx]; exact h.2 q X hx (.inl (by omega))⟩
theorem stack_ax {K : LK} {H : Heap} {s : LS} {at_ d : Int} {cv ov pv : Value} {mp pb : Nat} (h : LR K H s at_ d cv ov pv mp pb) (k : Int) :
    AX Try.prog 55 #[.pointer (some ⟨K.l, 0, none⟩), .int .i64 k] H (fun v H' => v = .int .i64 (IntKind.i64.wrap (IntKind.i64.wrap (K.c.2.1 + d) - k)) ∧ H' = H) := by
  have hb := hblk_of h.blk
  refine AX.body (n := 17) (rs := [.tmp 4]) Try.func55 rfl (by decide) rfl rfl (bC_sound _ _ _ _ ?_)
  (try (conv => whnf)); (repeat ((fail_if_success (with_reducible refine And.intro ?_ ?_)); (fail_if_success (with_reducible refine Exists.intro ?_ ?_)); (first | (apply Ob.of; (first | with_reducible assumption | with_reducible exact ex20 _ _ | with_reducible exact ex21 _ _ | with_reducible exact ex30 _ _ _ | with_reducible exact ex31 _ _ _ | with_reducible exact ex32 _ _ _ | rfl | (exact ald rfl rfl (by assumption) rfl) | (exact ald_agg rfl rfl rfl (by assumption) rfl)); (conv => whnf)) | (apply bIf.yes; (first | assumption | rfl); (conv => whnf)) | (apply bIf.no; (first | assumption | rfl); (conv => whnf)) | ((with_reducible refine Ob.load (by with_unfolding_all assumption) ?_); (conv => whnf)) | (apply Grows.mk; (first | exact Grow.refl _ | assumption); (conv => whnf)))))
  apply SW.drawG [(0, [], [10, 11, 12, 13, 15], false), (1, [(5, 0)], [5, 10, 11, 12, 13, 15], false), (2, [(5, 0), (6, 1)], [5, 6, 10, 11, 12, 13, 15], false), (3, [(5, 0), (6, 1), (7, 2)], [5, 6, 7, 10, 11, 12, 13, 15], false), (4, [(5, 0), (6, 1), (7, 2), (8, 3)], [5, 6, 7, 8, 10, 11, 12, 13, 15], false), (5, [], [5, 6, 7, 8, 9, 15], false), (6, [(10, 5)], [5, 6, 7, 8, 9, 10, 15], false), (7, [(10, 5), (11, 6)], [5, 6, 7, 8, 9, 10, 11, 15], false), (8, [(10, 5), (11, 6), (12, 7)], [5, 6, 7, 8, 9, 10, 11, 12, 15], false), (9, [(5, 0), (6, 1), (7, 2), (8, 3), (9, 4), (10, 5), (11, 6), (12, 7), (13, 8)], [5, 6, 7, 8, 9, 10, 11, 12, 13, 15], false), (10, [], [5, 6, 7, 8, 9, 10, 11, 12, 13, 14], false), (11, [(5, 0), (6, 1), (7, 2), (8, 3), (9, 4), (10, 5), (11, 6), (12, 7), (13, 8), (14, 9), (15, 10)], [5, 6, 7, 8, 9, 10, 11, 12, 13, 14, 15], false), (12, [(5, 0), (6, 1), (7, 2), (8, 3), (9, 4), (10, 5), (11, 6), (12, 7), (13, 8), (14, 9), (15, 10), (16, 11)], [5, 6, 7, 8, 9, 10, 11, 12, 13, 14, 15, 16], false)]
    [(5, 0), (6, 1), (7, 2), (8, 3), (9, 4), (10, 5), (11, 6), (12, 7), (13, 8), (14, 9), (15, 10), (16, 11), (4, 12)]
    [(0, _), (1, _)] rfl (by kernel_rfl)
  case hF => exact ⟨rfl, rfl, trivial⟩
  (try (conv => whnf)); (repeat ((fail_if_success (with_reducible refine And.intro ?_ ?_)); (fail_if_success (with_reducible refine Exists.intro ?_ ?_)); (first | (apply Ob.of; (first | with_reducible assumption | with_reducible exact ex20 _ _ | with_reducible exact ex21 _ _ | with_reducible exact ex30 _ _ _ | with_reducible exact ex31 _ _ _ | with_reducible exact ex32 _ _ _ | rfl | (exact ald rfl rfl (by assumption) rfl) | (exact ald_agg rfl rfl rfl (by assumption) rfl)); (conv => whnf)) | (apply bIf.yes; (first | assumption | rfl); (conv => whnf)) | (apply bIf.no; (first | assumption | rfl); (conv => whnf)) | ((with_reducible refine Ob.load (by with_unfolding_all assumption) ?_); (conv => whnf)) | (apply Grows.mk; (first | exact Grow.refl _ | assumption); (conv => whnf)))))
  exact ⟨rfl, rfl⟩
theorem rowI : RowOK Try.prog 36 3 1 := ⟨rfl, ⟨_, rfl, rfl, by decide⟩, ⟨_, rfl, rfl⟩, by decide, ⟨_, rfl, rfl⟩⟩
theorem rowO : RowOK Try.prog 29 44 9 := ⟨rfl, ⟨_, rfl, rfl, by decide⟩, ⟨_, rfl, rfl⟩, by decide, ⟨_, rfl, rfl⟩⟩
theorem rowVal : RowOK Try.prog 28 54 3 := ⟨rfl, ⟨_, rfl, rfl, by decide⟩, ⟨_, rfl, rfl⟩, by decide, ⟨_, rfl, rfl⟩⟩
end Go.Proofs.Ytdlanbfbbopfhaa
/- Package lift: an operation is laid. -/
set_option linter.unusedVariables false
set_option linter.unusedSimpArgs false
set_option maxRecDepth 20000
set_option maxHeartbeats 4000000
namespace Go.Proofs.Ytdlanbfbbopfhaa
open Go Ax
/-- All blocks stay but bad ones. -/
def Kp (bad : Blk → Prop) (A B : Heap) : Prop := ∀ (q : Nat) (X : Blk), A[q]? = some X → ¬ bad X → B[q]? = some X
def badNo (_ : Blk) : Prop := False
def badRow (e : TypeId) (X : Blk) : Prop := ¬ NotRow e X
def badVar (X : Blk) : Prop := ∃ c, X = .cells .var c
def badMap (X : Blk) : Prop := ∃ o es, X = .map o es
theorem Kp.grow {A B : Heap} (g : Grow A B) : Kp badNo A B := fun q X h _ => g.at h
theorem Kp.row {n : Nat} {e : TypeId} {A B : Heap} (h : FrR n e A B) : Kp (badRow e) A B := fun q X hq hb => h.2 q X hq (.inr (Classical.not_not.1 hb))
theorem Kp.var {l : Nat} {c : List Value} {A B : Heap} (hl : A[l]? = some (.cells .var c)) (h : But l A B) : Kp badVar A B := fun q X hq hb => h.at hq (by rintro rfl; rw [hl] at hq; simp only [Option.some.injEq] at hq; exact hb ⟨c, hq.symm⟩)
theorem Kp.map {l : Nat} {o : Bool} {es : List (Value × Value)} {A B : Heap} (hl : A[l]? = some (.map o es)) (h : But l A B) : Kp badMap A B := fun q X hq hb => h.at hq (by rintro rfl; rw [hl] at hq; simp only [Option.some.injEq] at hq; exact hb ⟨o, es, hq.symm⟩)
theorem notRow_row {e e' : TypeId} {c : List Value} (h : e ≠ e') : NotRow e' (.cells (.row e) c) := fun c' he => by simp only [Blk.cells.injEq, Mode.row.injEq] at he; exact h he.1
theorem ok_no (X : Blk) : ¬ badNo X := fun h => h
theorem ok_row {e e' : TypeId} {c : List Value} (h : e ≠ e') : ¬ badRow e' (.cells (.row e) c) := fun hb => hb (notRow_row h)
theorem ok_var {e : TypeId} {c : List Value} : ¬ badVar (.cells (.row e) c) := fun ⟨c', h⟩ => by simp at h
theorem ok_map {m : Ax.Mode} {c : List Value} : ¬ badMap (.cells m c) := fun ⟨o, es, h⟩ => by simp at h
theorem Kp.own {α : Type} {k : Nat} {e : TypeId} {f : Heap → List Value → α → Prop} {bad : Blk → Prop} {A B : Heap} (h : Kp bad A B) (hb : ∀ c, ¬ bad (.cells (.row e) c)) (hf : ∀ l x, f A l x → f B l x) {sv : Value} {L : List α} (o : OwnR k e f A sv L) : OwnR k e f B sv L :=
  o.keep (fun b c _ hc => h b _ hc (hb c)) fun l x _ hx => hf l x hx
theorem Kp.int {bad : Blk → Prop} {A B : Heap} (h : Kp bad A B) (hb : ∀ c, ¬ bad (.cells (.row 3) c)) (av : Nat) : IntKeep av A B := fun q c hq _ => h q _ hq (hb c)
theorem LR.grow {K : LK} {A B : Heap} {s : LS} {at_ d : Int} {cv ov pv : Value} {mp pb : Nat} (h : LR K A s at_ d cv ov pv mp pb) (g : Grow A B) : LR K B s at_ d cv ov pv mp pb where
  blk := g.at h.blk
  l0 := h.l0
  con := (Kp.grow g).own (fun c => ok_no _) (fun _ _ h => h) h.con
  con0 := h.con0
  ops := (Kp.grow g).own (fun c => ok_no _) (fun _ _ k => k.keep ((Kp.grow g).int (fun c => ok_no _) _)) h.ops
  ops0 := h.ops0
  pla := (Kp.grow g).own (fun c => ok_no _) (fun _ _ h => h) h.pla
  pla0 := h.pla0
  map := g.at h.map
  map0 := h.map0
  nodup := h.nodup
  few := h.few
  top := Nat.lt_of_lt_of_le h.top g.1
abbrev mapN (loc : Int) (n : Nat) : List Int := (List.range n).map fun j : Nat => loc + (j : Int)
theorem mapN_succ (loc : Int) (n : Nat) : mapN loc (n + 1) = mapN loc n ++ [loc + (n : Int)] := by simp [mapN, List.range_succ]
theorem put_ax {K : LK} {H : Heap} {s : LS} {at_ d : Int} {cv ov pv : Value} {mp pb : Nat} (h : LR K H s at_ d cv ov pv mp pb) (hd : 0 ≤ d ∧ d ≤ 64) (hc : 0 ≤ K.c.2.1 ∧ K.c.2.1 ≤ 24) (kind a b c e : Int) {rv : Value} {regs : List Int} (hr : IntRow pb H rv regs) (hops : s.ops.length ≤ 99999) (hpb : pb < H.length) (hn : K.n0 ≤ H.length) :
    AX Try.prog 57 #[.pointer (some ⟨K.l, 0, none⟩), .int .i64 kind, .int .i64 a, .int .i64 b, .int .i64 c, .int .i64 e, rv] H
      (fun _ H' => (∃ ov', LR K H' (putL_ s ⟨kind, a, b, c, e, regs, 0, []⟩ K.c.2.1 at_ d) at_ d cv ov' pv mp pb) ∧ FrL K H H') := by
  have hb := hblk_of h.blk
  refine AX.body (n := 57) (rs := []) Try.func57 rfl (by decide) rfl rfl (bC_sound _ _ _ _ ?_)
  (try (conv => whnf)); (repeat ((fail_if_success (with_reducible refine And.intro ?_ ?_)); (fail_if_success (with_reducible refine Exists.intro ?_ ?_)); (first | (apply Ob.of; (first | with_reducible assumption | with_reducible exact ex20 _ _ | with_reducible exact ex21 _ _ | with_reducible exact ex30 _ _ _ | with_reducible exact ex31 _ _ _ | with_reducible exact ex32 _ _ _ | rfl | (exact ald rfl rfl (by assumption) rfl) | (exact ald_agg rfl rfl rfl (by assumption) rfl)); (conv => whnf)) | (apply bIf.yes; (first | assumption | rfl); (conv => whnf)) | (apply bIf.no; (first | assumption | rfl); (conv => whnf)) | ((with_reducible refine Ob.load (by with_unfolding_all assumption) ?_); (conv => whnf)) | (apply Grows.mk; (first | exact Grow.refl _ | assumption); (conv => whnf)))))
  refine SW.loop (α := Nat × Value) (fun y => [(0, .pointer (some ⟨K.l, 0, none⟩)), (1, .int .i64 kind), (2, .int .i64 a), (3, .int .i64 b), (4, .int .i64 c), (5, .int .i64 e), (6, rv), (14, y.2), (19, .int .i64 d), (20, .int .i64 (y.1 : Int))])
    (fun y H' => y.1 ≤ d.toNat ∧ Grow H H' ∧ OwnR 1 3 intR H' y.2 (mapN K.c.2.1 y.1) ∧ ∀ b, blkIs y.2 b → H.length ≤ b) (fun y => d.toNat - y.1) ⟨(0, .slice none 0 0), ⟨rfl, rfl, rfl, rfl, rfl, rfl, rfl, rfl, rfl, rfl, trivial⟩, by show 0 ≤ _; omega, .refl _, .inl ⟨rfl, rfl⟩, fun b hb => by obtain ⟨n, k, hb⟩ := hb; simp at hb⟩ ?_
  rintro ⟨j, mv⟩ H1 ⟨hj, g1, om, m0⟩
  dsimp only at hj g1 om m0 ⊢
  refine bC_sound _ _ _ _ ?_
  have b1 := g1.hblk hb
  by_cases hjd : j < d.toNat
  · have d1 : decide ((j : Int) < d) = true := decide_eq_true (by omega)
    have w1 : IntKind.i64.wrap (K.c.2.1 + (j : Int)) = K.c.2.1 + (j : Int) := wrap_i64 (by omega) (by omega)
    (try (conv => whnf)); (repeat ((fail_if_success (with_reducible refine And.intro ?_ ?_)); (fail_if_success (with_reducible refine Exists.intro ?_ ?_)); (first | (apply Ob.of; (first | with_reducible assumption | with_reducible exact ex20 _ _ | with_reducible exact ex21 _ _ | with_reducible exact ex30 _ _ _ | with_reducible exact ex31 _ _ _ | with_reducible exact ex32 _ _ _ | rfl | (exact ald rfl rfl (by assumption) rfl) | (exact ald_agg rfl rfl rfl (by assumption) rfl)); (conv => whnf)) | (apply bIf.yes; (first | assumption | rfl); (conv => whnf)) | (apply bIf.no; (first | assumption | rfl); (conv => whnf)) | ((with_reducible refine Ob.load (by with_unfolding_all assumption) ?_); (conv => whnf)) | (apply Grows.mk; (first | exact Grow.refl _ | assumption); (conv => whnf)))))
    rw [w1]
    refine Ob2.lay (H := H1) (.cells (.row 3) [.int .i64 (K.c.2.1 + (j : Int))]) (.slice (some ⟨H1.length, 0, none⟩) 1 1) rfl fun H2 a2 g2 l2 => ?_
    obtain ⟨H3, ap, o3, f3, _⟩ := OwnR.append (n := H.length) (x := K.c.2.1 + (j : Int)) rowI rowI (om.keep (fun b c _ h => g2.at h) fun _ _ _ h => h) a2 rfl rfl m0 (by have := g1.1; have := g2.1; omega) (by simp [mapN]; omega) (fun _ _ _ _ _ h => h)
    have g3 : Grow H H3 := f3.grow (g1.trans g2) (Nat.le_refl _)
    (try (conv => whnf)); (repeat ((fail_if_success (with_reducible refine And.intro ?_ ?_)); (fail_if_success (with_reducible refine Exists.intro ?_ ?_)); (first | (apply Ob.of; (first | with_reducible assumption | with_reducible exact ex20 _ _ | with_reducible exact ex21 _ _ | with_reducible exact ex30 _ _ _ | with_reducible exact ex31 _ _ _ | with_reducible exact ex32 _ _ _ | rfl | (exact ald rfl rfl (by assumption) rfl) | (exact ald_agg rfl rfl rfl (by assumption) rfl)); (conv => whnf)) | (apply bIf.yes; (first | assumption | rfl); (conv => whnf)) | (apply bIf.no; (first | assumption | rfl); (conv => whnf)) | ((with_reducible refine Ob.load (by with_unfolding_all assumption) ?_); (conv => whnf)) | (apply Grows.mk; (first | exact Grow.refl _ | assumption); (conv => whnf)))))
    refine Ob2.of ap ?_
    (try (conv => whnf)); (repeat ((fail_if_success (with_reducible refine And.intro ?_ ?_)); (fail_if_success (with_reducible refine Exists.intro ?_ ?_)); (first | (apply Ob.of; (first | with_reducible assumption | with_reducible exact ex20 _ _ | with_reducible exact ex21 _ _ | with_reducible exact ex30 _ _ _ | with_reducible exact ex31 _ _ _ | with_reducible exact ex32 _ _ _ | rfl | (exact ald rfl rfl (by assumption) rfl) | (exact ald_agg rfl rfl rfl (by assumption) rfl)); (conv => whnf)) | (apply bIf.yes; (first | assumption | rfl); (conv => whnf)) | (apply bIf.no; (first | assumption | rfl); (conv => whnf)) | ((with_reducible refine Ob.load (by with_unfolding_all assumption) ?_); (conv => whnf)) | (apply Grows.mk; (first | exact Grow.refl _ | assumption); (conv => whnf)))))
    refine ⟨(j + 1, .slice (some ⟨H2.length, 0, none⟩) ((mapN K.c.2.1 j).length + 1) 1), ⟨rfl, rfl, rfl, rfl, rfl, rfl, rfl, rfl, rfl, congrArg (fun z => some (Value.int .i64 z)) (w_succ (by omega)), trivial⟩, ⟨by show j + 1 ≤ _; omega, g3, ?_, fun b hb => ?_⟩, by show _ - (j + 1) < _ - j; omega⟩
    · show OwnR _ _ _ _ _ (mapN K.c.2.1 (j + 1))
      rw [mapN_succ]; exact o3
    · obtain ⟨n, k, hb⟩ := hb
      simp only [Value.slice.injEq, Option.some.injEq, Addr.mk.injEq, and_true] at hb
      have := g1.1; have := g2.1
      omega
  · have d1 : decide ((j : Int) < d) = false := decide_eq_false (by omega)
    have hje : j = d.toNat := by omega
    subst hje
    have h1 := h.grow g1
    obtain ⟨ra, rn, rk, rfl⟩ := hr.1.form
    obtain ⟨ma, mn, mk, rfl⟩ := om.form
    (try (conv => whnf)); (repeat ((fail_if_success (with_reducible refine And.intro ?_ ?_)); (fail_if_success (with_reducible refine Exists.intro ?_ ?_)); (first | (apply Ob.of; (first | with_reducible assumption | with_reducible exact ex20 _ _ | with_reducible exact ex21 _ _ | with_reducible exact ex30 _ _ _ | with_reducible exact ex31 _ _ _ | with_reducible exact ex32 _ _ _ | rfl | (exact ald rfl rfl (by assumption) rfl) | (exact ald_agg rfl rfl rfl (by assumption) rfl)); (conv => whnf)) | (apply bIf.yes; (first | assumption | rfl); (conv => whnf)) | (apply bIf.no; (first | assumption | rfl); (conv => whnf)) | ((with_reducible refine Ob.load (by with_unfolding_all assumption) ?_); (conv => whnf)) | (apply Grows.mk; (first | exact Grow.refl _ | assumption); (conv => whnf)))))
    apply SW.drawH [(0, [], [35, 36, 37, 38, 39, 40, 41, 42, 43, 44, 45, 46, 47, 48, 49, 50, 51, 52, 53], false), (1, [], [34, 40, 41, 42, 43, 44, 45, 46, 47, 48, 49, 50, 51, 52], false), (2, [(35, 1)], [34, 35, 40, 41, 42, 43, 44, 45, 46, 47, 48, 49, 50, 51, 52], false), (3, [(35, 1), (36, 2)], [34, 35, 36, 40, 41, 42, 43, 44, 45, 46, 47, 48, 49, 50, 51, 52], false), (4, [(35, 1), (36, 2), (37, 3)], [34, 35, 36, 37, 40, 41, 42, 43, 44, 45, 46, 47, 48, 49, 50, 51, 52], false), (5, [(35, 1), (36, 2), (37, 3), (38, 4)], [34, 35, 36, 37, 38, 40, 41, 42, 43, 44, 45, 46, 47, 48, 49, 50, 51, 52], false), (6, [], [34, 35, 36, 37, 38, 39, 41, 42, 43, 44, 45, 46, 47, 48, 49, 50], false), (7, [], [34, 35, 36, 37, 38, 39, 40, 42, 43, 44, 45, 46, 47, 48, 49, 50], false), (8, [], [34, 35, 36, 37, 38, 39, 40, 41, 43, 44, 45, 46, 47, 48, 49, 50], false), (9, [], [34, 35, 36, 37, 38, 39, 40, 41, 42, 44, 45, 46, 47, 48, 49, 50], false), (10, [], [34, 35, 36, 37, 38, 39, 40, 41, 42, 43, 45, 46, 47, 48, 49, 50], false), (11, [], [34, 35, 36, 37, 38, 39, 40, 41, 42, 43, 44, 46, 47, 48, 49, 50], false), (12, [], [34, 35, 36, 37, 38, 39, 40, 41, 42, 43, 44, 45, 50], false), (13, [(46, 12)], [34, 35, 36, 37, 38, 39, 40, 41, 42, 43, 44, 45, 46, 50], false), (14, [(46, 12), (47, 13)], [34, 35, 36, 37, 38, 39, 40, 41, 42, 43, 44, 45, 46, 47, 50], false), (15, [(46, 12), (47, 13), (48, 14)], [34, 35, 36, 37, 38, 39, 40, 41, 42, 43, 44, 45, 46, 47, 48, 50], false), (16, [], [34, 35, 36, 37, 38, 39, 40, 41, 42, 43, 44, 45, 46, 47, 48, 49], false), (17, [(40, 6), (41, 7), (42, 8), (43, 9), (44, 10), (45, 11), (46, 12), (47, 13), (48, 14), (49, 15), (50, 16)], [34, 35, 36, 37, 38, 39, 40, 41, 42, 43, 44, 45, 46, 47, 48, 49, 50], false), (18, [(40, 6), (41, 7), (42, 8), (43, 9), (44, 10), (45, 11), (46, 12), (47, 13), (48, 14), (49, 15), (50, 16), (51, 17)], [34, 35, 36, 37, 38, 39, 40, 41, 42, 43, 44, 45, 46, 47, 48, 49, 50, 51], true), (19, [(35, 1), (36, 2), (37, 3), (38, 4), (39, 5), (40, 6), (41, 7), (42, 8), (43, 9), (44, 10), (45, 11), (46, 12), (47, 13), (48, 14), (49, 15), (50, 16), (51, 17), (52, 18)], [34, 35, 36, 37, 38, 39, 40, 41, 42, 43, 44, 45, 46, 47, 48, 49, 50, 51, 52], true), (20, [(34, 0), (35, 1), (36, 2), (37, 3), (38, 4), (39, 5), (40, 6), (41, 7), (42, 8), (43, 9), (44, 10), (45, 11), (46, 12), (47, 13), (48, 14), (49, 15), (50, 16), (51, 17), (52, 18), (53, 19)], [34, 35, 36, 37, 38, 39, 40, 41, 42, 43, 44, 45, 46, 47, 48, 49, 50, 51, 52, 53], false), (21, [(34, 0), (35, 1), (36, 2), (37, 3), (38, 4), (39, 5), (40, 6), (41, 7), (42, 8), (43, 9), (44, 10), (45, 11), (46, 12), (47, 13), (48, 14), (49, 15), (50, 16), (51, 17), (52, 18), (53, 19), (54, 20)], [34, 35, 36, 37, 38, 39, 40, 41, 42, 43, 44, 45, 46, 47, 48, 49, 50, 51, 52, 53, 54], false), (22, [(34, 0), (35, 1), (36, 2), (37, 3), (38, 4), (39, 5), (40, 6), (41, 7), (42, 8), (43, 9), (44, 10), (45, 11), (46, 12), (47, 13), (48, 14), (49, 15), (50, 16), (51, 17), (52, 18), (53, 19), (54, 20), (55, 21)], [34, 35, 36, 37, 38, 39, 40, 41, 42, 43, 44, 45, 46, 47, 48, 49, 50, 51, 52, 53, 54, 55], false), (23, [(34, 0), (35, 1), (36, 2), (37, 3), (38, 4), (39, 5), (40, 6), (41, 7), (42, 8), (43, 9), (44, 10), (45, 11), (46, 12), (47, 13), (48, 14), (49, 15), (50, 16), (51, 17), (52, 18), (53, 19), (54, 20), (55, 21), (56, 22)], [34, 35, 36, 37, 38, 39, 40, 41, 42, 43, 44, 45, 46, 47, 48, 49, 50, 51, 52, 53, 54, 55, 56], true)]
      [(34, 0), (35, 1), (36, 2), (37, 3), (38, 4), (39, 5), (40, 6), (41, 7), (42, 8), (43, 9), (44, 10), (45, 11), (46, 12), (47, 13), (48, 14), (49, 15), (50, 16), (51, 17), (52, 18), (53, 19), (54, 20), (55, 21), (56, 22)] [18]
      [(0, _), (1, _), (2, _), (3, _), (4, _), (5, _), (6, _), (14, _)] rfl (by kernel_rfl)
    case hF => exact ⟨rfl, rfl, rfl, rfl, rfl, rfl, rfl, rfl, trivial⟩
    (try (conv => whnf)); (repeat ((fail_if_success (with_reducible refine And.intro ?_ ?_)); (fail_if_success (with_reducible refine Exists.intro ?_ ?_)); (first | (apply Ob.of; (first | with_reducible assumption | with_reducible exact ex20 _ _ | with_reducible exact ex21 _ _ | with_reducible exact ex30 _ _ _ | with_reducible exact ex31 _ _ _ | with_reducible exact ex32 _ _ _ | rfl | (exact ald rfl rfl (by assumption) rfl) | (exact ald_agg rfl rfl rfl (by assumption) rfl)); (conv => whnf)) | (apply bIf.yes; (first | assumption | rfl); (conv => whnf)) | (apply bIf.no; (first | assumption | rfl); (conv => whnf)) | ((with_reducible refine Ob.load (by with_unfolding_all assumption) ?_); (conv => whnf)) | (apply Grows.mk; (first | exact Grow.refl _ | assumption); (conv => whnf)))))
    have hri : IntRow pb H1 (.slice ra rn rk) regs := hr.keep fun q c hq _ => g1.at hq
    have hmi : IntRow pb H1 (.slice ma mn mk) (mapN K.c.2.1 d.toNat) := ⟨om, fun b hb => by have := m0 b hb; omega⟩
    refine Ob2.lay (H := H1) (.cells (.row 44) [.int .i64 kind, .int .i64 a, .int .i64 b, .int .i64 c, .int .i64 e, .slice ra rn rk, .slice none 0 0, .int .i64 at_, .slice ma mn mk]) (.slice (some ⟨H1.length, 0, none⟩) 1 9) rfl fun H2 a2 g2 l2 => ?_
    have h2 := h1.grow g2
    obtain ⟨H3, ap, o3, f3, _⟩ := OwnR.append (n := K.n0) (x := (⟨kind, a, b, c, e, regs, at_, mapN K.c.2.1 d.toNat⟩ : OpT)) rowO rowO h2.ops a2 rfl ⟨.slice ra rn rk, .slice ma mn mk, rfl, hri.keep fun q c hq _ => g2.at hq, hmi.keep fun q c hq _ => g2.at hq⟩ h2.ops0 (by have := g1.1; have := g2.1; omega) (by omega) (fun A B hF l x hx => hx.keep (IntKeep.of hF (by decide)))
    have bl3 := f3.2 K.l _ h2.blk (.inr fun c he => by simp at he)
    (try (conv => whnf)); (repeat ((fail_if_success (with_reducible refine And.intro ?_ ?_)); (fail_if_success (with_reducible refine Exists.intro ?_ ?_)); (first | (apply Ob.of; (first | with_reducible assumption | with_reducible exact ex20 _ _ | with_reducible exact ex21 _ _ | with_reducible exact ex30 _ _ _ | with_reducible exact ex31 _ _ _ | with_reducible exact ex32 _ _ _ | rfl | (exact ald rfl rfl (by assumption) rfl) | (exact ald_agg rfl rfl rfl (by assumption) rfl)); (conv => whnf)) | (apply bIf.yes; (first | assumption | rfl); (conv => whnf)) | (apply bIf.no; (first | assumption | rfl); (conv => whnf)) | ((with_reducible refine Ob.load (by with_unfolding_all assumption) ?_); (conv => whnf)) | (apply Grows.mk; (first | exact Grow.refl _ | assumption); (conv => whnf)))))
    refine Ob2.of ap ?_
    (try (conv => whnf)); (repeat ((fail_if_success (with_reducible refine And.intro ?_ ?_)); (fail_if_success (with_reducible refine Exists.intro ?_ ?_)); (first | (apply Ob.of; (first | with_reducible assumption | with_reducible exact ex20 _ _ | with_reducible exact ex21 _ _ | with_reducible exact ex30 _ _ _ | with_reducible exact ex31 _ _ _ | with_reducible exact ex32 _ _ _ | rfl | (exact ald rfl rfl (by assumption) rfl) | (exact ald_agg rfl rfl rfl (by assumption) rfl)); (conv => whnf)) | (apply bIf.yes; (first | assumption | rfl); (conv => whnf)) | (apply bIf.no; (first | assumption | rfl); (conv => whnf)) | ((with_reducible refine Ob.load (by with_unfolding_all assumption) ?_); (conv => whnf)) | (apply Grows.mk; (first | exact Grow.refl _ | assumption); (conv => whnf)))))
    refine Ob.store rfl rfl rfl bl3 rfl (by first | exact Nat.le_of_ble_eq_true rfl | simp) fun H4 s4 k4 l4 => ?_
    (try (conv => whnf)); (repeat ((fail_if_success (with_reducible refine And.intro ?_ ?_)); (fail_if_success (with_reducible refine Exists.intro ?_ ?_)); (first | (apply Ob.of; (first | with_reducible assumption | with_reducible exact ex20 _ _ | with_reducible exact ex21 _ _ | with_reducible exact ex30 _ _ _ | with_reducible exact ex31 _ _ _ | with_reducible exact ex32 _ _ _ | rfl | (exact ald rfl rfl (by assumption) rfl) | (exact ald_agg rfl rfl rfl (by assumption) rfl)); (conv => whnf)) | (apply bIf.yes; (first | assumption | rfl); (conv => whnf)) | (apply bIf.no; (first | assumption | rfl); (conv => whnf)) | ((with_reducible refine Ob.load (by with_unfolding_all assumption) ?_); (conv => whnf)) | (apply Grows.mk; (first | exact Grow.refl _ | assumption); (conv => whnf)))))
    have kp3 := Kp.row f3
    have kp4 := Kp.var bl3 k4
    refine ⟨⟨.slice (some ⟨H2.length, 0, none⟩) (s.ops.length + 1) 9, ⟨s4, h.l0, kp4.own (fun _ => ok_var) (fun _ _ h => h) (kp3.own (fun _ => ok_row (by decide)) (fun _ _ h => h) h2.con), h.con0, ?_, fun b hb => ?_, kp4.own (fun _ => ok_var) (fun _ _ h => h) (kp3.own (fun _ => ok_row (by decide)) (fun _ _ h => h) h2.pla), h.pla0, ?_, h.map0, h.nodup, ⟨h.few.1, ?_⟩, ?_⟩⟩, ?_⟩
    · exact kp4.own (fun _ => ok_var) (fun _ _ k => k.keep (kp4.int (fun _ => ok_var) _)) o3
    · obtain ⟨n, k, hb⟩ := hb
      simp only [Value.slice.injEq, Option.some.injEq, Addr.mk.injEq, and_true] at hb
      have := g1.1; have := g2.1
      omega
    · refine k4.at (f3.2 _ _ h2.map (.inr fun c he => by simp at he)) ?_
      rintro e
      rw [← e] at bl3
      rw [f3.2 _ _ h2.map (.inr fun c he => by simp at he)] at bl3
      simp at bl3
    · show (s.ops ++ [_]).length ≤ _
      rw [List.length_append, List.length_singleton]; omega
    · have := h.top; have := g1.1; have := g2.1; have := f3.1; omega
    · exact (((FrL.of g1).trans (.of g2)).trans (.ofR f3 (.inl rfl))).trans (.ofBut k4 h.l0)
end Go.Proofs.Ytdlanbfbbopfhaa
/- Package lift: a constant is laid. -/
set_option linter.unusedVariables false
set_option linter.unusedSimpArgs false
set_option maxRecDepth 20000
set_option maxHeartbeats 4000000
namespace Go.Proofs.Ytdlanbfbbopfhaa
open Go Ax
theorem eqKey_V (a b : V) : eqKey Try.prog 54 (valV a) (valV b) = some (isV a b) := by
  have h : eqKey Try.prog 54 (valV a) (valV b) = some (a.1 == b.1 && (a.2.1 == b.2.1 && (a.2.2 == b.2.2 && true))) := by kernel_rfl
  rw [h]
  congr 1
  unfold isV
  rw [Bool.eq_iff_iff]
  simp only [Bool.and_true, Bool.and_eq_true, beq_iff_eq, ba_eq_t, decide_eq_true_eq]
  rw [V_eq]
  constructor
  · rintro ⟨h1, h2, h3⟩; exact ⟨h1.symm, h2.symm, h3.symm⟩
  · rintro ⟨h1, h2, h3⟩; exact ⟨h1.symm, h2.symm, h3.symm⟩
theorem mfind_V {v : V} : ∀ (l : List V) (o i : Nat), mfind Try.prog 54 (valV v) ((l.zipIdx o).map fun x => (valV x.1, Value.int .i64 (x.2 : Int))) i = some (if l.any (isV v) then some (i + l.findIdx (isV v)) else none) := by
  intro l
  induction l with
  | nil => intro o i; rfl
  | cons x l ih =>
    intro o i
    simp only [List.zipIdx_cons, List.map_cons, mfind, eqKey_V, Option.bind_some, List.any_cons, List.findIdx_cons]
    cases h : isV v x with
    | true => simp
    | false => simp [ih, show ∀ n, i + 1 + n = i + (n + 1) from fun n => by omega]; rfl
theorem akey_V {v : V} (l : List V) : akey Try.prog 54 (valV v) (entsV l) = some (if l.any (isV v) then some (idV l v) else none) := by
  simp only [akey, show plainKey Try.prog 54 (valV v) = true from rfl, if_true]
  have := mfind_V (v := v) l 0 0
  simpa [idV] using this
theorem mapOf_V : mapOf Try.prog 55 = some (54, 3) := rfl
theorem hmapV {H : Heap} {b : Nat} {o : Bool} {es : List (Value × Value)} (h : H[b]? = some (.map o es)) : hmap H b = some es := by simp [hmap, h]
theorem isV_t {v x : V} : isV v x = true ↔ x = v := by unfold isV; exact decide_eq_true_iff
theorem look_V {H : Heap} {mp : Nat} {l : List V} (hm : H[mp]? = some (.map true (entsV l))) (v : V) :
    alookup Try.prog 55 (.map (some mp)) (valV v) true H = some (.tuple #[.int .i64 (if l.any (isV v) then (idV l v : Int) else 0), .bool (l.any (isV v))]) := by
  simp only [alookup, mapOf_V, Option.bind_some, mentries, hmapV hm, akey_V]
  cases h : l.any (isV v) with
  | false => rfl
  | true =>
    simp only [if_true]
    obtain ⟨x, hx, h1⟩ := List.any_eq_true.1 h
    have hlt : idV l v < l.length := List.findIdx_lt_length_of_exists ⟨x, hx, h1⟩
    have h2 : (entsV l)[idV l v]? = some (valV l[idV l v], .int .i64 (idV l v : Int)) := by
      simp [hlt]
    rw [h2]
    rfl
theorem upd_V {H : Heap} {mp : Nat} {l : List V} (hm : H[mp]? = some (.map true (entsV l))) {v : V} (hv : l.any (isV v) = false) :
    amapUpdate Try.prog 55 (.map (some mp)) (valV v) (.int .i64 (l.length : Int)) H = some (H.set mp (.map true (entsV (l ++ [v])))) := by
  simp only [amapUpdate, mapOf_V, Option.bind_some, hm, akey_V, hv]
  simp [entsV, List.zipIdx_append]
theorem constant_ax {K : LK} {H : Heap} {s : LS} {at_ d : Int} {cv ov pv : Value} {mp pb : Nat} (h : LR K H s at_ d cv ov pv mp pb) (hd : 0 ≤ d ∧ d ≤ 64) (hc : 0 ≤ K.c.2.1 ∧ K.c.2.1 ≤ 24) (v : V) (hops : s.ops.length ≤ 99999) (hcon : s.consts.length ≤ 99999) (hpb : pb < H.length) (hn : K.n0 ≤ H.length) :
    AX Try.prog 70 #[.pointer (some ⟨K.l, 0, none⟩), valV v] H
      (fun _ H' => (∃ cv' ov', LR K H' (putL_ { s with consts := addV s.consts v } ⟨2, K.c.2.1 + d, (idV s.consts v : Int), 0, 0, [], 0, []⟩ K.c.2.1 at_ d) at_ d cv' ov' pv mp pb) ∧ FrL K H H') := by
  refine AX.body (n := 46) (rs := []) Try.func70 rfl (by decide) rfl rfl (bC_sound _ _ _ _ ?_)
  (conv => whnf)
  refine Ob2.box rfl fun q1 H1 hq1 a1 g1 => ?_
  have h1 := h.grow g1
  have b1 := hblk_of a1
  have bl := hblk_of h1.blk
  have lk := look_V h1.map v
  have lv1 : aload Try.prog 54 (.pointer (some ⟨q1, 0, none⟩)) H1 = some (valV v) := ald_agg rfl rfl rfl b1 rfl
  have w0 : IntKind.i64.wrap (IntKind.i64.wrap (K.c.2.1 + d) - 0) = K.c.2.1 + d := by rw [wrap_i64 (n := K.c.2.1 + d) (by omega) (by omega), Int.sub_zero, wrap_i64 (by omega) (by omega)]
  (try (conv => whnf)); (repeat ((fail_if_success (with_reducible refine And.intro ?_ ?_)); (fail_if_success (with_reducible refine Exists.intro ?_ ?_)); (first | (apply Ob.of; (first | with_reducible assumption | with_reducible exact ex20 _ _ | with_reducible exact ex21 _ _ | with_reducible exact ex30 _ _ _ | with_reducible exact ex31 _ _ _ | with_reducible exact ex32 _ _ _ | rfl | (exact ald rfl rfl (by assumption) rfl) | (exact ald_agg rfl rfl rfl (by assumption) rfl)); (conv => whnf)) | (apply bIf.yes; (first | assumption | rfl); (conv => whnf)) | (apply bIf.no; (first | assumption | rfl); (conv => whnf)) | ((with_reducible refine Ob.load (by with_unfolding_all assumption) ?_); (conv => whnf)) | (apply Grows.mk; (first | exact Grow.refl _ | assumption); (conv => whnf)))))
  apply SW.drawG [(0, [], [11], false), (1, [(7, 0)], [7, 11], false), (2, [(7, 0), (8, 1)], [7, 8, 11], false), (3, [(7, 0), (8, 1), (9, 2)], [7, 8, 9, 11], false), (4, [], [7, 8, 9, 10], false), (5, [(7, 0), (8, 1), (9, 2), (10, 3), (11, 4)], [7, 8, 9, 10, 11], false), (6, [(7, 0), (8, 1), (9, 2), (10, 3), (11, 4), (12, 5)], [7, 8, 9, 10, 11, 12], false), (7, [(7, 0), (8, 1), (9, 2), (10, 3), (11, 4), (12, 5), (6, 6)], [7, 8, 9, 10, 11, 12, 6, 14], false), (8, [(7, 0), (8, 1), (9, 2), (10, 3), (11, 4), (12, 5), (6, 6)], [7, 8, 9, 10, 11, 12, 6, 13, 4], false), (9, [(7, 0), (8, 1), (9, 2), (10, 3), (11, 4), (12, 5), (6, 6), (13, 7)], [7, 8, 9, 10, 11, 12, 6, 13, 14], false), (10, [(7, 0), (8, 1), (9, 2), (10, 3), (11, 4), (12, 5), (6, 6), (13, 7), (14, 8), (4, 9)], [7, 8, 9, 10, 11, 12, 6, 13, 14, 4], false)]
    [(7, 0), (8, 1), (9, 2), (10, 3), (11, 4), (12, 5), (6, 6), (13, 7), (14, 8), (4, 9), (5, 10)]
    [(0, _), (3, _)] rfl (by kernel_rfl)
  case hF => exact ⟨rfl, rfl, trivial⟩
  (try (conv => whnf)); (repeat ((fail_if_success (with_reducible refine And.intro ?_ ?_)); (fail_if_success (with_reducible refine Exists.intro ?_ ?_)); (first | (apply Ob.of; (first | with_reducible assumption | with_reducible exact ex20 _ _ | with_reducible exact ex21 _ _ | with_reducible exact ex30 _ _ _ | with_reducible exact ex31 _ _ _ | with_reducible exact ex32 _ _ _ | rfl | (exact ald rfl rfl (by assumption) rfl) | (exact ald_agg rfl rfl rfl (by assumption) rfl)); (conv => whnf)) | (apply bIf.yes; (first | assumption | rfl); (conv => whnf)) | (apply bIf.no; (first | assumption | rfl); (conv => whnf)) | ((with_reducible refine Ob.load (by with_unfolding_all assumption) ?_); (conv => whnf)) | (apply Grows.mk; (first | exact Grow.refl _ | assumption); (conv => whnf)))))
  cases hv : s.consts.any (isV v) with
  | true =>
    have ha : addV s.consts v = s.consts := by unfold addV; rw [if_pos hv]
    rw [ha]
    have hid : (if true = true then (idV s.consts v : Int) else 0) = idV s.consts v := rfl
    (try (conv => whnf)); (repeat ((fail_if_success (with_reducible refine And.intro ?_ ?_)); (fail_if_success (with_reducible refine Exists.intro ?_ ?_)); (first | (apply Ob.of; (first | with_reducible assumption | with_reducible exact ex20 _ _ | with_reducible exact ex21 _ _ | with_reducible exact ex30 _ _ _ | with_reducible exact ex31 _ _ _ | with_reducible exact ex32 _ _ _ | rfl | (exact ald rfl rfl (by assumption) rfl) | (exact ald_agg rfl rfl rfl (by assumption) rfl)); (conv => whnf)) | (apply bIf.yes; (first | assumption | rfl); (conv => whnf)) | (apply bIf.no; (first | assumption | rfl); (conv => whnf)) | ((with_reducible refine Ob.load (by with_unfolding_all assumption) ?_); (conv => whnf)) | (apply Grows.mk; (first | exact Grow.refl _ | assumption); (conv => whnf)))))
    refine (stack_ax h1 _).mono ?_
    rintro _ X ⟨rfl, e⟩
    subst X
    rw [w0]
    (try (conv => whnf)); (repeat ((fail_if_success (with_reducible refine And.intro ?_ ?_)); (fail_if_success (with_reducible refine Exists.intro ?_ ?_)); (first | (apply Ob.of; (first | with_reducible assumption | with_reducible exact ex20 _ _ | with_reducible exact ex21 _ _ | with_reducible exact ex30 _ _ _ | with_reducible exact ex31 _ _ _ | with_reducible exact ex32 _ _ _ | rfl | (exact ald rfl rfl (by assumption) rfl) | (exact ald_agg rfl rfl rfl (by assumption) rfl)); (conv => whnf)) | (apply bIf.yes; (first | assumption | rfl); (conv => whnf)) | (apply bIf.no; (first | assumption | rfl); (conv => whnf)) | ((with_reducible refine Ob.load (by with_unfolding_all assumption) ?_); (conv => whnf)) | (apply Grows.mk; (first | exact Grow.refl _ | assumption); (conv => whnf)))))
    refine (put_ax h1 hd hc _ _ _ _ _ (rv := .slice none 0 0) (regs := []) ⟨.inl ⟨rfl, rfl⟩, fun b hb => by obtain ⟨n, k, hb⟩ := hb; simp at hb⟩ hops (by have := g1.1; omega) (by have := g1.1; omega)).mono ?_
    rintro _ H2 ⟨⟨ov', h2⟩, f2⟩
    (try (conv => whnf)); (repeat ((fail_if_success (with_reducible refine And.intro ?_ ?_)); (fail_if_success (with_reducible refine Exists.intro ?_ ?_)); (first | (apply Ob.of; (first | with_reducible assumption | with_reducible exact ex20 _ _ | with_reducible exact ex21 _ _ | with_reducible exact ex30 _ _ _ | with_reducible exact ex31 _ _ _ | with_reducible exact ex32 _ _ _ | rfl | (exact ald rfl rfl (by assumption) rfl) | (exact ald_agg rfl rfl rfl (by assumption) rfl)); (conv => whnf)) | (apply bIf.yes; (first | assumption | rfl); (conv => whnf)) | (apply bIf.no; (first | assumption | rfl); (conv => whnf)) | ((with_reducible refine Ob.load (by with_unfolding_all assumption) ?_); (conv => whnf)) | (apply Grows.mk; (first | exact Grow.refl _ | assumption); (conv => whnf)))))
    exact ⟨⟨cv, ov', h2⟩, (FrL.of g1).trans f2⟩
  | false =>
    have ha : addV s.consts v = s.consts ++ [v] := by unfold addV; rw [if_neg (by simp [hv])]
    have hid : idV s.consts v = s.consts.length := by
      refine List.findIdx_eq_length_of_false fun x hx => ?_
      cases hx2 : isV v x with
      | false => rfl
      | true => have := List.any_eq_true.2 ⟨x, hx, hx2⟩; rw [hv] at this; simp at this
    rw [ha, hid]
    have hlen : ∀ H', alen Try.prog 28 cv H' = some (.int .i64 s.consts.length) := fun H' => h.con.rl.len rfl _
    have hl1 := hlen H1
    obtain ⟨H2, up, hB, m2, l2⟩ : ∃ H2, amapUpdate Try.prog 55 (.map (some mp)) (valV v) (.int .i64 (s.consts.length : Int)) H1 = some H2 ∧ But mp H1 H2 ∧ H2[mp]? = some (.map true (entsV (s.consts ++ [v]))) ∧ H2.length = H1.length := ⟨_, upd_V h1.map hv, .set _ _, at_set h1.map, by simp⟩
    have kp2 := Kp.map h1.map hB
    have nel : K.l ≠ mp := by rintro e; have := h1.blk; rw [e, h1.map] at this; simp at this
    have neq : q1 ≠ mp := by rintro e; rw [e, h1.map] at a1; simp at a1
    have bl2 := hB.at h1.blk nel
    have b2 := hblk_of bl2
    have c2 := hblk_of (hB.at a1 neq)
    (try (conv => whnf)); (repeat ((fail_if_success (with_reducible refine And.intro ?_ ?_)); (fail_if_success (with_reducible refine Exists.intro ?_ ?_)); (first | (apply Ob.of; (first | with_reducible assumption | with_reducible exact ex20 _ _ | with_reducible exact ex21 _ _ | with_reducible exact ex30 _ _ _ | with_reducible exact ex31 _ _ _ | with_reducible exact ex32 _ _ _ | rfl | (exact ald rfl rfl (by assumption) rfl) | (exact ald_agg rfl rfl rfl (by assumption) rfl)); (conv => whnf)) | (apply bIf.yes; (first | assumption | rfl); (conv => whnf)) | (apply bIf.no; (first | assumption | rfl); (conv => whnf)) | ((with_reducible refine Ob.load (by with_unfolding_all assumption) ?_); (conv => whnf)) | (apply Grows.mk; (first | exact Grow.refl _ | assumption); (conv => whnf)))))
    apply SW.drawH [(0, [], [27, 28], false), (1, [(23, 0)], [23, 27, 28], false), (2, [(23, 0), (24, 1)], [23, 24, 27, 28], false), (3, [(23, 0), (24, 1), (25, 2)], [23, 24, 25, 27, 28], false), (4, [], [23, 24, 25, 26, 28], false), (5, [], [23, 24, 25, 26, 27], false), (6, [(23, 0), (24, 1), (25, 2), (26, 3), (27, 4), (28, 5)], [23, 24, 25, 26, 27, 28], true)]
      [(23, 0), (24, 1), (25, 2), (26, 3), (27, 4), (28, 5)] []
      [(0, _), (3, _), (4, _)] rfl (by kernel_rfl)
    case hF => exact ⟨rfl, rfl, rfl, trivial⟩
    have lv2 : aload Try.prog 54 (.pointer (some ⟨q1, 0, none⟩)) H2 = some (valV v) := ald_agg rfl rfl rfl c2 rfl
    (try (conv => whnf)); (repeat ((fail_if_success (with_reducible refine And.intro ?_ ?_)); (fail_if_success (with_reducible refine Exists.intro ?_ ?_)); (first | (apply Ob.of; (first | with_reducible assumption | with_reducible exact ex20 _ _ | with_reducible exact ex21 _ _ | with_reducible exact ex30 _ _ _ | with_reducible exact ex31 _ _ _ | with_reducible exact ex32 _ _ _ | rfl | (exact ald rfl rfl (by assumption) rfl) | (exact ald_agg rfl rfl rfl (by assumption) rfl)); (conv => whnf)) | (apply bIf.yes; (first | assumption | rfl); (conv => whnf)) | (apply bIf.no; (first | assumption | rfl); (conv => whnf)) | ((with_reducible refine Ob.load (by with_unfolding_all assumption) ?_); (conv => whnf)) | (apply Grows.mk; (first | exact Grow.refl _ | assumption); (conv => whnf)))))
    apply SW.drawH [(0, [], [30, 31, 32, 33, 34, 35, 36, 37], false), (1, [], [29, 35, 36], false), (2, [(30, 1)], [29, 30, 35, 36], false), (3, [(30, 1), (31, 2)], [29, 30, 31, 35, 36], false), (4, [(30, 1), (31, 2), (32, 3)], [29, 30, 31, 32, 35, 36], false), (5, [(30, 1), (31, 2), (32, 3), (33, 4)], [29, 30, 31, 32, 33, 35, 36], false), (6, [], [29, 30, 31, 32, 33, 34], false), (7, [(35, 6)], [29, 30, 31, 32, 33, 34, 35], true), (8, [(30, 1), (31, 2), (32, 3), (33, 4), (34, 5), (35, 6), (36, 7)], [29, 30, 31, 32, 33, 34, 35, 36], true), (9, [(29, 0), (30, 1), (31, 2), (32, 3), (33, 4), (34, 5), (35, 6), (36, 7), (37, 8)], [29, 30, 31, 32, 33, 34, 35, 36, 37], false), (10, [(29, 0), (30, 1), (31, 2), (32, 3), (33, 4), (34, 5), (35, 6), (36, 7), (37, 8), (38, 9)], [29, 30, 31, 32, 33, 34, 35, 36, 37, 38], false), (11, [(29, 0), (30, 1), (31, 2), (32, 3), (33, 4), (34, 5), (35, 6), (36, 7), (37, 8), (38, 9), (39, 10)], [29, 30, 31, 32, 33, 34, 35, 36, 37, 38, 39], false), (12, [(29, 0), (30, 1), (31, 2), (32, 3), (33, 4), (34, 5), (35, 6), (36, 7), (37, 8), (38, 9), (39, 10), (40, 11)], [29, 30, 31, 32, 33, 34, 35, 36, 37, 38, 39, 40], true)]
      [(29, 0), (30, 1), (31, 2), (32, 3), (33, 4), (34, 5), (35, 6), (36, 7), (37, 8), (38, 9), (39, 10), (40, 11)] [7]
      [(0, _), (3, _), (4, _)] rfl (by kernel_rfl)
    case hF => exact ⟨rfl, rfl, rfl, trivial⟩
    (try (conv => whnf)); (repeat ((fail_if_success (with_reducible refine And.intro ?_ ?_)); (fail_if_success (with_reducible refine Exists.intro ?_ ?_)); (first | (apply Ob.of; (first | with_reducible assumption | with_reducible exact ex20 _ _ | with_reducible exact ex21 _ _ | with_reducible exact ex30 _ _ _ | with_reducible exact ex31 _ _ _ | with_reducible exact ex32 _ _ _ | rfl | (exact ald rfl rfl (by assumption) rfl) | (exact ald_agg rfl rfl rfl (by assumption) rfl)); (conv => whnf)) | (apply bIf.yes; (first | assumption | rfl); (conv => whnf)) | (apply bIf.no; (first | assumption | rfl); (conv => whnf)) | ((with_reducible refine Ob.load (by with_unfolding_all assumption) ?_); (conv => whnf)) | (apply Grows.mk; (first | exact Grow.refl _ | assumption); (conv => whnf)))))
    refine Ob2.lay (H := H2) (.cells (.row 54) [.int .i64 v.1, .int .i64 v.2.1, .string v.2.2]) (.slice (some ⟨H2.length, 0, none⟩) 1 3) rfl fun H3 a3 g3 l3 => ?_
    have con3 : OwnR 3 54 valR H3 cv s.consts := (Kp.grow g3).own (fun _ => ok_no _) (fun _ _ h => h) (kp2.own (fun _ => ok_map) (fun _ _ h => h) h1.con)
    obtain ⟨H4, ap, o4, f4, _⟩ := OwnR.append (n := K.n0) (x := v) rowVal rowVal con3 a3 rfl rfl h.con0 (by have := g1.1; have := g3.1; omega) (by omega) (fun _ _ _ _ _ h => h)
    have bl4 := f4.2 K.l _ (g3.at bl2) (.inr fun c he => by simp at he)
    have m4 := f4.2 mp _ (g3.at m2) (.inr fun c he => by simp at he)
    (try (conv => whnf)); (repeat ((fail_if_success (with_reducible refine And.intro ?_ ?_)); (fail_if_success (with_reducible refine Exists.intro ?_ ?_)); (first | (apply Ob.of; (first | with_reducible assumption | with_reducible exact ex20 _ _ | with_reducible exact ex21 _ _ | with_reducible exact ex30 _ _ _ | with_reducible exact ex31 _ _ _ | with_reducible exact ex32 _ _ _ | rfl | (exact ald rfl rfl (by assumption) rfl) | (exact ald_agg rfl rfl rfl (by assumption) rfl)); (conv => whnf)) | (apply bIf.yes; (first | assumption | rfl); (conv => whnf)) | (apply bIf.no; (first | assumption | rfl); (conv => whnf)) | ((with_reducible refine Ob.load (by with_unfolding_all assumption) ?_); (conv => whnf)) | (apply Grows.mk; (first | exact Grow.refl _ | assumption); (conv => whnf)))))
    refine Ob2.of ap ?_
    (try (conv => whnf)); (repeat ((fail_if_success (with_reducible refine And.intro ?_ ?_)); (fail_if_success (with_reducible refine Exists.intro ?_ ?_)); (first | (apply Ob.of; (first | with_reducible assumption | with_reducible exact ex20 _ _ | with_reducible exact ex21 _ _ | with_reducible exact ex30 _ _ _ | with_reducible exact ex31 _ _ _ | with_reducible exact ex32 _ _ _ | rfl | (exact ald rfl rfl (by assumption) rfl) | (exact ald_agg rfl rfl rfl (by assumption) rfl)); (conv => whnf)) | (apply bIf.yes; (first | assumption | rfl); (conv => whnf)) | (apply bIf.no; (first | assumption | rfl); (conv => whnf)) | ((with_reducible refine Ob.load (by with_unfolding_all assumption) ?_); (conv => whnf)) | (apply Grows.mk; (first | exact Grow.refl _ | assumption); (conv => whnf)))))
    refine Ob.store rfl rfl rfl bl4 rfl (by first | exact Nat.le_of_ble_eq_true rfl | simp) fun H5 s5 k5 l5 => ?_
    have kp3 := Kp.grow g3
    have kp4 := Kp.row f4
    have kp5 := Kp.var bl4 k5
    have h5 : LR K H5 { s with consts := s.consts ++ [v] } at_ d (.slice (some ⟨H3.length, 0, none⟩) (s.consts.length + 1) 3) ov pv mp pb := by
      refine ⟨s5, h.l0, kp5.own (fun _ => ok_var) (fun _ _ h => h) o4, fun b hb => ?_, ?_, h.ops0, ?_, h.pla0, k5.at m4 nel.symm, h.map0, ?_, ⟨?_, h.few.2⟩, ?_⟩
      · obtain ⟨n, k, hb⟩ := hb
        simp only [Value.slice.injEq, Option.some.injEq, Addr.mk.injEq, and_true] at hb
        have := g1.1; have := g3.1
        omega
      · exact kp5.own (fun _ => ok_var) (fun _ _ k => k.keep (kp5.int (fun _ => ok_var) _)) (kp4.own (fun _ => ok_row (by decide)) (fun _ _ k => k.keep (kp4.int (fun _ => ok_row (by decide)) _)) (kp3.own (fun _ => ok_no _) (fun _ _ k => k.keep (kp3.int (fun _ => ok_no _) _)) (kp2.own (fun _ => ok_map) (fun _ _ k => k.keep (kp2.int (fun _ => ok_map) _)) h1.ops)))
      · exact kp5.own (fun _ => ok_var) (fun _ _ h => h) (kp4.own (fun _ => ok_row (by decide)) (fun _ _ h => h) (kp3.own (fun _ => ok_no _) (fun _ _ h => h) (kp2.own (fun _ => ok_map) (fun _ _ h => h) h1.pla)))
      · refine List.nodup_append.2 ⟨h.nodup, by simp, fun a hma b hb => ?_⟩
        simp only [List.mem_singleton] at hb
        subst hb
        rintro rfl
        have := List.any_eq_true.2 ⟨a, hma, isV_t.2 rfl⟩
        rw [hv] at this; simp at this
      · show (s.consts ++ [v]).length ≤ _
        rw [List.length_append, List.length_singleton]; omega
      · have := h1.top; have := g3.1; have := f4.1; omega
    have f5 : FrL K H H5 := ((((FrL.of g1).trans (.ofMap hB h.map0 h1.map)).trans (.of g3)).trans (.ofR f4 (.inr rfl))).trans (.ofBut k5 h.l0)
    (try (conv => whnf)); (repeat ((fail_if_success (with_reducible refine And.intro ?_ ?_)); (fail_if_success (with_reducible refine Exists.intro ?_ ?_)); (first | (apply Ob.of; (first | with_reducible assumption | with_reducible exact ex20 _ _ | with_reducible exact ex21 _ _ | with_reducible exact ex30 _ _ _ | with_reducible exact ex31 _ _ _ | with_reducible exact ex32 _ _ _ | rfl | (exact ald rfl rfl (by assumption) rfl) | (exact ald_agg rfl rfl rfl (by assumption) rfl)); (conv => whnf)) | (apply bIf.yes; (first | assumption | rfl); (conv => whnf)) | (apply bIf.no; (first | assumption | rfl); (conv => whnf)) | ((with_reducible refine Ob.load (by with_unfolding_all assumption) ?_); (conv => whnf)) | (apply Grows.mk; (first | exact Grow.refl _ | assumption); (conv => whnf)))))
    refine (stack_ax h5 _).mono ?_
    rintro _ X ⟨rfl, e⟩
    subst X
    rw [w0]
    (try (conv => whnf)); (repeat ((fail_if_success (with_reducible refine And.intro ?_ ?_)); (fail_if_success (with_reducible refine Exists.intro ?_ ?_)); (first | (apply Ob.of; (first | with_reducible assumption | with_reducible exact ex20 _ _ | with_reducible exact ex21 _ _ | with_reducible exact ex30 _ _ _ | with_reducible exact ex31 _ _ _ | with_reducible exact ex32 _ _ _ | rfl | (exact ald rfl rfl (by assumption) rfl) | (exact ald_agg rfl rfl rfl (by assumption) rfl)); (conv => whnf)) | (apply bIf.yes; (first | assumption | rfl); (conv => whnf)) | (apply bIf.no; (first | assumption | rfl); (conv => whnf)) | ((with_reducible refine Ob.load (by with_unfolding_all assumption) ?_); (conv => whnf)) | (apply Grows.mk; (first | exact Grow.refl _ | assumption); (conv => whnf)))))
    refine (put_ax h5 hd hc _ _ _ _ _ (rv := .slice none 0 0) (regs := []) ⟨.inl ⟨rfl, rfl⟩, fun b hb => by obtain ⟨n, k, hb⟩ := hb; simp at hb⟩ hops (by have := f5.1; omega) (by have := f5.1; omega)).mono ?_
    rintro _ H6 ⟨⟨ov', h6⟩, f6⟩
    (try (conv => whnf)); (repeat ((fail_if_success (with_reducible refine And.intro ?_ ?_)); (fail_if_success (with_reducible refine Exists.intro ?_ ?_)); (first | (apply Ob.of; (first | with_reducible assumption | with_reducible exact ex20 _ _ | with_reducible exact ex21 _ _ | with_reducible exact ex30 _ _ _ | with_reducible exact ex31 _ _ _ | with_reducible exact ex32 _ _ _ | rfl | (exact ald rfl rfl (by assumption) rfl) | (exact ald_agg rfl rfl rfl (by assumption) rfl)); (conv => whnf)) | (apply bIf.yes; (first | assumption | rfl); (conv => whnf)) | (apply bIf.no; (first | assumption | rfl); (conv => whnf)) | ((with_reducible refine Ob.load (by with_unfolding_all assumption) ?_); (conv => whnf)) | (apply Grows.mk; (first | exact Grow.refl _ | assumption); (conv => whnf)))))
    exact ⟨⟨_, ov', h6⟩, f5.trans f6⟩
end Go.Proofs.Ytdlanbfbbopfhaa
/- Package lift: the registers that an instruction takes, and what it lays. (Printed by mk4.py.) -/
set_option linter.unusedVariables false
set_option linter.unusedSimpArgs false
set_option maxRecDepth 20000
set_option maxHeartbeats 8000000
namespace Go.Proofs.Ytdlanbfbbopfhaa
open Go Ax
theorem took_succ (t n : Int) (j : Nat) : (List.range (j + 1)).map (fun k : Nat => t - n + (k : Int)) = (List.range j).map (fun k : Nat => t - n + (k : Int)) ++ [t - n + (j : Int)] := by simp [List.range_succ]
theorem all_ax {K : LK} {H : Heap} {s : LS} {at_ d : Int} {cv ov pv : Value} {mp pb : Nat} (h : LR K H s at_ d cv ov pv mp pb) (hd : 0 ≤ d ∧ d ≤ 64) (hc : 0 ≤ K.c.2.1 ∧ K.c.2.1 ≤ 24) {n : Int} (hn : 0 ≤ n ∧ n ≤ 8) :
    AX Try.prog 58 #[.pointer (some ⟨K.l, 0, none⟩), .int .i64 n, .func (.func 55) #[.pointer (some ⟨K.l, 0, none⟩)] #[]] H
      (fun v H' => (OwnR 1 3 intR H' v (took (K.c.2.1 + d) n) ∧ ∀ b, blkIs v b → H.length ≤ b) ∧ Grow H H') := by
  refine AX.body (n := 21) (rs := [.tmp 6]) Try.func58 rfl (by decide) rfl rfl (bC_sound _ _ _ _ ?_)
  (try (conv => whnf)); (repeat ((fail_if_success (with_reducible refine And.intro ?_ ?_)); (fail_if_success (with_reducible refine Exists.intro ?_ ?_)); (first | (apply Ob.of; (first | with_reducible assumption | with_reducible exact ex20 _ _ | with_reducible exact ex21 _ _ | with_reducible exact ex30 _ _ _ | with_reducible exact ex31 _ _ _ | with_reducible exact ex32 _ _ _ | rfl | (exact ald rfl rfl (by assumption) rfl) | (exact ald_agg rfl rfl rfl (by assumption) rfl)); (conv => whnf)) | (apply bIf.yes; (first | assumption | rfl); (conv => whnf)) | (apply bIf.no; (first | assumption | rfl); (conv => whnf)) | ((with_reducible refine Ob.load (by with_unfolding_all assumption) ?_); (conv => whnf)) | (apply Grows.mk; (first | exact Grow.refl _ | assumption); (conv => whnf)))))
  refine SW.loop (α := Nat × Value) (fun y => [(0, .pointer (some ⟨K.l, 0, none⟩)), (2, .func (.func 55) #[.pointer (some ⟨K.l, 0, none⟩)] #[]), (7, y.2), (8, .int .i64 (n - (y.1 : Int)))])
    (fun y H' => y.1 ≤ n.toNat ∧ Grow H H' ∧ OwnR 1 3 intR H' y.2 ((List.range y.1).map fun k : Nat => K.c.2.1 + d - n + (k : Int)) ∧ ∀ b, blkIs y.2 b → H.length ≤ b) (fun y => n.toNat - y.1) ⟨(0, .slice none 0 0), ⟨rfl, rfl, rfl, congrArg (fun z => some (Value.int .i64 z)) (show n = n - 0 by omega), trivial⟩, by show 0 ≤ _; omega, .refl _, .inl ⟨rfl, rfl⟩, fun b hb => by obtain ⟨n, k, hb⟩ := hb; simp at hb⟩ ?_
  rintro ⟨j, mv⟩ H1 ⟨hj, g1, om, m0⟩
  dsimp only at hj g1 om m0 ⊢
  refine bC_sound _ _ _ _ ?_
  have h1 := h.grow g1
  by_cases hjd : j < n.toNat
  · have d1 : decide (n - (j : Int) > 0) = true := decide_eq_true (by omega)
    have w1 : IntKind.i64.wrap (IntKind.i64.wrap (K.c.2.1 + d) - (n - (j : Int))) = K.c.2.1 + d - n + (j : Int) := by rw [wrap_i64 (n := K.c.2.1 + d) (by omega) (by omega), wrap_i64 (by omega) (by omega)]; omega
    have w2 : IntKind.i64.wrap (n - (j : Int) - 1) = n - ((j + 1 : Nat) : Int) := by rw [wrap_i64 (by omega) (by omega)]; omega
    (try (conv => whnf)); (repeat ((fail_if_success (with_reducible refine And.intro ?_ ?_)); (fail_if_success (with_reducible refine Exists.intro ?_ ?_)); (first | (apply Ob.of; (first | with_reducible assumption | with_reducible exact ex20 _ _ | with_reducible exact ex21 _ _ | with_reducible exact ex30 _ _ _ | with_reducible exact ex31 _ _ _ | with_reducible exact ex32 _ _ _ | rfl | (exact ald rfl rfl (by assumption) rfl) | (exact ald_agg rfl rfl rfl (by assumption) rfl)); (conv => whnf)) | (apply bIf.yes; (first | assumption | rfl); (conv => whnf)) | (apply bIf.no; (first | assumption | rfl); (conv => whnf)) | ((with_reducible refine Ob.load (by with_unfolding_all assumption) ?_); (conv => whnf)) | (apply Grows.mk; (first | exact Grow.refl _ | assumption); (conv => whnf)))))
    refine (stack_ax h1 (n - (j : Int))).mono ?_
    rintro _ X ⟨rfl, e⟩
    subst X
    rw [w1]
    (try (conv => whnf)); (repeat ((fail_if_success (with_reducible refine And.intro ?_ ?_)); (fail_if_success (with_reducible refine Exists.intro ?_ ?_)); (first | (apply Ob.of; (first | with_reducible assumption | with_reducible exact ex20 _ _ | with_reducible exact ex21 _ _ | with_reducible exact ex30 _ _ _ | with_reducible exact ex31 _ _ _ | with_reducible exact ex32 _ _ _ | rfl | (exact ald rfl rfl (by assumption) rfl) | (exact ald_agg rfl rfl rfl (by assumption) rfl)); (conv => whnf)) | (apply bIf.yes; (first | assumption | rfl); (conv => whnf)) | (apply bIf.no; (first | assumption | rfl); (conv => whnf)) | ((with_reducible refine Ob.load (by with_unfolding_all assumption) ?_); (conv => whnf)) | (apply Grows.mk; (first | exact Grow.refl _ | assumption); (conv => whnf)))))
    refine Ob2.lay (H := H1) (.cells (.row 3) [.int .i64 (K.c.2.1 + d - n + (j : Int))]) (.slice (some ⟨H1.length, 0, none⟩) 1 1) rfl fun H2 a2 g2 l2 => ?_
    obtain ⟨H3, ap, o3, f3, _⟩ := OwnR.append (n := H.length) (x := K.c.2.1 + d - n + (j : Int)) rowI rowI (om.keep (fun b c _ h => g2.at h) fun _ _ _ h => h) a2 rfl rfl m0 (by have := g1.1; have := g2.1; omega) (by simp; omega) (fun _ _ _ _ _ h => h)
    have g3 : Grow H H3 := f3.grow (g1.trans g2) (Nat.le_refl _)
    (try (conv => whnf)); (repeat ((fail_if_success (with_reducible refine And.intro ?_ ?_)); (fail_if_success (with_reducible refine Exists.intro ?_ ?_)); (first | (apply Ob.of; (first | with_reducible assumption | with_reducible exact ex20 _ _ | with_reducible exact ex21 _ _ | with_reducible exact ex30 _ _ _ | with_reducible exact ex31 _ _ _ | with_reducible exact ex32 _ _ _ | rfl | (exact ald rfl rfl (by assumption) rfl) | (exact ald_agg rfl rfl rfl (by assumption) rfl)); (conv => whnf)) | (apply bIf.yes; (first | assumption | rfl); (conv => whnf)) | (apply bIf.no; (first | assumption | rfl); (conv => whnf)) | ((with_reducible refine Ob.load (by with_unfolding_all assumption) ?_); (conv => whnf)) | (apply Grows.mk; (first | exact Grow.refl _ | assumption); (conv => whnf)))))
    refine Ob2.of ap ?_
    (try (conv => whnf)); (repeat ((fail_if_success (with_reducible refine And.intro ?_ ?_)); (fail_if_success (with_reducible refine Exists.intro ?_ ?_)); (first | (apply Ob.of; (first | with_reducible assumption | with_reducible exact ex20 _ _ | with_reducible exact ex21 _ _ | with_reducible exact ex30 _ _ _ | with_reducible exact ex31 _ _ _ | with_reducible exact ex32 _ _ _ | rfl | (exact ald rfl rfl (by assumption) rfl) | (exact ald_agg rfl rfl rfl (by assumption) rfl)); (conv => whnf)) | (apply bIf.yes; (first | assumption | rfl); (conv => whnf)) | (apply bIf.no; (first | assumption | rfl); (conv => whnf)) | ((with_reducible refine Ob.load (by with_unfolding_all assumption) ?_); (conv => whnf)) | (apply Grows.mk; (first | exact Grow.refl _ | assumption); (conv => whnf)))))
    refine ⟨(j + 1, .slice (some ⟨H2.length, 0, none⟩) (((List.range j).map fun k : Nat => K.c.2.1 + d - n + (k : Int)).length + 1) 1), ⟨rfl, rfl, rfl, congrArg (fun z => some (Value.int .i64 z)) w2, trivial⟩, ⟨by show j + 1 ≤ _; omega, g3, ?_, fun b hb => ?_⟩, by show _ - (j + 1) < _ - j; omega⟩
    · show OwnR _ _ _ _ _ ((List.range (j + 1)).map fun k : Nat => K.c.2.1 + d - n + (k : Int))
      rw [took_succ]; exact o3
    · obtain ⟨n, k, hb⟩ := hb
      simp only [Value.slice.injEq, Option.some.injEq, Addr.mk.injEq, and_true] at hb
      have := g1.1; have := g2.1
      omega
  · have d1 : decide (n - (j : Int) > 0) = false := decide_eq_false (by omega)
    have hje : j = n.toNat := by omega
    subst hje
    (try (conv => whnf)); (repeat ((fail_if_success (with_reducible refine And.intro ?_ ?_)); (fail_if_success (with_reducible refine Exists.intro ?_ ?_)); (first | (apply Ob.of; (first | with_reducible assumption | with_reducible exact ex20 _ _ | with_reducible exact ex21 _ _ | with_reducible exact ex30 _ _ _ | with_reducible exact ex31 _ _ _ | with_reducible exact ex32 _ _ _ | rfl | (exact ald rfl rfl (by assumption) rfl) | (exact ald_agg rfl rfl rfl (by assumption) rfl)); (conv => whnf)) | (apply bIf.yes; (first | assumption | rfl); (conv => whnf)) | (apply bIf.no; (first | assumption | rfl); (conv => whnf)) | ((with_reducible refine Ob.load (by with_unfolding_all assumption) ?_); (conv => whnf)) | (apply Grows.mk; (first | exact Grow.refl _ | assumption); (conv => whnf)))))
    exact ⟨⟨om, m0⟩, g1⟩
def isPush (op : Int) : Bool := decide (op = 2 ∨ op = 3 ∨ op = 4 ∨ op = 5 ∨ op = 7 ∨ op = 6 ∨ op = 12 ∨ op = 8 ∨ op = 10)
theorem noRegs (pb : Nat) (H : Heap) : IntRow pb H (.slice none 0 0) [] := ⟨.inl ⟨rfl, rfl⟩, fun b hb => by obtain ⟨n, k, hb⟩ := hb; simp at hb⟩
theorem push_ax {K : LK} {H : Heap} {s : LS} {at_ d : Int} {cv ov pv : Value} {mp pb : Nat} (h : LR K H s at_ d cv ov pv mp pb) (hd : 0 ≤ d ∧ d ≤ 64) (hc : 0 ≤ K.c.2.1 ∧ K.c.2.1 ≤ 24) (op a b : Int) (hops : s.ops.length ≤ 99999) (hcon : s.consts.length ≤ 99999) (hpb : pb < H.length) (hn : K.n0 ≤ H.length)
    (hps : RL 1 strR H K.ps K.p.2.1) (ha : op = 5 → 0 ≤ a ∧ a < K.p.2.1.length) :
    AX Try.prog 54 #[.pointer (some ⟨K.l, 0, none⟩), insV op a b] H
      (fun v H' => (v = .bool true ∧ isPush op = true ∧ (∃ cv' ov', LR K H' (instrL K.p.2.1 (op, a, b) s K.c.2.1 at_ d) at_ d cv' ov' pv mp pb) ∧ FrL K H H') ∨ (v = .bool false ∧ isPush op = false ∧ Grow H H')) := by
  refine AX.body (n := 74) (rs := [.tmp 4]) Try.func54 rfl (by decide) rfl rfl (bC_sound _ _ _ _ ?_)
  (conv => whnf)
  refine Ob2.box rfl fun q1 H1 hq1 a1 g1 => ?_
  have b1 := hblk_of a1
  have h1 := h.grow g1
  have w0 : IntKind.i64.wrap (IntKind.i64.wrap (K.c.2.1 + d) - 0) = K.c.2.1 + d := by rw [wrap_i64 (n := K.c.2.1 + d) (by omega) (by omega), Int.sub_zero, wrap_i64 (by omega) (by omega)]
  have hpb1 : pb < H1.length := by have := g1.1; omega
  have hn1 : K.n0 ≤ H1.length := by have := g1.1; omega
  have f1 : FrL K H H1 := .of g1
  (try (conv => whnf)); (repeat ((fail_if_success (with_reducible refine And.intro ?_ ?_)); (fail_if_success (with_reducible refine Exists.intro ?_ ?_)); (first | (apply Ob.of; (first | with_reducible assumption | with_reducible exact ex20 _ _ | with_reducible exact ex21 _ _ | with_reducible exact ex30 _ _ _ | with_reducible exact ex31 _ _ _ | with_reducible exact ex32 _ _ _ | rfl | (exact ald rfl rfl (by assumption) rfl) | (exact ald_agg rfl rfl rfl (by assumption) rfl)); (conv => whnf)) | (apply bIf.yes; (first | assumption | rfl); (conv => whnf)) | (apply bIf.no; (first | assumption | rfl); (conv => whnf)) | ((with_reducible refine Ob.load (by with_unfolding_all assumption) ?_); (conv => whnf)) | (apply Grows.mk; (first | exact Grow.refl _ | assumption); (conv => whnf)))))
  refine (stack_ax h1 _).mono ?_
  rintro _ X ⟨rfl, e⟩
  subst X
  rw [w0]
  cases hp : isPush op with
  | false =>
    have hne : op ≠ 2 ∧ op ≠ 3 ∧ op ≠ 4 ∧ op ≠ 5 ∧ op ≠ 7 ∧ op ≠ 6 ∧ op ≠ 12 ∧ op ≠ 8 ∧ op ≠ 10 := by
      have := of_decide_eq_false hp
      omega
    have e2 : (op == 2) = false := by rw [beq_eq_false_iff_ne]; omega
    have e3 : (op == 3) = false := by rw [beq_eq_false_iff_ne]; omega
    have e4 : (op == 4) = false := by rw [beq_eq_false_iff_ne]; omega
    have e5 : (op == 5) = false := by rw [beq_eq_false_iff_ne]; omega
    have e7 : (op == 7) = false := by rw [beq_eq_false_iff_ne]; omega
    have e6 : (op == 6) = false := by rw [beq_eq_false_iff_ne]; omega
    have e12 : (op == 12) = false := by rw [beq_eq_false_iff_ne]; omega
    have e8 : (op == 8) = false := by rw [beq_eq_false_iff_ne]; omega
    have e10 : (op == 10) = false := by rw [beq_eq_false_iff_ne]; omega
    (try (conv => whnf)); (repeat ((fail_if_success (with_reducible refine And.intro ?_ ?_)); (fail_if_success (with_reducible refine Exists.intro ?_ ?_)); (first | (apply Ob.of; (first | with_reducible assumption | with_reducible exact ex20 _ _ | with_reducible exact ex21 _ _ | with_reducible exact ex30 _ _ _ | with_reducible exact ex31 _ _ _ | with_reducible exact ex32 _ _ _ | rfl | (exact ald rfl rfl (by assumption) rfl) | (exact ald_agg rfl rfl rfl (by assumption) rfl)); (conv => whnf)) | (apply bIf.yes; (first | assumption | rfl); (conv => whnf)) | (apply bIf.no; (first | assumption | rfl); (conv => whnf)) | ((with_reducible refine Ob.load (by with_unfolding_all assumption) ?_); (conv => whnf)) | (apply Grows.mk; (first | exact Grow.refl _ | assumption); (conv => whnf)))))
    exact .inr ⟨rfl, rfl, g1⟩
  | true =>
    have hcase : op = 2 ∨ op = 3 ∨ op = 4 ∨ op = 5 ∨ op = 7 ∨ op = 6 ∨ op = 12 ∨ op = 8 ∨ op = 10 := of_decide_eq_true hp
    rcases hcase with rfl | rfl | rfl | rfl | rfl | rfl | rfl | rfl | rfl
    · (try (conv => whnf)); (repeat ((fail_if_success (with_reducible refine And.intro ?_ ?_)); (fail_if_success (with_reducible refine Exists.intro ?_ ?_)); (first | (apply Ob.of; (first | with_reducible assumption | with_reducible exact ex20 _ _ | with_reducible exact ex21 _ _ | with_reducible exact ex30 _ _ _ | with_reducible exact ex31 _ _ _ | with_reducible exact ex32 _ _ _ | rfl | (exact ald rfl rfl (by assumption) rfl) | (exact ald_agg rfl rfl rfl (by assumption) rfl)); (conv => whnf)) | (apply bIf.yes; (first | assumption | rfl); (conv => whnf)) | (apply bIf.no; (first | assumption | rfl); (conv => whnf)) | ((with_reducible refine Ob.load (by with_unfolding_all assumption) ?_); (conv => whnf)) | (apply Grows.mk; (first | exact Grow.refl _ | assumption); (conv => whnf)))))
      refine (constant_ax h1 hd hc (0, 0, .empty) hops hcon hpb1 hn1).mono ?_
      rintro _ H2 ⟨h2, f2⟩
      (try (conv => whnf)); (repeat ((fail_if_success (with_reducible refine And.intro ?_ ?_)); (fail_if_success (with_reducible refine Exists.intro ?_ ?_)); (first | (apply Ob.of; (first | with_reducible assumption | with_reducible exact ex20 _ _ | with_reducible exact ex21 _ _ | with_reducible exact ex30 _ _ _ | with_reducible exact ex31 _ _ _ | with_reducible exact ex32 _ _ _ | rfl | (exact ald rfl rfl (by assumption) rfl) | (exact ald_agg rfl rfl rfl (by assumption) rfl)); (conv => whnf)) | (apply bIf.yes; (first | assumption | rfl); (conv => whnf)) | (apply bIf.no; (first | assumption | rfl); (conv => whnf)) | ((with_reducible refine Ob.load (by with_unfolding_all assumption) ?_); (conv => whnf)) | (apply Grows.mk; (first | exact Grow.refl _ | assumption); (conv => whnf)))))
      exact .inl ⟨rfl, rfl, h2, f1.trans f2⟩
    · (try (conv => whnf)); (repeat ((fail_if_success (with_reducible refine And.intro ?_ ?_)); (fail_if_success (with_reducible refine Exists.intro ?_ ?_)); (first | (apply Ob.of; (first | with_reducible assumption | with_reducible exact ex20 _ _ | with_reducible exact ex21 _ _ | with_reducible exact ex30 _ _ _ | with_reducible exact ex31 _ _ _ | with_reducible exact ex32 _ _ _ | rfl | (exact ald rfl rfl (by assumption) rfl) | (exact ald_agg rfl rfl rfl (by assumption) rfl)); (conv => whnf)) | (apply bIf.yes; (first | assumption | rfl); (conv => whnf)) | (apply bIf.no; (first | assumption | rfl); (conv => whnf)) | ((with_reducible refine Ob.load (by with_unfolding_all assumption) ?_); (conv => whnf)) | (apply Grows.mk; (first | exact Grow.refl _ | assumption); (conv => whnf)))))
      refine (constant_ax h1 hd hc (1, a, .empty) hops hcon hpb1 hn1).mono ?_
      rintro _ H2 ⟨h2, f2⟩
      (try (conv => whnf)); (repeat ((fail_if_success (with_reducible refine And.intro ?_ ?_)); (fail_if_success (with_reducible refine Exists.intro ?_ ?_)); (first | (apply Ob.of; (first | with_reducible assumption | with_reducible exact ex20 _ _ | with_reducible exact ex21 _ _ | with_reducible exact ex30 _ _ _ | with_reducible exact ex31 _ _ _ | with_reducible exact ex32 _ _ _ | rfl | (exact ald rfl rfl (by assumption) rfl) | (exact ald_agg rfl rfl rfl (by assumption) rfl)); (conv => whnf)) | (apply bIf.yes; (first | assumption | rfl); (conv => whnf)) | (apply bIf.no; (first | assumption | rfl); (conv => whnf)) | ((with_reducible refine Ob.load (by with_unfolding_all assumption) ?_); (conv => whnf)) | (apply Grows.mk; (first | exact Grow.refl _ | assumption); (conv => whnf)))))
      exact .inl ⟨rfl, rfl, h2, f1.trans f2⟩
    · (try (conv => whnf)); (repeat ((fail_if_success (with_reducible refine And.intro ?_ ?_)); (fail_if_success (with_reducible refine Exists.intro ?_ ?_)); (first | (apply Ob.of; (first | with_reducible assumption | with_reducible exact ex20 _ _ | with_reducible exact ex21 _ _ | with_reducible exact ex30 _ _ _ | with_reducible exact ex31 _ _ _ | with_reducible exact ex32 _ _ _ | rfl | (exact ald rfl rfl (by assumption) rfl) | (exact ald_agg rfl rfl rfl (by assumption) rfl)); (conv => whnf)) | (apply bIf.yes; (first | assumption | rfl); (conv => whnf)) | (apply bIf.no; (first | assumption | rfl); (conv => whnf)) | ((with_reducible refine Ob.load (by with_unfolding_all assumption) ?_); (conv => whnf)) | (apply Grows.mk; (first | exact Grow.refl _ | assumption); (conv => whnf)))))
      refine (constant_ax h1 hd hc (2, a, .empty) hops hcon hpb1 hn1).mono ?_
      rintro _ H2 ⟨h2, f2⟩
      (try (conv => whnf)); (repeat ((fail_if_success (with_reducible refine And.intro ?_ ?_)); (fail_if_success (with_reducible refine Exists.intro ?_ ?_)); (first | (apply Ob.of; (first | with_reducible assumption | with_reducible exact ex20 _ _ | with_reducible exact ex21 _ _ | with_reducible exact ex30 _ _ _ | with_reducible exact ex31 _ _ _ | with_reducible exact ex32 _ _ _ | rfl | (exact ald rfl rfl (by assumption) rfl) | (exact ald_agg rfl rfl rfl (by assumption) rfl)); (conv => whnf)) | (apply bIf.yes; (first | assumption | rfl); (conv => whnf)) | (apply bIf.no; (first | assumption | rfl); (conv => whnf)) | ((with_reducible refine Ob.load (by with_unfolding_all assumption) ?_); (conv => whnf)) | (apply Grows.mk; (first | exact Grow.refl _ | assumption); (conv => whnf)))))
      exact .inl ⟨rfl, rfl, h2, f1.trans f2⟩
    · obtain ⟨ha0, ha1⟩ := ha rfl
      obtain ⟨j, rfl⟩ : ∃ j : Nat, a = (j : Int) := ⟨a.toNat, by omega⟩
      obtain ⟨w, hw⟩ := get_lt (L := K.p.2.1) (m := j) (by omega)
      obtain ⟨z, i1, i2⟩ := ld_str hps hw
      have i3 := i2 H1 g1
      have hbl := hblk_of h1.blk
      have hg : K.p.2.1.getD (j : Int).toNat .empty = w := by rw [Int.toNat_natCast, List.getD_eq_getElem?_getD, hw]; rfl
      (try (conv => whnf)); (repeat ((fail_if_success (with_reducible refine And.intro ?_ ?_)); (fail_if_success (with_reducible refine Exists.intro ?_ ?_)); (first | (apply Ob.of; (first | with_reducible assumption | with_reducible exact ex20 _ _ | with_reducible exact ex21 _ _ | with_reducible exact ex30 _ _ _ | with_reducible exact ex31 _ _ _ | with_reducible exact ex32 _ _ _ | rfl | (exact ald rfl rfl (by assumption) rfl) | (exact ald_agg rfl rfl rfl (by assumption) rfl)); (conv => whnf)) | (apply bIf.yes; (first | assumption | rfl); (conv => whnf)) | (apply bIf.no; (first | assumption | rfl); (conv => whnf)) | ((with_reducible refine Ob.load (by with_unfolding_all assumption) ?_); (conv => whnf)) | (apply Grows.mk; (first | exact Grow.refl _ | assumption); (conv => whnf)))))
      apply SW.drawH [(0, [], [32, 33, 34, 35, 36, 37, 38, 39, 40, 41], false), (1, [], [31, 37, 38], false), (2, [(32, 1)], [31, 32, 37, 38], false), (3, [(32, 1), (33, 2)], [31, 32, 33, 37, 38], false), (4, [(32, 1), (33, 2), (34, 3)], [31, 32, 33, 34, 37, 38], false), (5, [(32, 1), (33, 2), (34, 3), (35, 4)], [31, 32, 33, 34, 35, 37, 38], false), (6, [], [31, 32, 33, 34, 35, 36], false), (7, [(37, 6)], [31, 32, 33, 34, 35, 36, 37], false), (8, [(32, 1), (33, 2), (34, 3), (35, 4), (36, 5), (37, 6), (38, 7)], [31, 32, 33, 34, 35, 36, 37, 38], false), (9, [(32, 1), (33, 2), (34, 3), (35, 4), (36, 5), (37, 6), (38, 7), (39, 8)], [31, 32, 33, 34, 35, 36, 37, 38, 39], false), (10, [(32, 1), (33, 2), (34, 3), (35, 4), (36, 5), (37, 6), (38, 7), (39, 8), (40, 9)], [31, 32, 33, 34, 35, 36, 37, 38, 39, 40], false), (11, [(31, 0), (32, 1), (33, 2), (34, 3), (35, 4), (36, 5), (37, 6), (38, 7), (39, 8), (40, 9), (41, 10)], [31, 32, 33, 34, 35, 36, 37, 38, 39, 40, 41], true)]
        [(31, 0), (32, 1), (33, 2), (34, 3), (35, 4), (36, 5), (37, 6), (38, 7), (39, 8), (40, 9), (41, 10), (42, 11)] []
        [(0, _), (3, _)] rfl (by kernel_rfl)
      case hF => exact ⟨rfl, rfl, trivial⟩
      (try (conv => whnf)); (repeat ((fail_if_success (with_reducible refine And.intro ?_ ?_)); (fail_if_success (with_reducible refine Exists.intro ?_ ?_)); (first | (apply Ob.of; (first | with_reducible assumption | with_reducible exact ex20 _ _ | with_reducible exact ex21 _ _ | with_reducible exact ex30 _ _ _ | with_reducible exact ex31 _ _ _ | with_reducible exact ex32 _ _ _ | rfl | (exact ald rfl rfl (by assumption) rfl) | (exact ald_agg rfl rfl rfl (by assumption) rfl)); (conv => whnf)) | (apply bIf.yes; (first | assumption | rfl); (conv => whnf)) | (apply bIf.no; (first | assumption | rfl); (conv => whnf)) | ((with_reducible refine Ob.load (by with_unfolding_all assumption) ?_); (conv => whnf)) | (apply Grows.mk; (first | exact Grow.refl _ | assumption); (conv => whnf)))))
      refine (constant_ax h1 hd hc (3, 0, w) hops hcon hpb1 hn1).mono ?_
      rintro _ H2 ⟨h2, f2⟩
      (try (conv => whnf)); (repeat ((fail_if_success (with_reducible refine And.intro ?_ ?_)); (fail_if_success (with_reducible refine Exists.intro ?_ ?_)); (first | (apply Ob.of; (first | with_reducible assumption | with_reducible exact ex20 _ _ | with_reducible exact ex21 _ _ | with_reducible exact ex30 _ _ _ | with_reducible exact ex31 _ _ _ | with_reducible exact ex32 _ _ _ | rfl | (exact ald rfl rfl (by assumption) rfl) | (exact ald_agg rfl rfl rfl (by assumption) rfl)); (conv => whnf)) | (apply bIf.yes; (first | assumption | rfl); (conv => whnf)) | (apply bIf.no; (first | assumption | rfl); (conv => whnf)) | ((with_reducible refine Ob.load (by with_unfolding_all assumption) ?_); (conv => whnf)) | (apply Grows.mk; (first | exact Grow.refl _ | assumption); (conv => whnf)))))
      refine .inl ⟨rfl, rfl, ?_, f1.trans f2⟩
      rw [← hg] at h2
      exact h2
    · (try (conv => whnf)); (repeat ((fail_if_success (with_reducible refine And.intro ?_ ?_)); (fail_if_success (with_reducible refine Exists.intro ?_ ?_)); (first | (apply Ob.of; (first | with_reducible assumption | with_reducible exact ex20 _ _ | with_reducible exact ex21 _ _ | with_reducible exact ex30 _ _ _ | with_reducible exact ex31 _ _ _ | with_reducible exact ex32 _ _ _ | rfl | (exact ald rfl rfl (by assumption) rfl) | (exact ald_agg rfl rfl rfl (by assumption) rfl)); (conv => whnf)) | (apply bIf.yes; (first | assumption | rfl); (conv => whnf)) | (apply bIf.no; (first | assumption | rfl); (conv => whnf)) | ((with_reducible refine Ob.load (by with_unfolding_all assumption) ?_); (conv => whnf)) | (apply Grows.mk; (first | exact Grow.refl _ | assumption); (conv => whnf)))))
      refine (constant_ax h1 hd hc (5, a, .empty) hops hcon hpb1 hn1).mono ?_
      rintro _ H2 ⟨h2, f2⟩
      (try (conv => whnf)); (repeat ((fail_if_success (with_reducible refine And.intro ?_ ?_)); (fail_if_success (with_reducible refine Exists.intro ?_ ?_)); (first | (apply Ob.of; (first | with_reducible assumption | with_reducible exact ex20 _ _ | with_reducible exact ex21 _ _ | with_reducible exact ex30 _ _ _ | with_reducible exact ex31 _ _ _ | with_reducible exact ex32 _ _ _ | rfl | (exact ald rfl rfl (by assumption) rfl) | (exact ald_agg rfl rfl rfl (by assumption) rfl)); (conv => whnf)) | (apply bIf.yes; (first | assumption | rfl); (conv => whnf)) | (apply bIf.no; (first | assumption | rfl); (conv => whnf)) | ((with_reducible refine Ob.load (by with_unfolding_all assumption) ?_); (conv => whnf)) | (apply Grows.mk; (first | exact Grow.refl _ | assumption); (conv => whnf)))))
      exact .inl ⟨rfl, rfl, h2, f1.trans f2⟩
    · (try (conv => whnf)); (repeat ((fail_if_success (with_reducible refine And.intro ?_ ?_)); (fail_if_success (with_reducible refine Exists.intro ?_ ?_)); (first | (apply Ob.of; (first | with_reducible assumption | with_reducible exact ex20 _ _ | with_reducible exact ex21 _ _ | with_reducible exact ex30 _ _ _ | with_reducible exact ex31 _ _ _ | with_reducible exact ex32 _ _ _ | rfl | (exact ald rfl rfl (by assumption) rfl) | (exact ald_agg rfl rfl rfl (by assumption) rfl)); (conv => whnf)) | (apply bIf.yes; (first | assumption | rfl); (conv => whnf)) | (apply bIf.no; (first | assumption | rfl); (conv => whnf)) | ((with_reducible refine Ob.load (by with_unfolding_all assumption) ?_); (conv => whnf)) | (apply Grows.mk; (first | exact Grow.refl _ | assumption); (conv => whnf)))))
      refine (put_ax h1 hd hc _ _ _ _ _ (noRegs pb H1) hops hpb1 hn1).mono ?_
      rintro _ H2 ⟨⟨ov', h2⟩, f2⟩
      (try (conv => whnf)); (repeat ((fail_if_success (with_reducible refine And.intro ?_ ?_)); (fail_if_success (with_reducible refine Exists.intro ?_ ?_)); (first | (apply Ob.of; (first | with_reducible assumption | with_reducible exact ex20 _ _ | with_reducible exact ex21 _ _ | with_reducible exact ex30 _ _ _ | with_reducible exact ex31 _ _ _ | with_reducible exact ex32 _ _ _ | rfl | (exact ald rfl rfl (by assumption) rfl) | (exact ald_agg rfl rfl rfl (by assumption) rfl)); (conv => whnf)) | (apply bIf.yes; (first | assumption | rfl); (conv => whnf)) | (apply bIf.no; (first | assumption | rfl); (conv => whnf)) | ((with_reducible refine Ob.load (by with_unfolding_all assumption) ?_); (conv => whnf)) | (apply Grows.mk; (first | exact Grow.refl _ | assumption); (conv => whnf)))))
      exact .inl ⟨rfl, rfl, ⟨cv, ov', h2⟩, f1.trans f2⟩
    · (try (conv => whnf)); (repeat ((fail_if_success (with_reducible refine And.intro ?_ ?_)); (fail_if_success (with_reducible refine Exists.intro ?_ ?_)); (first | (apply Ob.of; (first | with_reducible assumption | with_reducible exact ex20 _ _ | with_reducible exact ex21 _ _ | with_reducible exact ex30 _ _ _ | with_reducible exact ex31 _ _ _ | with_reducible exact ex32 _ _ _ | rfl | (exact ald rfl rfl (by assumption) rfl) | (exact ald_agg rfl rfl rfl (by assumption) rfl)); (conv => whnf)) | (apply bIf.yes; (first | assumption | rfl); (conv => whnf)) | (apply bIf.no; (first | assumption | rfl); (conv => whnf)) | ((with_reducible refine Ob.load (by with_unfolding_all assumption) ?_); (conv => whnf)) | (apply Grows.mk; (first | exact Grow.refl _ | assumption); (conv => whnf)))))
      refine (put_ax h1 hd hc _ _ _ _ _ (noRegs pb H1) hops hpb1 hn1).mono ?_
      rintro _ H2 ⟨⟨ov', h2⟩, f2⟩
      (try (conv => whnf)); (repeat ((fail_if_success (with_reducible refine And.intro ?_ ?_)); (fail_if_success (with_reducible refine Exists.intro ?_ ?_)); (first | (apply Ob.of; (first | with_reducible assumption | with_reducible exact ex20 _ _ | with_reducible exact ex21 _ _ | with_reducible exact ex30 _ _ _ | with_reducible exact ex31 _ _ _ | with_reducible exact ex32 _ _ _ | rfl | (exact ald rfl rfl (by assumption) rfl) | (exact ald_agg rfl rfl rfl (by assumption) rfl)); (conv => whnf)) | (apply bIf.yes; (first | assumption | rfl); (conv => whnf)) | (apply bIf.no; (first | assumption | rfl); (conv => whnf)) | ((with_reducible refine Ob.load (by with_unfolding_all assumption) ?_); (conv => whnf)) | (apply Grows.mk; (first | exact Grow.refl _ | assumption); (conv => whnf)))))
      exact .inl ⟨rfl, rfl, ⟨cv, ov', h2⟩, f1.trans f2⟩
    · (try (conv => whnf)); (repeat ((fail_if_success (with_reducible refine And.intro ?_ ?_)); (fail_if_success (with_reducible refine Exists.intro ?_ ?_)); (first | (apply Ob.of; (first | with_reducible assumption | with_reducible exact ex20 _ _ | with_reducible exact ex21 _ _ | with_reducible exact ex30 _ _ _ | with_reducible exact ex31 _ _ _ | with_reducible exact ex32 _ _ _ | rfl | (exact ald rfl rfl (by assumption) rfl) | (exact ald_agg rfl rfl rfl (by assumption) rfl)); (conv => whnf)) | (apply bIf.yes; (first | assumption | rfl); (conv => whnf)) | (apply bIf.no; (first | assumption | rfl); (conv => whnf)) | ((with_reducible refine Ob.load (by with_unfolding_all assumption) ?_); (conv => whnf)) | (apply Grows.mk; (first | exact Grow.refl _ | assumption); (conv => whnf)))))
      refine (put_ax h1 hd hc _ _ _ _ _ (noRegs pb H1) hops hpb1 hn1).mono ?_
      rintro _ H2 ⟨⟨ov', h2⟩, f2⟩
      (try (conv => whnf)); (repeat ((fail_if_success (with_reducible refine And.intro ?_ ?_)); (fail_if_success (with_reducible refine Exists.intro ?_ ?_)); (first | (apply Ob.of; (first | with_reducible assumption | with_reducible exact ex20 _ _ | with_reducible exact ex21 _ _ | with_reducible exact ex30 _ _ _ | with_reducible exact ex31 _ _ _ | with_reducible exact ex32 _ _ _ | rfl | (exact ald rfl rfl (by assumption) rfl) | (exact ald_agg rfl rfl rfl (by assumption) rfl)); (conv => whnf)) | (apply bIf.yes; (first | assumption | rfl); (conv => whnf)) | (apply bIf.no; (first | assumption | rfl); (conv => whnf)) | ((with_reducible refine Ob.load (by with_unfolding_all assumption) ?_); (conv => whnf)) | (apply Grows.mk; (first | exact Grow.refl _ | assumption); (conv => whnf)))))
      exact .inl ⟨rfl, rfl, ⟨cv, ov', h2⟩, f1.trans f2⟩
    · (try (conv => whnf)); (repeat ((fail_if_success (with_reducible refine And.intro ?_ ?_)); (fail_if_success (with_reducible refine Exists.intro ?_ ?_)); (first | (apply Ob.of; (first | with_reducible assumption | with_reducible exact ex20 _ _ | with_reducible exact ex21 _ _ | with_reducible exact ex30 _ _ _ | with_reducible exact ex31 _ _ _ | with_reducible exact ex32 _ _ _ | rfl | (exact ald rfl rfl (by assumption) rfl) | (exact ald_agg rfl rfl rfl (by assumption) rfl)); (conv => whnf)) | (apply bIf.yes; (first | assumption | rfl); (conv => whnf)) | (apply bIf.no; (first | assumption | rfl); (conv => whnf)) | ((with_reducible refine Ob.load (by with_unfolding_all assumption) ?_); (conv => whnf)) | (apply Grows.mk; (first | exact Grow.refl _ | assumption); (conv => whnf)))))
      refine (put_ax h1 hd hc _ _ _ _ _ (noRegs pb H1) hops hpb1 hn1).mono ?_
      rintro _ H2 ⟨⟨ov', h2⟩, f2⟩
      (try (conv => whnf)); (repeat ((fail_if_success (with_reducible refine And.intro ?_ ?_)); (fail_if_success (with_reducible refine Exists.intro ?_ ?_)); (first | (apply Ob.of; (first | with_reducible assumption | with_reducible exact ex20 _ _ | with_reducible exact ex21 _ _ | with_reducible exact ex30 _ _ _ | with_reducible exact ex31 _ _ _ | with_reducible exact ex32 _ _ _ | rfl | (exact ald rfl rfl (by assumption) rfl) | (exact ald_agg rfl rfl rfl (by assumption) rfl)); (conv => whnf)) | (apply bIf.yes; (first | assumption | rfl); (conv => whnf)) | (apply bIf.no; (first | assumption | rfl); (conv => whnf)) | ((with_reducible refine Ob.load (by with_unfolding_all assumption) ?_); (conv => whnf)) | (apply Grows.mk; (first | exact Grow.refl _ | assumption); (conv => whnf)))))
      exact .inl ⟨rfl, rfl, ⟨cv, ov', h2⟩, f1.trans f2⟩
theorem instr_ops {pl cl gl lc il op a : Int} (h : argP pl cl gl lc il op a) (hp : isPush op = false) : op = 1 ∨ op = 9 ∨ op = 11 ∨ op = 13 ∨ op = 15 ∨ op = 14 ∨ op = 27 ∨ op = 16 ∨ op = 17 ∨ op = 18 ∨ op = 19 ∨ op = 20 ∨ op = 21 ∨ op = 22 ∨ op = 23 ∨ op = 24 ∨ op = 25 ∨ op = 26 ∨ op = 28 ∨ op = 29 ∨ op = 30 ∨ op = 32 ∨ op = 31 := by
  have := of_decide_eq_false hp
  unfold argP at h
  omega
theorem linstr_ax {K : LK} {H : Heap} {s : LS} {at_ d : Int} {cv ov pv : Value} {mp pb : Nat} (h : LR K H s at_ d cv ov pv mp pb) (hd : 0 ≤ d ∧ d ≤ 64) (hc : 0 ≤ K.c.2.1 ∧ K.c.2.1 ≤ 24) (op a b : Int) (hops : s.ops.length ≤ 99999) (hcon : s.consts.length ≤ 99999) (hpb : pb < H.length) (hn : K.n0 ≤ H.length)
    (hps : RL 1 strR H K.ps K.p.2.1) {cl gl lc il : Int} (ha : argP K.p.2.1.length cl gl lc il op a) (hpo : (eff op a).1 ≤ d) :
    AX Try.prog 35 #[.pointer (some ⟨K.l, 0, none⟩), insV op a b] H
      (fun _ H' => (∃ cv' ov', LR K H' (instrL K.p.2.1 (op, a, b) s K.c.2.1 at_ d) at_ d cv' ov' pv mp pb) ∧ FrL K H H') := by
  refine AX.body (n := 217) (rs := []) Try.func35 rfl (by decide) rfl rfl (bC_sound _ _ _ _ ?_)
  (conv => whnf)
  refine Ob2.box rfl fun q1 H1 hq1 a1 g1 => ?_
  have h1 := h.grow g1
  have b1 := hblk_of a1
  (try (conv => whnf)); (repeat ((fail_if_success (with_reducible refine And.intro ?_ ?_)); (fail_if_success (with_reducible refine Exists.intro ?_ ?_)); (first | (apply Ob.of; (first | with_reducible assumption | with_reducible exact ex20 _ _ | with_reducible exact ex21 _ _ | with_reducible exact ex30 _ _ _ | with_reducible exact ex31 _ _ _ | with_reducible exact ex32 _ _ _ | rfl | (exact ald rfl rfl (by assumption) rfl) | (exact ald_agg rfl rfl rfl (by assumption) rfl)); (conv => whnf)) | (apply bIf.yes; (first | assumption | rfl); (conv => whnf)) | (apply bIf.no; (first | assumption | rfl); (conv => whnf)) | ((with_reducible refine Ob.load (by with_unfolding_all assumption) ?_); (conv => whnf)) | (apply Grows.mk; (first | exact Grow.refl _ | assumption); (conv => whnf)))))
  refine (push_ax h1 hd hc op a b hops hcon (by have := g1.1; omega) (by have := g1.1; omega) (strR.grow hps g1) (fun e => by subst e; unfold argP at ha; omega)).mono ?_
  rintro v H2 (⟨rfl, hp, h2, f2⟩ | ⟨rfl, hp, g2⟩)
  · (try (conv => whnf)); (repeat ((fail_if_success (with_reducible refine And.intro ?_ ?_)); (fail_if_success (with_reducible refine Exists.intro ?_ ?_)); (first | (apply Ob.of; (first | with_reducible assumption | with_reducible exact ex20 _ _ | with_reducible exact ex21 _ _ | with_reducible exact ex30 _ _ _ | with_reducible exact ex31 _ _ _ | with_reducible exact ex32 _ _ _ | rfl | (exact ald rfl rfl (by assumption) rfl) | (exact ald_agg rfl rfl rfl (by assumption) rfl)); (conv => whnf)) | (apply bIf.yes; (first | assumption | rfl); (conv => whnf)) | (apply bIf.no; (first | assumption | rfl); (conv => whnf)) | ((with_reducible refine Ob.load (by with_unfolding_all assumption) ?_); (conv => whnf)) | (apply Grows.mk; (first | exact Grow.refl _ | assumption); (conv => whnf)))))
    exact ⟨h2, (FrL.of g1).trans f2⟩
  have h2 := h1.grow g2
  have b2 := g2.hblk b1
  have hbl := hblk_of h2.blk
  have g12 := g1.trans g2
  have hpb2 : pb < H2.length := by have := g12.1; omega
  have hn2 : K.n0 ≤ H2.length := by have := g12.1; omega
  have f2 : FrL K H H2 := .of g12
  have w0 : IntKind.i64.wrap (IntKind.i64.wrap (K.c.2.1 + d) - 0) = K.c.2.1 + d := by rw [wrap_i64 (n := K.c.2.1 + d) (by omega) (by omega), Int.sub_zero, wrap_i64 (by omega) (by omega)]
  have w1 : IntKind.i64.wrap (IntKind.i64.wrap (K.c.2.1 + d) - 1) = K.c.2.1 + d - 1 := by rw [wrap_i64 (n := K.c.2.1 + d) (by omega) (by omega), wrap_i64 (by omega) (by omega)]
  have w2 : IntKind.i64.wrap (IntKind.i64.wrap (K.c.2.1 + d) - 2) = K.c.2.1 + d - 2 := by rw [wrap_i64 (n := K.c.2.1 + d) (by omega) (by omega), wrap_i64 (by omega) (by omega)]
  have w3 : IntKind.i64.wrap (IntKind.i64.wrap (K.c.2.1 + d) - 3) = K.c.2.1 + d - 3 := by rw [wrap_i64 (n := K.c.2.1 + d) (by omega) (by omega), wrap_i64 (by omega) (by omega)]
  have hel := eff_le op a
  have wp : IntKind.i64.wrap (IntKind.i64.wrap (K.c.2.1 + d) - (eff op a).1) = K.c.2.1 + d - (eff op a).1 := by rw [wrap_i64 (n := K.c.2.1 + d) (by omega) (by omega), wrap_i64 (by omega) (by omega)]
  have hal := all_ax h2 hd hc (n := (eff op a).1) ⟨hel.1, hel.2.1⟩
  (try (conv => whnf)); (repeat ((fail_if_success (with_reducible refine And.intro ?_ ?_)); (fail_if_success (with_reducible refine Exists.intro ?_ ?_)); (first | (apply Ob.of; (first | with_reducible assumption | with_reducible exact ex20 _ _ | with_reducible exact ex21 _ _ | with_reducible exact ex30 _ _ _ | with_reducible exact ex31 _ _ _ | with_reducible exact ex32 _ _ _ | rfl | (exact ald rfl rfl (by assumption) rfl) | (exact ald_agg rfl rfl rfl (by assumption) rfl)); (conv => whnf)) | (apply bIf.yes; (first | assumption | rfl); (conv => whnf)) | (apply bIf.no; (first | assumption | rfl); (conv => whnf)) | ((with_reducible refine Ob.load (by with_unfolding_all assumption) ?_); (conv => whnf)) | (apply Grows.mk; (first | exact Grow.refl _ | assumption); (conv => whnf)))))
  refine (effect_ax _ _ _ _).mono ?_
  rintro _ X ⟨rfl, e⟩
  subst X
  rcases instr_ops ha hp with rfl | rfl | rfl | rfl | rfl | rfl | rfl | rfl | rfl | rfl | rfl | rfl | rfl | rfl | rfl | rfl | rfl | rfl | rfl | rfl | rfl | rfl | rfl
  · (try (conv => whnf)); (repeat ((fail_if_success (with_reducible refine And.intro ?_ ?_)); (fail_if_success (with_reducible refine Exists.intro ?_ ?_)); (first | (apply Ob.of; (first | with_reducible assumption | with_reducible exact ex20 _ _ | with_reducible exact ex21 _ _ | with_reducible exact ex30 _ _ _ | with_reducible exact ex31 _ _ _ | with_reducible exact ex32 _ _ _ | rfl | (exact ald rfl rfl (by assumption) rfl) | (exact ald_agg rfl rfl rfl (by assumption) rfl)); (conv => whnf)) | (apply bIf.yes; (first | assumption | rfl); (conv => whnf)) | (apply bIf.no; (first | assumption | rfl); (conv => whnf)) | ((with_reducible refine Ob.load (by with_unfolding_all assumption) ?_); (conv => whnf)) | (apply Grows.mk; (first | exact Grow.refl _ | assumption); (conv => whnf)))))
    refine (put_ax h2 hd hc _ _ _ _ _ (noRegs pb H2) hops hpb2 hn2).mono ?_
    rintro _ H3 ⟨⟨ov', h3⟩, f3⟩
    (try (conv => whnf)); (repeat ((fail_if_success (with_reducible refine And.intro ?_ ?_)); (fail_if_success (with_reducible refine Exists.intro ?_ ?_)); (first | (apply Ob.of; (first | with_reducible assumption | with_reducible exact ex20 _ _ | with_reducible exact ex21 _ _ | with_reducible exact ex30 _ _ _ | with_reducible exact ex31 _ _ _ | with_reducible exact ex32 _ _ _ | rfl | (exact ald rfl rfl (by assumption) rfl) | (exact ald_agg rfl rfl rfl (by assumption) rfl)); (conv => whnf)) | (apply bIf.yes; (first | assumption | rfl); (conv => whnf)) | (apply bIf.no; (first | assumption | rfl); (conv => whnf)) | ((with_reducible refine Ob.load (by with_unfolding_all assumption) ?_); (conv => whnf)) | (apply Grows.mk; (first | exact Grow.refl _ | assumption); (conv => whnf)))))
    exact ⟨⟨cv, ov', h3⟩, f2.trans f3⟩
  · (try (conv => whnf)); (repeat ((fail_if_success (with_reducible refine And.intro ?_ ?_)); (fail_if_success (with_reducible refine Exists.intro ?_ ?_)); (first | (apply Ob.of; (first | with_reducible assumption | with_reducible exact ex20 _ _ | with_reducible exact ex21 _ _ | with_reducible exact ex30 _ _ _ | with_reducible exact ex31 _ _ _ | with_reducible exact ex32 _ _ _ | rfl | (exact ald rfl rfl (by assumption) rfl) | (exact ald_agg rfl rfl rfl (by assumption) rfl)); (conv => whnf)) | (apply bIf.yes; (first | assumption | rfl); (conv => whnf)) | (apply bIf.no; (first | assumption | rfl); (conv => whnf)) | ((with_reducible refine Ob.load (by with_unfolding_all assumption) ?_); (conv => whnf)) | (apply Grows.mk; (first | exact Grow.refl _ | assumption); (conv => whnf)))))
    apply SW.drawH [(0, [], [28, 29, 30, 31], false), (1, [], [27, 30, 31], false), (2, [(28, 1)], [27, 28, 30, 31], false), (3, [], [27, 28, 29], false), (4, [(30, 3)], [27, 28, 29, 30], true), (5, [(27, 0), (28, 1), (29, 2), (30, 3), (31, 4)], [27, 28, 29, 30, 31], true)]
      [(27, 0), (28, 1), (29, 2), (30, 3), (31, 4), (32, 5)] [4]
      [(0, _), (3, _), (4, _), (5, _)] rfl (by kernel_rfl)
    case hF => exact ⟨rfl, rfl, rfl, rfl, trivial⟩
    (try (conv => whnf)); (repeat ((fail_if_success (with_reducible refine And.intro ?_ ?_)); (fail_if_success (with_reducible refine Exists.intro ?_ ?_)); (first | (apply Ob.of; (first | with_reducible assumption | with_reducible exact ex20 _ _ | with_reducible exact ex21 _ _ | with_reducible exact ex30 _ _ _ | with_reducible exact ex31 _ _ _ | with_reducible exact ex32 _ _ _ | rfl | (exact ald rfl rfl (by assumption) rfl) | (exact ald_agg rfl rfl rfl (by assumption) rfl)); (conv => whnf)) | (apply bIf.yes; (first | assumption | rfl); (conv => whnf)) | (apply bIf.no; (first | assumption | rfl); (conv => whnf)) | ((with_reducible refine Ob.load (by with_unfolding_all assumption) ?_); (conv => whnf)) | (apply Grows.mk; (first | exact Grow.refl _ | assumption); (conv => whnf)))))
    refine (stack_ax h2 _).mono ?_
    rintro _ X ⟨rfl, e⟩
    subst X
    rw [w1]
    (try (conv => whnf)); (repeat ((fail_if_success (with_reducible refine And.intro ?_ ?_)); (fail_if_success (with_reducible refine Exists.intro ?_ ?_)); (first | (apply Ob.of; (first | with_reducible assumption | with_reducible exact ex20 _ _ | with_reducible exact ex21 _ _ | with_reducible exact ex30 _ _ _ | with_reducible exact ex31 _ _ _ | with_reducible exact ex32 _ _ _ | rfl | (exact ald rfl rfl (by assumption) rfl) | (exact ald_agg rfl rfl rfl (by assumption) rfl)); (conv => whnf)) | (apply bIf.yes; (first | assumption | rfl); (conv => whnf)) | (apply bIf.no; (first | assumption | rfl); (conv => whnf)) | ((with_reducible refine Ob.load (by with_unfolding_all assumption) ?_); (conv => whnf)) | (apply Grows.mk; (first | exact Grow.refl _ | assumption); (conv => whnf)))))
    refine (put_ax h2 hd hc _ _ _ _ _ (noRegs pb H2) hops hpb2 hn2).mono ?_
    rintro _ H3 ⟨⟨ov', h3⟩, f3⟩
    (try (conv => whnf)); (repeat ((fail_if_success (with_reducible refine And.intro ?_ ?_)); (fail_if_success (with_reducible refine Exists.intro ?_ ?_)); (first | (apply Ob.of; (first | with_reducible assumption | with_reducible exact ex20 _ _ | with_reducible exact ex21 _ _ | with_reducible exact ex30 _ _ _ | with_reducible exact ex31 _ _ _ | with_reducible exact ex32 _ _ _ | rfl | (exact ald rfl rfl (by assumption) rfl) | (exact ald_agg rfl rfl rfl (by assumption) rfl)); (conv => whnf)) | (apply bIf.yes; (first | assumption | rfl); (conv => whnf)) | (apply bIf.no; (first | assumption | rfl); (conv => whnf)) | ((with_reducible refine Ob.load (by with_unfolding_all assumption) ?_); (conv => whnf)) | (apply Grows.mk; (first | exact Grow.refl _ | assumption); (conv => whnf)))))
    exact ⟨⟨cv, ov', h3⟩, f2.trans f3⟩
  · (try (conv => whnf)); (repeat ((fail_if_success (with_reducible refine And.intro ?_ ?_)); (fail_if_success (with_reducible refine Exists.intro ?_ ?_)); (first | (apply Ob.of; (first | with_reducible assumption | with_reducible exact ex20 _ _ | with_reducible exact ex21 _ _ | with_reducible exact ex30 _ _ _ | with_reducible exact ex31 _ _ _ | with_reducible exact ex32 _ _ _ | rfl | (exact ald rfl rfl (by assumption) rfl) | (exact ald_agg rfl rfl rfl (by assumption) rfl)); (conv => whnf)) | (apply bIf.yes; (first | assumption | rfl); (conv => whnf)) | (apply bIf.no; (first | assumption | rfl); (conv => whnf)) | ((with_reducible refine Ob.load (by with_unfolding_all assumption) ?_); (conv => whnf)) | (apply Grows.mk; (first | exact Grow.refl _ | assumption); (conv => whnf)))))
    apply SW.drawH [(0, [], [36, 37, 38, 39], false), (1, [], [35, 38, 39], false), (2, [(36, 1)], [35, 36, 38, 39], false), (3, [], [35, 36, 37], false), (4, [(38, 3)], [35, 36, 37, 38], true), (5, [(35, 0), (36, 1), (37, 2), (38, 3), (39, 4)], [35, 36, 37, 38, 39], true)]
      [(35, 0), (36, 1), (37, 2), (38, 3), (39, 4), (40, 5)] [4]
      [(0, _), (3, _), (4, _), (5, _)] rfl (by kernel_rfl)
    case hF => exact ⟨rfl, rfl, rfl, rfl, trivial⟩
    (try (conv => whnf)); (repeat ((fail_if_success (with_reducible refine And.intro ?_ ?_)); (fail_if_success (with_reducible refine Exists.intro ?_ ?_)); (first | (apply Ob.of; (first | with_reducible assumption | with_reducible exact ex20 _ _ | with_reducible exact ex21 _ _ | with_reducible exact ex30 _ _ _ | with_reducible exact ex31 _ _ _ | with_reducible exact ex32 _ _ _ | rfl | (exact ald rfl rfl (by assumption) rfl) | (exact ald_agg rfl rfl rfl (by assumption) rfl)); (conv => whnf)) | (apply bIf.yes; (first | assumption | rfl); (conv => whnf)) | (apply bIf.no; (first | assumption | rfl); (conv => whnf)) | ((with_reducible refine Ob.load (by with_unfolding_all assumption) ?_); (conv => whnf)) | (apply Grows.mk; (first | exact Grow.refl _ | assumption); (conv => whnf)))))
    refine (stack_ax h2 _).mono ?_
    rintro _ X ⟨rfl, e⟩
    subst X
    rw [w1]
    (try (conv => whnf)); (repeat ((fail_if_success (with_reducible refine And.intro ?_ ?_)); (fail_if_success (with_reducible refine Exists.intro ?_ ?_)); (first | (apply Ob.of; (first | with_reducible assumption | with_reducible exact ex20 _ _ | with_reducible exact ex21 _ _ | with_reducible exact ex30 _ _ _ | with_reducible exact ex31 _ _ _ | with_reducible exact ex32 _ _ _ | rfl | (exact ald rfl rfl (by assumption) rfl) | (exact ald_agg rfl rfl rfl (by assumption) rfl)); (conv => whnf)) | (apply bIf.yes; (first | assumption | rfl); (conv => whnf)) | (apply bIf.no; (first | assumption | rfl); (conv => whnf)) | ((with_reducible refine Ob.load (by with_unfolding_all assumption) ?_); (conv => whnf)) | (apply Grows.mk; (first | exact Grow.refl _ | assumption); (conv => whnf)))))
    refine (put_ax h2 hd hc _ _ _ _ _ (noRegs pb H2) hops hpb2 hn2).mono ?_
    rintro _ H3 ⟨⟨ov', h3⟩, f3⟩
    (try (conv => whnf)); (repeat ((fail_if_success (with_reducible refine And.intro ?_ ?_)); (fail_if_success (with_reducible refine Exists.intro ?_ ?_)); (first | (apply Ob.of; (first | with_reducible assumption | with_reducible exact ex20 _ _ | with_reducible exact ex21 _ _ | with_reducible exact ex30 _ _ _ | with_reducible exact ex31 _ _ _ | with_reducible exact ex32 _ _ _ | rfl | (exact ald rfl rfl (by assumption) rfl) | (exact ald_agg rfl rfl rfl (by assumption) rfl)); (conv => whnf)) | (apply bIf.yes; (first | assumption | rfl); (conv => whnf)) | (apply bIf.no; (first | assumption | rfl); (conv => whnf)) | ((with_reducible refine Ob.load (by with_unfolding_all assumption) ?_); (conv => whnf)) | (apply Grows.mk; (first | exact Grow.refl _ | assumption); (conv => whnf)))))
    exact ⟨⟨cv, ov', h3⟩, f2.trans f3⟩
  · (try (conv => whnf)); (repeat ((fail_if_success (with_reducible refine And.intro ?_ ?_)); (fail_if_success (with_reducible refine Exists.intro ?_ ?_)); (first | (apply Ob.of; (first | with_reducible assumption | with_reducible exact ex20 _ _ | with_reducible exact ex21 _ _ | with_reducible exact ex30 _ _ _ | with_reducible exact ex31 _ _ _ | with_reducible exact ex32 _ _ _ | rfl | (exact ald rfl rfl (by assumption) rfl) | (exact ald_agg rfl rfl rfl (by assumption) rfl)); (conv => whnf)) | (apply bIf.yes; (first | assumption | rfl); (conv => whnf)) | (apply bIf.no; (first | assumption | rfl); (conv => whnf)) | ((with_reducible refine Ob.load (by with_unfolding_all assumption) ?_); (conv => whnf)) | (apply Grows.mk; (first | exact Grow.refl _ | assumption); (conv => whnf)))))
    apply SW.drawH [(0, [], [44, 45, 46, 47, 48, 49, 50, 51], false), (1, [], [43, 46, 48, 49, 50, 51], false), (3, [], [43, 44, 45, 48, 49, 50, 51], false), (5, [], [43, 44, 45, 46, 47, 50, 51], false), (6, [(48, 5)], [43, 44, 45, 46, 47, 48, 50, 51], false), (7, [], [43, 44, 45, 46, 47, 48, 49], false), (8, [(50, 7)], [43, 44, 45, 46, 47, 48, 49, 50], false), (2, [(44, 1)], [43, 44, 46, 48, 49, 50, 51], true), (4, [(44, 1), (45, 2), (46, 3)], [43, 44, 45, 46, 48, 49, 50, 51], true), (9, [(43, 0), (44, 1), (45, 2), (46, 3), (47, 4), (48, 5), (49, 6), (50, 7), (51, 8)], [43, 44, 45, 46, 47, 48, 49, 50, 51], true)]
      [(43, 0), (44, 1), (45, 2), (46, 3), (47, 4), (48, 5), (49, 6), (50, 7), (51, 8), (52, 9)] [2, 4]
      [(0, _), (3, _), (4, _), (5, _)] rfl (by kernel_rfl)
    case hF => exact ⟨rfl, rfl, rfl, rfl, trivial⟩
    (try (conv => whnf)); (repeat ((fail_if_success (with_reducible refine And.intro ?_ ?_)); (fail_if_success (with_reducible refine Exists.intro ?_ ?_)); (first | (apply Ob.of; (first | with_reducible assumption | with_reducible exact ex20 _ _ | with_reducible exact ex21 _ _ | with_reducible exact ex30 _ _ _ | with_reducible exact ex31 _ _ _ | with_reducible exact ex32 _ _ _ | rfl | (exact ald rfl rfl (by assumption) rfl) | (exact ald_agg rfl rfl rfl (by assumption) rfl)); (conv => whnf)) | (apply bIf.yes; (first | assumption | rfl); (conv => whnf)) | (apply bIf.no; (first | assumption | rfl); (conv => whnf)) | ((with_reducible refine Ob.load (by with_unfolding_all assumption) ?_); (conv => whnf)) | (apply Grows.mk; (first | exact Grow.refl _ | assumption); (conv => whnf)))))
    refine (stack_ax h2 _).mono ?_
    rintro _ X ⟨rfl, e⟩
    subst X
    rw [w2]
    (try (conv => whnf)); (repeat ((fail_if_success (with_reducible refine And.intro ?_ ?_)); (fail_if_success (with_reducible refine Exists.intro ?_ ?_)); (first | (apply Ob.of; (first | with_reducible assumption | with_reducible exact ex20 _ _ | with_reducible exact ex21 _ _ | with_reducible exact ex30 _ _ _ | with_reducible exact ex31 _ _ _ | with_reducible exact ex32 _ _ _ | rfl | (exact ald rfl rfl (by assumption) rfl) | (exact ald_agg rfl rfl rfl (by assumption) rfl)); (conv => whnf)) | (apply bIf.yes; (first | assumption | rfl); (conv => whnf)) | (apply bIf.no; (first | assumption | rfl); (conv => whnf)) | ((with_reducible refine Ob.load (by with_unfolding_all assumption) ?_); (conv => whnf)) | (apply Grows.mk; (first | exact Grow.refl _ | assumption); (conv => whnf)))))
    refine (stack_ax h2 _).mono ?_
    rintro _ X ⟨rfl, e⟩
    subst X
    rw [w1]
    (try (conv => whnf)); (repeat ((fail_if_success (with_reducible refine And.intro ?_ ?_)); (fail_if_success (with_reducible refine Exists.intro ?_ ?_)); (first | (apply Ob.of; (first | with_reducible assumption | with_reducible exact ex20 _ _ | with_reducible exact ex21 _ _ | with_reducible exact ex30 _ _ _ | with_reducible exact ex31 _ _ _ | with_reducible exact ex32 _ _ _ | rfl | (exact ald rfl rfl (by assumption) rfl) | (exact ald_agg rfl rfl rfl (by assumption) rfl)); (conv => whnf)) | (apply bIf.yes; (first | assumption | rfl); (conv => whnf)) | (apply bIf.no; (first | assumption | rfl); (conv => whnf)) | ((with_reducible refine Ob.load (by with_unfolding_all assumption) ?_); (conv => whnf)) | (apply Grows.mk; (first | exact Grow.refl _ | assumption); (conv => whnf)))))
    refine (put_ax h2 hd hc _ _ _ _ _ (noRegs pb H2) hops hpb2 hn2).mono ?_
    rintro _ H3 ⟨⟨ov', h3⟩, f3⟩
    (try (conv => whnf)); (repeat ((fail_if_success (with_reducible refine And.intro ?_ ?_)); (fail_if_success (with_reducible refine Exists.intro ?_ ?_)); (first | (apply Ob.of; (first | with_reducible assumption | with_reducible exact ex20 _ _ | with_reducible exact ex21 _ _ | with_reducible exact ex30 _ _ _ | with_reducible exact ex31 _ _ _ | with_reducible exact ex32 _ _ _ | rfl | (exact ald rfl rfl (by assumption) rfl) | (exact ald_agg rfl rfl rfl (by assumption) rfl)); (conv => whnf)) | (apply bIf.yes; (first | assumption | rfl); (conv => whnf)) | (apply bIf.no; (first | assumption | rfl); (conv => whnf)) | ((with_reducible refine Ob.load (by with_unfolding_all assumption) ?_); (conv => whnf)) | (apply Grows.mk; (first | exact Grow.refl _ | assumption); (conv => whnf)))))
    exact ⟨⟨cv, ov', h3⟩, f2.trans f3⟩
  · (try (conv => whnf)); (repeat ((fail_if_success (with_reducible refine And.intro ?_ ?_)); (fail_if_success (with_reducible refine Exists.intro ?_ ?_)); (first | (apply Ob.of; (first | with_reducible assumption | with_reducible exact ex20 _ _ | with_reducible exact ex21 _ _ | with_reducible exact ex30 _ _ _ | with_reducible exact ex31 _ _ _ | with_reducible exact ex32 _ _ _ | rfl | (exact ald rfl rfl (by assumption) rfl) | (exact ald_agg rfl rfl rfl (by assumption) rfl)); (conv => whnf)) | (apply bIf.yes; (first | assumption | rfl); (conv => whnf)) | (apply bIf.no; (first | assumption | rfl); (conv => whnf)) | ((with_reducible refine Ob.load (by with_unfolding_all assumption) ?_); (conv => whnf)) | (apply Grows.mk; (first | exact Grow.refl _ | assumption); (conv => whnf)))))
    apply SW.drawH [(0, [], [56, 57, 58, 59, 60, 61, 62, 63], false), (1, [], [55, 58, 60, 61, 62, 63], false), (3, [], [55, 56, 57, 60, 61, 62, 63], false), (5, [], [55, 56, 57, 58, 59, 62, 63], false), (6, [(60, 5)], [55, 56, 57, 58, 59, 60, 62, 63], false), (7, [], [55, 56, 57, 58, 59, 60, 61], false), (8, [(62, 7)], [55, 56, 57, 58, 59, 60, 61, 62], false), (2, [(56, 1)], [55, 56, 58, 60, 61, 62, 63], true), (4, [(56, 1), (57, 2), (58, 3)], [55, 56, 57, 58, 60, 61, 62, 63], true), (9, [(55, 0), (56, 1), (57, 2), (58, 3), (59, 4), (60, 5), (61, 6), (62, 7), (63, 8)], [55, 56, 57, 58, 59, 60, 61, 62, 63], true)]
      [(55, 0), (56, 1), (57, 2), (58, 3), (59, 4), (60, 5), (61, 6), (62, 7), (63, 8), (64, 9)] [2, 4]
      [(0, _), (3, _), (4, _), (5, _)] rfl (by kernel_rfl)
    case hF => exact ⟨rfl, rfl, rfl, rfl, trivial⟩
    (try (conv => whnf)); (repeat ((fail_if_success (with_reducible refine And.intro ?_ ?_)); (fail_if_success (with_reducible refine Exists.intro ?_ ?_)); (first | (apply Ob.of; (first | with_reducible assumption | with_reducible exact ex20 _ _ | with_reducible exact ex21 _ _ | with_reducible exact ex30 _ _ _ | with_reducible exact ex31 _ _ _ | with_reducible exact ex32 _ _ _ | rfl | (exact ald rfl rfl (by assumption) rfl) | (exact ald_agg rfl rfl rfl (by assumption) rfl)); (conv => whnf)) | (apply bIf.yes; (first | assumption | rfl); (conv => whnf)) | (apply bIf.no; (first | assumption | rfl); (conv => whnf)) | ((with_reducible refine Ob.load (by with_unfolding_all assumption) ?_); (conv => whnf)) | (apply Grows.mk; (first | exact Grow.refl _ | assumption); (conv => whnf)))))
    refine (stack_ax h2 _).mono ?_
    rintro _ X ⟨rfl, e⟩
    subst X
    rw [w2]
    (try (conv => whnf)); (repeat ((fail_if_success (with_reducible refine And.intro ?_ ?_)); (fail_if_success (with_reducible refine Exists.intro ?_ ?_)); (first | (apply Ob.of; (first | with_reducible assumption | with_reducible exact ex20 _ _ | with_reducible exact ex21 _ _ | with_reducible exact ex30 _ _ _ | with_reducible exact ex31 _ _ _ | with_reducible exact ex32 _ _ _ | rfl | (exact ald rfl rfl (by assumption) rfl) | (exact ald_agg rfl rfl rfl (by assumption) rfl)); (conv => whnf)) | (apply bIf.yes; (first | assumption | rfl); (conv => whnf)) | (apply bIf.no; (first | assumption | rfl); (conv => whnf)) | ((with_reducible refine Ob.load (by with_unfolding_all assumption) ?_); (conv => whnf)) | (apply Grows.mk; (first | exact Grow.refl _ | assumption); (conv => whnf)))))
    refine (stack_ax h2 _).mono ?_
    rintro _ X ⟨rfl, e⟩
    subst X
    rw [w1]
    (try (conv => whnf)); (repeat ((fail_if_success (with_reducible refine And.intro ?_ ?_)); (fail_if_success (with_reducible refine Exists.intro ?_ ?_)); (first | (apply Ob.of; (first | with_reducible assumption | with_reducible exact ex20 _ _ | with_reducible exact ex21 _ _ | with_reducible exact ex30 _ _ _ | with_reducible exact ex31 _ _ _ | with_reducible exact ex32 _ _ _ | rfl | (exact ald rfl rfl (by assumption) rfl) | (exact ald_agg rfl rfl rfl (by assumption) rfl)); (conv => whnf)) | (apply bIf.yes; (first | assumption | rfl); (conv => whnf)) | (apply bIf.no; (first | assumption | rfl); (conv => whnf)) | ((with_reducible refine Ob.load (by with_unfolding_all assumption) ?_); (conv => whnf)) | (apply Grows.mk; (first | exact Grow.refl _ | assumption); (conv => whnf)))))
    refine (put_ax h2 hd hc _ _ _ _ _ (noRegs pb H2) hops hpb2 hn2).mono ?_
    rintro _ H3 ⟨⟨ov', h3⟩, f3⟩
    (try (conv => whnf)); (repeat ((fail_if_success (with_reducible refine And.intro ?_ ?_)); (fail_if_success (with_reducible refine Exists.intro ?_ ?_)); (first | (apply Ob.of; (first | with_reducible assumption | with_reducible exact ex20 _ _ | with_reducible exact ex21 _ _ | with_reducible exact ex30 _ _ _ | with_reducible exact ex31 _ _ _ | with_reducible exact ex32 _ _ _ | rfl | (exact ald rfl rfl (by assumption) rfl) | (exact ald_agg rfl rfl rfl (by assumption) rfl)); (conv => whnf)) | (apply bIf.yes; (first | assumption | rfl); (conv => whnf)) | (apply bIf.no; (first | assumption | rfl); (conv => whnf)) | ((with_reducible refine Ob.load (by with_unfolding_all assumption) ?_); (conv => whnf)) | (apply Grows.mk; (first | exact Grow.refl _ | assumption); (conv => whnf)))))
    exact ⟨⟨cv, ov', h3⟩, f2.trans f3⟩
  · (try (conv => whnf)); (repeat ((fail_if_success (with_reducible refine And.intro ?_ ?_)); (fail_if_success (with_reducible refine Exists.intro ?_ ?_)); (first | (apply Ob.of; (first | with_reducible assumption | with_reducible exact ex20 _ _ | with_reducible exact ex21 _ _ | with_reducible exact ex30 _ _ _ | with_reducible exact ex31 _ _ _ | with_reducible exact ex32 _ _ _ | rfl | (exact ald rfl rfl (by assumption) rfl) | (exact ald_agg rfl rfl rfl (by assumption) rfl)); (conv => whnf)) | (apply bIf.yes; (first | assumption | rfl); (conv => whnf)) | (apply bIf.no; (first | assumption | rfl); (conv => whnf)) | ((with_reducible refine Ob.load (by with_unfolding_all assumption) ?_); (conv => whnf)) | (apply Grows.mk; (first | exact Grow.refl _ | assumption); (conv => whnf)))))
    apply SW.drawH [(0, [], [68, 69, 70, 71, 72, 73, 74, 75], false), (1, [], [67, 70, 72, 73, 74, 75], false), (3, [], [67, 68, 69, 72, 73, 74, 75], false), (5, [], [67, 68, 69, 70, 71, 74, 75], false), (6, [(72, 5)], [67, 68, 69, 70, 71, 72, 74, 75], false), (7, [], [67, 68, 69, 70, 71, 72, 73], false), (8, [(74, 7)], [67, 68, 69, 70, 71, 72, 73, 74], false), (2, [(68, 1)], [67, 68, 70, 72, 73, 74, 75], true), (4, [(68, 1), (69, 2), (70, 3)], [67, 68, 69, 70, 72, 73, 74, 75], true), (9, [(67, 0), (68, 1), (69, 2), (70, 3), (71, 4), (72, 5), (73, 6), (74, 7), (75, 8)], [67, 68, 69, 70, 71, 72, 73, 74, 75], true)]
      [(67, 0), (68, 1), (69, 2), (70, 3), (71, 4), (72, 5), (73, 6), (74, 7), (75, 8), (76, 9)] [2, 4]
      [(0, _), (3, _), (4, _), (5, _)] rfl (by kernel_rfl)
    case hF => exact ⟨rfl, rfl, rfl, rfl, trivial⟩
    (try (conv => whnf)); (repeat ((fail_if_success (with_reducible refine And.intro ?_ ?_)); (fail_if_success (with_reducible refine Exists.intro ?_ ?_)); (first | (apply Ob.of; (first | with_reducible assumption | with_reducible exact ex20 _ _ | with_reducible exact ex21 _ _ | with_reducible exact ex30 _ _ _ | with_reducible exact ex31 _ _ _ | with_reducible exact ex32 _ _ _ | rfl | (exact ald rfl rfl (by assumption) rfl) | (exact ald_agg rfl rfl rfl (by assumption) rfl)); (conv => whnf)) | (apply bIf.yes; (first | assumption | rfl); (conv => whnf)) | (apply bIf.no; (first | assumption | rfl); (conv => whnf)) | ((with_reducible refine Ob.load (by with_unfolding_all assumption) ?_); (conv => whnf)) | (apply Grows.mk; (first | exact Grow.refl _ | assumption); (conv => whnf)))))
    refine (stack_ax h2 _).mono ?_
    rintro _ X ⟨rfl, e⟩
    subst X
    rw [w1]
    (try (conv => whnf)); (repeat ((fail_if_success (with_reducible refine And.intro ?_ ?_)); (fail_if_success (with_reducible refine Exists.intro ?_ ?_)); (first | (apply Ob.of; (first | with_reducible assumption | with_reducible exact ex20 _ _ | with_reducible exact ex21 _ _ | with_reducible exact ex30 _ _ _ | with_reducible exact ex31 _ _ _ | with_reducible exact ex32 _ _ _ | rfl | (exact ald rfl rfl (by assumption) rfl) | (exact ald_agg rfl rfl rfl (by assumption) rfl)); (conv => whnf)) | (apply bIf.yes; (first | assumption | rfl); (conv => whnf)) | (apply bIf.no; (first | assumption | rfl); (conv => whnf)) | ((with_reducible refine Ob.load (by with_unfolding_all assumption) ?_); (conv => whnf)) | (apply Grows.mk; (first | exact Grow.refl _ | assumption); (conv => whnf)))))
    refine (stack_ax h2 _).mono ?_
    rintro _ X ⟨rfl, e⟩
    subst X
    rw [w1]
    (try (conv => whnf)); (repeat ((fail_if_success (with_reducible refine And.intro ?_ ?_)); (fail_if_success (with_reducible refine Exists.intro ?_ ?_)); (first | (apply Ob.of; (first | with_reducible assumption | with_reducible exact ex20 _ _ | with_reducible exact ex21 _ _ | with_reducible exact ex30 _ _ _ | with_reducible exact ex31 _ _ _ | with_reducible exact ex32 _ _ _ | rfl | (exact ald rfl rfl (by assumption) rfl) | (exact ald_agg rfl rfl rfl (by assumption) rfl)); (conv => whnf)) | (apply bIf.yes; (first | assumption | rfl); (conv => whnf)) | (apply bIf.no; (first | assumption | rfl); (conv => whnf)) | ((with_reducible refine Ob.load (by with_unfolding_all assumption) ?_); (conv => whnf)) | (apply Grows.mk; (first | exact Grow.refl _ | assumption); (conv => whnf)))))
    refine (put_ax h2 hd hc _ _ _ _ _ (noRegs pb H2) hops hpb2 hn2).mono ?_
    rintro _ H3 ⟨⟨ov', h3⟩, f3⟩
    (try (conv => whnf)); (repeat ((fail_if_success (with_reducible refine And.intro ?_ ?_)); (fail_if_success (with_reducible refine Exists.intro ?_ ?_)); (first | (apply Ob.of; (first | with_reducible assumption | with_reducible exact ex20 _ _ | with_reducible exact ex21 _ _ | with_reducible exact ex30 _ _ _ | with_reducible exact ex31 _ _ _ | with_reducible exact ex32 _ _ _ | rfl | (exact ald rfl rfl (by assumption) rfl) | (exact ald_agg rfl rfl rfl (by assumption) rfl)); (conv => whnf)) | (apply bIf.yes; (first | assumption | rfl); (conv => whnf)) | (apply bIf.no; (first | assumption | rfl); (conv => whnf)) | ((with_reducible refine Ob.load (by with_unfolding_all assumption) ?_); (conv => whnf)) | (apply Grows.mk; (first | exact Grow.refl _ | assumption); (conv => whnf)))))
    exact ⟨⟨cv, ov', h3⟩, f2.trans f3⟩
  · (try (conv => whnf)); (repeat ((fail_if_success (with_reducible refine And.intro ?_ ?_)); (fail_if_success (with_reducible refine Exists.intro ?_ ?_)); (first | (apply Ob.of; (first | with_reducible assumption | with_reducible exact ex20 _ _ | with_reducible exact ex21 _ _ | with_reducible exact ex30 _ _ _ | with_reducible exact ex31 _ _ _ | with_reducible exact ex32 _ _ _ | rfl | (exact ald rfl rfl (by assumption) rfl) | (exact ald_agg rfl rfl rfl (by assumption) rfl)); (conv => whnf)) | (apply bIf.yes; (first | assumption | rfl); (conv => whnf)) | (apply bIf.no; (first | assumption | rfl); (conv => whnf)) | ((with_reducible refine Ob.load (by with_unfolding_all assumption) ?_); (conv => whnf)) | (apply Grows.mk; (first | exact Grow.refl _ | assumption); (conv => whnf)))))
    apply SW.drawH [(0, [], [80, 81, 82, 83, 84, 85, 86, 87], false), (1, [], [79, 82, 84, 85, 86, 87], false), (3, [], [79, 80, 81, 84, 85, 86, 87], false), (5, [], [79, 80, 81, 82, 83, 86, 87], false), (6, [(84, 5)], [79, 80, 81, 82, 83, 84, 86, 87], false), (7, [], [79, 80, 81, 82, 83, 84, 85], false), (8, [(86, 7)], [79, 80, 81, 82, 83, 84, 85, 86], false), (2, [(80, 1)], [79, 80, 82, 84, 85, 86, 87], true), (4, [(80, 1), (81, 2), (82, 3)], [79, 80, 81, 82, 84, 85, 86, 87], true), (9, [(79, 0), (80, 1), (81, 2), (82, 3), (83, 4), (84, 5), (85, 6), (86, 7), (87, 8)], [79, 80, 81, 82, 83, 84, 85, 86, 87], true)]
      [(79, 0), (80, 1), (81, 2), (82, 3), (83, 4), (84, 5), (85, 6), (86, 7), (87, 8), (88, 9)] [2, 4]
      [(0, _), (3, _), (4, _), (5, _)] rfl (by kernel_rfl)
    case hF => exact ⟨rfl, rfl, rfl, rfl, trivial⟩
    (try (conv => whnf)); (repeat ((fail_if_success (with_reducible refine And.intro ?_ ?_)); (fail_if_success (with_reducible refine Exists.intro ?_ ?_)); (first | (apply Ob.of; (first | with_reducible assumption | with_reducible exact ex20 _ _ | with_reducible exact ex21 _ _ | with_reducible exact ex30 _ _ _ | with_reducible exact ex31 _ _ _ | with_reducible exact ex32 _ _ _ | rfl | (exact ald rfl rfl (by assumption) rfl) | (exact ald_agg rfl rfl rfl (by assumption) rfl)); (conv => whnf)) | (apply bIf.yes; (first | assumption | rfl); (conv => whnf)) | (apply bIf.no; (first | assumption | rfl); (conv => whnf)) | ((with_reducible refine Ob.load (by with_unfolding_all assumption) ?_); (conv => whnf)) | (apply Grows.mk; (first | exact Grow.refl _ | assumption); (conv => whnf)))))
    refine (stack_ax h2 _).mono ?_
    rintro _ X ⟨rfl, e⟩
    subst X
    rw [w0]
    (try (conv => whnf)); (repeat ((fail_if_success (with_reducible refine And.intro ?_ ?_)); (fail_if_success (with_reducible refine Exists.intro ?_ ?_)); (first | (apply Ob.of; (first | with_reducible assumption | with_reducible exact ex20 _ _ | with_reducible exact ex21 _ _ | with_reducible exact ex30 _ _ _ | with_reducible exact ex31 _ _ _ | with_reducible exact ex32 _ _ _ | rfl | (exact ald rfl rfl (by assumption) rfl) | (exact ald_agg rfl rfl rfl (by assumption) rfl)); (conv => whnf)) | (apply bIf.yes; (first | assumption | rfl); (conv => whnf)) | (apply bIf.no; (first | assumption | rfl); (conv => whnf)) | ((with_reducible refine Ob.load (by with_unfolding_all assumption) ?_); (conv => whnf)) | (apply Grows.mk; (first | exact Grow.refl _ | assumption); (conv => whnf)))))
    refine (stack_ax h2 _).mono ?_
    rintro _ X ⟨rfl, e⟩
    subst X
    rw [w1]
    (try (conv => whnf)); (repeat ((fail_if_success (with_reducible refine And.intro ?_ ?_)); (fail_if_success (with_reducible refine Exists.intro ?_ ?_)); (first | (apply Ob.of; (first | with_reducible assumption | with_reducible exact ex20 _ _ | with_reducible exact ex21 _ _ | with_reducible exact ex30 _ _ _ | with_reducible exact ex31 _ _ _ | with_reducible exact ex32 _ _ _ | rfl | (exact ald rfl rfl (by assumption) rfl) | (exact ald_agg rfl rfl rfl (by assumption) rfl)); (conv => whnf)) | (apply bIf.yes; (first | assumption | rfl); (conv => whnf)) | (apply bIf.no; (first | assumption | rfl); (conv => whnf)) | ((with_reducible refine Ob.load (by with_unfolding_all assumption) ?_); (conv => whnf)) | (apply Grows.mk; (first | exact Grow.refl _ | assumption); (conv => whnf)))))
    refine (put_ax h2 hd hc _ _ _ _ _ (noRegs pb H2) hops hpb2 hn2).mono ?_
    rintro _ H3 ⟨⟨ov', h3⟩, f3⟩
    (try (conv => whnf)); (repeat ((fail_if_success (with_reducible refine And.intro ?_ ?_)); (fail_if_success (with_reducible refine Exists.intro ?_ ?_)); (first | (apply Ob.of; (first | with_reducible assumption | with_reducible exact ex20 _ _ | with_reducible exact ex21 _ _ | with_reducible exact ex30 _ _ _ | with_reducible exact ex31 _ _ _ | with_reducible exact ex32 _ _ _ | rfl | (exact ald rfl rfl (by assumption) rfl) | (exact ald_agg rfl rfl rfl (by assumption) rfl)); (conv => whnf)) | (apply bIf.yes; (first | assumption | rfl); (conv => whnf)) | (apply bIf.no; (first | assumption | rfl); (conv => whnf)) | ((with_reducible refine Ob.load (by with_unfolding_all assumption) ?_); (conv => whnf)) | (apply Grows.mk; (first | exact Grow.refl _ | assumption); (conv => whnf)))))
    exact ⟨⟨cv, ov', h3⟩, f2.trans f3⟩
  · (try (conv => whnf)); (repeat ((fail_if_success (with_reducible refine And.intro ?_ ?_)); (fail_if_success (with_reducible refine Exists.intro ?_ ?_)); (first | (apply Ob.of; (first | with_reducible assumption | with_reducible exact ex20 _ _ | with_reducible exact ex21 _ _ | with_reducible exact ex30 _ _ _ | with_reducible exact ex31 _ _ _ | with_reducible exact ex32 _ _ _ | rfl | (exact ald rfl rfl (by assumption) rfl) | (exact ald_agg rfl rfl rfl (by assumption) rfl)); (conv => whnf)) | (apply bIf.yes; (first | assumption | rfl); (conv => whnf)) | (apply bIf.no; (first | assumption | rfl); (conv => whnf)) | ((with_reducible refine Ob.load (by with_unfolding_all assumption) ?_); (conv => whnf)) | (apply Grows.mk; (first | exact Grow.refl _ | assumption); (conv => whnf)))))
    refine (stack_ax h2 _).mono ?_
    rintro _ X ⟨rfl, e⟩
    subst X
    rw [w2]
    (try (conv => whnf)); (repeat ((fail_if_success (with_reducible refine And.intro ?_ ?_)); (fail_if_success (with_reducible refine Exists.intro ?_ ?_)); (first | (apply Ob.of; (first | with_reducible assumption | with_reducible exact ex20 _ _ | with_reducible exact ex21 _ _ | with_reducible exact ex30 _ _ _ | with_reducible exact ex31 _ _ _ | with_reducible exact ex32 _ _ _ | rfl | (exact ald rfl rfl (by assumption) rfl) | (exact ald_agg rfl rfl rfl (by assumption) rfl)); (conv => whnf)) | (apply bIf.yes; (first | assumption | rfl); (conv => whnf)) | (apply bIf.no; (first | assumption | rfl); (conv => whnf)) | ((with_reducible refine Ob.load (by with_unfolding_all assumption) ?_); (conv => whnf)) | (apply Grows.mk; (first | exact Grow.refl _ | assumption); (conv => whnf)))))
    refine (stack_ax h2 _).mono ?_
    rintro _ X ⟨rfl, e⟩
    subst X
    rw [w2]
    (try (conv => whnf)); (repeat ((fail_if_success (with_reducible refine And.intro ?_ ?_)); (fail_if_success (with_reducible refine Exists.intro ?_ ?_)); (first | (apply Ob.of; (first | with_reducible assumption | with_reducible exact ex20 _ _ | with_reducible exact ex21 _ _ | with_reducible exact ex30 _ _ _ | with_reducible exact ex31 _ _ _ | with_reducible exact ex32 _ _ _ | rfl | (exact ald rfl rfl (by assumption) rfl) | (exact ald_agg rfl rfl rfl (by assumption) rfl)); (conv => whnf)) | (apply bIf.yes; (first | assumption | rfl); (conv => whnf)) | (apply bIf.no; (first | assumption | rfl); (conv => whnf)) | ((with_reducible refine Ob.load (by with_unfolding_all assumption) ?_); (conv => whnf)) | (apply Grows.mk; (first | exact Grow.refl _ | assumption); (conv => whnf)))))
    refine (stack_ax h2 _).mono ?_
    rintro _ X ⟨rfl, e⟩
    subst X
    rw [w1]
    (try (conv => whnf)); (repeat ((fail_if_success (with_reducible refine And.intro ?_ ?_)); (fail_if_success (with_reducible refine Exists.intro ?_ ?_)); (first | (apply Ob.of; (first | with_reducible assumption | with_reducible exact ex20 _ _ | with_reducible exact ex21 _ _ | with_reducible exact ex30 _ _ _ | with_reducible exact ex31 _ _ _ | with_reducible exact ex32 _ _ _ | rfl | (exact ald rfl rfl (by assumption) rfl) | (exact ald_agg rfl rfl rfl (by assumption) rfl)); (conv => whnf)) | (apply bIf.yes; (first | assumption | rfl); (conv => whnf)) | (apply bIf.no; (first | assumption | rfl); (conv => whnf)) | ((with_reducible refine Ob.load (by with_unfolding_all assumption) ?_); (conv => whnf)) | (apply Grows.mk; (first | exact Grow.refl _ | assumption); (conv => whnf)))))
    refine (put_ax h2 hd hc _ _ _ _ _ (noRegs pb H2) hops hpb2 hn2).mono ?_
    rintro _ H3 ⟨⟨ov', h3⟩, f3⟩
    (try (conv => whnf)); (repeat ((fail_if_success (with_reducible refine And.intro ?_ ?_)); (fail_if_success (with_reducible refine Exists.intro ?_ ?_)); (first | (apply Ob.of; (first | with_reducible assumption | with_reducible exact ex20 _ _ | with_reducible exact ex21 _ _ | with_reducible exact ex30 _ _ _ | with_reducible exact ex31 _ _ _ | with_reducible exact ex32 _ _ _ | rfl | (exact ald rfl rfl (by assumption) rfl) | (exact ald_agg rfl rfl rfl (by assumption) rfl)); (conv => whnf)) | (apply bIf.yes; (first | assumption | rfl); (conv => whnf)) | (apply bIf.no; (first | assumption | rfl); (conv => whnf)) | ((with_reducible refine Ob.load (by with_unfolding_all assumption) ?_); (conv => whnf)) | (apply Grows.mk; (first | exact Grow.refl _ | assumption); (conv => whnf)))))
    exact ⟨⟨cv, ov', h3⟩, f2.trans f3⟩
  · (try (conv => whnf)); (repeat ((fail_if_success (with_reducible refine And.intro ?_ ?_)); (fail_if_success (with_reducible refine Exists.intro ?_ ?_)); (first | (apply Ob.of; (first | with_reducible assumption | with_reducible exact ex20 _ _ | with_reducible exact ex21 _ _ | with_reducible exact ex30 _ _ _ | with_reducible exact ex31 _ _ _ | with_reducible exact ex32 _ _ _ | rfl | (exact ald rfl rfl (by assumption) rfl) | (exact ald_agg rfl rfl rfl (by assumption) rfl)); (conv => whnf)) | (apply bIf.yes; (first | assumption | rfl); (conv => whnf)) | (apply bIf.no; (first | assumption | rfl); (conv => whnf)) | ((with_reducible refine Ob.load (by with_unfolding_all assumption) ?_); (conv => whnf)) | (apply Grows.mk; (first | exact Grow.refl _ | assumption); (conv => whnf)))))
    refine (stack_ax h2 _).mono ?_
    rintro _ X ⟨rfl, e⟩
    subst X
    rw [w3]
    (try (conv => whnf)); (repeat ((fail_if_success (with_reducible refine And.intro ?_ ?_)); (fail_if_success (with_reducible refine Exists.intro ?_ ?_)); (first | (apply Ob.of; (first | with_reducible assumption | with_reducible exact ex20 _ _ | with_reducible exact ex21 _ _ | with_reducible exact ex30 _ _ _ | with_reducible exact ex31 _ _ _ | with_reducible exact ex32 _ _ _ | rfl | (exact ald rfl rfl (by assumption) rfl) | (exact ald_agg rfl rfl rfl (by assumption) rfl)); (conv => whnf)) | (apply bIf.yes; (first | assumption | rfl); (conv => whnf)) | (apply bIf.no; (first | assumption | rfl); (conv => whnf)) | ((with_reducible refine Ob.load (by with_unfolding_all assumption) ?_); (conv => whnf)) | (apply Grows.mk; (first | exact Grow.refl _ | assumption); (conv => whnf)))))
    refine (stack_ax h2 _).mono ?_
    rintro _ X ⟨rfl, e⟩
    subst X
    rw [w2]
    (try (conv => whnf)); (repeat ((fail_if_success (with_reducible refine And.intro ?_ ?_)); (fail_if_success (with_reducible refine Exists.intro ?_ ?_)); (first | (apply Ob.of; (first | with_reducible assumption | with_reducible exact ex20 _ _ | with_reducible exact ex21 _ _ | with_reducible exact ex30 _ _ _ | with_reducible exact ex31 _ _ _ | with_reducible exact ex32 _ _ _ | rfl | (exact ald rfl rfl (by assumption) rfl) | (exact ald_agg rfl rfl rfl (by assumption) rfl)); (conv => whnf)) | (apply bIf.yes; (first | assumption | rfl); (conv => whnf)) | (apply bIf.no; (first | assumption | rfl); (conv => whnf)) | ((with_reducible refine Ob.load (by with_unfolding_all assumption) ?_); (conv => whnf)) | (apply Grows.mk; (first | exact Grow.refl _ | assumption); (conv => whnf)))))
    refine (stack_ax h2 _).mono ?_
    rintro _ X ⟨rfl, e⟩
    subst X
    rw [w1]
    (try (conv => whnf)); (repeat ((fail_if_success (with_reducible refine And.intro ?_ ?_)); (fail_if_success (with_reducible refine Exists.intro ?_ ?_)); (first | (apply Ob.of; (first | with_reducible assumption | with_reducible exact ex20 _ _ | with_reducible exact ex21 _ _ | with_reducible exact ex30 _ _ _ | with_reducible exact ex31 _ _ _ | with_reducible exact ex32 _ _ _ | rfl | (exact ald rfl rfl (by assumption) rfl) | (exact ald_agg rfl rfl rfl (by assumption) rfl)); (conv => whnf)) | (apply bIf.yes; (first | assumption | rfl); (conv => whnf)) | (apply bIf.no; (first | assumption | rfl); (conv => whnf)) | ((with_reducible refine Ob.load (by with_unfolding_all assumption) ?_); (conv => whnf)) | (apply Grows.mk; (first | exact Grow.refl _ | assumption); (conv => whnf)))))
    refine (put_ax h2 hd hc _ _ _ _ _ (noRegs pb H2) hops hpb2 hn2).mono ?_
    rintro _ H3 ⟨⟨ov', h3⟩, f3⟩
    (try (conv => whnf)); (repeat ((fail_if_success (with_reducible refine And.intro ?_ ?_)); (fail_if_success (with_reducible refine Exists.intro ?_ ?_)); (first | (apply Ob.of; (first | with_reducible assumption | with_reducible exact ex20 _ _ | with_reducible exact ex21 _ _ | with_reducible exact ex30 _ _ _ | with_reducible exact ex31 _ _ _ | with_reducible exact ex32 _ _ _ | rfl | (exact ald rfl rfl (by assumption) rfl) | (exact ald_agg rfl rfl rfl (by assumption) rfl)); (conv => whnf)) | (apply bIf.yes; (first | assumption | rfl); (conv => whnf)) | (apply bIf.no; (first | assumption | rfl); (conv => whnf)) | ((with_reducible refine Ob.load (by with_unfolding_all assumption) ?_); (conv => whnf)) | (apply Grows.mk; (first | exact Grow.refl _ | assumption); (conv => whnf)))))
    exact ⟨⟨cv, ov', h3⟩, f2.trans f3⟩
  · (try (conv => whnf)); (repeat ((fail_if_success (with_reducible refine And.intro ?_ ?_)); (fail_if_success (with_reducible refine Exists.intro ?_ ?_)); (first | (apply Ob.of; (first | with_reducible assumption | with_reducible exact ex20 _ _ | with_reducible exact ex21 _ _ | with_reducible exact ex30 _ _ _ | with_reducible exact ex31 _ _ _ | with_reducible exact ex32 _ _ _ | rfl | (exact ald rfl rfl (by assumption) rfl) | (exact ald_agg rfl rfl rfl (by assumption) rfl)); (conv => whnf)) | (apply bIf.yes; (first | assumption | rfl); (conv => whnf)) | (apply bIf.no; (first | assumption | rfl); (conv => whnf)) | ((with_reducible refine Ob.load (by with_unfolding_all assumption) ?_); (conv => whnf)) | (apply Grows.mk; (first | exact Grow.refl _ | assumption); (conv => whnf)))))
    apply SW.drawH [(0, [], [112, 113, 114, 115], false), (1, [], [111, 114, 115], false), (3, [], [111, 112, 113], false), (4, [(114, 3)], [111, 112, 113, 114], false), (2, [(112, 1)], [111, 112, 114, 115], true), (5, [(111, 0), (112, 1), (113, 2), (114, 3), (115, 4)], [111, 112, 113, 114, 115], true)]
      [(111, 0), (112, 1), (113, 2), (114, 3), (115, 4), (116, 5)] [2]
      [(0, _), (3, _), (4, _), (5, _)] rfl (by kernel_rfl)
    case hF => exact ⟨rfl, rfl, rfl, rfl, trivial⟩
    (try (conv => whnf)); (repeat ((fail_if_success (with_reducible refine And.intro ?_ ?_)); (fail_if_success (with_reducible refine Exists.intro ?_ ?_)); (first | (apply Ob.of; (first | with_reducible assumption | with_reducible exact ex20 _ _ | with_reducible exact ex21 _ _ | with_reducible exact ex30 _ _ _ | with_reducible exact ex31 _ _ _ | with_reducible exact ex32 _ _ _ | rfl | (exact ald rfl rfl (by assumption) rfl) | (exact ald_agg rfl rfl rfl (by assumption) rfl)); (conv => whnf)) | (apply bIf.yes; (first | assumption | rfl); (conv => whnf)) | (apply bIf.no; (first | assumption | rfl); (conv => whnf)) | ((with_reducible refine Ob.load (by with_unfolding_all assumption) ?_); (conv => whnf)) | (apply Grows.mk; (first | exact Grow.refl _ | assumption); (conv => whnf)))))
    refine (stack_ax h2 _).mono ?_
    rintro _ X ⟨rfl, e⟩
    subst X
    rw [w1]
    (try (conv => whnf)); (repeat ((fail_if_success (with_reducible refine And.intro ?_ ?_)); (fail_if_success (with_reducible refine Exists.intro ?_ ?_)); (first | (apply Ob.of; (first | with_reducible assumption | with_reducible exact ex20 _ _ | with_reducible exact ex21 _ _ | with_reducible exact ex30 _ _ _ | with_reducible exact ex31 _ _ _ | with_reducible exact ex32 _ _ _ | rfl | (exact ald rfl rfl (by assumption) rfl) | (exact ald_agg rfl rfl rfl (by assumption) rfl)); (conv => whnf)) | (apply bIf.yes; (first | assumption | rfl); (conv => whnf)) | (apply bIf.no; (first | assumption | rfl); (conv => whnf)) | ((with_reducible refine Ob.load (by with_unfolding_all assumption) ?_); (conv => whnf)) | (apply Grows.mk; (first | exact Grow.refl _ | assumption); (conv => whnf)))))
    refine (put_ax h2 hd hc _ _ _ _ _ (noRegs pb H2) hops hpb2 hn2).mono ?_
    rintro _ H3 ⟨⟨ov', h3⟩, f3⟩
    (try (conv => whnf)); (repeat ((fail_if_success (with_reducible refine And.intro ?_ ?_)); (fail_if_success (with_reducible refine Exists.intro ?_ ?_)); (first | (apply Ob.of; (first | with_reducible assumption | with_reducible exact ex20 _ _ | with_reducible exact ex21 _ _ | with_reducible exact ex30 _ _ _ | with_reducible exact ex31 _ _ _ | with_reducible exact ex32 _ _ _ | rfl | (exact ald rfl rfl (by assumption) rfl) | (exact ald_agg rfl rfl rfl (by assumption) rfl)); (conv => whnf)) | (apply bIf.yes; (first | assumption | rfl); (conv => whnf)) | (apply bIf.no; (first | assumption | rfl); (conv => whnf)) | ((with_reducible refine Ob.load (by with_unfolding_all assumption) ?_); (conv => whnf)) | (apply Grows.mk; (first | exact Grow.refl _ | assumption); (conv => whnf)))))
    exact ⟨⟨cv, ov', h3⟩, f2.trans f3⟩
  · (try (conv => whnf)); (repeat ((fail_if_success (with_reducible refine And.intro ?_ ?_)); (fail_if_success (with_reducible refine Exists.intro ?_ ?_)); (first | (apply Ob.of; (first | with_reducible assumption | with_reducible exact ex20 _ _ | with_reducible exact ex21 _ _ | with_reducible exact ex30 _ _ _ | with_reducible exact ex31 _ _ _ | with_reducible exact ex32 _ _ _ | rfl | (exact ald rfl rfl (by assumption) rfl) | (exact ald_agg rfl rfl rfl (by assumption) rfl)); (conv => whnf)) | (apply bIf.yes; (first | assumption | rfl); (conv => whnf)) | (apply bIf.no; (first | assumption | rfl); (conv => whnf)) | ((with_reducible refine Ob.load (by with_unfolding_all assumption) ?_); (conv => whnf)) | (apply Grows.mk; (first | exact Grow.refl _ | assumption); (conv => whnf)))))
    refine (stack_ax h2 _).mono ?_
    rintro _ X ⟨rfl, e⟩
    subst X
    rw [w2]
    (try (conv => whnf)); (repeat ((fail_if_success (with_reducible refine And.intro ?_ ?_)); (fail_if_success (with_reducible refine Exists.intro ?_ ?_)); (first | (apply Ob.of; (first | with_reducible assumption | with_reducible exact ex20 _ _ | with_reducible exact ex21 _ _ | with_reducible exact ex30 _ _ _ | with_reducible exact ex31 _ _ _ | with_reducible exact ex32 _ _ _ | rfl | (exact ald rfl rfl (by assumption) rfl) | (exact ald_agg rfl rfl rfl (by assumption) rfl)); (conv => whnf)) | (apply bIf.yes; (first | assumption | rfl); (conv => whnf)) | (apply bIf.no; (first | assumption | rfl); (conv => whnf)) | ((with_reducible refine Ob.load (by with_unfolding_all assumption) ?_); (conv => whnf)) | (apply Grows.mk; (first | exact Grow.refl _ | assumption); (conv => whnf)))))
    refine (stack_ax h2 _).mono ?_
    rintro _ X ⟨rfl, e⟩
    subst X
    rw [w1]
    (try (conv => whnf)); (repeat ((fail_if_success (with_reducible refine And.intro ?_ ?_)); (fail_if_success (with_reducible refine Exists.intro ?_ ?_)); (first | (apply Ob.of; (first | with_reducible assumption | with_reducible exact ex20 _ _ | with_reducible exact ex21 _ _ | with_reducible exact ex30 _ _ _ | with_reducible exact ex31 _ _ _ | with_reducible exact ex32 _ _ _ | rfl | (exact ald rfl rfl (by assumption) rfl) | (exact ald_agg rfl rfl rfl (by assumption) rfl)); (conv => whnf)) | (apply bIf.yes; (first | assumption | rfl); (conv => whnf)) | (apply bIf.no; (first | assumption | rfl); (conv => whnf)) | ((with_reducible refine Ob.load (by with_unfolding_all assumption) ?_); (conv => whnf)) | (apply Grows.mk; (first | exact Grow.refl _ | assumption); (conv => whnf)))))
    refine (put_ax h2 hd hc _ _ _ _ _ (noRegs pb H2) hops hpb2 hn2).mono ?_
    rintro _ H3 ⟨⟨ov', h3⟩, f3⟩
    (try (conv => whnf)); (repeat ((fail_if_success (with_reducible refine And.intro ?_ ?_)); (fail_if_success (with_reducible refine Exists.intro ?_ ?_)); (first | (apply Ob.of; (first | with_reducible assumption | with_reducible exact ex20 _ _ | with_reducible exact ex21 _ _ | with_reducible exact ex30 _ _ _ | with_reducible exact ex31 _ _ _ | with_reducible exact ex32 _ _ _ | rfl | (exact ald rfl rfl (by assumption) rfl) | (exact ald_agg rfl rfl rfl (by assumption) rfl)); (conv => whnf)) | (apply bIf.yes; (first | assumption | rfl); (conv => whnf)) | (apply bIf.no; (first | assumption | rfl); (conv => whnf)) | ((with_reducible refine Ob.load (by with_unfolding_all assumption) ?_); (conv => whnf)) | (apply Grows.mk; (first | exact Grow.refl _ | assumption); (conv => whnf)))))
    exact ⟨⟨cv, ov', h3⟩, f2.trans f3⟩
  · (try (conv => whnf)); (repeat ((fail_if_success (with_reducible refine And.intro ?_ ?_)); (fail_if_success (with_reducible refine Exists.intro ?_ ?_)); (first | (apply Ob.of; (first | with_reducible assumption | with_reducible exact ex20 _ _ | with_reducible exact ex21 _ _ | with_reducible exact ex30 _ _ _ | with_reducible exact ex31 _ _ _ | with_reducible exact ex32 _ _ _ | rfl | (exact ald rfl rfl (by assumption) rfl) | (exact ald_agg rfl rfl rfl (by assumption) rfl)); (conv => whnf)) | (apply bIf.yes; (first | assumption | rfl); (conv => whnf)) | (apply bIf.no; (first | assumption | rfl); (conv => whnf)) | ((with_reducible refine Ob.load (by with_unfolding_all assumption) ?_); (conv => whnf)) | (apply Grows.mk; (first | exact Grow.refl _ | assumption); (conv => whnf)))))
    apply SW.drawH [(0, [], [128, 129, 130, 131, 132, 133], false), (1, [], [127, 130, 132, 133], false), (3, [], [127, 128, 129, 132, 133], false), (5, [], [127, 128, 129, 130, 131], false), (6, [(132, 5)], [127, 128, 129, 130, 131, 132], false), (2, [(128, 1)], [127, 128, 130, 132, 133], true), (4, [(128, 1), (129, 2), (130, 3)], [127, 128, 129, 130, 132, 133], true), (7, [(127, 0), (128, 1), (129, 2), (130, 3), (131, 4), (132, 5), (133, 6)], [127, 128, 129, 130, 131, 132, 133], true)]
      [(127, 0), (128, 1), (129, 2), (130, 3), (131, 4), (132, 5), (133, 6), (134, 7)] [2, 4]
      [(0, _), (3, _), (4, _), (5, _)] rfl (by kernel_rfl)
    case hF => exact ⟨rfl, rfl, rfl, rfl, trivial⟩
    (try (conv => whnf)); (repeat ((fail_if_success (with_reducible refine And.intro ?_ ?_)); (fail_if_success (with_reducible refine Exists.intro ?_ ?_)); (first | (apply Ob.of; (first | with_reducible assumption | with_reducible exact ex20 _ _ | with_reducible exact ex21 _ _ | with_reducible exact ex30 _ _ _ | with_reducible exact ex31 _ _ _ | with_reducible exact ex32 _ _ _ | rfl | (exact ald rfl rfl (by assumption) rfl) | (exact ald_agg rfl rfl rfl (by assumption) rfl)); (conv => whnf)) | (apply bIf.yes; (first | assumption | rfl); (conv => whnf)) | (apply bIf.no; (first | assumption | rfl); (conv => whnf)) | ((with_reducible refine Ob.load (by with_unfolding_all assumption) ?_); (conv => whnf)) | (apply Grows.mk; (first | exact Grow.refl _ | assumption); (conv => whnf)))))
    refine (stack_ax h2 _).mono ?_
    rintro _ X ⟨rfl, e⟩
    subst X
    rw [w1]
    (try (conv => whnf)); (repeat ((fail_if_success (with_reducible refine And.intro ?_ ?_)); (fail_if_success (with_reducible refine Exists.intro ?_ ?_)); (first | (apply Ob.of; (first | with_reducible assumption | with_reducible exact ex20 _ _ | with_reducible exact ex21 _ _ | with_reducible exact ex30 _ _ _ | with_reducible exact ex31 _ _ _ | with_reducible exact ex32 _ _ _ | rfl | (exact ald rfl rfl (by assumption) rfl) | (exact ald_agg rfl rfl rfl (by assumption) rfl)); (conv => whnf)) | (apply bIf.yes; (first | assumption | rfl); (conv => whnf)) | (apply bIf.no; (first | assumption | rfl); (conv => whnf)) | ((with_reducible refine Ob.load (by with_unfolding_all assumption) ?_); (conv => whnf)) | (apply Grows.mk; (first | exact Grow.refl _ | assumption); (conv => whnf)))))
    refine (stack_ax h2 _).mono ?_
    rintro _ X ⟨rfl, e⟩
    subst X
    rw [w1]
    (try (conv => whnf)); (repeat ((fail_if_success (with_reducible refine And.intro ?_ ?_)); (fail_if_success (with_reducible refine Exists.intro ?_ ?_)); (first | (apply Ob.of; (first | with_reducible assumption | with_reducible exact ex20 _ _ | with_reducible exact ex21 _ _ | with_reducible exact ex30 _ _ _ | with_reducible exact ex31 _ _ _ | with_reducible exact ex32 _ _ _ | rfl | (exact ald rfl rfl (by assumption) rfl) | (exact ald_agg rfl rfl rfl (by assumption) rfl)); (conv => whnf)) | (apply bIf.yes; (first | assumption | rfl); (conv => whnf)) | (apply bIf.no; (first | assumption | rfl); (conv => whnf)) | ((with_reducible refine Ob.load (by with_unfolding_all assumption) ?_); (conv => whnf)) | (apply Grows.mk; (first | exact Grow.refl _ | assumption); (conv => whnf)))))
    refine (put_ax h2 hd hc _ _ _ _ _ (noRegs pb H2) hops hpb2 hn2).mono ?_
    rintro _ H3 ⟨⟨ov', h3⟩, f3⟩
    (try (conv => whnf)); (repeat ((fail_if_success (with_reducible refine And.intro ?_ ?_)); (fail_if_success (with_reducible refine Exists.intro ?_ ?_)); (first | (apply Ob.of; (first | with_reducible assumption | with_reducible exact ex20 _ _ | with_reducible exact ex21 _ _ | with_reducible exact ex30 _ _ _ | with_reducible exact ex31 _ _ _ | with_reducible exact ex32 _ _ _ | rfl | (exact ald rfl rfl (by assumption) rfl) | (exact ald_agg rfl rfl rfl (by assumption) rfl)); (conv => whnf)) | (apply bIf.yes; (first | assumption | rfl); (conv => whnf)) | (apply bIf.no; (first | assumption | rfl); (conv => whnf)) | ((with_reducible refine Ob.load (by with_unfolding_all assumption) ?_); (conv => whnf)) | (apply Grows.mk; (first | exact Grow.refl _ | assumption); (conv => whnf)))))
    exact ⟨⟨cv, ov', h3⟩, f2.trans f3⟩
  · (try (conv => whnf)); (repeat ((fail_if_success (with_reducible refine And.intro ?_ ?_)); (fail_if_success (with_reducible refine Exists.intro ?_ ?_)); (first | (apply Ob.of; (first | with_reducible assumption | with_reducible exact ex20 _ _ | with_reducible exact ex21 _ _ | with_reducible exact ex30 _ _ _ | with_reducible exact ex31 _ _ _ | with_reducible exact ex32 _ _ _ | rfl | (exact ald rfl rfl (by assumption) rfl) | (exact ald_agg rfl rfl rfl (by assumption) rfl)); (conv => whnf)) | (apply bIf.yes; (first | assumption | rfl); (conv => whnf)) | (apply bIf.no; (first | assumption | rfl); (conv => whnf)) | ((with_reducible refine Ob.load (by with_unfolding_all assumption) ?_); (conv => whnf)) | (apply Grows.mk; (first | exact Grow.refl _ | assumption); (conv => whnf)))))
    apply SW.drawH [(0, [], [138, 139, 140, 141, 142, 143, 144, 145], false), (1, [], [137, 140, 142, 144, 145], false), (3, [], [137, 138, 139, 142, 144, 145], false), (5, [], [137, 138, 139, 140, 141, 144, 145], false), (7, [], [137, 138, 139, 140, 141, 142, 143], false), (8, [(144, 7)], [137, 138, 139, 140, 141, 142, 143, 144], false), (2, [(138, 1)], [137, 138, 140, 142, 144, 145], true), (4, [(138, 1), (139, 2), (140, 3)], [137, 138, 139, 140, 142, 144, 145], true), (6, [(138, 1), (139, 2), (140, 3), (141, 4), (142, 5)], [137, 138, 139, 140, 141, 142, 144, 145], true), (9, [(137, 0), (138, 1), (139, 2), (140, 3), (141, 4), (142, 5), (143, 6), (144, 7), (145, 8)], [137, 138, 139, 140, 141, 142, 143, 144, 145], true)]
      [(137, 0), (138, 1), (139, 2), (140, 3), (141, 4), (142, 5), (143, 6), (144, 7), (145, 8), (146, 9)] [2, 4, 6]
      [(0, _), (3, _), (4, _), (5, _)] rfl (by kernel_rfl)
    case hF => exact ⟨rfl, rfl, rfl, rfl, trivial⟩
    (try (conv => whnf)); (repeat ((fail_if_success (with_reducible refine And.intro ?_ ?_)); (fail_if_success (with_reducible refine Exists.intro ?_ ?_)); (first | (apply Ob.of; (first | with_reducible assumption | with_reducible exact ex20 _ _ | with_reducible exact ex21 _ _ | with_reducible exact ex30 _ _ _ | with_reducible exact ex31 _ _ _ | with_reducible exact ex32 _ _ _ | rfl | (exact ald rfl rfl (by assumption) rfl) | (exact ald_agg rfl rfl rfl (by assumption) rfl)); (conv => whnf)) | (apply bIf.yes; (first | assumption | rfl); (conv => whnf)) | (apply bIf.no; (first | assumption | rfl); (conv => whnf)) | ((with_reducible refine Ob.load (by with_unfolding_all assumption) ?_); (conv => whnf)) | (apply Grows.mk; (first | exact Grow.refl _ | assumption); (conv => whnf)))))
    refine (stack_ax h2 _).mono ?_
    rintro _ X ⟨rfl, e⟩
    subst X
    rw [w2]
    (try (conv => whnf)); (repeat ((fail_if_success (with_reducible refine And.intro ?_ ?_)); (fail_if_success (with_reducible refine Exists.intro ?_ ?_)); (first | (apply Ob.of; (first | with_reducible assumption | with_reducible exact ex20 _ _ | with_reducible exact ex21 _ _ | with_reducible exact ex30 _ _ _ | with_reducible exact ex31 _ _ _ | with_reducible exact ex32 _ _ _ | rfl | (exact ald rfl rfl (by assumption) rfl) | (exact ald_agg rfl rfl rfl (by assumption) rfl)); (conv => whnf)) | (apply bIf.yes; (first | assumption | rfl); (conv => whnf)) | (apply bIf.no; (first | assumption | rfl); (conv => whnf)) | ((with_reducible refine Ob.load (by with_unfolding_all assumption) ?_); (conv => whnf)) | (apply Grows.mk; (first | exact Grow.refl _ | assumption); (conv => whnf)))))
    refine (stack_ax h2 _).mono ?_
    rintro _ X ⟨rfl, e⟩
    subst X
    rw [w2]
    (try (conv => whnf)); (repeat ((fail_if_success (with_reducible refine And.intro ?_ ?_)); (fail_if_success (with_reducible refine Exists.intro ?_ ?_)); (first | (apply Ob.of; (first | with_reducible assumption | with_reducible exact ex20 _ _ | with_reducible exact ex21 _ _ | with_reducible exact ex30 _ _ _ | with_reducible exact ex31 _ _ _ | with_reducible exact ex32 _ _ _ | rfl | (exact ald rfl rfl (by assumption) rfl) | (exact ald_agg rfl rfl rfl (by assumption) rfl)); (conv => whnf)) | (apply bIf.yes; (first | assumption | rfl); (conv => whnf)) | (apply bIf.no; (first | assumption | rfl); (conv => whnf)) | ((with_reducible refine Ob.load (by with_unfolding_all assumption) ?_); (conv => whnf)) | (apply Grows.mk; (first | exact Grow.refl _ | assumption); (conv => whnf)))))
    refine (stack_ax h2 _).mono ?_
    rintro _ X ⟨rfl, e⟩
    subst X
    rw [w1]
    (try (conv => whnf)); (repeat ((fail_if_success (with_reducible refine And.intro ?_ ?_)); (fail_if_success (with_reducible refine Exists.intro ?_ ?_)); (first | (apply Ob.of; (first | with_reducible assumption | with_reducible exact ex20 _ _ | with_reducible exact ex21 _ _ | with_reducible exact ex30 _ _ _ | with_reducible exact ex31 _ _ _ | with_reducible exact ex32 _ _ _ | rfl | (exact ald rfl rfl (by assumption) rfl) | (exact ald_agg rfl rfl rfl (by assumption) rfl)); (conv => whnf)) | (apply bIf.yes; (first | assumption | rfl); (conv => whnf)) | (apply bIf.no; (first | assumption | rfl); (conv => whnf)) | ((with_reducible refine Ob.load (by with_unfolding_all assumption) ?_); (conv => whnf)) | (apply Grows.mk; (first | exact Grow.refl _ | assumption); (conv => whnf)))))
    refine (put_ax h2 hd hc _ _ _ _ _ (noRegs pb H2) hops hpb2 hn2).mono ?_
    rintro _ H3 ⟨⟨ov', h3⟩, f3⟩
    (try (conv => whnf)); (repeat ((fail_if_success (with_reducible refine And.intro ?_ ?_)); (fail_if_success (with_reducible refine Exists.intro ?_ ?_)); (first | (apply Ob.of; (first | with_reducible assumption | with_reducible exact ex20 _ _ | with_reducible exact ex21 _ _ | with_reducible exact ex30 _ _ _ | with_reducible exact ex31 _ _ _ | with_reducible exact ex32 _ _ _ | rfl | (exact ald rfl rfl (by assumption) rfl) | (exact ald_agg rfl rfl rfl (by assumption) rfl)); (conv => whnf)) | (apply bIf.yes; (first | assumption | rfl); (conv => whnf)) | (apply bIf.no; (first | assumption | rfl); (conv => whnf)) | ((with_reducible refine Ob.load (by with_unfolding_all assumption) ?_); (conv => whnf)) | (apply Grows.mk; (first | exact Grow.refl _ | assumption); (conv => whnf)))))
    exact ⟨⟨cv, ov', h3⟩, f2.trans f3⟩
  · (try (conv => whnf)); (repeat ((fail_if_success (with_reducible refine And.intro ?_ ?_)); (fail_if_success (with_reducible refine Exists.intro ?_ ?_)); (first | (apply Ob.of; (first | with_reducible assumption | with_reducible exact ex20 _ _ | with_reducible exact ex21 _ _ | with_reducible exact ex30 _ _ _ | with_reducible exact ex31 _ _ _ | with_reducible exact ex32 _ _ _ | rfl | (exact ald rfl rfl (by assumption) rfl) | (exact ald_agg rfl rfl rfl (by assumption) rfl)); (conv => whnf)) | (apply bIf.yes; (first | assumption | rfl); (conv => whnf)) | (apply bIf.no; (first | assumption | rfl); (conv => whnf)) | ((with_reducible refine Ob.load (by with_unfolding_all assumption) ?_); (conv => whnf)) | (apply Grows.mk; (first | exact Grow.refl _ | assumption); (conv => whnf)))))
    refine (put_ax h2 hd hc _ _ _ _ _ (noRegs pb H2) hops hpb2 hn2).mono ?_
    rintro _ H3 ⟨⟨ov', h3⟩, f3⟩
    (try (conv => whnf)); (repeat ((fail_if_success (with_reducible refine And.intro ?_ ?_)); (fail_if_success (with_reducible refine Exists.intro ?_ ?_)); (first | (apply Ob.of; (first | with_reducible assumption | with_reducible exact ex20 _ _ | with_reducible exact ex21 _ _ | with_reducible exact ex30 _ _ _ | with_reducible exact ex31 _ _ _ | with_reducible exact ex32 _ _ _ | rfl | (exact ald rfl rfl (by assumption) rfl) | (exact ald_agg rfl rfl rfl (by assumption) rfl)); (conv => whnf)) | (apply bIf.yes; (first | assumption | rfl); (conv => whnf)) | (apply bIf.no; (first | assumption | rfl); (conv => whnf)) | ((with_reducible refine Ob.load (by with_unfolding_all assumption) ?_); (conv => whnf)) | (apply Grows.mk; (first | exact Grow.refl _ | assumption); (conv => whnf)))))
    exact ⟨⟨cv, ov', h3⟩, f2.trans f3⟩
  · (try (conv => whnf)); (repeat ((fail_if_success (with_reducible refine And.intro ?_ ?_)); (fail_if_success (with_reducible refine Exists.intro ?_ ?_)); (first | (apply Ob.of; (first | with_reducible assumption | with_reducible exact ex20 _ _ | with_reducible exact ex21 _ _ | with_reducible exact ex30 _ _ _ | with_reducible exact ex31 _ _ _ | with_reducible exact ex32 _ _ _ | rfl | (exact ald rfl rfl (by assumption) rfl) | (exact ald_agg rfl rfl rfl (by assumption) rfl)); (conv => whnf)) | (apply bIf.yes; (first | assumption | rfl); (conv => whnf)) | (apply bIf.no; (first | assumption | rfl); (conv => whnf)) | ((with_reducible refine Ob.load (by with_unfolding_all assumption) ?_); (conv => whnf)) | (apply Grows.mk; (first | exact Grow.refl _ | assumption); (conv => whnf)))))
    apply SW.drawH [(0, [], [157, 158, 159, 160], false), (1, [], [156, 159, 160], false), (2, [(157, 1)], [156, 157, 159, 160], false), (3, [], [156, 157, 158], false), (4, [(159, 3)], [156, 157, 158, 159], true), (5, [(156, 0), (157, 1), (158, 2), (159, 3), (160, 4)], [156, 157, 158, 159, 160], true)]
      [(156, 0), (157, 1), (158, 2), (159, 3), (160, 4), (161, 5)] [4]
      [(0, _), (3, _), (4, _), (5, _)] rfl (by kernel_rfl)
    case hF => exact ⟨rfl, rfl, rfl, rfl, trivial⟩
    (try (conv => whnf)); (repeat ((fail_if_success (with_reducible refine And.intro ?_ ?_)); (fail_if_success (with_reducible refine Exists.intro ?_ ?_)); (first | (apply Ob.of; (first | with_reducible assumption | with_reducible exact ex20 _ _ | with_reducible exact ex21 _ _ | with_reducible exact ex30 _ _ _ | with_reducible exact ex31 _ _ _ | with_reducible exact ex32 _ _ _ | rfl | (exact ald rfl rfl (by assumption) rfl) | (exact ald_agg rfl rfl rfl (by assumption) rfl)); (conv => whnf)) | (apply bIf.yes; (first | assumption | rfl); (conv => whnf)) | (apply bIf.no; (first | assumption | rfl); (conv => whnf)) | ((with_reducible refine Ob.load (by with_unfolding_all assumption) ?_); (conv => whnf)) | (apply Grows.mk; (first | exact Grow.refl _ | assumption); (conv => whnf)))))
    refine (stack_ax h2 _).mono ?_
    rintro _ X ⟨rfl, e⟩
    subst X
    rw [w1]
    (try (conv => whnf)); (repeat ((fail_if_success (with_reducible refine And.intro ?_ ?_)); (fail_if_success (with_reducible refine Exists.intro ?_ ?_)); (first | (apply Ob.of; (first | with_reducible assumption | with_reducible exact ex20 _ _ | with_reducible exact ex21 _ _ | with_reducible exact ex30 _ _ _ | with_reducible exact ex31 _ _ _ | with_reducible exact ex32 _ _ _ | rfl | (exact ald rfl rfl (by assumption) rfl) | (exact ald_agg rfl rfl rfl (by assumption) rfl)); (conv => whnf)) | (apply bIf.yes; (first | assumption | rfl); (conv => whnf)) | (apply bIf.no; (first | assumption | rfl); (conv => whnf)) | ((with_reducible refine Ob.load (by with_unfolding_all assumption) ?_); (conv => whnf)) | (apply Grows.mk; (first | exact Grow.refl _ | assumption); (conv => whnf)))))
    refine (put_ax h2 hd hc _ _ _ _ _ (noRegs pb H2) hops hpb2 hn2).mono ?_
    rintro _ H3 ⟨⟨ov', h3⟩, f3⟩
    (try (conv => whnf)); (repeat ((fail_if_success (with_reducible refine And.intro ?_ ?_)); (fail_if_success (with_reducible refine Exists.intro ?_ ?_)); (first | (apply Ob.of; (first | with_reducible assumption | with_reducible exact ex20 _ _ | with_reducible exact ex21 _ _ | with_reducible exact ex30 _ _ _ | with_reducible exact ex31 _ _ _ | with_reducible exact ex32 _ _ _ | rfl | (exact ald rfl rfl (by assumption) rfl) | (exact ald_agg rfl rfl rfl (by assumption) rfl)); (conv => whnf)) | (apply bIf.yes; (first | assumption | rfl); (conv => whnf)) | (apply bIf.no; (first | assumption | rfl); (conv => whnf)) | ((with_reducible refine Ob.load (by with_unfolding_all assumption) ?_); (conv => whnf)) | (apply Grows.mk; (first | exact Grow.refl _ | assumption); (conv => whnf)))))
    exact ⟨⟨cv, ov', h3⟩, f2.trans f3⟩
  · (try (conv => whnf)); (repeat ((fail_if_success (with_reducible refine And.intro ?_ ?_)); (fail_if_success (with_reducible refine Exists.intro ?_ ?_)); (first | (apply Ob.of; (first | with_reducible assumption | with_reducible exact ex20 _ _ | with_reducible exact ex21 _ _ | with_reducible exact ex30 _ _ _ | with_reducible exact ex31 _ _ _ | with_reducible exact ex32 _ _ _ | rfl | (exact ald rfl rfl (by assumption) rfl) | (exact ald_agg rfl rfl rfl (by assumption) rfl)); (conv => whnf)) | (apply bIf.yes; (first | assumption | rfl); (conv => whnf)) | (apply bIf.no; (first | assumption | rfl); (conv => whnf)) | ((with_reducible refine Ob.load (by with_unfolding_all assumption) ?_); (conv => whnf)) | (apply Grows.mk; (first | exact Grow.refl _ | assumption); (conv => whnf)))))
    apply SW.drawH [(0, [], [157, 158, 159, 160], false), (1, [], [156, 159, 160], false), (2, [(157, 1)], [156, 157, 159, 160], false), (3, [], [156, 157, 158], false), (4, [(159, 3)], [156, 157, 158, 159], true), (5, [(156, 0), (157, 1), (158, 2), (159, 3), (160, 4)], [156, 157, 158, 159, 160], true)]
      [(156, 0), (157, 1), (158, 2), (159, 3), (160, 4), (161, 5)] [4]
      [(0, _), (3, _), (4, _), (5, _)] rfl (by kernel_rfl)
    case hF => exact ⟨rfl, rfl, rfl, rfl, trivial⟩
    (try (conv => whnf)); (repeat ((fail_if_success (with_reducible refine And.intro ?_ ?_)); (fail_if_success (with_reducible refine Exists.intro ?_ ?_)); (first | (apply Ob.of; (first | with_reducible assumption | with_reducible exact ex20 _ _ | with_reducible exact ex21 _ _ | with_reducible exact ex30 _ _ _ | with_reducible exact ex31 _ _ _ | with_reducible exact ex32 _ _ _ | rfl | (exact ald rfl rfl (by assumption) rfl) | (exact ald_agg rfl rfl rfl (by assumption) rfl)); (conv => whnf)) | (apply bIf.yes; (first | assumption | rfl); (conv => whnf)) | (apply bIf.no; (first | assumption | rfl); (conv => whnf)) | ((with_reducible refine Ob.load (by with_unfolding_all assumption) ?_); (conv => whnf)) | (apply Grows.mk; (first | exact Grow.refl _ | assumption); (conv => whnf)))))
    refine (stack_ax h2 _).mono ?_
    rintro _ X ⟨rfl, e⟩
    subst X
    rw [w1]
    (try (conv => whnf)); (repeat ((fail_if_success (with_reducible refine And.intro ?_ ?_)); (fail_if_success (with_reducible refine Exists.intro ?_ ?_)); (first | (apply Ob.of; (first | with_reducible assumption | with_reducible exact ex20 _ _ | with_reducible exact ex21 _ _ | with_reducible exact ex30 _ _ _ | with_reducible exact ex31 _ _ _ | with_reducible exact ex32 _ _ _ | rfl | (exact ald rfl rfl (by assumption) rfl) | (exact ald_agg rfl rfl rfl (by assumption) rfl)); (conv => whnf)) | (apply bIf.yes; (first | assumption | rfl); (conv => whnf)) | (apply bIf.no; (first | assumption | rfl); (conv => whnf)) | ((with_reducible refine Ob.load (by with_unfolding_all assumption) ?_); (conv => whnf)) | (apply Grows.mk; (first | exact Grow.refl _ | assumption); (conv => whnf)))))
    refine (put_ax h2 hd hc _ _ _ _ _ (noRegs pb H2) hops hpb2 hn2).mono ?_
    rintro _ H3 ⟨⟨ov', h3⟩, f3⟩
    (try (conv => whnf)); (repeat ((fail_if_success (with_reducible refine And.intro ?_ ?_)); (fail_if_success (with_reducible refine Exists.intro ?_ ?_)); (first | (apply Ob.of; (first | with_reducible assumption | with_reducible exact ex20 _ _ | with_reducible exact ex21 _ _ | with_reducible exact ex30 _ _ _ | with_reducible exact ex31 _ _ _ | with_reducible exact ex32 _ _ _ | rfl | (exact ald rfl rfl (by assumption) rfl) | (exact ald_agg rfl rfl rfl (by assumption) rfl)); (conv => whnf)) | (apply bIf.yes; (first | assumption | rfl); (conv => whnf)) | (apply bIf.no; (first | assumption | rfl); (conv => whnf)) | ((with_reducible refine Ob.load (by with_unfolding_all assumption) ?_); (conv => whnf)) | (apply Grows.mk; (first | exact Grow.refl _ | assumption); (conv => whnf)))))
    exact ⟨⟨cv, ov', h3⟩, f2.trans f3⟩
  · (try (conv => whnf)); (repeat ((fail_if_success (with_reducible refine And.intro ?_ ?_)); (fail_if_success (with_reducible refine Exists.intro ?_ ?_)); (first | (apply Ob.of; (first | with_reducible assumption | with_reducible exact ex20 _ _ | with_reducible exact ex21 _ _ | with_reducible exact ex30 _ _ _ | with_reducible exact ex31 _ _ _ | with_reducible exact ex32 _ _ _ | rfl | (exact ald rfl rfl (by assumption) rfl) | (exact ald_agg rfl rfl rfl (by assumption) rfl)); (conv => whnf)) | (apply bIf.yes; (first | assumption | rfl); (conv => whnf)) | (apply bIf.no; (first | assumption | rfl); (conv => whnf)) | ((with_reducible refine Ob.load (by with_unfolding_all assumption) ?_); (conv => whnf)) | (apply Grows.mk; (first | exact Grow.refl _ | assumption); (conv => whnf)))))
    apply SW.drawH [(0, [], [165, 166, 167, 168], false), (1, [], [164, 167, 168], false), (2, [(165, 1)], [164, 165, 167, 168], false), (3, [], [164, 165, 166], false), (4, [(167, 3)], [164, 165, 166, 167], true), (5, [(164, 0), (165, 1), (166, 2), (167, 3), (168, 4)], [164, 165, 166, 167, 168], true)]
      [(164, 0), (165, 1), (166, 2), (167, 3), (168, 4), (169, 5)] [4]
      [(0, _), (3, _), (4, _), (5, _)] rfl (by kernel_rfl)
    case hF => exact ⟨rfl, rfl, rfl, rfl, trivial⟩
    (try (conv => whnf)); (repeat ((fail_if_success (with_reducible refine And.intro ?_ ?_)); (fail_if_success (with_reducible refine Exists.intro ?_ ?_)); (first | (apply Ob.of; (first | with_reducible assumption | with_reducible exact ex20 _ _ | with_reducible exact ex21 _ _ | with_reducible exact ex30 _ _ _ | with_reducible exact ex31 _ _ _ | with_reducible exact ex32 _ _ _ | rfl | (exact ald rfl rfl (by assumption) rfl) | (exact ald_agg rfl rfl rfl (by assumption) rfl)); (conv => whnf)) | (apply bIf.yes; (first | assumption | rfl); (conv => whnf)) | (apply bIf.no; (first | assumption | rfl); (conv => whnf)) | ((with_reducible refine Ob.load (by with_unfolding_all assumption) ?_); (conv => whnf)) | (apply Grows.mk; (first | exact Grow.refl _ | assumption); (conv => whnf)))))
    refine (stack_ax h2 _).mono ?_
    rintro _ X ⟨rfl, e⟩
    subst X
    rw [w1]
    (try (conv => whnf)); (repeat ((fail_if_success (with_reducible refine And.intro ?_ ?_)); (fail_if_success (with_reducible refine Exists.intro ?_ ?_)); (first | (apply Ob.of; (first | with_reducible assumption | with_reducible exact ex20 _ _ | with_reducible exact ex21 _ _ | with_reducible exact ex30 _ _ _ | with_reducible exact ex31 _ _ _ | with_reducible exact ex32 _ _ _ | rfl | (exact ald rfl rfl (by assumption) rfl) | (exact ald_agg rfl rfl rfl (by assumption) rfl)); (conv => whnf)) | (apply bIf.yes; (first | assumption | rfl); (conv => whnf)) | (apply bIf.no; (first | assumption | rfl); (conv => whnf)) | ((with_reducible refine Ob.load (by with_unfolding_all assumption) ?_); (conv => whnf)) | (apply Grows.mk; (first | exact Grow.refl _ | assumption); (conv => whnf)))))
    refine (put_ax h2 hd hc _ _ _ _ _ (noRegs pb H2) hops hpb2 hn2).mono ?_
    rintro _ H3 ⟨⟨ov', h3⟩, f3⟩
    (try (conv => whnf)); (repeat ((fail_if_success (with_reducible refine And.intro ?_ ?_)); (fail_if_success (with_reducible refine Exists.intro ?_ ?_)); (first | (apply Ob.of; (first | with_reducible assumption | with_reducible exact ex20 _ _ | with_reducible exact ex21 _ _ | with_reducible exact ex30 _ _ _ | with_reducible exact ex31 _ _ _ | with_reducible exact ex32 _ _ _ | rfl | (exact ald rfl rfl (by assumption) rfl) | (exact ald_agg rfl rfl rfl (by assumption) rfl)); (conv => whnf)) | (apply bIf.yes; (first | assumption | rfl); (conv => whnf)) | (apply bIf.no; (first | assumption | rfl); (conv => whnf)) | ((with_reducible refine Ob.load (by with_unfolding_all assumption) ?_); (conv => whnf)) | (apply Grows.mk; (first | exact Grow.refl _ | assumption); (conv => whnf)))))
    exact ⟨⟨cv, ov', h3⟩, f2.trans f3⟩
  · (try (conv => whnf)); (repeat ((fail_if_success (with_reducible refine And.intro ?_ ?_)); (fail_if_success (with_reducible refine Exists.intro ?_ ?_)); (first | (apply Ob.of; (first | with_reducible assumption | with_reducible exact ex20 _ _ | with_reducible exact ex21 _ _ | with_reducible exact ex30 _ _ _ | with_reducible exact ex31 _ _ _ | with_reducible exact ex32 _ _ _ | rfl | (exact ald rfl rfl (by assumption) rfl) | (exact ald_agg rfl rfl rfl (by assumption) rfl)); (conv => whnf)) | (apply bIf.yes; (first | assumption | rfl); (conv => whnf)) | (apply bIf.no; (first | assumption | rfl); (conv => whnf)) | ((with_reducible refine Ob.load (by with_unfolding_all assumption) ?_); (conv => whnf)) | (apply Grows.mk; (first | exact Grow.refl _ | assumption); (conv => whnf)))))
    refine (stack_ax h2 _).mono ?_
    rintro _ X ⟨rfl, e⟩
    subst X
    rw [wp]
    (try (conv => whnf)); (repeat ((fail_if_success (with_reducible refine And.intro ?_ ?_)); (fail_if_success (with_reducible refine Exists.intro ?_ ?_)); (first | (apply Ob.of; (first | with_reducible assumption | with_reducible exact ex20 _ _ | with_reducible exact ex21 _ _ | with_reducible exact ex30 _ _ _ | with_reducible exact ex31 _ _ _ | with_reducible exact ex32 _ _ _ | rfl | (exact ald rfl rfl (by assumption) rfl) | (exact ald_agg rfl rfl rfl (by assumption) rfl)); (conv => whnf)) | (apply bIf.yes; (first | assumption | rfl); (conv => whnf)) | (apply bIf.no; (first | assumption | rfl); (conv => whnf)) | ((with_reducible refine Ob.load (by with_unfolding_all assumption) ?_); (conv => whnf)) | (apply Grows.mk; (first | exact Grow.refl _ | assumption); (conv => whnf)))))
    refine hal.mono ?_
    rintro rv H3 ⟨⟨o3, m3⟩, g3⟩
    have h3 := h2.grow g3
    (try (conv => whnf)); (repeat ((fail_if_success (with_reducible refine And.intro ?_ ?_)); (fail_if_success (with_reducible refine Exists.intro ?_ ?_)); (first | (apply Ob.of; (first | with_reducible assumption | with_reducible exact ex20 _ _ | with_reducible exact ex21 _ _ | with_reducible exact ex30 _ _ _ | with_reducible exact ex31 _ _ _ | with_reducible exact ex32 _ _ _ | rfl | (exact ald rfl rfl (by assumption) rfl) | (exact ald_agg rfl rfl rfl (by assumption) rfl)); (conv => whnf)) | (apply bIf.yes; (first | assumption | rfl); (conv => whnf)) | (apply bIf.no; (first | assumption | rfl); (conv => whnf)) | ((with_reducible refine Ob.load (by with_unfolding_all assumption) ?_); (conv => whnf)) | (apply Grows.mk; (first | exact Grow.refl _ | assumption); (conv => whnf)))))
    refine (put_ax h3 hd hc _ _ _ _ _ (rv := rv) (regs := took (K.c.2.1 + d) (eff 26 a).1) ⟨o3, fun b hb => by have := m3 b hb; omega⟩ hops (by have := g3.1; omega) (by have := g3.1; omega)).mono ?_
    rintro _ H4 ⟨⟨ov', h4⟩, f4⟩
    (try (conv => whnf)); (repeat ((fail_if_success (with_reducible refine And.intro ?_ ?_)); (fail_if_success (with_reducible refine Exists.intro ?_ ?_)); (first | (apply Ob.of; (first | with_reducible assumption | with_reducible exact ex20 _ _ | with_reducible exact ex21 _ _ | with_reducible exact ex30 _ _ _ | with_reducible exact ex31 _ _ _ | with_reducible exact ex32 _ _ _ | rfl | (exact ald rfl rfl (by assumption) rfl) | (exact ald_agg rfl rfl rfl (by assumption) rfl)); (conv => whnf)) | (apply bIf.yes; (first | assumption | rfl); (conv => whnf)) | (apply bIf.no; (first | assumption | rfl); (conv => whnf)) | ((with_reducible refine Ob.load (by with_unfolding_all assumption) ?_); (conv => whnf)) | (apply Grows.mk; (first | exact Grow.refl _ | assumption); (conv => whnf)))))
    exact ⟨⟨cv, ov', h4⟩, (f2.trans (.of g3)).trans f4⟩
  · (try (conv => whnf)); (repeat ((fail_if_success (with_reducible refine And.intro ?_ ?_)); (fail_if_success (with_reducible refine Exists.intro ?_ ?_)); (first | (apply Ob.of; (first | with_reducible assumption | with_reducible exact ex20 _ _ | with_reducible exact ex21 _ _ | with_reducible exact ex30 _ _ _ | with_reducible exact ex31 _ _ _ | with_reducible exact ex32 _ _ _ | rfl | (exact ald rfl rfl (by assumption) rfl) | (exact ald_agg rfl rfl rfl (by assumption) rfl)); (conv => whnf)) | (apply bIf.yes; (first | assumption | rfl); (conv => whnf)) | (apply bIf.no; (first | assumption | rfl); (conv => whnf)) | ((with_reducible refine Ob.load (by with_unfolding_all assumption) ?_); (conv => whnf)) | (apply Grows.mk; (first | exact Grow.refl _ | assumption); (conv => whnf)))))
    refine (stack_ax h2 _).mono ?_
    rintro _ X ⟨rfl, e⟩
    subst X
    rw [wp]
    (try (conv => whnf)); (repeat ((fail_if_success (with_reducible refine And.intro ?_ ?_)); (fail_if_success (with_reducible refine Exists.intro ?_ ?_)); (first | (apply Ob.of; (first | with_reducible assumption | with_reducible exact ex20 _ _ | with_reducible exact ex21 _ _ | with_reducible exact ex30 _ _ _ | with_reducible exact ex31 _ _ _ | with_reducible exact ex32 _ _ _ | rfl | (exact ald rfl rfl (by assumption) rfl) | (exact ald_agg rfl rfl rfl (by assumption) rfl)); (conv => whnf)) | (apply bIf.yes; (first | assumption | rfl); (conv => whnf)) | (apply bIf.no; (first | assumption | rfl); (conv => whnf)) | ((with_reducible refine Ob.load (by with_unfolding_all assumption) ?_); (conv => whnf)) | (apply Grows.mk; (first | exact Grow.refl _ | assumption); (conv => whnf)))))
    refine hal.mono ?_
    rintro rv H3 ⟨⟨o3, m3⟩, g3⟩
    have h3 := h2.grow g3
    (try (conv => whnf)); (repeat ((fail_if_success (with_reducible refine And.intro ?_ ?_)); (fail_if_success (with_reducible refine Exists.intro ?_ ?_)); (first | (apply Ob.of; (first | with_reducible assumption | with_reducible exact ex20 _ _ | with_reducible exact ex21 _ _ | with_reducible exact ex30 _ _ _ | with_reducible exact ex31 _ _ _ | with_reducible exact ex32 _ _ _ | rfl | (exact ald rfl rfl (by assumption) rfl) | (exact ald_agg rfl rfl rfl (by assumption) rfl)); (conv => whnf)) | (apply bIf.yes; (first | assumption | rfl); (conv => whnf)) | (apply bIf.no; (first | assumption | rfl); (conv => whnf)) | ((with_reducible refine Ob.load (by with_unfolding_all assumption) ?_); (conv => whnf)) | (apply Grows.mk; (first | exact Grow.refl _ | assumption); (conv => whnf)))))
    refine (put_ax h3 hd hc _ _ _ _ _ (rv := rv) (regs := took (K.c.2.1 + d) (eff 28 a).1) ⟨o3, fun b hb => by have := m3 b hb; omega⟩ hops (by have := g3.1; omega) (by have := g3.1; omega)).mono ?_
    rintro _ H4 ⟨⟨ov', h4⟩, f4⟩
    (try (conv => whnf)); (repeat ((fail_if_success (with_reducible refine And.intro ?_ ?_)); (fail_if_success (with_reducible refine Exists.intro ?_ ?_)); (first | (apply Ob.of; (first | with_reducible assumption | with_reducible exact ex20 _ _ | with_reducible exact ex21 _ _ | with_reducible exact ex30 _ _ _ | with_reducible exact ex31 _ _ _ | with_reducible exact ex32 _ _ _ | rfl | (exact ald rfl rfl (by assumption) rfl) | (exact ald_agg rfl rfl rfl (by assumption) rfl)); (conv => whnf)) | (apply bIf.yes; (first | assumption | rfl); (conv => whnf)) | (apply bIf.no; (first | assumption | rfl); (conv => whnf)) | ((with_reducible refine Ob.load (by with_unfolding_all assumption) ?_); (conv => whnf)) | (apply Grows.mk; (first | exact Grow.refl _ | assumption); (conv => whnf)))))
    exact ⟨⟨cv, ov', h4⟩, (f2.trans (.of g3)).trans f4⟩
  · (try (conv => whnf)); (repeat ((fail_if_success (with_reducible refine And.intro ?_ ?_)); (fail_if_success (with_reducible refine Exists.intro ?_ ?_)); (first | (apply Ob.of; (first | with_reducible assumption | with_reducible exact ex20 _ _ | with_reducible exact ex21 _ _ | with_reducible exact ex30 _ _ _ | with_reducible exact ex31 _ _ _ | with_reducible exact ex32 _ _ _ | rfl | (exact ald rfl rfl (by assumption) rfl) | (exact ald_agg rfl rfl rfl (by assumption) rfl)); (conv => whnf)) | (apply bIf.yes; (first | assumption | rfl); (conv => whnf)) | (apply bIf.no; (first | assumption | rfl); (conv => whnf)) | ((with_reducible refine Ob.load (by with_unfolding_all assumption) ?_); (conv => whnf)) | (apply Grows.mk; (first | exact Grow.refl _ | assumption); (conv => whnf)))))
    apply SW.drawH [(0, [], [195, 196, 197, 198, 199, 200, 201, 202, 203], false), (1, [], [194, 196, 198, 199, 200, 201, 202], false), (2, [], [194, 195, 198, 199, 200, 201, 202], false), (4, [], [194, 195, 196, 197, 200, 201, 202, 203], false), (5, [(198, 4)], [194, 195, 196, 197, 198, 200, 201, 202, 203], false), (6, [], [194, 195, 196, 197, 198, 199, 201, 202], false), (7, [], [194, 195, 196, 197, 198, 199, 200, 202], false), (8, [], [194, 195, 196, 197, 198, 199, 200, 201], false), (3, [(195, 1), (196, 2)], [194, 195, 196, 198, 199, 200, 201, 202], true), (9, [(195, 1), (196, 2), (197, 3), (200, 6), (201, 7), (202, 8)], [194, 195, 196, 197, 198, 199, 200, 201, 202], true), (10, [(194, 0), (195, 1), (196, 2), (197, 3), (198, 4), (199, 5), (200, 6), (201, 7), (202, 8), (203, 9)], [194, 195, 196, 197, 198, 199, 200, 201, 202, 203], true)]
      [(194, 0), (195, 1), (196, 2), (197, 3), (198, 4), (199, 5), (200, 6), (201, 7), (202, 8), (203, 9), (204, 10)] [3, 9]
      [(0, _), (3, _), (4, _), (5, _)] rfl (by kernel_rfl)
    case hF => exact ⟨rfl, rfl, rfl, rfl, trivial⟩
    (try (conv => whnf)); (repeat ((fail_if_success (with_reducible refine And.intro ?_ ?_)); (fail_if_success (with_reducible refine Exists.intro ?_ ?_)); (first | (apply Ob.of; (first | with_reducible assumption | with_reducible exact ex20 _ _ | with_reducible exact ex21 _ _ | with_reducible exact ex30 _ _ _ | with_reducible exact ex31 _ _ _ | with_reducible exact ex32 _ _ _ | rfl | (exact ald rfl rfl (by assumption) rfl) | (exact ald_agg rfl rfl rfl (by assumption) rfl)); (conv => whnf)) | (apply bIf.yes; (first | assumption | rfl); (conv => whnf)) | (apply bIf.no; (first | assumption | rfl); (conv => whnf)) | ((with_reducible refine Ob.load (by with_unfolding_all assumption) ?_); (conv => whnf)) | (apply Grows.mk; (first | exact Grow.refl _ | assumption); (conv => whnf)))))
    refine (stack_ax h2 _).mono ?_
    rintro _ X ⟨rfl, e⟩
    subst X
    rw [wp]
    (try (conv => whnf)); (repeat ((fail_if_success (with_reducible refine And.intro ?_ ?_)); (fail_if_success (with_reducible refine Exists.intro ?_ ?_)); (first | (apply Ob.of; (first | with_reducible assumption | with_reducible exact ex20 _ _ | with_reducible exact ex21 _ _ | with_reducible exact ex30 _ _ _ | with_reducible exact ex31 _ _ _ | with_reducible exact ex32 _ _ _ | rfl | (exact ald rfl rfl (by assumption) rfl) | (exact ald_agg rfl rfl rfl (by assumption) rfl)); (conv => whnf)) | (apply bIf.yes; (first | assumption | rfl); (conv => whnf)) | (apply bIf.no; (first | assumption | rfl); (conv => whnf)) | ((with_reducible refine Ob.load (by with_unfolding_all assumption) ?_); (conv => whnf)) | (apply Grows.mk; (first | exact Grow.refl _ | assumption); (conv => whnf)))))
    refine hal.mono ?_
    rintro rv H3 ⟨⟨o3, m3⟩, g3⟩
    have h3 := h2.grow g3
    (try (conv => whnf)); (repeat ((fail_if_success (with_reducible refine And.intro ?_ ?_)); (fail_if_success (with_reducible refine Exists.intro ?_ ?_)); (first | (apply Ob.of; (first | with_reducible assumption | with_reducible exact ex20 _ _ | with_reducible exact ex21 _ _ | with_reducible exact ex30 _ _ _ | with_reducible exact ex31 _ _ _ | with_reducible exact ex32 _ _ _ | rfl | (exact ald rfl rfl (by assumption) rfl) | (exact ald_agg rfl rfl rfl (by assumption) rfl)); (conv => whnf)) | (apply bIf.yes; (first | assumption | rfl); (conv => whnf)) | (apply bIf.no; (first | assumption | rfl); (conv => whnf)) | ((with_reducible refine Ob.load (by with_unfolding_all assumption) ?_); (conv => whnf)) | (apply Grows.mk; (first | exact Grow.refl _ | assumption); (conv => whnf)))))
    refine (put_ax h3 hd hc _ _ _ _ _ (rv := rv) (regs := took (K.c.2.1 + d) (eff 29 a).1) ⟨o3, fun b hb => by have := m3 b hb; omega⟩ hops (by have := g3.1; omega) (by have := g3.1; omega)).mono ?_
    rintro _ H4 ⟨⟨ov', h4⟩, f4⟩
    (try (conv => whnf)); (repeat ((fail_if_success (with_reducible refine And.intro ?_ ?_)); (fail_if_success (with_reducible refine Exists.intro ?_ ?_)); (first | (apply Ob.of; (first | with_reducible assumption | with_reducible exact ex20 _ _ | with_reducible exact ex21 _ _ | with_reducible exact ex30 _ _ _ | with_reducible exact ex31 _ _ _ | with_reducible exact ex32 _ _ _ | rfl | (exact ald rfl rfl (by assumption) rfl) | (exact ald_agg rfl rfl rfl (by assumption) rfl)); (conv => whnf)) | (apply bIf.yes; (first | assumption | rfl); (conv => whnf)) | (apply bIf.no; (first | assumption | rfl); (conv => whnf)) | ((with_reducible refine Ob.load (by with_unfolding_all assumption) ?_); (conv => whnf)) | (apply Grows.mk; (first | exact Grow.refl _ | assumption); (conv => whnf)))))
    exact ⟨⟨cv, ov', h4⟩, (f2.trans (.of g3)).trans f4⟩
  · (try (conv => whnf)); (repeat ((fail_if_success (with_reducible refine And.intro ?_ ?_)); (fail_if_success (with_reducible refine Exists.intro ?_ ?_)); (first | (apply Ob.of; (first | with_reducible assumption | with_reducible exact ex20 _ _ | with_reducible exact ex21 _ _ | with_reducible exact ex30 _ _ _ | with_reducible exact ex31 _ _ _ | with_reducible exact ex32 _ _ _ | rfl | (exact ald rfl rfl (by assumption) rfl) | (exact ald_agg rfl rfl rfl (by assumption) rfl)); (conv => whnf)) | (apply bIf.yes; (first | assumption | rfl); (conv => whnf)) | (apply bIf.no; (first | assumption | rfl); (conv => whnf)) | ((with_reducible refine Ob.load (by with_unfolding_all assumption) ?_); (conv => whnf)) | (apply Grows.mk; (first | exact Grow.refl _ | assumption); (conv => whnf)))))
    refine (stack_ax h2 _).mono ?_
    rintro _ X ⟨rfl, e⟩
    subst X
    rw [w1]
    (try (conv => whnf)); (repeat ((fail_if_success (with_reducible refine And.intro ?_ ?_)); (fail_if_success (with_reducible refine Exists.intro ?_ ?_)); (first | (apply Ob.of; (first | with_reducible assumption | with_reducible exact ex20 _ _ | with_reducible exact ex21 _ _ | with_reducible exact ex30 _ _ _ | with_reducible exact ex31 _ _ _ | with_reducible exact ex32 _ _ _ | rfl | (exact ald rfl rfl (by assumption) rfl) | (exact ald_agg rfl rfl rfl (by assumption) rfl)); (conv => whnf)) | (apply bIf.yes; (first | assumption | rfl); (conv => whnf)) | (apply bIf.no; (first | assumption | rfl); (conv => whnf)) | ((with_reducible refine Ob.load (by with_unfolding_all assumption) ?_); (conv => whnf)) | (apply Grows.mk; (first | exact Grow.refl _ | assumption); (conv => whnf)))))
    refine (put_ax h2 hd hc _ _ _ _ _ (noRegs pb H2) hops hpb2 hn2).mono ?_
    rintro _ H3 ⟨⟨ov', h3⟩, f3⟩
    (try (conv => whnf)); (repeat ((fail_if_success (with_reducible refine And.intro ?_ ?_)); (fail_if_success (with_reducible refine Exists.intro ?_ ?_)); (first | (apply Ob.of; (first | with_reducible assumption | with_reducible exact ex20 _ _ | with_reducible exact ex21 _ _ | with_reducible exact ex30 _ _ _ | with_reducible exact ex31 _ _ _ | with_reducible exact ex32 _ _ _ | rfl | (exact ald rfl rfl (by assumption) rfl) | (exact ald_agg rfl rfl rfl (by assumption) rfl)); (conv => whnf)) | (apply bIf.yes; (first | assumption | rfl); (conv => whnf)) | (apply bIf.no; (first | assumption | rfl); (conv => whnf)) | ((with_reducible refine Ob.load (by with_unfolding_all assumption) ?_); (conv => whnf)) | (apply Grows.mk; (first | exact Grow.refl _ | assumption); (conv => whnf)))))
    exact ⟨⟨cv, ov', h3⟩, f2.trans f3⟩
  · (try (conv => whnf)); (repeat ((fail_if_success (with_reducible refine And.intro ?_ ?_)); (fail_if_success (with_reducible refine Exists.intro ?_ ?_)); (first | (apply Ob.of; (first | with_reducible assumption | with_reducible exact ex20 _ _ | with_reducible exact ex21 _ _ | with_reducible exact ex30 _ _ _ | with_reducible exact ex31 _ _ _ | with_reducible exact ex32 _ _ _ | rfl | (exact ald rfl rfl (by assumption) rfl) | (exact ald_agg rfl rfl rfl (by assumption) rfl)); (conv => whnf)) | (apply bIf.yes; (first | assumption | rfl); (conv => whnf)) | (apply bIf.no; (first | assumption | rfl); (conv => whnf)) | ((with_reducible refine Ob.load (by with_unfolding_all assumption) ?_); (conv => whnf)) | (apply Grows.mk; (first | exact Grow.refl _ | assumption); (conv => whnf)))))
    refine (stack_ax h2 _).mono ?_
    rintro _ X ⟨rfl, e⟩
    subst X
    rw [w1]
    (try (conv => whnf)); (repeat ((fail_if_success (with_reducible refine And.intro ?_ ?_)); (fail_if_success (with_reducible refine Exists.intro ?_ ?_)); (first | (apply Ob.of; (first | with_reducible assumption | with_reducible exact ex20 _ _ | with_reducible exact ex21 _ _ | with_reducible exact ex30 _ _ _ | with_reducible exact ex31 _ _ _ | with_reducible exact ex32 _ _ _ | rfl | (exact ald rfl rfl (by assumption) rfl) | (exact ald_agg rfl rfl rfl (by assumption) rfl)); (conv => whnf)) | (apply bIf.yes; (first | assumption | rfl); (conv => whnf)) | (apply bIf.no; (first | assumption | rfl); (conv => whnf)) | ((with_reducible refine Ob.load (by with_unfolding_all assumption) ?_); (conv => whnf)) | (apply Grows.mk; (first | exact Grow.refl _ | assumption); (conv => whnf)))))
    refine (put_ax h2 hd hc _ _ _ _ _ (noRegs pb H2) hops hpb2 hn2).mono ?_
    rintro _ H3 ⟨⟨ov', h3⟩, f3⟩
    (try (conv => whnf)); (repeat ((fail_if_success (with_reducible refine And.intro ?_ ?_)); (fail_if_success (with_reducible refine Exists.intro ?_ ?_)); (first | (apply Ob.of; (first | with_reducible assumption | with_reducible exact ex20 _ _ | with_reducible exact ex21 _ _ | with_reducible exact ex30 _ _ _ | with_reducible exact ex31 _ _ _ | with_reducible exact ex32 _ _ _ | rfl | (exact ald rfl rfl (by assumption) rfl) | (exact ald_agg rfl rfl rfl (by assumption) rfl)); (conv => whnf)) | (apply bIf.yes; (first | assumption | rfl); (conv => whnf)) | (apply bIf.no; (first | assumption | rfl); (conv => whnf)) | ((with_reducible refine Ob.load (by with_unfolding_all assumption) ?_); (conv => whnf)) | (apply Grows.mk; (first | exact Grow.refl _ | assumption); (conv => whnf)))))
    exact ⟨⟨cv, ov', h3⟩, f2.trans f3⟩
  · (try (conv => whnf)); (repeat ((fail_if_success (with_reducible refine And.intro ?_ ?_)); (fail_if_success (with_reducible refine Exists.intro ?_ ?_)); (first | (apply Ob.of; (first | with_reducible assumption | with_reducible exact ex20 _ _ | with_reducible exact ex21 _ _ | with_reducible exact ex30 _ _ _ | with_reducible exact ex31 _ _ _ | with_reducible exact ex32 _ _ _ | rfl | (exact ald rfl rfl (by assumption) rfl) | (exact ald_agg rfl rfl rfl (by assumption) rfl)); (conv => whnf)) | (apply bIf.yes; (first | assumption | rfl); (conv => whnf)) | (apply bIf.no; (first | assumption | rfl); (conv => whnf)) | ((with_reducible refine Ob.load (by with_unfolding_all assumption) ?_); (conv => whnf)) | (apply Grows.mk; (first | exact Grow.refl _ | assumption); (conv => whnf)))))
    exact ⟨⟨cv, ov, h2⟩, f2⟩
end Go.Proofs.Ytdlanbfbbopfhaa
/- Package lift: rows of numbers, depths that are one's own, and what is known of the operations. -/
set_option linter.unusedVariables false
set_option linter.unusedSimpArgs false
set_option maxRecDepth 20000
set_option maxHeartbeats 4000000
namespace Go.Proofs.Ytdlanbfbbopfhaa
open Go Ax
theorem OwnR.toI {H : Heap} {v : Value} {L : List Int} (h : OwnR 1 3 intR H v L) : (v = .slice none 0 0 ∧ L = []) ∨ ∃ q, v = rowV q L.length ∧ OwnI H q L := by
  rcases h with h | ⟨b, c, h1, h2, h3, h4⟩
  · exact .inl h
  · refine .inr ⟨b, h1, ?_⟩
    unfold OwnI
    rw [h2]
    congr 2
    apply List.ext_getElem?
    intro i
    by_cases hi : i < L.length
    · obtain ⟨x, hx⟩ := get_lt hi
      obtain ⟨l, k1, k2⟩ := h4 i x hx
      have hl : l = [.int .i64 x] := k2
      subst hl
      have := slots_get (j := 0) k1 rfl
      rw [Nat.mul_one, Nat.add_zero] at this
      rw [this]; simp [hx]
    · rw [List.getElem?_eq_none (by omega), List.getElem?_eq_none (by simp; omega)]
theorem OwnR.ofI {H : Heap} {q : Nat} {L : List Int} (h : OwnI H q L) : OwnR 1 3 intR H (rowV q L.length) L := by
  refine .inr ⟨q, _, rfl, h, by simp, fun i x hx => ⟨[.int .i64 x], ?_, rfl⟩⟩
  have hl := lt_of_get hx
  rw [slots_of (by simp; omega)]
  congr 1
  apply List.ext_getElem?
  intro j
  rw [List.getElem?_take, List.getElem?_drop]
  cases j with
  | zero => simp [hx]
  | succ j => simp
theorem blkIs_row {q n b : Nat} : blkIs (rowV q n) b ↔ b = q := by
  constructor
  · rintro ⟨m, k, h⟩
    simp only [rowV, Value.slice.injEq, Option.some.injEq, Addr.mk.injEq, and_true] at h
    omega
  · rintro rfl; exact ⟨_, _, rfl⟩
theorem IntRow.lt {av : Nat} {H : Heap} {v : Value} {L : List Int} (h : IntRow av H v L) {b : Nat} (hb : blkIs v b) : b < H.length := by
  rcases h.1 with ⟨rfl, _⟩ | ⟨q, c, rfl, h2, _⟩
  · obtain ⟨n, k, hb⟩ := hb; simp at hb
  · obtain ⟨n, k, hb⟩ := hb
    simp only [Value.slice.injEq, Option.some.injEq, Addr.mk.injEq, and_true] at hb
    rw [← hb.1]; exact lt_at h2
/-- Another row is the one that changes: a new one. -/
theorem opR.fresh {av av' : Nat} {A B : Heap} {l : List Value} {o : OpT} (h : opR av A l o) (hk : ∀ q c, A[q]? = some (.cells (.row 3) c) → q ≠ av → B[q]? = some (.cells (.row 3) c)) (hav : A.length ≤ av') : opR av' B l o := by
  obtain ⟨rv, mv, h1, h2, h3⟩ := h
  have k2 := h2.keep hk
  have k3 := h3.keep hk
  exact ⟨rv, mv, h1, ⟨k2.1, fun b hb => by have := h2.lt hb; omega⟩, ⟨k3.1, fun b hb => by have := h3.lt hb; omega⟩⟩
theorem DepthsOwn_ax {H : Heap} {p : ProgT} {ps cs : Value} (hp : RL 1 strR H ps p.2.1) (hcs : RL 5 codeR H cs p.2.2) (hL : p.2.1.length < 4294967296) {f : Nat} {c : CodeT} (hc : p.2.2[f]? = some c) (hck : CheckP p) :
    AX Try.prog 33 #[progV p ps cs, .int .i64 (f : Int)] H (fun v H' => (∃ L q, Closed c L ∧ v = rowV q L.length ∧ OwnI H' q L) ∧ Grow H H') := by
  have hfl := lt_of_get hc
  refine AX.body (n := 31) (rs := [.tmp 4]) Try.func33 rfl (by decide) rfl rfl (bC_sound _ _ _ _ ?_)
  (conv => whnf)
  refine Ob2.box rfl fun q1 H1 hq1 a1 g1 => ?_
  have b1 := hblk_of a1
  have l2 : alen Try.prog 23 cs H1 = some (.int .i64 p.2.2.length) := hcs.len rfl _
  have d0 : decide ((f : Int) < 0) = false := decide_eq_false (by omega)
  have d1 : decide ((f : Int) ≥ (p.2.2.length : Int)) = false := decide_eq_false (by omega)
  (try (conv => whnf)); (repeat ((fail_if_success (with_reducible refine And.intro ?_ ?_)); (fail_if_success (with_reducible refine Exists.intro ?_ ?_)); (first | (apply Ob.of; (first | with_reducible assumption | with_reducible exact ex20 _ _ | with_reducible exact ex21 _ _ | with_reducible exact ex30 _ _ _ | with_reducible exact ex31 _ _ _ | with_reducible exact ex32 _ _ _ | rfl | (exact ald rfl rfl (by assumption) rfl) | (exact ald_agg rfl rfl rfl (by assumption) rfl)); (conv => whnf)) | (apply bIf.yes; (first | assumption | rfl); (conv => whnf)) | (apply bIf.no; (first | assumption | rfl); (conv => whnf)) | ((with_reducible refine Ob.load (by with_unfolding_all assumption) ?_); (conv => whnf)) | (apply Grows.mk; (first | exact Grow.refl _ | assumption); (conv => whnf)))))
  refine (check_ax (strR.grow hp g1) (codeR.grow hcs g1) hL).mono ?_
  rintro v X ⟨hv, e⟩
  subst X
  rcases hv with ⟨rfl, hv⟩ | ⟨_, hv⟩
  rotate_left
  · exact absurd hck hv
  have hr := hck.2.2.2.2.2.2 f c hc
  obtain ⟨q, sv, i1, hs, i2⟩ := ld_code hcs hc
  have i3 := i2 H1 g1
  (try (conv => whnf)); (repeat ((fail_if_success (with_reducible refine And.intro ?_ ?_)); (fail_if_success (with_reducible refine Exists.intro ?_ ?_)); (first | (apply Ob.of; (first | with_reducible assumption | with_reducible exact ex20 _ _ | with_reducible exact ex21 _ _ | with_reducible exact ex30 _ _ _ | with_reducible exact ex31 _ _ _ | with_reducible exact ex32 _ _ _ | rfl | (exact ald rfl rfl (by assumption) rfl) | (exact ald_agg rfl rfl rfl (by assumption) rfl)); (conv => whnf)) | (apply bIf.yes; (first | assumption | rfl); (conv => whnf)) | (apply bIf.no; (first | assumption | rfl); (conv => whnf)) | ((with_reducible refine Ob.load (by with_unfolding_all assumption) ?_); (conv => whnf)) | (apply Grows.mk; (first | exact Grow.refl _ | assumption); (conv => whnf)))))
  refine (depths_ax (insR.grow hs g1) (aims_right hr)).mono ?_
  rintro v H2 ⟨r, hr2, hv2, g2⟩
  cases r with
  | none => obtain ⟨L, hL2⟩ := hr.2.2; exact absurd hr2 hL2.good
  | some L =>
    obtain ⟨q2, rfl, ho⟩ := hv2
    (try (conv => whnf)); (repeat ((fail_if_success (with_reducible refine And.intro ?_ ?_)); (fail_if_success (with_reducible refine Exists.intro ?_ ?_)); (first | (apply Ob.of; (first | with_reducible assumption | with_reducible exact ex20 _ _ | with_reducible exact ex21 _ _ | with_reducible exact ex30 _ _ _ | with_reducible exact ex31 _ _ _ | with_reducible exact ex32 _ _ _ | rfl | (exact ald rfl rfl (by assumption) rfl) | (exact ald_agg rfl rfl rfl (by assumption) rfl)); (conv => whnf)) | (apply bIf.yes; (first | assumption | rfl); (conv => whnf)) | (apply bIf.no; (first | assumption | rfl); (conv => whnf)) | ((with_reducible refine Ob.load (by with_unfolding_all assumption) ?_); (conv => whnf)) | (apply Grows.mk; (first | exact Grow.refl _ | assumption); (conv => whnf)))))
    exact ⟨⟨L, q2, hr2, rfl, ho⟩, g1.trans g2⟩
/-! What is known of the operations. -/
theorem one_jump {x : Ins} {t : Int} (h : isJump (oneL x t).kind = true) (ho : x.1 = 1 ∨ x.1 = 9 ∨ x.1 = 11 ∨ x.1 = 13 ∨ x.1 = 15 ∨ x.1 = 14 ∨ x.1 = 27 ∨ x.1 = 16 ∨ x.1 = 17 ∨ x.1 = 18 ∨ x.1 = 19 ∨ x.1 = 20 ∨ x.1 = 21 ∨ x.1 = 22 ∨ x.1 = 23 ∨ x.1 = 24 ∨ x.1 = 25 ∨ x.1 = 26 ∨ x.1 = 28 ∨ x.1 = 29 ∨ x.1 = 30 ∨ x.1 = 32 ∨ x.1 = 6 ∨ x.1 = 8 ∨ x.1 = 10 ∨ x.1 = 12) : (oneL x t).a = x.2.1 ∧ gos x.1 = true := by
  obtain ⟨op, a, b⟩ := x
  rcases ho with h1 | h1 | h1 | h1 | h1 | h1 | h1 | h1 | h1 | h1 | h1 | h1 | h1 | h1 | h1 | h1 | h1 | h1 | h1 | h1 | h1 | h1 | h1 | h1 | h1 | h1 <;> simp only at h1 <;> subst h1 <;> first | exact ⟨rfl, rfl⟩ | (exfalso; revert h; simp [oneL, isJump])
theorem run_jumps {pool : List ByteArray} {p : ProgT} {f : Int} {c : CodeT} {L : List Int} (hr : RightP p f c) : ∀ (n : Nat) (o : OpT), o ∈ (runL pool c L n).ops → isJump o.kind = true → 0 ≤ o.a ∧ o.a < c.ins.length := by
  intro n
  induction n with
  | zero => intro o ho; simp [runL] at ho
  | succ n ih =>
    intro o ho hj
    unfold runL at ho
    split at ho
    · rename_i x d hx hd
      unfold stepL at ho
      split at ho
      · exact ih o ho hj
      · unfold instrL at ho
        split at ho
        · exact ih o ho hj
        · have hi := hr.2.1 n x (lt_of_get hx) hx
          split at ho
          · rename_i v hv
            simp only [putL_, List.mem_append, List.mem_singleton] at ho
            rcases ho with ho | rfl
            · exact ih o ho hj
            · simp [isJump] at hj
          · rename_i h31 hcn
            simp only [putL_, List.mem_append, List.mem_singleton] at ho
            rcases ho with ho | rfl
            · exact ih o ho hj
            · have hops := hi.1
              have hj' : isJump (oneL x (c.2.1 + d)).kind = true := hj
              have hc2 : x.1 ≠ 2 ∧ x.1 ≠ 3 ∧ x.1 ≠ 4 ∧ x.1 ≠ 5 ∧ x.1 ≠ 7 := by
                unfold constL at hcn
                refine ⟨?_, ?_, ?_, ?_, ?_⟩ <;> (intro e; simp [e] at hcn)
              have ha := hops
              unfold argP at ha
              obtain ⟨e1, e2⟩ := one_jump hj' (by omega)
              show 0 ≤ (oneL x (c.2.1 + d)).a ∧ (oneL x (c.2.1 + d)).a < _
              rw [e1]
              exact arg_goes hops e2
    · exact ih o ho hj
theorem run_len {pool : List ByteArray} {c : CodeT} {L : List Int} : ∀ (n : Nat), n ≤ c.ins.length → n ≤ L.length → (runL pool c L n).places.length = n ∧ (runL pool c L n).ops.length ≤ n ∧ (runL pool c L n).consts.length ≤ n := by
  intro n
  induction n with
  | zero => intro _ _; exact ⟨rfl, Nat.le_refl _, Nat.le_refl _⟩
  | succ n ih =>
    intro h1 h2
    obtain ⟨i1, i2, i3⟩ := ih (by omega) (by omega)
    obtain ⟨x, hx⟩ := get_lt (L := c.ins) (m := n) (by omega)
    obtain ⟨d, hd⟩ := get_lt (L := L) (m := n) (by omega)
    unfold runL
    rw [hx, hd]
    simp only
    have key : ∀ (s s' : LS), s'.places = s.places → s'.ops.length ≤ s.ops.length + 1 → s'.consts.length ≤ s.consts.length + 1 → s.places.length = n + 1 → s.ops.length ≤ n → s.consts.length ≤ n → s'.places.length = n + 1 ∧ s'.ops.length ≤ n + 1 ∧ s'.consts.length ≤ n + 1 :=
      fun s s' e1 e2 e3 e4 e5 e6 => ⟨by rw [e1]; exact e4, by omega, by omega⟩
    unfold stepL
    split
    · exact key { runL pool c L n with places := (runL pool c L n).places ++ [-1] } _ rfl (Nat.le_succ _) (Nat.le_succ _) (by show ((runL pool c L n).places ++ [_]).length = _; simp [i1]) i2 i3
    · unfold instrL
      split
      · exact key { runL pool c L n with places := (runL pool c L n).places ++ [((runL pool c L n).ops.length : Int)] } _ rfl (Nat.le_succ _) (Nat.le_succ _) (by show ((runL pool c L n).places ++ [_]).length = _; simp [i1]) i2 i3
      · split
        · refine key { runL pool c L n with places := (runL pool c L n).places ++ [((runL pool c L n).ops.length : Int)] } _ rfl (by simp [putL_]) ?_ (by show ((runL pool c L n).places ++ [_]).length = _; simp [i1]) i2 i3
          show (addV (runL pool c L n).consts _).length ≤ _
          unfold addV
          split
          · exact Nat.le_succ _
          · simp
        · exact key { runL pool c L n with places := (runL pool c L n).places ++ [((runL pool c L n).ops.length : Int)] } _ rfl (by simp [putL_]) (Nat.le_succ _) (by show ((runL pool c L n).places ++ [_]).length = _; simp [i1]) i2 i3
end Go.Proofs.Ytdlanbfbbopfhaa
