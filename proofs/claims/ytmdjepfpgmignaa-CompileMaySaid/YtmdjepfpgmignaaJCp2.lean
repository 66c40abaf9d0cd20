/- Package compile: how a layer lies; pool.of. -/
import Derived.Test.YtmdjepfpgmignaaJTrK1
set_option linter.unusedVariables false
set_option linter.unusedSimpArgs false
set_option maxRecDepth 20000
set_option maxHeartbeats 8000000
namespace Go.Proofs.Ytmdjepfpgmignaa
open Go Ax
/-! Maps of strings' numbers. -/
def entsS (l : List ByteArray) : List (Value × Value) := l.zipIdx.map fun x => (.string x.1, .int .i64 (x.2 : Int))
theorem eqKey_S (a b : ByteArray) : eqKey Try.prog 9 (.string a) (.string b) = some (isS a b) := by
  have h : eqKey Try.prog 9 (.string a) (.string b) = some (a == b) := by kernel_rfl
  rw [h]
  congr 1
  unfold isS
  rw [Bool.eq_iff_iff, ba_eq_t, ba_eq_t]
  exact eq_comm
theorem mfind_S {v : ByteArray} : ∀ (l : List ByteArray) (o i : Nat), mfind Try.prog 9 (.string v) ((l.zipIdx o).map fun x => (Value.string x.1, Value.int .i64 (x.2 : Int))) i = some (if l.any (isS v) then some (i + l.findIdx (isS v)) else none) := by
  intro l
  induction l with
  | nil => intro o i; rfl
  | cons x l ih =>
    intro o i
    simp only [List.zipIdx_cons, List.map_cons, mfind, eqKey_S, Option.bind_some, List.any_cons, List.findIdx_cons]
    cases h : isS v x with
    | true => simp
    | false => simp [ih, show ∀ n, i + 1 + n = i + (n + 1) from fun n => by omega]
theorem akey_S {v : ByteArray} (l : List ByteArray) : akey Try.prog 9 (.string v) (entsS l) = some (if l.any (isS v) then some (idS l v) else none) := by
  simp only [akey, show plainKey Try.prog 9 (.string v) = true from rfl, if_true]
  have := mfind_S (v := v) l 0 0
  unfold entsS idS
  simpa using this
theorem mapOf_S : mapOf Try.prog 54 = some (9, 3) := rfl
theorem hmapS {H : Heap} {b : Nat} {o : Bool} {es : List (Value × Value)} (h : H[b]? = some (.map o es)) : hmap H b = some es := by simp [hmap, h]
theorem isS_t {v x : ByteArray} : isS v x = true ↔ x = v := by unfold isS; exact ba_eq_t
theorem look_S {H : Heap} {mp : Nat} {l : List ByteArray} (hm : H[mp]? = some (.map true (entsS l))) (v : ByteArray) :
    alookup Try.prog 54 (.map (some mp)) (.string v) true H = some (.tuple #[.int .i64 (if l.any (isS v) then (idS l v : Int) else 0), .bool (l.any (isS v))]) := by
  simp only [alookup, mapOf_S, Option.bind_some, mentries, hmapS hm, akey_S]
  cases h : l.any (isS v) with
  | false => rfl
  | true =>
    simp only [if_true]
    obtain ⟨x, hx, h1⟩ := List.any_eq_true.1 h
    have hlt : idS l v < l.length := List.findIdx_lt_length_of_exists ⟨x, hx, h1⟩
    have h2 : (entsS l)[idS l v]? = some (.string l[idS l v], .int .i64 (idS l v : Int)) := by
      simp [entsS, hlt]
    rw [h2]
    rfl
theorem upd_S {H : Heap} {mp : Nat} {l : List ByteArray} (hm : H[mp]? = some (.map true (entsS l))) {v : ByteArray} (hv : l.any (isS v) = false) :
    amapUpdate Try.prog 54 (.map (some mp)) (.string v) (.int .i64 (l.length : Int)) H = some (H.set mp (.map true (entsS (l ++ [v])))) := by
  simp only [amapUpdate, mapOf_S, Option.bind_some, hm, akey_S, hv]
  simp [entsS, List.zipIdx_append]
/-! The layer. -/
structure CS where
  ins : List Ins
  pool : List ByteArray
  sites : Nat
  deep : Int
  most : Int
/-- Where the layer (l), the pool (p) and its map (m) lie: between n0 and n1. -/
structure CK where
  n0 : Nat
  ni : Nat
  n1 : Nat
  l : Nat
  p : Nat
  m : Nat
  h0i : n0 ≤ ni
  hi1 : ni ≤ n1
  hl : l < n1
  hp : p < n1
  hm : m < n1
structure CR (K : CK) (H0 H : Heap) (s : CS) : Prop where
  h0 : H0.length = K.n0
  g : Grow H0 H
  lo : K.n0 ≤ K.l ∧ K.n0 ≤ K.p ∧ K.n0 ≤ K.m
  hi : K.l < K.n1 ∧ K.p < K.n1 ∧ K.m < K.n1 ∧ K.n1 ≤ H.length
  ne : K.l ≠ K.p
  mp : H[K.m]? = some (.map true (entsS s.pool))
  ex : ∃ iv lv, H[K.l]? = some (.cells .var [.pointer (some ⟨K.p, 0, none⟩), iv, .int .i64 (s.sites : Int), .int .i64 s.deep, .int .i64 s.most]) ∧ H[K.p]? = some (.cells .var [.map (some K.m), lv]) ∧
    OwnR 3 39 insR H iv s.ins ∧ (∀ b, blkIs iv b → K.ni ≤ b) ∧ OwnR 1 9 strR H lv s.pool ∧ (∀ b, blkIs lv b → K.n0 ≤ b)
  few : s.pool.length ≤ 100000 ∧ s.ins.length ≤ 100000
  num : -(10 * (s.ins.length : Int)) ≤ s.deep ∧ s.deep ≤ 10 * s.ins.length ∧ -(10 * (s.ins.length : Int)) ≤ s.most ∧ s.most ≤ 10 * s.ins.length ∧ s.sites ≤ s.ins.length
  nodup : s.pool.Nodup
/-- What a layer's work leaves as it was. -/
def FrC (K : CK) (A B : Heap) : Prop := A.length ≤ B.length ∧ ∀ q X, A[q]? = some X → q < K.n0 ∨ ((q ≠ K.l ∧ q ≠ K.p ∧ q ≠ K.m) ∧ (q < K.ni ∨ NotRow 39 X) ∧ NotRow 9 X) → B[q]? = some X
theorem FrC.refl (K : CK) (A : Heap) : FrC K A A := ⟨Nat.le_refl _, fun _ _ h _ => h⟩
theorem FrC.trans {K : CK} {A B C : Heap} (h : FrC K A B) (k : FrC K B C) : FrC K A C := ⟨Nat.le_trans h.1 k.1, fun q X hq hx => k.2 q X (h.2 q X hq hx) hx⟩
theorem FrC.of {K : CK} {A B : Heap} (h : Grow A B) : FrC K A B := ⟨h.1, fun q X hq _ => h.at hq⟩
theorem FrC.ofRI {K : CK} {A B : Heap} (h : FrR K.ni 39 A B) : FrC K A B := ⟨h.1, fun q X hq hx => h.2 q X hq (by
  rcases hx with hx | hx
  · exact .inl (by have := K.h0i; omega)
  · exact hx.2.1)⟩
theorem FrC.ofRS {K : CK} {A B : Heap} (h : FrR K.n0 9 A B) : FrC K A B := ⟨h.1, fun q X hq hx => h.2 q X hq (hx.imp id fun hx => hx.2.2)⟩
theorem FrC.ofBut {K : CK} {A B : Heap} {b : Nat} (h : But b A B) (h0 : K.n0 ≤ b ∧ (b = K.l ∨ b = K.p ∨ b = K.m)) : FrC K A B :=
  ⟨h.1, fun q X hq hx => h.at hq (by rcases hx with hx | hx <;> omega)⟩
theorem FrC.grow {K : CK} {A0 A B : Heap} (g : Grow A0 A) (h : FrC K A B) (hn : A0.length ≤ K.n0) : Grow A0 B :=
  ⟨Nat.le_trans g.1 h.1, fun q hq => by
    have h1 := g.2 q hq
    cases hx : A[q]? with
    | none => have := List.getElem?_eq_none_iff.1 hx; have := g.1; omega
    | some X => rw [← h1, hx]; exact h.2 q X hx (.inl (by omega))⟩
theorem notRowV {e : TypeId} {c : List Value} : NotRow e (.cells .var c) := fun c' h => by simp at h
/-- A variable of one's own stays. -/
theorem FrC.var {K : CK} {A B : Heap} (h : FrC K A B) {q : Nat} {c : List Value} (hq : A[q]? = some (.cells .var c)) (hn : K.n1 ≤ q) : B[q]? = some (.cells .var c) := h.2 q _ hq (.inr ⟨by have := K.hl; have := K.hp; have := K.hm; omega, .inr notRowV, notRowV⟩)
theorem FrC.var' {K : CK} {A B : Heap} (h : FrC K A B) {q : Nat} {c : List Value} (hq : A[q]? = some (.cells .var c)) (hn : q ≠ K.l ∧ q ≠ K.p ∧ q ≠ K.m) : B[q]? = some (.cells .var c) := h.2 q _ hq (.inr ⟨hn, .inr notRowV, notRowV⟩)
theorem CR.grow {K : CK} {H0 A B : Heap} {s : CS} (h : CR K H0 A s) (g : Grow A B) : CR K H0 B s := by
  obtain ⟨iv, lv, e1, e2, e3, e4, e5, e6⟩ := h.ex
  exact ⟨h.h0, h.g.trans g, h.lo, ⟨h.hi.1, h.hi.2.1, h.hi.2.2.1, Nat.le_trans h.hi.2.2.2 g.1⟩, h.ne, g.at h.mp, ⟨iv, lv, g.at e1, g.at e2, e3.keep (fun b c _ hc => g.at hc) (fun _ _ _ h => h), e4, e5.keep (fun b c _ hc => g.at hc) (fun _ _ _ h => h), e6⟩, h.few, h.num, h.nodup⟩
theorem rowS : RowOK Try.prog 27 9 1 := ⟨rfl, ⟨_, rfl, rfl, by decide⟩, ⟨_, rfl, rfl⟩, by decide, ⟨_, rfl, rfl⟩⟩
theorem rowIn : RowOK Try.prog 35 39 3 := ⟨rfl, ⟨_, rfl, rfl, by decide⟩, ⟨_, rfl, rfl⟩, by decide, ⟨_, rfl, rfl⟩⟩
theorem row_ne {e e' : TypeId} {c : List Value} (h : e ≠ e') : NotRow e' (.cells (.row e) c) := fun c' he => by simp only [Blk.cells.injEq, Mode.row.injEq] at he; exact h he.1
def CQ (K : CK) (H0 H : Heap) (s : CS) : Value → Heap → Prop := fun _ H' => CR K H0 H' s ∧ FrC K H H'
theorem of_ax {K : CK} {H0 H : Heap} {s : CS} (h : CR K H0 H s) (v : ByteArray) (hl : s.pool.length < 100000) :
    AX Try.prog 58 #[.pointer (some ⟨K.p, 0, none⟩), .string v] H
      (fun r H' => r = .int .i64 ((poolF s.pool v).1 : Int) ∧ CR K H0 H' { s with pool := (poolF s.pool v).2 } ∧ FrC K H H') := by
  obtain ⟨iv, lv, e1, e2, e3, e4, e5, e6⟩ := h.ex
  have b2 := hblk_of e2
  have lk := look_S h.mp v
  refine AX.body (n := 40) (rs := [.tmp 4]) Try.func58 rfl (by decide) rfl rfl (bC_sound _ _ _ _ ?_)
  unfold poolF
  cases hv : s.pool.any (isS v) with
  | true =>
    rw [hv] at lk
    rw [if_pos rfl]
    refine run ?_
    exact ⟨rfl, h, .refl _ _⟩
  | false =>
    rw [hv] at lk
    rw [if_neg (by simp)]
    have hlen : alen Try.prog 27 lv H = some (.int .i64 s.pool.length) := e5.rl.len rfl _
    obtain ⟨H2, up, hB, m2, l2⟩ : ∃ H2, amapUpdate Try.prog 54 (.map (some K.m)) (.string v) (.int .i64 (s.pool.length : Int)) H = some H2 ∧ But K.m H H2 ∧ H2[K.m]? = some (.map true (entsS (s.pool ++ [v]))) ∧ H2.length = H.length := ⟨_, upd_S h.mp hv, .set _ _, at_set h.mp, by simp⟩
    have np : K.p ≠ K.m := by rintro e; rw [e, h.mp] at e2; simp at e2
    have nl : K.l ≠ K.m := by rintro e; rw [e, h.mp] at e1; simp at e1
    have p2 := hB.at e2 np
    have bp2 := hblk_of p2
    have own2 : ∀ {α : Type} {k : Nat} {e : TypeId} {f : Heap → List Value → α → Prop} {sv : Value} {L : List α}, (∀ A B l x, f A l x → f B l x) → OwnR k e f H sv L → OwnR k e f H2 sv L := fun hf o => o.keep (fun b c _ hc => hB.at hc (by rintro rfl; rw [h.mp] at hc; simp at hc)) fun _ _ _ h => hf _ _ _ _ h
    refine run ?_
    refine Ob2.lay (H := H2) (.cells (.row 9) [.string v]) (.slice (some ⟨H2.length, 0, none⟩) 1 1) rfl fun H3 a3 g3 l3 => ?_
    have p3 := g3.at p2
    have o3 : OwnR 1 9 strR H3 lv s.pool := (own2 (fun _ _ _ _ h => h) e5).keep (fun b c _ hc => g3.at hc) fun _ _ _ h => h
    obtain ⟨H4, ap, o4, f4, _⟩ := OwnR.append (n := K.n0) (x := v) rowS rowS o3 a3 rfl rfl e6 (by have := h.g.1; have := h.h0; have := g3.1; omega) (by omega) (fun _ _ _ _ _ h => h)
    have p4 := f4.2 K.p _ p3 (.inr notRowV)
    refine run ?_
    refine Ob2.of ap ?_
    refine run ?_
    refine Ob.store rfl rfl rfl p4 rfl (by first | exact Nat.le_of_ble_eq_true rfl | simp) fun H5 s5 k5 l5 => ?_
    refine run ?_
    have m3 := g3.at m2
    have m4 := f4.2 K.m _ m3 (.inr fun c he => by simp at he)
    have q1 := hB.at e1 nl
    have q4 := f4.2 K.l _ (g3.at q1) (.inr notRowV)
    have f5 : FrC K H H5 := (((FrC.ofBut hB ⟨h.lo.2.2, .inr (.inr rfl)⟩).trans (.of g3)).trans (.ofRS f4)).trans (.ofBut k5 ⟨h.lo.2.1, .inr (.inl rfl)⟩)
    refine ⟨rfl, ⟨h.h0, f5.grow h.g (Nat.le_of_eq h.h0), h.lo, ⟨h.hi.1, h.hi.2.1, h.hi.2.2.1, Nat.le_trans h.hi.2.2.2 f5.1⟩, h.ne, k5.at m4 np.symm, ⟨iv, _, k5.at q4 h.ne, s5, ?_, e4, ?_, fun b hb => ?_⟩, ⟨by show (s.pool ++ [v]).length ≤ _; rw [List.length_append, List.length_singleton]; omega, h.few.2⟩, h.num, ?_⟩, f5⟩
    · have i2 := own2 (fun _ _ _ _ h => h) e3
      have i3 : OwnR 3 39 insR H3 iv s.ins := i2.keep (fun b c _ hc => g3.at hc) fun _ _ _ h => h
      have i4 : OwnR 3 39 insR H4 iv s.ins := i3.keepR f4 (by decide) fun _ _ _ h => h
      exact i4.keep (fun b c _ hc => k5.at hc (by rintro rfl; rw [p4] at hc; simp at hc)) fun _ _ _ h => h
    · exact o4.keep (fun b c _ hc => k5.at hc (by rintro rfl; rw [p4] at hc; simp at hc)) fun _ _ _ h => h
    · obtain ⟨n, k, hb⟩ := hb
      simp only [Value.slice.injEq, Option.some.injEq, Addr.mk.injEq, and_true] at hb
      have := h.g.1; have := h.h0; have := g3.1
      omega
    · refine List.nodup_append.2 ⟨h.nodup, by simp, fun a hma b hb => ?_⟩
      simp only [List.mem_singleton] at hb
      subst hb
      rintro rfl
      have := List.any_eq_true.2 ⟨a, hma, isS_t.2 rfl⟩
      rw [hv] at this; simp at this
end Go.Proofs.Ytmdjepfpgmignaa
