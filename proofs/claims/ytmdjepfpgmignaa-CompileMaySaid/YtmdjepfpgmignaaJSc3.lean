/- Package scope: right nodes, plainly; lists of right nodes. -/
import Derived.Test.YtmdjepfpgmignaaJCo1
set_option linter.unusedVariables false
set_option linter.unusedSimpArgs false
set_option maxRecDepth 20000
set_option maxHeartbeats 8000000
namespace Go.Proofs.Ytmdjepfpgmignaa
open Go Ax
def IdentP (s : ByteArray) : Prop := nameS s.data.toList = true
theorem isName_ax {s : ByteArray} (hs : s.size ≤ 100000) (H : Heap) : AX Try.prog 43 #[.string s] H (fun v H' => (∃ b, v = .bool b ∧ (b = true ↔ IdentP s)) ∧ H' = H) :=
  (name_ax H hs).mono fun v H' ⟨h1, h2⟩ => ⟨⟨_, h1, Iff.rfl⟩, h2⟩
/-- How many globals and functions a unit has, and locals a function. -/
structure UC where
  gl : Int
  fn : Nat
  lo : Int
def wantU (k : Int) (i : Nat) : Int := if k = 29 then 2 else if 0 < i ∧ (k = 28 ∨ k = 30) then 3 else 1
/-- What a right expression is, in short. -/
def ExprU (c : UC) (x : Tr) : Prop :=
  ((x.kind = 1 ∨ x.kind = 6) ∧ NumP x 1) ∨ (x.kind = 2 ∧ NumP x 2) ∨ (x.kind = 3 ∧ NumP x 4611686018427387904) ∨
  (x.kind = 4 ∧ PlainP x false false true false ∧ x.str.size ≤ 256 ∧ x.kids.length = 0) ∨
  (x.kind = 18 ∧ NumP x c.lo) ∨ (x.kind = 19 ∧ NumP x c.gl) ∨ (x.kind = 20 ∧ NumP x c.fn) ∨
  (x.kind = 7 ∧ PlainP x false false false true ∧ x.names.length ≤ 40 ∧ (∀ s ∈ x.names, IdentP s) ∧ x.kids.length = x.names.length) ∨
  (x.kind = 9 ∧ PlainP x true false false false ∧ (x.op = 1 ∨ x.op = 2) ∧ x.kids.length = 1) ∨
  (x.kind = 10 ∧ PlainP x true false false false ∧ 1 ≤ x.op ∧ x.op ≤ 11 ∧ x.kids.length = 2) ∨
  ((x.kind = 11 ∨ x.kind = 12 ∨ x.kind = 14) ∧ PlainP x false false false false ∧ x.kids.length = 2) ∨
  (x.kind = 13 ∧ PlainP x false false true false ∧ IdentP x.str ∧ x.kids.length = 1) ∨
  (x.kind = 15 ∧ PlainP x false false false false ∧ 1 ≤ x.kids.length ∧ x.kids.length ≤ 7) ∨
  (x.kind = 16 ∧ PlainP x false false true false ∧ IdentP x.str ∧ 1 ≤ x.kids.length ∧ x.kids.length ≤ 7) ∨
  (x.kind = 17 ∧ PlainP x true false false false ∧ 1 ≤ x.op ∧ x.op ≤ 7 ∧ (x.kids.length : Int) = builtN x.op)
/-- What a right statement is, in short. -/
def StmtU (c : UC) (x : Tr) : Prop :=
  (x.kind = 33 ∧ PlainP x false true false false ∧ 0 ≤ x.num ∧ x.num < c.lo ∧ x.kids.length = 1) ∨
  (x.kind = 34 ∧ PlainP x false true false false ∧ 0 ≤ x.num ∧ x.num < c.gl ∧ x.kids.length = 1) ∨
  (x.kind = 23 ∧ PlainP x false false true false ∧ IdentP x.str ∧ x.kids.length = 2) ∨
  (x.kind = 25 ∧ PlainP x false false true false ∧ IdentP x.str ∧ x.kids.length = 1) ∨
  (PlainP x false false false false ∧ (x.kind = 24 ∧ x.kids.length = 3 ∨ x.kind = 26 ∧ x.kids.length = 2 ∨ (x.kind = 27 ∨ x.kind = 31 ∨ x.kind = 32) ∧ x.kids.length = 1 ∨ x.kind = 28 ∧ x.kids.length = 3 ∨ x.kind = 30 ∧ x.kids.length = 2))
def OwnU (c : UC) (x : Tr) (az : Int) : Prop := (az = 1 ∧ ExprU c x) ∨ (az = 2 ∧ StmtU c x) ∨ (az = 3 ∧ x.kind = 29 ∧ PlainP x false false false false ∧ x.kids.length ≤ 40)
mutual
/-- Is a tree right: as an expression (1), a statement (2), a block (3)? -/
def RightU (c : UC) : Tr → Int → Prop
  | .mk k o n s ns ks p, az => OwnU c (.mk k o n s ns ks p) az ∧ RightUL c k 0 ks
def RightUL (c : UC) (k : Int) : Nat → List Tr → Prop
  | _, [] => True
  | i, t :: ts => RightU c t (wantU k i) ∧ RightUL c k (i + 1) ts
end
theorem rightUL_iff (c : UC) (k : Int) : ∀ (i : Nat) (ts : List Tr), RightUL c k i ts ↔ ∀ j y, ts[j]? = some y → RightU c y (wantU k (i + j))
  | i, [] => by simp [RightUL]
  | i, t :: ts => by
    rw [RightUL, rightUL_iff c k (i + 1) ts]
    constructor
    · rintro ⟨h1, h2⟩ j y hy
      cases j with
      | zero => simp only [List.getElem?_cons_zero, Option.some.injEq] at hy; subst hy; exact h1
      | succ j => rw [List.getElem?_cons_succ] at hy; have := h2 j y hy; rwa [show i + 1 + j = i + (j + 1) from by omega] at this
    · intro h
      exact ⟨h 0 t rfl, fun j y hy => by have := h (j + 1) y (by rw [List.getElem?_cons_succ]; exact hy); rwa [show i + (j + 1) = i + 1 + j from by omega] at this⟩
theorem rightU_iff {c : UC} {x : Tr} {az : Int} : RightU c x az ↔ OwnU c x az ∧ ∀ j y, x.kids[j]? = some y → RightU c y (wantU x.kind j) := by
  obtain ⟨k, o, n, s, ns, ks, p⟩ := x
  rw [RightU, rightUL_iff]
  simp only [Nat.zero_add]
  exact Iff.rfl
theorem allU_iff {c : UC} {ks : List Tr} {k w : Int} (h : ∀ j, wantU k j = w) : (∀ j y, ks[j]? = some y → RightU c y (wantU k j)) ↔ ∀ y ∈ ks, RightU c y w := by
  constructor
  · intro hh y hy
    obtain ⟨j, hj⟩ := List.getElem?_of_mem hy
    have := hh j y hj
    rwa [h j] at this
  · intro hh j y hy
    rw [h j]
    exact hh y (List.mem_of_getElem? hy)
/-- A checker as a value. -/
abbrev chkV (c : UC) (fv : Value) : Value := .agg #[.int .i64 c.gl, fv, .int .i64 c.lo]
/-- What a check of nodes answers. -/
def ChecksU (c : UC) (fv : Value) (f : Nat) (P : Tr → Prop) (x : Tr) : Prop := ∀ (H : Heap) (l : List Value), NodeR H l x → AX Try.prog f #[chkV c fv, .agg l.toArray] H (fun v H' => (∃ b, v = .bool b ∧ (b = true ↔ P x)) ∧ H' = H)
theorem notExprU_ax {c : UC} {fv : Value} {x : Tr} (h : ChecksU c fv 44 (RightU c · 1) x) {H : Heap} {q : Nat} (hb : H[q]? = some (.cells .var [.int .i64 c.gl, fv, .int .i64 c.lo])) {l : List Value} (R : NodeR H l x) :
    AX Try.prog 55 #[.agg l.toArray, .pointer (some ⟨q, 0, none⟩)] H (fun v H' => (∃ b, v = .bool b ∧ (b = true ↔ ¬ RightU c x 1)) ∧ H' = H) := by
  obtain ⟨ow, sn, sk, rfl, -, -⟩ := R.inv
  refine AX.quiet ?_
  suffices hh : AX Try.prog 55 #[.agg (nodeV x sn sk).toArray, .pointer (some ⟨q, 0, none⟩)] H (fun v H' => (∃ b, v = .bool b ∧ (b = true ↔ ¬ RightU c x 1)) ∧ Grow H H') from hh.mono fun v _ ⟨⟨b, e, k⟩, g⟩ => ⟨e ▸ plain_bool _, ⟨b, e, k⟩, g⟩
  refine AX.body (n := 8) (rs := [.tmp 3]) Try.func55 rfl (by decide) rfl rfl (bC_sound _ _ _ _ ?_)
  (conv => whnf)
  refine Ob2.box rfl fun r H1 hr a1 g1 => ?_
  have b1 := hblk_of a1
  have c1 := hblk_of (g1.at hb)
  have hc := h _ _ (R.grow g1)
  unfold chkV at hc
  refine run ?_
  refine hc.mono ?_
  rintro _ X ⟨⟨b, rfl, hb⟩, e⟩
  subst X
  cases b with
  | true =>
    refine run ?_
    exact ⟨⟨false, rfl, by simp [hb.1 rfl]⟩, g1⟩
  | false =>
    refine run ?_
    exact ⟨⟨true, rfl, by simp only [true_iff]; intro h; exact absurd (hb.2 h) (by simp)⟩, g1⟩
theorem notStmtU_ax {c : UC} {fv : Value} {x : Tr} (h : ChecksU c fv 32 (RightU c · 2) x) {H : Heap} {q : Nat} (hb : H[q]? = some (.cells .var [.int .i64 c.gl, fv, .int .i64 c.lo])) {l : List Value} (R : NodeR H l x) :
    AX Try.prog 31 #[.agg l.toArray, .pointer (some ⟨q, 0, none⟩)] H (fun v H' => (∃ b, v = .bool b ∧ (b = true ↔ ¬ RightU c x 2)) ∧ H' = H) := by
  obtain ⟨ow, sn, sk, rfl, -, -⟩ := R.inv
  refine AX.quiet ?_
  suffices hh : AX Try.prog 31 #[.agg (nodeV x sn sk).toArray, .pointer (some ⟨q, 0, none⟩)] H (fun v H' => (∃ b, v = .bool b ∧ (b = true ↔ ¬ RightU c x 2)) ∧ Grow H H') from hh.mono fun v _ ⟨⟨b, e, k⟩, g⟩ => ⟨e ▸ plain_bool _, ⟨b, e, k⟩, g⟩
  refine AX.body (n := 8) (rs := [.tmp 3]) Try.func31 rfl (by decide) rfl rfl (bC_sound _ _ _ _ ?_)
  (conv => whnf)
  refine Ob2.box rfl fun r H1 hr a1 g1 => ?_
  have b1 := hblk_of a1
  have c1 := hblk_of (g1.at hb)
  have hc := h _ _ (R.grow g1)
  unfold chkV at hc
  refine run ?_
  refine hc.mono ?_
  rintro _ X ⟨⟨b, rfl, hb⟩, e⟩
  subst X
  cases b with
  | true =>
    refine run ?_
    exact ⟨⟨false, rfl, by simp [hb.1 rfl]⟩, g1⟩
  | false =>
    refine run ?_
    exact ⟨⟨true, rfl, by simp only [true_iff]; intro h; exact absurd (hb.2 h) (by simp)⟩, g1⟩
theorem exprsU_ax {c : UC} {fv : Value} {H : Heap} {u : Value} {L : List Tr} (hu : RLo 7 NodeR H u L) (hL : L.length ≤ maxLen) (least most : Int) (hg : ∀ x ∈ L, ChecksU c fv 44 (RightU c · 1) x) :
    AX Try.prog 42 #[chkV c fv, u, .int .i64 least, .int .i64 most] H (fun v H' => (∃ b, v = .bool b ∧ (b = true ↔ least ≤ L.length ∧ (L.length : Int) ≤ most ∧ ∀ x ∈ L, RightU c x 1)) ∧ H' = H) := by
  refine AX.quiet ?_
  suffices hh : AX Try.prog 42 #[chkV c fv, u, .int .i64 least, .int .i64 most] H (fun v H' => (∃ b, v = .bool b ∧ (b = true ↔ least ≤ L.length ∧ (L.length : Int) ≤ most ∧ ∀ x ∈ L, RightU c x 1)) ∧ Grow H H') from hh.mono fun v _ ⟨⟨b, e, k⟩, g⟩ => ⟨e ▸ plain_bool _, ⟨b, e, k⟩, g⟩
  unfold chkV
  refine AX.body (n := 25) (rs := [.tmp 8]) Try.func42 rfl (by decide) rfl rfl (bC_sound _ _ _ _ ?_)
  (conv => whnf)
  refine Ob2.box rfl fun q H1 hq a1 g1 => ?_
  have b1 := hblk_of a1
  have l1 : alen Try.prog 45 u H1 = some (.int .i64 L.length) := hu.len rfl _
  have hC := containsN1 (NodeR.grows hu g1) hL 55 (.pointer (some ⟨q, 0, none⟩)) (RightU c · 1) (fun x hx l R => notExprU_ax (hg x hx) a1 R)
  (try (conv => whnf)); (repeat' ((fail_if_success (with_reducible refine And.intro ?_ ?_)); (fail_if_success (with_reducible refine Exists.intro ?_ ?_)); (first | ((with_reducible refine AX.id ?_); (first | (refine (hC).mono ?_; (rintro _ X ⟨⟨bb, rfl, hb⟩, eX⟩; subst X; cases bb <;> (conv => whnf))))) | (refine step0 ?_) | (apply bIf.of <;> intro hc <;> (conv => whnf)))))
  all_goals refine ⟨⟨_, rfl, ?_⟩, g1⟩
  all_goals clear l1 b1 a1 hC
  all_goals (simp only [ba_ne_t, ba_ne_f, ba_eq_t, ba_eq_f, bne_iff_ne, bne_eq_false_iff_eq, decide_eq_true_eq, decide_eq_false_iff_not, beq_iff_eq, beq_eq_false_iff_ne, ne_eq, Bool.not_eq_true, Bool.not_eq_false, Bool.not_eq_true', Bool.not_eq_false'] at *)
  all_goals grind
theorem stmtsU_ax {c : UC} {fv : Value} {H : Heap} {u : Value} {L : List Tr} (hu : RLo 7 NodeR H u L) (hL : L.length ≤ maxLen) (hg : ∀ x ∈ L, ChecksU c fv 32 (RightU c · 2) x) :
    AX Try.prog 23 #[chkV c fv, u] H (fun v H' => (∃ b, v = .bool b ∧ (b = true ↔ (L.length : Int) ≤ 40 ∧ ∀ x ∈ L, RightU c x 2)) ∧ H' = H) := by
  refine AX.quiet ?_
  suffices hh : AX Try.prog 23 #[chkV c fv, u] H (fun v H' => (∃ b, v = .bool b ∧ (b = true ↔ (L.length : Int) ≤ 40 ∧ ∀ x ∈ L, RightU c x 2)) ∧ Grow H H') from hh.mono fun v _ ⟨⟨b, e, k⟩, g⟩ => ⟨e ▸ plain_bool _, ⟨b, e, k⟩, g⟩
  unfold chkV
  refine AX.body (n := 14) (rs := [.tmp 4]) Try.func23 rfl (by decide) rfl rfl (bC_sound _ _ _ _ ?_)
  (conv => whnf)
  refine Ob2.box rfl fun q H1 hq a1 g1 => ?_
  have b1 := hblk_of a1
  have l1 : alen Try.prog 45 u H1 = some (.int .i64 L.length) := hu.len rfl _
  have hC := containsN1 (NodeR.grows hu g1) hL 31 (.pointer (some ⟨q, 0, none⟩)) (RightU c · 2) (fun x hx l R => notStmtU_ax (hg x hx) a1 R)
  (try (conv => whnf)); (repeat' ((fail_if_success (with_reducible refine And.intro ?_ ?_)); (fail_if_success (with_reducible refine Exists.intro ?_ ?_)); (first | ((with_reducible refine AX.id ?_); (first | (refine (hC).mono ?_; (rintro _ X ⟨⟨bb, rfl, hb⟩, eX⟩; subst X; cases bb <;> (conv => whnf))))) | (refine step0 ?_) | (apply bIf.of <;> intro hc <;> (conv => whnf)))))
  all_goals refine ⟨⟨_, rfl, ?_⟩, g1⟩
  all_goals clear l1 b1 a1 hC
  all_goals (simp only [ba_ne_t, ba_ne_f, ba_eq_t, ba_eq_f, bne_iff_ne, bne_eq_false_iff_eq, decide_eq_true_eq, decide_eq_false_iff_not, beq_iff_eq, beq_eq_false_iff_ne, ne_eq, Bool.not_eq_true, Bool.not_eq_false, Bool.not_eq_true', Bool.not_eq_false'] at *)
  all_goals grind
end Go.Proofs.Ytmdjepfpgmignaa
/- Package scope: is a node a right statement? -/
set_option linter.unusedVariables false
set_option linter.unusedSimpArgs false
set_option maxRecDepth 20000
set_option maxHeartbeats 8000000
namespace Go.Proofs.Ytmdjepfpgmignaa
open Go Ax
theorem own2U {c : UC} {x : Tr} : OwnU c x 2 ↔ StmtU c x := by unfold OwnU; simp
theorem stmtU_ax {c : UC} {fv : Value} {x : Tr} (tx : Tidy x) (he : ∀ k ∈ x.kids, ChecksU c fv 44 (RightU c · 1) k) (hbl : ∀ k ∈ x.kids, ChecksU c fv 45 (RightU c · 3) k) : ChecksU c fv 32 (RightU c · 2) x := by
  intro H l R
  obtain ⟨ow, sn, sk, rfl, rn, rk⟩ := R.inv
  refine AX.quiet ?_
  suffices hh : AX Try.prog 32 #[.agg #[.int .i64 c.gl, fv, .int .i64 c.lo], .agg (nodeV x sn sk).toArray] H (fun v H' => (∃ b, v = .bool b ∧ (b = true ↔ RightU c x 2)) ∧ Grow H H') from hh.mono fun v _ ⟨⟨b, e, k⟩, g⟩ => ⟨e ▸ plain_bool _, ⟨b, e, k⟩, g⟩
  refine AX.body (n := 172) (rs := [.tmp 4]) Try.func32 rfl (by decide) rfl rfl (bC_sound _ _ _ _ ?_)
  (conv => whnf)
  refine Ob2.box rfl fun q0 H0 hq0 a0 g0 => ?_
  refine run ?_
  refine Ob2.box rfl fun q H1 hq a1 k1 => ?_
  have b0 := hblk_of (k1.at (show H0[q0]? = some (.cells .var [.int .i64 c.gl, fv, .int .i64 c.lo]) from a0))
  have b1 := hblk_of a1
  have g1 := g0.trans k1
  have rk1 := NodeR.grows rk g1
  have R1 := R.grow g1
  have l1 : alen Try.prog 27 sn H1 = some (.int .i64 x.names.length) := rn.len rfl _
  have l2 : alen Try.prog 45 sk H1 = some (.int .i64 x.kids.length) := rk.len rfl _
  have t1 := tx.str
  rw [rightU_iff, own2U]
  by_cases h28 : x.kind = 28
  · skip
    have e33 : (x.kind == 33) = false := by rw [h28]; rfl
    have e34 : (x.kind == 34) = false := by rw [h28]; rfl
    have e23 : (x.kind == 23) = false := by rw [h28]; rfl
    have e25 : (x.kind == 25) = false := by rw [h28]; rfl
    have e24 : (x.kind == 24) = false := by rw [h28]; rfl
    have e26 : (x.kind == 26) = false := by rw [h28]; rfl
    have e27 : (x.kind == 27) = false := by rw [h28]; rfl
    have e31 : (x.kind == 31) = false := by rw [h28]; rfl
    have e32 : (x.kind == 32) = false := by rw [h28]; rfl
    have e28 : (x.kind == 28) = true := by rw [h28]; rfl
    have e1 : (x.kind == 21) = false := by rw [h28]; rfl
    by_cases hl : x.kids.length = 3
    · obtain ⟨y0, hy0⟩ := get_lt (L := x.kids) (m := 0) (by omega)
      obtain ⟨y1, hy1⟩ := get_lt (L := x.kids) (m := 1) (by omega)
      obtain ⟨y2, hy2⟩ := get_lt (L := x.kids) (m := 2) (by omega)
      obtain ⟨p0, z0, i0, r0, f0⟩ := ld_node rk hy0
      obtain ⟨p1, z1, i1, r1, f1⟩ := ld_node rk hy1
      obtain ⟨p2, z2, i2, r2, f2⟩ := ld_node rk hy2
      have j0 := f0 H1 g1
      have i0 : aindexAddr Try.prog 45 sk (.int .i64 0) = some p0 := i0
      have j1 := f1 H1 g1
      have i1 : aindexAddr Try.prog 45 sk (.int .i64 1) = some p1 := i1
      have j2 := f2 H1 g1
      have i2 : aindexAddr Try.prog 45 sk (.int .i64 2) = some p2 := i2
      have d1 : ((x.kids.length : Int) == 3) = true := by rw [hl]; rfl
      have hall : (∀ (j : Nat) (y : Tr), x.kids[j]? = some y → RightU c y (wantU x.kind j)) ↔ RightU c y0 1 ∧ RightU c y1 3 ∧ RightU c y2 3 := by
        rw [h28]
        constructor
        · exact fun h => ⟨h 0 y0 hy0, h 1 y1 hy1, h 2 y2 hy2⟩
        · rintro ⟨k0, k1, k2⟩ j y hy
          have := lt_of_get hy
          have hj : j = 0 ∨ j = 1 ∨ j = 2 := by omega
          rcases hj with rfl | rfl | rfl
          · rw [hy0] at hy; cases hy; exact k0
          · rw [hy1] at hy; cases hy; exact k1
          · rw [hy2] at hy; cases hy; exact k2
      rw [hall]
      refine run ?_
      refine (plain_ax R1 _ _ _ _).mono ?_
      rintro _ X ⟨⟨b, rfl, hb⟩, e⟩
      subst X
      refine run ?_
      apply SW.drawG [(0, [], [], false), (1, [(116, 0)], [116], false), (2, [(116, 0), (117, 1)], [116, 117], false), (3, [(116, 0), (117, 1), (118, 2)], [116, 117, 118], false), (4, [(116, 0), (117, 1), (118, 2), (119, 3)], [116, 117, 118, 119], false), (5, [(116, 0), (117, 1), (118, 2), (119, 3), (120, 4)], [116, 117, 118, 119, 120], false), (6, [(116, 0), (117, 1), (118, 2), (119, 3), (120, 4), (121, 5)], [116, 117, 118, 119, 120, 121], false), (7, [(116, 0), (117, 1), (118, 2), (119, 3), (120, 4), (121, 5), (122, 6)], [116, 117, 118, 119, 120, 121, 122], false), (8, [(116, 0), (117, 1), (118, 2), (119, 3), (120, 4), (121, 5), (122, 6), (123, 7)], [116, 117, 118, 119, 120, 121, 122, 123, 125, 126, 127, 128], false), (9, [(116, 0), (117, 1), (118, 2), (119, 3), (120, 4), (121, 5), (122, 6), (123, 7)], [116, 117, 118, 119, 120, 121, 122, 123, 124], false), (10, [(116, 0), (117, 1), (118, 2), (119, 3), (120, 4), (121, 5), (122, 6), (123, 7), (125, 9)], [116, 117, 118, 119, 120, 121, 122, 123, 124, 125], false), (11, [(116, 0), (117, 1), (118, 2), (119, 3), (120, 4), (121, 5), (122, 6), (123, 7), (125, 9), (126, 10)], [116, 117, 118, 119, 120, 121, 122, 123, 124, 125, 126], false), (12, [(116, 0), (117, 1), (118, 2), (119, 3), (120, 4), (121, 5), (122, 6), (123, 7), (125, 9), (126, 10), (127, 11)], [116, 117, 118, 119, 120, 121, 122, 123, 124, 125, 126, 127], false), (13, [(116, 0), (117, 1), (118, 2), (119, 3), (120, 4), (121, 5), (122, 6), (123, 7), (124, 8), (125, 9), (126, 10), (127, 11), (128, 12)], [116, 117, 118, 119, 120, 121, 122, 123, 124, 125, 126, 127, 128], true), (14, [(116, 0), (117, 1), (118, 2), (119, 3), (120, 4), (121, 5), (122, 6), (123, 7), (124, 8), (125, 9), (126, 10), (127, 11), (128, 12), (129, 13)], [116, 117, 118, 119, 120, 121, 122, 123, 124, 125, 126, 127, 128, 129], false), (15, [(116, 0), (117, 1), (118, 2), (119, 3), (120, 4), (121, 5), (122, 6), (123, 7), (124, 8), (125, 9), (126, 10), (127, 11), (128, 12), (129, 13), (130, 14)], [116, 117, 118, 119, 120, 121, 122, 123, 124, 125, 126, 127, 128, 129, 130], false), (16, [(116, 0), (117, 1), (118, 2), (119, 3), (120, 4), (121, 5), (122, 6), (123, 7), (124, 8), (125, 9), (126, 10), (127, 11), (128, 12), (129, 13), (130, 14), (131, 15)], [116, 117, 118, 119, 120, 121, 122, 123, 124, 125, 126, 127, 128, 129, 130, 131, 133, 134, 135, 136], false), (17, [(116, 0), (117, 1), (118, 2), (119, 3), (120, 4), (121, 5), (122, 6), (123, 7), (124, 8), (125, 9), (126, 10), (127, 11), (128, 12), (129, 13), (130, 14), (131, 15)], [116, 117, 118, 119, 120, 121, 122, 123, 124, 125, 126, 127, 128, 129, 130, 131, 132], false), (18, [(116, 0), (117, 1), (118, 2), (119, 3), (120, 4), (121, 5), (122, 6), (123, 7), (124, 8), (125, 9), (126, 10), (127, 11), (128, 12), (129, 13), (130, 14), (131, 15), (133, 17)], [116, 117, 118, 119, 120, 121, 122, 123, 124, 125, 126, 127, 128, 129, 130, 131, 132, 133], false), (19, [(116, 0), (117, 1), (118, 2), (119, 3), (120, 4), (121, 5), (122, 6), (123, 7), (124, 8), (125, 9), (126, 10), (127, 11), (128, 12), (129, 13), (130, 14), (131, 15), (133, 17), (134, 18)], [116, 117, 118, 119, 120, 121, 122, 123, 124, 125, 126, 127, 128, 129, 130, 131, 132, 133, 134], false), (20, [(116, 0), (117, 1), (118, 2), (119, 3), (120, 4), (121, 5), (122, 6), (123, 7), (124, 8), (125, 9), (126, 10), (127, 11), (128, 12), (129, 13), (130, 14), (131, 15), (133, 17), (134, 18), (135, 19)], [116, 117, 118, 119, 120, 121, 122, 123, 124, 125, 126, 127, 128, 129, 130, 131, 132, 133, 134, 135], false), (21, [(116, 0), (117, 1), (118, 2), (119, 3), (120, 4), (121, 5), (122, 6), (123, 7), (124, 8), (125, 9), (126, 10), (127, 11), (128, 12), (129, 13), (130, 14), (131, 15), (132, 16), (133, 17), (134, 18), (135, 19), (136, 20)], [116, 117, 118, 119, 120, 121, 122, 123, 124, 125, 126, 127, 128, 129, 130, 131, 132, 133, 134, 135, 136], true), (22, [(116, 0), (117, 1), (118, 2), (119, 3), (120, 4), (121, 5), (122, 6), (123, 7), (124, 8), (125, 9), (126, 10), (127, 11), (128, 12), (129, 13), (130, 14), (131, 15), (132, 16), (133, 17), (134, 18), (135, 19), (136, 20), (137, 21)], [116, 117, 118, 119, 120, 121, 122, 123, 124, 125, 126, 127, 128, 129, 130, 131, 132, 133, 134, 135, 136, 137], false), (23, [(116, 0), (117, 1), (118, 2), (119, 3), (120, 4), (121, 5), (122, 6), (123, 7), (124, 8), (125, 9), (126, 10), (127, 11), (128, 12), (129, 13), (130, 14), (131, 15), (132, 16), (133, 17), (134, 18), (135, 19), (136, 20), (137, 21), (138, 22)], [116, 117, 118, 119, 120, 121, 122, 123, 124, 125, 126, 127, 128, 129, 130, 131, 132, 133, 134, 135, 136, 137, 138], false), (24, [(116, 0), (117, 1), (118, 2), (119, 3), (120, 4), (121, 5), (122, 6), (123, 7), (124, 8), (125, 9), (126, 10), (127, 11), (128, 12), (129, 13), (130, 14), (131, 15), (132, 16), (133, 17), (134, 18), (135, 19), (136, 20), (137, 21), (138, 22), (139, 23)], [116, 117, 118, 119, 120, 121, 122, 123, 124, 125, 126, 127, 128, 129, 130, 131, 132, 133, 134, 135, 136, 137, 138, 139, 141, 142, 143, 144], false), (25, [(116, 0), (117, 1), (118, 2), (119, 3), (120, 4), (121, 5), (122, 6), (123, 7), (124, 8), (125, 9), (126, 10), (127, 11), (128, 12), (129, 13), (130, 14), (131, 15), (132, 16), (133, 17), (134, 18), (135, 19), (136, 20), (137, 21), (138, 22), (139, 23)], [116, 117, 118, 119, 120, 121, 122, 123, 124, 125, 126, 127, 128, 129, 130, 131, 132, 133, 134, 135, 136, 137, 138, 139, 140], false), (26, [(116, 0), (117, 1), (118, 2), (119, 3), (120, 4), (121, 5), (122, 6), (123, 7), (124, 8), (125, 9), (126, 10), (127, 11), (128, 12), (129, 13), (130, 14), (131, 15), (132, 16), (133, 17), (134, 18), (135, 19), (136, 20), (137, 21), (138, 22), (139, 23), (141, 25)], [116, 117, 118, 119, 120, 121, 122, 123, 124, 125, 126, 127, 128, 129, 130, 131, 132, 133, 134, 135, 136, 137, 138, 139, 140, 141], false), (27, [(116, 0), (117, 1), (118, 2), (119, 3), (120, 4), (121, 5), (122, 6), (123, 7), (124, 8), (125, 9), (126, 10), (127, 11), (128, 12), (129, 13), (130, 14), (131, 15), (132, 16), (133, 17), (134, 18), (135, 19), (136, 20), (137, 21), (138, 22), (139, 23), (141, 25), (142, 26)], [116, 117, 118, 119, 120, 121, 122, 123, 124, 125, 126, 127, 128, 129, 130, 131, 132, 133, 134, 135, 136, 137, 138, 139, 140, 141, 142], false), (28, [(116, 0), (117, 1), (118, 2), (119, 3), (120, 4), (121, 5), (122, 6), (123, 7), (124, 8), (125, 9), (126, 10), (127, 11), (128, 12), (129, 13), (130, 14), (131, 15), (132, 16), (133, 17), (134, 18), (135, 19), (136, 20), (137, 21), (138, 22), (139, 23), (141, 25), (142, 26), (143, 27)], [116, 117, 118, 119, 120, 121, 122, 123, 124, 125, 126, 127, 128, 129, 130, 131, 132, 133, 134, 135, 136, 137, 138, 139, 140, 141, 142, 143], false), (29, [(116, 0), (117, 1), (118, 2), (119, 3), (120, 4), (121, 5), (122, 6), (123, 7), (124, 8), (125, 9), (126, 10), (127, 11), (128, 12), (129, 13), (130, 14), (131, 15), (132, 16), (133, 17), (134, 18), (135, 19), (136, 20), (137, 21), (138, 22), (139, 23), (140, 24), (141, 25), (142, 26), (143, 27), (144, 28)], [116, 117, 118, 119, 120, 121, 122, 123, 124, 125, 126, 127, 128, 129, 130, 131, 132, 133, 134, 135, 136, 137, 138, 139, 140, 141, 142, 143, 144], true), (30, [(116, 0), (117, 1), (118, 2), (119, 3), (120, 4), (121, 5), (122, 6), (123, 7), (124, 8), (125, 9), (126, 10), (127, 11), (128, 12), (129, 13), (130, 14), (131, 15), (132, 16), (133, 17), (134, 18), (135, 19), (136, 20), (137, 21), (138, 22), (139, 23), (140, 24), (141, 25), (142, 26), (143, 27), (144, 28), (145, 29)], [116, 117, 118, 119, 120, 121, 122, 123, 124, 125, 126, 127, 128, 129, 130, 131, 132, 133, 134, 135, 136, 137, 138, 139, 140, 141, 142, 143, 144, 145], false), (31, [(116, 0), (117, 1), (118, 2), (119, 3), (120, 4), (121, 5), (122, 6), (123, 7), (124, 8), (125, 9), (126, 10), (127, 11), (128, 12), (129, 13), (130, 14), (131, 15), (132, 16), (133, 17), (134, 18), (135, 19), (136, 20), (137, 21), (138, 22), (139, 23), (140, 24), (141, 25), (142, 26), (143, 27), (144, 28), (145, 29), (146, 30)], [116, 117, 118, 119, 120, 121, 122, 123, 124, 125, 126, 127, 128, 129, 130, 131, 132, 133, 134, 135, 136, 137, 138, 139, 140, 141, 142, 143, 144, 145, 146], false)]
        [(116, 0), (117, 1), (118, 2), (119, 3), (120, 4), (121, 5), (122, 6), (123, 7), (124, 8), (125, 9), (126, 10), (127, 11), (128, 12), (129, 13), (130, 14), (131, 15), (132, 16), (133, 17), (134, 18), (135, 19), (136, 20), (137, 21), (138, 22), (139, 23), (140, 24), (141, 25), (142, 26), (143, 27), (144, 28), (145, 29), (146, 30), (4, 31)]
        [(2, _), (3, _), (5, _)] rfl (by kernel_rfl)
      case hF => exact ⟨rfl, rfl, rfl, trivial⟩
      cases b
      all_goals (try (conv => whnf)); (repeat' ((fail_if_success (with_reducible refine And.intro ?_ ?_)); (fail_if_success (with_reducible refine Exists.intro ?_ ?_)); (first | ((with_reducible refine AX.id ?_); (first | (refine (he y0 (List.mem_of_getElem? hy0) _ _ (r0.grow g1)).mono ?_; (rintro _ X ⟨⟨bb, rfl, hb⟩, eX⟩; subst X; cases bb <;> (conv => whnf))) | (refine (hbl y1 (List.mem_of_getElem? hy1) _ _ (r1.grow g1)).mono ?_; (rintro _ X ⟨⟨bb, rfl, hb⟩, eX⟩; subst X; cases bb <;> (conv => whnf))) | (refine (hbl y2 (List.mem_of_getElem? hy2) _ _ (r2.grow g1)).mono ?_; (rintro _ X ⟨⟨bb, rfl, hb⟩, eX⟩; subst X; cases bb <;> (conv => whnf))))) | (refine step0 ?_) | (apply bIf.of <;> intro hc <;> (conv => whnf)))))
      all_goals refine ⟨⟨_, rfl, ?_⟩, g1⟩
      all_goals clear b1 a1 g1 l1 l2 rk1 R1 rk rn R he hbl i0 i1 i2 j0 j1 j2 f0 f1 f2 r0 r1 r2
      all_goals unfold StmtU
      all_goals try unfold PlainP at *
      all_goals (simp only [ba_ne_t, ba_ne_f, ba_eq_t, ba_eq_f, bne_iff_ne, bne_eq_false_iff_eq, decide_eq_true_eq, decide_eq_false_iff_not, beq_iff_eq, beq_eq_false_iff_ne, ne_eq, Bool.not_eq_true, Bool.not_eq_false, Bool.not_eq_true', Bool.not_eq_false'] at *)
      all_goals grind
    · have d1 : ((x.kids.length : Int) == 3) = false := by rw [beq_eq_false_iff_ne]; omega
      refine run ?_
      refine (plain_ax R1 _ _ _ _).mono ?_
      rintro _ X ⟨⟨b, rfl, hb⟩, e⟩
      subst X
      refine run ?_
      apply SW.drawG [(0, [], [], false), (1, [(116, 0)], [116], false), (2, [(116, 0), (117, 1)], [116, 117], false), (3, [(116, 0), (117, 1), (118, 2)], [116, 117, 118], false), (4, [(116, 0), (117, 1), (118, 2), (119, 3)], [116, 117, 118, 119], false), (5, [(116, 0), (117, 1), (118, 2), (119, 3), (120, 4)], [116, 117, 118, 119, 120], false), (6, [(116, 0), (117, 1), (118, 2), (119, 3), (120, 4), (121, 5)], [116, 117, 118, 119, 120, 121], false), (7, [(116, 0), (117, 1), (118, 2), (119, 3), (120, 4), (121, 5), (122, 6)], [116, 117, 118, 119, 120, 121, 122], false), (8, [(116, 0), (117, 1), (118, 2), (119, 3), (120, 4), (121, 5), (122, 6), (123, 7)], [116, 117, 118, 119, 120, 121, 122, 123, 125, 126, 127, 128], false), (9, [(116, 0), (117, 1), (118, 2), (119, 3), (120, 4), (121, 5), (122, 6), (123, 7)], [116, 117, 118, 119, 120, 121, 122, 123, 124], false), (10, [(116, 0), (117, 1), (118, 2), (119, 3), (120, 4), (121, 5), (122, 6), (123, 7), (125, 9)], [116, 117, 118, 119, 120, 121, 122, 123, 124, 125], false), (11, [(116, 0), (117, 1), (118, 2), (119, 3), (120, 4), (121, 5), (122, 6), (123, 7), (125, 9), (126, 10)], [116, 117, 118, 119, 120, 121, 122, 123, 124, 125, 126], false), (12, [(116, 0), (117, 1), (118, 2), (119, 3), (120, 4), (121, 5), (122, 6), (123, 7), (125, 9), (126, 10), (127, 11)], [116, 117, 118, 119, 120, 121, 122, 123, 124, 125, 126, 127], false), (13, [(116, 0), (117, 1), (118, 2), (119, 3), (120, 4), (121, 5), (122, 6), (123, 7), (124, 8), (125, 9), (126, 10), (127, 11), (128, 12)], [116, 117, 118, 119, 120, 121, 122, 123, 124, 125, 126, 127, 128], true), (14, [(116, 0), (117, 1), (118, 2), (119, 3), (120, 4), (121, 5), (122, 6), (123, 7), (124, 8), (125, 9), (126, 10), (127, 11), (128, 12), (129, 13)], [116, 117, 118, 119, 120, 121, 122, 123, 124, 125, 126, 127, 128, 129], false), (15, [(116, 0), (117, 1), (118, 2), (119, 3), (120, 4), (121, 5), (122, 6), (123, 7), (124, 8), (125, 9), (126, 10), (127, 11), (128, 12), (129, 13), (130, 14)], [116, 117, 118, 119, 120, 121, 122, 123, 124, 125, 126, 127, 128, 129, 130], false), (16, [(116, 0), (117, 1), (118, 2), (119, 3), (120, 4), (121, 5), (122, 6), (123, 7), (124, 8), (125, 9), (126, 10), (127, 11), (128, 12), (129, 13), (130, 14), (131, 15)], [116, 117, 118, 119, 120, 121, 122, 123, 124, 125, 126, 127, 128, 129, 130, 131, 133, 134, 135, 136], false), (17, [(116, 0), (117, 1), (118, 2), (119, 3), (120, 4), (121, 5), (122, 6), (123, 7), (124, 8), (125, 9), (126, 10), (127, 11), (128, 12), (129, 13), (130, 14), (131, 15)], [116, 117, 118, 119, 120, 121, 122, 123, 124, 125, 126, 127, 128, 129, 130, 131, 132], false), (18, [(116, 0), (117, 1), (118, 2), (119, 3), (120, 4), (121, 5), (122, 6), (123, 7), (124, 8), (125, 9), (126, 10), (127, 11), (128, 12), (129, 13), (130, 14), (131, 15), (133, 17)], [116, 117, 118, 119, 120, 121, 122, 123, 124, 125, 126, 127, 128, 129, 130, 131, 132, 133], false), (19, [(116, 0), (117, 1), (118, 2), (119, 3), (120, 4), (121, 5), (122, 6), (123, 7), (124, 8), (125, 9), (126, 10), (127, 11), (128, 12), (129, 13), (130, 14), (131, 15), (133, 17), (134, 18)], [116, 117, 118, 119, 120, 121, 122, 123, 124, 125, 126, 127, 128, 129, 130, 131, 132, 133, 134], false), (20, [(116, 0), (117, 1), (118, 2), (119, 3), (120, 4), (121, 5), (122, 6), (123, 7), (124, 8), (125, 9), (126, 10), (127, 11), (128, 12), (129, 13), (130, 14), (131, 15), (133, 17), (134, 18), (135, 19)], [116, 117, 118, 119, 120, 121, 122, 123, 124, 125, 126, 127, 128, 129, 130, 131, 132, 133, 134, 135], false), (21, [(116, 0), (117, 1), (118, 2), (119, 3), (120, 4), (121, 5), (122, 6), (123, 7), (124, 8), (125, 9), (126, 10), (127, 11), (128, 12), (129, 13), (130, 14), (131, 15), (132, 16), (133, 17), (134, 18), (135, 19), (136, 20)], [116, 117, 118, 119, 120, 121, 122, 123, 124, 125, 126, 127, 128, 129, 130, 131, 132, 133, 134, 135, 136], true), (22, [(116, 0), (117, 1), (118, 2), (119, 3), (120, 4), (121, 5), (122, 6), (123, 7), (124, 8), (125, 9), (126, 10), (127, 11), (128, 12), (129, 13), (130, 14), (131, 15), (132, 16), (133, 17), (134, 18), (135, 19), (136, 20), (137, 21)], [116, 117, 118, 119, 120, 121, 122, 123, 124, 125, 126, 127, 128, 129, 130, 131, 132, 133, 134, 135, 136, 137], false), (23, [(116, 0), (117, 1), (118, 2), (119, 3), (120, 4), (121, 5), (122, 6), (123, 7), (124, 8), (125, 9), (126, 10), (127, 11), (128, 12), (129, 13), (130, 14), (131, 15), (132, 16), (133, 17), (134, 18), (135, 19), (136, 20), (137, 21), (138, 22)], [116, 117, 118, 119, 120, 121, 122, 123, 124, 125, 126, 127, 128, 129, 130, 131, 132, 133, 134, 135, 136, 137, 138], false), (24, [(116, 0), (117, 1), (118, 2), (119, 3), (120, 4), (121, 5), (122, 6), (123, 7), (124, 8), (125, 9), (126, 10), (127, 11), (128, 12), (129, 13), (130, 14), (131, 15), (132, 16), (133, 17), (134, 18), (135, 19), (136, 20), (137, 21), (138, 22), (139, 23)], [116, 117, 118, 119, 120, 121, 122, 123, 124, 125, 126, 127, 128, 129, 130, 131, 132, 133, 134, 135, 136, 137, 138, 139, 141, 142, 143, 144], false), (25, [(116, 0), (117, 1), (118, 2), (119, 3), (120, 4), (121, 5), (122, 6), (123, 7), (124, 8), (125, 9), (126, 10), (127, 11), (128, 12), (129, 13), (130, 14), (131, 15), (132, 16), (133, 17), (134, 18), (135, 19), (136, 20), (137, 21), (138, 22), (139, 23)], [116, 117, 118, 119, 120, 121, 122, 123, 124, 125, 126, 127, 128, 129, 130, 131, 132, 133, 134, 135, 136, 137, 138, 139, 140], false), (26, [(116, 0), (117, 1), (118, 2), (119, 3), (120, 4), (121, 5), (122, 6), (123, 7), (124, 8), (125, 9), (126, 10), (127, 11), (128, 12), (129, 13), (130, 14), (131, 15), (132, 16), (133, 17), (134, 18), (135, 19), (136, 20), (137, 21), (138, 22), (139, 23), (141, 25)], [116, 117, 118, 119, 120, 121, 122, 123, 124, 125, 126, 127, 128, 129, 130, 131, 132, 133, 134, 135, 136, 137, 138, 139, 140, 141], false), (27, [(116, 0), (117, 1), (118, 2), (119, 3), (120, 4), (121, 5), (122, 6), (123, 7), (124, 8), (125, 9), (126, 10), (127, 11), (128, 12), (129, 13), (130, 14), (131, 15), (132, 16), (133, 17), (134, 18), (135, 19), (136, 20), (137, 21), (138, 22), (139, 23), (141, 25), (142, 26)], [116, 117, 118, 119, 120, 121, 122, 123, 124, 125, 126, 127, 128, 129, 130, 131, 132, 133, 134, 135, 136, 137, 138, 139, 140, 141, 142], false), (28, [(116, 0), (117, 1), (118, 2), (119, 3), (120, 4), (121, 5), (122, 6), (123, 7), (124, 8), (125, 9), (126, 10), (127, 11), (128, 12), (129, 13), (130, 14), (131, 15), (132, 16), (133, 17), (134, 18), (135, 19), (136, 20), (137, 21), (138, 22), (139, 23), (141, 25), (142, 26), (143, 27)], [116, 117, 118, 119, 120, 121, 122, 123, 124, 125, 126, 127, 128, 129, 130, 131, 132, 133, 134, 135, 136, 137, 138, 139, 140, 141, 142, 143], false), (29, [(116, 0), (117, 1), (118, 2), (119, 3), (120, 4), (121, 5), (122, 6), (123, 7), (124, 8), (125, 9), (126, 10), (127, 11), (128, 12), (129, 13), (130, 14), (131, 15), (132, 16), (133, 17), (134, 18), (135, 19), (136, 20), (137, 21), (138, 22), (139, 23), (140, 24), (141, 25), (142, 26), (143, 27), (144, 28)], [116, 117, 118, 119, 120, 121, 122, 123, 124, 125, 126, 127, 128, 129, 130, 131, 132, 133, 134, 135, 136, 137, 138, 139, 140, 141, 142, 143, 144], true), (30, [(116, 0), (117, 1), (118, 2), (119, 3), (120, 4), (121, 5), (122, 6), (123, 7), (124, 8), (125, 9), (126, 10), (127, 11), (128, 12), (129, 13), (130, 14), (131, 15), (132, 16), (133, 17), (134, 18), (135, 19), (136, 20), (137, 21), (138, 22), (139, 23), (140, 24), (141, 25), (142, 26), (143, 27), (144, 28), (145, 29)], [116, 117, 118, 119, 120, 121, 122, 123, 124, 125, 126, 127, 128, 129, 130, 131, 132, 133, 134, 135, 136, 137, 138, 139, 140, 141, 142, 143, 144, 145], false), (31, [(116, 0), (117, 1), (118, 2), (119, 3), (120, 4), (121, 5), (122, 6), (123, 7), (124, 8), (125, 9), (126, 10), (127, 11), (128, 12), (129, 13), (130, 14), (131, 15), (132, 16), (133, 17), (134, 18), (135, 19), (136, 20), (137, 21), (138, 22), (139, 23), (140, 24), (141, 25), (142, 26), (143, 27), (144, 28), (145, 29), (146, 30)], [116, 117, 118, 119, 120, 121, 122, 123, 124, 125, 126, 127, 128, 129, 130, 131, 132, 133, 134, 135, 136, 137, 138, 139, 140, 141, 142, 143, 144, 145, 146], false)]
        [(116, 0), (117, 1), (118, 2), (119, 3), (120, 4), (121, 5), (122, 6), (123, 7), (124, 8), (125, 9), (126, 10), (127, 11), (128, 12), (129, 13), (130, 14), (131, 15), (132, 16), (133, 17), (134, 18), (135, 19), (136, 20), (137, 21), (138, 22), (139, 23), (140, 24), (141, 25), (142, 26), (143, 27), (144, 28), (145, 29), (146, 30), (4, 31)]
        [(2, _), (3, _), (5, _)] rfl (by kernel_rfl)
      case hF => exact ⟨rfl, rfl, rfl, trivial⟩
      cases b
      all_goals (try (conv => whnf)); (repeat' ((fail_if_success (with_reducible refine And.intro ?_ ?_)); (fail_if_success (with_reducible refine Exists.intro ?_ ?_)); (first | (refine step0 ?_) | (apply bIf.of <;> intro hc <;> (conv => whnf)))))
      all_goals refine ⟨⟨_, rfl, ?_⟩, g1⟩
      all_goals clear b1 a1 g1 l1 l2 rk1 R1 rk rn R he hbl
      all_goals unfold StmtU
      all_goals try unfold PlainP at *
      all_goals (simp only [ba_ne_t, ba_ne_f, ba_eq_t, ba_eq_f, bne_iff_ne, bne_eq_false_iff_eq, decide_eq_true_eq, decide_eq_false_iff_not, beq_iff_eq, beq_eq_false_iff_ne, ne_eq, Bool.not_eq_true, Bool.not_eq_false, Bool.not_eq_true', Bool.not_eq_false'] at *)
      all_goals grind
  by_cases h30 : x.kind = 30
  · skip
    have e33 : (x.kind == 33) = false := by rw [h30]; rfl
    have e34 : (x.kind == 34) = false := by rw [h30]; rfl
    have e23 : (x.kind == 23) = false := by rw [h30]; rfl
    have e25 : (x.kind == 25) = false := by rw [h30]; rfl
    have e24 : (x.kind == 24) = false := by rw [h30]; rfl
    have e26 : (x.kind == 26) = false := by rw [h30]; rfl
    have e27 : (x.kind == 27) = false := by rw [h30]; rfl
    have e31 : (x.kind == 31) = false := by rw [h30]; rfl
    have e32 : (x.kind == 32) = false := by rw [h30]; rfl
    have e28 : (x.kind == 28) = false := by rw [h30]; rfl
    have e30 : (x.kind == 30) = true := by rw [h30]; rfl
    have e1 : (x.kind == 21) = false := by rw [h30]; rfl
    by_cases hl : x.kids.length = 2
    · obtain ⟨y0, hy0⟩ := get_lt (L := x.kids) (m := 0) (by omega)
      obtain ⟨y1, hy1⟩ := get_lt (L := x.kids) (m := 1) (by omega)
      obtain ⟨p0, z0, i0, r0, f0⟩ := ld_node rk hy0
      obtain ⟨p1, z1, i1, r1, f1⟩ := ld_node rk hy1
      have j0 := f0 H1 g1
      have i0 : aindexAddr Try.prog 45 sk (.int .i64 0) = some p0 := i0
      have j1 := f1 H1 g1
      have i1 : aindexAddr Try.prog 45 sk (.int .i64 1) = some p1 := i1
      have d1 : ((x.kids.length : Int) == 2) = true := by rw [hl]; rfl
      have hall : (∀ (j : Nat) (y : Tr), x.kids[j]? = some y → RightU c y (wantU x.kind j)) ↔ RightU c y0 1 ∧ RightU c y1 3 := by
        rw [h30]
        constructor
        · exact fun h => ⟨h 0 y0 hy0, h 1 y1 hy1⟩
        · rintro ⟨k0, k1⟩ j y hy
          have := lt_of_get hy
          have hj : j = 0 ∨ j = 1 := by omega
          rcases hj with rfl | rfl
          · rw [hy0] at hy; cases hy; exact k0
          · rw [hy1] at hy; cases hy; exact k1
      rw [hall]
      refine run ?_
      refine (plain_ax R1 _ _ _ _).mono ?_
      rintro _ X ⟨⟨b, rfl, hb⟩, e⟩
      subst X
      refine run ?_
      apply SW.drawG [(0, [], [], false), (1, [(149, 0)], [149], false), (2, [(149, 0), (150, 1)], [149, 150], false), (3, [(149, 0), (150, 1), (151, 2)], [149, 150, 151], false), (4, [(149, 0), (150, 1), (151, 2), (152, 3)], [149, 150, 151, 152], false), (5, [(149, 0), (150, 1), (151, 2), (152, 3), (153, 4)], [149, 150, 151, 152, 153], false), (6, [(149, 0), (150, 1), (151, 2), (152, 3), (153, 4), (154, 5)], [149, 150, 151, 152, 153, 154], false), (7, [(149, 0), (150, 1), (151, 2), (152, 3), (153, 4), (154, 5), (155, 6)], [149, 150, 151, 152, 153, 154, 155], false), (8, [(149, 0), (150, 1), (151, 2), (152, 3), (153, 4), (154, 5), (155, 6), (156, 7)], [149, 150, 151, 152, 153, 154, 155, 156, 158, 159, 160, 161], false), (9, [(149, 0), (150, 1), (151, 2), (152, 3), (153, 4), (154, 5), (155, 6), (156, 7)], [149, 150, 151, 152, 153, 154, 155, 156, 157], false), (10, [(149, 0), (150, 1), (151, 2), (152, 3), (153, 4), (154, 5), (155, 6), (156, 7), (158, 9)], [149, 150, 151, 152, 153, 154, 155, 156, 157, 158], false), (11, [(149, 0), (150, 1), (151, 2), (152, 3), (153, 4), (154, 5), (155, 6), (156, 7), (158, 9), (159, 10)], [149, 150, 151, 152, 153, 154, 155, 156, 157, 158, 159], false), (12, [(149, 0), (150, 1), (151, 2), (152, 3), (153, 4), (154, 5), (155, 6), (156, 7), (158, 9), (159, 10), (160, 11)], [149, 150, 151, 152, 153, 154, 155, 156, 157, 158, 159, 160], false), (13, [(149, 0), (150, 1), (151, 2), (152, 3), (153, 4), (154, 5), (155, 6), (156, 7), (157, 8), (158, 9), (159, 10), (160, 11), (161, 12)], [149, 150, 151, 152, 153, 154, 155, 156, 157, 158, 159, 160, 161], true), (14, [(149, 0), (150, 1), (151, 2), (152, 3), (153, 4), (154, 5), (155, 6), (156, 7), (157, 8), (158, 9), (159, 10), (160, 11), (161, 12), (162, 13)], [149, 150, 151, 152, 153, 154, 155, 156, 157, 158, 159, 160, 161, 162], false), (15, [(149, 0), (150, 1), (151, 2), (152, 3), (153, 4), (154, 5), (155, 6), (156, 7), (157, 8), (158, 9), (159, 10), (160, 11), (161, 12), (162, 13), (163, 14)], [149, 150, 151, 152, 153, 154, 155, 156, 157, 158, 159, 160, 161, 162, 163], false), (16, [(149, 0), (150, 1), (151, 2), (152, 3), (153, 4), (154, 5), (155, 6), (156, 7), (157, 8), (158, 9), (159, 10), (160, 11), (161, 12), (162, 13), (163, 14), (164, 15)], [149, 150, 151, 152, 153, 154, 155, 156, 157, 158, 159, 160, 161, 162, 163, 164, 166, 167, 168, 169], false), (17, [(149, 0), (150, 1), (151, 2), (152, 3), (153, 4), (154, 5), (155, 6), (156, 7), (157, 8), (158, 9), (159, 10), (160, 11), (161, 12), (162, 13), (163, 14), (164, 15)], [149, 150, 151, 152, 153, 154, 155, 156, 157, 158, 159, 160, 161, 162, 163, 164, 165], false), (18, [(149, 0), (150, 1), (151, 2), (152, 3), (153, 4), (154, 5), (155, 6), (156, 7), (157, 8), (158, 9), (159, 10), (160, 11), (161, 12), (162, 13), (163, 14), (164, 15), (166, 17)], [149, 150, 151, 152, 153, 154, 155, 156, 157, 158, 159, 160, 161, 162, 163, 164, 165, 166], false), (19, [(149, 0), (150, 1), (151, 2), (152, 3), (153, 4), (154, 5), (155, 6), (156, 7), (157, 8), (158, 9), (159, 10), (160, 11), (161, 12), (162, 13), (163, 14), (164, 15), (166, 17), (167, 18)], [149, 150, 151, 152, 153, 154, 155, 156, 157, 158, 159, 160, 161, 162, 163, 164, 165, 166, 167], false), (20, [(149, 0), (150, 1), (151, 2), (152, 3), (153, 4), (154, 5), (155, 6), (156, 7), (157, 8), (158, 9), (159, 10), (160, 11), (161, 12), (162, 13), (163, 14), (164, 15), (166, 17), (167, 18), (168, 19)], [149, 150, 151, 152, 153, 154, 155, 156, 157, 158, 159, 160, 161, 162, 163, 164, 165, 166, 167, 168], false), (21, [(149, 0), (150, 1), (151, 2), (152, 3), (153, 4), (154, 5), (155, 6), (156, 7), (157, 8), (158, 9), (159, 10), (160, 11), (161, 12), (162, 13), (163, 14), (164, 15), (165, 16), (166, 17), (167, 18), (168, 19), (169, 20)], [149, 150, 151, 152, 153, 154, 155, 156, 157, 158, 159, 160, 161, 162, 163, 164, 165, 166, 167, 168, 169], true), (22, [(149, 0), (150, 1), (151, 2), (152, 3), (153, 4), (154, 5), (155, 6), (156, 7), (157, 8), (158, 9), (159, 10), (160, 11), (161, 12), (162, 13), (163, 14), (164, 15), (165, 16), (166, 17), (167, 18), (168, 19), (169, 20), (170, 21)], [149, 150, 151, 152, 153, 154, 155, 156, 157, 158, 159, 160, 161, 162, 163, 164, 165, 166, 167, 168, 169, 170], false), (23, [(149, 0), (150, 1), (151, 2), (152, 3), (153, 4), (154, 5), (155, 6), (156, 7), (157, 8), (158, 9), (159, 10), (160, 11), (161, 12), (162, 13), (163, 14), (164, 15), (165, 16), (166, 17), (167, 18), (168, 19), (169, 20), (170, 21), (171, 22)], [149, 150, 151, 152, 153, 154, 155, 156, 157, 158, 159, 160, 161, 162, 163, 164, 165, 166, 167, 168, 169, 170, 171], false)]
        [(149, 0), (150, 1), (151, 2), (152, 3), (153, 4), (154, 5), (155, 6), (156, 7), (157, 8), (158, 9), (159, 10), (160, 11), (161, 12), (162, 13), (163, 14), (164, 15), (165, 16), (166, 17), (167, 18), (168, 19), (169, 20), (170, 21), (171, 22), (4, 23)]
        [(2, _), (3, _), (5, _)] rfl (by kernel_rfl)
      case hF => exact ⟨rfl, rfl, rfl, trivial⟩
      cases b
      all_goals (try (conv => whnf)); (repeat' ((fail_if_success (with_reducible refine And.intro ?_ ?_)); (fail_if_success (with_reducible refine Exists.intro ?_ ?_)); (first | ((with_reducible refine AX.id ?_); (first | (refine (he y0 (List.mem_of_getElem? hy0) _ _ (r0.grow g1)).mono ?_; (rintro _ X ⟨⟨bb, rfl, hb⟩, eX⟩; subst X; cases bb <;> (conv => whnf))) | (refine (hbl y1 (List.mem_of_getElem? hy1) _ _ (r1.grow g1)).mono ?_; (rintro _ X ⟨⟨bb, rfl, hb⟩, eX⟩; subst X; cases bb <;> (conv => whnf))))) | (refine step0 ?_) | (apply bIf.of <;> intro hc <;> (conv => whnf)))))
      all_goals refine ⟨⟨_, rfl, ?_⟩, g1⟩
      all_goals clear b1 a1 g1 l1 l2 rk1 R1 rk rn R he hbl i0 i1 j0 j1 f0 f1 r0 r1
      all_goals unfold StmtU
      all_goals try unfold PlainP at *
      all_goals (simp only [ba_ne_t, ba_ne_f, ba_eq_t, ba_eq_f, bne_iff_ne, bne_eq_false_iff_eq, decide_eq_true_eq, decide_eq_false_iff_not, beq_iff_eq, beq_eq_false_iff_ne, ne_eq, Bool.not_eq_true, Bool.not_eq_false, Bool.not_eq_true', Bool.not_eq_false'] at *)
      all_goals grind
    · have d1 : ((x.kids.length : Int) == 2) = false := by rw [beq_eq_false_iff_ne]; omega
      refine run ?_
      refine (plain_ax R1 _ _ _ _).mono ?_
      rintro _ X ⟨⟨b, rfl, hb⟩, e⟩
      subst X
      refine run ?_
      apply SW.drawG [(0, [], [], false), (1, [(149, 0)], [149], false), (2, [(149, 0), (150, 1)], [149, 150], false), (3, [(149, 0), (150, 1), (151, 2)], [149, 150, 151], false), (4, [(149, 0), (150, 1), (151, 2), (152, 3)], [149, 150, 151, 152], false), (5, [(149, 0), (150, 1), (151, 2), (152, 3), (153, 4)], [149, 150, 151, 152, 153], false), (6, [(149, 0), (150, 1), (151, 2), (152, 3), (153, 4), (154, 5)], [149, 150, 151, 152, 153, 154], false), (7, [(149, 0), (150, 1), (151, 2), (152, 3), (153, 4), (154, 5), (155, 6)], [149, 150, 151, 152, 153, 154, 155], false), (8, [(149, 0), (150, 1), (151, 2), (152, 3), (153, 4), (154, 5), (155, 6), (156, 7)], [149, 150, 151, 152, 153, 154, 155, 156, 158, 159, 160, 161], false), (9, [(149, 0), (150, 1), (151, 2), (152, 3), (153, 4), (154, 5), (155, 6), (156, 7)], [149, 150, 151, 152, 153, 154, 155, 156, 157], false), (10, [(149, 0), (150, 1), (151, 2), (152, 3), (153, 4), (154, 5), (155, 6), (156, 7), (158, 9)], [149, 150, 151, 152, 153, 154, 155, 156, 157, 158], false), (11, [(149, 0), (150, 1), (151, 2), (152, 3), (153, 4), (154, 5), (155, 6), (156, 7), (158, 9), (159, 10)], [149, 150, 151, 152, 153, 154, 155, 156, 157, 158, 159], false), (12, [(149, 0), (150, 1), (151, 2), (152, 3), (153, 4), (154, 5), (155, 6), (156, 7), (158, 9), (159, 10), (160, 11)], [149, 150, 151, 152, 153, 154, 155, 156, 157, 158, 159, 160], false), (13, [(149, 0), (150, 1), (151, 2), (152, 3), (153, 4), (154, 5), (155, 6), (156, 7), (157, 8), (158, 9), (159, 10), (160, 11), (161, 12)], [149, 150, 151, 152, 153, 154, 155, 156, 157, 158, 159, 160, 161], true), (14, [(149, 0), (150, 1), (151, 2), (152, 3), (153, 4), (154, 5), (155, 6), (156, 7), (157, 8), (158, 9), (159, 10), (160, 11), (161, 12), (162, 13)], [149, 150, 151, 152, 153, 154, 155, 156, 157, 158, 159, 160, 161, 162], false), (15, [(149, 0), (150, 1), (151, 2), (152, 3), (153, 4), (154, 5), (155, 6), (156, 7), (157, 8), (158, 9), (159, 10), (160, 11), (161, 12), (162, 13), (163, 14)], [149, 150, 151, 152, 153, 154, 155, 156, 157, 158, 159, 160, 161, 162, 163], false), (16, [(149, 0), (150, 1), (151, 2), (152, 3), (153, 4), (154, 5), (155, 6), (156, 7), (157, 8), (158, 9), (159, 10), (160, 11), (161, 12), (162, 13), (163, 14), (164, 15)], [149, 150, 151, 152, 153, 154, 155, 156, 157, 158, 159, 160, 161, 162, 163, 164, 166, 167, 168, 169], false), (17, [(149, 0), (150, 1), (151, 2), (152, 3), (153, 4), (154, 5), (155, 6), (156, 7), (157, 8), (158, 9), (159, 10), (160, 11), (161, 12), (162, 13), (163, 14), (164, 15)], [149, 150, 151, 152, 153, 154, 155, 156, 157, 158, 159, 160, 161, 162, 163, 164, 165], false), (18, [(149, 0), (150, 1), (151, 2), (152, 3), (153, 4), (154, 5), (155, 6), (156, 7), (157, 8), (158, 9), (159, 10), (160, 11), (161, 12), (162, 13), (163, 14), (164, 15), (166, 17)], [149, 150, 151, 152, 153, 154, 155, 156, 157, 158, 159, 160, 161, 162, 163, 164, 165, 166], false), (19, [(149, 0), (150, 1), (151, 2), (152, 3), (153, 4), (154, 5), (155, 6), (156, 7), (157, 8), (158, 9), (159, 10), (160, 11), (161, 12), (162, 13), (163, 14), (164, 15), (166, 17), (167, 18)], [149, 150, 151, 152, 153, 154, 155, 156, 157, 158, 159, 160, 161, 162, 163, 164, 165, 166, 167], false), (20, [(149, 0), (150, 1), (151, 2), (152, 3), (153, 4), (154, 5), (155, 6), (156, 7), (157, 8), (158, 9), (159, 10), (160, 11), (161, 12), (162, 13), (163, 14), (164, 15), (166, 17), (167, 18), (168, 19)], [149, 150, 151, 152, 153, 154, 155, 156, 157, 158, 159, 160, 161, 162, 163, 164, 165, 166, 167, 168], false), (21, [(149, 0), (150, 1), (151, 2), (152, 3), (153, 4), (154, 5), (155, 6), (156, 7), (157, 8), (158, 9), (159, 10), (160, 11), (161, 12), (162, 13), (163, 14), (164, 15), (165, 16), (166, 17), (167, 18), (168, 19), (169, 20)], [149, 150, 151, 152, 153, 154, 155, 156, 157, 158, 159, 160, 161, 162, 163, 164, 165, 166, 167, 168, 169], true), (22, [(149, 0), (150, 1), (151, 2), (152, 3), (153, 4), (154, 5), (155, 6), (156, 7), (157, 8), (158, 9), (159, 10), (160, 11), (161, 12), (162, 13), (163, 14), (164, 15), (165, 16), (166, 17), (167, 18), (168, 19), (169, 20), (170, 21)], [149, 150, 151, 152, 153, 154, 155, 156, 157, 158, 159, 160, 161, 162, 163, 164, 165, 166, 167, 168, 169, 170], false), (23, [(149, 0), (150, 1), (151, 2), (152, 3), (153, 4), (154, 5), (155, 6), (156, 7), (157, 8), (158, 9), (159, 10), (160, 11), (161, 12), (162, 13), (163, 14), (164, 15), (165, 16), (166, 17), (167, 18), (168, 19), (169, 20), (170, 21), (171, 22)], [149, 150, 151, 152, 153, 154, 155, 156, 157, 158, 159, 160, 161, 162, 163, 164, 165, 166, 167, 168, 169, 170, 171], false)]
        [(149, 0), (150, 1), (151, 2), (152, 3), (153, 4), (154, 5), (155, 6), (156, 7), (157, 8), (158, 9), (159, 10), (160, 11), (161, 12), (162, 13), (163, 14), (164, 15), (165, 16), (166, 17), (167, 18), (168, 19), (169, 20), (170, 21), (171, 22), (4, 23)]
        [(2, _), (3, _), (5, _)] rfl (by kernel_rfl)
      case hF => exact ⟨rfl, rfl, rfl, trivial⟩
      cases b
      all_goals (try (conv => whnf)); (repeat' ((fail_if_success (with_reducible refine And.intro ?_ ?_)); (fail_if_success (with_reducible refine Exists.intro ?_ ?_)); (first | (refine step0 ?_) | (apply bIf.of <;> intro hc <;> (conv => whnf)))))
      all_goals refine ⟨⟨_, rfl, ?_⟩, g1⟩
      all_goals clear b1 a1 g1 l1 l2 rk1 R1 rk rn R he hbl
      all_goals unfold StmtU
      all_goals try unfold PlainP at *
      all_goals (simp only [ba_ne_t, ba_ne_f, ba_eq_t, ba_eq_f, bne_iff_ne, bne_eq_false_iff_eq, decide_eq_true_eq, decide_eq_false_iff_not, beq_iff_eq, beq_eq_false_iff_ne, ne_eq, Bool.not_eq_true, Bool.not_eq_false, Bool.not_eq_true', Bool.not_eq_false'] at *)
      all_goals grind
  have e28 : (x.kind == 28) = false := by rw [beq_eq_false_iff_ne]; exact h28
  have e30 : (x.kind == 30) = false := by rw [beq_eq_false_iff_ne]; exact h30
  have hall : StmtU c x → ((∀ j y, x.kids[j]? = some y → RightU c y (wantU x.kind j)) ↔ ∀ y ∈ x.kids, RightU c y 1) := fun h => allU_iff fun j => by
    unfold StmtU at h
    unfold wantU
    rw [if_neg (by omega), if_neg (by omega)]
  rw [and_congr_right hall]
  clear hall
  (try (conv => whnf)); (repeat' ((fail_if_success (with_reducible refine And.intro ?_ ?_)); (fail_if_success (with_reducible refine Exists.intro ?_ ?_)); (first | ((with_reducible refine AX.id ?_); (first | (refine (plain_ax R1 _ _ _ _).mono ?_; (rintro _ X ⟨⟨bb, rfl, hb⟩, eX⟩; subst X; cases bb <;> (conv => whnf))) | (refine (isName_ax (by omega) _).mono ?_; (rintro _ X ⟨⟨bb, rfl, hb⟩, eX⟩; subst X; cases bb <;> (conv => whnf))) | (refine (exprsU_ax rk1 ow.2.2.2 _ _ he).mono ?_; (rintro _ X ⟨⟨bb, rfl, hb⟩, eX⟩; subst X; cases bb <;> (conv => whnf))))) | (refine step0 ?_) | (apply bIf.of <;> intro hc <;> (conv => whnf)))))
  all_goals refine ⟨⟨_, rfl, ?_⟩, g1⟩
  all_goals clear b1 a1 g1 l1 l2 rk1 R1 rk rn R he hbl
  all_goals unfold StmtU
  all_goals try unfold PlainP at *
  all_goals (simp only [ba_ne_t, ba_ne_f, ba_eq_t, ba_eq_f, bne_iff_ne, bne_eq_false_iff_eq, decide_eq_true_eq, decide_eq_false_iff_not, beq_iff_eq, beq_eq_false_iff_ne, ne_eq, Bool.not_eq_true, Bool.not_eq_false, Bool.not_eq_true', Bool.not_eq_false'] at *)
  all_goals grind
end Go.Proofs.Ytmdjepfpgmignaa
