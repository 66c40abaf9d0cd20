/- Right trees, plainly; names, and lists of right nodes. -/
import Derived.Test.YtmglmjbjgfbdjaaJCo1
set_option linter.unusedVariables false
set_option linter.unusedSimpArgs false
set_option maxRecDepth 20000
set_option maxHeartbeats 8000000
namespace Go.Proofs.Ytmglmjbjgfbdjaa
open Go Ax
def IdentP (s : ByteArray) : Prop := nameS s.data.toList = true
def NameP (s : ByteArray) : Prop := nameS s.data.toList = true ∧ keyS s.data.toList = false
def kindP (k : Int) : Int := if 1 ≤ k ∧ k ≤ 17 then 1 else if k = 29 then 3 else if 21 ≤ k ∧ k ≤ 32 then 2 else 0
def wantP (k : Int) (i : Nat) : Int := if k = 8 ∨ k = 29 then 2 else if 0 < i ∧ (k = 28 ∨ k = 30) then 3 else 1
def manyP (k op : Int) (n : Nat) : Int × Int :=
  if 1 ≤ k ∧ k ≤ 6 then (0, 0) else if k = 7 then (n, n) else if k = 8 ∨ k = 29 then (0, 40) else
  if k = 9 ∨ k = 13 ∨ k = 21 ∨ k = 22 ∨ k = 25 ∨ k = 27 ∨ k = 31 ∨ k = 32 then (1, 1) else
  if k = 10 ∨ k = 11 ∨ k = 12 ∨ k = 14 ∨ k = 23 ∨ k = 26 ∨ k = 30 then (2, 2) else
  if k = 15 ∨ k = 16 then (1, 7) else if k = 17 then (builtN op, builtN op) else if k = 24 ∨ k = 28 then (3, 3) else (-1, -1)
def propK (k : Int) : Prop := k = 13 ∨ k = 16 ∨ k = 23 ∨ k = 25
/-- Are a node's own fields those of its kind? -/
def FieldsP (x : Tr) : Prop :=
  (x.kind = 9 → 1 ≤ x.op ∧ x.op ≤ 2) ∧ (x.kind = 10 → 1 ≤ x.op ∧ x.op ≤ 11) ∧ (x.kind = 17 → 1 ≤ x.op ∧ x.op ≤ 7) ∧ (x.kind ≠ 9 → x.kind ≠ 10 → x.kind ≠ 17 → x.op = 0) ∧
  (x.kind = 2 → x.num = 0 ∨ x.num = 1) ∧ (x.kind = 3 → 0 ≤ x.num ∧ x.num ≤ 4611686018427387903) ∧ (x.kind ≠ 2 → x.kind ≠ 3 → x.num = 0) ∧
  (x.kind = 4 → x.str.size ≤ 256) ∧ ((x.kind = 5 ∨ x.kind = 21 ∨ x.kind = 22) → NameP x.str) ∧ (propK x.kind → IdentP x.str) ∧
  (¬ propK x.kind → x.kind ≠ 4 → x.kind ≠ 5 → x.kind ≠ 21 → x.kind ≠ 22 → x.str = ⟨#[]⟩) ∧
  (x.kind ≠ 7 → x.kind ≠ 8 → x.names.length = 0) ∧ (x.kind = 7 → x.names.length ≤ 40) ∧ (x.kind = 8 → x.names.length ≤ 6) ∧
  (∀ s ∈ x.names, IdentP s) ∧ (x.kind = 8 → ∀ s ∈ x.names, NameP s)
def OwnP (x : Tr) (az : Int) : Prop := kindP x.kind = az ∧ (manyP x.kind x.op x.names.length).1 ≤ x.kids.length ∧ 0 ≤ (manyP x.kind x.op x.names.length).1 ∧ (x.kids.length : Int) ≤ (manyP x.kind x.op x.names.length).2 ∧ FieldsP x
mutual
/-- Is a tree right: as an expression (1), a statement (2), a block (3)? -/
def RightT : Tr → Int → Prop
  | .mk k o n s ns ks p, az => OwnP (.mk k o n s ns ks p) az ∧ RightL k 0 ks
def RightL (k : Int) : Nat → List Tr → Prop
  | _, [] => True
  | i, t :: ts => RightT t (wantP k i) ∧ RightL k (i + 1) ts
end
theorem rightL_iff (k : Int) : ∀ (i : Nat) (ts : List Tr), RightL k i ts ↔ ∀ j y, ts[j]? = some y → RightT y (wantP k (i + j))
  | i, [] => by simp [RightL]
  | i, t :: ts => by
    rw [RightL, rightL_iff k (i + 1) ts]
    constructor
    · rintro ⟨h1, h2⟩ j y hy
      cases j with
      | zero => simp only [List.getElem?_cons_zero, Option.some.injEq] at hy; subst hy; exact h1
      | succ j => rw [List.getElem?_cons_succ] at hy; have := h2 j y hy; rwa [show i + 1 + j = i + (j + 1) from by omega] at this
    · intro h
      exact ⟨h 0 t rfl, fun j y hy => by have := h (j + 1) y (by rw [List.getElem?_cons_succ]; exact hy); rwa [show i + (j + 1) = i + 1 + j from by omega] at this⟩
theorem right_iff {x : Tr} {az : Int} : RightT x az ↔ OwnP x az ∧ ∀ j y, x.kids[j]? = some y → RightT y (wantP x.kind j) := by
  obtain ⟨k, o, n, s, ns, ks, p⟩ := x
  rw [RightT, rightL_iff]
  simp only [Nat.zero_add]
  exact Iff.rfl
theorem all_iff {ks : List Tr} {k w : Int} (h : ∀ j, wantP k j = w) : (∀ j y, ks[j]? = some y → RightT y (wantP k j)) ↔ ∀ y ∈ ks, RightT y w := by
  constructor
  · intro hh y hy
    obtain ⟨j, hj⟩ := List.getElem?_of_mem hy
    have := hh j y hj
    rwa [h j] at this
  · intro hh j y hy
    rw [h j]
    exact hh y (List.mem_of_getElem? hy)
theorem treeName_ax (H : Heap) {s : ByteArray} (hs : s.size ≤ 100000) : AX Try.prog 70 #[.string s] H (fun v H' => (∃ b, v = .bool b ∧ (b = true ↔ NameP s)) ∧ H' = H) := by
  refine AX.body (n := 10) (rs := [.tmp 2]) Try.func70 rfl (by decide) rfl rfl (bC_sound _ _ _ _ ?_)
  (try (conv => whnf)); (repeat' ((fail_if_success (with_reducible refine And.intro ?_ ?_)); (fail_if_success (with_reducible refine Exists.intro ?_ ?_)); (first | ((with_reducible refine AX.id ?_); (first | (refine (name_ax _ hs).mono ?_; (rintro _ X ⟨rfl, eX⟩; subst X; (conv => whnf))) | (refine (lxIsKey_ax _ _).mono ?_; (rintro _ X ⟨rfl, eX⟩; subst X; (conv => whnf))))) | (refine step0 ?_) | (apply bIf.of <;> intro hc <;> (conv => whnf)))))
  all_goals refine ⟨⟨_, rfl, ?_⟩, rfl⟩
  all_goals unfold NameP
  all_goals simp_all
theorem refName_ax (H : Heap) {s : ByteArray} (hs : s.size ≤ 100000) : AX Try.prog 65 #[.string s] H (fun v H' => (∃ b, v = .bool b ∧ (b = true ↔ NameP s)) ∧ H' = H) := by
  refine AX.body (n := 10) (rs := [.tmp 2]) Try.func65 rfl (by decide) rfl rfl (bC_sound _ _ _ _ ?_)
  (try (conv => whnf)); (repeat' ((fail_if_success (with_reducible refine And.intro ?_ ?_)); (fail_if_success (with_reducible refine Exists.intro ?_ ?_)); (first | ((with_reducible refine AX.id ?_); (first | (refine (rname_ax _ hs).mono ?_; (rintro _ X ⟨rfl, eX⟩; subst X; (conv => whnf))) | (refine (rxIsKey_ax _ _).mono ?_; (rintro _ X ⟨rfl, eX⟩; subst X; (conv => whnf))))) | (refine step0 ?_) | (apply bIf.of <;> intro hc <;> (conv => whnf)))))
  all_goals refine ⟨⟨_, rfl, ?_⟩, rfl⟩
  all_goals unfold NameP
  all_goals simp_all
/-- Are there at most so many names, and all right? -/
theorem names_ax {H : Heap} {u : Value} {L : List ByteArray} (hu : RL 1 strR H u L) (hL : L.length ≤ maxLen) (most : Int) (g : Nat) (P : ByteArray → Prop)
    (hg : ∀ s ∈ L, ∀ H', AX Try.prog g #[.string s] H' (fun v H'' => (∃ b, v = .bool b ∧ (b = true ↔ P s)) ∧ H'' = H')) :
    AX Try.prog 81 #[u, .int .i64 most, .func (.func g) #[] #[]] H (fun v H' => (∃ b, v = .bool b ∧ (b = true ↔ (L.length : Int) ≤ most ∧ ∀ s ∈ L, P s)) ∧ H' = H) := by
  refine AX.quiet ?_
  suffices hh : AX Try.prog 81 #[u, .int .i64 most, .func (.func g) #[] #[]] H (fun v H' => (∃ b, v = .bool b ∧ (b = true ↔ (L.length : Int) ≤ most ∧ ∀ s ∈ L, P s)) ∧ Grow H H') from hh.mono fun v _ ⟨⟨b, e, k⟩, g⟩ => ⟨e ▸ plain_bool _, ⟨b, e, k⟩, g⟩
  refine AX.body (n := 17) (rs := [.tmp 6]) Try.func81 rfl (by decide) rfl rfl (bC_sound _ _ _ _ ?_)
  (conv => whnf)
  refine Ob2.box rfl fun q H1 hq a1 g1 => ?_
  have b1 := hblk_of a1
  have l1 : alen Try.prog 22 u H1 = some (.int .i64 L.length) := hu.len rfl _
  by_cases hm : (L.length : Int) ≤ most
  · have d1 : decide ((L.length : Int) ≤ most) = true := decide_eq_true hm
    refine run ?_
    refine (containsS1 (strR.grow hu g1) hL 86 (.pointer (some ⟨q, 0, none⟩)) P (fun s hs => ?_)).mono ?_
    · refine AX.body (n := 8) (rs := [.tmp 3]) Try.func86 rfl (by decide) rfl rfl (bC_sound _ _ _ _ ?_)
      refine run ?_
      refine (hg s hs _).mono ?_
      rintro _ X ⟨⟨b, rfl, hb⟩, e⟩
      subst X
      cases b with
      | true =>
        refine run ?_
        exact ⟨⟨false, rfl, by simp [hb.1 rfl]⟩, rfl⟩
      | false =>
        refine run ?_
        exact ⟨⟨true, rfl, by simp only [true_iff]; intro h; exact absurd (hb.2 h) (by simp)⟩, rfl⟩
    · rintro _ X ⟨⟨b, rfl, hb⟩, e⟩
      subst X
      cases b with
      | true =>
        refine run ?_
        exact ⟨⟨false, rfl, by simp only [Bool.false_eq_true, false_iff]; exact fun h => hb.1 rfl h.2⟩, g1⟩
      | false =>
        refine run ?_
        exact ⟨⟨true, rfl, by simp only [true_iff]; exact ⟨hm, Classical.byContradiction fun h => absurd (hb.2 h) (by simp)⟩⟩, g1⟩
  · have d1 : decide ((L.length : Int) ≤ most) = false := decide_eq_false hm
    refine run ?_
    exact ⟨⟨false, rfl, by simp only [Bool.false_eq_true, false_iff]; exact fun h => hm h.1⟩, g1⟩
/-- What a check of nodes answers. -/
def ChecksN (f : Nat) (P : Tr → Prop) (x : Tr) : Prop := ∀ (H : Heap) (l : List Value), NodeR H l x → AX Try.prog f #[.agg l.toArray] H (fun v H' => (∃ b, v = .bool b ∧ (b = true ↔ P x)) ∧ H' = H)
theorem notExpr_ax {x : Tr} (h : ChecksN 73 (RightT · 1) x) : ChecksN 80 (fun x => ¬ RightT x 1) x := by
  intro H l R
  obtain ⟨ow, sn, sk, rfl, -, -⟩ := R.inv
  refine AX.quiet ?_
  suffices hh : AX Try.prog 80 #[.agg (nodeV x sn sk).toArray] H (fun v H' => (∃ b, v = .bool b ∧ (b = true ↔ ¬ RightT x 1)) ∧ Grow H H') from hh.mono fun v _ ⟨⟨b, e, k⟩, g⟩ => ⟨e ▸ plain_bool _, ⟨b, e, k⟩, g⟩
  refine AX.body (n := 6) (rs := [.tmp 2]) Try.func80 rfl (by decide) rfl rfl (bC_sound _ _ _ _ ?_)
  (conv => whnf)
  refine Ob2.box rfl fun q H1 hq a1 g1 => ?_
  have b1 := hblk_of a1
  refine run ?_
  refine (h _ _ (R.grow g1)).mono ?_
  rintro _ X ⟨⟨b, rfl, hb⟩, e⟩
  subst X
  cases b with
  | true =>
    refine run ?_
    exact ⟨⟨false, rfl, by simp [hb.1 rfl]⟩, g1⟩
  | false =>
    refine run ?_
    exact ⟨⟨true, rfl, by simp only [true_iff]; intro h; exact absurd (hb.2 h) (by simp)⟩, g1⟩
theorem notStmt_ax {x : Tr} (h : ChecksN 56 (RightT · 2) x) : ChecksN 55 (fun x => ¬ RightT x 2) x := by
  intro H l R
  obtain ⟨ow, sn, sk, rfl, -, -⟩ := R.inv
  refine AX.quiet ?_
  suffices hh : AX Try.prog 55 #[.agg (nodeV x sn sk).toArray] H (fun v H' => (∃ b, v = .bool b ∧ (b = true ↔ ¬ RightT x 2)) ∧ Grow H H') from hh.mono fun v _ ⟨⟨b, e, k⟩, g⟩ => ⟨e ▸ plain_bool _, ⟨b, e, k⟩, g⟩
  refine AX.body (n := 6) (rs := [.tmp 2]) Try.func55 rfl (by decide) rfl rfl (bC_sound _ _ _ _ ?_)
  (conv => whnf)
  refine Ob2.box rfl fun q H1 hq a1 g1 => ?_
  have b1 := hblk_of a1
  refine run ?_
  refine (h _ _ (R.grow g1)).mono ?_
  rintro _ X ⟨⟨b, rfl, hb⟩, e⟩
  subst X
  cases b with
  | true =>
    refine run ?_
    exact ⟨⟨false, rfl, by simp [hb.1 rfl]⟩, g1⟩
  | false =>
    refine run ?_
    exact ⟨⟨true, rfl, by simp only [true_iff]; intro h; exact absurd (hb.2 h) (by simp)⟩, g1⟩
theorem exprs_ax {H : Heap} {u : Value} {L : List Tr} (hu : RLo 7 NodeR H u L) (hL : L.length ≤ maxLen) (least most : Int) (hg : ∀ x ∈ L, ChecksN 73 (RightT · 1) x) :
    AX Try.prog 71 #[u, .int .i64 least, .int .i64 most] H (fun v H' => (∃ b, v = .bool b ∧ (b = true ↔ least ≤ L.length ∧ (L.length : Int) ≤ most ∧ ∀ x ∈ L, RightT x 1)) ∧ H' = H) := by
  refine AX.body (n := 22) (rs := [.tmp 6]) Try.func71 rfl (by decide) rfl rfl (bC_sound _ _ _ _ ?_)
  have l1 : alen Try.prog 23 u H = some (.int .i64 L.length) := hu.len rfl _
  (try (conv => whnf)); (repeat' ((fail_if_success (with_reducible refine And.intro ?_ ?_)); (fail_if_success (with_reducible refine Exists.intro ?_ ?_)); (first | ((with_reducible refine AX.id ?_); (first | (refine (containsN0 hu hL 80 (RightT · 1) (fun x hx l R => notExpr_ax (hg x hx) _ _ R)).mono ?_; (rintro _ X ⟨⟨bb, rfl, hb⟩, eX⟩; subst X; cases bb <;> (conv => whnf))))) | (refine step0 ?_) | (apply bIf.of <;> intro hc <;> (conv => whnf)))))
  all_goals refine ⟨⟨_, rfl, ?_⟩, rfl⟩
  all_goals clear l1
  all_goals (simp only [ba_ne_t, ba_ne_f, ba_eq_t, ba_eq_f, bne_iff_ne, bne_eq_false_iff_eq, decide_eq_true_eq, decide_eq_false_iff_not, beq_iff_eq, beq_eq_false_iff_ne, ne_eq, Bool.not_eq_true, Bool.not_eq_false, Bool.not_eq_true', Bool.not_eq_false'] at *)
  all_goals grind
theorem stmts_ax {H : Heap} {u : Value} {L : List Tr} (hu : RLo 7 NodeR H u L) (hL : L.length ≤ maxLen) (hg : ∀ x ∈ L, ChecksN 56 (RightT · 2) x) :
    AX Try.prog 37 #[u] H (fun v H' => (∃ b, v = .bool b ∧ (b = true ↔ (L.length : Int) ≤ 40 ∧ ∀ x ∈ L, RightT x 2)) ∧ H' = H) := by
  refine AX.body (n := 11) (rs := [.tmp 2]) Try.func37 rfl (by decide) rfl rfl (bC_sound _ _ _ _ ?_)
  have l1 : alen Try.prog 23 u H = some (.int .i64 L.length) := hu.len rfl _
  (try (conv => whnf)); (repeat' ((fail_if_success (with_reducible refine And.intro ?_ ?_)); (fail_if_success (with_reducible refine Exists.intro ?_ ?_)); (first | ((with_reducible refine AX.id ?_); (first | (refine (containsN0 hu hL 55 (RightT · 2) (fun x hx l R => notStmt_ax (hg x hx) _ _ R)).mono ?_; (rintro _ X ⟨⟨bb, rfl, hb⟩, eX⟩; subst X; cases bb <;> (conv => whnf))))) | (refine step0 ?_) | (apply bIf.of <;> intro hc <;> (conv => whnf)))))
  all_goals refine ⟨⟨_, rfl, ?_⟩, rfl⟩
  all_goals clear l1
  all_goals (simp only [ba_ne_t, ba_ne_f, ba_eq_t, ba_eq_f, bne_iff_ne, bne_eq_false_iff_eq, decide_eq_true_eq, decide_eq_false_iff_not, beq_iff_eq, beq_eq_false_iff_ne, ne_eq, Bool.not_eq_true, Bool.not_eq_false, Bool.not_eq_true', Bool.not_eq_false'] at *)
  all_goals grind
end Go.Proofs.Ytmglmjbjgfbdjaa
/- Package tree: is a node a right expression, statement, block? -/
set_option linter.unusedVariables false
set_option linter.unusedSimpArgs false
set_option maxRecDepth 20000
set_option maxHeartbeats 8000000
namespace Go.Proofs.Ytmglmjbjgfbdjaa
open Go Ax
theorem builtS_ne {a : Int} : builtS a ≠ ⟨#[]⟩ ↔ 1 ≤ a ∧ a ≤ 7 := by
  by_cases h : 1 ≤ a ∧ a ≤ 7
  · rcases seven h.1 h.2 with rfl | rfl | rfl | rfl | rfl | rfl | rfl <;> simp [builtS]
  · have hs : builtS a = .empty := by unfold builtS; rw [if_neg (by omega), if_neg (by omega), if_neg (by omega), if_neg (by omega), if_neg (by omega), if_neg (by omega), if_neg (by omega)]
    rw [hs]
    simp only [h, iff_false, ne_eq, Decidable.not_not]
    rfl
theorem signT_ne {a : Int} : signT a ≠ ⟨#[]⟩ ↔ 1 ≤ a ∧ a ≤ 11 := by
  by_cases h : 1 ≤ a ∧ a ≤ 11
  · rcases eleven h.1 h.2 with rfl | rfl | rfl | rfl | rfl | rfl | rfl | rfl | rfl | rfl | rfl <;> simp [signT]
  · rw [signT_out h]
    simp [h]
/-- What a right statement is, in short. -/
def StmtP (x : Tr) : Prop := BareP x true true false true ∧
  ((x.kind = 21 ∨ x.kind = 22) ∧ NameP x.str ∧ x.kids.length = 1 ∨ x.kind = 23 ∧ IdentP x.str ∧ x.kids.length = 2 ∨ x.kind = 25 ∧ IdentP x.str ∧ x.kids.length = 1 ∨
    x.str = ⟨#[]⟩ ∧ (x.kind = 24 ∧ x.kids.length = 3 ∨ x.kind = 26 ∧ x.kids.length = 2 ∨ (x.kind = 27 ∨ x.kind = 31 ∨ x.kind = 32) ∧ x.kids.length = 1 ∨ x.kind = 28 ∧ x.kids.length = 3 ∨ x.kind = 30 ∧ x.kids.length = 2))
theorem noNames {L : List ByteArray} {P : ByteArray → Prop} (h : L.length = 0) : ∀ s ∈ L, P s := by
  rw [List.length_eq_zero_iff.1 h]; simp
theorem own2_iff (x : Tr) : OwnP x 2 ↔ StmtP x := by
  by_cases hk : x.kind = 21 ∨ x.kind = 22 ∨ x.kind = 23 ∨ x.kind = 24 ∨ x.kind = 25 ∨ x.kind = 26 ∨ x.kind = 27 ∨ x.kind = 28 ∨ x.kind = 30 ∨ x.kind = 31 ∨ x.kind = 32
  · have hn : x.names.length = 0 → ∀ s ∈ x.names, IdentP s := fun h => noNames h
    unfold OwnP StmtP FieldsP BareP kindP manyP propK
    rcases hk with h | h | h | h | h | h | h | h | h | h | h <;> simp only [h] <;> simp <;> grind
  · have h1 : ¬ kindP x.kind = 2 := by unfold kindP; (repeat' split) <;> omega
    unfold OwnP StmtP
    constructor
    · exact fun h => absurd h.1 h1
    · intro h; grind
theorem stmt_ax {x : Tr} (tx : Tidy x) (he : ∀ k ∈ x.kids, ChecksN 73 (RightT · 1) k) (hbl : ∀ k ∈ x.kids, ChecksN 26 (RightT · 3) k) : ChecksN 56 (RightT · 2) x := by
  intro H l R
  obtain ⟨ow, sn, sk, rfl, rn, rk⟩ := R.inv
  refine AX.quiet ?_
  suffices hh : AX Try.prog 56 #[.agg (nodeV x sn sk).toArray] H (fun v H' => (∃ b, v = .bool b ∧ (b = true ↔ RightT x 2)) ∧ Grow H H') from hh.mono fun v _ ⟨⟨b, e, k⟩, g⟩ => ⟨e ▸ plain_bool _, ⟨b, e, k⟩, g⟩
  refine AX.body (n := 108) (rs := [.tmp 2]) Try.func56 rfl (by decide) rfl rfl (bC_sound _ _ _ _ ?_)
  (conv => whnf)
  refine Ob2.box rfl fun q H1 hq a1 g1 => ?_
  have b1 := hblk_of a1
  have rk1 := NodeR.grows rk g1
  have R1 := R.grow g1
  have l1 : alen Try.prog 22 sn H1 = some (.int .i64 x.names.length) := rn.len rfl _
  have l2 : alen Try.prog 23 sk H1 = some (.int .i64 x.kids.length) := rk.len rfl _
  have t1 := tx.str
  rw [right_iff, own2_iff]
  by_cases h28 : x.kind = 28
  · have e1 : (x.kind == 21) = false := by rw [h28]; rfl
    have e2 : (x.kind == 22) = false := by rw [h28]; rfl
    have e3 : (x.kind == 23) = false := by rw [h28]; rfl
    have e4 : (x.kind == 25) = false := by rw [h28]; rfl
    have e5 : (x.kind == 24) = false := by rw [h28]; rfl
    have e6 : (x.kind == 26) = false := by rw [h28]; rfl
    have e7 : (x.kind == 27) = false := by rw [h28]; rfl
    have e8 : (x.kind == 31) = false := by rw [h28]; rfl
    have e9 : (x.kind == 32) = false := by rw [h28]; rfl
    have e10 : (x.kind == 28) = true := by rw [h28]; rfl
    by_cases hl : x.kids.length = 3
    · obtain ⟨y0, hy0⟩ := get_lt (L := x.kids) (m := 0) (by omega)
      obtain ⟨y1, hy1⟩ := get_lt (L := x.kids) (m := 1) (by omega)
      obtain ⟨y2, hy2⟩ := get_lt (L := x.kids) (m := 2) (by omega)
      obtain ⟨p0, z0, i0, r0, f0⟩ := ld_node rk hy0
      obtain ⟨p1, z1, i1, r1, f1⟩ := ld_node rk hy1
      obtain ⟨p2, z2, i2, r2, f2⟩ := ld_node rk hy2
      have j0 := f0 H1 g1
      have i0 : aindexAddr Try.prog 23 sk (.int .i64 0) = some p0 := i0
      have j1 := f1 H1 g1
      have i1 : aindexAddr Try.prog 23 sk (.int .i64 1) = some p1 := i1
      have j2 := f2 H1 g1
      have i2 : aindexAddr Try.prog 23 sk (.int .i64 2) = some p2 := i2
      have d1 : ((x.kids.length : Int) == 3) = true := by rw [hl]; rfl
      have hall : (∀ (j : Nat) (y : Tr), x.kids[j]? = some y → RightT y (wantP x.kind j)) ↔ RightT y0 1 ∧ RightT y1 3 ∧ RightT y2 3 := by
        rw [h28]
        constructor
        · exact fun h => ⟨h 0 y0 hy0, h 1 y1 hy1, h 2 y2 hy2⟩
        · rintro ⟨k0, k1, k2⟩ j y hy
          have := lt_of_get hy
          have hj : j = 0 ∨ j = 1 ∨ j = 2 := by omega
          rcases hj with rfl | rfl | rfl
          · rw [hy0] at hy; cases hy; exact k0
          · rw [hy1] at hy; cases hy; exact k1
          · rw [hy2] at hy; cases hy; exact k2
      rw [hall]
      (try (conv => whnf)); (repeat' ((fail_if_success (with_reducible refine And.intro ?_ ?_)); (fail_if_success (with_reducible refine Exists.intro ?_ ?_)); (first | ((with_reducible refine AX.id ?_); (first | (refine (bare_ax R1 _ _ _ _).mono ?_; (rintro _ X ⟨⟨bb, rfl, hb⟩, eX⟩; subst X; cases bb <;> (conv => whnf))) | (refine (he y0 (List.mem_of_getElem? hy0) _ _ (r0.grow g1)).mono ?_; (rintro _ X ⟨⟨bb, rfl, hb⟩, eX⟩; subst X; cases bb <;> (conv => whnf))) | (refine (hbl y1 (List.mem_of_getElem? hy1) _ _ (r1.grow g1)).mono ?_; (rintro _ X ⟨⟨bb, rfl, hb⟩, eX⟩; subst X; cases bb <;> (conv => whnf))) | (refine (hbl y2 (List.mem_of_getElem? hy2) _ _ (r2.grow g1)).mono ?_; (rintro _ X ⟨⟨bb, rfl, hb⟩, eX⟩; subst X; cases bb <;> (conv => whnf))))) | (refine step0 ?_) | (apply bIf.of <;> intro hc <;> (conv => whnf)))))
      all_goals refine ⟨⟨_, rfl, ?_⟩, g1⟩
      all_goals clear b1 a1 g1 l1 l2 rk1 R1 rk rn R he hbl i0 i1 i2 j0 j1 j2 f0 f1 f2 r0 r1 r2
      all_goals unfold StmtP
      all_goals try unfold BareP at *
      all_goals (simp only [ba_ne_t, ba_ne_f, ba_eq_t, ba_eq_f, bne_iff_ne, bne_eq_false_iff_eq, decide_eq_true_eq, decide_eq_false_iff_not, beq_iff_eq, beq_eq_false_iff_ne, ne_eq, Bool.not_eq_true, Bool.not_eq_false, Bool.not_eq_true', Bool.not_eq_false'] at *)
      all_goals grind
    · have d1 : ((x.kids.length : Int) == 3) = false := by rw [beq_eq_false_iff_ne]; omega
      (try (conv => whnf)); (repeat' ((fail_if_success (with_reducible refine And.intro ?_ ?_)); (fail_if_success (with_reducible refine Exists.intro ?_ ?_)); (first | ((with_reducible refine AX.id ?_); (first | (refine (bare_ax R1 _ _ _ _).mono ?_; (rintro _ X ⟨⟨bb, rfl, hb⟩, eX⟩; subst X; cases bb <;> (conv => whnf))))) | (refine step0 ?_) | (apply bIf.of <;> intro hc <;> (conv => whnf)))))
      all_goals refine ⟨⟨_, rfl, ?_⟩, g1⟩
      all_goals clear b1 a1 g1 l1 l2 rk1 R1 rk rn R he hbl
      all_goals unfold StmtP
      all_goals try unfold BareP at *
      all_goals (simp only [ba_ne_t, ba_ne_f, ba_eq_t, ba_eq_f, bne_iff_ne, bne_eq_false_iff_eq, decide_eq_true_eq, decide_eq_false_iff_not, beq_iff_eq, beq_eq_false_iff_ne, ne_eq, Bool.not_eq_true, Bool.not_eq_false, Bool.not_eq_true', Bool.not_eq_false'] at *)
      all_goals grind
  by_cases h30 : x.kind = 30
  · have e1 : (x.kind == 21) = false := by rw [h30]; rfl
    have e2 : (x.kind == 22) = false := by rw [h30]; rfl
    have e3 : (x.kind == 23) = false := by rw [h30]; rfl
    have e4 : (x.kind == 25) = false := by rw [h30]; rfl
    have e5 : (x.kind == 24) = false := by rw [h30]; rfl
    have e6 : (x.kind == 26) = false := by rw [h30]; rfl
    have e7 : (x.kind == 27) = false := by rw [h30]; rfl
    have e8 : (x.kind == 31) = false := by rw [h30]; rfl
    have e9 : (x.kind == 32) = false := by rw [h30]; rfl
    have e10 : (x.kind == 28) = false := by rw [h30]; rfl
    have e11 : (x.kind == 30) = true := by rw [h30]; rfl
    by_cases hl : x.kids.length = 2
    · obtain ⟨y0, hy0⟩ := get_lt (L := x.kids) (m := 0) (by omega)
      obtain ⟨y1, hy1⟩ := get_lt (L := x.kids) (m := 1) (by omega)
      obtain ⟨p0, z0, i0, r0, f0⟩ := ld_node rk hy0
      obtain ⟨p1, z1, i1, r1, f1⟩ := ld_node rk hy1
      have j0 := f0 H1 g1
      have i0 : aindexAddr Try.prog 23 sk (.int .i64 0) = some p0 := i0
      have j1 := f1 H1 g1
      have i1 : aindexAddr Try.prog 23 sk (.int .i64 1) = some p1 := i1
      have d1 : ((x.kids.length : Int) == 2) = true := by rw [hl]; rfl
      have hall : (∀ (j : Nat) (y : Tr), x.kids[j]? = some y → RightT y (wantP x.kind j)) ↔ RightT y0 1 ∧ RightT y1 3 := by
        rw [h30]
        constructor
        · exact fun h => ⟨h 0 y0 hy0, h 1 y1 hy1⟩
        · rintro ⟨k0, k1⟩ j y hy
          have := lt_of_get hy
          have hj : j = 0 ∨ j = 1 := by omega
          rcases hj with rfl | rfl
          · rw [hy0] at hy; cases hy; exact k0
          · rw [hy1] at hy; cases hy; exact k1
      rw [hall]
      (try (conv => whnf)); (repeat' ((fail_if_success (with_reducible refine And.intro ?_ ?_)); (fail_if_success (with_reducible refine Exists.intro ?_ ?_)); (first | ((with_reducible refine AX.id ?_); (first | (refine (bare_ax R1 _ _ _ _).mono ?_; (rintro _ X ⟨⟨bb, rfl, hb⟩, eX⟩; subst X; cases bb <;> (conv => whnf))) | (refine (he y0 (List.mem_of_getElem? hy0) _ _ (r0.grow g1)).mono ?_; (rintro _ X ⟨⟨bb, rfl, hb⟩, eX⟩; subst X; cases bb <;> (conv => whnf))) | (refine (hbl y1 (List.mem_of_getElem? hy1) _ _ (r1.grow g1)).mono ?_; (rintro _ X ⟨⟨bb, rfl, hb⟩, eX⟩; subst X; cases bb <;> (conv => whnf))))) | (refine step0 ?_) | (apply bIf.of <;> intro hc <;> (conv => whnf)))))
      all_goals refine ⟨⟨_, rfl, ?_⟩, g1⟩
      all_goals clear b1 a1 g1 l1 l2 rk1 R1 rk rn R he hbl i0 i1 j0 j1 f0 f1 r0 r1
      all_goals unfold StmtP
      all_goals try unfold BareP at *
      all_goals (simp only [ba_ne_t, ba_ne_f, ba_eq_t, ba_eq_f, bne_iff_ne, bne_eq_false_iff_eq, decide_eq_true_eq, decide_eq_false_iff_not, beq_iff_eq, beq_eq_false_iff_ne, ne_eq, Bool.not_eq_true, Bool.not_eq_false, Bool.not_eq_true', Bool.not_eq_false'] at *)
      all_goals grind
    · have d1 : ((x.kids.length : Int) == 2) = false := by rw [beq_eq_false_iff_ne]; omega
      (try (conv => whnf)); (repeat' ((fail_if_success (with_reducible refine And.intro ?_ ?_)); (fail_if_success (with_reducible refine Exists.intro ?_ ?_)); (first | ((with_reducible refine AX.id ?_); (first | (refine (bare_ax R1 _ _ _ _).mono ?_; (rintro _ X ⟨⟨bb, rfl, hb⟩, eX⟩; subst X; cases bb <;> (conv => whnf))))) | (refine step0 ?_) | (apply bIf.of <;> intro hc <;> (conv => whnf)))))
      all_goals refine ⟨⟨_, rfl, ?_⟩, g1⟩
      all_goals clear b1 a1 g1 l1 l2 rk1 R1 rk rn R he hbl
      all_goals unfold StmtP
      all_goals try unfold BareP at *
      all_goals (simp only [ba_ne_t, ba_ne_f, ba_eq_t, ba_eq_f, bne_iff_ne, bne_eq_false_iff_eq, decide_eq_true_eq, decide_eq_false_iff_not, beq_iff_eq, beq_eq_false_iff_ne, ne_eq, Bool.not_eq_true, Bool.not_eq_false, Bool.not_eq_true', Bool.not_eq_false'] at *)
      all_goals grind
  have e28 : (x.kind == 28) = false := by rw [beq_eq_false_iff_ne]; exact h28
  have e30 : (x.kind == 30) = false := by rw [beq_eq_false_iff_ne]; exact h30
  have hall : StmtP x → ((∀ j y, x.kids[j]? = some y → RightT y (wantP x.kind j)) ↔ ∀ y ∈ x.kids, RightT y 1) := fun h => all_iff fun j => by
    unfold StmtP at h
    unfold wantP
    rw [if_neg (by omega), if_neg (by omega)]
  rw [and_congr_right hall]
  clear hall
  (try (conv => whnf)); (repeat' ((fail_if_success (with_reducible refine And.intro ?_ ?_)); (fail_if_success (with_reducible refine Exists.intro ?_ ?_)); (first | ((with_reducible refine AX.id ?_); (first | (refine (bare_ax R1 _ _ _ _).mono ?_; (rintro _ X ⟨⟨bb, rfl, hb⟩, eX⟩; subst X; cases bb <;> (conv => whnf))) | (refine (treeName_ax _ (by omega)).mono ?_; (rintro _ X ⟨⟨bb, rfl, hb⟩, eX⟩; subst X; cases bb <;> (conv => whnf))) | (refine (name_ax _ (by omega)).mono ?_; (rintro _ X ⟨rfl, eX⟩; subst X; (conv => whnf))) | (refine (exprs_ax rk1 ow.2.2.2 _ _ he).mono ?_; (rintro _ X ⟨⟨bb, rfl, hb⟩, eX⟩; subst X; cases bb <;> (conv => whnf))))) | (refine step0 ?_) | (apply bIf.of <;> intro hc <;> (conv => whnf)))))
  all_goals refine ⟨⟨_, rfl, ?_⟩, g1⟩
  all_goals clear b1 a1 g1 l1 l2 rk1 R1 rk rn R he hbl
  all_goals unfold StmtP IdentP
  all_goals try unfold BareP at *
  all_goals (simp only [ba_ne_t, ba_ne_f, ba_eq_t, ba_eq_f, bne_iff_ne, bne_eq_false_iff_eq, decide_eq_true_eq, decide_eq_false_iff_not, beq_iff_eq, beq_eq_false_iff_ne, ne_eq, Bool.not_eq_true, Bool.not_eq_false, Bool.not_eq_true', Bool.not_eq_false'] at *)
  all_goals grind
end Go.Proofs.Ytmglmjbjgfbdjaa
/- Package tree: expr, block, Check. -/
set_option linter.unusedVariables false
set_option linter.unusedSimpArgs false
set_option maxRecDepth 20000
set_option maxHeartbeats 8000000
namespace Go.Proofs.Ytmglmjbjgfbdjaa
open Go Ax
/-- What a right expression is, in short. -/
def ExprP (x : Tr) : Prop :=
  ((x.kind = 1 ∨ x.kind = 6) ∧ BareP x true true true true ∧ x.kids.length = 0) ∨
  (x.kind = 2 ∧ BareP x true false true true ∧ (x.num = 0 ∨ x.num = 1) ∧ x.kids.length = 0) ∨
  (x.kind = 3 ∧ BareP x true false true true ∧ 0 ≤ x.num ∧ x.num ≤ 4611686018427387903 ∧ x.kids.length = 0) ∨
  (x.kind = 4 ∧ BareP x true true false true ∧ x.str.size ≤ 256 ∧ x.kids.length = 0) ∨
  (x.kind = 5 ∧ BareP x true true false true ∧ NameP x.str ∧ x.kids.length = 0) ∨
  (x.kind = 7 ∧ BareP x true true true false ∧ x.names.length ≤ 40 ∧ (∀ s ∈ x.names, IdentP s) ∧ x.kids.length = x.names.length) ∨
  (x.kind = 8 ∧ BareP x true true true false ∧ x.names.length ≤ 6 ∧ (∀ s ∈ x.names, NameP s) ∧ x.kids.length ≤ 40) ∨
  (x.kind = 9 ∧ BareP x false true true true ∧ (x.op = 1 ∨ x.op = 2) ∧ x.kids.length = 1) ∨
  (x.kind = 10 ∧ BareP x false true true true ∧ 1 ≤ x.op ∧ x.op ≤ 11 ∧ x.kids.length = 2) ∨
  ((x.kind = 11 ∨ x.kind = 12 ∨ x.kind = 14) ∧ BareP x true true true true ∧ x.kids.length = 2) ∨
  (x.kind = 13 ∧ BareP x true true false true ∧ IdentP x.str ∧ x.kids.length = 1) ∨
  (x.kind = 15 ∧ BareP x true true true true ∧ 1 ≤ x.kids.length ∧ x.kids.length ≤ 7) ∨
  (x.kind = 16 ∧ BareP x true true false true ∧ IdentP x.str ∧ 1 ≤ x.kids.length ∧ x.kids.length ≤ 7) ∨
  (x.kind = 17 ∧ BareP x false true true true ∧ 1 ≤ x.op ∧ x.op ≤ 7 ∧ (x.kids.length : Int) = builtN x.op)
theorem builtN_nn (a : Int) : 0 ≤ builtN a := by unfold builtN; (repeat' split) <;> omega
theorem ExprP.kind {x : Tr} (h : ExprP x) : 1 ≤ x.kind ∧ x.kind ≤ 17 := by
  unfold ExprP at h
  rcases h with h | h | h | h | h | h | h | h | h | h | h | h | h | h <;> omega
theorem own1_iff (x : Tr) : OwnP x 1 ↔ ExprP x := by
  by_cases hk : 1 ≤ x.kind ∧ x.kind ≤ 17
  · have hn : x.names.length = 0 → ∀ s ∈ x.names, IdentP s := fun h => noNames h
    have hi : (∀ s ∈ x.names, NameP s) → ∀ s ∈ x.names, IdentP s := fun h s hs => (h s hs).1
    have hb := builtN_nn x.op
    have hc : x.kind = 1 ∨ x.kind = 2 ∨ x.kind = 3 ∨ x.kind = 4 ∨ x.kind = 5 ∨ x.kind = 6 ∨ x.kind = 7 ∨ x.kind = 8 ∨ x.kind = 9 ∨ x.kind = 10 ∨ x.kind = 11 ∨ x.kind = 12 ∨ x.kind = 13 ∨ x.kind = 14 ∨ x.kind = 15 ∨ x.kind = 16 ∨ x.kind = 17 := by omega
    unfold OwnP ExprP FieldsP BareP kindP manyP propK
    rcases hc with h | h | h | h | h | h | h | h | h | h | h | h | h | h | h | h | h <;> simp only [h] <;> simp <;> grind
  · have h1 : ¬ kindP x.kind = 1 := by unfold kindP; (repeat' split) <;> omega
    unfold OwnP
    exact ⟨fun h => absurd h.1 h1, fun h => absurd h.kind hk⟩
theorem isName_ax {s : ByteArray} (hs : s.size ≤ 100000) (H : Heap) : AX Try.prog 72 #[.string s] H (fun v H' => (∃ b, v = .bool b ∧ (b = true ↔ IdentP s)) ∧ H' = H) :=
  (name_ax H hs).mono fun v H' ⟨h1, h2⟩ => ⟨⟨_, h1, Iff.rfl⟩, h2⟩
theorem expr_ax {x : Tr} (tx : Tidy x) (he : ∀ k ∈ x.kids, ChecksN 73 (RightT · 1) k) (hs : ∀ k ∈ x.kids, ChecksN 56 (RightT · 2) k) : ChecksN 73 (RightT · 1) x := by
  intro H l R
  obtain ⟨ow, sn, sk, rfl, rn, rk⟩ := R.inv
  refine AX.quiet ?_
  suffices hh : AX Try.prog 73 #[.agg (nodeV x sn sk).toArray] H (fun v H' => (∃ b, v = .bool b ∧ (b = true ↔ RightT x 1)) ∧ Grow H H') from hh.mono fun v _ ⟨⟨b, e, k⟩, g⟩ => ⟨e ▸ plain_bool _, ⟨b, e, k⟩, g⟩
  refine AX.body (n := 226) (rs := [.tmp 2]) Try.func73 rfl (by decide) rfl rfl (bC_sound _ _ _ _ ?_)
  (conv => whnf)
  refine Ob2.box rfl fun q H1 hq a1 g1 => ?_
  have b1 := hblk_of a1
  have rk1 := NodeR.grows rk g1
  have rn1 := strR.grow rn g1
  have R1 := R.grow g1
  have l1 : alen Try.prog 22 sn H1 = some (.int .i64 x.names.length) := rn.len rfl _
  have l2 : alen Try.prog 23 sk H1 = some (.int .i64 x.kids.length) := rk.len rfl _
  have t1 := tx.str
  rw [right_iff, own1_iff]
  have hall : ExprP x → ((∀ j y, x.kids[j]? = some y → RightT y (wantP x.kind j)) ↔ (x.kind = 8 → ∀ y ∈ x.kids, RightT y 2) ∧ (x.kind ≠ 8 → ∀ y ∈ x.kids, RightT y 1)) := fun h => by
    have hk := h.kind
    by_cases h8 : x.kind = 8
    · have := all_iff (ks := x.kids) (k := x.kind) (w := 2) fun j => by unfold wantP; rw [if_pos (.inl h8)]
      rw [this]
      simp [h8]
    · have := all_iff (ks := x.kids) (k := x.kind) (w := 1) fun j => by unfold wantP; rw [if_neg (by omega), if_neg (by omega)]
      rw [this]
      simp [h8]
  rw [and_congr_right hall]
  clear hall
  have hN := names_ax rn1 ow.2.1 40 72 IdentP fun s hs _ => isName_ax (by have := tx.name s hs; omega) _
  have hP := names_ax rn1 ow.2.1 6 70 NameP fun s hs _ => treeName_ax _ (by have := tx.name s hs; omega)
  (try (conv => whnf)); (repeat' ((fail_if_success (with_reducible refine And.intro ?_ ?_)); (fail_if_success (with_reducible refine Exists.intro ?_ ?_)); (first | ((with_reducible refine AX.id ?_); (first | (refine (bare_ax R1 _ _ _ _).mono ?_; (rintro _ X ⟨⟨bb, rfl, hb⟩, eX⟩; subst X; cases bb <;> (conv => whnf))) | (refine (treeName_ax _ (by omega)).mono ?_; (rintro _ X ⟨⟨bb, rfl, hb⟩, eX⟩; subst X; cases bb <;> (conv => whnf))) | (refine (isName_ax (by omega) _).mono ?_; (rintro _ X ⟨⟨bb, rfl, hb⟩, eX⟩; subst X; cases bb <;> (conv => whnf))) | (refine (exprs_ax rk1 ow.2.2.2 _ _ he).mono ?_; (rintro _ X ⟨⟨bb, rfl, hb⟩, eX⟩; subst X; cases bb <;> (conv => whnf))) | (refine (stmts_ax rk1 ow.2.2.2 hs).mono ?_; (rintro _ X ⟨⟨bb, rfl, hb⟩, eX⟩; subst X; cases bb <;> (conv => whnf))) | (refine (hN).mono ?_; (rintro _ X ⟨⟨bb, rfl, hb⟩, eX⟩; subst X; cases bb <;> (conv => whnf))) | (refine (hP).mono ?_; (rintro _ X ⟨⟨bb, rfl, hb⟩, eX⟩; subst X; cases bb <;> (conv => whnf))) | (refine (sign_ax _ _).mono ?_; (rintro _ X ⟨rfl, eX⟩; subst X; (conv => whnf))) | (refine (built_ax _ _).mono ?_; (rintro _ X ⟨rfl, eX⟩; subst X; (conv => whnf))))) | (refine step0 ?_) | (apply bIf.of <;> intro hc <;> (conv => whnf)))))
  all_goals refine ⟨⟨_, rfl, ?_⟩, g1⟩
  all_goals clear b1 a1 g1 l1 l2 rk1 R1 rk rn R he hs hN hP
  all_goals unfold ExprP
  all_goals try unfold BareP at *
  all_goals have hsn := @signT_ne x.op
  all_goals have hbn := @builtS_ne x.op
  all_goals (simp only [ba_ne_t, ba_ne_f, ba_eq_t, ba_eq_f, bne_iff_ne, bne_eq_false_iff_eq, decide_eq_true_eq, decide_eq_false_iff_not, beq_iff_eq, beq_eq_false_iff_ne, ne_eq, Bool.not_eq_true, Bool.not_eq_false, Bool.not_eq_true', Bool.not_eq_false'] at *)
  all_goals grind (splits := 40)
end Go.Proofs.Ytmglmjbjgfbdjaa
/- Package tree: block, Check. -/
set_option linter.unusedVariables false
set_option linter.unusedSimpArgs false
set_option maxRecDepth 20000
set_option maxHeartbeats 8000000
namespace Go.Proofs.Ytmglmjbjgfbdjaa
open Go Ax
theorem own3_iff (x : Tr) : OwnP x 3 ↔ x.kind = 29 ∧ BareP x true true true true ∧ x.kids.length ≤ 40 := by
  have hn : x.names.length = 0 → ∀ s ∈ x.names, IdentP s := fun h => noNames h
  by_cases h : x.kind = 29
  · unfold OwnP FieldsP BareP kindP manyP propK
    simp only [h]
    simp
    grind
  · have h1 : ¬ kindP x.kind = 3 := by unfold kindP; (repeat' split) <;> omega
    unfold OwnP
    exact ⟨fun h => absurd h.1 h1, fun hh => absurd hh.1 h⟩
theorem block_ax {x : Tr} (hs : ∀ k ∈ x.kids, ChecksN 56 (RightT · 2) k) : ChecksN 26 (RightT · 3) x := by
  intro H l R
  obtain ⟨ow, sn, sk, rfl, rn, rk⟩ := R.inv
  refine AX.quiet ?_
  suffices hh : AX Try.prog 26 #[.agg (nodeV x sn sk).toArray] H (fun v H' => (∃ b, v = .bool b ∧ (b = true ↔ RightT x 3)) ∧ Grow H H') from hh.mono fun v _ ⟨⟨b, e, k⟩, g⟩ => ⟨e ▸ plain_bool _, ⟨b, e, k⟩, g⟩
  refine AX.body (n := 15) (rs := [.tmp 2]) Try.func26 rfl (by decide) rfl rfl (bC_sound _ _ _ _ ?_)
  (conv => whnf)
  refine Ob2.box rfl fun q H1 hq a1 g1 => ?_
  have b1 := hblk_of a1
  have rk1 := NodeR.grows rk g1
  have R1 := R.grow g1
  rw [right_iff, own3_iff]
  have hall : (x.kind = 29 ∧ BareP x true true true true ∧ x.kids.length ≤ 40) → ((∀ j y, x.kids[j]? = some y → RightT y (wantP x.kind j)) ↔ ∀ y ∈ x.kids, RightT y 2) := fun h => all_iff fun j => by
    unfold wantP
    rw [if_pos (.inr h.1)]
  rw [and_congr_right hall]
  clear hall
  (try (conv => whnf)); (repeat' ((fail_if_success (with_reducible refine And.intro ?_ ?_)); (fail_if_success (with_reducible refine Exists.intro ?_ ?_)); (first | ((with_reducible refine AX.id ?_); (first | (refine (bare_ax R1 _ _ _ _).mono ?_; (rintro _ X ⟨⟨bb, rfl, hb⟩, eX⟩; subst X; cases bb <;> (conv => whnf))) | (refine (stmts_ax rk1 ow.2.2.2 hs).mono ?_; (rintro _ X ⟨⟨bb, rfl, hb⟩, eX⟩; subst X; cases bb <;> (conv => whnf))))) | (refine step0 ?_) | (apply bIf.of <;> intro hc <;> (conv => whnf)))))
  all_goals refine ⟨⟨_, rfl, ?_⟩, g1⟩
  all_goals clear b1 a1 g1 rk1 R1 rk rn R hs
  all_goals (simp only [ba_ne_t, ba_ne_f, ba_eq_t, ba_eq_f, bne_iff_ne, bne_eq_false_iff_eq, decide_eq_true_eq, decide_eq_false_iff_not, beq_iff_eq, beq_eq_false_iff_ne, ne_eq, Bool.not_eq_true, Bool.not_eq_false, Bool.not_eq_true', Bool.not_eq_false'] at *)
  all_goals grind
theorem right_all (x : Tr) : Tidy x → ChecksN 73 (RightT · 1) x ∧ ChecksN 56 (RightT · 2) x ∧ ChecksN 26 (RightT · 3) x := by
  induction x using Tr.ind with
  | h x ih =>
    intro tx
    have h1 : ∀ k ∈ x.kids, ChecksN 73 (RightT · 1) k := fun k hk => (ih k hk (tx.kid k hk)).1
    have h2 : ∀ k ∈ x.kids, ChecksN 56 (RightT · 2) k := fun k hk => (ih k hk (tx.kid k hk)).2.1
    have h3 : ∀ k ∈ x.kids, ChecksN 26 (RightT · 3) k := fun k hk => (ih k hk (tx.kid k hk)).2.2
    exact ⟨expr_ax tx h1 h2, stmt_ax tx h1 h3, block_ax h2⟩
/-- What Check answers. -/
noncomputable def checkP (x : Tr) : Int := open Classical in if 12 < x.high then 13 else if RightT x 3 then 0 else 2
theorem treeCheck_ax {H : Heap} {l : List Value} {x : Tr} (R : NodeR H l x) (tx : Tidy x) : AX Try.prog 15 #[.agg l.toArray] H (fun v H' => v = .int .i64 (checkP x) ∧ H' = H) := by
  obtain ⟨ow, sn, sk, rfl, rn, rk⟩ := R.inv
  refine AX.quiet ?_
  suffices hh : AX Try.prog 15 #[.agg (nodeV x sn sk).toArray] H (fun v H' => v = .int .i64 (checkP x) ∧ Grow H H') from hh.mono fun v _ ⟨e, g⟩ => ⟨e ▸ plain_int _ _, e, g⟩
  refine AX.body (n := 11) (rs := [.tmp 2]) Try.func15 rfl (by decide) rfl rfl (bC_sound _ _ _ _ ?_)
  (conv => whnf)
  refine Ob2.box rfl fun q H1 hq a1 g1 => ?_
  have b1 := hblk_of a1
  have R1 := R.grow g1
  (try (conv => whnf)); (repeat' ((fail_if_success (with_reducible refine And.intro ?_ ?_)); (fail_if_success (with_reducible refine Exists.intro ?_ ?_)); (first | ((with_reducible refine AX.id ?_); (first | (refine (low_ax x R1 12 (by omega) (by omega)).mono ?_; (rintro _ X ⟨⟨bb, rfl, hb⟩, eX⟩; subst X; cases bb <;> (conv => whnf))) | (refine ((right_all x tx).2.2 _ _ R1).mono ?_; (rintro _ X ⟨⟨bb, rfl, hb⟩, eX⟩; subst X; cases bb <;> (conv => whnf))))) | (refine step0 ?_) | (apply bIf.of <;> intro hc <;> (conv => whnf)))))
  all_goals refine ⟨congrArg (Value.int .i64) (?_ : _ = checkP x), g1⟩
  all_goals clear b1 a1 g1 R1 rk rn R
  all_goals unfold checkP
  all_goals grind
end Go.Proofs.Ytmglmjbjgfbdjaa
