/- Package scope: block, Check. -/
import Derived.Test.YtmdjepfpgmignaaJCp3
set_option linter.unusedVariables false
set_option linter.unusedSimpArgs false
set_option maxRecDepth 20000
set_option maxHeartbeats 8000000
namespace Go.Proofs.Ytmdjepfpgmignaa
open Go Ax
theorem blockU_ax {c : UC} {fv : Value} {x : Tr} (hs : ∀ k ∈ x.kids, ChecksU c fv 32 (RightU c · 2) k) : ChecksU c fv 45 (RightU c · 3) x := by
  intro H l R
  obtain ⟨ow, sn, sk, rfl, rn, rk⟩ := R.inv
  refine AX.quiet ?_
  suffices hh : AX Try.prog 45 #[.agg #[.int .i64 c.gl, fv, .int .i64 c.lo], .agg (nodeV x sn sk).toArray] H (fun v H' => (∃ b, v = .bool b ∧ (b = true ↔ RightU c x 3)) ∧ Grow H H') from hh.mono fun v _ ⟨⟨b, e, k⟩, g⟩ => ⟨e ▸ plain_bool _, ⟨b, e, k⟩, g⟩
  refine AX.body (n := 18) (rs := [.tmp 4]) Try.func45 rfl (by decide) rfl rfl (bC_sound _ _ _ _ ?_)
  (conv => whnf)
  refine Ob2.box rfl fun q0 H0 hq0 a0 g0 => ?_
  refine run ?_
  refine Ob2.box rfl fun q H1 hq a1 k1 => ?_
  have b0 := hblk_of (k1.at (show H0[q0]? = some (.cells .var [.int .i64 c.gl, fv, .int .i64 c.lo]) from a0))
  have b1 := hblk_of a1
  have g1 := g0.trans k1
  have rk1 := NodeR.grows rk g1
  have R1 := R.grow g1
  rw [rightU_iff, own3U]
  have hall : (x.kind = 29 ∧ PlainP x false false false false ∧ x.kids.length ≤ 40) → ((∀ j y, x.kids[j]? = some y → RightU c y (wantU x.kind j)) ↔ ∀ y ∈ x.kids, RightU c y 2) := fun h => allU_iff fun j => by
    unfold wantU
    rw [if_pos h.1]
  rw [and_congr_right hall]
  clear hall
  (try (conv => whnf)); (repeat' ((fail_if_success (with_reducible refine And.intro ?_ ?_)); (fail_if_success (with_reducible refine Exists.intro ?_ ?_)); (first | ((with_reducible refine AX.id ?_); (first | (refine (plain_ax R1 _ _ _ _).mono ?_; (rintro _ X ⟨⟨bb, rfl, hb⟩, eX⟩; subst X; cases bb <;> (conv => whnf))) | (refine (stmtsU_ax rk1 ow.2.2.2 hs).mono ?_; (rintro _ X ⟨⟨bb, rfl, hb⟩, eX⟩; subst X; cases bb <;> (conv => whnf))))) | (refine step0 ?_) | (apply bIf.of <;> intro hc <;> (conv => whnf)))))
  all_goals refine ⟨⟨_, rfl, ?_⟩, g1⟩
  all_goals clear b0 a0 g0 k1 b1 a1 g1 rk1 R1 rk rn R hs
  all_goals try ((simp only [ba_ne_t, ba_ne_f, ba_eq_t, ba_eq_f, bne_iff_ne, bne_eq_false_iff_eq, decide_eq_true_eq, decide_eq_false_iff_not, beq_iff_eq, beq_eq_false_iff_ne, ne_eq, Bool.not_eq_true, Bool.not_eq_false, Bool.not_eq_true', Bool.not_eq_false'] at *))
  all_goals grind
theorem rightU_all {c : UC} {fv : Value} (hfv : ∀ H, alen Try.prog 22 fv H = some (.int .i64 c.fn)) (x : Tr) : Tidy x → ChecksU c fv 44 (RightU c · 1) x ∧ ChecksU c fv 32 (RightU c · 2) x ∧ ChecksU c fv 45 (RightU c · 3) x := by
  induction x using Tr.ind with
  | h x ih =>
    intro tx
    have h1 : ∀ k ∈ x.kids, ChecksU c fv 44 (RightU c · 1) k := fun k hk => (ih k hk (tx.kid k hk)).1
    have h2 : ∀ k ∈ x.kids, ChecksU c fv 32 (RightU c · 2) k := fun k hk => (ih k hk (tx.kid k hk)).2.1
    have h3 : ∀ k ∈ x.kids, ChecksU c fv 45 (RightU c · 3) k := fun k hk => (ih k hk (tx.kid k hk)).2.2
    exact ⟨exprU_ax hfv tx h1, stmtU_ax tx h1 h3, blockU_ax h2⟩
theorem high12_ax {H : Heap} {l : List Value} {x : Tr} (R : NodeR H l x) : AX Try.prog 21 #[.agg l.toArray] H (fun v H' => (∃ b, v = .bool b ∧ (b = true ↔ ¬ x.high ≤ 12)) ∧ H' = H) := by
  obtain ⟨ow, sn, sk, rfl, -, -⟩ := R.inv
  refine AX.quiet ?_
  suffices hh : AX Try.prog 21 #[.agg (nodeV x sn sk).toArray] H (fun v H' => (∃ b, v = .bool b ∧ (b = true ↔ ¬ x.high ≤ 12)) ∧ Grow H H') from hh.mono fun v _ ⟨⟨b, e, k⟩, g⟩ => ⟨e ▸ plain_bool _, ⟨b, e, k⟩, g⟩
  refine AX.body (n := 6) (rs := [.tmp 2]) Try.func21 rfl (by decide) rfl rfl (bC_sound _ _ _ _ ?_)
  (conv => whnf)
  refine Ob2.box rfl fun r H1 hr a1 g1 => ?_
  have b1 := hblk_of a1
  refine run ?_
  refine (slow_ax x (R.grow g1) 12 (by omega) (by omega)).mono ?_
  rintro _ X ⟨⟨b, rfl, hb⟩, e⟩
  subst X
  cases b with
  | true =>
    refine run ?_
    exact ⟨⟨false, rfl, by have := hb.1 rfl; simp; omega⟩, g1⟩
  | false =>
    refine run ?_
    exact ⟨⟨true, rfl, by simp only [true_iff]; intro h; exact absurd (hb.2 (by omega)) (by simp)⟩, g1⟩
/-- Is a function of a unit right? -/
def FnP (gl : Int) (n : Nat) (f : FnT) : Prop := 0 ≤ f.1 ∧ f.1 ≤ 6 ∧ f.1 ≤ f.2.1 ∧ f.2.1 ≤ 24 ∧ f.2.2.length ≤ 40 ∧ ∀ x ∈ f.2.2, RightU ⟨gl, n, f.2.1⟩ x 2
def HeadP (gl : Int) (fs : List FnT) : Prop := 0 ≤ gl ∧ gl ≤ 24 ∧ fs.length ≠ 0 ∧ fs.length ≤ 32 ∧ ∀ f, fs[0]? = some f → f.1 = 0 ∧ f.2.1 = 0
/-- May a unit be? -/
def UnitP (gl : Int) (fs : List FnT) : Prop := HeadP gl fs ∧ ∀ f ∈ fs, FnP gl fs.length f
noncomputable def checkU (gl : Int) (fs : List FnT) : Int := open Classical in if ¬ ∀ f ∈ fs, ∀ x ∈ f.2.2, x.high ≤ 12 then 13 else if UnitP gl fs then 0 else 2
structure FnAt (H : Heap) (sv : Value) (i : Nat) (f : FnT) (p p1 p2 fk : Value) : Prop where
  ix : aindexAddr Try.prog 22 sv (.int .i64 (i : Int)) = some p
  ld : ∀ H', Grow H H' → aload Try.prog 47 p H' = some (.agg #[.int .i64 f.1, .int .i64 f.2.1, fk])
  l0 : ∀ H', Grow H H' → aload Try.prog 3 p H' = some (.int .i64 f.1)
  l1 : ∀ H', Grow H H' → aload Try.prog 3 p1 H' = some (.int .i64 f.2.1)
  l2 : ∀ H', Grow H H' → aload Try.prog 45 p2 H' = some fk
  rk : RLo 7 NodeR H fk f.2.2
  mx : f.2.2.length ≤ maxLen
theorem fnAt {H : Heap} {sv : Value} {fs : List FnT} (h : RL 3 fnR H sv fs) (i : Nat) {f : FnT} (hx : fs[i]? = some f) : ∃ b o fk, FnAt H sv i f (.pointer (some ⟨b, o, none⟩)) (.pointer (some ⟨b, o + 1, none⟩)) (.pointer (some ⟨b, o + 2, none⟩)) fk := by
  obtain ⟨b, c, l, h1, h2, h3, h4⟩ := h.at (P := Try.prog) (t := 22) (e := 47) rfl rfl hx
  obtain ⟨fk, rfl, rk, mx⟩ := h4
  have hlen : i * 3 + 3 ≤ c.length := by
    by_cases hh : i * 3 + 3 ≤ c.length
    · exact hh
    · simp [slotsOf, hh] at h3
  have h3' := h3
  rw [slots_of hlen] at h3'
  simp only [Option.some.injEq] at h3'
  have hj : ∀ j, j < 3 → c[i * 3 + j]? = [Value.int .i64 f.1, .int .i64 f.2.1, fk][j]? := fun j hj => by rw [← h3', List.getElem?_take, if_pos hj, List.getElem?_drop]
  exact ⟨b, i * 3, fk, h1, fun H' g => ald_agg rfl rfl rfl (g.hblk h2) h3, fun H' g => ald rfl rfl (g.hblk h2) (hj 0 (by omega)), fun H' g => ald rfl rfl (g.hblk h2) (hj 1 (by omega)), fun H' g => ald rfl rfl (g.hblk h2) (hj 2 (by omega)), rk, mx⟩
theorem scheck_ax {H : Heap} {gl : Int} {sk : Value} {fs : List FnT} (rk : RL 3 fnR H sk fs) (hfs : fs.length ≤ 1000) (ht : ∀ f ∈ fs, ∀ x ∈ f.2.2, Tidy x) :
    AX Try.prog 14 #[.agg #[.int .i64 gl, sk]] H (fun v H' => v = .int .i64 (checkU gl fs) ∧ H' = H) := by
  refine AX.quiet ?_
  suffices hh : AX Try.prog 14 #[.agg #[.int .i64 gl, sk]] H (fun v H' => v = .int .i64 (checkU gl fs) ∧ Grow H H') from hh.mono fun v _ ⟨e, g⟩ => ⟨e ▸ plain_int _ _, e, g⟩
  refine AX.body (n := 92) (rs := [.tmp 2]) Try.func14 rfl (by decide) rfl rfl (bC_sound _ _ _ _ ?_)
  (conv => whnf)
  refine Ob2.box rfl fun q H1 hq a1 g1 => ?_
  have b1 := hblk_of a1
  have l0 : ∀ H, alen Try.prog 22 sk H = some (.int .i64 fs.length) := fun H => rk.len rfl _
  have l1 := l0 H1
  refine run ?_
  refine SW.loop (α := Nat) (fun k => [(1, .pointer (some ⟨q, 0, none⟩)), (2, .int .i64 0), (8, sk), (9, .int .i64 fs.length), (10, .int .i64 (k : Int))])
    (fun k X => k ≤ fs.length ∧ (∀ j f, j < k → fs[j]? = some f → ∀ x ∈ f.2.2, x.high ≤ 12) ∧ Grow H1 X) (fun k => fs.length - k) ⟨0, ⟨rfl, rfl, rfl, rfl, rfl, trivial⟩, by omega, fun j f hj => by omega, .refl _⟩ ?_
  rintro k X ⟨hm, hd, gX⟩
  refine bC_sound _ _ _ _ ?_
  by_cases hml : k < fs.length
  · have d1 : decide ((k : Int) < (fs.length : Int)) = true := decide_eq_true (by omega)
    obtain ⟨f, hf⟩ := get_lt hml
    obtain ⟨pf, fl, j1, j2, j3⟩ := rk.ldA (P := Try.prog) (t := 22) (e := 47) rfl rfl rfl rfl hf
    have gHX := g1.trans gX
    have j4 := j3 X gHX
    obtain ⟨fk, rfl, fr, fm⟩ := j2
    refine run ?_
    refine Ob2.alloc rfl fun q8 X1 hq8 y8 k1 => ?_
    refine run ?_
    refine Ob.store rfl rfl rfl y8 rfl (by first | exact Nat.le_of_ble_eq_true rfl | simp) fun X2 z1 z2 z3 => ?_
    replace k1 := k1.but_new z2 (Nat.le_of_eq hq8.symm)
    have bz := hblk_of z1
    refine run ?_
    refine (containsN0 (NodeR.grows fr (gHX.trans k1)) fm 21 (fun x => x.high ≤ 12) (fun x hx l R => high12_ax R)).mono ?_
    rintro _ Y ⟨⟨b, rfl, hb⟩, e⟩
    subst Y
    cases b with
    | true =>
      refine run ?_
      have hno : ¬ ∀ f ∈ fs, ∀ x ∈ f.2.2, x.high ≤ 12 := fun h => hb.1 rfl (h f (List.mem_of_getElem? hf))
      refine ⟨(?_ : Value.int .i64 13 = _), gHX.trans k1⟩
      unfold checkU
      rw [if_pos hno]
    | false =>
      have hyes : ∀ x ∈ f.2.2, x.high ≤ 12 := Classical.byContradiction fun h => absurd (hb.2 h) (by simp)
      refine run ?_
      refine ⟨k + 1, ⟨rfl, rfl, rfl, rfl, congrArg (fun z => some (Value.int .i64 z)) (w_succ (by omega)), trivial⟩, ⟨hml, fun j f' hj hf' => ?_, gX.trans k1⟩, by show fs.length - (k + 1) < fs.length - k; omega⟩
      by_cases hjk : j = k
      · subst hjk; rw [hf] at hf'; cases hf'; exact hyes
      · exact hd j f' (by omega) hf'
  have d1 : decide ((k : Int) < (fs.length : Int)) = false := decide_eq_false (by omega)
  have hlow : ∀ f ∈ fs, ∀ x ∈ f.2.2, x.high ≤ 12 := fun f hf x hx => by
    obtain ⟨j, hj⟩ := List.getElem?_of_mem hf
    exact hd j f (by have := lt_of_get hj; omega) hj x hx
  have hcu : checkU gl fs = open Classical in if UnitP gl fs then 0 else 2 := by unfold checkU; rw [if_neg (by simpa using hlow)]
  rw [hcu]
  have gHX := g1.trans gX
  have bX := hblk_of (gX.at a1)
  have l2 := l0 X
  clear hcu hd
  generalize hU : (open Classical in if UnitP gl fs then (0 : Int) else 2) = cu
  have no : ¬ UnitP gl fs → Value.int .i64 2 = Value.int .i64 cu := fun h => by rw [← hU, if_neg h]
  by_cases c1 : gl < 0
  · have t1 : decide (gl < 0) = true := decide_eq_true c1
    refine run ?_
    exact ⟨no fun u => by have := u.1.1; omega, gHX⟩
  have t1 : decide (gl < 0) = false := decide_eq_false c1
  by_cases c2 : gl > 24
  · have t2 : decide (gl > 24) = true := decide_eq_true c2
    refine run ?_
    exact ⟨no fun u => by have := u.1.2.1; omega, gHX⟩
  have t2 : decide (gl > 24) = false := decide_eq_false c2
  by_cases c3 : fs.length = 0
  · have t3 : ((fs.length : Int) == 0) = true := by rw [beq_iff_eq]; omega
    refine run ?_
    exact ⟨no fun u => u.1.2.2.1 c3, gHX⟩
  have t3 : ((fs.length : Int) == 0) = false := by rw [beq_eq_false_iff_ne]; omega
  by_cases c4 : (fs.length : Int) > 32
  · have t4 : decide ((fs.length : Int) > 32) = true := decide_eq_true c4
    refine run ?_
    exact ⟨no fun u => by have := u.1.2.2.2.1; omega, gHX⟩
  have t4 : decide ((fs.length : Int) > 32) = false := decide_eq_false c4
  obtain ⟨f0, hf0⟩ := get_lt (show 0 < fs.length by omega)
  obtain ⟨fb, fo, fz, F0⟩ := fnAt rk 0 hf0
  have y0 : aindexAddr Try.prog 22 sk (.int .i64 0) = _ := F0.ix
  have y1 := F0.l0 X gHX
  have y2 := F0.l1 X gHX
  by_cases c5 : f0.1 = 0
  rotate_left
  · have t5 : (f0.1 != 0) = true := by rw [bne_iff_ne]; exact c5
    refine run ?_
    exact ⟨no fun u => c5 (u.1.2.2.2.2 f0 hf0).1, gHX⟩
  have t5 : (f0.1 != 0) = false := by rw [c5]; rfl
  by_cases c6 : f0.2.1 = 0
  rotate_left
  · have t6 : (f0.2.1 != 0) = true := by rw [bne_iff_ne]; exact c6
    refine run ?_
    exact ⟨no fun u => c6 (u.1.2.2.2.2 f0 hf0).2, gHX⟩
  have t6 : (f0.2.1 != 0) = false := by rw [c6]; rfl
  have hH : HeadP gl fs := ⟨by omega, by omega, c3, by omega, fun f hf => by rw [hf0] at hf; cases hf; exact ⟨c5, c6⟩⟩
  refine run ?_
  refine SW.loop (α := Nat) (fun k => [(1, .pointer (some ⟨q, 0, none⟩)), (2, .int .i64 0), (55, sk), (56, .int .i64 fs.length), (57, .int .i64 (k : Int))])
    (fun k Y => k ≤ fs.length ∧ (∀ j f, j < k → fs[j]? = some f → FnP gl fs.length f) ∧ Grow X Y) (fun k => fs.length - k) ⟨0, ⟨rfl, rfl, rfl, rfl, rfl, trivial⟩, by omega, fun j f hj => by omega, .refl _⟩ ?_
  rintro k Y ⟨hm, hd, gY⟩
  have bY := hblk_of ((gX.trans gY).at a1)
  refine bC_sound _ _ _ _ ?_
  clear t1 t2 t3 t4 t5 t6 y0 y1 y2 F0 bX b1
  by_cases hml : k < fs.length
  rotate_left
  · have d1 : decide ((k : Int) < (fs.length : Int)) = false := decide_eq_false (by omega)
    have hall : UnitP gl fs := ⟨hH, fun f hf => by
      obtain ⟨j, hj⟩ := List.getElem?_of_mem hf
      exact hd j f (by have := lt_of_get hj; omega) hj⟩
    rw [if_pos hall] at hU
    subst hU
    refine run ?_
    exact ⟨rfl, gHX.trans gY⟩
  have d1 : decide ((k : Int) < (fs.length : Int)) = true := decide_eq_true (by omega)
  obtain ⟨f, hf⟩ := get_lt hml
  obtain ⟨pf, po, fk, F0⟩ := fnAt rk k hf
  have gHY := gHX.trans gY
  have y0 := F0.ix
  have y1 := F0.ld Y gHY
  have hS : ∀ Z, Grow H Z → AX Try.prog 23 #[.agg #[.int .i64 gl, sk, .int .i64 f.2.1], fk] Z (fun v H' => (∃ b, v = .bool b ∧ (b = true ↔ (f.2.2.length : Int) ≤ 40 ∧ ∀ x ∈ f.2.2, RightU ⟨gl, fs.length, f.2.1⟩ x 2)) ∧ H' = Z) := fun Z g =>
    stmtsU_ax (c := ⟨gl, fs.length, f.2.1⟩) (fv := sk) (NodeR.grows F0.rk g) F0.mx fun x hx => (rightU_all (c := ⟨gl, fs.length, f.2.1⟩) l0 x (ht f (List.mem_of_getElem? hf) x hx)).2.1
  refine run ?_
  refine Ob2.alloc rfl fun q8 X1 hq8 y8 k1 => ?_
  refine run ?_
  refine Ob.store rfl rfl rfl y8 rfl (by first | exact Nat.le_of_ble_eq_true rfl | simp) fun X2 z1 z2 z3 => ?_
  replace k1 := k1.but_new z2 (Nat.le_of_eq hq8.symm)
  have bz := hblk_of z1
  have bq := hblk_of ((gX.trans (gY.trans k1)).at a1)
  have hS2 := hS X2 (gHY.trans k1)
  have gE := gHY.trans k1
  have noF : ¬ FnP gl fs.length f → Value.int .i64 2 = Value.int .i64 cu := fun h => no fun u => h (u.2 f (List.mem_of_getElem? hf))
  have yes : FnP gl fs.length f → ∀ j f', j < k + 1 → fs[j]? = some f' → FnP gl fs.length f' := fun h j f' hj hf' => by
    by_cases hjk : j = k
    · subst hjk; rw [hf] at hf'; cases hf'; exact h
    · exact hd j f' (by omega) hf'
  have gZ := gY.trans k1
  clear hS F0 hd no y0 y1 y8 z1 z2 bY
  (try (conv => whnf)); (repeat' ((fail_if_success (with_reducible refine And.intro ?_ ?_)); (fail_if_success (with_reducible refine Exists.intro ?_ ?_)); (first | ((with_reducible refine AX.id ?_); (first | (refine (hS2).mono ?_; (rintro _ X ⟨⟨bb, rfl, hb⟩, eX⟩; subst X; cases bb <;> (conv => whnf))))) | (refine step0 ?_) | (apply bIf.of <;> intro hc <;> (conv => whnf)))))
  all_goals first
    | refine ⟨noF ?_, gE⟩
    | refine ⟨k + 1, ⟨rfl, rfl, rfl, rfl, congrArg (fun z => some (Value.int .i64 z)) (w_succ (by omega)), trivial⟩, ⟨hml, yes ?_, gZ⟩, by show fs.length - (k + 1) < fs.length - k; omega⟩
  all_goals clear bz bq a1 hS2 noF yes
  all_goals unfold FnP
  all_goals try ((simp only [ba_ne_t, ba_ne_f, ba_eq_t, ba_eq_f, bne_iff_ne, bne_eq_false_iff_eq, decide_eq_true_eq, decide_eq_false_iff_not, beq_iff_eq, beq_eq_false_iff_ne, ne_eq, Bool.not_eq_true, Bool.not_eq_false, Bool.not_eq_true', Bool.not_eq_false'] at *))
  all_goals grind
end Go.Proofs.Ytmdjepfpgmignaa
/- How many nodes units have; proteusref08.Few. -/
set_option linter.unusedVariables false
set_option linter.unusedSimpArgs false
set_option maxRecDepth 20000
set_option maxHeartbeats 8000000
namespace Go.Proofs.Ytmdjepfpgmignaa
open Go Ax
mutual
/-- How many nodes a tree has. -/
def Tr.cnt : Tr → Nat
  | .mk _ _ _ _ _ ks _ => 1 + cnts ks
def cnts : List Tr → Nat
  | [] => 0
  | t :: ts => t.cnt + cnts ts
end
theorem Tr.cnt_eq (x : Tr) : x.cnt = 1 + cnts x.kids := by cases x; rw [Tr.cnt]; rfl
theorem leftL_cnt : ∀ (ks : List Tr), (∀ k ∈ ks, ∀ m h : Int, 0 ≤ m → 0 ≤ k.left m h → k.left m h ≤ m - k.cnt) → ∀ m h : Int, 0 ≤ leftL ks m h → leftL ks m h ≤ m - cnts ks
  | [], _, m, h, h0 => by simp [leftL, cnts]
  | k :: ks, hk, m, h, h0 => by
    rw [leftL] at h0 ⊢
    split at h0
    · omega
    · rename_i hm
      rw [if_neg hm]
      have h1 : 0 ≤ k.left m h := by
        by_cases hn : k.left m h < 0
        · rw [leftL_neg hn] at h0; exact h0
        · omega
      have h2 := leftL_cnt ks (fun k h => hk k (List.mem_cons_of_mem _ h)) _ h h0
      have h3 := hk k (List.mem_cons_self ..) m h (by omega) h1
      rw [cnts]
      omega
theorem Tr.left_cnt (x : Tr) : ∀ m h : Int, 0 ≤ m → 0 ≤ x.left m h → x.left m h ≤ m - x.cnt := by
  induction x using Tr.ind with
  | h x ih =>
    intro m h hm h0
    rw [Tr.left_eq] at h0 ⊢
    rw [Tr.cnt_eq]
    split at h0
    · omega
    · rename_i hh
      rw [if_neg hh]
      have := leftL_cnt x.kids ih (m - 1) (h - 1) h0
      omega
theorem cnts_append : ∀ (a b : List Tr), cnts (a ++ b) = cnts a + cnts b
  | [], b => by simp [cnts]
  | x :: a, b => by rw [List.cons_append, cnts, cnts, cnts_append a b]; omega
theorem cnts_take {L : List Tr} {j : Nat} {x : Tr} (h : L[j]? = some x) : cnts (L.take (j + 1)) = cnts (L.take j) + x.cnt := by
  obtain ⟨hi, rfl⟩ := List.getElem?_eq_some_iff.1 h
  rw [List.take_succ_eq_append_getElem hi, cnts_append]
  simp [cnts]
theorem cnts_le (L : List Tr) (j : Nat) : cnts (L.take j) ≤ cnts L := by
  have := cnts_append (L.take j) (L.drop j)
  rw [List.take_append_drop] at this
  omega
theorem cnts_mem {L : List Tr} {x : Tr} (h : x ∈ L) : x.cnt ≤ cnts L := by
  obtain ⟨j, hj⟩ := List.getElem?_of_mem h
  have := cnts_take hj
  have := cnts_le L (j + 1)
  omega
theorem count_ax (x : Tr) : ∀ {H : Heap} {l : List Value}, NodeR H l x → x.cnt ≤ 100000 →
    AX Try.prog 13 #[.agg l.toArray] H (fun v H' => v = .int .i64 (x.cnt : Int) ∧ H' = H) := by
  induction x using Tr.ind with
  | h x ih =>
  intro H l R hc
  obtain ⟨ow, sn, sk, rfl, rn, rk⟩ := R.inv
  refine AX.quiet ?_
  suffices hh : AX Try.prog 13 #[.agg (nodeV x sn sk).toArray] H (fun v H' => v = .int .i64 (x.cnt : Int) ∧ Grow H H') from hh.mono fun v _ ⟨e, g⟩ => ⟨e ▸ plain_int _ _, e, g⟩
  refine AX.body (n := 21) (rs := [.tmp 2]) Try.func13 rfl (by decide) rfl rfl (bC_sound _ _ _ _ ?_)
  (conv => whnf)
  refine Ob2.box rfl fun q H1 hq a1 g1 => ?_
  have b1 := hblk_of a1
  have l2 : alen Try.prog 45 sk H1 = some (.int .i64 x.kids.length) := rk.len rfl _
  have hk := ow.2.2.2
  simp only [maxLen] at hk
  have hxe := x.cnt_eq
  refine run ?_
  refine SW.loop (α := Nat) (fun k => [(1, .pointer (some ⟨q, 0, none⟩)), (3, .int .i64 ((1 + cnts (x.kids.take k) : Nat) : Int)), (4, .int .i64 (k : Int))]) (fun k H' => k ≤ x.kids.length ∧ H' = H1) (fun k => x.kids.length - k) ⟨0, ⟨rfl, rfl, rfl, trivial⟩, by omega, rfl⟩ ?_
  rintro k X ⟨hm, e⟩
  subst X
  refine bC_sound _ _ _ _ ?_
  by_cases hml : k < x.kids.length
  · have d1 : decide ((k : Int) < (x.kids.length : Int)) = true := decide_eq_true (by omega)
    obtain ⟨y, hy⟩ := get_lt hml
    obtain ⟨p, yl, i1, i2, i3⟩ := ld_node rk hy
    have i4 := i3 H1 g1
    have ht := cnts_take hy
    have hl1 := cnts_le x.kids (k + 1)
    refine run ?_
    refine (ih y (List.mem_of_getElem? hy) (i2.grow g1) (by omega)).mono ?_
    rintro _ X ⟨rfl, e⟩
    subst X
    refine run ?_
    refine ⟨k + 1, ⟨rfl, congrArg (fun z => some (Value.int .i64 z)) ?_, congrArg (fun z => some (Value.int .i64 z)) (w_succ (by omega)), trivial⟩, ⟨hml, rfl⟩, by show x.kids.length - (k + 1) < x.kids.length - k; omega⟩
    rw [wrap_i64 (by omega) (by omega)]
    omega
  · have d1 : decide ((k : Int) < (x.kids.length : Int)) = false := decide_eq_false (by omega)
    refine run ?_
    rw [List.take_of_length_le (by omega), ← hxe]
    exact ⟨rfl, g1⟩
theorem few06m_ax {H : Heap} {l : List Value} {x : Tr} (R : NodeR H l x) {m : Int} (h0 : 0 ≤ m) (h1 : m ≤ 300) : AX Try.prog 12 #[.agg l.toArray, .int .i64 m] H (fun v H' => (∃ b, v = .bool b ∧ (b = true → FewT x ∧ (x.cnt : Int) ≤ m)) ∧ H' = H) := by
  obtain ⟨ow, sn, sk, rfl, -, -⟩ := R.inv
  refine AX.quiet ?_
  suffices hh : AX Try.prog 12 #[.agg (nodeV x sn sk).toArray, .int .i64 m] H (fun v H' => (∃ b, v = .bool b ∧ (b = true → FewT x ∧ (x.cnt : Int) ≤ m)) ∧ Grow H H') from hh.mono fun v _ ⟨⟨b, e, k⟩, g⟩ => ⟨e ▸ plain_bool _, ⟨b, e, k⟩, g⟩
  refine AX.body (n := 9) (rs := [.tmp 4]) Try.func12 rfl (by decide) rfl rfl (bC_sound _ _ _ _ ?_)
  (conv => whnf)
  refine Ob2.box rfl fun q H1 hq a1 g1 => ?_
  have b1 := hblk_of a1
  refine run ?_
  refine (left_ax x (R.grow g1) m 40 (by omega) (by omega) (by omega) (by omega)).mono ?_
  rintro _ X ⟨rfl, e⟩
  subst X
  refine run ?_
  refine ⟨⟨_, rfl, fun h => ?_⟩, g1⟩
  have h : 0 ≤ x.left m 40 := by simpa using h
  obtain ⟨k1, k2, -⟩ := x.left_tidy m 40 h0 h1 (by omega) h
  have := x.left_cnt m 40 h0 h
  exact ⟨⟨k1, by omega⟩, by omega⟩
def cntU (fs : List FnT) : Nat := (fs.map fun f => cnts f.2.2).sum
theorem cntU_take {fs : List FnT} {k : Nat} {f : FnT} (h : fs[k]? = some f) : cntU (fs.take (k + 1)) = cntU (fs.take k) + cnts f.2.2 := by
  obtain ⟨hi, rfl⟩ := List.getElem?_eq_some_iff.1 h
  unfold cntU
  rw [List.take_succ_eq_append_getElem hi, List.map_append, List.sum_append]
  simp only [List.map_cons, List.map_nil, List.sum_cons, List.sum_nil, Nat.add_zero]
structure FewU (fs : List FnT) : Prop where
  fns : fs.length ≤ 40
  body : ∀ f ∈ fs, f.2.2.length ≤ 60
  node : ∀ f ∈ fs, ∀ x ∈ f.2.2, FewT x
  cnt : cntU fs ≤ 300
theorem few08_ax {H : Heap} {gl : Int} {sk : Value} {fs : List FnT} (rk : RL 3 fnR H sk fs) (hl : fs.length ≤ maxLen) : AX Try.prog 6 #[.agg #[.int .i64 gl, sk], .int .i64 300] H (fun v H' => (∃ b, v = .bool b ∧ (b = true → FewU fs)) ∧ H' = H) := by
  refine AX.quiet ?_
  suffices hh : AX Try.prog 6 #[.agg #[.int .i64 gl, sk], .int .i64 300] H (fun v H' => (∃ b, v = .bool b ∧ (b = true → FewU fs)) ∧ Grow H H') from hh.mono fun v _ ⟨⟨b, e, k⟩, g⟩ => ⟨e ▸ plain_bool _, ⟨b, e, k⟩, g⟩
  refine AX.body (n := 63) (rs := [.tmp 4]) Try.func6 rfl (by decide) rfl rfl (bC_sound _ _ _ _ ?_)
  (conv => whnf)
  refine Ob2.box rfl fun q H1 hq a1 g1 => ?_
  have b1 := hblk_of (show H1[q]? = some (.cells .var [.int .i64 gl, sk]) from a1)
  have l1 : alen Try.prog 22 sk H1 = some (.int .i64 fs.length) := rk.len rfl _
  simp only [maxLen] at hl
  by_cases h40 : (fs.length : Int) > 40
  · have d0 : decide ((fs.length : Int) > 40) = true := decide_eq_true h40
    refine run ?_
    exact ⟨⟨false, rfl, fun h => by simp at h⟩, g1⟩
  have d0 : decide ((fs.length : Int) > 40) = false := decide_eq_false h40
  refine run ?_
  refine SW.loop (α := Nat) (fun k => [(1, .int .i64 (300 - (cntU (fs.take k) : Nat))), (2, .pointer (some ⟨q, 0, none⟩)), (4, .bool false), (5, .int .i64 (k : Int))])
    (fun k X => k ≤ fs.length ∧ cntU (fs.take k) ≤ 300 ∧ (∀ j f, j < k → fs[j]? = some f → f.2.2.length ≤ 60 ∧ ∀ x ∈ f.2.2, FewT x) ∧ X = H1) (fun k => fs.length - k) ⟨0, ⟨rfl, rfl, rfl, rfl, trivial⟩, by omega, by simp [cntU], fun j f hj => by omega, rfl⟩ ?_
  rintro k X ⟨hm, hc, hd, e⟩
  subst X
  refine bC_sound _ _ _ _ ?_
  by_cases hml : k < fs.length
  rotate_left
  · have d1 : decide ((k : Int) < (fs.length : Int)) = false := decide_eq_false (by omega)
    rw [List.take_of_length_le (by omega)] at hc
    have d2 : decide (300 - ((cntU (fs.take k) : Nat) : Int) ≥ 0) = true := by rw [List.take_of_length_le (by omega)]; exact decide_eq_true (by omega)
    refine run ?_
    have hd' : ∀ f ∈ fs, f.2.2.length ≤ 60 ∧ ∀ x ∈ f.2.2, FewT x := fun f hf => by
      obtain ⟨j, hj⟩ := List.getElem?_of_mem hf
      exact hd j f (by have := lt_of_get hj; omega) hj
    exact ⟨⟨_, rfl, fun _ => ⟨by omega, fun f hf => (hd' f hf).1, fun f hf => (hd' f hf).2, hc⟩⟩, g1⟩
  have d1 : decide ((k : Int) < (fs.length : Int)) = true := decide_eq_true (by omega)
  obtain ⟨f, hf⟩ := get_lt hml
  obtain ⟨pf, po, fk, F0⟩ := fnAt rk k hf
  have y0 := F0.ix
  have y1 := F0.l2 H1 g1
  have l2 : alen Try.prog 45 fk H1 = some (.int .i64 f.2.2.length) := F0.rk.len rfl _
  have hct := cntU_take hf
  by_cases h60 : (f.2.2.length : Int) > 60
  · have d2 : decide ((f.2.2.length : Int) > 60) = true := decide_eq_true h60
    refine run ?_
    exact ⟨⟨false, rfl, fun h => by simp at h⟩, g1⟩
  have d2 : decide ((f.2.2.length : Int) > 60) = false := decide_eq_false h60
  refine run ?_
  refine SW.loop (α := Nat) (fun j => [(1, .int .i64 (300 - (cntU (fs.take k) : Nat) - (cnts (f.2.2.take j) : Nat))), (2, .pointer (some ⟨q, 0, none⟩)), (4, .bool false), (5, .int .i64 (k : Int)), (6, .int .i64 (j : Int))])
    (fun j X => j ≤ f.2.2.length ∧ cntU (fs.take k) + cnts (f.2.2.take j) ≤ 300 ∧ (∀ i x, i < j → f.2.2[i]? = some x → FewT x) ∧ X = H1) (fun j => f.2.2.length - j) ⟨0, ⟨by simp [cnts]; rfl, rfl, rfl, rfl, rfl, trivial⟩, by omega, by simp [cnts]; exact hc, fun j f hj => by omega, rfl⟩ ?_
  rintro j X ⟨hjm, hcj, hdj, e⟩
  subst X
  refine bC_sound _ _ _ _ ?_
  by_cases hjl : j < f.2.2.length
  rotate_left
  · have d3 : decide ((j : Int) < (f.2.2.length : Int)) = false := decide_eq_false (by omega)
    have hjt : f.2.2.take j = f.2.2 := List.take_of_length_le (by omega)
    rw [hjt] at hcj
    refine run ?_
    refine ⟨k + 1, ⟨congrArg (fun z => some (Value.int .i64 z)) (by rw [hjt]; omega), rfl, rfl, congrArg (fun z => some (Value.int .i64 z)) (w_succ (by omega)), trivial⟩, ⟨hml, by omega, fun i f' hi hf' => ?_, rfl⟩, by show fs.length - (k + 1) < fs.length - k; omega⟩
    by_cases hik : i = k
    · subst hik; rw [hf] at hf'; cases hf'
      refine ⟨by omega, fun x hx => ?_⟩
      obtain ⟨a, ha⟩ := List.getElem?_of_mem hx
      exact hdj a x (by have := lt_of_get ha; omega) ha
    · exact hd i f' (by omega) hf'
  have d3 : decide ((j : Int) < (f.2.2.length : Int)) = true := decide_eq_true (by omega)
  obtain ⟨x, hx⟩ := get_lt hjl
  obtain ⟨p, xl, i1, i2, i3⟩ := ld_node F0.rk hx
  have i4 := i3 H1 g1
  have hxc := cnts_take hx
  refine run ?_
  refine (few06m_ax (i2.grow g1) (m := 300 - (cntU (fs.take k) : Nat) - (cnts (f.2.2.take j) : Nat)) (by omega) (by omega)).mono ?_
  rintro _ X ⟨⟨b, rfl, hb⟩, e⟩
  subst X
  cases b with
  | false =>
    refine run ?_
    exact ⟨⟨false, rfl, fun h => by simp at h⟩, g1⟩
  | true =>
    obtain ⟨h1, h2⟩ := hb rfl
    refine run ?_
    refine (count_ax x (i2.grow g1) (by omega)).mono ?_
    rintro _ X ⟨rfl, e⟩
    subst X
    refine run ?_
    refine ⟨j + 1, ⟨congrArg (fun z => some (Value.int .i64 z)) (by rw [wrap_i64 (by omega) (by omega)]; omega), rfl, rfl, rfl, congrArg (fun z => some (Value.int .i64 z)) (w_succ (by omega)), trivial⟩, ⟨hjl, by omega, fun i x' hi hx' => ?_, rfl⟩, by show f.2.2.length - (j + 1) < f.2.2.length - j; omega⟩
    by_cases hik : i = j
    · subst hik; rw [hx] at hx'; cases hx'; exact h1
    · exact hdj i x' (by omega) hx'
end Go.Proofs.Ytmdjepfpgmignaa
