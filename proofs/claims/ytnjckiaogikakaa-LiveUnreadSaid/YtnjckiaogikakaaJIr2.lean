/- The statements of package ir: short bodies, bodies as plain data, and the small body. -/
import Derived.Test.YtnjckiaogikakaaJLv2
set_option linter.unusedVariables false
set_option linter.unusedSimpArgs false
set_option maxRecDepth 20000
set_option maxHeartbeats 8000000
namespace Go.Proofs.Ytnjckiaogikakaa
open Go Ax
structure FewB (b : BodyX) (n : Nat) : Prop where
  ops : b.ops.length ≤ n
  con : b.consts.length ≤ 200
  deps : b.deps.length ≤ 250
  op : ∀ o ∈ b.ops, o.regs.length ≤ 20 ∧ o.map.length ≤ 80 ∧ o.cases.length ≤ 20
theorem ldx_opL {H : Heap} {sv : Value} {L : List OpX} (h : RL 9 opxR H sv L) {i : Nat} {o : OpX} (hx : L[i]? = some o) :
    ∃ b rv cv mv, aindexAddr Try.prog 27 sv (.int .i64 (i : Int)) = some (.pointer (some ⟨b, i * 9, none⟩)) ∧ RL 1 intR H rv o.regs ∧ RL 3 caseR H cv o.cases ∧ RL 1 intR H mv o.map ∧
      ∀ H', Grow H H' → aload Try.prog 35 (.pointer (some ⟨b, i * 9 + 5, none⟩)) H' = some rv ∧ aload Try.prog 41 (.pointer (some ⟨b, i * 9 + 6, none⟩)) H' = some cv ∧ aload Try.prog 35 (.pointer (some ⟨b, i * 9 + 8, none⟩)) H' = some mv := by
  obtain ⟨b, c, l, h1, h2, h3, rv, cv, mv, rfl, h5, h6, h7⟩ := h.at (P := Try.prog) (t := 27) (e := 43) rfl rfl hx
  exact ⟨b, rv, cv, mv, h1, h5, h6, h7, fun H' g => ⟨ald rfl rfl (g.hblk h2) (slots_get (j := 5) h3 rfl), ald rfl rfl (g.hblk h2) (slots_get (j := 6) h3 rfl), ald rfl rfl (g.hblk h2) (slots_get (j := 8) h3 rfl)⟩⟩
theorem ldx_valS {H : Heap} {sv : Value} {L : List V} (h : RL 3 valR H sv L) {i : Nat} {x : V} (hx : L[i]? = some x) :
    ∃ b, aindexAddr Try.prog 26 sv (.int .i64 (i : Int)) = some (.pointer (some ⟨b, i * 3, none⟩)) ∧ ∀ H', Grow H H' → aload Try.prog 9 (.pointer (some ⟨b, i * 3 + 2, none⟩)) H' = some (.string x.2.2) := by
  obtain ⟨b, c, l, h1, h2, h3, rfl⟩ := h.at (P := Try.prog) (t := 26) (e := 56) rfl rfl hx
  exact ⟨b, h1, fun H' g => ald rfl rfl (g.hblk h2) (slots_get (j := 2) h3 rfl)⟩
theorem fewB_ax {H : Heap} {b : BodyX} {kv ov dv : Value} (hbI : BodyIn H b kv ov dv) (n : Nat) (hn : n ≤ 100000) :
    AX Try.prog 8 #[bodyV b kv ov dv, .int .i64 (n : Int)] H (fun v H' => (∃ t, v = .bool t ∧ (t = true → FewB b n)) ∧ H' = H) := by
  refine AX.quiet ?_
  suffices hh : AX Try.prog 8 #[bodyV b kv ov dv, .int .i64 (n : Int)] H (fun v H' => (∃ t, v = .bool t ∧ (t = true → FewB b n)) ∧ Grow H H') from hh.mono fun v _ ⟨⟨b, e, k⟩, g⟩ => ⟨e ▸ plain_bool _, ⟨b, e, k⟩, g⟩
  refine AX.body (n := 74) (rs := [.tmp 4]) Try.func8 rfl (by decide) rfl rfl (bC_sound _ _ _ _ ?_)
  (conv => whnf)
  refine Ob2.box rfl fun q1 H1 hq1 a1 g => ?_
  have b1 := hblk_of a1
  have l3 : alen Try.prog 26 kv H1 = some (.int .i64 b.consts.length) := hbI.con.len rfl _
  have l4 : alen Try.prog 27 ov H1 = some (.int .i64 b.ops.length) := hbI.ops.len rfl _
  have l5 : alen Try.prog 28 dv H1 = some (.int .i64 b.deps.length) := hbI.deps.len rfl _
  clear a1
  (try (conv => whnf)); (repeat' ((fail_if_success (with_reducible refine And.intro ?_ ?_)); (fail_if_success (with_reducible refine Exists.intro ?_ ?_)); (first | (refine step0 ?_) | (apply bIf.of <;> intro hc <;> (conv => whnf)))))
  all_goals first
    | exact ⟨⟨false, rfl, fun h => by simp at h⟩, g⟩
    | skip
  have hbs : b.ops.length ≤ n ∧ b.consts.length ≤ 200 ∧ b.deps.length ≤ 250 := by
    clear b1 l3 l4 l5 hbI
    ((try (simp only [ba_ne_t, ba_ne_f, ba_eq_t, ba_eq_f, bne_iff_ne, bne_eq_false_iff_eq, decide_eq_true_eq, decide_eq_false_iff_not, beq_iff_eq, beq_eq_false_iff_ne, ne_eq, Bool.not_eq_true, Bool.not_eq_false, Bool.not_eq_true', Bool.not_eq_false'] at *)); (try simp only [Bool.false_eq_true, false_iff, true_iff, Classical.not_not, Bool.not_false, Bool.not_true] at *))
    omega
  refine SW.loop (α := Nat) (fun m => [(2, .pointer (some ⟨q1, 0, none⟩)), (5, .int .i64 (m : Int))]) (fun m X => m ≤ b.ops.length ∧ (∀ (i : Nat) o, i < m → b.ops[i]? = some o → o.regs.length ≤ 20 ∧ o.map.length ≤ 80 ∧ o.cases.length ≤ 20) ∧ X = H1) (fun m => b.ops.length - m) ⟨0, ⟨rfl, rfl, trivial⟩, by omega, fun i o hi => by omega, rfl⟩ ?_
  rintro m X ⟨hm, htm, e⟩
  subst X
  refine bC_sound _ _ _ _ ?_
  by_cases hml : m < b.ops.length
  · have d1 : decide ((m : Int) < (b.ops.length : Int)) = true := decide_eq_true (by omega)
    obtain ⟨o, ho⟩ := get_lt hml
    obtain ⟨bq, rv, cv, mv, i1, jr, jc, jm, i2⟩ := ldx_opL hbI.ops ho
    obtain ⟨i3, i4, i5⟩ := i2 H1 g
    have m1 : alen Try.prog 35 rv H1 = some (.int .i64 o.regs.length) := jr.len rfl _
    have m2 : alen Try.prog 41 cv H1 = some (.int .i64 o.cases.length) := jc.len rfl _
    have m3 : alen Try.prog 35 mv H1 = some (.int .i64 o.map.length) := jm.len rfl _
    clear hc
    (try (conv => whnf)); (repeat' ((fail_if_success (with_reducible refine And.intro ?_ ?_)); (fail_if_success (with_reducible refine Exists.intro ?_ ?_)); (first | (refine step0 ?_) | (apply bIf.of <;> intro hc <;> (conv => whnf)))))
    all_goals first
      | exact ⟨⟨false, rfl, fun h => by simp at h⟩, g⟩
      | (refine ⟨m + 1, ⟨rfl, congrArg (fun z => some (Value.int .i64 z)) (w_succ (by omega)), trivial⟩, ⟨hml, fun i s hi hs => ?_, rfl⟩, by show _ - (m + 1) < _ - m; omega⟩
         by_cases him : i = m
         · subst him; rw [ho] at hs; simp only [Option.some.injEq] at hs; subst hs
           clear b1 l3 l4 l5 hbI i1 i2 i3 i4 i5 m1 m2 m3 d1 htm
           ((try (simp only [ba_ne_t, ba_ne_f, ba_eq_t, ba_eq_f, bne_iff_ne, bne_eq_false_iff_eq, decide_eq_true_eq, decide_eq_false_iff_not, beq_iff_eq, beq_eq_false_iff_ne, ne_eq, Bool.not_eq_true, Bool.not_eq_false, Bool.not_eq_true', Bool.not_eq_false'] at *)); (try simp only [Bool.false_eq_true, false_iff, true_iff, Classical.not_not, Bool.not_false, Bool.not_true] at *))
           omega
         · exact htm i s (by omega) hs)
  have d1 : decide ((m : Int) < (b.ops.length : Int)) = false := decide_eq_false (by omega)
  have hop : ∀ o ∈ b.ops, o.regs.length ≤ 20 ∧ o.map.length ≤ 80 ∧ o.cases.length ≤ 20 := fun x hx => by
    obtain ⟨i, hi, rfl⟩ := List.getElem_of_mem hx
    exact htm i _ (by omega) (List.getElem?_eq_getElem hi)
  clear htm hml hc
  refine run ?_
  refine SW.loop (α := Nat) (fun m => [(2, .pointer (some ⟨q1, 0, none⟩)), (6, .int .i64 (m : Int))]) (fun m X => m ≤ b.consts.length ∧ X = H1) (fun m => b.consts.length - m) ⟨0, ⟨rfl, rfl, trivial⟩, by omega, rfl⟩ ?_
  clear d1 hm m
  rintro m X ⟨hm, e⟩
  subst X
  refine bC_sound _ _ _ _ ?_
  by_cases hml : m < b.consts.length
  · have d1 : decide ((m : Int) < (b.consts.length : Int)) = true := decide_eq_true (by omega)
    obtain ⟨x, hx⟩ := get_lt hml
    obtain ⟨bq, i1, i2⟩ := ldx_valS hbI.con hx
    have i3 := i2 H1 g
    (try (conv => whnf)); (repeat' ((fail_if_success (with_reducible refine And.intro ?_ ?_)); (fail_if_success (with_reducible refine Exists.intro ?_ ?_)); (first | (refine step0 ?_) | (apply bIf.of <;> intro hc <;> (conv => whnf)))))
    all_goals first
      | exact ⟨⟨false, rfl, fun h => by simp at h⟩, g⟩
      | exact ⟨m + 1, ⟨rfl, congrArg (fun z => some (Value.int .i64 z)) (w_succ (by omega)), trivial⟩, ⟨hml, rfl⟩, by show _ - (m + 1) < _ - m; omega⟩
  · have d1 : decide ((m : Int) < (b.consts.length : Int)) = false := decide_eq_false (by omega)
    refine run ?_
    exact ⟨⟨true, rfl, fun _ => ⟨hbs.1, hbs.2.1, hbs.2.2, hop⟩⟩, g⟩
end Go.Proofs.Ytnjckiaogikakaa
/- The statements of package ir: bodies as plain data, and the small body. -/
set_option linter.unusedVariables false
set_option linter.unusedSimpArgs false
set_option maxRecDepth 20000
set_option maxHeartbeats 8000000
namespace Go.Proofs.Ytnjckiaogikakaa
open Go Ax
theorem val_of {H : Heap} {c : List Value} {x : V} (R : ty56.R H c x) : valR H c x := by
  obtain ⟨h1, h2, h3⟩ := R
  exact cons_of h1 (cons_of h2 h3)
theorem case_of {H : Heap} {c : List Value} {x : CaseT} (R : ty99.R H c x) : caseR H c x := by
  obtain ⟨h1, h2, h3⟩ := R
  exact cons_of h1 (cons_of h2 h3)
theorem dep_of {H : Heap} {c : List Value} {x : Int × Int} (R : ty73.R H c x) : depR H c x := by
  obtain ⟨h1, h2⟩ := R
  exact cons_of h1 h2
theorem op_of {H : Heap} {c : List Value} {x : OpX} (R : ty43.R H c x) : opxR H c x := by
  obtain ⟨h1, h2, h3, h4, h5, h6, h7, h8, h9⟩ := R
  obtain ⟨rv, k1, k2⟩ := RL.ofTy (f := intR) (fun l x h => h) h6
  obtain ⟨cv, k3, k4⟩ := RL.ofTy (f := caseR) (fun l x h => case_of h) h7
  obtain ⟨mv, k5, k6⟩ := RL.ofTy (f := intR) (fun l x h => h) h9
  exact ⟨rv, cv, mv, cons_of h1 (cons_of h2 (cons_of h3 (cons_of h4 (cons_of h5 (cons_of k1 (cons_of k3 (cons_of h8 k5))))))), k2, k4, k6⟩
theorem body_of {H : Heap} {c : List Value} {x : BodyX} (R : ty30.R H c x) : ∃ kv ov dv, argS c = bodyV x kv ov dv ∧ BodyIn H x kv ov dv := by
  obtain ⟨h1, h2, h3, h4, h5⟩ := R
  obtain ⟨kv, k1, k2⟩ := RL.ofTy (f := valR) (fun l x h => val_of h) h3
  obtain ⟨ov, k3, k4⟩ := RL.ofTy (f := opxR) (fun l x h => op_of h) h4
  obtain ⟨dv, k5, k6⟩ := RL.ofTy (f := depR) (fun l x h => dep_of h) h5
  have hc : c = [.int .i64 x.1, .int .i64 x.2.1, kv, ov, dv] := cons_of h1 (cons_of h2 (cons_of k1 (cons_of k3 k5)))
  exact ⟨kv, ov, dv, by rw [hc]; rfl, k2, k4, k6⟩
theorem ok_int {n : Int} (h : ty3.ok n) : -9223372036854775808 ≤ n ∧ n ≤ 9223372036854775807 := by
  have h : (Lit.int .i64 n).wf = true := h
  simp [Lit.wf] at h
  have e1 : IntKind.i64.min = -9223372036854775808 := rfl
  have e2 : IntKind.i64.max = 9223372036854775807 := rfl
  omega
theorem few_small {x : BodyX} {n : Nat} (o : ty30.ok x) (h : FewB x n) (hn : n ≤ 100000) : SmallB x ∧ IntB x := by
  obtain ⟨h1, h2, h3, h4, h5⟩ := o
  refine ⟨⟨fun v hv => ?_, by have := h.con; omega, by have := h.ops; omega, by have := h.deps; omega, fun o ho => by have := h.op o ho; omega⟩, fun o ho => ⟨?_, by have := h.op o ho; omega⟩⟩
  · obtain ⟨_, k2, _⟩ := h3.2 v hv
    exact (ok_int k2).2
  · obtain ⟨_, k2, k3, k4, k5, _⟩ := h4.2 o ho
    exact ⟨(ok_int k2).2, (ok_int k3).2, (ok_int k4).2, (ok_int k5).2⟩
def bW : BodyX := (0, 1, [(0, 0, ⟨#[]⟩)], [(2, 0, 0, 0, 0, [], [], 0, []), (24, 0, 0, 0, 0, [], [], 1, [0])], [])
theorem bW_ok : CheckB p1 bW := by
  obtain ⟨L, hL⟩ := (p1_ok.2.2.2.2.2.2 0 c1 rfl).2.2
  have l0 : L[0]? = some 0 := hL.inv.2
  have l1 : L[1]? = some 1 := hL.reach (Reach.step (c := c1) (i := 0) (d := 0) (x := (2, 0, 0)) (k := 0) (t := 1) .start rfl (by decide) (by decide) (by decide) (by decide) (by decide))
  have hl : L.length = 2 := hL.inv.1
  have dC : bW.consts = [(0, 0, ⟨#[]⟩)] := rfl
  have dO : bW.ops = [(2, 0, 0, 0, 0, [], [], 0, []), (24, 0, 0, 0, 0, [], [], 1, [0])] := rfl
  have dD : bW.deps = [] := rfl
  refine ⟨p1_ok, by decide, c1, L, rfl, ⟨by decide, by decide, by decide, by decide, by decide, by decide⟩, fun x hx => ?_, fun x hx => by rw [dD] at hx; simp at hx, hL, fun i o hi ho => ?_, .inr (by decide)⟩
  · rw [dC] at hx
    simp only [List.mem_singleton] at hx; subst hx; exact ⟨fun _ => rfl, .inl ⟨rfl, rfl⟩⟩
  · rw [dO] at ho hi ⊢
    match i, hi, ho with
    | 0, _, ho =>
      simp only [List.getElem?_cons_zero, Option.some.injEq] at ho; subst ho
      refine ⟨by decide, ⟨by decide, by decide, fun x hx => absurd hx List.not_mem_nil, fun _ => rfl, fun h => absurd h (by decide)⟩, parts4.2 ⟨by decide, by decide, by decide, by decide⟩, ⟨by decide, by show (0 : Int) < _; omega, l0, fun x hx => absurd hx List.not_mem_nil⟩, fun h => absurd h (by decide)⟩
    | 1, _, ho =>
      simp only [List.getElem?_cons_zero, List.getElem?_cons_succ, Option.some.injEq] at ho; subst ho
      refine ⟨by decide, ⟨by decide, by decide, fun x hx => absurd hx List.not_mem_nil, fun _ => rfl, fun h => absurd h (by decide)⟩, parts4.2 ⟨by decide, by decide, by decide, by decide⟩, ⟨by decide, by show (1 : Int) < _; omega, l1, fun x hx => ?_⟩, fun h => absurd h (by decide)⟩
      have hx : x ∈ [(0 : Int)] := hx
      simp only [List.mem_singleton] at hx; subst hx; decide
    | i + 2, hi, _ => simp only [List.length_cons, List.length_nil] at hi; omega
end Go.Proofs.Ytnjckiaogikakaa
