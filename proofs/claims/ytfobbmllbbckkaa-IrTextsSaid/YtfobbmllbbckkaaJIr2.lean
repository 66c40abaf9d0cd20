/- The statements of package ir: bodies as plain data, and the small body. -/
import Derived.Test.YtfobbmllbbckkaaJIr1
set_option linter.unusedVariables false
set_option linter.unusedSimpArgs false
set_option maxRecDepth 20000
set_option maxHeartbeats 8000000
namespace Go.Proofs.Ytfobbmllbbckkaa
open Go Ax
theorem val_of {H : Heap} {c : List Value} {x : V} (R : ty51.R H c x) : valR H c x := by
  obtain ⟨h1, h2, h3⟩ := R
  exact cons_of h1 (cons_of h2 h3)
theorem case_of {H : Heap} {c : List Value} {x : CaseT} (R : ty90.R H c x) : caseR H c x := by
  obtain ⟨h1, h2, h3⟩ := R
  exact cons_of h1 (cons_of h2 h3)
theorem dep_of {H : Heap} {c : List Value} {x : Int × Int} (R : ty60.R H c x) : depR H c x := by
  obtain ⟨h1, h2⟩ := R
  exact cons_of h1 h2
theorem op_of {H : Heap} {c : List Value} {x : OpX} (R : ty42.R H c x) : opxR H c x := by
  obtain ⟨h1, h2, h3, h4, h5, h6, h7, h8, h9⟩ := R
  obtain ⟨rv, k1, k2⟩ := RL.ofTy (f := intR) (fun l x h => h) h6
  obtain ⟨cv, k3, k4⟩ := RL.ofTy (f := caseR) (fun l x h => case_of h) h7
  obtain ⟨mv, k5, k6⟩ := RL.ofTy (f := intR) (fun l x h => h) h9
  exact ⟨rv, cv, mv, cons_of h1 (cons_of h2 (cons_of h3 (cons_of h4 (cons_of h5 (cons_of k1 (cons_of k3 (cons_of h8 k5))))))), k2, k4, k6⟩
theorem body_of {H : Heap} {c : List Value} {x : BodyX} (R : ty30.R H c x) : ∃ kv ov dv, argS c = bodyV x kv ov dv ∧ BodyIn H x kv ov dv := by
  obtain ⟨h1, h2, h3, h4, h5⟩ := R
  obtain ⟨kv, k1, k2⟩ := RL.ofTy (f := valR) (fun l x h => val_of h) h3
  obtain ⟨ov, k3, k4⟩ := RL.ofTy (f := opxR) (fun l x h => op_of h) h4
  obtain ⟨dv, k5, k6⟩ := RL.ofTy (f := depR) (fun l x h => dep_of h) h5
  have hc : c = [.int .i64 x.1, .int .i64 x.2.1, kv, ov, dv] := cons_of h1 (cons_of h2 (cons_of k1 (cons_of k3 k5)))
  exact ⟨kv, ov, dv, by rw [hc]; rfl, k2, k4, k6⟩
theorem ok_int {n : Int} (h : ty3.ok n) : -9223372036854775808 ≤ n ∧ n ≤ 9223372036854775807 := by
  have h : (Lit.int .i64 n).wf = true := h
  simp [Lit.wf] at h
  have e1 : IntKind.i64.min = -9223372036854775808 := rfl
  have e2 : IntKind.i64.max = 9223372036854775807 := rfl
  omega
theorem few_small {x : BodyX} {n : Nat} (o : ty30.ok x) (h : FewB x n) (hn : n ≤ 100000) : SmallB x ∧ IntB x := by
  obtain ⟨h1, h2, h3, h4, h5⟩ := o
  refine ⟨⟨fun v hv => ?_, by have := h.con; omega, by have := h.ops; omega, by have := h.deps; omega, fun o ho => by have := h.op o ho; omega⟩, fun o ho => ⟨?_, by have := h.op o ho; omega⟩⟩
  · obtain ⟨_, k2, _⟩ := h3.2 v hv
    exact (ok_int k2).2
  · obtain ⟨_, k2, k3, k4, k5, _⟩ := h4.2 o ho
    exact ⟨(ok_int k2).2, (ok_int k3).2, (ok_int k4).2, (ok_int k5).2⟩
def bW : BodyX := (0, 1, [(0, 0, ⟨#[]⟩)], [(2, 0, 0, 0, 0, [], [], 0, []), (24, 0, 0, 0, 0, [], [], 1, [0])], [])
theorem bW_ok : CheckB p1 bW := by
  obtain ⟨L, hL⟩ := (p1_ok.2.2.2.2.2.2 0 c1 rfl).2.2
  have l0 : L[0]? = some 0 := hL.inv.2
  have l1 : L[1]? = some 1 := hL.reach (Reach.step (c := c1) (i := 0) (d := 0) (x := (2, 0, 0)) (k := 0) (t := 1) .start rfl (by decide) (by decide) (by decide) (by decide) (by decide))
  have hl : L.length = 2 := hL.inv.1
  have dC : bW.consts = [(0, 0, ⟨#[]⟩)] := rfl
  have dO : bW.ops = [(2, 0, 0, 0, 0, [], [], 0, []), (24, 0, 0, 0, 0, [], [], 1, [0])] := rfl
  have dD : bW.deps = [] := rfl
  refine ⟨p1_ok, by decide, c1, L, rfl, ⟨by decide, by decide, by decide, by decide, by decide, by decide⟩, fun x hx => ?_, fun x hx => by rw [dD] at hx; simp at hx, hL, fun i o hi ho => ?_, .inr (by decide)⟩
  · rw [dC] at hx
    simp only [List.mem_singleton] at hx; subst hx; exact ⟨fun _ => rfl, .inl ⟨rfl, rfl⟩⟩
  · rw [dO] at ho hi ⊢
    match i, hi, ho with
    | 0, _, ho =>
      simp only [List.getElem?_cons_zero, Option.some.injEq] at ho; subst ho
      refine ⟨by decide, ⟨by decide, by decide, fun x hx => absurd hx List.not_mem_nil, fun _ => rfl, fun h => absurd h (by decide)⟩, parts4.2 ⟨by decide, by decide, by decide, by decide⟩, ⟨by decide, by show (0 : Int) < _; omega, l0, fun x hx => absurd hx List.not_mem_nil⟩, fun h => absurd h (by decide)⟩
    | 1, _, ho =>
      simp only [List.getElem?_cons_zero, List.getElem?_cons_succ, Option.some.injEq] at ho; subst ho
      refine ⟨by decide, ⟨by decide, by decide, fun x hx => absurd hx List.not_mem_nil, fun _ => rfl, fun h => absurd h (by decide)⟩, parts4.2 ⟨by decide, by decide, by decide, by decide⟩, ⟨by decide, by show (1 : Int) < _; omega, l1, fun x hx => ?_⟩, fun h => absurd h (by decide)⟩
      have hx : x ∈ [(0 : Int)] := hx
      simp only [List.mem_singleton] at hx; subst hx; decide
    | i + 2, hi, _ => simp only [List.length_cons, List.length_nil] at hi; omega
end Go.Proofs.Ytfobbmllbbckkaa
/- The statements of package ir: the small body that works. -/
set_option linter.unusedVariables false
set_option linter.unusedSimpArgs false
set_option maxRecDepth 20000
set_option maxHeartbeats 8000000
namespace Go.Proofs.Ytfobbmllbbckkaa
open Go Ax
theorem irWorks_ax (H : Heap) : AX Try.prog 8 #[] H (fun r H' => r = .bool true ∧ H' = H) := by
  refine AX.quiet ?_
  suffices hh : AX Try.prog 8 #[] H (fun v H' => v = .bool true ∧ Grow H H') from hh.mono fun v _ ⟨e, g⟩ => ⟨e ▸ plain_bool _, e, g⟩
  refine AX.body (n := 45) (rs := [.tmp 0]) Try.func8 rfl (by decide) rfl rfl (bC_sound _ _ _ _ ?_)
  refine run ?_
  refine Ob2.lay (H := H) (.cells (.row 53) [.int .i64 2, .int .i64 0, .int .i64 0, .int .i64 32, .int .i64 0, .int .i64 0]) (.slice (some ⟨H.length, 0, none⟩) 2 3) rfl fun H1 a1 g1 l1 => ?_
  refine run ?_
  refine Ob2.lay (H := H1) (.cells (.row 49) [.int .i64 0, .int .i64 0, .int .i64 0, .int .i64 1, .slice (some ⟨H.length, 0, none⟩) 2 3]) (.slice (some ⟨H1.length, 0, none⟩) 1 5) rfl fun H2 a2 g2 l2 => ?_
  refine run ?_
  refine Ob2.alloc rfl fun q3 H3 hq3 a3 g3 => ?_
  refine run ?_
  refine Ob.store rfl rfl rfl a3 rfl (by first | exact Nat.le_of_ble_eq_true rfl | simp) fun H4 s4 k4 l4 => ?_
  have g4 : Grow H2 H4 := g3.but_new k4 (by omega)
  refine run ?_
  refine Ob2.lay (H := H4) (.cells (.row 51) [.int .i64 0, .int .i64 0, .string ⟨#[]⟩]) (.slice (some ⟨H4.length, 0, none⟩) 1 3) rfl fun H5 a5 g5 l5 => ?_
  refine run ?_
  refine Ob2.lay (H := H5) (.cells (.row 3) [.int .i64 0]) (.slice (some ⟨H5.length, 0, none⟩) 1 1) rfl fun H6 a6 g6 l6 => ?_
  refine run ?_
  refine Ob2.lay (H := H6) (.cells (.row 42) [.int .i64 2, .int .i64 0, .int .i64 0, .int .i64 0, .int .i64 0, .slice none 0 0, .slice none 0 0, .int .i64 0, .slice none 0 0, .int .i64 24, .int .i64 0, .int .i64 0, .int .i64 0, .int .i64 0, .slice none 0 0, .slice none 0 0, .int .i64 1, .slice (some ⟨H5.length, 0, none⟩) 1 1]) (.slice (some ⟨H6.length, 0, none⟩) 2 9) rfl fun H7 a7 g7 l7 => ?_
  refine run ?_
  refine Ob2.alloc rfl fun q8 H8 hq8 a8 g8 => ?_
  refine run ?_
  refine Ob.store rfl rfl rfl a8 rfl (by first | exact Nat.le_of_ble_eq_true rfl | simp) fun H9 s9 k9 l9 => ?_
  have g9 : Grow H7 H9 := g8.but_new k9 (by omega)
  have g49 : Grow H4 H9 := ((g5.trans g6).trans g7).trans g9
  have g : Grow H H9 := ((g1.trans g2).trans g4).trans g49
  have r1 : RL 3 insR H9 (.slice (some ⟨H.length, 0, none⟩) 2 3) c1.ins := .inr ⟨_, rfl, .inr ⟨_, _, g49.at (g4.at (g2.at a1)), fun i x hx => by
    match i, hx with
    | 0, hx => simp [c1, CodeT.ins] at hx; subst hx; exact ⟨_, rfl, rfl⟩
    | 1, hx => simp [c1, CodeT.ins] at hx; subst hx; exact ⟨_, rfl, rfl⟩
    | i + 2, hx => simp [c1, CodeT.ins] at hx⟩⟩
  have r3 : RL 5 codeR H9 (.slice (some ⟨H1.length, 0, none⟩) 1 5) p1.2.2 := .inr ⟨_, rfl, .inr ⟨_, _, g49.at (g4.at a2), fun i x hx => by
    match i, hx with
    | 0, hx => simp [p1] at hx; subst hx; exact ⟨_, rfl, _, rfl, r1⟩
    | i + 1, hx => simp [p1] at hx⟩⟩
  have rb : BodyIn H9 bW (.slice (some ⟨H4.length, 0, none⟩) 1 3) (.slice (some ⟨H6.length, 0, none⟩) 2 9) (.slice none 0 0) := by
    have m0 : RL 1 intR H9 (.slice (some ⟨H5.length, 0, none⟩) 1 1) [0] := RL.own (g := Value.int .i64) (L := [0]) (fun _ _ => rfl) (g9.at (g7.at a6))
    refine ⟨.inr ⟨_, rfl, .inr ⟨_, _, g9.at (g7.at (g6.at a5)), fun i x hx => ?_⟩⟩, .inr ⟨_, rfl, .inr ⟨_, _, g9.at a7, fun i x hx => ?_⟩⟩, .inl ⟨rfl, rfl⟩⟩
    · have hx : [((0 : Int), (0 : Int), (⟨#[]⟩ : ByteArray))][i]? = some x := hx
      match i, hx with
      | 0, hx => simp only [List.getElem?_cons_zero, Option.some.injEq] at hx; subst hx; exact ⟨_, rfl, rfl⟩
      | i + 1, hx => simp at hx
    · have hx : ([(2, 0, 0, 0, 0, [], [], 0, []), (24, 0, 0, 0, 0, [], [], 1, [0])] : List OpX)[i]? = some x := hx
      match i, hx with
      | 0, hx => simp only [List.getElem?_cons_zero, Option.some.injEq] at hx; subst hx; exact ⟨_, rfl, _, _, _, rfl, .inl ⟨rfl, rfl⟩, .inl ⟨rfl, rfl⟩, .inl ⟨rfl, rfl⟩⟩
      | 1, hx => simp only [List.getElem?_cons_zero, List.getElem?_cons_succ, Option.some.injEq] at hx; subst hx; exact ⟨_, rfl, _, _, _, rfl, .inl ⟨rfl, rfl⟩, .inl ⟨rfl, rfl⟩, m0⟩
      | i + 2, hx => simp at hx
  have sb : SmallB bW := by
    refine ⟨fun x hx => ?_, by decide, by decide, by decide, fun o ho => ?_⟩
    · have hx : x ∈ [((0 : Int), (0 : Int), (⟨#[]⟩ : ByteArray))] := hx
      simp only [List.mem_singleton] at hx; subst hx; decide
    · have ho : o ∈ ([(2, 0, 0, 0, 0, [], [], 0, []), (24, 0, 0, 0, 0, [], [], 1, [0])] : List OpX) := ho
      simp only [List.mem_cons, List.not_mem_nil, or_false] at ho
      rcases ho with rfl | rfl <;> decide
  have b1 := g49.hblk (hblk_of s4)
  have b2 := hblk_of s9
  clear s4 s9 a1 a2 a3 a5 a6 a7 a8 g1 g2 g3 g4 g5 g6 g7 g8 g9 k4 k9
  refine run ?_
  refine (irUses_ax (o := (16, 0, 1, 2, 3, [], [], 0, [])) (.inl ⟨rfl, rfl⟩) (by decide)).mono ?_
  rintro u H10 ⟨hu, g10⟩
  have b1 := g10.hblk b1
  have b2 := g10.hblk b2
  have hu' : RL 1 intR H10 u [1, 2] := hu
  have lu : alen Try.prog 38 u H10 = some (.int .i64 2) := hu'.len rfl _
  obtain ⟨p0, i0, j0⟩ := ld_int hu' (i := 0) rfl
  obtain ⟨p1', i1, j1⟩ := ld_int hu' (i := 1) rfl
  have i0 : aindexAddr Try.prog 38 u (.int .i64 0) = some p0 := i0
  have i1 : aindexAddr Try.prog 38 u (.int .i64 1) = some p1' := i1
  have j0 := j0 H10 (.refl _)
  have j1 := j1 H10 (.refl _)
  clear hu
  refine run ?_
  refine (irCheck_ax (p := p1) (b := bW) (.inl ⟨rfl, rfl⟩) (codeR.grow r3 g10) (by decide) (rb.grow g10) sb).mono ?_
  rintro v X ⟨hv, e⟩
  subst X
  rcases hv with ⟨rfl, _⟩ | ⟨_, h⟩
  rotate_left
  · exact absurd bW_ok h
  refine run ?_
  refine (irDef_ax H10 (24, 0, 0, 0, 0, [], [], 0, []) _ _ _).mono ?_
  rintro v X ⟨rfl, e⟩
  subst X
  refine run ?_
  exact ⟨rfl, g.trans g10⟩
end Go.Proofs.Ytfobbmllbbckkaa
