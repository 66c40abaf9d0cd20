/- The law LiveFlows told of abstract memory: it answers true for every program and every body. No condition. -/
import Derived.Test.YtnjckiaogikakaaJLv3
set_option linter.unusedVariables false
set_option linter.unusedSimpArgs false
set_option maxRecDepth 20000
set_option maxHeartbeats 4000000
namespace Go.Proofs.Ytnjckiaogikakaa
open Go Ax
theorem liveFlowsL_ax {H : Heap} {x0 : ProgT} {x1 : BodyX} {ps cs kv ov dv : Value} (hp : RL 1 strR H ps x0.2.1) (hcs : RL 5 codeR H cs x0.2.2) (hbI : BodyIn H x1 kv ov dv) (o1 : ty30.ok x1) :
    AX Try.prog 6 #[progV x0 ps cs, bodyV x1 kv ov dv] H fun v _ => v = .bool true := by
  refine AX.body (n := 126) (rs := [.tmp 4]) Try.func6 rfl (by decide) rfl rfl (bC_sound _ _ _ _ ?_)
  (conv => whnf)
  refine Ob2.box rfl fun q1 H1 hq1 a1 g1 => ?_
  (conv => whnf)
  refine Ob2.box rfl fun q2 H2 hq2 a2 g2 => ?_
  have g := g1.trans g2
  have lp : aload Try.prog 25 (.pointer (some ⟨q1, 0, none⟩)) H2 = some (progV x0 ps cs) := ald_agg rfl rfl rfl (hblk_of (g2.at a1)) rfl
  have lb : aload Try.prog 30 (.pointer (some ⟨q2, 0, none⟩)) H2 = some (bodyV x1 kv ov dv) := ald_agg rfl rfl rfl (hblk_of a2) rfl
  replace hp := strR.grow hp g
  replace hcs := codeR.grow hcs g
  replace hbI := hbI.grow g
  refine run ?_
  refine (fewN_ax 300 (by decide) hp hcs).mono ?_
  rintro _ X ⟨⟨b, rfl, hf⟩, e⟩
  subst X
  cases b with
  | false =>
    refine run ?_
    refine (lvWorks_ax H2).mono ?_
    rintro _ X ⟨rfl, e⟩
    refine run ?_
    rfl
  | true =>
  have hf := hf rfl
  refine run ?_
  refine (fewB_ax hbI 120 (by decide)).mono ?_
  rintro _ X ⟨⟨b, rfl, hf2⟩, e⟩
  subst X
  cases b with
  | false =>
    refine run ?_
    refine (lvWorks_ax H2).mono ?_
    rintro _ X ⟨rfl, e⟩
    refine run ?_
    rfl
  | true =>
  have hf2 := hf2 rfl
  obtain ⟨sm, ib⟩ := few_small o1 hf2 (by decide)
  have hsml := hf.small.1
  refine run ?_
  refine (refCheck_ax hp hcs hsml hbI sm ib).mono ?_
  rintro v X ⟨hv, e⟩
  subst X
  rcases hv with ⟨rfl, hv⟩ | ⟨rfl, hv⟩
  rotate_left
  · refine run ?_
    refine (lvWorks_ax H2).mono ?_
    rintro _ X ⟨rfl, e⟩
    refine run ?_
    rfl
  obtain ⟨c, f, rg, ok⟩ := lv_ok hv hf2
  have hloc : locOf x0 x1 = locOf x0 x1 := rfl
  generalize hlc : locOf x0 x1 = loc at ok
  have hlen := ok.len
  have hr88 := ok.r88
  refine run ?_
  apply SW.drawG [(0, [], [29, 31, 32], false), (1, [], [28, 31, 32], false), (3, [], [28, 29, 30, 32], false), (4, [], [28, 29, 30, 31], false), (2, [(28, 0), (29, 1)], [28, 29, 31, 32], true), (5, [(28, 0), (29, 1), (30, 2), (31, 3), (32, 4)], [28, 29, 30, 31, 32], true), (6, [(28, 0), (29, 1), (30, 2), (31, 3), (32, 4), (33, 5)], [28, 29, 30, 31, 32, 33], false), (7, [(28, 0), (29, 1), (30, 2), (31, 3), (32, 4), (33, 5), (5, 6)], [28, 29, 30, 31, 32, 33, 5], false)]
    [(28, 0), (29, 1), (30, 2), (31, 3), (32, 4), (33, 5), (5, 6), (6, 7)]
    [(2, _), (3, _)] rfl (by kernel_rfl)
  case hF => exact ⟨rfl, rfl, trivial⟩
  refine run ?_
  refine (In_ax hp hcs hsml hbI sm hf2).mono ?_
  rintro iv H3 ⟨hI, g3⟩
  have lp3 := aload_grow g3 lp
  have lb3 := aload_grow g3 lb
  refine run ?_
  refine (Out_ax (strR.grow hp g3) (codeR.grow hcs g3) hsml (hbI.grow g3) sm hf2).mono ?_
  rintro uv H4 ⟨hO, g4⟩
  have g24 := g3.trans g4
  have hI := llR.grow hI g4
  have lI : (inLL x0 x1).length = x1.ops.length := by unfold inLL; rw [if_pos hv]; simp
  have lO : (outLL x0 x1).length = x1.ops.length := by unfold outLL; rw [if_pos hv]; simp
  have aI : ∀ i, i < x1.ops.length → (inLL x0 x1)[i]? = some (inL x1 loc i) := fun i hi => by unfold inLL; rw [if_pos hv, List.getElem?_map, List.getElem?_range hi, hlc]; rfl
  have aO : ∀ i, i < x1.ops.length → (outLL x0 x1)[i]? = some (outL x1 loc i) := fun i hi => by unfold outLL; rw [if_pos hv, List.getElem?_map, List.getElem?_range hi, hlc]; rfl
  generalize inLL x0 x1 = LI at hI lI aI
  generalize outLL x0 x1 = LO at hO lO aO
  have m1 := hI.len (P := Try.prog) (t := 37) (e := 35) rfl H4
  have m2 := hO.len (P := Try.prog) (t := 37) (e := 35) rfl H4
  rw [lI] at m1
  rw [lO] at m2
  have l4 := fun X => hbI.ops.len (P := Try.prog) (t := 27) (e := 43) rfl X
  have l44 := l4 H4
  have b2 := hblk_of (g24.at a2)
  have d0 : (!(((x1.ops.length : Int)) == ((x1.ops.length : Int)))) = false := by simp
  clear lp lb lp3 lb3
  refine run ?_
  clear m1 m2 l44 b2 d0
  refine SW.loop (α := Nat) (fun y => [(2, .pointer (some ⟨q1, 0, none⟩)), (3, .pointer (some ⟨q2, 0, none⟩)), (5, iv), (6, uv), (7, .int .i64 (y : Int))]) (fun y X => y ≤ x1.ops.length ∧ Grow H4 X) (fun y => x1.ops.length - y) ⟨0, ⟨rfl, rfl, rfl, rfl, rfl, trivial⟩, Nat.zero_le _, .refl _⟩ ?_
  rintro m X ⟨hm, gX⟩
  have gHX := g24.trans gX
  have b2 := hblk_of (gHX.at a2)
  have l4X := l4 X
  refine bC_sound _ _ _ _ ?_
  by_cases hml : m < x1.ops.length
  rotate_left
  · have d1 : decide ((m : Int) < (x1.ops.length : Int)) = false := decide_eq_false (by omega)
    refine run ?_
    refine (lvWorks_ax X).mono ?_
    rintro _ X ⟨rfl, e⟩
    refine run ?_
    rfl
  have d1 : decide ((m : Int) < (x1.ops.length : Int)) = true := decide_eq_true (by omega)
  obtain ⟨o, ho⟩ := get_lt (L := x1.ops) (m := m) hml
  have hom := List.mem_of_getElem? ho
  have lb : aload Try.prog 30 (.pointer (some ⟨q2, 0, none⟩)) X = some (bodyV x1 kv ov dv) := ald_agg rfl rfl rfl b2 rfl
  refine run ?_
  refine (irTargets_ax (hbI.grow gHX) (by omega) ho).mono ?_
  rintro tv X1 ⟨hT, gX1⟩
  have htm := ok.tgt m o ho
  have hTe : ∀ r, LiveBehind x1 loc r m ↔ ∃ t ∈ tgtL o m, LiveAt x1 loc r t.toNat := fun r => by
    constructor
    · rintro ⟨o', t, h1, h2, h3⟩
      rw [ho] at h1
      simp only [Option.some.injEq] at h1
      subst h1
      exact ⟨t, h2, h3⟩
    · rintro ⟨t, h2, h3⟩
      exact ⟨o, t, ho, h2, h3⟩
  have hTl : (tgtL o m).length ≤ 2 := by unfold tgtL; split; simp; split; simp; split <;> simp
  generalize tgtL o m = T at hT htm hTe hTl
  have gX1' := gHX.trans gX1
  have g4X := gX.trans gX1
  have b2 := hblk_of (gX1'.at a2)
  have b1 := hblk_of (gX1'.at (g2.at a1))
  have l4X := l4 X1
  have lT := hT.len (P := Try.prog) (t := 35) (e := 3) rfl X1
  have hI1 := llR.grow hI g4X
  have hO1 := llR.grow hO g4X
  obtain ⟨bz, rv, cv, mv, i5, jr, jc, jm, i6⟩ := ldx_op hbI.ops ho
  have i7 := (i6 X1 gX1').1
  obtain ⟨bq, j1, j2⟩ := ldx_code hcs ok.hcode
  rw [← ok.hF] at j1
  have j3 := (j2 X1 gX1').1
  rw [ok.hloc] at j3
  clear lb d1
  refine run ?_
  refine SW.loop (α := Nat) (fun y => [(2, .pointer (some ⟨q1, 0, none⟩)), (3, .pointer (some ⟨q2, 0, none⟩)), (5, iv), (6, uv), (7, .int .i64 (m : Int)), (8, tv), (9, .int .i64 (y : Int))]) (fun y Y => y ≤ rg ∧ Y = X1) (fun y => rg - y) ⟨0, ⟨rfl, rfl, rfl, rfl, rfl, rfl, rfl, trivial⟩, Nat.zero_le _, rfl⟩ ?_
  rintro r Y ⟨hr, e⟩
  subst Y
  refine bC_sound _ _ _ _ ?_
  by_cases hrl : r < rg
  rotate_left
  · have d1 : decide ((r : Int) < x1.regs) = false := decide_eq_false (by rw [ok.hrg]; omega)
    have w1 := w_succ (k := m) (by omega)
    refine run ?_
    exact ⟨m + 1, ⟨rfl, rfl, rfl, rfl, congrArg (fun z => some (Value.int .i64 z)) w1, trivial⟩, ⟨hml, g4X⟩, by show _ - (m + 1) < _ - m; omega⟩
  have d1 : decide ((r : Int) < x1.regs) = true := decide_eq_true (by rw [ok.hrg]; omega)
  refine run ?_
  refine SW.loop (α := Nat × Bool) (fun y => [(2, .pointer (some ⟨q1, 0, none⟩)), (3, .pointer (some ⟨q2, 0, none⟩)), (5, iv), (6, uv), (7, .int .i64 (m : Int)), (8, tv), (9, .int .i64 (r : Int)), (10, .bool y.2), (11, .int .i64 (y.1 : Int))])
    (fun y Y => y.1 ≤ T.length ∧ Y = X1 ∧ (y.2 = true ↔ ∃ t ∈ T.take y.1, LiveAt x1 loc r t.toNat)) (fun y => T.length - y.1) ⟨(0, false), ⟨rfl, rfl, rfl, rfl, rfl, rfl, rfl, rfl, rfl, trivial⟩, Nat.zero_le _, rfl, by simp⟩ ?_
  rintro ⟨k, any⟩ Y ⟨hk, e, hany⟩
  dsimp only at hk e hany ⊢
  subst Y
  refine bC_sound _ _ _ _ ?_
  by_cases hkl : k < T.length
  · have d2 : decide ((k : Int) < (T.length : Int)) = true := decide_eq_true (by omega)
    obtain ⟨t, htt⟩ := get_lt hkl
    obtain ⟨t0, t1⟩ := htm t (List.mem_of_getElem? htt)
    obtain ⟨x, rfl⟩ : ∃ x : Nat, t = (x : Int) := ⟨t.toNat, by omega⟩
    obtain ⟨px, p1, p2⟩ := int_at hT htt
    have p3 := p2 X1 (.refl _)
    obtain ⟨py, u, y1, yu, y2⟩ := ll_at hI1 (aI x (by omega))
    have y3 := y2 X1 (.refl _)
    have w1 := w_succ (k := k) (by omega)
    cases any with
    | true =>
      refine run ?_
      refine ⟨(k + 1, true), ⟨rfl, rfl, rfl, rfl, rfl, rfl, rfl, rfl, congrArg (fun z => some (Value.int .i64 z)) w1, trivial⟩, ⟨by dsimp only; omega, rfl, fun _ => ?_, fun _ => rfl⟩, by show _ - (k + 1) < _ - k; omega⟩
      obtain ⟨t, h1, h2⟩ := hany.1 rfl
      exact ⟨t, by rw [List.take_add_one]; exact List.mem_append_left _ h1, h2⟩
    | false =>
      refine run ?_
      refine (hasLaw_ax yu (by have := inL_len x1 loc x; omega) (r : Int)).mono ?_
      rintro _ Z ⟨rfl, e⟩
      subst Z
      generalize hdd : decide ((r : Int) ∈ inL x1 loc x) = dd
      refine run ?_
      refine ⟨(k + 1, dd), ⟨rfl, rfl, rfl, rfl, rfl, rfl, rfl, rfl, congrArg (fun z => some (Value.int .i64 z)) w1, trivial⟩, ⟨by dsimp only; omega, rfl, ?_⟩, by show _ - (k + 1) < _ - k; omega⟩
      dsimp only
      rw [← hdd, decide_eq_true_eq, mem_inL (by omega) (by omega), Int.toNat_natCast, List.take_add_one, htt]
      constructor
      · intro h
        exact ⟨(x : Int), by simp, h⟩
      · rintro ⟨t, h1, h2⟩
        rcases List.mem_append.1 h1 with h1 | h1
        · exact absurd (hany.2 ⟨t, h1, h2⟩) (by simp)
        · simp only [Option.toList_some, List.mem_singleton] at h1
          subst h1
          exact h2
  have d2 : decide ((k : Int) < (T.length : Int)) = false := decide_eq_false (by omega)
  rw [List.take_of_length_le (by omega), ← hTe] at hany
  obtain ⟨po, uo, o1', ou, o2⟩ := ll_at hO1 (aO m hml)
  have o3 := o2 X1 (.refl _)
  obtain ⟨pi, ui, i1', iu, i2⟩ := ll_at hI1 (aI m hml)
  have i3 := i2 X1 (.refl _)
  have w2 := w_succ (k := r) (by omega)
  refine run ?_
  refine (hasLaw_ax ou (by have := outL_len x1 loc m; omega) (r : Int)).mono ?_
  rintro _ Z ⟨rfl, e⟩
  subst Z
  have e1 : decide ((r : Int) ∈ outL x1 loc m) = any := by
    rw [Bool.eq_iff_iff, decide_eq_true_eq, mem_outL (by omega) (by omega), Int.toNat_natCast, hany]
  rw [e1]
  have e2 : (!(any == any)) = false := by simp
  refine run ?_
  apply SW.drawH [(0, [], [92, 95, 96, 97, 98, 99, 100, 101, 102], false), (1, [(90, 0)], [90, 92, 95, 96, 97, 98, 99, 100, 101, 102], false), (2, [], [90, 91, 95, 96, 97, 98, 99, 100, 101, 102], false), (3, [(90, 0), (91, 1), (92, 2)], [90, 91, 92, 95, 96, 97, 98, 99, 100, 101, 102], false), (4, [(90, 0), (91, 1), (92, 2), (93, 3)], [90, 91, 92, 93, 95, 96, 97, 98, 99, 100, 101, 102], false), (5, [], [90, 91, 92, 93, 94, 97, 98, 102], false), (6, [(95, 5)], [90, 91, 92, 93, 94, 95, 97, 98, 102], false), (7, [], [90, 91, 92, 93, 94, 95, 96, 102], false), (8, [(97, 7)], [90, 91, 92, 93, 94, 95, 96, 97, 102], false), (9, [(95, 5), (96, 6), (97, 7), (98, 8)], [90, 91, 92, 93, 94, 95, 96, 97, 98, 102], false), (10, [(95, 5), (96, 6), (97, 7), (98, 8), (99, 9)], [90, 91, 92, 93, 94, 95, 96, 97, 98, 99, 102], false), (11, [(95, 5), (96, 6), (97, 7), (98, 8), (99, 9), (100, 10)], [90, 91, 92, 93, 94, 95, 96, 97, 98, 99, 100, 102], false), (12, [], [90, 91, 92, 93, 94, 95, 96, 97, 98, 99, 100, 101], false), (13, [(90, 0), (91, 1), (92, 2), (93, 3), (94, 4), (95, 5), (96, 6), (97, 7), (98, 8), (99, 9), (100, 10), (101, 11), (102, 12)], [90, 91, 92, 93, 94, 95, 96, 97, 98, 99, 100, 101, 102], true), (14, [(90, 0), (91, 1), (92, 2), (93, 3), (94, 4), (95, 5), (96, 6), (97, 7), (98, 8), (99, 9), (100, 10), (101, 11), (102, 12), (103, 13)], [90, 91, 92, 93, 94, 95, 96, 97, 98, 99, 100, 101, 102, 103], false), (15, [(90, 0), (91, 1), (92, 2), (93, 3), (94, 4), (95, 5), (96, 6), (97, 7), (98, 8), (99, 9), (100, 10), (101, 11), (102, 12), (103, 13), (104, 14)], [90, 91, 92, 93, 94, 95, 96, 97, 98, 99, 100, 101, 102, 103, 104], false), (16, [(90, 0), (91, 1), (92, 2), (93, 3), (94, 4), (95, 5), (96, 6), (97, 7), (98, 8), (99, 9), (100, 10), (101, 11), (102, 12), (103, 13), (104, 14), (105, 15)], [90, 91, 92, 93, 94, 95, 96, 97, 98, 99, 100, 101, 102, 103, 104, 105], false), (17, [(90, 0), (91, 1), (92, 2), (93, 3), (94, 4), (95, 5), (96, 6), (97, 7), (98, 8), (99, 9), (100, 10), (101, 11), (102, 12), (103, 13), (104, 14), (105, 15), (106, 16)], [90, 91, 92, 93, 94, 95, 96, 97, 98, 99, 100, 101, 102, 103, 104, 105, 106, 109, 113], false), (18, [(90, 0), (91, 1), (92, 2), (93, 3), (94, 4), (95, 5), (96, 6), (97, 7), (98, 8), (99, 9), (100, 10), (101, 11), (102, 12), (103, 13), (104, 14), (105, 15), (106, 16), (107, 17)], [90, 91, 92, 93, 94, 95, 96, 97, 98, 99, 100, 101, 102, 103, 104, 105, 106, 107, 109, 113], false), (19, [(90, 0), (91, 1), (92, 2), (93, 3), (94, 4), (95, 5), (96, 6), (97, 7), (98, 8), (99, 9), (100, 10), (101, 11), (102, 12), (103, 13), (104, 14), (105, 15), (106, 16)], [90, 91, 92, 93, 94, 95, 96, 97, 98, 99, 100, 101, 102, 103, 104, 105, 106, 107, 108, 113], false), (20, [(90, 0), (91, 1), (92, 2), (93, 3), (94, 4), (95, 5), (96, 6), (97, 7), (98, 8), (99, 9), (100, 10), (101, 11), (102, 12), (103, 13), (104, 14), (105, 15), (106, 16), (107, 17), (108, 18), (109, 19)], [90, 91, 92, 93, 94, 95, 96, 97, 98, 99, 100, 101, 102, 103, 104, 105, 106, 107, 108, 109, 113], false), (21, [(90, 0), (91, 1), (92, 2), (93, 3), (94, 4), (95, 5), (96, 6), (97, 7), (98, 8), (99, 9), (100, 10), (101, 11), (102, 12), (103, 13), (104, 14), (105, 15), (106, 16), (107, 17), (108, 18), (109, 19), (110, 20)], [90, 91, 92, 93, 94, 95, 96, 97, 98, 99, 100, 101, 102, 103, 104, 105, 106, 107, 108, 109, 110, 113], false), (23, [(90, 0), (91, 1), (92, 2), (93, 3), (94, 4), (95, 5), (96, 6), (97, 7), (98, 8), (99, 9), (100, 10), (101, 11), (102, 12), (103, 13), (104, 14), (105, 15), (106, 16)], [90, 91, 92, 93, 94, 95, 96, 97, 98, 99, 100, 101, 102, 103, 104, 105, 106, 107, 108, 109, 110, 111, 112], false), (22, [(90, 0), (91, 1), (92, 2), (93, 3), (94, 4), (95, 5), (96, 6), (97, 7), (98, 8), (99, 9), (100, 10), (101, 11), (102, 12), (103, 13), (104, 14), (105, 15), (106, 16), (107, 17), (108, 18), (109, 19), (110, 20), (111, 21)], [90, 91, 92, 93, 94, 95, 96, 97, 98, 99, 100, 101, 102, 103, 104, 105, 106, 107, 108, 109, 110, 111, 113], true), (24, [(90, 0), (91, 1), (92, 2), (93, 3), (94, 4), (95, 5), (96, 6), (97, 7), (98, 8), (99, 9), (100, 10), (101, 11), (102, 12), (103, 13), (104, 14), (105, 15), (106, 16), (107, 17), (108, 18), (109, 19), (110, 20), (111, 21), (112, 22), (113, 23)], [90, 91, 92, 93, 94, 95, 96, 97, 98, 99, 100, 101, 102, 103, 104, 105, 106, 107, 108, 109, 110, 111, 112, 113], false), (25, [(90, 0), (91, 1), (92, 2), (93, 3), (94, 4), (95, 5), (96, 6), (97, 7), (98, 8), (99, 9), (100, 10), (101, 11), (102, 12), (103, 13), (104, 14), (105, 15), (106, 16), (107, 17), (108, 18), (109, 19), (110, 20), (111, 21), (112, 22), (113, 23), (114, 24)], [90, 91, 92, 93, 94, 95, 96, 97, 98, 99, 100, 101, 102, 103, 104, 105, 106, 107, 108, 109, 110, 111, 112, 113, 114], false), (26, [(90, 0), (91, 1), (92, 2), (93, 3), (94, 4), (95, 5), (96, 6), (97, 7), (98, 8), (99, 9), (100, 10), (101, 11), (102, 12), (103, 13), (104, 14), (105, 15), (106, 16), (107, 17), (108, 18), (109, 19), (110, 20), (111, 21), (112, 22), (113, 23), (114, 24), (115, 25)], [90, 91, 92, 93, 94, 95, 96, 97, 98, 99, 100, 101, 102, 103, 104, 105, 106, 107, 108, 109, 110, 111, 112, 113, 114, 115], false), (27, [(90, 0), (91, 1), (92, 2), (93, 3), (94, 4), (95, 5), (96, 6), (97, 7), (98, 8), (99, 9), (100, 10), (101, 11), (102, 12), (103, 13), (104, 14), (105, 15), (106, 16), (107, 17), (108, 18), (109, 19), (110, 20), (111, 21), (112, 22), (113, 23), (114, 24), (115, 25), (116, 26)], [90, 91, 92, 93, 94, 95, 96, 97, 98, 99, 100, 101, 102, 103, 104, 105, 106, 107, 108, 109, 110, 111, 112, 113, 114, 115, 116], false)]
    [(90, 0), (91, 1), (92, 2), (93, 3), (94, 4), (95, 5), (96, 6), (97, 7), (98, 8), (99, 9), (100, 10), (101, 11), (102, 12), (103, 13), (104, 14), (105, 15), (106, 16), (107, 17), (108, 18), (109, 19), (110, 20), (111, 21), (112, 22), (113, 23), (114, 24), (115, 25), (116, 26), (12, 27)] []
    [(2, _), (3, _), (5, _), (6, _), (7, _), (8, _), (9, _), (10, _)] rfl (by kernel_rfl)
  case hF => exact ⟨rfl, rfl, rfl, rfl, rfl, rfl, rfl, rfl, trivial⟩
  refine run ?_
  obtain ⟨s1, s2⟩ := ok.sm o hom
  refine (refNeeds_ax (intR.grow jr gX1') (intR.grow jm gX1') (by omega) (by omega)).mono ?_
  rintro _ Z ⟨rfl, e⟩
  subst Z
  have fin : ∀ nd : Bool, (nd = true ↔ NeedP o loc r ∨ defL o ≠ (r : Int) ∧ LiveBehind x1 loc r m) → decide ((r : Int) ∈ inL x1 loc m) = nd := fun nd h => by
    rw [Bool.eq_iff_iff, decide_eq_true_eq, mem_inL (by omega) (by omega), Int.toNat_natCast, h]
    exact live_iff ho
  by_cases hN : NeedP o loc r
  · rw [decide_eq_true hN]
    refine run ?_
    refine (hasLaw_ax iu (by have := inL_len x1 loc m; omega) (r : Int)).mono ?_
    rintro _ Z ⟨rfl, e⟩
    subst Z
    rw [fin true (⟨fun _ => .inl hN, fun _ => rfl⟩)]
    refine run ?_
    exact ⟨r + 1, ⟨rfl, rfl, rfl, rfl, rfl, rfl, congrArg (fun z => some (Value.int .i64 z)) w2, trivial⟩, ⟨by omega, rfl⟩, by show rg - (r + 1) < rg - r; omega⟩
  rw [decide_eq_false hN]
  cases any with
  | false =>
    have hnb : ¬ LiveBehind x1 loc r m := fun h => by have := hany.2 h; simp at this
    refine run ?_
    refine (hasLaw_ax iu (by have := inL_len x1 loc m; omega) (r : Int)).mono ?_
    rintro _ Z ⟨rfl, e⟩
    subst Z
    rw [fin false (⟨fun h => by simp at h, fun h => by rcases h with h | h; exact absurd h hN; exact absurd h.2 hnb⟩)]
    refine run ?_
    exact ⟨r + 1, ⟨rfl, rfl, rfl, rfl, rfl, rfl, congrArg (fun z => some (Value.int .i64 z)) w2, trivial⟩, ⟨by omega, rfl⟩, by show rg - (r + 1) < rg - r; omega⟩
  | true =>
    have hb := hany.1 rfl
    refine run ?_
    refine (irDef_ax X1 o rv cv mv).mono ?_
    rintro _ Z ⟨rfl, e⟩
    subst Z
    by_cases hD : defL o = (r : Int)
    · have d5 : (defL o != (r : Int)) = false := by simp [hD]
      refine run ?_
      refine (hasLaw_ax iu (by have := inL_len x1 loc m; omega) (r : Int)).mono ?_
      rintro _ Z ⟨rfl, e⟩
      subst Z
      (try rw [d5])
      rw [fin false (⟨fun h => by simp at h, fun h => by rcases h with h | h; exact absurd h hN; exact absurd hD h.1⟩)]
      refine run ?_
      exact ⟨r + 1, ⟨rfl, rfl, rfl, rfl, rfl, rfl, congrArg (fun z => some (Value.int .i64 z)) w2, trivial⟩, ⟨by omega, rfl⟩, by show rg - (r + 1) < rg - r; omega⟩
    · have d5 : (defL o != (r : Int)) = true := by simpa using hD
      refine run ?_
      refine (hasLaw_ax iu (by have := inL_len x1 loc m; omega) (r : Int)).mono ?_
      rintro _ Z ⟨rfl, e⟩
      subst Z
      (try rw [d5])
      rw [fin true (⟨fun _ => .inr ⟨hD, hb⟩, fun _ => rfl⟩)]
      refine run ?_
      exact ⟨r + 1, ⟨rfl, rfl, rfl, rfl, rfl, rfl, congrArg (fun z => some (Value.int .i64 z)) w2, trivial⟩, ⟨by omega, rfl⟩, by show rg - (r + 1) < rg - r; omega⟩
theorem LiveFlows_ax (H : Heap) (c0 : List Value) (x0 : (Int) × (List (ByteArray)) × (List ((Int) × (Int) × (Int) × (Int) × (List ((Int) × (Int) × (Int)))))) (c1 : List Value) (x1 : (Int) × (Int) × (List ((Int) × (Int) × (ByteArray))) × (List ((Int) × (Int) × (Int) × (Int) × (Int) × (List (Int)) × (List ((Int) × (Int) × (Int))) × (Int) × (List (Int)))) × (List ((Int) × (Int)))) (hn : NoOwn H) (R0 : ty25.R H c0 x0) (o0 : ty25.ok x0) (R1 : ty30.R H c1 x1) (o1 : ty30.ok x1) :
    AX Try.prog 6 #[argS c0, argS c1] H fun v _ => v = .bool true := by
  obtain ⟨ps, cs, e0, hp, hcs⟩ := prog_of R0
  obtain ⟨kv, ov, dv, e1, hbI⟩ := body_of R1
  rw [e0, e1]
  exact liveFlowsL_ax hp hcs hbI o1
end Go.Proofs.Ytnjckiaogikakaa
