/- The law LiveUnread told of abstract memory: it answers true for every program, every body and all turns. No condition. -/
import Derived.Test.YtnjckiaogikakaaJLv3
set_option linter.unusedVariables false
set_option linter.unusedSimpArgs false
set_option maxRecDepth 20000
set_option maxHeartbeats 4000000
namespace Go.Proofs.Ytnjckiaogikakaa
open Go Ax
theorem liveUnreadL_ax {H : Heap} {x0 : ProgT} {x1 : BodyX} {x2 : List Bool} {ps cs kv ov dv tb : Value} (hp : RL 1 strR H ps x0.2.1) (hcs : RL 5 codeR H cs x0.2.2) (hbI : BodyIn H x1 kv ov dv) (o1 : ty30.ok x1) (htb : RL 1 boolR H tb x2) :
    AX Try.prog 4 #[progV x0 ps cs, bodyV x1 kv ov dv, tb] H fun v _ => v = .bool true := by
  refine AX.body (n := 119) (rs := [.tmp 6]) Try.func4 rfl (by decide) rfl rfl (bC_sound _ _ _ _ ?_)
  (conv => whnf)
  refine Ob2.box rfl fun q1 H1 hq1 a1 g1 => ?_
  (conv => whnf)
  refine Ob2.box rfl fun q2 H2 hq2 a2 g2 => ?_
  have g := g1.trans g2
  have lp : aload Try.prog 25 (.pointer (some ⟨q1, 0, none⟩)) H2 = some (progV x0 ps cs) := ald_agg rfl rfl rfl (hblk_of (g2.at a1)) rfl
  have lb : aload Try.prog 30 (.pointer (some ⟨q2, 0, none⟩)) H2 = some (bodyV x1 kv ov dv) := ald_agg rfl rfl rfl (hblk_of a2) rfl
  replace hp := strR.grow hp g
  replace hcs := codeR.grow hcs g
  replace hbI := hbI.grow g
  refine run ?_
  refine (fewN_ax 300 (by decide) hp hcs).mono ?_
  rintro _ X ⟨⟨b, rfl, hf⟩, e⟩
  subst X
  cases b with
  | false =>
    refine run ?_
    refine (lvWorks_ax H2).mono ?_
    rintro _ X ⟨rfl, e⟩
    refine run ?_
    rfl
  | true =>
  have hf := hf rfl
  refine run ?_
  refine (fewB_ax hbI 120 (by decide)).mono ?_
  rintro _ X ⟨⟨b, rfl, hf2⟩, e⟩
  subst X
  cases b with
  | false =>
    refine run ?_
    refine (lvWorks_ax H2).mono ?_
    rintro _ X ⟨rfl, e⟩
    refine run ?_
    rfl
  | true =>
  have hf2 := hf2 rfl
  obtain ⟨sm, ib⟩ := few_small o1 hf2 (by decide)
  have hsml := hf.small.1
  replace htb := boolR.grow htb g
  refine run ?_
  refine (refCheck_ax hp hcs hsml hbI sm ib).mono ?_
  rintro v X ⟨hv, e⟩
  subst X
  rcases hv with ⟨rfl, hv⟩ | ⟨rfl, hv⟩
  rotate_left
  · refine run ?_
    refine (lvWorks_ax H2).mono ?_
    rintro _ X ⟨rfl, e⟩
    refine run ?_
    rfl
  obtain ⟨c, f, rg, ok⟩ := lv_ok hv hf2
  generalize hlc : locOf x0 x1 = loc at ok
  have hlen := ok.len
  have hr88 := ok.r88
  refine run ?_
  refine (Dead_ax hp hcs hsml hbI sm hf2).mono ?_
  rintro lv H3 ⟨hl, g3⟩
  have hD : ∀ z ∈ deadL x0 x1, ∃ i : Nat, z = (i : Int) ∧ i < x1.ops.length ∧ DeadP x0 x1 i := fun z hz => by
    unfold deadL at hz
    rw [if_pos hv] at hz
    unfold deadN at hz
    simp only [List.mem_map, List.mem_filter, List.mem_range, decide_eq_true_eq] at hz
    obtain ⟨i, ⟨h1, h2⟩, rfl⟩ := hz
    exact ⟨i, rfl, h1, h2⟩
  have hDl : (deadL x0 x1).length ≤ 120 := by
    unfold deadL
    rw [if_pos hv]
    have := deadN_len x0 x1 x1.ops.length
    omega
  generalize deadL x0 x1 = D at hl hD hDl
  clear lp lb
  refine run ?_
  refine SW.loop (α := Nat) (fun y => [(2, tb), (3, .pointer (some ⟨q1, 0, none⟩)), (4, .pointer (some ⟨q2, 0, none⟩)), (7, lv), (8, .int .i64 (y : Int))]) (fun y X => y ≤ D.length ∧ Grow H3 X) (fun y => D.length - y) ⟨0, ⟨rfl, rfl, rfl, rfl, rfl, trivial⟩, Nat.zero_le _, .refl _⟩ ?_
  rintro k X ⟨hk, gX⟩
  have gHX := g3.trans gX
  have b2 := hblk_of (gHX.at a2)
  have lD := hl.len (P := Try.prog) (t := 35) (e := 3) rfl X
  have l4 := fun X => hbI.ops.len (P := Try.prog) (t := 27) (e := 43) rfl X
  have l4X := l4 X
  refine bC_sound _ _ _ _ ?_
  by_cases hkl : k < D.length
  rotate_left
  · have d1 : decide ((k : Int) < (D.length : Int)) = false := decide_eq_false (by omega)
    refine run ?_
    refine (lvWorks_ax X).mono ?_
    rintro _ X ⟨rfl, e⟩
    refine run ?_
    rfl
  have d1 : decide ((k : Int) < (D.length : Int)) = true := decide_eq_true (by omega)
  obtain ⟨z, hz⟩ := get_lt hkl
  obtain ⟨i, rfl, hin, od, hod, hpu, hnb0⟩ := hD z (List.mem_of_getElem? hz)
  rw [hlc] at hnb0
  obtain ⟨_, pa0, pa1⟩ := ok.pure od (List.mem_of_getElem? hod) hpu
  obtain ⟨r, hra⟩ : ∃ r : Nat, od.a = (r : Int) := ⟨od.a.toNat, by omega⟩
  have hrn : od.a.toNat = r := by omega
  rw [hrn] at hnb0
  obtain ⟨pz, p1, p2⟩ := int_at hl hz
  have p3 := p2 X gX
  have w1 := w_succ (k := k) (by omega)
  have d2 : decide ((i : Int) < 0) = false := decide_eq_false (by omega)
  have d3 : decide ((i : Int) ≥ (x1.ops.length : Int)) = false := decide_eq_false (by omega)
  obtain ⟨bd, i1, i2⟩ := ldx_opA hbI.ops hod
  have i3 := i2 X gHX
  rw [hra] at i3
  refine run ?_
  apply SW.drawH [(0, [], [38], false), (1, [], [37], false), (2, [(37, 0), (38, 1)], [37, 38], false), (3, [(37, 0), (38, 1), (39, 2)], [37, 38, 39], false), (4, [(37, 0), (38, 1), (39, 2), (40, 3)], [37, 38, 39, 40], false), (5, [(37, 0), (38, 1), (39, 2), (40, 3), (41, 4)], [37, 38, 39, 40, 41], false), (6, [(37, 0), (38, 1), (39, 2), (40, 3), (41, 4), (42, 5)], [37, 38, 39, 40, 41, 42, 44, 47, 48, 49], false), (7, [(37, 0), (38, 1), (39, 2), (40, 3), (41, 4), (42, 5)], [37, 38, 39, 40, 41, 42, 43, 47, 48, 49], false), (8, [(37, 0), (38, 1), (39, 2), (40, 3), (41, 4), (42, 5), (43, 6), (44, 7)], [37, 38, 39, 40, 41, 42, 43, 44, 47, 48, 49], false), (9, [(37, 0), (38, 1), (39, 2), (40, 3), (41, 4), (42, 5), (43, 6), (44, 7), (45, 8)], [37, 38, 39, 40, 41, 42, 43, 44, 45, 47, 48, 49], false), (10, [(37, 0), (38, 1), (39, 2), (40, 3), (41, 4), (42, 5)], [37, 38, 39, 40, 41, 42, 43, 44, 45, 46], false), (11, [(37, 0), (38, 1), (39, 2), (40, 3), (41, 4), (42, 5), (47, 10)], [37, 38, 39, 40, 41, 42, 43, 44, 45, 46, 47], false), (12, [(37, 0), (38, 1), (39, 2), (40, 3), (41, 4), (42, 5), (47, 10), (48, 11)], [37, 38, 39, 40, 41, 42, 43, 44, 45, 46, 47, 48], false), (13, [(37, 0), (38, 1), (39, 2), (40, 3), (41, 4), (42, 5), (43, 6), (44, 7), (45, 8), (46, 9), (47, 10), (48, 11), (49, 12)], [37, 38, 39, 40, 41, 42, 43, 44, 45, 46, 47, 48, 49], false), (14, [(37, 0), (38, 1), (39, 2), (40, 3), (41, 4), (42, 5), (43, 6), (44, 7), (45, 8), (46, 9), (47, 10), (48, 11), (49, 12), (50, 13)], [37, 38, 39, 40, 41, 42, 43, 44, 45, 46, 47, 48, 49, 50], false)]
    [(37, 0), (38, 1), (39, 2), (40, 3), (41, 4), (42, 5), (43, 6), (44, 7), (45, 8), (46, 9), (47, 10), (48, 11), (49, 12), (50, 13), (51, 14)] []
    [(2, _), (3, _), (4, _), (7, _), (8, _)] rfl (by kernel_rfl)
  case hF => exact ⟨rfl, rfl, rfl, rfl, rfl, trivial⟩
  refine run ?_
  apply SW.drawH [(0, [], [54, 55, 56, 57], false), (1, [(52, 0)], [52, 54, 55, 56, 57], false), (2, [], [52, 53, 55], false), (3, [], [52, 53, 54], false), (4, [(54, 2), (55, 3)], [52, 53, 54, 55], false), (5, [(54, 2), (55, 3), (56, 4)], [52, 53, 54, 55, 56], false), (6, [(52, 0), (53, 1), (54, 2), (55, 3), (56, 4), (57, 5)], [52, 53, 54, 55, 56, 57], false), (7, [(52, 0), (53, 1), (54, 2), (55, 3), (56, 4), (57, 5), (58, 6)], [52, 53, 54, 55, 56, 57, 58], false), (8, [(52, 0), (53, 1), (54, 2), (55, 3), (56, 4), (57, 5), (58, 6), (59, 7)], [52, 53, 54, 55, 56, 57, 58, 59], false), (9, [(52, 0), (53, 1), (54, 2), (55, 3), (56, 4), (57, 5), (58, 6), (59, 7), (60, 8)], [52, 53, 54, 55, 56, 57, 58, 59, 60], false)]
    [(52, 0), (53, 1), (54, 2), (55, 3), (56, 4), (57, 5), (58, 6), (59, 7), (60, 8), (9, 9)] []
    [(2, _), (3, _), (4, _), (7, _), (8, _)] rfl (by kernel_rfl)
  case hF => exact ⟨rfl, rfl, rfl, rfl, rfl, trivial⟩
  refine run ?_
  refine SW.loop (α := Nat × Nat) (fun y => [(2, tb), (3, .pointer (some ⟨q1, 0, none⟩)), (4, .pointer (some ⟨q2, 0, none⟩)), (7, lv), (8, .int .i64 (k : Int)), (9, .int .i64 (r : Int)), (10, .int .i64 (y.2 : Int)), (11, .int .i64 (y.1 : Int))])
    (fun y Y => Grow H3 Y ∧ y.2 < x1.ops.length ∧ ¬ LiveBehind x1 loc r y.2) (fun y => 200 - y.1) ⟨(0, i), ⟨rfl, rfl, rfl, rfl, rfl, rfl, rfl, rfl, trivial⟩, gX, hin, hnb0⟩ ?_
  clear d1 d2 d3 p1 p3 i1 i3 l4X lD b2
  rintro ⟨n, a⟩ Y ⟨gY, han, hnb⟩
  dsimp only at han hnb ⊢
  have gHY := g3.trans gY
  have b2 := hblk_of (gHY.at a2)
  have lt := htb.len (P := Try.prog) (t := 39) (e := 4) rfl Y
  refine bC_sound _ _ _ _ ?_
  by_cases c1 : n < x2.length
  rotate_left
  · have d1 : decide ((n : Int) < (x2.length : Int)) = false := decide_eq_false (by omega)
    refine run ?_
    exact ⟨k + 1, ⟨rfl, rfl, rfl, rfl, congrArg (fun z => some (Value.int .i64 z)) w1, trivial⟩, ⟨by omega, gY⟩, by show D.length - (k + 1) < D.length - k; omega⟩
  have d1 : decide ((n : Int) < (x2.length : Int)) = true := decide_eq_true (by omega)
  by_cases c2 : n < 200
  rotate_left
  · have d2 : decide ((n : Int) < 200) = false := decide_eq_false (by omega)
    refine run ?_
    exact ⟨k + 1, ⟨rfl, rfl, rfl, rfl, congrArg (fun z => some (Value.int .i64 z)) w1, trivial⟩, ⟨by omega, gY⟩, by show D.length - (k + 1) < D.length - k; omega⟩
  have d2 : decide ((n : Int) < 200) = true := decide_eq_true (by omega)
  have w2 := w_succ (k := n) (by omega)
  have lb : aload Try.prog 30 (.pointer (some ⟨q2, 0, none⟩)) Y = some (bodyV x1 kv ov dv) := ald_agg rfl rfl rfl b2 rfl
  obtain ⟨o, ho⟩ := get_lt (L := x1.ops) (m := a) han
  refine run ?_
  refine (irTargets_ax (hbI.grow gHY) (by omega) ho).mono ?_
  rintro tv Y1 ⟨hT, gY1⟩
  have gY1' := gHY.trans gY1
  have g3Y := gY.trans gY1
  have b2 := hblk_of (gY1'.at a2)
  have b1 := hblk_of (gY1'.at (g2.at a1))
  have htm := ok.tgt a o ho
  have hTe : ∀ r, LiveBehind x1 loc r a ↔ ∃ t ∈ tgtL o a, LiveAt x1 loc r t.toNat := fun r => by
    constructor
    · rintro ⟨o', t, h1, h2, h3⟩
      rw [ho] at h1
      simp only [Option.some.injEq] at h1
      subst h1
      exact ⟨t, h2, h3⟩
    · rintro ⟨t, h2, h3⟩
      exact ⟨o, t, ho, h2, h3⟩
  have hTl : tgtL o a = [] ∨ (∃ t, tgtL o a = [t]) ∨ ∃ t u, tgtL o a = [t, u] := by
    unfold tgtL
    split
    · exact .inl rfl
    · split
      · exact .inr (.inl ⟨_, rfl⟩)
      · split
        · exact .inr (.inr ⟨_, _, rfl⟩)
        · exact .inr (.inl ⟨_, rfl⟩)
  generalize tgtL o a = T at hT htm hTe hTl
  have lT := hT.len (P := Try.prog) (t := 35) (e := 3) rfl Y1
  obtain ⟨bq, j1, j2⟩ := ldx_code hcs ok.hcode
  rw [← ok.hF] at j1
  have j3 := (j2 Y1 gY1').1
  rw [ok.hloc] at j3
  clear lb
  rcases hTl with rfl | ⟨t, rfl⟩ | ⟨t, u, rfl⟩
  · have lT : alen Try.prog 35 tv Y1 = some (.int .i64 0) := lT
    refine run ?_
    exact ⟨k + 1, ⟨rfl, rfl, rfl, rfl, congrArg (fun z => some (Value.int .i64 z)) w1, trivial⟩, ⟨by omega, g3Y⟩, by show D.length - (k + 1) < D.length - k; omega⟩
  · have lT : alen Try.prog 35 tv Y1 = some (.int .i64 1) := lT
    obtain ⟨y0, k0, k1⟩ := int_at hT (i := 0) rfl
    have k0 : aindexAddr Try.prog 35 tv (.int .i64 0) = some y0 := k0
    have k2 := k1 Y1 (.refl _)
    obtain ⟨z0, z1⟩ := htm t (by simp)
    obtain ⟨x, hxz⟩ : ∃ x : Nat, t = (x : Int) := ⟨(t).toNat, by omega⟩
    subst hxz
    have hnl : ¬ LiveAt x1 loc r x := fun h => hnb ((hTe r).2 ⟨(x : Int), by simp, by rw [Int.toNat_natCast]; exact h⟩)
    obtain ⟨o2, ho2⟩ := get_lt (L := x1.ops) (m := x) (by omega)
    rw [live_iff ho2] at hnl
    have hN2 : ¬ NeedP o2 loc r := fun h => hnl (.inl h)
    obtain ⟨bz2, rv2, cv2, mv2, n5, nr, nc, nm, n6⟩ := ldx_op hbI.ops ho2
    have n7 := (n6 Y1 gY1').1
    obtain ⟨t1, t2⟩ := ok.sm o2 (List.mem_of_getElem? ho2)
    refine run ?_
    apply SW.drawH [(0, [], [98, 101, 102, 103, 104, 105, 106, 107, 108], false), (1, [(96, 0)], [96, 98, 101, 102, 103, 104, 105, 106, 107, 108], false), (2, [], [96, 97, 101, 102, 103, 104, 105, 106, 107, 108], false), (3, [(96, 0), (97, 1), (98, 2)], [96, 97, 98, 101, 102, 103, 104, 105, 106, 107, 108], false), (4, [(96, 0), (97, 1), (98, 2), (99, 3)], [96, 97, 98, 99, 101, 102, 103, 104, 105, 106, 107, 108], false), (5, [], [96, 97, 98, 99, 100, 103, 104, 108], false), (6, [(101, 5)], [96, 97, 98, 99, 100, 101, 103, 104, 108], false), (7, [], [96, 97, 98, 99, 100, 101, 102, 108], false), (8, [(103, 7)], [96, 97, 98, 99, 100, 101, 102, 103, 108], false), (9, [(101, 5), (102, 6), (103, 7), (104, 8)], [96, 97, 98, 99, 100, 101, 102, 103, 104, 108], false), (10, [(101, 5), (102, 6), (103, 7), (104, 8), (105, 9)], [96, 97, 98, 99, 100, 101, 102, 103, 104, 105, 108], false), (11, [(101, 5), (102, 6), (103, 7), (104, 8), (105, 9), (106, 10)], [96, 97, 98, 99, 100, 101, 102, 103, 104, 105, 106, 108], false), (12, [], [96, 97, 98, 99, 100, 101, 102, 103, 104, 105, 106, 107], false), (13, [(96, 0), (97, 1), (98, 2), (99, 3), (100, 4), (101, 5), (102, 6), (103, 7), (104, 8), (105, 9), (106, 10), (107, 11), (108, 12)], [96, 97, 98, 99, 100, 101, 102, 103, 104, 105, 106, 107, 108], true)]
      [(96, 0), (97, 1), (98, 2), (99, 3), (100, 4), (101, 5), (102, 6), (103, 7), (104, 8), (105, 9), (106, 10), (107, 11), (108, 12), (109, 13)] []
      [(2, _), (3, _), (4, _), (7, _), (8, _), (9, _), (10, _), (11, _)] rfl (by kernel_rfl)
    case hF => exact ⟨rfl, rfl, rfl, rfl, rfl, rfl, rfl, rfl, trivial⟩
    refine run ?_
    refine (refNeeds_ax (intR.grow nr gY1') (intR.grow nm gY1') (by omega) (by omega)).mono ?_
    rintro _ Z ⟨rfl, e⟩
    subst Z
    rw [decide_eq_false hN2]
    refine run ?_
    refine (irDef_ax Y1 o2 rv2 cv2 mv2).mono ?_
    rintro _ Z ⟨rfl, e⟩
    subst Z
    by_cases hD : defL o2 = (r : Int)
    · have d9 : (defL o2 == (r : Int)) = true := by simpa using hD
      refine run ?_
      exact ⟨k + 1, ⟨rfl, rfl, rfl, rfl, congrArg (fun z => some (Value.int .i64 z)) w1, trivial⟩, ⟨by omega, g3Y⟩, by show D.length - (k + 1) < D.length - k; omega⟩
    · have d9 : (defL o2 == (r : Int)) = false := by simpa using hD
      refine run ?_
      exact ⟨(n + 1, x), ⟨rfl, rfl, rfl, rfl, rfl, rfl, rfl, congrArg (fun z => some (Value.int .i64 z)) w2, trivial⟩, ⟨g3Y, by dsimp only; omega, fun h => hnl (.inr ⟨hD, h⟩)⟩, by show 200 - (n + 1) < 200 - n; omega⟩
  · have lT : alen Try.prog 35 tv Y1 = some (.int .i64 2) := lT
    obtain ⟨y0, k0, k1⟩ := int_at hT (i := 0) rfl
    have k0 : aindexAddr Try.prog 35 tv (.int .i64 0) = some y0 := k0
    have k2 := k1 Y1 (.refl _)
    obtain ⟨y1, m0, m1⟩ := int_at hT (i := 1) rfl
    have m0 : aindexAddr Try.prog 35 tv (.int .i64 1) = some y1 := m0
    have m2 := m1 Y1 (.refl _)
    obtain ⟨turn, htu⟩ := get_lt c1
    obtain ⟨pt, s1, s2⟩ := bool_at htb htu
    have s3 := s2 Y1 gY1'
    cases turn with
    | true =>
      obtain ⟨z0, z1⟩ := htm u (by simp)
      obtain ⟨x, hxz⟩ : ∃ x : Nat, u = (x : Int) := ⟨(u).toNat, by omega⟩
      subst hxz
      have hnl : ¬ LiveAt x1 loc r x := fun h => hnb ((hTe r).2 ⟨(x : Int), by simp, by rw [Int.toNat_natCast]; exact h⟩)
      obtain ⟨o2, ho2⟩ := get_lt (L := x1.ops) (m := x) (by omega)
      rw [live_iff ho2] at hnl
      have hN2 : ¬ NeedP o2 loc r := fun h => hnl (.inl h)
      obtain ⟨bz2, rv2, cv2, mv2, n5, nr, nc, nm, n6⟩ := ldx_op hbI.ops ho2
      have n7 := (n6 Y1 gY1').1
      obtain ⟨t1, t2⟩ := ok.sm o2 (List.mem_of_getElem? ho2)
      refine run ?_
      apply SW.drawH [(0, [], [98, 101, 102, 103, 104, 105, 106, 107, 108], false), (1, [(96, 0)], [96, 98, 101, 102, 103, 104, 105, 106, 107, 108], false), (2, [], [96, 97, 101, 102, 103, 104, 105, 106, 107, 108], false), (3, [(96, 0), (97, 1), (98, 2)], [96, 97, 98, 101, 102, 103, 104, 105, 106, 107, 108], false), (4, [(96, 0), (97, 1), (98, 2), (99, 3)], [96, 97, 98, 99, 101, 102, 103, 104, 105, 106, 107, 108], false), (5, [], [96, 97, 98, 99, 100, 103, 104, 108], false), (6, [(101, 5)], [96, 97, 98, 99, 100, 101, 103, 104, 108], false), (7, [], [96, 97, 98, 99, 100, 101, 102, 108], false), (8, [(103, 7)], [96, 97, 98, 99, 100, 101, 102, 103, 108], false), (9, [(101, 5), (102, 6), (103, 7), (104, 8)], [96, 97, 98, 99, 100, 101, 102, 103, 104, 108], false), (10, [(101, 5), (102, 6), (103, 7), (104, 8), (105, 9)], [96, 97, 98, 99, 100, 101, 102, 103, 104, 105, 108], false), (11, [(101, 5), (102, 6), (103, 7), (104, 8), (105, 9), (106, 10)], [96, 97, 98, 99, 100, 101, 102, 103, 104, 105, 106, 108], false), (12, [], [96, 97, 98, 99, 100, 101, 102, 103, 104, 105, 106, 107], false), (13, [(96, 0), (97, 1), (98, 2), (99, 3), (100, 4), (101, 5), (102, 6), (103, 7), (104, 8), (105, 9), (106, 10), (107, 11), (108, 12)], [96, 97, 98, 99, 100, 101, 102, 103, 104, 105, 106, 107, 108], true)]
        [(96, 0), (97, 1), (98, 2), (99, 3), (100, 4), (101, 5), (102, 6), (103, 7), (104, 8), (105, 9), (106, 10), (107, 11), (108, 12), (109, 13)] []
        [(2, _), (3, _), (4, _), (7, _), (8, _), (9, _), (10, _), (11, _)] rfl (by kernel_rfl)
      case hF => exact ⟨rfl, rfl, rfl, rfl, rfl, rfl, rfl, rfl, trivial⟩
      refine run ?_
      refine (refNeeds_ax (intR.grow nr gY1') (intR.grow nm gY1') (by omega) (by omega)).mono ?_
      rintro _ Z ⟨rfl, e⟩
      subst Z
      rw [decide_eq_false hN2]
      refine run ?_
      refine (irDef_ax Y1 o2 rv2 cv2 mv2).mono ?_
      rintro _ Z ⟨rfl, e⟩
      subst Z
      by_cases hD : defL o2 = (r : Int)
      · have d9 : (defL o2 == (r : Int)) = true := by simpa using hD
        refine run ?_
        exact ⟨k + 1, ⟨rfl, rfl, rfl, rfl, congrArg (fun z => some (Value.int .i64 z)) w1, trivial⟩, ⟨by omega, g3Y⟩, by show D.length - (k + 1) < D.length - k; omega⟩
      · have d9 : (defL o2 == (r : Int)) = false := by simpa using hD
        refine run ?_
        exact ⟨(n + 1, x), ⟨rfl, rfl, rfl, rfl, rfl, rfl, rfl, congrArg (fun z => some (Value.int .i64 z)) w2, trivial⟩, ⟨g3Y, by dsimp only; omega, fun h => hnl (.inr ⟨hD, h⟩)⟩, by show 200 - (n + 1) < 200 - n; omega⟩
    | false =>
      obtain ⟨z0, z1⟩ := htm t (by simp)
      obtain ⟨x, hxz⟩ : ∃ x : Nat, t = (x : Int) := ⟨(t).toNat, by omega⟩
      subst hxz
      have hnl : ¬ LiveAt x1 loc r x := fun h => hnb ((hTe r).2 ⟨(x : Int), by simp, by rw [Int.toNat_natCast]; exact h⟩)
      obtain ⟨o2, ho2⟩ := get_lt (L := x1.ops) (m := x) (by omega)
      rw [live_iff ho2] at hnl
      have hN2 : ¬ NeedP o2 loc r := fun h => hnl (.inl h)
      obtain ⟨bz2, rv2, cv2, mv2, n5, nr, nc, nm, n6⟩ := ldx_op hbI.ops ho2
      have n7 := (n6 Y1 gY1').1
      obtain ⟨t1, t2⟩ := ok.sm o2 (List.mem_of_getElem? ho2)
      refine run ?_
      apply SW.drawH [(0, [], [98, 101, 102, 103, 104, 105, 106, 107, 108], false), (1, [(96, 0)], [96, 98, 101, 102, 103, 104, 105, 106, 107, 108], false), (2, [], [96, 97, 101, 102, 103, 104, 105, 106, 107, 108], false), (3, [(96, 0), (97, 1), (98, 2)], [96, 97, 98, 101, 102, 103, 104, 105, 106, 107, 108], false), (4, [(96, 0), (97, 1), (98, 2), (99, 3)], [96, 97, 98, 99, 101, 102, 103, 104, 105, 106, 107, 108], false), (5, [], [96, 97, 98, 99, 100, 103, 104, 108], false), (6, [(101, 5)], [96, 97, 98, 99, 100, 101, 103, 104, 108], false), (7, [], [96, 97, 98, 99, 100, 101, 102, 108], false), (8, [(103, 7)], [96, 97, 98, 99, 100, 101, 102, 103, 108], false), (9, [(101, 5), (102, 6), (103, 7), (104, 8)], [96, 97, 98, 99, 100, 101, 102, 103, 104, 108], false), (10, [(101, 5), (102, 6), (103, 7), (104, 8), (105, 9)], [96, 97, 98, 99, 100, 101, 102, 103, 104, 105, 108], false), (11, [(101, 5), (102, 6), (103, 7), (104, 8), (105, 9), (106, 10)], [96, 97, 98, 99, 100, 101, 102, 103, 104, 105, 106, 108], false), (12, [], [96, 97, 98, 99, 100, 101, 102, 103, 104, 105, 106, 107], false), (13, [(96, 0), (97, 1), (98, 2), (99, 3), (100, 4), (101, 5), (102, 6), (103, 7), (104, 8), (105, 9), (106, 10), (107, 11), (108, 12)], [96, 97, 98, 99, 100, 101, 102, 103, 104, 105, 106, 107, 108], true)]
        [(96, 0), (97, 1), (98, 2), (99, 3), (100, 4), (101, 5), (102, 6), (103, 7), (104, 8), (105, 9), (106, 10), (107, 11), (108, 12), (109, 13)] []
        [(2, _), (3, _), (4, _), (7, _), (8, _), (9, _), (10, _), (11, _)] rfl (by kernel_rfl)
      case hF => exact ⟨rfl, rfl, rfl, rfl, rfl, rfl, rfl, rfl, trivial⟩
      refine run ?_
      refine (refNeeds_ax (intR.grow nr gY1') (intR.grow nm gY1') (by omega) (by omega)).mono ?_
      rintro _ Z ⟨rfl, e⟩
      subst Z
      rw [decide_eq_false hN2]
      refine run ?_
      refine (irDef_ax Y1 o2 rv2 cv2 mv2).mono ?_
      rintro _ Z ⟨rfl, e⟩
      subst Z
      by_cases hD : defL o2 = (r : Int)
      · have d9 : (defL o2 == (r : Int)) = true := by simpa using hD
        refine run ?_
        exact ⟨k + 1, ⟨rfl, rfl, rfl, rfl, congrArg (fun z => some (Value.int .i64 z)) w1, trivial⟩, ⟨by omega, g3Y⟩, by show D.length - (k + 1) < D.length - k; omega⟩
      · have d9 : (defL o2 == (r : Int)) = false := by simpa using hD
        refine run ?_
        exact ⟨(n + 1, x), ⟨rfl, rfl, rfl, rfl, rfl, rfl, rfl, congrArg (fun z => some (Value.int .i64 z)) w2, trivial⟩, ⟨g3Y, by dsimp only; omega, fun h => hnl (.inr ⟨hD, h⟩)⟩, by show 200 - (n + 1) < 200 - n; omega⟩
theorem LiveUnread_ax (H : Heap) (c0 : List Value) (x0 : (Int) × (List (ByteArray)) × (List ((Int) × (Int) × (Int) × (Int) × (List ((Int) × (Int) × (Int)))))) (c1 : List Value) (x1 : (Int) × (Int) × (List ((Int) × (Int) × (ByteArray))) × (List ((Int) × (Int) × (Int) × (Int) × (Int) × (List (Int)) × (List ((Int) × (Int) × (Int))) × (Int) × (List (Int)))) × (List ((Int) × (Int)))) (c2 : List Value) (x2 : List (Bool)) (hn : NoOwn H) (R0 : ty25.R H c0 x0) (o0 : ty25.ok x0) (R1 : ty30.R H c1 x1) (o1 : ty30.ok x1) (R2 : ty39.R H c2 x2) (o2 : ty39.ok x2) :
    AX Try.prog 4 #[argS c0, argS c1, arg1 c2] H fun v _ => v = .bool true := by
  obtain ⟨ps, cs, e0, hp, hcs⟩ := prog_of R0
  obtain ⟨kv, ov, dv, e1, hbI⟩ := body_of R1
  obtain ⟨tb, e2, htb⟩ := RL.ofTy (f := boolR) (fun l x h => h) R2
  rw [e0, e1, e2]
  exact liveUnreadL_ax hp hcs hbI o1 htb
end Go.Proofs.Ytnjckiaogikakaa
