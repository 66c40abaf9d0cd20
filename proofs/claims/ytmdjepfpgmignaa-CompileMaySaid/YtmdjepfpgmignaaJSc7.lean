/- Package compile: Ticks; the package works. -/
import Derived.Test.YtmdjepfpgmignaaJCo3
set_option linter.unusedVariables false
set_option linter.unusedSimpArgs false
set_option maxRecDepth 20000
set_option maxHeartbeats 8000000
namespace Go.Proofs.Ytmdjepfpgmignaa
open Go Ax
/-- A sum of ticks, as it is counted. -/
def tick1 (n : Int) (i : Ins) : Int := if i.1 = 1 then IntKind.i64.wrap (n + i.2.1) else n
def tickL (n : Int) (L : List Ins) : Int := L.foldl tick1 n
def tickP (n : Int) (cs : List CodeT) : Int := cs.foldl (fun n c => tickL n c.ins) n
theorem tickL_take {n : Int} {L : List Ins} {j : Nat} {x : Ins} (h : L[j]? = some x) : tickL n (L.take (j + 1)) = tick1 (tickL n (L.take j)) x := by
  obtain ⟨hi, rfl⟩ := List.getElem?_eq_some_iff.1 h
  unfold tickL
  rw [List.take_succ_eq_append_getElem hi, List.foldl_append]
  rfl
theorem tickP_take {n : Int} {L : List CodeT} {j : Nat} {x : CodeT} (h : L[j]? = some x) : tickP n (L.take (j + 1)) = tickL (tickP n (L.take j)) x.ins := by
  obtain ⟨hi, rfl⟩ := List.getElem?_eq_some_iff.1 h
  unfold tickP
  rw [List.take_succ_eq_append_getElem hi, List.foldl_append]
  rfl
theorem ld_arg {H : Heap} {sv : Value} {L : List Ins} (h : RL 3 insR H sv L) {i b : Nat} {x : Ins} (hx : L[i]? = some x) (hi : aindexAddr Try.prog 35 sv (.int .i64 (i : Int)) = some (.pointer (some ⟨b, i * 3, none⟩))) :
    ∀ H', Grow H H' → aload Try.prog 3 (.pointer (some ⟨b, i * 3 + 1, none⟩)) H' = some (.int .i64 x.2.1) := by
  obtain ⟨b', c, l, h1, h2, h3, rfl⟩ := h.at (P := Try.prog) (t := 35) (e := 39) rfl rfl hx
  rw [h1] at hi
  simp only [Option.some.injEq, Value.pointer.injEq, Addr.mk.injEq, and_true] at hi
  subst hi
  exact fun H' g => ald rfl rfl (g.hblk h2) (slots_get (j := 1) h3 rfl)
theorem ticks_ax {H : Heap} {g : Int} {ps cs : Value} {L : List CodeT} (rk : RL 5 codeR H cs L) (hl : L.length < 4294967296) (hi : ∀ c ∈ L, c.ins.length < 4294967296) :
    AX Try.prog 10 #[.agg #[.int .i64 g, ps, cs]] H (fun v H' => v = .int .i64 (tickP 0 L) ∧ H' = H) := by
  refine AX.quiet ?_
  suffices hh : AX Try.prog 10 #[.agg #[.int .i64 g, ps, cs]] H (fun v H' => v = .int .i64 (tickP 0 L) ∧ Grow H H') from hh.mono fun v _ ⟨e, g⟩ => ⟨e ▸ plain_int _ _, e, g⟩
  refine AX.body (n := 32) (rs := [.tmp 2]) Try.func10 rfl (by decide) rfl rfl (bC_sound _ _ _ _ ?_)
  (conv => whnf)
  refine Ob2.box rfl fun q H1 hq a1 g1 => ?_
  have b1 := hblk_of (show H1[q]? = some (.cells .var [.int .i64 g, ps, cs]) from a1)
  have l1 : alen Try.prog 28 cs H1 = some (.int .i64 L.length) := rk.len rfl _
  refine run ?_
  refine SW.loop (α := Nat) (fun k => [(1, .pointer (some ⟨q, 0, none⟩)), (2, .int .i64 0), (3, .int .i64 (tickP 0 (L.take k))), (9, cs), (10, .int .i64 L.length), (11, .int .i64 (k : Int))])
    (fun k X => k ≤ L.length ∧ Grow H1 X) (fun k => L.length - k) ⟨0, ⟨rfl, rfl, rfl, rfl, rfl, rfl, trivial⟩, by omega, .refl _⟩ ?_
  rintro k X ⟨hm, gX⟩
  refine bC_sound _ _ _ _ ?_
  by_cases hml : k < L.length
  rotate_left
  · have d1 : decide ((k : Int) < (L.length : Int)) = false := decide_eq_false (by omega)
    refine run ?_
    rw [List.take_of_length_le (by omega)]
    exact ⟨rfl, g1.trans gX⟩
  have d1 : decide ((k : Int) < (L.length : Int)) = true := decide_eq_true (by omega)
  obtain ⟨c, hc⟩ := get_lt hml
  obtain ⟨p, u, i1, i2, i3⟩ := ld_code rk hc
  have i4 := i3 X (g1.trans gX)
  have hci := hi c (List.mem_of_getElem? hc)
  have ht := tickP_take (n := 0) hc
  refine run ?_
  refine Ob2.alloc rfl fun q8 X1 hq8 y8 k1 => ?_
  refine run ?_
  refine Ob.store rfl rfl rfl y8 rfl (by first | exact Nat.le_of_ble_eq_true rfl | simp) fun X2 z1 z2 z3 => ?_
  replace k1 := k1.but_new z2 (Nat.le_of_eq hq8.symm)
  have bz := hblk_of z1
  have l2 : alen Try.prog 35 u X2 = some (.int .i64 c.ins.length) := i2.len rfl _
  refine run ?_
  refine SW.loop (α := Nat) (fun j => [(1, .pointer (some ⟨q, 0, none⟩)), (2, .int .i64 0), (3, .int .i64 (tickL (tickP 0 (L.take k)) (c.ins.take j))), (9, cs), (10, .int .i64 L.length), (11, .int .i64 (k : Int)), (16, u), (17, .int .i64 c.ins.length), (18, .int .i64 (j : Int))])
    (fun j Y => j ≤ c.ins.length ∧ Grow X2 Y) (fun j => c.ins.length - j) ⟨0, ⟨rfl, rfl, rfl, rfl, rfl, rfl, rfl, rfl, rfl, trivial⟩, by omega, .refl _⟩ ?_
  rintro j Y ⟨hj, gY⟩
  refine bC_sound _ _ _ _ ?_
  by_cases hjl : j < c.ins.length
  rotate_left
  · have d2 : decide ((j : Int) < (c.ins.length : Int)) = false := decide_eq_false (by omega)
    have e2 : tickL (tickP 0 (L.take k)) (c.ins.take j) = tickP 0 (L.take (k + 1)) := by rw [show c.ins.take j = c.ins from List.take_of_length_le (by omega), ht]
    refine run ?_
    exact ⟨k + 1, ⟨rfl, rfl, congrArg (fun z => some (Value.int .i64 z)) e2, rfl, rfl, congrArg (fun z => some (Value.int .i64 z)) (w_succ (by omega)), trivial⟩, ⟨hml, (gX.trans k1).trans gY⟩, by show L.length - (k + 1) < L.length - k; omega⟩
  have d2 : decide ((j : Int) < (c.ins.length : Int)) = true := decide_eq_true (by omega)
  obtain ⟨x, hx⟩ := get_lt hjl
  obtain ⟨b, j1, j2⟩ := ld_ins i2 hx
  have gHY := (g1.trans gX).trans (k1.trans gY)
  have j3 := j2 Y gHY
  have htx := tickL_take (n := tickP 0 (L.take k)) hx
  refine run ?_
  refine Ob2.alloc rfl fun q9 Y1 hq9 w9 m1 => ?_
  refine run ?_
  refine Ob.store rfl rfl rfl w9 rfl (by first | exact Nat.le_of_ble_eq_true rfl | simp) fun Y2 v1 v2 v3 => ?_
  replace m1 := m1.but_new v2 (Nat.le_of_eq hq9.symm)
  have bv := hblk_of (show Y2[q9]? = some (.cells .var [.int .i64 x.1, .int .i64 x.2.1, .int .i64 x.2.2]) from v1)
  by_cases hop : x.1 = 1
  · have d3 : (x.1 == 1) = true := by rw [hop]; rfl
    refine run ?_
    refine ⟨j + 1, ⟨rfl, rfl, congrArg (fun z => some (Value.int .i64 z)) ?_, rfl, rfl, rfl, rfl, rfl, congrArg (fun z => some (Value.int .i64 z)) (w_succ (by omega)), trivial⟩, ⟨hjl, gY.trans m1⟩, by show c.ins.length - (j + 1) < c.ins.length - j; omega⟩
    rw [htx]
    unfold tick1
    rw [if_pos hop]
  · have d3 : (x.1 == 1) = false := by rw [beq_eq_false_iff_ne]; exact hop
    refine run ?_
    refine ⟨j + 1, ⟨rfl, rfl, congrArg (fun z => some (Value.int .i64 z)) ?_, rfl, rfl, rfl, rfl, rfl, congrArg (fun z => some (Value.int .i64 z)) (w_succ (by omega)), trivial⟩, ⟨hjl, gY.trans m1⟩, by show c.ins.length - (j + 1) < c.ins.length - j; omega⟩
    rw [htx]
    unfold tick1
    rw [if_neg hop]
def workI : Tr := .mk 3 0 1 ⟨#[]⟩ [] [] 0
def workT : Tr := .mk 31 0 0 ⟨#[]⟩ [] [workI] 0
def workF : List FnT := [(0, 0, [workT])]
theorem work_gen : unitU workF = ([], [(0, 0, 0, 1, [(1, 1, 0), (1, 1, 0), (4, 1, 0), (32, 0, 0), (2, 0, 0), (32, 0, 0)])]) := by kernel_rfl
theorem work_e : unitE [] workF = 0 := by kernel_rfl
theorem work_high : workT.high = 2 := by kernel_rfl
theorem work_right : RightU ⟨0, 1, 0⟩ workT 2 := by
  rw [rightU_iff]
  refine ⟨own2U.2 (.inr (.inr (.inr (.inr ⟨⟨fun _ => rfl, fun _ => rfl, fun _ => rfl, fun _ => rfl⟩, .inr (.inr (.inl ⟨.inr (.inl rfl), rfl⟩))⟩)))), fun j y hy => ?_⟩
  cases j with
  | succ j => simp [workT, Tr.kids] at hy
  | zero =>
    have hy : some _ = some y := hy
    cases hy
    rw [rightU_iff]
    refine ⟨own1U.2 (.inr (.inr (.inl ⟨rfl, ⟨fun _ => rfl, fun h => (by simp at h), fun _ => rfl, fun _ => rfl⟩, by decide, by decide, rfl⟩))), fun j y hy => ?_⟩
    have hy : ([] : List Tr)[j]? = some y := hy
    simp at hy
theorem work_check : checkU 0 workF = 0 := by
  rw [checkU_zero]
  refine ⟨fun f hf x hx => ?_, ⟨by decide, by decide, by decide, by decide, fun f hf => ?_⟩, fun f hf => ?_⟩
  · simp only [workF, List.mem_singleton] at hf
    subst hf
    simp only [List.mem_singleton] at hx
    subst hx
    rw [work_high]
    omega
  · have hf : some _ = some f := hf
    cases hf
    exact ⟨rfl, rfl⟩
  · simp only [workF, List.mem_singleton] at hf
    subst hf
    refine ⟨by decide, by decide, by decide, by decide, by decide, fun x hx => ?_⟩
    simp only [List.mem_singleton] at hx
    subst hx
    exact work_right
theorem work_few : FewU workF := by
  have tI : Tidy workI := .mk (by decide) (by decide) (fun s hs => by simp [workI, Tr.names] at hs) (by decide) (fun k hk => by simp [workI, Tr.kids] at hk)
  have tT : Tidy workT := .mk (by decide) (by decide) (fun s hs => by simp [workT, Tr.names] at hs) (by decide) (fun k hk => by
    simp only [workT, Tr.kids, List.mem_singleton] at hk; subst hk; exact tI)
  refine ⟨by decide, fun f hf => ?_, fun f hf x hx => ?_, by decide⟩
  · simp only [workF, List.mem_singleton] at hf; subst hf; decide
  · simp only [workF, List.mem_singleton] at hf; subst hf
    simp only [List.mem_singleton] at hx; subst hx
    exact ⟨tT, by rw [work_high]; omega⟩
theorem works15_ax (H : Heap) : AX Try.prog 7 #[] H (fun r H' => r = .bool true ∧ H' = H) := by
  refine AX.quiet ?_
  suffices hh : AX Try.prog 7 #[] H (fun v H' => v = .bool true ∧ Grow H H') from hh.mono fun v _ ⟨e, g⟩ => ⟨e ▸ plain_bool _, e, g⟩
  refine AX.body (n := 57) (rs := [.tmp 0]) Try.func7 rfl (by decide) rfl rfl (bC_sound _ _ _ _ ?_)
  refine run ?_
  refine Ob2.lay (H := H) (.cells (.row 50) (nodeV workI (.slice none 0 0) (.slice none 0 0))) (.slice (some ⟨H.length, 0, none⟩) 1 7) rfl fun H1 a1 g1 l1 => ?_
  refine run ?_
  refine Ob2.lay (H := H1) (.cells (.row 50) (nodeV workT (.slice none 0 0) (.slice (some ⟨H.length, 0, none⟩) 1 7))) (.slice (some ⟨H1.length, 0, none⟩) 1 7) rfl fun H2 a2 g2 l2 => ?_
  refine run ?_
  refine Ob2.lay (H := H2) (.cells (.row 47) [.int .i64 0, .int .i64 0, .slice (some ⟨H1.length, 0, none⟩) 1 7]) (.slice (some ⟨H2.length, 0, none⟩) 1 3) rfl fun H3 a3 g3 l3 => ?_
  refine run ?_
  refine Ob2.alloc rfl fun q4 H4 hq4 a4 g4 => ?_
  refine run ?_
  refine Ob.store rfl rfl rfl a4 rfl (by first | exact Nat.le_of_ble_eq_true rfl | simp) fun H5 s5 k5 l5 => ?_
  replace g4 := g4.but_new k5 (Nat.le_of_eq hq4.symm)
  have b5 := hblk_of (show H5[q4]? = some (.cells .var [.int .i64 0, .slice (some ⟨H2.length, 0, none⟩) 1 3]) from s5)
  have nI : NodeR H1 (nodeV workI (.slice none 0 0) (.slice none 0 0)) workI := .mk ⟨by decide, by decide, fun s hs => by simp [workI, Tr.names] at hs, by decide⟩ (.inl ⟨rfl, rfl⟩) (.inl ⟨rfl, rfl⟩)
  have rI : RLo 7 NodeR H1 (.slice (some ⟨H.length, 0, none⟩) 1 7) workT.kids := .inr ⟨_, 0, rfl, .inr ⟨_, _, a1, fun i x hx => by
    match i, hx with
    | 0, hx => cases (show some _ = some x from hx); exact ⟨_, rfl, nI⟩
    | i + 1, hx => simp [workT, Tr.kids] at hx⟩⟩
  have nT : NodeR H2 (nodeV workT (.slice none 0 0) (.slice (some ⟨H.length, 0, none⟩) 1 7)) workT := .mk ⟨by decide, by decide, fun s hs => by simp [workT, Tr.names] at hs, by decide⟩ (.inl ⟨rfl, rfl⟩) (NodeR.grows rI g2)
  have rT : RLo 7 NodeR H2 (.slice (some ⟨H1.length, 0, none⟩) 1 7) [workT] := .inr ⟨_, 0, rfl, .inr ⟨_, _, a2, fun i x hx => by
    match i, hx with
    | 0, hx => cases (show some _ = some x from hx); exact ⟨_, rfl, nT⟩
    | i + 1, hx => simp at hx⟩⟩
  have rU : RL 3 fnR H3 (.slice (some ⟨H2.length, 0, none⟩) 1 3) workF := .inr ⟨_, rfl, .inr ⟨_, _, a3, fun i x hx => by
    match i, hx with
    | 0, hx => cases (show some _ = some x from hx); exact ⟨_, rfl, _, rfl, NodeR.grows rT g3, by decide⟩
    | i + 1, hx => simp [workF] at hx⟩⟩
  refine run ?_
  refine (unitF_ax (fnR.grow rU g4) work_few).mono ?_
  rintro _ H6 ⟨pv, rfl, g6, hz, -⟩
  have he : unitEc 0 workF = 0 := by unfold unitEc; rw [if_pos work_check]; exact work_e
  obtain ⟨ps, cs, rfl, -, rc⟩ := hz he
  rw [he, work_gen] at *
  refine run ?_
  refine Ob2.alloc rfl fun q7 H7 hq7 a7 g7 => ?_
  refine run ?_
  refine Ob.store rfl rfl rfl a7 rfl (by first | exact Nat.le_of_ble_eq_true rfl | simp) fun H8 s8 k8 l8 => ?_
  replace g7 := g7.but_new k8 (Nat.le_of_eq hq7.symm)
  have b8 := hblk_of (show H8[q7]? = some (.cells .var [.int .i64 0, ps, cs]) from s8)
  have rc8 := codeR.grow rc g7
  have ll : alen Try.prog 28 cs H8 = some (.int .i64 1) := rc8.len rfl _
  obtain ⟨bc, u, i1, i2, i3⟩ := ld_codeF rc8 (i := 0) rfl
  have i1 : aindexAddr Try.prog 28 cs (.int .i64 0) = some (.pointer (some ⟨bc, 0, none⟩)) := i1
  have i4 := i3 H8 (.refl _)
  have i4 : aload Try.prog 35 (.pointer (some ⟨bc, 4, none⟩)) H8 = some u := by simpa using i4
  have lu : alen Try.prog 35 u H8 = some (.int .i64 6) := i2.len rfl _
  obtain ⟨bi, j1, j2⟩ := ld_ins i2 (i := 2) rfl
  have j1 : aindexAddr Try.prog 35 u (.int .i64 2) = some (.pointer (some ⟨bi, 6, none⟩)) := j1
  have j3 : aload Try.prog 39 (.pointer (some ⟨bi, 6, none⟩)) H8 = some (insV 4 1 0) := j2 H8 (.refl _)
  have d5 : aload Try.prog 3 (.pointer (some ⟨bc, 3, none⟩)) H8 = some (.int .i64 1) := by
    obtain ⟨b', c', l', y1, y2, y3, u', rfl, y4⟩ := rc8.at (P := Try.prog) (t := 28) (e := 37) rfl rfl (i := 0) rfl
    have y1 : aindexAddr Try.prog 28 cs (.int .i64 0) = some (.pointer (some ⟨b', 0, none⟩)) := y1
    rw [i1] at y1
    cases y1
    have := slots_get (j := 3) y3 rfl
    exact ald rfl rfl y2 this
  have hT := ticks_ax (g := 0) (ps := ps) rc8 (by decide) (fun c hc => by simp only [List.mem_singleton] at hc; subst hc; decide)
  have ht : tickP 0 [((0 : Int), (0 : Int), (0 : Int), (1 : Int), [((1 : Int), (1 : Int), (0 : Int)), (1, 1, 0), (4, 1, 0), (32, 0, 0), (2, 0, 0), (32, 0, 0)])] = 2 := by kernel_rfl
  rw [ht] at hT
  refine run ?_
  refine Ob.of (a := .bool true) (by kernel_rfl) ?_
  refine run ?_
  refine hT.mono ?_
  rintro _ X ⟨rfl, e⟩
  subst X
  refine run ?_
  exact ⟨rfl, ((((g1.trans g2).trans g3).trans g4).trans g6).trans g7⟩
end Go.Proofs.Ytmdjepfpgmignaa
