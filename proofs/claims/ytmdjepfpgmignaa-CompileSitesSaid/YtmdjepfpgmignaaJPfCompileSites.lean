/- The law CompileSites told of abstract memory: it answers true for every unit. No condition. -/
import Derived.Test.YtmdjepfpgmignaaJSs2
set_option linter.unusedVariables false
set_option linter.unusedSimpArgs false
set_option maxRecDepth 20000
set_option maxHeartbeats 8000000
namespace Go.Proofs.Ytmdjepfpgmignaa
open Go Ax
theorem SitesOK.drop {s : Nat} {i : Ins} {is : List Ins} {t : Nat} (h : SitesOK s (i :: is) t) : (isSite i.1 → i.2.2 = (s : Int)) ∧ SitesOK (if isSite i.1 then s + 1 else s) is t := h
theorem set_true {U : List Bool} {n m : Nat} (h : U[m]? = some true) (hn : n < U.length) : (U.set n true)[m]? = some true := by
  by_cases e : n = m
  · subst e; rw [List.getElem?_set_self hn]
  · rw [List.getElem?_set_ne e]; exact h
theorem CompileSites_ax (H : Heap) (c0 : List Value) (x0 : (Int) × (List ((Int) × (Int) × (List (Nd50))))) (hn : NoOwn H) (m0 : Nat) (R0 : (ty24 m0).R H c0 x0) (o0 : (ty24 m0).ok x0) :
    AX Try.prog 3 #[argS c0] H fun v _ => v = .bool true := by
  obtain ⟨sk, e0, rk, hmx⟩ := unit_of R0 o0
  rw [e0]
  generalize x0.2.map fnOf = fs at rk hmx
  generalize x0.1 = gl
  refine AX.body (n := 145) (rs := [.tmp 2]) Try.func3 rfl (by decide) rfl rfl (bC_sound _ _ _ _ ?_)
  (conv => whnf)
  refine Ob2.box rfl fun q1 H1 hq1 a1 g1 => ?_
  have b1 := hblk_of (show H1[q1]? = some (.cells .var [.int .i64 gl, sk]) from a1)
  refine run ?_
  refine (few08_ax (fnR.grow rk g1) hmx).mono ?_
  rintro _ X ⟨⟨b, rfl, hf⟩, e⟩
  subst X
  cases b with
  | false =>
    refine run ?_
    refine (works15_ax H1).mono ?_
    rintro _ X ⟨rfl, e⟩
    refine run ?_
    rfl
  | true =>
  have few := hf rfl
  refine run ?_
  refine (unitF_ax (fnR.grow rk g1) few).mono ?_
  rintro _ H2 ⟨pv, rfl, g2, hz, hnz⟩
  by_cases he : unitEc gl fs = 0
  rotate_left
  · rw [hnz he]
    have d1 : (unitEc gl fs != 0) = true := by rw [bne_iff_ne]; exact he
    refine run ?_
    refine Ob2.alloc rfl fun q7 H7 hq7 a7 g7 => ?_
    refine run ?_
    refine Ob.store rfl rfl rfl a7 rfl (by first | exact Nat.le_of_ble_eq_true rfl | simp) fun H8 s8 k8 l8 => ?_
    refine run ?_
    refine (works15_ax H8).mono ?_
    rintro _ X ⟨rfl, e⟩
    refine run ?_
    rfl
  obtain ⟨ps, cs, rfl, rp, rc⟩ := hz he
  have UUf := unitU_uu fs
  rw [he]
  obtain ⟨hcl, hpl, hci⟩ := unitU_few few (unitEc_zero he).1
  generalize unitU fs = u at rp rc UUf hci hcl hpl
  clear hz hnz
  refine run ?_
  refine Ob2.alloc rfl fun q3 H7 hq3 a7 g7 => ?_
  refine run ?_
  refine Ob.store rfl rfl rfl a7 rfl (by first | exact Nat.le_of_ble_eq_true rfl | simp) fun H8 s8 k8 l8 => ?_
  replace g7 := g7.but_new k8 (Nat.le_of_eq hq3.symm)
  have s8 : H8[q3]? = some (.cells .var [.int .i64 gl, ps, cs]) := s8
  have b8 := hblk_of s8
  have rc8 := codeR.grow rc g7
  have rp8 := strR.grow rp g7
  have hq3l : q3 < H8.length := lt_at s8
  have lp : ∀ X, alen Try.prog 27 ps X = some (.int .i64 u.1.length) := fun X => rp8.len rfl X
  have lc : ∀ X, alen Try.prog 28 cs X = some (.int .i64 u.2.length) := fun X => rc8.len rfl X
  have lp8 := lp H8
  refine run ?_
  refine Ob2.of (make_slice rfl rfl rfl rfl (by decide) rfl (by omega) (by omega) (by show 1 * (u.1.length : Int) ≤ _; omega)) ?_
  rw [zeros_one, Int.toNat_natCast]
  obtain ⟨H9, e9, l9⟩ : ∃ H9, H8 ++ [.cells (.row 4) (List.replicate u.1.length (.bool false))] = H9 ∧ H9[H8.length]? = some (.cells (.row 4) ((List.replicate u.1.length false).map Value.bool)) := ⟨_, rfl, by rw [List.map_replicate]; exact at_push _ _⟩
  have g9 : Grow H8 H9 := e9 ▸ .push _ _
  rw [e9]
  have hne : q3 ≠ H8.length := by omega
  have ixU : ∀ (U : List Bool) (k : Nat), U.length = u.1.length → k < u.1.length → aindexAddr Try.prog 34 (.slice (some ⟨H8.length, 0, none⟩) u.1.length 1) (.int .i64 (k : Int)) = some (.pointer (some ⟨H8.length, k, none⟩)) := fun U k hU hk => by
    rw [idx_slice (k := 1) rfl rfl (by omega) (by omega)]; simp
  have lU : ∀ X, alen Try.prog 34 (.slice (some ⟨H8.length, 0, none⟩) u.1.length 1) X = some (.int .i64 u.1.length) := fun X => rfl
  refine run ?_
  refine SW.loop (α := Nat × List Bool) (fun y => [(3, .pointer (some ⟨q3, 0, none⟩)), (5, .slice (some ⟨H8.length, 0, none⟩) u.1.length 1), (6, .int .i64 (y.1 : Int))])
    (fun y X => y.1 ≤ u.2.length ∧ But H8.length H9 X ∧ X[H8.length]? = some (.cells (.row 4) (y.2.map Value.bool)) ∧ y.2.length = u.1.length ∧ ∀ j, j < y.1 → ∀ c, u.2[j]? = some c → ∀ i ∈ c.ins, usesP i.1 → y.2[i.2.1.toNat]? = some true) (fun y => u.2.length - y.1)
    ⟨(0, List.replicate u.1.length false), ⟨rfl, rfl, rfl, trivial⟩, Nat.zero_le _, .refl _ _, l9, by simp, fun j hj => by dsimp only at hj; omega⟩ ?_
  rintro ⟨k, U⟩ X ⟨hm, kX, hrow, hU, hd⟩
  dsimp only at hm hrow hU hd ⊢
  have gX : Grow H8 X := g9.but_new kX (Nat.le_refl _)
  have bX := hblk_of (gX.at s8)
  have lcX := lc X
  refine bC_sound _ _ _ _ ?_
  by_cases hml : k < u.2.length
  · have d1 : decide ((k : Int) < (u.2.length : Int)) = true := decide_eq_true (by omega)
    obtain ⟨c, hc⟩ := get_lt hml
    obtain ⟨bc, uc, C⟩ := codeAt rc8 k hc
    obtain ⟨t, ht, hs⟩ := UUf.sit c (List.mem_of_getElem? hc)
    have huse := UUf.use c (List.mem_of_getElem? hc)
    have hcil := hci c (List.mem_of_getElem? hc)
    have cix := C.ix
    have lci : ∀ Z, alen Try.prog 35 uc Z = some (.int .i64 c.ins.length) := fun Z => C.rk.len rfl Z
    refine run ?_
    refine SW.loop (α := Nat × Nat × List Bool) (fun y => [(3, .pointer (some ⟨q3, 0, none⟩)), (5, .slice (some ⟨H8.length, 0, none⟩) u.1.length 1), (6, .int .i64 (k : Int)), (7, .int .i64 (y.2.1 : Int)), (8, .int .i64 (y.1 : Int))])
      (fun y X => y.1 ≤ c.ins.length ∧ But H8.length H9 X ∧ X[H8.length]? = some (.cells (.row 4) (y.2.2.map Value.bool)) ∧ y.2.2.length = u.1.length ∧ (∀ j, j < k → ∀ c, u.2[j]? = some c → ∀ i ∈ c.ins, usesP i.1 → y.2.2[i.2.1.toNat]? = some true) ∧
        (∀ i ∈ c.ins.take y.1, usesP i.1 → y.2.2[i.2.1.toNat]? = some true) ∧ SitesOK y.2.1 (c.ins.drop y.1) t ∧ y.2.1 ≤ y.1) (fun y => c.ins.length - y.1)
      ⟨(0, 0, U), ⟨rfl, rfl, rfl, rfl, rfl, trivial⟩, Nat.zero_le _, kX, hrow, hU, hd, fun i hi => by simp at hi, hs, Nat.le_refl _⟩ ?_
    clear hd hrow bX gX kX lcX hU hs d1
    rintro ⟨j, s, U⟩ Y ⟨hj, kY, hrow, hU, hd, hdj, hs, hsj⟩
    dsimp only at hj hrow hU hd hdj hs hsj ⊢
    have gY : Grow H8 Y := g9.but_new kY (Nat.le_refl _)
    have bY := hblk_of (gY.at s8)
    have lcY := lci Y
    have c4 := C.l4 Y gY
    refine bC_sound _ _ _ _ ?_
    by_cases hjl : j < c.ins.length
    rotate_left
    · have d1 : decide ((j : Int) < (c.ins.length : Int)) = false := decide_eq_false (by omega)
      have c2 := C.l2 Y gY
      rw [ht] at c2
      rw [List.drop_eq_nil_of_le (by omega)] at hs
      have hs : s = t := hs
      subst hs
      rw [List.take_of_length_le (by omega)] at hdj
      have d2 : ((s : Int) != (s : Int)) = false := by simp
      refine run ?_
      refine ⟨(k + 1, U), ⟨rfl, rfl, congrArg (fun z => some (Value.int .i64 z)) (w_succ (by omega)), trivial⟩, ⟨hml, kY, hrow, hU, fun a ha c' hc' => ?_⟩, by show u.2.length - (k + 1) < u.2.length - k; omega⟩
      by_cases hak : a = k
      · subst hak; rw [hc] at hc'; cases hc'; exact hdj
      · exact hd a (by dsimp only at ha; omega) c' hc'
    have d1 : decide ((j : Int) < (c.ins.length : Int)) = true := decide_eq_true (by omega)
    obtain ⟨x, hx⟩ : ∃ x : Ins, c.ins[j]? = some x := get_lt hjl
    obtain ⟨bi, j1, j2⟩ := ld_ins C.rk hx
    have j3 := j2 Y gY
    have hxm := List.mem_of_getElem? hx
    have htk : c.ins.take (j + 1) = c.ins.take j ++ [x] := by rw [List.take_add_one, hx]; rfl
    have hdr : c.ins.drop j = x :: c.ins.drop (j + 1) := by
      obtain ⟨hi, rfl⟩ := List.getElem?_eq_some_iff.1 hx
      exact List.drop_eq_getElem_cons hi
    rw [hdr] at hs
    obtain ⟨hs1, hs2⟩ := hs.drop
    refine run ?_
    refine Ob2.alloc rfl fun q9 Y1 hq9 w9 m1 => ?_
    refine run ?_
    refine Ob.store rfl rfl rfl w9 rfl (by first | exact Nat.le_of_ble_eq_true rfl | simp) fun Y2 v1 v2 v3 => ?_
    replace m1 := m1.but_new v2 (Nat.le_of_eq hq9.symm)
    have bv := hblk_of (show Y2[q9]? = some (.cells .var [.int .i64 x.1, .int .i64 x.2.1, .int .i64 x.2.2]) from v1)
    have kY2 : But H8.length H9 Y2 := kY.trans ⟨m1.1, fun j hj _ => m1.2 j hj⟩
    have hrow2 := m1.at hrow
    have lUY := lU Y2
    have next : ∀ (U' : List Bool), U'.length = u.1.length → (∀ m, U[m]? = some true → U'[m]? = some true) → (usesP x.1 → U'[x.2.1.toNat]? = some true) →
        (∀ a, a < k → ∀ c, u.2[a]? = some c → ∀ i ∈ c.ins, usesP i.1 → U'[i.2.1.toNat]? = some true) ∧ (∀ i ∈ c.ins.take (j + 1), usesP i.1 → U'[i.2.1.toNat]? = some true) := fun U' h1 h2 h3 => by
      refine ⟨fun a ha c' hc' i hi hu => h2 _ (hd a ha c' hc' i hi hu), fun i hi hu => ?_⟩
      rw [htk] at hi
      rcases List.mem_append.1 hi with hi | hi
      · exact h2 _ (hdj i hi hu)
      · rw [List.mem_singleton] at hi
        subst hi
        exact h3 hu
    by_cases hu : usesP x.1
    · obtain ⟨u0, u1⟩ := huse x hxm hu
      have t1 : decide (x.2.1 < 0) = false := decide_eq_false (by omega)
      have t2 : decide (x.2.1 ≥ (u.1.length : Int)) = false := decide_eq_false (by omega)
      obtain ⟨n, hn⟩ : ∃ n : Nat, x.2.1 = (n : Int) := ⟨x.2.1.toNat, by omega⟩
      have ix := ixU U n hU (by omega)
      rw [← hn] at ix
      obtain ⟨N1, N2⟩ := next (U.set n true) (by rw [List.length_set]; exact hU) (fun m hm => set_true hm (by omega)) (fun _ => by rw [hn, Int.toNat_natCast, List.getElem?_set_self (by omega)])
      have setU : (U.map Value.bool).set n (.bool true) = (U.set n true).map Value.bool := by rw [List.map_set]
      by_cases hsi : isSite x.1
      · have hB := hs1 hsi
        have t3 : (x.2.2 != (s : Int)) = false := by rw [hB]; simp
        rw [if_pos hsi] at hs2
        have w1 := w_succ (k := s) (by omega)
        have hsi' := hsi
        unfold isSite at hsi'
        rcases hsi' with h | h | h | h
        · skip
          have e13 : (x.1 == 13) = true := by rw [h]; rfl
          have e14 : (x.1 == 14) = false := by rw [h]; rfl
          have e15 : (x.1 == 15) = false := by rw [h]; rfl
          have e27 : (x.1 == 27) = false := by rw [h]; rfl
          refine run ?_
          refine Ob.store rfl rfl rfl hrow2 rfl (by show n + 1 ≤ _; rw [List.length_map, hU]; omega) fun K1 k1 k2 k3 => ?_
          replace k1 : K1[H8.length]? = some (.cells (.row 4) ((U.set n true).map Value.bool)) := k1.trans (congrArg (fun z => some (Blk.cells _ z)) setU)
          refine run ?_
          exact ⟨(j + 1, s + 1, U.set n true), ⟨rfl, rfl, rfl, congrArg (fun z => some (Value.int .i64 z)) w1, congrArg (fun z => some (Value.int .i64 z)) (w_succ (by omega)), trivial⟩, ⟨hjl, kY2.trans k2, k1, by rw [List.length_set]; exact hU, N1, N2, hs2, by show s + 1 ≤ j + 1; omega⟩, by show c.ins.length - (j + 1) < c.ins.length - j; omega⟩
        · skip
          have e13 : (x.1 == 13) = false := by rw [h]; rfl
          have e14 : (x.1 == 14) = true := by rw [h]; rfl
          have e15 : (x.1 == 15) = false := by rw [h]; rfl
          have e27 : (x.1 == 27) = false := by rw [h]; rfl
          refine run ?_
          refine Ob.store rfl rfl rfl hrow2 rfl (by show n + 1 ≤ _; rw [List.length_map, hU]; omega) fun K1 k1 k2 k3 => ?_
          replace k1 : K1[H8.length]? = some (.cells (.row 4) ((U.set n true).map Value.bool)) := k1.trans (congrArg (fun z => some (Blk.cells _ z)) setU)
          refine run ?_
          exact ⟨(j + 1, s + 1, U.set n true), ⟨rfl, rfl, rfl, congrArg (fun z => some (Value.int .i64 z)) w1, congrArg (fun z => some (Value.int .i64 z)) (w_succ (by omega)), trivial⟩, ⟨hjl, kY2.trans k2, k1, by rw [List.length_set]; exact hU, N1, N2, hs2, by show s + 1 ≤ j + 1; omega⟩, by show c.ins.length - (j + 1) < c.ins.length - j; omega⟩
        · skip
          have e13 : (x.1 == 13) = false := by rw [h]; rfl
          have e14 : (x.1 == 14) = false := by rw [h]; rfl
          have e15 : (x.1 == 15) = true := by rw [h]; rfl
          have e27 : (x.1 == 27) = false := by rw [h]; rfl
          refine run ?_
          refine Ob.store rfl rfl rfl hrow2 rfl (by show n + 1 ≤ _; rw [List.length_map, hU]; omega) fun K1 k1 k2 k3 => ?_
          replace k1 : K1[H8.length]? = some (.cells (.row 4) ((U.set n true).map Value.bool)) := k1.trans (congrArg (fun z => some (Blk.cells _ z)) setU)
          refine run ?_
          exact ⟨(j + 1, s + 1, U.set n true), ⟨rfl, rfl, rfl, congrArg (fun z => some (Value.int .i64 z)) w1, congrArg (fun z => some (Value.int .i64 z)) (w_succ (by omega)), trivial⟩, ⟨hjl, kY2.trans k2, k1, by rw [List.length_set]; exact hU, N1, N2, hs2, by show s + 1 ≤ j + 1; omega⟩, by show c.ins.length - (j + 1) < c.ins.length - j; omega⟩
        · skip
          have e13 : (x.1 == 13) = false := by rw [h]; rfl
          have e14 : (x.1 == 14) = false := by rw [h]; rfl
          have e15 : (x.1 == 15) = false := by rw [h]; rfl
          have e27 : (x.1 == 27) = true := by rw [h]; rfl
          refine run ?_
          refine Ob.store rfl rfl rfl hrow2 rfl (by show n + 1 ≤ _; rw [List.length_map, hU]; omega) fun K1 k1 k2 k3 => ?_
          replace k1 : K1[H8.length]? = some (.cells (.row 4) ((U.set n true).map Value.bool)) := k1.trans (congrArg (fun z => some (Blk.cells _ z)) setU)
          refine run ?_
          exact ⟨(j + 1, s + 1, U.set n true), ⟨rfl, rfl, rfl, congrArg (fun z => some (Value.int .i64 z)) w1, congrArg (fun z => some (Value.int .i64 z)) (w_succ (by omega)), trivial⟩, ⟨hjl, kY2.trans k2, k1, by rw [List.length_set]; exact hU, N1, N2, hs2, by show s + 1 ≤ j + 1; omega⟩, by show c.ins.length - (j + 1) < c.ins.length - j; omega⟩
      · rw [if_neg hsi] at hs2
        have hu2 : x.1 = 5 ∨ x.1 = 18 := hu.resolve_left hsi
        rcases hu2 with h | h
        · skip
          have e13 : (x.1 == 13) = false := by rw [h]; rfl
          have e14 : (x.1 == 14) = false := by rw [h]; rfl
          have e15 : (x.1 == 15) = false := by rw [h]; rfl
          have e27 : (x.1 == 27) = false := by rw [h]; rfl
          have e5 : (x.1 == 5) = true := by rw [h]; rfl
          have e18 : (x.1 == 18) = false := by rw [h]; rfl
          refine run ?_
          refine Ob.store rfl rfl rfl hrow2 rfl (by show n + 1 ≤ _; rw [List.length_map, hU]; omega) fun K1 k1 k2 k3 => ?_
          replace k1 : K1[H8.length]? = some (.cells (.row 4) ((U.set n true).map Value.bool)) := k1.trans (congrArg (fun z => some (Blk.cells _ z)) setU)
          refine run ?_
          exact ⟨(j + 1, s, U.set n true), ⟨rfl, rfl, rfl, rfl, congrArg (fun z => some (Value.int .i64 z)) (w_succ (by omega)), trivial⟩, ⟨hjl, kY2.trans k2, k1, by rw [List.length_set]; exact hU, N1, N2, hs2, by show s ≤ j + 1; omega⟩, by show c.ins.length - (j + 1) < c.ins.length - j; omega⟩
        · skip
          have e13 : (x.1 == 13) = false := by rw [h]; rfl
          have e14 : (x.1 == 14) = false := by rw [h]; rfl
          have e15 : (x.1 == 15) = false := by rw [h]; rfl
          have e27 : (x.1 == 27) = false := by rw [h]; rfl
          have e5 : (x.1 == 5) = false := by rw [h]; rfl
          have e18 : (x.1 == 18) = true := by rw [h]; rfl
          refine run ?_
          refine Ob.store rfl rfl rfl hrow2 rfl (by show n + 1 ≤ _; rw [List.length_map, hU]; omega) fun K1 k1 k2 k3 => ?_
          replace k1 : K1[H8.length]? = some (.cells (.row 4) ((U.set n true).map Value.bool)) := k1.trans (congrArg (fun z => some (Blk.cells _ z)) setU)
          refine run ?_
          exact ⟨(j + 1, s, U.set n true), ⟨rfl, rfl, rfl, rfl, congrArg (fun z => some (Value.int .i64 z)) (w_succ (by omega)), trivial⟩, ⟨hjl, kY2.trans k2, k1, by rw [List.length_set]; exact hU, N1, N2, hs2, by show s ≤ j + 1; omega⟩, by show c.ins.length - (j + 1) < c.ins.length - j; omega⟩
    · have hsi : ¬ isSite x.1 := fun h => hu (.inl h)
      rw [if_neg hsi] at hs2
      obtain ⟨N1, N2⟩ := next U hU (fun m hm => hm) (fun h => absurd h hu)
      unfold usesP isSite at hu
      have e13 : (x.1 == 13) = false := by rw [beq_eq_false_iff_ne]; omega
      have e14 : (x.1 == 14) = false := by rw [beq_eq_false_iff_ne]; omega
      have e15 : (x.1 == 15) = false := by rw [beq_eq_false_iff_ne]; omega
      have e27 : (x.1 == 27) = false := by rw [beq_eq_false_iff_ne]; omega
      have e5 : (x.1 == 5) = false := by rw [beq_eq_false_iff_ne]; omega
      have e18 : (x.1 == 18) = false := by rw [beq_eq_false_iff_ne]; omega
      refine run ?_
      exact ⟨(j + 1, s, U), ⟨rfl, rfl, rfl, rfl, congrArg (fun z => some (Value.int .i64 z)) (w_succ (by omega)), trivial⟩, ⟨hjl, kY2, hrow2, hU, N1, N2, hs2, by show s ≤ j + 1; omega⟩, by show c.ins.length - (j + 1) < c.ins.length - j; omega⟩
  · have d1 : decide ((k : Int) < (u.2.length : Int)) = false := decide_eq_false (by omega)
    have hall : ∀ n, n < u.1.length → U[n]? = some true := fun n hn => by
      obtain ⟨c, hc, i, hi, hu, e⟩ := UUf.all n hn
      obtain ⟨a, ha⟩ := List.getElem?_of_mem hc
      have := hd a (by have := lt_of_get ha; omega) c ha i hi hu
      rwa [e, Int.toNat_natCast] at this
    refine run ?_
    refine SW.loop (α := Nat) (fun k => [(3, .pointer (some ⟨q3, 0, none⟩)), (5, .slice (some ⟨H8.length, 0, none⟩) u.1.length 1), (11, .int .i64 (k : Int))])
      (fun k Y => k ≤ u.1.length ∧ Y = X) (fun k => u.1.length - k) ⟨0, ⟨rfl, rfl, rfl, trivial⟩, Nat.zero_le _, rfl⟩ ?_
    clear hml hm hd d1
    rintro k Y ⟨hm, e⟩
    subst Y
    have lUX := lU X
    refine bC_sound _ _ _ _ ?_
    by_cases hkl : k < u.1.length
    rotate_left
    · have d1 : decide ((k : Int) < (u.1.length : Int)) = false := decide_eq_false (by omega)
      refine run ?_
      refine (works15_ax X).mono ?_
      rintro _ Y ⟨rfl, e⟩
      refine run ?_
      rfl
    have d1 : decide ((k : Int) < (u.1.length : Int)) = true := decide_eq_true (by omega)
    have ixk := ixU U k hU hkl
    have ldk : aload Try.prog 4 (.pointer (some ⟨H8.length, k, none⟩)) X = some (.bool true) := ald rfl rfl (hblk_of hrow) (by simp [hall k hkl])
    obtain ⟨sk', hsk⟩ := get_lt hkl
    obtain ⟨pk, i1, i2⟩ := ld_strT rp8 hsk
    have i3 := i2 X gX
    refine run ?_
    refine SW.loop (α := Nat) (fun j => [(3, .pointer (some ⟨q3, 0, none⟩)), (5, .slice (some ⟨H8.length, 0, none⟩) u.1.length 1), (11, .int .i64 (k : Int)), (12, .int .i64 (j : Int))])
      (fun j Y => j ≤ k ∧ Y = X) (fun j => k - j) ⟨0, ⟨rfl, rfl, rfl, rfl, trivial⟩, Nat.zero_le _, rfl⟩ ?_
    rintro j Y ⟨hj, e⟩
    subst Y
    refine bC_sound _ _ _ _ ?_
    by_cases hjk : j < k
    rotate_left
    · have d2 : decide ((j : Int) < (k : Int)) = false := decide_eq_false (by omega)
      refine run ?_
      exact ⟨k + 1, ⟨rfl, rfl, congrArg (fun z => some (Value.int .i64 z)) (w_succ (by omega)), trivial⟩, ⟨hkl, rfl⟩, by show u.1.length - (k + 1) < u.1.length - k; omega⟩
    have d2 : decide ((j : Int) < (k : Int)) = true := decide_eq_true (by omega)
    obtain ⟨sj, hsj⟩ := get_lt (L := u.1) (m := j) (by omega)
    obtain ⟨pj, y1, y2⟩ := ld_strT rp8 hsj
    have y3 := y2 X gX
    have d3 : (sj == sk') = false := by
      rw [ba_beq]
      refine decide_eq_false ?_
      rintro rfl
      have := (List.getElem?_inj (by omega : j < u.1.length) UUf.nod).1 (hsj.trans hsk.symm)
      omega
    refine run ?_
    apply SW.drawG [(0, [], [130, 133, 134, 135, 136, 137], false), (1, [(128, 0)], [128, 130, 133, 134, 135, 136, 137], false), (2, [], [128, 129, 133, 134, 135, 136, 137], false), (3, [(128, 0), (129, 1), (130, 2)], [128, 129, 130, 133, 134, 135, 136, 137], false), (4, [(128, 0), (129, 1), (130, 2), (131, 3)], [128, 129, 130, 131, 133, 134, 135, 136, 137], false), (5, [], [128, 129, 130, 131, 132, 135], false), (6, [(133, 5)], [128, 129, 130, 131, 132, 133, 135], false), (7, [], [128, 129, 130, 131, 132, 133, 134], false), (8, [(133, 5), (134, 6), (135, 7)], [128, 129, 130, 131, 132, 133, 134, 135], false), (9, [(133, 5), (134, 6), (135, 7), (136, 8)], [128, 129, 130, 131, 132, 133, 134, 135, 136], false), (10, [(128, 0), (129, 1), (130, 2), (131, 3), (132, 4), (133, 5), (134, 6), (135, 7), (136, 8), (137, 9)], [128, 129, 130, 131, 132, 133, 134, 135, 136, 137], false)]
      [(128, 0), (129, 1), (130, 2), (131, 3), (132, 4), (133, 5), (134, 6), (135, 7), (136, 8), (137, 9), (138, 10)]
      [(3, _), (5, _), (11, _), (12, _)] rfl (by kernel_rfl)
    case hF => exact ⟨rfl, rfl, rfl, rfl, trivial⟩
    refine run ?_
    exact ⟨j + 1, ⟨rfl, rfl, rfl, congrArg (fun z => some (Value.int .i64 z)) (w_succ (by omega)), trivial⟩, ⟨hjk, rfl⟩, by show k - (j + 1) < k - j; omega⟩
end Go.Proofs.Ytmdjepfpgmignaa
