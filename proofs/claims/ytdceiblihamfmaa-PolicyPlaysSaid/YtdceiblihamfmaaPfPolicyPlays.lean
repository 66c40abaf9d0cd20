/- The law PolicyPlays, told of abstract memory: whatever the input, it answers true. No condition. -/
import Derived.Test.YtdceiblihamfmaaTy
import Derived.Test.YtdceiblihamfmaaPol12
set_option linter.unusedVariables false
set_option linter.unusedSimpArgs false
set_option maxRecDepth 20000
set_option maxHeartbeats 2000000
namespace Go.Proofs.Ytdceiblihamfmaa
open Go Ax
/-- What the two policies are, and stay, to each other. -/
structure Two (p r : Nat) (F : Int) (R : List (Int × Int)) (calls : Value) (xs : List Int) (L : List (Int × Int)) (after : Int) (cs : List Int) (t' : Nat) (cs' : List Int) (H : Heap) : Prop where
  one : Pol H p L F after cs
  two : RPol H r R t' after cs'
  left : R.drop t' = L
  same : Same F cs cs'
  a1 : 1 ≤ after
  a2 : after ≤ 1048576
  ints : Ints H calls xs
theorem PolicyPlays_ax (H : Heap) (c0 : List Value) (x0 : List ((Int) × (Int))) (c1 : List Value) (x1 : Int) (c2 : List Value) (x2 : List (Int)) (hn : NoOwn H) (R0 : ty22.R H c0 x0) (o0 : ty22.ok x0) (R1 : ty3.R H c1 x1) (o1 : ty3.ok x1) (R2 : ty33.R H c2 x2) (o2 : ty33.ok x2) :
    AX Try.prog 5 #[arg1 c0, arg1 c1, arg1 c2] H fun v _ => v = .bool true := by
  obtain rfl : c1 = [.int .i64 x1] := R1
  obtain ⟨sv, hsv, hp, hlen⟩ := picks_of R0
  obtain ⟨cv, hcv, hi, hcl⟩ := ints_of R2
  rw [hsv, hcv]
  show AX Try.prog 5 #[sv, .int .i64 x1, cv] H _
  refine AX.body (n := 103) (rs := [.tmp 6]) Try.func5 rfl (by decide) rfl rfl (bC_sound _ _ _ _ ?_)
  (conv => whnf)
  refine Ob.of (hlen H) ?_
  (try (conv => whnf)); repeat (first | (refine Ob.of (by first | rfl | (exact ald rfl rfl (by assumption) rfl) | (exact ald_agg rfl rfl rfl (by assumption) rfl)) ?_; (conv => whnf)) | (refine bIf.yes (by first | assumption | rfl) ?_; (conv => whnf)) | (refine bIf.no (by first | assumption | rfl) ?_; (conv => whnf)))
  by_cases hl : (x0.length : Int) > 500
  · have hd : decide ((x0.length : Int) > 500) = true := decide_eq_true hl
    refine bIf.yes hd ?_
    (try (conv => whnf)); repeat (first | (refine Ob.of (by first | rfl | (exact ald rfl rfl (by assumption) rfl) | (exact ald_agg rfl rfl rfl (by assumption) rfl)) ?_; (conv => whnf)) | (refine bIf.yes (by first | assumption | rfl) ?_; (conv => whnf)) | (refine bIf.no (by first | assumption | rfl) ?_; (conv => whnf)))
    refine (works_ax H).mono ?_
    rintro _ H1 ⟨rfl, _⟩
    (try (conv => whnf)); repeat (first | (refine Ob.of (by first | rfl | (exact ald rfl rfl (by assumption) rfl) | (exact ald_agg rfl rfl rfl (by assumption) rfl)) ?_; (conv => whnf)) | (refine bIf.yes (by first | assumption | rfl) ?_; (conv => whnf)) | (refine bIf.no (by first | assumption | rfl) ?_; (conv => whnf)))
    try rfl
  have hd : decide ((x0.length : Int) > 500) = false := decide_eq_false hl
  refine bIf.no hd ?_
  (try (conv => whnf)); repeat (first | (refine Ob.of (by first | rfl | (exact ald rfl rfl (by assumption) rfl) | (exact ald_agg rfl rfl rfl (by assumption) rfl)) ?_; (conv => whnf)) | (refine bIf.yes (by first | assumption | rfl) ?_; (conv => whnf)) | (refine bIf.no (by first | assumption | rfl) ?_; (conv => whnf)))
  refine (new_ax hp x1).mono ?_
  rintro _ H1 ⟨g1, p, rfl, hlp, n1⟩
  (try (conv => whnf)); repeat (first | (refine Ob.of (by first | rfl | (exact ald rfl rfl (by assumption) rfl) | (exact ald_agg rfl rfl rfl (by assumption) rfl)) ?_; (conv => whnf)) | (refine bIf.yes (by first | assumption | rfl) ?_; (conv => whnf)) | (refine bIf.no (by first | assumption | rfl) ?_; (conv => whnf)))
  refine (rnew_ax (hp.grow g1) hlen x1).mono ?_
  rintro _ H2 ⟨g2, r, rfl, hlr, n2⟩
  have hpr : p ≠ r := by obtain ⟨_, h⟩ := n1.var; have := lt_at h; omega
  obtain ⟨f0, f1⟩ := clampF_in x1
  have fl : ((List.replicate (clampF x1).toNat (0 : Int)).length : Int) = clampF x1 := by simp; omega
  (try (conv => whnf)); repeat (first | (refine Ob.of (by first | rfl | (exact ald rfl rfl (by assumption) rfl) | (exact ald_agg rfl rfl rfl (by assumption) rfl)) ?_; (conv => whnf)) | (refine bIf.yes (by first | assumption | rfl) ?_; (conv => whnf)) | (refine bIf.no (by first | assumption | rfl) ?_; (conv => whnf)))
  refine SW.loop (α := Nat × List (Int × Int) × Int × List Int × Nat × List Int) (fun x => [(2, cv), (7, ptr p), (8, ptr r), (9, .int .i64 x.1)])
    (fun x H => x.1 ≤ 100 ∧ Two p r (clampF x1) (x0.take 400) cv x2 x.2.1 x.2.2.1 x.2.2.2.1 x.2.2.2.2.1 x.2.2.2.2.2 H) (fun x => 100 - x.1)
    ⟨(0, x0.take 400, 8, List.replicate 32 0, 0, List.replicate (clampF x1).toNat 0), ⟨rfl, rfl, rfl, rfl, trivial⟩, by show 0 ≤ 100; omega, n1.grow g2, n2, rfl, ⟨fl, f1, by simp, fun i hi => ?_⟩, by show (1 : Int) ≤ 8; decide, by show (8 : Int) ≤ 1048576; decide, (hi.grow g1).grow g2⟩ ?_
  · simp only [List.length_replicate] at hi
    rw [List.getElem?_replicate, List.getElem?_replicate, if_pos hi, if_pos (by omega)]
  rintro ⟨k, L, after, cs, t', cs'⟩ H3 ⟨hk, tw⟩
  refine bC_sound _ _ _ _ ?_
  replace tw : Two p r (clampF x1) (x0.take 400) cv x2 L after cs t' cs' H3 := tw
  replace hk : k ≤ 100 := hk
  have hne : after ≠ 0 := by have := tw.a1; omega
  have hlen' : cs'.length ≤ 32 := by have := tw.same.1; omega
  (conv => whnf)
  refine Ob.of (hcl H3) ?_
  (conv => whnf)
  refine Ob.of rfl ?_
  (conv => whnf)
  by_cases hkl : (k : Int) < x2.length
  · have e1 : decide ((k : Int) < x2.length) = true := decide_eq_true hkl
    refine bIf.yes e1 ?_
    (conv => whnf)
    refine bIf.yes e1 ?_
    (conv => whnf)
    refine Ob.of rfl ?_
    (conv => whnf)
    refine bIf.yes e1 ?_
    (conv => whnf)
    by_cases hk4 : (k : Int) < 100
    · have e2 : decide ((k : Int) < 100) = true := decide_eq_true hk4
      refine bIf.yes e2 ?_
      (conv => whnf)
      have hx : x2[k]? = some (x2[k]'(by omega)) := List.getElem?_eq_getElem _
      revert hx
      generalize x2[k]'(by omega) = fv
      intro hx
      rcases tw.ints with ⟨_, rfl⟩ | ⟨bi, rfl, rfl | ⟨ci, hci, hvi⟩⟩
      · simp at hx
      · simp at hx
      refine Ob.of (idx_slice (off := 0) (k := 1) rfl rfl (Int.natCast_nonneg k) hkl) ?_
      (conv => whnf)
      refine Ob.of (ald rfl rfl (hblk_of hci) (hvi k fv hx)) ?_
      (try (conv => whnf)); repeat (first | (refine Ob.of (by first | rfl | (exact ald rfl rfl (by assumption) rfl) | (exact ald_agg rfl rfl rfl (by assumption) rfl)) ?_; (conv => whnf)) | (refine bIf.yes (by first | assumption | rfl) ?_; (conv => whnf)) | (refine bIf.no (by first | assumption | rfl) ?_; (conv => whnf)))
      have hw : IntKind.i64.wrap ((k : Int) + 1) = ((k + 1 : Nat) : Int) := by rw [wrap_i64 (by omega) (by omega)]; omega
      by_cases hc : fv < -50
      · have e3 : decide (fv < -50) = true := decide_eq_true hc
        (try (conv => whnf)); repeat (first | (refine Ob.of (by first | rfl | (exact ald rfl rfl (by assumption) rfl) | (exact ald_agg rfl rfl rfl (by assumption) rfl)) ?_; (conv => whnf)) | (refine bIf.yes (by first | assumption | rfl) ?_; (conv => whnf)) | (refine bIf.no (by first | assumption | rfl) ?_; (conv => whnf)))
        refine (cool_ax tw.one _).mono ?_
        rintro v H4 ⟨n3, b3⟩
        (try (conv => whnf)); repeat (first | (refine Ob.of (by first | rfl | (exact ald rfl rfl (by assumption) rfl) | (exact ald_agg rfl rfl rfl (by assumption) rfl)) ?_; (conv => whnf)) | (refine bIf.yes (by first | assumption | rfl) ?_; (conv => whnf)) | (refine bIf.no (by first | assumption | rfl) ?_; (conv => whnf)))
        refine (rcool_ax (tw.two.but b3 tw.one.var (fun e => hpr e.symm)) _).mono ?_
        rintro v' H5 ⟨n4, b4⟩
        have nv := (tw.two.but b3 tw.one.var (fun e => hpr e.symm)).var
        (try (conv => whnf)); repeat (first | (refine Ob.of (by first | rfl | (exact ald rfl rfl (by assumption) rfl) | (exact ald_agg rfl rfl rfl (by assumption) rfl)) ?_; (conv => whnf)) | (refine bIf.yes (by first | assumption | rfl) ?_; (conv => whnf)) | (refine bIf.no (by first | assumption | rfl) ?_; (conv => whnf)))
        refine ⟨(k + 1, L, after, cool (clampF x1) cs (IntKind.i64.wrap (fv + 100)), t', cool cs'.length cs' (IntKind.i64.wrap (fv + 100))), ⟨rfl, rfl, rfl, congrArg (fun z => some (Value.int .i64 z)) hw, trivial⟩,
          ⟨by show k + 1 ≤ 100; omega, n3.frame b4 hpr (by obtain ⟨_, h⟩ := nv; exact .of h), n4, tw.left, cool_same tw.same _, tw.a1, tw.a2, (tw.ints.but b3 tw.one.var).frame b4 nv⟩, by show 100 - (k + 1) < 100 - k; omega⟩
      · have e3 : decide (fv < -50) = false := decide_eq_false hc
        (try (conv => whnf)); repeat (first | (refine Ob.of (by first | rfl | (exact ald rfl rfl (by assumption) rfl) | (exact ald_agg rfl rfl rfl (by assumption) rfl)) ?_; (conv => whnf)) | (refine bIf.yes (by first | assumption | rfl) ?_; (conv => whnf)) | (refine bIf.no (by first | assumption | rfl) ?_; (conv => whnf)))
        refine (call_ax tw.one hne fv).mono ?_
        rintro _ H4 ⟨rfl, n3, b3⟩
        (try (conv => whnf)); repeat (first | (refine Ob.of (by first | rfl | (exact ald rfl rfl (by assumption) rfl) | (exact ald_agg rfl rfl rfl (by assumption) rfl)) ?_; (conv => whnf)) | (refine bIf.yes (by first | assumption | rfl) ?_; (conv => whnf)) | (refine bIf.no (by first | assumption | rfl) ?_; (conv => whnf)))
        refine Ob2.alloc rfl fun q1 H5 hq1 k1 k2 => ?_
        (try (conv => whnf)); repeat (first | (refine Ob.of (by first | rfl | (exact ald rfl rfl (by assumption) rfl) | (exact ald_agg rfl rfl rfl (by assumption) rfl)) ?_; (conv => whnf)) | (refine bIf.yes (by first | assumption | rfl) ?_; (conv => whnf)) | (refine bIf.no (by first | assumption | rfl) ?_; (conv => whnf)))
        refine Ob.store rfl rfl rfl k1 rfl (by first | exact Nat.le_of_ble_eq_true rfl | simp) fun H6 m1 m2 m3 => ?_
        have g6 : Grow H4 H6 := k2.but_new m2 (by omega)
        have r4 := tw.two.but b3 tw.one.var (fun e => hpr e.symm)
        (try (conv => whnf)); repeat (first | (refine Ob.of (by first | rfl | (exact ald rfl rfl (by assumption) rfl) | (exact ald_agg rfl rfl rfl (by assumption) rfl)) ?_; (conv => whnf)) | (refine bIf.yes (by first | assumption | rfl) ?_; (conv => whnf)) | (refine bIf.no (by first | assumption | rfl) ?_; (conv => whnf)))
        refine (rcall_ax (r4.grow g6) hlen' fv).mono ?_
        rintro v H7 ⟨hv, ⟨t2, n4, n5⟩, b4⟩
        have hb := bump_same tw.same fv
        have hcn := cnt_same hb fv
        rw [hb.1] at hcn
        rw [tw.left] at hv n4 n5
        rw [tw.same.1] at hv n4 hb hcn
        rw [hcn] at hv
        subst hv
        have nv := (r4.grow g6).var
        have n37 := (n3.grow g6).frame b4 hpr (by obtain ⟨_, h⟩ := nv; exact .of h)
        have hm7 := b4.2 _ _ m1 (by obtain ⟨_, h⟩ := r4.var; have := lt_at h; omega) (by simp)
        (try (conv => whnf)); repeat (first | (refine Ob.of (by first | rfl | (exact ald rfl rfl (by assumption) rfl) | (exact ald_agg rfl rfl rfl (by assumption) rfl)) ?_; (conv => whnf)) | (refine bIf.yes (by first | assumption | rfl) ?_; (conv => whnf)) | (refine bIf.no (by first | assumption | rfl) ?_; (conv => whnf)))
        refine Ob2.alloc rfl fun q2 H8 hq2 l1 l2 => ?_
        (try (conv => whnf)); repeat (first | (refine Ob.of (by first | rfl | (exact ald rfl rfl (by assumption) rfl) | (exact ald_agg rfl rfl rfl (by assumption) rfl)) ?_; (conv => whnf)) | (refine bIf.yes (by first | assumption | rfl) ?_; (conv => whnf)) | (refine bIf.no (by first | assumption | rfl) ?_; (conv => whnf)))
        refine Ob.store rfl rfl rfl l1 rfl (by first | exact Nat.le_of_ble_eq_true rfl | simp) fun H9 o1 o2 o3 => ?_
        have g9 : Grow H7 H9 := l2.but_new o2 (by omega)
        have p9 := n37.grow g9
        have r9 := n4.grow g9
        have x1' := hblk_of (g9.at hm7)
        have x2' := hblk_of o1
        have t0 : (!(((nV (clampF x1) after L).1 == (nV (clampF x1) after L).1) && (((nV (clampF x1) after L).2 == (nV (clampF x1) after L).2) && true))) = false := by simp
        have t2' : (nA after L != nA after L) = false := by simp
        have t4 : (cnt (clampF x1) (bump (clampF x1) cs fv) fv != cnt (clampF x1) (bump (clampF x1) cs fv) fv) = false := by simp
        have t6 : (!((decide (0 ≤ fv ∧ fv < clampF x1) && decide (cnt (clampF x1) (bump (clampF x1) cs fv) fv ≥ nA after L)) == (decide (0 ≤ fv ∧ fv < clampF x1) && decide (cnt (clampF x1) (bump (clampF x1) cs fv) fv ≥ nA after L)))) = false := by simp
        have t4' : (cnt (clampF x1) (bump (clampF x1) cs fv) fv != cnt (bump (clampF x1) cs' fv).length (bump (clampF x1) cs' fv) fv) = false := by rw [hb.1, hcn]; simp
        have r9' := r9
        obtain ⟨lv, bb, y1, y2, y3, y4, y5⟩ := r9'
        have hr9 := hblk_of y1
        have hlv : ∀ H', alen Try.prog 22 lv H' = some (.int .i64 (x0.take 400).length) := by
          rcases y3 with ⟨rfl, h⟩ | ⟨_, _, _, rfl, _⟩
          · intro H'; rw [h]; rfl
          · intro H'; rfl
        have t5 : ((L.tail.length : Int) != IntKind.i64.wrap (((x0.take 400).length : Int) - t2)) = false := by
          have h := congrArg List.length n5
          rw [List.length_drop] at h
          rw [wrap_i64 (by omega) (by omega)]
          simp only [bne_eq_false_iff_eq]
          omega
        (try (conv => whnf)); repeat (first | (refine Ob.of (by first | rfl | (exact ald rfl rfl (by assumption) rfl) | (exact ald_agg rfl rfl rfl (by assumption) rfl)) ?_; (conv => whnf)) | (refine bIf.yes (by first | assumption | rfl) ?_; (conv => whnf)) | (refine bIf.no (by first | assumption | rfl) ?_; (conv => whnf)))
        have L1 : aload Try.prog 28 (.pointer (some ⟨q1, 0, none⟩)) H9 = some (pickV (nV (clampF x1) after L)) := ald_agg rfl rfl rfl x1' rfl
        have L2 : aload Try.prog 28 (.pointer (some ⟨q2, 0, none⟩)) H9 = some (pickV (nV (clampF x1) after L)) := ald_agg rfl rfl rfl x2' rfl
        have N1 : abin Try.prog .neq 28 (pickV (nV (clampF x1) after L)) (pickV (nV (clampF x1) after L)) = some (.bool false) := by rw [pick_neq, t0]
        apply SW.draw2 [([], [62], 0, 0, false), ([], [61], 0, 0, false), ([(61, 0), (62, 1)], [61, 62], 0, 0, false), ([(61, 0), (62, 1), (63, 2)], [61, 62, 63], 0, 0, false), ([(61, 0), (62, 1), (63, 2), (64, 3)], [61, 62, 63, 64, 66], 0, 0, false), ([(61, 0), (62, 1), (63, 2), (64, 3)], [61, 62, 63, 64, 65], 0, 0, false), ([(61, 0), (62, 1), (63, 2), (64, 3), (65, 4), (66, 5)], [61, 62, 63, 64, 65, 66], 0, 0, false), ([(61, 0), (62, 1), (63, 2), (64, 3), (65, 4), (66, 5), (67, 6)], [61, 62, 63, 64, 65, 66, 67], 0, 0, false), ([(61, 0), (62, 1), (63, 2), (64, 3), (65, 4), (66, 5), (67, 6), (68, 7)], [61, 62, 63, 64, 65, 66, 67, 68], 0, 0, false), ([(61, 0), (62, 1), (63, 2), (64, 3), (65, 4), (66, 5), (67, 6), (68, 7), (69, 8)], [61, 62, 63, 64, 65, 66, 67, 68, 69, 72, 73, 74, 75], 0, 0, false), ([(61, 0), (62, 1), (63, 2), (64, 3), (65, 4), (66, 5), (67, 6), (68, 7), (69, 8), (70, 9)], [61, 62, 63, 64, 65, 66, 67, 68, 69, 70, 72, 73, 74, 75], 0, 0, true), ([(61, 0), (62, 1), (63, 2), (64, 3), (65, 4), (66, 5), (67, 6), (68, 7), (69, 8)], [61, 62, 63, 64, 65, 66, 67, 68, 69, 70, 71], 0, 1, false), ([(61, 0), (62, 1), (63, 2), (64, 3), (65, 4), (66, 5), (67, 6), (68, 7), (69, 8), (72, 11)], [61, 62, 63, 64, 65, 66, 67, 68, 69, 70, 71, 72], 0, 1, false), ([(61, 0), (62, 1), (63, 2), (64, 3), (65, 4), (66, 5), (67, 6), (68, 7), (69, 8), (72, 11), (73, 12)], [61, 62, 63, 64, 65, 66, 67, 68, 69, 70, 71, 72, 73], 0, 1, false), ([(61, 0), (62, 1), (63, 2), (64, 3), (65, 4), (66, 5), (67, 6), (68, 7), (69, 8), (72, 11), (73, 12), (74, 13)], [61, 62, 63, 64, 65, 66, 67, 68, 69, 70, 71, 72, 73, 74], 0, 1, false), ([(61, 0), (62, 1), (63, 2), (64, 3), (65, 4), (66, 5), (67, 6), (68, 7), (69, 8), (70, 9), (71, 10), (72, 11), (73, 12), (74, 13), (75, 14)], [61, 62, 63, 64, 65, 66, 67, 68, 69, 70, 71, 72, 73, 74, 75], 1, 0, false), ([(61, 0), (62, 1), (63, 2), (64, 3), (65, 4), (66, 5), (67, 6), (68, 7), (69, 8), (70, 9), (71, 10), (72, 11), (73, 12), (74, 13), (75, 14), (76, 15)], [61, 62, 63, 64, 65, 66, 67, 68, 69, 70, 71, 72, 73, 74, 75, 76], 1, 0, false), ([(61, 0), (62, 1), (63, 2), (64, 3), (65, 4), (66, 5), (67, 6), (68, 7), (69, 8), (70, 9), (71, 10), (72, 11), (73, 12), (74, 13), (75, 14), (76, 15), (77, 16)], [61, 62, 63, 64, 65, 66, 67, 68, 69, 70, 71, 72, 73, 74, 75, 76, 77], 1, 0, false), ([(61, 0), (62, 1), (63, 2), (64, 3), (65, 4), (66, 5), (67, 6), (68, 7), (69, 8), (70, 9), (71, 10), (72, 11), (73, 12), (74, 13), (75, 14), (76, 15), (77, 16), (78, 17)], [61, 62, 63, 64, 65, 66, 67, 68, 69, 70, 71, 72, 73, 74, 75, 76, 77, 78, 81, 82, 83, 84, 85, 86, 87, 88, 89, 90], 1, 0, false), ([(61, 0), (62, 1), (63, 2), (64, 3), (65, 4), (66, 5), (67, 6), (68, 7), (69, 8), (70, 9), (71, 10), (72, 11), (73, 12), (74, 13), (75, 14), (76, 15), (77, 16), (78, 17), (79, 18)], [61, 62, 63, 64, 65, 66, 67, 68, 69, 70, 71, 72, 73, 74, 75, 76, 77, 78, 79, 81, 82, 83, 84, 85, 86, 87, 88, 89, 90], 1, 0, true), ([(61, 0), (62, 1), (63, 2), (64, 3), (65, 4), (66, 5), (67, 6), (68, 7), (69, 8), (70, 9), (71, 10), (72, 11), (73, 12), (74, 13), (75, 14), (76, 15), (77, 16), (78, 17)], [61, 62, 63, 64, 65, 66, 67, 68, 69, 70, 71, 72, 73, 74, 75, 76, 77, 78, 79, 80, 86, 87, 88, 89], 1, 1, false), ([(61, 0), (62, 1), (63, 2), (64, 3), (65, 4), (66, 5), (67, 6), (68, 7), (69, 8), (70, 9), (71, 10), (72, 11), (73, 12), (74, 13), (75, 14), (76, 15), (77, 16), (78, 17), (81, 20)], [61, 62, 63, 64, 65, 66, 67, 68, 69, 70, 71, 72, 73, 74, 75, 76, 77, 78, 79, 80, 81, 86, 87, 88, 89], 1, 1, false), ([(61, 0), (62, 1), (63, 2), (64, 3), (65, 4), (66, 5), (67, 6), (68, 7), (69, 8), (70, 9), (71, 10), (72, 11), (73, 12), (74, 13), (75, 14), (76, 15), (77, 16), (78, 17), (81, 20), (82, 21)], [61, 62, 63, 64, 65, 66, 67, 68, 69, 70, 71, 72, 73, 74, 75, 76, 77, 78, 79, 80, 81, 82, 86, 87, 88, 89], 1, 1, false), ([(61, 0), (62, 1), (63, 2), (64, 3), (65, 4), (66, 5), (67, 6), (68, 7), (69, 8), (70, 9), (71, 10), (72, 11), (73, 12), (74, 13), (75, 14), (76, 15), (77, 16), (78, 17), (81, 20), (82, 21), (83, 22)], [61, 62, 63, 64, 65, 66, 67, 68, 69, 70, 71, 72, 73, 74, 75, 76, 77, 78, 79, 80, 81, 82, 83, 86, 87, 88, 89], 1, 1, false), ([(61, 0), (62, 1), (63, 2), (64, 3), (65, 4), (66, 5), (67, 6), (68, 7), (69, 8), (70, 9), (71, 10), (72, 11), (73, 12), (74, 13), (75, 14), (76, 15), (77, 16), (78, 17), (81, 20), (82, 21), (83, 22), (84, 23)], [61, 62, 63, 64, 65, 66, 67, 68, 69, 70, 71, 72, 73, 74, 75, 76, 77, 78, 79, 80, 81, 82, 83, 84, 86, 87, 88, 89], 1, 1, false), ([(61, 0), (62, 1), (63, 2), (64, 3), (65, 4), (66, 5), (67, 6), (68, 7), (69, 8), (70, 9), (71, 10), (72, 11), (73, 12), (74, 13), (75, 14), (76, 15), (77, 16), (78, 17)], [61, 62, 63, 64, 65, 66, 67, 68, 69, 70, 71, 72, 73, 74, 75, 76, 77, 78, 79, 80, 81, 82, 83, 84, 85], 1, 1, false), ([(61, 0), (62, 1), (63, 2), (64, 3), (65, 4), (66, 5), (67, 6), (68, 7), (69, 8), (70, 9), (71, 10), (72, 11), (73, 12), (74, 13), (75, 14), (76, 15), (77, 16), (78, 17), (86, 25)], [61, 62, 63, 64, 65, 66, 67, 68, 69, 70, 71, 72, 73, 74, 75, 76, 77, 78, 79, 80, 81, 82, 83, 84, 85, 86], 1, 1, false), ([(61, 0), (62, 1), (63, 2), (64, 3), (65, 4), (66, 5), (67, 6), (68, 7), (69, 8), (70, 9), (71, 10), (72, 11), (73, 12), (74, 13), (75, 14), (76, 15), (77, 16), (78, 17), (86, 25), (87, 26)], [61, 62, 63, 64, 65, 66, 67, 68, 69, 70, 71, 72, 73, 74, 75, 76, 77, 78, 79, 80, 81, 82, 83, 84, 85, 86, 87], 1, 1, false), ([(61, 0), (62, 1), (63, 2), (64, 3), (65, 4), (66, 5), (67, 6), (68, 7), (69, 8), (70, 9), (71, 10), (72, 11), (73, 12), (74, 13), (75, 14), (76, 15), (77, 16), (78, 17), (86, 25), (87, 26), (88, 27)], [61, 62, 63, 64, 65, 66, 67, 68, 69, 70, 71, 72, 73, 74, 75, 76, 77, 78, 79, 80, 81, 82, 83, 84, 85, 86, 87, 88], 1, 1, false), ([(61, 0), (62, 1), (63, 2), (64, 3), (65, 4), (66, 5), (67, 6), (68, 7), (69, 8), (70, 9), (71, 10), (72, 11), (73, 12), (74, 13), (75, 14), (76, 15), (77, 16), (78, 17), (81, 20), (82, 21), (83, 22), (84, 23), (85, 24), (86, 25), (87, 26), (88, 27), (89, 28)], [61, 62, 63, 64, 65, 66, 67, 68, 69, 70, 71, 72, 73, 74, 75, 76, 77, 78, 79, 80, 81, 82, 83, 84, 85, 86, 87, 88, 89], 1, 1, false), ([(61, 0), (62, 1), (63, 2), (64, 3), (65, 4), (66, 5), (67, 6), (68, 7), (69, 8), (70, 9), (71, 10), (72, 11), (73, 12), (74, 13), (75, 14), (76, 15), (77, 16), (78, 17), (79, 18), (80, 19), (81, 20), (82, 21), (83, 22), (84, 23), (85, 24), (86, 25), (87, 26), (88, 27), (89, 28), (90, 29)], [61, 62, 63, 64, 65, 66, 67, 68, 69, 70, 71, 72, 73, 74, 75, 76, 77, 78, 79, 80, 81, 82, 83, 84, 85, 86, 87, 88, 89, 90], 2, 0, false), ([(61, 0), (62, 1), (63, 2), (64, 3), (65, 4), (66, 5), (67, 6), (68, 7), (69, 8), (70, 9), (71, 10), (72, 11), (73, 12), (74, 13), (75, 14), (76, 15), (77, 16), (78, 17), (79, 18), (80, 19), (81, 20), (82, 21), (83, 22), (84, 23), (85, 24), (86, 25), (87, 26), (88, 27), (89, 28), (90, 29), (91, 30)], [61, 62, 63, 64, 65, 66, 67, 68, 69, 70, 71, 72, 73, 74, 75, 76, 77, 78, 79, 80, 81, 82, 83, 84, 85, 86, 87, 88, 89, 90, 91], 2, 0, false), ([(61, 0), (62, 1), (63, 2), (64, 3), (65, 4), (66, 5), (67, 6), (68, 7), (69, 8), (70, 9), (71, 10), (72, 11), (73, 12), (74, 13), (75, 14), (76, 15), (77, 16), (78, 17), (79, 18), (80, 19), (81, 20), (82, 21), (83, 22), (84, 23), (85, 24), (86, 25), (87, 26), (88, 27), (89, 28), (90, 29), (91, 30), (92, 31)], [61, 62, 63, 64, 65, 66, 67, 68, 69, 70, 71, 72, 73, 74, 75, 76, 77, 78, 79, 80, 81, 82, 83, 84, 85, 86, 87, 88, 89, 90, 91, 92], 2, 0, false), ([(61, 0), (62, 1), (63, 2), (64, 3), (65, 4), (66, 5), (67, 6), (68, 7), (69, 8), (70, 9), (71, 10), (72, 11), (73, 12), (74, 13), (75, 14), (76, 15), (77, 16), (78, 17), (79, 18), (80, 19), (81, 20), (82, 21), (83, 22), (84, 23), (85, 24), (86, 25), (87, 26), (88, 27), (89, 28), (90, 29), (91, 30), (92, 31), (93, 32)], [61, 62, 63, 64, 65, 66, 67, 68, 69, 70, 71, 72, 73, 74, 75, 76, 77, 78, 79, 80, 81, 82, 83, 84, 85, 86, 87, 88, 89, 90, 91, 92, 93, 95, 97, 98], 2, 0, false), ([(61, 0), (62, 1), (63, 2), (64, 3), (65, 4), (66, 5), (67, 6), (68, 7), (69, 8), (70, 9), (71, 10), (72, 11), (73, 12), (74, 13), (75, 14), (76, 15), (77, 16), (78, 17), (79, 18), (80, 19), (81, 20), (82, 21), (83, 22), (84, 23), (85, 24), (86, 25), (87, 26), (88, 27), (89, 28), (90, 29), (91, 30), (92, 31), (93, 32)], [61, 62, 63, 64, 65, 66, 67, 68, 69, 70, 71, 72, 73, 74, 75, 76, 77, 78, 79, 80, 81, 82, 83, 84, 85, 86, 87, 88, 89, 90, 91, 92, 93, 94, 97, 98], 2, 0, false), ([(61, 0), (62, 1), (63, 2), (64, 3), (65, 4), (66, 5), (67, 6), (68, 7), (69, 8), (70, 9), (71, 10), (72, 11), (73, 12), (74, 13), (75, 14), (76, 15), (77, 16), (78, 17), (79, 18), (80, 19), (81, 20), (82, 21), (83, 22), (84, 23), (85, 24), (86, 25), (87, 26), (88, 27), (89, 28), (90, 29), (91, 30), (92, 31), (93, 32), (94, 33), (95, 34)], [61, 62, 63, 64, 65, 66, 67, 68, 69, 70, 71, 72, 73, 74, 75, 76, 77, 78, 79, 80, 81, 82, 83, 84, 85, 86, 87, 88, 89, 90, 91, 92, 93, 94, 95, 97, 98], 2, 0, true), ([(61, 0), (62, 1), (63, 2), (64, 3), (65, 4), (66, 5), (67, 6), (68, 7), (69, 8), (70, 9), (71, 10), (72, 11), (73, 12), (74, 13), (75, 14), (76, 15), (77, 16), (78, 17), (79, 18), (80, 19), (81, 20), (82, 21), (83, 22), (84, 23), (85, 24), (86, 25), (87, 26), (88, 27), (89, 28), (90, 29), (91, 30), (92, 31), (93, 32)], [61, 62, 63, 64, 65, 66, 67, 68, 69, 70, 71, 72, 73, 74, 75, 76, 77, 78, 79, 80, 81, 82, 83, 84, 85, 86, 87, 88, 89, 90, 91, 92, 93, 94, 95, 96, 98], 2, 1, false), ([(61, 0), (62, 1), (63, 2), (64, 3), (65, 4), (66, 5), (67, 6), (68, 7), (69, 8), (70, 9), (71, 10), (72, 11), (73, 12), (74, 13), (75, 14), (76, 15), (77, 16), (78, 17), (79, 18), (80, 19), (81, 20), (82, 21), (83, 22), (84, 23), (85, 24), (86, 25), (87, 26), (88, 27), (89, 28), (90, 29), (91, 30), (92, 31), (93, 32)], [61, 62, 63, 64, 65, 66, 67, 68, 69, 70, 71, 72, 73, 74, 75, 76, 77, 78, 79, 80, 81, 82, 83, 84, 85, 86, 87, 88, 89, 90, 91, 92, 93, 94, 95, 96, 97], 2, 1, false), ([(61, 0), (62, 1), (63, 2), (64, 3), (65, 4), (66, 5), (67, 6), (68, 7), (69, 8), (70, 9), (71, 10), (72, 11), (73, 12), (74, 13), (75, 14), (76, 15), (77, 16), (78, 17), (79, 18), (80, 19), (81, 20), (82, 21), (83, 22), (84, 23), (85, 24), (86, 25), (87, 26), (88, 27), (89, 28), (90, 29), (91, 30), (92, 31), (93, 32), (94, 33), (95, 34), (96, 35), (97, 36), (98, 37)], [61, 62, 63, 64, 65, 66, 67, 68, 69, 70, 71, 72, 73, 74, 75, 76, 77, 78, 79, 80, 81, 82, 83, 84, 85, 86, 87, 88, 89, 90, 91, 92, 93, 94, 95, 96, 97, 98], 3, 0, true), ([(61, 0), (62, 1), (63, 2), (64, 3), (65, 4), (66, 5), (67, 6), (68, 7), (69, 8), (70, 9), (71, 10), (72, 11), (73, 12), (74, 13), (75, 14), (76, 15), (77, 16), (78, 17), (79, 18), (80, 19), (81, 20), (82, 21), (83, 22), (84, 23), (85, 24), (86, 25), (87, 26), (88, 27), (89, 28), (90, 29), (91, 30), (92, 31), (93, 32), (94, 33), (95, 34), (96, 35), (97, 36), (98, 37), (99, 38)], [61, 62, 63, 64, 65, 66, 67, 68, 69, 70, 71, 72, 73, 74, 75, 76, 77, 78, 79, 80, 81, 82, 83, 84, 85, 86, 87, 88, 89, 90, 91, 92, 93, 94, 95, 96, 97, 98, 99], 4, 0, false), ([(61, 0), (62, 1), (63, 2), (64, 3), (65, 4), (66, 5), (67, 6), (68, 7), (69, 8), (70, 9), (71, 10), (72, 11), (73, 12), (74, 13), (75, 14), (76, 15), (77, 16), (78, 17), (79, 18), (80, 19), (81, 20), (82, 21), (83, 22), (84, 23), (85, 24), (86, 25), (87, 26), (88, 27), (89, 28), (90, 29), (91, 30), (92, 31), (93, 32), (94, 33), (95, 34), (96, 35), (97, 36), (98, 37), (99, 38), (100, 39)], [61, 62, 63, 64, 65, 66, 67, 68, 69, 70, 71, 72, 73, 74, 75, 76, 77, 78, 79, 80, 81, 82, 83, 84, 85, 86, 87, 88, 89, 90, 91, 92, 93, 94, 95, 96, 97, 98, 99, 100], 4, 0, false)]
          [(61, 0), (62, 1), (63, 2), (64, 3), (65, 4), (66, 5), (67, 6), (68, 7), (69, 8), (70, 9), (71, 10), (72, 11), (73, 12), (74, 13), (75, 14), (76, 15), (77, 16), (78, 17), (79, 18), (80, 19), (81, 20), (82, 21), (83, 22), (84, 23), (85, 24), (86, 25), (87, 26), (88, 27), (89, 28), (90, 29), (91, 30), (92, 31), (93, 32), (94, 33), (95, 34), (96, 35), (97, 36), (98, 37), (99, 38), (100, 39), (101, 40)] 4
          [(2, _), (7, _), (8, _), (9, _), (10, _), (11, _), (12, _), (13, _), (14, _)] [_, _, _, _, _, _, _, _, _, _, _, _, _, _, _, _, _, _, _, _, _, _, _, _, _, _, _, _, _, _, _, _, _, _, _, _, _, _, _, _, _] [H9, H9, H9, H9, H9] rfl (by kernel_rfl)
        case hF => exact ⟨rfl, rfl, rfl, rfl, rfl, rfl, rfl, rfl, rfl, trivial⟩
        case h0 => rfl
        case steps =>
          (try (conv => whnf)); repeat' (first | ((with_reducible refine Ob.of L1 ?_); (conv => whnf)) | ((with_reducible refine Ob.of L2 ?_); (conv => whnf)) | ((with_reducible refine Ob.of N1 ?_); (conv => whnf)) | ((with_reducible refine Ob.of (hlv H9) ?_); (conv => whnf)) | ((with_reducible refine Ob2.of L1 ?_); (conv => whnf)) | ((with_reducible refine Ob2.of L2 ?_); (conv => whnf)) | ((with_reducible refine Ob2.of N1 ?_); (conv => whnf)) | ((with_reducible refine Ob2.of (hlv H9) ?_); (conv => whnf)) | (refine And.intro ?_ ?_ <;> (conv => whnf)) | exact Leaf.mk rfl rfl | exact True.intro | (with_reducible refine (after_ax p9).mono ?_; rintro _ X ⟨rfl, e⟩; subst X; (conv => whnf)) | (with_reducible refine (left_ax p9).mono ?_; rintro _ X ⟨rfl, e⟩; subst X; (conv => whnf)) | (with_reducible refine (count_ax p9 fv).mono ?_; rintro _ X ⟨rfl, e⟩; subst X; (conv => whnf)) | (with_reducible refine (rcount_ax r9 fv).mono ?_; rintro _ X ⟨rfl, e⟩; subst X; (conv => whnf)) | (refine Ob.of rfl ?_; (conv => whnf)) | (refine Ob2.of (by rfl) ?_; (conv => whnf)) | (first | (refine Ob.of (by first | rfl | (exact ald rfl rfl (by assumption) rfl) | (exact ald_agg rfl rfl rfl (by assumption) rfl)) ?_; (conv => whnf)) | (refine bIf.yes (by first | assumption | rfl) ?_; (conv => whnf)) | (refine bIf.no (by first | assumption | rfl) ?_; (conv => whnf)))) 
        (conv => whnf)
        repeat (refine Ob.of rfl ?_; (conv => whnf))
        refine bIf.no t4' ?_
        (try (conv => whnf)); repeat (first | (refine Ob.of (by first | rfl | (exact ald rfl rfl (by assumption) rfl) | (exact ald_agg rfl rfl rfl (by assumption) rfl)) ?_; (conv => whnf)) | (refine bIf.yes (by first | assumption | rfl) ?_; (conv => whnf)) | (refine bIf.no (by first | assumption | rfl) ?_; (conv => whnf)))
        refine ⟨(k + 1, L.tail, nA after L, bump (clampF x1) cs fv, t2, bump (clampF x1) cs' fv), ⟨rfl, rfl, rfl, congrArg (fun z => some (Value.int .i64 z)) hw, trivial⟩,
          ⟨by show k + 1 ≤ 100; omega, p9, r9, n5, hb, (nA_in tw.a1 tw.a2 L).1, (nA_in tw.a1 tw.a2 L).2, (((tw.ints.but b3 tw.one.var).grow g6).frame b4 nv).grow g9⟩, by show 100 - (k + 1) < 100 - k; omega⟩
    · have e2 : decide ((k : Int) < 100) = false := decide_eq_false hk4
      refine bIf.no e2 ?_
      (try (conv => whnf)); repeat (first | (refine Ob.of (by first | rfl | (exact ald rfl rfl (by assumption) rfl) | (exact ald_agg rfl rfl rfl (by assumption) rfl)) ?_; (conv => whnf)) | (refine bIf.yes (by first | assumption | rfl) ?_; (conv => whnf)) | (refine bIf.no (by first | assumption | rfl) ?_; (conv => whnf)))
      refine (works_ax H3).mono ?_
      rintro _ H6 ⟨rfl, _⟩
      (try (conv => whnf)); repeat (first | (refine Ob.of (by first | rfl | (exact ald rfl rfl (by assumption) rfl) | (exact ald_agg rfl rfl rfl (by assumption) rfl)) ?_; (conv => whnf)) | (refine bIf.yes (by first | assumption | rfl) ?_; (conv => whnf)) | (refine bIf.no (by first | assumption | rfl) ?_; (conv => whnf)))
      try rfl
  · have e1 : decide ((k : Int) < x2.length) = false := decide_eq_false hkl
    refine bIf.no e1 ?_
    (conv => whnf)
    refine bIf.no e1 ?_
    (conv => whnf)
    refine bIf.no e1 ?_
    (try (conv => whnf)); repeat (first | (refine Ob.of (by first | rfl | (exact ald rfl rfl (by assumption) rfl) | (exact ald_agg rfl rfl rfl (by assumption) rfl)) ?_; (conv => whnf)) | (refine bIf.yes (by first | assumption | rfl) ?_; (conv => whnf)) | (refine bIf.no (by first | assumption | rfl) ?_; (conv => whnf)))
    refine (works_ax H3).mono ?_
    rintro _ H6 ⟨rfl, _⟩
    (try (conv => whnf)); repeat (first | (refine Ob.of (by first | rfl | (exact ald rfl rfl (by assumption) rfl) | (exact ald_agg rfl rfl rfl (by assumption) rfl)) ?_; (conv => whnf)) | (refine bIf.yes (by first | assumption | rfl) ?_; (conv => whnf)) | (refine bIf.no (by first | assumption | rfl) ?_; (conv => whnf)))
    try rfl
end Go.Proofs.Ytdceiblihamfmaa
