/- The statements of package dict: a dict has what the document's has. -/
import Derived.Test.YtnmfmgnkfkhdhaaDi16
set_option linter.unusedVariables false
set_option linter.unusedSimpArgs false
set_option maxRecDepth 20000
set_option maxHeartbeats 2000000
namespace Go.Proofs.Ytnmfmgnkfkhdhaa
open Go Ax
theorem like_ax {H : Heap} {p q N : Nat} {L : List (ByteArray × V)} (hd : Has9 H p L N) (hr : RD H q L) (hN : N ≤ 1000000) (hM : L.length ≤ 1000000) :
    AX Try.prog 11 #[ptr p, ptr q] H (fun r H' => r = .bool true ∧ H' = H) := by
  refine AX.quiet ?_
  have hu := hd.uniq
  refine AX.body (n := 92) (rs := [.tmp 4]) Try.func11 rfl (by decide) rfl rfl (bC_sound _ _ _ _ ?_)
  (try (conv => whnf)); (repeat (first | (refine Ob.of (by first | with_reducible assumption | with_reducible exact ex20 _ _ | with_reducible exact ex21 _ _ | with_reducible exact ex30 _ _ _ | with_reducible exact ex31 _ _ _ | with_reducible exact ex32 _ _ _ | rfl | (exact ald rfl rfl (by assumption) rfl) | (exact ald_agg rfl rfl rfl (by assumption) rfl)) ?_; (conv => whnf)) | (refine bIf.yes (by first | assumption | rfl) ?_; (conv => whnf)) | (refine bIf.no (by first | assumption | rfl) ?_; (conv => whnf))))
  refine (names9 hd hN).mono ?_
  rintro lv H1 ⟨hl, g1⟩
  have hd1 := hd.grow g1
  have hr1 := hr.grow g1
  have hr1' := hr1
  obtain ⟨nv, vv, r1, r2, r3⟩ := hr1'
  have hb := hblk_of r1
  have ln := r2.len H1
  have ll := hl.len H1
  rw [List.length_map] at ln ll
  have tz : ((L.length : Int) != (L.length : Int)) = false := by simp
  (try (conv => whnf)); (repeat (first | (refine Ob.of (by first | with_reducible assumption | with_reducible exact ex20 _ _ | with_reducible exact ex21 _ _ | with_reducible exact ex30 _ _ _ | with_reducible exact ex31 _ _ _ | with_reducible exact ex32 _ _ _ | rfl | (exact ald rfl rfl (by assumption) rfl) | (exact ald_agg rfl rfl rfl (by assumption) rfl)) ?_; (conv => whnf)) | (refine bIf.yes (by first | assumption | rfl) ?_; (conv => whnf)) | (refine bIf.no (by first | assumption | rfl) ?_; (conv => whnf))))
  apply SW.draw2 [([], [17, 18, 19, 20, 21], 0, 0, false), ([(15, 0)], [15, 17, 18, 19, 20, 21], 0, 0, true), ([], [15, 16], 0, 1, false), ([(17, 2)], [15, 16, 17], 0, 1, false), ([(17, 2), (18, 3)], [15, 16, 17, 18], 0, 1, false), ([(17, 2), (18, 3), (19, 4)], [15, 16, 17, 18, 19], 0, 1, false), ([(17, 2), (18, 3), (19, 4), (20, 5)], [15, 16, 17, 18, 19, 20], 0, 1, false), ([(15, 0), (16, 1), (17, 2), (18, 3), (19, 4), (20, 5), (21, 6)], [15, 16, 17, 18, 19, 20, 21], 1, 0, false), ([(15, 0), (16, 1), (17, 2), (18, 3), (19, 4), (20, 5), (21, 6), (22, 7)], [15, 16, 17, 18, 19, 20, 21, 22], 1, 0, false), ([(15, 0), (16, 1), (17, 2), (18, 3), (19, 4), (20, 5), (21, 6), (22, 7), (23, 8)], [15, 16, 17, 18, 19, 20, 21, 22, 23, 26, 27, 28, 29, 30], 1, 0, false), ([(15, 0), (16, 1), (17, 2), (18, 3), (19, 4), (20, 5), (21, 6), (22, 7), (23, 8), (24, 9)], [15, 16, 17, 18, 19, 20, 21, 22, 23, 24, 26, 27, 28, 29, 30], 1, 0, false), ([(15, 0), (16, 1), (17, 2), (18, 3), (19, 4), (20, 5), (21, 6), (22, 7), (23, 8)], [15, 16, 17, 18, 19, 20, 21, 22, 23, 24, 25], 1, 0, false), ([(15, 0), (16, 1), (17, 2), (18, 3), (19, 4), (20, 5), (21, 6), (22, 7), (23, 8), (26, 11)], [15, 16, 17, 18, 19, 20, 21, 22, 23, 24, 25, 26], 1, 0, false), ([(15, 0), (16, 1), (17, 2), (18, 3), (19, 4), (20, 5), (21, 6), (22, 7), (23, 8), (26, 11), (27, 12)], [15, 16, 17, 18, 19, 20, 21, 22, 23, 24, 25, 26, 27], 1, 0, false), ([(15, 0), (16, 1), (17, 2), (18, 3), (19, 4), (20, 5), (21, 6), (22, 7), (23, 8), (26, 11), (27, 12), (28, 13)], [15, 16, 17, 18, 19, 20, 21, 22, 23, 24, 25, 26, 27, 28], 1, 0, false), ([(15, 0), (16, 1), (17, 2), (18, 3), (19, 4), (20, 5), (21, 6), (22, 7), (23, 8), (26, 11), (27, 12), (28, 13), (29, 14)], [15, 16, 17, 18, 19, 20, 21, 22, 23, 24, 25, 26, 27, 28, 29], 1, 0, false), ([(15, 0), (16, 1), (17, 2), (18, 3), (19, 4), (20, 5), (21, 6), (22, 7), (23, 8), (24, 9), (25, 10), (26, 11), (27, 12), (28, 13), (29, 14), (30, 15)], [15, 16, 17, 18, 19, 20, 21, 22, 23, 24, 25, 26, 27, 28, 29, 30], 1, 0, false), ([(15, 0), (16, 1), (17, 2), (18, 3), (19, 4), (20, 5), (21, 6), (22, 7), (23, 8), (24, 9), (25, 10), (26, 11), (27, 12), (28, 13), (29, 14), (30, 15), (31, 16)], [15, 16, 17, 18, 19, 20, 21, 22, 23, 24, 25, 26, 27, 28, 29, 30, 31], 1, 0, false)]
    [(15, 0), (16, 1), (17, 2), (18, 3), (19, 4), (20, 5), (21, 6), (22, 7), (23, 8), (24, 9), (25, 10), (26, 11), (27, 12), (28, 13), (29, 14), (30, 15), (31, 16), (32, 17)] 1
    [(0, _), (1, _), (5, _)] [_, _, _, _, _, _, _, _, _, _, _, _, _, _, _, _, _, _] [H1, H1] rfl (by kernel_rfl)
  case hF => exact ⟨rfl, rfl, rfl, trivial⟩
  case h0 => rfl
  case steps =>
    (try (conv => whnf)); repeat' (first | ((with_reducible refine Ob.of ln ?_); (conv => whnf)) | ((with_reducible refine Ob.of ll ?_); (conv => whnf)) | ((with_reducible refine Ob2.of ln ?_); (conv => whnf)) | ((with_reducible refine Ob2.of ll ?_); (conv => whnf)) | (refine And.intro ?_ ?_ <;> (conv => whnf)) | exact Leaf.mk rfl rfl | exact True.intro | (refine (len9 hd1).mono ?_; rintro _ X ⟨rfl, e⟩; subst X; (conv => whnf)) | (refine Ob.of rfl ?_; (conv => whnf)) | (refine Ob2.of (by rfl) ?_; (conv => whnf)) | (first | (refine Ob.of (by first | with_reducible assumption | with_reducible exact ex20 _ _ | with_reducible exact ex21 _ _ | with_reducible exact ex30 _ _ _ | with_reducible exact ex31 _ _ _ | with_reducible exact ex32 _ _ _ | rfl | (exact ald rfl rfl (by assumption) rfl) | (exact ald_agg rfl rfl rfl (by assumption) rfl)) ?_; (conv => whnf)) | (refine bIf.yes (by first | assumption | rfl) ?_; (conv => whnf)) | (refine bIf.no (by first | assumption | rfl) ?_; (conv => whnf))))
  (try (conv => whnf)); (repeat (first | (refine Ob.of (by first | with_reducible assumption | with_reducible exact ex20 _ _ | with_reducible exact ex21 _ _ | with_reducible exact ex30 _ _ _ | with_reducible exact ex31 _ _ _ | with_reducible exact ex32 _ _ _ | rfl | (exact ald rfl rfl (by assumption) rfl) | (exact ald_agg rfl rfl rfl (by assumption) rfl)) ?_; (conv => whnf)) | (refine bIf.yes (by first | assumption | rfl) ?_; (conv => whnf)) | (refine bIf.no (by first | assumption | rfl) ?_; (conv => whnf))))
  refine SW.loop (α := Nat) (fun m => [(0, ptr p), (1, ptr q), (5, lv), (6, .int .i64 ((m : Int) - 1))]) (fun m H2 => m ≤ L.length + 2 ∧ Grow H1 H2) (fun m => L.length + 2 - m) ⟨0, ⟨rfl, rfl, rfl, rfl, trivial⟩, by omega, .refl _⟩ ?_
  rintro m H2 ⟨hm, g2⟩
  refine bC_sound _ _ _ _ ?_
  have hd2 := hd1.grow g2
  have hr2 := hr1.grow g2
  have w1 : IntKind.i64.wrap ((m : Int) - 1 + 1) = ((m + 1 : Nat) : Int) - 1 := by rw [wrap_i64 (by omega) (by omega)]; omega
  have ll2 := hl.len H2
  rw [List.length_map] at ll2
  by_cases hml : m ≤ L.length + 1
  · have d1 : decide ((m : Int) - 1 ≤ (L.length : Int)) = true := decide_eq_true (by omega)
    (try (conv => whnf)); (repeat (first | (refine Ob.of (by first | with_reducible assumption | with_reducible exact ex20 _ _ | with_reducible exact ex21 _ _ | with_reducible exact ex30 _ _ _ | with_reducible exact ex31 _ _ _ | with_reducible exact ex32 _ _ _ | rfl | (exact ald rfl rfl (by assumption) rfl) | (exact ald_agg rfl rfl rfl (by assumption) rfl)) ?_; (conv => whnf)) | (refine bIf.yes (by first | assumption | rfl) ?_; (conv => whnf)) | (refine bIf.no (by first | assumption | rfl) ?_; (conv => whnf))))
    refine (key9 hd2 hN ((m : Int) - 1)).mono ?_
    rintro rv X ⟨hrv, e⟩
    subst X
    by_cases hx : ∃ (j : Nat) (x : ByteArray × V), (m : Int) - 1 = (j : Int) ∧ L[j]? = some x
    · obtain ⟨j, x, hj, hx⟩ := hx
      have hkv : keyV L ((m : Int) - 1) = .tuple #[.string x.1, .bool true] := by
        rw [hj]; show (if _ then _ else _) = _; rw [if_pos (by omega)]; simp [hx]
      rw [hkv] at hrv
      subst hrv
      (try (conv => whnf)); (repeat (first | (refine Ob.of (by first | with_reducible assumption | with_reducible exact ex20 _ _ | with_reducible exact ex21 _ _ | with_reducible exact ex30 _ _ _ | with_reducible exact ex31 _ _ _ | with_reducible exact ex32 _ _ _ | rfl | (exact ald rfl rfl (by assumption) rfl) | (exact ald_agg rfl rfl rfl (by assumption) rfl)) ?_; (conv => whnf)) | (refine bIf.yes (by first | assumption | rfl) ?_; (conv => whnf)) | (refine bIf.no (by first | assumption | rfl) ?_; (conv => whnf))))
      refine (rkey_ax hr2 ((m : Int) - 1)).mono ?_
      rintro rv X ⟨hrv, e⟩
      subst X
      rw [hkv] at hrv
      subst hrv
      have t1 : (x.1 != x.1) = false := by show (!(x.1 == x.1)) = false; rw [ba_beq]; simp
      obtain ⟨pp, i1, i2⟩ := (hl.grow g2).at (i := j) (s := x.1) (by simp [hx])
      rw [← hj] at i1
      (try (conv => whnf)); (repeat (first | (refine Ob.of (by first | with_reducible assumption | with_reducible exact ex20 _ _ | with_reducible exact ex21 _ _ | with_reducible exact ex30 _ _ _ | with_reducible exact ex31 _ _ _ | with_reducible exact ex32 _ _ _ | rfl | (exact ald rfl rfl (by assumption) rfl) | (exact ald_agg rfl rfl rfl (by assumption) rfl)) ?_; (conv => whnf)) | (refine bIf.yes (by first | assumption | rfl) ?_; (conv => whnf)) | (refine bIf.no (by first | assumption | rfl) ?_; (conv => whnf))))
      have hg : getV L x.1 = .tuple #[valV x.2, .bool true] := by
        have hix := idx_some (n := x.1) (v := x.2) (j := j) hu hx
        unfold getV
        rw [get_of_idx, hix]
        simp [hx]
      refine (get9 hd2 x.1).mono ?_
      rintro rv X ⟨hrv, e⟩
      subst X
      rw [hg] at hrv
      subst hrv
      (try (conv => whnf)); (repeat (first | (refine Ob.of (by first | with_reducible assumption | with_reducible exact ex20 _ _ | with_reducible exact ex21 _ _ | with_reducible exact ex30 _ _ _ | with_reducible exact ex31 _ _ _ | with_reducible exact ex32 _ _ _ | rfl | (exact ald rfl rfl (by assumption) rfl) | (exact ald_agg rfl rfl rfl (by assumption) rfl)) ?_; (conv => whnf)) | (refine bIf.yes (by first | assumption | rfl) ?_; (conv => whnf)) | (refine bIf.no (by first | assumption | rfl) ?_; (conv => whnf))))
      refine Ob2.alloc rfl fun a H3 ha m1 m2 => ?_
      (try (conv => whnf)); (repeat (first | (refine Ob.of (by first | with_reducible assumption | with_reducible exact ex20 _ _ | with_reducible exact ex21 _ _ | with_reducible exact ex30 _ _ _ | with_reducible exact ex31 _ _ _ | with_reducible exact ex32 _ _ _ | rfl | (exact ald rfl rfl (by assumption) rfl) | (exact ald_agg rfl rfl rfl (by assumption) rfl)) ?_; (conv => whnf)) | (refine bIf.yes (by first | assumption | rfl) ?_; (conv => whnf)) | (refine bIf.no (by first | assumption | rfl) ?_; (conv => whnf))))
      refine Ob.store rfl rfl rfl m1 rfl (by first | exact Nat.le_of_ble_eq_true rfl | simp) fun H4 s1 s2 s3 => ?_
      have g4 : Grow H2 H4 := m2.but_new s2 (by omega)
      obtain ⟨nv4, vv4, r4, r5, r6⟩ := hr2.grow g4
      have hb4 := hblk_of r4
      obtain ⟨pv, i3, i4⟩ := r6.at (i := j) (x := x.2) (by simp [hx])
      rw [← hj] at i3
      have LA : aload Try.prog 32 (.pointer (some ⟨a, 0, none⟩)) H4 = some (valV x.2) := ald_agg rfl rfl rfl (hblk_of s1) rfl
      have LE : abin Try.prog .neq 32 (valV x.2) (valV x.2) = some (.bool false) := by rw [val_neq, vEq_self]; rfl
      (try (conv => whnf)); (repeat (first | (refine Ob.of (by first | with_reducible assumption | with_reducible exact ex20 _ _ | with_reducible exact ex21 _ _ | with_reducible exact ex30 _ _ _ | with_reducible exact ex31 _ _ _ | with_reducible exact ex32 _ _ _ | rfl | (exact ald rfl rfl (by assumption) rfl) | (exact ald_agg rfl rfl rfl (by assumption) rfl)) ?_; (conv => whnf)) | (refine bIf.yes (by first | assumption | rfl) ?_; (conv => whnf)) | (refine bIf.no (by first | assumption | rfl) ?_; (conv => whnf))))
      apply SW.draw2 [([], [], 0, 0, false), ([(76, 0)], [76], 0, 0, false), ([(76, 0), (77, 1)], [76, 77], 0, 0, false), ([(76, 0), (77, 1), (78, 2)], [76, 77, 78], 0, 0, false), ([(76, 0), (77, 1), (78, 2), (79, 3)], [76, 77, 78, 79], 0, 0, false), ([(76, 0), (77, 1), (78, 2), (79, 3), (80, 4)], [76, 77, 78, 79, 80, 82, 83, 84, 85, 86, 87, 88], 0, 0, false), ([(76, 0), (77, 1), (78, 2), (79, 3), (80, 4)], [76, 77, 78, 79, 80, 81, 86], 0, 0, false), ([(76, 0), (77, 1), (78, 2), (79, 3), (80, 4), (82, 6)], [76, 77, 78, 79, 80, 81, 82, 86], 0, 0, false), ([(76, 0), (77, 1), (78, 2), (79, 3), (80, 4), (82, 6), (83, 7)], [76, 77, 78, 79, 80, 81, 82, 83, 86], 0, 0, false), ([(76, 0), (77, 1), (78, 2), (79, 3), (80, 4), (82, 6), (83, 7), (84, 8)], [76, 77, 78, 79, 80, 81, 82, 83, 84, 86], 0, 0, false), ([(76, 0), (77, 1), (78, 2), (79, 3), (80, 4)], [76, 77, 78, 79, 80, 81, 82, 83, 84, 85], 0, 0, false), ([(76, 0), (77, 1), (78, 2), (79, 3), (80, 4), (82, 6), (83, 7), (84, 8), (85, 9), (86, 10)], [76, 77, 78, 79, 80, 81, 82, 83, 84, 85, 86], 0, 0, false), ([(76, 0), (77, 1), (78, 2), (79, 3), (80, 4), (82, 6), (83, 7), (84, 8), (85, 9), (86, 10), (87, 11)], [76, 77, 78, 79, 80, 81, 82, 83, 84, 85, 86, 87], 0, 0, false), ([(76, 0), (77, 1), (78, 2), (79, 3), (80, 4), (81, 5), (82, 6), (83, 7), (84, 8), (85, 9), (86, 10), (87, 11), (88, 12)], [76, 77, 78, 79, 80, 81, 82, 83, 84, 85, 86, 87, 88], 0, 0, false), ([(76, 0), (77, 1), (78, 2), (79, 3), (80, 4), (81, 5), (82, 6), (83, 7), (84, 8), (85, 9), (86, 10), (87, 11), (88, 12), (89, 13)], [76, 77, 78, 79, 80, 81, 82, 83, 84, 85, 86, 87, 88, 89], 0, 0, false), ([(76, 0), (77, 1), (78, 2), (79, 3), (80, 4), (81, 5), (82, 6), (83, 7), (84, 8), (85, 9), (86, 10), (87, 11), (88, 12), (89, 13), (90, 14)], [76, 77, 78, 79, 80, 81, 82, 83, 84, 85, 86, 87, 88, 89, 90], 0, 0, false)]
        [(76, 0), (77, 1), (78, 2), (79, 3), (80, 4), (81, 5), (82, 6), (83, 7), (84, 8), (85, 9), (86, 10), (87, 11), (88, 12), (89, 13), (90, 14), (91, 15)] 0
        [(0, _), (1, _), (5, _), (6, _), (8, _), (11, _), (12, _)] [_, _, _, _, _, _, _, _, _, _, _, _, _, _, _, _] [H4] rfl (by kernel_rfl)
      case hF => exact ⟨rfl, rfl, rfl, rfl, rfl, rfl, rfl, trivial⟩
      case h0 => rfl
      case steps =>
        (try (conv => whnf)); repeat' (first | ((with_reducible refine Ob.of LA ?_); (conv => whnf)) | ((with_reducible refine Ob.of i3 ?_); (conv => whnf)) | ((with_reducible refine Ob.of i4 ?_); (conv => whnf)) | ((with_reducible refine Ob.of LE ?_); (conv => whnf)) | ((with_reducible refine Ob2.of LA ?_); (conv => whnf)) | ((with_reducible refine Ob2.of i3 ?_); (conv => whnf)) | ((with_reducible refine Ob2.of i4 ?_); (conv => whnf)) | ((with_reducible refine Ob2.of LE ?_); (conv => whnf)) | (refine And.intro ?_ ?_ <;> (conv => whnf)) | exact Leaf.mk rfl rfl | exact True.intro | (refine Ob.of rfl ?_; (conv => whnf)) | (refine Ob2.of (by rfl) ?_; (conv => whnf)) | (first | (refine Ob.of (by first | with_reducible assumption | with_reducible exact ex20 _ _ | with_reducible exact ex21 _ _ | with_reducible exact ex30 _ _ _ | with_reducible exact ex31 _ _ _ | with_reducible exact ex32 _ _ _ | rfl | (exact ald rfl rfl (by assumption) rfl) | (exact ald_agg rfl rfl rfl (by assumption) rfl)) ?_; (conv => whnf)) | (refine bIf.yes (by first | assumption | rfl) ?_; (conv => whnf)) | (refine bIf.no (by first | assumption | rfl) ?_; (conv => whnf))))
      (try (conv => whnf)); (repeat (first | (refine Ob.of (by first | with_reducible assumption | with_reducible exact ex20 _ _ | with_reducible exact ex21 _ _ | with_reducible exact ex30 _ _ _ | with_reducible exact ex31 _ _ _ | with_reducible exact ex32 _ _ _ | rfl | (exact ald rfl rfl (by assumption) rfl) | (exact ald_agg rfl rfl rfl (by assumption) rfl)) ?_; (conv => whnf)) | (refine bIf.yes (by first | assumption | rfl) ?_; (conv => whnf)) | (refine bIf.no (by first | assumption | rfl) ?_; (conv => whnf))))
      exact ⟨m + 1, ⟨rfl, rfl, rfl, congrArg (fun z => some (Value.int .i64 z)) w1, trivial⟩, ⟨by show m + 1 ≤ _; omega, g2.trans g4⟩, by show L.length + 2 - (m + 1) < L.length + 2 - m; omega⟩
    · have hkv : keyV L ((m : Int) - 1) = .tuple #[.string .empty, .bool false] := by
        show (if _ then _ else _) = _
        by_cases h0 : 0 ≤ (m : Int) - 1
        · rw [if_pos h0]
          cases hc : L[((m : Int) - 1).toNat]? with
          | none => rfl
          | some x => exact absurd ⟨((m : Int) - 1).toNat, x, by omega, hc⟩ hx
        · rw [if_neg h0]
      rw [hkv] at hrv
      subst hrv
      (try (conv => whnf)); (repeat (first | (refine Ob.of (by first | with_reducible assumption | with_reducible exact ex20 _ _ | with_reducible exact ex21 _ _ | with_reducible exact ex30 _ _ _ | with_reducible exact ex31 _ _ _ | with_reducible exact ex32 _ _ _ | rfl | (exact ald rfl rfl (by assumption) rfl) | (exact ald_agg rfl rfl rfl (by assumption) rfl)) ?_; (conv => whnf)) | (refine bIf.yes (by first | assumption | rfl) ?_; (conv => whnf)) | (refine bIf.no (by first | assumption | rfl) ?_; (conv => whnf))))
      refine (rkey_ax hr2 ((m : Int) - 1)).mono ?_
      rintro rv X ⟨hrv, e⟩
      subst X
      rw [hkv] at hrv
      subst hrv
      (try (conv => whnf)); (repeat (first | (refine Ob.of (by first | with_reducible assumption | with_reducible exact ex20 _ _ | with_reducible exact ex21 _ _ | with_reducible exact ex30 _ _ _ | with_reducible exact ex31 _ _ _ | with_reducible exact ex32 _ _ _ | rfl | (exact ald rfl rfl (by assumption) rfl) | (exact ald_agg rfl rfl rfl (by assumption) rfl)) ?_; (conv => whnf)) | (refine bIf.yes (by first | assumption | rfl) ?_; (conv => whnf)) | (refine bIf.no (by first | assumption | rfl) ?_; (conv => whnf))))
      refine (get9 hd2 .empty).mono ?_
      rintro rv X ⟨hrv, e⟩
      subst X
      subst hrv
      (try (conv => whnf)); (repeat (first | (refine Ob.of (by first | with_reducible assumption | with_reducible exact ex20 _ _ | with_reducible exact ex21 _ _ | with_reducible exact ex30 _ _ _ | with_reducible exact ex31 _ _ _ | with_reducible exact ex32 _ _ _ | rfl | (exact ald rfl rfl (by assumption) rfl) | (exact ald_agg rfl rfl rfl (by assumption) rfl)) ?_; (conv => whnf)) | (refine bIf.yes (by first | assumption | rfl) ?_; (conv => whnf)) | (refine bIf.no (by first | assumption | rfl) ?_; (conv => whnf))))
      refine Ob2.alloc rfl fun a H3 ha m1 m2 => ?_
      (try (conv => whnf)); (repeat (first | (refine Ob.of (by first | with_reducible assumption | with_reducible exact ex20 _ _ | with_reducible exact ex21 _ _ | with_reducible exact ex30 _ _ _ | with_reducible exact ex31 _ _ _ | with_reducible exact ex32 _ _ _ | rfl | (exact ald rfl rfl (by assumption) rfl) | (exact ald_agg rfl rfl rfl (by assumption) rfl)) ?_; (conv => whnf)) | (refine bIf.yes (by first | assumption | rfl) ?_; (conv => whnf)) | (refine bIf.no (by first | assumption | rfl) ?_; (conv => whnf))))
      refine Ob.store rfl rfl rfl m1 rfl (by first | exact Nat.le_of_ble_eq_true rfl | simp) fun H4 s1 s2 s3 => ?_
      have g4 : Grow H2 H4 := m2.but_new s2 (by omega)
      (try (conv => whnf)); (repeat (first | (refine Ob.of (by first | with_reducible assumption | with_reducible exact ex20 _ _ | with_reducible exact ex21 _ _ | with_reducible exact ex30 _ _ _ | with_reducible exact ex31 _ _ _ | with_reducible exact ex32 _ _ _ | rfl | (exact ald rfl rfl (by assumption) rfl) | (exact ald_agg rfl rfl rfl (by assumption) rfl)) ?_; (conv => whnf)) | (refine bIf.yes (by first | assumption | rfl) ?_; (conv => whnf)) | (refine bIf.no (by first | assumption | rfl) ?_; (conv => whnf))))
      apply SW.draw2 [([], [], 0, 0, false), ([(76, 0)], [76], 0, 0, false), ([(76, 0), (77, 1)], [76, 77], 0, 0, false), ([(76, 0), (77, 1), (78, 2)], [76, 77, 78], 0, 0, false), ([(76, 0), (77, 1), (78, 2), (79, 3)], [76, 77, 78, 79], 0, 0, false), ([(76, 0), (77, 1), (78, 2), (79, 3), (80, 4)], [76, 77, 78, 79, 80, 82, 83, 84, 85, 86, 87, 88], 0, 0, false), ([(76, 0), (77, 1), (78, 2), (79, 3), (80, 4)], [76, 77, 78, 79, 80, 81, 86], 0, 0, false), ([(76, 0), (77, 1), (78, 2), (79, 3), (80, 4), (82, 6)], [76, 77, 78, 79, 80, 81, 82, 86], 0, 0, false), ([(76, 0), (77, 1), (78, 2), (79, 3), (80, 4), (82, 6), (83, 7)], [76, 77, 78, 79, 80, 81, 82, 83, 86], 0, 0, false), ([(76, 0), (77, 1), (78, 2), (79, 3), (80, 4), (82, 6), (83, 7), (84, 8)], [76, 77, 78, 79, 80, 81, 82, 83, 84, 86], 0, 0, false), ([(76, 0), (77, 1), (78, 2), (79, 3), (80, 4)], [76, 77, 78, 79, 80, 81, 82, 83, 84, 85], 0, 0, false), ([(76, 0), (77, 1), (78, 2), (79, 3), (80, 4), (82, 6), (83, 7), (84, 8), (85, 9), (86, 10)], [76, 77, 78, 79, 80, 81, 82, 83, 84, 85, 86], 0, 0, false), ([(76, 0), (77, 1), (78, 2), (79, 3), (80, 4), (82, 6), (83, 7), (84, 8), (85, 9), (86, 10), (87, 11)], [76, 77, 78, 79, 80, 81, 82, 83, 84, 85, 86, 87], 0, 0, false), ([(76, 0), (77, 1), (78, 2), (79, 3), (80, 4), (81, 5), (82, 6), (83, 7), (84, 8), (85, 9), (86, 10), (87, 11), (88, 12)], [76, 77, 78, 79, 80, 81, 82, 83, 84, 85, 86, 87, 88], 0, 0, false), ([(76, 0), (77, 1), (78, 2), (79, 3), (80, 4), (81, 5), (82, 6), (83, 7), (84, 8), (85, 9), (86, 10), (87, 11), (88, 12), (89, 13)], [76, 77, 78, 79, 80, 81, 82, 83, 84, 85, 86, 87, 88, 89], 0, 0, false), ([(76, 0), (77, 1), (78, 2), (79, 3), (80, 4), (81, 5), (82, 6), (83, 7), (84, 8), (85, 9), (86, 10), (87, 11), (88, 12), (89, 13), (90, 14)], [76, 77, 78, 79, 80, 81, 82, 83, 84, 85, 86, 87, 88, 89, 90], 0, 0, false)]
        [(76, 0), (77, 1), (78, 2), (79, 3), (80, 4), (81, 5), (82, 6), (83, 7), (84, 8), (85, 9), (86, 10), (87, 11), (88, 12), (89, 13), (90, 14), (91, 15)] 0
        [(0, _), (1, _), (5, _), (6, _), (8, _), (11, _), (12, _)] [_, _, _, _, _, _, _, _, _, _, _, _, _, _, _, _] [H4] rfl (by kernel_rfl)
      case hF => exact ⟨rfl, rfl, rfl, rfl, rfl, rfl, rfl, trivial⟩
      case h0 => rfl
      case steps =>
        (try (conv => whnf)); repeat' (first | (refine And.intro ?_ ?_ <;> (conv => whnf)) | exact Leaf.mk rfl rfl | exact True.intro | (refine Ob.of rfl ?_; (conv => whnf)) | (refine Ob2.of (by rfl) ?_; (conv => whnf)) | (first | (refine Ob.of (by first | with_reducible assumption | with_reducible exact ex20 _ _ | with_reducible exact ex21 _ _ | with_reducible exact ex30 _ _ _ | with_reducible exact ex31 _ _ _ | with_reducible exact ex32 _ _ _ | rfl | (exact ald rfl rfl (by assumption) rfl) | (exact ald_agg rfl rfl rfl (by assumption) rfl)) ?_; (conv => whnf)) | (refine bIf.yes (by first | assumption | rfl) ?_; (conv => whnf)) | (refine bIf.no (by first | assumption | rfl) ?_; (conv => whnf))))
      (try (conv => whnf)); (repeat (first | (refine Ob.of (by first | with_reducible assumption | with_reducible exact ex20 _ _ | with_reducible exact ex21 _ _ | with_reducible exact ex30 _ _ _ | with_reducible exact ex31 _ _ _ | with_reducible exact ex32 _ _ _ | rfl | (exact ald rfl rfl (by assumption) rfl) | (exact ald_agg rfl rfl rfl (by assumption) rfl)) ?_; (conv => whnf)) | (refine bIf.yes (by first | assumption | rfl) ?_; (conv => whnf)) | (refine bIf.no (by first | assumption | rfl) ?_; (conv => whnf))))
      exact ⟨m + 1, ⟨rfl, rfl, rfl, congrArg (fun z => some (Value.int .i64 z)) w1, trivial⟩, ⟨by show m + 1 ≤ _; omega, g2.trans g4⟩, by show L.length + 2 - (m + 1) < L.length + 2 - m; omega⟩
  · have d1 : decide ((m : Int) - 1 ≤ (L.length : Int)) = false := decide_eq_false (by omega)
    (try (conv => whnf)); (repeat (first | (refine Ob.of (by first | with_reducible assumption | with_reducible exact ex20 _ _ | with_reducible exact ex21 _ _ | with_reducible exact ex30 _ _ _ | with_reducible exact ex31 _ _ _ | with_reducible exact ex32 _ _ _ | rfl | (exact ald rfl rfl (by assumption) rfl) | (exact ald_agg rfl rfl rfl (by assumption) rfl)) ?_; (conv => whnf)) | (refine bIf.yes (by first | assumption | rfl) ?_; (conv => whnf)) | (refine bIf.no (by first | assumption | rfl) ?_; (conv => whnf))))
    exact ⟨plain_bool _, rfl, g1.trans g2⟩
end Go.Proofs.Ytnmfmgnkfkhdhaa
