/- The law DictNone, told of abstract memory: whatever the input, it answers true. No condition. -/
import Derived.Test.YtnmfmgnkfkhdhaaDi15
set_option linter.unusedVariables false
set_option linter.unusedSimpArgs false
set_option maxRecDepth 20000
set_option maxHeartbeats 2000000
namespace Go.Proofs.Ytnmfmgnkfkhdhaa
open Go Ax
theorem DictNone_ax (H : Heap) (c0 : List Value) (x0 : (Int) × (ByteArray) × ((Int) × (Int) × (ByteArray))) (c1 : List Value) (x1 : Int) (hn : NoOwn H) (R0 : ty34.R H c0 x0) (o0 : ty34.ok x0) (R1 : ty3.R H c1 x1) (o1 : ty3.ok x1) :
    AX Try.prog 6 #[argS c0, arg1 c1] H fun v _ => v = .bool true := by
  obtain rfl : c1 = [.int .i64 x1] := R1
  obtain rfl := act_of R0
  obtain ⟨d, n, v⟩ := x0
  show AX Try.prog 6 #[actV d n v, .int .i64 x1] H _
  refine AX.body (n := 78) (rs := [.tmp 4]) Try.func6 rfl (by decide) rfl rfl (bC_sound _ _ _ _ ?_)
  (conv => whnf)
  refine Ob2.box rfl fun a H1 ha k1 k2 => ?_
  have hb1 := hblk_of k1
  have LA : aload Try.prog 34 (.pointer (some ⟨a, 0, none⟩)) H1 = some (actV d n v) := ald_agg rfl rfl rfl hb1 rfl
  (try (conv => whnf)); (repeat (first | (refine Ob.of (by first | with_reducible assumption | with_reducible exact ex20 _ _ | with_reducible exact ex21 _ _ | with_reducible exact ex30 _ _ _ | with_reducible exact ex31 _ _ _ | with_reducible exact ex32 _ _ _ | rfl | (exact ald rfl rfl (by assumption) rfl) | (exact ald_agg rfl rfl rfl (by assumption) rfl)) ?_; (conv => whnf)) | (refine bIf.yes (by first | assumption | rfl) ?_; (conv => whnf)) | (refine bIf.no (by first | assumption | rfl) ?_; (conv => whnf))))
  refine (long_ax H1 d n v).mono ?_
  rintro _ X ⟨rfl, e⟩
  subst X
  cases hlong : (decide ((n.size : Int) > 300) || decide ((v.2.2.size : Int) > 300)) with
  | true =>
    (try (conv => whnf)); (repeat (first | (refine Ob.of (by first | with_reducible assumption | with_reducible exact ex20 _ _ | with_reducible exact ex21 _ _ | with_reducible exact ex30 _ _ _ | with_reducible exact ex31 _ _ _ | with_reducible exact ex32 _ _ _ | rfl | (exact ald rfl rfl (by assumption) rfl) | (exact ald_agg rfl rfl rfl (by assumption) rfl)) ?_; (conv => whnf)) | (refine bIf.yes (by first | assumption | rfl) ?_; (conv => whnf)) | (refine bIf.no (by first | assumption | rfl) ?_; (conv => whnf))))
    refine (works_ax H1).mono ?_
    rintro _ X ⟨rfl, e⟩
    (try (conv => whnf)); (repeat (first | (refine Ob.of (by first | with_reducible assumption | with_reducible exact ex20 _ _ | with_reducible exact ex21 _ _ | with_reducible exact ex30 _ _ _ | with_reducible exact ex31 _ _ _ | with_reducible exact ex32 _ _ _ | rfl | (exact ald rfl rfl (by assumption) rfl) | (exact ald_agg rfl rfl rfl (by assumption) rfl)) ?_; (conv => whnf)) | (refine bIf.yes (by first | assumption | rfl) ?_; (conv => whnf)) | (refine bIf.no (by first | assumption | rfl) ?_; (conv => whnf))))
    rfl
  | false =>
    (try (conv => whnf)); (repeat (first | (refine Ob.of (by first | with_reducible assumption | with_reducible exact ex20 _ _ | with_reducible exact ex21 _ _ | with_reducible exact ex30 _ _ _ | with_reducible exact ex31 _ _ _ | with_reducible exact ex32 _ _ _ | rfl | (exact ald rfl rfl (by assumption) rfl) | (exact ald_agg rfl rfl rfl (by assumption) rfl)) ?_; (conv => whnf)) | (refine bIf.yes (by first | assumption | rfl) ?_; (conv => whnf)) | (refine bIf.no (by first | assumption | rfl) ?_; (conv => whnf))))
    refine Ob2.box rfl fun p H2 hp l1 l2 => ?_
    (try (conv => whnf)); (repeat (first | (refine Ob.of (by first | with_reducible assumption | with_reducible exact ex20 _ _ | with_reducible exact ex21 _ _ | with_reducible exact ex30 _ _ _ | with_reducible exact ex31 _ _ _ | with_reducible exact ex32 _ _ _ | rfl | (exact ald rfl rfl (by assumption) rfl) | (exact ald_agg rfl rfl rfl (by assumption) rfl)) ?_; (conv => whnf)) | (refine bIf.yes (by first | assumption | rfl) ?_; (conv => whnf)) | (refine bIf.no (by first | assumption | rfl) ?_; (conv => whnf))))
    refine Ob2.of (a := .slice (some ⟨H2.length, 0, none⟩) 2 1) (b := H2 ++ [.cells (.row 23) [.pointer none, ptr p]]) rfl ?_
    obtain ⟨H3, hH3⟩ : ∃ H3, H3 = H2 ++ [Blk.cells (.row 23) [.pointer none, ptr p]] := ⟨_, rfl⟩
    obtain ⟨r, hr⟩ : ∃ r, r = H2.length := ⟨_, rfl⟩
    have m0 : H3[r]? = some (.cells (.row 23) [.pointer none, ptr p]) := by rw [hH3, hr]; exact at_push _ _
    have m1 : Grow H2 H3 := by rw [hH3]; exact .push _ _
    rw [← hH3, ← hr]
    have mp := m1.at l1
    have ma := m1.at (l2.at k1)
    (try (conv => whnf)); (repeat (first | (refine Ob.of (by first | with_reducible assumption | with_reducible exact ex20 _ _ | with_reducible exact ex21 _ _ | with_reducible exact ex30 _ _ _ | with_reducible exact ex31 _ _ _ | with_reducible exact ex32 _ _ _ | rfl | (exact ald rfl rfl (by assumption) rfl) | (exact ald_agg rfl rfl rfl (by assumption) rfl)) ?_; (conv => whnf)) | (refine bIf.yes (by first | assumption | rfl) ?_; (conv => whnf)) | (refine bIf.no (by first | assumption | rfl) ?_; (conv => whnf))))
    refine SW.loop (α := Nat) (fun k => [(1, .int .i64 x1), (2, ptr a), (6, .slice (some ⟨r, 0, none⟩) 2 1), (7, .int .i64 (k : Int))]) (fun k H4 => k ≤ 2 ∧ Grow H3 H4) (fun k => 2 - k) ⟨0, ⟨rfl, rfl, rfl, rfl, trivial⟩, by omega, .refl _⟩ ?_
    rintro k H4 ⟨hk, g4⟩
    refine bC_sound _ _ _ _ ?_
    have w1 : IntKind.i64.wrap ((k : Int) + 1) = ((k + 1 : Nat) : Int) := wrap_nat (by omega)
    by_cases hk2 : k < 2
    · have d1 : decide ((k : Int) < ((2 : Nat) : Int)) = true := decide_eq_true (by omega)
      have d1' : decide ((k : Int) < 2) = true := decide_eq_true (by omega)
      obtain ⟨dv, hld, hdead⟩ : ∃ dv, aload Try.prog 23 (.pointer (some ⟨r, k, none⟩)) H4 = some dv ∧ ∀ H', Grow H4 H' → AX Try.prog 23 #[dv] H' (fun v K => v = .bool true ∧ K = H') := by
        match k, hk2 with
        | 0, _ => exact ⟨.pointer none, ald rfl rfl (hblk_of (g4.at m0)) rfl, fun H' _ => dead_nil H'⟩
        | 1, _ => exact ⟨ptr p, ald rfl rfl (hblk_of (g4.at m0)) rfl, fun H' g => dead_zero (g.at (g4.at mp))⟩
      have ix : aindexAddr Try.prog 52 (.slice (some ⟨r, 0, none⟩) 2 1) (.int .i64 (k : Int)) = some (.pointer (some ⟨r, k, none⟩)) := by
        rw [idx_slice (off := 0) (k := 1) rfl rfl (by omega) (by omega)]; simp
      have hba := hblk_of (g4.at ma)
      (try (conv => whnf)); (repeat (first | (refine Ob.of (by first | with_reducible assumption | with_reducible exact ex20 _ _ | with_reducible exact ex21 _ _ | with_reducible exact ex30 _ _ _ | with_reducible exact ex31 _ _ _ | with_reducible exact ex32 _ _ _ | rfl | (exact ald rfl rfl (by assumption) rfl) | (exact ald_agg rfl rfl rfl (by assumption) rfl)) ?_; (conv => whnf)) | (refine bIf.yes (by first | assumption | rfl) ?_; (conv => whnf)) | (refine bIf.no (by first | assumption | rfl) ?_; (conv => whnf))))
      refine (get_dead H4 n hdead).mono ?_
      rintro _ X ⟨rfl, e⟩
      subst X
      (try (conv => whnf)); (repeat (first | (refine Ob.of (by first | with_reducible assumption | with_reducible exact ex20 _ _ | with_reducible exact ex21 _ _ | with_reducible exact ex30 _ _ _ | with_reducible exact ex31 _ _ _ | with_reducible exact ex32 _ _ _ | rfl | (exact ald rfl rfl (by assumption) rfl) | (exact ald_agg rfl rfl rfl (by assumption) rfl)) ?_; (conv => whnf)) | (refine bIf.yes (by first | assumption | rfl) ?_; (conv => whnf)) | (refine bIf.no (by first | assumption | rfl) ?_; (conv => whnf))))
      refine Ob2.alloc rfl fun q H5 hq n1 n2 => ?_
      (try (conv => whnf)); (repeat (first | (refine Ob.of (by first | with_reducible assumption | with_reducible exact ex20 _ _ | with_reducible exact ex21 _ _ | with_reducible exact ex30 _ _ _ | with_reducible exact ex31 _ _ _ | with_reducible exact ex32 _ _ _ | rfl | (exact ald rfl rfl (by assumption) rfl) | (exact ald_agg rfl rfl rfl (by assumption) rfl)) ?_; (conv => whnf)) | (refine bIf.yes (by first | assumption | rfl) ?_; (conv => whnf)) | (refine bIf.no (by first | assumption | rfl) ?_; (conv => whnf))))
      refine Ob.store rfl rfl rfl n1 rfl (by first | exact Nat.le_of_ble_eq_true rfl | simp) fun H6 s1 s2 s3 => ?_
      have g6 : Grow H4 H6 := n2.but_new s2 (by omega)
      have hb6 := hblk_of (g6.at (g4.at ma))
      have L6 : aload Try.prog 32 (.pointer (some ⟨a, 0 + 2, none⟩)) H6 = some (valV v) := ald_agg rfl rfl rfl hb6 rfl
      (try (conv => whnf)); (repeat (first | (refine Ob.of (by first | with_reducible assumption | with_reducible exact ex20 _ _ | with_reducible exact ex21 _ _ | with_reducible exact ex30 _ _ _ | with_reducible exact ex31 _ _ _ | with_reducible exact ex32 _ _ _ | rfl | (exact ald rfl rfl (by assumption) rfl) | (exact ald_agg rfl rfl rfl (by assumption) rfl)) ?_; (conv => whnf)) | (refine bIf.yes (by first | assumption | rfl) ?_; (conv => whnf)) | (refine bIf.no (by first | assumption | rfl) ?_; (conv => whnf))))
      refine (key_dead H6 x1 (hdead H6 g6)).mono ?_
      rintro _ X ⟨rfl, e⟩
      subst X
      (try (conv => whnf)); (repeat (first | (refine Ob.of (by first | with_reducible assumption | with_reducible exact ex20 _ _ | with_reducible exact ex21 _ _ | with_reducible exact ex30 _ _ _ | with_reducible exact ex31 _ _ _ | with_reducible exact ex32 _ _ _ | rfl | (exact ald rfl rfl (by assumption) rfl) | (exact ald_agg rfl rfl rfl (by assumption) rfl)) ?_; (conv => whnf)) | (refine bIf.yes (by first | assumption | rfl) ?_; (conv => whnf)) | (refine bIf.no (by first | assumption | rfl) ?_; (conv => whnf))))
      refine (set_dead H6 n v fun H' g => hdead H' (g6.trans g)).mono ?_
      rintro _ X ⟨rfl, e⟩
      subst X
      (try (conv => whnf)); (repeat (first | (refine Ob.of (by first | with_reducible assumption | with_reducible exact ex20 _ _ | with_reducible exact ex21 _ _ | with_reducible exact ex30 _ _ _ | with_reducible exact ex31 _ _ _ | with_reducible exact ex32 _ _ _ | rfl | (exact ald rfl rfl (by assumption) rfl) | (exact ald_agg rfl rfl rfl (by assumption) rfl)) ?_; (conv => whnf)) | (refine bIf.yes (by first | assumption | rfl) ?_; (conv => whnf)) | (refine bIf.no (by first | assumption | rfl) ?_; (conv => whnf))))
      refine (delete_dead H6 n (hdead H6 g6)).mono ?_
      rintro _ X ⟨rfl, e⟩
      subst X
      (try (conv => whnf)); (repeat (first | (refine Ob.of (by first | with_reducible assumption | with_reducible exact ex20 _ _ | with_reducible exact ex21 _ _ | with_reducible exact ex30 _ _ _ | with_reducible exact ex31 _ _ _ | with_reducible exact ex32 _ _ _ | rfl | (exact ald rfl rfl (by assumption) rfl) | (exact ald_agg rfl rfl rfl (by assumption) rfl)) ?_; (conv => whnf)) | (refine bIf.yes (by first | assumption | rfl) ?_; (conv => whnf)) | (refine bIf.no (by first | assumption | rfl) ?_; (conv => whnf))))
      refine (len_dead H6 (hdead H6 g6)).mono ?_
      rintro _ X ⟨rfl, e⟩
      subst X
      (try (conv => whnf)); (repeat (first | (refine Ob.of (by first | with_reducible assumption | with_reducible exact ex20 _ _ | with_reducible exact ex21 _ _ | with_reducible exact ex30 _ _ _ | with_reducible exact ex31 _ _ _ | with_reducible exact ex32 _ _ _ | rfl | (exact ald rfl rfl (by assumption) rfl) | (exact ald_agg rfl rfl rfl (by assumption) rfl)) ?_; (conv => whnf)) | (refine bIf.yes (by first | assumption | rfl) ?_; (conv => whnf)) | (refine bIf.no (by first | assumption | rfl) ?_; (conv => whnf))))
      refine (names_dead H6 (hdead H6 g6)).mono ?_
      rintro _ X ⟨rfl, e⟩
      subst X
      (try (conv => whnf)); (repeat (first | (refine Ob.of (by first | with_reducible assumption | with_reducible exact ex20 _ _ | with_reducible exact ex21 _ _ | with_reducible exact ex30 _ _ _ | with_reducible exact ex31 _ _ _ | with_reducible exact ex32 _ _ _ | rfl | (exact ald rfl rfl (by assumption) rfl) | (exact ald_agg rfl rfl rfl (by assumption) rfl)) ?_; (conv => whnf)) | (refine bIf.yes (by first | assumption | rfl) ?_; (conv => whnf)) | (refine bIf.no (by first | assumption | rfl) ?_; (conv => whnf))))
      refine (clone_dead H6 (hdead H6 g6)).mono ?_
      rintro _ X ⟨rfl, e⟩
      subst X
      (try (conv => whnf)); (repeat (first | (refine Ob.of (by first | with_reducible assumption | with_reducible exact ex20 _ _ | with_reducible exact ex21 _ _ | with_reducible exact ex30 _ _ _ | with_reducible exact ex31 _ _ _ | with_reducible exact ex32 _ _ _ | rfl | (exact ald rfl rfl (by assumption) rfl) | (exact ald_agg rfl rfl rfl (by assumption) rfl)) ?_; (conv => whnf)) | (refine bIf.yes (by first | assumption | rfl) ?_; (conv => whnf)) | (refine bIf.no (by first | assumption | rfl) ?_; (conv => whnf))))
      exact ⟨k + 1, ⟨rfl, rfl, rfl, congrArg (fun z => some (Value.int .i64 z)) w1, trivial⟩, ⟨by show k + 1 ≤ 2; omega, g4.trans g6⟩, by show 2 - (k + 1) < 2 - k; omega⟩
    · have d1 : decide ((k : Int) < ((2 : Nat) : Int)) = false := decide_eq_false (by omega)
      have d1' : decide ((k : Int) < 2) = false := decide_eq_false (by omega)
      (try (conv => whnf)); (repeat (first | (refine Ob.of (by first | with_reducible assumption | with_reducible exact ex20 _ _ | with_reducible exact ex21 _ _ | with_reducible exact ex30 _ _ _ | with_reducible exact ex31 _ _ _ | with_reducible exact ex32 _ _ _ | rfl | (exact ald rfl rfl (by assumption) rfl) | (exact ald_agg rfl rfl rfl (by assumption) rfl)) ?_; (conv => whnf)) | (refine bIf.yes (by first | assumption | rfl) ?_; (conv => whnf)) | (refine bIf.no (by first | assumption | rfl) ?_; (conv => whnf))))
      refine (works_ax H4).mono ?_
      rintro _ X ⟨rfl, e⟩
      (try (conv => whnf)); (repeat (first | (refine Ob.of (by first | with_reducible assumption | with_reducible exact ex20 _ _ | with_reducible exact ex21 _ _ | with_reducible exact ex30 _ _ _ | with_reducible exact ex31 _ _ _ | with_reducible exact ex32 _ _ _ | rfl | (exact ald rfl rfl (by assumption) rfl) | (exact ald_agg rfl rfl rfl (by assumption) rfl)) ?_; (conv => whnf)) | (refine bIf.yes (by first | assumption | rfl) ?_; (conv => whnf)) | (refine bIf.no (by first | assumption | rfl) ?_; (conv => whnf))))
      rfl
end Go.Proofs.Ytnmfmgnkfkhdhaa
