/- A dict in abstract memory: pressed together, and a name let go. -/
import Derived.Test.YtnmfmgnkfkhdhaaDi7
set_option linter.unusedVariables false
set_option linter.unusedSimpArgs false
set_option maxRecDepth 20000
set_option maxHeartbeats 2000000
namespace Go.Proofs.Ytnmfmgnkfkhdhaa
open Go Ax
theorem full_len (ps : Places) : (full ps).length ≤ ps.length := List.length_filterMap_le _ _
theorem sliceLo {b i n : Nat} {H : Heap} (hi : i ≤ n) : aslice Try.prog 49 (.slice (some ⟨b, 0, none⟩) n 5) (some (.int .i64 (i : Int))) none none = some (.slice (some ⟨b, i * 5, none⟩) (n - i) 5) := by
  rw [slice_lo (e := 56) rfl rfl (by omega) (by omega)]; simp
theorem sliceHi {b i n : Nat} (hi : i ≤ n) : aslice Try.prog 49 (.slice (some ⟨b, 0, none⟩) n 5) none (some (.int .i64 (i : Int))) none = some (.slice (some ⟨b, 0, none⟩) i 5) := by
  rw [slice_hi (e := 56) rfl rfl (by omega) (by omega)]; simp
theorem delf_ax {H : Heap} {b : Nat} {ps : Places} {rest : List Value} (hb0 : H[b]? = some (.cells (.row 56) (cellsP ps ++ rest))) (hlen : ps.length ≤ 1000000) :
    AX Try.prog 28 #[.slice (some ⟨b, 0, none⟩) ps.length 5, hole] H
      (fun v H' => v = .slice (some ⟨b, 0, none⟩) (full ps).length 5 ∧ (∃ rest', H'[b]? = some (.cells (.row 56) (cellsP ((full ps).map some) ++ rest'))) ∧ But b H H') := by
  have hbl := lt_at hb0
  refine AX.body (n := 42) (rs := [.tmp 4]) Try.func28 rfl (by decide) rfl rfl (bC_sound _ _ _ _ ?_)
  (try (conv => whnf)); (repeat (first | (refine Ob.of (by first | with_reducible assumption | with_reducible exact ex20 _ _ | with_reducible exact ex21 _ _ | with_reducible exact ex30 _ _ _ | with_reducible exact ex31 _ _ _ | with_reducible exact ex32 _ _ _ | rfl | (exact ald rfl rfl (by assumption) rfl) | (exact ald_agg rfl rfl rfl (by assumption) rfl)) ?_; (conv => whnf)) | (refine bIf.yes (by first | assumption | rfl) ?_; (conv => whnf)) | (refine bIf.no (by first | assumption | rfl) ?_; (conv => whnf))))
  refine (find_ax hb0 hlen).mono ?_
  rintro v X ⟨e, hv⟩
  subst X
  rcases hv with ⟨rfl, hall⟩ | ⟨i0, rfl, hi0, hall⟩
  · (try (conv => whnf)); (repeat (first | (refine Ob.of (by first | with_reducible assumption | with_reducible exact ex20 _ _ | with_reducible exact ex21 _ _ | with_reducible exact ex30 _ _ _ | with_reducible exact ex31 _ _ _ | with_reducible exact ex32 _ _ _ | rfl | (exact ald rfl rfl (by assumption) rfl) | (exact ald_agg rfl rfl rfl (by assumption) rfl)) ?_; (conv => whnf)) | (refine bIf.yes (by first | assumption | rfl) ?_; (conv => whnf)) | (refine bIf.no (by first | assumption | rfl) ?_; (conv => whnf))))
    have h1 := take_some ps.length (Nat.le_refl _) hall
    rw [List.take_length] at h1
    have h2 : (full ps).length = ps.length := by have := congrArg List.length h1; simpa using this.symm
    rw [h2, ← h1]
    exact ⟨rfl, ⟨rest, hb0⟩, .refl _ _⟩
  have hi0l := (List.getElem?_eq_some_iff.1 hi0).1
  have d1 : ((i0 : Int) == -1) = false := by rw [beq_eq_false_iff_ne]; omega
  have w0 : IntKind.i64.wrap ((i0 : Int) + 1) = ((i0 + 1 : Nat) : Int) := wrap_nat (by omega)
  (try (conv => whnf)); (repeat (first | (refine Ob.of (by first | with_reducible assumption | with_reducible exact ex20 _ _ | with_reducible exact ex21 _ _ | with_reducible exact ex30 _ _ _ | with_reducible exact ex31 _ _ _ | with_reducible exact ex32 _ _ _ | rfl | (exact ald rfl rfl (by assumption) rfl) | (exact ald_agg rfl rfl rfl (by assumption) rfl)) ?_; (conv => whnf)) | (refine bIf.yes (by first | assumption | rfl) ?_; (conv => whnf)) | (refine bIf.no (by first | assumption | rfl) ?_; (conv => whnf))))
  have hst : ps.take i0 = (full (ps.take (i0 + 1))).map some := by
    rw [full_step hi0]
    simpa using take_some i0 (by omega) hall
  refine SW.loop (α := Nat × Nat × Places) (fun x => [(0, .slice (some ⟨b, 0, none⟩) ps.length 5), (1, hole), (5, .int .i64 (x.1 : Int)), (6, .int .i64 (x.2.1 : Int))])
    (fun x H1 => x.1 < x.2.1 ∧ x.2.1 ≤ ps.length ∧ x.2.2.length = ps.length ∧ x.2.2.take x.1 = (full (ps.take x.2.1)).map some ∧ x.2.2.drop x.2.1 = ps.drop x.2.1 ∧ But b H H1 ∧ H1[b]? = some (.cells (.row 56) (cellsP x.2.2 ++ rest))) (fun x => ps.length - x.2.1)
    ⟨(i0, i0 + 1, ps), ⟨rfl, rfl, rfl, congrArg (fun z => some (Value.int .i64 z)) w0, trivial⟩, by show i0 < i0 + 1; omega, by show i0 + 1 ≤ ps.length; omega, rfl, hst, rfl, .refl _ _, hb0⟩ ?_
  rintro ⟨i, j, qs⟩ H1 ⟨c1, c2, c3, c4, c5, c6, c7⟩
  simp only at c1 c2 c3 c4 c5 c7
  refine bC_sound _ _ _ _ ?_
  have wj : IntKind.i64.wrap ((j : Int) + 1) = ((j + 1 : Nat) : Int) := wrap_nat (by omega)
  have wi : IntKind.i64.wrap ((i : Int) + 1) = ((i + 1 : Nat) : Int) := wrap_nat (by omega)
  have hb7 := hblk_of c7
  have hlh := c6.1
  by_cases hj : j < ps.length
  · have d2 : decide ((j : Int) < (ps.length : Int)) = true := decide_eq_true (by omega)
    obtain ⟨x, hx⟩ : ∃ x, ps[j]? = some x := ⟨_, List.getElem?_eq_getElem hj⟩
    have hqx : qs[j]? = some x := by
      have := congrArg (fun l => l[0]?) c5
      simpa [List.getElem?_drop, hx] using this
    have ix : aindexAddr Try.prog 49 (.slice (some ⟨b, 0, none⟩) ps.length 5) (.int .i64 (j : Int)) = some (.pointer (some ⟨b, j * 5, none⟩)) := idxP hj
    have ixi : aindexAddr Try.prog 49 (.slice (some ⟨b, 0, none⟩) ps.length 5) (.int .i64 (i : Int)) = some (.pointer (some ⟨b, i * 5, none⟩)) := idxP (by omega)
    (try (conv => whnf)); (repeat (first | (refine Ob.of (by first | with_reducible assumption | with_reducible exact ex20 _ _ | with_reducible exact ex21 _ _ | with_reducible exact ex30 _ _ _ | with_reducible exact ex31 _ _ _ | with_reducible exact ex32 _ _ _ | rfl | (exact ald rfl rfl (by assumption) rfl) | (exact ald_agg rfl rfl rfl (by assumption) rfl)) ?_; (conv => whnf)) | (refine bIf.yes (by first | assumption | rfl) ?_; (conv => whnf)) | (refine bIf.no (by first | assumption | rfl) ?_; (conv => whnf))))
    refine Ob.of (ald_agg rfl rfl rfl hb7 (cells_slots hqx)) ?_
    (try (conv => whnf)); (repeat (first | (refine Ob.of (by first | with_reducible assumption | with_reducible exact ex20 _ _ | with_reducible exact ex21 _ _ | with_reducible exact ex30 _ _ _ | with_reducible exact ex31 _ _ _ | with_reducible exact ex32 _ _ _ | rfl | (exact ald rfl rfl (by assumption) rfl) | (exact ald_agg rfl rfl rfl (by assumption) rfl)) ?_; (conv => whnf)) | (refine bIf.yes (by first | assumption | rfl) ?_; (conv => whnf)) | (refine bIf.no (by first | assumption | rfl) ?_; (conv => whnf))))
    refine Ob2.alloc rfl fun q H2 hq k1 k2 => ?_
    (try (conv => whnf)); (repeat (first | (refine Ob.of (by first | with_reducible assumption | with_reducible exact ex20 _ _ | with_reducible exact ex21 _ _ | with_reducible exact ex30 _ _ _ | with_reducible exact ex31 _ _ _ | with_reducible exact ex32 _ _ _ | rfl | (exact ald rfl rfl (by assumption) rfl) | (exact ald_agg rfl rfl rfl (by assumption) rfl)) ?_; (conv => whnf)) | (refine bIf.yes (by first | assumption | rfl) ?_; (conv => whnf)) | (refine bIf.no (by first | assumption | rfl) ?_; (conv => whnf))))
    have hqb : q ≠ b := by omega
    have go : ∀ (H3 : Heap), But q H2 H3 → But b H H3 ∧ H3[b]? = some (.cells (.row 56) (cellsP qs ++ rest)) := fun H3 m2 =>
      ⟨(c6.grow k2).but_new m2 (by omega), m2.at (k2.at c7) (fun e => hqb e.symm)⟩
    have dr1 : qs.drop (j + 1) = ps.drop (j + 1) := by
      have := congrArg (List.drop 1) c5
      simpa [List.drop_drop] using this
    cases x with
    | none =>
      refine Ob.store rfl rfl rfl k1 rfl (by first | exact Nat.le_of_ble_eq_true rfl | simp) fun H3 m1 m2 m3 => ?_
      have hq3 := hblk_of m1
      obtain ⟨g1, g2⟩ := go H3 m2
      have L3 : aload Try.prog 56 (.pointer (some ⟨q, 0, none⟩)) H3 = some (.agg (cellP none).toArray) := ald_agg rfl rfl rfl hq3 rfl
      (try (conv => whnf)); (repeat (first | (refine Ob.of (by first | with_reducible assumption | with_reducible exact ex20 _ _ | with_reducible exact ex21 _ _ | with_reducible exact ex30 _ _ _ | with_reducible exact ex31 _ _ _ | with_reducible exact ex32 _ _ _ | rfl | (exact ald rfl rfl (by assumption) rfl) | (exact ald_agg rfl rfl rfl (by assumption) rfl)) ?_; (conv => whnf)) | (refine bIf.yes (by first | assumption | rfl) ?_; (conv => whnf)) | (refine bIf.no (by first | assumption | rfl) ?_; (conv => whnf))))
      refine (hole_ax H3 none).mono ?_
      rintro _ X ⟨rfl, e⟩
      subst X
      (try (conv => whnf)); (repeat (first | (refine Ob.of (by first | with_reducible assumption | with_reducible exact ex20 _ _ | with_reducible exact ex21 _ _ | with_reducible exact ex30 _ _ _ | with_reducible exact ex31 _ _ _ | with_reducible exact ex32 _ _ _ | rfl | (exact ald rfl rfl (by assumption) rfl) | (exact ald_agg rfl rfl rfl (by assumption) rfl)) ?_; (conv => whnf)) | (refine bIf.yes (by first | assumption | rfl) ?_; (conv => whnf)) | (refine bIf.no (by first | assumption | rfl) ?_; (conv => whnf))))
      exact ⟨(i, j + 1, qs), ⟨rfl, rfl, rfl, congrArg (fun z => some (Value.int .i64 z)) wj, trivial⟩, ⟨by show i < j + 1; omega, by show j + 1 ≤ ps.length; omega, c3, by show qs.take i = _; rw [full_step hx, c4]; simp, dr1, g1, g2⟩, by show ps.length - (j + 1) < ps.length - j; omega⟩
    | some y =>
      refine Ob.store rfl rfl rfl k1 rfl (by first | exact Nat.le_of_ble_eq_true rfl | simp) fun H3 m1 m2 m3 => ?_
      have hq3 := hblk_of m1
      obtain ⟨g1, g2⟩ := go H3 m2
      have L3 : aload Try.prog 56 (.pointer (some ⟨q, 0, none⟩)) H3 = some (.agg (cellP (some y)).toArray) := ald_agg rfl rfl rfl hq3 rfl
      (try (conv => whnf)); (repeat (first | (refine Ob.of (by first | with_reducible assumption | with_reducible exact ex20 _ _ | with_reducible exact ex21 _ _ | with_reducible exact ex30 _ _ _ | with_reducible exact ex31 _ _ _ | with_reducible exact ex32 _ _ _ | rfl | (exact ald rfl rfl (by assumption) rfl) | (exact ald_agg rfl rfl rfl (by assumption) rfl)) ?_; (conv => whnf)) | (refine bIf.yes (by first | assumption | rfl) ?_; (conv => whnf)) | (refine bIf.no (by first | assumption | rfl) ?_; (conv => whnf))))
      refine (hole_ax H3 (some y)).mono ?_
      rintro _ X ⟨rfl, e⟩
      subst X
      (try (conv => whnf)); (repeat (first | (refine Ob.of (by first | with_reducible assumption | with_reducible exact ex20 _ _ | with_reducible exact ex21 _ _ | with_reducible exact ex30 _ _ _ | with_reducible exact ex31 _ _ _ | with_reducible exact ex32 _ _ _ | rfl | (exact ald rfl rfl (by assumption) rfl) | (exact ald_agg rfl rfl rfl (by assumption) rfl)) ?_; (conv => whnf)) | (refine bIf.yes (by first | assumption | rfl) ?_; (conv => whnf)) | (refine bIf.no (by first | assumption | rfl) ?_; (conv => whnf))))
      obtain ⟨H4, hst4, s1, s2, s3⟩ := store_ex (P := Try.prog) (t := 56) (off := i * 5) (v := .agg (cellP (some y)).toArray) rfl rfl rfl g2 rfl (by rw [List.length_append, cellsP_len]; show i * 5 + 5 ≤ _; omega)
      rw [show (cellP (some y)).toArray.toList = cellP (some y) from rfl, cells_put (some y) (by omega)] at s1
      refine Ob.of hst4 ?_
      (try (conv => whnf)); (repeat (first | (refine Ob.of (by first | with_reducible assumption | with_reducible exact ex20 _ _ | with_reducible exact ex21 _ _ | with_reducible exact ex30 _ _ _ | with_reducible exact ex31 _ _ _ | with_reducible exact ex32 _ _ _ | rfl | (exact ald rfl rfl (by assumption) rfl) | (exact ald_agg rfl rfl rfl (by assumption) rfl)) ?_; (conv => whnf)) | (refine bIf.yes (by first | assumption | rfl) ?_; (conv => whnf)) | (refine bIf.no (by first | assumption | rfl) ?_; (conv => whnf))))
      refine ⟨(i + 1, j + 1, qs.set i (some y)), ⟨rfl, rfl, congrArg (fun z => some (Value.int .i64 z)) wi, congrArg (fun z => some (Value.int .i64 z)) wj, trivial⟩, ⟨by show i + 1 < j + 1; omega, by show j + 1 ≤ ps.length; omega, by show (qs.set i (some y)).length = _; rw [List.length_set]; exact c3, ?_, ?_, g1.trans s2, s1⟩, by show ps.length - (j + 1) < ps.length - j; omega⟩
      · show (qs.set i (some y)).take (i + 1) = (full (ps.take (j + 1))).map some
        rw [full_step hx, List.map_append, ← c4, List.take_add_one, List.take_set_of_le (Nat.le_refl i), List.getElem?_set_self (by omega)]
        rfl
      · show (qs.set i (some y)).drop (j + 1) = ps.drop (j + 1)
        rw [List.drop_set_of_lt (by omega)]
        exact dr1
  · have d2 : decide ((j : Int) < (ps.length : Int)) = false := decide_eq_false (by omega)
    have hall2 : ps.take j = ps := List.take_of_length_le (by omega)
    rw [hall2] at c4
    have hif : i = (full ps).length := by
      have := congrArg List.length c4
      rw [List.length_take, List.length_map] at this
      omega
    have hfl := full_len ps
    have sl := sliceLo (b := b) (H := H1) (i := i) (n := ps.length) (by omega)
    have sh := sliceHi (b := b) (i := i) (n := ps.length) (by omega)
    obtain ⟨H2, rest', hcl, t1, t2⟩ := clear_ex c7 c3 (show i ≤ ps.length by omega)
    (try (conv => whnf)); (repeat (first | (refine Ob.of (by first | with_reducible assumption | with_reducible exact ex20 _ _ | with_reducible exact ex21 _ _ | with_reducible exact ex30 _ _ _ | with_reducible exact ex31 _ _ _ | with_reducible exact ex32 _ _ _ | rfl | (exact ald rfl rfl (by assumption) rfl) | (exact ald_agg rfl rfl rfl (by assumption) rfl)) ?_; (conv => whnf)) | (refine bIf.yes (by first | assumption | rfl) ?_; (conv => whnf)) | (refine bIf.no (by first | assumption | rfl) ?_; (conv => whnf))))
    rw [c4] at t1
    subst hif
    exact ⟨rfl, ⟨rest', t1⟩, c6.trans t2⟩
end Go.Proofs.Ytnmfmgnkfkhdhaa
