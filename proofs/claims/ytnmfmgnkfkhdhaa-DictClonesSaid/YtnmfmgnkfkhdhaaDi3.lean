/- A dict in abstract memory: got and set. -/
import Derived.Test.YtnmfmgnkfkhdhaaDi2
set_option linter.unusedVariables false
set_option linter.unusedSimpArgs false
set_option maxRecDepth 20000
namespace Go.Proofs.Ytnmfmgnkfkhdhaa
open Go Ax
abbrev zeroV : V := (0, 0, .empty)
theorem plain_getV (v : V) (b : Bool) : plain (.tuple #[valV v, .bool b]) := plain_tuple (vs := [_, _]) fun x hx => by
  simp only [List.mem_cons, List.not_mem_nil, or_false] at hx
  rcases hx with rfl | rfl
  · refine plain_agg (vs := [_, _, _]) fun y hy => ?_
    simp only [List.mem_cons, List.not_mem_nil, or_false] at hy
    rcases hy with rfl | rfl | rfl
    · exact plain_int _ _
    · exact plain_int _ _
    · exact plain_str _
  · exact plain_bool _
theorem get_dead (H : Heap) {v : Value} (n : ByteArray) (h : ∀ H', Grow H H' → AX Try.prog 23 #[v] H' (fun v K => v = .bool true ∧ K = H')) : AX Try.prog 15 #[v, .string n] H (fun v H' => v = .tuple #[valV zeroV, .bool false] ∧ H' = H) := by
  refine AX.quiet ?_
  suffices hh : AX Try.prog 15 #[v, .string n] H (fun v H' => v = .tuple #[valV zeroV, .bool false] ∧ Grow H H') from hh.mono fun v _ ⟨e, g⟩ => ⟨e ▸ plain_getV _ _, e, g⟩
  refine AX.body (n := 31) (rs := [.cell 4 32, .tmp 5]) Try.func15 rfl (by decide) rfl rfl (bC_sound _ _ _ _ ?_)
  (conv => whnf)
  refine Ob2.alloc rfl fun q H1 hq k1 k2 => ?_
  (try (conv => whnf)); (repeat (first | (refine Ob.of (by first | with_reducible assumption | with_reducible exact ex20 _ _ | with_reducible exact ex21 _ _ | with_reducible exact ex30 _ _ _ | with_reducible exact ex31 _ _ _ | with_reducible exact ex32 _ _ _ | rfl | (exact ald rfl rfl (by assumption) rfl) | (exact ald_agg rfl rfl rfl (by assumption) rfl)) ?_; (conv => whnf)) | (refine bIf.yes (by first | assumption | rfl) ?_; (conv => whnf)) | (refine bIf.no (by first | assumption | rfl) ?_; (conv => whnf))))
  refine (h H1 k2).mono ?_
  rintro _ X ⟨rfl, e⟩
  subst X
  (try (conv => whnf)); (repeat (first | (refine Ob.of (by first | with_reducible assumption | with_reducible exact ex20 _ _ | with_reducible exact ex21 _ _ | with_reducible exact ex30 _ _ _ | with_reducible exact ex31 _ _ _ | with_reducible exact ex32 _ _ _ | rfl | (exact ald rfl rfl (by assumption) rfl) | (exact ald_agg rfl rfl rfl (by assumption) rfl)) ?_; (conv => whnf)) | (refine bIf.yes (by first | assumption | rfl) ?_; (conv => whnf)) | (refine bIf.no (by first | assumption | rfl) ?_; (conv => whnf))))
  refine Ob.store rfl rfl rfl k1 rfl (by first | exact Nat.le_of_ble_eq_true rfl | simp) fun H2 m1 m2 m3 => ?_
  have hq2 := hblk_of m1
  (try (conv => whnf)); (repeat (first | (refine Ob.of (by first | with_reducible assumption | with_reducible exact ex20 _ _ | with_reducible exact ex21 _ _ | with_reducible exact ex30 _ _ _ | with_reducible exact ex31 _ _ _ | with_reducible exact ex32 _ _ _ | rfl | (exact ald rfl rfl (by assumption) rfl) | (exact ald_agg rfl rfl rfl (by assumption) rfl)) ?_; (conv => whnf)) | (refine bIf.yes (by first | assumption | rfl) ?_; (conv => whnf)) | (refine bIf.no (by first | assumption | rfl) ?_; (conv => whnf))))
  exact ⟨rfl, k2.but_new m2 (by omega)⟩
theorem get_none {H : Heap} {p : Nat} {ps : Places} (h : DR H p ps) {n : ByteArray} (hn : ∀ (i : Nat) (v : V), ps[i]? ≠ some (some (n, v))) :
    AX Try.prog 15 #[ptr p, .string n] H (fun v H' => v = .tuple #[valV zeroV, .bool false] ∧ H' = H) := by
  refine AX.quiet ?_
  suffices hh : AX Try.prog 15 #[ptr p, .string n] H (fun v H' => v = .tuple #[valV zeroV, .bool false] ∧ Grow H H') from hh.mono fun v _ ⟨e, g⟩ => ⟨e ▸ plain_getV _ _, e, g⟩
  refine AX.body (n := 31) (rs := [.cell 4 32, .tmp 5]) Try.func15 rfl (by decide) rfl rfl (bC_sound _ _ _ _ ?_)
  (conv => whnf)
  refine Ob2.alloc rfl fun q H1 hq k1 k2 => ?_
  have h1 := h.grow k2
  (try (conv => whnf)); (repeat (first | (refine Ob.of (by first | with_reducible assumption | with_reducible exact ex20 _ _ | with_reducible exact ex21 _ _ | with_reducible exact ex30 _ _ _ | with_reducible exact ex31 _ _ _ | with_reducible exact ex32 _ _ _ | rfl | (exact ald rfl rfl (by assumption) rfl) | (exact ald_agg rfl rfl rfl (by assumption) rfl)) ?_; (conv => whnf)) | (refine bIf.yes (by first | assumption | rfl) ?_; (conv => whnf)) | (refine bIf.no (by first | assumption | rfl) ?_; (conv => whnf))))
  refine (dead_ax h1).mono ?_
  rintro _ X ⟨rfl, e⟩
  subst X
  obtain ⟨mb, sv, em, g1, g2, g3, g4⟩ := h1
  have hb := hblk_of g1
  have hl := look_none g2 (g3.not hn)
  (try (conv => whnf)); (repeat (first | (refine Ob.of (by first | with_reducible assumption | with_reducible exact ex20 _ _ | with_reducible exact ex21 _ _ | with_reducible exact ex30 _ _ _ | with_reducible exact ex31 _ _ _ | with_reducible exact ex32 _ _ _ | rfl | (exact ald rfl rfl (by assumption) rfl) | (exact ald_agg rfl rfl rfl (by assumption) rfl)) ?_; (conv => whnf)) | (refine bIf.yes (by first | assumption | rfl) ?_; (conv => whnf)) | (refine bIf.no (by first | assumption | rfl) ?_; (conv => whnf))))
  refine Ob.store rfl rfl rfl k1 rfl (by first | exact Nat.le_of_ble_eq_true rfl | simp) fun H2 m1 m2 m3 => ?_
  have hq2 := hblk_of m1
  (try (conv => whnf)); (repeat (first | (refine Ob.of (by first | with_reducible assumption | with_reducible exact ex20 _ _ | with_reducible exact ex21 _ _ | with_reducible exact ex30 _ _ _ | with_reducible exact ex31 _ _ _ | with_reducible exact ex32 _ _ _ | rfl | (exact ald rfl rfl (by assumption) rfl) | (exact ald_agg rfl rfl rfl (by assumption) rfl)) ?_; (conv => whnf)) | (refine bIf.yes (by first | assumption | rfl) ?_; (conv => whnf)) | (refine bIf.no (by first | assumption | rfl) ?_; (conv => whnf))))
  exact ⟨rfl, k2.but_new m2 (by omega)⟩
theorem get_some {H : Heap} {p : Nat} {ps : Places} (h : DR H p ps) {n : ByteArray} {i : Nat} {v : V} (hi : ps[i]? = some (some (n, v))) :
    AX Try.prog 15 #[ptr p, .string n] H (fun r H' => r = .tuple #[valV v, .bool true] ∧ H' = H) := by
  refine AX.quiet ?_
  suffices hh : AX Try.prog 15 #[ptr p, .string n] H (fun r H' => r = .tuple #[valV v, .bool true] ∧ Grow H H') from hh.mono fun v _ ⟨e, g⟩ => ⟨e ▸ plain_getV _ _, e, g⟩
  refine AX.body (n := 31) (rs := [.cell 4 32, .tmp 5]) Try.func15 rfl (by decide) rfl rfl (bC_sound _ _ _ _ ?_)
  (conv => whnf)
  refine Ob2.alloc rfl fun q H1 hq k1 k2 => ?_
  have h1 := h.grow k2
  (try (conv => whnf)); (repeat (first | (refine Ob.of (by first | with_reducible assumption | with_reducible exact ex20 _ _ | with_reducible exact ex21 _ _ | with_reducible exact ex30 _ _ _ | with_reducible exact ex31 _ _ _ | with_reducible exact ex32 _ _ _ | rfl | (exact ald rfl rfl (by assumption) rfl) | (exact ald_agg rfl rfl rfl (by assumption) rfl)) ?_; (conv => whnf)) | (refine bIf.yes (by first | assumption | rfl) ?_; (conv => whnf)) | (refine bIf.no (by first | assumption | rfl) ?_; (conv => whnf))))
  refine (dead_ax h1).mono ?_
  rintro _ X ⟨rfl, e⟩
  subst X
  obtain ⟨mb, sv, em, g1, g2, g3, g4⟩ := h1
  have hb := hblk_of g1
  obtain ⟨j, hj⟩ := g3.at hi
  have hl := look_some g2 g3.nodup hj
  have hil := (List.getElem?_eq_some_iff.1 hi).1
  rcases g4 with ⟨rfl, rfl⟩ | ⟨b, rest, rfl, g5⟩
  · simp at hi
  have ix := idxP (b := b) hil
  have hb5 := hblk_of g5
  (try (conv => whnf)); (repeat (first | (refine Ob.of (by first | with_reducible assumption | with_reducible exact ex20 _ _ | with_reducible exact ex21 _ _ | with_reducible exact ex30 _ _ _ | with_reducible exact ex31 _ _ _ | with_reducible exact ex32 _ _ _ | rfl | (exact ald rfl rfl (by assumption) rfl) | (exact ald_agg rfl rfl rfl (by assumption) rfl)) ?_; (conv => whnf)) | (refine bIf.yes (by first | assumption | rfl) ?_; (conv => whnf)) | (refine bIf.no (by first | assumption | rfl) ?_; (conv => whnf))))
  refine Ob.of (ald_agg rfl rfl rfl hb5 (cells_slotsV hi)) ?_
  (try (conv => whnf)); (repeat (first | (refine Ob.of (by first | with_reducible assumption | with_reducible exact ex20 _ _ | with_reducible exact ex21 _ _ | with_reducible exact ex30 _ _ _ | with_reducible exact ex31 _ _ _ | with_reducible exact ex32 _ _ _ | rfl | (exact ald rfl rfl (by assumption) rfl) | (exact ald_agg rfl rfl rfl (by assumption) rfl)) ?_; (conv => whnf)) | (refine bIf.yes (by first | assumption | rfl) ?_; (conv => whnf)) | (refine bIf.no (by first | assumption | rfl) ?_; (conv => whnf))))
  refine Ob.store rfl rfl rfl k1 rfl (by first | exact Nat.le_of_ble_eq_true rfl | simp) fun H2 m1 m2 m3 => ?_
  have hq2 := hblk_of m1
  (try (conv => whnf)); (repeat (first | (refine Ob.of (by first | with_reducible assumption | with_reducible exact ex20 _ _ | with_reducible exact ex21 _ _ | with_reducible exact ex30 _ _ _ | with_reducible exact ex31 _ _ _ | with_reducible exact ex32 _ _ _ | rfl | (exact ald rfl rfl (by assumption) rfl) | (exact ald_agg rfl rfl rfl (by assumption) rfl)) ?_; (conv => whnf)) | (refine bIf.yes (by first | assumption | rfl) ?_; (conv => whnf)) | (refine bIf.no (by first | assumption | rfl) ?_; (conv => whnf))))
  exact ⟨rfl, k2.but_new m2 (by omega)⟩
end Go.Proofs.Ytnmfmgnkfkhdhaa
