/- A dict in abstract memory: set. -/
import Derived.Test.YtnmfmgnkfkhdhaaDi3
set_option linter.unusedVariables false
set_option linter.unusedSimpArgs false
set_option maxRecDepth 20000
namespace Go.Proofs.Ytnmfmgnkfkhdhaa
open Go Ax
abbrev full (ps : Places) : List (ByteArray × V) := ps.filterMap id
theorem full_at {ps : Places} {i : Nat} {x : Option (ByteArray × V)} (h : ps[i]? = some x) : full ps = full (ps.take i) ++ (x.toList ++ full (ps.drop (i + 1))) := by
  have hl := (List.getElem?_eq_some_iff.1 h).1
  have he := (List.getElem?_eq_some_iff.1 h).2
  have : ps = ps.take i ++ x :: ps.drop (i + 1) := by
    rw [← he, ← List.drop_eq_getElem_cons hl, List.take_append_drop]
  conv => lhs; rw [this]
  rw [full, List.filterMap_append]
  cases x <;> simp
theorem full_set {ps : Places} {i : Nat} (y : Option (ByteArray × V)) (hl : i < ps.length) : full (ps.set i y) = full (ps.take i) ++ (y.toList ++ full (ps.drop (i + 1))) := by
  have h : (ps.set i y)[i]? = some y := List.getElem?_set_self hl
  rw [full_at h, List.take_set_of_le (Nat.le_refl i), List.drop_set_of_lt (by omega)]
theorem set_at {ps : Places} {i k : Nat} {y : Option (ByteArray × V)} (hl : i < ps.length) : (ps.set i y)[k]? = if k = i then some y else ps[k]? := by
  by_cases h : k = i
  · subst h; rw [if_pos rfl, List.getElem?_set_self hl]
  · rw [if_neg h, List.getElem?_set_ne (fun e => h e.symm)]
theorem EmOK.over {em : List (ByteArray × Nat)} {ps : Places} (h : EmOK em ps) {i : Nat} {n : ByteArray} {v : V} (hi : ps[i]? = some (some (n, v))) (w : V) : EmOK em (ps.set i (some (n, w))) := by
  have hl := (List.getElem?_eq_some_iff.1 hi).1
  refine ⟨h.nodup, fun m k hm => ?_, fun m k u hm => ?_, ?_, ?_⟩
  · obtain ⟨u, hu⟩ := h.to m k hm
    rw [set_at hl]
    by_cases hk : k = i
    · subst hk
      rw [hi] at hu
      simp only [Option.some.injEq, Prod.mk.injEq] at hu
      exact ⟨w, by rw [if_pos rfl, hu.1]⟩
    · exact ⟨u, by rw [if_neg hk]; exact hu⟩
  · rw [set_at hl] at hm
    by_cases hk : k = i
    · rw [if_pos hk] at hm
      simp only [Option.some.injEq, Prod.mk.injEq] at hm
      rw [hk, ← hm.1]
      exact h.of n i v hi
    · rw [if_neg hk] at hm
      exact h.of m k u hm
  · rw [h.len]
    show (full ps).length = (full _).length
    rw [full_at hi, full_set _ hl]
    simp
  · have hu := h.uniq
    show ((full _).map Prod.fst).Nodup
    change ((full ps).map Prod.fst).Nodup at hu
    rw [full_at hi] at hu
    rw [full_set _ hl]
    simpa using hu
theorem EmOK.push {em : List (ByteArray × Nat)} {ps : Places} (h : EmOK em ps) {n : ByteArray} (hn : ∀ (i : Nat) (v : V), ps[i]? ≠ some (some (n, v))) (v : V) : EmOK (em ++ [(n, ps.length)]) (ps ++ [some (n, v)]) := by
  refine ⟨?_, fun m k hm => ?_, fun m k u hm => ?_, ?_, ?_⟩
  · rw [List.map_append, List.nodup_append]
    refine ⟨h.nodup, by simp, fun a ha b hb => ?_⟩
    simp only [List.map_cons, List.map_nil, List.mem_singleton] at hb
    subst hb
    rintro rfl
    exact h.not hn ha
  · simp only [List.mem_append, List.mem_singleton, Prod.mk.injEq] at hm
    rcases hm with hm | ⟨rfl, rfl⟩
    · obtain ⟨u, hu⟩ := h.to m k hm
      exact ⟨u, by rw [List.getElem?_append_left (List.getElem?_eq_some_iff.1 hu).1]; exact hu⟩
    · exact ⟨v, by simp⟩
  · by_cases hk : k < ps.length
    · rw [List.getElem?_append_left hk] at hm
      exact List.mem_append_left _ (h.of m k u hm)
    · rw [List.getElem?_append_right (by omega)] at hm
      have hz : k - ps.length = 0 := by have := (List.getElem?_eq_some_iff.1 hm).1; simp at this; omega
      rw [hz] at hm
      simp only [List.getElem?_cons_zero, Option.some.injEq, Prod.mk.injEq] at hm
      refine List.mem_append_right _ ?_
      rw [← hm.1, show k = ps.length by omega]
      simp
  · rw [List.length_append, h.len, List.filterMap_append]; simp
  · rw [List.filterMap_append, List.map_append, List.nodup_append]
    refine ⟨h.uniq, by simp, fun a ha b hb => ?_⟩
    simp at hb
    subst hb
    rintro rfl
    obtain ⟨⟨m, u⟩, hm, rfl⟩ := List.mem_map.1 ha
    obtain ⟨y, hy, hy2⟩ := List.mem_filterMap.1 hm
    obtain ⟨k, hk⟩ := List.mem_iff_getElem?.1 hy
    simp only [id] at hy2
    subst hy2
    exact hn k u hk
theorem EmOK.erase {em : List (ByteArray × Nat)} {ps : Places} (h : EmOK em ps) {i j : Nat} {n : ByteArray} {v : V} (hi : ps[i]? = some (some (n, v))) (hj : em[j]? = some (n, i)) : EmOK (em.eraseIdx j) (ps.set i none) := by
  have hl := (List.getElem?_eq_some_iff.1 hi).1
  have hlj := (List.getElem?_eq_some_iff.1 hj).1
  have key : ∀ (m : ByteArray) (k l : Nat), em[l]? = some (m, k) → (k = i ∨ m = n) → l = j := by
    intro m k l hlm hor
    have hmn : m = n := by
      rcases hor with rfl | h
      · obtain ⟨u, hu⟩ := h.to m k (List.mem_of_getElem? hlm)
        rw [hi] at hu
        simp only [Option.some.injEq, Prod.mk.injEq] at hu
        exact hu.1.symm
      · exact h
    subst hmn
    have h1 : (em.map Prod.fst)[l]? = some m := by simp [hlm]
    have h2 : (em.map Prod.fst)[j]? = some m := by simp [hj]
    exact (List.getElem?_inj (List.getElem?_eq_some_iff.1 h1).1 h.nodup).1 (h1.trans h2.symm)
  refine ⟨?_, fun m k hm => ?_, fun m k u hm => ?_, ?_, ?_⟩
  · rw [← map_erase]
    exact h.nodup.sublist (List.eraseIdx_sublist _ _)
  · obtain ⟨l, hne, hlm⟩ := List.mem_eraseIdx_iff_getElem?.1 hm
    obtain ⟨u, hu⟩ := h.to m k (List.mem_of_getElem? hlm)
    refine ⟨u, ?_⟩
    rw [set_at hl, if_neg (fun e => hne (key m k l hlm (.inl e)))]
    exact hu
  · rw [set_at hl] at hm
    by_cases hk : k = i
    · rw [if_pos hk] at hm; simp at hm
    · rw [if_neg hk] at hm
      have := h.of m k u hm
      obtain ⟨l, hlm⟩ := List.mem_iff_getElem?.1 this
      refine List.mem_eraseIdx_iff_getElem?.2 ⟨l, ?_, hlm⟩
      rintro rfl
      rw [hj] at hlm
      simp only [Option.some.injEq, Prod.mk.injEq] at hlm
      exact hk hlm.2.symm
  · rw [List.length_eraseIdx, if_pos hlj, h.len]
    show (full ps).length - 1 = (full _).length
    rw [full_at hi, full_set _ hl]
    simp
  · have hu := h.uniq
    show ((full _).map Prod.fst).Nodup
    change ((full ps).map Prod.fst).Nodup at hu
    rw [full_at hi] at hu
    rw [full_set _ hl]
    simp only [List.map_append, Option.toList_some, Option.toList_none, List.nil_append, List.map_cons, List.map_nil, List.nodup_append, List.mem_append, List.mem_singleton] at hu ⊢
    exact ⟨hu.1, hu.2.1.2.1, fun x hx y hy => hu.2.2 x hx y (.inr hy)⟩
theorem set_dead (H : Heap) {r : Value} (n : ByteArray) (v : V) (h : ∀ H', Grow H H' → AX Try.prog 23 #[r] H' (fun v K => v = .bool true ∧ K = H')) : AX Try.prog 13 #[r, .string n, valV v] H (fun r H' => r = .bool false ∧ H' = H) := by
  refine AX.quiet ?_
  refine AX.body (n := 51) (rs := [.tmp 6]) Try.func13 rfl (by decide) rfl rfl (bC_sound _ _ _ _ ?_)
  (conv => whnf)
  refine Ob2.box rfl fun q H1 hq k1 k2 => ?_
  (try (conv => whnf)); (repeat (first | (refine Ob.of (by first | with_reducible assumption | with_reducible exact ex20 _ _ | with_reducible exact ex21 _ _ | with_reducible exact ex30 _ _ _ | with_reducible exact ex31 _ _ _ | with_reducible exact ex32 _ _ _ | rfl | (exact ald rfl rfl (by assumption) rfl) | (exact ald_agg rfl rfl rfl (by assumption) rfl)) ?_; (conv => whnf)) | (refine bIf.yes (by first | assumption | rfl) ?_; (conv => whnf)) | (refine bIf.no (by first | assumption | rfl) ?_; (conv => whnf))))
  refine (h H1 k2).mono ?_
  rintro _ X ⟨rfl, e⟩
  subst X
  (try (conv => whnf)); (repeat (first | (refine Ob.of (by first | with_reducible assumption | with_reducible exact ex20 _ _ | with_reducible exact ex21 _ _ | with_reducible exact ex30 _ _ _ | with_reducible exact ex31 _ _ _ | with_reducible exact ex32 _ _ _ | rfl | (exact ald rfl rfl (by assumption) rfl) | (exact ald_agg rfl rfl rfl (by assumption) rfl)) ?_; (conv => whnf)) | (refine bIf.yes (by first | assumption | rfl) ?_; (conv => whnf)) | (refine bIf.no (by first | assumption | rfl) ?_; (conv => whnf))))
  exact ⟨plain_bool _, rfl, k2⟩
theorem set_old {H : Heap} {p : Nat} {ps : Places} (h : DR H p ps) {n : ByteArray} {i : Nat} {v0 : V} (hi : ps[i]? = some (some (n, v0))) (v : V) :
    AX Try.prog 13 #[ptr p, .string n, valV v] H (fun r H' => r = .bool false ∧ DR H' p (ps.set i (some (n, v))) ∧ FrD p H H') := by
  refine AX.body (n := 51) (rs := [.tmp 6]) Try.func13 rfl (by decide) rfl rfl (bC_sound _ _ _ _ ?_)
  (conv => whnf)
  refine Ob2.box rfl fun q H1 hq k1 k2 => ?_
  have hqb := hblk_of k1
  have hp := h.lt
  have h1 := h.grow k2
  (try (conv => whnf)); (repeat (first | (refine Ob.of (by first | with_reducible assumption | with_reducible exact ex20 _ _ | with_reducible exact ex21 _ _ | with_reducible exact ex30 _ _ _ | with_reducible exact ex31 _ _ _ | with_reducible exact ex32 _ _ _ | rfl | (exact ald rfl rfl (by assumption) rfl) | (exact ald_agg rfl rfl rfl (by assumption) rfl)) ?_; (conv => whnf)) | (refine bIf.yes (by first | assumption | rfl) ?_; (conv => whnf)) | (refine bIf.no (by first | assumption | rfl) ?_; (conv => whnf))))
  refine (dead_ax h1).mono ?_
  rintro _ X ⟨rfl, e⟩
  subst X
  obtain ⟨mb, sv, em, g1, g2, g3, g4⟩ := h1
  have hb := hblk_of g1
  obtain ⟨j, hj⟩ := g3.at hi
  have hl := look_some g2 g3.nodup hj
  have hil := (List.getElem?_eq_some_iff.1 hi).1
  rcases g4 with ⟨rfl, rfl⟩ | ⟨b, rest, rfl, g5⟩
  · simp at hi
  have ix := idxP (b := b) hil
  (try (conv => whnf)); (repeat (first | (refine Ob.of (by first | with_reducible assumption | with_reducible exact ex20 _ _ | with_reducible exact ex21 _ _ | with_reducible exact ex30 _ _ _ | with_reducible exact ex31 _ _ _ | with_reducible exact ex32 _ _ _ | rfl | (exact ald rfl rfl (by assumption) rfl) | (exact ald_agg rfl rfl rfl (by assumption) rfl)) ?_; (conv => whnf)) | (refine bIf.yes (by first | assumption | rfl) ?_; (conv => whnf)) | (refine bIf.no (by first | assumption | rfl) ?_; (conv => whnf))))
  obtain ⟨H2, hst, s1, s2, s3⟩ := store_ex (P := Try.prog) (t := 32) (off := i * 5 + 1) (v := valV v) rfl rfl rfl g5 rfl (by rw [List.length_append, cellsP_len]; show i * 5 + 1 + 3 ≤ _; omega)
  apply SW.draw2 [([], [25, 26], 0, 0, false), ([(21, 0)], [21, 25, 26], 0, 0, false), ([(21, 0), (22, 1)], [21, 22, 25, 26], 0, 0, false), ([(21, 0), (22, 1), (23, 2)], [21, 22, 23, 25, 26], 0, 0, false), ([], [21, 22, 23, 24, 26], 0, 0, false), ([], [21, 22, 23, 24, 25], 0, 0, false), ([(21, 0), (22, 1), (23, 2), (24, 3), (25, 4), (26, 5)], [21, 22, 23, 24, 25, 26], 0, 0, false), ([(21, 0), (22, 1), (23, 2), (24, 3), (25, 4), (26, 5), (27, 6)], [21, 22, 23, 24, 25, 26, 27], 0, 0, false), ([(21, 0), (22, 1), (23, 2), (24, 3), (25, 4), (26, 5), (27, 6), (28, 7)], [21, 22, 23, 24, 25, 26, 27, 28], 0, 0, true)]
    [(21, 0), (22, 1), (23, 2), (24, 3), (25, 4), (26, 5), (27, 6), (28, 7)] 1
    [(0, _), (1, _), (5, _), (7, _)] [_, _, _, _, _, _, _, _, _] [H1, H2] rfl (by kernel_rfl)
  case hF => exact ⟨rfl, rfl, rfl, rfl, trivial⟩
  case h0 => rfl
  case steps =>
    (try (conv => whnf)); repeat' (first | ((with_reducible refine Ob.of ix ?_); (conv => whnf)) | ((with_reducible refine Ob2.of ix ?_); (conv => whnf)) | (refine And.intro ?_ ?_ <;> (conv => whnf)) | exact Leaf.mk rfl rfl | exact True.intro | (refine Ob.of hst ?_; (conv => whnf)) | (refine Ob.of rfl ?_; (conv => whnf)) | (refine Ob2.of (by rfl) ?_; (conv => whnf)) | (first | (refine Ob.of (by first | with_reducible assumption | with_reducible exact ex20 _ _ | with_reducible exact ex21 _ _ | with_reducible exact ex30 _ _ _ | with_reducible exact ex31 _ _ _ | with_reducible exact ex32 _ _ _ | rfl | (exact ald rfl rfl (by assumption) rfl) | (exact ald_agg rfl rfl rfl (by assumption) rfl)) ?_; (conv => whnf)) | (refine bIf.yes (by first | assumption | rfl) ?_; (conv => whnf)) | (refine bIf.no (by first | assumption | rfl) ?_; (conv => whnf))))
  rw [cells_putV v hi] at s1
  (try (conv => whnf)); (repeat (first | (refine Ob.of (by first | with_reducible assumption | with_reducible exact ex20 _ _ | with_reducible exact ex21 _ _ | with_reducible exact ex30 _ _ _ | with_reducible exact ex31 _ _ _ | with_reducible exact ex32 _ _ _ | rfl | (exact ald rfl rfl (by assumption) rfl) | (exact ald_agg rfl rfl rfl (by assumption) rfl)) ?_; (conv => whnf)) | (refine bIf.yes (by first | assumption | rfl) ?_; (conv => whnf)) | (refine bIf.no (by first | assumption | rfl) ?_; (conv => whnf))))
  have hpb : p ≠ b := by rintro rfl; rw [g1] at g5; simp at g5
  have hmb : mb ≠ b := by rintro rfl; rw [g2] at g5; simp at g5
  refine ⟨rfl, ⟨mb, _, em, s2.at g1 hpb, s2.at g2 hmb, g3.over hi v, .inr ⟨b, rest, by rw [List.length_set], s1⟩⟩, ?_⟩
  exact FrD.begin k2 hp (FrD.of g1 ((FrS.refl _ _).but s2 (.inr (.inr ⟨_, _, g1, .inr ⟨_, _, rfl⟩⟩))) (s2.at g1 hpb) fun k n e h _ => ⟨n, e, h⟩)
end Go.Proofs.Ytnmfmgnkfkhdhaa
