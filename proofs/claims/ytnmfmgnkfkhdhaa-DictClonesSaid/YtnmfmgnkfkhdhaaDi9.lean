/- A dict in abstract memory: pressing, and deleting. -/
import Derived.Test.YtnmfmgnkfkhdhaaDi8
set_option linter.unusedVariables false
set_option linter.unusedSimpArgs false
set_option maxRecDepth 20000
set_option maxHeartbeats 2000000
namespace Go.Proofs.Ytnmfmgnkfkhdhaa
open Go Ax
structure PInv (L : List (ByteArray × V)) (k : Nat) (em : List (ByteArray × Nat)) : Prop where
  nodup : (em.map Prod.fst).Nodup
  len : em.length = L.length
  to : ∀ (n : ByteArray) (i : Nat), (n, i) ∈ em → ∃ (idx : Nat) (v : V), L[idx]? = some (n, v) ∧ (idx < k → i = idx)
  of : ∀ (idx : Nat) (n : ByteArray) (v : V), L[idx]? = some (n, v) → ∃ i : Nat, (n, i) ∈ em
theorem mem_full {ps : Places} {x : ByteArray × V} : x ∈ full ps ↔ ∃ i : Nat, ps[i]? = some (some x) := by
  constructor
  · intro h
    obtain ⟨y, hy, h2⟩ := List.mem_filterMap.1 h
    obtain ⟨i, hi⟩ := List.mem_iff_getElem?.1 hy
    simp only [id] at h2
    subst h2
    exact ⟨i, hi⟩
  · rintro ⟨i, hi⟩
    exact List.mem_filterMap.2 ⟨some x, List.mem_of_getElem? hi, rfl⟩
theorem EmOK.start {em : List (ByteArray × Nat)} {ps : Places} (h : EmOK em ps) : PInv (full ps) 0 em := by
  refine ⟨h.nodup, h.len, fun n i hm => ?_, fun idx n v hL => ?_⟩
  · obtain ⟨v, hv⟩ := h.to n i hm
    obtain ⟨idx, hidx⟩ := List.mem_iff_getElem?.1 (mem_full.2 ⟨i, hv⟩)
    exact ⟨idx, v, hidx, fun h => by omega⟩
  · obtain ⟨i, hi⟩ := mem_full.1 (List.mem_of_getElem? hL)
    exact ⟨i, h.of n i v hi⟩
theorem set_keys {em : List (ByteArray × Nat)} {j i k : Nat} {n : ByteArray} (hj : em[j]? = some (n, i)) : (em.set j (n, k)).map Prod.fst = em.map Prod.fst := by
  apply List.ext_getElem?
  intro l
  have hlt := (List.getElem?_eq_some_iff.1 hj).1
  rw [List.getElem?_map, List.getElem?_map]
  by_cases h : l = j
  · subst h; rw [List.getElem?_set_self hlt, hj]; rfl
  · rw [List.getElem?_set_ne (fun e => h e.symm)]
theorem PInv.step {L : List (ByteArray × V)} {k j i : Nat} {em : List (ByteArray × Nat)} {n : ByteArray} {v : V} (h : PInv L k em) (hk : L[k]? = some (n, v)) (hj : em[j]? = some (n, i)) : PInv L (k + 1) (em.set j (n, k)) := by
  have hlt := (List.getElem?_eq_some_iff.1 hj).1
  have same : ∀ (l : Nat) (m : ByteArray) (i' : Nat), em[l]? = some (m, i') → m = n → l = j := by
    rintro l m i' hl rfl
    have h1 : (em.map Prod.fst)[l]? = some m := by simp [hl]
    have h2 : (em.map Prod.fst)[j]? = some m := by simp [hj]
    exact (List.getElem?_inj (List.getElem?_eq_some_iff.1 h1).1 h.nodup).1 (h1.trans h2.symm)
  refine ⟨by rw [set_keys hj]; exact h.nodup, by rw [List.length_set]; exact h.len, fun m i' hm => ?_, fun idx m u hL => ?_⟩
  · obtain ⟨l, hl⟩ := List.mem_iff_getElem?.1 hm
    by_cases hlj : l = j
    · subst hlj
      rw [List.getElem?_set_self hlt] at hl
      simp only [Option.some.injEq, Prod.mk.injEq] at hl
      obtain ⟨rfl, rfl⟩ := hl
      exact ⟨k, v, hk, fun _ => rfl⟩
    · rw [List.getElem?_set_ne (fun e => hlj e.symm)] at hl
      obtain ⟨idx, u, h1, h2⟩ := h.to m i' (List.mem_of_getElem? hl)
      refine ⟨idx, u, h1, fun hidx => ?_⟩
      by_cases he : idx = k
      · subst he
        rw [hk] at h1
        simp only [Option.some.injEq, Prod.mk.injEq] at h1
        exact absurd (same l m i' hl h1.1.symm) hlj
      · exact h2 (by omega)
  · obtain ⟨i', hi'⟩ := h.of idx m u hL
    obtain ⟨l, hl⟩ := List.mem_iff_getElem?.1 hi'
    by_cases hlj : l = j
    · subst hlj
      rw [hj] at hl
      simp only [Option.some.injEq, Prod.mk.injEq] at hl
      exact ⟨k, List.mem_iff_getElem?.2 ⟨l, by rw [List.getElem?_set_self hlt, hl.1]⟩⟩
    · exact ⟨i', List.mem_iff_getElem?.2 ⟨l, by rw [List.getElem?_set_ne (fun e => hlj e.symm)]; exact hl⟩⟩
theorem full_some (L : List (ByteArray × V)) : full (L.map some) = L := by
  simp [full, List.filterMap_map]
theorem PInv.done {L : List (ByteArray × V)} {em : List (ByteArray × Nat)} (h : PInv L L.length em) (hu : (L.map Prod.fst).Nodup) : EmOK em (L.map some) := by
  refine ⟨h.nodup, fun n i hm => ?_, fun n i v hi => ?_, ?_, ?_⟩
  · obtain ⟨idx, v, h1, h2⟩ := h.to n i hm
    have := h2 (List.getElem?_eq_some_iff.1 h1).1
    subst this
    exact ⟨v, by simp [h1]⟩
  · have hL : L[i]? = some (n, v) := by
      rw [List.getElem?_map] at hi
      cases hx : L[i]? with
      | none => rw [hx] at hi; cases hi
      | some x => rw [hx] at hi; simpa using hi
    obtain ⟨i', hi'⟩ := h.of i n v hL
    obtain ⟨idx, u, h1, h2⟩ := h.to n i' hi'
    have he := h2 (List.getElem?_eq_some_iff.1 h1).1
    have a1 : (L.map Prod.fst)[idx]? = some n := by simp [h1]
    have a2 : (L.map Prod.fst)[i]? = some n := by simp [hL]
    have := (List.getElem?_inj (List.getElem?_eq_some_iff.1 a1).1 hu).1 (a1.trans a2.symm)
    subst this
    subst he
    exact hi'
  · rw [h.len]; show _ = (full _).length; rw [full_some]
  · show ((full _).map Prod.fst).Nodup; rw [full_some]; exact hu
def pressS (ps : Places) : Places := if ps.length < 8 ∨ 2 * (full ps).length > ps.length then ps else (full ps).map some
theorem full_press (ps : Places) : full (pressS ps) = full ps := by unfold pressS; split; rfl; exact full_some _
theorem press_len (ps : Places) : (pressS ps).length ≤ ps.length := by unfold pressS; split; exact Nat.le_refl _; rw [List.length_map]; exact full_len ps
theorem press_ax {H : Heap} {p : Nat} {ps : Places} (h : DR H p ps) (hlen : ps.length ≤ 1000000) :
    AX Try.prog 24 #[ptr p] H (fun _ H' => DR H' p (pressS ps) ∧ FrD p H H') := by
  have hh := h
  obtain ⟨mb, sv, em, g1, g2, g3, g4⟩ := hh
  have hb := hblk_of g1
  have hp := lt_at g1
  have hfl := full_len ps
  have hl : alen Try.prog 48 (.map (some mb)) H = some (.int .i64 ((full ps).length : Int)) := by
    show (hmap H mb).map _ = _
    rw [hmap_of g2]
    simp [g3.len]
  have hl2 : alen Try.prog 49 sv H = some (.int .i64 (ps.length : Int)) := by
    rcases g4 with ⟨rfl, rfl⟩ | ⟨b, rest, rfl, _⟩ <;> rfl
  have w2 : IntKind.i64.wrap (2 * ((full ps).length : Int)) = ((2 * (full ps).length : Nat) : Int) := by rw [wrap_i64 (by omega) (by omega)]; omega
  refine AX.body (n := 50) (rs := []) Try.func24 rfl (by decide) rfl rfl (bC_sound _ _ _ _ ?_)
  by_cases h8 : ps.length < 8
  · have d1 : decide ((ps.length : Int) < 8) = true := decide_eq_true (by omega)
    rw [show pressS ps = ps from if_pos (.inl h8)]
    (try (conv => whnf)); (repeat (first | (refine Ob.of (by first | with_reducible assumption | with_reducible exact ex20 _ _ | with_reducible exact ex21 _ _ | with_reducible exact ex30 _ _ _ | with_reducible exact ex31 _ _ _ | with_reducible exact ex32 _ _ _ | rfl | (exact ald rfl rfl (by assumption) rfl) | (exact ald_agg rfl rfl rfl (by assumption) rfl)) ?_; (conv => whnf)) | (refine bIf.yes (by first | assumption | rfl) ?_; (conv => whnf)) | (refine bIf.no (by first | assumption | rfl) ?_; (conv => whnf))))
    apply SW.draw2 [([], [], 0, 0, false), ([(4, 0)], [4], 0, 0, false), ([(4, 0), (5, 1)], [4, 5], 0, 0, false), ([(4, 0), (5, 1), (6, 2)], [4, 5, 6], 0, 0, false), ([(4, 0), (5, 1), (6, 2), (7, 3)], [4, 5, 6, 7], 0, 0, false), ([(4, 0), (5, 1), (6, 2), (7, 3), (8, 4)], [4, 5, 6, 7, 8], 0, 0, false), ([(4, 0), (5, 1), (6, 2), (7, 3), (8, 4), (9, 5)], [4, 5, 6, 7, 8, 9], 0, 0, false), ([(4, 0), (5, 1), (6, 2), (7, 3), (8, 4), (9, 5), (10, 6)], [4, 5, 6, 7, 8, 9, 10, 17, 18, 19, 20, 21], 0, 0, false), ([(4, 0), (5, 1), (6, 2), (7, 3), (8, 4), (9, 5), (10, 6), (11, 7)], [4, 5, 6, 7, 8, 9, 10, 11, 17, 18, 19, 20, 21], 0, 0, false), ([(4, 0), (5, 1), (6, 2), (7, 3), (8, 4), (9, 5), (10, 6), (11, 7), (12, 8)], [4, 5, 6, 7, 8, 9, 10, 11, 12, 17, 18, 19, 20, 21], 0, 0, false), ([(4, 0), (5, 1), (6, 2), (7, 3), (8, 4), (9, 5), (10, 6), (11, 7), (12, 8), (13, 9)], [4, 5, 6, 7, 8, 9, 10, 11, 12, 13, 17, 18, 19, 20, 21], 0, 0, false), ([(4, 0), (5, 1), (6, 2), (7, 3), (8, 4), (9, 5), (10, 6), (11, 7), (12, 8), (13, 9), (14, 10)], [4, 5, 6, 7, 8, 9, 10, 11, 12, 13, 14, 17, 18, 19, 20, 21], 0, 0, false), ([(4, 0), (5, 1), (6, 2), (7, 3), (8, 4), (9, 5), (10, 6), (11, 7), (12, 8), (13, 9), (14, 10), (15, 11)], [4, 5, 6, 7, 8, 9, 10, 11, 12, 13, 14, 15, 17, 18, 19, 20, 21], 0, 0, false), ([(4, 0), (5, 1), (6, 2), (7, 3), (8, 4), (9, 5), (10, 6)], [4, 5, 6, 7, 8, 9, 10, 11, 12, 13, 14, 15, 16], 0, 0, false), ([(4, 0), (5, 1), (6, 2), (7, 3), (8, 4), (9, 5), (10, 6), (17, 13)], [4, 5, 6, 7, 8, 9, 10, 11, 12, 13, 14, 15, 16, 17], 0, 0, false), ([(4, 0), (5, 1), (6, 2), (7, 3), (8, 4), (9, 5), (10, 6), (17, 13), (18, 14)], [4, 5, 6, 7, 8, 9, 10, 11, 12, 13, 14, 15, 16, 17, 18], 0, 0, false), ([(4, 0), (5, 1), (6, 2), (7, 3), (8, 4), (9, 5), (10, 6), (17, 13), (18, 14), (19, 15)], [4, 5, 6, 7, 8, 9, 10, 11, 12, 13, 14, 15, 16, 17, 18, 19], 0, 0, false), ([(4, 0), (5, 1), (6, 2), (7, 3), (8, 4), (9, 5), (10, 6), (17, 13), (18, 14), (19, 15), (20, 16)], [4, 5, 6, 7, 8, 9, 10, 11, 12, 13, 14, 15, 16, 17, 18, 19, 20], 0, 0, false), ([(4, 0), (5, 1), (6, 2), (7, 3), (8, 4), (9, 5), (10, 6), (11, 7), (12, 8), (13, 9), (14, 10), (15, 11), (16, 12), (17, 13), (18, 14), (19, 15), (20, 16), (21, 17)], [4, 5, 6, 7, 8, 9, 10, 11, 12, 13, 14, 15, 16, 17, 18, 19, 20, 21], 0, 0, false), ([(4, 0), (5, 1), (6, 2), (7, 3), (8, 4), (9, 5), (10, 6), (11, 7), (12, 8), (13, 9), (14, 10), (15, 11), (16, 12), (17, 13), (18, 14), (19, 15), (20, 16), (21, 17), (22, 18)], [4, 5, 6, 7, 8, 9, 10, 11, 12, 13, 14, 15, 16, 17, 18, 19, 20, 21, 22], 0, 0, false)]
      [(4, 0), (5, 1), (6, 2), (7, 3), (8, 4), (9, 5), (10, 6), (11, 7), (12, 8), (13, 9), (14, 10), (15, 11), (16, 12), (17, 13), (18, 14), (19, 15), (20, 16), (21, 17), (22, 18), (23, 19)] 0
      [(0, _)] [_, _, _, _, _, _, _, _, _, _, _, _, _, _, _, _, _, _, _, _] [H] rfl (by kernel_rfl)
    case hF => exact ⟨rfl, trivial⟩
    case h0 => rfl
    case steps =>
      (try (conv => whnf)); repeat' (first | ((with_reducible refine Ob.of hl2 ?_); (conv => whnf)) | ((with_reducible refine Ob.of hl ?_); (conv => whnf)) | ((with_reducible refine Ob2.of hl2 ?_); (conv => whnf)) | ((with_reducible refine Ob2.of hl ?_); (conv => whnf)) | (refine And.intro ?_ ?_ <;> (conv => whnf)) | exact Leaf.mk rfl rfl | exact True.intro | (refine Ob.of rfl ?_; (conv => whnf)) | (refine Ob2.of (by rfl) ?_; (conv => whnf)) | (first | (refine Ob.of (by first | with_reducible assumption | with_reducible exact ex20 _ _ | with_reducible exact ex21 _ _ | with_reducible exact ex30 _ _ _ | with_reducible exact ex31 _ _ _ | with_reducible exact ex32 _ _ _ | rfl | (exact ald rfl rfl (by assumption) rfl) | (exact ald_agg rfl rfl rfl (by assumption) rfl)) ?_; (conv => whnf)) | (refine bIf.yes (by first | assumption | rfl) ?_; (conv => whnf)) | (refine bIf.no (by first | assumption | rfl) ?_; (conv => whnf))))
    (try (conv => whnf)); (repeat (first | (refine Ob.of (by first | with_reducible assumption | with_reducible exact ex20 _ _ | with_reducible exact ex21 _ _ | with_reducible exact ex30 _ _ _ | with_reducible exact ex31 _ _ _ | with_reducible exact ex32 _ _ _ | rfl | (exact ald rfl rfl (by assumption) rfl) | (exact ald_agg rfl rfl rfl (by assumption) rfl)) ?_; (conv => whnf)) | (refine bIf.yes (by first | assumption | rfl) ?_; (conv => whnf)) | (refine bIf.no (by first | assumption | rfl) ?_; (conv => whnf))))
    exact ⟨h, .refl _ _⟩
  have d1 : decide ((ps.length : Int) < 8) = false := decide_eq_false (by omega)
  by_cases h2 : 2 * (full ps).length > ps.length
  · have d2 : decide (IntKind.i64.wrap (2 * ((full ps).length : Int)) > (ps.length : Int)) = true := decide_eq_true (by omega)
    rw [show pressS ps = ps from if_pos (.inr h2)]
    (try (conv => whnf)); (repeat (first | (refine Ob.of (by first | with_reducible assumption | with_reducible exact ex20 _ _ | with_reducible exact ex21 _ _ | with_reducible exact ex30 _ _ _ | with_reducible exact ex31 _ _ _ | with_reducible exact ex32 _ _ _ | rfl | (exact ald rfl rfl (by assumption) rfl) | (exact ald_agg rfl rfl rfl (by assumption) rfl)) ?_; (conv => whnf)) | (refine bIf.yes (by first | assumption | rfl) ?_; (conv => whnf)) | (refine bIf.no (by first | assumption | rfl) ?_; (conv => whnf))))
    apply SW.draw2 [([], [], 0, 0, false), ([(4, 0)], [4], 0, 0, false), ([(4, 0), (5, 1)], [4, 5], 0, 0, false), ([(4, 0), (5, 1), (6, 2)], [4, 5, 6], 0, 0, false), ([(4, 0), (5, 1), (6, 2), (7, 3)], [4, 5, 6, 7], 0, 0, false), ([(4, 0), (5, 1), (6, 2), (7, 3), (8, 4)], [4, 5, 6, 7, 8], 0, 0, false), ([(4, 0), (5, 1), (6, 2), (7, 3), (8, 4), (9, 5)], [4, 5, 6, 7, 8, 9], 0, 0, false), ([(4, 0), (5, 1), (6, 2), (7, 3), (8, 4), (9, 5), (10, 6)], [4, 5, 6, 7, 8, 9, 10, 17, 18, 19, 20, 21], 0, 0, false), ([(4, 0), (5, 1), (6, 2), (7, 3), (8, 4), (9, 5), (10, 6), (11, 7)], [4, 5, 6, 7, 8, 9, 10, 11, 17, 18, 19, 20, 21], 0, 0, false), ([(4, 0), (5, 1), (6, 2), (7, 3), (8, 4), (9, 5), (10, 6), (11, 7), (12, 8)], [4, 5, 6, 7, 8, 9, 10, 11, 12, 17, 18, 19, 20, 21], 0, 0, false), ([(4, 0), (5, 1), (6, 2), (7, 3), (8, 4), (9, 5), (10, 6), (11, 7), (12, 8), (13, 9)], [4, 5, 6, 7, 8, 9, 10, 11, 12, 13, 17, 18, 19, 20, 21], 0, 0, false), ([(4, 0), (5, 1), (6, 2), (7, 3), (8, 4), (9, 5), (10, 6), (11, 7), (12, 8), (13, 9), (14, 10)], [4, 5, 6, 7, 8, 9, 10, 11, 12, 13, 14, 17, 18, 19, 20, 21], 0, 0, false), ([(4, 0), (5, 1), (6, 2), (7, 3), (8, 4), (9, 5), (10, 6), (11, 7), (12, 8), (13, 9), (14, 10), (15, 11)], [4, 5, 6, 7, 8, 9, 10, 11, 12, 13, 14, 15, 17, 18, 19, 20, 21], 0, 0, false), ([(4, 0), (5, 1), (6, 2), (7, 3), (8, 4), (9, 5), (10, 6)], [4, 5, 6, 7, 8, 9, 10, 11, 12, 13, 14, 15, 16], 0, 0, false), ([(4, 0), (5, 1), (6, 2), (7, 3), (8, 4), (9, 5), (10, 6), (17, 13)], [4, 5, 6, 7, 8, 9, 10, 11, 12, 13, 14, 15, 16, 17], 0, 0, false), ([(4, 0), (5, 1), (6, 2), (7, 3), (8, 4), (9, 5), (10, 6), (17, 13), (18, 14)], [4, 5, 6, 7, 8, 9, 10, 11, 12, 13, 14, 15, 16, 17, 18], 0, 0, false), ([(4, 0), (5, 1), (6, 2), (7, 3), (8, 4), (9, 5), (10, 6), (17, 13), (18, 14), (19, 15)], [4, 5, 6, 7, 8, 9, 10, 11, 12, 13, 14, 15, 16, 17, 18, 19], 0, 0, false), ([(4, 0), (5, 1), (6, 2), (7, 3), (8, 4), (9, 5), (10, 6), (17, 13), (18, 14), (19, 15), (20, 16)], [4, 5, 6, 7, 8, 9, 10, 11, 12, 13, 14, 15, 16, 17, 18, 19, 20], 0, 0, false), ([(4, 0), (5, 1), (6, 2), (7, 3), (8, 4), (9, 5), (10, 6), (11, 7), (12, 8), (13, 9), (14, 10), (15, 11), (16, 12), (17, 13), (18, 14), (19, 15), (20, 16), (21, 17)], [4, 5, 6, 7, 8, 9, 10, 11, 12, 13, 14, 15, 16, 17, 18, 19, 20, 21], 0, 0, false), ([(4, 0), (5, 1), (6, 2), (7, 3), (8, 4), (9, 5), (10, 6), (11, 7), (12, 8), (13, 9), (14, 10), (15, 11), (16, 12), (17, 13), (18, 14), (19, 15), (20, 16), (21, 17), (22, 18)], [4, 5, 6, 7, 8, 9, 10, 11, 12, 13, 14, 15, 16, 17, 18, 19, 20, 21, 22], 0, 0, false)]
      [(4, 0), (5, 1), (6, 2), (7, 3), (8, 4), (9, 5), (10, 6), (11, 7), (12, 8), (13, 9), (14, 10), (15, 11), (16, 12), (17, 13), (18, 14), (19, 15), (20, 16), (21, 17), (22, 18), (23, 19)] 0
      [(0, _)] [_, _, _, _, _, _, _, _, _, _, _, _, _, _, _, _, _, _, _, _] [H] rfl (by kernel_rfl)
    case hF => exact ⟨rfl, trivial⟩
    case h0 => rfl
    case steps =>
      (try (conv => whnf)); repeat' (first | ((with_reducible refine Ob.of hl2 ?_); (conv => whnf)) | ((with_reducible refine Ob.of hl ?_); (conv => whnf)) | ((with_reducible refine Ob2.of hl2 ?_); (conv => whnf)) | ((with_reducible refine Ob2.of hl ?_); (conv => whnf)) | (refine And.intro ?_ ?_ <;> (conv => whnf)) | exact Leaf.mk rfl rfl | exact True.intro | (refine Ob.of rfl ?_; (conv => whnf)) | (refine Ob2.of (by rfl) ?_; (conv => whnf)) | (first | (refine Ob.of (by first | with_reducible assumption | with_reducible exact ex20 _ _ | with_reducible exact ex21 _ _ | with_reducible exact ex30 _ _ _ | with_reducible exact ex31 _ _ _ | with_reducible exact ex32 _ _ _ | rfl | (exact ald rfl rfl (by assumption) rfl) | (exact ald_agg rfl rfl rfl (by assumption) rfl)) ?_; (conv => whnf)) | (refine bIf.yes (by first | assumption | rfl) ?_; (conv => whnf)) | (refine bIf.no (by first | assumption | rfl) ?_; (conv => whnf))))
    (try (conv => whnf)); (repeat (first | (refine Ob.of (by first | with_reducible assumption | with_reducible exact ex20 _ _ | with_reducible exact ex21 _ _ | with_reducible exact ex30 _ _ _ | with_reducible exact ex31 _ _ _ | with_reducible exact ex32 _ _ _ | rfl | (exact ald rfl rfl (by assumption) rfl) | (exact ald_agg rfl rfl rfl (by assumption) rfl)) ?_; (conv => whnf)) | (refine bIf.yes (by first | assumption | rfl) ?_; (conv => whnf)) | (refine bIf.no (by first | assumption | rfl) ?_; (conv => whnf))))
    exact ⟨h, .refl _ _⟩
  have d2 : decide (IntKind.i64.wrap (2 * ((full ps).length : Int)) > (ps.length : Int)) = false := decide_eq_false (by omega)
  rw [show pressS ps = (full ps).map some from if_neg (by omega)]
  (try (conv => whnf)); (repeat (first | (refine Ob.of (by first | with_reducible assumption | with_reducible exact ex20 _ _ | with_reducible exact ex21 _ _ | with_reducible exact ex30 _ _ _ | with_reducible exact ex31 _ _ _ | with_reducible exact ex32 _ _ _ | rfl | (exact ald rfl rfl (by assumption) rfl) | (exact ald_agg rfl rfl rfl (by assumption) rfl)) ?_; (conv => whnf)) | (refine bIf.yes (by first | assumption | rfl) ?_; (conv => whnf)) | (refine bIf.no (by first | assumption | rfl) ?_; (conv => whnf))))
  apply SW.draw2 [([], [], 0, 0, false), ([(4, 0)], [4], 0, 0, false), ([(4, 0), (5, 1)], [4, 5], 0, 0, false), ([(4, 0), (5, 1), (6, 2)], [4, 5, 6], 0, 0, false), ([(4, 0), (5, 1), (6, 2), (7, 3)], [4, 5, 6, 7], 0, 0, false), ([(4, 0), (5, 1), (6, 2), (7, 3), (8, 4)], [4, 5, 6, 7, 8], 0, 0, false), ([(4, 0), (5, 1), (6, 2), (7, 3), (8, 4), (9, 5)], [4, 5, 6, 7, 8, 9], 0, 0, false), ([(4, 0), (5, 1), (6, 2), (7, 3), (8, 4), (9, 5), (10, 6)], [4, 5, 6, 7, 8, 9, 10, 17, 18, 19, 20, 21], 0, 0, false), ([(4, 0), (5, 1), (6, 2), (7, 3), (8, 4), (9, 5), (10, 6), (11, 7)], [4, 5, 6, 7, 8, 9, 10, 11, 17, 18, 19, 20, 21], 0, 0, false), ([(4, 0), (5, 1), (6, 2), (7, 3), (8, 4), (9, 5), (10, 6), (11, 7), (12, 8)], [4, 5, 6, 7, 8, 9, 10, 11, 12, 17, 18, 19, 20, 21], 0, 0, false), ([(4, 0), (5, 1), (6, 2), (7, 3), (8, 4), (9, 5), (10, 6), (11, 7), (12, 8), (13, 9)], [4, 5, 6, 7, 8, 9, 10, 11, 12, 13, 17, 18, 19, 20, 21], 0, 0, false), ([(4, 0), (5, 1), (6, 2), (7, 3), (8, 4), (9, 5), (10, 6), (11, 7), (12, 8), (13, 9), (14, 10)], [4, 5, 6, 7, 8, 9, 10, 11, 12, 13, 14, 17, 18, 19, 20, 21], 0, 0, false), ([(4, 0), (5, 1), (6, 2), (7, 3), (8, 4), (9, 5), (10, 6), (11, 7), (12, 8), (13, 9), (14, 10), (15, 11)], [4, 5, 6, 7, 8, 9, 10, 11, 12, 13, 14, 15, 17, 18, 19, 20, 21], 0, 0, false), ([(4, 0), (5, 1), (6, 2), (7, 3), (8, 4), (9, 5), (10, 6)], [4, 5, 6, 7, 8, 9, 10, 11, 12, 13, 14, 15, 16], 0, 0, false), ([(4, 0), (5, 1), (6, 2), (7, 3), (8, 4), (9, 5), (10, 6), (17, 13)], [4, 5, 6, 7, 8, 9, 10, 11, 12, 13, 14, 15, 16, 17], 0, 0, false), ([(4, 0), (5, 1), (6, 2), (7, 3), (8, 4), (9, 5), (10, 6), (17, 13), (18, 14)], [4, 5, 6, 7, 8, 9, 10, 11, 12, 13, 14, 15, 16, 17, 18], 0, 0, false), ([(4, 0), (5, 1), (6, 2), (7, 3), (8, 4), (9, 5), (10, 6), (17, 13), (18, 14), (19, 15)], [4, 5, 6, 7, 8, 9, 10, 11, 12, 13, 14, 15, 16, 17, 18, 19], 0, 0, false), ([(4, 0), (5, 1), (6, 2), (7, 3), (8, 4), (9, 5), (10, 6), (17, 13), (18, 14), (19, 15), (20, 16)], [4, 5, 6, 7, 8, 9, 10, 11, 12, 13, 14, 15, 16, 17, 18, 19, 20], 0, 0, false), ([(4, 0), (5, 1), (6, 2), (7, 3), (8, 4), (9, 5), (10, 6), (11, 7), (12, 8), (13, 9), (14, 10), (15, 11), (16, 12), (17, 13), (18, 14), (19, 15), (20, 16), (21, 17)], [4, 5, 6, 7, 8, 9, 10, 11, 12, 13, 14, 15, 16, 17, 18, 19, 20, 21], 0, 0, false), ([(4, 0), (5, 1), (6, 2), (7, 3), (8, 4), (9, 5), (10, 6), (11, 7), (12, 8), (13, 9), (14, 10), (15, 11), (16, 12), (17, 13), (18, 14), (19, 15), (20, 16), (21, 17), (22, 18)], [4, 5, 6, 7, 8, 9, 10, 11, 12, 13, 14, 15, 16, 17, 18, 19, 20, 21, 22], 0, 0, false)]
    [(4, 0), (5, 1), (6, 2), (7, 3), (8, 4), (9, 5), (10, 6), (11, 7), (12, 8), (13, 9), (14, 10), (15, 11), (16, 12), (17, 13), (18, 14), (19, 15), (20, 16), (21, 17), (22, 18), (23, 19)] 0
    [(0, _)] [_, _, _, _, _, _, _, _, _, _, _, _, _, _, _, _, _, _, _, _] [H] rfl (by kernel_rfl)
  case hF => exact ⟨rfl, trivial⟩
  case h0 => rfl
  case steps =>
    (try (conv => whnf)); repeat' (first | ((with_reducible refine Ob.of hl2 ?_); (conv => whnf)) | ((with_reducible refine Ob.of hl ?_); (conv => whnf)) | ((with_reducible refine Ob2.of hl2 ?_); (conv => whnf)) | ((with_reducible refine Ob2.of hl ?_); (conv => whnf)) | (refine And.intro ?_ ?_ <;> (conv => whnf)) | exact Leaf.mk rfl rfl | exact True.intro | (refine Ob.of rfl ?_; (conv => whnf)) | (refine Ob2.of (by rfl) ?_; (conv => whnf)) | (first | (refine Ob.of (by first | with_reducible assumption | with_reducible exact ex20 _ _ | with_reducible exact ex21 _ _ | with_reducible exact ex30 _ _ _ | with_reducible exact ex31 _ _ _ | with_reducible exact ex32 _ _ _ | rfl | (exact ald rfl rfl (by assumption) rfl) | (exact ald_agg rfl rfl rfl (by assumption) rfl)) ?_; (conv => whnf)) | (refine bIf.yes (by first | assumption | rfl) ?_; (conv => whnf)) | (refine bIf.no (by first | assumption | rfl) ?_; (conv => whnf))))
  (try (conv => whnf)); (repeat (first | (refine Ob.of (by first | with_reducible assumption | with_reducible exact ex20 _ _ | with_reducible exact ex21 _ _ | with_reducible exact ex30 _ _ _ | with_reducible exact ex31 _ _ _ | with_reducible exact ex32 _ _ _ | rfl | (exact ald rfl rfl (by assumption) rfl) | (exact ald_agg rfl rfl rfl (by assumption) rfl)) ?_; (conv => whnf)) | (refine bIf.yes (by first | assumption | rfl) ?_; (conv => whnf)) | (refine bIf.no (by first | assumption | rfl) ?_; (conv => whnf))))
  rcases g4 with ⟨rfl, rfl⟩ | ⟨b, rest, rfl, g5⟩
  · simp at h8
  refine (delf_ax g5 hlen).mono ?_
  rintro _ H1 ⟨rfl, ⟨rest', t1⟩, t2⟩
  have hpb : p ≠ b := by rintro rfl; rw [g1] at g5; simp at g5
  have hmb : mb ≠ b := by rintro rfl; rw [g2] at g5; simp at g5
  have hmp : mb ≠ p := by rintro rfl; rw [g1] at g2; cases g2
  have c1 := t2.at g1 hpb
  have c2 := t2.at g2 hmb
  have hb1 := hblk_of c1
  (try (conv => whnf)); (repeat (first | (refine Ob.of (by first | with_reducible assumption | with_reducible exact ex20 _ _ | with_reducible exact ex21 _ _ | with_reducible exact ex30 _ _ _ | with_reducible exact ex31 _ _ _ | with_reducible exact ex32 _ _ _ | rfl | (exact ald rfl rfl (by assumption) rfl) | (exact ald_agg rfl rfl rfl (by assumption) rfl)) ?_; (conv => whnf)) | (refine bIf.yes (by first | assumption | rfl) ?_; (conv => whnf)) | (refine bIf.no (by first | assumption | rfl) ?_; (conv => whnf))))
  refine Ob.store rfl rfl rfl c1 rfl (by first | exact Nat.le_of_ble_eq_true rfl | simp) fun H2 s1 s2 s3 => ?_
  have f2 : FrS (fun k => k = p ∨ Foot H p k) H H2 := ((FrS.refl _ _).but t2 (.inr (.inr ⟨_, _, g1, .inr ⟨_, _, rfl⟩⟩))).but s2 (.inr (.inl rfl))
  have hb2 := hblk_of s1
  (try (conv => whnf)); (repeat (first | (refine Ob.of (by first | with_reducible assumption | with_reducible exact ex20 _ _ | with_reducible exact ex21 _ _ | with_reducible exact ex30 _ _ _ | with_reducible exact ex31 _ _ _ | with_reducible exact ex32 _ _ _ | rfl | (exact ald rfl rfl (by assumption) rfl) | (exact ald_agg rfl rfl rfl (by assumption) rfl)) ?_; (conv => whnf)) | (refine bIf.yes (by first | assumption | rfl) ?_; (conv => whnf)) | (refine bIf.no (by first | assumption | rfl) ?_; (conv => whnf))))
  refine SW.loop (α := Nat × List (ByteArray × Nat)) (fun x => [(0, ptr p), (35, .slice (some ⟨b, 0, none⟩) (full ps).length 5), (36, .int .i64 ((full ps).length : Int)), (37, .int .i64 (x.1 : Int))])
    (fun x H3 => x.1 ≤ (full ps).length ∧ PInv (full ps) x.1 x.2 ∧ FrS (fun k => k = p ∨ Foot H p k) H H3 ∧ H3[p]? = some (.cells .var [.map (some mb), .slice (some ⟨b, 0, none⟩) (full ps).length 5]) ∧ H3[mb]? = some (.map true (ents x.2)) ∧ H3[b]? = some (.cells (.row 56) (cellsP ((full ps).map some) ++ rest'))) (fun x => (full ps).length - x.1)
    ⟨(0, em), ⟨rfl, rfl, rfl, rfl, trivial⟩, Nat.zero_le _, g3.start, f2, s1, s2.at c2 hmp, s2.at t1 (fun e => hpb e.symm)⟩ ?_
  rintro ⟨k, em'⟩ H3 ⟨e1, e2, e3, e4, e5, e6⟩
  simp only at e1 e2 e5
  refine bC_sound _ _ _ _ ?_
  have wk : IntKind.i64.wrap ((k : Int) + 1) = ((k + 1 : Nat) : Int) := wrap_nat (by omega)
  by_cases hk : k < (full ps).length
  · have d3 : decide ((k : Int) < ((full ps).length : Int)) = true := decide_eq_true (by omega)
    obtain ⟨⟨n, v⟩, hx⟩ : ∃ x, (full ps)[k]? = some x := ⟨_, List.getElem?_eq_getElem hk⟩
    have hqx : ((full ps).map some)[k]? = some (some (n, v)) := by simp [hx]
    have ix : aindexAddr Try.prog 49 (.slice (some ⟨b, 0, none⟩) (full ps).length 5) (.int .i64 (k : Int)) = some (.pointer (some ⟨b, k * 5, none⟩)) := idxP (ps := (full ps).map some) (by simpa using hk) |> (by simpa using ·)
    have hb6 := hblk_of e6
    obtain ⟨i, hi⟩ := e2.of k n v hx
    obtain ⟨j, hj⟩ := List.mem_iff_getElem?.1 hi
    (try (conv => whnf)); (repeat (first | (refine Ob.of (by first | with_reducible assumption | with_reducible exact ex20 _ _ | with_reducible exact ex21 _ _ | with_reducible exact ex30 _ _ _ | with_reducible exact ex31 _ _ _ | with_reducible exact ex32 _ _ _ | rfl | (exact ald rfl rfl (by assumption) rfl) | (exact ald_agg rfl rfl rfl (by assumption) rfl)) ?_; (conv => whnf)) | (refine bIf.yes (by first | assumption | rfl) ?_; (conv => whnf)) | (refine bIf.no (by first | assumption | rfl) ?_; (conv => whnf))))
    refine Ob.of (ald_agg rfl rfl rfl hb6 (cells_slots hqx)) ?_
    (try (conv => whnf)); (repeat (first | (refine Ob.of (by first | with_reducible assumption | with_reducible exact ex20 _ _ | with_reducible exact ex21 _ _ | with_reducible exact ex30 _ _ _ | with_reducible exact ex31 _ _ _ | with_reducible exact ex32 _ _ _ | rfl | (exact ald rfl rfl (by assumption) rfl) | (exact ald_agg rfl rfl rfl (by assumption) rfl)) ?_; (conv => whnf)) | (refine bIf.yes (by first | assumption | rfl) ?_; (conv => whnf)) | (refine bIf.no (by first | assumption | rfl) ?_; (conv => whnf))))
    refine Ob2.alloc rfl fun q H4 hq k1 k2 => ?_
    (try (conv => whnf)); (repeat (first | (refine Ob.of (by first | with_reducible assumption | with_reducible exact ex20 _ _ | with_reducible exact ex21 _ _ | with_reducible exact ex30 _ _ _ | with_reducible exact ex31 _ _ _ | with_reducible exact ex32 _ _ _ | rfl | (exact ald rfl rfl (by assumption) rfl) | (exact ald_agg rfl rfl rfl (by assumption) rfl)) ?_; (conv => whnf)) | (refine bIf.yes (by first | assumption | rfl) ?_; (conv => whnf)) | (refine bIf.no (by first | assumption | rfl) ?_; (conv => whnf))))
    refine Ob.store rfl rfl rfl k1 rfl (by first | exact Nat.le_of_ble_eq_true rfl | simp) fun H5 m1 m2 m3 => ?_
    have hq5 := hblk_of m1
    have gg : Grow H3 H5 := k2.but_new m2 (by omega)
    have u1 := gg.at e4
    have u2 := gg.at e5
    have hb5 := hblk_of u1
    have hup := upd_old (k' := k) u2 e2.nodup hj
    (try (conv => whnf)); (repeat (first | (refine Ob.of (by first | with_reducible assumption | with_reducible exact ex20 _ _ | with_reducible exact ex21 _ _ | with_reducible exact ex30 _ _ _ | with_reducible exact ex31 _ _ _ | with_reducible exact ex32 _ _ _ | rfl | (exact ald rfl rfl (by assumption) rfl) | (exact ald_agg rfl rfl rfl (by assumption) rfl)) ?_; (conv => whnf)) | (refine bIf.yes (by first | assumption | rfl) ?_; (conv => whnf)) | (refine bIf.no (by first | assumption | rfl) ?_; (conv => whnf))))
    apply SW.draw2 [([], [46, 47, 48], 0, 0, false), ([(42, 0)], [42, 46, 47, 48], 0, 0, false), ([(42, 0), (43, 1)], [42, 43, 46, 47, 48], 0, 0, false), ([(42, 0), (43, 1), (44, 2)], [42, 43, 44, 46, 47, 48], 0, 0, false), ([], [42, 43, 44, 45, 48], 0, 0, false), ([(46, 4)], [42, 43, 44, 45, 46, 48], 0, 0, false), ([], [42, 43, 44, 45, 46, 47], 0, 0, false), ([(42, 0), (43, 1), (44, 2), (45, 3), (46, 4), (47, 5), (48, 6)], [42, 43, 44, 45, 46, 47, 48], 0, 0, true)]
      [(42, 0), (43, 1), (44, 2), (45, 3), (46, 4), (47, 5), (48, 6)] 1
      [(0, _), (2, _), (3, _), (35, _), (36, _), (37, _)] [_, _, _, _, _, _, _, _] [H5, H5.set mb (.map true (ents (em'.set j (n, k))))] rfl (by kernel_rfl)
    case hF => exact ⟨rfl, rfl, rfl, rfl, rfl, rfl, trivial⟩
    case h0 => rfl
    case steps =>
      (try (conv => whnf)); repeat' (first | (refine And.intro ?_ ?_ <;> (conv => whnf)) | exact Leaf.mk rfl rfl | exact True.intro | (refine Ob.of hup ?_; (conv => whnf)) | (refine Ob.of rfl ?_; (conv => whnf)) | (refine Ob2.of (by rfl) ?_; (conv => whnf)) | (first | (refine Ob.of (by first | with_reducible assumption | with_reducible exact ex20 _ _ | with_reducible exact ex21 _ _ | with_reducible exact ex30 _ _ _ | with_reducible exact ex31 _ _ _ | with_reducible exact ex32 _ _ _ | rfl | (exact ald rfl rfl (by assumption) rfl) | (exact ald_agg rfl rfl rfl (by assumption) rfl)) ?_; (conv => whnf)) | (refine bIf.yes (by first | assumption | rfl) ?_; (conv => whnf)) | (refine bIf.no (by first | assumption | rfl) ?_; (conv => whnf))))
    (try (conv => whnf)); (repeat (first | (refine Ob.of (by first | with_reducible assumption | with_reducible exact ex20 _ _ | with_reducible exact ex21 _ _ | with_reducible exact ex30 _ _ _ | with_reducible exact ex31 _ _ _ | with_reducible exact ex32 _ _ _ | rfl | (exact ald rfl rfl (by assumption) rfl) | (exact ald_agg rfl rfl rfl (by assumption) rfl)) ?_; (conv => whnf)) | (refine bIf.yes (by first | assumption | rfl) ?_; (conv => whnf)) | (refine bIf.no (by first | assumption | rfl) ?_; (conv => whnf))))
    refine ⟨(k + 1, em'.set j (n, k)), ⟨rfl, rfl, rfl, congrArg (fun z => some (Value.int .i64 z)) wk, trivial⟩, ⟨by show k + 1 ≤ _; omega, e2.step hx hj, (e3.grow gg).set (.inr ⟨_, _, g1, .inl rfl⟩), ?_, at_set u2, ?_⟩, by show (full ps).length - (k + 1) < (full ps).length - k; omega⟩
    · rw [List.getElem?_set_ne hmp]; exact u1
    · rw [List.getElem?_set_ne hmb]; exact gg.at e6
  · have d3 : decide ((k : Int) < ((full ps).length : Int)) = false := decide_eq_false (by omega)
    have hkk : k = (full ps).length := by omega
    subst hkk
    (try (conv => whnf)); (repeat (first | (refine Ob.of (by first | with_reducible assumption | with_reducible exact ex20 _ _ | with_reducible exact ex21 _ _ | with_reducible exact ex30 _ _ _ | with_reducible exact ex31 _ _ _ | with_reducible exact ex32 _ _ _ | rfl | (exact ald rfl rfl (by assumption) rfl) | (exact ald_agg rfl rfl rfl (by assumption) rfl)) ?_; (conv => whnf)) | (refine bIf.yes (by first | assumption | rfl) ?_; (conv => whnf)) | (refine bIf.no (by first | assumption | rfl) ?_; (conv => whnf))))
    exact ⟨⟨mb, _, em', e4, e5, e2.done g3.uniq, .inr ⟨b, rest', by simp, e6⟩⟩, FrD.of g1 e3 e4 fun k n e h _ => by cases h; exact ⟨_, _, rfl⟩⟩
end Go.Proofs.Ytnmfmgnkfkhdhaa
