/- The document of package code: the depths of a code's stack. -/
import Derived.Test.YtdlanbfbbopfhaaCo14
set_option linter.unusedVariables false
set_option linter.unusedSimpArgs false
set_option maxRecDepth 20000
set_option maxHeartbeats 8000000
namespace Go.Proofs.Ytdlanbfbbopfhaa
open Go Ax
theorem tgt_one {c : CodeT} (ha : Aims c) {i : Nat} {x : Ins} (hx : c.ins[i]? = some x) {t : Int} (h : (tgt c.ins (i : Int))[1]? = some t) : x.1 = 23 ∨ x.1 = 24 ∨ x.1 = 25 := by
  rw [tgt_at hx ha.1] at h
  split at h
  · simp at h
  split at h
  · simp at h
  split at h
  · rename_i h1 h2 h3
    unfold gos at h3
    simp only [decide_eq_true_eq] at h3
    omega
  · simp at h
theorem set_same {α : Type} {L : List α} {i : Nat} {a : α} (h : L[i]? = some a) : L.set i a = L := by
  apply List.ext_getElem?
  intro j
  by_cases hij : i = j
  · subst hij; rw [List.getElem?_set_self (lt_of_get h), h]
  · rw [List.getElem?_set_ne hij]
structure RI (c : CodeT) (H1 : Heap) (q : Nat) (L : List Int) (H : Heap) : Prop where
  grow : Grow H1 H
  own : OwnI H q L
  inv : Inv c L
theorem rep_set {n : Nat} {L : List Int} {k : Nat} (hL : L.length = n) (hk : k < n) (h1 : ∀ i, 1 ≤ i → i < k → L[i]? = some (-1)) : ∀ i, 1 ≤ i → i < k + 1 → (L.set k (-1))[i]? = some (-1) := by
  intro i hi1 hi2
  by_cases hik : k = i
  · subst hik; exact List.getElem?_set_self (by omega)
  · rw [List.getElem?_set_ne hik]; exact h1 i hi1 (by omega)
theorem cnt_first {L : List Int} (h0 : L[0]? = some 0) : cnt L + 1 ≤ L.length := by
  cases L with
  | nil => simp at h0
  | cons a L =>
    simp only [List.getElem?_cons_zero, Option.some.injEq] at h0
    subst h0
    have := List.countP_le_length (p := fun d : Int => d == -1) (l := L)
    show List.countP _ _ + 1 ≤ _
    simp only [List.countP_cons, List.length_cons]
    have h : ((0 : Int) == -1) = false := rfl
    simp only [h]
    simp
    exact this
theorem rdepths_ax {H : Heap} {c : CodeT} {sv : Value} (hs : RL 3 insR H sv c.ins) (ha : Aims c) :
    AX Try.prog 25 #[codeV c sv] H (fun v H' => ∃ r, DS c r ∧ DV H' v r ∧ Grow H H') := by
  have hn := ha.1
  have hn0 := ha.2.1
  refine AX.body (n := 155) (rs := [.tmp 2, .tmp 3]) Try.func25 rfl (by decide) rfl rfl (bC_sound _ _ _ _ ?_)
  (conv => whnf)
  refine Ob2.box rfl fun q1 H1 hq1 a1 g1 => ?_
  have b1 := hblk_of a1
  have hl1 : q1 < H1.length := lt_at a1
  have hlen : ∀ H', alen Try.prog 47 sv H' = some (.int .i64 c.ins.length) := fun H' => hs.len rfl _
  have hlen1 := hlen H1
  (try (conv => whnf)); (repeat ((fail_if_success (with_reducible refine And.intro ?_ ?_)); (fail_if_success (with_reducible refine Exists.intro ?_ ?_)); (first | (apply Ob.of; (first | with_reducible assumption | with_reducible exact ex20 _ _ | with_reducible exact ex21 _ _ | with_reducible exact ex30 _ _ _ | with_reducible exact ex31 _ _ _ | with_reducible exact ex32 _ _ _ | rfl | (exact ald rfl rfl (by assumption) rfl) | (exact ald_agg rfl rfl rfl (by assumption) rfl)); (conv => whnf)) | (apply bIf.yes; (first | assumption | rfl); (conv => whnf)) | (apply bIf.no; (first | assumption | rfl); (conv => whnf)) | ((with_reducible refine Ob.load (by with_unfolding_all assumption) ?_); (conv => whnf)) | (apply Grows.mk; (first | exact Grow.refl _ | assumption); (conv => whnf)))))
  refine Ob2.of (make_slice rfl rfl rfl rfl (by decide) rfl (by omega) (by omega) (by show 8 * (c.ins.length : Int) ≤ _; omega)) ?_
  rw [zeros_one, Int.toNat_natCast]
  have g2 : Grow H1 (H1 ++ [Blk.cells (.row 3) (List.replicate c.ins.length (.int .i64 0))]) := .push _ _
  have o2 : OwnI (H1 ++ [Blk.cells (.row 3) (List.replicate c.ins.length (.int .i64 0))]) H1.length (List.replicate c.ins.length 0) := by
    unfold OwnI; rw [List.map_replicate]; exact at_push _ _
  revert g2 o2
  generalize H1 ++ [Blk.cells (.row 3) (List.replicate c.ins.length (.int .i64 0))] = H2
  generalize hqd : H1.length = q
  intro g2 o2
  (try (conv => whnf)); (repeat ((fail_if_success (with_reducible refine And.intro ?_ ?_)); (fail_if_success (with_reducible refine Exists.intro ?_ ?_)); (first | (apply Ob.of; (first | with_reducible assumption | with_reducible exact ex20 _ _ | with_reducible exact ex21 _ _ | with_reducible exact ex30 _ _ _ | with_reducible exact ex31 _ _ _ | with_reducible exact ex32 _ _ _ | rfl | (exact ald rfl rfl (by assumption) rfl) | (exact ald_agg rfl rfl rfl (by assumption) rfl)); (conv => whnf)) | (apply bIf.yes; (first | assumption | rfl); (conv => whnf)) | (apply bIf.no; (first | assumption | rfl); (conv => whnf)) | ((with_reducible refine Ob.load (by with_unfolding_all assumption) ?_); (conv => whnf)) | (apply Grows.mk; (first | exact Grow.refl _ | assumption); (conv => whnf)))))
  refine SW.loop (α := Nat × List Int) (fun y => [(1, .pointer (some ⟨q1, 0, none⟩)), (4, rowV q c.ins.length), (5, .int .i64 (y.1 : Int))]) (fun y H' => Grow H1 H' ∧ OwnI H' q y.2 ∧ y.2.length = c.ins.length ∧ 1 ≤ y.1 ∧ y.1 ≤ c.ins.length ∧ y.2[0]? = some 0 ∧ ∀ i, 1 ≤ i → i < y.1 → y.2[i]? = some (-1)) (fun y => c.ins.length - y.1)
    ⟨(1, List.replicate c.ins.length 0), ⟨rfl, rfl, rfl, trivial⟩, g2, o2, by simp, Nat.le_refl _, by show 1 ≤ _; omega, by simp [hn0], fun i h1 h2 => by dsimp only at h2; omega⟩ ?_
  rintro ⟨k, L⟩ H3 ⟨g3, o3, hL, hk1, hk2, hz, hm⟩
  dsimp only at g3 o3 hL hk1 hk2 hz hm ⊢
  refine bC_sound _ _ _ _ ?_
  have b3 := g3.hblk b1
  have hlen3 := hlen H3
  by_cases hkn : k < c.ins.length
  · have d1 : decide ((k : Int) < (c.ins.length : Int)) = true := decide_eq_true (by omega)
    have i1 : aindexAddr Try.prog 36 (rowV q c.ins.length) (.int .i64 (k : Int)) = some (.pointer (some ⟨q, k, none⟩)) := own_idx hkn
    (try (conv => whnf)); (repeat ((fail_if_success (with_reducible refine And.intro ?_ ?_)); (fail_if_success (with_reducible refine Exists.intro ?_ ?_)); (first | (apply Ob.of; (first | with_reducible assumption | with_reducible exact ex20 _ _ | with_reducible exact ex21 _ _ | with_reducible exact ex30 _ _ _ | with_reducible exact ex31 _ _ _ | with_reducible exact ex32 _ _ _ | rfl | (exact ald rfl rfl (by assumption) rfl) | (exact ald_agg rfl rfl rfl (by assumption) rfl)); (conv => whnf)) | (apply bIf.yes; (first | assumption | rfl); (conv => whnf)) | (apply bIf.no; (first | assumption | rfl); (conv => whnf)) | ((with_reducible refine Ob.load (by with_unfolding_all assumption) ?_); (conv => whnf)) | (apply Grows.mk; (first | exact Grow.refl _ | assumption); (conv => whnf)))))
    refine Ob.storeI o3 (by omega) fun H4 o4 k4 l4 => ?_
    (try (conv => whnf)); (repeat ((fail_if_success (with_reducible refine And.intro ?_ ?_)); (fail_if_success (with_reducible refine Exists.intro ?_ ?_)); (first | (apply Ob.of; (first | with_reducible assumption | with_reducible exact ex20 _ _ | with_reducible exact ex21 _ _ | with_reducible exact ex30 _ _ _ | with_reducible exact ex31 _ _ _ | with_reducible exact ex32 _ _ _ | rfl | (exact ald rfl rfl (by assumption) rfl) | (exact ald_agg rfl rfl rfl (by assumption) rfl)); (conv => whnf)) | (apply bIf.yes; (first | assumption | rfl); (conv => whnf)) | (apply bIf.no; (first | assumption | rfl); (conv => whnf)) | ((with_reducible refine Ob.load (by with_unfolding_all assumption) ?_); (conv => whnf)) | (apply Grows.mk; (first | exact Grow.refl _ | assumption); (conv => whnf)))))
    exact ⟨(k + 1, L.set k (-1)), ⟨rfl, rfl, congrArg (fun z => some (Value.int .i64 z)) (w_succ (by omega)), trivial⟩, ⟨g3.but_new k4 (by omega), o4, by simp [hL], by show 1 ≤ k + 1; omega, by show k + 1 ≤ _; omega, by rw [List.getElem?_set_ne (by omega)]; exact hz, rep_set hL hkn hm⟩, by show _ - (k + 1) < _ - k; omega⟩
  have d1 : decide ((k : Int) < (c.ins.length : Int)) = false := decide_eq_false (by omega)
  have hkn' : k = c.ins.length := by omega
  subst hkn'
  have hinv : Inv c L := ⟨hL, hz, fun i d h => by
    by_cases hi : i = 0
    · subst hi
      rw [hz] at h
      simp only [Option.some.injEq] at h
      subst h
      exact .inr ⟨Int.le_refl _, .start⟩
    · rw [hm i (by omega) (by have := lt_of_get h; omega)] at h
      simp only [Option.some.injEq] at h
      exact .inl h.symm⟩
  have hc0 := cnt_first hz
  (try (conv => whnf)); (repeat ((fail_if_success (with_reducible refine And.intro ?_ ?_)); (fail_if_success (with_reducible refine Exists.intro ?_ ?_)); (first | (apply Ob.of; (first | with_reducible assumption | with_reducible exact ex20 _ _ | with_reducible exact ex21 _ _ | with_reducible exact ex30 _ _ _ | with_reducible exact ex31 _ _ _ | with_reducible exact ex32 _ _ _ | rfl | (exact ald rfl rfl (by assumption) rfl) | (exact ald_agg rfl rfl rfl (by assumption) rfl)); (conv => whnf)) | (apply bIf.yes; (first | assumption | rfl); (conv => whnf)) | (apply bIf.no; (first | assumption | rfl); (conv => whnf)) | ((with_reducible refine Ob.load (by with_unfolding_all assumption) ?_); (conv => whnf)) | (apply Grows.mk; (first | exact Grow.refl _ | assumption); (conv => whnf)))))
  refine SW.loop (α := Nat × Bool × List Int) (fun y => [(1, .pointer (some ⟨q1, 0, none⟩)), (4, rowV q c.ins.length), (6, .bool y.2.1), (7, .int .i64 (y.1 : Int))]) (fun y H' => RI c H1 q y.2.2 H' ∧ y.1 ≤ c.ins.length + 1 ∧ (y.2.1 = true → cnt y.2.2 + y.1 + 1 ≤ c.ins.length) ∧ (y.2.1 = false → ∀ i, Fine c y.2.2 i)) (fun y => c.ins.length + 1 - y.1)
    ⟨(0, true, L), ⟨rfl, rfl, rfl, rfl, trivial⟩, ⟨g3, o3, hinv⟩, by show 0 ≤ _; omega, fun _ => by show cnt L + 0 + 1 ≤ _; omega, fun h => by simp at h⟩ ?_
  clear hc0 hinv hm hz hL o3 g3 hk1 hk2 hkn b3 hlen3 d1 L H3 o2 g2 H2 hlen1
  rintro ⟨turn, gr, L⟩ H3 ⟨⟨g3, o3, hv⟩, htn, hgt, hgf⟩
  dsimp only at g3 o3 hv htn hgt hgf ⊢
  refine bC_sound _ _ _ _ ?_
  have b3 := g3.hblk b1
  have hlen3 := hlen H3
  cases gr with
  | false =>
    have hcl : Closed c L := ⟨hv, hgf rfl⟩
    (try (conv => whnf)); (repeat' ((fail_if_success (with_reducible refine And.intro ?_ ?_)); (fail_if_success (with_reducible refine Exists.intro ?_ ?_)); (first | (first | (apply Ob.of; (first | with_reducible assumption | with_reducible exact ex20 _ _ | with_reducible exact ex21 _ _ | with_reducible exact ex30 _ _ _ | with_reducible exact ex31 _ _ _ | with_reducible exact ex32 _ _ _ | rfl | (exact ald rfl rfl (by assumption) rfl) | (exact ald_agg rfl rfl rfl (by assumption) rfl)); (conv => whnf)) | (apply bIf.yes; (first | assumption | rfl); (conv => whnf)) | (apply bIf.no; (first | assumption | rfl); (conv => whnf)) | ((with_reducible refine Ob.load (by with_unfolding_all assumption) ?_); (conv => whnf)) | (apply Grows.mk; (first | exact Grow.refl _ | assumption); (conv => whnf))) | (apply bIf.of <;> intro hc <;> (conv => whnf)))))
    all_goals exact ⟨some L, hcl, ⟨q, by rw [hv.len]; rfl, o3⟩, g1.trans g3⟩
  | true =>
    replace hgt := hgt rfl
    have d1 : decide ((turn : Int) ≤ (c.ins.length : Int)) = true := decide_eq_true (by omega)
    (try (conv => whnf)); (repeat ((fail_if_success (with_reducible refine And.intro ?_ ?_)); (fail_if_success (with_reducible refine Exists.intro ?_ ?_)); (first | (apply Ob.of; (first | with_reducible assumption | with_reducible exact ex20 _ _ | with_reducible exact ex21 _ _ | with_reducible exact ex30 _ _ _ | with_reducible exact ex31 _ _ _ | with_reducible exact ex32 _ _ _ | rfl | (exact ald rfl rfl (by assumption) rfl) | (exact ald_agg rfl rfl rfl (by assumption) rfl)); (conv => whnf)) | (apply bIf.yes; (first | assumption | rfl); (conv => whnf)) | (apply bIf.no; (first | assumption | rfl); (conv => whnf)) | ((with_reducible refine Ob.load (by with_unfolding_all assumption) ?_); (conv => whnf)) | (apply Grows.mk; (first | exact Grow.refl _ | assumption); (conv => whnf)))))
    refine SW.loop (α := Nat × Bool × List Int) (fun y => [(1, .pointer (some ⟨q1, 0, none⟩)), (4, rowV q c.ins.length), (6, .bool y.2.1), (7, .int .i64 (turn : Int)), (8, .int .i64 (y.1 : Int))]) (fun y H' => RI c H1 q y.2.2 H' ∧ y.1 ≤ c.ins.length ∧ (y.2.1 = true → cnt y.2.2 + turn + 2 ≤ c.ins.length) ∧ (y.2.1 = false → cnt y.2.2 + turn + 1 ≤ c.ins.length ∧ ∀ i, i < y.1 → Fine c y.2.2 i)) (fun y => c.ins.length - y.1)
      ⟨(0, false, L), ⟨rfl, rfl, rfl, rfl, rfl, trivial⟩, ⟨g3, o3, hv⟩, by show 0 ≤ _; omega, fun h => by simp at h, fun _ => ⟨hgt, fun i h => by dsimp only at h; omega⟩⟩ ?_
    have htn' : turn + 1 ≤ c.ins.length := by omega
    clear d1 hlen3 b3 hgt hgf hv o3 g3
    rintro ⟨i0, gr, L⟩ H3 ⟨⟨g3, o3, hv⟩, hi0, hgt, hgf⟩
    dsimp only at g3 o3 hv hi0 hgt hgf ⊢
    refine bC_sound _ _ _ _ ?_
    have b3 := g3.hblk b1
    have hlen3 := hlen H3
    by_cases hi : i0 < c.ins.length
    · have d1 : decide ((i0 : Int) < (c.ins.length : Int)) = true := decide_eq_true (by omega)
      obtain ⟨d, hd⟩ := get_lt (L := L) (m := i0) (by rw [hv.len]; exact hi)
      obtain ⟨x, hx⟩ := get_lt hi
      have hqi : aindexAddr Try.prog 36 (rowV q c.ins.length) (.int .i64 (i0 : Int)) = some (.pointer (some ⟨q, i0, none⟩)) := own_idx hi
      have hql := own_ld o3 hd
      have ws : IntKind.i64.wrap ((i0 : Int) + 1) = ((i0 + 1 : Nat) : Int) := w_succ (by omega)
      by_cases hd0 : d < 0
      · have d2 : decide (d < 0) = true := decide_eq_true hd0
        (try (conv => whnf)); (repeat ((fail_if_success (with_reducible refine And.intro ?_ ?_)); (fail_if_success (with_reducible refine Exists.intro ?_ ?_)); (first | (apply Ob.of; (first | with_reducible assumption | with_reducible exact ex20 _ _ | with_reducible exact ex21 _ _ | with_reducible exact ex30 _ _ _ | with_reducible exact ex31 _ _ _ | with_reducible exact ex32 _ _ _ | rfl | (exact ald rfl rfl (by assumption) rfl) | (exact ald_agg rfl rfl rfl (by assumption) rfl)); (conv => whnf)) | (apply bIf.yes; (first | assumption | rfl); (conv => whnf)) | (apply bIf.no; (first | assumption | rfl); (conv => whnf)) | ((with_reducible refine Ob.load (by with_unfolding_all assumption) ?_); (conv => whnf)) | (apply Grows.mk; (first | exact Grow.refl _ | assumption); (conv => whnf)))))
        refine ⟨(i0 + 1, gr, L), ⟨rfl, rfl, rfl, rfl, congrArg (fun z => some (Value.int .i64 z)) ws, trivial⟩, ⟨⟨g3, o3, hv⟩, hi, hgt, fun h => ⟨(hgf h).1, fun i hlt => ?_⟩⟩, by show _ - (i0 + 1) < _ - i0; omega⟩
        by_cases hii : i = i0
        · subst hii
          intro d' x' h1 h2
          rw [hd] at h1
          simp only [Option.some.injEq] at h1
          omega
        · exact (hgf h).2 i (by dsimp only at hlt; omega)
      · have d2 : decide (d < 0) = false := decide_eq_false hd0
        have hr : Reach c i0 d := by
          rcases hv.val i0 d hd with h | h
          · omega
          · exact h.2
        obtain ⟨bi, i2, i3⟩ := ld_ins hs hx
        have i4 := i3 H3 (g1.trans g3)
        have hpp := pops_le x
        have hpu := pushes_le x
        change 0 ≤ (eff x.1 x.2.1).1 ∧ (eff x.1 x.2.1).1 ≤ 8 at hpp
        change 0 ≤ (eff x.1 x.2.1).2 ∧ (eff x.1 x.2.1).2 ≤ 2 at hpu
        (try (conv => whnf)); (repeat ((fail_if_success (with_reducible refine And.intro ?_ ?_)); (fail_if_success (with_reducible refine Exists.intro ?_ ?_)); (first | (apply Ob.of; (first | with_reducible assumption | with_reducible exact ex20 _ _ | with_reducible exact ex21 _ _ | with_reducible exact ex30 _ _ _ | with_reducible exact ex31 _ _ _ | with_reducible exact ex32 _ _ _ | rfl | (exact ald rfl rfl (by assumption) rfl) | (exact ald_agg rfl rfl rfl (by assumption) rfl)); (conv => whnf)) | (apply bIf.yes; (first | assumption | rfl); (conv => whnf)) | (apply bIf.no; (first | assumption | rfl); (conv => whnf)) | ((with_reducible refine Ob.load (by with_unfolding_all assumption) ?_); (conv => whnf)) | (apply Grows.mk; (first | exact Grow.refl _ | assumption); (conv => whnf)))))
        refine (reffect_ax _ _ _ _).mono ?_
        rintro _ X ⟨rfl, e⟩
        subst X
        (try (conv => whnf)); (repeat ((fail_if_success (with_reducible refine And.intro ?_ ?_)); (fail_if_success (with_reducible refine Exists.intro ?_ ?_)); (first | (apply Ob.of; (first | with_reducible assumption | with_reducible exact ex20 _ _ | with_reducible exact ex21 _ _ | with_reducible exact ex30 _ _ _ | with_reducible exact ex31 _ _ _ | with_reducible exact ex32 _ _ _ | rfl | (exact ald rfl rfl (by assumption) rfl) | (exact ald_agg rfl rfl rfl (by assumption) rfl)); (conv => whnf)) | (apply bIf.yes; (first | assumption | rfl); (conv => whnf)) | (apply bIf.no; (first | assumption | rfl); (conv => whnf)) | ((with_reducible refine Ob.load (by with_unfolding_all assumption) ?_); (conv => whnf)) | (apply Grows.mk; (first | exact Grow.refl _ | assumption); (conv => whnf)))))
        apply SW.drawG [(0, [], [60, 63], false), (1, [], [59, 63], false), (2, [(59, 0), (60, 1)], [59, 60, 63], false), (3, [(59, 0), (60, 1), (61, 2)], [59, 60, 61, 63], false), (4, [], [59, 60, 61, 62], false), (5, [(59, 0), (60, 1), (61, 2), (62, 3), (63, 4)], [59, 60, 61, 62, 63], false), (6, [(59, 0), (60, 1), (61, 2), (62, 3), (63, 4), (64, 5)], [59, 60, 61, 62, 63, 64], false), (7, [(59, 0), (60, 1), (61, 2), (62, 3), (63, 4), (64, 5), (65, 6)], [59, 60, 61, 62, 63, 64, 65, 67, 70, 71], false), (8, [(59, 0), (60, 1), (61, 2), (62, 3), (63, 4), (64, 5), (65, 6)], [59, 60, 61, 62, 63, 64, 65, 66, 70, 71], false), (9, [(59, 0), (60, 1), (61, 2), (62, 3), (63, 4), (64, 5), (65, 6), (66, 7), (67, 8)], [59, 60, 61, 62, 63, 64, 65, 66, 67, 70, 71], false), (10, [(59, 0), (60, 1), (61, 2), (62, 3), (63, 4), (64, 5), (65, 6), (66, 7), (67, 8), (68, 9)], [59, 60, 61, 62, 63, 64, 65, 66, 67, 68, 70, 71], false), (11, [(59, 0), (60, 1), (61, 2), (62, 3), (63, 4), (64, 5), (65, 6)], [59, 60, 61, 62, 63, 64, 65, 66, 67, 68, 69], false), (12, [(59, 0), (60, 1), (61, 2), (62, 3), (63, 4), (64, 5), (65, 6), (70, 11)], [59, 60, 61, 62, 63, 64, 65, 66, 67, 68, 69, 70], false), (13, [(59, 0), (60, 1), (61, 2), (62, 3), (63, 4), (64, 5), (65, 6), (66, 7), (67, 8), (68, 9), (69, 10), (70, 11), (71, 12)], [59, 60, 61, 62, 63, 64, 65, 66, 67, 68, 69, 70, 71], false), (14, [(59, 0), (60, 1), (61, 2), (62, 3), (63, 4), (64, 5), (65, 6), (66, 7), (67, 8), (68, 9), (69, 10), (70, 11), (71, 12), (72, 13)], [59, 60, 61, 62, 63, 64, 65, 66, 67, 68, 69, 70, 71, 72], false)]
          [(59, 0), (60, 1), (61, 2), (62, 3), (63, 4), (64, 5), (65, 6), (66, 7), (67, 8), (68, 9), (69, 10), (70, 11), (71, 12), (72, 13), (73, 14)]
          [(1, _), (4, _), (6, _), (7, _), (8, _), (9, _), (10, _)] rfl (by kernel_rfl)
        case hF => exact ⟨rfl, rfl, rfl, rfl, rfl, rfl, rfl, trivial⟩
        (try (conv => whnf)); (repeat' ((fail_if_success (with_reducible refine And.intro ?_ ?_)); (fail_if_success (with_reducible refine Exists.intro ?_ ?_)); (first | (first | (apply Ob.of; (first | with_reducible assumption | with_reducible exact ex20 _ _ | with_reducible exact ex21 _ _ | with_reducible exact ex30 _ _ _ | with_reducible exact ex31 _ _ _ | with_reducible exact ex32 _ _ _ | rfl | (exact ald rfl rfl (by assumption) rfl) | (exact ald_agg rfl rfl rfl (by assumption) rfl)); (conv => whnf)) | (apply bIf.yes; (first | assumption | rfl); (conv => whnf)) | (apply bIf.no; (first | assumption | rfl); (conv => whnf)) | ((with_reducible refine Ob.load (by with_unfolding_all assumption) ?_); (conv => whnf)) | (apply Grows.mk; (first | exact Grow.refl _ | assumption); (conv => whnf))) | (apply bIf.of <;> intro hc <;> (conv => whnf)))))
        · exact ⟨none, .inl ⟨i0, d, x, hr, hx, .inl (of_decide_eq_true hc)⟩, rfl, g1.trans g3⟩
        · exact ⟨none, .inl ⟨i0, d, x, hr, hx, .inr (.inl (of_decide_eq_true hc))⟩, rfl, g1.trans g3⟩
        have hdd : d ≤ c.deep := by have := of_decide_eq_false hc; show d ≤ c.2.2.2.1; omega
        clear hc
        have hpd : pops x ≤ d := by have := of_decide_eq_false hc; unfold pops; omega
        clear hc hql
        refine (rtargets_ax (insR.grow hs (g1.trans g3)) (i0 : Int)).mono ?_
        rintro tv H5 ⟨hT, g5⟩
        have o5 : OwnI H5 q L := g5.at o3
        have hq2 : q < H3.length := lt_at o3
        have hTl := tgt_len ha i0
        (try (conv => whnf)); (repeat ((fail_if_success (with_reducible refine And.intro ?_ ?_)); (fail_if_success (with_reducible refine Exists.intro ?_ ?_)); (first | (apply Ob.of; (first | with_reducible assumption | with_reducible exact ex20 _ _ | with_reducible exact ex21 _ _ | with_reducible exact ex30 _ _ _ | with_reducible exact ex31 _ _ _ | with_reducible exact ex32 _ _ _ | rfl | (exact ald rfl rfl (by assumption) rfl) | (exact ald_agg rfl rfl rfl (by assumption) rfl)); (conv => whnf)) | (apply bIf.yes; (first | assumption | rfl); (conv => whnf)) | (apply bIf.no; (first | assumption | rfl); (conv => whnf)) | ((with_reducible refine Ob.load (by with_unfolding_all assumption) ?_); (conv => whnf)) | (apply Grows.mk; (first | exact Grow.refl _ | assumption); (conv => whnf)))))
        refine SW.loop (α := Nat × Bool × List Int) (fun y => [(1, .pointer (some ⟨q1, 0, none⟩)), (4, rowV q c.ins.length), (6, .bool y.2.1), (7, .int .i64 (turn : Int)), (8, .int .i64 (i0 : Int)), (9, .int .i64 (eff x.1 x.2.1).1), (10, .int .i64 (eff x.1 x.2.1).2), (11, tv), (12, .int .i64 (y.1 : Int))])
          (fun y H' => (But q H5 H' ∧ OwnI H' q y.2.2 ∧ Inv c y.2.2 ∧ y.2.2[i0]? = some d) ∧ y.1 ≤ (tgt c.ins (i0 : Int)).length ∧ (y.2.1 = true → cnt y.2.2 + turn + 2 ≤ c.ins.length) ∧
            (y.2.1 = false → cnt y.2.2 + turn + 1 ≤ c.ins.length ∧ (∀ i, i < i0 → Fine c y.2.2 i) ∧ ∀ (k : Nat) (t : Int), k < y.1 → (tgt c.ins (i0 : Int))[k]? = some t → t < c.ins.length ∧ nd x d k ≤ c.deep ∧ y.2.2[t.toNat]? = some (nd x d k))) (fun y => (tgt c.ins (i0 : Int)).length - y.1)
          ⟨(0, gr, L), ⟨rfl, rfl, rfl, rfl, rfl, rfl, rfl, rfl, rfl, trivial⟩, ⟨.refl _ _, o5, hv, hd⟩, by show 0 ≤ _; omega, hgt, fun h => ⟨(hgf h).1, (hgf h).2, fun k t hk => by dsimp only at hk; omega⟩⟩ ?_
        clear hgt hgf hd hv o5 i4 hqi d1 d2 hi0 b3 hlen3
        have o3' : q < H3.length := hq2
        clear o3
        rintro ⟨j, gr, L⟩ H6 ⟨⟨k6, o6, hv, hd⟩, hj, hgt, hgf⟩
        dsimp only at k6 o6 hv hd hj hgt hgf ⊢
        refine bC_sound _ _ _ _ ?_
        have gH6 : Grow H1 H6 := (g3.trans g5).but_new k6 (by omega)
        have n0 := hT.len H6
        have ws6 : IntKind.i64.wrap ((j : Int) + 1) = ((j + 1 : Nat) : Int) := by
          have := tgt_len ha i0
          exact w_succ (by omega)
        by_cases hjl : j < (tgt c.ins (i0 : Int)).length
        · have dj : decide ((j : Int) < ((tgt c.ins (i0 : Int)).length : Int)) = true := decide_eq_true (by omega)
          obtain ⟨t, ht⟩ := get_lt hjl
          obtain ⟨pb, p1, p2, p3, p4⟩ := hT.at ht
          have p5 := p4 H6 (k6.2 pb p2 (by omega))
          have b6 := gH6.hblk b1
          have hlen6 := hlen H6
          have hqi : aindexAddr Try.prog 36 (rowV q c.ins.length) (.int .i64 (i0 : Int)) = some (.pointer (some ⟨q, i0, none⟩)) := own_idx hi
          have hql6 := own_ld o6 hd
          have i6 := ld_op hs hx i2 H6 (g1.trans gH6)
          obtain ⟨tn, htn⟩ : ∃ tn : Nat, t = (tn : Int) := ⟨t.toNat, by have := (tgt_nonneg ha ht).1; omega⟩
          subst htn
          have hnd := nd_le (k := j) hpd
          have hw : IntKind.i64.wrap (IntKind.i64.wrap (d - (eff x.1 x.2.1).1) + (eff x.1 x.2.1).2) = d - pops x + pushes x := by
            have := ha.2.2.2.1
            rw [wrap_i64 (n := d - (eff x.1 x.2.1).1) (by omega) (by omega), wrap_i64 (by omega) (by omega)]; rfl
          have hw1 : IntKind.i64.wrap (d - pops x + pushes x + 1) = d - pops x + pushes x + 1 := by
            have := ha.2.2.2.1
            have := pops_le x
            have := pushes_le x
            rw [wrap_i64 (by omega) (by omega)]
          by_cases htl : tn < c.ins.length
          · have dt : decide ((tn : Int) ≥ (c.ins.length : Int)) = false := decide_eq_false (by omega)
            obtain ⟨e, he⟩ := get_lt (L := L) (m := tn) (by rw [hv.len]; exact htl)
            have hti : aindexAddr Try.prog 36 (rowV q c.ins.length) (.int .i64 (tn : Int)) = some (.pointer (some ⟨q, tn, none⟩)) := own_idx htl
            have htl6 := own_ld o6 he
            have hre : 0 ≤ e → Reach c tn e := fun h => by
              rcases hv.val tn e he with h1 | h1
              · omega
              · exact h1.2
            have rnd : nd x d j ≤ c.deep → Reach c tn (nd x d j) := fun h => by
              have := Reach.step hr hx hpd hdd ht (by omega) h
              rwa [Int.toNat_natCast] at this
            have hcase : (((j : Int) == 1) = false ∧ nd x d j = d - pops x + pushes x) ∨ (((j : Int) == 1) = true ∧ decide (x.1 > 23) = true ∧ nd x d j = d - pops x + pushes x + 1) ∨ (((j : Int) == 1) = true ∧ decide (x.1 > 23) = false ∧ nd x d j = d - pops x + pushes x) := by
              unfold nd
              simp only [decide_eq_true_eq, decide_eq_false_iff_not, beq_iff_eq, beq_eq_false_iff_ne]
              by_cases h0 : j = 1
              · right
                subst h0
                have := tgt_one ha hx ht
                by_cases h24 : x.1 > 23
                · left; rw [if_pos (by omega)]; omega
                · right; rw [if_neg (by omega)]; omega
              · left; rw [if_neg (by omega)]; omega
            rcases hcase with ⟨z1, z2⟩ | ⟨z1, z3, z2⟩ | ⟨z1, z3, z2⟩
            all_goals (try (conv => whnf)); (repeat ((fail_if_success (with_reducible refine And.intro ?_ ?_)); (fail_if_success (with_reducible refine Exists.intro ?_ ?_)); (first | (apply Ob.of; (first | with_reducible assumption | with_reducible exact ex20 _ _ | with_reducible exact ex21 _ _ | with_reducible exact ex30 _ _ _ | with_reducible exact ex31 _ _ _ | with_reducible exact ex32 _ _ _ | rfl | (exact ald rfl rfl (by assumption) rfl) | (exact ald_agg rfl rfl rfl (by assumption) rfl)); (conv => whnf)) | (apply bIf.yes; (first | assumption | rfl); (conv => whnf)) | (apply bIf.no; (first | assumption | rfl); (conv => whnf)) | ((with_reducible refine Ob.load (by with_unfolding_all assumption) ?_); (conv => whnf)) | (apply Grows.mk; (first | exact Grow.refl _ | assumption); (conv => whnf)))))
            all_goals
              rw [hw]
              try rw [hw1]
              rw [← z2]
              apply SW.drawG [(0, [], [105, 108, 109, 110], false), (1, [], [104, 108, 109, 110], false), (2, [(104, 0), (105, 1)], [104, 105, 108, 109, 110], false), (3, [(104, 0), (105, 1), (106, 2)], [104, 105, 106, 108, 109, 110], false), (4, [], [104, 105, 106, 107], false), (5, [(108, 4)], [104, 105, 106, 107, 108], false), (6, [(108, 4), (109, 5)], [104, 105, 106, 107, 108, 109], false), (7, [(104, 0), (105, 1), (106, 2), (107, 3), (108, 4), (109, 5), (110, 6)], [104, 105, 106, 107, 108, 109, 110], false), (8, [(104, 0), (105, 1), (106, 2), (107, 3), (108, 4), (109, 5), (110, 6), (111, 7)], [104, 105, 106, 107, 108, 109, 110, 111], false), (9, [(104, 0), (105, 1), (106, 2), (107, 3), (108, 4), (109, 5), (110, 6), (111, 7), (112, 8)], [104, 105, 106, 107, 108, 109, 110, 111, 112, 114, 115], false), (10, [(104, 0), (105, 1), (106, 2), (107, 3), (108, 4), (109, 5), (110, 6), (111, 7), (112, 8)], [104, 105, 106, 107, 108, 109, 110, 111, 112, 113], false), (11, [(104, 0), (105, 1), (106, 2), (107, 3), (108, 4), (109, 5), (110, 6), (111, 7), (112, 8), (114, 10)], [104, 105, 106, 107, 108, 109, 110, 111, 112, 113, 114], false), (12, [(104, 0), (105, 1), (106, 2), (107, 3), (108, 4), (109, 5), (110, 6), (111, 7), (112, 8), (113, 9), (114, 10), (115, 11)], [104, 105, 106, 107, 108, 109, 110, 111, 112, 113, 114, 115], false), (13, [(104, 0), (105, 1), (106, 2), (107, 3), (108, 4), (109, 5), (110, 6), (111, 7), (112, 8), (113, 9), (114, 10), (115, 11), (116, 12)], [104, 105, 106, 107, 108, 109, 110, 111, 112, 113, 114, 115, 116], false), (14, [(104, 0), (105, 1), (106, 2), (107, 3), (108, 4), (109, 5), (110, 6), (111, 7), (112, 8), (113, 9), (114, 10), (115, 11), (116, 12), (117, 13)], [104, 105, 106, 107, 108, 109, 110, 111, 112, 113, 114, 115, 116, 117], false), (15, [(104, 0), (105, 1), (106, 2), (107, 3), (108, 4), (109, 5), (110, 6), (111, 7), (112, 8), (113, 9), (114, 10), (115, 11), (116, 12), (117, 13), (118, 14)], [104, 105, 106, 107, 108, 109, 110, 111, 112, 113, 114, 115, 116, 117, 118, 120, 121, 122, 123], false), (16, [(104, 0), (105, 1), (106, 2), (107, 3), (108, 4), (109, 5), (110, 6), (111, 7), (112, 8), (113, 9), (114, 10), (115, 11), (116, 12), (117, 13), (118, 14)], [104, 105, 106, 107, 108, 109, 110, 111, 112, 113, 114, 115, 116, 117, 118, 119, 121], false), (17, [(104, 0), (105, 1), (106, 2), (107, 3), (108, 4), (109, 5), (110, 6), (111, 7), (112, 8), (113, 9), (114, 10), (115, 11), (116, 12), (117, 13), (118, 14)], [104, 105, 106, 107, 108, 109, 110, 111, 112, 113, 114, 115, 116, 117, 118, 119, 120], false), (18, [(104, 0), (105, 1), (106, 2), (107, 3), (108, 4), (109, 5), (110, 6), (111, 7), (112, 8), (113, 9), (114, 10), (115, 11), (116, 12), (117, 13), (118, 14), (120, 16), (121, 17)], [104, 105, 106, 107, 108, 109, 110, 111, 112, 113, 114, 115, 116, 117, 118, 119, 120, 121], false), (19, [(104, 0), (105, 1), (106, 2), (107, 3), (108, 4), (109, 5), (110, 6), (111, 7), (112, 8), (113, 9), (114, 10), (115, 11), (116, 12), (117, 13), (118, 14), (120, 16), (121, 17), (122, 18)], [104, 105, 106, 107, 108, 109, 110, 111, 112, 113, 114, 115, 116, 117, 118, 119, 120, 121, 122], false), (20, [(104, 0), (105, 1), (106, 2), (107, 3), (108, 4), (109, 5), (110, 6), (111, 7), (112, 8), (113, 9), (114, 10), (115, 11), (116, 12), (117, 13), (118, 14), (119, 15), (120, 16), (121, 17), (122, 18), (123, 19)], [104, 105, 106, 107, 108, 109, 110, 111, 112, 113, 114, 115, 116, 117, 118, 119, 120, 121, 122, 123], false), (21, [(104, 0), (105, 1), (106, 2), (107, 3), (108, 4), (109, 5), (110, 6), (111, 7), (112, 8), (113, 9), (114, 10), (115, 11), (116, 12), (117, 13), (118, 14), (119, 15), (120, 16), (121, 17), (122, 18), (123, 19), (124, 20)], [104, 105, 106, 107, 108, 109, 110, 111, 112, 113, 114, 115, 116, 117, 118, 119, 120, 121, 122, 123, 124], false), (22, [(104, 0), (105, 1), (106, 2), (107, 3), (108, 4), (109, 5), (110, 6), (111, 7), (112, 8), (113, 9), (114, 10), (115, 11), (116, 12), (117, 13), (118, 14), (119, 15), (120, 16), (121, 17), (122, 18), (123, 19), (124, 20), (125, 21)], [104, 105, 106, 107, 108, 109, 110, 111, 112, 113, 114, 115, 116, 117, 118, 119, 120, 121, 122, 123, 124, 125], false), (23, [(104, 0), (105, 1), (106, 2), (107, 3), (108, 4), (109, 5), (110, 6), (111, 7), (112, 8), (113, 9), (114, 10), (115, 11), (116, 12), (117, 13), (118, 14), (119, 15), (120, 16), (121, 17), (122, 18), (123, 19), (124, 20), (125, 21), (126, 22)], [104, 105, 106, 107, 108, 109, 110, 111, 112, 113, 114, 115, 116, 117, 118, 119, 120, 121, 122, 123, 124, 125, 126], false), (24, [(104, 0), (105, 1), (106, 2), (107, 3), (108, 4), (109, 5), (110, 6), (111, 7), (112, 8), (113, 9), (114, 10), (115, 11), (116, 12), (117, 13), (118, 14), (119, 15), (120, 16), (121, 17), (122, 18), (123, 19), (124, 20), (125, 21), (126, 22), (127, 23)], [104, 105, 106, 107, 108, 109, 110, 111, 112, 113, 114, 115, 116, 117, 118, 119, 120, 121, 122, 123, 124, 125, 126, 127, 129, 130, 131, 132, 135], false), (25, [(104, 0), (105, 1), (106, 2), (107, 3), (108, 4), (109, 5), (110, 6), (111, 7), (112, 8), (113, 9), (114, 10), (115, 11), (116, 12), (117, 13), (118, 14), (119, 15), (120, 16), (121, 17), (122, 18), (123, 19), (124, 20), (125, 21), (126, 22), (127, 23)], [104, 105, 106, 107, 108, 109, 110, 111, 112, 113, 114, 115, 116, 117, 118, 119, 120, 121, 122, 123, 124, 125, 126, 127, 128, 130, 135], false), (26, [(104, 0), (105, 1), (106, 2), (107, 3), (108, 4), (109, 5), (110, 6), (111, 7), (112, 8), (113, 9), (114, 10), (115, 11), (116, 12), (117, 13), (118, 14), (119, 15), (120, 16), (121, 17), (122, 18), (123, 19), (124, 20), (125, 21), (126, 22), (127, 23)], [104, 105, 106, 107, 108, 109, 110, 111, 112, 113, 114, 115, 116, 117, 118, 119, 120, 121, 122, 123, 124, 125, 126, 127, 128, 129, 135], false), (27, [(104, 0), (105, 1), (106, 2), (107, 3), (108, 4), (109, 5), (110, 6), (111, 7), (112, 8), (113, 9), (114, 10), (115, 11), (116, 12), (117, 13), (118, 14), (119, 15), (120, 16), (121, 17), (122, 18), (123, 19), (124, 20), (125, 21), (126, 22), (127, 23), (129, 25), (130, 26)], [104, 105, 106, 107, 108, 109, 110, 111, 112, 113, 114, 115, 116, 117, 118, 119, 120, 121, 122, 123, 124, 125, 126, 127, 128, 129, 130, 135], false), (28, [(104, 0), (105, 1), (106, 2), (107, 3), (108, 4), (109, 5), (110, 6), (111, 7), (112, 8), (113, 9), (114, 10), (115, 11), (116, 12), (117, 13), (118, 14), (119, 15), (120, 16), (121, 17), (122, 18), (123, 19), (124, 20), (125, 21), (126, 22), (127, 23), (129, 25), (130, 26), (131, 27)], [104, 105, 106, 107, 108, 109, 110, 111, 112, 113, 114, 115, 116, 117, 118, 119, 120, 121, 122, 123, 124, 125, 126, 127, 128, 129, 130, 131, 135], false), (29, [(104, 0), (105, 1), (106, 2), (107, 3), (108, 4), (109, 5), (110, 6), (111, 7), (112, 8), (113, 9), (114, 10), (115, 11), (116, 12), (117, 13), (118, 14), (119, 15), (120, 16), (121, 17), (122, 18), (123, 19), (124, 20), (125, 21), (126, 22), (127, 23), (128, 24), (129, 25), (130, 26), (131, 27), (132, 28)], [104, 105, 106, 107, 108, 109, 110, 111, 112, 113, 114, 115, 116, 117, 118, 119, 120, 121, 122, 123, 124, 125, 126, 127, 128, 129, 130, 131, 132, 135], false), (30, [(104, 0), (105, 1), (106, 2), (107, 3), (108, 4), (109, 5), (110, 6), (111, 7), (112, 8), (113, 9), (114, 10), (115, 11), (116, 12), (117, 13), (118, 14), (119, 15), (120, 16), (121, 17), (122, 18), (123, 19), (124, 20), (125, 21), (126, 22), (127, 23), (128, 24), (129, 25), (130, 26), (131, 27), (132, 28), (133, 29)], [104, 105, 106, 107, 108, 109, 110, 111, 112, 113, 114, 115, 116, 117, 118, 119, 120, 121, 122, 123, 124, 125, 126, 127, 128, 129, 130, 131, 132, 133, 135], false), (31, [(104, 0), (105, 1), (106, 2), (107, 3), (108, 4), (109, 5), (110, 6), (111, 7), (112, 8), (113, 9), (114, 10), (115, 11), (116, 12), (117, 13), (118, 14), (119, 15), (120, 16), (121, 17), (122, 18), (123, 19), (124, 20), (125, 21), (126, 22), (127, 23)], [104, 105, 106, 107, 108, 109, 110, 111, 112, 113, 114, 115, 116, 117, 118, 119, 120, 121, 122, 123, 124, 125, 126, 127, 128, 129, 130, 131, 132, 133, 134], false), (32, [(104, 0), (105, 1), (106, 2), (107, 3), (108, 4), (109, 5), (110, 6), (111, 7), (112, 8), (113, 9), (114, 10), (115, 11), (116, 12), (117, 13), (118, 14), (119, 15), (120, 16), (121, 17), (122, 18), (123, 19), (124, 20), (125, 21), (126, 22), (127, 23), (128, 24), (129, 25), (130, 26), (131, 27), (132, 28), (133, 29), (134, 30), (135, 31)], [104, 105, 106, 107, 108, 109, 110, 111, 112, 113, 114, 115, 116, 117, 118, 119, 120, 121, 122, 123, 124, 125, 126, 127, 128, 129, 130, 131, 132, 133, 134, 135], false), (33, [(104, 0), (105, 1), (106, 2), (107, 3), (108, 4), (109, 5), (110, 6), (111, 7), (112, 8), (113, 9), (114, 10), (115, 11), (116, 12), (117, 13), (118, 14), (119, 15), (120, 16), (121, 17), (122, 18), (123, 19), (124, 20), (125, 21), (126, 22), (127, 23), (128, 24), (129, 25), (130, 26), (131, 27), (132, 28), (133, 29), (134, 30), (135, 31), (136, 32)], [104, 105, 106, 107, 108, 109, 110, 111, 112, 113, 114, 115, 116, 117, 118, 119, 120, 121, 122, 123, 124, 125, 126, 127, 128, 129, 130, 131, 132, 133, 134, 135, 136], false), (34, [(104, 0), (105, 1), (106, 2), (107, 3), (108, 4), (109, 5), (110, 6), (111, 7), (112, 8), (113, 9), (114, 10), (115, 11), (116, 12), (117, 13), (118, 14), (119, 15), (120, 16), (121, 17), (122, 18), (123, 19), (124, 20), (125, 21), (126, 22), (127, 23), (128, 24), (129, 25), (130, 26), (131, 27), (132, 28), (133, 29), (134, 30), (135, 31), (136, 32), (137, 33)], [104, 105, 106, 107, 108, 109, 110, 111, 112, 113, 114, 115, 116, 117, 118, 119, 120, 121, 122, 123, 124, 125, 126, 127, 128, 129, 130, 131, 132, 133, 134, 135, 136, 137], false)]
                [(104, 0), (105, 1), (106, 2), (107, 3), (108, 4), (109, 5), (110, 6), (111, 7), (112, 8), (113, 9), (114, 10), (115, 11), (116, 12), (117, 13), (118, 14), (119, 15), (120, 16), (121, 17), (122, 18), (123, 19), (124, 20), (125, 21), (126, 22), (127, 23), (128, 24), (129, 25), (130, 26), (131, 27), (132, 28), (133, 29), (134, 30), (135, 31), (136, 32), (137, 33), (138, 34)]
                [(1, _), (4, _), (6, _), (7, _), (8, _), (9, _), (10, _), (11, _), (12, _), (13, _)] rfl (by kernel_rfl)
              case hF => exact ⟨rfl, rfl, rfl, rfl, rfl, rfl, rfl, rfl, rfl, rfl, trivial⟩
              (try (conv => whnf)); (repeat' ((fail_if_success (with_reducible refine And.intro ?_ ?_)); (fail_if_success (with_reducible refine Exists.intro ?_ ?_)); (first | (first | (apply Ob.of; (first | with_reducible assumption | with_reducible exact ex20 _ _ | with_reducible exact ex21 _ _ | with_reducible exact ex30 _ _ _ | with_reducible exact ex31 _ _ _ | with_reducible exact ex32 _ _ _ | rfl | (exact ald rfl rfl (by assumption) rfl) | (exact ald_agg rfl rfl rfl (by assumption) rfl)); (conv => whnf)) | (apply bIf.yes; (first | assumption | rfl); (conv => whnf)) | (apply bIf.no; (first | assumption | rfl); (conv => whnf)) | ((with_reducible refine Ob.load (by with_unfolding_all assumption) ?_); (conv => whnf)) | (apply Grows.mk; (first | exact Grow.refl _ | assumption); (conv => whnf))) | (apply bIf.of <;> intro hc <;> (conv => whnf)))))
            all_goals first
              | (refine ⟨none, .inl ⟨i0, d, x, hr, hx, .inr (.inr ⟨j, _, ht, .inr ?_⟩)⟩, rfl, g1.trans gH6⟩; exact of_decide_eq_true hc)
              | (refine ⟨none, .inr ⟨tn, e, nd x d j, hre ?_, rnd ?_, ?_⟩, rfl, g1.trans gH6⟩ <;> (clear b6 hql6 htl6 hti p5 hlen6 hT p3 p4 n0 o6 i6 hqi; (simp only [ba_ne_t, ba_ne_f, ba_eq_t, ba_eq_f, bne_iff_ne, bne_eq_false_iff_eq, decide_eq_true_eq, decide_eq_false_iff_not, beq_iff_eq, beq_eq_false_iff_ne, ne_eq, Bool.not_eq_true, Bool.not_eq_false, Bool.not_eq_true', Bool.not_eq_false'] at *); show _; first | assumption | (simp only [CodeT.deep] at *; omega)))
              | (exfalso; clear b6 hql6 htl6 hti p5 hlen6 hT p3 p4 n0 o6 i6 hqi; (simp only [ba_ne_t, ba_ne_f, ba_eq_t, ba_eq_f, bne_iff_ne, bne_eq_false_iff_eq, decide_eq_true_eq, decide_eq_false_iff_not, beq_iff_eq, beq_eq_false_iff_ne, ne_eq, Bool.not_eq_true, Bool.not_eq_false, Bool.not_eq_true', Bool.not_eq_false'] at *); omega)
              | skip
            all_goals have hnd1 : nd x d j ≤ c.deep := by clear b6 hql6 htl6 hti p5 hlen6 hT p3 p4 n0 o6 i6 hqi; (simp only [ba_ne_t, ba_ne_f, ba_eq_t, ba_eq_f, bne_iff_ne, bne_eq_false_iff_eq, decide_eq_true_eq, decide_eq_false_iff_not, beq_iff_eq, beq_eq_false_iff_ne, ne_eq, Bool.not_eq_true, Bool.not_eq_false, Bool.not_eq_true', Bool.not_eq_false'] at *); simp only [CodeT.deep] at *; omega
            all_goals rcases Int.lt_or_le e 0 with he0 | he0
            all_goals first
              | (exfalso; clear b6 hql6 htl6 hti p5 hlen6 hT p3 p4 n0 o6 i6 hqi; (simp only [ba_ne_t, ba_ne_f, ba_eq_t, ba_eq_f, bne_iff_ne, bne_eq_false_iff_eq, decide_eq_true_eq, decide_eq_false_iff_not, beq_iff_eq, beq_eq_false_iff_ne, ne_eq, Bool.not_eq_true, Bool.not_eq_false, Bool.not_eq_true', Bool.not_eq_false'] at *); omega)
              | skip
            all_goals refine Ob.storeI o6 (by rw [hv.len]; exact htl) fun H7 o7 k7 l7 => ?_
            all_goals (try (conv => whnf)); (repeat ((fail_if_success (with_reducible refine And.intro ?_ ?_)); (fail_if_success (with_reducible refine Exists.intro ?_ ?_)); (first | (apply Ob.of; (first | with_reducible assumption | with_reducible exact ex20 _ _ | with_reducible exact ex21 _ _ | with_reducible exact ex30 _ _ _ | with_reducible exact ex31 _ _ _ | with_reducible exact ex32 _ _ _ | rfl | (exact ald rfl rfl (by assumption) rfl) | (exact ald_agg rfl rfl rfl (by assumption) rfl)); (conv => whnf)) | (apply bIf.yes; (first | assumption | rfl); (conv => whnf)) | (apply bIf.no; (first | assumption | rfl); (conv => whnf)) | ((with_reducible refine Ob.load (by with_unfolding_all assumption) ?_); (conv => whnf)) | (apply Grows.mk; (first | exact Grow.refl _ | assumption); (conv => whnf)))))
            all_goals first
              | (have he2 : e = nd x d j := by clear b6 hql6 htl6 hti p5 hlen6 hT p3 p4 n0 o6 i6 hqi; (simp only [ba_ne_t, ba_ne_f, ba_eq_t, ba_eq_f, bne_iff_ne, bne_eq_false_iff_eq, decide_eq_true_eq, decide_eq_false_iff_not, beq_iff_eq, beq_eq_false_iff_ne, ne_eq, Bool.not_eq_true, Bool.not_eq_false, Bool.not_eq_true', Bool.not_eq_false'] at *); omega
                 rw [set_same (he2 ▸ he)] at o7
                 refine ⟨(j + 1, gr, L), ⟨rfl, rfl, rfl, rfl, rfl, rfl, rfl, rfl, congrArg (fun z => some (Value.int .i64 z)) ws6, trivial⟩, ⟨⟨k6.trans k7, o7, hv, hd⟩, by show j + 1 ≤ _; omega, hgt, fun h => ⟨(hgf h).1, (hgf h).2.1, ?_⟩⟩, by show _ - (j + 1) < _ - j; omega⟩
                 intro k t' hk ht'
                 by_cases hkj : k = j
                 · subst hkj
                   rw [ht] at ht'
                   simp only [Option.some.injEq] at ht'
                   subst ht'
                   refine ⟨by omega, hnd1, ?_⟩
                   rw [Int.toNat_natCast, he, he2]
                 · exact (hgf h).2.2 k t' (by dsimp only at hk; omega) ht')
              | skip
            all_goals
              have he1 : L[tn]? = some (-1) := by
                rcases hv.val tn e he with h1 | h1
                · rw [he, h1]
                · omega
              have c9 := cnt_set he1 hnd.1
              have hgc : cnt L + turn + 1 ≤ c.ins.length := by
                cases gr with
                | true => have := hgt rfl; omega
                | false => exact (hgf rfl).1
              refine ⟨(j + 1, true, L.set tn (nd x d j)), ⟨rfl, rfl, rfl, rfl, rfl, rfl, rfl, rfl, congrArg (fun z => some (Value.int .i64 z)) ws6, trivial⟩, ⟨⟨k6.trans k7, o7, hv.mark he1 (rnd hnd1), ?_⟩, by show j + 1 ≤ _; omega, fun _ => by show cnt (L.set tn (nd x d j)) + turn + 2 ≤ _; omega, fun h => by simp at h⟩, by show _ - (j + 1) < _ - j; omega⟩
              rw [List.getElem?_set_ne]; exact hd
              intro h; subst h; rw [hd] at he1; simp only [Option.some.injEq] at he1; omega
          · have dt : decide ((tn : Int) ≥ (c.ins.length : Int)) = true := decide_eq_true (by omega)
            (try (conv => whnf)); (repeat' ((fail_if_success (with_reducible refine And.intro ?_ ?_)); (fail_if_success (with_reducible refine Exists.intro ?_ ?_)); (first | (first | (apply Ob.of; (first | with_reducible assumption | with_reducible exact ex20 _ _ | with_reducible exact ex21 _ _ | with_reducible exact ex30 _ _ _ | with_reducible exact ex31 _ _ _ | with_reducible exact ex32 _ _ _ | rfl | (exact ald rfl rfl (by assumption) rfl) | (exact ald_agg rfl rfl rfl (by assumption) rfl)); (conv => whnf)) | (apply bIf.yes; (first | assumption | rfl); (conv => whnf)) | (apply bIf.no; (first | assumption | rfl); (conv => whnf)) | ((with_reducible refine Ob.load (by with_unfolding_all assumption) ?_); (conv => whnf)) | (apply Grows.mk; (first | exact Grow.refl _ | assumption); (conv => whnf))) | (apply bIf.of <;> intro hc <;> (conv => whnf)))))
            all_goals
              apply SW.drawG [(0, [], [105, 108, 109, 110], false), (1, [], [104, 108, 109, 110], false), (2, [(104, 0), (105, 1)], [104, 105, 108, 109, 110], false), (3, [(104, 0), (105, 1), (106, 2)], [104, 105, 106, 108, 109, 110], false), (4, [], [104, 105, 106, 107], false), (5, [(108, 4)], [104, 105, 106, 107, 108], false), (6, [(108, 4), (109, 5)], [104, 105, 106, 107, 108, 109], false), (7, [(104, 0), (105, 1), (106, 2), (107, 3), (108, 4), (109, 5), (110, 6)], [104, 105, 106, 107, 108, 109, 110], false), (8, [(104, 0), (105, 1), (106, 2), (107, 3), (108, 4), (109, 5), (110, 6), (111, 7)], [104, 105, 106, 107, 108, 109, 110, 111], false), (9, [(104, 0), (105, 1), (106, 2), (107, 3), (108, 4), (109, 5), (110, 6), (111, 7), (112, 8)], [104, 105, 106, 107, 108, 109, 110, 111, 112, 114, 115], false), (10, [(104, 0), (105, 1), (106, 2), (107, 3), (108, 4), (109, 5), (110, 6), (111, 7), (112, 8)], [104, 105, 106, 107, 108, 109, 110, 111, 112, 113], false), (11, [(104, 0), (105, 1), (106, 2), (107, 3), (108, 4), (109, 5), (110, 6), (111, 7), (112, 8), (114, 10)], [104, 105, 106, 107, 108, 109, 110, 111, 112, 113, 114], false), (12, [(104, 0), (105, 1), (106, 2), (107, 3), (108, 4), (109, 5), (110, 6), (111, 7), (112, 8), (113, 9), (114, 10), (115, 11)], [104, 105, 106, 107, 108, 109, 110, 111, 112, 113, 114, 115], false), (13, [(104, 0), (105, 1), (106, 2), (107, 3), (108, 4), (109, 5), (110, 6), (111, 7), (112, 8), (113, 9), (114, 10), (115, 11), (116, 12)], [104, 105, 106, 107, 108, 109, 110, 111, 112, 113, 114, 115, 116], false), (14, [(104, 0), (105, 1), (106, 2), (107, 3), (108, 4), (109, 5), (110, 6), (111, 7), (112, 8), (113, 9), (114, 10), (115, 11), (116, 12), (117, 13)], [104, 105, 106, 107, 108, 109, 110, 111, 112, 113, 114, 115, 116, 117], false), (15, [(104, 0), (105, 1), (106, 2), (107, 3), (108, 4), (109, 5), (110, 6), (111, 7), (112, 8), (113, 9), (114, 10), (115, 11), (116, 12), (117, 13), (118, 14)], [104, 105, 106, 107, 108, 109, 110, 111, 112, 113, 114, 115, 116, 117, 118, 120, 121, 122, 123], false), (16, [(104, 0), (105, 1), (106, 2), (107, 3), (108, 4), (109, 5), (110, 6), (111, 7), (112, 8), (113, 9), (114, 10), (115, 11), (116, 12), (117, 13), (118, 14)], [104, 105, 106, 107, 108, 109, 110, 111, 112, 113, 114, 115, 116, 117, 118, 119, 121], false), (17, [(104, 0), (105, 1), (106, 2), (107, 3), (108, 4), (109, 5), (110, 6), (111, 7), (112, 8), (113, 9), (114, 10), (115, 11), (116, 12), (117, 13), (118, 14)], [104, 105, 106, 107, 108, 109, 110, 111, 112, 113, 114, 115, 116, 117, 118, 119, 120], false), (18, [(104, 0), (105, 1), (106, 2), (107, 3), (108, 4), (109, 5), (110, 6), (111, 7), (112, 8), (113, 9), (114, 10), (115, 11), (116, 12), (117, 13), (118, 14), (120, 16), (121, 17)], [104, 105, 106, 107, 108, 109, 110, 111, 112, 113, 114, 115, 116, 117, 118, 119, 120, 121], false), (19, [(104, 0), (105, 1), (106, 2), (107, 3), (108, 4), (109, 5), (110, 6), (111, 7), (112, 8), (113, 9), (114, 10), (115, 11), (116, 12), (117, 13), (118, 14), (120, 16), (121, 17), (122, 18)], [104, 105, 106, 107, 108, 109, 110, 111, 112, 113, 114, 115, 116, 117, 118, 119, 120, 121, 122], false), (20, [(104, 0), (105, 1), (106, 2), (107, 3), (108, 4), (109, 5), (110, 6), (111, 7), (112, 8), (113, 9), (114, 10), (115, 11), (116, 12), (117, 13), (118, 14), (119, 15), (120, 16), (121, 17), (122, 18), (123, 19)], [104, 105, 106, 107, 108, 109, 110, 111, 112, 113, 114, 115, 116, 117, 118, 119, 120, 121, 122, 123], false), (21, [(104, 0), (105, 1), (106, 2), (107, 3), (108, 4), (109, 5), (110, 6), (111, 7), (112, 8), (113, 9), (114, 10), (115, 11), (116, 12), (117, 13), (118, 14), (119, 15), (120, 16), (121, 17), (122, 18), (123, 19), (124, 20)], [104, 105, 106, 107, 108, 109, 110, 111, 112, 113, 114, 115, 116, 117, 118, 119, 120, 121, 122, 123, 124], false), (22, [(104, 0), (105, 1), (106, 2), (107, 3), (108, 4), (109, 5), (110, 6), (111, 7), (112, 8), (113, 9), (114, 10), (115, 11), (116, 12), (117, 13), (118, 14), (119, 15), (120, 16), (121, 17), (122, 18), (123, 19), (124, 20), (125, 21)], [104, 105, 106, 107, 108, 109, 110, 111, 112, 113, 114, 115, 116, 117, 118, 119, 120, 121, 122, 123, 124, 125], false), (23, [(104, 0), (105, 1), (106, 2), (107, 3), (108, 4), (109, 5), (110, 6), (111, 7), (112, 8), (113, 9), (114, 10), (115, 11), (116, 12), (117, 13), (118, 14), (119, 15), (120, 16), (121, 17), (122, 18), (123, 19), (124, 20), (125, 21), (126, 22)], [104, 105, 106, 107, 108, 109, 110, 111, 112, 113, 114, 115, 116, 117, 118, 119, 120, 121, 122, 123, 124, 125, 126], false), (24, [(104, 0), (105, 1), (106, 2), (107, 3), (108, 4), (109, 5), (110, 6), (111, 7), (112, 8), (113, 9), (114, 10), (115, 11), (116, 12), (117, 13), (118, 14), (119, 15), (120, 16), (121, 17), (122, 18), (123, 19), (124, 20), (125, 21), (126, 22), (127, 23)], [104, 105, 106, 107, 108, 109, 110, 111, 112, 113, 114, 115, 116, 117, 118, 119, 120, 121, 122, 123, 124, 125, 126, 127, 129, 130, 131, 132, 135], false), (25, [(104, 0), (105, 1), (106, 2), (107, 3), (108, 4), (109, 5), (110, 6), (111, 7), (112, 8), (113, 9), (114, 10), (115, 11), (116, 12), (117, 13), (118, 14), (119, 15), (120, 16), (121, 17), (122, 18), (123, 19), (124, 20), (125, 21), (126, 22), (127, 23)], [104, 105, 106, 107, 108, 109, 110, 111, 112, 113, 114, 115, 116, 117, 118, 119, 120, 121, 122, 123, 124, 125, 126, 127, 128, 130, 135], false), (26, [(104, 0), (105, 1), (106, 2), (107, 3), (108, 4), (109, 5), (110, 6), (111, 7), (112, 8), (113, 9), (114, 10), (115, 11), (116, 12), (117, 13), (118, 14), (119, 15), (120, 16), (121, 17), (122, 18), (123, 19), (124, 20), (125, 21), (126, 22), (127, 23)], [104, 105, 106, 107, 108, 109, 110, 111, 112, 113, 114, 115, 116, 117, 118, 119, 120, 121, 122, 123, 124, 125, 126, 127, 128, 129, 135], false), (27, [(104, 0), (105, 1), (106, 2), (107, 3), (108, 4), (109, 5), (110, 6), (111, 7), (112, 8), (113, 9), (114, 10), (115, 11), (116, 12), (117, 13), (118, 14), (119, 15), (120, 16), (121, 17), (122, 18), (123, 19), (124, 20), (125, 21), (126, 22), (127, 23), (129, 25), (130, 26)], [104, 105, 106, 107, 108, 109, 110, 111, 112, 113, 114, 115, 116, 117, 118, 119, 120, 121, 122, 123, 124, 125, 126, 127, 128, 129, 130, 135], false), (28, [(104, 0), (105, 1), (106, 2), (107, 3), (108, 4), (109, 5), (110, 6), (111, 7), (112, 8), (113, 9), (114, 10), (115, 11), (116, 12), (117, 13), (118, 14), (119, 15), (120, 16), (121, 17), (122, 18), (123, 19), (124, 20), (125, 21), (126, 22), (127, 23), (129, 25), (130, 26), (131, 27)], [104, 105, 106, 107, 108, 109, 110, 111, 112, 113, 114, 115, 116, 117, 118, 119, 120, 121, 122, 123, 124, 125, 126, 127, 128, 129, 130, 131, 135], false), (29, [(104, 0), (105, 1), (106, 2), (107, 3), (108, 4), (109, 5), (110, 6), (111, 7), (112, 8), (113, 9), (114, 10), (115, 11), (116, 12), (117, 13), (118, 14), (119, 15), (120, 16), (121, 17), (122, 18), (123, 19), (124, 20), (125, 21), (126, 22), (127, 23), (128, 24), (129, 25), (130, 26), (131, 27), (132, 28)], [104, 105, 106, 107, 108, 109, 110, 111, 112, 113, 114, 115, 116, 117, 118, 119, 120, 121, 122, 123, 124, 125, 126, 127, 128, 129, 130, 131, 132, 135], false), (30, [(104, 0), (105, 1), (106, 2), (107, 3), (108, 4), (109, 5), (110, 6), (111, 7), (112, 8), (113, 9), (114, 10), (115, 11), (116, 12), (117, 13), (118, 14), (119, 15), (120, 16), (121, 17), (122, 18), (123, 19), (124, 20), (125, 21), (126, 22), (127, 23), (128, 24), (129, 25), (130, 26), (131, 27), (132, 28), (133, 29)], [104, 105, 106, 107, 108, 109, 110, 111, 112, 113, 114, 115, 116, 117, 118, 119, 120, 121, 122, 123, 124, 125, 126, 127, 128, 129, 130, 131, 132, 133, 135], false), (31, [(104, 0), (105, 1), (106, 2), (107, 3), (108, 4), (109, 5), (110, 6), (111, 7), (112, 8), (113, 9), (114, 10), (115, 11), (116, 12), (117, 13), (118, 14), (119, 15), (120, 16), (121, 17), (122, 18), (123, 19), (124, 20), (125, 21), (126, 22), (127, 23)], [104, 105, 106, 107, 108, 109, 110, 111, 112, 113, 114, 115, 116, 117, 118, 119, 120, 121, 122, 123, 124, 125, 126, 127, 128, 129, 130, 131, 132, 133, 134], false), (32, [(104, 0), (105, 1), (106, 2), (107, 3), (108, 4), (109, 5), (110, 6), (111, 7), (112, 8), (113, 9), (114, 10), (115, 11), (116, 12), (117, 13), (118, 14), (119, 15), (120, 16), (121, 17), (122, 18), (123, 19), (124, 20), (125, 21), (126, 22), (127, 23), (128, 24), (129, 25), (130, 26), (131, 27), (132, 28), (133, 29), (134, 30), (135, 31)], [104, 105, 106, 107, 108, 109, 110, 111, 112, 113, 114, 115, 116, 117, 118, 119, 120, 121, 122, 123, 124, 125, 126, 127, 128, 129, 130, 131, 132, 133, 134, 135], false), (33, [(104, 0), (105, 1), (106, 2), (107, 3), (108, 4), (109, 5), (110, 6), (111, 7), (112, 8), (113, 9), (114, 10), (115, 11), (116, 12), (117, 13), (118, 14), (119, 15), (120, 16), (121, 17), (122, 18), (123, 19), (124, 20), (125, 21), (126, 22), (127, 23), (128, 24), (129, 25), (130, 26), (131, 27), (132, 28), (133, 29), (134, 30), (135, 31), (136, 32)], [104, 105, 106, 107, 108, 109, 110, 111, 112, 113, 114, 115, 116, 117, 118, 119, 120, 121, 122, 123, 124, 125, 126, 127, 128, 129, 130, 131, 132, 133, 134, 135, 136], false), (34, [(104, 0), (105, 1), (106, 2), (107, 3), (108, 4), (109, 5), (110, 6), (111, 7), (112, 8), (113, 9), (114, 10), (115, 11), (116, 12), (117, 13), (118, 14), (119, 15), (120, 16), (121, 17), (122, 18), (123, 19), (124, 20), (125, 21), (126, 22), (127, 23), (128, 24), (129, 25), (130, 26), (131, 27), (132, 28), (133, 29), (134, 30), (135, 31), (136, 32), (137, 33)], [104, 105, 106, 107, 108, 109, 110, 111, 112, 113, 114, 115, 116, 117, 118, 119, 120, 121, 122, 123, 124, 125, 126, 127, 128, 129, 130, 131, 132, 133, 134, 135, 136, 137], false)]
                [(104, 0), (105, 1), (106, 2), (107, 3), (108, 4), (109, 5), (110, 6), (111, 7), (112, 8), (113, 9), (114, 10), (115, 11), (116, 12), (117, 13), (118, 14), (119, 15), (120, 16), (121, 17), (122, 18), (123, 19), (124, 20), (125, 21), (126, 22), (127, 23), (128, 24), (129, 25), (130, 26), (131, 27), (132, 28), (133, 29), (134, 30), (135, 31), (136, 32), (137, 33), (138, 34)]
                [(1, _), (4, _), (6, _), (7, _), (8, _), (9, _), (10, _), (11, _), (12, _), (13, _)] rfl (by kernel_rfl)
              case hF => exact ⟨rfl, rfl, rfl, rfl, rfl, rfl, rfl, rfl, rfl, rfl, trivial⟩
              (try (conv => whnf)); (repeat' ((fail_if_success (with_reducible refine And.intro ?_ ?_)); (fail_if_success (with_reducible refine Exists.intro ?_ ?_)); (first | (first | (apply Ob.of; (first | with_reducible assumption | with_reducible exact ex20 _ _ | with_reducible exact ex21 _ _ | with_reducible exact ex30 _ _ _ | with_reducible exact ex31 _ _ _ | with_reducible exact ex32 _ _ _ | rfl | (exact ald rfl rfl (by assumption) rfl) | (exact ald_agg rfl rfl rfl (by assumption) rfl)); (conv => whnf)) | (apply bIf.yes; (first | assumption | rfl); (conv => whnf)) | (apply bIf.no; (first | assumption | rfl); (conv => whnf)) | ((with_reducible refine Ob.load (by with_unfolding_all assumption) ?_); (conv => whnf)) | (apply Grows.mk; (first | exact Grow.refl _ | assumption); (conv => whnf))) | (apply bIf.of <;> intro hc <;> (conv => whnf)))))
            all_goals exact ⟨none, .inl ⟨i0, d, x, hr, hx, .inr (.inr ⟨j, _, ht, .inl (by omega)⟩)⟩, rfl, g1.trans gH6⟩
        · have dj : decide ((j : Int) < ((tgt c.ins (i0 : Int)).length : Int)) = false := decide_eq_false (by omega)
          (try (conv => whnf)); (repeat ((fail_if_success (with_reducible refine And.intro ?_ ?_)); (fail_if_success (with_reducible refine Exists.intro ?_ ?_)); (first | (apply Ob.of; (first | with_reducible assumption | with_reducible exact ex20 _ _ | with_reducible exact ex21 _ _ | with_reducible exact ex30 _ _ _ | with_reducible exact ex31 _ _ _ | with_reducible exact ex32 _ _ _ | rfl | (exact ald rfl rfl (by assumption) rfl) | (exact ald_agg rfl rfl rfl (by assumption) rfl)); (conv => whnf)) | (apply bIf.yes; (first | assumption | rfl); (conv => whnf)) | (apply bIf.no; (first | assumption | rfl); (conv => whnf)) | ((with_reducible refine Ob.load (by with_unfolding_all assumption) ?_); (conv => whnf)) | (apply Grows.mk; (first | exact Grow.refl _ | assumption); (conv => whnf)))))
          refine ⟨(i0 + 1, gr, L), ⟨rfl, rfl, rfl, rfl, congrArg (fun z => some (Value.int .i64 z)) ws, trivial⟩, ⟨⟨gH6, o6, hv⟩, hi, hgt, fun h => ⟨(hgf h).1, fun i hlt => ?_⟩⟩, by show _ - (i0 + 1) < _ - i0; omega⟩
          by_cases hii : i = i0
          · subst hii
            intro d' x' h1 h2 h3
            rw [hd] at h1
            simp only [Option.some.injEq] at h1
            rw [hx] at h3
            simp only [Option.some.injEq] at h3
            subst h1 h3
            exact ⟨hpd, hdd, fun k t ht => (hgf h).2.2 k t (by have := lt_of_get ht; omega) ht⟩
          · exact (hgf h).2.1 i (by dsimp only at hlt; omega)
    · have d1 : decide ((i0 : Int) < (c.ins.length : Int)) = false := decide_eq_false (by omega)
      (try (conv => whnf)); (repeat ((fail_if_success (with_reducible refine And.intro ?_ ?_)); (fail_if_success (with_reducible refine Exists.intro ?_ ?_)); (first | (apply Ob.of; (first | with_reducible assumption | with_reducible exact ex20 _ _ | with_reducible exact ex21 _ _ | with_reducible exact ex30 _ _ _ | with_reducible exact ex31 _ _ _ | with_reducible exact ex32 _ _ _ | rfl | (exact ald rfl rfl (by assumption) rfl) | (exact ald_agg rfl rfl rfl (by assumption) rfl)); (conv => whnf)) | (apply bIf.yes; (first | assumption | rfl); (conv => whnf)) | (apply bIf.no; (first | assumption | rfl); (conv => whnf)) | ((with_reducible refine Ob.load (by with_unfolding_all assumption) ?_); (conv => whnf)) | (apply Grows.mk; (first | exact Grow.refl _ | assumption); (conv => whnf)))))
      refine ⟨(turn + 1, gr, L), ⟨rfl, rfl, rfl, congrArg (fun z => some (Value.int .i64 z)) (w_succ (by omega)), trivial⟩, ⟨⟨g3, o3, hv⟩, by show turn + 1 ≤ _; omega, fun h => by have := hgt h; show cnt L + (turn + 1) + 1 ≤ _; omega, fun h i => ?_⟩, by show _ - (turn + 1) < _ - turn; omega⟩
      by_cases hil : i < c.ins.length
      · exact (hgf h).2 i (by omega)
      · intro d x h1
        have := lt_of_get h1
        rw [hv.len] at this
        omega
end Go.Proofs.Ytdlanbfbbopfhaa
