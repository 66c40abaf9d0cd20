/- The document's policy: what a call means. -/
import Derived.Test.YtdceiblihamfmaaPol9
set_option linter.unusedVariables false
set_option linter.unusedSimpArgs false
set_option maxRecDepth 20000
namespace Go.Proofs.Ytdceiblihamfmaa
open Go Ax
theorem tmod_up {a F : Int} (h : 0 < F) : (a.tmod F + F).tmod F = if a.tmod F < 0 then a.tmod F + F else a.tmod F := by
  have h1 := Int.tmod_lt_of_pos a h
  have h2 : -F < a.tmod F := by
    have := Int.neg_tmod a F
    have h3 := Int.tmod_lt_of_pos (-a) h
    omega
  split
  · exact Int.tmod_eq_of_lt (by omega) (by omega)
  · rw [Int.tmod_eq_emod_of_nonneg (a := a.tmod F + F) (by omega), Int.add_emod_right, Int.emod_eq_of_lt (by omega) (by omega)]
/-- What is known between the telling of the pick and the counting. -/
structure RMid (H0 : Heap) (r : Nat) (L : List (Int × Int)) (t' : Nat) (after' : Int) (cs : List Int) (x : Int × Int) (f : Int) (fr : Fr) (H : Heap) : Prop where
  out : ∃ q4 q6, Has fr [(0, ptr r), (1, .int .i64 f), (4, ptr q4), (6, ptr q6)] ∧ H[q4]? = some (.cells .var [.int .i64 0, .int .i64 0]) ∧ H[q6]? = some (.cells .var [.int .i64 x.1, .int .i64 x.2]) ∧
    H0.length ≤ q4 ∧ H0.length ≤ q6 ∧ q4 ≠ q6 ∧ RPol H r L t' after' cs ∧ FrR r H0 H
theorem rcall_end {H0 H : Heap} {r t' : Nat} {L : List (Int × Int)} {after' : Int} {cs : List Int} {x : Int × Int} {f : Int} {fr : Fr} (hr0 : r < H0.length) (h : RMid H0 r L t' after' cs x f fr H) (hn : cs.length ≤ 32) {rest : Code} {Q : Value → Heap → Prop}
    (hrest : ∃ a b c, Try.f15.body = some (.seq a (.seq b (.seq c rest))))
    (hQ : ∀ H', RPol H' r L t' after' (bump cs.length cs f) → FrR r H0 H' → Q (.tuple #[pickV x, .bool (decide (0 ≤ f ∧ f < (cs.length : Int)) && decide (cnt cs.length (bump cs.length cs f) f ≥ after'))]) H') :
    SW Try.prog 131 rest (bpost Try.prog [.cell 4 28, .tmp 5] Q) fr H := by
  obtain ⟨a, b, c, hrest⟩ := hrest
  simp only [Try.f15, Option.some.injEq, Code.seq.injEq] at hrest
  obtain ⟨_, _, _, rfl⟩ := hrest
  obtain ⟨q4, q6, hF, h4, h6, l4, l6, n46, hp, hfr⟩ := h
  refine SW.sub (F := [(0, ptr r), (1, .int .i64 f), (4, ptr q4), (6, ptr q6)]) (bC_sound _ _ _ _ ?_) (Sub.of hF)
  obtain ⟨lv, bb, h1, h2, h3, h5, h7⟩ := hp
  have hr := hblk_of h1
  have hb := hblk_of h2
  have hx := hblk_of h6
  have hne : r ≠ bb := by rintro rfl; rw [h1] at h2; simp at h2
  have hn4 : bb ≠ q4 := by rintro rfl; rw [h4] at h2; simp at h2
  have hn6 : bb ≠ q6 := by rintro rfl; rw [h6] at h2; simp at h2
  by_cases hf : 0 ≤ f ∧ f < (cs.length : Int)
  · have t1 : decide (f < 0) = false := decide_eq_false (by omega)
    have t2 : decide (f ≥ (cs.length : Int)) = false := decide_eq_false (by omega)
    (try (conv => whnf)); repeat (first | (refine Ob.of (by first | rfl | (exact ald rfl rfl (by assumption) rfl) | (exact ald_agg rfl rfl rfl (by assumption) rfl)) ?_; (conv => whnf)) | (refine bIf.yes (by first | assumption | rfl) ?_; (conv => whnf)) | (refine bIf.no (by first | assumption | rfl) ?_; (conv => whnf)))
    refine Ob.of (idx_slice (off := 0) (k := 1) rfl rfl hf.1 hf.2) ?_
    (conv => whnf)
    refine Ob.of (ald rfl rfl hb (cs_get hf)) ?_
    (try (conv => whnf)); repeat (first | (refine Ob.of (by first | rfl | (exact ald rfl rfl (by assumption) rfl) | (exact ald_agg rfl rfl rfl (by assumption) rfl)) ?_; (conv => whnf)) | (refine bIf.yes (by first | assumption | rfl) ?_; (conv => whnf)) | (refine bIf.no (by first | assumption | rfl) ?_; (conv => whnf)))
    refine Ob.of (idx_slice (off := 0) (k := 1) rfl rfl hf.1 hf.2) ?_
    (conv => whnf)
    refine Ob.store (off := 0 + f.toNat * 1) rfl rfl rfl h2 rfl (by simp; omega) fun H2 k1 k2 k3 => ?_
    rw [cs_put] at k1
    have hbc : bump cs.length cs f = cs.set f.toNat (IntKind.i64.wrap (cnt cs.length cs f + 1)) := by simp only [bump, if_pos hf]
    have hlen : (cs.set f.toNat (IntKind.i64.wrap (cnt cs.length cs f + 1))).length = cs.length := by simp
    have hr2' := k2.at h1 hne
    have hr2 := hblk_of hr2'
    have hb2 := hblk_of k1
    have hx2' := k2.at h6 (fun e => hn6 e.symm)
    have hx2 := hblk_of hx2'
    have h42 := k2.at h4 (fun e => hn4 e.symm)
    have hg2 := cs_get (cs := cs.set f.toNat (IntKind.i64.wrap (cnt cs.length cs f + 1))) (f := f) (by rw [hlen]; exact hf)
    rw [hlen, ← hbc] at hg2
    obtain ⟨H3, hst, s1, s2, s3⟩ := store_ex (P := Try.prog) (t := 28) (off := 0) (v := pickV x) rfl rfl rfl h42 rfl (by first | exact Nat.le_of_ble_eq_true rfl | simp)
    have hr3 := hblk_of (s2.at hr2' (by omega))
    have hb3' := s2.at k1 hn4
    rw [← hbc] at hb2 hb3'
    have hb3 := hblk_of hb3'
    (try (conv => whnf)); repeat (first | (refine Ob.of (by first | rfl | (exact ald rfl rfl (by assumption) rfl) | (exact ald_agg rfl rfl rfl (by assumption) rfl)) ?_; (conv => whnf)) | (refine bIf.yes (by first | assumption | rfl) ?_; (conv => whnf)) | (refine bIf.no (by first | assumption | rfl) ?_; (conv => whnf)))
    apply SW.draw2 [([], [119, 120, 121, 122, 123, 124, 125, 126, 127, 128, 129, 130], 0, 0, false), ([], [118, 123, 126, 127, 128, 129], 0, 1, false), ([(119, 1)], [118, 119, 123, 126, 127, 128, 129], 0, 1, false), ([(119, 1), (120, 2)], [118, 119, 120, 123, 126, 127, 128, 129], 0, 1, false), ([(119, 1), (120, 2), (121, 3)], [118, 119, 120, 121, 123, 126, 127, 128, 129], 0, 1, false), ([], [118, 119, 120, 121, 122, 126, 127, 128, 129], 0, 1, false), ([(119, 1), (120, 2), (121, 3), (122, 4), (123, 5)], [118, 119, 120, 121, 122, 123, 126, 127, 128, 129], 0, 1, false), ([(119, 1), (120, 2), (121, 3), (122, 4), (123, 5), (124, 6)], [118, 119, 120, 121, 122, 123, 124, 126, 127, 128, 129], 0, 1, false), ([], [118, 119, 120, 121, 122, 123, 124, 125], 0, 1, false), ([(126, 8)], [118, 119, 120, 121, 122, 123, 124, 125, 126], 0, 1, false), ([(126, 8), (127, 9)], [118, 119, 120, 121, 122, 123, 124, 125, 126, 127], 0, 1, false), ([(126, 8), (127, 9), (128, 10)], [118, 119, 120, 121, 122, 123, 124, 125, 126, 127, 128], 0, 1, false), ([(119, 1), (120, 2), (121, 3), (122, 4), (123, 5), (124, 6), (125, 7), (126, 8), (127, 9), (128, 10), (129, 11)], [118, 119, 120, 121, 122, 123, 124, 125, 126, 127, 128, 129], 0, 1, false), ([(118, 0)], [118, 119, 120, 121, 122, 123, 124, 125, 126, 127, 128, 129, 130], 0, 0, true), ([(118, 0), (119, 1), (120, 2), (121, 3), (122, 4), (123, 5), (124, 6), (125, 7), (126, 8), (127, 9), (128, 10), (129, 11), (130, 12)], [118, 119, 120, 121, 122, 123, 124, 125, 126, 127, 128, 129, 130], 1, 0, false)]
      [(118, 0), (119, 1), (120, 2), (121, 3), (122, 4), (123, 5), (124, 6), (125, 7), (126, 8), (127, 9), (128, 10), (129, 11), (130, 12), (5, 14)] 1
      [(0, _), (1, _), (4, _), (6, _)] [_, _, _, _, _, _, _, _, _, _, _, _, _, _, _] [H2, H3] rfl (by kernel_rfl)
    case hF => exact ⟨rfl, rfl, rfl, rfl, trivial⟩
    case h0 => rfl
    case steps =>
      (try (conv => whnf)); repeat' (first | (refine Ob.of rfl ?_; (conv => whnf)) | exact Leaf.mk rfl rfl | (refine Ob.of (ald rfl rfl (by assumption) rfl) ?_; (conv => whnf)) | (refine And.intro ?_ ?_ <;> (conv => whnf)) | (refine Ob.of (by first | exact idx_slice (off := 0) (k := 1) rfl rfl hf.1 hf.2 | exact ald_agg rfl rfl rfl hx2 rfl | exact ald rfl rfl hb2 hg2 | exact ald rfl rfl hb3 hg2 | exact ald rfl rfl hr2 rfl | exact ald rfl rfl hr3 rfl | exact hst) ?_; (conv => whnf)) | (refine Ob2.of (by first | exact idx_slice (off := 0) (k := 1) rfl rfl hf.1 hf.2 | exact ald_agg rfl rfl rfl hx2 rfl | exact ald rfl rfl hb2 hg2 | exact ald rfl rfl hb3 hg2 | exact ald rfl rfl hr2 rfl | exact ald rfl rfl hr3 rfl | exact hst) ?_; (conv => whnf)) | (refine Ob2.of (by rfl) ?_; (conv => whnf)) | exact True.intro | (first | (refine Ob.of (by first | rfl | (exact ald rfl rfl (by assumption) rfl) | (exact ald_agg rfl rfl rfl (by assumption) rfl)) ?_; (conv => whnf)) | (refine bIf.yes (by first | assumption | rfl) ?_; (conv => whnf)) | (refine bIf.no (by first | assumption | rfl) ?_; (conv => whnf))))
    have hq3 := hblk_of s1
    (try (conv => whnf)); repeat (first | (refine Ob.of (by first | rfl | (exact ald rfl rfl (by assumption) rfl) | (exact ald_agg rfl rfl rfl (by assumption) rfl)) ?_; (conv => whnf)) | (refine bIf.yes (by first | assumption | rfl) ?_; (conv => whnf)) | (refine bIf.no (by first | assumption | rfl) ?_; (conv => whnf)))
    rw [decide_eq_true hf, Bool.true_and] at hQ
    have fr2 := hfr.trans (.row h2 k2)
    exact hQ H3 ⟨lv, bb, by rw [hbc, hlen]; exact s2.at hr2' (by omega), hb3', (h3.at k2 (.at h2 rfl)).at s2 (.of h42), h5, h7⟩ ⟨Nat.le_trans fr2.1 s2.1, fun y B hy hyr hB => s2.at (fr2.2 y B hy hyr hB) (by have := lt_at hy; omega)⟩
  · have hbc : bump cs.length cs f = cs := by simp only [bump, if_neg hf]
    rw [decide_eq_false hf, hbc] at hQ
    by_cases h0 : f < 0
    · have t1 : decide (f < 0) = true := decide_eq_true h0
      (try (conv => whnf)); repeat (first | (refine Ob.of (by first | rfl | (exact ald rfl rfl (by assumption) rfl) | (exact ald_agg rfl rfl rfl (by assumption) rfl)) ?_; (conv => whnf)) | (refine bIf.yes (by first | assumption | rfl) ?_; (conv => whnf)) | (refine bIf.no (by first | assumption | rfl) ?_; (conv => whnf)))
      refine Ob.store rfl rfl rfl h4 rfl (by first | exact Nat.le_of_ble_eq_true rfl | simp) fun H3 s1 s2 s3 => ?_
      have hq3 := hblk_of s1
      (try (conv => whnf)); repeat (first | (refine Ob.of (by first | rfl | (exact ald rfl rfl (by assumption) rfl) | (exact ald_agg rfl rfl rfl (by assumption) rfl)) ?_; (conv => whnf)) | (refine bIf.yes (by first | assumption | rfl) ?_; (conv => whnf)) | (refine bIf.no (by first | assumption | rfl) ?_; (conv => whnf)))
      exact hQ H3 ⟨lv, bb, s2.at h1 (by omega), s2.at h2 hn4, h3.at s2 (.of h4), h5, h7⟩ ⟨Nat.le_trans hfr.1 s2.1, fun y B hy hyr hB => s2.at (hfr.2 y B hy hyr hB) (by have := lt_at hy; omega)⟩
    · have t1 : decide (f < 0) = false := decide_eq_false h0
      have t2 : decide (f ≥ (cs.length : Int)) = true := decide_eq_true (by omega)
      (try (conv => whnf)); repeat (first | (refine Ob.of (by first | rfl | (exact ald rfl rfl (by assumption) rfl) | (exact ald_agg rfl rfl rfl (by assumption) rfl)) ?_; (conv => whnf)) | (refine bIf.yes (by first | assumption | rfl) ?_; (conv => whnf)) | (refine bIf.no (by first | assumption | rfl) ?_; (conv => whnf)))
      refine Ob.store rfl rfl rfl h4 rfl (by first | exact Nat.le_of_ble_eq_true rfl | simp) fun H3 s1 s2 s3 => ?_
      have hq3 := hblk_of s1
      (try (conv => whnf)); repeat (first | (refine Ob.of (by first | rfl | (exact ald rfl rfl (by assumption) rfl) | (exact ald_agg rfl rfl rfl (by assumption) rfl)) ?_; (conv => whnf)) | (refine bIf.yes (by first | assumption | rfl) ?_; (conv => whnf)) | (refine bIf.no (by first | assumption | rfl) ?_; (conv => whnf)))
      exact hQ H3 ⟨lv, bb, s2.at h1 (by omega), s2.at h2 hn4, h3.at s2 (.of h4), h5, h7⟩ ⟨Nat.le_trans hfr.1 s2.1, fun y B hy hyr hB => s2.at (hfr.2 y B hy hyr hB) (by have := lt_at hy; omega)⟩
theorem rcall_ax {H : Heap} {r taken : Nat} {L : List (Int × Int)} {after : Int} {cs : List Int} (h : RPol H r L taken after cs) (hn : cs.length ≤ 32) (f : Int) :
    AX Try.prog 15 #[ptr r, .int .i64 f] H (fun v H' => v = .tuple #[pickV (nV cs.length after (L.drop taken)), .bool (decide (0 ≤ f ∧ f < (cs.length : Int)) && decide (cnt cs.length (bump cs.length cs f) f ≥ nA after (L.drop taken)))] ∧
      (∃ t', RPol H' r L t' (nA after (L.drop taken)) (bump cs.length cs f) ∧ L.drop t' = (L.drop taken).tail) ∧ FrR r H H') := by
  have hlt : r < H.length := by obtain ⟨_, _, h1, _⟩ := h; exact lt_at h1
  refine AX.body (n := 131) (rs := [.cell 4 28, .tmp 5]) Try.func15 rfl (by decide) rfl rfl ?_
  refine SW.seq (fun fr H1 => ∃ q4, Has fr [(0, ptr r), (1, .int .i64 f), (4, ptr q4)] ∧ q4 = H.length ∧ H1[q4]? = some (.cells .var [.int .i64 0, .int .i64 0]) ∧ Grow H H1) (bC_sound _ _ _ _ ?_) ?_
  · (conv => whnf)
    refine Ob2.alloc rfl fun q4 H1 hq4 k1 k2 => ?_
    (try (conv => whnf)); repeat (first | (refine Ob.of (by first | rfl | (exact ald rfl rfl (by assumption) rfl) | (exact ald_agg rfl rfl rfl (by assumption) rfl)) ?_; (conv => whnf)) | (refine bIf.yes (by first | assumption | rfl) ?_; (conv => whnf)) | (refine bIf.no (by first | assumption | rfl) ?_; (conv => whnf)))
    exact ⟨q4, ⟨rfl, rfl, rfl, trivial⟩, hq4, k1, k2⟩
  rintro fr H1 ⟨q4, hF, hq4, k1, k2⟩
  refine SW.sub (F := [(0, ptr r), (1, .int .i64 f), (4, ptr q4)]) ?_ (Sub.of hF)
  refine SW.seq (fun fr H1 => ∃ q6, Has fr [(0, ptr r), (1, .int .i64 f), (4, ptr q4), (6, ptr q6)] ∧ q4 < q6 ∧ H1[q4]? = some (.cells .var [.int .i64 0, .int .i64 0]) ∧ H1[q6]? = some (.cells .var [.int .i64 0, .int .i64 0]) ∧ Grow H H1) (bC_sound _ _ _ _ ?_) ?_
  · have hl4 := lt_at k1
    (try (conv => whnf)); repeat (first | (refine Ob.of (by first | rfl | (exact ald rfl rfl (by assumption) rfl) | (exact ald_agg rfl rfl rfl (by assumption) rfl)) ?_; (conv => whnf)) | (refine bIf.yes (by first | assumption | rfl) ?_; (conv => whnf)) | (refine bIf.no (by first | assumption | rfl) ?_; (conv => whnf)))
    refine Ob2.alloc rfl fun q6 H2 hq6 l1 l2 => ?_
    (try (conv => whnf)); repeat (first | (refine Ob.of (by first | rfl | (exact ald rfl rfl (by assumption) rfl) | (exact ald_agg rfl rfl rfl (by assumption) rfl)) ?_; (conv => whnf)) | (refine bIf.yes (by first | assumption | rfl) ?_; (conv => whnf)) | (refine bIf.no (by first | assumption | rfl) ?_; (conv => whnf)))
    refine Ob.store rfl rfl rfl l1 rfl (by first | exact Nat.le_of_ble_eq_true rfl | simp) fun H3 m1 m2 m3 => ?_
    (try (conv => whnf)); repeat (first | (refine Ob.of (by first | rfl | (exact ald rfl rfl (by assumption) rfl) | (exact ald_agg rfl rfl rfl (by assumption) rfl)) ?_; (conv => whnf)) | (refine bIf.yes (by first | assumption | rfl) ?_; (conv => whnf)) | (refine bIf.no (by first | assumption | rfl) ?_; (conv => whnf)))
    exact ⟨q6, ⟨rfl, rfl, rfl, rfl, trivial⟩, by omega, m2.at (l2.at k1) (by omega), m1, k2.trans (l2.but_new m2 (by omega))⟩
  clear hF
  rintro fr H3 ⟨q6, hF, h46, h4, h6, g3⟩
  refine SW.sub (F := [(0, ptr r), (1, .int .i64 f), (4, ptr q4), (6, ptr q6)]) ?_ (Sub.of hF)
  have hp3 := h.grow g3
  obtain ⟨lv, b, h1, h2, h3, h5, h7⟩ := hp3
  have hr3 := hblk_of h1
  have hl6 := lt_at h6
  by_cases ht : taken < L.length
  · rcases h3 with ⟨rfl, rfl⟩ | ⟨bl, c, _, rfl, h3, hp, hc⟩
    · simp at ht
    have t1 : decide ((taken : Int) < (L.length : Int)) = true := decide_eq_true (by omega)
    have hx : L[taken]? = some (L[taken]'ht) := List.getElem?_eq_getElem _
    have hd : L.drop taken = L[taken]'ht :: L.drop (taken + 1) := List.drop_eq_getElem_cons ht
    rw [hd]
    revert hx
    generalize L[taken]'ht = x
    intro hx
    refine SW.seq (RMid H r L (taken + 1) (nxA after x) cs (nxO cs.length after x) f) (bC_sound _ _ _ _ ?_) fun fr H4 hm => rcall_end hlt hm hn ⟨_, _, _, rfl⟩ fun H' n1 n2 => ⟨rfl, ⟨taken + 1, n1, rfl⟩, n2⟩
    (conv => whnf)
    apply SW.draw2 [([], [15, 16, 17, 18, 19], 0, 0, false), ([(11, 0)], [11, 15, 16, 17, 18, 19], 0, 0, false), ([(11, 0), (12, 1)], [11, 12, 15, 16, 17, 18, 19], 0, 0, false), ([(11, 0), (12, 1), (13, 2)], [11, 12, 13, 15, 16, 17, 18, 19], 0, 0, false), ([], [11, 12, 13, 14], 0, 0, false), ([(15, 4)], [11, 12, 13, 14, 15], 0, 0, false), ([(15, 4), (16, 5)], [11, 12, 13, 14, 15, 16], 0, 0, false), ([(15, 4), (16, 5), (17, 6)], [11, 12, 13, 14, 15, 16, 17], 0, 0, false), ([(15, 4), (16, 5), (17, 6), (18, 7)], [11, 12, 13, 14, 15, 16, 17, 18], 0, 0, false), ([(11, 0), (12, 1), (13, 2), (14, 3), (15, 4), (16, 5), (17, 6), (18, 7), (19, 8)], [11, 12, 13, 14, 15, 16, 17, 18, 19], 0, 0, false)]
      [(11, 0), (12, 1), (13, 2), (14, 3), (15, 4), (16, 5), (17, 6), (18, 7), (19, 8), (20, 9)] 0
      [(0, _), (1, _), (4, _), (6, _)] [_, _, _, _, _, _, _, _, _, _] [H3] rfl (by kernel_rfl)
    case hF => exact ⟨rfl, rfl, rfl, rfl, trivial⟩
    case h0 => rfl
    case steps =>
      (try (conv => whnf)); repeat' (first | (refine Ob.of rfl ?_; (conv => whnf)) | exact Leaf.mk rfl rfl | (refine Ob.of (ald rfl rfl (by assumption) rfl) ?_; (conv => whnf)) | (refine And.intro ?_ ?_ <;> (conv => whnf)) | (refine Ob.of (by rfl) ?_; (conv => whnf)) | (refine Ob2.of (by rfl) ?_; (conv => whnf)) | (refine Ob2.of (by rfl) ?_; (conv => whnf)) | exact True.intro | (first | (refine Ob.of (by first | rfl | (exact ald rfl rfl (by assumption) rfl) | (exact ald_agg rfl rfl rfl (by assumption) rfl)) ?_; (conv => whnf)) | (refine bIf.yes (by first | assumption | rfl) ?_; (conv => whnf)) | (refine bIf.no (by first | assumption | rfl) ?_; (conv => whnf))))
    have hs := slots_two (hp taken x hx).1 (hp taken x hx).2
    have hbl3 := hblk_of h3
    have hti : (taken : Int) < (L.length : Int) := by omega
    obtain ⟨q7, H4, hal, hq7, a1, a2⟩ := alloc_ex (P := Try.prog) (t := 28) H3 rfl
    replace a1 : H4[q7]? = some (.cells .var [.int .i64 0, .int .i64 0]) := a1
    have hr4 := a2.hblk hr3
    have hbl4 := a2.hblk hbl3
    have hlr := lt_at h1
    obtain ⟨H5, hst, s1, s2, s3⟩ := store_ex (P := Try.prog) (t := 28) (off := 0) (v := pickV x) rfl rfl rfl a1 rfl (by first | exact Nat.le_of_ble_eq_true rfl | simp)
    replace s1 : H5[q7]? = some (.cells .var [.int .i64 x.1, .int .i64 x.2]) := s1
    have g5 : Grow H3 H5 := a2.but_new s2 (by omega)
    have hr5' := g5.at h1
    have hr5 := hblk_of hr5'
    have h65 := g5.at h6
    have h45 := g5.at h4
    (try (conv => whnf)); repeat (first | (refine Ob.of (by first | rfl | (exact ald rfl rfl (by assumption) rfl) | (exact ald_agg rfl rfl rfl (by assumption) rfl)) ?_; (conv => whnf)) | (refine bIf.yes (by first | assumption | rfl) ?_; (conv => whnf)) | (refine bIf.no (by first | assumption | rfl) ?_; (conv => whnf)))
    apply SW.draw2 [([], [25, 26, 27, 28, 7], 0, 1, false), ([(21, 0)], [21, 25, 26, 27, 28, 7], 0, 1, false), ([(21, 0), (22, 1)], [21, 22, 25, 26, 27, 28, 7], 0, 1, false), ([(21, 0), (22, 1), (23, 2)], [21, 22, 23, 25, 26, 27, 28, 7], 0, 1, false), ([], [21, 22, 23, 24, 7], 0, 1, false), ([(25, 4)], [21, 22, 23, 24, 25, 7], 0, 1, false), ([(25, 4), (26, 5)], [21, 22, 23, 24, 25, 26, 7], 0, 1, false), ([(25, 4), (26, 5), (27, 6)], [21, 22, 23, 24, 25, 26, 27, 7], 0, 1, false), ([(21, 0), (22, 1), (23, 2), (24, 3), (25, 4), (26, 5), (27, 6), (28, 7)], [21, 22, 23, 24, 25, 26, 27, 28, 7], 0, 1, false), ([(21, 0), (22, 1), (23, 2), (24, 3), (25, 4), (26, 5), (27, 6), (28, 7), (29, 8)], [21, 22, 23, 24, 25, 26, 27, 28, 29, 7], 0, 1, false), ([], [21, 22, 23, 24, 25, 26, 27, 28, 29, 30], 0, 0, true), ([(21, 0), (22, 1), (23, 2), (24, 3), (25, 4), (26, 5), (27, 6), (28, 7), (29, 8), (30, 9), (7, 10)], [21, 22, 23, 24, 25, 26, 27, 28, 29, 30, 7], 1, 0, true)]
      [(21, 0), (22, 1), (23, 2), (24, 3), (25, 4), (26, 5), (27, 6), (28, 7), (29, 8), (30, 9), (7, 10)] 2
      [(0, _), (1, _), (4, _), (6, _)] [_, _, _, _, _, _, _, _, _, _, _, _] [H3, H4, H5] rfl (by kernel_rfl)
    case hF => exact ⟨rfl, rfl, rfl, rfl, trivial⟩
    case h0 => rfl
    case steps =>
      (try (conv => whnf)); repeat' (first | (refine Ob.of rfl ?_; (conv => whnf)) | exact Leaf.mk rfl rfl | (refine Ob.of (ald rfl rfl (by assumption) rfl) ?_; (conv => whnf)) | (refine And.intro ?_ ?_ <;> (conv => whnf)) | (refine Ob.of (by first | exact idx_slice (off := 0) (k := 2) rfl rfl (Int.natCast_nonneg taken) hti | exact ald_agg rfl rfl rfl hbl3 hs | exact ald_agg rfl rfl rfl hbl4 hs | exact ald rfl rfl hr3 rfl | exact ald rfl rfl hr4 rfl | exact hal | exact hst) ?_; (conv => whnf)) | (refine Ob2.of (by first | exact idx_slice (off := 0) (k := 2) rfl rfl (Int.natCast_nonneg taken) hti | exact ald_agg rfl rfl rfl hbl3 hs | exact ald_agg rfl rfl rfl hbl4 hs | exact ald rfl rfl hr3 rfl | exact ald rfl rfl hr4 rfl | exact hal | exact hst) ?_; (conv => whnf)) | (refine Ob2.of (by rfl) ?_; (conv => whnf)) | exact True.intro | (first | (refine Ob.of (by first | rfl | (exact ald rfl rfl (by assumption) rfl) | (exact ald_agg rfl rfl rfl (by assumption) rfl)) ?_; (conv => whnf)) | (refine bIf.yes (by first | assumption | rfl) ?_; (conv => whnf)) | (refine bIf.no (by first | assumption | rfl) ?_; (conv => whnf))))
    (try (conv => whnf)); repeat (first | (refine Ob.of (by first | rfl | (exact ald rfl rfl (by assumption) rfl) | (exact ald_agg rfl rfl rfl (by assumption) rfl)) ?_; (conv => whnf)) | (refine bIf.yes (by first | assumption | rfl) ?_; (conv => whnf)) | (refine bIf.no (by first | assumption | rfl) ?_; (conv => whnf)))
    refine Ob.store (off := 1) rfl rfl rfl hr5' rfl (by first | exact Nat.le_of_ble_eq_true rfl | simp) fun H6 o1 o2 o3 => ?_
    have hw : IntKind.i64.wrap ((taken : Int) + 1) = ((taken + 1 : Nat) : Int) := by rw [wrap_i64 (by omega) (by omega)]; omega
    replace o1 : H6[r]? = some (.cells .var [.slice (some ⟨bl, 0, none⟩) L.length 2, .int .i64 (IntKind.i64.wrap ((taken : Int) + 1)), .int .i64 after, .slice (some ⟨b, 0, none⟩) cs.length 1]) := o1
    rw [hw] at o1
    have hr6 := hblk_of o1
    have hx6' := o2.at s1 (by omega)
    have hx6 := hblk_of hx6'
    have h66 := o2.at h65 (by omega)
    have h46 := o2.at h45 (by omega)
    obtain ⟨k, n⟩ := x
    have hne : b ≠ r := by rintro rfl; rw [h1] at h2; simp at h2
    have hnl : bl ≠ r := by rintro rfl; rw [h1] at h3; simp at h3
    have hb6 := o2.at (g5.at h2) hne
    have hbl6 := o2.at (g5.at h3) hnl
    have hnb6 : b ≠ q6 := by rintro rfl; rw [h6] at h2; simp at h2
    have hnl6 : bl ≠ q6 := by rintro rfl; rw [h6] at h3; simp at h3
    have g35 := g3.1
    have g55 := g5.1
    have fin : ∀ (fr : Fr) (H7 : Heap) (af : Int) (x' : Int × Int), Has fr [(0, ptr r), (1, .int .i64 f), (4, ptr q4), (6, ptr q6)] → H7[q6]? = some (.cells .var [.int .i64 x'.1, .int .i64 x'.2]) →
        H7[r]? = some (.cells .var (refC (.slice (some ⟨bl, 0, none⟩) L.length 2) (taken + 1) af b cs.length)) → (∀ y B, H6[y]? = some B → y ≠ r → y ≠ q6 → H7[y]? = some B) → H6.length ≤ H7.length → af = nxA after (k, n) → x' = nxO cs.length after (k, n) →
        RMid H r L (taken + 1) (nxA after (k, n)) cs (nxO cs.length after (k, n)) f fr H7 := by
      rintro fr H7 af x' f1 f2 f3 f4 f5 rfl rfl
      refine ⟨q4, q6, f1, f4 _ _ h46 (by omega) (by omega), f2, by omega, by omega, by omega, ⟨_, b, f3, f4 _ _ hb6 hne hnb6, .inr ⟨bl, c, Nat.zero_le _, rfl, f4 _ _ hbl6 hnl hnl6, hp, hc⟩, by omega, h7⟩, by omega, fun y B hy hyr hB => ?_⟩
      have := lt_at hy
      exact f4 y B (o2.at (g5.at (g3.at hy)) hyr) hyr (by omega)
    by_cases c1 : k = 1
    · subst c1
      have ho : nxO cs.length after (1, n) = (1, nAft n) := by simp [nxO]
      have ha : nxA after (1, n) = nAft n := by simp [nxA]
      have hn3 : (n < 1 ∧ nAft n = 1) ∨ (n > 1048576 ∧ nAft n = 1048576) ∨ (1 ≤ n ∧ n ≤ 1048576 ∧ nAft n = n) := by
        unfold nAft
        split <;> split <;> omega
      rcases hn3 with ⟨c2, c3⟩ | ⟨c2, c3⟩ | ⟨c2, c4, c3⟩
      · have d1 : decide (n < 1) = true := decide_eq_true c2
        (try (conv => whnf)); repeat (first | (refine Ob.of (by first | rfl | (exact ald rfl rfl (by assumption) rfl) | (exact ald_agg rfl rfl rfl (by assumption) rfl)) ?_; (conv => whnf)) | (refine bIf.yes (by first | assumption | rfl) ?_; (conv => whnf)) | (refine bIf.no (by first | assumption | rfl) ?_; (conv => whnf)))
        refine Ob.store (off := 2) rfl rfl rfl o1 rfl (by first | exact Nat.le_of_ble_eq_true rfl | simp) fun H7 u1 u2 u3 => ?_
        have v6 := u2.at h66 (by omega)
        (try (conv => whnf)); repeat (first | (refine Ob.of (by first | rfl | (exact ald rfl rfl (by assumption) rfl) | (exact ald_agg rfl rfl rfl (by assumption) rfl)) ?_; (conv => whnf)) | (refine bIf.yes (by first | assumption | rfl) ?_; (conv => whnf)) | (refine bIf.no (by first | assumption | rfl) ?_; (conv => whnf)))
        refine Ob.store (off := 0) rfl rfl rfl v6 rfl (by first | exact Nat.le_of_ble_eq_true rfl | simp) fun H8 w1 w2 w3 => ?_
        (try (conv => whnf)); repeat (first | (refine Ob.of (by first | rfl | (exact ald rfl rfl (by assumption) rfl) | (exact ald_agg rfl rfl rfl (by assumption) rfl)) ?_; (conv => whnf)) | (refine bIf.yes (by first | assumption | rfl) ?_; (conv => whnf)) | (refine bIf.no (by first | assumption | rfl) ?_; (conv => whnf)))
        exact fin _ H8 1 (1, 1) ⟨rfl, rfl, rfl, rfl, trivial⟩ w1 (w2.at u1 (by omega)) (fun y B y1 y2 y3 => w2.at (u2.at y1 y2) y3) (by omega) (by rw [ha, c3]) (by rw [ho, c3])
      · have d1 : decide (n < 1) = false := decide_eq_false (by omega)
        have d2 : decide (n > 1048576) = true := decide_eq_true c2
        (try (conv => whnf)); repeat (first | (refine Ob.of (by first | rfl | (exact ald rfl rfl (by assumption) rfl) | (exact ald_agg rfl rfl rfl (by assumption) rfl)) ?_; (conv => whnf)) | (refine bIf.yes (by first | assumption | rfl) ?_; (conv => whnf)) | (refine bIf.no (by first | assumption | rfl) ?_; (conv => whnf)))
        refine Ob.store (off := 2) rfl rfl rfl o1 rfl (by first | exact Nat.le_of_ble_eq_true rfl | simp) fun H7 u1 u2 u3 => ?_
        have v6 := u2.at h66 (by omega)
        (try (conv => whnf)); repeat (first | (refine Ob.of (by first | rfl | (exact ald rfl rfl (by assumption) rfl) | (exact ald_agg rfl rfl rfl (by assumption) rfl)) ?_; (conv => whnf)) | (refine bIf.yes (by first | assumption | rfl) ?_; (conv => whnf)) | (refine bIf.no (by first | assumption | rfl) ?_; (conv => whnf)))
        refine Ob.store (off := 0) rfl rfl rfl v6 rfl (by first | exact Nat.le_of_ble_eq_true rfl | simp) fun H8 w1 w2 w3 => ?_
        (try (conv => whnf)); repeat (first | (refine Ob.of (by first | rfl | (exact ald rfl rfl (by assumption) rfl) | (exact ald_agg rfl rfl rfl (by assumption) rfl)) ?_; (conv => whnf)) | (refine bIf.yes (by first | assumption | rfl) ?_; (conv => whnf)) | (refine bIf.no (by first | assumption | rfl) ?_; (conv => whnf)))
        exact fin _ H8 1048576 (1, 1048576) ⟨rfl, rfl, rfl, rfl, trivial⟩ w1 (w2.at u1 (by omega)) (fun y B y1 y2 y3 => w2.at (u2.at y1 y2) y3) (by omega) (by rw [ha, c3]) (by rw [ho, c3])
      · have d1 : decide (n < 1) = false := decide_eq_false (by omega)
        have d2 : decide (n > 1048576) = false := decide_eq_false (by omega)
        (try (conv => whnf)); repeat (first | (refine Ob.of (by first | rfl | (exact ald rfl rfl (by assumption) rfl) | (exact ald_agg rfl rfl rfl (by assumption) rfl)) ?_; (conv => whnf)) | (refine bIf.yes (by first | assumption | rfl) ?_; (conv => whnf)) | (refine bIf.no (by first | assumption | rfl) ?_; (conv => whnf)))
        refine Ob.store (off := 2) rfl rfl rfl o1 rfl (by first | exact Nat.le_of_ble_eq_true rfl | simp) fun H7 u1 u2 u3 => ?_
        have v6 := u2.at h66 (by omega)
        (try (conv => whnf)); repeat (first | (refine Ob.of (by first | rfl | (exact ald rfl rfl (by assumption) rfl) | (exact ald_agg rfl rfl rfl (by assumption) rfl)) ?_; (conv => whnf)) | (refine bIf.yes (by first | assumption | rfl) ?_; (conv => whnf)) | (refine bIf.no (by first | assumption | rfl) ?_; (conv => whnf)))
        refine Ob.store (off := 0) rfl rfl rfl v6 rfl (by first | exact Nat.le_of_ble_eq_true rfl | simp) fun H8 w1 w2 w3 => ?_
        (try (conv => whnf)); repeat (first | (refine Ob.of (by first | rfl | (exact ald rfl rfl (by assumption) rfl) | (exact ald_agg rfl rfl rfl (by assumption) rfl)) ?_; (conv => whnf)) | (refine bIf.yes (by first | assumption | rfl) ?_; (conv => whnf)) | (refine bIf.no (by first | assumption | rfl) ?_; (conv => whnf)))
        exact fin _ H8 n (1, n) ⟨rfl, rfl, rfl, rfl, trivial⟩ w1 (w2.at u1 (by omega)) (fun y B y1 y2 y3 => w2.at (u2.at y1 y2) y3) (by omega) (by rw [ha, c3]) (by rw [ho, c3])
    have b1 : (k == 1) = false := by simp [c1]
    have ha : nxA after (k, n) = after := by simp [nxA, c1]
    by_cases c6 : k = 6
    · subst c6
      have ho : nxO cs.length after (6, n) = (6, 0) := by simp [nxO]
      (try (conv => whnf)); repeat (first | (refine Ob.of (by first | rfl | (exact ald rfl rfl (by assumption) rfl) | (exact ald_agg rfl rfl rfl (by assumption) rfl)) ?_; (conv => whnf)) | (refine bIf.yes (by first | assumption | rfl) ?_; (conv => whnf)) | (refine bIf.no (by first | assumption | rfl) ?_; (conv => whnf)))
      refine Ob.store (off := 0) rfl rfl rfl h66 rfl (by first | exact Nat.le_of_ble_eq_true rfl | simp) fun H8 w1 w2 w3 => ?_
      (try (conv => whnf)); repeat (first | (refine Ob.of (by first | rfl | (exact ald rfl rfl (by assumption) rfl) | (exact ald_agg rfl rfl rfl (by assumption) rfl)) ?_; (conv => whnf)) | (refine bIf.yes (by first | assumption | rfl) ?_; (conv => whnf)) | (refine bIf.no (by first | assumption | rfl) ?_; (conv => whnf)))
      exact fin _ H8 after (6, 0) ⟨rfl, rfl, rfl, rfl, trivial⟩ w1 (w2.at o1 (by omega)) (fun y B y1 y2 y3 => w2.at y1 y3) (by omega) (by rw [ha]) (by rw [ho])
    have b6 : (k == 6) = false := by simp [c6]
    by_cases ck : k = 2 ∨ k = 3 ∨ k = 4 ∨ k = 5
    · have d2 : decide (k ≥ 2) = true := decide_eq_true (by omega)
      have d5 : decide (k ≤ 5) = true := decide_eq_true (by omega)
      by_cases hF : 0 < (cs.length : Int)
      · have dF : decide ((cs.length : Int) > 0) = true := decide_eq_true hF
        have ho : nxO cs.length after (k, n) = (k, (n.tmod (cs.length : Int) + (cs.length : Int)).tmod (cs.length : Int)) := by
          simp only [nxO]
          rw [if_neg c1, if_neg c6, if_pos ⟨ck, hF⟩]
        have hz : (cs.length : Int) ≠ 0 := by omega
        (try (conv => whnf)); repeat (first | (refine Ob.of (by first | rfl | (exact ald rfl rfl (by assumption) rfl) | (exact ald_agg rfl rfl rfl (by assumption) rfl)) ?_; (conv => whnf)) | (refine bIf.yes (by first | assumption | rfl) ?_; (conv => whnf)) | (refine bIf.no (by first | assumption | rfl) ?_; (conv => whnf)))
        apply SW.draw2 [([], [73, 74, 75, 76, 77], 0, 0, false), ([(71, 0)], [71, 73, 74, 75, 76, 77], 0, 0, false), ([], [71, 72], 0, 0, false), ([(73, 2)], [71, 72, 73], 0, 0, false), ([(73, 2), (74, 3)], [71, 72, 73, 74], 0, 0, false), ([(73, 2), (74, 3), (75, 4)], [71, 72, 73, 74, 75], 0, 0, false), ([(73, 2), (74, 3), (75, 4), (76, 5)], [71, 72, 73, 74, 75, 76], 0, 0, false), ([(71, 0), (72, 1), (73, 2), (74, 3), (75, 4), (76, 5), (77, 6)], [71, 72, 73, 74, 75, 76, 77], 0, 0, false), ([(71, 0), (72, 1), (73, 2), (74, 3), (75, 4), (76, 5), (77, 6), (78, 7)], [71, 72, 73, 74, 75, 76, 77, 78], 0, 0, false)]
          [(71, 0), (72, 1), (73, 2), (74, 3), (75, 4), (76, 5), (77, 6), (78, 7), (9, 8)] 0
          [(0, _), (1, _), (4, _), (6, _), (7, _)] [_, _, _, _, _, _, _, _, _] [H6] rfl (by kernel_rfl)
        case hF => exact ⟨rfl, rfl, rfl, rfl, rfl, trivial⟩
        case h0 => rfl
        case steps =>
          (try (conv => whnf)); repeat' (first | (refine Ob.of rfl ?_; (conv => whnf)) | exact Leaf.mk rfl rfl | (refine Ob.of (ald rfl rfl (by assumption) rfl) ?_; (conv => whnf)) | (refine And.intro ?_ ?_ <;> (conv => whnf)) | (refine Ob.of (by first | exact rem_ok hz | exact ald rfl rfl hr6 rfl | exact ald rfl rfl hx6 rfl) ?_; (conv => whnf)) | (refine Ob2.of (by first | exact rem_ok hz | exact ald rfl rfl hr6 rfl | exact ald rfl rfl hx6 rfl) ?_; (conv => whnf)) | (refine Ob2.of (by rfl) ?_; (conv => whnf)) | exact True.intro | (first | (refine Ob.of (by first | rfl | (exact ald rfl rfl (by assumption) rfl) | (exact ald_agg rfl rfl rfl (by assumption) rfl)) ?_; (conv => whnf)) | (refine bIf.yes (by first | assumption | rfl) ?_; (conv => whnf)) | (refine bIf.no (by first | assumption | rfl) ?_; (conv => whnf))))
        by_cases hneg : n.tmod (cs.length : Int) < 0
        · have d9 : decide (n.tmod (cs.length : Int) < 0) = true := decide_eq_true hneg
          (try (conv => whnf)); repeat (first | (refine Ob.of (by first | rfl | (exact ald rfl rfl (by assumption) rfl) | (exact ald_agg rfl rfl rfl (by assumption) rfl)) ?_; (conv => whnf)) | (refine bIf.yes (by first | assumption | rfl) ?_; (conv => whnf)) | (refine bIf.no (by first | assumption | rfl) ?_; (conv => whnf)))
          refine Ob.store (off := 0) rfl rfl rfl h66 rfl (by first | exact Nat.le_of_ble_eq_true rfl | simp) fun H8 w1 w2 w3 => ?_
          (try (conv => whnf)); repeat (first | (refine Ob.of (by first | rfl | (exact ald rfl rfl (by assumption) rfl) | (exact ald_agg rfl rfl rfl (by assumption) rfl)) ?_; (conv => whnf)) | (refine bIf.yes (by first | assumption | rfl) ?_; (conv => whnf)) | (refine bIf.no (by first | assumption | rfl) ?_; (conv => whnf)))
          exact fin _ H8 after (k, IntKind.i64.wrap (n.tmod (cs.length : Int) + (cs.length : Int))) ⟨rfl, rfl, rfl, rfl, trivial⟩ w1 (w2.at o1 (by omega)) (fun y B y1 y2 y3 => w2.at y1 y3) (by omega) (by rw [ha]) (by rw [ho, tmod_up hF, if_pos hneg, rem_in hF (by omega)])
        · have d9 : decide (n.tmod (cs.length : Int) < 0) = false := decide_eq_false hneg
          (try (conv => whnf)); repeat (first | (refine Ob.of (by first | rfl | (exact ald rfl rfl (by assumption) rfl) | (exact ald_agg rfl rfl rfl (by assumption) rfl)) ?_; (conv => whnf)) | (refine bIf.yes (by first | assumption | rfl) ?_; (conv => whnf)) | (refine bIf.no (by first | assumption | rfl) ?_; (conv => whnf)))
          refine Ob.store (off := 0) rfl rfl rfl h66 rfl (by first | exact Nat.le_of_ble_eq_true rfl | simp) fun H8 w1 w2 w3 => ?_
          (try (conv => whnf)); repeat (first | (refine Ob.of (by first | rfl | (exact ald rfl rfl (by assumption) rfl) | (exact ald_agg rfl rfl rfl (by assumption) rfl)) ?_; (conv => whnf)) | (refine bIf.yes (by first | assumption | rfl) ?_; (conv => whnf)) | (refine bIf.no (by first | assumption | rfl) ?_; (conv => whnf)))
          exact fin _ H8 after (k, n.tmod (cs.length : Int)) ⟨rfl, rfl, rfl, rfl, trivial⟩ w1 (w2.at o1 (by omega)) (fun y B y1 y2 y3 => w2.at y1 y3) (by omega) (by rw [ha]) (by rw [ho, tmod_up hF, if_neg hneg])
      · have dF : decide ((cs.length : Int) > 0) = false := decide_eq_false hF
        have ho : nxO cs.length after (k, n) = (0, 0) := by
          simp only [nxO]
          rw [if_neg c1, if_neg c6, if_neg (fun h => hF h.2)]
        (try (conv => whnf)); repeat (first | (refine Ob.of (by first | rfl | (exact ald rfl rfl (by assumption) rfl) | (exact ald_agg rfl rfl rfl (by assumption) rfl)) ?_; (conv => whnf)) | (refine bIf.yes (by first | assumption | rfl) ?_; (conv => whnf)) | (refine bIf.no (by first | assumption | rfl) ?_; (conv => whnf)))
        exact fin _ H6 after (0, 0) ⟨rfl, rfl, rfl, rfl, trivial⟩ h66 o1 (fun y B y1 _ _ => y1) (Nat.le_refl _) (by rw [ha]) (by rw [ho])
    · have ho : nxO cs.length after (k, n) = (0, 0) := by
        simp only [nxO]
        rw [if_neg c1, if_neg c6, if_neg (fun h => ck h.1)]
      by_cases c2 : k ≥ 2
      · have d2 : decide (k ≥ 2) = true := decide_eq_true c2
        have d5 : decide (k ≤ 5) = false := decide_eq_false (by omega)
        (try (conv => whnf)); repeat (first | (refine Ob.of (by first | rfl | (exact ald rfl rfl (by assumption) rfl) | (exact ald_agg rfl rfl rfl (by assumption) rfl)) ?_; (conv => whnf)) | (refine bIf.yes (by first | assumption | rfl) ?_; (conv => whnf)) | (refine bIf.no (by first | assumption | rfl) ?_; (conv => whnf)))
        exact fin _ H6 after (0, 0) ⟨rfl, rfl, rfl, rfl, trivial⟩ h66 o1 (fun y B y1 _ _ => y1) (Nat.le_refl _) (by rw [ha]) (by rw [ho])
      · have d2 : decide (k ≥ 2) = false := decide_eq_false c2
        (try (conv => whnf)); repeat (first | (refine Ob.of (by first | rfl | (exact ald rfl rfl (by assumption) rfl) | (exact ald_agg rfl rfl rfl (by assumption) rfl)) ?_; (conv => whnf)) | (refine bIf.yes (by first | assumption | rfl) ?_; (conv => whnf)) | (refine bIf.no (by first | assumption | rfl) ?_; (conv => whnf)))
        exact fin _ H6 after (0, 0) ⟨rfl, rfl, rfl, rfl, trivial⟩ h66 o1 (fun y B y1 _ _ => y1) (Nat.le_refl _) (by rw [ha]) (by rw [ho])
  · have hd : L.drop taken = [] := List.drop_eq_nil_iff.2 (by omega)
    rw [hd]
    refine SW.seq (RMid H r L taken after cs (0, 0) f) (bC_sound _ _ _ _ ?_) fun fr H4 hm => rcall_end hlt hm hn ⟨_, _, _, rfl⟩ fun H' n1 n2 => ⟨rfl, ⟨taken, n1, hd⟩, n2⟩
    have t1 : decide ((taken : Int) < (L.length : Int)) = false := decide_eq_false (by omega)
    rcases h3 with ⟨rfl, rfl⟩ | ⟨bl, c, h0, rfl, h3, hp, hc⟩
    all_goals
      (conv => whnf)
      apply SW.draw2 [([], [15, 16, 17, 18, 19], 0, 0, false), ([(11, 0)], [11, 15, 16, 17, 18, 19], 0, 0, false), ([(11, 0), (12, 1)], [11, 12, 15, 16, 17, 18, 19], 0, 0, false), ([(11, 0), (12, 1), (13, 2)], [11, 12, 13, 15, 16, 17, 18, 19], 0, 0, false), ([], [11, 12, 13, 14], 0, 0, false), ([(15, 4)], [11, 12, 13, 14, 15], 0, 0, false), ([(15, 4), (16, 5)], [11, 12, 13, 14, 15, 16], 0, 0, false), ([(15, 4), (16, 5), (17, 6)], [11, 12, 13, 14, 15, 16, 17], 0, 0, false), ([(15, 4), (16, 5), (17, 6), (18, 7)], [11, 12, 13, 14, 15, 16, 17, 18], 0, 0, false), ([(11, 0), (12, 1), (13, 2), (14, 3), (15, 4), (16, 5), (17, 6), (18, 7), (19, 8)], [11, 12, 13, 14, 15, 16, 17, 18, 19], 0, 0, false)]
        [(11, 0), (12, 1), (13, 2), (14, 3), (15, 4), (16, 5), (17, 6), (18, 7), (19, 8), (20, 9)] 0
        [(0, _), (1, _), (4, _), (6, _)] [_, _, _, _, _, _, _, _, _, _] [H3] rfl (by kernel_rfl)
      case hF => exact ⟨rfl, rfl, rfl, rfl, trivial⟩
      case h0 => rfl
      case steps =>
        (try (conv => whnf)); repeat' (first | (refine Ob.of rfl ?_; (conv => whnf)) | exact Leaf.mk rfl rfl | (refine Ob.of (ald rfl rfl (by assumption) rfl) ?_; (conv => whnf)) | (refine And.intro ?_ ?_ <;> (conv => whnf)) | (refine Ob.of (by rfl) ?_; (conv => whnf)) | (refine Ob2.of (by rfl) ?_; (conv => whnf)) | (refine Ob2.of (by rfl) ?_; (conv => whnf)) | exact True.intro | (first | (refine Ob.of (by first | rfl | (exact ald rfl rfl (by assumption) rfl) | (exact ald_agg rfl rfl rfl (by assumption) rfl)) ?_; (conv => whnf)) | (refine bIf.yes (by first | assumption | rfl) ?_; (conv => whnf)) | (refine bIf.no (by first | assumption | rfl) ?_; (conv => whnf))))
      (try (conv => whnf)); repeat (first | (refine Ob.of (by first | rfl | (exact ald rfl rfl (by assumption) rfl) | (exact ald_agg rfl rfl rfl (by assumption) rfl)) ?_; (conv => whnf)) | (refine bIf.yes (by first | assumption | rfl) ?_; (conv => whnf)) | (refine bIf.no (by first | assumption | rfl) ?_; (conv => whnf)))
      exact ⟨q4, q6, ⟨rfl, rfl, rfl, rfl, trivial⟩, h4, h6, by omega, by omega, by omega, h.grow g3, .grow g3⟩
end Go.Proofs.Ytdceiblihamfmaa
