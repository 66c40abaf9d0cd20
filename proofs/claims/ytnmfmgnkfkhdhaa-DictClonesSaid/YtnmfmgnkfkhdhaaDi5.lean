/- A dict in abstract memory: a name that is not there is set. -/
import Derived.Test.YtnmfmgnkfkhdhaaDi4
set_option linter.unusedVariables false
set_option linter.unusedSimpArgs false
set_option maxRecDepth 20000
set_option maxHeartbeats 1000000
namespace Go.Proofs.Ytnmfmgnkfkhdhaa
open Go Ax
theorem app_place {H : Heap} {sv : Value} {ps : Places} (n : ByteArray) (v : V) (h : PlS H sv ps) (hl : ps.length ≤ 1000000) :
    ∃ q H3 sv' H4, abuildSlice Try.prog 49 1 [(0, .agg #[.string n, .int .i64 v.1, .int .i64 v.2.1, .string v.2.2, .bool true])] H = some (.slice (some ⟨q, 0, none⟩) 1 5, H3) ∧ Grow H H3 ∧
      aappend Try.prog 49 49 sv (.slice (some ⟨q, 0, none⟩) 1 5) H3 = some (sv', H4) ∧ PlS H4 sv' (ps ++ [some (n, v)]) ∧ vcells sv' = some [sv'] ∧ H.length ≤ H4.length ∧
      (∀ (k : Nat) (B : Blk), H[k]? = some B → (∀ c, B ≠ .cells (.row 56) c) → H4[k]? = some B) ∧ (∀ (k : Nat) (B : Blk), H[k]? = some B → (∀ b n e, sv = .slice (some ⟨b, 0, none⟩) n e → k ≠ b) → H4[k]? = some B) ∧ ∀ (k n e : Nat), sv' = .slice (some ⟨k, 0, none⟩) n e → H.length ≤ k := by
  have hq : (H ++ [Blk.cells (.row 56) (cellP (some (n, v)))])[H.length]? = some (.cells (.row 56) (cellP (some (n, v)))) := at_push _ _
  have hsrc : asrc 5 (.slice (some ⟨H.length, 0, none⟩) 1 5) (H ++ [Blk.cells (.row 56) (cellP (some (n, v)))]) = some (1, cellP (some (n, v))) := src_some (by decide) (hblk_of hq) rfl
  have g := Grow.push H [Blk.cells (.row 56) (cellP (some (n, v)))]
  rcases h with ⟨rfl, rfl⟩ | ⟨b, rest, rfl, h2⟩
  · refine ⟨_, _, _, _, rfl, g, append_nil (k := 5) (e := 56) (zs := cellP none) rfl rfl rfl rfl rfl (by decide) rfl rfl rfl hsrc (by decide) (by decide) (by decide), .inr ⟨_, [], rfl, ?_⟩, rfl, by simp, fun k B hk _ => (Grow.push _ _).at (g.at hk), fun k B hk _ => (Grow.push _ _).at (g.at hk), fun k n e hv => by cases hv; simp⟩
    exact at_push _ _
  · have hb := g.at h2
    have ho : slotsOf (cellsP ps ++ rest) 0 (ps.length * 5) = some (cellsP ps) := by
      rw [slots_of (by rw [List.length_append, cellsP_len]; omega), List.drop_zero, List.take_left' (cellsP_len ps)]
    refine ⟨_, _, _, _, rfl, g, append_row (k := 5) (e := 56) (zs := cellP none) rfl rfl rfl rfl rfl (by decide) rfl rfl rfl hsrc (by decide) hb ho (show (ps.length + 1) * 56 ≤ _ by omega) (by simp only [maxLen]; omega), .inr ⟨(H ++ [Blk.cells (.row 56) (cellP (some (n, v)))]).length, [], by simp, ?_⟩, rfl, by simp; omega, fun k B hk hn => ?_, fun k B hk hn => ?_, fun k n e hv => by cases hv; simp⟩
    · rw [List.getElem?_append_right (by simp)]
      simp [cellsP]
    · have := g.at hk
      rw [List.getElem?_append_left (by rw [List.length_set]; exact lt_at this), List.getElem?_set_ne (by rintro rfl; rw [hb] at this; simp only [Option.some.injEq] at this; exact hn _ this.symm)]
      exact this
    · have := g.at hk
      rw [List.getElem?_append_left (by rw [List.length_set]; exact lt_at this), List.getElem?_set_ne (Ne.symm (hn b _ _ rfl))]
      exact this
theorem set_new {H : Heap} {p : Nat} {ps : Places} (h : DR H p ps) {n : ByteArray} (hn : ∀ (i : Nat) (v : V), ps[i]? ≠ some (some (n, v))) (v : V) (hlen : ps.length ≤ 1000000) :
    AX Try.prog 13 #[ptr p, .string n, valV v] H (fun r H' => r = .bool true ∧ DR H' p (ps ++ [some (n, v)]) ∧ FrD p H H') := by
  refine AX.body (n := 51) (rs := [.tmp 6]) Try.func13 rfl (by decide) rfl rfl (bC_sound _ _ _ _ ?_)
  (conv => whnf)
  refine Ob2.box rfl fun q H1 hq k1 k2 => ?_
  have hp := h.lt
  have h1 := h.grow k2
  (try (conv => whnf)); (repeat (first | (refine Ob.of (by first | with_reducible assumption | with_reducible exact ex20 _ _ | with_reducible exact ex21 _ _ | with_reducible exact ex30 _ _ _ | with_reducible exact ex31 _ _ _ | with_reducible exact ex32 _ _ _ | rfl | (exact ald rfl rfl (by assumption) rfl) | (exact ald_agg rfl rfl rfl (by assumption) rfl)) ?_; (conv => whnf)) | (refine bIf.yes (by first | assumption | rfl) ?_; (conv => whnf)) | (refine bIf.no (by first | assumption | rfl) ?_; (conv => whnf))))
  refine (dead_ax h1).mono ?_
  rintro _ X ⟨rfl, e⟩
  subst X
  obtain ⟨mb, sv, em, g1, g2, g3, g4⟩ := h1
  have hb := hblk_of g1
  have hnot := g3.not hn
  have hl := look_none g2 hnot
  obtain ⟨H2, hH2⟩ : ∃ H2, H2 = H1.set mb (.map true (ents (em ++ [(n, ps.length)]))) := ⟨_, rfl⟩
  have hup := upd_new (k := ps.length) g2 hnot
  rw [← hH2] at hup
  have hmp : mb ≠ p := by rintro rfl; rw [g1] at g2; cases g2
  have hmq : mb ≠ q := by rintro rfl; rw [k1] at g2; cases g2
  have c1 : H2[p]? = some (.cells .var [.map (some mb), sv]) := by rw [hH2, List.getElem?_set_ne hmp]; exact g1
  have c2 : H2[mb]? = some (.map true (ents (em ++ [(n, ps.length)]))) := by rw [hH2]; exact at_set g2
  have c3 : H2[q]? = some (.cells .var (valC v)) := by rw [hH2, List.getElem?_set_ne hmq]; exact k1
  have c4 : PlS H2 sv ps := g4.keep fun b c hbc => by rw [hH2, List.getElem?_set_ne (by rintro rfl; rw [g2] at hbc; cases hbc)]; exact hbc
  have c5 : H2.length = H1.length := by rw [hH2]; simp
  have hb2 := hblk_of c1
  obtain ⟨q2, H3, sv', H4, e1, e1g, e2, m1, m2, m3, m4, m5, m6⟩ := app_place n v c4 hlen
  have d1 := m4 p _ c1 (by simp)
  have d2 := m4 mb _ c2 (by simp)
  have d3 := m4 q _ c3 (by simp)
  have L2 : aload Try.prog 32 (.pointer (some ⟨q, 0, none⟩)) H2 = some (valV v) := ald_agg rfl rfl rfl (hblk_of c3) rfl
  have L3 : aload Try.prog 32 (.pointer (some ⟨q, 0, none⟩)) H3 = some (valV v) := ald_agg rfl rfl rfl (hblk_of (e1g.at c3)) rfl
  have L4 : aload Try.prog 32 (.pointer (some ⟨q, 0, none⟩)) H4 = some (valV v) := ald_agg rfl rfl rfl (hblk_of d3) rfl
  have hb3 := hblk_of (e1g.at c1)
  have hb4 := hblk_of d1
  obtain ⟨H5, hst, s1, s2, s3⟩ := store_ex (P := Try.prog) (t := 49) (off := 0 + 1) (v := sv') m2 rfl rfl d1 rfl (by show 0 + 1 + 1 ≤ 2; omega)
  have hl2 : alen Try.prog 49 sv H1 = some (.int .i64 (ps.length : Int)) := by
    rcases g4 with ⟨rfl, rfl⟩ | ⟨b, rest, rfl, _⟩ <;> rfl
  (try (conv => whnf)); (repeat (first | (refine Ob.of (by first | with_reducible assumption | with_reducible exact ex20 _ _ | with_reducible exact ex21 _ _ | with_reducible exact ex30 _ _ _ | with_reducible exact ex31 _ _ _ | with_reducible exact ex32 _ _ _ | rfl | (exact ald rfl rfl (by assumption) rfl) | (exact ald_agg rfl rfl rfl (by assumption) rfl)) ?_; (conv => whnf)) | (refine bIf.yes (by first | assumption | rfl) ?_; (conv => whnf)) | (refine bIf.no (by first | assumption | rfl) ?_; (conv => whnf))))
  apply SW.draw2 [([], [33, 34, 35, 36, 37, 38], 0, 0, false), ([(29, 0)], [29, 33, 34, 35, 36, 37, 38], 0, 0, false), ([(29, 0), (30, 1)], [29, 30, 33, 34, 35, 36, 37, 38], 0, 0, false), ([(29, 0), (30, 1), (31, 2)], [29, 30, 31, 33, 34, 35, 36, 37, 38], 0, 0, false), ([], [29, 30, 31, 32, 34, 35, 36, 37, 38], 0, 0, false), ([], [29, 30, 31, 32, 33], 0, 0, false), ([(34, 5)], [29, 30, 31, 32, 33, 34], 0, 0, false), ([(34, 5), (35, 6)], [29, 30, 31, 32, 33, 34, 35], 0, 0, false), ([(34, 5), (35, 6), (36, 7)], [29, 30, 31, 32, 33, 34, 35, 36], 0, 0, false), ([(34, 5), (35, 6), (36, 7), (37, 8)], [29, 30, 31, 32, 33, 34, 35, 36, 37], 0, 0, false), ([(29, 0), (30, 1), (31, 2), (32, 3), (33, 4), (34, 5), (35, 6), (36, 7), (37, 8), (38, 9)], [29, 30, 31, 32, 33, 34, 35, 36, 37, 38], 0, 0, true)]
    [(29, 0), (30, 1), (31, 2), (32, 3), (33, 4), (34, 5), (35, 6), (36, 7), (37, 8), (38, 9)] 1
    [(0, _), (1, _), (5, _)] [_, _, _, _, _, _, _, _, _, _, _] [H1, H2] rfl (by kernel_rfl)
  case hF => exact ⟨rfl, rfl, rfl, trivial⟩
  case h0 => rfl
  case steps =>
    (try (conv => whnf)); repeat' (first | ((with_reducible refine Ob.of hl2 ?_); (conv => whnf)) | ((with_reducible refine Ob2.of hl2 ?_); (conv => whnf)) | (refine And.intro ?_ ?_ <;> (conv => whnf)) | exact Leaf.mk rfl rfl | exact True.intro | (refine Ob.of hup ?_; (conv => whnf)) | (refine Ob.of rfl ?_; (conv => whnf)) | (refine Ob2.of (by rfl) ?_; (conv => whnf)) | (first | (refine Ob.of (by first | with_reducible assumption | with_reducible exact ex20 _ _ | with_reducible exact ex21 _ _ | with_reducible exact ex30 _ _ _ | with_reducible exact ex31 _ _ _ | with_reducible exact ex32 _ _ _ | rfl | (exact ald rfl rfl (by assumption) rfl) | (exact ald_agg rfl rfl rfl (by assumption) rfl)) ?_; (conv => whnf)) | (refine bIf.yes (by first | assumption | rfl) ?_; (conv => whnf)) | (refine bIf.no (by first | assumption | rfl) ?_; (conv => whnf))))
  (try (conv => whnf)); (repeat (first | (refine Ob.of (by first | with_reducible assumption | with_reducible exact ex20 _ _ | with_reducible exact ex21 _ _ | with_reducible exact ex30 _ _ _ | with_reducible exact ex31 _ _ _ | with_reducible exact ex32 _ _ _ | rfl | (exact ald rfl rfl (by assumption) rfl) | (exact ald_agg rfl rfl rfl (by assumption) rfl)) ?_; (conv => whnf)) | (refine bIf.yes (by first | assumption | rfl) ?_; (conv => whnf)) | (refine bIf.no (by first | assumption | rfl) ?_; (conv => whnf))))
  apply SW.draw2 [([], [40, 41, 42, 43, 44, 45, 46, 47, 48], 0, 2, false), ([], [39, 44, 45, 46, 47], 0, 1, false), ([(40, 1)], [39, 40, 44, 45, 46, 47], 0, 1, false), ([(40, 1), (41, 2)], [39, 40, 41, 44, 45, 46, 47], 0, 1, false), ([(40, 1), (41, 2), (42, 3)], [39, 40, 41, 42, 44, 45, 46, 47], 0, 1, false), ([], [39, 40, 41, 42, 43, 45], 0, 0, false), ([], [39, 40, 41, 42, 43, 44], 0, 0, false), ([(44, 5), (45, 6)], [39, 40, 41, 42, 43, 44, 45], 0, 0, false), ([(44, 5), (45, 6), (46, 7)], [39, 40, 41, 42, 43, 44, 45, 46], 0, 0, true), ([(40, 1), (41, 2), (42, 3), (43, 4), (44, 5), (45, 6), (46, 7), (47, 8)], [39, 40, 41, 42, 43, 44, 45, 46, 47], 1, 0, true), ([(39, 0), (40, 1), (41, 2), (42, 3), (43, 4), (44, 5), (45, 6), (46, 7), (47, 8), (48, 9)], [39, 40, 41, 42, 43, 44, 45, 46, 47, 48], 2, 0, false), ([(39, 0), (40, 1), (41, 2), (42, 3), (43, 4), (44, 5), (45, 6), (46, 7), (47, 8), (48, 9), (49, 10)], [39, 40, 41, 42, 43, 44, 45, 46, 47, 48, 49], 2, 0, false), ([(39, 0), (40, 1), (41, 2), (42, 3), (43, 4), (44, 5), (45, 6), (46, 7), (47, 8), (48, 9), (49, 10), (50, 11)], [39, 40, 41, 42, 43, 44, 45, 46, 47, 48, 49, 50], 2, 0, true)]
    [(39, 0), (40, 1), (41, 2), (42, 3), (43, 4), (44, 5), (45, 6), (46, 7), (47, 8), (48, 9), (49, 10), (50, 11)] 3
    [(0, _), (1, _), (5, _)] [_, _, _, _, _, _, _, _, _, _, _, _, _] [H2, H3, H4, H5] rfl (by kernel_rfl)
  case hF => exact ⟨rfl, rfl, rfl, trivial⟩
  case h0 => rfl
  case steps =>
    (try (conv => whnf)); repeat' (first | ((with_reducible refine Ob.of L2 ?_); (conv => whnf)) | ((with_reducible refine Ob.of L3 ?_); (conv => whnf)) | ((with_reducible refine Ob.of L4 ?_); (conv => whnf)) | ((with_reducible refine Ob2.of L2 ?_); (conv => whnf)) | ((with_reducible refine Ob2.of L3 ?_); (conv => whnf)) | ((with_reducible refine Ob2.of L4 ?_); (conv => whnf)) | (refine And.intro ?_ ?_ <;> (conv => whnf)) | exact Leaf.mk rfl rfl | exact True.intro | (refine Ob2.of e1 ?_; (conv => whnf)) | (refine Ob2.of e2 ?_; (conv => whnf)) | (refine Ob.of hst ?_; (conv => whnf)) | (refine Ob.of rfl ?_; (conv => whnf)) | (refine Ob2.of (by rfl) ?_; (conv => whnf)) | (first | (refine Ob.of (by first | with_reducible assumption | with_reducible exact ex20 _ _ | with_reducible exact ex21 _ _ | with_reducible exact ex30 _ _ _ | with_reducible exact ex31 _ _ _ | with_reducible exact ex32 _ _ _ | rfl | (exact ald rfl rfl (by assumption) rfl) | (exact ald_agg rfl rfl rfl (by assumption) rfl)) ?_; (conv => whnf)) | (refine bIf.yes (by first | assumption | rfl) ?_; (conv => whnf)) | (refine bIf.no (by first | assumption | rfl) ?_; (conv => whnf))))
  (try (conv => whnf)); (repeat (first | (refine Ob.of (by first | with_reducible assumption | with_reducible exact ex20 _ _ | with_reducible exact ex21 _ _ | with_reducible exact ex30 _ _ _ | with_reducible exact ex31 _ _ _ | with_reducible exact ex32 _ _ _ | rfl | (exact ald rfl rfl (by assumption) rfl) | (exact ald_agg rfl rfl rfl (by assumption) rfl)) ?_; (conv => whnf)) | (refine bIf.yes (by first | assumption | rfl) ?_; (conv => whnf)) | (refine bIf.no (by first | assumption | rfl) ?_; (conv => whnf))))
  refine ⟨rfl, ⟨mb, sv', em ++ [(n, ps.length)], s1, s2.at d2 hmp, g3.push hn v, m1.keep fun b c hbc => s2.at hbc (by rintro rfl; rw [d1] at hbc; simp at hbc)⟩, ?_⟩
  refine FrD.begin k2 hp (FrD.of g1 ⟨by have := s2.1; omega, fun k B hk hks => ?_⟩ s1 fun k n e h hlt => ?_)
  · have hkp : k ≠ p := fun e => hks (.inl e)
    have hkm : k ≠ mb := by rintro rfl; exact hks (.inr ⟨_, _, g1, .inl rfl⟩)
    refine s2.at (m5 k B (by rw [hH2, List.getElem?_set_ne (Ne.symm hkm)]; exact hk) fun b n e hsv => ?_) hkp
    rintro rfl
    exact hks (.inr ⟨_, _, g1, .inr ⟨_, _, hsv⟩⟩)
  · have := m6 k n e h
    omega
end Go.Proofs.Ytnmfmgnkfkhdhaa
