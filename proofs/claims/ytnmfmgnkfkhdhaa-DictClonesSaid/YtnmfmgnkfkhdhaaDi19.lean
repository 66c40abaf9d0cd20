/- A dict in abstract memory: a clone. -/
import Derived.Test.YtnmfmgnkfkhdhaaDi18
set_option linter.unusedVariables false
set_option linter.unusedSimpArgs false
set_option maxRecDepth 20000
set_option maxHeartbeats 2000000
namespace Go.Proofs.Ytnmfmgnkfkhdhaa
open Go Ax
theorem mclone_ax {H : Heap} {mb : Nat} {es : List (Value × Value)} (h : H[mb]? = some (.map true es)) :
    AX Try.prog 25 #[.map (some mb)] H (fun v H' => v = .map (some H.length) ∧ H' = H ++ [.map true es]) := by
  have hc : aclone (.iface 48 (.map (some mb))) H = some (.iface 48 (.map (some H.length)), H ++ [.map true es]) := by simp [aclone, hmap_of h]
  refine AX.body (n := 9) (rs := [.tmp 2]) Try.func25 rfl (by decide) rfl rfl (bC_sound _ _ _ _ ?_)
  (try (conv => whnf)); (repeat (first | (refine Ob.of (by first | with_reducible assumption | with_reducible exact ex20 _ _ | with_reducible exact ex21 _ _ | with_reducible exact ex30 _ _ _ | with_reducible exact ex31 _ _ _ | with_reducible exact ex32 _ _ _ | rfl | (exact ald rfl rfl (by assumption) rfl) | (exact ald_agg rfl rfl rfl (by assumption) rfl)) ?_; (conv => whnf)) | (refine bIf.yes (by first | assumption | rfl) ?_; (conv => whnf)) | (refine bIf.no (by first | assumption | rfl) ?_; (conv => whnf))))
  refine Ob2.of hc ?_
  (try (conv => whnf)); (repeat (first | (refine Ob.of (by first | with_reducible assumption | with_reducible exact ex20 _ _ | with_reducible exact ex21 _ _ | with_reducible exact ex30 _ _ _ | with_reducible exact ex31 _ _ _ | with_reducible exact ex32 _ _ _ | rfl | (exact ald rfl rfl (by assumption) rfl) | (exact ald_agg rfl rfl rfl (by assumption) rfl)) ?_; (conv => whnf)) | (refine bIf.yes (by first | assumption | rfl) ?_; (conv => whnf)) | (refine bIf.no (by first | assumption | rfl) ?_; (conv => whnf))))
  exact ⟨rfl, rfl⟩
theorem sclone_ax {H : Heap} {sv : Value} {ps : Places} (h : PlS H sv ps) (hlen : ps.length ≤ 1000000) :
    ∃ v' H', AX Try.prog 26 #[sv] H (fun v K => v = v' ∧ K = H') ∧ PlS H' v' ps ∧ Grow H H' ∧ ∀ (k n e : Nat), v' = .slice (some ⟨k, 0, none⟩) n e → H.length ≤ k := by
  rcases h with ⟨rfl, rfl⟩ | ⟨b, rest, rfl, h2⟩
  · refine ⟨.slice none 0 0, H, ?_, .inl ⟨rfl, rfl⟩, .refl _, fun k n e h => by cases h⟩
    refine AX.body (n := 8) (rs := [.tmp 2]) Try.func26 rfl (by decide) rfl rfl (bC_sound _ _ _ _ ?_)
    (try (conv => whnf)); (repeat (first | (refine Ob.of (by first | with_reducible assumption | with_reducible exact ex20 _ _ | with_reducible exact ex21 _ _ | with_reducible exact ex30 _ _ _ | with_reducible exact ex31 _ _ _ | with_reducible exact ex32 _ _ _ | rfl | (exact ald rfl rfl (by assumption) rfl) | (exact ald_agg rfl rfl rfl (by assumption) rfl)) ?_; (conv => whnf)) | (refine bIf.yes (by first | assumption | rfl) ?_; (conv => whnf)) | (refine bIf.no (by first | assumption | rfl) ?_; (conv => whnf))))
    exact ⟨rfl, rfl⟩
  · have g := Grow.push H [Blk.cells (.row 56) []]
    have hq : (H ++ [Blk.cells (.row 56) []])[H.length]? = some (.cells (.row 56) []) := at_push _ _
    have hb := g.at h2
    by_cases h0 : ps.length = 0
    · have hps := List.eq_nil_of_length_eq_zero h0
      subst hps
      refine ⟨.slice (some ⟨H.length, 0, none⟩) 0 5, H ++ [.cells (.row 56) []], ?_, .inr ⟨_, [], rfl, hq⟩, g, fun k n e h => by cases h; exact Nat.le_refl _⟩
      have ha : aappend Try.prog 49 49 (.slice (some ⟨H.length, 0, none⟩) 0 5) (.slice (some ⟨b, 0, none⟩) 0 5) (H ++ [.cells (.row 56) []]) = some (.slice (some ⟨H.length, 0, none⟩) 0 5, H ++ [.cells (.row 56) []]) :=
        append_zero (k := 5) (e := 56) (zs := cellP none) rfl rfl rfl rfl rfl (by decide) rfl rfl rfl (src_zero rfl) (.inr ⟨_, _, rfl⟩)
      refine AX.body (n := 8) (rs := [.tmp 2]) Try.func26 rfl (by decide) rfl rfl (bC_sound _ _ _ _ ?_)
      (try (conv => whnf)); (repeat (first | (refine Ob.of (by first | with_reducible assumption | with_reducible exact ex20 _ _ | with_reducible exact ex21 _ _ | with_reducible exact ex30 _ _ _ | with_reducible exact ex31 _ _ _ | with_reducible exact ex32 _ _ _ | rfl | (exact ald rfl rfl (by assumption) rfl) | (exact ald_agg rfl rfl rfl (by assumption) rfl)) ?_; (conv => whnf)) | (refine bIf.yes (by first | assumption | rfl) ?_; (conv => whnf)) | (refine bIf.no (by first | assumption | rfl) ?_; (conv => whnf))))
      refine Ob2.of (a := .slice (some ⟨H.length, 0, none⟩) 0 5) (b := H ++ [.cells (.row 56) []]) rfl ?_
      (try (conv => whnf)); (repeat (first | (refine Ob.of (by first | with_reducible assumption | with_reducible exact ex20 _ _ | with_reducible exact ex21 _ _ | with_reducible exact ex30 _ _ _ | with_reducible exact ex31 _ _ _ | with_reducible exact ex32 _ _ _ | rfl | (exact ald rfl rfl (by assumption) rfl) | (exact ald_agg rfl rfl rfl (by assumption) rfl)) ?_; (conv => whnf)) | (refine bIf.yes (by first | assumption | rfl) ?_; (conv => whnf)) | (refine bIf.no (by first | assumption | rfl) ?_; (conv => whnf))))
      refine Ob2.of ha ?_
      (try (conv => whnf)); (repeat (first | (refine Ob.of (by first | with_reducible assumption | with_reducible exact ex20 _ _ | with_reducible exact ex21 _ _ | with_reducible exact ex30 _ _ _ | with_reducible exact ex31 _ _ _ | with_reducible exact ex32 _ _ _ | rfl | (exact ald rfl rfl (by assumption) rfl) | (exact ald_agg rfl rfl rfl (by assumption) rfl)) ?_; (conv => whnf)) | (refine bIf.yes (by first | assumption | rfl) ?_; (conv => whnf)) | (refine bIf.no (by first | assumption | rfl) ?_; (conv => whnf))))
      exact ⟨rfl, rfl⟩
    · have hs : slotsOf (cellsP ps ++ rest) 0 (ps.length * 5) = some (cellsP ps) := by rw [slots_of (by rw [List.length_append, cellsP_len]; omega), List.drop_zero, List.take_left' (cellsP_len ps)]
      have hsrc : asrc 5 (.slice (some ⟨b, 0, none⟩) ps.length 5) (H ++ [.cells (.row 56) []]) = some (ps.length, cellsP ps) := src_some h0 (hblk_of hb) hs
      have ha := append_row (P := Try.prog) (t := 49) (tx := 49) (m := 0) (off := 0) (k := 5) (e := 56) (zs := cellP none) rfl rfl rfl rfl rfl (by decide) rfl rfl rfl hsrc h0 hq (show slotsOf [] 0 (0 * 5) = some [] from rfl) (show (0 + ps.length) * 56 ≤ _ by omega) (by simp only [maxLen]; omega)
      refine ⟨.slice (some ⟨(H ++ [Blk.cells (.row 56) []]).length, 0, none⟩) ps.length 5, (H ++ [Blk.cells (.row 56) []]).set H.length .dead ++ [.cells (.row 56) ([] ++ cellsP ps)], ?_, .inr ⟨(H ++ [Blk.cells (.row 56) []]).length, [], rfl, ?_⟩, ?_, fun k n e h => ?_⟩
      rotate_left
      · rw [List.getElem?_append_right (by simp)]
        simp
      · refine ⟨by simp, fun k hk => ?_⟩
        rw [List.getElem?_append_left (by simp; omega), List.getElem?_set_ne (by omega), List.getElem?_append_left hk]
      · cases h; simp
      · rw [Nat.zero_add] at ha
        refine AX.body (n := 8) (rs := [.tmp 2]) Try.func26 rfl (by decide) rfl rfl (bC_sound _ _ _ _ ?_)
        (try (conv => whnf)); (repeat (first | (refine Ob.of (by first | with_reducible assumption | with_reducible exact ex20 _ _ | with_reducible exact ex21 _ _ | with_reducible exact ex30 _ _ _ | with_reducible exact ex31 _ _ _ | with_reducible exact ex32 _ _ _ | rfl | (exact ald rfl rfl (by assumption) rfl) | (exact ald_agg rfl rfl rfl (by assumption) rfl)) ?_; (conv => whnf)) | (refine bIf.yes (by first | assumption | rfl) ?_; (conv => whnf)) | (refine bIf.no (by first | assumption | rfl) ?_; (conv => whnf))))
        refine Ob2.of (a := .slice (some ⟨H.length, 0, none⟩) 0 5) (b := H ++ [.cells (.row 56) []]) rfl ?_
        (try (conv => whnf)); (repeat (first | (refine Ob.of (by first | with_reducible assumption | with_reducible exact ex20 _ _ | with_reducible exact ex21 _ _ | with_reducible exact ex30 _ _ _ | with_reducible exact ex31 _ _ _ | with_reducible exact ex32 _ _ _ | rfl | (exact ald rfl rfl (by assumption) rfl) | (exact ald_agg rfl rfl rfl (by assumption) rfl)) ?_; (conv => whnf)) | (refine bIf.yes (by first | assumption | rfl) ?_; (conv => whnf)) | (refine bIf.no (by first | assumption | rfl) ?_; (conv => whnf))))
        refine Ob2.of ha ?_
        (try (conv => whnf)); (repeat (first | (refine Ob.of (by first | with_reducible assumption | with_reducible exact ex20 _ _ | with_reducible exact ex21 _ _ | with_reducible exact ex30 _ _ _ | with_reducible exact ex31 _ _ _ | with_reducible exact ex32 _ _ _ | rfl | (exact ald rfl rfl (by assumption) rfl) | (exact ald_agg rfl rfl rfl (by assumption) rfl)) ?_; (conv => whnf)) | (refine bIf.yes (by first | assumption | rfl) ?_; (conv => whnf)) | (refine bIf.no (by first | assumption | rfl) ?_; (conv => whnf))))
        exact ⟨rfl, rfl⟩
theorem clone9 {H : Heap} {p N : Nat} {L : List (ByteArray × V)} (h : Has9 H p L N) (hN : N ≤ 1000000) :
    AX Try.prog 18 #[ptr p] H (fun v H' => ∃ c, v = ptr c ∧ H.length ≤ c ∧ Has9 H' c L N ∧ Grow H H' ∧ ∀ k, Foot H' c k → H.length ≤ k) := by
  obtain ⟨ps, d, rfl, hps⟩ := h
  have hd := d
  obtain ⟨mb, sv, em, g1, g2, g3, g4⟩ := d
  obtain ⟨H1, hH1⟩ : ∃ H1, H1 = H ++ [Blk.map true (ents em)] := ⟨_, rfl⟩
  have gr1 : Grow H H1 := by rw [hH1]; exact .push _ _
  have hm1 : H1[H.length]? = some (.map true (ents em)) := by rw [hH1]; exact at_push _ _
  have hl1 : H1.length = H.length + 1 := by rw [hH1]; simp
  obtain ⟨v', H2, ca, c1, c2, c3⟩ := sclone_ax (g4.keep fun b c hb => gr1.at hb) (show ps.length ≤ 1000000 by omega) (H := H1)
  have cm := mclone_ax g2
  rw [← hH1] at cm
  have hb := hblk_of g1
  have hb1 := hblk_of (gr1.at g1)
  have hvc : vcells v' = some [v'] := by rcases c1 with ⟨rfl, _⟩ | ⟨b, rest, rfl, _⟩ <;> rfl
  have hbu : abuild Try.prog 51 [(0, .map (some H.length)), (1, v')] = some (.agg #[.map (some H.length), v']) := by rcases c1 with ⟨rfl, _⟩ | ⟨b, rest, rfl, _⟩ <;> rfl
  have hbx : abox Try.prog 51 (.agg #[.map (some H.length), v']) H2 = some (ptr H2.length, H2 ++ [.cells .var [.map (some H.length), v']]) := rfl
  refine AX.body (n := 17) (rs := [.tmp 2]) Try.func18 rfl (by decide) rfl rfl (bC_sound _ _ _ _ ?_)
  (try (conv => whnf)); (repeat (first | (refine Ob.of (by first | with_reducible assumption | with_reducible exact ex20 _ _ | with_reducible exact ex21 _ _ | with_reducible exact ex30 _ _ _ | with_reducible exact ex31 _ _ _ | with_reducible exact ex32 _ _ _ | rfl | (exact ald rfl rfl (by assumption) rfl) | (exact ald_agg rfl rfl rfl (by assumption) rfl)) ?_; (conv => whnf)) | (refine bIf.yes (by first | assumption | rfl) ?_; (conv => whnf)) | (refine bIf.no (by first | assumption | rfl) ?_; (conv => whnf))))
  refine (dead_ax hd).mono ?_
  rintro _ X ⟨rfl, e⟩
  subst X
  (try (conv => whnf)); (repeat (first | (refine Ob.of (by first | with_reducible assumption | with_reducible exact ex20 _ _ | with_reducible exact ex21 _ _ | with_reducible exact ex30 _ _ _ | with_reducible exact ex31 _ _ _ | with_reducible exact ex32 _ _ _ | rfl | (exact ald rfl rfl (by assumption) rfl) | (exact ald_agg rfl rfl rfl (by assumption) rfl)) ?_; (conv => whnf)) | (refine bIf.yes (by first | assumption | rfl) ?_; (conv => whnf)) | (refine bIf.no (by first | assumption | rfl) ?_; (conv => whnf))))
  apply SW.draw2 [([], [10, 11, 12, 13], 0, 0, false), ([(5, 0)], [5, 10, 11, 12, 13], 0, 0, false), ([(5, 0), (6, 1)], [5, 6, 10, 11, 12, 13], 0, 0, false), ([(5, 0), (6, 1), (7, 2)], [5, 6, 7, 10, 11, 12, 13], 0, 0, false), ([(5, 0), (6, 1), (7, 2), (8, 3)], [5, 6, 7, 8, 10, 11, 12, 13], 0, 0, true), ([], [5, 6, 7, 8, 9], 0, 1, false), ([(10, 5)], [5, 6, 7, 8, 9, 10], 0, 1, false), ([(10, 5), (11, 6)], [5, 6, 7, 8, 9, 10, 11], 0, 1, false), ([(10, 5), (11, 6), (12, 7)], [5, 6, 7, 8, 9, 10, 11, 12], 0, 1, false), ([(5, 0), (6, 1), (7, 2), (8, 3), (9, 4), (10, 5), (11, 6), (12, 7), (13, 8)], [5, 6, 7, 8, 9, 10, 11, 12, 13], 1, 0, true), ([(5, 0), (6, 1), (7, 2), (8, 3), (9, 4), (10, 5), (11, 6), (12, 7), (13, 8), (14, 9)], [5, 6, 7, 8, 9, 10, 11, 12, 13, 14], 2, 0, false), ([(5, 0), (6, 1), (7, 2), (8, 3), (9, 4), (10, 5), (11, 6), (12, 7), (13, 8), (14, 9), (15, 10)], [5, 6, 7, 8, 9, 10, 11, 12, 13, 14, 15], 2, 0, true), ([(5, 0), (6, 1), (7, 2), (8, 3), (9, 4), (10, 5), (11, 6), (12, 7), (13, 8), (14, 9), (15, 10), (16, 11)], [5, 6, 7, 8, 9, 10, 11, 12, 13, 14, 15, 16], 3, 0, false)]
    [(5, 0), (6, 1), (7, 2), (8, 3), (9, 4), (10, 5), (11, 6), (12, 7), (13, 8), (14, 9), (15, 10), (16, 11), (2, 12)] 3
    [(0, _)] [_, _, _, _, _, _, _, _, _, _, _, _, _] [H, H1, H2, H2 ++ [.cells .var [.map (some H.length), v']]] rfl (by kernel_rfl)
  case hF => exact ⟨rfl, trivial⟩
  case h0 => rfl
  case steps =>
    (try (conv => whnf)); repeat' (first | ((with_reducible refine Ob.of hbu ?_); (conv => whnf)) | ((with_reducible refine Ob.of hbx ?_); (conv => whnf)) | ((with_reducible refine Ob2.of hbu ?_); (conv => whnf)) | ((with_reducible refine Ob2.of hbx ?_); (conv => whnf)) | (refine And.intro ?_ ?_ <;> (conv => whnf)) | exact Leaf.mk rfl rfl | exact True.intro | (refine cm.mono ?_; rintro _ X ⟨rfl, e⟩; subst X; (conv => whnf)) | (refine ca.mono ?_; rintro _ X ⟨rfl, e⟩; subst X; (conv => whnf)) | (refine Ob.of rfl ?_; (conv => whnf)) | (refine Ob2.of (by rfl) ?_; (conv => whnf)) | (first | (refine Ob.of (by first | with_reducible assumption | with_reducible exact ex20 _ _ | with_reducible exact ex21 _ _ | with_reducible exact ex30 _ _ _ | with_reducible exact ex31 _ _ _ | with_reducible exact ex32 _ _ _ | rfl | (exact ald rfl rfl (by assumption) rfl) | (exact ald_agg rfl rfl rfl (by assumption) rfl)) ?_; (conv => whnf)) | (refine bIf.yes (by first | assumption | rfl) ?_; (conv => whnf)) | (refine bIf.no (by first | assumption | rfl) ?_; (conv => whnf))))
  (try (conv => whnf)); (repeat (first | (refine Ob.of (by first | with_reducible assumption | with_reducible exact ex20 _ _ | with_reducible exact ex21 _ _ | with_reducible exact ex30 _ _ _ | with_reducible exact ex31 _ _ _ | with_reducible exact ex32 _ _ _ | rfl | (exact ald rfl rfl (by assumption) rfl) | (exact ald_agg rfl rfl rfl (by assumption) rfl)) ?_; (conv => whnf)) | (refine bIf.yes (by first | assumption | rfl) ?_; (conv => whnf)) | (refine bIf.no (by first | assumption | rfl) ?_; (conv => whnf))))
  have g3' := Grow.push H2 [Blk.cells .var [.map (some H.length), v']]
  have hc := at_push H2 (Blk.cells .var [.map (some H.length), v'])
  refine ⟨H2.length, rfl, by have := c2.1; omega, ⟨ps, ⟨H.length, v', em, hc, g3'.at (c2.at hm1), g3, c1.keep fun b c hb => g3'.at hb⟩, rfl, hps⟩, (gr1.trans c2).trans g3', ?_⟩
  rintro k ⟨mb', sv', e1, e2⟩
  rw [hc] at e1
  simp only [Option.some.injEq, Blk.cells.injEq, List.cons.injEq, Value.map.injEq, and_true, true_and] at e1
  obtain ⟨rfl, rfl⟩ := e1
  rcases e2 with rfl | ⟨n, e, e2⟩
  · exact Nat.le_refl _
  · have := c3 k n e e2
    omega
end Go.Proofs.Ytnmfmgnkfkhdhaa
