/- Package text: the string with which a text begins. -/
import Derived.Test.YtffgdcmiacooaaaTx3
set_option linter.unusedVariables false
set_option linter.unusedSimpArgs false
set_option maxRecDepth 20000
namespace Go.Proofs.Ytffgdcmiacooaaa
open Go Ax
abbrev takeV (R : List UInt8 × Nat × Int) : Value := .tuple #[.string ⟨R.1.toArray⟩, .int .i64 (R.2.1 : Int), .int .i64 R.2.2]
theorem plain_takeV (R : List UInt8 × Nat × Int) : plain (takeV R) := plain_tuple (vs := [_, _, _]) fun v hv => by
  simp only [List.mem_cons, List.not_mem_nil, or_false] at hv
  rcases hv with rfl | rfl | rfl
  · exact plain_str _
  · exact plain_int _ _
  · exact plain_int _ _
theorem pairS_len {L : List UInt8} {k : Nat} (h : (pairS L k).1 = true) : (pairS L k).2.1 ≤ L.length := by
  unfold pairS at h ⊢
  cases hp : hexAt L k with
  | none => simp [hp] at h
  | some p =>
    cases hq : hexAt L (k + 1) with
    | none => simp [hp, hq] at h
    | some q =>
      have hq' := hq
      unfold hexAt at hq'
      obtain ⟨y, hy, _⟩ := Option.bind_eq_some_iff.1 hq'
      have := (List.getElem?_eq_some_iff.1 hy).1
      simp only [hp, hq]
      omega
theorem escS_len {L : List UInt8} {k : Nat} (h : (escS L k).1 = true) : (escS L k).2.1 ≤ L.length := by
  unfold escS at h ⊢
  cases hc : L[k]? with
  | none => simp [hc] at h
  | some c =>
    have hlt := (List.getElem?_eq_some_iff.1 hc).1
    simp only [hc] at h ⊢
    split at h
    · rename_i h1; rw [if_pos h1]; exact pairS_len h
    · rename_i h1
      rw [if_neg h1]
      split at h
      · rename_i h2; rw [if_pos h2]; show k + 1 ≤ _; omega
      · simp at h
theorem tk_yes {L acc : List UInt8} {k f : Nat} {c : UInt8} (hc : L[k]? = some c) (h34 : c ≠ 34) (hp : plainB (c.toNat : Int) = false) (h92 : c = 92) (he : (escS L (k + 1)).1 = true) :
    tkF (f + 1) L k acc = tkF f L (escS L (k + 1)).2.1 (acc ++ (escS L (k + 1)).2.2) := by
  simp only [tkF, hc]
  rw [if_neg h34, if_neg (by simp [hp]), if_neg (by simpa using h92)]
  generalize escS L (k + 1) = y at he ⊢
  obtain ⟨t, k', x⟩ := y
  simp only at he
  subst he
  rfl
theorem tk_no {L acc : List UInt8} {k f : Nat} {c : UInt8} (hc : L[k]? = some c) (h34 : c ≠ 34) (hp : plainB (c.toNat : Int) = false) (h92 : c = 92) (he : (escS L (k + 1)).1 = false) :
    tkF (f + 1) L k acc = ([], (escS L (k + 1)).2.1, 11) := by
  simp only [tkF, hc]
  rw [if_neg h34, if_neg (by simp [hp]), if_neg (by simpa using h92)]
  generalize escS L (k + 1) = y at he ⊢
  obtain ⟨t, k', x⟩ := y
  simp only at he
  subst he
  rfl
theorem take_ax (H0 : Heap) {s : ByteArray} (hs : s.size ≤ 100000) : AX Try.prog 8 #[.string s] H0 (fun v H' => v = takeV (takeS s.data.toList) ∧ H' = H0) := by
  refine AX.alone (args := [.string s]) (fun v hv => by simp only [List.mem_singleton] at hv; subst hv; exact plain_str _) ?_
  suffices hh : AX Try.prog 8 [.string s].toArray [] (fun v _ => v = takeV (takeS s.data.toList)) from hh.mono fun v _ e => ⟨e ▸ plain_takeV _, e⟩
  have hsl : s.data.toList.length = s.size := by simp
  refine AX.body (n := 91) (rs := [.tmp 2, .tmp 3, .tmp 4]) Try.func8 rfl (by decide) rfl rfl (bC_sound _ _ _ _ ?_)
  (try (conv => whnf)); (repeat (first | (refine Ob.of (by first | rfl | (exact ald rfl rfl (by assumption) rfl) | (exact ald_agg rfl rfl rfl (by assumption) rfl)) ?_; (conv => whnf)) | (refine bIf.yes (by first | assumption | rfl) ?_; (conv => whnf)) | (refine bIf.no (by first | assumption | rfl) ?_; (conv => whnf))))
  refine Ob2.boxM (.one 37) rfl (by rfl) fun b H1 hq k1 k2 => ?_
  have r1 : Rd 0 H1 b s 0 [] := ⟨by omega, by omega, .pointer none, .slice none 0 0, k1, .inl rfl, .inl ⟨rfl, rfl⟩⟩
  (try (conv => whnf)); (repeat (first | (refine Ob.of (by first | rfl | (exact ald rfl rfl (by assumption) rfl) | (exact ald_agg rfl rfl rfl (by assumption) rfl)) ?_; (conv => whnf)) | (refine bIf.yes (by first | assumption | rfl) ?_; (conv => whnf)) | (refine bIf.no (by first | assumption | rfl) ?_; (conv => whnf))))
  cases hc : s.data.toList[0]? with
  | none =>
    refine (next_none r1 hc).mono ?_
    rintro _ X ⟨rfl, e⟩
    subst X
    (try (conv => whnf)); (repeat (first | (refine Ob.of (by first | rfl | (exact ald rfl rfl (by assumption) rfl) | (exact ald_agg rfl rfl rfl (by assumption) rfl)) ?_; (conv => whnf)) | (refine bIf.yes (by first | assumption | rfl) ?_; (conv => whnf)) | (refine bIf.no (by first | assumption | rfl) ?_; (conv => whnf))))
    simp only [takeS, hc]
    rfl
  | some c =>
    refine (next_some r1 hc).mono ?_
    rintro _ X ⟨rfl, e⟩
    subst X
    by_cases hq34 : c = 34
    rotate_left
    · have t1 : ((c.toNat : Int) != 34) = true := by rw [show (34 : Int) = ((34 : Nat) : Int) from rfl, u8_ne c 34 (by decide)]; simp [hq34]
      (try (conv => whnf)); (repeat (first | (refine Ob.of (by first | rfl | (exact ald rfl rfl (by assumption) rfl) | (exact ald_agg rfl rfl rfl (by assumption) rfl)) ?_; (conv => whnf)) | (refine bIf.yes (by first | assumption | rfl) ?_; (conv => whnf)) | (refine bIf.no (by first | assumption | rfl) ?_; (conv => whnf))))
      simp only [takeS, hc, if_neg hq34]
      rfl
    have t1 : ((c.toNat : Int) != 34) = false := by rw [show (34 : Int) = ((34 : Nat) : Int) from rfl, u8_ne c 34 (by decide)]; simp [hq34]
    have hb := hblk_of k1
    have wn : IntKind.i64.wrap ((0 : Int) + 1) = ((1 : Nat) : Int) := rfl
    (try (conv => whnf)); (repeat (first | (refine Ob.of (by first | rfl | (exact ald rfl rfl (by assumption) rfl) | (exact ald_agg rfl rfl rfl (by assumption) rfl)) ?_; (conv => whnf)) | (refine bIf.yes (by first | assumption | rfl) ?_; (conv => whnf)) | (refine bIf.no (by first | assumption | rfl) ?_; (conv => whnf))))
    refine Ob.store rfl rfl rfl k1 rfl (by first | exact Nat.le_of_ble_eq_true rfl | simp) fun H2 s1 s2 s3 => ?_
    have s1' : H2[b]? = some (.cells (.one 37) [.pointer none, .slice none 0 0, .string s, .int .i64 ((1 : Nat) : Int)]) := s1
    obtain ⟨r2, g2⟩ := rd_step r1 k1 s1' s2
    have hR : takeS s.data.toList = tkF (s.data.toList.length + 1) s.data.toList 1 [] := by simp only [takeS, hc, if_pos hq34]
    rw [hR]
    have hlt0 := str_lt hc
    (try (conv => whnf)); (repeat (first | (refine Ob.of (by first | rfl | (exact ald rfl rfl (by assumption) rfl) | (exact ald_agg rfl rfl rfl (by assumption) rfl)) ?_; (conv => whnf)) | (refine bIf.yes (by first | assumption | rfl) ?_; (conv => whnf)) | (refine bIf.no (by first | assumption | rfl) ?_; (conv => whnf))))
    refine SW.loop (α := Nat × List UInt8 × Nat) (fun _ => [(5, ptr b)])
      (fun x H => Rd 0 H b s x.1 x.2.1 ∧ tkF x.2.2 s.data.toList x.1 x.2.1 = tkF (s.data.toList.length + 1) s.data.toList 1 [] ∧ s.size < x.2.2 + x.1 ∧ x.2.1.length ≤ x.1 ∧ x.1 ≤ s.size) (fun x => s.size - x.1)
      ⟨(1, [], s.data.toList.length + 1), ⟨rfl, trivial⟩, r2, rfl, by show s.size < s.data.toList.length + 1 + 1; omega, by simp, by show 1 ≤ s.size; omega⟩ ?_
    rintro ⟨k, acc, f⟩ H3 ⟨r3, hf, hfk, hac, hkl⟩
    simp only at r3 hf hfk hac hkl
    refine bC_sound _ _ _ _ ?_
    rw [← hf]
    obtain ⟨f, rfl⟩ : ∃ m, f = m + 1 := ⟨f - 1, by omega⟩
    have hr3 := r3
    obtain ⟨i1, i2, a3, v3, i3, i4, i5⟩ := hr3
    have hb3 := hblk_of i3
    have wn : IntKind.i64.wrap ((k : Int) + 1) = ((k + 1 : Nat) : Int) := wrap_nat (by omega)
    (try (conv => whnf)); (repeat (first | (refine Ob.of (by first | rfl | (exact ald rfl rfl (by assumption) rfl) | (exact ald_agg rfl rfl rfl (by assumption) rfl)) ?_; (conv => whnf)) | (refine bIf.yes (by first | assumption | rfl) ?_; (conv => whnf)) | (refine bIf.no (by first | assumption | rfl) ?_; (conv => whnf))))
    cases hc : s.data.toList[k]? with
    | none =>
      refine (next_none r3 hc).mono ?_
      rintro _ X ⟨rfl, e⟩
      subst X
      simp only [tkF, hc]
      (try (conv => whnf)); (repeat (first | (refine Ob.of (by first | rfl | (exact ald rfl rfl (by assumption) rfl) | (exact ald_agg rfl rfl rfl (by assumption) rfl)) ?_; (conv => whnf)) | (refine bIf.yes (by first | assumption | rfl) ?_; (conv => whnf)) | (refine bIf.no (by first | assumption | rfl) ?_; (conv => whnf))))
      apply SW.draw2 [([], [2], 0, 0, false), ([(39, 0)], [39, 2], 0, 0, false), ([(39, 0), (40, 1)], [39, 40, 2], 0, 0, false), ([(39, 0), (40, 1), (41, 2)], [39, 40, 41, 2], 0, 0, false), ([], [39, 40, 41, 42], 0, 0, false), ([(39, 0), (40, 1), (41, 2), (42, 3), (2, 4)], [39, 40, 41, 42, 2], 0, 0, false), ([(39, 0), (40, 1), (41, 2), (42, 3), (2, 4), (3, 5)], [39, 40, 41, 42, 2, 3], 0, 0, false)]
        [(39, 0), (40, 1), (41, 2), (42, 3), (2, 4), (3, 5), (4, 6)] 0
        [(5, _)] [_, _, _, _, _, _, _] [H3] rfl (by kernel_rfl)
      case hF => exact ⟨rfl, trivial⟩
      case h0 => rfl
      case steps =>
        (try (conv => whnf)); repeat' (first | (refine And.intro ?_ ?_ <;> (conv => whnf)) | exact Leaf.mk rfl rfl | exact True.intro | (refine Ob.of rfl ?_; (conv => whnf)) | (refine Ob2.of (by rfl) ?_; (conv => whnf)) | (first | (refine Ob.of (by first | rfl | (exact ald rfl rfl (by assumption) rfl) | (exact ald_agg rfl rfl rfl (by assumption) rfl)) ?_; (conv => whnf)) | (refine bIf.yes (by first | assumption | rfl) ?_; (conv => whnf)) | (refine bIf.no (by first | assumption | rfl) ?_; (conv => whnf))))
      (try (conv => whnf)); (repeat (first | (refine Ob.of (by first | rfl | (exact ald rfl rfl (by assumption) rfl) | (exact ald_agg rfl rfl rfl (by assumption) rfl)) ?_; (conv => whnf)) | (refine bIf.yes (by first | assumption | rfl) ?_; (conv => whnf)) | (refine bIf.no (by first | assumption | rfl) ?_; (conv => whnf))))
      rfl
    | some c =>
      refine (next_some r3 hc).mono ?_
      rintro _ X ⟨rfl, e⟩
      subst X
      have hlt := str_lt hc
      by_cases h34 : c = 34
      · have t2 : ((c.toNat : Int) == 34) = true := by rw [show (34 : Int) = ((34 : Nat) : Int) from rfl, u8_eq c 34 (by decide)]; exact decide_eq_true h34
        simp only [tkF, hc, if_pos h34]
        (try (conv => whnf)); (repeat (first | (refine Ob.of (by first | rfl | (exact ald rfl rfl (by assumption) rfl) | (exact ald_agg rfl rfl rfl (by assumption) rfl)) ?_; (conv => whnf)) | (refine bIf.yes (by first | assumption | rfl) ?_; (conv => whnf)) | (refine bIf.no (by first | assumption | rfl) ?_; (conv => whnf))))
        rcases i5 with ⟨rfl, rfl⟩ | ⟨g, g1, rfl, g3, g4⟩
        · skip
          apply SW.draw2 [([], [50, 51, 52, 53, 54], 0, 0, false), ([(46, 0)], [46, 50, 51, 52, 53, 54], 0, 0, false), ([(46, 0), (47, 1)], [46, 47, 50, 51, 52, 53, 54], 0, 0, false), ([(46, 0), (47, 1), (48, 2)], [46, 47, 48, 50, 51, 52, 53, 54], 0, 0, true), ([], [46, 47, 48, 49, 2], 0, 1, false), ([(50, 4)], [46, 47, 48, 49, 50, 2], 0, 1, false), ([(50, 4), (51, 5)], [46, 47, 48, 49, 50, 51, 2], 0, 1, false), ([(50, 4), (51, 5), (52, 6)], [46, 47, 48, 49, 50, 51, 52, 2], 0, 1, false), ([(50, 4), (51, 5), (52, 6), (53, 7)], [46, 47, 48, 49, 50, 51, 52, 53, 2], 0, 1, false), ([(46, 0), (47, 1), (48, 2), (49, 3)], [46, 47, 48, 49, 50, 51, 52, 53, 54], 1, 0, false), ([(46, 0), (47, 1), (48, 2), (49, 3), (50, 4), (51, 5), (52, 6), (53, 7), (54, 8), (2, 9)], [46, 47, 48, 49, 50, 51, 52, 53, 54, 2], 1, 0, false), ([(46, 0), (47, 1), (48, 2), (49, 3), (50, 4), (51, 5), (52, 6), (53, 7), (54, 8), (2, 9), (3, 10)], [46, 47, 48, 49, 50, 51, 52, 53, 54, 2, 3], 1, 0, false)]
            [(46, 0), (47, 1), (48, 2), (49, 3), (50, 4), (51, 5), (52, 6), (53, 7), (54, 8), (2, 9), (3, 10), (4, 11)] 1
            [(5, _)] [_, _, _, _, _, _, _, _, _, _, _, _] [H3, H3] rfl (by kernel_rfl)
          case hF => exact ⟨rfl, trivial⟩
          case h0 => rfl
          case steps =>
            (try (conv => whnf)); repeat' (first | (refine And.intro ?_ ?_ <;> (conv => whnf)) | exact Leaf.mk rfl rfl | exact True.intro | (refine (string_nil i3).mono ?_; rintro _ X ⟨rfl, e⟩; subst X; (conv => whnf)) | (refine Ob.of rfl ?_; (conv => whnf)) | (refine Ob2.of (by rfl) ?_; (conv => whnf)) | (first | (refine Ob.of (by first | rfl | (exact ald rfl rfl (by assumption) rfl) | (exact ald_agg rfl rfl rfl (by assumption) rfl)) ?_; (conv => whnf)) | (refine bIf.yes (by first | assumption | rfl) ?_; (conv => whnf)) | (refine bIf.no (by first | assumption | rfl) ?_; (conv => whnf))))
          (try (conv => whnf)); (repeat (first | (refine Ob.of (by first | rfl | (exact ald rfl rfl (by assumption) rfl) | (exact ald_agg rfl rfl rfl (by assumption) rfl)) ?_; (conv => whnf)) | (refine bIf.yes (by first | assumption | rfl) ?_; (conv => whnf)) | (refine bIf.no (by first | assumption | rfl) ?_; (conv => whnf))))
          exact congrArg (fun z => Value.tuple #[.string .empty, .int .i64 z, .int .i64 0]) wn
        · have hne : b ≠ g := fun e => by subst e; rw [g4] at i3; simp at i3
          have hb4 : hblk (H3.set g .dead) b = some [a3, .slice (some ⟨g, 0, none⟩) acc.length 1, .string s, .int .i64 (k : Int)] := hblk_of ((List.getElem?_set_ne (by omega)).trans i3)
          apply SW.draw2 [([], [50, 51, 52, 53, 54], 0, 0, false), ([(46, 0)], [46, 50, 51, 52, 53, 54], 0, 0, false), ([(46, 0), (47, 1)], [46, 47, 50, 51, 52, 53, 54], 0, 0, false), ([(46, 0), (47, 1), (48, 2)], [46, 47, 48, 50, 51, 52, 53, 54], 0, 0, true), ([], [46, 47, 48, 49, 2], 0, 1, false), ([(50, 4)], [46, 47, 48, 49, 50, 2], 0, 1, false), ([(50, 4), (51, 5)], [46, 47, 48, 49, 50, 51, 2], 0, 1, false), ([(50, 4), (51, 5), (52, 6)], [46, 47, 48, 49, 50, 51, 52, 2], 0, 1, false), ([(50, 4), (51, 5), (52, 6), (53, 7)], [46, 47, 48, 49, 50, 51, 52, 53, 2], 0, 1, false), ([(46, 0), (47, 1), (48, 2), (49, 3)], [46, 47, 48, 49, 50, 51, 52, 53, 54], 1, 0, false), ([(46, 0), (47, 1), (48, 2), (49, 3), (50, 4), (51, 5), (52, 6), (53, 7), (54, 8), (2, 9)], [46, 47, 48, 49, 50, 51, 52, 53, 54, 2], 1, 0, false), ([(46, 0), (47, 1), (48, 2), (49, 3), (50, 4), (51, 5), (52, 6), (53, 7), (54, 8), (2, 9), (3, 10)], [46, 47, 48, 49, 50, 51, 52, 53, 54, 2, 3], 1, 0, false)]
            [(46, 0), (47, 1), (48, 2), (49, 3), (50, 4), (51, 5), (52, 6), (53, 7), (54, 8), (2, 9), (3, 10), (4, 11)] 1
            [(5, _)] [_, _, _, _, _, _, _, _, _, _, _, _] [H3, H3.set g .dead] rfl (by kernel_rfl)
          case hF => exact ⟨rfl, trivial⟩
          case h0 => rfl
          case steps =>
            (try (conv => whnf)); repeat' (first | (refine And.intro ?_ ?_ <;> (conv => whnf)) | exact Leaf.mk rfl rfl | exact True.intro | (refine (string_some i3 g3 g4 (by omega)).mono ?_; rintro _ X ⟨rfl, e⟩; subst X; (conv => whnf)) | (refine Ob.of rfl ?_; (conv => whnf)) | (refine Ob2.of (by rfl) ?_; (conv => whnf)) | (first | (refine Ob.of (by first | rfl | (exact ald rfl rfl (by assumption) rfl) | (exact ald_agg rfl rfl rfl (by assumption) rfl)) ?_; (conv => whnf)) | (refine bIf.yes (by first | assumption | rfl) ?_; (conv => whnf)) | (refine bIf.no (by first | assumption | rfl) ?_; (conv => whnf))))
          (try (conv => whnf)); (repeat (first | (refine Ob.of (by first | rfl | (exact ald rfl rfl (by assumption) rfl) | (exact ald_agg rfl rfl rfl (by assumption) rfl)) ?_; (conv => whnf)) | (refine bIf.yes (by first | assumption | rfl) ?_; (conv => whnf)) | (refine bIf.no (by first | assumption | rfl) ?_; (conv => whnf))))
          exact congrArg (fun z => Value.tuple #[.string ⟨acc.toArray⟩, .int .i64 z, .int .i64 0]) wn
      have t2 : ((c.toNat : Int) == 34) = false := by rw [show (34 : Int) = ((34 : Nat) : Int) from rfl, u8_eq c 34 (by decide)]; exact decide_eq_false h34
      (try (conv => whnf)); (repeat (first | (refine Ob.of (by first | rfl | (exact ald rfl rfl (by assumption) rfl) | (exact ald_agg rfl rfl rfl (by assumption) rfl)) ?_; (conv => whnf)) | (refine bIf.yes (by first | assumption | rfl) ?_; (conv => whnf)) | (refine bIf.no (by first | assumption | rfl) ?_; (conv => whnf))))
      refine (plain_ax H3 (c.toNat : Int)).mono ?_
      rintro _ X ⟨rfl, e⟩
      subst X
      cases hp : plainB (c.toNat : Int) with
      | true =>
        simp only [tkF, hc, if_neg h34, hp, if_true]
        (try (conv => whnf)); (repeat (first | (refine Ob.of (by first | rfl | (exact ald rfl rfl (by assumption) rfl) | (exact ald_agg rfl rfl rfl (by assumption) rfl)) ?_; (conv => whnf)) | (refine bIf.yes (by first | assumption | rfl) ?_; (conv => whnf)) | (refine bIf.no (by first | assumption | rfl) ?_; (conv => whnf))))
        refine (writeByte_ax r3 okB_rd (by omega) c).mono ?_
        rintro _ H4 ⟨rfl, r4, g4⟩
        have hr4 := r4
        obtain ⟨j1, j2, a4, v4, j3, j4, j5⟩ := hr4
        have hb4 := hblk_of j3
        (try (conv => whnf)); (repeat (first | (refine Ob.of (by first | rfl | (exact ald rfl rfl (by assumption) rfl) | (exact ald_agg rfl rfl rfl (by assumption) rfl)) ?_; (conv => whnf)) | (refine bIf.yes (by first | assumption | rfl) ?_; (conv => whnf)) | (refine bIf.no (by first | assumption | rfl) ?_; (conv => whnf))))
        refine Ob.store rfl rfl rfl j3 rfl (by first | exact Nat.le_of_ble_eq_true rfl | simp) fun H5 s1 s2 s3 => ?_
        have s1' : H5[b]? = some (.cells (.one 37) [a4, v4, .string s, .int .i64 ((k + 1 : Nat) : Int)]) := by rw [← wn]; exact s1
        obtain ⟨r5, g5⟩ := rd_step r4 j3 s1' s2
        (try (conv => whnf)); (repeat (first | (refine Ob.of (by first | rfl | (exact ald rfl rfl (by assumption) rfl) | (exact ald_agg rfl rfl rfl (by assumption) rfl)) ?_; (conv => whnf)) | (refine bIf.yes (by first | assumption | rfl) ?_; (conv => whnf)) | (refine bIf.no (by first | assumption | rfl) ?_; (conv => whnf))))
        exact ⟨(k + 1, acc ++ [c], f), ⟨rfl, trivial⟩, ⟨r5, rfl, by show s.size < f + (k + 1); omega, by simp; omega, by show k + 1 ≤ s.size; omega⟩, by show s.size - (k + 1) < s.size - k; omega⟩
      | false =>
        by_cases h92 : c = 92
        rotate_left
        · have t3 : ((c.toNat : Int) != 92) = true := by rw [show (92 : Int) = ((92 : Nat) : Int) from rfl, u8_ne c 92 (by decide)]; simp [h92]
          simp only [tkF, hc, if_neg h34, hp, Bool.false_eq_true, if_false, ne_eq, h92, not_false_eq_true, if_true]
          (try (conv => whnf)); (repeat (first | (refine Ob.of (by first | rfl | (exact ald rfl rfl (by assumption) rfl) | (exact ald_agg rfl rfl rfl (by assumption) rfl)) ?_; (conv => whnf)) | (refine bIf.yes (by first | assumption | rfl) ?_; (conv => whnf)) | (refine bIf.no (by first | assumption | rfl) ?_; (conv => whnf))))
          apply SW.draw2 [([], [2], 0, 0, false), ([(73, 0)], [73, 2], 0, 0, false), ([(73, 0), (74, 1)], [73, 74, 2], 0, 0, false), ([(73, 0), (74, 1), (75, 2)], [73, 74, 75, 2], 0, 0, false), ([], [73, 74, 75, 76], 0, 0, false), ([(73, 0), (74, 1), (75, 2), (76, 3), (2, 4)], [73, 74, 75, 76, 2], 0, 0, false), ([(73, 0), (74, 1), (75, 2), (76, 3), (2, 4), (3, 5)], [73, 74, 75, 76, 2, 3], 0, 0, false)]
            [(73, 0), (74, 1), (75, 2), (76, 3), (2, 4), (3, 5), (4, 6)] 0
            [(5, _)] [_, _, _, _, _, _, _] [H3] rfl (by kernel_rfl)
          case hF => exact ⟨rfl, trivial⟩
          case h0 => rfl
          case steps =>
            (try (conv => whnf)); repeat' (first | (refine And.intro ?_ ?_ <;> (conv => whnf)) | exact Leaf.mk rfl rfl | exact True.intro | (refine Ob.of rfl ?_; (conv => whnf)) | (refine Ob2.of (by rfl) ?_; (conv => whnf)) | (first | (refine Ob.of (by first | rfl | (exact ald rfl rfl (by assumption) rfl) | (exact ald_agg rfl rfl rfl (by assumption) rfl)) ?_; (conv => whnf)) | (refine bIf.yes (by first | assumption | rfl) ?_; (conv => whnf)) | (refine bIf.no (by first | assumption | rfl) ?_; (conv => whnf))))
          (try (conv => whnf)); (repeat (first | (refine Ob.of (by first | rfl | (exact ald rfl rfl (by assumption) rfl) | (exact ald_agg rfl rfl rfl (by assumption) rfl)) ?_; (conv => whnf)) | (refine bIf.yes (by first | assumption | rfl) ?_; (conv => whnf)) | (refine bIf.no (by first | assumption | rfl) ?_; (conv => whnf))))
          rfl
        have t3 : ((c.toNat : Int) != 92) = false := by rw [show (92 : Int) = ((92 : Nat) : Int) from rfl, u8_ne c 92 (by decide)]; simp [h92]
        (try (conv => whnf)); (repeat (first | (refine Ob.of (by first | rfl | (exact ald rfl rfl (by assumption) rfl) | (exact ald_agg rfl rfl rfl (by assumption) rfl)) ?_; (conv => whnf)) | (refine bIf.yes (by first | assumption | rfl) ?_; (conv => whnf)) | (refine bIf.no (by first | assumption | rfl) ?_; (conv => whnf))))
        refine Ob.store rfl rfl rfl i3 rfl (by first | exact Nat.le_of_ble_eq_true rfl | simp) fun H5 s1 s2 s3 => ?_
        have s1' : H5[b]? = some (.cells (.one 37) [a3, v3, .string s, .int .i64 ((k + 1 : Nat) : Int)]) := by rw [← wn]; exact s1
        obtain ⟨r5, g5⟩ := rd_step r3 i3 s1' s2
        (try (conv => whnf)); (repeat (first | (refine Ob.of (by first | rfl | (exact ald rfl rfl (by assumption) rfl) | (exact ald_agg rfl rfl rfl (by assumption) rfl)) ?_; (conv => whnf)) | (refine bIf.yes (by first | assumption | rfl) ?_; (conv => whnf)) | (refine bIf.no (by first | assumption | rfl) ?_; (conv => whnf))))
        refine (escape_ax r5 (by omega) (by omega) (by omega)).mono ?_
        rintro _ H6 ⟨rfl, r6, g6⟩
        have hr6 := r6
        obtain ⟨j1, j2, a6, v6, j3, j4, j5⟩ := hr6
        have hb6 := hblk_of j3
        obtain ⟨p1, p2, p3⟩ := escS_pos s.data.toList (k + 1)
        cases he : (escS s.data.toList (k + 1)).1 with
        | true =>
          have p4 := escS_len he
          have p5 := p3 he
          have hst : tkF (f + 1) s.data.toList k acc = tkF f s.data.toList (escS s.data.toList (k + 1)).2.1 (acc ++ (escS s.data.toList (k + 1)).2.2) := tk_yes hc h34 hp h92 he
          (try (conv => whnf)); (repeat (first | (refine Ob.of (by first | rfl | (exact ald rfl rfl (by assumption) rfl) | (exact ald_agg rfl rfl rfl (by assumption) rfl)) ?_; (conv => whnf)) | (refine bIf.yes (by first | assumption | rfl) ?_; (conv => whnf)) | (refine bIf.no (by first | assumption | rfl) ?_; (conv => whnf))))
          exact ⟨((escS s.data.toList (k + 1)).2.1, acc ++ (escS s.data.toList (k + 1)).2.2, f), ⟨rfl, trivial⟩, ⟨r6, hst.symm, by show s.size < f + (escS s.data.toList (k + 1)).2.1; omega, by show (acc ++ _).length ≤ _; rw [List.length_append]; omega, by show (escS s.data.toList (k + 1)).2.1 ≤ s.size; omega⟩, by show s.size - (escS s.data.toList (k + 1)).2.1 < s.size - k; omega⟩
        | false =>
          have hst : tkF (f + 1) s.data.toList k acc = ([], (escS s.data.toList (k + 1)).2.1, 11) := tk_no hc h34 hp h92 he
          rw [hst]
          (try (conv => whnf)); (repeat (first | (refine Ob.of (by first | rfl | (exact ald rfl rfl (by assumption) rfl) | (exact ald_agg rfl rfl rfl (by assumption) rfl)) ?_; (conv => whnf)) | (refine bIf.yes (by first | assumption | rfl) ?_; (conv => whnf)) | (refine bIf.no (by first | assumption | rfl) ?_; (conv => whnf))))
          apply SW.draw2 [([], [2], 0, 0, false), ([(87, 0)], [87, 2], 0, 0, false), ([(87, 0), (88, 1)], [87, 88, 2], 0, 0, false), ([(87, 0), (88, 1), (89, 2)], [87, 88, 89, 2], 0, 0, false), ([], [87, 88, 89, 90], 0, 0, false), ([(87, 0), (88, 1), (89, 2), (90, 3), (2, 4)], [87, 88, 89, 90, 2], 0, 0, false), ([(87, 0), (88, 1), (89, 2), (90, 3), (2, 4), (3, 5)], [87, 88, 89, 90, 2, 3], 0, 0, false)]
            [(87, 0), (88, 1), (89, 2), (90, 3), (2, 4), (3, 5), (4, 6)] 0
            [(5, _)] [_, _, _, _, _, _, _] [H6] rfl (by kernel_rfl)
          case hF => exact ⟨rfl, trivial⟩
          case h0 => rfl
          case steps =>
            (try (conv => whnf)); repeat' (first | (refine And.intro ?_ ?_ <;> (conv => whnf)) | exact Leaf.mk rfl rfl | exact True.intro | (refine Ob.of rfl ?_; (conv => whnf)) | (refine Ob2.of (by rfl) ?_; (conv => whnf)) | (first | (refine Ob.of (by first | rfl | (exact ald rfl rfl (by assumption) rfl) | (exact ald_agg rfl rfl rfl (by assumption) rfl)) ?_; (conv => whnf)) | (refine bIf.yes (by first | assumption | rfl) ?_; (conv => whnf)) | (refine bIf.no (by first | assumption | rfl) ?_; (conv => whnf))))
          (try (conv => whnf)); (repeat (first | (refine Ob.of (by first | rfl | (exact ald rfl rfl (by assumption) rfl) | (exact ald_agg rfl rfl rfl (by assumption) rfl)) ?_; (conv => whnf)) | (refine bIf.yes (by first | assumption | rfl) ?_; (conv => whnf)) | (refine bIf.no (by first | assumption | rfl) ?_; (conv => whnf))))
          rfl
end Go.Proofs.Ytffgdcmiacooaaa
