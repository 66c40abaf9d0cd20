/- The document of package text: a string as it is written. -/
import Derived.Test.YtffgdcmiacooaaaTx8
set_option linter.unusedVariables false
set_option linter.unusedSimpArgs false
set_option maxRecDepth 20000
set_option maxHeartbeats 1000000
namespace Go.Proofs.Ytffgdcmiacooaaa
open Go Ax
theorem app_three {H : Heap} {v : Value} {bs : List UInt8} {a b : UInt8} (h : Buf 0 H v bs) (hl : bs.length ≤ 1000000) :
    ∃ q H1 v' H2, abuildSlice Try.prog 33 3 [(0, .int .u8 120), (1, u8 a), (2, u8 b)] H = some (.slice (some ⟨q, 0, none⟩) 3 1, H1) ∧ aappend Try.prog 33 33 v (.slice (some ⟨q, 0, none⟩) 3 1) H1 = some (v', H2) ∧ Buf 0 H2 v' (bs ++ [120, a, b]) := by
  have hq : (H ++ [Blk.cells (.row 5) [u8 120, u8 a, u8 b]])[H.length]? = some (.cells (.row 5) [u8 120, u8 a, u8 b]) := at_push _ _
  have hsrc : asrc 1 (.slice (some ⟨H.length, 0, none⟩) 3 1) (H ++ [Blk.cells (.row 5) [u8 120, u8 a, u8 b]]) = some ([120, a, b].length, u8s [120, a, b]) := src_some (by decide) (hblk_of hq) rfl
  obtain ⟨v', H2, e, m1, m2, m3⟩ := app_buf (tx := 33) (h.grow (Grow.push H [Blk.cells (.row 5) [u8 120, u8 a, u8 b]])) (Nat.zero_le _) hsrc rfl rfl rfl (by simp; omega)
  exact ⟨_, _, v', H2, rfl, e, m1⟩
theorem quo_eq (c : UInt8) : IntKind.u8.wrap ((c.toNat : Int).tdiv 16) = ((c.toNat / 16 : Nat) : Int) := by
  have := c.toNat_lt
  rw [Int.tdiv_eq_ediv_of_nonneg (by omega), wrap_u8 (by omega) (by omega)]
  rfl
theorem rem_eq (c : UInt8) : (c.toNat : Int).tmod 16 = ((c.toNat % 16 : Nat) : Int) := by
  rw [Int.tmod_eq_emod_of_nonneg (by omega)]
  rfl
theorem rquote_ax (H0 : Heap) {s : ByteArray} (hs : s.size ≤ 100000) : AX Try.prog 11 #[.string s] H0 (fun v H' => v = .string ⟨(quoteS s.data.toList).toArray⟩ ∧ H' = H0) := by
  refine AX.alone (args := [.string s]) (fun v hv => by simp only [List.mem_singleton] at hv; subst hv; exact plain_str _) ?_
  suffices hh : AX Try.prog 11 [.string s].toArray [] (fun v _ => v = .string ⟨(quoteS s.data.toList).toArray⟩) from hh.mono fun v _ e => ⟨e ▸ plain_str _, e⟩
  have hsl : s.data.toList.length = s.size := by simp
  refine AX.body (n := 51) (rs := [.tmp 2]) Try.func11 rfl (by decide) rfl rfl (bC_sound _ _ _ _ ?_)
  (try (conv => whnf)); (repeat (first | (refine Ob.of (by first | with_reducible assumption | rfl | (exact ald rfl rfl (by assumption) rfl) | (exact ald_agg rfl rfl rfl (by assumption) rfl)) ?_; (conv => whnf)) | (refine bIf.yes (by first | assumption | rfl) ?_; (conv => whnf)) | (refine bIf.no (by first | assumption | rfl) ?_; (conv => whnf))))
  refine Ob2.byte fun q H1 hq l1 l2 => ?_
  have r1 : Buf 0 H1 (.slice (some ⟨q, 0, none⟩) 1 1) [34] := .inr ⟨q, Nat.zero_le _, rfl, by simp, l1⟩
  (try (conv => whnf)); (repeat (first | (refine Ob.of (by first | with_reducible assumption | rfl | (exact ald rfl rfl (by assumption) rfl) | (exact ald_agg rfl rfl rfl (by assumption) rfl)) ?_; (conv => whnf)) | (refine bIf.yes (by first | assumption | rfl) ?_; (conv => whnf)) | (refine bIf.no (by first | assumption | rfl) ?_; (conv => whnf))))
  refine SW.loop (α := Nat × Value) (fun x => [(0, .string s), (3, digitsV), (4, x.2), (5, .int .i64 (x.1 : Int))]) (fun x H => Buf 0 H x.2 (34 :: (s.data.toList.take x.1).flatMap quote1) ∧ x.1 ≤ s.size) (fun x => s.size - x.1)
    ⟨(0, .slice (some ⟨q, 0, none⟩) 1 1), ⟨rfl, rfl, rfl, rfl, trivial⟩, by simpa using r1, by show 0 ≤ s.size; omega⟩ ?_
  rintro ⟨i, v⟩ H3 ⟨r3, hi⟩
  simp only at r3 hi
  refine bC_sound _ _ _ _ ?_
  have hfl := flat_len s.data.toList i
  have w1 : IntKind.i64.wrap ((i : Int) + 1) = ((i + 1 : Nat) : Int) := wrap_nat (by omega)
  have next : ∀ (c : UInt8) (v' : Value) (H' : Heap), s.data.toList[i]? = some c → Buf 0 H' v' (34 :: (s.data.toList.take i).flatMap quote1 ++ quote1 c) →
      ∃ y : Nat × Value, Has [(0, Value.string s), (3, digitsV), (4, v'), (5, .int .i64 (IntKind.i64.wrap ((i : Int) + 1)))] [(0, .string s), (3, digitsV), (4, y.2), (5, .int .i64 (y.1 : Int))] ∧ (Buf 0 H' y.2 (34 :: (s.data.toList.take y.1).flatMap quote1) ∧ y.1 ≤ s.size) ∧ s.size - y.1 < s.size - i := by
    intro c v' H' hc hb
    have hlt := str_lt hc
    exact ⟨(i + 1, v'), ⟨rfl, rfl, rfl, congrArg (fun z => some (Value.int .i64 z)) w1, trivial⟩, ⟨by show Buf 0 H' v' _; rw [take_more hc]; simpa using hb, by show i + 1 ≤ s.size; omega⟩, by show s.size - (i + 1) < s.size - i; omega⟩
  cases hc : s.data.toList[i]? with
  | none =>
    have hge := str_ge hc
    have d1 : decide ((i : Int) < (s.size : Int)) = false := decide_eq_false (by omega)
    have hall : s.data.toList.take i = s.data.toList := List.take_of_length_le (by omega)
    rw [hall] at r3
    rw [hall] at hfl
    obtain ⟨q, H4, v', H5, e1, e2, r5⟩ := app_one (x := 34) r3 (by simp only [List.length_append, List.length_cons, List.length_nil]; omega)
    have cv := conv_buf r5
    (try (conv => whnf)); (repeat (first | (refine Ob.of (by first | with_reducible assumption | rfl | (exact ald rfl rfl (by assumption) rfl) | (exact ald_agg rfl rfl rfl (by assumption) rfl)) ?_; (conv => whnf)) | (refine bIf.yes (by first | assumption | rfl) ?_; (conv => whnf)) | (refine bIf.no (by first | assumption | rfl) ?_; (conv => whnf))))
    refine Ob2.of e1 ?_
    (try (conv => whnf)); (repeat (first | (refine Ob.of (by first | with_reducible assumption | rfl | (exact ald rfl rfl (by assumption) rfl) | (exact ald_agg rfl rfl rfl (by assumption) rfl)) ?_; (conv => whnf)) | (refine bIf.yes (by first | assumption | rfl) ?_; (conv => whnf)) | (refine bIf.no (by first | assumption | rfl) ?_; (conv => whnf))))
    refine Ob2.of e2 ?_
    (try (conv => whnf)); (repeat (first | (refine Ob.of (by first | with_reducible assumption | rfl | (exact ald rfl rfl (by assumption) rfl) | (exact ald_agg rfl rfl rfl (by assumption) rfl)) ?_; (conv => whnf)) | (refine bIf.yes (by first | assumption | rfl) ?_; (conv => whnf)) | (refine bIf.no (by first | assumption | rfl) ?_; (conv => whnf))))
    rfl
  | some c =>
    have hlt := str_lt hc
    have d1 : decide ((i : Int) < (s.size : Int)) = true := decide_eq_true (by omega)
    have ix := aix hc
    have nx := fun v' H' h => next c v' H' hc h
    (try (conv => whnf)); (repeat (first | (refine Ob.of (by first | with_reducible assumption | rfl | (exact ald rfl rfl (by assumption) rfl) | (exact ald_agg rfl rfl rfl (by assumption) rfl)) ?_; (conv => whnf)) | (refine bIf.yes (by first | assumption | rfl) ?_; (conv => whnf)) | (refine bIf.no (by first | assumption | rfl) ?_; (conv => whnf))))
    refine (rplain_ax H3 (c.toNat : Int)).mono ?_
    rintro _ X ⟨rfl, e⟩
    subst X
    cases hp : plainB (c.toNat : Int) with
    | true =>
      have hq1 : quote1 c = [c] := by simp only [quote1, hp, if_true]
      rw [hq1] at nx
      obtain ⟨q, H4, v', H5, e1, e2, r5⟩ := app_one (x := c) r3 (by simp only [List.length_append, List.length_cons, List.length_nil]; omega)
      (try (conv => whnf)); (repeat (first | (refine Ob.of (by first | with_reducible assumption | rfl | (exact ald rfl rfl (by assumption) rfl) | (exact ald_agg rfl rfl rfl (by assumption) rfl)) ?_; (conv => whnf)) | (refine bIf.yes (by first | assumption | rfl) ?_; (conv => whnf)) | (refine bIf.no (by first | assumption | rfl) ?_; (conv => whnf))))
      refine Ob2.of e1 ?_
      (try (conv => whnf)); (repeat (first | (refine Ob.of (by first | with_reducible assumption | rfl | (exact ald rfl rfl (by assumption) rfl) | (exact ald_agg rfl rfl rfl (by assumption) rfl)) ?_; (conv => whnf)) | (refine bIf.yes (by first | assumption | rfl) ?_; (conv => whnf)) | (refine bIf.no (by first | assumption | rfl) ?_; (conv => whnf))))
      refine Ob2.of e2 ?_
      (try (conv => whnf)); (repeat (first | (refine Ob.of (by first | with_reducible assumption | rfl | (exact ald rfl rfl (by assumption) rfl) | (exact ald_agg rfl rfl rfl (by assumption) rfl)) ?_; (conv => whnf)) | (refine bIf.yes (by first | assumption | rfl) ?_; (conv => whnf)) | (refine bIf.no (by first | assumption | rfl) ?_; (conv => whnf))))
      obtain ⟨y, ⟨y1, y2, y3, y4, _⟩, y5⟩ := nx _ _ r5
      exact ⟨y, ⟨y1, y2, y3, y4, trivial⟩, y5⟩
    | false =>
      obtain ⟨q, H4, v', H5, e1, e2, r5⟩ := app_one (x := 92) r3 (by simp only [List.length_append, List.length_cons, List.length_nil]; omega)
      by_cases hq : c = 34 ∨ c = 92
      · have hq1 : quote1 c = [92, c] := by simp only [quote1, hp, Bool.false_eq_true, if_false, if_pos hq]
        rw [hq1] at nx
        obtain ⟨q', H6, v6, H7, e3, e4, r7⟩ := app_one (x := c) r5 (by simp only [List.length_append, List.length_cons, List.length_nil]; omega)
        rcases hq with rfl | rfl
        · (try (conv => whnf)); (repeat (first | (refine Ob.of (by first | with_reducible assumption | rfl | (exact ald rfl rfl (by assumption) rfl) | (exact ald_agg rfl rfl rfl (by assumption) rfl)) ?_; (conv => whnf)) | (refine bIf.yes (by first | assumption | rfl) ?_; (conv => whnf)) | (refine bIf.no (by first | assumption | rfl) ?_; (conv => whnf))))
          refine Ob2.of e1 ?_
          (try (conv => whnf)); (repeat (first | (refine Ob.of (by first | with_reducible assumption | rfl | (exact ald rfl rfl (by assumption) rfl) | (exact ald_agg rfl rfl rfl (by assumption) rfl)) ?_; (conv => whnf)) | (refine bIf.yes (by first | assumption | rfl) ?_; (conv => whnf)) | (refine bIf.no (by first | assumption | rfl) ?_; (conv => whnf))))
          refine Ob2.of e2 ?_
          (try (conv => whnf)); (repeat (first | (refine Ob.of (by first | with_reducible assumption | rfl | (exact ald rfl rfl (by assumption) rfl) | (exact ald_agg rfl rfl rfl (by assumption) rfl)) ?_; (conv => whnf)) | (refine bIf.yes (by first | assumption | rfl) ?_; (conv => whnf)) | (refine bIf.no (by first | assumption | rfl) ?_; (conv => whnf))))
          refine Ob2.of e3 ?_
          (try (conv => whnf)); (repeat (first | (refine Ob.of (by first | with_reducible assumption | rfl | (exact ald rfl rfl (by assumption) rfl) | (exact ald_agg rfl rfl rfl (by assumption) rfl)) ?_; (conv => whnf)) | (refine bIf.yes (by first | assumption | rfl) ?_; (conv => whnf)) | (refine bIf.no (by first | assumption | rfl) ?_; (conv => whnf))))
          refine Ob2.of e4 ?_
          (try (conv => whnf)); (repeat (first | (refine Ob.of (by first | with_reducible assumption | rfl | (exact ald rfl rfl (by assumption) rfl) | (exact ald_agg rfl rfl rfl (by assumption) rfl)) ?_; (conv => whnf)) | (refine bIf.yes (by first | assumption | rfl) ?_; (conv => whnf)) | (refine bIf.no (by first | assumption | rfl) ?_; (conv => whnf))))
          obtain ⟨y, ⟨y1, y2, y3, y4, _⟩, y5⟩ := nx _ _ (by simpa using r7)
          exact ⟨y, ⟨y1, y2, y3, y4, trivial⟩, y5⟩
        · (try (conv => whnf)); (repeat (first | (refine Ob.of (by first | with_reducible assumption | rfl | (exact ald rfl rfl (by assumption) rfl) | (exact ald_agg rfl rfl rfl (by assumption) rfl)) ?_; (conv => whnf)) | (refine bIf.yes (by first | assumption | rfl) ?_; (conv => whnf)) | (refine bIf.no (by first | assumption | rfl) ?_; (conv => whnf))))
          refine Ob2.of e1 ?_
          (try (conv => whnf)); (repeat (first | (refine Ob.of (by first | with_reducible assumption | rfl | (exact ald rfl rfl (by assumption) rfl) | (exact ald_agg rfl rfl rfl (by assumption) rfl)) ?_; (conv => whnf)) | (refine bIf.yes (by first | assumption | rfl) ?_; (conv => whnf)) | (refine bIf.no (by first | assumption | rfl) ?_; (conv => whnf))))
          refine Ob2.of e2 ?_
          (try (conv => whnf)); (repeat (first | (refine Ob.of (by first | with_reducible assumption | rfl | (exact ald rfl rfl (by assumption) rfl) | (exact ald_agg rfl rfl rfl (by assumption) rfl)) ?_; (conv => whnf)) | (refine bIf.yes (by first | assumption | rfl) ?_; (conv => whnf)) | (refine bIf.no (by first | assumption | rfl) ?_; (conv => whnf))))
          refine Ob2.of e3 ?_
          (try (conv => whnf)); (repeat (first | (refine Ob.of (by first | with_reducible assumption | rfl | (exact ald rfl rfl (by assumption) rfl) | (exact ald_agg rfl rfl rfl (by assumption) rfl)) ?_; (conv => whnf)) | (refine bIf.yes (by first | assumption | rfl) ?_; (conv => whnf)) | (refine bIf.no (by first | assumption | rfl) ?_; (conv => whnf))))
          refine Ob2.of e4 ?_
          (try (conv => whnf)); (repeat (first | (refine Ob.of (by first | with_reducible assumption | rfl | (exact ald rfl rfl (by assumption) rfl) | (exact ald_agg rfl rfl rfl (by assumption) rfl)) ?_; (conv => whnf)) | (refine bIf.yes (by first | assumption | rfl) ?_; (conv => whnf)) | (refine bIf.no (by first | assumption | rfl) ?_; (conv => whnf))))
          obtain ⟨y, ⟨y1, y2, y3, y4, _⟩, y5⟩ := nx _ _ (by simpa using r7)
          exact ⟨y, ⟨y1, y2, y3, y4, trivial⟩, y5⟩
      · have hq1 : quote1 c = [92, 120, hexD (c.toNat / 16), hexD (c.toNat % 16)] := by simp only [quote1, hp, Bool.false_eq_true, if_false, if_neg hq]
        rw [hq1] at nx
        have u1 : ((c.toNat : Int) == 34) = false := by rw [show (34 : Int) = ((34 : Nat) : Int) from rfl, u8_eq c 34 (by decide)]; simp; exact fun e => hq (.inl e)
        have u2 : ((c.toNat : Int) == 92) = false := by rw [show (92 : Int) = ((92 : Nat) : Int) from rfl, u8_eq c 92 (by decide)]; simp; exact fun e => hq (.inr e)
        have hcb := c.toNat_lt
        have ih := dig_of (n := c.toNat / 16) (by omega) (quo_eq c)
        have il := dig_of (n := c.toNat % 16) (by omega) (rem_eq c)
        obtain ⟨q', H6, v6, H7, e3, e4, r7⟩ := app_three (a := hexD (c.toNat / 16)) (b := hexD (c.toNat % 16)) r5 (by simp only [List.length_append, List.length_cons, List.length_nil]; omega)
        (try (conv => whnf)); (repeat (first | (refine Ob.of (by first | with_reducible assumption | rfl | (exact ald rfl rfl (by assumption) rfl) | (exact ald_agg rfl rfl rfl (by assumption) rfl)) ?_; (conv => whnf)) | (refine bIf.yes (by first | assumption | rfl) ?_; (conv => whnf)) | (refine bIf.no (by first | assumption | rfl) ?_; (conv => whnf))))
        refine Ob2.of e1 ?_
        (try (conv => whnf)); (repeat (first | (refine Ob.of (by first | with_reducible assumption | rfl | (exact ald rfl rfl (by assumption) rfl) | (exact ald_agg rfl rfl rfl (by assumption) rfl)) ?_; (conv => whnf)) | (refine bIf.yes (by first | assumption | rfl) ?_; (conv => whnf)) | (refine bIf.no (by first | assumption | rfl) ?_; (conv => whnf))))
        refine Ob2.of e2 ?_
        (try (conv => whnf)); (repeat (first | (refine Ob.of (by first | with_reducible assumption | rfl | (exact ald rfl rfl (by assumption) rfl) | (exact ald_agg rfl rfl rfl (by assumption) rfl)) ?_; (conv => whnf)) | (refine bIf.yes (by first | assumption | rfl) ?_; (conv => whnf)) | (refine bIf.no (by first | assumption | rfl) ?_; (conv => whnf))))
        apply SW.draw2 [([], [37, 38, 39, 40, 41, 42, 43, 44, 45], 0, 1, false), ([], [36, 38, 39, 41, 42, 43, 44], 0, 0, false), ([], [36, 37, 41, 42, 43, 44], 0, 0, false), ([(38, 2)], [36, 37, 38, 41, 42, 43, 44], 0, 0, false), ([(37, 1), (38, 2), (39, 3)], [36, 37, 38, 39, 41, 42, 43, 44], 0, 0, false), ([], [36, 37, 38, 39, 40, 42, 43], 0, 0, false), ([], [36, 37, 38, 39, 40, 41], 0, 0, false), ([(42, 6)], [36, 37, 38, 39, 40, 41, 42], 0, 0, false), ([(41, 5), (42, 6), (43, 7)], [36, 37, 38, 39, 40, 41, 42, 43], 0, 0, false), ([(37, 1), (38, 2), (39, 3), (40, 4), (41, 5), (42, 6), (43, 7), (44, 8)], [36, 37, 38, 39, 40, 41, 42, 43, 44], 0, 0, true), ([(36, 0), (37, 1), (38, 2), (39, 3), (40, 4), (41, 5), (42, 6), (43, 7), (44, 8), (45, 9)], [36, 37, 38, 39, 40, 41, 42, 43, 44, 45], 1, 0, true), ([(36, 0), (37, 1), (38, 2), (39, 3), (40, 4), (41, 5), (42, 6), (43, 7), (44, 8), (45, 9), (46, 10)], [36, 37, 38, 39, 40, 41, 42, 43, 44, 45, 46], 2, 0, false)]
          [(36, 0), (37, 1), (38, 2), (39, 3), (40, 4), (41, 5), (42, 6), (43, 7), (44, 8), (45, 9), (46, 10), (4, 11)] 2
          [(0, _), (3, _), (4, _), (5, _), (6, _)] [_, _, _, _, _, _, _, _, _, _, _, _] [H5, H6, H7] rfl (by kernel_rfl)
        case hF => exact ⟨rfl, rfl, rfl, rfl, rfl, trivial⟩
        case h0 => rfl
        case steps =>
          (try (conv => whnf)); repeat' (first | ((with_reducible refine Ob.of ih ?_); (conv => whnf)) | ((with_reducible refine Ob.of il ?_); (conv => whnf)) | ((with_reducible refine Ob.of e3 ?_); (conv => whnf)) | ((with_reducible refine Ob.of e4 ?_); (conv => whnf)) | ((with_reducible refine Ob2.of ih ?_); (conv => whnf)) | ((with_reducible refine Ob2.of il ?_); (conv => whnf)) | ((with_reducible refine Ob2.of e3 ?_); (conv => whnf)) | ((with_reducible refine Ob2.of e4 ?_); (conv => whnf)) | (refine And.intro ?_ ?_ <;> (conv => whnf)) | exact Leaf.mk rfl rfl | exact True.intro | (refine Ob.of rfl ?_; (conv => whnf)) | (refine Ob2.of (by rfl) ?_; (conv => whnf)) | (first | (refine Ob.of (by first | with_reducible assumption | rfl | (exact ald rfl rfl (by assumption) rfl) | (exact ald_agg rfl rfl rfl (by assumption) rfl)) ?_; (conv => whnf)) | (refine bIf.yes (by first | assumption | rfl) ?_; (conv => whnf)) | (refine bIf.no (by first | assumption | rfl) ?_; (conv => whnf))))
        (try (conv => whnf)); (repeat (first | (refine Ob.of (by first | with_reducible assumption | rfl | (exact ald rfl rfl (by assumption) rfl) | (exact ald_agg rfl rfl rfl (by assumption) rfl)) ?_; (conv => whnf)) | (refine bIf.yes (by first | assumption | rfl) ?_; (conv => whnf)) | (refine bIf.no (by first | assumption | rfl) ?_; (conv => whnf))))
        obtain ⟨y, ⟨y1, y2, y3, y4, _⟩, y5⟩ := nx _ _ (by simpa using r7)
        exact ⟨y, ⟨y1, y2, y3, y4, trivial⟩, y5⟩
end Go.Proofs.Ytffgdcmiacooaaa
