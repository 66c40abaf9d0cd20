/- The document of package text: the string with which a text begins. -/
import Derived.Test.YtffgdcmiacooaaaTx4
set_option linter.unusedVariables false
set_option linter.unusedSimpArgs false
set_option maxRecDepth 20000
set_option maxHeartbeats 1000000
namespace Go.Proofs.Ytffgdcmiacooaaa
open Go Ax
theorem conv_buf {B : Nat} {H : Heap} {v : Value} {bs : List UInt8} (h : Buf B H v bs) : aconvert Try.prog 33 9 v H = some (.string ⟨bs.toArray⟩) := by
  rcases h with ⟨rfl, rfl⟩ | ⟨g, h1, rfl, h3, h4⟩
  · rfl
  · have h7 : slotsOf (u8s bs) 0 bs.length = some (u8s bs) := by rw [slots_of (by simp [u8s_length])]; rw [List.drop_zero, List.take_of_length_le (by simp [u8s_length])]
    simp [aconvert, show Try.prog.underlying 33 = some (.slice 5) from rfl, show Try.prog.underlying 9 = some .string from rfl, show Try.prog.underlying 5 = some (.int .u8) from rfl, hblk_of h4, h7, u8s_back, h3]
/-- A byte more, behind a slice of one byte. -/
theorem app_one {H : Heap} {v : Value} {bs : List UInt8} {x : UInt8} (h : Buf 0 H v bs) (hl : bs.length ≤ 1000000) :
    ∃ q H1 v' H2, abuildSlice Try.prog 33 1 [(0, u8 x)] H = some (.slice (some ⟨q, 0, none⟩) 1 1, H1) ∧ aappend Try.prog 33 33 v (.slice (some ⟨q, 0, none⟩) 1 1) H1 = some (v', H2) ∧ Buf 0 H2 v' (bs ++ [x]) := by
  have hq : (H ++ [Blk.cells (.row 5) [u8 x]])[H.length]? = some (.cells (.row 5) [u8 x]) := at_push _ _
  obtain ⟨v', H2, e, m1, m2, m3⟩ := app_buf (tx := 33) (h.grow (Grow.push H [Blk.cells (.row 5) [u8 x]])) (Nat.zero_le _) (src_byte hq) rfl rfl rfl (by simp; omega)
  exact ⟨_, _, v', H2, rfl, e, m1⟩
theorem esc_none {L : List UInt8} {k : Nat} (h : L[k]? = none) : escS L k = (false, k, []) := by simp [escS, h]
theorem rtake_ax (H0 : Heap) {s : ByteArray} (hs : s.size ≤ 100000) : AX Try.prog 9 #[.string s] H0 (fun v H' => v = takeV (takeS s.data.toList) ∧ H' = H0) := by
  refine AX.alone (args := [.string s]) (fun v hv => by simp only [List.mem_singleton] at hv; subst hv; exact plain_str _) ?_
  suffices hh : AX Try.prog 9 [.string s].toArray [] (fun v _ => v = takeV (takeS s.data.toList)) from hh.mono fun v _ e => ⟨e ▸ plain_takeV _, e⟩
  have hsl : s.data.toList.length = s.size := by simp
  refine AX.body (n := 124) (rs := [.tmp 2, .tmp 3, .tmp 4]) Try.func9 rfl (by decide) rfl rfl (bC_sound _ _ _ _ ?_)
  cases hc : s.data.toList[0]? with
  | none =>
    have h0 := str_ge hc
    have d1 : ((s.size : Int) == 0) = true := by rw [beq_iff_eq]; omega
    (try (conv => whnf)); (repeat (first | (refine Ob.of (by first | with_reducible assumption | rfl | (exact ald rfl rfl (by assumption) rfl) | (exact ald_agg rfl rfl rfl (by assumption) rfl)) ?_; (conv => whnf)) | (refine bIf.yes (by first | assumption | rfl) ?_; (conv => whnf)) | (refine bIf.no (by first | assumption | rfl) ?_; (conv => whnf))))
    simp only [takeS, hc]
    rfl
  | some c =>
    have h0 := str_lt hc
    have d1 : ((s.size : Int) == 0) = false := by rw [beq_eq_false_iff_ne]; omega
    have ix0 : aindex Try.prog 9 (.string s) (.int .i64 0) = some (u8 c) := aix (k := 0) hc
    by_cases hq34 : c = 34
    rotate_left
    · have t1 : ((c.toNat : Int) != 34) = true := by rw [show (34 : Int) = ((34 : Nat) : Int) from rfl, u8_ne c 34 (by decide)]; simp [hq34]
      (try (conv => whnf)); (repeat (first | (refine Ob.of (by first | with_reducible assumption | rfl | (exact ald rfl rfl (by assumption) rfl) | (exact ald_agg rfl rfl rfl (by assumption) rfl)) ?_; (conv => whnf)) | (refine bIf.yes (by first | assumption | rfl) ?_; (conv => whnf)) | (refine bIf.no (by first | assumption | rfl) ?_; (conv => whnf))))
      simp only [takeS, hc, if_neg hq34]
      rfl
    have t1 : ((c.toNat : Int) != 34) = false := by rw [show (34 : Int) = ((34 : Nat) : Int) from rfl, u8_ne c 34 (by decide)]; simp [hq34]
    have hR : takeS s.data.toList = tkF (s.data.toList.length + 1) s.data.toList 1 [] := by simp only [takeS, hc, if_pos hq34]
    rw [hR]
    (try (conv => whnf)); (repeat (first | (refine Ob.of (by first | with_reducible assumption | rfl | (exact ald rfl rfl (by assumption) rfl) | (exact ald_agg rfl rfl rfl (by assumption) rfl)) ?_; (conv => whnf)) | (refine bIf.yes (by first | assumption | rfl) ?_; (conv => whnf)) | (refine bIf.no (by first | assumption | rfl) ?_; (conv => whnf))))
    refine SW.loop (α := Nat × Value × List UInt8 × Nat) (fun x => [(0, .string s), (5, x.2.1), (6, .int .i64 (x.1 : Int))])
      (fun x H => Buf 0 H x.2.1 x.2.2.1 ∧ tkF x.2.2.2 s.data.toList x.1 x.2.2.1 = tkF (s.data.toList.length + 1) s.data.toList 1 [] ∧ s.size < x.2.2.2 + x.1 ∧ x.2.2.1.length ≤ x.1 ∧ x.1 ≤ s.size) (fun x => s.size - x.1)
      ⟨(1, .slice none 0 0, [], s.data.toList.length + 1), ⟨rfl, rfl, rfl, trivial⟩, .inl ⟨rfl, rfl⟩, rfl, by show s.size < s.data.toList.length + 1 + 1; omega, by simp, by show 1 ≤ s.size; omega⟩ ?_
    rintro ⟨k, v, acc, f⟩ H3 ⟨r3, hf, hfk, hac, hkl⟩
    simp only at r3 hf hfk hac hkl
    refine bC_sound _ _ _ _ ?_
    rw [← hf]
    obtain ⟨f, rfl⟩ : ∃ m, f = m + 1 := ⟨f - 1, by omega⟩
    have w1 : IntKind.i64.wrap ((k : Int) + 1) = ((k + 1 : Nat) : Int) := wrap_nat (by omega)
    cases hc : s.data.toList[k]? with
    | none =>
      have hge := str_ge hc
      have d2 : decide ((k : Int) < (s.size : Int)) = false := decide_eq_false (by omega)
      (try (conv => whnf)); (repeat (first | (refine Ob.of (by first | with_reducible assumption | rfl | (exact ald rfl rfl (by assumption) rfl) | (exact ald_agg rfl rfl rfl (by assumption) rfl)) ?_; (conv => whnf)) | (refine bIf.yes (by first | assumption | rfl) ?_; (conv => whnf)) | (refine bIf.no (by first | assumption | rfl) ?_; (conv => whnf))))
      simp only [tkF, hc]
      rw [show k = s.size by omega]
      rfl
    | some c =>
      have hlt := str_lt hc
      have d2 : decide ((k : Int) < (s.size : Int)) = true := decide_eq_true (by omega)
      have ix := aix hc
      by_cases h34 : c = 34
      · have t2 : ((c.toNat : Int) == 34) = true := by rw [show (34 : Int) = ((34 : Nat) : Int) from rfl, u8_eq c 34 (by decide)]; exact decide_eq_true h34
        have cv := conv_buf r3
        simp only [tkF, hc, if_pos h34]
        (try (conv => whnf)); (repeat (first | (refine Ob.of (by first | with_reducible assumption | rfl | (exact ald rfl rfl (by assumption) rfl) | (exact ald_agg rfl rfl rfl (by assumption) rfl)) ?_; (conv => whnf)) | (refine bIf.yes (by first | assumption | rfl) ?_; (conv => whnf)) | (refine bIf.no (by first | assumption | rfl) ?_; (conv => whnf))))
        exact congrArg (fun z => Value.tuple #[.string ⟨acc.toArray⟩, .int .i64 z, .int .i64 0]) w1
      have t2 : ((c.toNat : Int) == 34) = false := by rw [show (34 : Int) = ((34 : Nat) : Int) from rfl, u8_eq c 34 (by decide)]; exact decide_eq_false h34
      (try (conv => whnf)); (repeat (first | (refine Ob.of (by first | with_reducible assumption | rfl | (exact ald rfl rfl (by assumption) rfl) | (exact ald_agg rfl rfl rfl (by assumption) rfl)) ?_; (conv => whnf)) | (refine bIf.yes (by first | assumption | rfl) ?_; (conv => whnf)) | (refine bIf.no (by first | assumption | rfl) ?_; (conv => whnf))))
      refine (rplain_ax H3 (c.toNat : Int)).mono ?_
      rintro _ X ⟨rfl, e⟩
      subst X
      cases hp : plainB (c.toNat : Int) with
      | true =>
        obtain ⟨q, H4, v', H5, e1, e2, r5⟩ := app_one (x := c) r3 (by omega)
        (try (conv => whnf)); (repeat (first | (refine Ob.of (by first | with_reducible assumption | rfl | (exact ald rfl rfl (by assumption) rfl) | (exact ald_agg rfl rfl rfl (by assumption) rfl)) ?_; (conv => whnf)) | (refine bIf.yes (by first | assumption | rfl) ?_; (conv => whnf)) | (refine bIf.no (by first | assumption | rfl) ?_; (conv => whnf))))
        refine Ob2.of e1 ?_
        (try (conv => whnf)); (repeat (first | (refine Ob.of (by first | with_reducible assumption | rfl | (exact ald rfl rfl (by assumption) rfl) | (exact ald_agg rfl rfl rfl (by assumption) rfl)) ?_; (conv => whnf)) | (refine bIf.yes (by first | assumption | rfl) ?_; (conv => whnf)) | (refine bIf.no (by first | assumption | rfl) ?_; (conv => whnf))))
        refine Ob2.of e2 ?_
        (try (conv => whnf)); (repeat (first | (refine Ob.of (by first | with_reducible assumption | rfl | (exact ald rfl rfl (by assumption) rfl) | (exact ald_agg rfl rfl rfl (by assumption) rfl)) ?_; (conv => whnf)) | (refine bIf.yes (by first | assumption | rfl) ?_; (conv => whnf)) | (refine bIf.no (by first | assumption | rfl) ?_; (conv => whnf))))
        exact ⟨(k + 1, v', acc ++ [c], f), ⟨rfl, rfl, congrArg (fun z => some (Value.int .i64 z)) w1, trivial⟩, ⟨r5, by show tkF f _ _ _ = tkF (f + 1) _ _ _; simp only [tkF, hc, if_neg h34, hp, if_true], by show s.size < f + (k + 1); omega, by simp; omega, by show k + 1 ≤ s.size; omega⟩, by show s.size - (k + 1) < s.size - k; omega⟩
      | false =>
        by_cases h92 : c = 92
        rotate_left
        · have t3 : ((c.toNat : Int) != 92) = true := by rw [show (92 : Int) = ((92 : Nat) : Int) from rfl, u8_ne c 92 (by decide)]; simp [h92]
          simp only [tkF, hc, if_neg h34, hp, Bool.false_eq_true, if_false, ne_eq, h92, not_false_eq_true, if_true]
          (try (conv => whnf)); (repeat (first | (refine Ob.of (by first | with_reducible assumption | rfl | (exact ald rfl rfl (by assumption) rfl) | (exact ald_agg rfl rfl rfl (by assumption) rfl)) ?_; (conv => whnf)) | (refine bIf.yes (by first | assumption | rfl) ?_; (conv => whnf)) | (refine bIf.no (by first | assumption | rfl) ?_; (conv => whnf))))
          rfl
        have t3 : ((c.toNat : Int) != 92) = false := by rw [show (92 : Int) = ((92 : Nat) : Int) from rfl, u8_ne c 92 (by decide)]; simp [h92]
        have w2 : IntKind.i64.wrap (IntKind.i64.wrap ((k : Int) + 1) + 1) = ((k + 2 : Nat) : Int) := by rw [w1, wrap_nat (by omega)]
        have no : ∀ n x, escS s.data.toList (k + 1) = (false, n, x) → tkF (f + 1) s.data.toList k acc = ([], n, 11) := by
          intro n x e
          have := tk_no (f := f) (acc := acc) hc h34 hp h92 (by rw [e])
          rw [e] at this
          exact this
        have yes : ∀ n x, escS s.data.toList (k + 1) = (true, n, x) → tkF (f + 1) s.data.toList k acc = tkF f s.data.toList n (acc ++ x) := by
          intro n x e
          have := tk_yes (f := f) (acc := acc) hc h34 hp h92 (by rw [e])
          rw [e] at this
          exact this
        cases hd : s.data.toList[k + 1]? with
        | none =>
          have hge := str_ge hd
          have d3 : decide (IntKind.i64.wrap ((k : Int) + 1) < (s.size : Int)) = false := decide_eq_false (by omega)
          have d4 : decide (IntKind.i64.wrap ((k : Int) + 1) ≥ (s.size : Int)) = true := decide_eq_true (by omega)
          rw [no (k + 1) [] (by simp [escS, hd])]
          (try (conv => whnf)); (repeat (first | (refine Ob.of (by first | with_reducible assumption | rfl | (exact ald rfl rfl (by assumption) rfl) | (exact ald_agg rfl rfl rfl (by assumption) rfl)) ?_; (conv => whnf)) | (refine bIf.yes (by first | assumption | rfl) ?_; (conv => whnf)) | (refine bIf.no (by first | assumption | rfl) ?_; (conv => whnf))))
          exact congrArg (fun z => Value.tuple #[.string ⟨#[]⟩, .int .i64 z, .int .i64 11]) w1
        | some d =>
          have hlt2 := str_lt hd
          have d3 : decide (IntKind.i64.wrap ((k : Int) + 1) < (s.size : Int)) = true := decide_eq_true (by omega)
          have d4 : decide (IntKind.i64.wrap ((k : Int) + 1) ≥ (s.size : Int)) = false := decide_eq_false (by omega)
          have ix1 : aindex Try.prog 9 (.string s) (.int .i64 (IntKind.i64.wrap ((k : Int) + 1))) = some (u8 d) := by rw [w1]; exact aix hd
          by_cases hq : d = 34 ∨ d = 92
          · have hx : d ≠ 120 := by rcases hq with rfl | rfl <;> decide
            have hst := yes (k + 2) [d] (by simp only [escS, hd, if_neg hx, if_pos hq])
            obtain ⟨q, H4, v', H5, e1, e2, r5⟩ := app_one (x := d) r3 (by omega)
            have fin : ∃ y : Nat × Value × List UInt8 × Nat, Has [(5, v'), (0, Value.string s), (6, .int .i64 (IntKind.i64.wrap (IntKind.i64.wrap ((k : Int) + 1) + 1)))] [(0, .string s), (5, y.2.1), (6, .int .i64 (y.1 : Int))] ∧ (Buf 0 H5 y.2.1 y.2.2.1 ∧ tkF y.2.2.2 s.data.toList y.1 y.2.2.1 = tkF (f + 1) s.data.toList k acc ∧ s.size < y.2.2.2 + y.1 ∧ y.2.2.1.length ≤ y.1 ∧ y.1 ≤ s.size) ∧ s.size - y.1 < s.size - k :=
              ⟨(k + 2, v', acc ++ [d], f), ⟨rfl, rfl, congrArg (fun z => some (Value.int .i64 z)) w2, trivial⟩, ⟨r5, hst.symm, by show s.size < f + (k + 2); omega, by simp; omega, by show k + 2 ≤ s.size; omega⟩, by show s.size - (k + 2) < s.size - k; omega⟩
            rcases hq with rfl | rfl
            · (try (conv => whnf)); (repeat (first | (refine Ob.of (by first | with_reducible assumption | rfl | (exact ald rfl rfl (by assumption) rfl) | (exact ald_agg rfl rfl rfl (by assumption) rfl)) ?_; (conv => whnf)) | (refine bIf.yes (by first | assumption | rfl) ?_; (conv => whnf)) | (refine bIf.no (by first | assumption | rfl) ?_; (conv => whnf))))
              refine Ob2.of e1 ?_
              (try (conv => whnf)); (repeat (first | (refine Ob.of (by first | with_reducible assumption | rfl | (exact ald rfl rfl (by assumption) rfl) | (exact ald_agg rfl rfl rfl (by assumption) rfl)) ?_; (conv => whnf)) | (refine bIf.yes (by first | assumption | rfl) ?_; (conv => whnf)) | (refine bIf.no (by first | assumption | rfl) ?_; (conv => whnf))))
              refine Ob2.of e2 ?_
              (try (conv => whnf)); (repeat (first | (refine Ob.of (by first | with_reducible assumption | rfl | (exact ald rfl rfl (by assumption) rfl) | (exact ald_agg rfl rfl rfl (by assumption) rfl)) ?_; (conv => whnf)) | (refine bIf.yes (by first | assumption | rfl) ?_; (conv => whnf)) | (refine bIf.no (by first | assumption | rfl) ?_; (conv => whnf))))
              obtain ⟨y, ⟨y1, y2, y3, _⟩, y4⟩ := fin
              exact ⟨y, ⟨y1, y2, y3, trivial⟩, y4⟩
            · (try (conv => whnf)); (repeat (first | (refine Ob.of (by first | with_reducible assumption | rfl | (exact ald rfl rfl (by assumption) rfl) | (exact ald_agg rfl rfl rfl (by assumption) rfl)) ?_; (conv => whnf)) | (refine bIf.yes (by first | assumption | rfl) ?_; (conv => whnf)) | (refine bIf.no (by first | assumption | rfl) ?_; (conv => whnf))))
              refine Ob2.of e1 ?_
              (try (conv => whnf)); (repeat (first | (refine Ob.of (by first | with_reducible assumption | rfl | (exact ald rfl rfl (by assumption) rfl) | (exact ald_agg rfl rfl rfl (by assumption) rfl)) ?_; (conv => whnf)) | (refine bIf.yes (by first | assumption | rfl) ?_; (conv => whnf)) | (refine bIf.no (by first | assumption | rfl) ?_; (conv => whnf))))
              refine Ob2.of e2 ?_
              (try (conv => whnf)); (repeat (first | (refine Ob.of (by first | with_reducible assumption | rfl | (exact ald rfl rfl (by assumption) rfl) | (exact ald_agg rfl rfl rfl (by assumption) rfl)) ?_; (conv => whnf)) | (refine bIf.yes (by first | assumption | rfl) ?_; (conv => whnf)) | (refine bIf.no (by first | assumption | rfl) ?_; (conv => whnf))))
              obtain ⟨y, ⟨y1, y2, y3, _⟩, y4⟩ := fin
              exact ⟨y, ⟨y1, y2, y3, trivial⟩, y4⟩
          have u1 : ((d.toNat : Int) == 34) = false := by rw [show (34 : Int) = ((34 : Nat) : Int) from rfl, u8_eq d 34 (by decide)]; simp; exact fun e => hq (.inl e)
          have u2 : ((d.toNat : Int) == 92) = false := by rw [show (92 : Int) = ((92 : Nat) : Int) from rfl, u8_eq d 92 (by decide)]; simp; exact fun e => hq (.inr e)
          by_cases hx : d = 120
          rotate_left
          · have u3 : ((d.toNat : Int) != 120) = true := by rw [show (120 : Int) = ((120 : Nat) : Int) from rfl, u8_ne d 120 (by decide)]; simp [hx]
            rw [no (k + 1) [] (by simp only [escS, hd, if_neg hx, if_neg hq])]
            (try (conv => whnf)); (repeat (first | (refine Ob.of (by first | with_reducible assumption | rfl | (exact ald rfl rfl (by assumption) rfl) | (exact ald_agg rfl rfl rfl (by assumption) rfl)) ?_; (conv => whnf)) | (refine bIf.yes (by first | assumption | rfl) ?_; (conv => whnf)) | (refine bIf.no (by first | assumption | rfl) ?_; (conv => whnf))))
            exact congrArg (fun z => Value.tuple #[.string ⟨#[]⟩, .int .i64 z, .int .i64 11]) w1
          have u3 : ((d.toNat : Int) != 120) = false := by rw [show (120 : Int) = ((120 : Nat) : Int) from rfl, u8_ne d 120 (by decide)]; simp [hx]
          have hesc : escS s.data.toList (k + 1) = pairS s.data.toList (k + 2) := by simp only [escS, hd, if_pos hx]
          have w3 : IntKind.i64.wrap (IntKind.i64.wrap (IntKind.i64.wrap ((k : Int) + 1) + 1) + 1) = ((k + 3 : Nat) : Int) := by rw [w2, wrap_nat (by omega)]
          cases he : s.data.toList[k + 2]? with
          | none =>
            have hge := str_ge he
            have d5 : decide (IntKind.i64.wrap (IntKind.i64.wrap ((k : Int) + 1) + 1) ≥ (s.size : Int)) = true := decide_eq_true (by omega)
            rw [no (k + 2) [] (by rw [hesc]; simp [pairS, hexAt, he])]
            (try (conv => whnf)); (repeat (first | (refine Ob.of (by first | with_reducible assumption | rfl | (exact ald rfl rfl (by assumption) rfl) | (exact ald_agg rfl rfl rfl (by assumption) rfl)) ?_; (conv => whnf)) | (refine bIf.yes (by first | assumption | rfl) ?_; (conv => whnf)) | (refine bIf.no (by first | assumption | rfl) ?_; (conv => whnf))))
            exact congrArg (fun z => Value.tuple #[.string ⟨#[]⟩, .int .i64 z, .int .i64 11]) w2
          | some e =>
            have hlt3 := str_lt he
            have hex2 : hexAt s.data.toList (k + 2) = worthO (e.toNat : Int) := by simp [hexAt, he]
            have d5 : decide (IntKind.i64.wrap (IntKind.i64.wrap ((k : Int) + 1) + 1) ≥ (s.size : Int)) = false := decide_eq_false (by omega)
            have ix2 : aindex Try.prog 9 (.string s) (.int .i64 (IntKind.i64.wrap (IntKind.i64.wrap ((k : Int) + 1) + 1))) = some (u8 e) := by rw [w2]; exact aix he
            have heb : (e.toNat : Int) ≤ 255 := by have := e.toNat_lt; omega
            (try (conv => whnf)); (repeat (first | (refine Ob.of (by first | with_reducible assumption | rfl | (exact ald rfl rfl (by assumption) rfl) | (exact ald_agg rfl rfl rfl (by assumption) rfl)) ?_; (conv => whnf)) | (refine bIf.yes (by first | assumption | rfl) ?_; (conv => whnf)) | (refine bIf.no (by first | assumption | rfl) ?_; (conv => whnf))))
            refine (rworth_ax H3 (e.toNat : Int) (by omega) heb).mono ?_
            rintro _ X ⟨rfl, z⟩
            subst X
            cases hw : worthO (e.toNat : Int) with
            | none =>
              rw [no (k + 2) [] (by rw [hesc]; simp only [pairS, hex2, hw])]
              (try (conv => whnf)); (repeat (first | (refine Ob.of (by first | with_reducible assumption | rfl | (exact ald rfl rfl (by assumption) rfl) | (exact ald_agg rfl rfl rfl (by assumption) rfl)) ?_; (conv => whnf)) | (refine bIf.yes (by first | assumption | rfl) ?_; (conv => whnf)) | (refine bIf.no (by first | assumption | rfl) ?_; (conv => whnf))))
              exact congrArg (fun z => Value.tuple #[.string ⟨#[]⟩, .int .i64 z, .int .i64 11]) w2
            | some p =>
              obtain ⟨p0, p1⟩ := worthO_lt hw
              have d6 : ((some p).getD 16 == (16 : Int)) = false := by simp; omega
              cases hg : s.data.toList[k + 3]? with
              | none =>
                have hge := str_ge hg
                have d7 : decide (IntKind.i64.wrap (IntKind.i64.wrap (IntKind.i64.wrap ((k : Int) + 1) + 1) + 1) ≥ (s.size : Int)) = true := decide_eq_true (by omega)
                have hex3 : hexAt s.data.toList (k + 2 + 1) = none := by simp [hexAt, hg]
                rw [no (k + 3) [] (by rw [hesc]; simp only [pairS, hex2, hw, hex3])]
                (try (conv => whnf)); (repeat (first | (refine Ob.of (by first | with_reducible assumption | rfl | (exact ald rfl rfl (by assumption) rfl) | (exact ald_agg rfl rfl rfl (by assumption) rfl)) ?_; (conv => whnf)) | (refine bIf.yes (by first | assumption | rfl) ?_; (conv => whnf)) | (refine bIf.no (by first | assumption | rfl) ?_; (conv => whnf))))
                exact congrArg (fun z => Value.tuple #[.string ⟨#[]⟩, .int .i64 z, .int .i64 11]) w3
              | some g =>
                have hlt4 := str_lt hg
                have hex3 : hexAt s.data.toList (k + 2 + 1) = worthO (g.toNat : Int) := by simp [hexAt, hg]
                have d7 : decide (IntKind.i64.wrap (IntKind.i64.wrap (IntKind.i64.wrap ((k : Int) + 1) + 1) + 1) ≥ (s.size : Int)) = false := decide_eq_false (by omega)
                have ix3 : aindex Try.prog 9 (.string s) (.int .i64 (IntKind.i64.wrap (IntKind.i64.wrap (IntKind.i64.wrap ((k : Int) + 1) + 1) + 1))) = some (u8 g) := by rw [w3]; exact aix hg
                have hgb : (g.toNat : Int) ≤ 255 := by have := g.toNat_lt; omega
                (try (conv => whnf)); (repeat (first | (refine Ob.of (by first | with_reducible assumption | rfl | (exact ald rfl rfl (by assumption) rfl) | (exact ald_agg rfl rfl rfl (by assumption) rfl)) ?_; (conv => whnf)) | (refine bIf.yes (by first | assumption | rfl) ?_; (conv => whnf)) | (refine bIf.no (by first | assumption | rfl) ?_; (conv => whnf))))
                refine (rworth_ax H3 (g.toNat : Int) (by omega) hgb).mono ?_
                rintro _ X ⟨rfl, z⟩
                subst X
                cases hv : worthO (g.toNat : Int) with
                | none =>
                  rw [no (k + 3) [] (by rw [hesc]; simp only [pairS, hex2, hw, hex3, hv])]
                  (try (conv => whnf)); (repeat (first | (refine Ob.of (by first | with_reducible assumption | rfl | (exact ald rfl rfl (by assumption) rfl) | (exact ald_agg rfl rfl rfl (by assumption) rfl)) ?_; (conv => whnf)) | (refine bIf.yes (by first | assumption | rfl) ?_; (conv => whnf)) | (refine bIf.no (by first | assumption | rfl) ?_; (conv => whnf))))
                  exact congrArg (fun z => Value.tuple #[.string ⟨#[]⟩, .int .i64 z, .int .i64 11]) w3
                | some r =>
                  obtain ⟨r0, r1⟩ := worthO_lt hv
                  have d8 : ((some r).getD 16 == (16 : Int)) = false := by simp; omega
                  have hst := yes (k + 4) [UInt8.ofNat (p * 16 + r).toNat] (by rw [hesc]; simp only [pairS, hex2, hw, hex3, hv])
                  have hy : (Value.int .u8 (IntKind.u8.wrap (IntKind.u8.wrap (p * 16) + r))) = u8 (UInt8.ofNat (p * 16 + r).toNat) := by
                    show Value.int .u8 _ = Value.int .u8 _
                    rw [wrap_u8 (x := p * 16) (by omega) (by omega), wrap_u8 (by omega) (by omega)]
                    congr 1
                    simp [UInt8.toNat_ofNat]
                    omega
                  obtain ⟨q, H4, v', H5, e1, e2, r5⟩ := app_one (x := UInt8.ofNat (p * 16 + r).toNat) r3 (by omega)
                  rw [← hy] at e1
                  have w4 : IntKind.i64.wrap (IntKind.i64.wrap (IntKind.i64.wrap ((k : Int) + 1) + 1) + 2) = ((k + 4 : Nat) : Int) := by rw [w2, wrap_i64 (by omega) (by omega)]; omega
                  have cE : AX Try.prog 20 #[u8 e] H3 (fun v H' => v = .int .u8 p ∧ H' = H3) := (rworth_ax H3 (e.toNat : Int) (by omega) heb).mono (by rintro v X ⟨rfl, z⟩; rw [hw]; exact ⟨rfl, z⟩)
                  have cG : AX Try.prog 20 #[u8 g] H3 (fun v H' => v = .int .u8 r ∧ H' = H3) := (rworth_ax H3 (g.toNat : Int) (by omega) hgb).mono (by rintro v X ⟨rfl, z⟩; rw [hv]; exact ⟨rfl, z⟩)
                  (try (conv => whnf)); (repeat (first | (refine Ob.of (by first | with_reducible assumption | rfl | (exact ald rfl rfl (by assumption) rfl) | (exact ald_agg rfl rfl rfl (by assumption) rfl)) ?_; (conv => whnf)) | (refine bIf.yes (by first | assumption | rfl) ?_; (conv => whnf)) | (refine bIf.no (by first | assumption | rfl) ?_; (conv => whnf))))
                  apply SW.draw2 [([], [107, 108, 109, 110, 111, 112, 113, 114, 115, 116, 117, 118], 0, 3, false), ([], [106, 108, 112, 113, 114, 115], 0, 0, false), ([], [106, 107, 112, 113, 114, 115], 0, 0, false), ([(107, 1), (108, 2)], [106, 107, 108, 112, 113, 114, 115], 0, 0, false), ([(107, 1), (108, 2), (109, 3)], [106, 107, 108, 109, 112, 113, 114, 115], 0, 0, true), ([(107, 1), (108, 2), (109, 3), (110, 4)], [106, 107, 108, 109, 110, 112, 113, 114, 115, 116], 1, 1, false), ([], [106, 107, 108, 109, 110, 111, 113, 114], 0, 1, false), ([], [106, 107, 108, 109, 110, 111, 112], 0, 1, false), ([(113, 7)], [106, 107, 108, 109, 110, 111, 112, 113], 0, 1, false), ([(112, 6), (113, 7), (114, 8)], [106, 107, 108, 109, 110, 111, 112, 113, 114], 0, 1, false), ([(107, 1), (108, 2), (109, 3), (110, 4), (112, 6), (113, 7), (114, 8), (115, 9)], [106, 107, 108, 109, 110, 111, 112, 113, 114, 115], 1, 0, true), ([(107, 1), (108, 2), (109, 3), (110, 4), (111, 5), (112, 6), (113, 7), (114, 8), (115, 9), (116, 10)], [106, 107, 108, 109, 110, 111, 112, 113, 114, 115, 116], 2, 0, false), ([(107, 1), (108, 2), (109, 3), (110, 4), (111, 5), (112, 6), (113, 7), (114, 8), (115, 9), (116, 10), (117, 11)], [106, 107, 108, 109, 110, 111, 112, 113, 114, 115, 116, 117], 2, 0, true), ([(106, 0), (107, 1), (108, 2), (109, 3), (110, 4), (111, 5), (112, 6), (113, 7), (114, 8), (115, 9), (116, 10), (117, 11), (118, 12)], [106, 107, 108, 109, 110, 111, 112, 113, 114, 115, 116, 117, 118], 3, 0, true), ([(106, 0), (107, 1), (108, 2), (109, 3), (110, 4), (111, 5), (112, 6), (113, 7), (114, 8), (115, 9), (116, 10), (117, 11), (118, 12), (119, 13)], [106, 107, 108, 109, 110, 111, 112, 113, 114, 115, 116, 117, 118, 119], 4, 0, false)]
                    [(106, 0), (107, 1), (108, 2), (109, 3), (110, 4), (111, 5), (112, 6), (113, 7), (114, 8), (115, 9), (116, 10), (117, 11), (118, 12), (119, 13), (5, 14)] 4
                    [(0, _), (5, _), (6, _)] [_, _, _, _, _, _, _, _, _, _, _, _, _, _, _] [H3, H3, H3, H4, H5] rfl (by kernel_rfl)
                  case hF => exact ⟨rfl, rfl, rfl, trivial⟩
                  case h0 => rfl
                  case steps =>
                    (try (conv => whnf)); repeat' (first | ((with_reducible refine Ob.of ix2 ?_); (conv => whnf)) | ((with_reducible refine Ob.of ix3 ?_); (conv => whnf)) | ((with_reducible refine Ob.of e1 ?_); (conv => whnf)) | ((with_reducible refine Ob.of e2 ?_); (conv => whnf)) | ((with_reducible refine Ob2.of ix2 ?_); (conv => whnf)) | ((with_reducible refine Ob2.of ix3 ?_); (conv => whnf)) | ((with_reducible refine Ob2.of e1 ?_); (conv => whnf)) | ((with_reducible refine Ob2.of e2 ?_); (conv => whnf)) | (refine And.intro ?_ ?_ <;> (conv => whnf)) | exact Leaf.mk rfl rfl | exact True.intro | (refine cE.mono ?_; rintro _ X ⟨rfl, z⟩; subst X; (conv => whnf)) | (refine cG.mono ?_; rintro _ X ⟨rfl, z⟩; subst X; (conv => whnf)) | (refine Ob.of rfl ?_; (conv => whnf)) | (refine Ob2.of (by rfl) ?_; (conv => whnf)) | (first | (refine Ob.of (by first | with_reducible assumption | rfl | (exact ald rfl rfl (by assumption) rfl) | (exact ald_agg rfl rfl rfl (by assumption) rfl)) ?_; (conv => whnf)) | (refine bIf.yes (by first | assumption | rfl) ?_; (conv => whnf)) | (refine bIf.no (by first | assumption | rfl) ?_; (conv => whnf))))
                  (try (conv => whnf)); (repeat (first | (refine Ob.of (by first | with_reducible assumption | rfl | (exact ald rfl rfl (by assumption) rfl) | (exact ald_agg rfl rfl rfl (by assumption) rfl)) ?_; (conv => whnf)) | (refine bIf.yes (by first | assumption | rfl) ?_; (conv => whnf)) | (refine bIf.no (by first | assumption | rfl) ?_; (conv => whnf))))
                  exact ⟨(k + 4, v', acc ++ [UInt8.ofNat (p * 16 + r).toNat], f), ⟨rfl, rfl, congrArg (fun z => some (Value.int .i64 z)) w4, trivial⟩, ⟨r5, hst.symm, by show s.size < f + (k + 4); omega, by simp; omega, by show k + 4 ≤ s.size; omega⟩, by show s.size - (k + 4) < s.size - k; omega⟩
end Go.Proofs.Ytffgdcmiacooaaa
