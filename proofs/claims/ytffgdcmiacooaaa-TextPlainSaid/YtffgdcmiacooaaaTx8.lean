/- Package text, and its document: a string as it is written. -/
import Derived.Test.YtffgdcmiacooaaaTx5
set_option linter.unusedVariables false
set_option linter.unusedSimpArgs false
set_option maxRecDepth 20000
set_option maxHeartbeats 1000000
namespace Go.Proofs.Ytffgdcmiacooaaa
open Go Ax
def hexD (n : Nat) : UInt8 := if n < 10 then UInt8.ofNat (48 + n) else UInt8.ofNat (87 + n)
def quote1 (c : UInt8) : List UInt8 :=
  if plainB (c.toNat : Int) = true then [c] else if c = 34 ∨ c = 92 then [92, c] else [92, 120, hexD (c.toNat / 16), hexD (c.toNat % 16)]
def quoteS (L : List UInt8) : List UInt8 := 34 :: (L.flatMap quote1 ++ [34])
theorem quote1_len (c : UInt8) : (quote1 c).length ≤ 4 := by unfold quote1; split; simp; split <;> simp
theorem take_more {L : List UInt8} {i : Nat} {c : UInt8} (h : L[i]? = some c) : (L.take (i + 1)).flatMap quote1 = (L.take i).flatMap quote1 ++ quote1 c := by
  rw [List.take_add_one, h]; simp
abbrev digitsV : Value := .string ⟨#[48, 49, 50, 51, 52, 53, 54, 55, 56, 57, 97, 98, 99, 100, 101, 102]⟩
theorem dig_at : ∀ n : Fin 16, aindex Try.prog 9 digitsV (.int .u8 (n.val : Int)) = some (u8 (hexD n.val)) := by
  intro n
  match n with
  | ⟨0, _⟩ => rfl
  | ⟨1, _⟩ => rfl
  | ⟨2, _⟩ => rfl
  | ⟨3, _⟩ => rfl
  | ⟨4, _⟩ => rfl
  | ⟨5, _⟩ => rfl
  | ⟨6, _⟩ => rfl
  | ⟨7, _⟩ => rfl
  | ⟨8, _⟩ => rfl
  | ⟨9, _⟩ => rfl
  | ⟨10, _⟩ => rfl
  | ⟨11, _⟩ => rfl
  | ⟨12, _⟩ => rfl
  | ⟨13, _⟩ => rfl
  | ⟨14, _⟩ => rfl
  | ⟨15, _⟩ => rfl
  | ⟨n + 16, h⟩ => exact absurd h (by omega)
theorem dig_of {n : Nat} (h : n < 16) {z : Int} (hz : z = n) : aindex Try.prog 9 digitsV (.int .u8 z) = some (u8 (hexD n)) := by subst hz; exact dig_at ⟨n, h⟩
theorem and_low : ∀ c : Fin 256, (BitVec.ofInt 8 (c.val : Int) &&& BitVec.ofInt 8 15).toNat = c.val % 16 := by decide
theorem low_eq (c : UInt8) : IntKind.u8.wrap (BitVec.ofInt IntKind.u8.bits (c.toNat : Int) &&& BitVec.ofInt IntKind.u8.bits 15).toNat = ((c.toNat % 16 : Nat) : Int) := by
  have h := and_low ⟨c.toNat, c.toNat_lt⟩
  have hb : IntKind.u8.bits = 8 := rfl
  rw [hb, h, wrap_u8 (by omega) (by omega)]
theorem high_eq (c : UInt8) : ((c.toNat : Int)).fdiv (2 ^ (min (4 : Int).toNat IntKind.u8.bits)) = ((c.toNat / 16 : Nat) : Int) := by
  have e : (2 : Int) ^ (min (4 : Int).toNat IntKind.u8.bits) = 16 := rfl
  rw [e, Int.fdiv_eq_ediv_of_nonneg _ (by omega)]
  rfl
theorem flat_len (L : List UInt8) (i : Nat) : ((L.take i).flatMap quote1).length ≤ 4 * i := by
  induction i with
  | zero => simp
  | succ i ih =>
    cases h : L[i]? with
    | none => rw [List.take_add_one, h]; simp only [Option.toList_none, List.append_nil]; omega
    | some c => rw [take_more h, List.length_append]; have := quote1_len c; omega
theorem quote_ax (H0 : Heap) {s : ByteArray} (hs : s.size ≤ 100000) : AX Try.prog 10 #[.string s] H0 (fun v H' => v = .string ⟨(quoteS s.data.toList).toArray⟩ ∧ H' = H0) := by
  refine AX.alone (args := [.string s]) (fun v hv => by simp only [List.mem_singleton] at hv; subst hv; exact plain_str _) ?_
  suffices hh : AX Try.prog 10 [.string s].toArray [] (fun v _ => v = .string ⟨(quoteS s.data.toList).toArray⟩) from hh.mono fun v _ e => ⟨e ▸ plain_str _, e⟩
  have hsl : s.data.toList.length = s.size := by simp
  refine AX.body (n := 42) (rs := [.tmp 2]) Try.func10 rfl (by decide) rfl rfl (bC_sound _ _ _ _ ?_)
  (try (conv => whnf)); (repeat (first | (refine Ob.of (by first | with_reducible assumption | rfl | (exact ald rfl rfl (by assumption) rfl) | (exact ald_agg rfl rfl rfl (by assumption) rfl)) ?_; (conv => whnf)) | (refine bIf.yes (by first | assumption | rfl) ?_; (conv => whnf)) | (refine bIf.no (by first | assumption | rfl) ?_; (conv => whnf))))
  refine Ob2.allocM (.one 35) rfl (by rfl) fun b H1 hq k1 k2 => ?_
  have r1 : Bld 0 H1 b 35 [] [] := ⟨by omega, by omega, .pointer none, .slice none 0 0, k1, .inl rfl, .inl ⟨rfl, rfl⟩⟩
  (try (conv => whnf)); (repeat (first | (refine Ob.of (by first | with_reducible assumption | rfl | (exact ald rfl rfl (by assumption) rfl) | (exact ald_agg rfl rfl rfl (by assumption) rfl)) ?_; (conv => whnf)) | (refine bIf.yes (by first | assumption | rfl) ?_; (conv => whnf)) | (refine bIf.no (by first | assumption | rfl) ?_; (conv => whnf))))
  refine (writeByte_ax r1 okB_self (by decide) 34).mono ?_
  rintro _ H2 ⟨rfl, r2, _⟩
  (try (conv => whnf)); (repeat (first | (refine Ob.of (by first | with_reducible assumption | rfl | (exact ald rfl rfl (by assumption) rfl) | (exact ald_agg rfl rfl rfl (by assumption) rfl)) ?_; (conv => whnf)) | (refine bIf.yes (by first | assumption | rfl) ?_; (conv => whnf)) | (refine bIf.no (by first | assumption | rfl) ?_; (conv => whnf))))
  refine SW.loop (α := Nat) (fun i => [(0, .string s), (3, ptr b), (8, .int .i64 (s.size : Int)), (9, .int .i64 (i : Int))]) (fun i H => Bld 0 H b 35 [] (34 :: (s.data.toList.take i).flatMap quote1) ∧ i ≤ s.size) (fun i => s.size - i)
    ⟨0, ⟨rfl, rfl, rfl, rfl, trivial⟩, by simpa using r2, by omega⟩ ?_
  rintro i H3 ⟨r3, hi⟩
  refine bC_sound _ _ _ _ ?_
  have hfl := flat_len s.data.toList i
  have w1 : IntKind.i64.wrap ((i : Int) + 1) = ((i + 1 : Nat) : Int) := wrap_nat (by omega)
  have next : ∀ (c : UInt8) (H' : Heap), s.data.toList[i]? = some c → Bld 0 H' b 35 [] (34 :: (s.data.toList.take i).flatMap quote1 ++ quote1 c) →
      ∃ y : Nat, Has [(0, Value.string s), (3, ptr b), (8, .int .i64 (s.size : Int)), (9, .int .i64 (IntKind.i64.wrap ((i : Int) + 1)))] [(0, .string s), (3, ptr b), (8, .int .i64 (s.size : Int)), (9, .int .i64 (y : Int))] ∧ (Bld 0 H' b 35 [] (34 :: (s.data.toList.take y).flatMap quote1) ∧ y ≤ s.size) ∧ s.size - y < s.size - i := by
    intro c H' hc hb
    have hlt := str_lt hc
    exact ⟨i + 1, ⟨rfl, rfl, rfl, congrArg (fun z => some (Value.int .i64 z)) w1, trivial⟩, ⟨by rw [take_more hc]; simpa using hb, by omega⟩, by omega⟩
  cases hc : s.data.toList[i]? with
  | none =>
    have hge := str_ge hc
    have d1 : decide ((i : Int) < (s.size : Int)) = false := decide_eq_false (by omega)
    have hall : s.data.toList.take i = s.data.toList := List.take_of_length_le (by omega)
    rw [hall] at r3
    rw [hall] at hfl
    (try (conv => whnf)); (repeat (first | (refine Ob.of (by first | with_reducible assumption | rfl | (exact ald rfl rfl (by assumption) rfl) | (exact ald_agg rfl rfl rfl (by assumption) rfl)) ?_; (conv => whnf)) | (refine bIf.yes (by first | assumption | rfl) ?_; (conv => whnf)) | (refine bIf.no (by first | assumption | rfl) ?_; (conv => whnf))))
    refine (writeByte_ax r3 okB_self (by simp only [List.length_append, List.length_cons, List.length_nil]; omega) 34).mono ?_
    rintro _ H4 ⟨rfl, r4, _⟩
    (try (conv => whnf)); (repeat (first | (refine Ob.of (by first | with_reducible assumption | rfl | (exact ald rfl rfl (by assumption) rfl) | (exact ald_agg rfl rfl rfl (by assumption) rfl)) ?_; (conv => whnf)) | (refine bIf.yes (by first | assumption | rfl) ?_; (conv => whnf)) | (refine bIf.no (by first | assumption | rfl) ?_; (conv => whnf))))
    refine (string_ax r4 (by simp only [List.length_append, List.length_cons, List.length_nil]; omega)).mono ?_
    rintro _ H5 ⟨rfl, _⟩
    (try (conv => whnf)); (repeat (first | (refine Ob.of (by first | with_reducible assumption | rfl | (exact ald rfl rfl (by assumption) rfl) | (exact ald_agg rfl rfl rfl (by assumption) rfl)) ?_; (conv => whnf)) | (refine bIf.yes (by first | assumption | rfl) ?_; (conv => whnf)) | (refine bIf.no (by first | assumption | rfl) ?_; (conv => whnf))))
    rfl
  | some c =>
    have hlt := str_lt hc
    have d1 : decide ((i : Int) < (s.size : Int)) = true := decide_eq_true (by omega)
    have ix := aix hc
    have nx := fun H' h => next c H' hc h
    (try (conv => whnf)); (repeat (first | (refine Ob.of (by first | with_reducible assumption | rfl | (exact ald rfl rfl (by assumption) rfl) | (exact ald_agg rfl rfl rfl (by assumption) rfl)) ?_; (conv => whnf)) | (refine bIf.yes (by first | assumption | rfl) ?_; (conv => whnf)) | (refine bIf.no (by first | assumption | rfl) ?_; (conv => whnf))))
    refine (plain_ax H3 (c.toNat : Int)).mono ?_
    rintro _ X ⟨rfl, e⟩
    subst X
    cases hp : plainB (c.toNat : Int) with
    | true =>
      have hq1 : quote1 c = [c] := by simp only [quote1, hp, if_true]
      rw [hq1] at nx
      (try (conv => whnf)); (repeat (first | (refine Ob.of (by first | with_reducible assumption | rfl | (exact ald rfl rfl (by assumption) rfl) | (exact ald_agg rfl rfl rfl (by assumption) rfl)) ?_; (conv => whnf)) | (refine bIf.yes (by first | assumption | rfl) ?_; (conv => whnf)) | (refine bIf.no (by first | assumption | rfl) ?_; (conv => whnf))))
      refine (writeByte_ax r3 okB_self (by simp only [List.length_append, List.length_cons, List.length_nil]; omega) c).mono ?_
      rintro _ H4 ⟨rfl, r4, _⟩
      (try (conv => whnf)); (repeat (first | (refine Ob.of (by first | with_reducible assumption | rfl | (exact ald rfl rfl (by assumption) rfl) | (exact ald_agg rfl rfl rfl (by assumption) rfl)) ?_; (conv => whnf)) | (refine bIf.yes (by first | assumption | rfl) ?_; (conv => whnf)) | (refine bIf.no (by first | assumption | rfl) ?_; (conv => whnf))))
      obtain ⟨y, ⟨y1, y2, y3, y4, _⟩, y5⟩ := nx _ r4
      exact ⟨y, ⟨y1, y2, y3, y4, trivial⟩, y5⟩
    | false =>
      by_cases hq : c = 34 ∨ c = 92
      · have hq1 : quote1 c = [92, c] := by simp only [quote1, hp, Bool.false_eq_true, if_false, if_pos hq]
        rw [hq1] at nx
        rcases hq with rfl | rfl
        · (try (conv => whnf)); (repeat (first | (refine Ob.of (by first | with_reducible assumption | rfl | (exact ald rfl rfl (by assumption) rfl) | (exact ald_agg rfl rfl rfl (by assumption) rfl)) ?_; (conv => whnf)) | (refine bIf.yes (by first | assumption | rfl) ?_; (conv => whnf)) | (refine bIf.no (by first | assumption | rfl) ?_; (conv => whnf))))
          refine (writeByte_ax r3 okB_self (by simp only [List.length_append, List.length_cons, List.length_nil]; omega) 92).mono ?_
          rintro _ H4 ⟨rfl, r4, _⟩
          (try (conv => whnf)); (repeat (first | (refine Ob.of (by first | with_reducible assumption | rfl | (exact ald rfl rfl (by assumption) rfl) | (exact ald_agg rfl rfl rfl (by assumption) rfl)) ?_; (conv => whnf)) | (refine bIf.yes (by first | assumption | rfl) ?_; (conv => whnf)) | (refine bIf.no (by first | assumption | rfl) ?_; (conv => whnf))))
          refine (writeByte_ax r4 okB_self (by simp only [List.length_append, List.length_cons, List.length_nil]; omega) 34).mono ?_
          rintro _ H5 ⟨rfl, r5, _⟩
          (try (conv => whnf)); (repeat (first | (refine Ob.of (by first | with_reducible assumption | rfl | (exact ald rfl rfl (by assumption) rfl) | (exact ald_agg rfl rfl rfl (by assumption) rfl)) ?_; (conv => whnf)) | (refine bIf.yes (by first | assumption | rfl) ?_; (conv => whnf)) | (refine bIf.no (by first | assumption | rfl) ?_; (conv => whnf))))
          obtain ⟨y, ⟨y1, y2, y3, y4, _⟩, y5⟩ := nx _ (by simpa using r5)
          exact ⟨y, ⟨y1, y2, y3, y4, trivial⟩, y5⟩
        · (try (conv => whnf)); (repeat (first | (refine Ob.of (by first | with_reducible assumption | rfl | (exact ald rfl rfl (by assumption) rfl) | (exact ald_agg rfl rfl rfl (by assumption) rfl)) ?_; (conv => whnf)) | (refine bIf.yes (by first | assumption | rfl) ?_; (conv => whnf)) | (refine bIf.no (by first | assumption | rfl) ?_; (conv => whnf))))
          refine (writeByte_ax r3 okB_self (by simp only [List.length_append, List.length_cons, List.length_nil]; omega) 92).mono ?_
          rintro _ H4 ⟨rfl, r4, _⟩
          (try (conv => whnf)); (repeat (first | (refine Ob.of (by first | with_reducible assumption | rfl | (exact ald rfl rfl (by assumption) rfl) | (exact ald_agg rfl rfl rfl (by assumption) rfl)) ?_; (conv => whnf)) | (refine bIf.yes (by first | assumption | rfl) ?_; (conv => whnf)) | (refine bIf.no (by first | assumption | rfl) ?_; (conv => whnf))))
          refine (writeByte_ax r4 okB_self (by simp only [List.length_append, List.length_cons, List.length_nil]; omega) 92).mono ?_
          rintro _ H5 ⟨rfl, r5, _⟩
          (try (conv => whnf)); (repeat (first | (refine Ob.of (by first | with_reducible assumption | rfl | (exact ald rfl rfl (by assumption) rfl) | (exact ald_agg rfl rfl rfl (by assumption) rfl)) ?_; (conv => whnf)) | (refine bIf.yes (by first | assumption | rfl) ?_; (conv => whnf)) | (refine bIf.no (by first | assumption | rfl) ?_; (conv => whnf))))
          obtain ⟨y, ⟨y1, y2, y3, y4, _⟩, y5⟩ := nx _ (by simpa using r5)
          exact ⟨y, ⟨y1, y2, y3, y4, trivial⟩, y5⟩
      · have hq1 : quote1 c = [92, 120, hexD (c.toNat / 16), hexD (c.toNat % 16)] := by simp only [quote1, hp, Bool.false_eq_true, if_false, if_neg hq]
        rw [hq1] at nx
        have u1 : ((c.toNat : Int) == 34) = false := by rw [show (34 : Int) = ((34 : Nat) : Int) from rfl, u8_eq c 34 (by decide)]; simp; exact fun e => hq (.inl e)
        have u2 : ((c.toNat : Int) == 92) = false := by rw [show (92 : Int) = ((92 : Nat) : Int) from rfl, u8_eq c 92 (by decide)]; simp; exact fun e => hq (.inr e)
        have hcb := c.toNat_lt
        have ih := dig_of (n := c.toNat / 16) (by omega) (high_eq c)
        have il := dig_of (n := c.toNat % 16) (by omega) (low_eq c)
        (try (conv => whnf)); (repeat (first | (refine Ob.of (by first | with_reducible assumption | rfl | (exact ald rfl rfl (by assumption) rfl) | (exact ald_agg rfl rfl rfl (by assumption) rfl)) ?_; (conv => whnf)) | (refine bIf.yes (by first | assumption | rfl) ?_; (conv => whnf)) | (refine bIf.no (by first | assumption | rfl) ?_; (conv => whnf))))
        refine (writeString_ax r3 okB_self ⟨#[92, 120]⟩ (by show (34 :: (List.take i s.data.toList).flatMap quote1).length + 2 ≤ _; simp only [List.length_cons]; omega)).mono ?_
        rintro _ H4 ⟨rfl, r4, _⟩
        (try (conv => whnf)); (repeat (first | (refine Ob.of (by first | with_reducible assumption | rfl | (exact ald rfl rfl (by assumption) rfl) | (exact ald_agg rfl rfl rfl (by assumption) rfl)) ?_; (conv => whnf)) | (refine bIf.yes (by first | assumption | rfl) ?_; (conv => whnf)) | (refine bIf.no (by first | assumption | rfl) ?_; (conv => whnf))))
        refine (writeByte_ax r4 okB_self (by simp only [List.length_append, List.length_cons, List.length_nil]; omega) (hexD (c.toNat / 16))).mono ?_
        rintro _ H5 ⟨rfl, r5, _⟩
        (try (conv => whnf)); (repeat (first | (refine Ob.of (by first | with_reducible assumption | rfl | (exact ald rfl rfl (by assumption) rfl) | (exact ald_agg rfl rfl rfl (by assumption) rfl)) ?_; (conv => whnf)) | (refine bIf.yes (by first | assumption | rfl) ?_; (conv => whnf)) | (refine bIf.no (by first | assumption | rfl) ?_; (conv => whnf))))
        refine (writeByte_ax r5 okB_self (by simp only [List.length_append, List.length_cons, List.length_nil]; omega) (hexD (c.toNat % 16))).mono ?_
        rintro _ H6 ⟨rfl, r6, _⟩
        (try (conv => whnf)); (repeat (first | (refine Ob.of (by first | with_reducible assumption | rfl | (exact ald rfl rfl (by assumption) rfl) | (exact ald_agg rfl rfl rfl (by assumption) rfl)) ?_; (conv => whnf)) | (refine bIf.yes (by first | assumption | rfl) ?_; (conv => whnf)) | (refine bIf.no (by first | assumption | rfl) ?_; (conv => whnf))))
        obtain ⟨y, ⟨y1, y2, y3, y4, _⟩, y5⟩ := nx _ (by simpa using r6)
        exact ⟨y, ⟨y1, y2, y3, y4, trivial⟩, y5⟩
end Go.Proofs.Ytffgdcmiacooaaa
