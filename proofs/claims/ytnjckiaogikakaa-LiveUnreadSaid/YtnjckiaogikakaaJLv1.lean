/- Package live in plain data: sets of registers, bit by bit. -/
import Derived.Test.YtnjckiaogikakaaProg
import Derived.Test.YtnjckiaogikakaaJAx3
set_option linter.unusedVariables false
set_option linter.unusedSimpArgs false
set_option maxRecDepth 20000
set_option maxHeartbeats 4000000
namespace Go.Proofs.Ytnjckiaogikakaa
open Go Ax
theorem w64 {n : Nat} (h : n < 18446744073709551616) : IntKind.u64.wrap (n : Int) = (n : Int) := IntWalk.u64_in _ ⟨by omega, by omega⟩
theorem bv_of {n : Nat} (h : n < 18446744073709551616) : (BitVec.ofInt 64 (n : Int)).toNat = n := by
  rw [BitVec.ofInt_natCast, BitVec.toNat_ofNat]
  exact Nat.mod_eq_of_lt h
theorem or64 {a b : Nat} (ha : a < 18446744073709551616) (hb : b < 18446744073709551616) : IntKind.u64.wrap (BitVec.ofInt IntKind.u64.bits (a : Int) ||| BitVec.ofInt IntKind.u64.bits (b : Int)).toNat = ((a ||| b : Nat) : Int) := by
  have e : (BitVec.ofInt 64 (a : Int) ||| BitVec.ofInt 64 (b : Int)).toNat = a ||| b := by rw [BitVec.toNat_or, bv_of ha, bv_of hb]
  show IntKind.u64.wrap ((BitVec.ofInt 64 (a : Int) ||| BitVec.ofInt 64 (b : Int)).toNat : Int) = _
  rw [e]
  exact w64 (Nat.or_lt_two_pow (n := 64) ha hb)
def andN (a b : Nat) : Nat := (BitVec.ofNat 64 a &&& ~~~ BitVec.ofNat 64 b).toNat
theorem andN_lt (a b : Nat) : andN a b < 18446744073709551616 := (BitVec.ofNat 64 a &&& ~~~ BitVec.ofNat 64 b).isLt
theorem andN_bit {a b i : Nat} (ha : a < 18446744073709551616) (hi : i < 64) : (andN a b).testBit i = (a.testBit i && !b.testBit i) := by
  unfold andN
  rw [BitVec.testBit_toNat, BitVec.getLsbD_and, BitVec.getLsbD_not, BitVec.getLsbD_ofNat, BitVec.getLsbD_ofNat]
  simp [hi]
theorem andN64 (a b : Nat) : IntKind.u64.wrap (BitVec.ofInt IntKind.u64.bits (a : Int) &&& ~~~ BitVec.ofInt IntKind.u64.bits (b : Int)).toNat = ((andN a b : Nat) : Int) := by
  show IntKind.u64.wrap ((BitVec.ofInt 64 (a : Int) &&& ~~~ BitVec.ofInt 64 (b : Int)).toNat : Int) = _
  rw [BitVec.ofInt_natCast, BitVec.ofInt_natCast]
  exact w64 (andN_lt a b)
theorem shl64 {r : Nat} (hr : r < 64) : IntKind.u64.wrap ((1 : Int) * 2 ^ (min ((r : Int).toNat) IntKind.u64.bits)) = ((2 ^ r : Nat) : Int) := by
  have e : min ((r : Int).toNat) IntKind.u64.bits = r := by rw [Int.toNat_natCast]; exact Nat.min_eq_left (by show r ≤ 64; omega)
  rw [e, Int.one_mul]
  have h : (2 : Nat) ^ r < 18446744073709551616 := Nat.pow_lt_pow_right (by decide) hr (m := r) (n := 64)
  rw [show ((2 : Int) ^ r) = ((2 ^ r : Nat) : Int) by rw [Int.natCast_pow]; rfl]
  exact w64 h
theorem shr64 {a r : Nat} (hr : r < 64) : (a : Int).fdiv (2 ^ (min ((r : Int).toNat) IntKind.u64.bits)) = ((a >>> r : Nat) : Int) := by
  have e : min ((r : Int).toNat) IntKind.u64.bits = r := by rw [Int.toNat_natCast]; exact Nat.min_eq_left (by show r ≤ 64; omega)
  rw [e, show ((2 : Int) ^ r) = ((2 ^ r : Nat) : Int) by rw [Int.natCast_pow]; rfl, Nat.shiftRight_eq_div_pow]
  rw [Int.fdiv_eq_ediv_of_nonneg _ (Int.natCast_nonneg _)]
  rfl
theorem and1 {a : Nat} (ha : a < 18446744073709551616) : (IntKind.u64.wrap (BitVec.ofInt IntKind.u64.bits (a : Int) &&& BitVec.ofInt IntKind.u64.bits 1).toNat == 1) = a.testBit 0 := by
  have e : (BitVec.ofInt 64 (a : Int) &&& BitVec.ofInt 64 1).toNat = a &&& 1 := by rw [BitVec.toNat_and, bv_of ha]; rfl
  show (IntKind.u64.wrap ((BitVec.ofInt 64 (a : Int) &&& BitVec.ofInt 64 1).toNat : Int) == 1) = _
  rw [e, w64 (Nat.lt_of_le_of_lt Nat.and_le_left ha), Nat.and_one_is_mod, Nat.testBit_zero]
  have := Nat.mod_two_eq_zero_or_one a
  rcases this with h | h <;> rw [h] <;> rfl
/-- A set of registers. -/
abbrev RS := Nat × Nat
def okS (s : RS) : Prop := s.1 < 18446744073709551616 ∧ s.2 < 18446744073709551616
def mem (s : RS) (r : Nat) : Bool := if r < 64 then s.1.testBit r else s.2.testBit (r - 64)
abbrev setV (s : RS) : Value := .agg #[.int .u64 (s.1 : Int), .int .u64 (s.2 : Int)]
def withS (s : RS) (r : Nat) : RS := if r < 64 then (s.1 ||| 2 ^ r, s.2) else (s.1, s.2 ||| 2 ^ (r - 64))
def lessS (s : RS) (r : Nat) : RS := if r < 64 then (andN s.1 (2 ^ r), s.2) else (s.1, andN s.2 (2 ^ (r - 64)))
def orS (s t : RS) : RS := (s.1 ||| t.1, s.2 ||| t.2)
theorem p64 {r : Nat} (h : r < 64) : 2 ^ r < 18446744073709551616 := Nat.pow_lt_pow_right (by decide) h (m := r) (n := 64)
theorem withS_ok {s : RS} {r : Nat} (h : okS s) (hr : r < 128) : okS (withS s r) := by
  unfold withS
  split
  · exact ⟨Nat.or_lt_two_pow (n := 64) h.1 (p64 (by assumption)), h.2⟩
  · exact ⟨h.1, Nat.or_lt_two_pow (n := 64) h.2 (p64 (by omega))⟩
theorem lessS_ok {s : RS} {r : Nat} (h : okS s) : okS (lessS s r) := by
  unfold lessS
  split
  · exact ⟨andN_lt _ _, h.2⟩
  · exact ⟨h.1, andN_lt _ _⟩
theorem orS_ok {s t : RS} (h : okS s) (k : okS t) : okS (orS s t) := ⟨Nat.or_lt_two_pow (n := 64) h.1 k.1, Nat.or_lt_two_pow (n := 64) h.2 k.2⟩
theorem mem_with {s : RS} {r q : Nat} (hr : r < 128) (hq : q < 128) : mem (withS s r) q = (mem s q || decide (q = r)) := by
  unfold withS mem
  by_cases h1 : r < 64
  · rw [if_pos h1]
    by_cases h2 : q < 64
    · simp only [if_pos h2, Nat.testBit_or, Nat.testBit_two_pow]
      congr 1
      by_cases e : r = q <;> simp [e, eq_comm]
    · simp only [if_neg h2]
      rw [decide_eq_false (by omega), Bool.or_false]
  · rw [if_neg h1]
    by_cases h2 : q < 64
    · simp only [if_pos h2]
      rw [decide_eq_false (by omega), Bool.or_false]
    · simp only [if_neg h2, Nat.testBit_or, Nat.testBit_two_pow]
      congr 1
      rw [Bool.eq_iff_iff]
      simp only [decide_eq_true_eq]
      omega
theorem mem_less {s : RS} {r q : Nat} (h : okS s) (hr : r < 128) (hq : q < 128) : mem (lessS s r) q = (mem s q && !decide (q = r)) := by
  unfold lessS mem
  by_cases h1 : r < 64
  · rw [if_pos h1]
    by_cases h2 : q < 64
    · simp only [if_pos h2]
      rw [andN_bit h.1 h2, Nat.testBit_two_pow]
      congr 2
      rw [Bool.eq_iff_iff]
      simp only [decide_eq_true_eq]
      omega
    · simp only [if_neg h2]
      rw [decide_eq_false (show ¬ q = r by omega)]
      simp
  · rw [if_neg h1]
    by_cases h2 : q < 64
    · simp only [if_pos h2]
      rw [decide_eq_false (show ¬ q = r by omega)]
      simp
    · simp only [if_neg h2]
      rw [andN_bit h.2 (by omega), Nat.testBit_two_pow]
      congr 2
      rw [Bool.eq_iff_iff]
      simp only [decide_eq_true_eq]
      omega
theorem mem_or {s t : RS} {q : Nat} : mem (orS s t) q = (mem s q || mem t q) := by
  unfold orS mem
  split <;> exact Nat.testBit_or ..
theorem set_ext {s t : RS} (hs : okS s) (ht : okS t) (h : ∀ q, q < 128 → mem s q = mem t q) : s = t := by
  have key : ∀ (a b : Nat), a < 18446744073709551616 → b < 18446744073709551616 → (∀ i, i < 64 → a.testBit i = b.testBit i) → a = b := fun a b ha hb hi => by
    apply Nat.eq_of_testBit_eq
    intro i
    by_cases h64 : i < 64
    · exact hi i h64
    · have hp : (2 : Nat) ^ 64 ≤ 2 ^ i := Nat.pow_le_pow_right (by decide) (by omega)
      rw [Nat.testBit_lt_two_pow (Nat.lt_of_lt_of_le ha hp), Nat.testBit_lt_two_pow (Nat.lt_of_lt_of_le hb hp)]
  have h1 := key s.1 t.1 hs.1 ht.1 fun i hi => by have := h i (by omega); unfold mem at this; rwa [if_pos hi, if_pos hi] at this
  have h2 := key s.2 t.2 hs.2 ht.2 fun i hi => by have := h (i + 64) (by omega); unfold mem at this; rwa [if_neg (by omega), if_neg (by omega), Nat.add_sub_cancel] at this
  exact Prod.ext h1 h2
theorem mem_zero (q : Nat) : mem (0, 0) q = false := by unfold mem; split <;> exact Nat.zero_testBit _
end Go.Proofs.Ytnjckiaogikakaa
/- Package live: what is asked of sets. -/
set_option linter.unusedVariables false
set_option linter.unusedSimpArgs false
set_option maxRecDepth 20000
set_option maxHeartbeats 4000000
namespace Go.Proofs.Ytnjckiaogikakaa
open Go Ax
/-- Which of the two numbers, and which bit. -/
def cellN (s : RS) (r : Nat) : Nat := if r < 64 then s.1 else s.2
def wrd (r : Nat) : Nat := if r < 64 then 0 else 1
def bitN (r : Nat) : Nat := if r < 64 then r else r - 64
theorem bitN_lt {r : Nat} (h : r < 128) : bitN r < 64 := by unfold bitN; split <;> omega
theorem wrd_q {r : Nat} (h : r < 128) : IntKind.i64.wrap ((r : Int).tdiv 64) = (wrd r : Int) := by
  rw [Int.tdiv_eq_ediv_of_nonneg (Int.natCast_nonneg _)]
  unfold wrd
  split
  · rw [wrap_i64 (by omega) (by omega)]; omega
  · rw [wrap_i64 (by omega) (by omega)]; omega
theorem bit_r {r : Nat} (h : r < 128) : (r : Int).tmod 64 = (bitN r : Int) := by
  rw [Int.tmod_eq_emod_of_nonneg (Int.natCast_nonneg _)]
  unfold bitN
  split <;> omega
theorem ix_w {q r : Nat} (h : r < 128) : aindexAddr Try.prog 67 (.pointer (some ⟨q, 0, none⟩)) (.int .i64 (IntKind.i64.wrap ((r : Int).tdiv 64))) = some (.pointer (some ⟨q, wrd r, none⟩)) := by
  rw [wrd_q h, idx_array (len := 2) (e := 65) (k := 1) rfl rfl (by omega) (by unfold wrd; split <;> decide)]
  simp
theorem ld_w {H : Heap} {q : Nat} {s : RS} {r : Nat} (hb : hblk H q = some [.int .u64 (s.1 : Int), .int .u64 (s.2 : Int)]) : aload Try.prog 65 (.pointer (some ⟨q, wrd r, none⟩)) H = some (.int .u64 (cellN s r : Int)) := by
  unfold wrd cellN
  split
  · exact ald rfl rfl hb rfl
  · exact ald rfl rfl hb rfl
theorem cell_ok {s : RS} {r : Nat} (h : okS s) : cellN s r < 18446744073709551616 := by unfold cellN; split; exact h.1; exact h.2
theorem has_ax (H : Heap) {s : RS} {r : Nat} (hs : okS s) (hr : r < 128) : AX Try.prog 24 #[setV s, .int .i64 (r : Int)] H (fun v H' => v = .bool (mem s r) ∧ H' = H) := by
  refine AX.quiet ?_
  suffices hh : AX Try.prog 24 #[setV s, .int .i64 (r : Int)] H (fun v H' => v = .bool (mem s r) ∧ Grow H H') from hh.mono fun v _ ⟨e, g⟩ => ⟨e ▸ plain_bool _, e, g⟩
  refine AX.body (n := 14) (rs := [.tmp 4]) Try.func24 rfl (by decide) rfl rfl (bC_sound _ _ _ _ ?_)
  (conv => whnf)
  refine Ob2.box rfl fun q1 H1 hq1 a1 g1 => ?_
  have b1 : hblk H1 q1 = some [.int .u64 (s.1 : Int), .int .u64 (s.2 : Int)] := hblk_of a1
  have ix := ix_w (q := q1) hr
  have l1 := ld_w (r := r) b1
  have sh : abin Try.prog .shr 65 (.int .u64 (cellN s r : Int)) (.int .i64 ((r : Int).tmod 64)) = some (.int .u64 ((cellN s r >>> bitN r : Nat) : Int)) := by
    rw [bit_r hr]
    have := shr64 (a := cellN s r) (bitN_lt hr)
    show (if ((bitN r : Nat) : Int) < 0 then none else some (Value.int .u64 ((cellN s r : Int).fdiv (2 ^ (min ((bitN r : Int).toNat) IntKind.u64.bits))))) = _
    rw [if_neg (by omega), this]
  refine run ?_
  refine ⟨?_, g1⟩
  have hlt : cellN s r >>> bitN r < 18446744073709551616 := Nat.lt_of_le_of_lt (Nat.shiftRight_le _ _) (cell_ok hs)
  show Value.bool (IntKind.u64.wrap (BitVec.ofInt IntKind.u64.bits ((cellN s r >>> bitN r : Nat) : Int) &&& BitVec.ofInt IntKind.u64.bits 1).toNat == 1) = _
  rw [and1 hlt, Nat.testBit_shiftRight, Nat.add_zero]
  unfold cellN bitN mem
  split <;> rfl
theorem sh_l {r : Nat} (hr : r < 128) : abin Try.prog .shl 65 (.int .u64 1) (.int .i64 ((r : Int).tmod 64)) = some (.int .u64 ((2 ^ bitN r : Nat) : Int)) := by
  rw [bit_r hr]
  have := shl64 (bitN_lt hr)
  show (if ((bitN r : Nat) : Int) < 0 then none else some (Value.int .u64 (IntKind.u64.wrap ((1 : Int) * 2 ^ (min ((bitN r : Int).toNat) IntKind.u64.bits))))) = _
  rw [if_neg (by omega), this]
theorem put_w {s : RS} {r n : Nat} : putL [.int .u64 (s.1 : Int), .int .u64 (s.2 : Int)] (wrd r) [.int .u64 (n : Int)] = if r < 64 then [.int .u64 (n : Int), .int .u64 (s.2 : Int)] else [.int .u64 (s.1 : Int), .int .u64 (n : Int)] := by
  unfold wrd
  split <;> rfl
theorem with_ax (H : Heap) {s : RS} {r : Nat} (hs : okS s) (hr : r < 128) : AX Try.prog 73 #[setV s, .int .i64 (r : Int)] H (fun v H' => v = setV (withS s r) ∧ Grow H H') := by
  refine AX.body (n := 15) (rs := [.cell 4 67]) Try.func73 rfl (by decide) rfl rfl (bC_sound _ _ _ _ ?_)
  (conv => whnf)
  refine Ob2.box rfl fun q1 H1 hq1 a1 g1 => ?_
  (conv => whnf)
  refine Ob2.alloc rfl fun q2 H2 hq2 a2 g2 => ?_
  have a1' := g2.at a1
  have b1 : hblk H2 q1 = some [.int .u64 (s.1 : Int), .int .u64 (s.2 : Int)] := hblk_of a1'
  have ix := ix_w (q := q1) hr
  have l1 := ld_w (r := r) b1
  have sh := sh_l hr
  refine run ?_
  apply SW.drawH [(0, [], [9, 10, 11], false), (1, [(5, 0)], [5, 9, 10, 11], false), (2, [(5, 0), (6, 1)], [5, 6, 9, 10, 11], false), (3, [(5, 0), (6, 1), (7, 2)], [5, 6, 7, 9, 10, 11], false), (4, [], [5, 6, 7, 8], false), (5, [(9, 4)], [5, 6, 7, 8, 9], false), (6, [(9, 4), (10, 5)], [5, 6, 7, 8, 9, 10], false), (7, [(5, 0), (6, 1), (7, 2), (8, 3), (9, 4), (10, 5), (11, 6)], [5, 6, 7, 8, 9, 10, 11], false), (8, [(5, 0), (6, 1), (7, 2), (8, 3), (9, 4), (10, 5), (11, 6), (12, 7)], [5, 6, 7, 8, 9, 10, 11, 12], false), (9, [(5, 0), (6, 1), (7, 2), (8, 3), (9, 4), (10, 5), (11, 6), (12, 7), (13, 8)], [5, 6, 7, 8, 9, 10, 11, 12, 13], true)]
    [(5, 0), (6, 1), (7, 2), (8, 3), (9, 4), (10, 5), (11, 6), (12, 7), (13, 8)] []
    [(1, _), (2, _), (4, _)] rfl (by kernel_rfl)
  case hF => exact ⟨rfl, rfl, rfl, trivial⟩
  refine run ?_
  rw [or64 (cell_ok hs) (p64 (bitN_lt hr))]
  refine Ob.store (b := q1) (off := wrd r) rfl rfl rfl a1' rfl (by unfold wrd; split <;> exact Nat.le_of_ble_eq_true rfl) fun H3 s3 k3 l3 => ?_
  have c3 : H3[q1]? = some (.cells .var [.int .u64 ((withS s r).1 : Int), .int .u64 ((withS s r).2 : Int)]) := by
    rw [s3]
    show some (Blk.cells Mode.var (putL [.int .u64 (s.1 : Int), .int .u64 (s.2 : Int)] (wrd r) [.int .u64 ((cellN s r ||| 2 ^ bitN r : Nat) : Int)])) = _
    rw [put_w]
    unfold withS cellN bitN
    split <;> rfl
  have c4 := hblk_of c3
  have hne : q2 ≠ q1 := by have := lt_at a1; omega
  have d3 : H3[q2]? = some (.cells .var [.int .u64 0, .int .u64 0]) := k3.at a2 hne
  have g13 : Grow H H3 := (g1.trans g2).but_new k3 (by omega)
  have hl : aload Try.prog 67 (.pointer (some ⟨q1, 0, none⟩)) H3 = some (setV (withS s r)) := ald_agg rfl rfl rfl c4 rfl
  refine run ?_
  refine Ob.store (b := q2) (off := 0) rfl rfl rfl d3 rfl (by first | exact Nat.le_of_ble_eq_true rfl | simp) fun H4 s4 k4 l4 => ?_
  have hl4 : aload Try.prog 67 (.pointer (some ⟨q2, 0, none⟩)) H4 = some (setV (withS s r)) := ald_agg rfl rfl rfl (hblk_of s4) rfl
  refine run ?_
  exact ⟨rfl, g13.but_new k4 (by have := g1.1; omega)⟩
theorem or_ax (H : Heap) {s t : RS} (hs : okS s) (ht : okS t) : AX Try.prog 52 #[setV s, setV t] H (fun v H' => v = setV (orS s t) ∧ Grow H H') := by
  refine AX.body (n := 16) (rs := [.cell 4 67]) Try.func52 rfl (by decide) rfl rfl (bC_sound _ _ _ _ ?_)
  (conv => whnf)
  refine Ob2.box rfl fun q1 H1 hq1 a1 g1 => ?_
  (conv => whnf)
  refine Ob2.box rfl fun q2 H2 hq2 a2 g2 => ?_
  (conv => whnf)
  refine Ob2.alloc rfl fun q3 H3 hq3 a3 g3 => ?_
  have b1 := hblk_of (g3.at (g2.at a1))
  have b2 := hblk_of (g3.at a2)
  refine run ?_
  refine Ob.store (b := q3) (off := 0) rfl rfl rfl a3 rfl (by first | exact Nat.le_of_ble_eq_true rfl | simp) fun H4 s4 k4 l4 => ?_
  have e4 : aload Try.prog 67 (.pointer (some ⟨q3, 0, none⟩)) H4 = some (setV (orS s t)) := by
    refine ald_agg rfl rfl rfl (hblk_of s4) ?_
    show some [Value.int .u64 (IntKind.u64.wrap (BitVec.ofInt IntKind.u64.bits (s.1 : Int) ||| BitVec.ofInt IntKind.u64.bits (t.1 : Int)).toNat), Value.int .u64 (IntKind.u64.wrap (BitVec.ofInt IntKind.u64.bits (s.2 : Int) ||| BitVec.ofInt IntKind.u64.bits (t.2 : Int)).toNat)] = _
    rw [or64 hs.1 ht.1, or64 hs.2 ht.2]
    rfl
  refine run ?_
  exact ⟨rfl, ((g1.trans g2).trans g3).but_new k4 (by have := g1.1; have := g2.1; omega)⟩
theorem without_ax (H : Heap) {s : RS} {r : Int} (hs : okS s) (h0 : -1 ≤ r) (hr : r < 128) : AX Try.prog 53 #[setV s, .int .i64 r] H (fun v H' => v = setV (if 0 ≤ r then lessS s r.toNat else s) ∧ Grow H H') := by
  by_cases hr0 : 0 ≤ r
  · rw [if_pos hr0]
    obtain ⟨n, rfl⟩ : ∃ n : Nat, r = (n : Int) := ⟨r.toNat, by omega⟩
    rw [Int.toNat_natCast]
    have hr : n < 128 := by omega
    have d1 : decide ((n : Int) ≥ 0) = true := decide_eq_true (by omega)
    refine AX.body (n := 17) (rs := [.cell 4 67]) Try.func53 rfl (by decide) rfl rfl (bC_sound _ _ _ _ ?_)
    (conv => whnf)
    refine Ob2.box rfl fun q1 H1 hq1 a1 g1 => ?_
    (conv => whnf)
    refine Ob2.alloc rfl fun q2 H2 hq2 a2 g2 => ?_
    have a1' := g2.at a1
    have b1 : hblk H2 q1 = some [.int .u64 (s.1 : Int), .int .u64 (s.2 : Int)] := hblk_of a1'
    have ix := ix_w (q := q1) hr
    have l1 := ld_w (r := n) b1
    have sh := sh_l hr
    refine run ?_
    apply SW.drawH [(0, [], [11, 12, 13], false), (1, [(7, 0)], [7, 11, 12, 13], false), (2, [(7, 0), (8, 1)], [7, 8, 11, 12, 13], false), (3, [(7, 0), (8, 1), (9, 2)], [7, 8, 9, 11, 12, 13], false), (4, [], [7, 8, 9, 10], false), (5, [(11, 4)], [7, 8, 9, 10, 11], false), (6, [(11, 4), (12, 5)], [7, 8, 9, 10, 11, 12], false), (7, [(7, 0), (8, 1), (9, 2), (10, 3), (11, 4), (12, 5), (13, 6)], [7, 8, 9, 10, 11, 12, 13], false), (8, [(7, 0), (8, 1), (9, 2), (10, 3), (11, 4), (12, 5), (13, 6), (14, 7)], [7, 8, 9, 10, 11, 12, 13, 14], false), (9, [(7, 0), (8, 1), (9, 2), (10, 3), (11, 4), (12, 5), (13, 6), (14, 7), (15, 8)], [7, 8, 9, 10, 11, 12, 13, 14, 15], true)]
      [(7, 0), (8, 1), (9, 2), (10, 3), (11, 4), (12, 5), (13, 6), (14, 7), (15, 8)] []
      [(1, _), (2, _), (4, _)] rfl (by kernel_rfl)
    case hF => exact ⟨rfl, rfl, rfl, trivial⟩
    refine run ?_
    rw [andN64]
    refine Ob.store (b := q1) (off := wrd n) rfl rfl rfl a1' rfl (by unfold wrd; split <;> exact Nat.le_of_ble_eq_true rfl) fun H3 s3 k3 l3 => ?_
    have c3 : H3[q1]? = some (.cells .var [.int .u64 ((lessS s n).1 : Int), .int .u64 ((lessS s n).2 : Int)]) := by
      rw [s3]
      show some (Blk.cells Mode.var (putL [.int .u64 (s.1 : Int), .int .u64 (s.2 : Int)] (wrd n) [.int .u64 ((andN (cellN s n) (2 ^ bitN n) : Nat) : Int)])) = _
      rw [put_w]
      unfold lessS cellN bitN
      split <;> rfl
    have c4 := hblk_of c3
    have hne : q2 ≠ q1 := by have := lt_at a1; omega
    have d3 : H3[q2]? = some (.cells .var [.int .u64 0, .int .u64 0]) := k3.at a2 hne
    have g13 : Grow H H3 := (g1.trans g2).but_new k3 (by omega)
    have hl : aload Try.prog 67 (.pointer (some ⟨q1, 0, none⟩)) H3 = some (setV (lessS s n)) := ald_agg rfl rfl rfl c4 rfl
    refine run ?_
    refine Ob.store (b := q2) (off := 0) rfl rfl rfl d3 rfl (by first | exact Nat.le_of_ble_eq_true rfl | simp) fun H4 s4 k4 l4 => ?_
    have hl4 : aload Try.prog 67 (.pointer (some ⟨q2, 0, none⟩)) H4 = some (setV (lessS s n)) := ald_agg rfl rfl rfl (hblk_of s4) rfl
    refine run ?_
    exact ⟨rfl, g13.but_new k4 (by have := g1.1; omega)⟩
  · rw [if_neg hr0]
    have d1 : decide (r ≥ 0) = false := decide_eq_false hr0
    refine AX.body (n := 17) (rs := [.cell 4 67]) Try.func53 rfl (by decide) rfl rfl (bC_sound _ _ _ _ ?_)
    (conv => whnf)
    refine Ob2.box rfl fun q1 H1 hq1 a1 g1 => ?_
    (conv => whnf)
    refine Ob2.alloc rfl fun q2 H2 hq2 a2 g2 => ?_
    have b1 : hblk H2 q1 = some [.int .u64 (s.1 : Int), .int .u64 (s.2 : Int)] := hblk_of (g2.at a1)
    have hl : aload Try.prog 67 (.pointer (some ⟨q1, 0, none⟩)) H2 = some (setV s) := ald_agg rfl rfl rfl b1 rfl
    refine run ?_
    refine Ob.store (b := q2) (off := 0) rfl rfl rfl a2 rfl (by first | exact Nat.le_of_ble_eq_true rfl | simp) fun H4 s4 k4 l4 => ?_
    have hl4 : aload Try.prog 67 (.pointer (some ⟨q2, 0, none⟩)) H4 = some (setV s) := ald_agg rfl rfl rfl (hblk_of s4) rfl
    refine run ?_
    exact ⟨rfl, (g1.trans g2).but_new k4 (by have := g1.1; omega)⟩
end Go.Proofs.Ytnjckiaogikakaa
/- Package live: a set gone through; sets as lists. -/
set_option linter.unusedVariables false
set_option linter.unusedSimpArgs false
set_option maxRecDepth 20000
set_option maxHeartbeats 4000000
namespace Go.Proofs.Ytnjckiaogikakaa
open Go Ax
abbrev setL (s : RS) : List Value := [.int .u64 (s.1 : Int), .int .u64 (s.2 : Int)]
theorem all_ax (H : Heap) (s : RS) : AX Try.prog 61 #[setV s] H (fun r H' => ∃ a, r = .func (.func 79) #[] #[.pointer (some ⟨a, 0, none⟩)] ∧ Grow H H' ∧ H'[a]? = some (.cells .var (setL s))) := by
  refine AX.body (n := 4) (rs := [.tmp 2]) Try.func61 rfl (by decide) rfl rfl (bC_sound _ _ _ _ ?_)
  (conv => whnf)
  refine Ob2.box rfl fun q1 H1 hq1 a1 g1 => ?_
  refine run ?_
  exact ⟨q1, rfl, g1, a1⟩
theorem all1_ax {q a : Nat} {s : RS} (hs : okS s) {J : Nat → Heap → Prop} (hJ : ∀ i X, J i X → hblk X a = some (setL s))
    (hy : ∀ i X, i < 128 → J i X → mem s i = true → YX Try.prog q [.int .i64 (i : Int)] X (fun v Y => v = .bool true ∧ J (i + 1) Y)) (hn : ∀ i X, i < 128 → J i X → mem s i = false → J (i + 1) X)
    {H : Heap} (h0 : J 0 H) : AX Try.prog 79 #[.func (.yield q) #[] #[], .pointer (some ⟨a, 0, none⟩)] H (fun _ Y => J 128 Y) := by
  refine AX.body (n := 17) (rs := []) Try.func79 rfl (by decide) rfl rfl (bC_sound _ _ _ _ ?_)
  refine run ?_
  refine SW.loop (α := Nat) (fun i => [(0, .func (.yield q) #[] #[]), (1, .pointer (some ⟨a, 0, none⟩)), (4, .int .i64 (i : Int))]) (fun i X => J i X ∧ i ≤ 128) (fun i => 128 - i) ⟨0, ⟨rfl, rfl, rfl, trivial⟩, h0, by decide⟩ ?_
  rintro i X ⟨hi, hle⟩
  have b1 := hJ i X hi
  have hl : aload Try.prog 67 (.pointer (some ⟨a, 0, none⟩)) X = some (setV s) := ald_agg rfl rfl rfl b1 rfl
  refine bC_sound _ _ _ _ ?_
  by_cases hlt : i < 128
  · have d1 : decide ((i : Int) < 128) = true := decide_eq_true (by omega)
    have w1 := w_succ (k := i) (by omega)
    refine run ?_
    refine (has_ax X hs hlt).mono ?_
    rintro _ Y ⟨rfl, e⟩
    subst Y
    cases hm : mem s i with
    | false =>
      refine run ?_
      exact ⟨i + 1, ⟨rfl, rfl, congrArg (fun z => some (Value.int .i64 z)) w1, trivial⟩, ⟨hn i X hlt hi hm, by omega⟩, by show 128 - (i + 1) < 128 - i; omega⟩
    | true =>
      refine run ?_
      refine (hy i X hlt hi hm).mono ?_
      rintro _ Y ⟨rfl, hY⟩
      refine run ?_
      exact ⟨i + 1, ⟨rfl, rfl, congrArg (fun z => some (Value.int .i64 z)) w1, trivial⟩, ⟨hY, by omega⟩, by show 128 - (i + 1) < 128 - i; omega⟩
  · have d1 : decide ((i : Int) < 128) = false := decide_eq_false (by omega)
    refine run ?_
    have : i = 128 := by omega
    rw [← this]
    exact hi
end Go.Proofs.Ytnjckiaogikakaa
/- Package live's laws: whether a number is one of a list. -/
set_option linter.unusedVariables false
set_option linter.unusedSimpArgs false
set_option maxRecDepth 20000
set_option maxHeartbeats 4000000
namespace Go.Proofs.Ytnjckiaogikakaa
open Go Ax
theorem int_at {H : Heap} {v : Value} {L : List Int} (h : RL 1 intR H v L) {i : Nat} {x : Int} (hx : L[i]? = some x) :
    ∃ p, aindexAddr Try.prog 35 v (.int .i64 (i : Int)) = some p ∧ ∀ H', Grow H H' → aload Try.prog 3 p H' = some (.int .i64 x) := by
  obtain ⟨b, c, l, h1, h2, h3, h4⟩ := h.at (P := Try.prog) (t := 35) (e := 3) rfl rfl hx
  have h4 : l = [.int .i64 x] := h4
  subst h4
  refine ⟨_, h1, fun H' g => ald rfl rfl (g.hblk h2) ?_⟩
  have e : c.drop (i * 1) ≠ [] ∧ (c.drop (i * 1)).take 1 = [.int .i64 x] := by
    unfold slotsOf at h3
    split at h3
    · simp only [Option.some.injEq] at h3
      exact ⟨fun e => by rw [e] at h3; simp at h3, h3⟩
    · simp at h3
  have : ((c.drop (i * 1)).take 1)[0]? = some (.int .i64 x) := by rw [e.2]; rfl
  rw [List.getElem?_take, if_pos (by decide), List.getElem?_drop] at this
  exact this
theorem hasRef_ax {H : Heap} {v : Value} {L : List Int} (h : RL 1 intR H v L) (hL : L.length ≤ 1000000) (n : Int) : AX Try.prog 26 #[v, .int .i64 n] H (fun r H' => r = .bool (decide (n ∈ L)) ∧ H' = H) := by
  have la := fun X => h.len (P := Try.prog) (t := 35) (e := 3) rfl X
  have la0 := la H
  refine AX.body (n := 18) (rs := [.tmp 4]) Try.func26 rfl (by decide) rfl rfl (bC_sound _ _ _ _ ?_)
  refine run ?_
  refine SW.loop (α := Nat) (fun i => [(0, v), (1, .int .i64 n), (5, .int .i64 (i : Int))]) (fun i X => X = H ∧ i ≤ L.length ∧ n ∉ L.take i) (fun i => L.length - i) ⟨0, ⟨rfl, rfl, rfl, trivial⟩, rfl, Nat.zero_le _, by simp⟩ ?_
  rintro i X ⟨rfl, hi, ht⟩
  refine bC_sound _ _ _ _ ?_
  by_cases hil : i < L.length
  · have d2 : decide ((i : Int) < (L.length : Int)) = true := decide_eq_true (by omega)
    obtain ⟨x, hx⟩ := get_lt (L := L) (m := i) hil
    obtain ⟨p, p1, p2⟩ := int_at h hx
    have p3 := p2 X (.refl _)
    by_cases hxn : x = n
    · have d3 : (x == n) = true := by simpa using hxn
      refine run ?_
      exact ⟨by rw [decide_eq_true (by rw [← hxn]; exact List.mem_of_getElem? hx)]; rfl, rfl⟩
    · have d3 : (x == n) = false := by simpa using hxn
      have w1 := w_succ (k := i) (by omega)
      refine run ?_
      refine ⟨i + 1, ⟨rfl, rfl, congrArg (fun z => some (Value.int .i64 z)) w1, trivial⟩, ⟨rfl, by omega, ?_⟩, by show L.length - (i + 1) < L.length - i; omega⟩
      rw [List.take_add_one, hx]
      simp only [Option.toList_some, List.mem_append, List.mem_singleton, not_or]
      exact ⟨ht, fun e => hxn e.symm⟩
  · have d2 : decide ((i : Int) < (L.length : Int)) = false := decide_eq_false (by omega)
    refine run ?_
    rw [List.take_of_length_le (by omega)] at ht
    exact ⟨by rw [decide_eq_false ht]; rfl, rfl⟩
theorem hasLaw_ax {H : Heap} {v : Value} {L : List Int} (h : RL 1 intR H v L) (hL : L.length ≤ 1000000) (n : Int) : AX Try.prog 20 #[v, .int .i64 n] H (fun r H' => r = .bool (decide (n ∈ L)) ∧ H' = H) := by
  have la := fun X => h.len (P := Try.prog) (t := 35) (e := 3) rfl X
  have la0 := la H
  refine AX.body (n := 18) (rs := [.tmp 4]) Try.func20 rfl (by decide) rfl rfl (bC_sound _ _ _ _ ?_)
  refine run ?_
  refine SW.loop (α := Nat) (fun i => [(0, v), (1, .int .i64 n), (5, .int .i64 (i : Int))]) (fun i X => X = H ∧ i ≤ L.length ∧ n ∉ L.take i) (fun i => L.length - i) ⟨0, ⟨rfl, rfl, rfl, trivial⟩, rfl, Nat.zero_le _, by simp⟩ ?_
  rintro i X ⟨rfl, hi, ht⟩
  refine bC_sound _ _ _ _ ?_
  by_cases hil : i < L.length
  · have d2 : decide ((i : Int) < (L.length : Int)) = true := decide_eq_true (by omega)
    obtain ⟨x, hx⟩ := get_lt (L := L) (m := i) hil
    obtain ⟨p, p1, p2⟩ := int_at h hx
    have p3 := p2 X (.refl _)
    by_cases hxn : x = n
    · have d3 : (x == n) = true := by simpa using hxn
      refine run ?_
      exact ⟨by rw [decide_eq_true (by rw [← hxn]; exact List.mem_of_getElem? hx)]; rfl, rfl⟩
    · have d3 : (x == n) = false := by simpa using hxn
      have w1 := w_succ (k := i) (by omega)
      refine run ?_
      refine ⟨i + 1, ⟨rfl, rfl, congrArg (fun z => some (Value.int .i64 z)) w1, trivial⟩, ⟨rfl, by omega, ?_⟩, by show L.length - (i + 1) < L.length - i; omega⟩
      rw [List.take_add_one, hx]
      simp only [Option.toList_some, List.mem_append, List.mem_singleton, not_or]
      exact ⟨ht, fun e => hxn e.symm⟩
  · have d2 : decide ((i : Int) < (L.length : Int)) = false := decide_eq_false (by omega)
    refine run ?_
    rw [List.take_of_length_le (by omega)] at ht
    exact ⟨by rw [decide_eq_false ht]; rfl, rfl⟩
end Go.Proofs.Ytnjckiaogikakaa
