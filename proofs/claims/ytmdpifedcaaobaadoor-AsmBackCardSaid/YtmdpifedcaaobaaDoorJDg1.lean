/- Numbers as text, all of them. -/
import Derived.Test.YtmdpifedcaaobaaDoorJLx1
set_option linter.unusedVariables false
set_option linter.unusedSimpArgs false
set_option maxRecDepth 20000
set_option maxHeartbeats 4000000
namespace Go.Proofs.YtmdpifedcaaobaaDoor
open Go Ax
theorem bstr_list (l : List UInt8) : (bstr l).data.toList = l := by simp [bstr]
theorem Ax.Ob.cat {a b : ByteArray} {l m : List UInt8} {K : Value → Prop} (ha : a.data.toList = l) (hb : b.data.toList = m) (hl : l.length + m.length ≤ 4000000000) (k : K (.string (bstr (l ++ m)))) : Ob (abin Tryd.prog .add 9 (.string a) (.string b)) K := by
  subst ha hb
  have e1 : a.data.toList.length = a.size := rfl
  have e2 : b.data.toList.length = b.size := rfl
  have e3 : bstr (a.data.toList ++ b.data.toList) = a ++ b := by
    apply ByteArray.ext
    simp [bstr]
  refine Ob.of ?_ k
  rw [e3]
  simp only [abin, astr]
  rw [if_neg (by omega)]
theorem numPos_ax (H0 : Heap) {n0 : Nat} (hn0 : n0 ≤ 9223372036854775807) : AX Tryd.prog 32 #[.int .i64 (n0 : Int)] H0 (fun v H' => v = .string (bstr (decL n0)) ∧ H' = H0) := by
  refine AX.quiet ?_
  suffices hh : AX Tryd.prog 32 #[.int .i64 (n0 : Int)] H0 (fun v H' => v = .string (bstr (decL n0)) ∧ Grow H0 H') from hh.mono fun v _ ⟨e, g⟩ => ⟨e ▸ plain_str _, e, g⟩
  have d1 : decide ((n0 : Int) < 0) = false := decide_eq_false (by omega)
  refine AX.body (n := 33) (rs := [.tmp 2]) Tryd.func32 rfl (by decide) rfl rfl (bC_sound _ _ _ _ ?_)
  refine run ?_
  refine Ob2.alloc rfl fun q3 H1 hq3 a3 g1 => ?_
  have c1 : aconvert Tryd.prog 3 91 (.int .i64 (n0 : Int)) H1 = some (.int .u64 (n0 : Int)) := by
    have : aconvert Tryd.prog 3 91 (.int .i64 (n0 : Int)) H1 = some (.int .u64 (IntKind.u64.wrap (n0 : Int))) := rfl
    rw [this, IntWalk.u64_in _ ⟨by omega, by omega⟩]
  refine run ?_
  refine SW.loop (α := Nat × Nat × Bs × List Value) (fun y => [(0, .int .i64 (n0 : Int)), (3, .pointer (some ⟨q3, 0, none⟩)), (4, .int .i64 (y.1 : Int)), (5, .int .u64 (y.2.1 : Int))])
    (fun y X => 1 ≤ y.1 ∧ y.1 ≤ 20 ∧ y.2.1 ≤ n0 ∧ y.2.1 < 10 ^ y.1 ∧ decL n0 = decF y.1 y.2.1 y.2.2.1 ∧ y.2.2.2.length = 20 ∧ y.2.2.2.drop y.1 = u8s y.2.2.1 ∧ X[q3]? = some (.cells .var y.2.2.2) ∧ But q3 H1 X) (fun y => y.1)
    ⟨(20, n0, [], List.replicate 20 (.int .u8 0)), ⟨rfl, rfl, rfl, rfl, trivial⟩, by dsimp only; omega, Nat.le_refl _, Nat.le_refl _, by dsimp only; omega, rfl, rfl, rfl, a3, .refl _ _⟩ ?_
  rintro ⟨at_, n, acc, cs⟩ X ⟨h1, h20, hn, hp, hd, hcl, hcd, h3, kX⟩
  dsimp only at h1 h20 hn hp hd hcl hcd h3 ⊢
  have hf : at_ = (at_ - 1) + 1 := by omega
  rw [hf, decF_step] at hd
  rw [hf] at hp
  have hp' := pow_div hp
  have hnat := digN_nat n
  have f0 : abin Tryd.prog .sub 3 (.int .i64 (at_ : Int)) (.int .i64 1) = some (.int .i64 ((at_ - 1 : Nat) : Int)) := by
    have : abin Tryd.prog .sub 3 (.int .i64 (at_ : Int)) (.int .i64 1) = some (.int .i64 (IntKind.i64.wrap ((at_ : Int) - 1))) := rfl
    rw [this, wrap_i64 (by omega) (by omega)]; congr 2; omega
  have f1 : abin Tryd.prog .rem 91 (.int .u64 (n : Int)) (.int .u64 10) = some (.int .u64 ((n % 10 : Nat) : Int)) := by
    rw [rem_ok (by omega), Int.tmod_eq_emod_of_nonneg (by omega)]; rfl
  have f2 : aconvert Tryd.prog 91 5 (.int .u64 ((n % 10 : Nat) : Int)) X = some (.int .u8 ((n % 10 : Nat) : Int)) := by
    have : aconvert Tryd.prog 91 5 (.int .u64 ((n % 10 : Nat) : Int)) X = some (.int .u8 (IntKind.u8.wrap ((n % 10 : Nat) : Int))) := rfl
    rw [this, wrap_u8 (by omega) (by omega)]
  have f3 : abin Tryd.prog .add 5 (.int .u8 48) (.int .u8 ((n % 10 : Nat) : Int)) = some (u8 (digN n)) := by
    have : abin Tryd.prog .add 5 (.int .u8 48) (.int .u8 ((n % 10 : Nat) : Int)) = some (.int .u8 (IntKind.u8.wrap (48 + ((n % 10 : Nat) : Int)))) := rfl
    rw [this, wrap_u8 (by omega) (by omega)]
    show _ = some (Value.int .u8 ((digN n).toNat : Int))
    rw [hnat]; rfl
  have f4 : abin Tryd.prog .quo 91 (.int .u64 (n : Int)) (.int .u64 10) = some (.int .u64 ((n / 10 : Nat) : Int)) := by
    have : abin Tryd.prog .quo 91 (.int .u64 (n : Int)) (.int .u64 10) = some (.int .u64 (IntKind.u64.wrap ((n : Int).tdiv 10))) := rfl
    have e : (n : Int).tdiv 10 = ((n / 10 : Nat) : Int) := by rw [Int.tdiv_eq_ediv_of_nonneg (by omega)]; rfl
    rw [this, e, IntWalk.u64_in _ ⟨by omega, by omega⟩]
  have f5 : aindexAddr Tryd.prog 90 (.pointer (some ⟨q3, 0, none⟩)) (.int .i64 ((at_ - 1 : Nat) : Int)) = some (.pointer (some ⟨q3, at_ - 1, none⟩)) := by
    rw [idx_array (len := 20) (e := 5) (k := 1) rfl rfl (by omega) (by omega)]
    congr 4
    omega
  refine bC_sound _ _ _ _ ?_
  refine run ?_
  refine Ob.store rfl rfl rfl h3 rfl (by show at_ - 1 + 1 ≤ _; omega) fun Y y1 y2 y3 => ?_
  have hY : Y[q3]? = some (.cells .var (cs.set (at_ - 1) (u8 (digN n)))) := y1
  have hYd : (cs.set (at_ - 1) (u8 (digN n))).drop (at_ - 1) = u8s (digN n :: acc) := by
    rw [drop_cons' (i := at_ - 1) (x := u8 (digN n)) (by rw [List.getElem?_set_self (by omega)]), show at_ - 1 + 1 = at_ by omega, List.drop_set_of_lt (by omega), hcd]
    rfl
  have hYl : (cs.set (at_ - 1) (u8 (digN n))).length = 20 := by rw [List.length_set]; exact hcl
  refine run ?_
  by_cases h0 : n / 10 = 0
  · rw [if_pos h0] at hd
    have d2 : (((n / 10 : Nat) : Int) == 0) = true := by rw [beq_iff_eq]; omega
    have f6 : aslice3 Tryd.prog 20 5 (.pointer (some ⟨q3, 0, none⟩)) (some (.int .i64 ((at_ - 1 : Nat) : Int))) (some (.int .i64 20)) (some (.int .i64 20)) Y = some (.slice (some ⟨q3, at_ - 1, none⟩) (20 - (at_ - 1)) 1) := by
      rw [slice_arr (k := 1) rfl hY (by omega) (by omega) (by omega) (by decide) (by decide)]
      congr 4
      omega
    have f7 : aconvert Tryd.prog 48 9 (.slice (some ⟨q3, at_ - 1, none⟩) (20 - (at_ - 1)) 1) Y = some (.string (bstr (digN n :: acc))) := conv_sl hY (by
      rw [slots_of (by omega), hYd, List.take_of_length_le]
      rw [← hYd, List.length_drop]; omega)
    refine run ?_
    exact ⟨by rw [hd]; rfl, g1.but_new (kX.trans y2) (by omega)⟩
  · rw [if_neg h0] at hd
    have d2 : (((n / 10 : Nat) : Int) == 0) = false := by rw [beq_eq_false_iff_ne]; omega
    have hat2 : 2 ≤ at_ := by
      refine Decidable.byContradiction fun hc => ?_
      rw [show at_ - 1 = 0 by omega] at hp'
      omega
    refine run ?_
    exact ⟨(at_ - 1, n / 10, digN n :: acc, cs.set (at_ - 1) (u8 (digN n))), ⟨rfl, rfl, rfl, rfl, trivial⟩, ⟨by dsimp only; omega, by dsimp only; omega, by dsimp only; omega, hp', hd, hYl, hYd, hY, kX.trans y2⟩, by dsimp only; omega⟩
theorem numNeg_ax (H0 : Heap) {n0 : Nat} (h1 : 1 ≤ n0) (hn0 : n0 ≤ 9223372036854775808) : AX Tryd.prog 32 #[.int .i64 (-(n0 : Int))] H0 (fun v H' => v = .string (bstr (45 :: decL n0)) ∧ H' = H0) := by
  refine AX.quiet ?_
  suffices hh : AX Tryd.prog 32 #[.int .i64 (-(n0 : Int))] H0 (fun v H' => v = .string (bstr (45 :: decL n0)) ∧ Grow H0 H') from hh.mono fun v _ ⟨e, g⟩ => ⟨e ▸ plain_str _, e, g⟩
  have d1 : decide (-(n0 : Int) < 0) = true := decide_eq_true (by omega)
  refine AX.body (n := 33) (rs := [.tmp 2]) Tryd.func32 rfl (by decide) rfl rfl (bC_sound _ _ _ _ ?_)
  refine run ?_
  refine Ob2.alloc rfl fun q3 H1 hq3 a3 g1 => ?_
  have c1 : aconvert Tryd.prog 3 91 (.int .i64 (-(n0 : Int))) H1 = some (.int .u64 (18446744073709551616 - (n0 : Int))) := by
    have : aconvert Tryd.prog 3 91 (.int .i64 (-(n0 : Int))) H1 = some (.int .u64 (IntKind.u64.wrap (-(n0 : Int)))) := rfl
    rw [this]
    congr 2
    show (-(n0 : Int)) % 18446744073709551616 = _
    omega
  have c2 : aun .neg (.int .u64 (18446744073709551616 - (n0 : Int))) = some (.int .u64 (n0 : Int)) := by
    have : aun .neg (.int .u64 (18446744073709551616 - (n0 : Int))) = some (.int .u64 (IntKind.u64.wrap (0 - (18446744073709551616 - (n0 : Int))))) := rfl
    rw [this]
    congr 2
    show (0 - (18446744073709551616 - (n0 : Int))) % 18446744073709551616 = _
    omega
  refine run ?_
  refine SW.loop (α := Nat × Nat × Bs × List Value) (fun y => [(0, .int .i64 (-(n0 : Int))), (3, .pointer (some ⟨q3, 0, none⟩)), (4, .int .i64 (y.1 : Int)), (5, .int .u64 (y.2.1 : Int))])
    (fun y X => 2 ≤ y.1 ∧ y.1 ≤ 20 ∧ y.2.1 ≤ n0 ∧ y.2.1 < 10 ^ (y.1 - 1) ∧ decL n0 = decF y.1 y.2.1 y.2.2.1 ∧ y.2.2.2.length = 20 ∧ y.2.2.2.drop y.1 = u8s y.2.2.1 ∧ X[q3]? = some (.cells .var y.2.2.2) ∧ But q3 H1 X) (fun y => y.1)
    ⟨(20, n0, [], List.replicate 20 (.int .u8 0)), ⟨rfl, rfl, rfl, rfl, trivial⟩, by dsimp only; omega, Nat.le_refl _, Nat.le_refl _, by dsimp only; omega, rfl, rfl, rfl, a3, .refl _ _⟩ ?_
  rintro ⟨at_, n, acc, cs⟩ X ⟨h2, h20, hn, hp, hd, hcl, hcd, h3, kX⟩
  dsimp only at h2 h20 hn hp hd hcl hcd h3 ⊢
  have hf : at_ = (at_ - 1) + 1 := by omega
  rw [hf, decF_step] at hd
  rw [show at_ - 1 = (at_ - 2) + 1 by omega] at hp
  have hp' := pow_div hp
  have hnat := digN_nat n
  have f0 : abin Tryd.prog .sub 3 (.int .i64 (at_ : Int)) (.int .i64 1) = some (.int .i64 ((at_ - 1 : Nat) : Int)) := by
    have : abin Tryd.prog .sub 3 (.int .i64 (at_ : Int)) (.int .i64 1) = some (.int .i64 (IntKind.i64.wrap ((at_ : Int) - 1))) := rfl
    rw [this, wrap_i64 (by omega) (by omega)]; congr 2; omega
  have f1 : abin Tryd.prog .rem 91 (.int .u64 (n : Int)) (.int .u64 10) = some (.int .u64 ((n % 10 : Nat) : Int)) := by
    rw [rem_ok (by omega), Int.tmod_eq_emod_of_nonneg (by omega)]; rfl
  have f2 : aconvert Tryd.prog 91 5 (.int .u64 ((n % 10 : Nat) : Int)) X = some (.int .u8 ((n % 10 : Nat) : Int)) := by
    have : aconvert Tryd.prog 91 5 (.int .u64 ((n % 10 : Nat) : Int)) X = some (.int .u8 (IntKind.u8.wrap ((n % 10 : Nat) : Int))) := rfl
    rw [this, wrap_u8 (by omega) (by omega)]
  have f3 : abin Tryd.prog .add 5 (.int .u8 48) (.int .u8 ((n % 10 : Nat) : Int)) = some (u8 (digN n)) := by
    have : abin Tryd.prog .add 5 (.int .u8 48) (.int .u8 ((n % 10 : Nat) : Int)) = some (.int .u8 (IntKind.u8.wrap (48 + ((n % 10 : Nat) : Int)))) := rfl
    rw [this, wrap_u8 (by omega) (by omega)]
    show _ = some (Value.int .u8 ((digN n).toNat : Int))
    rw [hnat]; rfl
  have f4 : abin Tryd.prog .quo 91 (.int .u64 (n : Int)) (.int .u64 10) = some (.int .u64 ((n / 10 : Nat) : Int)) := by
    have : abin Tryd.prog .quo 91 (.int .u64 (n : Int)) (.int .u64 10) = some (.int .u64 (IntKind.u64.wrap ((n : Int).tdiv 10))) := rfl
    have e : (n : Int).tdiv 10 = ((n / 10 : Nat) : Int) := by rw [Int.tdiv_eq_ediv_of_nonneg (by omega)]; rfl
    rw [this, e, IntWalk.u64_in _ ⟨by omega, by omega⟩]
  have f5 : aindexAddr Tryd.prog 90 (.pointer (some ⟨q3, 0, none⟩)) (.int .i64 ((at_ - 1 : Nat) : Int)) = some (.pointer (some ⟨q3, at_ - 1, none⟩)) := by
    rw [idx_array (len := 20) (e := 5) (k := 1) rfl rfl (by omega) (by omega)]
    congr 4
    omega
  refine bC_sound _ _ _ _ ?_
  refine run ?_
  refine Ob.store rfl rfl rfl h3 rfl (by show at_ - 1 + 1 ≤ _; omega) fun Y y1 y2 y3 => ?_
  have hY : Y[q3]? = some (.cells .var (cs.set (at_ - 1) (u8 (digN n)))) := y1
  have hYd : (cs.set (at_ - 1) (u8 (digN n))).drop (at_ - 1) = u8s (digN n :: acc) := by
    rw [drop_cons' (i := at_ - 1) (x := u8 (digN n)) (by rw [List.getElem?_set_self (by omega)]), show at_ - 1 + 1 = at_ by omega, List.drop_set_of_lt (by omega), hcd]
    rfl
  have hYl : (cs.set (at_ - 1) (u8 (digN n))).length = 20 := by rw [List.length_set]; exact hcl
  refine run ?_
  by_cases h0 : n / 10 = 0
  · rw [if_pos h0] at hd
    have d2 : (((n / 10 : Nat) : Int) == 0) = true := by rw [beq_iff_eq]; omega
    have f8 : abin Tryd.prog .sub 3 (.int .i64 ((at_ - 1 : Nat) : Int)) (.int .i64 1) = some (.int .i64 ((at_ - 2 : Nat) : Int)) := by
      have : abin Tryd.prog .sub 3 (.int .i64 ((at_ - 1 : Nat) : Int)) (.int .i64 1) = some (.int .i64 (IntKind.i64.wrap (((at_ - 1 : Nat) : Int) - 1))) := rfl
      rw [this, wrap_i64 (by omega) (by omega)]; congr 2; omega
    have f9 : aindexAddr Tryd.prog 90 (.pointer (some ⟨q3, 0, none⟩)) (.int .i64 ((at_ - 2 : Nat) : Int)) = some (.pointer (some ⟨q3, at_ - 2, none⟩)) := by
      rw [idx_array (len := 20) (e := 5) (k := 1) rfl rfl (by omega) (by omega)]
      congr 4
      omega
    refine run ?_
    refine Ob.store rfl rfl rfl hY rfl (by show at_ - 2 + 1 ≤ _; omega) fun Z z1 z2 z3 => ?_
    have hZ : Z[q3]? = some (.cells .var ((cs.set (at_ - 1) (u8 (digN n))).set (at_ - 2) (u8 45))) := z1
    generalize hcs : cs.set (at_ - 1) (u8 (digN n)) = ds at hY hYd hYl hZ
    have hZd : (ds.set (at_ - 2) (u8 45)).drop (at_ - 2) = u8s (45 :: digN n :: acc) := by
      rw [drop_cons' (i := at_ - 2) (x := u8 45) (by rw [List.getElem?_set_self (by omega)]), show at_ - 2 + 1 = at_ - 1 by omega, List.drop_set_of_lt (by omega), hYd]
      rfl
    have hZl : (ds.set (at_ - 2) (u8 45)).length = 20 := by rw [List.length_set]; exact hYl
    have f6 : aslice3 Tryd.prog 20 5 (.pointer (some ⟨q3, 0, none⟩)) (some (.int .i64 ((at_ - 2 : Nat) : Int))) (some (.int .i64 20)) (some (.int .i64 20)) Z = some (.slice (some ⟨q3, at_ - 2, none⟩) (20 - (at_ - 2)) 1) := by
      rw [slice_arr (k := 1) rfl hZ (by omega) (by omega) (by omega) (by decide) (by decide)]
      congr 4
      omega
    have f7 : aconvert Tryd.prog 48 9 (.slice (some ⟨q3, at_ - 2, none⟩) (20 - (at_ - 2)) 1) Z = some (.string (bstr (45 :: digN n :: acc))) := conv_sl hZ (by
      rw [slots_of (by omega), hZd, List.take_of_length_le]
      rw [← hZd, List.length_drop]; omega)
    refine run ?_
    exact ⟨by rw [hd]; rfl, g1.but_new ((kX.trans y2).trans z2) (by omega)⟩
  · rw [if_neg h0] at hd
    have d2 : (((n / 10 : Nat) : Int) == 0) = false := by rw [beq_eq_false_iff_ne]; omega
    have hat2 : 3 ≤ at_ := by
      refine Decidable.byContradiction fun hc => ?_
      rw [show at_ - 2 = 0 by omega] at hp'
      omega
    refine run ?_
    exact ⟨(at_ - 1, n / 10, digN n :: acc, cs.set (at_ - 1) (u8 (digN n))), ⟨rfl, rfl, rfl, rfl, trivial⟩, ⟨by dsimp only; omega, by dsimp only; omega, by dsimp only; omega, by dsimp only; rw [show at_ - 1 - 1 = at_ - 2 by omega]; exact hp', hd, hYl, hYd, hY, kX.trans y2⟩, by dsimp only; omega⟩
/-- A number as text. -/
def intL (n : Int) : Bs := if 0 ≤ n then decL n.toNat else 45 :: decL (-n).toNat
theorem decF_acc : ∀ (f n : Nat) (acc : Bs), decF f n acc = decF f n [] ++ acc
  | 0, _, acc => rfl
  | f + 1, n, acc => by
    rw [decF_step, decF_step]
    split
    · rfl
    · rw [decF_acc f (n / 10) (digN n :: acc), decF_acc f (n / 10) [digN n], List.append_assoc]; rfl
theorem decF_fuel : ∀ (f n : Nat), n < 10 ^ (f + 1) → decF (f + 1) n [] = decF (f + 2) n []
  | 0, n, h => by
    have h : n < 10 := by simpa using h
    rw [decF_step, decF_step, if_pos (by omega), if_pos (by omega)]
  | f + 1, n, h => by
    rw [decF_step, decF_step (f + 2)]
    split
    · rfl
    · rw [decF_acc, decF_acc (f + 2), decF_fuel f (n / 10) (pow_div h)]
theorem decL_len : ∀ (f n : Nat) (acc : Bs), (decF f n acc).length ≤ f + acc.length
  | 0, _, acc => by simp [decF]
  | f + 1, n, acc => by
    rw [decF_step]
    split
    · simp; omega
    · have := decL_len f (n / 10) (digN n :: acc)
      simp at this ⊢; omega
theorem decL_ten {n : Nat} (h : 10 ≤ n) (hn : n < 10 ^ 20) : decL n = decL (n / 10) ++ decL (n % 10) := by
  have e : decL (n % 10) = [digN n] := by
    unfold decL
    rw [decF_step, if_pos (by omega)]
    unfold digN
    rw [Nat.mod_mod]
  rw [e]
  unfold decL
  rw [decF_step 19 n, if_neg (by omega), decF_acc, decF_fuel 18 (n / 10) (pow_div hn)]
theorem decL_low {n : Nat} (h : n < 10) : decL n = [digN n] := by
  unfold decL
  rw [decF_step, if_pos (by omega)]
theorem numI_ax (H0 : Heap) {n : Int} (h1 : -9223372036854775808 ≤ n) (h2 : n ≤ 9223372036854775807) : AX Tryd.prog 32 #[.int .i64 n] H0 (fun v H' => v = .string (bstr (intL n)) ∧ H' = H0) := by
  unfold intL
  split
  · obtain ⟨m, rfl⟩ := Int.eq_ofNat_of_zero_le (by assumption)
    exact numPos_ax H0 (by omega)
  · obtain ⟨m, hm⟩ := Int.eq_ofNat_of_zero_le (show 0 ≤ -n by omega)
    obtain rfl : n = -(m : Int) := by omega
    rw [Int.neg_neg, Int.toNat_natCast]
    exact numNeg_ax H0 (by omega) (by omega)
theorem rnumI_ax (H0 : Heap) {n : Int} (h1 : -9223372036854775808 ≤ n) (h2 : n ≤ 9223372036854775807) : AX Tryd.prog 50 #[.int .i64 n] H0 (fun v H' => v = .string (bstr (intL n)) ∧ H' = H0) := by
  unfold intL
  split
  · rename_i h0
    obtain ⟨m, rfl⟩ := Int.eq_ofNat_of_zero_le h0
    have d1 : decide ((m : Int) ≥ 0) = true := decide_eq_true (by omega)
    refine AX.body (n := 25) (rs := [.tmp 2]) Tryd.func50 rfl (by decide) rfl rfl (bC_sound _ _ _ _ ?_)
    refine run ?_
    refine (refDigits_ax H0 (by omega)).mono ?_
    rintro _ X ⟨rfl, e⟩
    subst X
    refine run ?_
    exact ⟨rfl, rfl⟩
  · obtain ⟨m, hm⟩ := Int.eq_ofNat_of_zero_le (show 0 ≤ -n by omega)
    obtain rfl : n = -(m : Int) := by omega
    rw [Int.neg_neg, Int.toNat_natCast]
    have d1 : decide (-(m : Int) ≥ 0) = false := decide_eq_false (by omega)
    have f1 : abin Tryd.prog .rem 3 (.int .i64 (-(m : Int))) (.int .i64 10) = some (.int .i64 (-((m % 10 : Nat) : Int))) := by
      rw [rem_ok (by omega), Int.neg_tmod, Int.tmod_eq_emod_of_nonneg (by omega)]; rfl
    have f2 : abin Tryd.prog .sub 3 (.int .i64 0) (.int .i64 (-((m % 10 : Nat) : Int))) = some (.int .i64 ((m % 10 : Nat) : Int)) := by
      have : abin Tryd.prog .sub 3 (.int .i64 0) (.int .i64 (-((m % 10 : Nat) : Int))) = some (.int .i64 (IntKind.i64.wrap (0 - -((m % 10 : Nat) : Int)))) := rfl
      rw [this, wrap_i64 (by omega) (by omega)]; congr 2; omega
    have f3 : abin Tryd.prog .quo 3 (.int .i64 (-(m : Int))) (.int .i64 10) = some (.int .i64 (-((m / 10 : Nat) : Int))) := by
      have : abin Tryd.prog .quo 3 (.int .i64 (-(m : Int))) (.int .i64 10) = some (.int .i64 (IntKind.i64.wrap ((-(m : Int)).tdiv 10))) := rfl
      have e : (-(m : Int)).tdiv 10 = -((m / 10 : Nat) : Int) := by rw [Int.neg_tdiv, Int.tdiv_eq_ediv_of_nonneg (by omega)]; rfl
      rw [this, e, wrap_i64 (by omega) (by omega)]
    have f4 : abin Tryd.prog .sub 3 (.int .i64 0) (.int .i64 (-((m / 10 : Nat) : Int))) = some (.int .i64 ((m / 10 : Nat) : Int)) := by
      have : abin Tryd.prog .sub 3 (.int .i64 0) (.int .i64 (-((m / 10 : Nat) : Int))) = some (.int .i64 (IntKind.i64.wrap (0 - -((m / 10 : Nat) : Int)))) := rfl
      rw [this, wrap_i64 (by omega) (by omega)]; congr 2; omega
    have l1 : (decL (m % 10)).length ≤ 20 := decL_len 20 _ []
    have l2 : (decL (m / 10)).length ≤ 20 := decL_len 20 _ []
    refine AX.body (n := 25) (rs := [.tmp 2]) Tryd.func50 rfl (by decide) rfl rfl (bC_sound _ _ _ _ ?_)
    refine run ?_
    by_cases h0 : m / 10 = 0
    · have d2 : (-((m / 10 : Nat) : Int) == 0) = true := by rw [beq_iff_eq]; omega
      have e1 : decL m = decL (m % 10) := by rw [Nat.mod_eq_of_lt (by omega)]
      refine run ?_
      refine (refDigits_ax H0 (by omega)).mono ?_
      rintro _ X ⟨rfl, e⟩
      subst X
      refine run ?_
      refine Ob.cat (by first | exact bstr_list _ | rfl) (by first | exact bstr_list _ | rfl) (by first | omega | (simp only [List.length_append, List.length_cons, List.length_nil]; omega) | (simp only [List.length_append, List.length_cons, List.length_nil] at *; omega)) ?_
      refine run ?_
      exact ⟨by rw [e1]; rfl, rfl⟩
    · have d2 : (-((m / 10 : Nat) : Int) == 0) = false := by rw [beq_eq_false_iff_ne]; omega
      have e1 : decL m = decL (m / 10) ++ decL (m % 10) := decL_ten (by omega) (by omega)
      refine run ?_
      refine (refDigits_ax H0 (by omega)).mono ?_
      rintro _ X ⟨rfl, e⟩
      subst X
      refine run ?_
      refine Ob.cat (by first | exact bstr_list _ | rfl) (by first | exact bstr_list _ | rfl) (by first | omega | (simp only [List.length_append, List.length_cons, List.length_nil]; omega) | (simp only [List.length_append, List.length_cons, List.length_nil] at *; omega)) ?_
      refine run ?_
      refine (refDigits_ax H0 (by omega)).mono ?_
      rintro _ X ⟨rfl, e⟩
      subst X
      refine run ?_
      refine Ob.cat (by first | exact bstr_list _ | rfl) (by first | exact bstr_list _ | rfl) (by first | omega | (simp only [List.length_append, List.length_cons, List.length_nil]; omega) | (simp only [List.length_append, List.length_cons, List.length_nil] at *; omega)) ?_
      refine run ?_
      exact ⟨by rw [e1]; rfl, rfl⟩
theorem intL_len (n : Int) : (intL n).length ≤ 21 := by
  unfold intL
  split
  · have := decL_len 20 n.toNat []
    unfold decL
    simp at this ⊢; omega
  · have := decL_len 20 (-n).toNat []
    unfold decL
    simp at this ⊢; omega
end Go.Proofs.YtmdpifedcaaobaaDoor
/- Strings put together; a writer's words. -/
set_option linter.unusedVariables false
set_option linter.unusedSimpArgs false
set_option maxRecDepth 20000
set_option maxHeartbeats 8000000
namespace Go.Proofs.YtmdpifedcaaobaaDoor
open Go Ax
def wordsL (l : List Int) : Bs := l.flatMap fun n => 32 :: intL n
/-- An int. -/
abbrev I64 (n : Int) : Prop := -9223372036854775808 ≤ n ∧ n ≤ 9223372036854775807
theorem flat_snoc {α : Type} {L : List α} {k : Nat} {x : α} (f : α → Bs) (h : L[k]? = some x) : (L.take (k + 1)).flatMap f = (L.take k).flatMap f ++ f x := by
  rw [List.take_add_one, h, List.flatMap_append]
  simp
theorem flat_le {α : Type} {f : α → Bs} {m : Nat} : ∀ {L : List α}, (∀ x ∈ L, (f x).length ≤ m) → (L.flatMap f).length ≤ m * L.length
  | [], _ => by simp
  | x :: L, h => by
    have := flat_le (L := L) fun y hy => h y (List.mem_cons_of_mem _ hy)
    have := h x (by simp)
    rw [List.flatMap_cons, List.length_append, List.length_cons, Nat.mul_succ]
    omega
theorem flat_take_le {α : Type} (f : α → Bs) (L : List α) (k : Nat) : ((L.take k).flatMap f).length ≤ (L.flatMap f).length := by
  conv => rhs; rw [← List.take_append_drop k L, List.flatMap_append, List.length_append]
  omega
theorem words_le (l : List Int) : (wordsL l).length ≤ 22 * l.length := flat_le fun n _ => by have := intL_len n; simp; omega
theorem quote_le (L : List UInt8) : (quoteS L).length ≤ 4 * L.length + 2 := by
  unfold quoteS
  have : (L.flatMap quote1).length ≤ 4 * L.length := flat_le fun c _ => quote1_len c
  simp only [List.length_append, List.length_cons, List.length_nil]
  omega
/-- No row of bytes. -/
def NoB (X : Blk) : Prop := ∀ c, X ≠ .cells (.row 5) c
/-- All but the builder in block b, and rows of bytes, stays. -/
def FrW (b : Nat) (H H' : Heap) : Prop := H.length ≤ H'.length ∧ ∀ j X, H[j]? = some X → j ≠ b → NoB X → H'[j]? = some X
theorem FrW.refl (b : Nat) (H : Heap) : FrW b H H := ⟨Nat.le_refl _, fun _ _ h _ _ => h⟩
theorem FrW.trans {b : Nat} {A B C : Heap} (h : FrW b A B) (k : FrW b B C) : FrW b A C := ⟨Nat.le_trans h.1 k.1, fun j X hx hj hn => k.2 j X (h.2 j X hx hj hn) hj hn⟩
theorem FrW.of {b : Nat} {A B : Heap} (h : Grow A B) : FrW b A B := ⟨h.1, fun j X hx _ _ => h.at hx⟩
theorem FrW.but {b : Nat} {A B : Heap} (h : But b A B) : FrW b A B := ⟨h.1, fun j X hx hj _ => h.at hx hj⟩
theorem appF_buf {B : Nat} {H : Heap} {v x : Value} {bs xs : List UInt8} {tx : TypeId} {d : TypeDesc} (h : Buf B H v bs) (hB : B ≤ H.length) (hsrc : asrc 1 x H = some (xs.length, u8s xs)) (hx : srcOk x 1 = true)
    (hd : Tryd.prog.underlying tx = some d) (hn : noInt d = true) (hl : bs.length + xs.length ≤ 140737488355327) :
    ∃ v' H', aappend Tryd.prog 48 tx v x H = some (v', H') ∧ Buf B H' v' (bs ++ xs) ∧ Keep B H H' ∧ (∀ k, k < H.length → NoRow H k → H'[k]? = H[k]?) ∧ ∀ b, FrW b H H' := by
  cases xs with
  | nil =>
    refine ⟨v, H, ?_, by simpa using h, .refl _ _, fun _ _ _ => rfl, fun b => .refl b H⟩
    rcases h with ⟨rfl, _⟩ | ⟨g, _, rfl, _⟩
    · exact append_zero (t := 48) (k := 1) (e := 5) (zs := [.int .u8 0]) rfl rfl rfl hd hn (by decide) hx rfl rfl hsrc (.inl ⟨rfl, rfl, rfl⟩)
    · exact append_zero (t := 48) (k := 1) (e := 5) (zs := [.int .u8 0]) rfl rfl rfl hd hn (by decide) hx rfl rfl hsrc (.inr ⟨_, _, rfl⟩)
  | cons y ys =>
    rcases h with ⟨rfl, rfl⟩ | ⟨g, h1, rfl, h3, h4⟩
    · refine ⟨_, _, append_nil (k := 1) (e := 5) (zs := [.int .u8 0]) rfl rfl rfl hd hn (by decide) hx rfl rfl hsrc (by simp) ?_ ?_, .inr ⟨_, hB, rfl, by simp, at_push _ _⟩, (Grow.push _ _).keep hB, fun k hk _ => (Grow.push _ _).2 k hk, fun b => .of (Grow.push _ _)⟩
      · simp at hl; show (ys.length + 1) * 1 ≤ _; omega
      · simp at hl; simp only [maxLen, List.length_cons]; omega
    · have ho : slotsOf (u8s bs) 0 (bs.length * 1) = some (u8s bs) := by rw [slots_of (by simp [u8s_length])]; rw [List.drop_zero, List.take_of_length_le (by simp [u8s_length])]
      have hgl := lt_at h4
      refine ⟨_, _, append_row (k := 1) (e := 5) (zs := [.int .u8 0]) rfl rfl rfl hd hn (by decide) hx rfl rfl hsrc (by simp) h4 ho ?_ ?_, .inr ⟨H.length, hB, by simp, by simp, ?_⟩, ⟨by simp, fun k hk => ?_⟩, fun k hk hk' => ?_, fun b => ⟨by simp, fun j X hX _ hN => ?_⟩⟩
      · show (bs.length + (y :: ys).length) * 1 ≤ _; omega
      · simp only [maxLen]; omega
      · rw [List.getElem?_append_right (by simp)]; simp [u8s_append]
      · rw [List.getElem?_append_left (by simp; omega), List.getElem?_set_ne (by omega)]
      · rw [List.getElem?_append_left (by simp; omega), List.getElem?_set_ne (fun e => by subst e; exact hk' _ _ h4)]
      · have hj := lt_at hX
        have hne : g ≠ j := fun e => by subst e; rw [h4] at hX; exact hN _ (Option.some.inj hX).symm
        rw [List.getElem?_append_left (by simp; omega), List.getElem?_set_ne hne]
        exact hX
theorem writeStringF_ax {B : Nat} {H : Heap} {b : Nat} {T : TypeId} {rest : List Value} {bs : List UInt8} (h : Bld B H b T rest bs) (hT : OkB T) (s : ByteArray) (hl : bs.length + s.data.toList.length ≤ 140737488355327) :
    AX Tryd.prog 30 #[ptr b, .string s] H (fun v H' => v = .tuple #[.int .i64 s.size, .nilIface] ∧ Bld B H' b T rest (bs ++ s.data.toList) ∧ Keep B H H' ∧ FrW b H H') := by
  obtain ⟨h1, h2, a, v, h3, h4, h5⟩ := h
  refine AX.body (n := 19) (rs := [.tmp 4, .tmp 5]) Tryd.func30 rfl (by decide) rfl rfl (bC_sound _ _ _ _ ?_)
  refine run ?_
  refine (bcheck_ax h3 h4 hT).mono ?_
  rintro _ H1 ⟨k1, k2⟩
  have hb1 := hblk_of k1
  have f1 := h5.but k2 (.of h3 rfl)
  have hl1 := k2.1
  refine run ?_
  obtain ⟨v', H3, e, m1, m2, m3, m4⟩ := appF_buf (tx := 9) f1 (Nat.le_trans h2 hl1) (src_str s H1) rfl rfl rfl hl
  refine Ob2.of e ?_
  have k3 := (m3 b (lt_at k1) (.of k1 rfl)).trans k1
  have hb3 := hblk_of k3
  refine run ?_
  refine Ob.store m1.cells rfl rfl k3 rfl (by first | exact Nat.le_of_ble_eq_true rfl | simp) fun H4 s1 s2 s3 => ?_
  refine run ?_
  have hg := (k2.keep h2 h1).trans m2
  exact ⟨rfl, ⟨h1, by have := hg.1; omega, ptr b, v', s1, .inr rfl, m1.but s2 (.of k3 rfl)⟩, hg.trans (s2.keep (Nat.le_trans h2 hg.1) h1), ((FrW.but k2).trans (m4 b)).trans (.but s2)⟩
theorem writeByteF_ax {B : Nat} {H : Heap} {b : Nat} {T : TypeId} {rest : List Value} {bs : List UInt8} (h : Bld B H b T rest bs) (hT : OkB T) (hl : bs.length + 1 ≤ 140737488355327) (x : UInt8) :
    AX Tryd.prog 31 #[ptr b, u8 x] H (fun v H' => v = .nilIface ∧ Bld B H' b T rest (bs ++ [x]) ∧ Keep B H H' ∧ FrW b H H') := by
  obtain ⟨h1, h2, a, v, h3, h4, h5⟩ := h
  refine AX.body (n := 17) (rs := [.tmp 4]) Tryd.func31 rfl (by decide) rfl rfl (bC_sound _ _ _ _ ?_)
  refine run ?_
  refine (bcheck_ax h3 h4 hT).mono ?_
  rintro _ H1 ⟨k1, k2⟩
  have hb1 := hblk_of k1
  have f1 := h5.but k2 (.of h3 rfl)
  have hl1 := k2.1
  refine run ?_
  refine Ob2.byte fun q H2 hq l1 l2 => ?_
  have k1' := l2.at k1
  obtain ⟨v', H3, e, m1, m2, m3, m4⟩ := appF_buf (tx := 48) (f1.grow l2) (Nat.le_trans h2 (Nat.le_trans hl1 l2.1)) (src_byte l1) rfl rfl rfl hl
  (conv => whnf)
  refine Ob2.of e ?_
  have k3 := (m3 b (lt_at k1') (.of k1' rfl)).trans k1'
  have hb3 := hblk_of k3
  refine run ?_
  refine Ob.store m1.cells rfl rfl k3 rfl (by first | exact Nat.le_of_ble_eq_true rfl | simp) fun H4 s1 s2 s3 => ?_
  refine run ?_
  have hg := (k2.keep h2 h1).trans ((l2.keep (Nat.le_trans h2 hl1)).trans m2)
  exact ⟨rfl, ⟨h1, by have := hg.1; omega, ptr b, v', s1, .inr rfl, m1.but s2 (.of k3 rfl)⟩, hg.trans (s2.keep (Nat.le_trans h2 hg.1) h1), (((FrW.but k2).trans (.of l2)).trans (m4 b)).trans (.but s2)⟩
abbrev lim8 : Nat := 100000000
/-- The writer in block b, laid behind the heap H0, holds bs. -/
structure WS (T : TypeId) (H0 H : Heap) (b : Nat) (bs : List UInt8) : Prop where
  g : Grow H0 H
  bl : Bld H0.length H b T [] bs
def WQ (T : TypeId) (H0 : Heap) (b : Nat) (H : Heap) (bs : List UInt8) : Value → Heap → Prop := fun _ H' => WS T H0 H' b bs ∧ FrW b H H'
theorem WS.grow {T : TypeId} {H0 H H' : Heap} {b : Nat} {bs : List UInt8} (S : WS T H0 H b bs) (h : Grow H H') : WS T H0 H' b bs := by
  obtain ⟨g, h1, h2, a, v, h3, h4, h5⟩ := S
  exact ⟨g.trans h, h1, Nat.le_trans h2 h.1, a, v, h.at h3, h4, h5.grow h⟩
theorem WS.ne {T : TypeId} {H0 H : Heap} {b q : Nat} {bs : List UInt8} (S : WS T H0 H b bs) {m : Ax.Mode} {c : List Value} (h : H[q]? = some (.cells m c)) (hm : m ≠ .one T) : q ≠ b := by
  obtain ⟨g, h1, h2, a, v, h3, h4, h5⟩ := S
  rintro rfl
  rw [h] at h3
  simp only [Option.some.injEq, Blk.cells.injEq] at h3
  exact hm h3.1
theorem WS.keep {T : TypeId} {H0 H H' : Heap} {b q : Nat} {bs : List UInt8} (S : WS T H0 H b bs) (F : FrW b H H') {m : Ax.Mode} {c : List Value} (h : H[q]? = some (.cells m c)) (hm : m ≠ .one T) (hr : m ≠ .row 5) : H'[q]? = some (.cells m c) :=
  F.2 q _ h (S.ne h hm) fun c' e => hr (Blk.cells.inj e).1
theorem WS.box {T : TypeId} {H0 H H' : Heap} {b q : Nat} {bs : List UInt8} (S : WS T H0 H b bs) (F : FrW b H H') {c : List Value} (h : H[q]? = some (.cells .var c)) : H'[q]? = some (.cells .var c) := S.keep F h (by simp) (by simp)
theorem WS.str {T : TypeId} (hT : OkB T) {H0 H : Heap} {b : Nat} {bs : List UInt8} (S : WS T H0 H b bs) (s : ByteArray) (hl : bs.length + s.data.toList.length ≤ lim8) :
    AX Tryd.prog 30 #[ptr b, .string s] H (WQ T H0 b H (bs ++ s.data.toList)) := by
  refine (writeStringF_ax S.bl hT s (by simp only [lim8] at hl; omega)).mono ?_
  rintro _ X ⟨-, h1, h2, h3⟩
  exact ⟨⟨S.g.keep (Nat.le_refl _) |>.trans h2 |> Keep.grow, h1⟩, h3⟩
theorem WS.byte {T : TypeId} (hT : OkB T) {H0 H : Heap} {b : Nat} {bs : List UInt8} (S : WS T H0 H b bs) (x : UInt8) (hl : bs.length + 1 ≤ lim8) :
    AX Tryd.prog 31 #[ptr b, u8 x] H (WQ T H0 b H (bs ++ [x])) := by
  refine (writeByteF_ax S.bl hT (by simp only [lim8] at hl; omega) x).mono ?_
  rintro _ X ⟨-, h1, h2, h3⟩
  exact ⟨⟨S.g.keep (Nat.le_refl _) |>.trans h2 |> Keep.grow, h1⟩, h3⟩
end Go.Proofs.YtmdpifedcaaobaaDoor
