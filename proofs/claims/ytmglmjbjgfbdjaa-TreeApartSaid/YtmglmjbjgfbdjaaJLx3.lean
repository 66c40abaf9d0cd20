/- Package lex: signs. -/
import Derived.Test.YtmglmjbjgfbdjaaJTr3
set_option linter.unusedVariables false
set_option linter.unusedSimpArgs false
set_option maxRecDepth 20000
set_option maxHeartbeats 4000000
namespace Go.Proofs.Ytmglmjbjgfbdjaa
open Go Ax
theorem find_pre {n : Nat} {r : Bs} : ∀ {ws : List Bs}, (∀ w ∈ ws, w.length = n) → ws.find? (fun w => decide (w <+: r)) = if r.take n ∈ ws then some (r.take n) else none
  | [], _ => by simp
  | w :: ws, h => by
    have hw := h w (by simp)
    have ih := find_pre (r := r) (ws := ws) fun x hx => h x (by simp [hx])
    have e : w <+: r ↔ r.take n = w := by rw [List.prefix_iff_eq_take, hw]; exact eq_comm
    by_cases hp : w <+: r
    · have e' := e.1 hp
      have hpd : decide (w <+: r) = true := decide_eq_true hp
      simp only [List.find?_cons, hpd]
      rw [if_pos (by rw [e']; simp), e']
    · have hpd : decide (w <+: r) = false := decide_eq_false hp
      simp only [List.find?_cons, hpd]
      rw [ih]
      have hne : ¬ r.take n = w := fun hh => hp (e.2 hh)
      by_cases hm : r.take n ∈ ws
      · rw [if_pos hm, if_pos (by simp [hm])]
      · rw [if_neg hm, if_neg (by simp [hm, hne])]
theorem two_len : ∀ w ∈ twoL, w.length = 2 := by decide
theorem one_lenC : ∀ w ∈ oneCL, w.length = 1 := by decide
theorem sign_find (r : Bs) : (signsL.find? fun w => decide (w <+: r)).getD [] = signS r := by
  unfold signsL signS
  rw [List.find?_append, find_pre two_len, find_pre one_lenC]
  split
  · rfl
  · split <;> rfl
theorem sign_some {r w : Bs} {i : Nat} (hw : signsL[i]? = some w) (hn : ∀ u ∈ signsL.take i, ¬ u <+: r) (hp : w <+: r) : signS r = w := by
  rw [← sign_find]
  have e : signsL = signsL.take i ++ w :: signsL.drop (i + 1) := by
    have h1 := List.drop_eq_getElem_cons (lt_of_get hw)
    rw [(List.getElem?_eq_some_iff.1 hw).2] at h1
    rw [← h1, List.take_append_drop]
  rw [e, List.find?_append, List.find?_eq_none.2 (fun u hu => by simpa using hn u hu)]
  have hpd : decide (w <+: r) = true := decide_eq_true hp
  simp only [List.find?_cons, hpd]
  rfl
theorem sign_none {r : Bs} (hn : ∀ u ∈ signsL, ¬ u <+: r) : signS r = [] := by
  rw [← sign_find, List.find?_eq_none.2 (fun u hu => by simpa using hn u hu)]
  rfl
end Go.Proofs.Ytmglmjbjgfbdjaa
/- Package num: a text as a number. -/
set_option linter.unusedVariables false
set_option linter.unusedSimpArgs false
set_option maxRecDepth 20000
set_option maxHeartbeats 4000000
namespace Go.Proofs.Ytmglmjbjgfbdjaa
open Go Ax
theorem drop_cons {L : Bs} {i : Nat} {c : UInt8} (h : L[i]? = some c) : L.drop i = c :: L.drop (i + 1) := by
  rw [List.drop_eq_getElem_cons (lt_of_get h), (List.getElem?_eq_some_iff.1 h).2]
theorem digB_iff {c : UInt8} : digB c = true ↔ 48 ≤ c.toNat ∧ c.toNat ≤ 57 := by
  unfold digB
  rw [digitB_eq, Bool.and_eq_true, decide_eq_true_eq, decide_eq_true_eq]
  omega
theorem most_of (d : Int) (h0 : 0 ≤ d) (h1 : d ≤ 9) : 461168601842738789 ≤ (mostN - d).tdiv 10 ∧ (mostN - d).tdiv 10 ≤ 461168601842738790 := by
  unfold mostN
  have : (4611686018427387903 - d).tdiv 10 = (4611686018427387903 - d) / 10 := Int.tdiv_eq_ediv_of_nonneg (by omega)
  rw [this]
  omega
theorem most_step {n d : Int} (h0 : 0 ≤ d) (h1 : d ≤ 9) (hn : 0 ≤ n) (h : ¬ (mostN - d).tdiv 10 < n) : 0 ≤ n * 10 + d ∧ n * 10 + d ≤ mostN := by
  have e : (mostN - d).tdiv 10 = (mostN - d) / 10 := Int.tdiv_eq_ediv_of_nonneg (by unfold mostN; omega)
  rw [e] at h
  unfold mostN at h ⊢
  omega
theorem readF_range : ∀ (L : Bs) (n : Int) (b : Bool), 0 ≤ n → n ≤ mostN → 0 ≤ (readF L n b).1 ∧ (readF L n b).1 ≤ mostN
  | [], n, b, h0, h1 => by
    unfold readF
    split
    · unfold mostN; decide
    · exact ⟨h0, h1⟩
  | c :: r, n, b, h0, h1 => by
    unfold readF
    split
    · rename_i hd
      rw [digB_iff] at hd
      split
      · exact readF_range r n true h0 h1
      · rename_i hb
        have := most_step (n := n) (d := (c.toNat : Int) - 48) (by omega) (by omega) h0 (fun h => hb (.inr h))
        exact readF_range r _ false this.1 this.2
    · unfold mostN; decide
theorem readS_range (L : Bs) : 0 ≤ (readS L).1 ∧ (readS L).1 ≤ mostN := by
  unfold readS
  split
  · unfold mostN; decide
  · exact readF_range L 0 false (by decide) (by unfold mostN; decide)
def wrongN (b : Bool) : Int := if b then 10 else 0
theorem readF_step {L : Bs} {i : Nat} {c : UInt8} {n : Int} {b : Bool} (hc : L[i]? = some c) (hd : digB c = true) :
    readF (L.drop i) n b = if b = true ∨ (mostN - ((c.toNat : Int) - 48)).tdiv 10 < n then readF (L.drop (i + 1)) n true else readF (L.drop (i + 1)) (n * 10 + ((c.toNat : Int) - 48)) false := by
  rw [drop_cons hc]
  show (if digB c = true then _ else _) = _
  rw [if_pos hd]
theorem readF_bad {L : Bs} {i : Nat} {c : UInt8} {n : Int} {b : Bool} (hc : L[i]? = some c) (hd : ¬ digB c = true) : readF (L.drop i) n b = (0, 11) := by
  rw [drop_cons hc]
  show (if digB c = true then _ else _) = _
  rw [if_neg hd]
theorem plain_tt (a b : Int) : plain (.tuple #[.int .i64 a, .int .i64 b]) := plain_tuple (vs := [_, _]) fun x hx => by
  simp only [List.mem_cons, List.not_mem_nil, or_false] at hx
  rcases hx with rfl | rfl <;> exact plain_int _ _
end Go.Proofs.Ytmglmjbjgfbdjaa
/- Package num: a number as text. -/
set_option linter.unusedVariables false
set_option linter.unusedSimpArgs false
set_option maxRecDepth 20000
set_option maxHeartbeats 4000000
namespace Go.Proofs.Ytmglmjbjgfbdjaa
open Go Ax
def digN (n : Nat) : UInt8 := UInt8.ofNat (48 + n % 10)
theorem digN_nat (n : Nat) : (digN n).toNat = 48 + n % 10 := by
  unfold digN
  rw [UInt8.toNat_ofNat']
  omega
theorem decF_step (f n : Nat) (acc : Bs) : decF (f + 1) n acc = if n / 10 = 0 then digN n :: acc else decF f (n / 10) (digN n :: acc) := by
  show (if n < 10 then _ else _) = _
  by_cases h : n < 10
  · rw [if_pos h, if_pos (by omega)]
    unfold digN
    rw [Nat.mod_eq_of_lt h]
  · rw [if_neg h, if_neg (by omega)]
    rfl
theorem pow_div {n k : Nat} (h : n < 10 ^ (k + 1)) : n / 10 < 10 ^ k := by
  rw [Nat.pow_succ] at h
  omega
theorem drop_cons' {α : Type} {L : List α} {i : Nat} {x : α} (h : L[i]? = some x) : L.drop i = x :: L.drop (i + 1) := by
  rw [List.drop_eq_getElem_cons (lt_of_get h), (List.getElem?_eq_some_iff.1 h).2]
theorem add_strB (a b : Bs) (h : a.length + b.length ≤ 1000000000) : abin Try.prog .add 9 (.string (bstr a)) (.string (bstr b)) = some (.string (bstr (a ++ b))) := by
  have e : bstr a ++ bstr b = bstr (a ++ b) := by
    rw [← bstr_data (bstr a ++ bstr b)]
    congr 1
  simp only [abin, astr]
  rw [if_neg (by rw [bstr_size, bstr_size]; omega), e]
theorem conv_sl {H : Heap} {b off n : Nat} {m : Ax.Mode} {c : List Value} {l : Bs} (hb : H[b]? = some (.cells m c)) (hs : slotsOf c off n = some (u8s l)) : aconvert Try.prog 41 9 (.slice (some ⟨b, off, none⟩) n 1) H = some (.string (bstr l)) := by
  by_cases h0 : n = 0
  · subst h0
    have hl : l = [] := by
      unfold slotsOf at hs
      split at hs
      · simp only [List.take_zero, Option.some.injEq] at hs
        cases l with
        | nil => rfl
        | cons a b => simp [u8s] at hs
      · simp at hs
    subst hl
    rfl
  · simp [aconvert, show Try.prog.underlying 41 = some (.slice 5) from rfl, show Try.prog.underlying 9 = some .string from rfl, show Try.prog.underlying 5 = some (.int .u8) from rfl, hblk_of hb, hs, u8s_back, h0, bstr]
theorem refDigits_ax (H0 : Heap) {n0 : Nat} (hn0 : n0 ≤ 4611686018427387903) : AX Try.prog 77 #[.int .i64 (n0 : Int)] H0 (fun v H' => v = .string (bstr (decL n0)) ∧ H' = H0) := by
  refine AX.quiet ?_
  suffices hh : AX Try.prog 77 #[.int .i64 (n0 : Int)] H0 (fun v H' => v = .string (bstr (decL n0)) ∧ Grow H0 H') from hh.mono fun v _ ⟨e, g⟩ => ⟨e ▸ plain_str _, e, g⟩
  refine AX.body (n := 23) (rs := [.tmp 2]) Try.func77 rfl (by decide) rfl rfl (bC_sound _ _ _ _ ?_)
  refine run ?_
  refine SW.loop (α := Nat × Nat × Bs) (fun y => [(0, .int .i64 (y.2.1 : Int)), (3, .string (bstr y.2.2)), (4, .int .i64 (y.1 : Int))])
    (fun y X => y.1 < 20 ∧ y.2.1 ≤ n0 ∧ y.2.1 < 10 ^ (20 - y.1) ∧ y.2.2.length ≤ y.1 ∧ decL n0 = decF (20 - y.1) y.2.1 y.2.2 ∧ Grow H0 X) (fun y => 20 - y.1)
    ⟨(0, n0, []), ⟨rfl, rfl, rfl, trivial⟩, by dsimp only; omega, Nat.le_refl _, by dsimp only; omega, Nat.le_refl _, rfl, .refl _⟩ ?_
  rintro ⟨k, n, acc⟩ X ⟨hk, hn, hp, hl, hd, gX⟩
  dsimp only at hk hn hp hl hd ⊢
  have d1 : decide ((k : Int) < 20) = true := decide_eq_true (by omega)
  have hf : 20 - k = (19 - k) + 1 := by omega
  rw [hf, decF_step] at hd
  rw [hf] at hp
  have hp' := pow_div hp
  have hnat := digN_nat n
  have f1 : abin Try.prog .rem 3 (.int .i64 (n : Int)) (.int .i64 10) = some (.int .i64 ((n % 10 : Nat) : Int)) := by
    rw [rem_ok (by omega), Int.tmod_eq_emod_of_nonneg (by omega)]; rfl
  have f2 : abin Try.prog .add 3 (.int .i64 48) (.int .i64 ((n % 10 : Nat) : Int)) = some (.int .i64 ((digN n).toNat : Int)) := by
    have : abin Try.prog .add 3 (.int .i64 48) (.int .i64 ((n % 10 : Nat) : Int)) = some (.int .i64 (IntKind.i64.wrap (48 + ((n % 10 : Nat) : Int)))) := rfl
    rw [this, wrap_i64 (by omega) (by omega), hnat]; rfl
  have f3 : aconvert Try.prog 3 5 (.int .i64 ((digN n).toNat : Int)) X = some (u8 (digN n)) := by
    have : aconvert Try.prog 3 5 (.int .i64 ((digN n).toNat : Int)) X = some (.int .u8 (IntKind.u8.wrap ((digN n).toNat : Int))) := rfl
    rw [this, wrap_u8 (by omega) (by omega)]
  have f4 : abin Try.prog .quo 3 (.int .i64 (n : Int)) (.int .i64 10) = some (.int .i64 ((n / 10 : Nat) : Int)) := by
    have : abin Try.prog .quo 3 (.int .i64 (n : Int)) (.int .i64 10) = some (.int .i64 (IntKind.i64.wrap ((n : Int).tdiv 10))) := rfl
    have e : (n : Int).tdiv 10 = ((n / 10 : Nat) : Int) := by rw [Int.tdiv_eq_ediv_of_nonneg (by omega)]; rfl
    rw [this, e, wrap_i64 (by omega) (by omega)]
  have w1 := w_succ (k := k) (by omega)
  refine bC_sound _ _ _ _ ?_
  refine run ?_
  refine Ob2.lay (H := X) (.cells (.row 5) [u8 (digN n)]) (.slice (some ⟨X.length, 0, none⟩) 1 1) rfl fun X1 a1 g1 l1 => ?_
  have f5 : aconvert Try.prog 41 9 (.slice (some ⟨X.length, 0, none⟩) 1 1) X1 = some (.string (bstr [digN n])) := conv_sl a1 rfl
  have f6 := add_strB [digN n] acc (by simp; omega)
  refine run ?_
  by_cases h0 : n / 10 = 0
  · rw [if_pos h0] at hd
    have d2 : (((n / 10 : Nat) : Int) == 0) = true := by rw [beq_iff_eq]; omega
    refine run ?_
    exact ⟨by rw [hd]; rfl, gX.trans g1⟩
  · rw [if_neg h0] at hd
    have d2 : (((n / 10 : Nat) : Int) == 0) = false := by rw [beq_eq_false_iff_ne]; omega
    refine run ?_
    have hk19 : k + 1 < 20 := by
      refine Decidable.byContradiction fun hc => ?_
      rw [show 19 - k = 0 by omega] at hp'
      omega
    exact ⟨(k + 1, n / 10, digN n :: acc), ⟨rfl, rfl, congrArg (fun z => some (Value.int .i64 z)) w1, trivial⟩, ⟨hk19, by dsimp only; omega, by rw [show 20 - (k + 1) = 19 - k by omega]; exact hp', by simp; omega, by rw [show 20 - (k + 1) = 19 - k by omega]; exact hd, gX.trans g1⟩, by dsimp only; omega⟩
theorem rxDigits_ax (H0 : Heap) {n0 : Nat} (hn0 : n0 ≤ 4611686018427387903) : AX Try.prog 67 #[.int .i64 (n0 : Int)] H0 (fun v H' => v = .string (bstr (decL n0)) ∧ H' = H0) := by
  have d1 : decide ((n0 : Int) ≥ 0) = true := decide_eq_true (by omega)
  refine AX.body (n := 25) (rs := [.tmp 2]) Try.func67 rfl (by decide) rfl rfl (bC_sound _ _ _ _ ?_)
  refine run ?_
  refine (refDigits_ax H0 hn0).mono ?_
  rintro _ X ⟨rfl, e⟩
  subst X
  refine run ?_
  exact ⟨rfl, rfl⟩
theorem numDigits_ax (H0 : Heap) {n0 : Nat} (hn0 : n0 ≤ 4611686018427387903) : AX Try.prog 39 #[.int .i64 (n0 : Int)] H0 (fun v H' => v = .string (bstr (decL n0)) ∧ H' = H0) := by
  refine AX.quiet ?_
  suffices hh : AX Try.prog 39 #[.int .i64 (n0 : Int)] H0 (fun v H' => v = .string (bstr (decL n0)) ∧ Grow H0 H') from hh.mono fun v _ ⟨e, g⟩ => ⟨e ▸ plain_str _, e, g⟩
  have d1 : decide ((n0 : Int) < 0) = false := decide_eq_false (by omega)
  refine AX.body (n := 33) (rs := [.tmp 2]) Try.func39 rfl (by decide) rfl rfl (bC_sound _ _ _ _ ?_)
  refine run ?_
  refine Ob2.alloc rfl fun q3 H1 hq3 a3 g1 => ?_
  have c1 : aconvert Try.prog 3 76 (.int .i64 (n0 : Int)) H1 = some (.int .u64 (n0 : Int)) := by
    have : aconvert Try.prog 3 76 (.int .i64 (n0 : Int)) H1 = some (.int .u64 (IntKind.u64.wrap (n0 : Int))) := rfl
    rw [this, IntWalk.u64_in _ ⟨by omega, by omega⟩]
  refine run ?_
  refine SW.loop (α := Nat × Nat × Bs × List Value) (fun y => [(0, .int .i64 (n0 : Int)), (3, .pointer (some ⟨q3, 0, none⟩)), (4, .int .i64 (y.1 : Int)), (5, .int .u64 (y.2.1 : Int))])
    (fun y X => 1 ≤ y.1 ∧ y.1 ≤ 20 ∧ y.2.1 ≤ n0 ∧ y.2.1 < 10 ^ y.1 ∧ decL n0 = decF y.1 y.2.1 y.2.2.1 ∧ y.2.2.2.length = 20 ∧ y.2.2.2.drop y.1 = u8s y.2.2.1 ∧ X[q3]? = some (.cells .var y.2.2.2) ∧ But q3 H1 X) (fun y => y.1)
    ⟨(20, n0, [], List.replicate 20 (.int .u8 0)), ⟨rfl, rfl, rfl, rfl, trivial⟩, by dsimp only; omega, Nat.le_refl _, Nat.le_refl _, by dsimp only; omega, rfl, rfl, rfl, a3, .refl _ _⟩ ?_
  rintro ⟨at_, n, acc, cs⟩ X ⟨h1, h20, hn, hp, hd, hcl, hcd, h3, kX⟩
  dsimp only at h1 h20 hn hp hd hcl hcd h3 ⊢
  have hf : at_ = (at_ - 1) + 1 := by omega
  rw [hf, decF_step] at hd
  rw [hf] at hp
  have hp' := pow_div hp
  have hnat := digN_nat n
  have f0 : abin Try.prog .sub 3 (.int .i64 (at_ : Int)) (.int .i64 1) = some (.int .i64 ((at_ - 1 : Nat) : Int)) := by
    have : abin Try.prog .sub 3 (.int .i64 (at_ : Int)) (.int .i64 1) = some (.int .i64 (IntKind.i64.wrap ((at_ : Int) - 1))) := rfl
    rw [this, wrap_i64 (by omega) (by omega)]; congr 2; omega
  have f1 : abin Try.prog .rem 76 (.int .u64 (n : Int)) (.int .u64 10) = some (.int .u64 ((n % 10 : Nat) : Int)) := by
    rw [rem_ok (by omega), Int.tmod_eq_emod_of_nonneg (by omega)]; rfl
  have f2 : aconvert Try.prog 76 5 (.int .u64 ((n % 10 : Nat) : Int)) X = some (.int .u8 ((n % 10 : Nat) : Int)) := by
    have : aconvert Try.prog 76 5 (.int .u64 ((n % 10 : Nat) : Int)) X = some (.int .u8 (IntKind.u8.wrap ((n % 10 : Nat) : Int))) := rfl
    rw [this, wrap_u8 (by omega) (by omega)]
  have f3 : abin Try.prog .add 5 (.int .u8 48) (.int .u8 ((n % 10 : Nat) : Int)) = some (u8 (digN n)) := by
    have : abin Try.prog .add 5 (.int .u8 48) (.int .u8 ((n % 10 : Nat) : Int)) = some (.int .u8 (IntKind.u8.wrap (48 + ((n % 10 : Nat) : Int)))) := rfl
    rw [this, wrap_u8 (by omega) (by omega)]
    show _ = some (Value.int .u8 ((digN n).toNat : Int))
    rw [hnat]; rfl
  have f4 : abin Try.prog .quo 76 (.int .u64 (n : Int)) (.int .u64 10) = some (.int .u64 ((n / 10 : Nat) : Int)) := by
    have : abin Try.prog .quo 76 (.int .u64 (n : Int)) (.int .u64 10) = some (.int .u64 (IntKind.u64.wrap ((n : Int).tdiv 10))) := rfl
    have e : (n : Int).tdiv 10 = ((n / 10 : Nat) : Int) := by rw [Int.tdiv_eq_ediv_of_nonneg (by omega)]; rfl
    rw [this, e, IntWalk.u64_in _ ⟨by omega, by omega⟩]
  have f5 : aindexAddr Try.prog 75 (.pointer (some ⟨q3, 0, none⟩)) (.int .i64 ((at_ - 1 : Nat) : Int)) = some (.pointer (some ⟨q3, at_ - 1, none⟩)) := by
    rw [idx_array (len := 20) (e := 5) (k := 1) rfl rfl (by omega) (by omega)]
    congr 4
    omega
  refine bC_sound _ _ _ _ ?_
  refine run ?_
  refine Ob.store rfl rfl rfl h3 rfl (by show at_ - 1 + 1 ≤ _; omega) fun Y y1 y2 y3 => ?_
  have hY : Y[q3]? = some (.cells .var (cs.set (at_ - 1) (u8 (digN n)))) := y1
  have hYd : (cs.set (at_ - 1) (u8 (digN n))).drop (at_ - 1) = u8s (digN n :: acc) := by
    rw [drop_cons' (i := at_ - 1) (x := u8 (digN n)) (by rw [List.getElem?_set_self (by omega)]), show at_ - 1 + 1 = at_ by omega, List.drop_set_of_lt (by omega), hcd]
    rfl
  have hYl : (cs.set (at_ - 1) (u8 (digN n))).length = 20 := by rw [List.length_set]; exact hcl
  refine run ?_
  by_cases h0 : n / 10 = 0
  · rw [if_pos h0] at hd
    have d2 : (((n / 10 : Nat) : Int) == 0) = true := by rw [beq_iff_eq]; omega
    have f6 : aslice3 Try.prog 20 5 (.pointer (some ⟨q3, 0, none⟩)) (some (.int .i64 ((at_ - 1 : Nat) : Int))) (some (.int .i64 20)) (some (.int .i64 20)) Y = some (.slice (some ⟨q3, at_ - 1, none⟩) (20 - (at_ - 1)) 1) := by
      rw [slice_arr (k := 1) rfl hY (by omega) (by omega) (by omega) (by decide) (by decide)]
      congr 4
      omega
    have f7 : aconvert Try.prog 41 9 (.slice (some ⟨q3, at_ - 1, none⟩) (20 - (at_ - 1)) 1) Y = some (.string (bstr (digN n :: acc))) := conv_sl hY (by
      rw [slots_of (by omega), hYd, List.take_of_length_le]
      rw [← hYd, List.length_drop]; omega)
    refine run ?_
    exact ⟨by rw [hd]; rfl, g1.but_new (kX.trans y2) (by omega)⟩
  · rw [if_neg h0] at hd
    have d2 : (((n / 10 : Nat) : Int) == 0) = false := by rw [beq_eq_false_iff_ne]; omega
    have hat2 : 2 ≤ at_ := by
      refine Decidable.byContradiction fun hc => ?_
      rw [show at_ - 1 = 0 by omega] at hp'
      omega
    refine run ?_
    exact ⟨(at_ - 1, n / 10, digN n :: acc, cs.set (at_ - 1) (u8 (digN n))), ⟨rfl, rfl, rfl, rfl, trivial⟩, ⟨by dsimp only; omega, by dsimp only; omega, by dsimp only; omega, hp', hd, hYl, hYd, hY, kX.trans y2⟩, by dsimp only; omega⟩
end Go.Proofs.Ytmglmjbjgfbdjaa
