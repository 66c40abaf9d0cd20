/- Plain facts of one token (out of chapter 5's texts; printed by mkTa5.py). -/
import Derived.Test.YtmdpifedcaaobaaDoorJAs2
set_option linter.unusedVariables false
set_option linter.unusedSimpArgs false
set_option maxRecDepth 20000
set_option maxHeartbeats 8000000
namespace Go.Proofs.YtmdpifedcaaobaaDoor
open Go Ax
def wordK (w : Bs) : Int := if keyS w = true then 2 else if nameS w = true then 1 else 0
theorem one_word {r : Bs} {c : UInt8} {q : Bs} (h : r = c :: q) (hl : letB c = true) : loneL r = if wordK (r.takeWhile wordB) = 0 then .err 0 11 else .tok (wordK (r.takeWhile wordB)) (r.takeWhile wordB) 0 (r.takeWhile wordB).length := by
  subst h
  show (if letB c = true then _ else _) = _
  rw [if_pos hl]
  unfold wordK
  split
  · rfl
  · split
    · rfl
    · rfl
theorem one_num {r : Bs} {c : UInt8} {q : Bs} (h : r = c :: q) (hl : ¬ letB c = true) (hd : digB c = true) :
    loneL r = if (readS (r.takeWhile digB)).2 = 0 then .tok 3 (decL (readS (r.takeWhile digB)).1.toNat) (readS (r.takeWhile digB)).1 (r.takeWhile digB).length else .err 0 (readS (r.takeWhile digB)).2 := by
  subst h
  show (if letB c = true then _ else if digB c = true then _ else _) = _
  rw [if_neg hl, if_pos hd]
theorem one_str {r : Bs} {c : UInt8} {q : Bs} (h : r = c :: q) (hl : ¬ letB c = true) (hd : ¬ digB c = true) (hc : c = 34) :
    loneL r = if (takeS r).2.2 = 0 then (if 256 < (takeS r).1.length then .err 0 3 else .tok 4 (takeS r).1 0 (takeS r).2.1) else .err (takeS r).2.1 (takeS r).2.2 := by
  subst h
  show (if letB c = true then _ else if digB c = true then _ else if c = 34 then _ else _) = _
  rw [if_neg hl, if_neg hd, if_pos hc]
theorem one_sign {r : Bs} {c : UInt8} {q : Bs} (h : r = c :: q) (hl : ¬ letB c = true) (hd : ¬ digB c = true) (hc : ¬ c = 34) : loneL r = if lsignS r = [] then .err 0 11 else .tok 5 (lsignS r) 0 (lsignS r).length := by
  subst h
  show (if letB c = true then _ else if digB c = true then _ else if c = 34 then _ else _) = _
  rw [if_neg hl, if_neg hd, if_neg hc]
theorem skip_no {c : UInt8} {r : Bs} (h : ¬ (c = 32 ∨ c = 10 ∨ c = 9)) (h2 : ¬ (c = 47 ∧ r.head? = some 47)) : skipL false (c :: r) = c :: r := by
  show (if c = 47 ∧ r.head? = some 47 then _ else if _ then _ else _) = _
  rw [if_neg h2, if_neg h]
theorem tw_all {p : UInt8 → Bool} {c : UInt8} {R : Bs} (hc : p c = false) : ∀ {w : Bs}, (∀ x ∈ w, p x = true) → (w ++ c :: R).takeWhile p = w
  | [], _ => by rw [List.nil_append, List.takeWhile_cons_of_neg (by simp [hc])]
  | x :: w, h => by
    rw [List.cons_append, List.takeWhile_cons_of_pos (h x (by simp)), tw_all hc fun y hy => h y (by simp [hy])]
def valF (m : Int) : Bs → Int
  | [] => m
  | c :: r => valF (m * 10 + ((c.toNat : Int) - 48)) r
theorem val_ge : ∀ (L : Bs) (m : Int), 0 ≤ m → (∀ c ∈ L, digB c = true) → m ≤ valF m L
  | [], m, _, _ => Int.le_refl _
  | c :: r, m, h0, h => by
    have hd := digB_iff.1 (h c (by simp))
    have := val_ge r (m * 10 + ((c.toNat : Int) - 48)) (by omega) fun x hx => h x (by simp [hx])
    show m ≤ valF (m * 10 + ((c.toNat : Int) - 48)) r
    omega
theorem readF_val : ∀ (L : Bs) (m : Int), 0 ≤ m → (∀ c ∈ L, digB c = true) → valF m L ≤ mostN → readF L m false = (valF m L, 0)
  | [], m, _, _, _ => rfl
  | c :: r, m, h0, h, hv => by
    have hdc := h c (by simp)
    have hd := digB_iff.1 hdc
    have hr : ∀ x ∈ r, digB x = true := fun x hx => h x (by simp [hx])
    have hv' : valF (m * 10 + ((c.toNat : Int) - 48)) r ≤ mostN := hv
    have hge := val_ge r (m * 10 + ((c.toNat : Int) - 48)) (by omega) hr
    show (if digB c = true then _ else _) = _
    rw [if_pos hdc, if_neg]
    · exact readF_val r _ (by omega) hr hv'
    · rintro (h1 | h1)
      · simp at h1
      · have e : (mostN - ((c.toNat : Int) - 48)).tdiv 10 = (mostN - ((c.toNat : Int) - 48)) / 10 := Int.tdiv_eq_ediv_of_nonneg (by unfold mostN; omega)
        rw [e] at h1
        unfold mostN at *
        omega
theorem digN_dig (n : Nat) : digB (digN n) = true := by
  rw [digB_iff, digN_nat]
  omega
theorem decF_dig : ∀ (f n : Nat) (acc : Bs), (∀ c ∈ acc, digB c = true) → ∀ c ∈ decF f n acc, digB c = true
  | 0, n, acc, h, c, hc => h c hc
  | f + 1, n, acc, h, c, hc => by
    rw [decF_step] at hc
    have h' : ∀ c ∈ digN n :: acc, digB c = true := fun c hc => by
      rcases List.mem_cons.1 hc with rfl | hc
      · exact digN_dig n
      · exact h c hc
    split at hc
    · exact h' c hc
    · exact decF_dig f (n / 10) _ h' c hc
theorem decF_val : ∀ (f n : Nat) (acc : Bs), n < 10 ^ f → 1 ≤ f → valF 0 (decF f n acc) = valF (n : Int) acc
  | 0, n, acc, h, h1 => by omega
  | f + 1, n, acc, h, _ => by
    rw [decF_step]
    have hn := digN_nat n
    split
    · show valF (0 * 10 + (((digN n).toNat : Int) - 48)) acc = _
      congr 1
      omega
    · have hp := pow_div h
      rw [decF_val f (n / 10) _ hp (by
        refine Decidable.byContradiction fun hc => ?_
        rw [show f = 0 by omega] at hp
        omega)]
      show valF (((n / 10 : Nat) : Int) * 10 + (((digN n).toNat : Int) - 48)) acc = _
      congr 1
      omega
theorem decF_ne : ∀ (f n : Nat) (acc : Bs), 1 ≤ f → decF f n acc ≠ []
  | 0, n, acc, h => by omega
  | f + 1, n, acc, _ => by
    rw [decF_step]
    split
    · simp
    · cases f with
      | zero => simp [decF]
      | succ f => exact decF_ne (f + 1) _ _ (by omega)
theorem dec_read {n : Nat} (h : (n : Int) ≤ mostN) : readS (decL n) = ((n : Int), 0) := by
  have hv : valF 0 (decL n) = (n : Int) := decF_val 20 n [] (by unfold mostN at h; omega) (by omega)
  have hd : ∀ c ∈ decL n, digB c = true := decF_dig 20 n [] (by simp)
  unfold readS
  rw [if_neg (show ¬ decL n = [] from decF_ne 20 n [] (by omega)), readF_val _ 0 (Int.le_refl _) hd (by rw [hv]; exact h), hv]
theorem key_word : ∀ w ∈ keysL, (∀ c ∈ w, wordB c = true) ∧ ∃ c, w.head? = some c ∧ letB c = true := by
  have h : keysL.all (fun w => (w.all fun c => wordB c) && (match w.head? with | some c => letB c | none => false)) = true := by decide +kernel
  intro w hw
  have := List.all_eq_true.1 h w hw
  rw [Bool.and_eq_true, List.all_eq_true] at this
  refine ⟨this.1, ?_⟩
  cases hh : w.head? with
  | none => rw [hh] at this; simp at this
  | some c => rw [hh] at this; exact ⟨c, rfl, this.2⟩
theorem name_word {w : Bs} (h : nameS w = true) : (∀ c ∈ w, wordB c = true) ∧ ∃ c, w.head? = some c ∧ letB c = true := by
  cases w with
  | nil => simp [nameS] at h
  | cons c r =>
    simp only [nameS, Bool.and_eq_true, List.all_eq_true, decide_eq_true_eq] at h
    obtain ⟨_, h1, h2⟩ := h
    refine ⟨fun x hx => ?_, c, rfl, h1⟩
    rcases List.mem_cons.1 hx with rfl | hx
    · unfold wordB letB; rw [h1]; rfl
    · exact h2 x hx
theorem sign_head : ∀ w ∈ signsL, ∃ c r, w = c :: r ∧ letB c = false ∧ digB c = false ∧ c ≠ 34 ∧ ¬ (c = 32 ∨ c = 10 ∨ c = 9) ∧ (c = 47 → r = []) := by
  have h : signsL.all (fun w => match w with | [] => false | c :: r => !(letB c) && (!(digB c) && (decide (c ≠ 34) && (decide (¬ (c = 32 ∨ c = 10 ∨ c = 9)) && decide (c = 47 → r = []))))) = true := by decide +kernel
  intro w hw
  have := List.all_eq_true.1 h w hw
  cases w with
  | nil => simp at this
  | cons c r =>
    simp only [Bool.and_eq_true, Bool.not_eq_true', decide_eq_true_eq] at this
    exact ⟨c, r, rfl, this.1, this.2.1, this.2.2.1, this.2.2.2.1, this.2.2.2.2⟩
theorem two_sp : ∀ w ∈ twoL, w[1]? ≠ some 32 := by decide +kernel
theorem sign_sp {w : Bs} (h : w ∈ signsL) (R : Bs) : lsignS (w ++ 32 :: R) = w := by
  rcases List.mem_append.1 h with h | h
  · have hl := two_len w h
    unfold lsignS
    rw [List.take_append_of_le_length (by omega), List.take_of_length_le (by omega), if_pos h]
  · have hl := one_lenC w h
    obtain ⟨c, rfl⟩ : ∃ c, w = [c] := by
      cases w with
      | nil => simp at hl
      | cons c r => cases r with
        | nil => exact ⟨c, rfl⟩
        | cons a b => simp at hl
    unfold lsignS
    have e2 : ([c] ++ 32 :: R).take 2 = [c, 32] := rfl
    have e1 : ([c] ++ 32 :: R).take 1 = [c] := rfl
    rw [e2, e1, if_neg (fun h2 => two_sp _ h2 rfl), if_pos h]
theorem let_dig {c : UInt8} (h : letB c = true) : ¬ (c = 32 ∨ c = 10 ∨ c = 9) ∧ c ≠ 47 := by
  refine ⟨?_, ?_⟩
  · rintro (rfl | rfl | rfl) <;> revert h <;> decide
  · rintro rfl; revert h; decide
theorem dig_not {c : UInt8} (h : digB c = true) : ¬ (c = 32 ∨ c = 10 ∨ c = 9) ∧ c ≠ 47 ∧ letB c = false := by
  have hd := digB_iff.1 h
  refine ⟨?_, ?_, ?_⟩
  · rintro (rfl | rfl | rfl) <;> revert h <;> decide
  · rintro rfl; revert h; decide
  · unfold letB letterB
    simp
    omega
end Go.Proofs.YtmdpifedcaaobaaDoor
