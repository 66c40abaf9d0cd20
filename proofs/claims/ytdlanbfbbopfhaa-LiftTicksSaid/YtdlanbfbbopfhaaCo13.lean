/- Plain law: the depths of a code's stack, told by what can be reached. -/
import Derived.Test.YtdlanbfbbopfhaaCo12
import Derived.Test.YtdlanbfbbopfhaaAx25
set_option linter.unusedVariables false
set_option linter.unusedSimpArgs false
set_option maxRecDepth 20000
set_option maxHeartbeats 4000000
namespace Go.Proofs.Ytdlanbfbbopfhaa
open Go Ax
def pops (x : Ins) : Int := (eff x.1 x.2.1).1
def pushes (x : Ins) : Int := (eff x.1 x.2.1).2
/-- The depth at target k. -/
def nd (x : Ins) (d : Int) (k : Nat) : Int := d - pops x + pushes x + (if k = 1 ∧ (x.1 = 24 ∨ x.1 = 25) then 1 else 0)
theorem built_le (a : Int) : 0 ≤ builtN a ∧ builtN a ≤ 2 := by unfold builtN; split <;> (try split) <;> omega
theorem eff_le (op a : Int) : 0 ≤ (eff op a).1 ∧ (eff op a).1 ≤ 8 ∧ 0 ≤ (eff op a).2 ∧ (eff op a).2 ≤ 2 := by
  have := built_le a
  unfold eff
  repeat' split
  all_goals simp only
  all_goals omega
theorem pops_le (x : Ins) : 0 ≤ pops x ∧ pops x ≤ 8 := ⟨(eff_le _ _).1, (eff_le _ _).2.1⟩
theorem pushes_le (x : Ins) : 0 ≤ pushes x ∧ pushes x ≤ 2 := ⟨(eff_le _ _).2.2.1, (eff_le _ _).2.2.2⟩
theorem nd_le {x : Ins} {d : Int} {k : Nat} (h : pops x ≤ d) : 0 ≤ nd x d k ∧ nd x d k ≤ d + 3 := by
  have h1 := pops_le x
  have h2 := pushes_le x
  unfold nd
  split <;> omega
/-- Targets are where they can be. -/
def Aims (c : CodeT) : Prop := c.ins.length ≤ 4000 ∧ 0 < c.ins.length ∧ 0 ≤ c.deep ∧ c.deep ≤ 64 ∧ ∀ (i : Nat) (x : Ins), c.ins[i]? = some x → gos x.1 = true → 0 ≤ x.2.1 ∧ x.2.1 < c.ins.length
theorem tgt_at {c : CodeT} {i : Nat} {x : Ins} (hx : c.ins[i]? = some x) (h : c.ins.length ≤ 4000) : tgt c.ins (i : Int) = if x.1 = 32 then [] else if x.1 = 22 then [x.2.1] else if gos x.1 then [(i : Int) + 1, x.2.1] else [(i : Int) + 1] := by
  have := lt_of_get hx
  unfold tgt
  rw [if_neg (by omega), Int.toNat_natCast, hx]
  simp only [wrap_i64 (n := (i : Int) + 1) (by omega) (by omega)]
theorem tgt_nonneg {c : CodeT} (ha : Aims c) {i : Nat} {k : Nat} {t : Int} (h : (tgt c.ins (i : Int))[k]? = some t) : 0 ≤ t ∧ t ≤ c.ins.length := by
  cases hx : c.ins[i]? with
  | none =>
    have := List.getElem?_eq_none_iff.1 hx
    unfold tgt at h
    rw [if_pos (by omega)] at h
    simp at h
  | some x =>
    have hl := lt_of_get hx
    rw [tgt_at hx ha.1] at h
    have hg := ha.2.2.2.2 i x hx
    split at h
    · simp at h
    split at h
    · rename_i h22
      have := hg (by unfold gos; simp [h22])
      match k with
      | 0 => simp at h; omega
      | k + 1 => simp at h
    split at h
    · rename_i hgo
      have := hg hgo
      match k with
      | 0 => simp at h; omega
      | 1 => simp at h; omega
      | k + 2 => simp at h
    · match k with
      | 0 => simp at h; omega
      | k + 1 => simp at h
theorem tgt_len {c : CodeT} (ha : Aims c) (i : Nat) : (tgt c.ins (i : Int)).length ≤ 2 := by
  unfold tgt
  repeat' split
  all_goals simp
inductive Reach (c : CodeT) : Nat → Int → Prop
  | start : Reach c 0 0
  | step {i : Nat} {d : Int} {x : Ins} {k : Nat} {t : Int} : Reach c i d → c.ins[i]? = some x → pops x ≤ d → d ≤ c.deep → (tgt c.ins (i : Int))[k]? = some t → t < c.ins.length → nd x d k ≤ c.deep → Reach c t.toNat (nd x d k)
theorem Reach.nonneg {c : CodeT} {i : Nat} {d : Int} (h : Reach c i d) : 0 ≤ d := by
  cases h with
  | start => omega
  | step h1 h2 h3 => exact (nd_le h3).1
/-- Nothing is wrong at an instruction. -/
def Fine (c : CodeT) (L : List Int) (i : Nat) : Prop := ∀ (d : Int) (x : Ins), L[i]? = some d → 0 ≤ d → c.ins[i]? = some x → pops x ≤ d ∧ d ≤ c.deep ∧
  ∀ (k : Nat) (t : Int), (tgt c.ins (i : Int))[k]? = some t → t < c.ins.length ∧ nd x d k ≤ c.deep ∧ L[t.toNat]? = some (nd x d k)
structure Inv (c : CodeT) (L : List Int) : Prop where
  len : L.length = c.ins.length
  zero : L[0]? = some 0
  val : ∀ (i : Nat) (d : Int), L[i]? = some d → d = -1 ∨ (0 ≤ d ∧ Reach c i d)
structure Closed (c : CodeT) (L : List Int) : Prop where
  inv : Inv c L
  fine : ∀ i, Fine c L i
def Bad (c : CodeT) : Prop :=
  (∃ i d x, Reach c i d ∧ c.ins[i]? = some x ∧ (d < pops x ∨ c.deep < d ∨ ∃ (k : Nat) (t : Int), (tgt c.ins (i : Int))[k]? = some t ∧ ((c.ins.length : Int) ≤ t ∨ c.deep < nd x d k))) ∨ ∃ i d d', Reach c i d ∧ Reach c i d' ∧ d ≠ d'
theorem Closed.reach {c : CodeT} {L : List Int} (h : Closed c L) {i : Nat} {d : Int} (r : Reach c i d) : L[i]? = some d := by
  induction r with
  | start => exact h.inv.zero
  | step r1 h2 h3 h4 h5 h6 h7 ih => exact (h.fine _ _ _ ih r1.nonneg h2).2.2 _ _ h5 |>.2.2
theorem Closed.good {c : CodeT} {L : List Int} (h : Closed c L) : ¬ Bad c := by
  rintro (⟨i, d, x, r, hx, hb⟩ | ⟨i, d, d', r, r', hne⟩)
  · obtain ⟨h1, h2, h3⟩ := h.fine i d x (h.reach r) r.nonneg hx
    rcases hb with hb | hb | ⟨k, t, ht, hb⟩
    · omega
    · omega
    · have := h3 k t ht
      omega
  · have h1 := h.reach r
    rw [h.reach r'] at h1
    simp only [Option.some.injEq] at h1
    exact hne h1.symm
theorem Closed.uniq {c : CodeT} {L M : List Int} (h : Closed c L) (k : Closed c M) : L = M := by
  apply List.ext_getElem?
  intro i
  by_cases hi : i < c.ins.length
  · obtain ⟨d, hd⟩ := get_lt (L := L) (m := i) (by rw [h.inv.len]; exact hi)
    obtain ⟨e, he⟩ := get_lt (L := M) (m := i) (by rw [k.inv.len]; exact hi)
    rcases h.inv.val i d hd with rfl | ⟨h1, h2⟩
    · rcases k.inv.val i e he with rfl | ⟨k1, k2⟩
      · rw [hd, he]
      · have := h.reach k2
        rw [hd] at this
        simp only [Option.some.injEq] at this
        omega
    · rw [hd, k.reach h2]
  · rw [List.getElem?_eq_none (by rw [h.inv.len]; omega), List.getElem?_eq_none (by rw [k.inv.len]; omega)]
/-- What is found: the depths, or that there are none. -/
def DS (c : CodeT) : Option (List Int) → Prop
  | none => Bad c
  | some L => Closed c L
theorem DS.uniq {c : CodeT} {r s : Option (List Int)} (h : DS c r) (k : DS c s) : r = s := by
  cases r with
  | none => cases s with
    | none => rfl
    | some M => exact absurd h (Closed.good k)
  | some L => cases s with
    | none => exact absurd k (Closed.good h)
    | some M => exact congrArg some (Closed.uniq h k)
/-- How many are not come to. -/
def cnt (L : List Int) : Nat := L.countP fun d => d == -1
theorem cnt_set {L : List Int} {j : Nat} {d : Int} (h : L[j]? = some (-1)) (hd : 0 ≤ d) : cnt (L.set j d) + 1 = cnt L := by
  unfold cnt
  induction L generalizing j with
  | nil => simp at h
  | cons a L ih =>
    cases j with
    | zero =>
      simp only [List.getElem?_cons_zero, Option.some.injEq] at h
      subst h
      simp only [List.set_cons_zero, List.countP_cons]
      have : (d == -1) = false := by rw [beq_eq_false_iff_ne]; omega
      simp [this]
    | succ j =>
      simp only [List.getElem?_cons_succ] at h
      simp only [List.set_cons_succ, List.countP_cons]
      have := ih h
      omega
theorem Inv.mark {c : CodeT} {L : List Int} (h : Inv c L) {j : Nat} {d : Int} (hj : L[j]? = some (-1)) (r : Reach c j d) : Inv c (L.set j d) := by
  have hlt := lt_of_get hj
  refine ⟨by simp [h.len], ?_, fun i e he => ?_⟩
  · rw [List.getElem?_set_ne]; exact h.zero
    intro e; subst e; rw [h.zero] at hj; simp at hj
  · by_cases hij : j = i
    · subst hij
      rw [List.getElem?_set_self hlt] at he
      simp only [Option.some.injEq] at he
      subst he
      exact .inr ⟨r.nonneg, r⟩
    · rw [List.getElem?_set_ne hij] at he
      exact h.val i e he
theorem Fine.mark {c : CodeT} {L : List Int} {i j : Nat} {d e : Int} (h : Fine c L i) (hj : L[j]? = some (-1)) (hi : L[i]? = some e) (he : 0 ≤ e) (ha : Aims c) : Fine c (L.set j d) i := by
  have hne : j ≠ i := fun h' => by subst h'; rw [hj] at hi; simp only [Option.some.injEq] at hi; omega
  intro d' x h1 h2 h3
  rw [List.getElem?_set_ne hne] at h1
  obtain ⟨k1, k2, k3⟩ := h d' x h1 h2 h3
  refine ⟨k1, k2, fun k t ht => ?_⟩
  obtain ⟨m1, m2, m3⟩ := k3 k t ht
  refine ⟨m1, m2, ?_⟩
  rw [List.getElem?_set_ne]; exact m3
  intro h'; subst h'
  rw [hj] at m3
  simp only [Option.some.injEq] at m3
  have := (nd_le (k := k) k1).1
  omega
theorem Fine.mark' {c : CodeT} {L : List Int} {i j : Nat} {d : Int} (h : Fine c L i) (hj : L[j]? = some (-1)) (hne : i ≠ j) (ha : Aims c) : Fine c (L.set j d) i := by
  cases hi : L[i]? with
  | none =>
    intro d' x h1
    rw [List.getElem?_set_ne (by omega), hi] at h1
    simp at h1
  | some e =>
    by_cases he : 0 ≤ e
    · exact h.mark hj hi he ha
    · intro d' x h1 h2
      rw [List.getElem?_set_ne (by omega), hi] at h1
      simp only [Option.some.injEq] at h1
      omega
end Go.Proofs.Ytdlanbfbbopfhaa
