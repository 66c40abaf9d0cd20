/- Package text, plainly: what is written comes back; what is taken ends with the first quote that is not escaped. -/
import Derived.Test.YtffgdcmiacooaaaTx9
set_option linter.unusedVariables false
set_option linter.unusedSimpArgs false
set_option maxRecDepth 20000
namespace Go.Proofs.Ytffgdcmiacooaaa
open Go Ax
theorem hexD_worth : ∀ n : Fin 16, worthO ((hexD n.val).toNat : Int) = some (n.val : Int) := by decide
theorem worth_hexD {n : Nat} (h : n < 16) : worthO ((hexD n).toNat : Int) = some (n : Int) := hexD_worth ⟨n, h⟩
theorem plain34 : plainB ((34 : UInt8).toNat : Int) = false := by decide
theorem plain92 : plainB ((92 : UInt8).toNat : Int) = false := by decide
theorem tk_pl {L acc : List UInt8} {k f : Nat} {c : UInt8} (hc : L[k]? = some c) (hp : plainB (c.toNat : Int) = true) : tkF (f + 1) L k acc = tkF f L (k + 1) (acc ++ [c]) := by
  have h34 : c ≠ 34 := by rintro rfl; rw [plain34] at hp; cases hp
  simp only [tkF, hc, if_neg h34, hp, if_true]
theorem tk_end {L acc : List UInt8} {k f : Nat} (hc : L[k]? = some 34) : tkF (f + 1) L k acc = (acc, k + 1, 0) := by simp only [tkF, hc, if_true]
theorem esc_ok {L : List UInt8} {k : Nat} {c : UInt8} (hc : L[k]? = some c) (h : c = 34 ∨ c = 92) : escS L k = (true, k + 1, [c]) := by
  have hx : c ≠ 120 := by rcases h with rfl | rfl <;> decide
  simp only [escS, hc, if_neg hx, if_pos h]
theorem esc_hex {L : List UInt8} {k : Nat} {a b : UInt8} {p q : Int} (hc : L[k]? = some 120) (ha : L[k + 1]? = some a) (hb : L[k + 2]? = some b) (hp : worthO (a.toNat : Int) = some p) (hq : worthO (b.toNat : Int) = some q) :
    escS L k = (true, k + 3, [UInt8.ofNat (p * 16 + q).toNat]) := by
  have h1 : hexAt L (k + 1) = some p := by simp [hexAt, ha, hp]
  have h2 : hexAt L (k + 1 + 1) = some q := by simp [hexAt, hb, hq]
  simp only [escS, hc, if_true, pairS, h1, h2]
theorem drop_at {M R : List UInt8} {k : Nat} (h : M.drop k = R) (j : Nat) : M[k + j]? = R[j]? := by rw [← h, List.getElem?_drop]
theorem drop_add {M R : List UInt8} {k : Nat} {A : List UInt8} (h : M.drop k = A ++ R) : M.drop (k + A.length) = R := by
  rw [← List.drop_drop, h, List.drop_left]
theorem take_quote (T : List UInt8) : ∀ (L M acc : List UInt8) (k f : Nat), M.drop k = L.flatMap quote1 ++ ([34] ++ T) → L.length < f → tkF f M k acc = (acc ++ L, k + (L.flatMap quote1).length + 1, 0) := by
  intro L
  induction L with
  | nil =>
    intro M acc k f h hf
    obtain ⟨f, rfl⟩ : ∃ m, f = m + 1 := ⟨f - 1, by simp at hf; omega⟩
    rw [tk_end (by have := drop_at h 0; simpa using this)]
    simp
  | cons c L ih =>
    intro M acc k f h hf
    obtain ⟨f, rfl⟩ : ∃ m, f = m + 1 := ⟨f - 1, by simp at hf; omega⟩
    have hf' : L.length < f := by simp at hf; omega
    rw [List.flatMap_cons, List.append_assoc] at h
    have hn := drop_add h
    rw [List.flatMap_cons]
    cases hp : plainB (c.toNat : Int) with
    | true =>
      have hq1 : quote1 c = [c] := by simp only [quote1, hp, if_true]
      rw [hq1] at h hn ⊢
      have h0 : M[k]? = some c := by have := drop_at h 0; simpa using this
      rw [tk_pl h0 hp, ih M (acc ++ [c]) (k + 1) f hn hf']
      simp; omega
    | false =>
      by_cases hq : c = 34 ∨ c = 92
      · have hq1 : quote1 c = [92, c] := by simp only [quote1, hp, Bool.false_eq_true, if_false, if_pos hq]
        rw [hq1] at h hn ⊢
        have h0 : M[k]? = some 92 := by have := drop_at h 0; simpa using this
        have h1 : M[k + 1]? = some c := by have := drop_at h 1; simpa using this
        have he := esc_ok h1 hq
        rw [tk_yes h0 (by decide) plain92 rfl (by rw [he]), he]
        show tkF f M (k + 2) (acc ++ [c]) = _
        rw [ih M (acc ++ [c]) (k + 2) f hn hf']
        simp; omega
      · have hq1 : quote1 c = [92, 120, hexD (c.toNat / 16), hexD (c.toNat % 16)] := by simp only [quote1, hp, Bool.false_eq_true, if_false, if_neg hq]
        rw [hq1] at h hn ⊢
        have hcb := c.toNat_lt
        have h0 : M[k]? = some 92 := by have := drop_at h 0; simpa using this
        have h1 : M[k + 1]? = some 120 := by have := drop_at h 1; simpa using this
        have h2 : M[k + 1 + 1]? = some (hexD (c.toNat / 16)) := by have := drop_at h 2; simpa using this
        have h3 : M[k + 1 + 2]? = some (hexD (c.toNat % 16)) := by have := drop_at h 3; simpa using this
        have he := esc_hex h1 h2 h3 (worth_hexD (by omega)) (worth_hexD (by omega))
        have hc : UInt8.ofNat (((c.toNat / 16 : Nat) : Int) * 16 + ((c.toNat % 16 : Nat) : Int)).toNat = c := by
          have : (((c.toNat / 16 : Nat) : Int) * 16 + ((c.toNat % 16 : Nat) : Int)).toNat = c.toNat := by omega
          rw [this]; simp
        rw [hc] at he
        rw [tk_yes h0 (by decide) plain92 rfl (by rw [he]), he]
        show tkF f M (k + 4) (acc ++ [c]) = _
        rw [ih M (acc ++ [c]) (k + 4) f hn hf']
        simp; omega
theorem flat_ge (L : List UInt8) : L.length ≤ (L.flatMap quote1).length := by
  induction L with
  | nil => simp
  | cons c L ih =>
    have : 1 ≤ (quote1 c).length := by unfold quote1; split; simp; split <;> simp
    simp only [List.flatMap_cons, List.length_append, List.length_cons]; omega
theorem back (L T : List UInt8) : takeS (quoteS L ++ T) = (L, (quoteS L).length, 0) := by
  have h0 : (quoteS L ++ T)[0]? = some 34 := rfl
  simp only [takeS, h0, if_true]
  rw [take_quote T L _ [] 1 _ (by simp [quoteS]) (by have := flat_ge L; simp only [quoteS, List.length_append, List.length_cons, List.length_nil]; omega)]
  simp [quoteS]; omega
theorem quote_inj {L M : List UInt8} (h : quoteS L = quoteS M) : L = M := by
  have h1 := back L []
  have h2 := back M []
  rw [h, h2] at h1
  exact (congrArg Prod.fst h1).symm
/-- What is written has bytes from 32 to 126 alone. -/
theorem hexD_in : ∀ n : Fin 16, 32 ≤ (hexD n.val).toNat ∧ (hexD n.val).toNat ≤ 126 := by decide
theorem quote_in {L : List UInt8} {c : UInt8} (h : c ∈ quoteS L) : 32 ≤ c.toNat ∧ c.toNat ≤ 126 := by
  simp only [quoteS, List.mem_cons, List.mem_append, List.mem_flatMap, List.not_mem_nil, or_false] at h
  rcases h with rfl | ⟨d, hd, h⟩ | rfl
  · decide
  · unfold quote1 at h
    split at h
    · rename_i hp
      simp only [List.mem_singleton] at h
      subst h
      unfold plainB at hp
      simp only [Bool.and_eq_true, decide_eq_true_eq] at hp
      omega
    · have hdl := d.toNat_lt
      split at h
      · rename_i hq
        simp only [List.mem_cons, List.not_mem_nil, or_false] at h
        rcases h with rfl | rfl
        · decide
        · rcases hq with rfl | rfl <;> decide
      · simp only [List.mem_cons, List.not_mem_nil, or_false] at h
        rcases h with rfl | rfl | rfl | rfl
        · decide
        · decide
        · exact hexD_in ⟨d.toNat / 16, by omega⟩
        · exact hexD_in ⟨d.toNat % 16, by omega⟩
  · decide
/-! What is taken, taken again. -/
theorem take_at {L : List UInt8} {m i : Nat} (h : i < m) : (L.take m)[i]? = L[i]? := by rw [List.getElem?_take, if_pos h]
theorem take_no {L : List UInt8} {m : Nat} : (L.take m)[m]? = none := by rw [List.getElem?_take, if_neg (by omega)]
theorem pair_take {L : List UInt8} {k m : Nat} (h : (pairS L k).1 = true) (hm : (pairS L k).2.1 ≤ m) : pairS (L.take m) k = pairS L k := by
  have e := (pairS_pos L k).2.2 h
  have h1 : hexAt (L.take m) k = hexAt L k := by unfold hexAt; rw [take_at (by omega)]
  have h2 : hexAt (L.take m) (k + 1) = hexAt L (k + 1) := by unfold hexAt; rw [take_at (by omega)]
  simp only [pairS, h1, h2]
theorem esc_take {L : List UInt8} {k m : Nat} (h : (escS L k).1 = true) (hm : (escS L k).2.1 ≤ m) : escS (L.take m) k = escS L k := by
  have e := (escS_pos L k).2.2 h
  have h1 : (L.take m)[k]? = L[k]? := take_at (by omega)
  unfold escS at h hm ⊢
  rw [h1]
  cases hc : L[k]? with
  | none => rfl
  | some c =>
    simp only [hc] at h hm ⊢
    by_cases hx : c = 120
    · simp only [if_pos hx] at h hm ⊢
      exact pair_take h hm
    · simp only [if_neg hx]
theorem tk_cases {L acc : List UInt8} {k f : Nat} {x : List UInt8} {n : Nat} {e : Int} (h : tkF (f + 1) L k acc = (x, n, e)) :
    (L[k]? = some 34 ∧ x = acc ∧ n = k + 1 ∧ e = 0) ∨ (∃ c, L[k]? = some c ∧ c ≠ 34 ∧ plainB (c.toNat : Int) = true ∧ tkF f L (k + 1) (acc ++ [c]) = (x, n, e)) ∨
    (L[k]? = some 92 ∧ (escS L (k + 1)).1 = true ∧ tkF f L (escS L (k + 1)).2.1 (acc ++ (escS L (k + 1)).2.2) = (x, n, e)) ∨
    (x = [] ∧ e = 11 ∧ (n = k ∨ L[k]? = some 92 ∧ (escS L (k + 1)).1 = false ∧ n = (escS L (k + 1)).2.1)) := by
  cases hc : L[k]? with
  | none => simp only [tkF, hc, Prod.mk.injEq] at h; obtain ⟨rfl, rfl, rfl⟩ := h; exact .inr (.inr (.inr ⟨rfl, rfl, .inl rfl⟩))
  | some c =>
    by_cases h34 : c = 34
    · subst h34
      rw [tk_end hc] at h
      simp only [Prod.mk.injEq] at h
      obtain ⟨rfl, rfl, rfl⟩ := h
      exact .inl ⟨rfl, rfl, rfl, rfl⟩
    cases hp : plainB (c.toNat : Int) with
    | true => rw [tk_pl hc hp] at h; exact .inr (.inl ⟨c, rfl, h34, hp, h⟩)
    | false =>
      by_cases h92 : c = 92
      · cases he : (escS L (k + 1)).1 with
        | true => rw [tk_yes hc h34 hp h92 he] at h; subst h92; exact .inr (.inr (.inl ⟨rfl, rfl, h⟩))
        | false =>
          rw [tk_no hc h34 hp h92 he] at h
          simp only [Prod.mk.injEq] at h
          obtain ⟨rfl, rfl, rfl⟩ := h
          subst h92
          exact .inr (.inr (.inr ⟨rfl, rfl, .inr ⟨rfl, rfl, rfl⟩⟩))
      · simp only [tkF, hc, if_neg h34, hp, Bool.false_eq_true, if_false, ne_eq, h92, not_false_eq_true, if_true, Prod.mk.injEq] at h
        obtain ⟨rfl, rfl, rfl⟩ := h
        exact .inr (.inr (.inr ⟨rfl, rfl, .inl rfl⟩))
theorem pair_bad {L : List UInt8} {k : Nat} (h : (pairS L k).1 = false) (hk : k ≤ L.length) : (pairS L k).2.1 ≤ L.length := by
  unfold pairS at h ⊢
  cases hp : hexAt L k with
  | none => simpa [hp] using hk
  | some p =>
    have hp' := hp
    unfold hexAt at hp'
    obtain ⟨y, hy, _⟩ := Option.bind_eq_some_iff.1 hp'
    have hlt := (List.getElem?_eq_some_iff.1 hy).1
    cases hq : hexAt L (k + 1) with
    | none => simp only [hp, hq]; omega
    | some q => simp [hp, hq] at h
theorem esc_bad {L : List UInt8} {k : Nat} (h : (escS L k).1 = false) (hk : k ≤ L.length) : (escS L k).2.1 ≤ L.length := by
  unfold escS at h ⊢
  cases hc : L[k]? with
  | none => simpa [hc] using hk
  | some c =>
    have hlt := (List.getElem?_eq_some_iff.1 hc).1
    simp only [hc] at h ⊢
    by_cases hx : c = 120
    · rw [if_pos hx] at h ⊢; exact pair_bad h hlt
    · rw [if_neg hx] at h ⊢
      split at h
      · simp at h
      · rename_i hq; rw [if_neg hq]; exact hk
theorem tk_bad : ∀ (f : Nat) (L acc : List UInt8) (k : Nat) (x : List UInt8) (n : Nat) (e : Int), tkF f L k acc = (x, n, e) → k ≤ L.length → e ≠ 0 → x = [] ∧ n ≤ L.length ∧ e = 11 := by
  intro f
  induction f with
  | zero => intro L acc k x n e h hk he; simp only [tkF, Prod.mk.injEq] at h; obtain ⟨rfl, rfl, rfl⟩ := h; exact ⟨rfl, hk, rfl⟩
  | succ f ih =>
    intro L acc k x n e h hk he
    rcases tk_cases h with ⟨_, _, _, h0⟩ | ⟨c, hc, _, _, h0⟩ | ⟨_, h1, h0⟩ | ⟨rfl, rfl, h0⟩
    · exact absurd h0 he
    · exact ih L _ (k + 1) x n e h0 ((List.getElem?_eq_some_iff.1 hc).1) he
    · exact ih L _ _ x n e h0 (escS_len h1) he
    · rcases h0 with rfl | ⟨hc, h1, rfl⟩
      · exact ⟨rfl, hk, rfl⟩
      · exact ⟨rfl, esc_bad h1 ((List.getElem?_eq_some_iff.1 hc).1), rfl⟩
theorem tk_good : ∀ (f : Nat) (L acc : List UInt8) (k : Nat) (x : List UInt8) (n : Nat), tkF f L k acc = (x, n, 0) →
    k < n ∧ n ≤ L.length ∧ (∀ g, n < g + k → tkF g (L.take n) k acc = (x, n, 0)) ∧ ∀ g, n ≤ g + k → tkF g (L.take (n - 1)) k acc = ([], n - 1, 11) := by
  intro f
  induction f with
  | zero => intro L acc k x n h; simp [tkF] at h
  | succ f ih =>
    intro L acc k x n h
    rcases tk_cases h with ⟨hc, rfl, rfl, _⟩ | ⟨c, hc, h34, hp, h0⟩ | ⟨hc, h1, h0⟩ | ⟨_, h1, _⟩
    · have hlt := (List.getElem?_eq_some_iff.1 hc).1
      refine ⟨by omega, hlt, fun g hg => ?_, fun g hg => ?_⟩
      · obtain ⟨g, rfl⟩ : ∃ m, g = m + 1 := ⟨g - 1, by omega⟩
        exact tk_end (by rw [take_at (by omega)]; exact hc)
      · obtain ⟨g, rfl⟩ : ∃ m, g = m + 1 := ⟨g - 1, by omega⟩
        have : (L.take (k + 1 - 1))[k]? = none := take_no
        simp only [tkF, this]
        rfl
    · obtain ⟨i1, i2, i3, i4⟩ := ih L _ _ x n h0
      refine ⟨by omega, i2, fun g hg => ?_, fun g hg => ?_⟩
      · obtain ⟨g, rfl⟩ : ∃ m, g = m + 1 := ⟨g - 1, by omega⟩
        rw [tk_pl (by rw [take_at (by omega)]; exact hc) hp]
        exact i3 g (by omega)
      · obtain ⟨g, rfl⟩ : ∃ m, g = m + 1 := ⟨g - 1, by omega⟩
        rw [tk_pl (by rw [take_at (by omega)]; exact hc) hp]
        exact i4 g (by omega)
    · obtain ⟨i1, i2, i3, i4⟩ := ih L _ _ x n h0
      have hpos := (escS_pos L (k + 1)).2.2 h1
      refine ⟨by omega, i2, fun g hg => ?_, fun g hg => ?_⟩
      · obtain ⟨g, rfl⟩ : ∃ m, g = m + 1 := ⟨g - 1, by omega⟩
        have he : escS (L.take n) (k + 1) = escS L (k + 1) := esc_take h1 (by omega)
        rw [tk_yes (c := 92) (by rw [take_at (by omega)]; exact hc) (by decide) plain92 rfl (by rw [he]; exact h1), he]
        exact i3 g (by omega)
      · obtain ⟨g, rfl⟩ : ∃ m, g = m + 1 := ⟨g - 1, by omega⟩
        have he : escS (L.take (n - 1)) (k + 1) = escS L (k + 1) := esc_take h1 (by omega)
        rw [tk_yes (c := 92) (by rw [take_at (by omega)]; exact hc) (by decide) plain92 rfl (by rw [he]; exact h1), he]
        exact i4 g (by omega)
    · exact absurd h1 (by decide)
theorem take_bad {L x : List UInt8} {n : Nat} {e : Int} (h : takeS L = (x, n, e)) (he : e ≠ 0) : x = [] ∧ n ≤ L.length ∧ e = 11 := by
  unfold takeS at h
  cases hc : L[0]? with
  | none => simp only [hc, Prod.mk.injEq] at h; obtain ⟨rfl, rfl, rfl⟩ := h; exact ⟨rfl, Nat.zero_le _, rfl⟩
  | some c =>
    have hlt := (List.getElem?_eq_some_iff.1 hc).1
    simp only [hc] at h
    split at h
    · exact tk_bad _ L [] 1 x n e h hlt he
    · simp only [Prod.mk.injEq] at h; obtain ⟨rfl, rfl, rfl⟩ := h; exact ⟨rfl, Nat.zero_le _, rfl⟩
theorem take_good {L x : List UInt8} {n : Nat} (h : takeS L = (x, n, 0)) : 2 ≤ n ∧ n ≤ L.length ∧ takeS (L.take n) = (x, n, 0) ∧ takeS (L.take (n - 1)) = ([], n - 1, 11) := by
  unfold takeS at h
  cases hc : L[0]? with
  | none => simp [hc] at h
  | some c =>
    simp only [hc] at h
    split at h
    · rename_i h34
      subst h34
      obtain ⟨i1, i2, i3, i4⟩ := tk_good _ L [] 1 x n h
      have a1 : (L.take n)[0]? = some 34 := by rw [take_at (by omega)]; exact hc
      have a2 : (L.take (n - 1))[0]? = some 34 := by rw [take_at (by omega)]; exact hc
      refine ⟨by omega, i2, ?_, ?_⟩
      · simp only [takeS, a1, if_true]
        exact i3 _ (by simp; omega)
      · simp only [takeS, a2, if_true]
        exact i4 _ (by simp; omega)
    · simp at h
end Go.Proofs.Ytffgdcmiacooaaa
