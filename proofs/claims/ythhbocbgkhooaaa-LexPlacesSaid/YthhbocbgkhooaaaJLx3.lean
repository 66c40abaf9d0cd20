/- Package lex in plain data: where tokens stand; a note behind a text. -/
import Derived.Test.YthhbocbgkhooaaaJLx2
set_option linter.unusedVariables false
set_option linter.unusedSimpArgs false
set_option maxRecDepth 20000
set_option maxHeartbeats 4000000
namespace Go.Proofs.Ythhbocbgkhooaaa
open Go Ax
theorem decF_len : ∀ (f n : Nat) (acc : Bs), (decF f n acc).length ≤ f + acc.length
  | 0, n, acc => by simp [decF]
  | f + 1, n, acc => by
    rw [decF_step]
    split
    · simp; omega
    · have := decF_len f (n / 10) (digN n :: acc)
      simp at this
      omega
theorem sign_in (r : Bs) (h : signS r ≠ []) : signS r ∈ signsL := by
  unfold signS at h ⊢
  unfold signsL
  rw [List.mem_append]
  split
  · rename_i h1; exact .inl h1
  · split
    · rename_i h1; exact .inr h1
    · rename_i h1 h2
      rw [if_neg h1, if_neg h2] at h
      exact absurd rfl h
theorem right1 (w : Bs) (p : Int) : rightB (1, bstr w, 0, p) = (nameS w && !(keyS w)) := rfl
theorem right2 (w : Bs) (p : Int) : rightB (2, bstr w, 0, p) = keyS w := rfl
theorem right3 (w : Bs) (n p : Int) : rightB (3, bstr w, n, p) = (decide (0 ≤ n) && (decide (n ≤ mostN) && decide (w = decL n.toNat))) := rfl
theorem right4 (w : Bs) (p : Int) : rightB (4, bstr w, 0, p) = decide (w.length ≤ 256) := rfl
theorem right5 (w : Bs) (p : Int) : rightB (5, bstr w, 0, p) = decide (w ∈ signsL) := rfl
/-- What is read may be. -/
theorem one_right {r : Bs} {k : Int} {t : Bs} {n : Int} {w : Nat} (h : oneL r = .tok k t n w) (p : Int) : rightB (k, bstr t, n, p) = true ∧ k ≠ 6 ∧ t.length ≤ r.length + 256 := by
  have fin : ∀ {k' : Int} {t' : Bs} {n' : Int} {w' : Nat}, OneR.tok k' t' n' w' = .tok k t n w → rightB (k', bstr t', n', p) = true ∧ k' ≠ 6 ∧ t'.length ≤ r.length + 256 → rightB (k, bstr t, n, p) = true ∧ k ≠ 6 ∧ t.length ≤ r.length + 256 := fun h g => by
    simp only [OneR.tok.injEq] at h
    obtain ⟨rfl, rfl, rfl, _⟩ := h
    exact g
  cases r with
  | nil => simp [oneL] at h
  | cons c q =>
    by_cases hl : letB c = true
    · rw [one_word rfl hl] at h
      have htl := tw_len wordB (c :: q)
      by_cases hK : wordK ((c :: q).takeWhile wordB) = 0
      · rw [if_pos hK] at h; simp at h
      · rw [if_neg hK] at h
        refine fin h ?_
        unfold wordK at hK ⊢
        by_cases hk : keyS ((c :: q).takeWhile wordB) = true
        · rw [if_pos hk]
          exact ⟨by rw [right2]; exact hk, by decide, by omega⟩
        · rw [if_neg hk] at hK ⊢
          by_cases hnm : nameS ((c :: q).takeWhile wordB) = true
          · rw [if_pos hnm]
            exact ⟨by rw [right1, hnm, Bool.eq_false_iff.2 hk]; rfl, by decide, by omega⟩
          · rw [if_neg hnm] at hK; exact absurd rfl hK
    · by_cases hd : digB c = true
      · rw [one_num rfl hl hd] at h
        have hrg := readS_range ((c :: q).takeWhile digB)
        split at h
        · refine fin h ⟨?_, by decide, ?_⟩
          · rw [right3, decide_eq_true hrg.1, decide_eq_true hrg.2, decide_eq_true rfl]; rfl
          · have := decF_len 20 (readS ((c :: q).takeWhile digB)).1.toNat []
            unfold decL
            simp at this
            omega
        · simp at h
      · by_cases h34 : c = 34
        · rw [one_str rfl hl hd h34] at h
          split at h
          · split at h
            · simp at h
            · rename_i hlen
              exact fin h ⟨by rw [right4]; exact decide_eq_true (by omega), by decide, by omega⟩
          · simp at h
        · rw [one_sign rfl hl hd h34] at h
          split at h
          · simp at h
          · rename_i hs
            have h2 := (sign_len (c :: q)).2.1
            exact fin h ⟨by rw [right5]; exact decide_eq_true (sign_in _ hs), by decide, by omega⟩
theorem toksB_good : ∀ (f len : Nat) (r : Bs) (out l : List TokX) (a : Int), r.length ≤ len → r.length ≤ f → toksB f len r out = (l, a, 0) →
    ∃ A, l = out ++ A ++ [(6, bstr [], 0, (len : Int))] ∧ (∀ t ∈ A, rightB t = true ∧ t.1 ≠ 6 ∧ ((len - r.length : Nat) : Int) ≤ t.2.2.2 ∧ t.2.2.2 < (len : Int) ∧ t.2.1.size ≤ len + 256) ∧ A.Pairwise (fun x y => x.2.2.2 < y.2.2.2) := by
  intro f
  induction f with
  | zero =>
    intro len r out l a hl hf h
    cases r with
    | nil =>
      have h : (out ++ [((6 : Int), bstr [], (0 : Int), (len : Int))], (0 : Int), (0 : Int)) = (l, a, 0) := h
      simp only [Prod.mk.injEq] at h
      exact ⟨[], by rw [← h.1, List.append_nil], by simp, .nil⟩
    | cons c q => simp at hf
  | succ f ih =>
    intro len r out l a hl hf h
    cases hr : r with
    | nil =>
      subst hr
      have h : (out ++ [((6 : Int), bstr [], (0 : Int), (len : Int))], (0 : Int), (0 : Int)) = (l, a, 0) := h
      simp only [Prod.mk.injEq] at h
      exact ⟨[], by rw [← h.1, List.append_nil], by simp, .nil⟩
    | cons c q =>
      have hne : r ≠ [] := by rw [hr]; simp
      rw [← hr]
      cases ho : oneL r with
      | err off e =>
        rw [toksB_err ho hne] at h
        simp only [Prod.mk.injEq] at h
        exact absurd h.2.2 (one_err ho)
      | tok k t n w =>
        have hw := one_len ho
        by_cases h6 : out.length = 600
        · rw [toksB_full ho h6] at h
          simp at h
        · obtain ⟨f', e, hf', he⟩ := toksB_tok (len := len) ho hf h6
          obtain rfl : f' = f := by omega
          rw [he] at h
          have hsl := skip_len false (r.drop w)
          have hdl : (r.drop w).length = r.length - w := List.length_drop
          obtain ⟨A, a1, a2, a3⟩ := ih len _ _ _ _ (by omega) (by omega) h
          obtain ⟨r1, r2, r3⟩ := one_right ho ((len - r.length : Nat) : Int)
          refine ⟨(k, bstr t, n, ((len - r.length : Nat) : Int)) :: A, by rw [a1]; simp, fun u hu => ?_, List.pairwise_cons.2 ⟨fun u hu => ?_, a3⟩⟩
          · rcases List.mem_cons.1 hu with rfl | hu
            · exact ⟨r1, r2, Int.le_refl _, by dsimp only; omega, by rw [bstr_size]; omega⟩
            · obtain ⟨b1, b2, b3, b4, b5⟩ := a2 u hu
              exact ⟨b1, b2, by omega, b4, b5⟩
          · obtain ⟨b1, b2, b3, b4, b5⟩ := a2 u hu
            dsimp only
            omega
theorem toks_none : ∀ (f len : Nat) (r : Bs) (out : List TokX), (toksF f len r out).2.2 ≠ 0 → (toksF f len r out).1 = []
  | 0, _, _, _, h => rfl
  | f + 1, len, r, out, h => by
    unfold toksF at h ⊢
    split
    · rename_i e; rw [e] at h; exact absurd rfl h
    · rename_i c q e
      rw [e] at h
      dsimp only at h
      split
      · rfl
      · rename_i k t n w e2
        rw [e2] at h
        dsimp only at h
        split
        · rfl
        · rename_i h6
          rw [if_neg h6] at h
          exact toks_none f len _ _ h
theorem toks_none' {L : Bs} (h : (toks L).2.2 ≠ 0) : (toks L).1 = [] := by
  unfold toks at h ⊢
  split
  · rfl
  · rename_i h2
    rw [if_neg h2] at h
    exact toks_none _ _ _ _ h
/-! A note behind a text. -/
def sfx : Bs := [32, 47, 47, 32, 34, 120]
theorem skip_app : ∀ (b : Bool) (r : Bs), skipL b (r ++ sfx) = if skipL b r = [] then [] else skipL b r ++ sfx
  | true, [] => rfl
  | false, [] => rfl
  | true, c :: r => by
    show (if c = 10 then skipL false (r ++ sfx) else skipL true (r ++ sfx)) = if (if c = 10 then skipL false r else skipL true r) = [] then [] else (if c = 10 then skipL false r else skipL true r) ++ sfx
    by_cases hc : c = 10
    · rw [if_pos hc, if_pos hc]; exact skip_app false r
    · rw [if_neg hc, if_neg hc]; exact skip_app true r
  | false, c :: r => by
    have hh : (r ++ sfx).head? = some 47 ↔ r.head? = some 47 := by
      cases r with
      | nil => constructor <;> intro h <;> revert h <;> decide
      | cons d r => rfl
    show (if c = 47 ∧ (r ++ sfx).head? = some 47 then skipL true (r ++ sfx) else if c = 32 ∨ c = 10 ∨ c = 9 then skipL false (r ++ sfx) else c :: (r ++ sfx)) = _
    have e : skipL false (c :: r) = if c = 47 ∧ r.head? = some 47 then skipL true r else if c = 32 ∨ c = 10 ∨ c = 9 then skipL false r else c :: r := rfl
    rw [e]
    by_cases h1 : c = 47 ∧ r.head? = some 47
    · rw [if_pos ⟨h1.1, hh.2 h1.2⟩, if_pos h1]; exact skip_app true r
    · rw [if_neg (fun h => h1 ⟨h.1, hh.1 h.2⟩), if_neg h1]
      by_cases h2 : c = 32 ∨ c = 10 ∨ c = 9
      · rw [if_pos h2, if_pos h2]; exact skip_app false r
      · rw [if_neg h2, if_neg h2, if_neg (by simp)]; rfl
theorem tw_app {p : UInt8 → Bool} (h : p 32 = false) : ∀ r : Bs, (r ++ sfx).takeWhile p = r.takeWhile p
  | [] => by unfold sfx; rw [List.nil_append, List.takeWhile_cons_of_neg (by simp [h])]; rfl
  | c :: r => by
    cases hp : p c with
    | true => rw [List.cons_append, List.takeWhile_cons_of_pos hp, List.takeWhile_cons_of_pos hp, tw_app h r]
    | false => rw [List.cons_append, List.takeWhile_cons_of_neg (by simp [hp]), List.takeWhile_cons_of_neg (by simp [hp])]
theorem at_app {L T : Bs} {k : Nat} {c : UInt8} (h : L[k]? = some c) : (L ++ T)[k]? = some c := by rw [List.getElem?_append_left (lt_of_get h)]; exact h
theorem hex_app {L T : Bs} {k : Nat} {p : Int} (h : hexAt L k = some p) : hexAt (L ++ T) k = some p := by
  unfold hexAt at h ⊢
  cases hc : L[k]? with
  | none => rw [hc] at h; simp at h
  | some c => rw [at_app hc]; rw [hc] at h; exact h
theorem pair_app {L T : Bs} {k : Nat} (h : (pairS L k).1 = true) : pairS (L ++ T) k = pairS L k := by
  unfold pairS at h ⊢
  cases h1 : hexAt L k with
  | none => rw [h1] at h; simp at h
  | some p =>
    rw [h1] at h
    dsimp only at h
    cases h2 : hexAt L (k + 1) with
    | none => rw [h2] at h; simp at h
    | some q => rw [hex_app h1, hex_app h2]
theorem esc_app {L T : Bs} {k : Nat} (h : (escS L k).1 = true) : escS (L ++ T) k = escS L k := by
  unfold escS at h ⊢
  cases hc : L[k]? with
  | none => rw [hc] at h; simp at h
  | some c =>
    rw [at_app hc]
    rw [hc] at h
    dsimp only at h ⊢
    split
    · rename_i h1; rw [if_pos h1] at h; exact pair_app h
    · rfl
theorem tk_app : ∀ (f g : Nat) (L T acc : Bs) (k : Nat) (x : Bs) (n : Nat), tkF f L k acc = (x, n, 0) → tkF (f + g) (L ++ T) k acc = (x, n, 0)
  | 0, g, L, T, acc, k, x, n, h => by simp [tkF] at h
  | f + 1, g, L, T, acc, k, x, n, h => by
    rw [show f + 1 + g = (f + g) + 1 by omega]
    unfold tkF at h ⊢
    cases hc : L[k]? with
    | none => rw [hc] at h; simp at h
    | some c =>
      rw [at_app hc]
      rw [hc] at h
      dsimp only at h ⊢
      split
      · rename_i h1; rw [if_pos h1] at h; exact h
      · rename_i h1
        rw [if_neg h1] at h
        split
        · rename_i h2; rw [if_pos h2] at h; exact tk_app f g L T _ _ x n h
        · rename_i h2
          rw [if_neg h2] at h
          split
          · rename_i h3; rw [if_pos h3] at h; simp at h
          · rename_i h3
            rw [if_neg h3] at h
            cases he : escS L (k + 1) with
            | mk b kx =>
              obtain ⟨k', xx⟩ := kx
              rw [he] at h
              cases b with
              | false => simp at h
              | true =>
                rw [esc_app (by rw [he]), he]
                exact tk_app f g L T _ _ x n h
theorem take_app {L T x : Bs} {n : Nat} (h : takeS L = (x, n, 0)) : takeS (L ++ T) = (x, n, 0) := by
  unfold takeS at h ⊢
  cases hc : L[0]? with
  | none => rw [hc] at h; simp at h
  | some c =>
    rw [at_app hc]
    rw [hc] at h
    dsimp only at h ⊢
    split
    · rename_i h1
      rw [if_pos h1] at h
      rw [List.length_append, show L.length + T.length + 1 = (L.length + 1) + T.length by omega]
      exact tk_app _ _ _ _ _ _ _ _ h
    · rename_i h1; rw [if_neg h1] at h; simp at h
theorem sign_app {r : Bs} (h : signS r ≠ []) : signS (r ++ sfx) = signS r := by
  match r with
  | [] => exact absurd rfl h
  | [c] =>
    unfold signS at h ⊢
    have e2 : ([c] ++ sfx).take 2 = [c, 32] := rfl
    have e1 : ([c] ++ sfx).take 1 = [c] := rfl
    have e3 : [c].take 2 = [c] := rfl
    have e4 : [c].take 1 = [c] := rfl
    have n2 : ¬ [c] ∈ twoL := fun h2 => by have := two_len _ h2; simp at this
    rw [e2, e1, e3, e4, if_neg (fun h2 => two_sp _ h2 rfl), if_neg n2]
  | a :: b :: r => rfl
theorem one_app {r : Bs} {k : Int} {t : Bs} {n : Int} {w : Nat} (h : oneL r = .tok k t n w) : oneL (r ++ sfx) = .tok k t n w := by
  cases r with
  | nil => simp [oneL] at h
  | cons c q =>
    by_cases hl : letB c = true
    · rw [one_word rfl hl] at h
      rw [one_word (r := (c :: q) ++ sfx) rfl hl, tw_app (by decide)]
      exact h
    · by_cases hd : digB c = true
      · rw [one_num rfl hl hd] at h
        rw [one_num (r := (c :: q) ++ sfx) rfl hl hd, tw_app (by decide)]
        exact h
      · by_cases h34 : c = 34
        · rw [one_str rfl hl hd h34] at h
          rw [one_str (r := (c :: q) ++ sfx) rfl hl hd h34]
          split at h
          · rename_i he
            have := take_app (L := c :: q) (T := sfx) (x := (takeS (c :: q)).1) (n := (takeS (c :: q)).2.1) (by rw [← he])
            rw [this]
            dsimp only
            rw [if_pos rfl]
            exact h
          · simp at h
        · rw [one_sign rfl hl hd h34] at h
          rw [one_sign (r := (c :: q) ++ sfx) rfl hl hd h34]
          split at h
          · simp at h
          · rename_i hs
            rw [sign_app hs, if_neg hs]
            exact h
def noted (r : Bs) : Bs := if r = [] then [] else r ++ sfx
theorem toksB_app : ∀ (f f' len len' : Nat) (r : Bs) (out out' l : List TokX) (a : Int), r.length ≤ f → (noted r).length ≤ f' → out.length = out'.length → toksB f len r out = (l, a, 0) →
    ∃ l' a', toksB f' len' (noted r) out' = (l', a', 0) ∧ l'.length = l.length := by
  intro f
  induction f with
  | zero =>
    intro f' len len' r out out' l a hf hf' ho h
    cases r with
    | nil =>
      have h : (out ++ [((6 : Int), bstr [], (0 : Int), (len : Int))], (0 : Int), (0 : Int)) = (l, a, 0) := h
      simp only [Prod.mk.injEq] at h
      exact ⟨out' ++ [(6, bstr [], 0, (len' : Int))], 0, rfl, by rw [← h.1]; simp [ho]⟩
    | cons c q => simp at hf
  | succ f ih =>
    intro f' len len' r out out' l a hf hf' ho h
    by_cases hr : r = []
    · subst hr
      have h : (out ++ [((6 : Int), bstr [], (0 : Int), (len : Int))], (0 : Int), (0 : Int)) = (l, a, 0) := h
      simp only [Prod.mk.injEq] at h
      exact ⟨out' ++ [(6, bstr [], 0, (len' : Int))], 0, rfl, by rw [← h.1]; simp [ho]⟩
    · have hn : noted r = r ++ sfx := if_neg hr
      rw [hn] at hf' ⊢
      cases hone : oneL r with
      | err off e =>
        rw [toksB_err hone hr] at h
        simp only [Prod.mk.injEq] at h
        exact absurd h.2.2 (one_err hone)
      | tok k t n w =>
        have hw := one_len hone
        by_cases h6 : out.length = 600
        · rw [toksB_full hone h6] at h
          simp at h
        · obtain ⟨f1, e, hf1, he⟩ := toksB_tok (len := len) hone hf h6
          obtain rfl : f1 = f := by omega
          obtain ⟨f2, rfl, hf2, he2⟩ := toksB_tok (len := len') (one_app hone) hf' (by omega : out'.length ≠ 600)
          have hd : (r ++ sfx).drop w = r.drop w ++ sfx := List.drop_append_of_le_length hw.2
          rw [hd] at hf2 he2
          have hsk : skipL false (r.drop w ++ sfx) = noted (skipL false (r.drop w)) := skip_app false _
          have hsl := skip_len false (r.drop w)
          have hsl2 := skip_len false (r.drop w ++ sfx)
          rw [hsk] at he2 hsl2
          rw [he] at h
          rw [he2]
          exact ih f2 len len' _ _ _ l a (by omega) (by omega) (by simp [ho]) h
theorem toks_app {L : Bs} (hL : L.length ≤ 1900) (h : (toks L).2.2 = 0) : (toks (L ++ sfx)).2.2 = 0 ∧ (toks (L ++ sfx)).1.length = (toks L).1.length := by
  have e1 := toks_eq (L := L) (by omega)
  have hsl : (L ++ sfx).length = L.length + 6 := by rw [List.length_append]; rfl
  have e2 := toks_eq (L := L ++ sfx) (by omega)
  rw [skip_app] at e2
  have hs := skip_len false L
  have hs2 := skip_len false (L ++ sfx)
  rw [skip_app] at hs2
  obtain ⟨l', a', h1, h2⟩ := toksB_app L.length (L ++ sfx).length L.length (L ++ sfx).length (skipL false L) [] [] (toks L).1 (toks L).2.1 hs hs2 rfl (by rw [← e1, ← h])
  have e2' : toks (L ++ sfx) = (l', a', 0) := e2.trans h1
  rw [e2']
  exact ⟨rfl, h2⟩
theorem toks_good {L : Bs} (hL : L.length ≤ 2000) (h : (toks L).2.2 = 0) :
    ∃ A, (toks L).1 = A ++ [(6, bstr [], 0, (L.length : Int))] ∧ (∀ t ∈ A, rightB t = true ∧ t.1 ≠ 6 ∧ 0 ≤ t.2.2.2 ∧ t.2.2.2 < (L.length : Int) ∧ t.2.1.size ≤ L.length + 256) ∧ A.Pairwise (fun x y => x.2.2.2 < y.2.2.2) := by
  have e1 := toks_eq (L := L) hL
  have hs := skip_len false L
  obtain ⟨A, a1, a2, a3⟩ := toksB_good L.length L.length (skipL false L) [] (toks L).1 (toks L).2.1 hs hs (by rw [← e1, ← h])
  refine ⟨A, by simpa using a1, fun t ht => ?_, a3⟩
  obtain ⟨b1, b2, b3, b4, b5⟩ := a2 t ht
  exact ⟨b1, b2, by omega, b4, b5⟩
end Go.Proofs.Ythhbocbgkhooaaa
