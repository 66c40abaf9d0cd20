/- Package asm, plainly: what is read is printed just so; what is printed is read. -/
import Derived.Test.YtmdpifedcaaobaaDoorJTa1
set_option linter.unusedVariables false
set_option linter.unusedSimpArgs false
set_option maxRecDepth 20000
set_option maxHeartbeats 8000000
namespace Go.Proofs.YtmdpifedcaaobaaDoor
open Go Ax
/-! What is read is printed just so. -/
theorem split_join : ∀ (L : Bs) (w : Bs) (ws : List Bs), splitS L = w :: ws → L = w ++ ws.flatMap (fun x => 32 :: x)
  | [], w, ws, h => by
    simp only [splitS, List.cons.injEq] at h
    obtain ⟨rfl, rfl⟩ := h
    rfl
  | c :: r, w, ws, h => by
    unfold splitS at h
    split at h
    · rename_i hc
      subst hc
      simp only [List.cons.injEq] at h
      obtain ⟨rfl, h⟩ := h
      cases hr : splitS r with
      | nil => have := split_pos r; rw [hr] at this; simp at this
      | cons u us =>
        rw [hr] at h
        subst h
        rw [List.nil_append, List.flatMap_cons, List.cons_append, ← split_join r u us hr]
    · split at h
      · rename_i u us hr
        simp only [List.cons.injEq] at h
        obtain ⟨rfl, rfl⟩ := h
        rw [List.cons_append, ← split_join r u us hr]
      · rename_i hr
        have := split_pos r
        rw [hr] at this
        simp at this
theorem nums_text : ∀ {W : List Bs} {l : List Int}, numsS W = some l → W = l.map intL
  | [], l, h => by simp only [numsS, Option.some.injEq] at h; subst h; rfl
  | u :: W, l, h => by
    unfold numsS at h
    cases hu : numS u with
    | none => rw [hu] at h; simp at h
    | some a =>
      rw [hu] at h
      dsimp only at h
      cases hW : numsS W with
      | none => rw [hW] at h; simp at h
      | some r =>
        rw [hW] at h
        simp only [Option.some.injEq] at h
        subst h
        rw [List.map_cons, (numS_i64 hu).2.2, ← nums_text hW]
theorem numbers_text {L first : Bs} {many : Nat} {l : List Int} (h : numbersS L first many = some l) : L ++ [10] = lineL first l := by
  unfold numbersS at h
  split at h
  · rename_i hc
    cases hs : splitS L with
    | nil => rw [hs] at hc; simp at hc
    | cons w ws =>
      rw [hs] at hc h
      have e := split_join L w ws hs
      have hw : w = first := by simpa using hc.1
      rw [List.tail_cons] at h
      rw [e, hw, nums_text h]
      unfold lineL wordsL
      rw [List.flatMap_map]
  · simp at h
def textP (r : RS) : Bs := if r.stage = 0 then [] else progL r.p
/-- A reader's program ahead of its first line. -/
def R0s (r : RS) : Prop := r.stage = 0 → r.p.2 = ([], [])
theorem args_take {op : Int} {l : List Int} (h : l.length = partsN op) : [(argsI op l).2.1, (argsI op l).2.2].take (partsN op) = l := by
  have := partsN_le op
  rw [← h] at this ⊢
  match l, this with
  | [], _ => rfl
  | [a], _ => rfl
  | [a, b], _ => rfl
theorem step_text {r r' : RS} {line : Bs} (hi : RIs r) (h0 : R0s r) (h : r.step line = some r') : textP r' = textP r ++ (line ++ [10]) ∧ R0s r' := by
  obtain ⟨hs, hne⟩ := hi
  cases step_is h with
  | glob g k0 k1 =>
    have e := h0 k0
    refine ⟨?_, fun k => by simp at k⟩
    unfold textP
    rw [if_neg (by simp), if_pos k0, numbers_text k1]
    unfold progL
    rw [show r.p.2.1 = [] by rw [e], show r.p.2.2 = [] by rw [e]]
    simp
  | pool k0 k1 k2 k3 k4 =>
    refine ⟨?_, fun k => by simp at k⟩
    have hcs : r.p.2.2 = [] := Classical.byContradiction fun hc => by have := hne.2 hc; omega
    have hl : line = poolW ++ line.drop 5 := by
      rw [pre_take] at k1
      conv => lhs; rw [← List.take_append_drop 5 line]
      rw [show line.take 5 = poolW from k1.2]
    unfold textP
    rw [if_neg (by simp), if_neg (by omega)]
    unfold progL
    rw [hcs]
    have e : poolL (bstr (takeS (line.drop 5)).1) = line ++ [10] := by
      unfold poolL lineL
      rw [bstr_list, k4, ← hl]
      simp [wordsL]
    simp [List.flatMap_append, e]
  | code a b c d k0 k1 =>
    refine ⟨?_, fun k => by simp at k⟩
    unfold textP
    rw [if_neg (by simp), if_neg k0, numbers_text k1]
    unfold progL
    simp [List.flatMap_append, codeL, headL, CodeT.ins]
  | ins op l k0 k1 k2 k3 k4 =>
    refine ⟨?_, fun k => by simp at k⟩
    have hcs := hne.1 (by omega)
    have hn := numbers_len k4
    unfold textP
    rw [if_neg (by simp), if_neg k0, numbers_text k4]
    have e : insL (argsI op l) = lineL (nameL op) l := by
      unfold insL
      have := args_take hn
      rw [show (argsI op l).1 = op from rfl, this]
    rcases List.eq_nil_or_concat r.p.2.2 with h | ⟨init, c, h⟩
    · exact absurd h hcs
    rw [List.concat_eq_append] at h
    unfold progL
    dsimp only
    rw [h, addIns_last]
    simp [List.flatMap_append, codeL, headL, CodeT.ins, e]
theorem readP_text : ∀ (f : Nat) (r : RS) (n : Int) (s : Bs), s.length < f → RIs r → R0s r →
    ((readP f r n s).2.2 = 0 ∧ (readP f r n s).2.1 = 0 ∧ progL (readP f r n s).1 = textP r ++ s ∧ CheckP (readP f r n s).1) ∨ ((readP f r n s).2.2 ≠ 0 ∧ (readP f r n s).1 = (0, [], [])) := by
  intro f
  induction f with
  | zero => intro r n s h; omega
  | succ f ih =>
    intro r n s hf hi h0
    unfold readP
    split
    · rename_i hs
      subst hs
      split
      · exact .inr ⟨by simp, rfl⟩
      · rename_i hcs
        have h2 := hi.2.2 hcs
        unfold endS
        split
        · rename_i hC
          refine .inl ⟨rfl, rfl, ?_, hC⟩
          unfold textP
          rw [if_neg (by omega), List.append_nil]
        · exact .inr ⟨by simp, rfl⟩
    · cases hc : cutS s with
      | none => exact .inr ⟨by simp, rfl⟩
      | some lr =>
        obtain ⟨line, rest⟩ := lr
        dsimp only
        cases hst : r.step line with
        | none => exact .inr ⟨by simp, rfl⟩
        | some r' =>
          dsimp only
          obtain ⟨e, _⟩ := cut_some hc
          have hl := congrArg List.length e
          rw [List.length_append, List.length_cons] at hl
          obtain ⟨h1, _, _⟩ := step_ri hi hst
          obtain ⟨h2, h3⟩ := step_text hi h0 hst
          have := ih r' (n + 1) rest (by omega) h1 h3
          rw [h2] at this
          rw [show textP r ++ s = textP r ++ (line ++ [10]) ++ rest by rw [e]; simp]
          exact this
theorem read_once (s : Bs) : ((readS16 s).2.2 = 0 ∧ (readS16 s).2.1 = 0 ∧ progL (readS16 s).1 = s ∧ CheckP (readS16 s).1) ∨ ((readS16 s).2.2 ≠ 0 ∧ (readS16 s).1 = (0, [], [])) :=
  readP_text _ ⟨0, (0, [], [])⟩ 0 s (by omega) ⟨(by decide : (0 : Nat) ≤ 2), by simp⟩ fun _ => rfl
/-! What is printed is read. -/
theorem num_back {n : Int} (h1 : leastI ≤ n) (h2 : n ≤ mostN) : numS (intL n) = some n := by
  by_cases hl : n = leastI
  · subst hl; exact numS_least rfl
  unfold leastI at h1 hl
  unfold mostN at h2
  by_cases h0 : 0 ≤ n
  · have e : intL n = decL n.toNat := by unfold intL; rw [if_pos h0]
    have hd := dec_read (n := n.toNat) (by unfold mostN; omega)
    have hn0 : ((n.toNat : Nat) : Int) = n := Int.toNat_of_nonneg h0
    have hne : (intL n).head? ≠ some 45 := by
      rw [e]
      intro hh
      have := decF_dig 20 n.toNat [] (by simp) 45 (List.mem_of_mem_head? (by rw [show decF 20 n.toNat [] = decL n.toNat from rfl, hh]; rfl))
      exact absurd this (by decide)
    rw [numS_pos hne, e, hd]
    dsimp only
    rw [hn0, e]
    simp
  · have e : intL n = 45 :: decL (-n).toNat := by unfold intL; rw [if_neg h0]
    have hd := dec_read (n := (-n).toNat) (by unfold mostN; omega)
    have hn0 : (((-n).toNat : Nat) : Int) = -n := Int.toNat_of_nonneg (by omega)
    have hne : 45 :: decL (-n).toNat ≠ intL leastI := by
      rw [leastL]
      intro hh
      simp only [List.cons.injEq, true_and] at hh
      have := congrArg readS hh
      rw [hd] at this
      have h9 : readS (decL 4611686018427387904) = (0, 10) := by decide +kernel
      rw [h9] at this
      simp at this
    rw [e, numS_neg hne, hd]
    dsimp only
    rw [hn0, Int.neg_neg, e]
    simp
theorem int_plain {n : Int} {c : UInt8} (h : c ∈ intL n) : c ≠ 32 ∧ c ≠ 10 := by
  have hd : ∀ k : Nat, c ∈ decL k → c ≠ 32 ∧ c ≠ 10 := fun k hk => by
    have := decF_dig 20 k [] (by simp) c hk
    constructor <;> (rintro rfl; exact absurd this (by decide))
  unfold intL at h
  split at h
  · exact hd _ h
  · rcases List.mem_cons.1 h with rfl | h
    · exact ⟨by decide, by decide⟩
    · exact hd _ h
theorem split_words : ∀ (w : Bs) (l : List Int), (32 : UInt8) ∉ w → splitS (w ++ wordsL l) = w :: l.map intL
  | w, [], h => by
    rw [show w ++ wordsL [] = w by simp [wordsL]]
    exact split_no h
  | w, n :: l, h => by
    have e : w ++ wordsL (n :: l) = w ++ 32 :: (intL n ++ wordsL l) := by simp [wordsL]
    obtain ⟨h1, h2⟩ := head_of (B := intL n ++ wordsL l) h
    rw [e, split_yes (by simp), h1, h2, split_words (intL n) l fun hc => (int_plain hc).1 rfl]
    rfl
theorem nums_back : ∀ {l : List Int}, (∀ n ∈ l, leastI ≤ n ∧ n ≤ mostN) → numsS (l.map intL) = some l
  | [], _ => rfl
  | n :: l, h => by
    rw [List.map_cons]
    unfold numsS
    rw [num_back (h n (by simp)).1 (h n (by simp)).2, nums_back fun x hx => h x (by simp [hx])]
theorem numbers_back {first : Bs} {l : List Int} (hf : (32 : UInt8) ∉ first) (h : ∀ n ∈ l, leastI ≤ n ∧ n ≤ mostN) : numbersS (first ++ wordsL l) first l.length = some l := by
  rw [numbers_ok]
  · rw [split_words first l hf, List.tail_cons]
    exact nums_back h
  · rw [split_words first l hf]
    simp
theorem words_no {first : Bs} {l : List Int} (hf : (10 : UInt8) ∉ first) : (10 : UInt8) ∉ first ++ wordsL l := by
  intro h
  rcases List.mem_append.1 h with h | h
  · exact hf h
  · unfold wordsL at h
    rw [List.mem_flatMap] at h
    obtain ⟨n, _, h⟩ := h
    rcases List.mem_cons.1 h with h | h
    · exact absurd h (by decide)
    · exact (int_plain h).2 rfl
noncomputable def RD (r : RS) (n : Int) (s : Bs) : ProgT × Int × Int := readP (s.length + 1) r n s
theorem RD_line {r r' : RS} {n : Int} {line rest : Bs} (h : 10 ∉ line) (hs : r.step line = some r') : RD r n (line ++ 10 :: rest) = RD r' (n + 1) rest := by
  unfold RD
  conv => lhs; unfold readP
  rw [if_neg (by simp), cut_of h]
  dsimp only
  rw [hs]
  dsimp only
  exact readP_fuel _ _ _ _ _ (by simp; omega) (by omega)
theorem line_eq (first : Bs) (l : List Int) (rest : Bs) : lineL first l ++ rest = (first ++ wordsL l) ++ 10 :: rest := by
  unfold lineL
  simp
theorem names_ok : ∀ i : Nat, i < 32 → (32 : UInt8) ∉ nameL ((i : Int) + 1) ∧ (10 : UInt8) ∉ nameL ((i : Int) + 1) := by decide
/-- An instruction that comes back. -/
def BackI (x : Ins) : Prop := (1 ≤ x.1 ∧ x.1 ≤ 32) ∧ leastI ≤ x.2.1 ∧ x.2.1 ≤ mostN ∧ leastI ≤ x.2.2 ∧ x.2.2 ≤ mostN ∧ (partsN x.1 = 0 → x.2.1 = 0) ∧ (partsN x.1 < 2 → x.2.2 = 0)
theorem args_back {x : Ins} (h : BackI x) : argsI x.1 ([x.2.1, x.2.2].take (partsN x.1)) = x := by
  obtain ⟨op, a, b⟩ := x
  obtain ⟨-, -, -, -, -, h1, h2⟩ := h
  dsimp only at h1 h2 ⊢
  have := partsN_le op
  rcases (by omega : partsN op = 0 ∨ partsN op = 1 ∨ partsN op = 2) with h | h | h
  · rw [h, h1 h, h2 (by omega)]; rfl
  · rw [h, h2 (by omega)]; rfl
  · rw [h]; rfl
theorem RD_ins {r : RS} {n : Int} {x : Ins} {rest : Bs} (h2 : r.stage = 2) (hx : BackI x) : RD r n (insL x ++ rest) = RD ⟨2, (r.p.1, r.p.2.1, addIns r.p.2.2 x)⟩ (n + 1) rest := by
  obtain ⟨k, hk, hk1⟩ : ∃ k : Nat, k < 32 ∧ (k : Int) + 1 = x.1 := ⟨(x.1 - 1).toNat, by have := hx.1; omega, by have := hx.1; omega⟩
  have hn := names_ok k hk
  have hl : ([x.2.1, x.2.2].take (partsN x.1)).length = partsN x.1 := by have := partsN_le x.1; simp; omega
  unfold insL
  rw [line_eq]
  refine RD_line (words_no (by rw [← hk1]; exact hn.2)) ?_
  have hb := numbers_back (first := nameL x.1) (l := [x.2.1, x.2.2].take (partsN x.1)) (by rw [← hk1]; exact hn.1) fun n hn => by
    have := List.mem_of_mem_take hn
    simp only [List.mem_cons, List.not_mem_nil, or_false] at this
    rcases this with rfl | rfl
    · exact ⟨hx.2.1, hx.2.2.1⟩
    · exact ⟨hx.2.2.2.1, hx.2.2.2.2.1⟩
  rw [hl] at hb
  have := step_op (r := r) (k := k) (l := [x.2.1, x.2.2].take (partsN x.1)) h2 hk (by rw [hk1]; exact hb)
  rw [this, hk1, args_back hx]
theorem RD_inss : ∀ (L : List Ins) {g : Int} {ps : List ByteArray} {cs : List CodeT} {c : CodeT} {n : Int} {rest : Bs}, (∀ x ∈ L, BackI x) → ∃ m, RD ⟨2, (g, ps, cs ++ [c])⟩ n (L.flatMap insL ++ rest) = RD ⟨2, (g, ps, cs ++ [(c.1, c.2.1, c.2.2.1, c.2.2.2.1, c.ins ++ L)])⟩ m rest
  | [], g, ps, cs, c, n, rest, h => ⟨n, by simp [CodeT.ins]⟩
  | x :: L, g, ps, cs, c, n, rest, h => by
    rw [List.flatMap_cons, List.append_assoc, RD_ins rfl (h x (by simp))]
    dsimp only
    rw [addIns_last]
    obtain ⟨m, hm⟩ := RD_inss L (g := g) (ps := ps) (cs := cs) (c := (c.1, c.2.1, c.2.2.1, c.2.2.2.1, c.ins ++ [x])) (n := n + 1) (rest := rest) fun y hy => h y (by simp [hy])
    exact ⟨m, by rw [hm]; simp [CodeT.ins]⟩
def BackC (c : CodeT) : Prop := (∀ n ∈ [c.1, c.2.1, c.2.2.1, c.2.2.2.1], leastI ≤ n ∧ n ≤ mostN) ∧ ∀ x ∈ c.ins, BackI x
theorem pre_code (l : Bs) : poolW.isPrefixOf (codeW ++ l) = false := rfl
theorem RD_head {r : RS} {n : Int} {c : CodeT} {rest : Bs} (h : r.stage = 1 ∨ r.stage = 2) (hc : BackC c) : RD r n (headL c ++ rest) = RD ⟨2, (r.p.1, r.p.2.1, r.p.2.2 ++ [(c.1, c.2.1, c.2.2.1, c.2.2.2.1, [])])⟩ (n + 1) rest := by
  unfold headL
  rw [line_eq]
  refine RD_line (words_no (by decide)) ?_
  have hb := numbers_back (first := codeW) (l := [c.1, c.2.1, c.2.2.1, c.2.2.2.1]) (by decide) hc.1
  rcases h with h | h
  · unfold RS.step
    rw [if_neg (by omega), if_pos h, if_neg (by rw [pre_code]; simp)]
    unfold RS.begin
    rw [show (4 : Nat) = [c.1, c.2.1, c.2.2.1, c.2.2.2.1].length from rfl, hb]
  · exact step_code h hb
theorem RD_codes : ∀ (C : List CodeT) {st : Nat} {g : Int} {ps : List ByteArray} {cs : List CodeT} {n : Int}, (∀ c ∈ C, BackC c) → st = 1 ∨ st = 2 → C ≠ [] ∨ st = 2 → ∃ m, RD ⟨st, (g, ps, cs)⟩ n (C.flatMap codeL) = RD ⟨2, (g, ps, cs ++ C)⟩ m []
  | [], st, g, ps, cs, n, h, hs, hne => ⟨n, by
    have : st = 2 := by rcases hne with h | h; exact absurd rfl h; exact h
    subst this
    simp⟩
  | c :: C, st, g, ps, cs, n, h, hs, hne => by
    have hc := h c (by simp)
    rw [List.flatMap_cons]
    unfold codeL
    rw [List.append_assoc, RD_head hs hc]
    dsimp only
    obtain ⟨m, hm⟩ := RD_inss c.ins (g := g) (ps := ps) (cs := cs) (c := (c.1, c.2.1, c.2.2.1, c.2.2.2.1, [])) (n := n + 1) (rest := C.flatMap codeL) hc.2
    rw [show (C.flatMap fun c => headL c ++ c.ins.flatMap insL) = C.flatMap codeL from rfl, hm]
    obtain ⟨m2, hm2⟩ := RD_codes C (st := 2) (g := g) (ps := ps) (cs := cs ++ [c]) (n := m) (fun y hy => h y (by simp [hy])) (.inr rfl) (.inr rfl)
    refine ⟨m2, ?_⟩
    have e : ((c.1, c.2.1, c.2.2.1, c.2.2.2.1, CodeT.ins (c.1, c.2.1, c.2.2.1, c.2.2.2.1, []) ++ c.ins) : CodeT) = c := rfl
    rw [e, hm2]
    simp
theorem pre_pool (l : Bs) : poolW.isPrefixOf (poolW ++ l) = true := by
  rw [List.isPrefixOf_iff_prefix]
  exact ⟨l, rfl⟩
theorem pool_no (s : ByteArray) : (10 : UInt8) ∉ poolW ++ quoteS s.data.toList := by
  intro h
  rcases List.mem_append.1 h with h | h
  · exact absurd h (by decide)
  · have := (quote_in h).1
    exact absurd this (by decide)
theorem RD_pool : ∀ (L : List ByteArray) {g : Int} {ps : List ByteArray} {n : Int} {rest : Bs}, ∃ m, RD ⟨1, (g, ps, [])⟩ n (L.flatMap poolL ++ rest) = RD ⟨1, (g, ps ++ L, [])⟩ m rest
  | [], g, ps, n, rest => ⟨n, by simp⟩
  | s :: L, g, ps, n, rest => by
    have e : poolL s ++ (L.flatMap poolL ++ rest) = (poolW ++ quoteS s.data.toList) ++ 10 :: (L.flatMap poolL ++ rest) := by
      unfold poolL
      rw [line_eq]
      simp [wordsL]
    rw [List.flatMap_cons, List.append_assoc, e, RD_line (r' := ⟨1, (g, ps ++ [s], [])⟩) (pool_no s)]
    · obtain ⟨m, hm⟩ := RD_pool L (g := g) (ps := ps ++ [s]) (n := n + 1) (rest := rest)
      exact ⟨m, by rw [hm]; simp⟩
    · have hd : (poolW ++ quoteS s.data.toList).drop 5 = quoteS s.data.toList := rfl
      have hb := back s.data.toList []
      rw [List.append_nil] at hb
      unfold RS.step
      rw [if_neg (by simp), if_pos rfl, if_pos (pre_pool _), hd, hb]
      dsimp only
      rw [if_pos ⟨rfl, rfl, rfl⟩]
      simp [bstr]
theorem RD_glob {g : Int} {rest : Bs} (h : leastI ≤ g ∧ g ≤ mostN) : RD ⟨0, (0, [], [])⟩ 0 (lineL globalsW [g] ++ rest) = RD ⟨1, (g, [], [])⟩ 1 rest := by
  rw [line_eq]
  refine RD_line (words_no (by decide)) ?_
  have hb := numbers_back (first := globalsW) (l := [g]) (by decide) fun n hn => by simp at hn; subst hn; exact h
  unfold RS.step
  rw [if_pos rfl, show (1 : Nat) = [g].length from rfl, hb]
theorem sit_parts (op : Int) : partsN op = 2 ↔ sit op = true := by
  unfold partsN sit
  rw [decide_eq_true_eq]
  split
  · omega
  · split <;> omega
theorem back_of {p : ProgT} (h : CheckP p) {f : Nat} {c : CodeT} (hc : p.2.2[f]? = some c) : BackC c := by
  obtain ⟨h0, h1, h2, h3, h4, h5, h6⟩ := h
  obtain ⟨⟨l1, l2, l3, l4, l5, l6, l7, l8, l9, l10, l11⟩, ha, -⟩ := h6 f c hc
  have hle : leastI = -4611686018427387904 := rfl
  have hmo : mostN = 4611686018427387903 := rfl
  refine ⟨fun n hn => by simp at hn; omega, fun x hx => ?_⟩
  obtain ⟨i, hi, rfl⟩ := List.getElem_of_mem hx
  obtain ⟨a1, a2, a3, a4⟩ := ha i _ hi (List.getElem?_eq_getElem hi)
  generalize c.ins[i] = x at a1 a2 a3 a4
  obtain ⟨op, a, b⟩ := x
  dsimp only at a1 a2 a3 a4
  have hs := sit_parts op
  have hb : (0 ≤ b ∧ b < 4000) ∧ (partsN op < 2 → b = 0) := by
    cases hsit : sit op with
    | true => have := a3 hsit; rw [hsit] at hs; exact ⟨by omega, fun h => by have := hs.2 rfl; omega⟩
    | false => have := a2 hsit; exact ⟨by omega, fun _ => this⟩
  have hA : (1 ≤ op ∧ op ≤ 32) ∧ leastI ≤ a ∧ a ≤ mostN ∧ (partsN op = 0 → a = 0) := by
    have e3 : (p.2.2.length : Int) ≤ 32 := by omega
    have e4 : (p.2.1.length : Int) ≤ 120 := by omega
    clear a2 a3 a4 hs hb h5 h6 ha
    unfold argP at a1
    rw [hle, hmo]
    rcases a1 with h | h | h | h | h | h | h | h | h | h | h | h | h
    · exact ⟨by omega, by omega, by omega, fun _ => h.2⟩
    all_goals exact ⟨by omega, by omega, by omega, fun hp => by unfold partsN at hp; split at hp <;> (try split at hp) <;> omega⟩
  rw [hle, hmo] at hA
  exact ⟨hA.1, by rw [hle]; exact hA.2.1, by rw [hmo]; exact hA.2.2.1, by rw [hle]; dsimp only; omega, by rw [hmo]; dsimp only; omega, hA.2.2.2, hb.2⟩
theorem read_back {p : ProgT} (h : CheckP p) : readS16 (progL p) = (p, 0, 0) := by
  have h' := h
  obtain ⟨h0, h1, h2, h3, h4, h5, h6⟩ := h
  have hle : leastI = -4611686018427387904 := rfl
  have hmo : mostN = 4611686018427387903 := rfl
  show RD ⟨0, (0, [], [])⟩ 0 (progL p) = _
  unfold progL
  rw [List.append_assoc, RD_glob (by omega)]
  obtain ⟨m, hm⟩ := RD_pool p.2.1 (g := p.1) (ps := []) (n := 1) (rest := p.2.2.flatMap codeL)
  rw [hm]
  have hne : p.2.2 ≠ [] := fun e => by rw [e] at h2; simp at h2
  obtain ⟨m2, hm2⟩ := RD_codes p.2.2 (st := 1) (g := p.1) (ps := [] ++ p.2.1) (cs := []) (n := m) (fun c hc => by
    obtain ⟨f, hf, rfl⟩ := List.getElem_of_mem hc
    exact back_of h' (List.getElem?_eq_getElem hf)) (.inl rfl) (.inl hne)
  rw [hm2]
  unfold RD readP
  rw [if_pos rfl]
  simp only [List.nil_append]
  rw [if_neg hne]
  exact if_pos h'
theorem lines_of {first : Bs} {l : List Int} {rest : Bs} (hf : (10 : UInt8) ∉ first) (hl : (lineL first l).length ≤ 100000) (hr : LinesOK rest) : LinesOK (lineL first l ++ rest) := by
  rw [line_eq]
  refine .line ?_ (words_no hf) hr
  unfold lineL at hl
  rw [List.length_append] at hl
  omega
theorem lines_ins {L : List Ins} {rest : Bs} (h : ∀ x ∈ L, BackI x) (hr : LinesOK rest) : LinesOK (L.flatMap insL ++ rest) := by
  induction L with
  | nil => exact hr
  | cons x L ih =>
    rw [List.flatMap_cons, List.append_assoc]
    have hx := h x (by simp)
    refine lines_of ?_ (by have := insL_le x; unfold insL at this; omega) (ih fun y hy => h y (by simp [hy]))
    have := (names_ok (x.1 - 1).toNat (by have := hx.1; omega)).2
    rw [show (((x.1 - 1).toNat : Nat) : Int) + 1 = x.1 by have := hx.1; omega] at this
    exact this
theorem lines_codes {C : List CodeT} (h : ∀ c ∈ C, BackC c) : LinesOK (C.flatMap codeL) := by
  induction C with
  | nil => exact .last (by simp)
  | cons c C ih =>
    rw [List.flatMap_cons]
    unfold codeL
    rw [List.append_assoc]
    exact lines_of (by decide) (by have := headL_le c; unfold headL at this; omega) (lines_ins (h c (by simp)).2 (ih fun y hy => h y (by simp [hy])))
theorem lines_prog {p : ProgT} (h : CheckP p) : LinesOK (progL p) := by
  have h' := h
  obtain ⟨h0, h1, h2, h3, h4, h5, h6⟩ := h
  unfold progL
  rw [List.append_assoc]
  refine lines_of (by decide) (by have := line_le globalsW [p.1]; simp [globalsW] at this ⊢; omega) ?_
  have hC : LinesOK (p.2.2.flatMap codeL) := lines_codes fun c hc => by
    obtain ⟨f, hf, rfl⟩ := List.getElem_of_mem hc
    exact back_of h' (List.getElem?_eq_getElem hf)
  have : ∀ L : List ByteArray, (∀ s ∈ L, s.size ≤ 256) → LinesOK (L.flatMap poolL ++ p.2.2.flatMap codeL) := by
    intro L
    induction L with
    | nil => intro _; exact hC
    | cons s L ih =>
      intro hs
      rw [List.flatMap_cons, List.append_assoc]
      unfold poolL
      exact lines_of (pool_no s) (by have := poolL_le (hs s (by simp)); unfold poolL at this; omega) (ih fun y hy => hs y (by simp [hy]))
  exact this p.2.1 h5
theorem prog_len {p : ProgT} (h : CheckP p) (hf : ∀ c ∈ p.2.2, c.ins.length ≤ 400) : (progL p).length ≤ 1700000 := by
  obtain ⟨h0, h1, h2, h3, h4, h5, h6⟩ := h
  unfold progL
  rw [List.length_append, List.length_append]
  have e1 := line_le globalsW [p.1]
  have e2 : (p.2.1.flatMap poolL).length ≤ 1100 * p.2.1.length := flat_le fun s hs => poolL_le (h5 s hs)
  have e3 : (p.2.2.flatMap codeL).length ≤ 24100 * p.2.2.length := flat_le fun c hc => by
    unfold codeL
    rw [List.length_append]
    have k1 := headL_le c
    have k2 : (c.ins.flatMap insL).length ≤ 60 * c.ins.length := flat_le fun x _ => insL_le x
    have := hf c hc
    omega
  have e4 : globalsW.length = 7 := rfl
  rw [e4, List.length_singleton] at e1
  omega
end Go.Proofs.YtmdpifedcaaobaaDoor
