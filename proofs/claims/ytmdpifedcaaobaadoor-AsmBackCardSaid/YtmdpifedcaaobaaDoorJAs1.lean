/- Package asm, plainly: programs as text, and back. -/
import Derived.Shelf.Strings.Count
import Derived.Test.YtmdpifedcaaobaaDoorJDg1
set_option linter.unusedVariables false
set_option linter.unusedSimpArgs false
set_option maxRecDepth 20000
set_option maxHeartbeats 8000000
namespace Go.Proofs.YtmdpifedcaaobaaDoor
open Go Ax
def lineL (first : Bs) (l : List Int) : Bs := first ++ wordsL l ++ [10]
def namesL : List Bs := [[116, 105, 99, 107], [110, 117, 108, 108], [98, 111, 111, 108], [105, 110, 116], [115, 116, 114], [116, 104, 105, 115], [102, 117, 110], [108, 111, 99, 97, 108], [115, 101, 116, 108, 111, 99, 97, 108], [103, 108, 111, 98, 97, 108], [115, 101, 116, 103, 108, 111, 98, 97, 108], [110, 101, 119], [105, 110, 105, 116], [103, 101, 116], [115, 101, 116], [103, 101, 116, 105, 120], [115, 101, 116, 105, 120], [100, 101, 108], [100, 101, 108, 105, 120], [117, 110], [98, 105, 110], [106, 117, 109, 112], [106, 117, 109, 112, 110, 111, 116], [97, 110, 100], [111, 114], [99, 97, 108, 108], [109, 101, 116, 104], [99, 97, 108, 108, 109], [98, 117, 105, 108, 116], [112, 114, 105, 110, 116], [112, 111, 112], [114, 101, 116]]
/-- An instruction's name. -/
def nameL (op : Int) : Bs := if 1 ≤ op ∧ op ≤ 32 then namesL.getD (op.toNat - 1) [] else []
/-- How many numbers an instruction has. -/
def partsN (op : Int) : Nat := if op = 2 ∨ op = 6 ∨ op = 12 ∨ op = 16 ∨ op = 17 ∨ op = 19 ∨ op = 30 ∨ op = 31 ∨ op = 32 then 0 else if op = 13 ∨ op = 14 ∨ op = 15 ∨ op = 27 then 2 else 1
def globalsW : Bs := [103, 108, 111, 98, 97, 108, 115]
def poolW : Bs := [112, 111, 111, 108, 32]
def codeW : Bs := [99, 111, 100, 101]
def insL (x : Ins) : Bs := lineL (nameL x.1) ([x.2.1, x.2.2].take (partsN x.1))
def poolL (s : ByteArray) : Bs := lineL (poolW ++ quoteS s.data.toList) []
def headL (c : CodeT) : Bs := lineL codeW [c.1, c.2.1, c.2.2.1, c.2.2.2.1]
def codeL (c : CodeT) : Bs := headL c ++ c.ins.flatMap insL
def progL (p : ProgT) : Bs := lineL globalsW [p.1] ++ p.2.1.flatMap poolL ++ p.2.2.flatMap codeL
/-- What lies between blanks. -/
def splitS : Bs → List Bs
  | [] => [[]]
  | c :: r => if c = 32 then [] :: splitS r else
    match splitS r with
    | w :: ws => (c :: w) :: ws
    | [] => [[c]]
def leastI : Int := -4611686018427387904
def numS (s : Bs) : Option Int :=
  if s = intL leastI then some leastI else
  let d := if s.head? = some 45 then s.tail else s
  let n := if s.head? = some 45 then -(readS d).1 else (readS d).1
  if (readS d).2 = 0 ∧ intL n = s then some n else none
def numsS : List Bs → Option (List Int)
  | [] => some []
  | w :: ws => match numS w with
    | none => none
    | some n => match numsS ws with
      | none => none
      | some l => some (n :: l)
def numbersS (line first : Bs) (many : Nat) : Option (List Int) :=
  if (splitS line).head? = some first ∧ (splitS line).length = many + 1 then numsS (splitS line).tail else none
/-- Where a reader is: which line may come; what it has. -/
structure RS where
  stage : Nat
  p : ProgT
def RS.begin (r : RS) (line : Bs) : Option RS := match numbersS line codeW 4 with
  | some [a, b, c, d] => some ⟨2, (r.p.1, r.p.2.1, r.p.2.2 ++ [(a, b, c, d, [])])⟩
  | _ => none
def addIns (cs : List CodeT) (x : Ins) : List CodeT := match cs.getLast? with
  | some c => cs.dropLast ++ [(c.1, c.2.1, c.2.2.1, c.2.2.2.1, c.ins ++ [x])]
  | none => cs
def argsI (op : Int) (l : List Int) : Ins := (op, l.getD 0 0, l.getD 1 0)
/-- The operation of a name. -/
def opS (w : Bs) : Option Int := (List.range 32).findSome? fun (i : Nat) => if nameL ((i : Int) + 1) = w then some ((i : Int) + 1) else none
def RS.step (r : RS) (line : Bs) : Option RS :=
  if r.stage = 0 then
    match numbersS line globalsW 1 with
    | some [g] => some ⟨1, (g, r.p.2.1, r.p.2.2)⟩
    | _ => none
  else if r.stage = 1 then
    if poolW.isPrefixOf line = true then
      (if (takeS (line.drop 5)).2.2 = 0 ∧ (takeS (line.drop 5)).2.1 = (line.drop 5).length ∧ quoteS (takeS (line.drop 5)).1 = line.drop 5 then some ⟨1, (r.p.1, r.p.2.1 ++ [bstr (takeS (line.drop 5)).1], r.p.2.2)⟩ else none)
    else r.begin line
  else
    match opS ((splitS line).headD []) with
    | some op => match numbersS line (nameL op) (partsN op) with
      | some l => some ⟨2, (r.p.1, r.p.2.1, addIns r.p.2.2 (argsI op l))⟩
      | none => none
    | none => r.begin line
/-- A text's first line, and what is behind it. -/
def cutS (s : Bs) : Option (Bs × Bs) := if 10 ∈ s then some (s.takeWhile (· != 10), (s.dropWhile (· != 10)).tail) else none
noncomputable def endS (p : ProgT) : ProgT × Int × Int := open Classical in if CheckP p then (p, 0, 0) else ((0, [], []), 0, 16)
noncomputable def readP : Nat → RS → Int → Bs → ProgT × Int × Int
  | 0, _, n, _ => ((0, [], []), n, 11)
  | f + 1, r, n, s =>
    if s = [] then (if r.p.2.2 = [] then ((0, [], []), n + 1, 11) else endS r.p) else
    match cutS s with
    | none => ((0, [], []), n + 1, 11)
    | some (line, rest) => match r.step line with
      | none => ((0, [], []), n + 1, 11)
      | some r' => readP f r' (n + 1) rest
noncomputable def readS16 (s : Bs) : ProgT × Int × Int := readP (s.length + 1) ⟨0, (0, [], [])⟩ 0 s
end Go.Proofs.YtmdpifedcaaobaaDoor
/- Package asm: names, parts, lines: both. -/
set_option linter.unusedVariables false
set_option linter.unusedSimpArgs false
set_option maxRecDepth 20000
set_option maxHeartbeats 8000000
namespace Go.Proofs.YtmdpifedcaaobaaDoor
open Go Ax
theorem okB_w : OkB 52 := ⟨by decide, by kernel_rfl⟩
def strsV (L : List Bs) : List Value := L.map fun b => .string (bstr b)
theorem strs_at {L : List Bs} {n : Nat} {b : Bs} (h : L[n]? = some b) : (strsV L)[n]? = some (.string (bstr b)) := by
  unfold strsV
  rw [List.getElem?_map, h]; rfl
theorem names_len : namesL.length = 32 := rfl
theorem nameL_get {n : Nat} (h : n < 32) : namesL[n]? = some (nameL ((n : Int) + 1)) := by
  unfold nameL
  rw [if_pos (by omega), show ((n : Int) + 1).toNat - 1 = n by omega, List.getD_eq_getElem?_getD, List.getElem?_eq_getElem (by rw [names_len]; exact h)]
  rfl
theorem name0_get {n : Nat} (h : n < 33) : ([] :: namesL)[n]? = some (nameL (n : Int)) := by
  cases n with
  | zero => rfl
  | succ n => rw [List.getElem?_cons_succ, nameL_get (by omega)]; rfl
theorem asmName_ax (H : Heap) (op : Int) (hi : I64 op) : AX Tryd.prog 11 #[.int .i64 op] H (fun r H' => r = .string (bstr (nameL op)) ∧ H' = H) := by
  refine AX.quiet ?_
  suffices hh : AX Tryd.prog 11 #[.int .i64 op] H (fun r H' => r = .string (bstr (nameL op)) ∧ Grow H H') from hh.mono fun v _ ⟨e, g⟩ => ⟨e ▸ plain_str _, e, g⟩
  refine AX.body (n := 14) (rs := [.tmp 2]) Tryd.func11 rfl (by decide) rfl rfl (bC_sound _ _ _ _ ?_)
  refine run ?_
  refine Ob2.alloc rfl fun q H1 hq a1 g1 => ?_
  refine run ?_
  refine Ob.store rfl rfl rfl a1 rfl (by first | exact Nat.le_of_ble_eq_true rfl | simp) fun H2 s1 k1 l1 => ?_
  replace g1 := g1.but_new k1 (Nat.le_of_eq hq.symm)
  have s1 : H2[q]? = some (.cells .var (strsV ([] :: namesL))) := s1
  have b1 := hblk_of s1
  by_cases h0 : op < 0
  · have d0 : decide (op < 0) = true := decide_eq_true h0
    have e : nameL op = [] := by unfold nameL; rw [if_neg (by omega)]
    rw [e]
    refine run ?_
    exact ⟨rfl, g1⟩
  have d0 : decide (op < 0) = false := decide_eq_false h0
  by_cases h1 : op ≥ 33
  · have d1 : decide (op ≥ 33) = true := decide_eq_true h1
    have e : nameL op = [] := by unfold nameL; rw [if_neg (by omega)]
    rw [e]
    refine run ?_
    exact ⟨rfl, g1⟩
  have d1 : decide (op ≥ 33) = false := decide_eq_false h1
  obtain ⟨n, rfl⟩ := Int.eq_ofNat_of_zero_le (show 0 ≤ op by omega)
  have ix : aindexAddr Tryd.prog 61 (.pointer (some ⟨q, 0, none⟩)) (.int .i64 (n : Int)) = some (.pointer (some ⟨q, n, none⟩)) := by
    rw [idx_array (len := 33) (e := 9) (k := 1) rfl rfl (by omega) (by omega)]
    congr 4
    omega
  have ld : aload Tryd.prog 9 (.pointer (some ⟨q, n, none⟩)) H2 = some (.string (bstr (nameL (n : Int)))) := ald rfl rfl b1 (strs_at (name0_get (by omega)))
  refine run ?_
  exact ⟨rfl, g1⟩
theorem refName_ax (H : Heap) (op : Int) (hi : I64 op) : AX Tryd.prog 12 #[.int .i64 op] H (fun r H' => r = .string (bstr (nameL op)) ∧ H' = H) := by
  refine AX.quiet ?_
  suffices hh : AX Tryd.prog 12 #[.int .i64 op] H (fun r H' => r = .string (bstr (nameL op)) ∧ Grow H H') from hh.mono fun v _ ⟨e, g⟩ => ⟨e ▸ plain_str _, e, g⟩
  refine AX.body (n := 16) (rs := [.tmp 2]) Tryd.func12 rfl (by decide) rfl rfl (bC_sound _ _ _ _ ?_)
  refine run ?_
  refine Ob2.lay (.cells (.row 9) (strsV namesL)) (.slice (some ⟨_, 0, none⟩) 32 1) rfl fun H1 a1 g1 _ => ?_
  have b1 := hblk_of a1
  by_cases h0 : op < 1
  · have d0 : decide (op < 1) = true := decide_eq_true h0
    have e : nameL op = [] := by unfold nameL; rw [if_neg (by omega)]
    rw [e]
    refine run ?_
    exact ⟨rfl, g1⟩
  have d0 : decide (op < 1) = false := decide_eq_false h0
  by_cases h1 : op > 32
  · have d1 : decide (op > 32) = true := decide_eq_true h1
    have e : nameL op = [] := by unfold nameL; rw [if_neg (by omega)]
    rw [e]
    refine run ?_
    exact ⟨rfl, g1⟩
  have d1 : decide (op > 32) = false := decide_eq_false h1
  obtain ⟨n, hn⟩ := Int.eq_ofNat_of_zero_le (show 0 ≤ op - 1 by omega)
  obtain rfl : op = (n : Int) + 1 := by omega
  have su : abin Tryd.prog .sub 3 (.int .i64 ((n : Int) + 1)) (.int .i64 1) = some (.int .i64 (n : Int)) := by
    have : abin Tryd.prog .sub 3 (.int .i64 ((n : Int) + 1)) (.int .i64 1) = some (.int .i64 (IntKind.i64.wrap ((n : Int) + 1 - 1))) := rfl
    rw [this, wrap_i64 (by omega) (by omega)]; (congr 2; try omega)
  have ix : aindexAddr Tryd.prog 22 (.slice (some ⟨H.length, 0, none⟩) 32 1) (.int .i64 (n : Int)) = some (.pointer (some ⟨H.length, n, none⟩)) := by
    rw [idx_slice (k := 1) rfl rfl (by omega) (by omega)]
    congr 4
    omega
  have ld : aload Tryd.prog 9 (.pointer (some ⟨H.length, n, none⟩)) H1 = some (.string (bstr (nameL ((n : Int) + 1)))) := ald rfl rfl b1 (strs_at (nameL_get (by omega)))
  refine run ?_
  exact ⟨rfl, g1⟩
theorem partsN_le (op : Int) : partsN op ≤ 2 := by unfold partsN; split <;> (try split) <;> omega
theorem asmParts_ax (H : Heap) (op : Int) : AX Tryd.prog 20 #[.int .i64 op] H (fun r H' => r = .int .i64 (partsN op : Int) ∧ H' = H) := by
  refine AX.body (n := 19) (rs := [.tmp 2]) Tryd.func20 rfl (by decide) rfl rfl (bC_sound _ _ _ _ ?_)
  (try (conv => whnf)); (repeat' ((fail_if_success (with_reducible refine And.intro ?_ ?_)); (fail_if_success (with_reducible refine Exists.intro ?_ ?_)); (first | (refine step0 ?_) | (apply bIf.of <;> intro hc <;> (conv => whnf)))))
  all_goals
    refine ⟨?_, rfl⟩
    ((try (simp only [ba_ne_t, ba_ne_f, ba_eq_t, ba_eq_f, bne_iff_ne, bne_eq_false_iff_eq, decide_eq_true_eq, decide_eq_false_iff_not, beq_iff_eq, beq_eq_false_iff_ne, ne_eq, Bool.not_eq_true, Bool.not_eq_false, Bool.not_eq_true', Bool.not_eq_false'] at *)); (try simp only [Bool.false_eq_true, false_iff, true_iff, Classical.not_not, Bool.not_false, Bool.not_true] at *))
    unfold partsN
    first
      | (rw [if_pos (by omega)]; rfl)
      | (rw [if_neg (by omega), if_pos (by omega)]; rfl)
      | (rw [if_neg (by omega), if_neg (by omega)]; rfl)
theorem refParts_ax (H : Heap) (op : Int) : AX Tryd.prog 42 #[.int .i64 op] H (fun r H' => r = .int .i64 (partsN op : Int) ∧ H' = H) := by
  refine AX.body (n := 19) (rs := [.tmp 2]) Tryd.func42 rfl (by decide) rfl rfl (bC_sound _ _ _ _ ?_)
  (try (conv => whnf)); (repeat' ((fail_if_success (with_reducible refine And.intro ?_ ?_)); (fail_if_success (with_reducible refine Exists.intro ?_ ?_)); (first | (refine step0 ?_) | (apply bIf.of <;> intro hc <;> (conv => whnf)))))
  all_goals
    refine ⟨?_, rfl⟩
    ((try (simp only [ba_ne_t, ba_ne_f, ba_eq_t, ba_eq_f, bne_iff_ne, bne_eq_false_iff_eq, decide_eq_true_eq, decide_eq_false_iff_not, beq_iff_eq, beq_eq_false_iff_ne, ne_eq, Bool.not_eq_true, Bool.not_eq_false, Bool.not_eq_true', Bool.not_eq_false'] at *)); (try simp only [Bool.false_eq_true, false_iff, true_iff, Classical.not_not, Bool.not_false, Bool.not_true] at *))
    unfold partsN
    first
      | (rw [if_pos (by omega)]; rfl)
      | (rw [if_neg (by omega), if_pos (by omega)]; rfl)
      | (rw [if_neg (by omega), if_neg (by omega)]; rfl)
theorem ld_intS {H : Heap} {sv : Value} {L : List Int} (h : RL 1 intR H sv L) {i : Nat} {x : Int} (hx : L[i]? = some x) :
    ∃ b, aindexAddr Tryd.prog 57 sv (.int .i64 (i : Int)) = some (.pointer (some ⟨b, i * 1, none⟩)) ∧ aload Tryd.prog 3 (.pointer (some ⟨b, i * 1, none⟩)) H = some (.int .i64 x) := by
  obtain ⟨b, c, l, h1, h2, h3, rfl⟩ := h.at (P := Tryd.prog) (t := 57) (e := 3) rfl rfl hx
  exact ⟨b, h1, ald rfl rfl h2 (slots_get (j := 0) h3 rfl)⟩
theorem RL.ints {H : Heap} {g n : Nat} {m : Ax.Mode} {L : List Int} (hr : H[g]? = some (.cells m (L.map (Value.int .i64)))) (hn : n ≤ L.length) : RL 1 intR H (.slice (some ⟨g, 0, none⟩) n 1) (L.take n) := by
  refine .inr ⟨g, by rw [List.length_take, Nat.min_eq_left hn], .inr ⟨m, _, hr, fun i x hx => ⟨[.int .i64 x], ?_, rfl⟩⟩⟩
  have hi := lt_of_get hx
  rw [List.length_take] at hi
  rw [List.getElem?_take, if_pos (by omega)] at hx
  have hl := lt_of_get hx
  rw [slots_of (by simp; omega)]
  congr 1
  rw [Nat.mul_one, List.drop_eq_getElem_cons (by simpa using hl)]
  simp [(List.getElem?_eq_some_iff.1 hx).2]
/-- The writer's line. -/
theorem WS.line {H0 H : Heap} {b : Nat} {bs : List UInt8} (S : WS 52 H0 H b bs) (first : ByteArray) {u : Value} {L : List Int} (hst : ∀ H', FrW b H H' → Grow H0 H' → RL 1 intR H' u L) (hL : L.length ≤ 1000000) (hi : ∀ n ∈ L, I64 n)
    (hl : bs.length + (lineL first.data.toList L).length ≤ lim8) :
    AX Tryd.prog 18 #[ptr b, .string first, u] H (WQ 52 H0 b H (bs ++ lineL first.data.toList L)) := by
  unfold lineL at hl ⊢
  rw [List.length_append, List.length_append] at hl
  refine AX.body (n := 34) (rs := []) Tryd.func18 rfl (by decide) rfl rfl (bC_sound _ _ _ _ ?_)
  refine run ?_
  refine (S.str okB_w first (by omega)).mono ?_
  rintro _ H1 ⟨S1, F1⟩
  have l1 : ∀ X, alen Tryd.prog 57 u X = some (.int .i64 L.length) := fun X => (hst H (.refl _ _) S.g).len rfl _
  have l1' := l1 H1
  refine run ?_
  refine SW.loop (α := Nat) (fun k => [(0, ptr b), (13, u), (14, .int .i64 L.length), (15, .int .i64 (k : Int))])
    (fun k X => k ≤ L.length ∧ WS 52 H0 X b (bs ++ (first.data.toList ++ wordsL (L.take k))) ∧ FrW b H X) (fun k => L.length - k) ⟨0, ⟨rfl, rfl, rfl, rfl, trivial⟩, by omega, by simpa [wordsL] using S1, F1⟩ ?_
  rintro k X ⟨hm, SX, FX⟩
  refine bC_sound _ _ _ _ ?_
  by_cases hml : k < L.length
  · have d1 : decide ((k : Int) < (L.length : Int)) = true := decide_eq_true (by omega)
    obtain ⟨x, hx⟩ := get_lt hml
    obtain ⟨p, i1, i2⟩ := ld_intS (hst X FX SX.g) hx
    have hxi := hi x (List.mem_of_getElem? hx)
    have ht : wordsL (L.take (k + 1)) = wordsL (L.take k) ++ (32 :: intL x) := flat_snoc _ hx
    have hle : (wordsL (L.take (k + 1))).length ≤ (wordsL L).length := flat_take_le _ L (k + 1)
    rw [ht, List.length_append] at hle
    have hil := intL_len x
    refine run ?_
    refine (SX.byte okB_w 32 (by simp only [List.length_append, List.length_cons, List.length_nil] at *; omega)).mono ?_
    rintro _ Y ⟨SY, FY⟩
    refine run ?_
    apply SW.drawH [(0, [], [26, 27], false), (1, [(23, 0)], [23, 26, 27], false), (2, [(23, 0), (24, 1)], [23, 24, 26, 27], false), (3, [], [23, 24, 25], false), (4, [(26, 3)], [23, 24, 25, 26], true), (5, [(23, 0), (24, 1), (25, 2), (26, 3), (27, 4)], [23, 24, 25, 26, 27], true)]
      [(23, 0), (24, 1), (25, 2), (26, 3), (27, 4), (28, 5)] []
      [(0, _), (7, _), (13, _), (14, _), (15, _)] rfl (by kernel_rfl)
    case hF => exact ⟨rfl, rfl, rfl, rfl, rfl, trivial⟩
    refine run ?_
    refine (numI_ax Y hxi.1 hxi.2).mono ?_
    rintro _ Z ⟨rfl, e⟩
    subst Z
    refine run ?_
    refine (SY.str okB_w _ (by rw [bstr_list]; simp only [List.length_append, List.length_cons, List.length_nil] at *; omega)).mono ?_
    rintro _ Z ⟨SZ, FZ⟩
    rw [bstr_list] at SZ
    refine run ?_
    refine ⟨k + 1, ⟨rfl, rfl, rfl, congrArg (fun z => some (Value.int .i64 z)) (w_succ (by omega)), trivial⟩, ⟨hml, ?_, (FX.trans FY).trans FZ⟩, by show L.length - (k + 1) < L.length - k; omega⟩
    rw [ht]
    simpa using SZ
  · have d1 : decide ((k : Int) < (L.length : Int)) = false := decide_eq_false (by omega)
    rw [List.take_of_length_le (by omega)] at SX
    refine run ?_
    refine (SX.byte okB_w 10 (by simp only [List.length_append, List.length_cons, List.length_nil] at *; omega)).mono ?_
    rintro _ Y ⟨SY, FY⟩
    refine run ?_
    exact ⟨by simpa using SY, FX.trans FY⟩
theorem rline_ax {H : Heap} (first : Bs) {u : Value} {L : List Int} (hr : RL 1 intR H u L) (hL : L.length ≤ 1000000) (hf : first.length ≤ 1000000) (hi : ∀ n ∈ L, I64 n) :
    AX Tryd.prog 34 #[.string (bstr first), u] H (fun r H' => r = .string (bstr (lineL first L)) ∧ H' = H) := by
  refine AX.quiet ?_
  suffices hh : AX Tryd.prog 34 #[.string (bstr first), u] H (fun r H' => r = .string (bstr (lineL first L)) ∧ Grow H H') from hh.mono fun v _ ⟨e, g⟩ => ⟨e ▸ plain_str _, e, g⟩
  unfold lineL
  have hw := words_le L
  refine AX.body (n := 22) (rs := [.tmp 4]) Tryd.func34 rfl (by decide) rfl rfl (bC_sound _ _ _ _ ?_)
  have l1 : ∀ X, alen Tryd.prog 57 u X = some (.int .i64 L.length) := fun X => hr.len rfl _
  have l1' := l1 H
  refine run ?_
  refine SW.loop (α := Nat) (fun k => [(1, u), (0, .string (bstr (first ++ wordsL (L.take k)))), (5, .int .i64 (k : Int))]) (fun k X => k ≤ L.length ∧ X = H) (fun k => L.length - k) ⟨0, ⟨rfl, congrArg (fun z => some (Value.string (bstr z))) (by simp [wordsL]), rfl, trivial⟩, by omega, rfl⟩ ?_
  rintro k X ⟨hm, e⟩
  subst X
  refine bC_sound _ _ _ _ ?_
  by_cases hml : k < L.length
  · have d1 : decide ((k : Int) < (L.length : Int)) = true := decide_eq_true (by omega)
    obtain ⟨x, hx⟩ := get_lt hml
    obtain ⟨p, i1, i2⟩ := ld_intS hr hx
    have hxi := hi x (List.mem_of_getElem? hx)
    have ht : wordsL (L.take (k + 1)) = wordsL (L.take k) ++ (32 :: intL x) := flat_snoc _ hx
    have hle : (wordsL (L.take k)).length ≤ (wordsL L).length := flat_take_le _ L k
    have hil := intL_len x
    refine run ?_
    refine Ob.cat (by first | exact bstr_list _ | rfl) (by first | exact bstr_list _ | rfl) (by first | omega | (simp only [List.length_append, List.length_cons, List.length_nil]; omega) | (simp only [List.length_append, List.length_cons, List.length_nil] at *; omega)) ?_
    refine run ?_
    refine (rnumI_ax H hxi.1 hxi.2).mono ?_
    rintro _ Y ⟨rfl, e⟩
    subst Y
    refine run ?_
    refine Ob.cat (by first | exact bstr_list _ | rfl) (by first | exact bstr_list _ | rfl) (by first | omega | (simp only [List.length_append, List.length_cons, List.length_nil]; omega) | (simp only [List.length_append, List.length_cons, List.length_nil] at *; omega)) ?_
    refine run ?_
    exact ⟨k + 1, ⟨rfl, congrArg (fun z => some (Value.string (bstr z))) (by rw [ht]; simp), congrArg (fun z => some (Value.int .i64 z)) (w_succ (by omega)), trivial⟩, ⟨hml, rfl⟩, by show L.length - (k + 1) < L.length - k; omega⟩
  · have d1 : decide ((k : Int) < (L.length : Int)) = false := decide_eq_false (by omega)
    rw [List.take_of_length_le (by omega)]
    refine run ?_
    refine Ob.cat (by first | exact bstr_list _ | rfl) (by first | exact bstr_list _ | rfl) (by first | omega | (simp only [List.length_append, List.length_cons, List.length_nil]; omega) | (simp only [List.length_append, List.length_cons, List.length_nil] at *; omega)) ?_
    refine run ?_
    exact ⟨rfl, .refl _⟩
end Go.Proofs.YtmdpifedcaaobaaDoor
/- Package asm: Print. -/
set_option linter.unusedVariables false
set_option linter.unusedSimpArgs false
set_option maxRecDepth 20000
set_option maxHeartbeats 8000000
namespace Go.Proofs.YtmdpifedcaaobaaDoor
open Go Ax
theorem ins_i64 {p : ProgT} (h : CheckP p) {f : Nat} {c : CodeT} (hc : p.2.2[f]? = some c) {i : Nat} {x : Ins} (hx : c.ins[i]? = some x) : (1 ≤ x.1 ∧ x.1 ≤ 32) ∧ I64 x.2.1 ∧ I64 x.2.2 := by
  obtain ⟨h1, h2, h3, h4, h5, h6, h7⟩ := h
  obtain ⟨⟨l1, l2, l3, l4, l5, l6, l7, l8, l9, l10, l11⟩, hA, -⟩ := h7 f c hc
  obtain ⟨a1, a2, a3, a4⟩ := hA i x (lt_of_get hx) hx
  have hs : x.2.2 = 0 ∨ (0 ≤ x.2.2 ∧ x.2.2 < c.2.2.1) := by
    cases hsx : sit x.1 with
    | false => exact .inl (a2 hsx)
    | true => exact .inr (a3 hsx)
  unfold argP at a1
  refine ⟨by omega, by omega, by omega⟩
theorem code_i64 {p : ProgT} (h : CheckP p) {f : Nat} {c : CodeT} (hc : p.2.2[f]? = some c) : I64 c.1 ∧ I64 c.2.1 ∧ I64 c.2.2.1 ∧ I64 c.2.2.2.1 := by
  obtain ⟨l1, l2, l3, l4, l5, l6, l7, l8, l9, l10, l11⟩ := (h.2.2.2.2.2.2 f c hc).1
  exact ⟨by omega, by omega, by omega, by omega⟩
theorem line_le (first : Bs) (L : List Int) : (lineL first L).length ≤ first.length + 22 * L.length + 1 := by
  have := words_le L
  unfold lineL
  simp only [List.length_append, List.length_cons, List.length_nil]; omega
theorem name_le (op : Int) : (nameL op).length ≤ 9 := by
  unfold nameL
  split
  · rw [List.getD_eq_getElem?_getD]
    cases h : namesL[op.toNat - 1]? with
    | none => exact Nat.zero_le _
    | some b =>
      have hm := List.mem_of_getElem? h
      have : ∀ b ∈ namesL, b.length ≤ 9 := by decide
      exact this b hm
  · exact Nat.zero_le _
theorem insL_le (x : Ins) : (insL x).length ≤ 60 := by
  have h1 := line_le (nameL x.1) ([x.2.1, x.2.2].take (partsN x.1))
  have h2 := name_le x.1
  have h3 : ([x.2.1, x.2.2].take (partsN x.1)).length ≤ 2 := by rw [List.length_take]; simp; omega
  unfold insL; omega
theorem headL_le (c : CodeT) : (headL c).length ≤ 100 := by
  have h1 := line_le codeW [c.1, c.2.1, c.2.2.1, c.2.2.2.1]
  have : codeW.length = 4 := rfl
  unfold headL
  simp only [List.length_cons, List.length_nil] at h1; omega
theorem codeL_le {c : CodeT} (h : c.ins.length ≤ 4000) : (codeL c).length ≤ 240100 := by
  have h1 := headL_le c
  have h2 : (c.ins.flatMap insL).length ≤ 60 * c.ins.length := flat_le fun x _ => insL_le x
  unfold codeL
  rw [List.length_append]; omega
theorem poolL_le {s : ByteArray} (h : s.size ≤ 256) : (poolL s).length ≤ 1100 := by
  have h1 := line_le (poolW ++ quoteS s.data.toList) []
  have h2 := quote_le s.data.toList
  have h3 : s.data.toList.length = s.size := by rw [Array.length_toList]; rfl
  have : poolW.length = 5 := rfl
  unfold poolL
  simp only [List.length_append, List.length_nil] at h1; omega
structure ProgB (p : ProgT) : Prop where
  pool : (p.2.1.flatMap poolL).length ≤ 132000
  codes : (p.2.2.flatMap codeL).length ≤ 7690000
theorem progB_of {p : ProgT} (h : CheckP p) : ProgB p := by
  obtain ⟨h1, h2, h3, h4, h5, h6, h7⟩ := h
  have k1 : (p.2.1.flatMap poolL).length ≤ 1100 * p.2.1.length := flat_le fun s hs => poolL_le (h6 s hs)
  have k2 : (p.2.2.flatMap codeL).length ≤ 240100 * p.2.2.length := flat_le fun c hc => by
    obtain ⟨f, hf⟩ := List.getElem?_of_mem hc
    exact codeL_le (h7 f c hf).1.2.2.2.2.2.2.2.2.2.1
  exact ⟨by omega, by omega⟩
noncomputable def printA (p : ProgT) : ByteArray × Int := open Classical in if CheckP p then (bstr (progL p), 0) else (⟨#[]⟩, 16)
theorem ld_insO {H : Heap} {sv : Value} {L : List Ins} (h : RL 3 insR H sv L) {i : Nat} {x : Ins} (hx : L[i]? = some x) :
    ∃ b, aindexAddr Tryd.prog 43 sv (.int .i64 (i : Int)) = some (.pointer (some ⟨b, i * 3, none⟩)) ∧ ∀ H', Grow H H' → aload Tryd.prog 56 (.pointer (some ⟨b, i * 3, none⟩)) H' = some (insV x.1 x.2.1 x.2.2) := by
  obtain ⟨b, c, l, h1, h2, h3, rfl⟩ := h.at (P := Tryd.prog) (t := 43) (e := 56) rfl rfl hx
  exact ⟨b, h1, fun H' g => ald_agg rfl rfl rfl (g.hblk h2) h3⟩
theorem WS.lineN {H0 H : Heap} {b : Nat} {bs : List UInt8} (S : WS 52 H0 H b bs) (first : ByteArray) {g n : Nat} {L : List Int} (hr : H[g]? = some (.cells (.row 3) (L.map (Value.int .i64)))) (hn : n ≤ L.length) (hL : L.length ≤ 8) (hi : ∀ n ∈ L, I64 n)
    {t : List UInt8} (ht : lineL first.data.toList (L.take n) = t) (hl : bs.length + t.length ≤ lim8) :
    AX Tryd.prog 18 #[ptr b, .string first, .slice (some ⟨g, 0, none⟩) n 1] H (WQ 52 H0 b H (bs ++ t)) := by
  subst ht
  exact S.line first (fun H' F _ => RL.ints (S.keep F hr (by simp) (by simp)) hn) (by rw [List.length_take]; omega) (fun n h => hi n (List.mem_of_mem_take h)) hl
theorem asmPrint_ax {H : Heap} {p : ProgT} {ps cs : Value} (hp : RL 1 strR H ps p.2.1) (hc : RL 5 codeR H cs p.2.2) (hL : p.2.1.length < 4294967296) :
    AX Tryd.prog 9 #[progV p ps cs] H (fun r H' => r = .tuple #[.string (printA p).1, .int .i64 (printA p).2] ∧ H' = H) := by
  refine AX.quiet ?_
  suffices hh : AX Tryd.prog 9 #[progV p ps cs] H (fun r H' => r = .tuple #[.string (printA p).1, .int .i64 (printA p).2] ∧ Grow H H') from hh.mono fun v _ ⟨e, g⟩ => ⟨e ▸ plain_tuple (vs := [_, _]) (fun x hx => by simp only [List.mem_cons, List.not_mem_nil, or_false] at hx; rcases hx with rfl | rfl; exact plain_str _; exact plain_int _ _), e, g⟩
  refine AX.body (n := 82) (rs := [.tmp 2, .tmp 3]) Tryd.func9 rfl (by decide) rfl rfl (bC_sound _ _ _ _ ?_)
  (conv => whnf)
  refine Ob2.box rfl fun q1 H1 hq1 a1 g1 => ?_
  have b1 := hblk_of a1
  replace hp := strR.grow hp g1
  replace hc := codeR.grow hc g1
  refine run ?_
  refine (check_ax hp hc hL).mono ?_
  rintro _ X ⟨hv, e⟩
  subst X
  rcases hv with ⟨rfl, hC⟩ | ⟨rfl, hC⟩
  rotate_left
  · have e : printA p = (⟨#[]⟩, 16) := if_neg hC
    rw [e]
    refine run ?_
    exact ⟨rfl, g1⟩
  have e : printA p = (bstr (progL p), 0) := if_pos hC
  rw [e]
  obtain ⟨hA, hB⟩ := progB_of hC
  obtain ⟨c1, c2, c3, c4, c5, c6, c7⟩ := hC
  have hC : CheckP p := ⟨c1, c2, c3, c4, c5, c6, c7⟩
  refine run ?_
  refine Ob2.boxM (.one 52) rfl rfl fun b H2 hb2 ba g2 => ?_
  have S : WS 52 H1 H2 b [] := ⟨g2, by omega, g2.1, _, _, ba, .inl rfl, .inl ⟨rfl, rfl⟩⟩
  have F : FrW b H2 H2 := .refl _ _
  have d1 := g2.hblk b1
  refine run ?_
  refine Ob2.lay (.cells (.row 3) [.int .i64 p.1]) (.slice (some ⟨_, 0, none⟩) 1 1) rfl fun U pa pg _ => ?_
  replace S := S.grow pg
  replace F := F.trans (.of pg)
  have hd := line_le globalsW [p.1]
  have hgw : globalsW.length = 7 := rfl
  simp only [List.length_cons, List.length_nil] at hd
  refine run ?_
  refine (S.lineN ⟨#[103, 108, 111, 98, 97, 108, 115]⟩ (L := [p.1]) (n := 1) pa (by simp) (by simp) (by intro n hn; simp only [List.mem_cons, List.not_mem_nil, or_false] at hn; subst hn; exact ⟨by omega, by omega⟩) (t := lineL globalsW [p.1]) rfl (by simp only [List.length_append, List.length_cons, List.length_nil, lim8] at *; omega)).mono ?_
  rintro _ X ⟨S', F'⟩
  (try replace ab := S.box F' ab)
  (try replace bb := hblk_of ab)
  (try replace ac := S.box F' ac)
  (try replace bc := hblk_of ac)
  replace F := F.trans F'
  replace S := S'
  clear S' F'
  refine run ?_
  have l1 : ∀ X, alen Tryd.prog 22 ps X = some (.int .i64 p.2.1.length) := fun X => hp.len rfl _
  have l2 : ∀ X, alen Tryd.prog 23 cs X = some (.int .i64 p.2.2.length) := fun X => hc.len rfl _
  clear d1 pa
  have d1 := S.g.hblk b1
  have l1' := l1 X
  refine run ?_
  refine SW.loop (α := Nat) (fun k => [(1, .pointer (some ⟨q1, 0, none⟩)), (5, ptr b), (25, ps), (26, .int .i64 p.2.1.length), (27, .int .i64 (k : Int))])
    (fun k X => k ≤ p.2.1.length ∧ WS 52 H1 X b (lineL globalsW [p.1] ++ (p.2.1.take k).flatMap poolL)) (fun k => p.2.1.length - k) ⟨0, ⟨rfl, rfl, rfl, rfl, rfl, trivial⟩, by omega, by simpa using S⟩ ?_
  clear S F d1 l1'
  rintro k X ⟨hm, S⟩
  have F : FrW b X X := .refl _ _
  refine bC_sound _ _ _ _ ?_
  by_cases hml : k < p.2.1.length
  · have d1 : decide ((k : Int) < (p.2.1.length : Int)) = true := decide_eq_true (by omega)
    obtain ⟨s, hs⟩ := get_lt hml
    obtain ⟨q, i1, i2⟩ := ld_str hp hs
    have i3 := i2 X S.g
    have hsm := List.mem_of_getElem? hs
    have hsz := c6 s hsm
    have ht : (p.2.1.take (k + 1)).flatMap poolL = (p.2.1.take k).flatMap poolL ++ poolL s := flat_snoc _ hs
    have hle : ((p.2.1.take k).flatMap poolL).length ≤ _ := flat_take_le poolL p.2.1 k
    have hpl := poolL_le hsz
    have hq := quote_le s.data.toList
    have h3 : s.data.toList.length = s.size := by rw [Array.length_toList]; rfl
    refine run ?_
    refine (quote_ax _ (by omega)).mono ?_
    rintro _ Y ⟨rfl, e⟩
    subst Y
    refine run ?_
    refine Ob.cat (l := poolW) (m := quoteS s.data.toList) rfl (by simp) (by have : poolW.length = 5 := rfl; omega) ?_
    refine run ?_
    refine (S.line (bstr (poolW ++ quoteS s.data.toList)) (L := []) (fun H' _ _ => .inl ⟨rfl, rfl⟩) (by simp) (by simp) (by rw [bstr_list]; show _ + (poolL s).length ≤ _; simp only [List.length_append, List.length_cons, List.length_nil, lim8] at *; omega)).mono ?_
    rintro _ X ⟨S', F'⟩
    (try replace ab := S.box F' ab)
    (try replace bb := hblk_of ab)
    (try replace ac := S.box F' ac)
    (try replace bc := hblk_of ac)
    replace F := F.trans F'
    replace S := S'
    clear S' F'
    refine run ?_
    rw [bstr_list] at S
    refine ⟨k + 1, ⟨rfl, rfl, rfl, rfl, congrArg (fun z => some (Value.int .i64 z)) (w_succ (by omega)), trivial⟩, ⟨hml, ?_⟩, by show p.2.1.length - (k + 1) < p.2.1.length - k; omega⟩
    rw [ht, ← List.append_assoc]
    exact S
  have d1 : decide ((k : Int) < (p.2.1.length : Int)) = false := decide_eq_false (by omega)
  rw [List.take_of_length_le (by omega)] at S
  have d2 := S.g.hblk b1
  have l2' := l2 X
  refine run ?_
  generalize hP1 : lineL globalsW [p.1] ++ p.2.1.flatMap poolL = P1 at S
  have hP1l : P1.length ≤ 140000 := by rw [← hP1, List.length_append]; omega
  refine SW.loop (α := Nat) (fun k => [(1, .pointer (some ⟨q1, 0, none⟩)), (5, ptr b), (38, cs), (39, .int .i64 p.2.2.length), (40, .int .i64 (k : Int))])
    (fun k X => k ≤ p.2.2.length ∧ WS 52 H1 X b (P1 ++ (p.2.2.take k).flatMap codeL)) (fun k => p.2.2.length - k) ⟨0, ⟨rfl, rfl, rfl, rfl, rfl, trivial⟩, by omega, by simpa using S⟩ ?_
  clear S F d2 l2' hml hm d1 k
  rintro k X ⟨hm, S⟩
  have F : FrW b X X := .refl _ _
  refine bC_sound _ _ _ _ ?_
  by_cases hml : k < p.2.2.length
  · have d1 : decide ((k : Int) < (p.2.2.length : Int)) = true := decide_eq_true (by omega)
    obtain ⟨c, hcd⟩ := get_lt hml
    obtain ⟨q, i1, iv, ir, i2⟩ : ∃ q, aindexAddr Tryd.prog 23 cs (.int .i64 (k : Int)) = some q ∧ ∃ iv, RL 3 insR H1 iv c.ins ∧ ∀ H', Grow H1 H' → aload Tryd.prog 45 q H' = some (codeV c iv) := by
      obtain ⟨q, l, h1, ⟨iv, rfl, h3⟩, h5⟩ := hc.ldA (P := Tryd.prog) (t := 23) (e := 45) rfl rfl rfl rfl hcd
      exact ⟨q, h1, iv, h3, h5⟩
    have i3 := i2 X S.g
    obtain ⟨n1, n2, n3, n4⟩ := code_i64 hC hcd
    have hci := (c7 k c hcd).1.2.2.2.2.2.2.2.2.2.1
    have ht : (p.2.2.take (k + 1)).flatMap codeL = (p.2.2.take k).flatMap codeL ++ codeL c := flat_snoc _ hcd
    have hle : ((p.2.2.take k).flatMap codeL).length ≤ _ := flat_take_le codeL p.2.2 k
    have hhd := headL_le c
    have hII : (c.ins.flatMap insL).length ≤ 60 * c.ins.length := flat_le fun x _ => insL_le x
    generalize hQ : (p.2.2.take k).flatMap codeL = Q at S hle ht
    refine run ?_
    refine Ob2.alloc rfl fun qc X1 hqc ac gc => ?_
    refine run ?_
    refine Ob.store rfl rfl rfl ac rfl (by first | exact Nat.le_of_ble_eq_true rfl | simp) fun X2 s1 s2 s3 => ?_
    replace gc := gc.but_new s2 (Nat.le_of_eq hqc.symm)
    replace S := S.grow gc
    replace F := F.trans (.of gc)
    (try replace ab := gc.at ab)
    (try replace bb := hblk_of ab)
    replace ac := s1
    have bc := hblk_of ac
    clear s1 s2 s3 hqc
    refine run ?_
    refine Ob2.lay (.cells (.row 3) [.int .i64 c.1, .int .i64 c.2.1, .int .i64 c.2.2.1, .int .i64 c.2.2.2.1]) (.slice (some ⟨_, 0, none⟩) 4 1) rfl fun U pa pg _ => ?_
    replace S := S.grow pg
    replace F := F.trans (.of pg)
    replace ac := pg.at ac
    replace bc := hblk_of ac
    refine run ?_
    refine (S.lineN ⟨#[99, 111, 100, 101]⟩ (L := [c.1, c.2.1, c.2.2.1, c.2.2.2.1]) (n := 4) pa (by simp) (by simp) (by intro n hn; simp only [List.mem_cons, List.not_mem_nil, or_false] at hn; rcases hn with rfl | rfl | rfl | rfl <;> assumption) (t := headL c) rfl (by simp only [List.length_append, List.length_cons, List.length_nil, lim8] at *; omega)).mono ?_
    rintro _ X ⟨S', F'⟩
    (try replace ab := S.box F' ab)
    (try replace bb := hblk_of ab)
    (try replace ac := S.box F' ac)
    (try replace bc := hblk_of ac)
    replace F := F.trans F'
    replace S := S'
    clear S' F'
    refine run ?_
    have l4 : ∀ X, alen Tryd.prog 43 iv X = some (.int .i64 c.ins.length) := fun X => ir.len rfl _
    have l4' := l4 X
    refine run ?_
    generalize hR : P1 ++ Q ++ headL c = R1 at S
    have hR1l : R1.length ≤ 8000000 := by rw [← hR]; simp only [List.length_append, List.length_cons, List.length_nil] at *; omega
    refine SW.loop (α := Nat) (fun j => [(1, .pointer (some ⟨q1, 0, none⟩)), (5, ptr b), (9, .pointer (some ⟨qc, 0, none⟩)), (38, cs), (39, .int .i64 p.2.2.length), (40, .int .i64 (k : Int)), (56, iv), (57, .int .i64 c.ins.length), (58, .int .i64 (j : Int))])
      (fun j X => j ≤ c.ins.length ∧ WS 52 H1 X b (R1 ++ (c.ins.take j).flatMap insL)) (fun j => c.ins.length - j)
      ⟨0, ⟨rfl, rfl, rfl, rfl, rfl, rfl, rfl, rfl, rfl, trivial⟩, by omega, by simpa using S⟩ ?_
    clear S F ac bc l4'
    rintro j X ⟨hj, S⟩
    have F : FrW b X X := .refl _ _
    refine bC_sound _ _ _ _ ?_
    by_cases hjl : j < c.ins.length
    · have d2 : decide ((j : Int) < (c.ins.length : Int)) = true := decide_eq_true (by omega)
      obtain ⟨x, hx⟩ := get_lt hjl
      obtain ⟨r, j1, j2⟩ := ld_insO ir hx
      have j3 := j2 X S.g
      obtain ⟨m0, m1, m2⟩ := ins_i64 hC hcd hx
      have mi : I64 x.1 := ⟨by omega, by omega⟩
      have hct : (c.ins.take (j + 1)).flatMap insL = (c.ins.take j).flatMap insL ++ insL x := flat_snoc _ hx
      have hcl : ((c.ins.take j).flatMap insL).length ≤ _ := flat_take_le insL c.ins j
      have hxl := insL_le x
      have hpn := partsN_le x.1
      refine run ?_
      refine Ob2.alloc rfl fun qc X1 hqc ac gc => ?_
      refine run ?_
      refine Ob.store rfl rfl rfl ac rfl (by first | exact Nat.le_of_ble_eq_true rfl | simp) fun X2 s1 s2 s3 => ?_
      replace gc := gc.but_new s2 (Nat.le_of_eq hqc.symm)
      replace S := S.grow gc
      replace F := F.trans (.of gc)
      (try replace ab := gc.at ab)
      (try replace bb := hblk_of ab)
      replace ac := s1
      have bc := hblk_of ac
      clear s1 s2 s3 hqc
      refine run ?_
      refine SW.sub (F := [(1, _), (5, _), (9, _), (11, _), (38, _), (39, _), (40, _), (56, _), (57, _), (58, _)]) ?_ (Sub.of ⟨rfl, rfl, rfl, rfl, rfl, rfl, rfl, rfl, rfl, rfl, trivial⟩)
      refine SW.drawP 13 (fun i F v K => match i with | 0 => v = ptr b | 1 => v = .pointer (some ⟨qc, 0, none⟩) | 2 => v = .int .i64 x.1 | 3 => v = .string (bstr (nameL x.1)) | 4 => v = .pointer (some ⟨qc, 1, none⟩) | 5 => v = .int .i64 x.2.1 | 6 => v = .pointer (some ⟨qc, 2, none⟩) | 7 => v = .int .i64 x.2.2 | 8 => ∃ g, v = .slice (some ⟨g, 0, none⟩) 2 1 ∧ K[g]? = some (.cells (.row 3) [.int .i64 x.2.1, .int .i64 x.2.2]) | 9 => v = .pointer (some ⟨qc, 0, none⟩) | 10 => v = .int .i64 x.1 | 11 => v = .int .i64 (partsN x.1 : Int) | 12 => ∃ g, v = .slice (some ⟨g, 0, none⟩) (partsN x.1) 1 ∧ K[g]? = some (.cells (.row 3) [.int .i64 x.2.1, .int .i64 x.2.2]) | _ => True) rfl (by kernel_rfl) ?_ ?_ ?_
      · intro i F v K K1 h g
        match i, h with
        | 0, h => exact h
        | 1, h => exact h
        | 2, h => exact h
        | 3, h => exact h
        | 4, h => exact h
        | 5, h => exact h
        | 6, h => exact h
        | 7, h => exact h
        | 8, h => (obtain ⟨g', h1, h2⟩ := h; exact ⟨g', h1, g.at h2⟩)
        | 9, h => exact h
        | 10, h => exact h
        | 11, h => exact h
        | 12, h => (obtain ⟨g', h1, h2⟩ := h; exact ⟨g', h1, g.at h2⟩)
        | i + 13, h => trivial
      · intro i oX V K hi hoX hg hT
        have bc := hg.hblk bc
        match i, hi, hoX, hT with
        | 0, hi, hoX, hT =>
          obtain rfl := Option.some.inj hoX
          rw [envOf_eq, show pairsOf _ _ 0 = [] from by kernel_rfl, show exOf _ _ 0 = [63, 64, 65, 66, 67, 68, 69, 70, 71, 72, 73, 74] from by kernel_rfl]
          (try simp only [valsOf])
          refine run ?_
          exact ⟨.refl _, rfl⟩
        | 1, hi, hoX, hT =>
          obtain rfl := Option.some.inj hoX
          rw [envOf_eq, show pairsOf _ _ 1 = [] from by kernel_rfl, show exOf _ _ 1 = [62, 66, 67, 68, 69, 70, 71, 72] from by kernel_rfl]
          (try simp only [valsOf])
          refine run ?_
          exact ⟨.refl _, rfl⟩
        | 2, hi, hoX, hT =>
          obtain rfl := Option.some.inj hoX
          have e1 := hT 1 (by kernel_rfl)
          (conv at e1 => whnf)
          rw [envOf_eq, show pairsOf _ _ 2 = [(63, 1)] from by kernel_rfl, show exOf _ _ 2 = [62, 63, 66, 67, 68, 69, 70, 71, 72] from by kernel_rfl]
          (try simp only [valsOf, e1])
          refine run ?_
          exact ⟨.refl _, rfl⟩
        | 3, hi, hoX, hT =>
          obtain rfl := Option.some.inj hoX
          have e1 := hT 1 (by kernel_rfl)
          (conv at e1 => whnf)
          have e2 := hT 2 (by kernel_rfl)
          (conv at e2 => whnf)
          rw [envOf_eq, show pairsOf _ _ 3 = [(63, 1), (64, 2)] from by kernel_rfl, show exOf _ _ 3 = [62, 63, 64, 66, 67, 68, 69, 70, 71, 72] from by kernel_rfl]
          (try simp only [valsOf, e1, e2])
          refine run ?_
          refine (asmName_ax _ _ mi).mono ?_
          rintro _ Y ⟨rfl, e⟩
          subst Y
          refine run ?_
          exact ⟨.refl _, rfl⟩
        | 4, hi, hoX, hT =>
          obtain rfl := Option.some.inj hoX
          rw [envOf_eq, show pairsOf _ _ 4 = [] from by kernel_rfl, show exOf _ _ 4 = [62, 63, 64, 65, 68, 69, 71, 72, 73] from by kernel_rfl]
          (try simp only [valsOf])
          refine run ?_
          exact ⟨.refl _, rfl⟩
        | 5, hi, hoX, hT =>
          obtain rfl := Option.some.inj hoX
          have e4 := hT 4 (by kernel_rfl)
          (conv at e4 => whnf)
          rw [envOf_eq, show pairsOf _ _ 5 = [(66, 4)] from by kernel_rfl, show exOf _ _ 5 = [62, 63, 64, 65, 66, 68, 69, 71, 72, 73] from by kernel_rfl]
          (try simp only [valsOf, e4])
          refine run ?_
          exact ⟨.refl _, rfl⟩
        | 6, hi, hoX, hT =>
          obtain rfl := Option.some.inj hoX
          rw [envOf_eq, show pairsOf _ _ 6 = [] from by kernel_rfl, show exOf _ _ 6 = [62, 63, 64, 65, 66, 67, 71, 72, 73] from by kernel_rfl]
          (try simp only [valsOf])
          refine run ?_
          exact ⟨.refl _, rfl⟩
        | 7, hi, hoX, hT =>
          obtain rfl := Option.some.inj hoX
          have e6 := hT 6 (by kernel_rfl)
          (conv at e6 => whnf)
          rw [envOf_eq, show pairsOf _ _ 7 = [(68, 6)] from by kernel_rfl, show exOf _ _ 7 = [62, 63, 64, 65, 66, 67, 68, 71, 72, 73] from by kernel_rfl]
          (try simp only [valsOf, e6])
          refine run ?_
          exact ⟨.refl _, rfl⟩
        | 8, hi, hoX, hT =>
          obtain rfl := Option.some.inj hoX
          have e4 := hT 4 (by kernel_rfl)
          (conv at e4 => whnf)
          have e5 := hT 5 (by kernel_rfl)
          (conv at e5 => whnf)
          have e6 := hT 6 (by kernel_rfl)
          (conv at e6 => whnf)
          have e7 := hT 7 (by kernel_rfl)
          (conv at e7 => whnf)
          rw [envOf_eq, show pairsOf _ _ 8 = [(66, 4), (67, 5), (68, 6), (69, 7)] from by kernel_rfl, show exOf _ _ 8 = [62, 63, 64, 65, 66, 67, 68, 69, 71, 72, 73] from by kernel_rfl]
          (try simp only [valsOf, e4, e5, e6, e7])
          refine run ?_
          refine Ob2.lay (.cells (.row 3) [.int .i64 x.2.1, .int .i64 x.2.2]) (.slice (some ⟨_, 0, none⟩) 2 1) rfl fun U pa pg _ => ?_
          refine run ?_
          exact ⟨pg, _, rfl, pa⟩
        | 9, hi, hoX, hT =>
          obtain rfl := Option.some.inj hoX
          rw [envOf_eq, show pairsOf _ _ 9 = [] from by kernel_rfl, show exOf _ _ 9 = [62, 63, 64, 65, 66, 67, 68, 69, 70] from by kernel_rfl]
          (try simp only [valsOf])
          refine run ?_
          exact ⟨.refl _, rfl⟩
        | 10, hi, hoX, hT =>
          obtain rfl := Option.some.inj hoX
          have e9 := hT 9 (by kernel_rfl)
          (conv at e9 => whnf)
          rw [envOf_eq, show pairsOf _ _ 10 = [(71, 9)] from by kernel_rfl, show exOf _ _ 10 = [62, 63, 64, 65, 66, 67, 68, 69, 70, 71] from by kernel_rfl]
          (try simp only [valsOf, e9])
          refine run ?_
          exact ⟨.refl _, rfl⟩
        | 11, hi, hoX, hT =>
          obtain rfl := Option.some.inj hoX
          have e1 := hT 1 (by kernel_rfl)
          (conv at e1 => whnf)
          have e2 := hT 2 (by kernel_rfl)
          (conv at e2 => whnf)
          have e3 := hT 3 (by kernel_rfl)
          (conv at e3 => whnf)
          have e9 := hT 9 (by kernel_rfl)
          (conv at e9 => whnf)
          have e10 := hT 10 (by kernel_rfl)
          (conv at e10 => whnf)
          rw [envOf_eq, show pairsOf _ _ 11 = [(63, 1), (64, 2), (65, 3), (71, 9), (72, 10)] from by kernel_rfl, show exOf _ _ 11 = [62, 63, 64, 65, 66, 67, 68, 69, 70, 71, 72] from by kernel_rfl]
          (try simp only [valsOf, e1, e2, e3, e9, e10])
          refine run ?_
          refine (asmParts_ax _ _).mono ?_
          rintro _ Y ⟨rfl, e⟩
          subst Y
          refine run ?_
          exact ⟨.refl _, rfl⟩
        | 12, hi, hoX, hT =>
          obtain rfl := Option.some.inj hoX
          have e1 := hT 1 (by kernel_rfl)
          (conv at e1 => whnf)
          have e2 := hT 2 (by kernel_rfl)
          (conv at e2 => whnf)
          have e3 := hT 3 (by kernel_rfl)
          (conv at e3 => whnf)
          have e4 := hT 4 (by kernel_rfl)
          (conv at e4 => whnf)
          have e5 := hT 5 (by kernel_rfl)
          (conv at e5 => whnf)
          have e6 := hT 6 (by kernel_rfl)
          (conv at e6 => whnf)
          have e7 := hT 7 (by kernel_rfl)
          (conv at e7 => whnf)
          have e8 := hT 8 (by kernel_rfl)
          (conv at e8 => whnf)
          have e9 := hT 9 (by kernel_rfl)
          (conv at e9 => whnf)
          have e10 := hT 10 (by kernel_rfl)
          (conv at e10 => whnf)
          have e11 := hT 11 (by kernel_rfl)
          (conv at e11 => whnf)
          rw [envOf_eq, show pairsOf _ _ 12 = [(63, 1), (64, 2), (65, 3), (66, 4), (67, 5), (68, 6), (69, 7), (70, 8), (71, 9), (72, 10), (73, 11)] from by kernel_rfl, show exOf _ _ 12 = [62, 63, 64, 65, 66, 67, 68, 69, 70, 71, 72, 73] from by kernel_rfl]
          (try simp only [valsOf, e1, e2, e3, e4, e5, e6, e7, e9, e10, e11])
          obtain ⟨gg, e8, r8⟩ := e8
          simp only [e8]
          have sl : aslice Tryd.prog 57 (.slice (some ⟨gg, 0, none⟩) 2 1) none (some (.int .i64 (partsN x.1 : Int))) none = some (.slice (some ⟨gg, 0, none⟩) (partsN x.1) 1) := by rw [slice_hi (e := 3) rfl rfl (by omega) (by omega)]; simp
          refine run ?_
          exact ⟨.refl _, gg, rfl, r8⟩
      intro oX V K hV hoX hg hT
      have bc := hg.hblk bc
      obtain rfl := Option.some.inj hoX
      have e0 := hT 0 (by decide)
      (conv at e0 => whnf)
      have e1 := hT 1 (by decide)
      (conv at e1 => whnf)
      have e2 := hT 2 (by decide)
      (conv at e2 => whnf)
      have e3 := hT 3 (by decide)
      (conv at e3 => whnf)
      have e4 := hT 4 (by decide)
      (conv at e4 => whnf)
      have e5 := hT 5 (by decide)
      (conv at e5 => whnf)
      have e6 := hT 6 (by decide)
      (conv at e6 => whnf)
      have e7 := hT 7 (by decide)
      (conv at e7 => whnf)
      have e8 := hT 8 (by decide)
      try rw [show pairsOf _ _ 8 = [(66, 4), (67, 5), (68, 6), (69, 7)] from by kernel_rfl] at e8
      (try simp only [valsOf] at e8)
      (conv at e8 => whnf)
      have e9 := hT 9 (by decide)
      (conv at e9 => whnf)
      have e10 := hT 10 (by decide)
      (conv at e10 => whnf)
      have e11 := hT 11 (by decide)
      (conv at e11 => whnf)
      have e12 := hT 12 (by decide)
      try rw [show pairsOf _ _ 12 = [(63, 1), (64, 2), (65, 3), (66, 4), (67, 5), (68, 6), (69, 7), (70, 8), (71, 9), (72, 10), (73, 11)] from by kernel_rfl] at e12
      (try simp only [valsOf] at e12)
      (conv at e12 => whnf)
      have es : ∀ v k, k ≠ 13 → (V.set 13 v).getD k undef = V.getD k undef := fun v k hk => by rw [getD_set (by omega), if_neg hk]
      have ec : ∀ v, (V.set 13 v).getD 13 undef = v := fun v => by rw [getD_set (by omega), if_pos rfl]
      rw [envOf_eq, show pairsOf _ _ 13 = [(62, 0), (63, 1), (64, 2), (65, 3), (66, 4), (67, 5), (68, 6), (69, 7), (70, 8), (71, 9), (72, 10), (73, 11), (74, 12)] from by kernel_rfl, show exOf _ _ 13 = [62, 63, 64, 65, 66, 67, 68, 69, 70, 71, 72, 73, 74] from by kernel_rfl]
      (try simp only [valsOf, e0, e1, e2, e3, e4, e5, e6, e7, e9, e10, e11])
      obtain ⟨gg, e12, r12⟩ := e12
      simp only [e12]
      (conv => whnf)
      replace S := S.grow hg
      replace F := F.trans (.of hg)
      replace ac := hg.at ac
      refine (S.lineN _ (L := [x.2.1, x.2.2]) r12 (by simpa using hpn) (by simp) (by intro n hn; simp only [List.mem_cons, List.not_mem_nil, or_false] at hn; rcases hn with rfl | rfl <;> assumption) (t := insL x) (by rw [bstr_list]; rfl) (by simp only [List.length_append, List.length_cons, List.length_nil, lim8] at *; omega)).mono ?_
      rintro _ X ⟨S', F'⟩
      replace S := S'
      (try dsimp only)
      rw [endOf_eq, show endsOf _ = [(62, 0), (63, 1), (64, 2), (65, 3), (66, 4), (67, 5), (68, 6), (69, 7), (70, 8), (71, 9), (72, 10), (73, 11), (74, 12), (75, 13)] from by kernel_rfl]
      simp only [valsOf, ec, es _ 0 (by decide), es _ 1 (by decide), es _ 2 (by decide), es _ 3 (by decide), es _ 4 (by decide), es _ 5 (by decide), es _ 6 (by decide), es _ 7 (by decide), es _ 8 (by decide), es _ 9 (by decide), es _ 10 (by decide), es _ 11 (by decide), es _ 12 (by decide)]
      clear F' hT es e0 e1 e2 e3 e4 e5 e6 e7 e8 e9 e10 e11 e12 r12 hg
      refine run ?_
      rw [List.append_assoc, ← hct] at S
      exact ⟨j + 1, ⟨rfl, rfl, rfl, rfl, rfl, rfl, rfl, rfl, congrArg (fun z => some (Value.int .i64 z)) (w_succ (by omega)), trivial⟩, ⟨hjl, S⟩, by show c.ins.length - (j + 1) < c.ins.length - j; omega⟩
    have d2 : decide ((j : Int) < (c.ins.length : Int)) = false := decide_eq_false (by omega)
    rw [List.take_of_length_le (by omega)] at S
    refine run ?_
    refine ⟨k + 1, ⟨rfl, rfl, rfl, rfl, congrArg (fun z => some (Value.int .i64 z)) (w_succ (by omega)), trivial⟩, ⟨hml, ?_⟩, by show p.2.2.length - (k + 1) < p.2.2.length - k; omega⟩
    rw [ht]
    rw [← hR] at S
    simpa only [codeL, List.append_assoc] using S
  have d1 : decide ((k : Int) < (p.2.2.length : Int)) = false := decide_eq_false (by omega)
  rw [List.take_of_length_le (by omega)] at S
  have hfin : P1 ++ p.2.2.flatMap codeL = progL p := by rw [← hP1]; rfl
  have hT : (progL p).length ≤ 8000000 := by rw [← hfin, List.length_append]; omega
  rw [hfin] at S
  refine run ?_
  refine (string_ax S.bl (by omega)).mono ?_
  rintro _ Y ⟨rfl, e⟩
  refine run ?_
  exact ⟨rfl, g1.trans (Keep.grow ((S.g.keep (Nat.le_refl _)).trans e))⟩
end Go.Proofs.YtmdpifedcaaobaaDoor
/- The reference of asm: Print. -/
set_option linter.unusedVariables false
set_option linter.unusedSimpArgs false
set_option maxRecDepth 20000
set_option maxHeartbeats 8000000
namespace Go.Proofs.YtmdpifedcaaobaaDoor
open Go Ax
theorem rlineN_ax {H : Heap} (first : Bs) {g n : Nat} {L : List Int} (hr : H[g]? = some (.cells (.row 3) (L.map (Value.int .i64)))) (hn : n ≤ L.length) (hL : L.length ≤ 8) (hf : first.length ≤ 1000000) (hi : ∀ n ∈ L, I64 n) :
    AX Tryd.prog 34 #[.string (bstr first), .slice (some ⟨g, 0, none⟩) n 1] H (fun r H' => r = .string (bstr (lineL first (L.take n))) ∧ H' = H) :=
  rline_ax first (RL.ints hr hn) (by rw [List.length_take]; omega) hf (fun n h => hi n (List.mem_of_mem_take h))
theorem rInstr_ax {H : Heap} {x : Ins} (m0 : I64 x.1) (m1 : I64 x.2.1) (m2 : I64 x.2.2) : AX Tryd.prog 36 #[insV x.1 x.2.1 x.2.2] H (fun r H' => r = .string (bstr (insL x)) ∧ H' = H) := by
  refine AX.quiet ?_
  suffices hh : AX Tryd.prog 36 #[insV x.1 x.2.1 x.2.2] H (fun r H' => r = .string (bstr (insL x)) ∧ Grow H H') from hh.mono fun v _ ⟨e, g⟩ => ⟨e ▸ plain_str _, e, g⟩
  have hpn := partsN_le x.1
  have hnl := name_le x.1
  refine AX.body (n := 18) (rs := [.tmp 2]) Tryd.func36 rfl (by decide) rfl rfl (bC_sound _ _ _ _ ?_)
  (conv => whnf)
  refine Ob2.box rfl fun q1 H1 hq1 a1 g1 => ?_
  have b1 := hblk_of a1
  refine run ?_
  refine Ob2.lay (.cells (.row 3) [.int .i64 x.2.1, .int .i64 x.2.2]) (.slice (some ⟨_, 0, none⟩) 2 1) rfl fun H2 pa g2 _ => ?_
  have c1 := g2.hblk b1
  have sl : aslice Tryd.prog 57 (.slice (some ⟨H1.length, 0, none⟩) 2 1) none (some (.int .i64 (partsN x.1 : Int))) none = some (.slice (some ⟨H1.length, 0, none⟩) (partsN x.1) 1) := by
    rw [slice_hi (e := 3) rfl rfl (by omega) (by omega)]; simp
  refine run ?_
  apply SW.drawG [(0, [], [12, 13, 14], false), (1, [(9, 0)], [9, 12, 13, 14], false), (3, [], [9, 10, 11, 13, 14, 15], false), (4, [], [9, 10, 11, 12], false), (5, [(13, 4)], [9, 10, 11, 12, 13], false), (2, [(9, 0), (10, 1)], [9, 10, 12, 13, 14], true), (6, [(9, 0), (10, 1), (11, 2), (13, 4), (14, 5)], [9, 10, 11, 12, 13, 14], true), (7, [(9, 0), (10, 1), (11, 2), (12, 3), (13, 4), (14, 5), (15, 6)], [9, 10, 11, 12, 13, 14, 15], false), (8, [(9, 0), (10, 1), (11, 2), (12, 3), (13, 4), (14, 5), (15, 6), (16, 7)], [9, 10, 11, 12, 13, 14, 15, 16], true), (9, [(9, 0), (10, 1), (11, 2), (12, 3), (13, 4), (14, 5), (15, 6), (16, 7), (17, 8)], [9, 10, 11, 12, 13, 14, 15, 16, 17], false)]
    [(9, 0), (10, 1), (11, 2), (12, 3), (13, 4), (14, 5), (15, 6), (16, 7), (17, 8), (2, 9)]
    [(1, _), (3, _)] rfl (by kernel_rfl)
  case hF => exact ⟨rfl, rfl, trivial⟩
  refine run ?_
  refine (refName_ax _ _ m0).mono ?_
  rintro _ Y ⟨rfl, e⟩
  subst Y
  refine run ?_
  refine (refParts_ax _ _).mono ?_
  rintro _ Y ⟨rfl, e⟩
  subst Y
  refine run ?_
  refine (rlineN_ax (nameL x.1) (L := [x.2.1, x.2.2]) pa (by simpa using hpn) (by simp) (by omega) (by intro n hn; simp only [List.mem_cons, List.not_mem_nil, or_false] at hn; rcases hn with rfl | rfl <;> assumption)).mono ?_
  rintro _ Y ⟨rfl, e⟩
  subst Y
  refine run ?_
  exact ⟨rfl, g1.trans g2⟩
theorem rText_ax {H : Heap} {p : ProgT} {ps cs : Value} (hp : RL 1 strR H ps p.2.1) (hc : RL 5 codeR H cs p.2.2) (hC : CheckP p) :
    AX Tryd.prog 22 #[progV p ps cs] H (fun r H' => r = .string (bstr (progL p)) ∧ H' = H) := by
  refine AX.quiet ?_
  suffices hh : AX Tryd.prog 22 #[progV p ps cs] H (fun r H' => r = .string (bstr (progL p)) ∧ Grow H H') from hh.mono fun v _ ⟨e, g⟩ => ⟨e ▸ plain_str _, e, g⟩
  obtain ⟨hA, hB⟩ := progB_of hC
  obtain ⟨c1, c2, c3, c4, c5, c6, c7⟩ := hC
  have hC : CheckP p := ⟨c1, c2, c3, c4, c5, c6, c7⟩
  refine AX.body (n := 69) (rs := [.tmp 2]) Tryd.func22 rfl (by decide) rfl rfl (bC_sound _ _ _ _ ?_)
  (conv => whnf)
  refine Ob2.box rfl fun q1 H1 hq1 a1 g1 => ?_
  have b1 := hblk_of a1
  replace hp := strR.grow hp g1
  replace hc := codeR.grow hc g1
  have l1 : ∀ X, alen Tryd.prog 22 ps X = some (.int .i64 p.2.1.length) := fun X => hp.len rfl _
  have l2 : ∀ X, alen Tryd.prog 23 cs X = some (.int .i64 p.2.2.length) := fun X => hc.len rfl _
  have hd := line_le globalsW [p.1]
  have hgw : globalsW.length = 7 := rfl
  simp only [List.length_cons, List.length_nil] at hd
  refine run ?_
  refine Ob2.lay (.cells (.row 3) [.int .i64 p.1]) (.slice (some ⟨_, 0, none⟩) 1 1) rfl fun H2 pa g2 _ => ?_
  refine run ?_
  refine (rlineN_ax globalsW (L := [p.1]) (n := 1) pa (by simp) (by simp) (by omega) (by intro n hn; simp only [List.mem_cons, List.not_mem_nil, or_false] at hn; subst hn; exact ⟨by omega, by omega⟩)).mono ?_
  rintro _ X ⟨rfl, e⟩
  subst X
  refine run ?_
  refine SW.loop (α := Nat) (fun k => [(1, .pointer (some ⟨q1, 0, none⟩)), (3, .string (bstr (lineL globalsW [p.1] ++ (p.2.1.take k).flatMap poolL))), (4, .int .i64 (k : Int))])
    (fun k X => k ≤ p.2.1.length ∧ Grow H1 X) (fun k => p.2.1.length - k) ⟨0, ⟨rfl, congrArg (fun z => some (Value.string (bstr z))) (by simp), rfl, trivial⟩, by omega, g2⟩ ?_
  rintro k X ⟨hm, gX⟩
  have d1 := gX.hblk b1
  have l1' := l1 X
  refine bC_sound _ _ _ _ ?_
  by_cases hml : k < p.2.1.length
  · have d2 : decide ((k : Int) < (p.2.1.length : Int)) = true := decide_eq_true (by omega)
    obtain ⟨s, hs⟩ := get_lt hml
    obtain ⟨q, i1, i2⟩ := ld_str hp hs
    have i3 := i2 X gX
    have hsm := List.mem_of_getElem? hs
    have hsz := c6 s hsm
    have ht : (p.2.1.take (k + 1)).flatMap poolL = (p.2.1.take k).flatMap poolL ++ poolL s := flat_snoc _ hs
    have hle : ((p.2.1.take k).flatMap poolL).length ≤ _ := flat_take_le poolL p.2.1 k
    have hpl := poolL_le hsz
    have hq := quote_le s.data.toList
    have h3 : s.data.toList.length = s.size := by rw [Array.length_toList]; rfl
    have h5 : poolW.length = 5 := rfl
    refine run ?_
    refine (rquote_ax _ (by omega)).mono ?_
    rintro _ Y ⟨rfl, e⟩
    subst Y
    refine run ?_
    refine Ob.cat (l := poolW) (m := quoteS s.data.toList) rfl (by simp) (by omega) ?_
    refine run ?_
    refine (rline_ax (poolW ++ quoteS s.data.toList) (L := []) (.inl ⟨rfl, rfl⟩) (by simp) (by rw [List.length_append]; omega) (by simp)).mono ?_
    rintro _ Y ⟨rfl, e⟩
    subst Y
    have hpl2 : lineL (poolW ++ quoteS s.data.toList) [] = poolL s := rfl
    rw [hpl2]
    refine run ?_
    refine Ob.cat (by first | exact bstr_list _ | rfl) (by first | exact bstr_list _ | rfl) (by first | omega | (simp only [List.length_append, List.length_cons, List.length_nil]; omega) | (simp only [List.length_append, List.length_cons, List.length_nil] at *; omega)) ?_
    refine run ?_
    exact ⟨k + 1, ⟨rfl, congrArg (fun z => some (Value.string (bstr z))) (by rw [ht]; simp), congrArg (fun z => some (Value.int .i64 z)) (w_succ (by omega)), trivial⟩, ⟨hml, gX⟩, by show p.2.1.length - (k + 1) < p.2.1.length - k; omega⟩
  have d2 : decide ((k : Int) < (p.2.1.length : Int)) = false := decide_eq_false (by omega)
  rw [List.take_of_length_le (by omega)]
  refine run ?_
  generalize hP1 : lineL globalsW [p.1] ++ p.2.1.flatMap poolL = P1
  have hP1l : P1.length ≤ 140000 := by rw [← hP1, List.length_append]; omega
  refine SW.loop (α := Nat) (fun k => [(1, .pointer (some ⟨q1, 0, none⟩)), (3, .string (bstr (P1 ++ (p.2.2.take k).flatMap codeL))), (5, .int .i64 (k : Int))])
    (fun k X => k ≤ p.2.2.length ∧ Grow H1 X) (fun k => p.2.2.length - k) ⟨0, ⟨rfl, congrArg (fun z => some (Value.string (bstr z))) (by simp), rfl, trivial⟩, by omega, gX⟩ ?_
  clear d1 l1' hml hm d2 gX k X
  rintro k X ⟨hm, gX⟩
  have d1 := gX.hblk b1
  have l2' := l2 X
  refine bC_sound _ _ _ _ ?_
  by_cases hml : k < p.2.2.length
  · have d2 : decide ((k : Int) < (p.2.2.length : Int)) = true := decide_eq_true (by omega)
    obtain ⟨c, hcd⟩ := get_lt hml
    obtain ⟨q, i1, iv, ir, i2⟩ : ∃ q, aindexAddr Tryd.prog 23 cs (.int .i64 (k : Int)) = some q ∧ ∃ iv, RL 3 insR H1 iv c.ins ∧ ∀ H', Grow H1 H' → aload Tryd.prog 45 q H' = some (codeV c iv) := by
      obtain ⟨q, l, h1, ⟨iv, rfl, h3⟩, h5⟩ := hc.ldA (P := Tryd.prog) (t := 23) (e := 45) rfl rfl rfl rfl hcd
      exact ⟨q, h1, iv, h3, h5⟩
    have i3 := i2 X gX
    obtain ⟨n1, n2, n3, n4⟩ := code_i64 hC hcd
    have hci := (c7 k c hcd).1.2.2.2.2.2.2.2.2.2.1
    have ht : (p.2.2.take (k + 1)).flatMap codeL = (p.2.2.take k).flatMap codeL ++ codeL c := flat_snoc _ hcd
    have hle : ((p.2.2.take k).flatMap codeL).length ≤ _ := flat_take_le codeL p.2.2 k
    have hhd := headL_le c
    have hII : (c.ins.flatMap insL).length ≤ 60 * c.ins.length := flat_le fun x _ => insL_le x
    have hcw : codeW.length = 4 := rfl
    generalize hQ : (p.2.2.take k).flatMap codeL = Q at hle ht ⊢
    refine run ?_
    refine Ob2.alloc rfl fun qc X1 hqc ac gc => ?_
    refine run ?_
    refine Ob.store rfl rfl rfl ac rfl (by first | exact Nat.le_of_ble_eq_true rfl | simp) fun X2 s1 s2 s3 => ?_
    replace gc := gc.but_new s2 (Nat.le_of_eq hqc.symm)
    have s1 : X2[qc]? = some (.cells .var [.int .i64 c.1, .int .i64 c.2.1, .int .i64 c.2.2.1, .int .i64 c.2.2.2.1, iv]) := s1
    have bc := hblk_of s1
    have g2' := gX.trans gc
    have l4 : ∀ X, alen Tryd.prog 43 iv X = some (.int .i64 c.ins.length) := fun X => ir.len rfl _
    refine run ?_
    refine Ob2.lay (.cells (.row 3) [.int .i64 c.1, .int .i64 c.2.1, .int .i64 c.2.2.1, .int .i64 c.2.2.2.1]) (.slice (some ⟨_, 0, none⟩) 4 1) rfl fun X3 pa3 g3 _ => ?_
    have bc3 := g3.hblk bc
    have g3' := g2'.trans g3
    refine run ?_
    refine (rlineN_ax codeW (L := [c.1, c.2.1, c.2.2.1, c.2.2.2.1]) (n := 4) pa3 (by simp) (by simp) (by omega) (by intro n hn; simp only [List.mem_cons, List.not_mem_nil, or_false] at hn; rcases hn with rfl | rfl | rfl | rfl <;> assumption)).mono ?_
    rintro _ Y ⟨rfl, e⟩
    subst Y
    have hhe : lineL codeW (List.take 4 [c.1, c.2.1, c.2.2.1, c.2.2.2.1]) = headL c := rfl
    rw [hhe]
    refine run ?_
    refine Ob.cat (by first | exact bstr_list _ | rfl) (by first | exact bstr_list _ | rfl) (by first | omega | (simp only [List.length_append, List.length_cons, List.length_nil]; omega) | (simp only [List.length_append, List.length_cons, List.length_nil] at *; omega)) ?_
    refine run ?_
    generalize hR : P1 ++ Q ++ headL c = R1
    have hR1l : R1.length ≤ 8000000 := by rw [← hR]; simp only [List.length_append, List.length_cons, List.length_nil] at *; omega
    refine SW.loop (α := Nat) (fun j => [(1, .pointer (some ⟨q1, 0, none⟩)), (3, .string (bstr (R1 ++ (c.ins.take j).flatMap insL))), (5, .int .i64 (k : Int)), (6, .pointer (some ⟨qc, 0, none⟩)), (7, .int .i64 (j : Int))])
      (fun j Y => j ≤ c.ins.length ∧ Y = X3) (fun j => c.ins.length - j)
      ⟨0, ⟨rfl, congrArg (fun z => some (Value.string (bstr z))) (by simp), rfl, rfl, rfl, trivial⟩, by omega, rfl⟩ ?_
    rintro j Y ⟨hj, e⟩
    subst Y
    have l4' := l4 X3
    refine bC_sound _ _ _ _ ?_
    by_cases hjl : j < c.ins.length
    · have d3 : decide ((j : Int) < (c.ins.length : Int)) = true := decide_eq_true (by omega)
      obtain ⟨x, hx⟩ := get_lt hjl
      obtain ⟨r, j1, j2⟩ := ld_insO ir hx
      have j3 := j2 X3 g3'
      obtain ⟨m0, m1, m2⟩ := ins_i64 hC hcd hx
      have hct : (c.ins.take (j + 1)).flatMap insL = (c.ins.take j).flatMap insL ++ insL x := flat_snoc _ hx
      have hcl : ((c.ins.take j).flatMap insL).length ≤ _ := flat_take_le insL c.ins j
      have hxl := insL_le x
      refine run ?_
      refine (rInstr_ax (x := x) ⟨by omega, by omega⟩ m1 m2).mono ?_
      rintro _ Y ⟨rfl, e⟩
      subst Y
      refine run ?_
      refine Ob.cat (by first | exact bstr_list _ | rfl) (by first | exact bstr_list _ | rfl) (by first | omega | (simp only [List.length_append, List.length_cons, List.length_nil]; omega) | (simp only [List.length_append, List.length_cons, List.length_nil] at *; omega)) ?_
      refine run ?_
      exact ⟨j + 1, ⟨rfl, congrArg (fun z => some (Value.string (bstr z))) (by rw [hct]; simp), rfl, rfl, congrArg (fun z => some (Value.int .i64 z)) (w_succ (by omega)), trivial⟩, ⟨hjl, rfl⟩, by show c.ins.length - (j + 1) < c.ins.length - j; omega⟩
    have d3 : decide ((j : Int) < (c.ins.length : Int)) = false := decide_eq_false (by omega)
    rw [List.take_of_length_le (by omega)]
    refine run ?_
    exact ⟨k + 1, ⟨rfl, congrArg (fun z => some (Value.string (bstr z))) (by rw [ht, ← hR]; simp [codeL]), congrArg (fun z => some (Value.int .i64 z)) (w_succ (by omega)), trivial⟩, ⟨hml, g3'⟩, by show p.2.2.length - (k + 1) < p.2.2.length - k; omega⟩
  have d2 : decide ((k : Int) < (p.2.2.length : Int)) = false := decide_eq_false (by omega)
  rw [List.take_of_length_le (by omega)]
  have hfin : P1 ++ p.2.2.flatMap codeL = progL p := by rw [← hP1]; rfl
  rw [hfin]
  refine run ?_
  exact ⟨rfl, g1.trans gX⟩
theorem refPrint_ax {H : Heap} {p : ProgT} {ps cs : Value} (hp : RL 1 strR H ps p.2.1) (hc : RL 5 codeR H cs p.2.2) (hL : p.2.1.length < 4294967296) :
    AX Tryd.prog 10 #[progV p ps cs] H (fun r H' => r = .tuple #[.string (printA p).1, .int .i64 (printA p).2] ∧ H' = H) := by
  refine AX.quiet ?_
  suffices hh : AX Tryd.prog 10 #[progV p ps cs] H (fun r H' => r = .tuple #[.string (printA p).1, .int .i64 (printA p).2] ∧ Grow H H') from hh.mono fun v _ ⟨e, g⟩ => ⟨e ▸ plain_tuple (vs := [_, _]) (fun x hx => by simp only [List.mem_cons, List.not_mem_nil, or_false] at hx; rcases hx with rfl | rfl; exact plain_str _; exact plain_int _ _), e, g⟩
  refine AX.body (n := 12) (rs := [.tmp 2, .tmp 3]) Tryd.func10 rfl (by decide) rfl rfl (bC_sound _ _ _ _ ?_)
  (conv => whnf)
  refine Ob2.box rfl fun q1 H1 hq1 a1 g1 => ?_
  have b1 := hblk_of a1
  replace hp := strR.grow hp g1
  replace hc := codeR.grow hc g1
  refine run ?_
  refine (rcheck_ax hp hc hL).mono ?_
  rintro _ X ⟨hv, e⟩
  subst X
  rcases hv with ⟨rfl, hC⟩ | ⟨rfl, hC⟩
  rotate_left
  · have e : printA p = (⟨#[]⟩, 16) := if_neg hC
    rw [e]
    refine run ?_
    exact ⟨rfl, g1⟩
  have e : printA p = (bstr (progL p), 0) := if_pos hC
  rw [e]
  refine run ?_
  refine (rText_ax hp hc hC).mono ?_
  rintro _ X ⟨rfl, e⟩
  subst X
  refine run ?_
  exact ⟨rfl, g1⟩
end Go.Proofs.YtmdpifedcaaobaaDoor
/- strings.Count of one byte, out of the shelf; the program's lay-out printed by lays.py. -/
set_option linter.unusedVariables false
set_option linter.unusedSimpArgs false
set_option maxRecDepth 100000
set_option maxHeartbeats 8000000
namespace Go.Proofs.YtmdpifedcaaobaaDoor
open Go Ax
def lay138 : Go.Shelf.Ren := ⟨fun n => if n = 138 then 88 else if n = 143 then 89 else if n = 195 then 97 else if n = 217 then 78 else if n = 218 then 99 else if n = 219 then 57 else if n = 224 then 80 else if n = 225 then 79 else if n = 266 then 93 else if n = 267 then 81 else if n = 314 then 94 else n, fun n => if n = 0 then 0 else if n = 3 then 3 else if n = 4 then 4 else if n = 5 then 5 else if n = 9 then 9 else if n = 46 then 77 else if n = 51 then 126 else if n = 72 then 50 else if n = 146 then 127 else n, fun n => if n = 1 then 0 else n⟩
theorem lays138 : Lays.n138 Tryd.prog lay138 where
  mixed := by kernel_rfl
  f138 := by kernel_rfl
  f143 := by kernel_rfl
  f195 := by kernel_rfl
  f217 := by kernel_rfl
  f218 := by kernel_rfl
  f219 := by kernel_rfl
  f224 := by kernel_rfl
  f225 := by kernel_rfl
  f266 := by kernel_rfl
  f267 := by kernel_rfl
  f314 := by kernel_rfl
  t0 := by kernel_rfl
  a0 := fun _ => rfl
  z0 := fun _ => rfl
  v0 := fun _ => rfl
  t3 := by kernel_rfl
  a3 := fun _ => rfl
  z3 := fun _ => rfl
  v3 := fun _ => rfl
  t4 := by kernel_rfl
  a4 := fun _ => rfl
  z4 := fun _ => rfl
  v4 := fun _ => rfl
  t5 := by kernel_rfl
  a5 := fun _ => rfl
  z5 := fun _ => rfl
  v5 := fun _ => rfl
  t9 := by kernel_rfl
  a9 := fun _ => rfl
  z9 := fun _ => rfl
  v9 := fun _ => rfl
  t46 := by kernel_rfl
  a46 := fun _ => rfl
  z46 := fun _ => rfl
  v46 := fun _ => rfl
  t51 := by kernel_rfl
  a51 := fun _ => rfl
  z51 := fun _ => rfl
  v51 := fun _ => rfl
  t146 := by kernel_rfl
  a146 := fun _ => rfl
  z146 := fun _ => rfl
  v146 := fun _ => rfl
  g1 := by kernel_rfl
theorem count_ax (H : Heap) (s : ByteArray) (c : UInt8) : AX Tryd.prog 88 #[.string s, .string ⟨#[c]⟩] H (fun v H' => v = .int .i64 (Lib.countByte s.data.toList c) ∧ H' = H) := by
  refine ⟨⟨_, rfl, rfl, by decide⟩, fun w0 ι w cargs hw ha => ?_⟩
  obtain ⟨a0, a1⟩ := ha
  obtain ⟨c0, c1, rfl⟩ : ∃ c0 c1, cargs = #[c0, c1] := by
    obtain ⟨l⟩ := cargs
    match l, a0 with
    | [x, y], _ => exact ⟨x, y, rfl⟩
  have h0 : VR ι (.string s) c0 := a1 0 (Nat.zero_lt_succ 1)
  have h1 : VR ι (.string ⟨#[c]⟩) c1 := a1 1 (Nat.lt_succ_self 1)
  cases h0
  cases h1
  refine (Any.strings_Count_one lays138 s c w).mono fun e w' h => ?_
  obtain ⟨rfl, rfl⟩ := h
  exact ⟨_, H, ι, ⟨rfl, rfl⟩, .refl _, hw, .int _ _⟩
end Go.Proofs.YtmdpifedcaaobaaDoor
/- The library's Index, Cut, CutPrefix, of one byte; lists between blanks. -/
set_option linter.unusedVariables false
set_option linter.unusedSimpArgs false
set_option maxRecDepth 20000
set_option maxHeartbeats 8000000
namespace Go.Proofs.YtmdpifedcaaobaaDoor
open Go Ax
def headC (c : UInt8) (L : Bs) : Bs := L.takeWhile (· != c)
def restC (c : UInt8) (L : Bs) : Bs := (L.dropWhile (· != c)).tail
theorem head_no {c : UInt8} : ∀ {L : Bs}, c ∉ L → headC c L = L ∧ restC c L = []
  | [], _ => ⟨rfl, rfl⟩
  | d :: L, h => by
    have hd : (d != c) = true := by rw [bne_iff_ne]; rintro rfl; exact h (List.mem_cons_self ..)
    have := head_no (c := c) (L := L) fun hm => h (List.mem_cons_of_mem _ hm)
    unfold headC restC at this ⊢
    rw [List.takeWhile_cons, if_pos hd, List.dropWhile_cons, if_pos hd, this.1]
    exact ⟨rfl, this.2⟩
theorem head_yes {c : UInt8} : ∀ {L : Bs}, c ∈ L → L = headC c L ++ c :: restC c L ∧ c ∉ headC c L
  | [], h => by simp at h
  | d :: L, h => by
    unfold headC restC
    by_cases hd : d = c
    · subst hd
      rw [List.takeWhile_cons, if_neg (by simp), List.dropWhile_cons, if_neg (by simp)]
      simp
    · have hm : c ∈ L := by
        rcases List.mem_cons.1 h with rfl | h
        · exact absurd rfl hd
        · exact h
      have := head_yes hm
      unfold headC restC at this
      rw [List.takeWhile_cons, if_pos (by simp [hd]), List.dropWhile_cons, if_pos (by simp [hd])]
      refine ⟨by rw [List.cons_append, ← this.1], fun hh => ?_⟩
      rcases List.mem_cons.1 hh with rfl | hh
      · exact hd rfl
      · exact this.2 hh
theorem head_len {c : UInt8} (L : Bs) : (headC c L).length ≤ L.length := by
  have : (headC c L).length + (L.dropWhile (· != c)).length = L.length := by
    rw [← List.length_append]; unfold headC; rw [List.takeWhile_append_dropWhile]
  omega
theorem rest_len {c : UInt8} {L : Bs} (h : c ∈ L) : (headC c L).length + 1 + (restC c L).length = L.length := by
  have := congrArg List.length (head_yes h).1
  rw [List.length_append, List.length_cons] at this
  omega
theorem at_bang {L : Bs} {i : Nat} {c : UInt8} (h : L[i]? = some c) : (bstr L)[i]! = c := by
  have hi := lt_of_get h
  have : i < (bstr L).size := by rw [bstr_size]; exact hi
  rw [getElem!_pos (bstr L) i this]
  have e := (List.getElem?_eq_some_iff.1 h).2
  exact e
theorem byte_back (c : UInt8) : (c.toNat : Int).toNat.toUInt8 = c := by
  rw [Int.toNat_natCast]
  simp
theorem index_eq (L : Bs) (c : UInt8) : indexB (bstr L) (c.toNat : Int) = if c ∈ L then ((headC c L).length : Int) else -1 := by
  unfold indexB
  simp only [byte_back]
  split
  · rename_i i hi
    rw [List.find?_range_eq_some] at hi
    obtain ⟨h1, h2, h3⟩ := hi
    rw [List.mem_range, bstr_size] at h2
    obtain ⟨d, hd⟩ := get_lt h2
    rw [at_bang hd] at h1
    have h1 : d = c := by simpa using h1
    subst h1
    have hm := List.mem_of_getElem? hd
    rw [if_pos hm]
    obtain ⟨e, hn⟩ := head_yes hm
    have hl := rest_len hm
    congr 1
    rcases Nat.lt_trichotomy i (headC d L).length with h | h | h
    · rw [e, List.getElem?_append_left h] at hd
      exact absurd (List.mem_of_getElem? hd) hn
    · exact h
    · have hj := h3 _ h
      have : L[(headC d L).length]? = some d := (congrArg (fun z : Bs => z[(headC d L).length]?) e).trans (by
        show (headC d L ++ d :: restC d L)[(headC d L).length]? = some d
        rw [List.getElem?_append_right (Nat.le_refl _), Nat.sub_self]; rfl)
      rw [at_bang this] at hj
      simp at hj
  · rename_i hi
    rw [List.find?_range_eq_none] at hi
    rw [if_neg]
    intro hm
    obtain ⟨i, hi2⟩ := List.getElem?_of_mem hm
    have := hi i (by rw [bstr_size]; exact lt_of_get hi2)
    rw [at_bang hi2] at this
    simp at this
def idxI (c : UInt8) (L : Bs) : Int := if c ∈ L then ((headC c L).length : Int) else -1
theorem index1_ax (H : Heap) (L : Bs) (c : UInt8) : AX Tryd.prog 57 #[.string (bstr L), .string ⟨#[c]⟩] H (fun v H' => v = .int .i64 (idxI c L) ∧ H' = H) := by
  have ix : aindex Tryd.prog 9 (.string ⟨#[c]⟩) (.int .i64 0) = some (u8 c) := aix (s := ⟨#[c]⟩) (k := 0) rfl
  have eq : abin Tryd.prog .eql 9 (.string ⟨#[c]⟩) (.string (bstr L)) = some (.bool (decide (L = [c]))) := by
    have : abin Tryd.prog .eql 9 (.string ⟨#[c]⟩) (.string (bstr L)) = some (.bool ((⟨#[c]⟩ : ByteArray) == bstr L)) := rfl
    rw [this]
    congr 2
    rw [Bool.eq_iff_iff, beq_iff_eq, decide_eq_true_iff]
    constructor
    · intro h
      have := congrArg (fun s : ByteArray => s.data.toList) h
      rw [bstr_list] at this
      exact this.symm
    · rintro rfl; rfl
  have hb : AX Tryd.prog 78 #[.string (bstr L), u8 c] H (fun v H' => v = .int .i64 (idxI c L) ∧ H' = H) := by
    refine AX.body (n := 8) (rs := [.tmp 4]) Tryd.func78 rfl (by decide) rfl rfl (bC_sound _ _ _ _ ?_)
    refine run ?_
    exact ⟨congrArg (Value.int .i64) (index_eq L c), rfl⟩
  refine AX.body (n := 143) (rs := [.tmp 4]) Tryd.func57 rfl (by decide) rfl rfl (bC_sound _ _ _ _ ?_)
  by_cases h : L = [c]
  · rw [decide_eq_true h] at eq
    refine run ?_
    subst h
    exact ⟨by show Value.int .i64 0 = _; unfold idxI headC; simp, rfl⟩
  · rw [decide_eq_false h] at eq
    refine run ?_
    refine hb.mono ?_
    rintro _ X ⟨rfl, e⟩
    refine run ?_
    exact ⟨rfl, e⟩
theorem index_ax (H : Heap) (L : Bs) (c : UInt8) : AX Tryd.prog 89 #[.string (bstr L), .string ⟨#[c]⟩] H (fun v H' => v = .int .i64 (idxI c L) ∧ H' = H) := by
  refine AX.body (n := 8) (rs := [.tmp 4]) Tryd.func89 rfl (by decide) rfl rfl (bC_sound _ _ _ _ ?_)
  refine run ?_
  refine (index1_ax H L c).mono ?_
  rintro _ X ⟨rfl, e⟩
  refine run ?_
  exact ⟨rfl, e⟩
def cutV (c : UInt8) (L : Bs) : Value := .tuple #[.string (bstr (headC c L)), .string (bstr (restC c L)), .bool (decide (c ∈ L))]
theorem take_head {c : UInt8} {L : Bs} (h : c ∈ L) : L.take (headC c L).length = headC c L ∧ L.drop ((headC c L).length + 1) = restC c L := by
  obtain ⟨e, -⟩ := head_yes h
  constructor
  · refine (congrArg (fun z : Bs => z.take (headC c L).length) e).trans ?_
    show (headC c L ++ c :: restC c L).take (headC c L).length = _
    rw [List.take_left']
    rfl
  · refine (congrArg (fun z : Bs => z.drop ((headC c L).length + 1)) e).trans ?_
    show (headC c L ++ c :: restC c L).drop ((headC c L).length + 1) = _
    rw [List.drop_append]
    simp
theorem cutL_ax (H : Heap) {L : Bs} (hL : L.length ≤ 100000000) (c : UInt8) : AX Tryd.prog 39 #[.string (bstr L), .string ⟨#[c]⟩] H (fun v H' => v = cutV c L ∧ H' = H) := by
  refine AX.body (n := 23) (rs := [.tmp 4, .tmp 5, .tmp 6]) Tryd.func39 rfl (by decide) rfl rfl (bC_sound _ _ _ _ ?_)
  refine run ?_
  refine (index1_ax H L c).mono ?_
  rintro _ X ⟨rfl, e⟩
  subst X
  unfold idxI cutV
  by_cases h : c ∈ L
  · rw [if_pos h, decide_eq_true h]
    have hl := rest_len h
    obtain ⟨t1, t2⟩ := take_head h
    have d1 : decide (((headC c L).length : Int) ≥ 0) = true := decide_eq_true (by omega)
    have s1 : aslice Tryd.prog 9 (.string (bstr L)) none (some (.int .i64 ((headC c L).length : Int))) none = some (.string (bstr (headC c L))) := by
      rw [slice_hi2 (by omega) (by rw [bstr_size]; omega), ext_bstr, bstr_list]
      rw [List.drop_zero, Nat.sub_zero, Int.toNat_natCast, t1]
    have s2 : aslice Tryd.prog 9 (.string (bstr L)) (some (.int .i64 (((headC c L).length + 1 : Nat) : Int))) none none = some (.string (bstr (restC c L))) := by
      rw [slice_lo2 (by omega) (by rw [bstr_size]; omega), ext_bstr, bstr_list, bstr_size, Int.toNat_natCast, t2]
      rw [List.take_of_length_le (by omega)]
    have a1 : abin Tryd.prog .add 3 (.int .i64 ((headC c L).length : Int)) (.int .i64 1) = some (.int .i64 (((headC c L).length + 1 : Nat) : Int)) := by
      have : abin Tryd.prog .add 3 (.int .i64 ((headC c L).length : Int)) (.int .i64 1) = some (.int .i64 (IntKind.i64.wrap (((headC c L).length : Int) + 1))) := rfl
      rw [this, wrap_i64 (by omega) (by omega)]
      congr 2
    refine run ?_
    apply SW.drawG [(0, [], [14, 16, 17, 18, 19, 20, 21], false), (1, [], [13, 16, 17, 18, 19, 20, 21], false), (2, [(13, 0), (14, 1)], [13, 14, 16, 17, 18, 19, 20, 21], false), (3, [], [13, 14, 15, 17, 18, 19, 20, 4], false), (4, [], [13, 14, 15, 16, 18, 19, 4], false), (5, [], [13, 14, 15, 16, 17, 4], false), (6, [(18, 5)], [13, 14, 15, 16, 17, 18, 4], false), (7, [(17, 4), (18, 5), (19, 6)], [13, 14, 15, 16, 17, 18, 19, 4], false), (8, [(16, 3), (17, 4), (18, 5), (19, 6), (20, 7)], [13, 14, 15, 16, 17, 18, 19, 20, 4], false), (9, [(13, 0), (14, 1), (15, 2)], [13, 14, 15, 16, 17, 18, 19, 20, 21], false), (10, [(13, 0), (14, 1), (15, 2), (16, 3), (17, 4), (18, 5), (19, 6), (20, 7), (21, 8), (4, 9)], [13, 14, 15, 16, 17, 18, 19, 20, 21, 4], false), (11, [(13, 0), (14, 1), (15, 2), (16, 3), (17, 4), (18, 5), (19, 6), (20, 7), (21, 8), (4, 9), (5, 10)], [13, 14, 15, 16, 17, 18, 19, 20, 21, 4, 5], false)]
      [(13, 0), (14, 1), (15, 2), (16, 3), (17, 4), (18, 5), (19, 6), (20, 7), (21, 8), (4, 9), (5, 10), (6, 11)]
      [(0, _), (1, _), (7, _)] rfl (by kernel_rfl)
    case hF => exact ⟨rfl, rfl, rfl, trivial⟩
    refine run ?_
    have w1 : IntKind.i64.wrap (((headC c L).length : Int) + ((⟨#[c]⟩ : ByteArray).size : Int)) = (((headC c L).length + 1 : Nat) : Int) := by
      show IntKind.i64.wrap (((headC c L).length : Int) + 1) = _
      rw [wrap_i64 (by omega) (by omega)]; omega
    rw [w1]
    refine run ?_
    exact ⟨rfl, rfl⟩
  · rw [if_neg h, decide_eq_false h]
    obtain ⟨t1, t2⟩ := head_no h
    refine run ?_
    rw [t1, t2]
    exact ⟨rfl, rfl⟩
theorem cut_ax (H : Heap) {L : Bs} (hL : L.length ≤ 100000000) (c : UInt8) : AX Tryd.prog 24 #[.string (bstr L), .string ⟨#[c]⟩] H (fun v H' => v = cutV c L ∧ H' = H) := by
  refine AX.body (n := 13) (rs := [.tmp 4, .tmp 5, .tmp 6]) Tryd.func24 rfl (by decide) rfl rfl (bC_sound _ _ _ _ ?_)
  refine run ?_
  refine (cutL_ax H hL c).mono ?_
  rintro _ X ⟨rfl, e⟩
  subst X
  refine run ?_
  exact ⟨rfl, rfl⟩
def preV (p L : Bs) : Value := if p.isPrefixOf L = true then .tuple #[.string (bstr (L.drop p.length)), .bool true] else .tuple #[.string (bstr L), .bool false]
theorem pre_take {p L : Bs} : p.isPrefixOf L = true ↔ p.length ≤ L.length ∧ L.take p.length = p := by
  rw [List.isPrefixOf_iff_prefix]
  constructor
  · rintro ⟨r, rfl⟩; simp
  · rintro ⟨h, e⟩
    refine ⟨L.drop p.length, ?_⟩
    have := List.take_append_drop p.length L
    rwa [e] at this
theorem cutP_ax (H : Heap) {L : Bs} (hL : L.length ≤ 1000000) (p : Bs) (hp : p.length ≤ 1000) : AX Tryd.prog 54 #[.string (bstr L), .string (bstr p)] H (fun v H' => v = preV p L ∧ H' = H) := by
  have l1 : ∀ X, alen Tryd.prog 9 (.string (bstr L)) X = some (.int .i64 (L.length : Int)) := fun X => rfl
  have l2 : ∀ X, alen Tryd.prog 9 (.string (bstr p)) X = some (.int .i64 (p.length : Int)) := fun X => rfl
  have l1' := l1 H
  have l2' := l2 H
  have hpre : AX Tryd.prog 91 #[.string (bstr L), .string (bstr p)] H (fun v H' => v = .bool (p.isPrefixOf L) ∧ H' = H) := by
    refine AX.body (n := 18) (rs := [.tmp 4]) Tryd.func91 rfl (by decide) rfl rfl (bC_sound _ _ _ _ ?_)
    by_cases h : p.length ≤ L.length
    · have d1 : decide ((L.length : Int) ≥ (p.length : Int)) = true := decide_eq_true (by omega)
      have s1 : aslice Tryd.prog 9 (.string (bstr L)) none (some (.int .i64 (p.length : Int))) none = some (.string (bstr (L.take p.length))) := by
        rw [slice_hi2 (by omega) (by rw [bstr_size]; omega), ext_bstr, bstr_list, List.drop_zero, Nat.sub_zero, Int.toNat_natCast]
      have eq : abin Tryd.prog .eql 9 (.string (bstr (L.take p.length))) (.string (bstr p)) = some (.bool (p.isPrefixOf L)) := by
        have : abin Tryd.prog .eql 9 (.string (bstr (L.take p.length))) (.string (bstr p)) = some (.bool (bstr (L.take p.length) == bstr p)) := rfl
        rw [this]
        congr 2
        rw [Bool.eq_iff_iff, beq_iff_eq, pre_take]
        constructor
        · intro e
          have := congrArg (fun s : ByteArray => s.data.toList) e
          simp only [bstr_list] at this
          exact ⟨h, this⟩
        · rintro ⟨_, e⟩; rw [e]
      refine run ?_
      exact ⟨rfl, rfl⟩
    · have d1 : decide ((L.length : Int) ≥ (p.length : Int)) = false := decide_eq_false (by omega)
      have e : p.isPrefixOf L = false := by
        cases hh : p.isPrefixOf L with
        | false => rfl
        | true => exact absurd (pre_take.1 hh).1 h
      rw [e]
      refine run ?_
      exact ⟨rfl, rfl⟩
  have hcl : AX Tryd.prog 74 #[.string (bstr L), .string (bstr p)] H (fun v H' => v = preV p L ∧ H' = H) := by
    refine AX.body (n := 15) (rs := [.tmp 4, .tmp 5]) Tryd.func74 rfl (by decide) rfl rfl (bC_sound _ _ _ _ ?_)
    refine run ?_
    refine hpre.mono ?_
    rintro _ X ⟨rfl, e⟩
    subst X
    unfold preV
    cases hh : p.isPrefixOf L with
    | false =>
      refine run ?_
      exact ⟨rfl, rfl⟩
    | true =>
      have h := (pre_take.1 hh).1
      have s2 : aslice Tryd.prog 9 (.string (bstr L)) (some (.int .i64 (p.length : Int))) none none = some (.string (bstr (L.drop p.length))) := by
        rw [slice_lo2 (by omega) (by rw [bstr_size]; omega), ext_bstr, bstr_list, bstr_size, Int.toNat_natCast]
        rw [List.take_of_length_le (by rw [List.length_drop]; omega)]
      refine run ?_
      exact ⟨rfl, rfl⟩
  refine AX.body (n := 11) (rs := [.tmp 4, .tmp 5]) Tryd.func54 rfl (by decide) rfl rfl (bC_sound _ _ _ _ ?_)
  refine run ?_
  refine hcl.mono ?_
  rintro _ X ⟨rfl, e⟩
  subst X
  unfold preV
  split
  · refine run ?_
    exact ⟨rfl, rfl⟩
  · refine run ?_
    exact ⟨rfl, rfl⟩
end Go.Proofs.YtmdpifedcaaobaaDoor
/- strings.Split between blanks; a word's number. -/
set_option linter.unusedVariables false
set_option linter.unusedSimpArgs false
set_option maxRecDepth 20000
set_option maxHeartbeats 8000000
namespace Go.Proofs.YtmdpifedcaaobaaDoor
open Go Ax
theorem split_no : ∀ {L : Bs}, (32 : UInt8) ∉ L → splitS L = [L]
  | [], _ => rfl
  | c :: L, h => by
    have hc : c ≠ 32 := by rintro rfl; exact h (List.mem_cons_self ..)
    rw [splitS, if_neg hc, split_no fun hm => h (List.mem_cons_of_mem _ hm)]
theorem split_yes : ∀ {L : Bs}, (32 : UInt8) ∈ L → splitS L = headC 32 L :: splitS (restC 32 L)
  | [], h => by simp at h
  | c :: L, h => by
    by_cases hc : c = 32
    · subst hc
      unfold headC restC
      rw [splitS, if_pos rfl, List.takeWhile_cons, if_neg (by simp), List.dropWhile_cons, if_neg (by simp)]
      rfl
    · have hm : (32 : UInt8) ∈ L := by
        rcases List.mem_cons.1 h with h | h
        · exact absurd h.symm hc
        · exact h
      have := split_yes hm
      unfold headC restC at this ⊢
      rw [splitS, if_neg hc, this, List.takeWhile_cons, if_pos (by simp [hc]), List.dropWhile_cons, if_pos (by simp [hc])]
theorem split_len : ∀ L : Bs, (splitS L).length = L.count 32 + 1
  | [] => rfl
  | c :: L => by
    have ih := split_len L
    rw [splitS]
    by_cases hc : c = 32
    · subst hc
      rw [if_pos rfl, List.length_cons, ih, List.count_cons_self]
    · rw [if_neg hc, List.count_cons_of_ne hc]
      cases hs : splitS L with
      | nil => rw [hs] at ih; simp at ih
      | cons w ws => rw [hs] at ih; simpa using ih
theorem split_pos (L : Bs) : 1 ≤ (splitS L).length := by rw [split_len]; omega
theorem split_word {L w : Bs} (h : w ∈ splitS L) : w.length ≤ L.length := by
  induction L generalizing w with
  | nil => simp [splitS] at h; subst h; simp
  | cons c L ih =>
    rw [splitS] at h
    split at h
    · rcases List.mem_cons.1 h with rfl | h
      · simp
      · have := ih h; rw [List.length_cons]; omega
    · cases hs : splitS L with
      | nil => rw [hs] at h; simp at h; subst h; simp
      | cons u us =>
        rw [hs] at h
        rcases List.mem_cons.1 h with rfl | h
        · have := ih (w := u) (by rw [hs]; simp)
          rw [List.length_cons, List.length_cons]; omega
        · have := ih (w := w) (by rw [hs]; exact List.mem_cons_of_mem _ h)
          rw [List.length_cons]; omega
theorem rest_le {c : UInt8} (L : Bs) : (restC c L).length ≤ L.length := by
  by_cases h : c ∈ L
  · have := rest_len h; omega
  · rw [(head_no h).2]; simp
theorem count_le (L : Bs) : L.count 32 ≤ L.length := List.count_le_length
/-- How a list of words lies. -/
def WordsAt (H : Heap) (v : Value) (W : List Bs) : Prop := ∃ g, v = .slice (some ⟨g, 0, none⟩) W.length 1 ∧ H[g]? = some (.cells (.row 9) (strsV W))
theorem genSplit_ax (H : Heap) {L : Bs} (hL : L.length ≤ 1000000) : AX Tryd.prog 72 #[.string (bstr L), .string ⟨#[32]⟩, .int .i64 0, .int .i64 (-1)] H (fun v H' => WordsAt H' v (splitS L) ∧ Grow H H') := by
  have hc := count_le L
  have hn := split_len L
  refine AX.body (n := 66) (rs := [.tmp 8]) Tryd.func72 rfl (by decide) rfl rfl (bC_sound _ _ _ _ ?_)
  have eq : abin Tryd.prog .eql 9 (.string ⟨#[32]⟩) (.string ⟨#[]⟩) = some (.bool false) := by kernel_rfl
  refine run ?_
  refine (count_ax H (bstr L) 32).mono ?_
  rintro _ X ⟨rfl, e⟩
  subst X
  have ec : Lib.countByte (bstr L).data.toList 32 = L.count 32 := by rw [bstr_list]; rfl
  rw [ec]
  refine run ?_
  have w1 : IntKind.i64.wrap (((L.count 32 : Nat) : Int) + 1) = (((splitS L).length : Nat) : Int) := by rw [wrap_i64 (by omega) (by omega)]; omega
  have w2 : IntKind.i64.wrap (((bstr L).size : Int) + 1) = ((L.length + 1 : Nat) : Int) := by rw [bstr_size, wrap_i64 (by omega) (by omega)]; omega
  rw [w1, w2]
  rw [if_neg (by omega)]
  refine Ob2.of (make_slice (e := 9) (zs := [.string ⟨#[]⟩]) rfl rfl rfl rfl (by decide) rfl (by omega) (by omega) (by show 16 * _ ≤ _; omega)) ?_
  rw [zeros_one, Int.toNat_natCast]
  generalize hN : (splitS L).length = N at hn w1 ⊢
  obtain ⟨H1, e1, l1⟩ : ∃ H1, H ++ [.cells (.row 9) (List.replicate N (.string ⟨#[]⟩))] = H1 ∧ H1[H.length]? = some (.cells (.row 9) (List.replicate N (.string ⟨#[]⟩))) := ⟨_, rfl, at_push _ _⟩
  have g1 : Grow H H1 := e1 ▸ .push _ _
  rw [e1]
  have hN1 : 1 ≤ N := by omega
  have w3 : IntKind.i64.wrap ((N : Int) - 1) = ((N - 1 : Nat) : Int) := by rw [wrap_i64 (by omega) (by omega)]; omega
  refine run ?_
  rw [w3]
  refine run ?_
  refine SW.loop (α := List Bs × Bs) (fun y => [(0, .string (bstr y.2)), (1, .string ⟨#[32]⟩), (2, .int .i64 0), (3, .int .i64 ((N - 1 : Nat) : Int)), (9, .slice (some ⟨H.length, 0, none⟩) N 1), (10, .int .i64 (y.1.length : Int))])
    (fun y X => y.1.length < N ∧ splitS L = y.1 ++ splitS y.2 ∧ y.2.length ≤ L.length ∧ But H.length H1 X ∧ X[H.length]? = some (.cells (.row 9) (strsV y.1 ++ List.replicate (N - y.1.length) (Value.string ⟨#[]⟩)))) (fun y => N - y.1.length)
    ⟨([], L), ⟨rfl, rfl, rfl, rfl, rfl, rfl, trivial⟩, by show 0 < N; omega, rfl, Nat.le_refl _, .refl _ _, by simpa [strsV] using l1⟩ ?_
  rintro ⟨D, R⟩ X ⟨hD, hs, hR, kX, hX⟩
  dsimp only at hD hs hR hX ⊢
  have hlen : N = D.length + (splitS R).length := by rw [← hN, hs, List.length_append]
  have gX := g1.but_new kX (Nat.le_refl _)
  refine bC_sound _ _ _ _ ?_
  by_cases hlt : D.length < N - 1
  · have d1 : decide ((D.length : Int) < ((N - 1 : Nat) : Int)) = true := decide_eq_true (by omega)
    have hm : (32 : UInt8) ∈ R := Decidable.byContradiction fun h => by
      rw [split_no h] at hlen
      simp at hlen; omega
    have hsp := split_yes hm
    have hl := rest_len hm
    obtain ⟨t1, t2⟩ := take_head hm
    have d2 : decide (((headC 32 R).length : Int) < 0) = false := decide_eq_false (by omega)
    have w4 : IntKind.i64.wrap (((headC 32 R).length : Int) + 0) = ((headC 32 R).length : Int) := by rw [wrap_i64 (by omega) (by omega)]; omega
    have s1 : aslice Tryd.prog 9 (.string (bstr R)) none (some (.int .i64 ((headC 32 R).length : Int))) none = some (.string (bstr (headC 32 R))) := by
      rw [slice_hi2 (by omega) (by rw [bstr_size]; omega), ext_bstr, bstr_list, List.drop_zero, Nat.sub_zero, Int.toNat_natCast, t1]
    have s2 : aslice Tryd.prog 9 (.string (bstr R)) (some (.int .i64 (((headC 32 R).length + 1 : Nat) : Int))) none none = some (.string (bstr (restC 32 R))) := by
      rw [slice_lo2 (by omega) (by rw [bstr_size]; omega), ext_bstr, bstr_list, bstr_size, Int.toNat_natCast, t2, List.take_of_length_le (by omega)]
    have w5 : IntKind.i64.wrap (((headC 32 R).length : Int) + ((⟨#[32]⟩ : ByteArray).size : Int)) = (((headC 32 R).length + 1 : Nat) : Int) := by
      show IntKind.i64.wrap (((headC 32 R).length : Int) + 1) = _
      rw [wrap_i64 (by omega) (by omega)]; omega
    have ix : aindexAddr Tryd.prog 22 (.slice (some ⟨H.length, 0, none⟩) N 1) (.int .i64 (D.length : Int)) = some (.pointer (some ⟨H.length, D.length, none⟩)) := by
      rw [idx_slice (k := 1) rfl rfl (by omega) (by omega)]
      congr 4
      omega
    refine run ?_
    refine (index_ax X R 32).mono ?_
    rintro _ Y ⟨rfl, e⟩
    subst Y
    unfold idxI
    rw [if_pos hm]
    refine run ?_
    rw [w4]
    refine run ?_
    refine Ob.store rfl rfl rfl hX rfl (by show D.length + 1 ≤ _; simp [strsV]; omega) fun Y y1 y2 y3 => ?_
    have hset : (strsV D ++ List.replicate (N - D.length) (Value.string ⟨#[]⟩)).set D.length (.string (bstr (headC 32 R))) = strsV (D ++ [headC 32 R]) ++ List.replicate (N - (D ++ [headC 32 R]).length) (Value.string ⟨#[]⟩) := by
      have hDl : (strsV D).length = D.length := by unfold strsV; rw [List.length_map]
      rw [show N - D.length = (N - (D ++ [headC 32 R]).length) + 1 by simp; omega, List.replicate_succ, List.set_append_right _ _ (by omega), hDl, Nat.sub_self, List.set_cons_zero]
      unfold strsV
      simp
    have y1 : Y[H.length]? = some (.cells (.row 9) (strsV (D ++ [headC 32 R]) ++ List.replicate (N - (D ++ [headC 32 R]).length) (Value.string ⟨#[]⟩))) := y1.trans (congrArg (fun z => some (Blk.cells _ z)) hset)
    refine run ?_
    rw [w5]
    refine run ?_
    exact ⟨(D ++ [headC 32 R], restC 32 R), ⟨rfl, rfl, rfl, rfl, rfl, congrArg (fun z => some (Value.int .i64 z)) (by rw [w_succ (by omega)]; simp), trivial⟩, ⟨by simp; omega, by rw [hs, hsp]; simp, by dsimp only; omega, kX.trans y2, y1⟩, by simp; omega⟩
  · have d1 : decide ((D.length : Int) < ((N - 1 : Nat) : Int)) = false := decide_eq_false (by omega)
    have hp := split_pos R
    have hm : (32 : UInt8) ∉ R := fun h => by
      have := split_pos (restC 32 R)
      rw [split_yes h, List.length_cons] at hlen
      omega
    have hsp := split_no hm
    have hDN : D.length = N - 1 := by omega
    have ix : aindexAddr Tryd.prog 22 (.slice (some ⟨H.length, 0, none⟩) N 1) (.int .i64 (D.length : Int)) = some (.pointer (some ⟨H.length, D.length, none⟩)) := by
      rw [idx_slice (k := 1) rfl rfl (by omega) (by omega)]
      congr 4
      omega
    have w6 : IntKind.i64.wrap ((D.length : Int) + 1) = (N : Int) := by rw [wrap_i64 (by omega) (by omega)]; omega
    have sl : aslice Tryd.prog 22 (.slice (some ⟨H.length, 0, none⟩) N 1) none (some (.int .i64 (N : Int))) none = some (.slice (some ⟨H.length, 0, none⟩) N 1) := by
      rw [slice_hi (e := 9) rfl rfl (by omega) (by omega)]; simp
    refine run ?_
    refine Ob.store rfl rfl rfl hX rfl (by show D.length + 1 ≤ _; simp [strsV]; omega) fun Y y1 y2 y3 => ?_
    have hset : (strsV D ++ List.replicate (N - D.length) (Value.string ⟨#[]⟩)).set D.length (.string (bstr R)) = strsV (splitS L) := by
      have hDl : (strsV D).length = D.length := by unfold strsV; rw [List.length_map]
      rw [show N - D.length = 0 + 1 by omega, List.replicate_succ, List.set_append_right _ _ (by omega), hDl, Nat.sub_self, List.set_cons_zero, hs, hsp]
      unfold strsV
      simp
    have y1 : Y[H.length]? = some (.cells (.row 9) (strsV (splitS L))) := y1.trans (congrArg (fun z => some (Blk.cells _ z)) hset)
    refine run ?_
    rw [w6]
    refine run ?_
    exact ⟨⟨H.length, by rw [hN]; rfl, y1⟩, g1.but_new (kX.trans y2) (Nat.le_refl _)⟩
theorem split_ax (H : Heap) {L : Bs} (hL : L.length ≤ 1000000) : AX Tryd.prog 52 #[.string (bstr L), .string ⟨#[32]⟩] H (fun v H' => WordsAt H' v (splitS L) ∧ Grow H H') := by
  refine AX.body (n := 8) (rs := [.tmp 4]) Tryd.func52 rfl (by decide) rfl rfl (bC_sound _ _ _ _ ?_)
  refine run ?_
  refine (genSplit_ax H hL).mono ?_
  rintro v X ⟨h, g⟩
  refine run ?_
  exact ⟨h, g⟩
end Go.Proofs.YtmdpifedcaaobaaDoor
/- Package asm: number, numbers; the reference's words, number, numbers. -/
set_option linter.unusedVariables false
set_option linter.unusedSimpArgs false
set_option maxRecDepth 20000
set_option maxHeartbeats 8000000
namespace Go.Proofs.YtmdpifedcaaobaaDoor
open Go Ax
theorem leastL : intL leastI = 45 :: decL 4611686018427387904 := by
  unfold intL leastI
  rw [if_neg (by decide)]
  rfl
theorem numS_least {w : Bs} (h : w = intL leastI) : numS w = some leastI := by unfold numS; rw [if_pos h]
/-- A word's number, if it has no sign. -/
theorem numS_pos {w : Bs} (h : w.head? ≠ some 45) : numS w = if (readS w).2 = 0 ∧ intL (readS w).1 = w then some (readS w).1 else none := by
  unfold numS
  rw [if_neg (fun e => h (by rw [e, leastL]; rfl))]
  simp only [if_neg h]
theorem numS_neg {d : Bs} (h : 45 :: d ≠ intL leastI) : numS (45 :: d) = if (readS d).2 = 0 ∧ intL (-(readS d).1) = 45 :: d then some (-(readS d).1) else none := by
  unfold numS
  rw [if_neg h]
  simp only [List.head?_cons, if_true, List.tail_cons]
theorem numS_i64 {w : Bs} {n : Int} (h : numS w = some n) : leastI ≤ n ∧ n ≤ 4611686018427387903 ∧ intL n = w := by
  by_cases hl : w = intL leastI
  · rw [numS_least hl] at h
    cases h
    exact ⟨Int.le_refl _, by decide, hl.symm⟩
  by_cases hh : w.head? = some 45
  · obtain ⟨d, rfl⟩ : ∃ d, w = 45 :: d := by
      cases w with
      | nil => simp at hh
      | cons c d => simp at hh; subst hh; exact ⟨d, rfl⟩
    rw [numS_neg hl] at h
    have := readS_range d
    unfold mostN at this
    split at h
    · rename_i hc
      cases h
      exact ⟨by unfold leastI; omega, by omega, hc.2⟩
    · simp at h
  · rw [numS_pos hh] at h
    have := readS_range w
    unfold mostN at this
    split at h
    · rename_i hc
      cases h
      exact ⟨by unfold leastI; omega, by omega, hc.2⟩
    · simp at h
/-- What a word's number is told by. -/
def NumV (w : Bs) (v : Value) : Prop := ∃ n ok, v = .tuple #[.int .i64 n, .bool ok] ∧ (ok = true → numS w = some n) ∧ (ok = false → numS w = none)
theorem NumV.plain {w : Bs} {v : Value} (h : NumV w v) : plain v := by
  obtain ⟨n, ok, rfl, -⟩ := h
  exact plain_tuple (vs := [_, _]) fun x hx => by
    simp only [List.mem_cons, List.not_mem_nil, or_false] at hx
    rcases hx with rfl | rfl
    · exact plain_int _ _
    · exact plain_bool _
theorem str_eql (a b : Bs) : abin Tryd.prog .eql 9 (.string (bstr a)) (.string (bstr b)) = some (.bool (decide (a = b))) := by
  have : abin Tryd.prog .eql 9 (.string (bstr a)) (.string (bstr b)) = some (.bool (bstr a == bstr b)) := rfl
  rw [this]
  congr 2
  rw [Bool.eq_iff_iff, beq_iff_eq, decide_eq_true_iff]
  constructor
  · intro h
    have := congrArg (fun s : ByteArray => s.data.toList) h
    simpa [bstr_list] using this
  · rintro rfl; rfl
theorem str_neq (a b : Bs) : abin Tryd.prog .neq 9 (.string (bstr a)) (.string (bstr b)) = some (.bool (decide (a ≠ b))) := by
  have : abin Tryd.prog .neq 9 (.string (bstr a)) (.string (bstr b)) = some (.bool (!(bstr a == bstr b))) := rfl
  rw [this]
  congr 2
  rw [Bool.eq_iff_iff, Bool.not_eq_true', beq_eq_false_iff_ne, decide_eq_true_iff]
  constructor
  · intro h e; exact h (by rw [e])
  · intro h e
    have := congrArg (fun s : ByteArray => s.data.toList) e
    exact h (by simpa [bstr_list] using this)
theorem neg_ok {n : Int} (h0 : 0 ≤ n) (h1 : n ≤ mostN) : IntKind.i64.wrap (0 - n) = -n := by
  unfold mostN at h1
  rw [wrap_i64 (by omega) (by omega)]; omega
theorem asmNumber_ax (H : Heap) {w : Bs} (hw : w.length ≤ 100000) : AX Tryd.prog 53 #[.string (bstr w)] H (fun v H' => NumV w v ∧ H' = H) := by
  refine AX.body (n := 37) (rs := [.tmp 2, .tmp 3]) Tryd.func53 rfl (by decide) rfl rfl (bC_sound _ _ _ _ ?_)
  refine run ?_
  refine (cutP_ax H (L := w) (by omega) [45] (by simp)).mono ?_
  rintro _ X ⟨rfl, e⟩
  subst X
  by_cases hh : w.head? = some 45
  · obtain ⟨d, rfl⟩ : ∃ d, w = 45 :: d := by
      cases w with
      | nil => simp at hh
      | cons c d => simp at hh; subst hh; exact ⟨d, rfl⟩
    have ev : preV [45] (45 :: d) = .tuple #[.string (bstr d), .bool true] := by unfold preV; rw [if_pos (by simp)]; rfl
    rw [ev]
    have hr := readS_range d
    rw [List.length_cons] at hw
    have sl : aslice Tryd.prog 9 (.string (bstr (45 :: decL 4611686018427387904))) (some (.int .i64 1)) none none = some (.string (bstr (decL 4611686018427387904))) := by
      rw [slice_lo2 (by omega) (by rw [bstr_size, List.length_cons]; omega), ext_bstr, bstr_list, bstr_size, List.take_of_length_le (by simp)]; rfl
    have eq := str_eql d (decL 4611686018427387904)
    refine run ?_
    refine (numRead_ax H (s := bstr d) (by rw [bstr_size]; omega)).mono ?_
    rintro _ X ⟨rfl, e⟩
    subst X
    rw [bstr_list]
    refine run ?_
    refine (numI_ax H (n := -4611686018427387904) (by decide) (by decide)).mono ?_
    rintro _ X ⟨rfl, e⟩
    subst X
    have el : intL (-4611686018427387904) = 45 :: decL 4611686018427387904 := leastL
    rw [el]
    by_cases hl : d = decL 4611686018427387904
    · have hnl : numS (45 :: d) = some leastI := numS_least (by rw [hl]; exact leastL.symm)
      have eq2 := str_eql (45 :: decL 4611686018427387904) (45 :: d)
      rw [decide_eq_true hl] at eq
      rw [decide_eq_true (by rw [hl])] at eq2
      refine run ?_
      refine (numI_ax H (n := -4611686018427387904) (by decide) (by decide)).mono ?_
      rintro _ X ⟨rfl, e⟩
      subst X
      rw [el]
      refine run ?_
      exact ⟨⟨_, _, rfl, fun _ => hnl, fun h => by simp at h⟩, rfl⟩
    · have hnl : 45 :: d ≠ intL leastI := by rw [leastL]; intro e; exact hl (by simpa using e)
      rw [decide_eq_false hl] at eq
      have ns := numS_neg hnl
      have wn := neg_ok hr.1 hr.2
      refine run ?_
      rw [wn]
      by_cases h0 : (readS d).2 = 0
      · have d0 : ((readS d).2 == 0) = true := beq_iff_eq.2 h0
        have eq2 := str_eql (intL (-(readS d).1)) (45 :: d)
        refine run ?_
        refine (numI_ax H (n := -(readS d).1) (by unfold mostN at hr; omega) (by unfold mostN at hr; omega)).mono ?_
        rintro _ X ⟨rfl, e⟩
        subst X
        refine run ?_
        refine ⟨⟨_, _, rfl, fun h => ?_, fun h => ?_⟩, rfl⟩
        · rw [ns, if_pos ⟨h0, by simpa using h⟩]
        · rw [ns, if_neg fun hc => by simp [hc.2] at h]
      · have d0 : ((readS d).2 == 0) = false := beq_eq_false_iff_ne.2 h0
        refine run ?_
        exact ⟨⟨_, _, rfl, fun h => by simp at h, fun _ => by rw [ns, if_neg fun hc => h0 hc.1]⟩, rfl⟩
  · have ev : preV [45] w = .tuple #[.string (bstr w), .bool false] := by
      unfold preV
      rw [if_neg]
      cases w with
      | nil => simp
      | cons c d => simp at hh ⊢; exact fun e => hh e.symm
    rw [ev]
    have hr := readS_range w
    have ns := numS_pos hh
    refine run ?_
    refine (numRead_ax H (s := bstr w) (by rw [bstr_size]; omega)).mono ?_
    rintro _ X ⟨rfl, e⟩
    subst X
    rw [bstr_list]
    by_cases h0 : (readS w).2 = 0
    · have d0 : ((readS w).2 == 0) = true := beq_iff_eq.2 h0
      have eq2 := str_eql (intL (readS w).1) w
      refine run ?_
      refine (numI_ax H (n := (readS w).1) (by unfold mostN at hr; omega) (by unfold mostN at hr; omega)).mono ?_
      rintro _ X ⟨rfl, e⟩
      subst X
      refine run ?_
      refine ⟨⟨_, _, rfl, fun h => ?_, fun h => ?_⟩, rfl⟩
      · rw [ns, if_pos ⟨h0, by simpa using h⟩]
      · rw [ns, if_neg fun hc => by simp [hc.2] at h]
    · have d0 : ((readS w).2 == 0) = false := beq_eq_false_iff_ne.2 h0
      refine run ?_
      exact ⟨⟨_, _, rfl, fun h => by simp at h, fun _ => by rw [ns, if_neg fun hc => h0 hc.1]⟩, rfl⟩
theorem refNumber_ax (H : Heap) {w : Bs} (hw : w.length ≤ 100000) : AX Tryd.prog 59 #[.string (bstr w)] H (fun v H' => NumV w v ∧ H' = H) := by
  refine AX.body (n := 40) (rs := [.tmp 2, .tmp 3]) Tryd.func59 rfl (by decide) rfl rfl (bC_sound _ _ _ _ ?_)
  refine run ?_
  refine (rnumI_ax H (n := -4611686018427387904) (by decide) (by decide)).mono ?_
  rintro _ X ⟨rfl, e⟩
  subst X
  have el : intL (-4611686018427387904) = intL leastI := rfl
  rw [el]
  have eq := str_eql w (intL leastI)
  by_cases hl : w = intL leastI
  · rw [decide_eq_true hl] at eq
    refine run ?_
    exact ⟨⟨_, _, rfl, fun _ => numS_least hl, fun h => by simp at h⟩, rfl⟩
  rw [decide_eq_false hl] at eq
  have lw : alen Tryd.prog 9 (.string (bstr w)) H = some (.int .i64 (w.length : Int)) := rfl
  by_cases hh : w.head? = some 45
  · obtain ⟨d, rfl⟩ : ∃ d, w = 45 :: d := by
      cases w with
      | nil => simp at hh
      | cons c d => simp at hh; subst hh; exact ⟨d, rfl⟩
    have hr := readS_range d
    rw [List.length_cons] at hw
    have d1 : decide ((((45 : UInt8) :: d).length : Int) > 0) = true := decide_eq_true (by rw [List.length_cons]; omega)
    have ix : aindex Tryd.prog 9 (.string (bstr (45 :: d))) (.int .i64 0) = some (.int .u8 45) := (aix (s := bstr (45 :: d)) (k := 0) (c := 45) (by rw [bstr_list]; rfl)).trans rfl
    have sl : aslice Tryd.prog 9 (.string (bstr (45 :: d))) (some (.int .i64 1)) none none = some (.string (bstr d)) := by
      rw [slice_lo2 (by omega) (by rw [bstr_size, List.length_cons]; omega), ext_bstr, bstr_list, bstr_size, List.take_of_length_le (by simp)]; rfl
    have ns := numS_neg hl
    have wn := neg_ok hr.1 hr.2
    refine run ?_
    refine (refRead_ax H (s := bstr d) (by rw [bstr_size]; omega)).mono ?_
    rintro _ X ⟨rfl, e⟩
    subst X
    rw [bstr_list]
    refine run ?_
    rw [wn]
    by_cases h0 : (readS d).2 = 0
    · have d0 : ((readS d).2 == 0) = true := beq_iff_eq.2 h0
      have eq2 := str_eql (intL (-(readS d).1)) (45 :: d)
      refine run ?_
      refine (rnumI_ax H (n := -(readS d).1) (by unfold mostN at hr; omega) (by unfold mostN at hr; omega)).mono ?_
      rintro _ X ⟨rfl, e⟩
      subst X
      refine run ?_
      refine ⟨⟨_, _, rfl, fun h => ?_, fun h => ?_⟩, rfl⟩
      · rw [ns, if_pos ⟨h0, by simpa using h⟩]
      · rw [ns, if_neg fun hc => by simp [hc.2] at h]
    · have d0 : ((readS d).2 == 0) = false := beq_eq_false_iff_ne.2 h0
      refine run ?_
      exact ⟨⟨_, _, rfl, fun h => by simp at h, fun _ => by rw [ns, if_neg fun hc => h0 hc.1]⟩, rfl⟩
  · have hr := readS_range w
    have ns := numS_pos hh
    have tail : ∀ {fr : Fr}, True := fun {_} => trivial
    have R := refRead_ax H (s := bstr w) (by rw [bstr_size]; omega)
    rw [bstr_list] at R
    have eq2 := str_eql (intL (readS w).1) w
    have N := rnumI_ax H (n := (readS w).1) (by unfold mostN at hr; omega) (by unfold mostN at hr; omega)
    cases w with
    | nil =>
      have d1 : decide ((([] : Bs).length : Int) > 0) = false := decide_eq_false (by simp)
      have h0 : (readS []).2 ≠ 0 := by unfold readS; simp
      have d0 : ((readS []).2 == 0) = false := beq_eq_false_iff_ne.2 h0
      refine run ?_
      refine R.mono ?_
      rintro _ X ⟨rfl, e⟩
      subst X
      refine run ?_
      exact ⟨⟨_, _, rfl, fun h => by simp at h, fun _ => by rw [ns, if_neg fun hc => h0 hc.1]⟩, rfl⟩
    | cons c d =>
      have d1 : decide (((c :: d).length : Int) > 0) = true := decide_eq_true (by rw [List.length_cons]; omega)
      have ix : aindex Tryd.prog 9 (.string (bstr (c :: d))) (.int .i64 0) = some (u8 c) := aix (s := bstr (c :: d)) (k := 0) (by rw [bstr_list]; rfl)
      have hc45 : ((c.toNat : Int) == 45) = false := by
        rw [beq_eq_false_iff_ne]
        intro e
        have : c = 45 := UInt8.toNat.inj (by simpa using (by omega : c.toNat = 45))
        exact hh (by rw [this]; rfl)
      refine run ?_
      refine R.mono ?_
      rintro _ X ⟨rfl, e⟩
      subst X
      by_cases h0 : (readS (c :: d)).2 = 0
      · have d0 : ((readS (c :: d)).2 == 0) = true := beq_iff_eq.2 h0
        refine run ?_
        refine N.mono ?_
        rintro _ X ⟨rfl, e⟩
        subst X
        refine run ?_
        refine ⟨⟨_, _, rfl, fun h => ?_, fun h => ?_⟩, rfl⟩
        · rw [ns, if_pos ⟨h0, by simpa using h⟩]
        · rw [ns, if_neg fun hc => by simp [hc.2] at h]
      · have d0 : ((readS (c :: d)).2 == 0) = false := beq_eq_false_iff_ne.2 h0
        refine run ?_
        exact ⟨⟨_, _, rfl, fun h => by simp at h, fun _ => by rw [ns, if_neg fun hc => h0 hc.1]⟩, rfl⟩
end Go.Proofs.YtmdpifedcaaobaaDoor
/- Package asm: numbers; the reference's words, numbers. -/
set_option linter.unusedVariables false
set_option linter.unusedSimpArgs false
set_option maxRecDepth 20000
set_option maxHeartbeats 8000000
namespace Go.Proofs.YtmdpifedcaaobaaDoor
open Go Ax
theorem rowI : RowOK Tryd.prog 57 3 1 := ⟨rfl, ⟨_, rfl, rfl, by decide⟩, ⟨_, rfl, rfl⟩, by decide, ⟨_, rfl, rfl⟩⟩
theorem rowS : RowOK Tryd.prog 22 9 1 := ⟨rfl, ⟨_, rfl, rfl, by decide⟩, ⟨_, rfl, rfl⟩, by decide, ⟨_, rfl, rfl⟩⟩
/-- What numbers of a line answers. -/
def NumsV (n : Nat) (r : Option (List Int)) (v : Value) (H' : Heap) : Prop :=
  match r with
  | some l => ∃ u, v = .tuple #[u, .bool true] ∧ OwnR 1 3 intR H' u l ∧ ∀ b, blkIs u b → n ≤ b
  | none => ∃ u, v = .tuple #[u, .bool false]
theorem numsS_snoc : ∀ {W : List Bs} {l : List Int} {w : Bs} {n : Int}, numsS W = some l → numS w = some n → numsS (W ++ [w]) = some (l ++ [n])
  | [], l, w, n, h, k => by
    simp only [numsS, Option.some.injEq] at h
    subst h
    simp [numsS, k]
  | u :: W, l, w, n, h, k => by
    rw [List.cons_append]
    unfold numsS at h ⊢
    cases hu : numS u with
    | none => rw [hu] at h; simp at h
    | some a =>
      rw [hu] at h
      dsimp only at h ⊢
      cases hW : numsS W with
      | none => rw [hW] at h; simp at h
      | some r =>
        rw [hW] at h
        simp only [Option.some.injEq] at h
        subst h
        rw [numsS_snoc hW k]
        rfl
theorem numsS_bad : ∀ {W : List Bs} {w : Bs}, w ∈ W → numS w = none → numsS W = none
  | [], w, h, k => by simp at h
  | u :: W, w, h, k => by
    unfold numsS
    cases hu : numS u with
    | none => rfl
    | some a =>
      dsimp only
      rcases List.mem_cons.1 h with rfl | h
      · rw [k] at hu; simp at hu
      · rw [numsS_bad h k]
theorem numsS_take {W : List Bs} {k : Nat} {l : List Int} {w : Bs} {n : Int} (h : numsS (W.take k) = some l) (hw : W[k]? = some w) (hn : numS w = some n) : numsS (W.take (k + 1)) = some (l ++ [n]) := by
  rw [List.take_add_one, hw]
  exact numsS_snoc h hn
theorem numsS_len : ∀ {W : List Bs} {l : List Int}, numsS W = some l → l.length = W.length
  | [], l, h => by simp only [numsS, Option.some.injEq] at h; subst h; rfl
  | u :: W, l, h => by
    unfold numsS at h
    cases hu : numS u with
    | none => rw [hu] at h; simp at h
    | some a =>
      rw [hu] at h
      dsimp only at h
      cases hW : numsS W with
      | none => rw [hW] at h; simp at h
      | some r =>
        rw [hW] at h
        simp only [Option.some.injEq] at h
        subst h
        have := numsS_len hW
        simp [this]
theorem numbers_fail {L first : Bs} {many : Nat} (h : ¬ ((splitS L).head? = some first ∧ (splitS L).length = many + 1)) : numbersS L first many = none := if_neg h
theorem numbers_ok {L first : Bs} {many : Nat} (h : (splitS L).head? = some first ∧ (splitS L).length = many + 1) : numbersS L first many = numsS (splitS L).tail := if_pos h
theorem asmNumbers_ax (H : Heap) {L : Bs} (first : Bs) (many : Nat) (hL : L.length ≤ 100000) (hm : many ≤ 10) :
    AX Tryd.prog 37 #[.string (bstr L), .string (bstr first), .int .i64 (many : Int)] H (fun v H' => NumsV H.length (numbersS L first many) v H' ∧ Grow H H') := by
  have hp := split_pos L
  have hwl : ∀ w ∈ splitS L, w.length ≤ 100000 := fun w h => by have := split_word h; omega
  have hsl := split_len L
  have hcl := count_le L
  have hno := @numbers_fail L first many
  have hok := @numbers_ok L first many
  refine AX.body (n := 48) (rs := [.tmp 6, .tmp 7]) Tryd.func37 rfl (by decide) rfl rfl (bC_sound _ _ _ _ ?_)
  refine run ?_
  refine (split_ax H (L := L) (by omega)).mono ?_
  rintro _ H1 ⟨⟨g, rfl, hg⟩, g1⟩
  generalize hW : splitS L = W at hp hwl hsl hno hok hg
  obtain ⟨w0, ws, rfl⟩ : ∃ w0 ws, W = w0 :: ws := by
    cases W with
    | nil => simp at hp
    | cons a b => exact ⟨a, b, rfl⟩
  have bg := hblk_of hg
  have ix0 : aindexAddr Tryd.prog 22 (.slice (some ⟨g, 0, none⟩) (w0 :: ws).length 1) (.int .i64 0) = some (.pointer (some ⟨g, 0, none⟩)) := by
    rw [idx_slice (k := 1) rfl rfl (by omega) (by simp only [List.length_cons]; omega)]; rfl
  have ld0 : aload Tryd.prog 9 (.pointer (some ⟨g, 0, none⟩)) H1 = some (.string (bstr w0)) := ald rfl rfl bg rfl
  have ne := str_neq w0 first
  have ln : alen Tryd.prog 22 (.slice (some ⟨g, 0, none⟩) (w0 :: ws).length 1) H1 = some (.int .i64 ((w0 :: ws).length : Int)) := rfl
  have wm : IntKind.i64.wrap ((many : Int) + 1) = ((many + 1 : Nat) : Int) := by rw [wrap_i64 (by omega) (by omega)]; omega
  by_cases h0 : w0 = first
  rotate_left
  · rw [hno fun h => h0 (by simpa using h.1)]
    rw [decide_eq_true h0] at ne
    refine run ?_
    exact ⟨⟨_, rfl⟩, g1⟩
  rw [decide_eq_false fun h => h h0] at ne
  by_cases h1 : (w0 :: ws).length = many + 1
  rotate_left
  · rw [hno fun h => h1 h.2]
    have d1 : (((w0 :: ws).length : Int) != ((many + 1 : Nat) : Int)) = true := by rw [bne_iff_ne]; omega
    refine run ?_
    rw [wm]
    refine run ?_
    exact ⟨⟨_, rfl⟩, g1⟩
  have d1 : (((w0 :: ws).length : Int) != ((many + 1 : Nat) : Int)) = false := by rw [bne_eq_false_iff_eq]; omega
  rw [hok ⟨by simp [h0], h1⟩, List.tail_cons]
  have hws : ws.length = many := by simpa using h1
  have sl : aslice Tryd.prog 22 (.slice (some ⟨g, 0, none⟩) (w0 :: ws).length 1) (some (.int .i64 1)) none none = some (.slice (some ⟨g, 1, none⟩) ws.length 1) := by
    rw [slice_lo (e := 9) (k := 1) rfl rfl (by omega) (by simp only [List.length_cons]; omega)]; simp
  have lw : alen Tryd.prog 22 (.slice (some ⟨g, 1, none⟩) ws.length 1) H1 = some (.int .i64 (ws.length : Int)) := rfl
  refine run ?_
  rw [wm]
  refine run ?_
  refine SW.loop (α := Nat × List Int × Value) (fun y => [(9, y.2.2), (29, .slice (some ⟨g, 1, none⟩) ws.length 1), (30, .int .i64 (ws.length : Int)), (31, .int .i64 (y.1 : Int))])
    (fun y X => y.1 ≤ ws.length ∧ numsS (ws.take y.1) = some y.2.1 ∧ y.2.1.length = y.1 ∧ OwnR 1 3 intR X y.2.2 y.2.1 ∧ (∀ b, blkIs y.2.2 b → H1.length ≤ b) ∧ FrR H1.length 3 H1 X) (fun y => ws.length - y.1)
    ⟨(0, [], .slice none 0 0), ⟨rfl, rfl, rfl, rfl, trivial⟩, Nat.zero_le _, rfl, rfl, .inl ⟨rfl, rfl⟩, fun b h => by obtain ⟨n, k, h⟩ := h; simp at h, .refl _ _ _⟩ ?_
  rintro ⟨k, l, u⟩ X ⟨hk, hn, hlk, ho, hb, hF⟩
  dsimp only at hk hn hlk ho hb hF ⊢
  have gX : Grow H1 X := FrR.grow (.refl _) hF (Nat.le_refl _)
  refine bC_sound _ _ _ _ ?_
  by_cases hkl : k < ws.length
  · have d2 : decide ((k : Int) < (ws.length : Int)) = true := decide_eq_true (by omega)
    obtain ⟨w, hw⟩ := get_lt hkl
    have ix : aindexAddr Tryd.prog 22 (.slice (some ⟨g, 1, none⟩) ws.length 1) (.int .i64 (k : Int)) = some (.pointer (some ⟨g, 1 + k, none⟩)) := by
      rw [idx_slice (k := 1) rfl rfl (by omega) (by omega)]
      congr 4
      omega
    have ld : aload Tryd.prog 9 (.pointer (some ⟨g, 1 + k, none⟩)) X = some (.string (bstr w)) := ald rfl rfl (gX.hblk bg) (strs_at (by rw [Nat.add_comm, List.getElem?_cons_succ]; exact hw))
    have hwm := List.mem_of_getElem? hw
    refine run ?_
    refine (asmNumber_ax X (hwl w (List.mem_cons_of_mem _ hwm))).mono ?_
    rintro _ Y ⟨⟨n, ok, rfl, y1, y2⟩, e⟩
    subst Y
    cases ok with
    | false =>
      refine run ?_
      rw [numsS_bad hwm (y2 rfl)]
      exact ⟨⟨_, rfl⟩, g1.trans gX⟩
    | true =>
      have hnw := y1 rfl
      refine run ?_
      refine Ob2.lay (.cells (.row 3) [.int .i64 n]) (.slice (some ⟨X.length, 0, none⟩) 1 1) rfl fun X2 a2 g2 _ => ?_
      have o2 : OwnR 1 3 intR X2 u l := ho.keep (fun b c _ hc => g2.at hc) fun _ _ _ h => h
      obtain ⟨X3, ap, o3, f3, -⟩ := OwnR.append (n := H1.length) (x := n) rowI rowI o2 a2 rfl rfl hb (by have := gX.1; have := g2.1; omega) (by omega) (fun _ _ _ _ _ h => h)
      refine run ?_
      refine Ob2.of ap ?_
      refine run ?_
      exact ⟨(k + 1, l ++ [n], _), ⟨rfl, rfl, rfl, congrArg (fun z => some (Value.int .i64 z)) (w_succ (by omega)), trivial⟩, ⟨hkl, numsS_take hn hw hnw, by simp [hlk], o3, fun b h => by obtain ⟨n', k', h⟩ := h; simp at h; have := gX.1; have := g2.1; omega, (hF.trans (.of g2)).trans f3⟩, by dsimp only; omega⟩
  · have d2 : decide ((k : Int) < (ws.length : Int)) = false := decide_eq_false (by omega)
    rw [List.take_of_length_le (by omega)] at hn
    refine run ?_
    rw [hn]
    exact ⟨⟨_, rfl, ho, fun b h => by have := hb b h; have := g1.1; omega⟩, g1.trans gX⟩
end Go.Proofs.YtmdpifedcaaobaaDoor
/- The reference of asm: words, numbers. -/
set_option linter.unusedVariables false
set_option linter.unusedSimpArgs false
set_option maxRecDepth 20000
set_option maxHeartbeats 8000000
namespace Go.Proofs.YtmdpifedcaaobaaDoor
open Go Ax
theorem head_of {c : UInt8} {A B : Bs} (h : c ∉ A) : headC c (A ++ c :: B) = A ∧ restC c (A ++ c :: B) = B := by
  unfold headC restC
  have ha : ∀ x ∈ A, (x != c) = true := fun x hx => by rw [bne_iff_ne]; rintro rfl; exact h hx
  rw [List.takeWhile_append_of_pos ha, List.dropWhile_append_of_pos ha, List.takeWhile_cons, if_neg (by simp), List.dropWhile_cons, if_neg (by simp)]
  simp
/-- Where words are gone through. -/
structure WI (L : Bs) (a k : Nat) (D : List Bs) : Prop where
  ka : a ≤ k
  kl : k ≤ L.length
  sp : splitS L = D ++ splitS (L.drop a)
  no : (32 : UInt8) ∉ (L.drop a).take (k - a)
theorem WI.cut {L : Bs} {a k : Nat} {D : List Bs} (h : WI L a k D) (hk : L[k]? = some 32) : WI L (k + 1) (k + 1) (D ++ [(L.drop a).take (k - a)]) := by
  have hl := lt_of_get hk
  have hka := h.ka
  have e : L.drop a = (L.drop a).take (k - a) ++ 32 :: L.drop (k + 1) := by
    conv => lhs; rw [← List.take_append_drop (k - a) (L.drop a)]
    congr 1
    rw [List.drop_drop, show a + (k - a) = k by omega]
    exact drop_cons' hk
  obtain ⟨h1, h2⟩ := head_of (B := L.drop (k + 1)) h.no
  rw [← e] at h1 h2
  refine ⟨Nat.le_refl _, by omega, ?_, by simp⟩
  rw [h.sp, split_yes (by rw [e]; simp), h1, h2]
  simp
theorem WI.go {L : Bs} {a k : Nat} {D : List Bs} (h : WI L a k D) {c : UInt8} (hk : L[k]? = some c) (hc : c ≠ 32) : WI L a (k + 1) D := by
  have hl := lt_of_get hk
  have hka := h.ka
  refine ⟨by omega, by omega, h.sp, fun hm => ?_⟩
  rw [show k + 1 - a = (k - a) + 1 by omega, List.take_add_one, List.getElem?_drop, show a + (k - a) = k by omega, hk] at hm
  rcases List.mem_append.1 hm with hm | hm
  · exact h.no hm
  · simp at hm; exact hc hm.symm
theorem WI.end {L : Bs} {a : Nat} {D : List Bs} (h : WI L a L.length D) : splitS L = D ++ [(L.drop a).take (L.length - a)] := by
  have hno := h.no
  have e : (L.drop a).take (L.length - a) = L.drop a := List.take_of_length_le (by rw [List.length_drop]; omega)
  rw [e] at hno ⊢
  rw [h.sp, split_no hno]
theorem slice_mid (L : Bs) {a k : Nat} (h1 : a ≤ k) (h2 : k ≤ L.length) (hL : L.length ≤ 1000000) : aslice Tryd.prog 9 (.string (bstr L)) (some (.int .i64 (a : Int))) (some (.int .i64 (k : Int))) none = some (.string (bstr ((L.drop a).take (k - a)))) := by
  rw [slice_two2 (by omega) (by omega) (by rw [bstr_size]; omega), ext_bstr, bstr_list, Int.toNat_natCast, Int.toNat_natCast]
theorem refWords_ax (H : Heap) {L : Bs} (hL : L.length ≤ 1000000) : AX Tryd.prog 58 #[.string (bstr L)] H (fun v H' => OwnR 1 9 strR H' v ((splitS L).map bstr) ∧ Grow H H') := by
  have lL : ∀ X, alen Tryd.prog 9 (.string (bstr L)) X = some (.int .i64 (L.length : Int)) := fun X => rfl
  refine AX.body (n := 32) (rs := [.tmp 2]) Tryd.func58 rfl (by decide) rfl rfl (bC_sound _ _ _ _ ?_)
  refine run ?_
  refine SW.loop (α := Nat × Nat × List Bs × Value) (fun y => [(0, .string (bstr L)), (3, y.2.2.2), (4, .int .i64 (y.1 : Int)), (5, .int .i64 (y.2.1 : Int))])
    (fun y X => ((WI L y.1 y.2.1 y.2.2.1) ∨ (y.2.1 = L.length + 1 ∧ y.2.2.1 = splitS L)) ∧ y.2.2.1.length ≤ y.2.1 ∧ OwnR 1 9 strR X y.2.2.2 (y.2.2.1.map bstr) ∧ (∀ b, blkIs y.2.2.2 b → H.length ≤ b) ∧ FrR H.length 9 H X) (fun y => L.length + 1 - y.2.1)
    ⟨(0, 0, [], .slice none 0 0), ⟨rfl, rfl, rfl, rfl, trivial⟩, .inl ⟨Nat.le_refl _, Nat.zero_le _, rfl, by simp⟩, Nat.le_refl _, .inl ⟨rfl, rfl⟩, fun b h => by obtain ⟨n, k, h⟩ := h; simp at h, .refl _ _ _⟩ ?_
  rintro ⟨a, k, D, u⟩ X ⟨hI, hDk, ho, hb, hF⟩
  dsimp only at hI hDk ho hb hF ⊢
  have gX : Grow H X := FrR.grow (.refl _) hF (Nat.le_refl _)
  have lX := lL X
  refine bC_sound _ _ _ _ ?_
  rcases hI with hI | ⟨rfl, rfl⟩
  rotate_left
  · have d1 : decide (((L.length + 1 : Nat) : Int) ≤ (L.length : Int)) = false := decide_eq_false (by omega)
    refine run ?_
    exact ⟨ho, gX⟩
  have hka := hI.ka
  have hkl := hI.kl
  have d1 : decide ((k : Int) ≤ (L.length : Int)) = true := decide_eq_true (by omega)
  have sl := slice_mid L hka hkl hL
  have w1 : IntKind.i64.wrap ((k : Int) + 1) = ((k + 1 : Nat) : Int) := w_succ (by omega)
  have app : ∀ X2, Grow X X2 → ∀ (w : Bs), X2[X.length]? = some (.cells (.row 9) [.string (bstr w)]) → ∃ X3, aappend Tryd.prog 22 22 u (.slice (some ⟨X.length, 0, none⟩) 1 1) X2 = some (.slice (some ⟨X2.length, 0, none⟩) (D.length + 1) 1, X3) ∧ OwnR 1 9 strR X3 (.slice (some ⟨X2.length, 0, none⟩) (D.length + 1) 1) ((D ++ [w]).map bstr) ∧ FrR H.length 9 X2 X3 := by
    intro X2 g2 w a2
    have o2 : OwnR 1 9 strR X2 u (D.map bstr) := ho.keep (fun b c _ hc => g2.at hc) fun _ _ _ h => h
    obtain ⟨X3, ap, o3, f3, -⟩ := OwnR.append (n := H.length) (x := bstr w) rowS rowS o2 a2 rfl rfl hb (by have := gX.1; have := g2.1; omega) (by rw [List.length_map]; omega) (fun _ _ _ _ _ h => h)
    rw [List.length_map] at ap o3
    exact ⟨X3, ap, by rw [List.map_append]; exact o3, f3⟩
  by_cases hlt : k < L.length
  · have d2 : ((k : Int) == (L.length : Int)) = false := by rw [beq_eq_false_iff_ne]; omega
    obtain ⟨c, hc⟩ := get_lt hlt
    have ix : aindex Tryd.prog 9 (.string (bstr L)) (.int .i64 (k : Int)) = some (u8 c) := aix (s := bstr L) (by rw [bstr_list]; exact hc)
    by_cases hcb : c = 32
    · subst hcb
      have d3 : (((32 : UInt8).toNat : Int) == 32) = true := rfl
      refine run ?_
      refine Ob2.lay (.cells (.row 9) [.string (bstr ((L.drop a).take (k - a)))]) (.slice (some ⟨X.length, 0, none⟩) 1 1) rfl fun X2 a2 g2 _ => ?_
      obtain ⟨X3, ap, o3, f3⟩ := app X2 g2 _ a2
      refine run ?_
      refine Ob2.of ap ?_
      refine run ?_
      exact ⟨(k + 1, k + 1, D ++ [(L.drop a).take (k - a)], _), ⟨rfl, rfl, congrArg (fun z => some (Value.int .i64 z)) w1, congrArg (fun z => some (Value.int .i64 z)) w1, trivial⟩, ⟨.inl (hI.cut hc), by simp; omega, o3, fun b h => by obtain ⟨n', k', h⟩ := h; simp at h; have := gX.1; have := g2.1; omega, (hF.trans (.of g2)).trans f3⟩, by dsimp only; omega⟩
    · have d3 : ((c.toNat : Int) == 32) = false := by
        rw [beq_eq_false_iff_ne]
        intro e
        exact hcb (UInt8.toNat.inj (by simpa using (by omega : c.toNat = 32)))
      refine run ?_
      exact ⟨(a, k + 1, D, u), ⟨rfl, rfl, rfl, congrArg (fun z => some (Value.int .i64 z)) w1, trivial⟩, ⟨.inl (hI.go hc hcb), by dsimp only; omega, ho, hb, hF⟩, by dsimp only; omega⟩
  · obtain rfl : k = L.length := by omega
    have d2 : ((L.length : Int) == (L.length : Int)) = true := by simp
    refine run ?_
    refine Ob2.lay (.cells (.row 9) [.string (bstr ((L.drop a).take (L.length - a)))]) (.slice (some ⟨X.length, 0, none⟩) 1 1) rfl fun X2 a2 g2 _ => ?_
    obtain ⟨X3, ap, o3, f3⟩ := app X2 g2 _ a2
    refine run ?_
    refine Ob2.of ap ?_
    refine run ?_
    exact ⟨(L.length + 1, L.length + 1, D ++ [(L.drop a).take (L.length - a)], _), ⟨rfl, rfl, congrArg (fun z => some (Value.int .i64 z)) w1, congrArg (fun z => some (Value.int .i64 z)) w1, trivial⟩, ⟨.inr ⟨rfl, hI.end.symm⟩, by simp; omega, o3, fun b h => by obtain ⟨n', k', h⟩ := h; simp at h; have := gX.1; have := g2.1; omega, (hF.trans (.of g2)).trans f3⟩, by dsimp only; omega⟩
theorem refNumbers_ax (H : Heap) {L : Bs} (first : Bs) (many : Nat) (hL : L.length ≤ 100000) (hm : many ≤ 10) :
    AX Tryd.prog 40 #[.string (bstr L), .string (bstr first), .int .i64 (many : Int)] H (fun v H' => NumsV H.length (numbersS L first many) v H' ∧ Grow H H') := by
  have hp := split_pos L
  have hwl : ∀ w ∈ splitS L, w.length ≤ 100000 := fun w h => by have := split_word h; omega
  have hsl := split_len L
  have hcl := count_le L
  have hno := @numbers_fail L first many
  have hok := @numbers_ok L first many
  refine AX.body (n := 48) (rs := [.tmp 6, .tmp 7]) Tryd.func40 rfl (by decide) rfl rfl (bC_sound _ _ _ _ ?_)
  refine run ?_
  refine (refWords_ax H (L := L) (by omega)).mono ?_
  rintro wv H1 ⟨hg, g1⟩
  generalize hW : splitS L = W at hp hwl hsl hno hok hg
  obtain ⟨w0, ws, rfl⟩ : ∃ w0 ws, W = w0 :: ws := by
    cases W with
    | nil => simp at hp
    | cons a b => exact ⟨a, b, rfl⟩
  have hr : RL 1 strR H1 wv ((w0 :: ws).map bstr) := hg.rl
  have at_ : ∀ (i : Nat) w, (w0 :: ws)[i]? = some w → ∃ q, aindexAddr Tryd.prog 22 wv (.int .i64 (i : Int)) = some q ∧ ∀ X, Grow H1 X → aload Tryd.prog 9 q X = some (.string (bstr w)) := fun i w h => ld_str hr (by rw [List.getElem?_map, h]; rfl)
  obtain ⟨q0, ix0', ld0'⟩ := at_ 0 w0 rfl
  have ix0 : aindexAddr Tryd.prog 22 wv (.int .i64 0) = some q0 := ix0'
  have ld0 := ld0' H1 (.refl _)
  have ne := str_neq w0 first
  have ln : ∀ X, alen Tryd.prog 22 wv X = some (.int .i64 ((w0 :: ws).length : Int)) := fun X => by have := hr.len (P := Tryd.prog) (t := 22) rfl X; rwa [List.length_map] at this
  have ln1 := ln H1
  have wm : IntKind.i64.wrap ((many : Int) + 1) = ((many + 1 : Nat) : Int) := by rw [wrap_i64 (by omega) (by omega)]; omega
  by_cases h0 : w0 = first
  rotate_left
  · rw [hno fun h => h0 (by simpa using h.1)]
    rw [decide_eq_true h0] at ne
    refine run ?_
    exact ⟨⟨_, rfl⟩, g1⟩
  rw [decide_eq_false fun h => h h0] at ne
  by_cases h1 : (w0 :: ws).length = many + 1
  rotate_left
  · rw [hno fun h => h1 h.2]
    have d1 : (((w0 :: ws).length : Int) != ((many + 1 : Nat) : Int)) = true := by rw [bne_iff_ne]; omega
    refine run ?_
    rw [wm]
    refine run ?_
    exact ⟨⟨_, rfl⟩, g1⟩
  have d1 : (((w0 :: ws).length : Int) != ((many + 1 : Nat) : Int)) = false := by rw [bne_eq_false_iff_eq]; omega
  rw [hok ⟨by simp [h0], h1⟩, List.tail_cons]
  have hws : ws.length = many := by simpa using h1
  refine run ?_
  rw [wm]
  refine run ?_
  refine SW.loop (α := Nat × List Int × Value) (fun y => [(8, wv), (9, y.2.2), (10, .int .i64 ((y.1 + 1 : Nat) : Int))])
    (fun y X => y.1 ≤ ws.length ∧ numsS (ws.take y.1) = some y.2.1 ∧ y.2.1.length = y.1 ∧ OwnR 1 3 intR X y.2.2 y.2.1 ∧ (∀ b, blkIs y.2.2 b → H1.length ≤ b) ∧ FrR H1.length 3 H1 X) (fun y => ws.length - y.1)
    ⟨(0, [], .slice none 0 0), ⟨rfl, rfl, rfl, trivial⟩, Nat.zero_le _, rfl, rfl, .inl ⟨rfl, rfl⟩, fun b h => by obtain ⟨n, k, h⟩ := h; simp at h, .refl _ _ _⟩ ?_
  rintro ⟨k, l, u⟩ X ⟨hk, hn, hlk, ho, hb, hF⟩
  dsimp only at hk hn hlk ho hb hF ⊢
  have gX : Grow H1 X := FrR.grow (.refl _) hF (Nat.le_refl _)
  have lnX := ln X
  refine bC_sound _ _ _ _ ?_
  by_cases hkl : k < ws.length
  · have d2 : decide (((k + 1 : Nat) : Int) < ((w0 :: ws).length : Int)) = true := decide_eq_true (by rw [List.length_cons]; omega)
    obtain ⟨w, hw⟩ := get_lt hkl
    obtain ⟨q, ix, ld'⟩ := at_ (k + 1) w (by rw [List.getElem?_cons_succ]; exact hw)
    have ld := ld' X gX
    have hwm := List.mem_of_getElem? hw
    refine run ?_
    refine (refNumber_ax X (hwl w (List.mem_cons_of_mem _ hwm))).mono ?_
    rintro _ Y ⟨⟨n, ok, rfl, y1, y2⟩, e⟩
    subst Y
    cases ok with
    | false =>
      refine run ?_
      rw [numsS_bad hwm (y2 rfl)]
      exact ⟨⟨_, rfl⟩, g1.trans gX⟩
    | true =>
      have hnw := y1 rfl
      refine run ?_
      refine Ob2.lay (.cells (.row 3) [.int .i64 n]) (.slice (some ⟨X.length, 0, none⟩) 1 1) rfl fun X2 a2 g2 _ => ?_
      have o2 : OwnR 1 3 intR X2 u l := ho.keep (fun b c _ hc => g2.at hc) fun _ _ _ h => h
      obtain ⟨X3, ap, o3, f3, -⟩ := OwnR.append (n := H1.length) (x := n) rowI rowI o2 a2 rfl rfl hb (by have := gX.1; have := g2.1; omega) (by omega) (fun _ _ _ _ _ h => h)
      refine run ?_
      refine Ob2.of ap ?_
      refine run ?_
      exact ⟨(k + 1, l ++ [n], _), ⟨rfl, rfl, congrArg (fun z => some (Value.int .i64 z)) (w_succ (by omega)), trivial⟩, ⟨hkl, numsS_take hn hw hnw, by simp [hlk], o3, fun b h => by obtain ⟨n', k', h⟩ := h; simp at h; have := gX.1; have := g2.1; omega, (hF.trans (.of g2)).trans f3⟩, by dsimp only; omega⟩
  · have d2 : decide (((k + 1 : Nat) : Int) < ((w0 :: ws).length : Int)) = false := decide_eq_false (by rw [List.length_cons]; omega)
    rw [List.take_of_length_le (by omega)] at hn
    refine run ?_
    rw [hn]
    exact ⟨⟨_, rfl, ho, fun b h => by have := hb b h; have := g1.1; omega⟩, g1.trans gX⟩
end Go.Proofs.YtmdpifedcaaobaaDoor
