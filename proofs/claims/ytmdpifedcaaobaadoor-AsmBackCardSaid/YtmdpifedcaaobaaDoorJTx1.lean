/- Package text and its document: what the functions of one byte answer. -/
import Derived.Test.YtmdpifedcaaobaaDoorJBu1
set_option linter.unusedVariables false
set_option linter.unusedSimpArgs false
set_option maxRecDepth 20000
namespace Go.Proofs.YtmdpifedcaaobaaDoor
open Go Ax
def plainB (x : Int) : Bool := decide (x ≥ 32) && (decide (x ≤ 126) && ((x != 34) && (x != 92)))
theorem plain_ax (H : Heap) (x : Int) : AX Tryd.prog 33 #[.int .u8 x] H (fun v H' => v = .bool (plainB x) ∧ H' = H) := by
  refine AX.body (n := 17) (rs := [.tmp 2]) Tryd.func33 rfl (by decide) rfl rfl (bC_sound _ _ _ _ ?_)
  cases h1 : decide (x ≥ 32)
  · refine run ?_
    exact ⟨by simp [oneOr, plainB, h1], rfl⟩
  cases h2 : decide (x ≤ 126)
  · refine run ?_
    exact ⟨by simp [oneOr, plainB, h1, h2], rfl⟩
  cases h3 : (x != 34)
  · refine run ?_
    exact ⟨by simp [oneOr, plainB, h1, h2, h3], rfl⟩
  · refine run ?_
    exact ⟨by simp [oneOr, plainB, h1, h2, h3], rfl⟩
theorem rplain_ax (H : Heap) (x : Int) : AX Tryd.prog 51 #[.int .u8 x] H (fun v H' => v = .bool (plainB x) ∧ H' = H) := by
  refine AX.body (n := 17) (rs := [.tmp 2]) Tryd.func51 rfl (by decide) rfl rfl (bC_sound _ _ _ _ ?_)
  cases h1 : decide (x ≥ 32)
  · refine run ?_
    exact ⟨by simp [oneOr, plainB, h1], rfl⟩
  cases h2 : decide (x ≤ 126)
  · refine run ?_
    exact ⟨by simp [oneOr, plainB, h1, h2], rfl⟩
  cases h3 : (x != 34)
  · refine run ?_
    exact ⟨by simp [oneOr, plainB, h1, h2, h3], rfl⟩
  · refine run ?_
    exact ⟨by simp [oneOr, plainB, h1, h2, h3], rfl⟩
def letterB (x : Int) : Bool := (decide (x ≥ 97) && decide (x ≤ 122)) || ((decide (x ≥ 65) && decide (x ≤ 90)) || (x == 95))
/-- A hexadecimal digit's worth. -/
def worthO (x : Int) : Option Int :=
  if 48 ≤ x ∧ x ≤ 57 then some (x - 48) else if 97 ≤ x ∧ x ≤ 102 then some (x - 87) else if 65 ≤ x ∧ x ≤ 70 then some (x - 55) else none
theorem wrap_u8 {x : Int} (h0 : 0 ≤ x) (h1 : x ≤ 255) : IntKind.u8.wrap x = x := by
  have e : IntKind.u8.wrap x = x % 256 := rfl
  rw [e]; omega
theorem worth_ax (H : Heap) (x : Int) (hx0 : 0 ≤ x) (hx1 : x ≤ 255) : AX Tryd.prog 100 #[.int .u8 x] H (fun v H' => v = .tuple #[.int .u8 ((worthO x).getD 0), .bool (worthO x).isSome] ∧ H' = H) := by
  refine AX.body (n := 33) (rs := [.tmp 2, .tmp 3]) Tryd.func100 rfl (by decide) rfl rfl (bC_sound _ _ _ _ ?_)
  by_cases a : 48 ≤ x ∧ x ≤ 57
  · have h1 : decide (x ≥ 48) = true := decide_eq_true a.1
    have h2 : decide (x ≤ 57) = true := decide_eq_true a.2
    refine run ?_
    exact ⟨by rw [wrap_u8 (by omega) (by omega)]; simp [oneOr, worthO, a], rfl⟩
  by_cases b : 97 ≤ x ∧ x ≤ 102
  · have h1 : decide (x ≥ 48) = true := decide_eq_true (by omega)
    have h2 : decide (x ≤ 57) = false := decide_eq_false (by omega)
    have h3 : decide (x ≥ 97) = true := decide_eq_true b.1
    have h4 : decide (x ≤ 102) = true := decide_eq_true b.2
    refine run ?_
    exact ⟨by rw [wrap_u8 (x := x - 97) (by omega) (by omega), wrap_u8 (by omega) (by omega)]; simp [oneOr, worthO, a, b]; omega, rfl⟩
  by_cases c : 65 ≤ x ∧ x ≤ 70
  · have h1 : decide (x ≥ 48) = true := decide_eq_true (by omega)
    have h2 : decide (x ≤ 57) = false := decide_eq_false (by omega)
    have h3 : decide (x ≥ 97) = false := decide_eq_false (by omega)
    have h5 : decide (x ≥ 65) = true := decide_eq_true c.1
    have h6 : decide (x ≤ 70) = true := decide_eq_true c.2
    refine run ?_
    exact ⟨by rw [wrap_u8 (x := x - 65) (by omega) (by omega), wrap_u8 (by omega) (by omega)]; simp [oneOr, worthO, a, b, c]; omega, rfl⟩
  have e : worthO x = none := by simp only [worthO, if_neg a, if_neg b, if_neg c]
  rw [e]
  cases h1 : decide (x ≥ 48) <;> cases h2 : decide (x ≤ 57) <;> cases h3 : decide (x ≥ 97) <;> cases h4 : decide (x ≤ 102) <;> cases h5 : decide (x ≥ 65) <;> cases h6 : decide (x ≤ 70) <;>
    first
      | (exfalso; simp only [decide_eq_true_eq, decide_eq_false_iff_not] at h1 h2 h3 h4 h5 h6; omega)
      | (refine run ?_; exact ⟨rfl, rfl⟩)
theorem rworth_ax (H : Heap) (x : Int) (hx0 : 0 ≤ x) (hx1 : x ≤ 255) : AX Tryd.prog 60 #[.int .u8 x] H (fun v H' => v = .int .u8 ((worthO x).getD 16) ∧ H' = H) := by
  refine AX.body (n := 27) (rs := [.tmp 2]) Tryd.func60 rfl (by decide) rfl rfl (bC_sound _ _ _ _ ?_)
  by_cases a : 48 ≤ x ∧ x ≤ 57
  · have h1 : decide (x ≥ 48) = true := decide_eq_true a.1
    have h2 : decide (x ≤ 57) = true := decide_eq_true a.2
    refine run ?_
    exact ⟨by rw [wrap_u8 (by omega) (by omega)]; simp [oneOr, worthO, a], rfl⟩
  by_cases b : 97 ≤ x ∧ x ≤ 102
  · have h1 : decide (x ≥ 48) = true := decide_eq_true (by omega)
    have h2 : decide (x ≤ 57) = false := decide_eq_false (by omega)
    have h3 : decide (x ≥ 97) = true := decide_eq_true b.1
    have h4 : decide (x ≤ 102) = true := decide_eq_true b.2
    refine run ?_
    exact ⟨by rw [wrap_u8 (by omega) (by omega)]; simp [oneOr, worthO, a, b], rfl⟩
  by_cases c : 65 ≤ x ∧ x ≤ 70
  · have h1 : decide (x ≥ 48) = true := decide_eq_true (by omega)
    have h2 : decide (x ≤ 57) = false := decide_eq_false (by omega)
    have h3 : decide (x ≥ 97) = false := decide_eq_false (by omega)
    have h5 : decide (x ≥ 65) = true := decide_eq_true c.1
    have h6 : decide (x ≤ 70) = true := decide_eq_true c.2
    refine run ?_
    exact ⟨by rw [wrap_u8 (by omega) (by omega)]; simp [oneOr, worthO, a, b, c], rfl⟩
  have e : worthO x = none := by simp only [worthO, if_neg a, if_neg b, if_neg c]
  rw [e]
  cases h1 : decide (x ≥ 48) <;> cases h2 : decide (x ≤ 57) <;> cases h3 : decide (x ≥ 97) <;> cases h4 : decide (x ≤ 102) <;> cases h5 : decide (x ≥ 65) <;> cases h6 : decide (x ≤ 70) <;>
    first
      | (exfalso; simp only [decide_eq_true_eq, decide_eq_false_iff_not] at h1 h2 h3 h4 h5 h6; omega)
      | (refine run ?_; exact ⟨rfl, rfl⟩)
theorem worthO_lt {x y : Int} (h : worthO x = some y) : 0 ≤ y ∧ y < 16 := by
  unfold worthO at h
  split at h
  · simp only [Option.some.injEq] at h; omega
  split at h
  · simp only [Option.some.injEq] at h; omega
  split at h
  · simp only [Option.some.injEq] at h; omega
  · simp at h
end Go.Proofs.YtmdpifedcaaobaaDoor
/- Package text: the reader of a string, byte by byte. -/
set_option linter.unusedVariables false
set_option linter.unusedSimpArgs false
set_option maxRecDepth 20000
namespace Go.Proofs.YtmdpifedcaaobaaDoor
open Go Ax
/-- A reader: the bytes taken so far, the place. -/
abbrev Rd (B : Nat) (H : Heap) (b : Nat) (s : ByteArray) (k : Nat) (bs : List UInt8) : Prop := Bld B H b 114 [.string s, .int .i64 (k : Int)] bs
theorem okB_rd : OkB 114 := ⟨by decide, by kernel_rfl⟩
theorem str_at {s : ByteArray} {k : Nat} {c : UInt8} (h : s.data.toList[k]? = some c) : s[k]? = some c := by
  rw [Array.getElem?_toList] at h
  exact h
theorem str_lt {s : ByteArray} {k : Nat} {c : UInt8} (h : s.data.toList[k]? = some c) : k < s.size := by
  have := (List.getElem?_eq_some_iff.1 h).1
  simpa using this
theorem str_ge {s : ByteArray} {k : Nat} (h : s.data.toList[k]? = none) : s.size ≤ k := by
  have := List.getElem?_eq_none_iff.1 h
  simpa using this
theorem aix {s : ByteArray} {k : Nat} {c : UInt8} (h : s.data.toList[k]? = some c) : aindex Tryd.prog 9 (.string s) (.int .i64 (k : Int)) = some (u8 c) := by
  simp [aindex, show Tryd.prog.underlying 9 = some .string from rfl, str_at h]
theorem wrap_nat {k : Nat} (h : k ≤ 140737488355327) : IntKind.i64.wrap ((k : Int) + 1) = ((k + 1 : Nat) : Int) := by rw [wrap_i64 (by omega) (by omega)]; omega
theorem next_some {B : Nat} {H : Heap} {b : Nat} {s : ByteArray} {k : Nat} {bs : List UInt8} {c : UInt8} (h : Rd B H b s k bs) (hc : s.data.toList[k]? = some c) :
    AX Tryd.prog 76 #[ptr b] H (fun v H' => v = .tuple #[u8 c, .bool true] ∧ H' = H) := by
  obtain ⟨h1, h2, a, v, h3, h4, h5⟩ := h
  have hb := hblk_of h3
  have hlt := str_lt hc
  have d1 : decide ((k : Int) ≥ (s.size : Int)) = false := decide_eq_false (by omega)
  have ix := aix hc
  refine AX.body (n := 23) (rs := [.tmp 2, .tmp 3]) Tryd.func76 rfl (by decide) rfl rfl (bC_sound _ _ _ _ ?_)
  refine run ?_
  apply SW.draw2 [([], [8, 9, 10, 11, 12], 0, 0, false), ([(4, 0)], [4, 8, 9, 10, 11, 12], 0, 0, false), ([(4, 0), (5, 1)], [4, 5, 8, 9, 10, 11, 12], 0, 0, false), ([(4, 0), (5, 1), (6, 2)], [4, 5, 6, 8, 9, 10, 11, 12], 0, 0, false), ([], [4, 5, 6, 7], 0, 0, false), ([(8, 4)], [4, 5, 6, 7, 8], 0, 0, false), ([(8, 4), (9, 5)], [4, 5, 6, 7, 8, 9], 0, 0, false), ([(8, 4), (9, 5), (10, 6)], [4, 5, 6, 7, 8, 9, 10], 0, 0, false), ([(8, 4), (9, 5), (10, 6), (11, 7)], [4, 5, 6, 7, 8, 9, 10, 11], 0, 0, false), ([(4, 0), (5, 1), (6, 2), (7, 3), (8, 4), (9, 5), (10, 6), (11, 7), (12, 8)], [4, 5, 6, 7, 8, 9, 10, 11, 12], 0, 0, false)]
    [(4, 0), (5, 1), (6, 2), (7, 3), (8, 4), (9, 5), (10, 6), (11, 7), (12, 8), (13, 9)] 0
    [(0, _)] [_, _, _, _, _, _, _, _, _, _] [H] rfl (by kernel_rfl)
  case hF => exact ⟨rfl, trivial⟩
  case h0 => rfl
  case steps =>
    (try (conv => whnf)); repeat' (first | (refine And.intro ?_ ?_ <;> (conv => whnf)) | exact Leaf.mk rfl rfl | exact True.intro | (refine Ob.of rfl ?_; (conv => whnf)) | (refine Ob2.of (by rfl) ?_; (conv => whnf)) | (refine step1 ?_))
  refine run ?_
  apply SW.draw2 [([], [18, 19, 20, 21], 0, 0, false), ([(14, 0)], [14, 18, 19, 20, 21], 0, 0, false), ([(14, 0), (15, 1)], [14, 15, 18, 19, 20, 21], 0, 0, false), ([(14, 0), (15, 1), (16, 2)], [14, 15, 16, 18, 19, 20, 21], 0, 0, false), ([], [14, 15, 16, 17], 0, 0, false), ([(18, 4)], [14, 15, 16, 17, 18], 0, 0, false), ([(18, 4), (19, 5)], [14, 15, 16, 17, 18, 19], 0, 0, false), ([(18, 4), (19, 5), (20, 6)], [14, 15, 16, 17, 18, 19, 20], 0, 0, false), ([(14, 0), (15, 1), (16, 2), (17, 3), (18, 4), (19, 5), (20, 6), (21, 7)], [14, 15, 16, 17, 18, 19, 20, 21], 0, 0, false), ([(14, 0), (15, 1), (16, 2), (17, 3), (18, 4), (19, 5), (20, 6), (21, 7), (22, 8)], [14, 15, 16, 17, 18, 19, 20, 21, 22], 0, 0, false), ([(14, 0), (15, 1), (16, 2), (17, 3), (18, 4), (19, 5), (20, 6), (21, 7), (22, 8), (2, 9)], [14, 15, 16, 17, 18, 19, 20, 21, 22, 2], 0, 0, false)]
    [(14, 0), (15, 1), (16, 2), (17, 3), (18, 4), (19, 5), (20, 6), (21, 7), (22, 8), (2, 9), (3, 10)] 0
    [(0, _)] [_, _, _, _, _, _, _, _, _, _, _] [H] rfl (by kernel_rfl)
  case hF => exact ⟨rfl, trivial⟩
  case h0 => rfl
  case steps =>
    (try (conv => whnf)); repeat' (first | ((with_reducible refine Ob.of ix ?_); (conv => whnf)) | ((with_reducible refine Ob2.of ix ?_); (conv => whnf)) | (refine And.intro ?_ ?_ <;> (conv => whnf)) | exact Leaf.mk rfl rfl | exact True.intro | (refine Ob.of rfl ?_; (conv => whnf)) | (refine Ob2.of (by rfl) ?_; (conv => whnf)) | (refine step1 ?_))
  refine run ?_
  exact ⟨rfl, rfl⟩
theorem next_none {B : Nat} {H : Heap} {b : Nat} {s : ByteArray} {k : Nat} {bs : List UInt8} (h : Rd B H b s k bs) (hc : s.data.toList[k]? = none) :
    AX Tryd.prog 76 #[ptr b] H (fun v H' => v = .tuple #[.int .u8 0, .bool false] ∧ H' = H) := by
  obtain ⟨h1, h2, a, v, h3, h4, h5⟩ := h
  have hb := hblk_of h3
  have hlt := str_ge hc
  have d1 : decide ((k : Int) ≥ (s.size : Int)) = true := decide_eq_true (by omega)
  refine AX.body (n := 23) (rs := [.tmp 2, .tmp 3]) Tryd.func76 rfl (by decide) rfl rfl (bC_sound _ _ _ _ ?_)
  refine run ?_
  apply SW.draw2 [([], [8, 9, 10, 11, 12], 0, 0, false), ([(4, 0)], [4, 8, 9, 10, 11, 12], 0, 0, false), ([(4, 0), (5, 1)], [4, 5, 8, 9, 10, 11, 12], 0, 0, false), ([(4, 0), (5, 1), (6, 2)], [4, 5, 6, 8, 9, 10, 11, 12], 0, 0, false), ([], [4, 5, 6, 7], 0, 0, false), ([(8, 4)], [4, 5, 6, 7, 8], 0, 0, false), ([(8, 4), (9, 5)], [4, 5, 6, 7, 8, 9], 0, 0, false), ([(8, 4), (9, 5), (10, 6)], [4, 5, 6, 7, 8, 9, 10], 0, 0, false), ([(8, 4), (9, 5), (10, 6), (11, 7)], [4, 5, 6, 7, 8, 9, 10, 11], 0, 0, false), ([(4, 0), (5, 1), (6, 2), (7, 3), (8, 4), (9, 5), (10, 6), (11, 7), (12, 8)], [4, 5, 6, 7, 8, 9, 10, 11, 12], 0, 0, false)]
    [(4, 0), (5, 1), (6, 2), (7, 3), (8, 4), (9, 5), (10, 6), (11, 7), (12, 8), (13, 9)] 0
    [(0, _)] [_, _, _, _, _, _, _, _, _, _] [H] rfl (by kernel_rfl)
  case hF => exact ⟨rfl, trivial⟩
  case h0 => rfl
  case steps =>
    (try (conv => whnf)); repeat' (first | (refine And.intro ?_ ?_ <;> (conv => whnf)) | exact Leaf.mk rfl rfl | exact True.intro | (refine Ob.of rfl ?_; (conv => whnf)) | (refine Ob2.of (by rfl) ?_; (conv => whnf)) | (refine step1 ?_))
  refine run ?_
  exact ⟨rfl, rfl⟩
/-- The reader goes on by one. -/
theorem rd_step {B : Nat} {H H' : Heap} {b : Nat} {s : ByteArray} {k k' : Nat} {bs : List UInt8} {a v : Value} (h : Rd B H b s k bs) (hb : H[b]? = some (.cells (.one 114) [a, v, .string s, .int .i64 (k : Int)]))
    (h' : H'[b]? = some (.cells (.one 114) [a, v, .string s, .int .i64 (k' : Int)])) (hk : But b H H') : Rd B H' b s k' bs ∧ Keep B H H' := by
  obtain ⟨h1, h2, a1, v1, h3, h4, h5⟩ := h
  rw [hb] at h3
  simp only [Option.some.injEq, Blk.cells.injEq, List.cons.injEq, true_and, and_true] at h3
  obtain ⟨rfl, rfl⟩ := h3
  exact ⟨⟨h1, Nat.le_trans h2 hk.1, a, v, h', h4, h5.but hk (.of hb rfl)⟩, hk.keep h2 h1⟩
def hexAt (L : List UInt8) (k : Nat) : Option Int := (L[k]?).bind fun c => worthO (c.toNat : Int)
def pairS (L : List UInt8) (k : Nat) : Bool × Nat × List UInt8 :=
  match hexAt L k with
  | none => (false, k, [])
  | some p => match hexAt L (k + 1) with
    | none => (false, k + 1, [])
    | some q => (true, k + 2, [UInt8.ofNat (p * 16 + q).toNat])
theorem or_four : ∀ p q : Fin 16, (BitVec.ofInt 8 ((p.val : Int) * 16) ||| BitVec.ofInt 8 (q.val : Int)).toNat = p.val * 16 + q.val := by decide
theorem or_ok {p q : Int} (h0 : 0 ≤ p) (h1 : p < 16) (h2 : 0 ≤ q) (h3 : q < 16) : IntKind.u8.wrap (BitVec.ofInt IntKind.u8.bits (IntKind.u8.wrap (p * 2 ^ (min (4 : Int).toNat IntKind.u8.bits))) ||| BitVec.ofInt IntKind.u8.bits q).toNat = p * 16 + q := by
  have e : p * 2 ^ (min (4 : Int).toNat IntKind.u8.bits) = p * 16 := rfl
  rw [e, wrap_u8 (x := p * 16) (by omega) (by omega)]
  have := or_four ⟨p.toNat, by omega⟩ ⟨q.toNat, by omega⟩
  have ep : ((p.toNat : Nat) : Int) = p := by omega
  have eq : ((q.toNat : Nat) : Int) = q := by omega
  simp only [ep, eq] at this
  have hb : IntKind.u8.bits = 8 := rfl
  rw [hb, this, wrap_u8 (by omega) (by omega)]
  omega
theorem pair_ax {B : Nat} {H : Heap} {b : Nat} {s : ByteArray} {k : Nat} {bs : List UInt8} (h : Rd B H b s k bs) (hs : s.size ≤ 1000000) (hk : k ≤ 2000000) (hl : bs.length ≤ 1000000) :
    AX Tryd.prog 92 #[ptr b] H (fun v H' => v = .bool (pairS s.data.toList k).1 ∧ Rd B H' b s (pairS s.data.toList k).2.1 (bs ++ (pairS s.data.toList k).2.2) ∧ Keep B H H') := by
  refine AX.body (n := 43) (rs := [.tmp 2]) Tryd.func92 rfl (by decide) rfl rfl (bC_sound _ _ _ _ ?_)
  refine run ?_
  refine SW.loop (α := Nat × Int) (fun x => [(0, ptr b), (3, .int .u8 x.2), (8, .int .i64 (x.1 : Int))])
    (fun x H1 => x.1 ≤ 2 ∧ Rd B H1 b s (k + x.1) bs ∧ Keep B H H1 ∧ (x.1 = 0 → x.2 = 0) ∧ (x.1 = 1 → hexAt s.data.toList k = some x.2) ∧ (x.1 = 2 → ∃ p q, hexAt s.data.toList k = some p ∧ hexAt s.data.toList (k + 1) = some q ∧ x.2 = p * 16 + q)) (fun x => 2 - x.1)
    ⟨(0, 0), ⟨rfl, rfl, rfl, trivial⟩, by show 0 ≤ 2; omega, h, .refl _ _, fun _ => rfl, fun e => (by cases e), fun e => (by cases e)⟩ ?_
  rintro ⟨i, n⟩ H1 ⟨hi, r1, g1, c0, c1, c2⟩
  simp only at hi r1 c0 c1 c2
  refine bC_sound _ _ _ _ ?_
  by_cases hi2 : i < 2
  · have d1 : decide ((i : Int) < 2) = true := decide_eq_true (by omega)
    refine run ?_
    cases hc : s.data.toList[k + i]? with
    | none =>
      refine (next_none r1 hc).mono ?_
      rintro _ X ⟨rfl, e⟩
      subst X
      refine run ?_
      refine (worth_ax H1 0 (by decide) (by decide)).mono ?_
      rintro _ X ⟨rfl, e⟩
      subst X
      refine run ?_
      have hx : hexAt s.data.toList (k + i) = none := by simp [hexAt, hc]
      have hp : pairS s.data.toList k = (false, k + i, []) := by
        match i, hi2 with
        | 0, _ => simp only [pairS]; rw [show hexAt s.data.toList k = none from hx]; rfl
        | 1, _ => simp only [pairS]; rw [c1 rfl, hx]
      rw [hp]
      exact ⟨rfl, by simpa using r1, g1⟩
    | some c =>
      refine (next_some r1 hc).mono ?_
      rintro _ X ⟨rfl, e⟩
      subst X
      refine run ?_
      have hcb : (c.toNat : Int) ≤ 255 := by have := c.toNat_lt; omega
      refine (worth_ax H1 (c.toNat : Int) (by omega) hcb).mono ?_
      rintro _ X ⟨rfl, e⟩
      subst X
      have hx : hexAt s.data.toList (k + i) = worthO (c.toNat : Int) := by simp [hexAt, hc]
      cases hw : worthO (c.toNat : Int) with
      | none =>
        have hp : pairS s.data.toList k = (false, k + i, []) := by
          match i, hi2 with
          | 0, _ => simp only [pairS]; rw [show hexAt s.data.toList k = none from by rw [← hw]; exact hx]; rfl
          | 1, _ => simp only [pairS]; rw [c1 rfl, hx, hw]
        refine run ?_
        rw [hp]
        exact ⟨rfl, by simpa using r1, g1⟩
      | some d =>
        obtain ⟨w0, w1⟩ := worthO_lt hw
        have hw' : (worthO (c.toNat : Int)).getD 0 = d := by rw [hw]; rfl
        have hr1 := r1
        obtain ⟨h1, h2, a, v, h3, h4, h5⟩ := hr1
        have hb := hblk_of h3
        have hlt := str_lt hc
        have wn : IntKind.i64.wrap (((k + i : Nat) : Int) + 1) = ((k + (i + 1) : Nat) : Int) := by rw [wrap_nat (by omega)]; rfl
        have wi : IntKind.i64.wrap ((i : Int) + 1) = ((i + 1 : Nat) : Int) := wrap_nat (by omega)
        refine run ?_
        refine Ob.store rfl rfl rfl h3 rfl (by first | exact Nat.le_of_ble_eq_true rfl | simp) fun H2 s1 s2 s3 => ?_
        refine run ?_
        have s1' : H2[b]? = some (.cells (.one 114) [a, v, .string s, .int .i64 ((k + (i + 1) : Nat) : Int)]) := by rw [← wn]; exact s1
        obtain ⟨r2, g2⟩ := rd_step r1 h3 s1' s2
        have hn : 0 ≤ n ∧ n < 16 := by
          match i, hi2 with
          | 0, _ => have := c0 rfl; omega
          | 1, _ =>
            have := c1 rfl
            unfold hexAt at this
            obtain ⟨y, _, hy⟩ := Option.bind_eq_some_iff.1 this
            exact worthO_lt hy
        refine ⟨(i + 1, n * 16 + d), ⟨rfl, ?_, congrArg (fun z => some (Value.int .i64 z)) wi, trivial⟩, ⟨by show i + 1 ≤ 2; omega, r2, g1.trans g2, fun e => (by cases e), fun e => ?_, fun e => ?_⟩, by show 2 - (i + 1) < 2 - i; omega⟩
        · refine congrArg (fun z => some (Value.int .u8 z)) ?_
          exact or_ok hn.1 hn.2 w0 w1
        · have : i = 0 := by simpa using e
          subst this
          have := c0 rfl
          subst this
          show hexAt s.data.toList k = some (0 * 16 + d)
          rw [show (0 : Int) * 16 + d = d by omega, ← hw]; exact hx
        · have : i = 1 := by simpa using e
          subst this
          exact ⟨n, d, c1 rfl, by rw [← hw]; exact hx, rfl⟩
  · have d1 : decide ((i : Int) < 2) = false := decide_eq_false (by omega)
    have i2 : i = 2 := by omega
    subst i2
    obtain ⟨p, q, hp, hq, rfl⟩ := c2 rfl
    have hb : ∀ k p, hexAt s.data.toList k = some p → 0 ≤ p ∧ p < 16 := by
      intro k p hk
      unfold hexAt at hk
      obtain ⟨y, _, hy⟩ := Option.bind_eq_some_iff.1 hk
      exact worthO_lt hy
    have b1 := hb _ _ hp
    have b2 := hb _ _ hq
    have hx : (.int .u8 (p * 16 + q) : Value) = u8 (UInt8.ofNat (p * 16 + q).toNat) := by
      show Value.int .u8 _ = Value.int .u8 _
      congr 1
      simp [UInt8.toNat_ofNat]
      omega
    have hps : pairS s.data.toList k = (true, k + 2, [UInt8.ofNat (p * 16 + q).toNat]) := by simp only [pairS, hp, hq]
    rw [hps]
    refine run ?_
    rw [hx]
    refine (writeByte_ax r1 okB_rd (by omega) _).mono ?_
    rintro _ H2 ⟨rfl, r2, g2⟩
    refine run ?_
    exact ⟨rfl, r2, g1.trans g2⟩
end Go.Proofs.YtmdpifedcaaobaaDoor
/- Package text: what is behind a backslash, and the whole string. -/
set_option linter.unusedVariables false
set_option linter.unusedSimpArgs false
set_option maxRecDepth 20000
namespace Go.Proofs.YtmdpifedcaaobaaDoor
open Go Ax
def escS (L : List UInt8) (k : Nat) : Bool × Nat × List UInt8 :=
  match L[k]? with
  | none => (false, k, [])
  | some c => if c = 120 then pairS L (k + 1) else if c = 34 ∨ c = 92 then (true, k + 1, [c]) else (false, k, [])
/-- The string from k on: what is taken, the place, the error. -/
def tkF : Nat → List UInt8 → Nat → List UInt8 → List UInt8 × Nat × Int
  | 0, _, k, _ => ([], k, 11)
  | f + 1, L, k, acc =>
    match L[k]? with
    | none => ([], k, 11)
    | some c =>
      if c = 34 then (acc, k + 1, 0) else
      if plainB (c.toNat : Int) = true then tkF f L (k + 1) (acc ++ [c]) else
      if c ≠ 92 then ([], k, 11) else
      match escS L (k + 1) with
      | (true, k', x) => tkF f L k' (acc ++ x)
      | (false, k', _) => ([], k', 11)
def takeS (L : List UInt8) : List UInt8 × Nat × Int :=
  match L[0]? with
  | some c => if c = 34 then tkF (L.length + 1) L 1 [] else ([], 0, 11)
  | none => ([], 0, 11)
theorem pairS_pos (L : List UInt8) (k : Nat) : (pairS L k).2.1 ≤ k + 2 ∧ (pairS L k).2.2.length ≤ 1 ∧ ((pairS L k).1 = true → (pairS L k).2.1 = k + 2) := by
  unfold pairS
  split
  · simp
  · split <;> simp
theorem escS_pos (L : List UInt8) (k : Nat) : (escS L k).2.1 ≤ k + 3 ∧ (escS L k).2.2.length ≤ 1 ∧ ((escS L k).1 = true → k < (escS L k).2.1) := by
  unfold escS
  split
  · simp
  · split
    · obtain ⟨h1, h2, h3⟩ := pairS_pos L (k + 1)
      exact ⟨by omega, h2, fun h => by rw [h3 h]; omega⟩
    · split <;> simp
theorem u8_eq (c : UInt8) (n : Nat) (hn : n < 256) : ((c.toNat : Int) == (n : Int)) = decide (c = UInt8.ofNat n) := by
  have h : c = UInt8.ofNat n ↔ c.toNat = n := by
    constructor
    · rintro rfl; simp; omega
    · intro h; rw [← h]; simp
  by_cases hc : c = UInt8.ofNat n
  · rw [decide_eq_true hc]; have := h.1 hc; simp; omega
  · rw [decide_eq_false hc]; have := mt h.2 hc; simp; omega
theorem u8_ne (c : UInt8) (n : Nat) (hn : n < 256) : ((c.toNat : Int) != (n : Int)) = !decide (c = UInt8.ofNat n) := by
  rw [← u8_eq c n hn]; rfl
theorem escape_ax {B : Nat} {H : Heap} {b : Nat} {s : ByteArray} {k : Nat} {bs : List UInt8} (h : Rd B H b s k bs) (hs : s.size ≤ 1000000) (hk : k ≤ 1000000) (hl : bs.length ≤ 1000000) :
    AX Tryd.prog 77 #[ptr b] H (fun v H' => v = .bool (escS s.data.toList k).1 ∧ Rd B H' b s (escS s.data.toList k).2.1 (bs ++ (escS s.data.toList k).2.2) ∧ Keep B H H') := by
  refine AX.body (n := 44) (rs := [.tmp 2]) Tryd.func77 rfl (by decide) rfl rfl (bC_sound _ _ _ _ ?_)
  refine run ?_
  cases hc : s.data.toList[k]? with
  | none =>
    refine (next_none h hc).mono ?_
    rintro _ X ⟨rfl, e⟩
    subst X
    have he : escS s.data.toList k = (false, k, []) := by simp [escS, hc]
    rw [he]
    refine run ?_
    exact ⟨rfl, by simpa using h, .refl _ _⟩
  | some c =>
    refine (next_some h hc).mono ?_
    rintro _ X ⟨rfl, e⟩
    subst X
    have hr1 := h
    obtain ⟨h1, h2, a, v, h3, h4, h5⟩ := hr1
    have hb := hblk_of h3
    have wn : IntKind.i64.wrap ((k : Int) + 1) = ((k + 1 : Nat) : Int) := wrap_nat (by omega)
    by_cases hx : c = 120
    · have t1 : ((c.toNat : Int) == 120) = true := by rw [show (120 : Int) = ((120 : Nat) : Int) from rfl, u8_eq c 120 (by decide)]; exact decide_eq_true hx
      have he : escS s.data.toList k = pairS s.data.toList (k + 1) := by simp [escS, hc, hx]
      rw [he]
      refine run ?_
      refine Ob.store rfl rfl rfl h3 rfl (by first | exact Nat.le_of_ble_eq_true rfl | simp) fun H2 s1 s2 s3 => ?_
      have s1' : H2[b]? = some (.cells (.one 114) [a, v, .string s, .int .i64 ((k + 1 : Nat) : Int)]) := by rw [← wn]; exact s1
      obtain ⟨r2, g2⟩ := rd_step h h3 s1' s2
      refine run ?_
      refine (pair_ax r2 hs (by omega) hl).mono ?_
      rintro _ H3 ⟨rfl, r3, g3⟩
      refine run ?_
      exact ⟨rfl, r3, g2.trans g3⟩
    have t1 : ((c.toNat : Int) == 120) = false := by rw [show (120 : Int) = ((120 : Nat) : Int) from rfl, u8_eq c 120 (by decide)]; exact decide_eq_false hx
    by_cases hq : c = 34 ∨ c = 92
    · have he : escS s.data.toList k = (true, k + 1, [c]) := by simp [escS, hc, hx, hq]
      rw [he]
      have go : ∀ (H : Heap), True → True := fun _ h => h
      rcases hq with hq | hq
      · have t2 : ((c.toNat : Int) != 34) = false := by rw [show (34 : Int) = ((34 : Nat) : Int) from rfl, u8_ne c 34 (by decide)]; simp [hq]
        refine run ?_
        refine (writeByte_ax h okB_rd (by omega) c).mono ?_
        rintro _ H2 ⟨rfl, r2, g2⟩
        have hr2 := r2
        obtain ⟨i1, i2, a2, v2, i3, i4, i5⟩ := hr2
        have hb2 := hblk_of i3
        refine run ?_
        refine Ob.store rfl rfl rfl i3 rfl (by first | exact Nat.le_of_ble_eq_true rfl | simp) fun H3 s1 s2 s3 => ?_
        have s1' : H3[b]? = some (.cells (.one 114) [a2, v2, .string s, .int .i64 ((k + 1 : Nat) : Int)]) := by rw [← wn]; exact s1
        obtain ⟨r3, g3⟩ := rd_step r2 i3 s1' s2
        refine run ?_
        exact ⟨rfl, r3, g2.trans g3⟩
      · have t2 : ((c.toNat : Int) != 34) = true := by rw [show (34 : Int) = ((34 : Nat) : Int) from rfl, u8_ne c 34 (by decide)]; simp [hq]
        have t3 : ((c.toNat : Int) != 92) = false := by rw [show (92 : Int) = ((92 : Nat) : Int) from rfl, u8_ne c 92 (by decide)]; simp [hq]
        refine run ?_
        refine (writeByte_ax h okB_rd (by omega) c).mono ?_
        rintro _ H2 ⟨rfl, r2, g2⟩
        have hr2 := r2
        obtain ⟨i1, i2, a2, v2, i3, i4, i5⟩ := hr2
        have hb2 := hblk_of i3
        refine run ?_
        refine Ob.store rfl rfl rfl i3 rfl (by first | exact Nat.le_of_ble_eq_true rfl | simp) fun H3 s1 s2 s3 => ?_
        have s1' : H3[b]? = some (.cells (.one 114) [a2, v2, .string s, .int .i64 ((k + 1 : Nat) : Int)]) := by rw [← wn]; exact s1
        obtain ⟨r3, g3⟩ := rd_step r2 i3 s1' s2
        refine run ?_
        exact ⟨rfl, r3, g2.trans g3⟩
    · have he : escS s.data.toList k = (false, k, []) := by simp [escS, hc, hx, hq]
      rw [he]
      have t2 : ((c.toNat : Int) != 34) = true := by rw [show (34 : Int) = ((34 : Nat) : Int) from rfl, u8_ne c 34 (by decide)]; simp; exact fun e => hq (.inl e)
      have t3 : ((c.toNat : Int) != 92) = true := by rw [show (92 : Int) = ((92 : Nat) : Int) from rfl, u8_ne c 92 (by decide)]; simp; exact fun e => hq (.inr e)
      refine run ?_
      exact ⟨rfl, by simpa using h, .refl _ _⟩
end Go.Proofs.YtmdpifedcaaobaaDoor
/- Package text: the string with which a text begins. -/
set_option linter.unusedVariables false
set_option linter.unusedSimpArgs false
set_option maxRecDepth 20000
namespace Go.Proofs.YtmdpifedcaaobaaDoor
open Go Ax
abbrev takeV (R : List UInt8 × Nat × Int) : Value := .tuple #[.string ⟨R.1.toArray⟩, .int .i64 (R.2.1 : Int), .int .i64 R.2.2]
theorem plain_takeV (R : List UInt8 × Nat × Int) : plain (takeV R) := plain_tuple (vs := [_, _, _]) fun v hv => by
  simp only [List.mem_cons, List.not_mem_nil, or_false] at hv
  rcases hv with rfl | rfl | rfl
  · exact plain_str _
  · exact plain_int _ _
  · exact plain_int _ _
theorem pairS_len {L : List UInt8} {k : Nat} (h : (pairS L k).1 = true) : (pairS L k).2.1 ≤ L.length := by
  unfold pairS at h ⊢
  cases hp : hexAt L k with
  | none => simp [hp] at h
  | some p =>
    cases hq : hexAt L (k + 1) with
    | none => simp [hp, hq] at h
    | some q =>
      have hq' := hq
      unfold hexAt at hq'
      obtain ⟨y, hy, _⟩ := Option.bind_eq_some_iff.1 hq'
      have := (List.getElem?_eq_some_iff.1 hy).1
      simp only [hp, hq]
      omega
theorem escS_len {L : List UInt8} {k : Nat} (h : (escS L k).1 = true) : (escS L k).2.1 ≤ L.length := by
  unfold escS at h ⊢
  cases hc : L[k]? with
  | none => simp [hc] at h
  | some c =>
    have hlt := (List.getElem?_eq_some_iff.1 hc).1
    simp only [hc] at h ⊢
    split at h
    · rename_i h1; rw [if_pos h1]; exact pairS_len h
    · rename_i h1
      rw [if_neg h1]
      split at h
      · rename_i h2; rw [if_pos h2]; show k + 1 ≤ _; omega
      · simp at h
theorem tk_yes {L acc : List UInt8} {k f : Nat} {c : UInt8} (hc : L[k]? = some c) (h34 : c ≠ 34) (hp : plainB (c.toNat : Int) = false) (h92 : c = 92) (he : (escS L (k + 1)).1 = true) :
    tkF (f + 1) L k acc = tkF f L (escS L (k + 1)).2.1 (acc ++ (escS L (k + 1)).2.2) := by
  simp only [tkF, hc]
  rw [if_neg h34, if_neg (by simp [hp]), if_neg (by simpa using h92)]
  generalize escS L (k + 1) = y at he ⊢
  obtain ⟨t, k', x⟩ := y
  simp only at he
  subst he
  rfl
theorem tk_no {L acc : List UInt8} {k f : Nat} {c : UInt8} (hc : L[k]? = some c) (h34 : c ≠ 34) (hp : plainB (c.toNat : Int) = false) (h92 : c = 92) (he : (escS L (k + 1)).1 = false) :
    tkF (f + 1) L k acc = ([], (escS L (k + 1)).2.1, 11) := by
  simp only [tkF, hc]
  rw [if_neg h34, if_neg (by simp [hp]), if_neg (by simpa using h92)]
  generalize escS L (k + 1) = y at he ⊢
  obtain ⟨t, k', x⟩ := y
  simp only at he
  subst he
  rfl
theorem take_ax (H0 : Heap) {s : ByteArray} (hs : s.size ≤ 100000) : AX Tryd.prog 56 #[.string s] H0 (fun v H' => v = takeV (takeS s.data.toList) ∧ H' = H0) := by
  refine AX.alone (args := [.string s]) (fun v hv => by simp only [List.mem_singleton] at hv; subst hv; exact plain_str _) ?_
  suffices hh : AX Tryd.prog 56 [.string s].toArray [] (fun v _ => v = takeV (takeS s.data.toList)) from hh.mono fun v _ e => ⟨e ▸ plain_takeV _, e⟩
  have hsl : s.data.toList.length = s.size := by simp
  refine AX.body (n := 91) (rs := [.tmp 2, .tmp 3, .tmp 4]) Tryd.func56 rfl (by decide) rfl rfl (bC_sound _ _ _ _ ?_)
  refine run ?_
  refine Ob2.boxM (.one 114) rfl (by rfl) fun b H1 hq k1 k2 => ?_
  have r1 : Rd 0 H1 b s 0 [] := ⟨by omega, by omega, .pointer none, .slice none 0 0, k1, .inl rfl, .inl ⟨rfl, rfl⟩⟩
  refine run ?_
  cases hc : s.data.toList[0]? with
  | none =>
    refine (next_none r1 hc).mono ?_
    rintro _ X ⟨rfl, e⟩
    subst X
    refine run ?_
    simp only [takeS, hc]
    rfl
  | some c =>
    refine (next_some r1 hc).mono ?_
    rintro _ X ⟨rfl, e⟩
    subst X
    by_cases hq34 : c = 34
    rotate_left
    · have t1 : ((c.toNat : Int) != 34) = true := by rw [show (34 : Int) = ((34 : Nat) : Int) from rfl, u8_ne c 34 (by decide)]; simp [hq34]
      refine run ?_
      simp only [takeS, hc, if_neg hq34]
      rfl
    have t1 : ((c.toNat : Int) != 34) = false := by rw [show (34 : Int) = ((34 : Nat) : Int) from rfl, u8_ne c 34 (by decide)]; simp [hq34]
    have hb := hblk_of k1
    have wn : IntKind.i64.wrap ((0 : Int) + 1) = ((1 : Nat) : Int) := rfl
    refine run ?_
    refine Ob.store rfl rfl rfl k1 rfl (by first | exact Nat.le_of_ble_eq_true rfl | simp) fun H2 s1 s2 s3 => ?_
    have s1' : H2[b]? = some (.cells (.one 114) [.pointer none, .slice none 0 0, .string s, .int .i64 ((1 : Nat) : Int)]) := s1
    obtain ⟨r2, g2⟩ := rd_step r1 k1 s1' s2
    have hR : takeS s.data.toList = tkF (s.data.toList.length + 1) s.data.toList 1 [] := by simp only [takeS, hc, if_pos hq34]
    rw [hR]
    have hlt0 := str_lt hc
    refine run ?_
    refine SW.loop (α := Nat × List UInt8 × Nat) (fun _ => [(5, ptr b)])
      (fun x H => Rd 0 H b s x.1 x.2.1 ∧ tkF x.2.2 s.data.toList x.1 x.2.1 = tkF (s.data.toList.length + 1) s.data.toList 1 [] ∧ s.size < x.2.2 + x.1 ∧ x.2.1.length ≤ x.1 ∧ x.1 ≤ s.size) (fun x => s.size - x.1)
      ⟨(1, [], s.data.toList.length + 1), ⟨rfl, trivial⟩, r2, rfl, by show s.size < s.data.toList.length + 1 + 1; omega, by simp, by show 1 ≤ s.size; omega⟩ ?_
    rintro ⟨k, acc, f⟩ H3 ⟨r3, hf, hfk, hac, hkl⟩
    simp only at r3 hf hfk hac hkl
    refine bC_sound _ _ _ _ ?_
    rw [← hf]
    obtain ⟨f, rfl⟩ : ∃ m, f = m + 1 := ⟨f - 1, by omega⟩
    have hr3 := r3
    obtain ⟨i1, i2, a3, v3, i3, i4, i5⟩ := hr3
    have hb3 := hblk_of i3
    have wn : IntKind.i64.wrap ((k : Int) + 1) = ((k + 1 : Nat) : Int) := wrap_nat (by omega)
    refine run ?_
    cases hc : s.data.toList[k]? with
    | none =>
      refine (next_none r3 hc).mono ?_
      rintro _ X ⟨rfl, e⟩
      subst X
      simp only [tkF, hc]
      refine run ?_
      apply SW.draw2 [([], [2], 0, 0, false), ([(39, 0)], [39, 2], 0, 0, false), ([(39, 0), (40, 1)], [39, 40, 2], 0, 0, false), ([(39, 0), (40, 1), (41, 2)], [39, 40, 41, 2], 0, 0, false), ([], [39, 40, 41, 42], 0, 0, false), ([(39, 0), (40, 1), (41, 2), (42, 3), (2, 4)], [39, 40, 41, 42, 2], 0, 0, false), ([(39, 0), (40, 1), (41, 2), (42, 3), (2, 4), (3, 5)], [39, 40, 41, 42, 2, 3], 0, 0, false)]
        [(39, 0), (40, 1), (41, 2), (42, 3), (2, 4), (3, 5), (4, 6)] 0
        [(5, _)] [_, _, _, _, _, _, _] [H3] rfl (by kernel_rfl)
      case hF => exact ⟨rfl, trivial⟩
      case h0 => rfl
      case steps =>
        (try (conv => whnf)); repeat' (first | (refine And.intro ?_ ?_ <;> (conv => whnf)) | exact Leaf.mk rfl rfl | exact True.intro | (refine Ob.of rfl ?_; (conv => whnf)) | (refine Ob2.of (by rfl) ?_; (conv => whnf)) | (refine step1 ?_))
      refine run ?_
      rfl
    | some c =>
      refine (next_some r3 hc).mono ?_
      rintro _ X ⟨rfl, e⟩
      subst X
      have hlt := str_lt hc
      by_cases h34 : c = 34
      · have t2 : ((c.toNat : Int) == 34) = true := by rw [show (34 : Int) = ((34 : Nat) : Int) from rfl, u8_eq c 34 (by decide)]; exact decide_eq_true h34
        simp only [tkF, hc, if_pos h34]
        refine run ?_
        rcases i5 with ⟨rfl, rfl⟩ | ⟨g, g1, rfl, g3, g4⟩
        · skip
          apply SW.draw2 [([], [50, 51, 52, 53, 54], 0, 0, false), ([(46, 0)], [46, 50, 51, 52, 53, 54], 0, 0, false), ([(46, 0), (47, 1)], [46, 47, 50, 51, 52, 53, 54], 0, 0, false), ([(46, 0), (47, 1), (48, 2)], [46, 47, 48, 50, 51, 52, 53, 54], 0, 0, true), ([], [46, 47, 48, 49, 2], 0, 1, false), ([(50, 4)], [46, 47, 48, 49, 50, 2], 0, 1, false), ([(50, 4), (51, 5)], [46, 47, 48, 49, 50, 51, 2], 0, 1, false), ([(50, 4), (51, 5), (52, 6)], [46, 47, 48, 49, 50, 51, 52, 2], 0, 1, false), ([(50, 4), (51, 5), (52, 6), (53, 7)], [46, 47, 48, 49, 50, 51, 52, 53, 2], 0, 1, false), ([(46, 0), (47, 1), (48, 2), (49, 3)], [46, 47, 48, 49, 50, 51, 52, 53, 54], 1, 0, false), ([(46, 0), (47, 1), (48, 2), (49, 3), (50, 4), (51, 5), (52, 6), (53, 7), (54, 8), (2, 9)], [46, 47, 48, 49, 50, 51, 52, 53, 54, 2], 1, 0, false), ([(46, 0), (47, 1), (48, 2), (49, 3), (50, 4), (51, 5), (52, 6), (53, 7), (54, 8), (2, 9), (3, 10)], [46, 47, 48, 49, 50, 51, 52, 53, 54, 2, 3], 1, 0, false)]
            [(46, 0), (47, 1), (48, 2), (49, 3), (50, 4), (51, 5), (52, 6), (53, 7), (54, 8), (2, 9), (3, 10), (4, 11)] 1
            [(5, _)] [_, _, _, _, _, _, _, _, _, _, _, _] [H3, H3] rfl (by kernel_rfl)
          case hF => exact ⟨rfl, trivial⟩
          case h0 => rfl
          case steps =>
            (try (conv => whnf)); repeat' (first | (refine And.intro ?_ ?_ <;> (conv => whnf)) | exact Leaf.mk rfl rfl | exact True.intro | (refine (string_nil i3).mono ?_; rintro _ X ⟨rfl, e⟩; subst X; (conv => whnf)) | (refine Ob.of rfl ?_; (conv => whnf)) | (refine Ob2.of (by rfl) ?_; (conv => whnf)) | (refine step1 ?_))
          refine run ?_
          exact congrArg (fun z => Value.tuple #[.string .empty, .int .i64 z, .int .i64 0]) wn
        · have hne : b ≠ g := fun e => by subst e; rw [g4] at i3; simp at i3
          have hb4 : hblk (H3.set g .dead) b = some [a3, .slice (some ⟨g, 0, none⟩) acc.length 1, .string s, .int .i64 (k : Int)] := hblk_of ((List.getElem?_set_ne (by omega)).trans i3)
          apply SW.draw2 [([], [50, 51, 52, 53, 54], 0, 0, false), ([(46, 0)], [46, 50, 51, 52, 53, 54], 0, 0, false), ([(46, 0), (47, 1)], [46, 47, 50, 51, 52, 53, 54], 0, 0, false), ([(46, 0), (47, 1), (48, 2)], [46, 47, 48, 50, 51, 52, 53, 54], 0, 0, true), ([], [46, 47, 48, 49, 2], 0, 1, false), ([(50, 4)], [46, 47, 48, 49, 50, 2], 0, 1, false), ([(50, 4), (51, 5)], [46, 47, 48, 49, 50, 51, 2], 0, 1, false), ([(50, 4), (51, 5), (52, 6)], [46, 47, 48, 49, 50, 51, 52, 2], 0, 1, false), ([(50, 4), (51, 5), (52, 6), (53, 7)], [46, 47, 48, 49, 50, 51, 52, 53, 2], 0, 1, false), ([(46, 0), (47, 1), (48, 2), (49, 3)], [46, 47, 48, 49, 50, 51, 52, 53, 54], 1, 0, false), ([(46, 0), (47, 1), (48, 2), (49, 3), (50, 4), (51, 5), (52, 6), (53, 7), (54, 8), (2, 9)], [46, 47, 48, 49, 50, 51, 52, 53, 54, 2], 1, 0, false), ([(46, 0), (47, 1), (48, 2), (49, 3), (50, 4), (51, 5), (52, 6), (53, 7), (54, 8), (2, 9), (3, 10)], [46, 47, 48, 49, 50, 51, 52, 53, 54, 2, 3], 1, 0, false)]
            [(46, 0), (47, 1), (48, 2), (49, 3), (50, 4), (51, 5), (52, 6), (53, 7), (54, 8), (2, 9), (3, 10), (4, 11)] 1
            [(5, _)] [_, _, _, _, _, _, _, _, _, _, _, _] [H3, H3.set g .dead] rfl (by kernel_rfl)
          case hF => exact ⟨rfl, trivial⟩
          case h0 => rfl
          case steps =>
            (try (conv => whnf)); repeat' (first | (refine And.intro ?_ ?_ <;> (conv => whnf)) | exact Leaf.mk rfl rfl | exact True.intro | (refine (string_some i3 g3 g4 (by omega)).mono ?_; rintro _ X ⟨rfl, e⟩; subst X; (conv => whnf)) | (refine Ob.of rfl ?_; (conv => whnf)) | (refine Ob2.of (by rfl) ?_; (conv => whnf)) | (refine step1 ?_))
          refine run ?_
          exact congrArg (fun z => Value.tuple #[.string ⟨acc.toArray⟩, .int .i64 z, .int .i64 0]) wn
      have t2 : ((c.toNat : Int) == 34) = false := by rw [show (34 : Int) = ((34 : Nat) : Int) from rfl, u8_eq c 34 (by decide)]; exact decide_eq_false h34
      refine run ?_
      refine (plain_ax H3 (c.toNat : Int)).mono ?_
      rintro _ X ⟨rfl, e⟩
      subst X
      cases hp : plainB (c.toNat : Int) with
      | true =>
        simp only [tkF, hc, if_neg h34, hp, if_true]
        refine run ?_
        refine (writeByte_ax r3 okB_rd (by omega) c).mono ?_
        rintro _ H4 ⟨rfl, r4, g4⟩
        have hr4 := r4
        obtain ⟨j1, j2, a4, v4, j3, j4, j5⟩ := hr4
        have hb4 := hblk_of j3
        refine run ?_
        refine Ob.store rfl rfl rfl j3 rfl (by first | exact Nat.le_of_ble_eq_true rfl | simp) fun H5 s1 s2 s3 => ?_
        have s1' : H5[b]? = some (.cells (.one 114) [a4, v4, .string s, .int .i64 ((k + 1 : Nat) : Int)]) := by rw [← wn]; exact s1
        obtain ⟨r5, g5⟩ := rd_step r4 j3 s1' s2
        refine run ?_
        exact ⟨(k + 1, acc ++ [c], f), ⟨rfl, trivial⟩, ⟨r5, rfl, by show s.size < f + (k + 1); omega, by simp; omega, by show k + 1 ≤ s.size; omega⟩, by show s.size - (k + 1) < s.size - k; omega⟩
      | false =>
        by_cases h92 : c = 92
        rotate_left
        · have t3 : ((c.toNat : Int) != 92) = true := by rw [show (92 : Int) = ((92 : Nat) : Int) from rfl, u8_ne c 92 (by decide)]; simp [h92]
          simp only [tkF, hc, if_neg h34, hp, Bool.false_eq_true, if_false, ne_eq, h92, not_false_eq_true, if_true]
          refine run ?_
          apply SW.draw2 [([], [2], 0, 0, false), ([(73, 0)], [73, 2], 0, 0, false), ([(73, 0), (74, 1)], [73, 74, 2], 0, 0, false), ([(73, 0), (74, 1), (75, 2)], [73, 74, 75, 2], 0, 0, false), ([], [73, 74, 75, 76], 0, 0, false), ([(73, 0), (74, 1), (75, 2), (76, 3), (2, 4)], [73, 74, 75, 76, 2], 0, 0, false), ([(73, 0), (74, 1), (75, 2), (76, 3), (2, 4), (3, 5)], [73, 74, 75, 76, 2, 3], 0, 0, false)]
            [(73, 0), (74, 1), (75, 2), (76, 3), (2, 4), (3, 5), (4, 6)] 0
            [(5, _)] [_, _, _, _, _, _, _] [H3] rfl (by kernel_rfl)
          case hF => exact ⟨rfl, trivial⟩
          case h0 => rfl
          case steps =>
            (try (conv => whnf)); repeat' (first | (refine And.intro ?_ ?_ <;> (conv => whnf)) | exact Leaf.mk rfl rfl | exact True.intro | (refine Ob.of rfl ?_; (conv => whnf)) | (refine Ob2.of (by rfl) ?_; (conv => whnf)) | (refine step1 ?_))
          refine run ?_
          rfl
        have t3 : ((c.toNat : Int) != 92) = false := by rw [show (92 : Int) = ((92 : Nat) : Int) from rfl, u8_ne c 92 (by decide)]; simp [h92]
        refine run ?_
        refine Ob.store rfl rfl rfl i3 rfl (by first | exact Nat.le_of_ble_eq_true rfl | simp) fun H5 s1 s2 s3 => ?_
        have s1' : H5[b]? = some (.cells (.one 114) [a3, v3, .string s, .int .i64 ((k + 1 : Nat) : Int)]) := by rw [← wn]; exact s1
        obtain ⟨r5, g5⟩ := rd_step r3 i3 s1' s2
        refine run ?_
        refine (escape_ax r5 (by omega) (by omega) (by omega)).mono ?_
        rintro _ H6 ⟨rfl, r6, g6⟩
        have hr6 := r6
        obtain ⟨j1, j2, a6, v6, j3, j4, j5⟩ := hr6
        have hb6 := hblk_of j3
        obtain ⟨p1, p2, p3⟩ := escS_pos s.data.toList (k + 1)
        cases he : (escS s.data.toList (k + 1)).1 with
        | true =>
          have p4 := escS_len he
          have p5 := p3 he
          have hst : tkF (f + 1) s.data.toList k acc = tkF f s.data.toList (escS s.data.toList (k + 1)).2.1 (acc ++ (escS s.data.toList (k + 1)).2.2) := tk_yes hc h34 hp h92 he
          refine run ?_
          exact ⟨((escS s.data.toList (k + 1)).2.1, acc ++ (escS s.data.toList (k + 1)).2.2, f), ⟨rfl, trivial⟩, ⟨r6, hst.symm, by show s.size < f + (escS s.data.toList (k + 1)).2.1; omega, by show (acc ++ _).length ≤ _; rw [List.length_append]; omega, by show (escS s.data.toList (k + 1)).2.1 ≤ s.size; omega⟩, by show s.size - (escS s.data.toList (k + 1)).2.1 < s.size - k; omega⟩
        | false =>
          have hst : tkF (f + 1) s.data.toList k acc = ([], (escS s.data.toList (k + 1)).2.1, 11) := tk_no hc h34 hp h92 he
          rw [hst]
          refine run ?_
          apply SW.draw2 [([], [2], 0, 0, false), ([(87, 0)], [87, 2], 0, 0, false), ([(87, 0), (88, 1)], [87, 88, 2], 0, 0, false), ([(87, 0), (88, 1), (89, 2)], [87, 88, 89, 2], 0, 0, false), ([], [87, 88, 89, 90], 0, 0, false), ([(87, 0), (88, 1), (89, 2), (90, 3), (2, 4)], [87, 88, 89, 90, 2], 0, 0, false), ([(87, 0), (88, 1), (89, 2), (90, 3), (2, 4), (3, 5)], [87, 88, 89, 90, 2, 3], 0, 0, false)]
            [(87, 0), (88, 1), (89, 2), (90, 3), (2, 4), (3, 5), (4, 6)] 0
            [(5, _)] [_, _, _, _, _, _, _] [H6] rfl (by kernel_rfl)
          case hF => exact ⟨rfl, trivial⟩
          case h0 => rfl
          case steps =>
            (try (conv => whnf)); repeat' (first | (refine And.intro ?_ ?_ <;> (conv => whnf)) | exact Leaf.mk rfl rfl | exact True.intro | (refine Ob.of rfl ?_; (conv => whnf)) | (refine Ob2.of (by rfl) ?_; (conv => whnf)) | (refine step1 ?_))
          refine run ?_
          rfl
end Go.Proofs.YtmdpifedcaaobaaDoor
/- The document of package text: the string with which a text begins. -/
set_option linter.unusedVariables false
set_option linter.unusedSimpArgs false
set_option maxRecDepth 20000
set_option maxHeartbeats 1000000
namespace Go.Proofs.YtmdpifedcaaobaaDoor
open Go Ax
theorem conv_buf {B : Nat} {H : Heap} {v : Value} {bs : List UInt8} (h : Buf B H v bs) : aconvert Tryd.prog 48 9 v H = some (.string ⟨bs.toArray⟩) := by
  rcases h with ⟨rfl, rfl⟩ | ⟨g, h1, rfl, h3, h4⟩
  · rfl
  · have h7 : slotsOf (u8s bs) 0 bs.length = some (u8s bs) := by rw [slots_of (by simp [u8s_length])]; rw [List.drop_zero, List.take_of_length_le (by simp [u8s_length])]
    simp [aconvert, show Tryd.prog.underlying 48 = some (.slice 5) from rfl, show Tryd.prog.underlying 9 = some .string from rfl, show Tryd.prog.underlying 5 = some (.int .u8) from rfl, hblk_of h4, h7, u8s_back, h3]
/-- A byte more, behind a slice of one byte. -/
theorem app_one {H : Heap} {v : Value} {bs : List UInt8} {x : UInt8} (h : Buf 0 H v bs) (hl : bs.length ≤ 1000000) :
    ∃ q H1 v' H2, abuildSlice Tryd.prog 48 1 [(0, u8 x)] H = some (.slice (some ⟨q, 0, none⟩) 1 1, H1) ∧ aappend Tryd.prog 48 48 v (.slice (some ⟨q, 0, none⟩) 1 1) H1 = some (v', H2) ∧ Buf 0 H2 v' (bs ++ [x]) := by
  have hq : (H ++ [Blk.cells (.row 5) [u8 x]])[H.length]? = some (.cells (.row 5) [u8 x]) := at_push _ _
  obtain ⟨v', H2, e, m1, m2, m3⟩ := app_buf (tx := 48) (h.grow (Grow.push H [Blk.cells (.row 5) [u8 x]])) (Nat.zero_le _) (src_byte hq) rfl rfl rfl (by simp; omega)
  exact ⟨_, _, v', H2, rfl, e, m1⟩
theorem esc_none {L : List UInt8} {k : Nat} (h : L[k]? = none) : escS L k = (false, k, []) := by simp [escS, h]
theorem rtake_ax (H0 : Heap) {s : ByteArray} (hs : s.size ≤ 100000) : AX Tryd.prog 41 #[.string s] H0 (fun v H' => v = takeV (takeS s.data.toList) ∧ H' = H0) := by
  refine AX.alone (args := [.string s]) (fun v hv => by simp only [List.mem_singleton] at hv; subst hv; exact plain_str _) ?_
  suffices hh : AX Tryd.prog 41 [.string s].toArray [] (fun v _ => v = takeV (takeS s.data.toList)) from hh.mono fun v _ e => ⟨e ▸ plain_takeV _, e⟩
  have hsl : s.data.toList.length = s.size := by simp
  refine AX.body (n := 124) (rs := [.tmp 2, .tmp 3, .tmp 4]) Tryd.func41 rfl (by decide) rfl rfl (bC_sound _ _ _ _ ?_)
  cases hc : s.data.toList[0]? with
  | none =>
    have h0 := str_ge hc
    have d1 : ((s.size : Int) == 0) = true := by rw [beq_iff_eq]; omega
    refine run ?_
    simp only [takeS, hc]
    rfl
  | some c =>
    have h0 := str_lt hc
    have d1 : ((s.size : Int) == 0) = false := by rw [beq_eq_false_iff_ne]; omega
    have ix0 : aindex Tryd.prog 9 (.string s) (.int .i64 0) = some (u8 c) := aix (k := 0) hc
    by_cases hq34 : c = 34
    rotate_left
    · have t1 : ((c.toNat : Int) != 34) = true := by rw [show (34 : Int) = ((34 : Nat) : Int) from rfl, u8_ne c 34 (by decide)]; simp [hq34]
      refine run ?_
      simp only [takeS, hc, if_neg hq34]
      rfl
    have t1 : ((c.toNat : Int) != 34) = false := by rw [show (34 : Int) = ((34 : Nat) : Int) from rfl, u8_ne c 34 (by decide)]; simp [hq34]
    have hR : takeS s.data.toList = tkF (s.data.toList.length + 1) s.data.toList 1 [] := by simp only [takeS, hc, if_pos hq34]
    rw [hR]
    refine run ?_
    refine SW.loop (α := Nat × Value × List UInt8 × Nat) (fun x => [(0, .string s), (5, x.2.1), (6, .int .i64 (x.1 : Int))])
      (fun x H => Buf 0 H x.2.1 x.2.2.1 ∧ tkF x.2.2.2 s.data.toList x.1 x.2.2.1 = tkF (s.data.toList.length + 1) s.data.toList 1 [] ∧ s.size < x.2.2.2 + x.1 ∧ x.2.2.1.length ≤ x.1 ∧ x.1 ≤ s.size) (fun x => s.size - x.1)
      ⟨(1, .slice none 0 0, [], s.data.toList.length + 1), ⟨rfl, rfl, rfl, trivial⟩, .inl ⟨rfl, rfl⟩, rfl, by show s.size < s.data.toList.length + 1 + 1; omega, by simp, by show 1 ≤ s.size; omega⟩ ?_
    rintro ⟨k, v, acc, f⟩ H3 ⟨r3, hf, hfk, hac, hkl⟩
    simp only at r3 hf hfk hac hkl
    refine bC_sound _ _ _ _ ?_
    rw [← hf]
    obtain ⟨f, rfl⟩ : ∃ m, f = m + 1 := ⟨f - 1, by omega⟩
    have w1 : IntKind.i64.wrap ((k : Int) + 1) = ((k + 1 : Nat) : Int) := wrap_nat (by omega)
    cases hc : s.data.toList[k]? with
    | none =>
      have hge := str_ge hc
      have d2 : decide ((k : Int) < (s.size : Int)) = false := decide_eq_false (by omega)
      refine run ?_
      simp only [tkF, hc]
      rw [show k = s.size by omega]
      rfl
    | some c =>
      have hlt := str_lt hc
      have d2 : decide ((k : Int) < (s.size : Int)) = true := decide_eq_true (by omega)
      have ix := aix hc
      by_cases h34 : c = 34
      · have t2 : ((c.toNat : Int) == 34) = true := by rw [show (34 : Int) = ((34 : Nat) : Int) from rfl, u8_eq c 34 (by decide)]; exact decide_eq_true h34
        have cv := conv_buf r3
        simp only [tkF, hc, if_pos h34]
        refine run ?_
        exact congrArg (fun z => Value.tuple #[.string ⟨acc.toArray⟩, .int .i64 z, .int .i64 0]) w1
      have t2 : ((c.toNat : Int) == 34) = false := by rw [show (34 : Int) = ((34 : Nat) : Int) from rfl, u8_eq c 34 (by decide)]; exact decide_eq_false h34
      refine run ?_
      refine (rplain_ax H3 (c.toNat : Int)).mono ?_
      rintro _ X ⟨rfl, e⟩
      subst X
      cases hp : plainB (c.toNat : Int) with
      | true =>
        obtain ⟨q, H4, v', H5, e1, e2, r5⟩ := app_one (x := c) r3 (by omega)
        refine run ?_
        refine Ob2.of e1 ?_
        refine run ?_
        refine Ob2.of e2 ?_
        refine run ?_
        exact ⟨(k + 1, v', acc ++ [c], f), ⟨rfl, rfl, congrArg (fun z => some (Value.int .i64 z)) w1, trivial⟩, ⟨r5, by show tkF f _ _ _ = tkF (f + 1) _ _ _; simp only [tkF, hc, if_neg h34, hp, if_true], by show s.size < f + (k + 1); omega, by simp; omega, by show k + 1 ≤ s.size; omega⟩, by show s.size - (k + 1) < s.size - k; omega⟩
      | false =>
        by_cases h92 : c = 92
        rotate_left
        · have t3 : ((c.toNat : Int) != 92) = true := by rw [show (92 : Int) = ((92 : Nat) : Int) from rfl, u8_ne c 92 (by decide)]; simp [h92]
          simp only [tkF, hc, if_neg h34, hp, Bool.false_eq_true, if_false, ne_eq, h92, not_false_eq_true, if_true]
          refine run ?_
          rfl
        have t3 : ((c.toNat : Int) != 92) = false := by rw [show (92 : Int) = ((92 : Nat) : Int) from rfl, u8_ne c 92 (by decide)]; simp [h92]
        have w2 : IntKind.i64.wrap (IntKind.i64.wrap ((k : Int) + 1) + 1) = ((k + 2 : Nat) : Int) := by rw [w1, wrap_nat (by omega)]
        have no : ∀ n x, escS s.data.toList (k + 1) = (false, n, x) → tkF (f + 1) s.data.toList k acc = ([], n, 11) := by
          intro n x e
          have := tk_no (f := f) (acc := acc) hc h34 hp h92 (by rw [e])
          rw [e] at this
          exact this
        have yes : ∀ n x, escS s.data.toList (k + 1) = (true, n, x) → tkF (f + 1) s.data.toList k acc = tkF f s.data.toList n (acc ++ x) := by
          intro n x e
          have := tk_yes (f := f) (acc := acc) hc h34 hp h92 (by rw [e])
          rw [e] at this
          exact this
        cases hd : s.data.toList[k + 1]? with
        | none =>
          have hge := str_ge hd
          have d3 : decide (IntKind.i64.wrap ((k : Int) + 1) < (s.size : Int)) = false := decide_eq_false (by omega)
          have d4 : decide (IntKind.i64.wrap ((k : Int) + 1) ≥ (s.size : Int)) = true := decide_eq_true (by omega)
          rw [no (k + 1) [] (by simp [escS, hd])]
          refine run ?_
          exact congrArg (fun z => Value.tuple #[.string ⟨#[]⟩, .int .i64 z, .int .i64 11]) w1
        | some d =>
          have hlt2 := str_lt hd
          have d3 : decide (IntKind.i64.wrap ((k : Int) + 1) < (s.size : Int)) = true := decide_eq_true (by omega)
          have d4 : decide (IntKind.i64.wrap ((k : Int) + 1) ≥ (s.size : Int)) = false := decide_eq_false (by omega)
          have ix1 : aindex Tryd.prog 9 (.string s) (.int .i64 (IntKind.i64.wrap ((k : Int) + 1))) = some (u8 d) := by rw [w1]; exact aix hd
          by_cases hq : d = 34 ∨ d = 92
          · have hx : d ≠ 120 := by rcases hq with rfl | rfl <;> decide
            have hst := yes (k + 2) [d] (by simp only [escS, hd, if_neg hx, if_pos hq])
            obtain ⟨q, H4, v', H5, e1, e2, r5⟩ := app_one (x := d) r3 (by omega)
            have fin : ∃ y : Nat × Value × List UInt8 × Nat, Has [(5, v'), (0, Value.string s), (6, .int .i64 (IntKind.i64.wrap (IntKind.i64.wrap ((k : Int) + 1) + 1)))] [(0, .string s), (5, y.2.1), (6, .int .i64 (y.1 : Int))] ∧ (Buf 0 H5 y.2.1 y.2.2.1 ∧ tkF y.2.2.2 s.data.toList y.1 y.2.2.1 = tkF (f + 1) s.data.toList k acc ∧ s.size < y.2.2.2 + y.1 ∧ y.2.2.1.length ≤ y.1 ∧ y.1 ≤ s.size) ∧ s.size - y.1 < s.size - k :=
              ⟨(k + 2, v', acc ++ [d], f), ⟨rfl, rfl, congrArg (fun z => some (Value.int .i64 z)) w2, trivial⟩, ⟨r5, hst.symm, by show s.size < f + (k + 2); omega, by simp; omega, by show k + 2 ≤ s.size; omega⟩, by show s.size - (k + 2) < s.size - k; omega⟩
            rcases hq with rfl | rfl
            · refine run ?_
              refine Ob2.of e1 ?_
              refine run ?_
              refine Ob2.of e2 ?_
              refine run ?_
              obtain ⟨y, ⟨y1, y2, y3, _⟩, y4⟩ := fin
              exact ⟨y, ⟨y1, y2, y3, trivial⟩, y4⟩
            · refine run ?_
              refine Ob2.of e1 ?_
              refine run ?_
              refine Ob2.of e2 ?_
              refine run ?_
              obtain ⟨y, ⟨y1, y2, y3, _⟩, y4⟩ := fin
              exact ⟨y, ⟨y1, y2, y3, trivial⟩, y4⟩
          have u1 : ((d.toNat : Int) == 34) = false := by rw [show (34 : Int) = ((34 : Nat) : Int) from rfl, u8_eq d 34 (by decide)]; simp; exact fun e => hq (.inl e)
          have u2 : ((d.toNat : Int) == 92) = false := by rw [show (92 : Int) = ((92 : Nat) : Int) from rfl, u8_eq d 92 (by decide)]; simp; exact fun e => hq (.inr e)
          by_cases hx : d = 120
          rotate_left
          · have u3 : ((d.toNat : Int) != 120) = true := by rw [show (120 : Int) = ((120 : Nat) : Int) from rfl, u8_ne d 120 (by decide)]; simp [hx]
            rw [no (k + 1) [] (by simp only [escS, hd, if_neg hx, if_neg hq])]
            refine run ?_
            exact congrArg (fun z => Value.tuple #[.string ⟨#[]⟩, .int .i64 z, .int .i64 11]) w1
          have u3 : ((d.toNat : Int) != 120) = false := by rw [show (120 : Int) = ((120 : Nat) : Int) from rfl, u8_ne d 120 (by decide)]; simp [hx]
          have hesc : escS s.data.toList (k + 1) = pairS s.data.toList (k + 2) := by simp only [escS, hd, if_pos hx]
          have w3 : IntKind.i64.wrap (IntKind.i64.wrap (IntKind.i64.wrap ((k : Int) + 1) + 1) + 1) = ((k + 3 : Nat) : Int) := by rw [w2, wrap_nat (by omega)]
          cases he : s.data.toList[k + 2]? with
          | none =>
            have hge := str_ge he
            have d5 : decide (IntKind.i64.wrap (IntKind.i64.wrap ((k : Int) + 1) + 1) ≥ (s.size : Int)) = true := decide_eq_true (by omega)
            rw [no (k + 2) [] (by rw [hesc]; simp [pairS, hexAt, he])]
            refine run ?_
            exact congrArg (fun z => Value.tuple #[.string ⟨#[]⟩, .int .i64 z, .int .i64 11]) w2
          | some e =>
            have hlt3 := str_lt he
            have hex2 : hexAt s.data.toList (k + 2) = worthO (e.toNat : Int) := by simp [hexAt, he]
            have d5 : decide (IntKind.i64.wrap (IntKind.i64.wrap ((k : Int) + 1) + 1) ≥ (s.size : Int)) = false := decide_eq_false (by omega)
            have ix2 : aindex Tryd.prog 9 (.string s) (.int .i64 (IntKind.i64.wrap (IntKind.i64.wrap ((k : Int) + 1) + 1))) = some (u8 e) := by rw [w2]; exact aix he
            have heb : (e.toNat : Int) ≤ 255 := by have := e.toNat_lt; omega
            refine run ?_
            refine (rworth_ax H3 (e.toNat : Int) (by omega) heb).mono ?_
            rintro _ X ⟨rfl, z⟩
            subst X
            cases hw : worthO (e.toNat : Int) with
            | none =>
              rw [no (k + 2) [] (by rw [hesc]; simp only [pairS, hex2, hw])]
              refine run ?_
              exact congrArg (fun z => Value.tuple #[.string ⟨#[]⟩, .int .i64 z, .int .i64 11]) w2
            | some p =>
              obtain ⟨p0, p1⟩ := worthO_lt hw
              have d6 : ((some p).getD 16 == (16 : Int)) = false := by simp; omega
              cases hg : s.data.toList[k + 3]? with
              | none =>
                have hge := str_ge hg
                have d7 : decide (IntKind.i64.wrap (IntKind.i64.wrap (IntKind.i64.wrap ((k : Int) + 1) + 1) + 1) ≥ (s.size : Int)) = true := decide_eq_true (by omega)
                have hex3 : hexAt s.data.toList (k + 2 + 1) = none := by simp [hexAt, hg]
                rw [no (k + 3) [] (by rw [hesc]; simp only [pairS, hex2, hw, hex3])]
                refine run ?_
                exact congrArg (fun z => Value.tuple #[.string ⟨#[]⟩, .int .i64 z, .int .i64 11]) w3
              | some g =>
                have hlt4 := str_lt hg
                have hex3 : hexAt s.data.toList (k + 2 + 1) = worthO (g.toNat : Int) := by simp [hexAt, hg]
                have d7 : decide (IntKind.i64.wrap (IntKind.i64.wrap (IntKind.i64.wrap ((k : Int) + 1) + 1) + 1) ≥ (s.size : Int)) = false := decide_eq_false (by omega)
                have ix3 : aindex Tryd.prog 9 (.string s) (.int .i64 (IntKind.i64.wrap (IntKind.i64.wrap (IntKind.i64.wrap ((k : Int) + 1) + 1) + 1))) = some (u8 g) := by rw [w3]; exact aix hg
                have hgb : (g.toNat : Int) ≤ 255 := by have := g.toNat_lt; omega
                refine run ?_
                refine (rworth_ax H3 (g.toNat : Int) (by omega) hgb).mono ?_
                rintro _ X ⟨rfl, z⟩
                subst X
                cases hv : worthO (g.toNat : Int) with
                | none =>
                  rw [no (k + 3) [] (by rw [hesc]; simp only [pairS, hex2, hw, hex3, hv])]
                  refine run ?_
                  exact congrArg (fun z => Value.tuple #[.string ⟨#[]⟩, .int .i64 z, .int .i64 11]) w3
                | some r =>
                  obtain ⟨r0, r1⟩ := worthO_lt hv
                  have d8 : ((some r).getD 16 == (16 : Int)) = false := by simp; omega
                  have hst := yes (k + 4) [UInt8.ofNat (p * 16 + r).toNat] (by rw [hesc]; simp only [pairS, hex2, hw, hex3, hv])
                  have hy : (Value.int .u8 (IntKind.u8.wrap (IntKind.u8.wrap (p * 16) + r))) = u8 (UInt8.ofNat (p * 16 + r).toNat) := by
                    show Value.int .u8 _ = Value.int .u8 _
                    rw [wrap_u8 (x := p * 16) (by omega) (by omega), wrap_u8 (by omega) (by omega)]
                    congr 1
                    simp [UInt8.toNat_ofNat]
                    omega
                  obtain ⟨q, H4, v', H5, e1, e2, r5⟩ := app_one (x := UInt8.ofNat (p * 16 + r).toNat) r3 (by omega)
                  rw [← hy] at e1
                  have w4 : IntKind.i64.wrap (IntKind.i64.wrap (IntKind.i64.wrap ((k : Int) + 1) + 1) + 2) = ((k + 4 : Nat) : Int) := by rw [w2, wrap_i64 (by omega) (by omega)]; omega
                  have cE : AX Tryd.prog 60 #[u8 e] H3 (fun v H' => v = .int .u8 p ∧ H' = H3) := (rworth_ax H3 (e.toNat : Int) (by omega) heb).mono (by rintro v X ⟨rfl, z⟩; rw [hw]; exact ⟨rfl, z⟩)
                  have cG : AX Tryd.prog 60 #[u8 g] H3 (fun v H' => v = .int .u8 r ∧ H' = H3) := (rworth_ax H3 (g.toNat : Int) (by omega) hgb).mono (by rintro v X ⟨rfl, z⟩; rw [hv]; exact ⟨rfl, z⟩)
                  refine run ?_
                  apply SW.draw2 [([], [107, 108, 109, 110, 111, 112, 113, 114, 115, 116, 117, 118], 0, 3, false), ([], [106, 108, 112, 113, 114, 115], 0, 0, false), ([], [106, 107, 112, 113, 114, 115], 0, 0, false), ([(107, 1), (108, 2)], [106, 107, 108, 112, 113, 114, 115], 0, 0, false), ([(107, 1), (108, 2), (109, 3)], [106, 107, 108, 109, 112, 113, 114, 115], 0, 0, true), ([(107, 1), (108, 2), (109, 3), (110, 4)], [106, 107, 108, 109, 110, 112, 113, 114, 115, 116], 1, 1, false), ([], [106, 107, 108, 109, 110, 111, 113, 114], 0, 1, false), ([], [106, 107, 108, 109, 110, 111, 112], 0, 1, false), ([(113, 7)], [106, 107, 108, 109, 110, 111, 112, 113], 0, 1, false), ([(112, 6), (113, 7), (114, 8)], [106, 107, 108, 109, 110, 111, 112, 113, 114], 0, 1, false), ([(107, 1), (108, 2), (109, 3), (110, 4), (112, 6), (113, 7), (114, 8), (115, 9)], [106, 107, 108, 109, 110, 111, 112, 113, 114, 115], 1, 0, true), ([(107, 1), (108, 2), (109, 3), (110, 4), (111, 5), (112, 6), (113, 7), (114, 8), (115, 9), (116, 10)], [106, 107, 108, 109, 110, 111, 112, 113, 114, 115, 116], 2, 0, false), ([(107, 1), (108, 2), (109, 3), (110, 4), (111, 5), (112, 6), (113, 7), (114, 8), (115, 9), (116, 10), (117, 11)], [106, 107, 108, 109, 110, 111, 112, 113, 114, 115, 116, 117], 2, 0, true), ([(106, 0), (107, 1), (108, 2), (109, 3), (110, 4), (111, 5), (112, 6), (113, 7), (114, 8), (115, 9), (116, 10), (117, 11), (118, 12)], [106, 107, 108, 109, 110, 111, 112, 113, 114, 115, 116, 117, 118], 3, 0, true), ([(106, 0), (107, 1), (108, 2), (109, 3), (110, 4), (111, 5), (112, 6), (113, 7), (114, 8), (115, 9), (116, 10), (117, 11), (118, 12), (119, 13)], [106, 107, 108, 109, 110, 111, 112, 113, 114, 115, 116, 117, 118, 119], 4, 0, false)]
                    [(106, 0), (107, 1), (108, 2), (109, 3), (110, 4), (111, 5), (112, 6), (113, 7), (114, 8), (115, 9), (116, 10), (117, 11), (118, 12), (119, 13), (5, 14)] 4
                    [(0, _), (5, _), (6, _)] [_, _, _, _, _, _, _, _, _, _, _, _, _, _, _] [H3, H3, H3, H4, H5] rfl (by kernel_rfl)
                  case hF => exact ⟨rfl, rfl, rfl, trivial⟩
                  case h0 => rfl
                  case steps =>
                    (try (conv => whnf)); repeat' (first | ((with_reducible refine Ob.of ix2 ?_); (conv => whnf)) | ((with_reducible refine Ob.of ix3 ?_); (conv => whnf)) | ((with_reducible refine Ob.of e1 ?_); (conv => whnf)) | ((with_reducible refine Ob.of e2 ?_); (conv => whnf)) | ((with_reducible refine Ob2.of ix2 ?_); (conv => whnf)) | ((with_reducible refine Ob2.of ix3 ?_); (conv => whnf)) | ((with_reducible refine Ob2.of e1 ?_); (conv => whnf)) | ((with_reducible refine Ob2.of e2 ?_); (conv => whnf)) | (refine And.intro ?_ ?_ <;> (conv => whnf)) | exact Leaf.mk rfl rfl | exact True.intro | (refine cE.mono ?_; rintro _ X ⟨rfl, z⟩; subst X; (conv => whnf)) | (refine cG.mono ?_; rintro _ X ⟨rfl, z⟩; subst X; (conv => whnf)) | (refine Ob.of rfl ?_; (conv => whnf)) | (refine Ob2.of (by rfl) ?_; (conv => whnf)) | (refine step1 ?_))
                  refine run ?_
                  exact ⟨(k + 4, v', acc ++ [UInt8.ofNat (p * 16 + r).toNat], f), ⟨rfl, rfl, congrArg (fun z => some (Value.int .i64 z)) w4, trivial⟩, ⟨r5, hst.symm, by show s.size < f + (k + 4); omega, by simp; omega, by show k + 4 ≤ s.size; omega⟩, by show s.size - (k + 4) < s.size - k; omega⟩
end Go.Proofs.YtmdpifedcaaobaaDoor
/- Package text, and its document: a string as it is written. -/
set_option linter.unusedVariables false
set_option linter.unusedSimpArgs false
set_option maxRecDepth 20000
set_option maxHeartbeats 1000000
namespace Go.Proofs.YtmdpifedcaaobaaDoor
open Go Ax
def hexD (n : Nat) : UInt8 := if n < 10 then UInt8.ofNat (48 + n) else UInt8.ofNat (87 + n)
def quote1 (c : UInt8) : List UInt8 :=
  if plainB (c.toNat : Int) = true then [c] else if c = 34 ∨ c = 92 then [92, c] else [92, 120, hexD (c.toNat / 16), hexD (c.toNat % 16)]
def quoteS (L : List UInt8) : List UInt8 := 34 :: (L.flatMap quote1 ++ [34])
theorem quote1_len (c : UInt8) : (quote1 c).length ≤ 4 := by unfold quote1; split; simp; split <;> simp
theorem take_more {L : List UInt8} {i : Nat} {c : UInt8} (h : L[i]? = some c) : (L.take (i + 1)).flatMap quote1 = (L.take i).flatMap quote1 ++ quote1 c := by
  rw [List.take_add_one, h]; simp
abbrev digitsV : Value := .string ⟨#[48, 49, 50, 51, 52, 53, 54, 55, 56, 57, 97, 98, 99, 100, 101, 102]⟩
theorem dig_at : ∀ n : Fin 16, aindex Tryd.prog 9 digitsV (.int .u8 (n.val : Int)) = some (u8 (hexD n.val)) := by
  intro n
  match n with
  | ⟨0, _⟩ => rfl
  | ⟨1, _⟩ => rfl
  | ⟨2, _⟩ => rfl
  | ⟨3, _⟩ => rfl
  | ⟨4, _⟩ => rfl
  | ⟨5, _⟩ => rfl
  | ⟨6, _⟩ => rfl
  | ⟨7, _⟩ => rfl
  | ⟨8, _⟩ => rfl
  | ⟨9, _⟩ => rfl
  | ⟨10, _⟩ => rfl
  | ⟨11, _⟩ => rfl
  | ⟨12, _⟩ => rfl
  | ⟨13, _⟩ => rfl
  | ⟨14, _⟩ => rfl
  | ⟨15, _⟩ => rfl
  | ⟨n + 16, h⟩ => exact absurd h (by omega)
theorem dig_of {n : Nat} (h : n < 16) {z : Int} (hz : z = n) : aindex Tryd.prog 9 digitsV (.int .u8 z) = some (u8 (hexD n)) := by subst hz; exact dig_at ⟨n, h⟩
theorem and_low : ∀ c : Fin 256, (BitVec.ofInt 8 (c.val : Int) &&& BitVec.ofInt 8 15).toNat = c.val % 16 := by decide
theorem low_eq (c : UInt8) : IntKind.u8.wrap (BitVec.ofInt IntKind.u8.bits (c.toNat : Int) &&& BitVec.ofInt IntKind.u8.bits 15).toNat = ((c.toNat % 16 : Nat) : Int) := by
  have h := and_low ⟨c.toNat, c.toNat_lt⟩
  have hb : IntKind.u8.bits = 8 := rfl
  rw [hb, h, wrap_u8 (by omega) (by omega)]
theorem high_eq (c : UInt8) : ((c.toNat : Int)).fdiv (2 ^ (min (4 : Int).toNat IntKind.u8.bits)) = ((c.toNat / 16 : Nat) : Int) := by
  have e : (2 : Int) ^ (min (4 : Int).toNat IntKind.u8.bits) = 16 := rfl
  rw [e, Int.fdiv_eq_ediv_of_nonneg _ (by omega)]
  rfl
theorem flat_len (L : List UInt8) (i : Nat) : ((L.take i).flatMap quote1).length ≤ 4 * i := by
  induction i with
  | zero => simp
  | succ i ih =>
    cases h : L[i]? with
    | none => rw [List.take_add_one, h]; simp only [Option.toList_none, List.append_nil]; omega
    | some c => rw [take_more h, List.length_append]; have := quote1_len c; omega
theorem quote_ax (H0 : Heap) {s : ByteArray} (hs : s.size ≤ 100000) : AX Tryd.prog 19 #[.string s] H0 (fun v H' => v = .string ⟨(quoteS s.data.toList).toArray⟩ ∧ H' = H0) := by
  refine AX.alone (args := [.string s]) (fun v hv => by simp only [List.mem_singleton] at hv; subst hv; exact plain_str _) ?_
  suffices hh : AX Tryd.prog 19 [.string s].toArray [] (fun v _ => v = .string ⟨(quoteS s.data.toList).toArray⟩) from hh.mono fun v _ e => ⟨e ▸ plain_str _, e⟩
  have hsl : s.data.toList.length = s.size := by simp
  refine AX.body (n := 42) (rs := [.tmp 2]) Tryd.func19 rfl (by decide) rfl rfl (bC_sound _ _ _ _ ?_)
  refine run ?_
  refine Ob2.allocM (.one 50) rfl (by rfl) fun b H1 hq k1 k2 => ?_
  have r1 : Bld 0 H1 b 50 [] [] := ⟨by omega, by omega, .pointer none, .slice none 0 0, k1, .inl rfl, .inl ⟨rfl, rfl⟩⟩
  refine run ?_
  refine (writeByte_ax r1 okB_self (by decide) 34).mono ?_
  rintro _ H2 ⟨rfl, r2, _⟩
  refine run ?_
  refine SW.loop (α := Nat) (fun i => [(0, .string s), (3, ptr b), (8, .int .i64 (s.size : Int)), (9, .int .i64 (i : Int))]) (fun i H => Bld 0 H b 50 [] (34 :: (s.data.toList.take i).flatMap quote1) ∧ i ≤ s.size) (fun i => s.size - i)
    ⟨0, ⟨rfl, rfl, rfl, rfl, trivial⟩, by simpa using r2, by omega⟩ ?_
  rintro i H3 ⟨r3, hi⟩
  refine bC_sound _ _ _ _ ?_
  have hfl := flat_len s.data.toList i
  have w1 : IntKind.i64.wrap ((i : Int) + 1) = ((i + 1 : Nat) : Int) := wrap_nat (by omega)
  have next : ∀ (c : UInt8) (H' : Heap), s.data.toList[i]? = some c → Bld 0 H' b 50 [] (34 :: (s.data.toList.take i).flatMap quote1 ++ quote1 c) →
      ∃ y : Nat, Has [(0, Value.string s), (3, ptr b), (8, .int .i64 (s.size : Int)), (9, .int .i64 (IntKind.i64.wrap ((i : Int) + 1)))] [(0, .string s), (3, ptr b), (8, .int .i64 (s.size : Int)), (9, .int .i64 (y : Int))] ∧ (Bld 0 H' b 50 [] (34 :: (s.data.toList.take y).flatMap quote1) ∧ y ≤ s.size) ∧ s.size - y < s.size - i := by
    intro c H' hc hb
    have hlt := str_lt hc
    exact ⟨i + 1, ⟨rfl, rfl, rfl, congrArg (fun z => some (Value.int .i64 z)) w1, trivial⟩, ⟨by rw [take_more hc]; simpa using hb, by omega⟩, by omega⟩
  cases hc : s.data.toList[i]? with
  | none =>
    have hge := str_ge hc
    have d1 : decide ((i : Int) < (s.size : Int)) = false := decide_eq_false (by omega)
    have hall : s.data.toList.take i = s.data.toList := List.take_of_length_le (by omega)
    rw [hall] at r3
    rw [hall] at hfl
    refine run ?_
    refine (writeByte_ax r3 okB_self (by simp only [List.length_append, List.length_cons, List.length_nil]; omega) 34).mono ?_
    rintro _ H4 ⟨rfl, r4, _⟩
    refine run ?_
    refine (string_ax r4 (by simp only [List.length_append, List.length_cons, List.length_nil]; omega)).mono ?_
    rintro _ H5 ⟨rfl, _⟩
    refine run ?_
    rfl
  | some c =>
    have hlt := str_lt hc
    have d1 : decide ((i : Int) < (s.size : Int)) = true := decide_eq_true (by omega)
    have ix := aix hc
    have nx := fun H' h => next c H' hc h
    refine run ?_
    refine (plain_ax H3 (c.toNat : Int)).mono ?_
    rintro _ X ⟨rfl, e⟩
    subst X
    cases hp : plainB (c.toNat : Int) with
    | true =>
      have hq1 : quote1 c = [c] := by simp only [quote1, hp, if_true]
      rw [hq1] at nx
      refine run ?_
      refine (writeByte_ax r3 okB_self (by simp only [List.length_append, List.length_cons, List.length_nil]; omega) c).mono ?_
      rintro _ H4 ⟨rfl, r4, _⟩
      refine run ?_
      obtain ⟨y, ⟨y1, y2, y3, y4, _⟩, y5⟩ := nx _ r4
      exact ⟨y, ⟨y1, y2, y3, y4, trivial⟩, y5⟩
    | false =>
      by_cases hq : c = 34 ∨ c = 92
      · have hq1 : quote1 c = [92, c] := by simp only [quote1, hp, Bool.false_eq_true, if_false, if_pos hq]
        rw [hq1] at nx
        rcases hq with rfl | rfl
        · refine run ?_
          refine (writeByte_ax r3 okB_self (by simp only [List.length_append, List.length_cons, List.length_nil]; omega) 92).mono ?_
          rintro _ H4 ⟨rfl, r4, _⟩
          refine run ?_
          refine (writeByte_ax r4 okB_self (by simp only [List.length_append, List.length_cons, List.length_nil]; omega) 34).mono ?_
          rintro _ H5 ⟨rfl, r5, _⟩
          refine run ?_
          obtain ⟨y, ⟨y1, y2, y3, y4, _⟩, y5⟩ := nx _ (by simpa using r5)
          exact ⟨y, ⟨y1, y2, y3, y4, trivial⟩, y5⟩
        · refine run ?_
          refine (writeByte_ax r3 okB_self (by simp only [List.length_append, List.length_cons, List.length_nil]; omega) 92).mono ?_
          rintro _ H4 ⟨rfl, r4, _⟩
          refine run ?_
          refine (writeByte_ax r4 okB_self (by simp only [List.length_append, List.length_cons, List.length_nil]; omega) 92).mono ?_
          rintro _ H5 ⟨rfl, r5, _⟩
          refine run ?_
          obtain ⟨y, ⟨y1, y2, y3, y4, _⟩, y5⟩ := nx _ (by simpa using r5)
          exact ⟨y, ⟨y1, y2, y3, y4, trivial⟩, y5⟩
      · have hq1 : quote1 c = [92, 120, hexD (c.toNat / 16), hexD (c.toNat % 16)] := by simp only [quote1, hp, Bool.false_eq_true, if_false, if_neg hq]
        rw [hq1] at nx
        have u1 : ((c.toNat : Int) == 34) = false := by rw [show (34 : Int) = ((34 : Nat) : Int) from rfl, u8_eq c 34 (by decide)]; simp; exact fun e => hq (.inl e)
        have u2 : ((c.toNat : Int) == 92) = false := by rw [show (92 : Int) = ((92 : Nat) : Int) from rfl, u8_eq c 92 (by decide)]; simp; exact fun e => hq (.inr e)
        have hcb := c.toNat_lt
        have ih := dig_of (n := c.toNat / 16) (by omega) (high_eq c)
        have il := dig_of (n := c.toNat % 16) (by omega) (low_eq c)
        refine run ?_
        refine (writeString_ax r3 okB_self ⟨#[92, 120]⟩ (by show (34 :: (List.take i s.data.toList).flatMap quote1).length + 2 ≤ _; simp only [List.length_cons]; omega)).mono ?_
        rintro _ H4 ⟨rfl, r4, _⟩
        refine run ?_
        refine (writeByte_ax r4 okB_self (by simp only [List.length_append, List.length_cons, List.length_nil]; omega) (hexD (c.toNat / 16))).mono ?_
        rintro _ H5 ⟨rfl, r5, _⟩
        refine run ?_
        refine (writeByte_ax r5 okB_self (by simp only [List.length_append, List.length_cons, List.length_nil]; omega) (hexD (c.toNat % 16))).mono ?_
        rintro _ H6 ⟨rfl, r6, _⟩
        refine run ?_
        obtain ⟨y, ⟨y1, y2, y3, y4, _⟩, y5⟩ := nx _ (by simpa using r6)
        exact ⟨y, ⟨y1, y2, y3, y4, trivial⟩, y5⟩
end Go.Proofs.YtmdpifedcaaobaaDoor
/- The document of package text: a string as it is written. -/
set_option linter.unusedVariables false
set_option linter.unusedSimpArgs false
set_option maxRecDepth 20000
set_option maxHeartbeats 1000000
namespace Go.Proofs.YtmdpifedcaaobaaDoor
open Go Ax
theorem app_three {H : Heap} {v : Value} {bs : List UInt8} {a b : UInt8} (h : Buf 0 H v bs) (hl : bs.length ≤ 1000000) :
    ∃ q H1 v' H2, abuildSlice Tryd.prog 48 3 [(0, .int .u8 120), (1, u8 a), (2, u8 b)] H = some (.slice (some ⟨q, 0, none⟩) 3 1, H1) ∧ aappend Tryd.prog 48 48 v (.slice (some ⟨q, 0, none⟩) 3 1) H1 = some (v', H2) ∧ Buf 0 H2 v' (bs ++ [120, a, b]) := by
  have hq : (H ++ [Blk.cells (.row 5) [u8 120, u8 a, u8 b]])[H.length]? = some (.cells (.row 5) [u8 120, u8 a, u8 b]) := at_push _ _
  have hsrc : asrc 1 (.slice (some ⟨H.length, 0, none⟩) 3 1) (H ++ [Blk.cells (.row 5) [u8 120, u8 a, u8 b]]) = some ([120, a, b].length, u8s [120, a, b]) := src_some (by decide) (hblk_of hq) rfl
  obtain ⟨v', H2, e, m1, m2, m3⟩ := app_buf (tx := 48) (h.grow (Grow.push H [Blk.cells (.row 5) [u8 120, u8 a, u8 b]])) (Nat.zero_le _) hsrc rfl rfl rfl (by simp; omega)
  exact ⟨_, _, v', H2, rfl, e, m1⟩
theorem quo_eq (c : UInt8) : IntKind.u8.wrap ((c.toNat : Int).tdiv 16) = ((c.toNat / 16 : Nat) : Int) := by
  have := c.toNat_lt
  rw [Int.tdiv_eq_ediv_of_nonneg (by omega), wrap_u8 (by omega) (by omega)]
  rfl
theorem rem_eq (c : UInt8) : (c.toNat : Int).tmod 16 = ((c.toNat % 16 : Nat) : Int) := by
  rw [Int.tmod_eq_emod_of_nonneg (by omega)]
  rfl
theorem rquote_ax (H0 : Heap) {s : ByteArray} (hs : s.size ≤ 100000) : AX Tryd.prog 35 #[.string s] H0 (fun v H' => v = .string ⟨(quoteS s.data.toList).toArray⟩ ∧ H' = H0) := by
  refine AX.alone (args := [.string s]) (fun v hv => by simp only [List.mem_singleton] at hv; subst hv; exact plain_str _) ?_
  suffices hh : AX Tryd.prog 35 [.string s].toArray [] (fun v _ => v = .string ⟨(quoteS s.data.toList).toArray⟩) from hh.mono fun v _ e => ⟨e ▸ plain_str _, e⟩
  have hsl : s.data.toList.length = s.size := by simp
  refine AX.body (n := 51) (rs := [.tmp 2]) Tryd.func35 rfl (by decide) rfl rfl (bC_sound _ _ _ _ ?_)
  refine run ?_
  refine Ob2.byte fun q H1 hq l1 l2 => ?_
  have r1 : Buf 0 H1 (.slice (some ⟨q, 0, none⟩) 1 1) [34] := .inr ⟨q, Nat.zero_le _, rfl, by simp, l1⟩
  refine run ?_
  refine SW.loop (α := Nat × Value) (fun x => [(0, .string s), (3, digitsV), (4, x.2), (5, .int .i64 (x.1 : Int))]) (fun x H => Buf 0 H x.2 (34 :: (s.data.toList.take x.1).flatMap quote1) ∧ x.1 ≤ s.size) (fun x => s.size - x.1)
    ⟨(0, .slice (some ⟨q, 0, none⟩) 1 1), ⟨rfl, rfl, rfl, rfl, trivial⟩, by simpa using r1, by show 0 ≤ s.size; omega⟩ ?_
  rintro ⟨i, v⟩ H3 ⟨r3, hi⟩
  simp only at r3 hi
  refine bC_sound _ _ _ _ ?_
  have hfl := flat_len s.data.toList i
  have w1 : IntKind.i64.wrap ((i : Int) + 1) = ((i + 1 : Nat) : Int) := wrap_nat (by omega)
  have next : ∀ (c : UInt8) (v' : Value) (H' : Heap), s.data.toList[i]? = some c → Buf 0 H' v' (34 :: (s.data.toList.take i).flatMap quote1 ++ quote1 c) →
      ∃ y : Nat × Value, Has [(0, Value.string s), (3, digitsV), (4, v'), (5, .int .i64 (IntKind.i64.wrap ((i : Int) + 1)))] [(0, .string s), (3, digitsV), (4, y.2), (5, .int .i64 (y.1 : Int))] ∧ (Buf 0 H' y.2 (34 :: (s.data.toList.take y.1).flatMap quote1) ∧ y.1 ≤ s.size) ∧ s.size - y.1 < s.size - i := by
    intro c v' H' hc hb
    have hlt := str_lt hc
    exact ⟨(i + 1, v'), ⟨rfl, rfl, rfl, congrArg (fun z => some (Value.int .i64 z)) w1, trivial⟩, ⟨by show Buf 0 H' v' _; rw [take_more hc]; simpa using hb, by show i + 1 ≤ s.size; omega⟩, by show s.size - (i + 1) < s.size - i; omega⟩
  cases hc : s.data.toList[i]? with
  | none =>
    have hge := str_ge hc
    have d1 : decide ((i : Int) < (s.size : Int)) = false := decide_eq_false (by omega)
    have hall : s.data.toList.take i = s.data.toList := List.take_of_length_le (by omega)
    rw [hall] at r3
    rw [hall] at hfl
    obtain ⟨q, H4, v', H5, e1, e2, r5⟩ := app_one (x := 34) r3 (by simp only [List.length_append, List.length_cons, List.length_nil]; omega)
    have cv := conv_buf r5
    refine run ?_
    refine Ob2.of e1 ?_
    refine run ?_
    refine Ob2.of e2 ?_
    refine run ?_
    rfl
  | some c =>
    have hlt := str_lt hc
    have d1 : decide ((i : Int) < (s.size : Int)) = true := decide_eq_true (by omega)
    have ix := aix hc
    have nx := fun v' H' h => next c v' H' hc h
    refine run ?_
    refine (rplain_ax H3 (c.toNat : Int)).mono ?_
    rintro _ X ⟨rfl, e⟩
    subst X
    cases hp : plainB (c.toNat : Int) with
    | true =>
      have hq1 : quote1 c = [c] := by simp only [quote1, hp, if_true]
      rw [hq1] at nx
      obtain ⟨q, H4, v', H5, e1, e2, r5⟩ := app_one (x := c) r3 (by simp only [List.length_append, List.length_cons, List.length_nil]; omega)
      refine run ?_
      refine Ob2.of e1 ?_
      refine run ?_
      refine Ob2.of e2 ?_
      refine run ?_
      obtain ⟨y, ⟨y1, y2, y3, y4, _⟩, y5⟩ := nx _ _ r5
      exact ⟨y, ⟨y1, y2, y3, y4, trivial⟩, y5⟩
    | false =>
      obtain ⟨q, H4, v', H5, e1, e2, r5⟩ := app_one (x := 92) r3 (by simp only [List.length_append, List.length_cons, List.length_nil]; omega)
      by_cases hq : c = 34 ∨ c = 92
      · have hq1 : quote1 c = [92, c] := by simp only [quote1, hp, Bool.false_eq_true, if_false, if_pos hq]
        rw [hq1] at nx
        obtain ⟨q', H6, v6, H7, e3, e4, r7⟩ := app_one (x := c) r5 (by simp only [List.length_append, List.length_cons, List.length_nil]; omega)
        rcases hq with rfl | rfl
        · refine run ?_
          refine Ob2.of e1 ?_
          refine run ?_
          refine Ob2.of e2 ?_
          refine run ?_
          refine Ob2.of e3 ?_
          refine run ?_
          refine Ob2.of e4 ?_
          refine run ?_
          obtain ⟨y, ⟨y1, y2, y3, y4, _⟩, y5⟩ := nx _ _ (by simpa using r7)
          exact ⟨y, ⟨y1, y2, y3, y4, trivial⟩, y5⟩
        · refine run ?_
          refine Ob2.of e1 ?_
          refine run ?_
          refine Ob2.of e2 ?_
          refine run ?_
          refine Ob2.of e3 ?_
          refine run ?_
          refine Ob2.of e4 ?_
          refine run ?_
          obtain ⟨y, ⟨y1, y2, y3, y4, _⟩, y5⟩ := nx _ _ (by simpa using r7)
          exact ⟨y, ⟨y1, y2, y3, y4, trivial⟩, y5⟩
      · have hq1 : quote1 c = [92, 120, hexD (c.toNat / 16), hexD (c.toNat % 16)] := by simp only [quote1, hp, Bool.false_eq_true, if_false, if_neg hq]
        rw [hq1] at nx
        have u1 : ((c.toNat : Int) == 34) = false := by rw [show (34 : Int) = ((34 : Nat) : Int) from rfl, u8_eq c 34 (by decide)]; simp; exact fun e => hq (.inl e)
        have u2 : ((c.toNat : Int) == 92) = false := by rw [show (92 : Int) = ((92 : Nat) : Int) from rfl, u8_eq c 92 (by decide)]; simp; exact fun e => hq (.inr e)
        have hcb := c.toNat_lt
        have ih := dig_of (n := c.toNat / 16) (by omega) (quo_eq c)
        have il := dig_of (n := c.toNat % 16) (by omega) (rem_eq c)
        obtain ⟨q', H6, v6, H7, e3, e4, r7⟩ := app_three (a := hexD (c.toNat / 16)) (b := hexD (c.toNat % 16)) r5 (by simp only [List.length_append, List.length_cons, List.length_nil]; omega)
        refine run ?_
        refine Ob2.of e1 ?_
        refine run ?_
        refine Ob2.of e2 ?_
        refine run ?_
        apply SW.draw2 [([], [37, 38, 39, 40, 41, 42, 43, 44, 45], 0, 1, false), ([], [36, 38, 39, 41, 42, 43, 44], 0, 0, false), ([], [36, 37, 41, 42, 43, 44], 0, 0, false), ([(38, 2)], [36, 37, 38, 41, 42, 43, 44], 0, 0, false), ([(37, 1), (38, 2), (39, 3)], [36, 37, 38, 39, 41, 42, 43, 44], 0, 0, false), ([], [36, 37, 38, 39, 40, 42, 43], 0, 0, false), ([], [36, 37, 38, 39, 40, 41], 0, 0, false), ([(42, 6)], [36, 37, 38, 39, 40, 41, 42], 0, 0, false), ([(41, 5), (42, 6), (43, 7)], [36, 37, 38, 39, 40, 41, 42, 43], 0, 0, false), ([(37, 1), (38, 2), (39, 3), (40, 4), (41, 5), (42, 6), (43, 7), (44, 8)], [36, 37, 38, 39, 40, 41, 42, 43, 44], 0, 0, true), ([(36, 0), (37, 1), (38, 2), (39, 3), (40, 4), (41, 5), (42, 6), (43, 7), (44, 8), (45, 9)], [36, 37, 38, 39, 40, 41, 42, 43, 44, 45], 1, 0, true), ([(36, 0), (37, 1), (38, 2), (39, 3), (40, 4), (41, 5), (42, 6), (43, 7), (44, 8), (45, 9), (46, 10)], [36, 37, 38, 39, 40, 41, 42, 43, 44, 45, 46], 2, 0, false)]
          [(36, 0), (37, 1), (38, 2), (39, 3), (40, 4), (41, 5), (42, 6), (43, 7), (44, 8), (45, 9), (46, 10), (4, 11)] 2
          [(0, _), (3, _), (4, _), (5, _), (6, _)] [_, _, _, _, _, _, _, _, _, _, _, _] [H5, H6, H7] rfl (by kernel_rfl)
        case hF => exact ⟨rfl, rfl, rfl, rfl, rfl, trivial⟩
        case h0 => rfl
        case steps =>
          (try (conv => whnf)); repeat' (first | ((with_reducible refine Ob.of ih ?_); (conv => whnf)) | ((with_reducible refine Ob.of il ?_); (conv => whnf)) | ((with_reducible refine Ob.of e3 ?_); (conv => whnf)) | ((with_reducible refine Ob.of e4 ?_); (conv => whnf)) | ((with_reducible refine Ob2.of ih ?_); (conv => whnf)) | ((with_reducible refine Ob2.of il ?_); (conv => whnf)) | ((with_reducible refine Ob2.of e3 ?_); (conv => whnf)) | ((with_reducible refine Ob2.of e4 ?_); (conv => whnf)) | (refine And.intro ?_ ?_ <;> (conv => whnf)) | exact Leaf.mk rfl rfl | exact True.intro | (refine Ob.of rfl ?_; (conv => whnf)) | (refine Ob2.of (by rfl) ?_; (conv => whnf)) | (refine step1 ?_))
        refine run ?_
        obtain ⟨y, ⟨y1, y2, y3, y4, _⟩, y5⟩ := nx _ _ (by simpa using r7)
        exact ⟨y, ⟨y1, y2, y3, y4, trivial⟩, y5⟩
end Go.Proofs.YtmdpifedcaaobaaDoor
/- Package text, plainly: what is written comes back; what is taken ends with the first quote that is not escaped. -/
set_option linter.unusedVariables false
set_option linter.unusedSimpArgs false
set_option maxRecDepth 20000
namespace Go.Proofs.YtmdpifedcaaobaaDoor
open Go Ax
theorem hexD_worth : ∀ n : Fin 16, worthO ((hexD n.val).toNat : Int) = some (n.val : Int) := by decide
theorem worth_hexD {n : Nat} (h : n < 16) : worthO ((hexD n).toNat : Int) = some (n : Int) := hexD_worth ⟨n, h⟩
theorem plain34 : plainB ((34 : UInt8).toNat : Int) = false := by decide
theorem plain92 : plainB ((92 : UInt8).toNat : Int) = false := by decide
theorem tk_pl {L acc : List UInt8} {k f : Nat} {c : UInt8} (hc : L[k]? = some c) (hp : plainB (c.toNat : Int) = true) : tkF (f + 1) L k acc = tkF f L (k + 1) (acc ++ [c]) := by
  have h34 : c ≠ 34 := by rintro rfl; rw [plain34] at hp; cases hp
  simp only [tkF, hc, if_neg h34, hp, if_true]
theorem tk_end {L acc : List UInt8} {k f : Nat} (hc : L[k]? = some 34) : tkF (f + 1) L k acc = (acc, k + 1, 0) := by simp only [tkF, hc, if_true]
theorem esc_ok {L : List UInt8} {k : Nat} {c : UInt8} (hc : L[k]? = some c) (h : c = 34 ∨ c = 92) : escS L k = (true, k + 1, [c]) := by
  have hx : c ≠ 120 := by rcases h with rfl | rfl <;> decide
  simp only [escS, hc, if_neg hx, if_pos h]
theorem esc_hex {L : List UInt8} {k : Nat} {a b : UInt8} {p q : Int} (hc : L[k]? = some 120) (ha : L[k + 1]? = some a) (hb : L[k + 2]? = some b) (hp : worthO (a.toNat : Int) = some p) (hq : worthO (b.toNat : Int) = some q) :
    escS L k = (true, k + 3, [UInt8.ofNat (p * 16 + q).toNat]) := by
  have h1 : hexAt L (k + 1) = some p := by simp [hexAt, ha, hp]
  have h2 : hexAt L (k + 1 + 1) = some q := by simp [hexAt, hb, hq]
  simp only [escS, hc, if_true, pairS, h1, h2]
theorem drop_at {M R : List UInt8} {k : Nat} (h : M.drop k = R) (j : Nat) : M[k + j]? = R[j]? := by rw [← h, List.getElem?_drop]
theorem drop_add {M R : List UInt8} {k : Nat} {A : List UInt8} (h : M.drop k = A ++ R) : M.drop (k + A.length) = R := by
  rw [← List.drop_drop, h, List.drop_left]
theorem take_quote (T : List UInt8) : ∀ (L M acc : List UInt8) (k f : Nat), M.drop k = L.flatMap quote1 ++ ([34] ++ T) → L.length < f → tkF f M k acc = (acc ++ L, k + (L.flatMap quote1).length + 1, 0) := by
  intro L
  induction L with
  | nil =>
    intro M acc k f h hf
    obtain ⟨f, rfl⟩ : ∃ m, f = m + 1 := ⟨f - 1, by simp at hf; omega⟩
    rw [tk_end (by have := drop_at h 0; simpa using this)]
    simp
  | cons c L ih =>
    intro M acc k f h hf
    obtain ⟨f, rfl⟩ : ∃ m, f = m + 1 := ⟨f - 1, by simp at hf; omega⟩
    have hf' : L.length < f := by simp at hf; omega
    rw [List.flatMap_cons, List.append_assoc] at h
    have hn := drop_add h
    rw [List.flatMap_cons]
    cases hp : plainB (c.toNat : Int) with
    | true =>
      have hq1 : quote1 c = [c] := by simp only [quote1, hp, if_true]
      rw [hq1] at h hn ⊢
      have h0 : M[k]? = some c := by have := drop_at h 0; simpa using this
      rw [tk_pl h0 hp, ih M (acc ++ [c]) (k + 1) f hn hf']
      simp; omega
    | false =>
      by_cases hq : c = 34 ∨ c = 92
      · have hq1 : quote1 c = [92, c] := by simp only [quote1, hp, Bool.false_eq_true, if_false, if_pos hq]
        rw [hq1] at h hn ⊢
        have h0 : M[k]? = some 92 := by have := drop_at h 0; simpa using this
        have h1 : M[k + 1]? = some c := by have := drop_at h 1; simpa using this
        have he := esc_ok h1 hq
        rw [tk_yes h0 (by decide) plain92 rfl (by rw [he]), he]
        show tkF f M (k + 2) (acc ++ [c]) = _
        rw [ih M (acc ++ [c]) (k + 2) f hn hf']
        simp; omega
      · have hq1 : quote1 c = [92, 120, hexD (c.toNat / 16), hexD (c.toNat % 16)] := by simp only [quote1, hp, Bool.false_eq_true, if_false, if_neg hq]
        rw [hq1] at h hn ⊢
        have hcb := c.toNat_lt
        have h0 : M[k]? = some 92 := by have := drop_at h 0; simpa using this
        have h1 : M[k + 1]? = some 120 := by have := drop_at h 1; simpa using this
        have h2 : M[k + 1 + 1]? = some (hexD (c.toNat / 16)) := by have := drop_at h 2; simpa using this
        have h3 : M[k + 1 + 2]? = some (hexD (c.toNat % 16)) := by have := drop_at h 3; simpa using this
        have he := esc_hex h1 h2 h3 (worth_hexD (by omega)) (worth_hexD (by omega))
        have hc : UInt8.ofNat (((c.toNat / 16 : Nat) : Int) * 16 + ((c.toNat % 16 : Nat) : Int)).toNat = c := by
          have : (((c.toNat / 16 : Nat) : Int) * 16 + ((c.toNat % 16 : Nat) : Int)).toNat = c.toNat := by omega
          rw [this]; simp
        rw [hc] at he
        rw [tk_yes h0 (by decide) plain92 rfl (by rw [he]), he]
        show tkF f M (k + 4) (acc ++ [c]) = _
        rw [ih M (acc ++ [c]) (k + 4) f hn hf']
        simp; omega
theorem flat_ge (L : List UInt8) : L.length ≤ (L.flatMap quote1).length := by
  induction L with
  | nil => simp
  | cons c L ih =>
    have : 1 ≤ (quote1 c).length := by unfold quote1; split; simp; split <;> simp
    simp only [List.flatMap_cons, List.length_append, List.length_cons]; omega
theorem back (L T : List UInt8) : takeS (quoteS L ++ T) = (L, (quoteS L).length, 0) := by
  have h0 : (quoteS L ++ T)[0]? = some 34 := rfl
  simp only [takeS, h0, if_true]
  rw [take_quote T L _ [] 1 _ (by simp [quoteS]) (by have := flat_ge L; simp only [quoteS, List.length_append, List.length_cons, List.length_nil]; omega)]
  simp [quoteS]; omega
theorem quote_inj {L M : List UInt8} (h : quoteS L = quoteS M) : L = M := by
  have h1 := back L []
  have h2 := back M []
  rw [h, h2] at h1
  exact (congrArg Prod.fst h1).symm
/-- What is written has bytes from 32 to 126 alone. -/
theorem hexD_in : ∀ n : Fin 16, 32 ≤ (hexD n.val).toNat ∧ (hexD n.val).toNat ≤ 126 := by decide
theorem quote_in {L : List UInt8} {c : UInt8} (h : c ∈ quoteS L) : 32 ≤ c.toNat ∧ c.toNat ≤ 126 := by
  simp only [quoteS, List.mem_cons, List.mem_append, List.mem_flatMap, List.not_mem_nil, or_false] at h
  rcases h with rfl | ⟨d, hd, h⟩ | rfl
  · decide
  · unfold quote1 at h
    split at h
    · rename_i hp
      simp only [List.mem_singleton] at h
      subst h
      unfold plainB at hp
      simp only [Bool.and_eq_true, decide_eq_true_eq] at hp
      omega
    · have hdl := d.toNat_lt
      split at h
      · rename_i hq
        simp only [List.mem_cons, List.not_mem_nil, or_false] at h
        rcases h with rfl | rfl
        · decide
        · rcases hq with rfl | rfl <;> decide
      · simp only [List.mem_cons, List.not_mem_nil, or_false] at h
        rcases h with rfl | rfl | rfl | rfl
        · decide
        · decide
        · exact hexD_in ⟨d.toNat / 16, by omega⟩
        · exact hexD_in ⟨d.toNat % 16, by omega⟩
  · decide
/-! What is taken, taken again. -/
theorem take_at {L : List UInt8} {m i : Nat} (h : i < m) : (L.take m)[i]? = L[i]? := by rw [List.getElem?_take, if_pos h]
theorem take_no {L : List UInt8} {m : Nat} : (L.take m)[m]? = none := by rw [List.getElem?_take, if_neg (by omega)]
theorem pair_take {L : List UInt8} {k m : Nat} (h : (pairS L k).1 = true) (hm : (pairS L k).2.1 ≤ m) : pairS (L.take m) k = pairS L k := by
  have e := (pairS_pos L k).2.2 h
  have h1 : hexAt (L.take m) k = hexAt L k := by unfold hexAt; rw [take_at (by omega)]
  have h2 : hexAt (L.take m) (k + 1) = hexAt L (k + 1) := by unfold hexAt; rw [take_at (by omega)]
  simp only [pairS, h1, h2]
theorem esc_take {L : List UInt8} {k m : Nat} (h : (escS L k).1 = true) (hm : (escS L k).2.1 ≤ m) : escS (L.take m) k = escS L k := by
  have e := (escS_pos L k).2.2 h
  have h1 : (L.take m)[k]? = L[k]? := take_at (by omega)
  unfold escS at h hm ⊢
  rw [h1]
  cases hc : L[k]? with
  | none => rfl
  | some c =>
    simp only [hc] at h hm ⊢
    by_cases hx : c = 120
    · simp only [if_pos hx] at h hm ⊢
      exact pair_take h hm
    · simp only [if_neg hx]
theorem tk_cases {L acc : List UInt8} {k f : Nat} {x : List UInt8} {n : Nat} {e : Int} (h : tkF (f + 1) L k acc = (x, n, e)) :
    (L[k]? = some 34 ∧ x = acc ∧ n = k + 1 ∧ e = 0) ∨ (∃ c, L[k]? = some c ∧ c ≠ 34 ∧ plainB (c.toNat : Int) = true ∧ tkF f L (k + 1) (acc ++ [c]) = (x, n, e)) ∨
    (L[k]? = some 92 ∧ (escS L (k + 1)).1 = true ∧ tkF f L (escS L (k + 1)).2.1 (acc ++ (escS L (k + 1)).2.2) = (x, n, e)) ∨
    (x = [] ∧ e = 11 ∧ (n = k ∨ L[k]? = some 92 ∧ (escS L (k + 1)).1 = false ∧ n = (escS L (k + 1)).2.1)) := by
  cases hc : L[k]? with
  | none => simp only [tkF, hc, Prod.mk.injEq] at h; obtain ⟨rfl, rfl, rfl⟩ := h; exact .inr (.inr (.inr ⟨rfl, rfl, .inl rfl⟩))
  | some c =>
    by_cases h34 : c = 34
    · subst h34
      rw [tk_end hc] at h
      simp only [Prod.mk.injEq] at h
      obtain ⟨rfl, rfl, rfl⟩ := h
      exact .inl ⟨rfl, rfl, rfl, rfl⟩
    cases hp : plainB (c.toNat : Int) with
    | true => rw [tk_pl hc hp] at h; exact .inr (.inl ⟨c, rfl, h34, hp, h⟩)
    | false =>
      by_cases h92 : c = 92
      · cases he : (escS L (k + 1)).1 with
        | true => rw [tk_yes hc h34 hp h92 he] at h; subst h92; exact .inr (.inr (.inl ⟨rfl, rfl, h⟩))
        | false =>
          rw [tk_no hc h34 hp h92 he] at h
          simp only [Prod.mk.injEq] at h
          obtain ⟨rfl, rfl, rfl⟩ := h
          subst h92
          exact .inr (.inr (.inr ⟨rfl, rfl, .inr ⟨rfl, rfl, rfl⟩⟩))
      · simp only [tkF, hc, if_neg h34, hp, Bool.false_eq_true, if_false, ne_eq, h92, not_false_eq_true, if_true, Prod.mk.injEq] at h
        obtain ⟨rfl, rfl, rfl⟩ := h
        exact .inr (.inr (.inr ⟨rfl, rfl, .inl rfl⟩))
theorem pair_bad {L : List UInt8} {k : Nat} (h : (pairS L k).1 = false) (hk : k ≤ L.length) : (pairS L k).2.1 ≤ L.length := by
  unfold pairS at h ⊢
  cases hp : hexAt L k with
  | none => simpa [hp] using hk
  | some p =>
    have hp' := hp
    unfold hexAt at hp'
    obtain ⟨y, hy, _⟩ := Option.bind_eq_some_iff.1 hp'
    have hlt := (List.getElem?_eq_some_iff.1 hy).1
    cases hq : hexAt L (k + 1) with
    | none => simp only [hp, hq]; omega
    | some q => simp [hp, hq] at h
theorem esc_bad {L : List UInt8} {k : Nat} (h : (escS L k).1 = false) (hk : k ≤ L.length) : (escS L k).2.1 ≤ L.length := by
  unfold escS at h ⊢
  cases hc : L[k]? with
  | none => simpa [hc] using hk
  | some c =>
    have hlt := (List.getElem?_eq_some_iff.1 hc).1
    simp only [hc] at h ⊢
    by_cases hx : c = 120
    · rw [if_pos hx] at h ⊢; exact pair_bad h hlt
    · rw [if_neg hx] at h ⊢
      split at h
      · simp at h
      · rename_i hq; rw [if_neg hq]; exact hk
theorem tk_bad : ∀ (f : Nat) (L acc : List UInt8) (k : Nat) (x : List UInt8) (n : Nat) (e : Int), tkF f L k acc = (x, n, e) → k ≤ L.length → e ≠ 0 → x = [] ∧ n ≤ L.length ∧ e = 11 := by
  intro f
  induction f with
  | zero => intro L acc k x n e h hk he; simp only [tkF, Prod.mk.injEq] at h; obtain ⟨rfl, rfl, rfl⟩ := h; exact ⟨rfl, hk, rfl⟩
  | succ f ih =>
    intro L acc k x n e h hk he
    rcases tk_cases h with ⟨_, _, _, h0⟩ | ⟨c, hc, _, _, h0⟩ | ⟨_, h1, h0⟩ | ⟨rfl, rfl, h0⟩
    · exact absurd h0 he
    · exact ih L _ (k + 1) x n e h0 ((List.getElem?_eq_some_iff.1 hc).1) he
    · exact ih L _ _ x n e h0 (escS_len h1) he
    · rcases h0 with rfl | ⟨hc, h1, rfl⟩
      · exact ⟨rfl, hk, rfl⟩
      · exact ⟨rfl, esc_bad h1 ((List.getElem?_eq_some_iff.1 hc).1), rfl⟩
theorem tk_good : ∀ (f : Nat) (L acc : List UInt8) (k : Nat) (x : List UInt8) (n : Nat), tkF f L k acc = (x, n, 0) →
    k < n ∧ n ≤ L.length ∧ (∀ g, n < g + k → tkF g (L.take n) k acc = (x, n, 0)) ∧ ∀ g, n ≤ g + k → tkF g (L.take (n - 1)) k acc = ([], n - 1, 11) := by
  intro f
  induction f with
  | zero => intro L acc k x n h; simp [tkF] at h
  | succ f ih =>
    intro L acc k x n h
    rcases tk_cases h with ⟨hc, rfl, rfl, _⟩ | ⟨c, hc, h34, hp, h0⟩ | ⟨hc, h1, h0⟩ | ⟨_, h1, _⟩
    · have hlt := (List.getElem?_eq_some_iff.1 hc).1
      refine ⟨by omega, hlt, fun g hg => ?_, fun g hg => ?_⟩
      · obtain ⟨g, rfl⟩ : ∃ m, g = m + 1 := ⟨g - 1, by omega⟩
        exact tk_end (by rw [take_at (by omega)]; exact hc)
      · obtain ⟨g, rfl⟩ : ∃ m, g = m + 1 := ⟨g - 1, by omega⟩
        have : (L.take (k + 1 - 1))[k]? = none := take_no
        simp only [tkF, this]
        rfl
    · obtain ⟨i1, i2, i3, i4⟩ := ih L _ _ x n h0
      refine ⟨by omega, i2, fun g hg => ?_, fun g hg => ?_⟩
      · obtain ⟨g, rfl⟩ : ∃ m, g = m + 1 := ⟨g - 1, by omega⟩
        rw [tk_pl (by rw [take_at (by omega)]; exact hc) hp]
        exact i3 g (by omega)
      · obtain ⟨g, rfl⟩ : ∃ m, g = m + 1 := ⟨g - 1, by omega⟩
        rw [tk_pl (by rw [take_at (by omega)]; exact hc) hp]
        exact i4 g (by omega)
    · obtain ⟨i1, i2, i3, i4⟩ := ih L _ _ x n h0
      have hpos := (escS_pos L (k + 1)).2.2 h1
      refine ⟨by omega, i2, fun g hg => ?_, fun g hg => ?_⟩
      · obtain ⟨g, rfl⟩ : ∃ m, g = m + 1 := ⟨g - 1, by omega⟩
        have he : escS (L.take n) (k + 1) = escS L (k + 1) := esc_take h1 (by omega)
        rw [tk_yes (c := 92) (by rw [take_at (by omega)]; exact hc) (by decide) plain92 rfl (by rw [he]; exact h1), he]
        exact i3 g (by omega)
      · obtain ⟨g, rfl⟩ : ∃ m, g = m + 1 := ⟨g - 1, by omega⟩
        have he : escS (L.take (n - 1)) (k + 1) = escS L (k + 1) := esc_take h1 (by omega)
        rw [tk_yes (c := 92) (by rw [take_at (by omega)]; exact hc) (by decide) plain92 rfl (by rw [he]; exact h1), he]
        exact i4 g (by omega)
    · exact absurd h1 (by decide)
theorem take_bad {L x : List UInt8} {n : Nat} {e : Int} (h : takeS L = (x, n, e)) (he : e ≠ 0) : x = [] ∧ n ≤ L.length ∧ e = 11 := by
  unfold takeS at h
  cases hc : L[0]? with
  | none => simp only [hc, Prod.mk.injEq] at h; obtain ⟨rfl, rfl, rfl⟩ := h; exact ⟨rfl, Nat.zero_le _, rfl⟩
  | some c =>
    have hlt := (List.getElem?_eq_some_iff.1 hc).1
    simp only [hc] at h
    split at h
    · exact tk_bad _ L [] 1 x n e h hlt he
    · simp only [Prod.mk.injEq] at h; obtain ⟨rfl, rfl, rfl⟩ := h; exact ⟨rfl, Nat.zero_le _, rfl⟩
theorem take_good {L x : List UInt8} {n : Nat} (h : takeS L = (x, n, 0)) : 2 ≤ n ∧ n ≤ L.length ∧ takeS (L.take n) = (x, n, 0) ∧ takeS (L.take (n - 1)) = ([], n - 1, 11) := by
  unfold takeS at h
  cases hc : L[0]? with
  | none => simp [hc] at h
  | some c =>
    simp only [hc] at h
    split at h
    · rename_i h34
      subst h34
      obtain ⟨i1, i2, i3, i4⟩ := tk_good _ L [] 1 x n h
      have a1 : (L.take n)[0]? = some 34 := by rw [take_at (by omega)]; exact hc
      have a2 : (L.take (n - 1))[0]? = some 34 := by rw [take_at (by omega)]; exact hc
      refine ⟨by omega, i2, ?_, ?_⟩
      · simp only [takeS, a1, if_true]
        exact i3 _ (by simp; omega)
      · simp only [takeS, a2, if_true]
        exact i4 _ (by simp; omega)
    · simp at h
end Go.Proofs.YtmdpifedcaaobaaDoor
/- Package text: whether a text may be a name; and that the package works. -/
set_option linter.unusedVariables false
set_option linter.unusedSimpArgs false
set_option maxRecDepth 20000
set_option maxHeartbeats 4000000
namespace Go.Proofs.YtmdpifedcaaobaaDoor
open Go Ax
theorem ba_beq (s t : ByteArray) : (s == t) = decide (s = t) := by
  show (s.data == t.data) = _
  by_cases h : s = t
  · subst h; simp
  · rw [decide_eq_false h, beq_eq_false_iff_ne]; exact fun e => h (ByteArray.ext e)
def digitB (x : Int) : Bool := !(decide (x < 48) || decide (x > 57))
/-- From place i on each byte may stand in a name. -/
def nameF (L : List UInt8) (i : Nat) : Bool := (L.drop i).all fun c => letterB (c.toNat : Int) || digitB (c.toNat : Int)
def nameS (L : List UInt8) : Bool :=
  match L with
  | [] => false
  | c :: r => decide (L.length ≤ 12) && (letterB (c.toNat : Int) && r.all fun c => letterB (c.toNat : Int) || digitB (c.toNat : Int))
theorem nameF_step {L : List UInt8} {i : Nat} {c : UInt8} (h : L[i]? = some c) : nameF L i = ((letterB (c.toNat : Int) || digitB (c.toNat : Int)) && nameF L (i + 1)) := by
  have hl := (List.getElem?_eq_some_iff.1 h).1
  have he := (List.getElem?_eq_some_iff.1 h).2
  unfold nameF
  rw [List.drop_eq_getElem_cons hl, List.all_cons, he]
theorem nameF_end {L : List UInt8} {i : Nat} (h : L[i]? = none) : nameF L i = true := by
  unfold nameF
  rw [List.drop_eq_nil_of_le (List.getElem?_eq_none_iff.1 h)]
  rfl
def nmI (L : List UInt8) (i : Nat) : Bool :=
  match L[i]? with
  | none => true
  | some c => (letterB (c.toNat : Int) || (!((i : Int) == 0) && digitB (c.toNat : Int))) && nameF L (i + 1)
theorem nmI_succ (L : List UInt8) (i : Nat) : nmI L (i + 1) = nameF L (i + 1) := by
  have h0 : (((i + 1 : Nat) : Int) == 0) = false := by rw [beq_eq_false_iff_ne]; omega
  unfold nmI
  cases hc : L[i + 1]? with
  | none => rw [nameF_end hc]
  | some c => rw [nameF_step hc, h0]; rfl
end Go.Proofs.YtmdpifedcaaobaaDoor
