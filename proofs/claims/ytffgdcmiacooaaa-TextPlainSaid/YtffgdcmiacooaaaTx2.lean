/- Package text: the reader of a string, byte by byte. -/
import Derived.Test.YtffgdcmiacooaaaTx1
set_option linter.unusedVariables false
set_option linter.unusedSimpArgs false
set_option maxRecDepth 20000
namespace Go.Proofs.Ytffgdcmiacooaaa
open Go Ax
/-- A reader: the bytes taken so far, the place. -/
abbrev Rd (B : Nat) (H : Heap) (b : Nat) (s : ByteArray) (k : Nat) (bs : List UInt8) : Prop := Bld B H b 37 [.string s, .int .i64 (k : Int)] bs
theorem okB_rd : OkB 37 := ⟨by decide, by kernel_rfl⟩
theorem str_at {s : ByteArray} {k : Nat} {c : UInt8} (h : s.data.toList[k]? = some c) : s[k]? = some c := by
  rw [Array.getElem?_toList] at h
  exact h
theorem str_lt {s : ByteArray} {k : Nat} {c : UInt8} (h : s.data.toList[k]? = some c) : k < s.size := by
  have := (List.getElem?_eq_some_iff.1 h).1
  simpa using this
theorem str_ge {s : ByteArray} {k : Nat} (h : s.data.toList[k]? = none) : s.size ≤ k := by
  have := List.getElem?_eq_none_iff.1 h
  simpa using this
theorem aix {s : ByteArray} {k : Nat} {c : UInt8} (h : s.data.toList[k]? = some c) : aindex Try.prog 9 (.string s) (.int .i64 (k : Int)) = some (u8 c) := by
  simp [aindex, show Try.prog.underlying 9 = some .string from rfl, str_at h]
theorem wrap_nat {k : Nat} (h : k ≤ 140737488355327) : IntKind.i64.wrap ((k : Int) + 1) = ((k + 1 : Nat) : Int) := by rw [wrap_i64 (by omega) (by omega)]; omega
theorem next_some {B : Nat} {H : Heap} {b : Nat} {s : ByteArray} {k : Nat} {bs : List UInt8} {c : UInt8} (h : Rd B H b s k bs) (hc : s.data.toList[k]? = some c) :
    AX Try.prog 14 #[ptr b] H (fun v H' => v = .tuple #[u8 c, .bool true] ∧ H' = H) := by
  obtain ⟨h1, h2, a, v, h3, h4, h5⟩ := h
  have hb := hblk_of h3
  have hlt := str_lt hc
  have d1 : decide ((k : Int) ≥ (s.size : Int)) = false := decide_eq_false (by omega)
  have ix := aix hc
  refine AX.body (n := 23) (rs := [.tmp 2, .tmp 3]) Try.func14 rfl (by decide) rfl rfl (bC_sound _ _ _ _ ?_)
  (try (conv => whnf)); (repeat (first | (refine Ob.of (by first | rfl | (exact ald rfl rfl (by assumption) rfl) | (exact ald_agg rfl rfl rfl (by assumption) rfl)) ?_; (conv => whnf)) | (refine bIf.yes (by first | assumption | rfl) ?_; (conv => whnf)) | (refine bIf.no (by first | assumption | rfl) ?_; (conv => whnf))))
  apply SW.draw2 [([], [8, 9, 10, 11, 12], 0, 0, false), ([(4, 0)], [4, 8, 9, 10, 11, 12], 0, 0, false), ([(4, 0), (5, 1)], [4, 5, 8, 9, 10, 11, 12], 0, 0, false), ([(4, 0), (5, 1), (6, 2)], [4, 5, 6, 8, 9, 10, 11, 12], 0, 0, false), ([], [4, 5, 6, 7], 0, 0, false), ([(8, 4)], [4, 5, 6, 7, 8], 0, 0, false), ([(8, 4), (9, 5)], [4, 5, 6, 7, 8, 9], 0, 0, false), ([(8, 4), (9, 5), (10, 6)], [4, 5, 6, 7, 8, 9, 10], 0, 0, false), ([(8, 4), (9, 5), (10, 6), (11, 7)], [4, 5, 6, 7, 8, 9, 10, 11], 0, 0, false), ([(4, 0), (5, 1), (6, 2), (7, 3), (8, 4), (9, 5), (10, 6), (11, 7), (12, 8)], [4, 5, 6, 7, 8, 9, 10, 11, 12], 0, 0, false)]
    [(4, 0), (5, 1), (6, 2), (7, 3), (8, 4), (9, 5), (10, 6), (11, 7), (12, 8), (13, 9)] 0
    [(0, _)] [_, _, _, _, _, _, _, _, _, _] [H] rfl (by kernel_rfl)
  case hF => exact ⟨rfl, trivial⟩
  case h0 => rfl
  case steps =>
    (try (conv => whnf)); repeat' (first | (refine And.intro ?_ ?_ <;> (conv => whnf)) | exact Leaf.mk rfl rfl | exact True.intro | (refine Ob.of rfl ?_; (conv => whnf)) | (refine Ob2.of (by rfl) ?_; (conv => whnf)) | (first | (refine Ob.of (by first | rfl | (exact ald rfl rfl (by assumption) rfl) | (exact ald_agg rfl rfl rfl (by assumption) rfl)) ?_; (conv => whnf)) | (refine bIf.yes (by first | assumption | rfl) ?_; (conv => whnf)) | (refine bIf.no (by first | assumption | rfl) ?_; (conv => whnf))))
  (try (conv => whnf)); (repeat (first | (refine Ob.of (by first | rfl | (exact ald rfl rfl (by assumption) rfl) | (exact ald_agg rfl rfl rfl (by assumption) rfl)) ?_; (conv => whnf)) | (refine bIf.yes (by first | assumption | rfl) ?_; (conv => whnf)) | (refine bIf.no (by first | assumption | rfl) ?_; (conv => whnf))))
  apply SW.draw2 [([], [18, 19, 20, 21], 0, 0, false), ([(14, 0)], [14, 18, 19, 20, 21], 0, 0, false), ([(14, 0), (15, 1)], [14, 15, 18, 19, 20, 21], 0, 0, false), ([(14, 0), (15, 1), (16, 2)], [14, 15, 16, 18, 19, 20, 21], 0, 0, false), ([], [14, 15, 16, 17], 0, 0, false), ([(18, 4)], [14, 15, 16, 17, 18], 0, 0, false), ([(18, 4), (19, 5)], [14, 15, 16, 17, 18, 19], 0, 0, false), ([(18, 4), (19, 5), (20, 6)], [14, 15, 16, 17, 18, 19, 20], 0, 0, false), ([(14, 0), (15, 1), (16, 2), (17, 3), (18, 4), (19, 5), (20, 6), (21, 7)], [14, 15, 16, 17, 18, 19, 20, 21], 0, 0, false), ([(14, 0), (15, 1), (16, 2), (17, 3), (18, 4), (19, 5), (20, 6), (21, 7), (22, 8)], [14, 15, 16, 17, 18, 19, 20, 21, 22], 0, 0, false), ([(14, 0), (15, 1), (16, 2), (17, 3), (18, 4), (19, 5), (20, 6), (21, 7), (22, 8), (2, 9)], [14, 15, 16, 17, 18, 19, 20, 21, 22, 2], 0, 0, false)]
    [(14, 0), (15, 1), (16, 2), (17, 3), (18, 4), (19, 5), (20, 6), (21, 7), (22, 8), (2, 9), (3, 10)] 0
    [(0, _)] [_, _, _, _, _, _, _, _, _, _, _] [H] rfl (by kernel_rfl)
  case hF => exact ⟨rfl, trivial⟩
  case h0 => rfl
  case steps =>
    (try (conv => whnf)); repeat' (first | ((with_reducible refine Ob.of ix ?_); (conv => whnf)) | ((with_reducible refine Ob2.of ix ?_); (conv => whnf)) | (refine And.intro ?_ ?_ <;> (conv => whnf)) | exact Leaf.mk rfl rfl | exact True.intro | (refine Ob.of rfl ?_; (conv => whnf)) | (refine Ob2.of (by rfl) ?_; (conv => whnf)) | (first | (refine Ob.of (by first | rfl | (exact ald rfl rfl (by assumption) rfl) | (exact ald_agg rfl rfl rfl (by assumption) rfl)) ?_; (conv => whnf)) | (refine bIf.yes (by first | assumption | rfl) ?_; (conv => whnf)) | (refine bIf.no (by first | assumption | rfl) ?_; (conv => whnf))))
  (try (conv => whnf)); (repeat (first | (refine Ob.of (by first | rfl | (exact ald rfl rfl (by assumption) rfl) | (exact ald_agg rfl rfl rfl (by assumption) rfl)) ?_; (conv => whnf)) | (refine bIf.yes (by first | assumption | rfl) ?_; (conv => whnf)) | (refine bIf.no (by first | assumption | rfl) ?_; (conv => whnf))))
  exact ⟨rfl, rfl⟩
theorem next_none {B : Nat} {H : Heap} {b : Nat} {s : ByteArray} {k : Nat} {bs : List UInt8} (h : Rd B H b s k bs) (hc : s.data.toList[k]? = none) :
    AX Try.prog 14 #[ptr b] H (fun v H' => v = .tuple #[.int .u8 0, .bool false] ∧ H' = H) := by
  obtain ⟨h1, h2, a, v, h3, h4, h5⟩ := h
  have hb := hblk_of h3
  have hlt := str_ge hc
  have d1 : decide ((k : Int) ≥ (s.size : Int)) = true := decide_eq_true (by omega)
  refine AX.body (n := 23) (rs := [.tmp 2, .tmp 3]) Try.func14 rfl (by decide) rfl rfl (bC_sound _ _ _ _ ?_)
  (try (conv => whnf)); (repeat (first | (refine Ob.of (by first | rfl | (exact ald rfl rfl (by assumption) rfl) | (exact ald_agg rfl rfl rfl (by assumption) rfl)) ?_; (conv => whnf)) | (refine bIf.yes (by first | assumption | rfl) ?_; (conv => whnf)) | (refine bIf.no (by first | assumption | rfl) ?_; (conv => whnf))))
  apply SW.draw2 [([], [8, 9, 10, 11, 12], 0, 0, false), ([(4, 0)], [4, 8, 9, 10, 11, 12], 0, 0, false), ([(4, 0), (5, 1)], [4, 5, 8, 9, 10, 11, 12], 0, 0, false), ([(4, 0), (5, 1), (6, 2)], [4, 5, 6, 8, 9, 10, 11, 12], 0, 0, false), ([], [4, 5, 6, 7], 0, 0, false), ([(8, 4)], [4, 5, 6, 7, 8], 0, 0, false), ([(8, 4), (9, 5)], [4, 5, 6, 7, 8, 9], 0, 0, false), ([(8, 4), (9, 5), (10, 6)], [4, 5, 6, 7, 8, 9, 10], 0, 0, false), ([(8, 4), (9, 5), (10, 6), (11, 7)], [4, 5, 6, 7, 8, 9, 10, 11], 0, 0, false), ([(4, 0), (5, 1), (6, 2), (7, 3), (8, 4), (9, 5), (10, 6), (11, 7), (12, 8)], [4, 5, 6, 7, 8, 9, 10, 11, 12], 0, 0, false)]
    [(4, 0), (5, 1), (6, 2), (7, 3), (8, 4), (9, 5), (10, 6), (11, 7), (12, 8), (13, 9)] 0
    [(0, _)] [_, _, _, _, _, _, _, _, _, _] [H] rfl (by kernel_rfl)
  case hF => exact ⟨rfl, trivial⟩
  case h0 => rfl
  case steps =>
    (try (conv => whnf)); repeat' (first | (refine And.intro ?_ ?_ <;> (conv => whnf)) | exact Leaf.mk rfl rfl | exact True.intro | (refine Ob.of rfl ?_; (conv => whnf)) | (refine Ob2.of (by rfl) ?_; (conv => whnf)) | (first | (refine Ob.of (by first | rfl | (exact ald rfl rfl (by assumption) rfl) | (exact ald_agg rfl rfl rfl (by assumption) rfl)) ?_; (conv => whnf)) | (refine bIf.yes (by first | assumption | rfl) ?_; (conv => whnf)) | (refine bIf.no (by first | assumption | rfl) ?_; (conv => whnf))))
  (try (conv => whnf)); (repeat (first | (refine Ob.of (by first | rfl | (exact ald rfl rfl (by assumption) rfl) | (exact ald_agg rfl rfl rfl (by assumption) rfl)) ?_; (conv => whnf)) | (refine bIf.yes (by first | assumption | rfl) ?_; (conv => whnf)) | (refine bIf.no (by first | assumption | rfl) ?_; (conv => whnf))))
  exact ⟨rfl, rfl⟩
/-- The reader goes on by one. -/
theorem rd_step {B : Nat} {H H' : Heap} {b : Nat} {s : ByteArray} {k k' : Nat} {bs : List UInt8} {a v : Value} (h : Rd B H b s k bs) (hb : H[b]? = some (.cells (.one 37) [a, v, .string s, .int .i64 (k : Int)]))
    (h' : H'[b]? = some (.cells (.one 37) [a, v, .string s, .int .i64 (k' : Int)])) (hk : But b H H') : Rd B H' b s k' bs ∧ Keep B H H' := by
  obtain ⟨h1, h2, a1, v1, h3, h4, h5⟩ := h
  rw [hb] at h3
  simp only [Option.some.injEq, Blk.cells.injEq, List.cons.injEq, true_and, and_true] at h3
  obtain ⟨rfl, rfl⟩ := h3
  exact ⟨⟨h1, Nat.le_trans h2 hk.1, a, v, h', h4, h5.but hk (.of hb rfl)⟩, hk.keep h2 h1⟩
def hexAt (L : List UInt8) (k : Nat) : Option Int := (L[k]?).bind fun c => worthO (c.toNat : Int)
def pairS (L : List UInt8) (k : Nat) : Bool × Nat × List UInt8 :=
  match hexAt L k with
  | none => (false, k, [])
  | some p => match hexAt L (k + 1) with
    | none => (false, k + 1, [])
    | some q => (true, k + 2, [UInt8.ofNat (p * 16 + q).toNat])
theorem or_four : ∀ p q : Fin 16, (BitVec.ofInt 8 ((p.val : Int) * 16) ||| BitVec.ofInt 8 (q.val : Int)).toNat = p.val * 16 + q.val := by decide
theorem or_ok {p q : Int} (h0 : 0 ≤ p) (h1 : p < 16) (h2 : 0 ≤ q) (h3 : q < 16) : IntKind.u8.wrap (BitVec.ofInt IntKind.u8.bits (IntKind.u8.wrap (p * 2 ^ (min (4 : Int).toNat IntKind.u8.bits))) ||| BitVec.ofInt IntKind.u8.bits q).toNat = p * 16 + q := by
  have e : p * 2 ^ (min (4 : Int).toNat IntKind.u8.bits) = p * 16 := rfl
  rw [e, wrap_u8 (x := p * 16) (by omega) (by omega)]
  have := or_four ⟨p.toNat, by omega⟩ ⟨q.toNat, by omega⟩
  have ep : ((p.toNat : Nat) : Int) = p := by omega
  have eq : ((q.toNat : Nat) : Int) = q := by omega
  simp only [ep, eq] at this
  have hb : IntKind.u8.bits = 8 := rfl
  rw [hb, this, wrap_u8 (by omega) (by omega)]
  omega
theorem pair_ax {B : Nat} {H : Heap} {b : Nat} {s : ByteArray} {k : Nat} {bs : List UInt8} (h : Rd B H b s k bs) (hs : s.size ≤ 1000000) (hk : k ≤ 2000000) (hl : bs.length ≤ 1000000) :
    AX Try.prog 24 #[ptr b] H (fun v H' => v = .bool (pairS s.data.toList k).1 ∧ Rd B H' b s (pairS s.data.toList k).2.1 (bs ++ (pairS s.data.toList k).2.2) ∧ Keep B H H') := by
  refine AX.body (n := 43) (rs := [.tmp 2]) Try.func24 rfl (by decide) rfl rfl (bC_sound _ _ _ _ ?_)
  (try (conv => whnf)); (repeat (first | (refine Ob.of (by first | rfl | (exact ald rfl rfl (by assumption) rfl) | (exact ald_agg rfl rfl rfl (by assumption) rfl)) ?_; (conv => whnf)) | (refine bIf.yes (by first | assumption | rfl) ?_; (conv => whnf)) | (refine bIf.no (by first | assumption | rfl) ?_; (conv => whnf))))
  refine SW.loop (α := Nat × Int) (fun x => [(0, ptr b), (3, .int .u8 x.2), (8, .int .i64 (x.1 : Int))])
    (fun x H1 => x.1 ≤ 2 ∧ Rd B H1 b s (k + x.1) bs ∧ Keep B H H1 ∧ (x.1 = 0 → x.2 = 0) ∧ (x.1 = 1 → hexAt s.data.toList k = some x.2) ∧ (x.1 = 2 → ∃ p q, hexAt s.data.toList k = some p ∧ hexAt s.data.toList (k + 1) = some q ∧ x.2 = p * 16 + q)) (fun x => 2 - x.1)
    ⟨(0, 0), ⟨rfl, rfl, rfl, trivial⟩, by show 0 ≤ 2; omega, h, .refl _ _, fun _ => rfl, fun e => (by cases e), fun e => (by cases e)⟩ ?_
  rintro ⟨i, n⟩ H1 ⟨hi, r1, g1, c0, c1, c2⟩
  simp only at hi r1 c0 c1 c2
  refine bC_sound _ _ _ _ ?_
  by_cases hi2 : i < 2
  · have d1 : decide ((i : Int) < 2) = true := decide_eq_true (by omega)
    (try (conv => whnf)); (repeat (first | (refine Ob.of (by first | rfl | (exact ald rfl rfl (by assumption) rfl) | (exact ald_agg rfl rfl rfl (by assumption) rfl)) ?_; (conv => whnf)) | (refine bIf.yes (by first | assumption | rfl) ?_; (conv => whnf)) | (refine bIf.no (by first | assumption | rfl) ?_; (conv => whnf))))
    cases hc : s.data.toList[k + i]? with
    | none =>
      refine (next_none r1 hc).mono ?_
      rintro _ X ⟨rfl, e⟩
      subst X
      (try (conv => whnf)); (repeat (first | (refine Ob.of (by first | rfl | (exact ald rfl rfl (by assumption) rfl) | (exact ald_agg rfl rfl rfl (by assumption) rfl)) ?_; (conv => whnf)) | (refine bIf.yes (by first | assumption | rfl) ?_; (conv => whnf)) | (refine bIf.no (by first | assumption | rfl) ?_; (conv => whnf))))
      refine (worth_ax H1 0 (by decide) (by decide)).mono ?_
      rintro _ X ⟨rfl, e⟩
      subst X
      (try (conv => whnf)); (repeat (first | (refine Ob.of (by first | rfl | (exact ald rfl rfl (by assumption) rfl) | (exact ald_agg rfl rfl rfl (by assumption) rfl)) ?_; (conv => whnf)) | (refine bIf.yes (by first | assumption | rfl) ?_; (conv => whnf)) | (refine bIf.no (by first | assumption | rfl) ?_; (conv => whnf))))
      have hx : hexAt s.data.toList (k + i) = none := by simp [hexAt, hc]
      have hp : pairS s.data.toList k = (false, k + i, []) := by
        match i, hi2 with
        | 0, _ => simp only [pairS]; rw [show hexAt s.data.toList k = none from hx]; rfl
        | 1, _ => simp only [pairS]; rw [c1 rfl, hx]
      rw [hp]
      exact ⟨rfl, by simpa using r1, g1⟩
    | some c =>
      refine (next_some r1 hc).mono ?_
      rintro _ X ⟨rfl, e⟩
      subst X
      (try (conv => whnf)); (repeat (first | (refine Ob.of (by first | rfl | (exact ald rfl rfl (by assumption) rfl) | (exact ald_agg rfl rfl rfl (by assumption) rfl)) ?_; (conv => whnf)) | (refine bIf.yes (by first | assumption | rfl) ?_; (conv => whnf)) | (refine bIf.no (by first | assumption | rfl) ?_; (conv => whnf))))
      have hcb : (c.toNat : Int) ≤ 255 := by have := c.toNat_lt; omega
      refine (worth_ax H1 (c.toNat : Int) (by omega) hcb).mono ?_
      rintro _ X ⟨rfl, e⟩
      subst X
      have hx : hexAt s.data.toList (k + i) = worthO (c.toNat : Int) := by simp [hexAt, hc]
      cases hw : worthO (c.toNat : Int) with
      | none =>
        have hp : pairS s.data.toList k = (false, k + i, []) := by
          match i, hi2 with
          | 0, _ => simp only [pairS]; rw [show hexAt s.data.toList k = none from by rw [← hw]; exact hx]; rfl
          | 1, _ => simp only [pairS]; rw [c1 rfl, hx, hw]
        (try (conv => whnf)); (repeat (first | (refine Ob.of (by first | rfl | (exact ald rfl rfl (by assumption) rfl) | (exact ald_agg rfl rfl rfl (by assumption) rfl)) ?_; (conv => whnf)) | (refine bIf.yes (by first | assumption | rfl) ?_; (conv => whnf)) | (refine bIf.no (by first | assumption | rfl) ?_; (conv => whnf))))
        rw [hp]
        exact ⟨rfl, by simpa using r1, g1⟩
      | some d =>
        obtain ⟨w0, w1⟩ := worthO_lt hw
        have hw' : (worthO (c.toNat : Int)).getD 0 = d := by rw [hw]; rfl
        have hr1 := r1
        obtain ⟨h1, h2, a, v, h3, h4, h5⟩ := hr1
        have hb := hblk_of h3
        have hlt := str_lt hc
        have wn : IntKind.i64.wrap (((k + i : Nat) : Int) + 1) = ((k + (i + 1) : Nat) : Int) := by rw [wrap_nat (by omega)]; rfl
        have wi : IntKind.i64.wrap ((i : Int) + 1) = ((i + 1 : Nat) : Int) := wrap_nat (by omega)
        (try (conv => whnf)); (repeat (first | (refine Ob.of (by first | rfl | (exact ald rfl rfl (by assumption) rfl) | (exact ald_agg rfl rfl rfl (by assumption) rfl)) ?_; (conv => whnf)) | (refine bIf.yes (by first | assumption | rfl) ?_; (conv => whnf)) | (refine bIf.no (by first | assumption | rfl) ?_; (conv => whnf))))
        refine Ob.store rfl rfl rfl h3 rfl (by first | exact Nat.le_of_ble_eq_true rfl | simp) fun H2 s1 s2 s3 => ?_
        (try (conv => whnf)); (repeat (first | (refine Ob.of (by first | rfl | (exact ald rfl rfl (by assumption) rfl) | (exact ald_agg rfl rfl rfl (by assumption) rfl)) ?_; (conv => whnf)) | (refine bIf.yes (by first | assumption | rfl) ?_; (conv => whnf)) | (refine bIf.no (by first | assumption | rfl) ?_; (conv => whnf))))
        have s1' : H2[b]? = some (.cells (.one 37) [a, v, .string s, .int .i64 ((k + (i + 1) : Nat) : Int)]) := by rw [← wn]; exact s1
        obtain ⟨r2, g2⟩ := rd_step r1 h3 s1' s2
        have hn : 0 ≤ n ∧ n < 16 := by
          match i, hi2 with
          | 0, _ => have := c0 rfl; omega
          | 1, _ =>
            have := c1 rfl
            unfold hexAt at this
            obtain ⟨y, _, hy⟩ := Option.bind_eq_some_iff.1 this
            exact worthO_lt hy
        refine ⟨(i + 1, n * 16 + d), ⟨rfl, ?_, congrArg (fun z => some (Value.int .i64 z)) wi, trivial⟩, ⟨by show i + 1 ≤ 2; omega, r2, g1.trans g2, fun e => (by cases e), fun e => ?_, fun e => ?_⟩, by show 2 - (i + 1) < 2 - i; omega⟩
        · refine congrArg (fun z => some (Value.int .u8 z)) ?_
          exact or_ok hn.1 hn.2 w0 w1
        · have : i = 0 := by simpa using e
          subst this
          have := c0 rfl
          subst this
          show hexAt s.data.toList k = some (0 * 16 + d)
          rw [show (0 : Int) * 16 + d = d by omega, ← hw]; exact hx
        · have : i = 1 := by simpa using e
          subst this
          exact ⟨n, d, c1 rfl, by rw [← hw]; exact hx, rfl⟩
  · have d1 : decide ((i : Int) < 2) = false := decide_eq_false (by omega)
    have i2 : i = 2 := by omega
    subst i2
    obtain ⟨p, q, hp, hq, rfl⟩ := c2 rfl
    have hb : ∀ k p, hexAt s.data.toList k = some p → 0 ≤ p ∧ p < 16 := by
      intro k p hk
      unfold hexAt at hk
      obtain ⟨y, _, hy⟩ := Option.bind_eq_some_iff.1 hk
      exact worthO_lt hy
    have b1 := hb _ _ hp
    have b2 := hb _ _ hq
    have hx : (.int .u8 (p * 16 + q) : Value) = u8 (UInt8.ofNat (p * 16 + q).toNat) := by
      show Value.int .u8 _ = Value.int .u8 _
      congr 1
      simp [UInt8.toNat_ofNat]
      omega
    have hps : pairS s.data.toList k = (true, k + 2, [UInt8.ofNat (p * 16 + q).toNat]) := by simp only [pairS, hp, hq]
    rw [hps]
    (try (conv => whnf)); (repeat (first | (refine Ob.of (by first | rfl | (exact ald rfl rfl (by assumption) rfl) | (exact ald_agg rfl rfl rfl (by assumption) rfl)) ?_; (conv => whnf)) | (refine bIf.yes (by first | assumption | rfl) ?_; (conv => whnf)) | (refine bIf.no (by first | assumption | rfl) ?_; (conv => whnf))))
    rw [hx]
    refine (writeByte_ax r1 okB_rd (by omega) _).mono ?_
    rintro _ H2 ⟨rfl, r2, g2⟩
    (try (conv => whnf)); (repeat (first | (refine Ob.of (by first | rfl | (exact ald rfl rfl (by assumption) rfl) | (exact ald_agg rfl rfl rfl (by assumption) rfl)) ?_; (conv => whnf)) | (refine bIf.yes (by first | assumption | rfl) ?_; (conv => whnf)) | (refine bIf.no (by first | assumption | rfl) ?_; (conv => whnf))))
    exact ⟨rfl, r2, g1.trans g2⟩
end Go.Proofs.Ytffgdcmiacooaaa
