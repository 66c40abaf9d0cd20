/- Package text: what is behind a backslash, and the whole string. -/
import Derived.Test.YtffgdcmiacooaaaTx2
set_option linter.unusedVariables false
set_option linter.unusedSimpArgs false
set_option maxRecDepth 20000
namespace Go.Proofs.Ytffgdcmiacooaaa
open Go Ax
def escS (L : List UInt8) (k : Nat) : Bool × Nat × List UInt8 :=
  match L[k]? with
  | none => (false, k, [])
  | some c => if c = 120 then pairS L (k + 1) else if c = 34 ∨ c = 92 then (true, k + 1, [c]) else (false, k, [])
/-- The string from k on: what is taken, the place, the error. -/
def tkF : Nat → List UInt8 → Nat → List UInt8 → List UInt8 × Nat × Int
  | 0, _, k, _ => ([], k, 11)
  | f + 1, L, k, acc =>
    match L[k]? with
    | none => ([], k, 11)
    | some c =>
      if c = 34 then (acc, k + 1, 0) else
      if plainB (c.toNat : Int) = true then tkF f L (k + 1) (acc ++ [c]) else
      if c ≠ 92 then ([], k, 11) else
      match escS L (k + 1) with
      | (true, k', x) => tkF f L k' (acc ++ x)
      | (false, k', _) => ([], k', 11)
def takeS (L : List UInt8) : List UInt8 × Nat × Int :=
  match L[0]? with
  | some c => if c = 34 then tkF (L.length + 1) L 1 [] else ([], 0, 11)
  | none => ([], 0, 11)
theorem pairS_pos (L : List UInt8) (k : Nat) : (pairS L k).2.1 ≤ k + 2 ∧ (pairS L k).2.2.length ≤ 1 ∧ ((pairS L k).1 = true → (pairS L k).2.1 = k + 2) := by
  unfold pairS
  split
  · simp
  · split <;> simp
theorem escS_pos (L : List UInt8) (k : Nat) : (escS L k).2.1 ≤ k + 3 ∧ (escS L k).2.2.length ≤ 1 ∧ ((escS L k).1 = true → k < (escS L k).2.1) := by
  unfold escS
  split
  · simp
  · split
    · obtain ⟨h1, h2, h3⟩ := pairS_pos L (k + 1)
      exact ⟨by omega, h2, fun h => by rw [h3 h]; omega⟩
    · split <;> simp
theorem u8_eq (c : UInt8) (n : Nat) (hn : n < 256) : ((c.toNat : Int) == (n : Int)) = decide (c = UInt8.ofNat n) := by
  have h : c = UInt8.ofNat n ↔ c.toNat = n := by
    constructor
    · rintro rfl; simp; omega
    · intro h; rw [← h]; simp
  by_cases hc : c = UInt8.ofNat n
  · rw [decide_eq_true hc]; have := h.1 hc; simp; omega
  · rw [decide_eq_false hc]; have := mt h.2 hc; simp; omega
theorem u8_ne (c : UInt8) (n : Nat) (hn : n < 256) : ((c.toNat : Int) != (n : Int)) = !decide (c = UInt8.ofNat n) := by
  rw [← u8_eq c n hn]; rfl
theorem escape_ax {B : Nat} {H : Heap} {b : Nat} {s : ByteArray} {k : Nat} {bs : List UInt8} (h : Rd B H b s k bs) (hs : s.size ≤ 1000000) (hk : k ≤ 1000000) (hl : bs.length ≤ 1000000) :
    AX Try.prog 18 #[ptr b] H (fun v H' => v = .bool (escS s.data.toList k).1 ∧ Rd B H' b s (escS s.data.toList k).2.1 (bs ++ (escS s.data.toList k).2.2) ∧ Keep B H H') := by
  refine AX.body (n := 44) (rs := [.tmp 2]) Try.func18 rfl (by decide) rfl rfl (bC_sound _ _ _ _ ?_)
  (try (conv => whnf)); (repeat (first | (refine Ob.of (by first | rfl | (exact ald rfl rfl (by assumption) rfl) | (exact ald_agg rfl rfl rfl (by assumption) rfl)) ?_; (conv => whnf)) | (refine bIf.yes (by first | assumption | rfl) ?_; (conv => whnf)) | (refine bIf.no (by first | assumption | rfl) ?_; (conv => whnf))))
  cases hc : s.data.toList[k]? with
  | none =>
    refine (next_none h hc).mono ?_
    rintro _ X ⟨rfl, e⟩
    subst X
    have he : escS s.data.toList k = (false, k, []) := by simp [escS, hc]
    rw [he]
    (try (conv => whnf)); (repeat (first | (refine Ob.of (by first | rfl | (exact ald rfl rfl (by assumption) rfl) | (exact ald_agg rfl rfl rfl (by assumption) rfl)) ?_; (conv => whnf)) | (refine bIf.yes (by first | assumption | rfl) ?_; (conv => whnf)) | (refine bIf.no (by first | assumption | rfl) ?_; (conv => whnf))))
    exact ⟨rfl, by simpa using h, .refl _ _⟩
  | some c =>
    refine (next_some h hc).mono ?_
    rintro _ X ⟨rfl, e⟩
    subst X
    have hr1 := h
    obtain ⟨h1, h2, a, v, h3, h4, h5⟩ := hr1
    have hb := hblk_of h3
    have wn : IntKind.i64.wrap ((k : Int) + 1) = ((k + 1 : Nat) : Int) := wrap_nat (by omega)
    by_cases hx : c = 120
    · have t1 : ((c.toNat : Int) == 120) = true := by rw [show (120 : Int) = ((120 : Nat) : Int) from rfl, u8_eq c 120 (by decide)]; exact decide_eq_true hx
      have he : escS s.data.toList k = pairS s.data.toList (k + 1) := by simp [escS, hc, hx]
      rw [he]
      (try (conv => whnf)); (repeat (first | (refine Ob.of (by first | rfl | (exact ald rfl rfl (by assumption) rfl) | (exact ald_agg rfl rfl rfl (by assumption) rfl)) ?_; (conv => whnf)) | (refine bIf.yes (by first | assumption | rfl) ?_; (conv => whnf)) | (refine bIf.no (by first | assumption | rfl) ?_; (conv => whnf))))
      refine Ob.store rfl rfl rfl h3 rfl (by first | exact Nat.le_of_ble_eq_true rfl | simp) fun H2 s1 s2 s3 => ?_
      have s1' : H2[b]? = some (.cells (.one 37) [a, v, .string s, .int .i64 ((k + 1 : Nat) : Int)]) := by rw [← wn]; exact s1
      obtain ⟨r2, g2⟩ := rd_step h h3 s1' s2
      (try (conv => whnf)); (repeat (first | (refine Ob.of (by first | rfl | (exact ald rfl rfl (by assumption) rfl) | (exact ald_agg rfl rfl rfl (by assumption) rfl)) ?_; (conv => whnf)) | (refine bIf.yes (by first | assumption | rfl) ?_; (conv => whnf)) | (refine bIf.no (by first | assumption | rfl) ?_; (conv => whnf))))
      refine (pair_ax r2 hs (by omega) hl).mono ?_
      rintro _ H3 ⟨rfl, r3, g3⟩
      (try (conv => whnf)); (repeat (first | (refine Ob.of (by first | rfl | (exact ald rfl rfl (by assumption) rfl) | (exact ald_agg rfl rfl rfl (by assumption) rfl)) ?_; (conv => whnf)) | (refine bIf.yes (by first | assumption | rfl) ?_; (conv => whnf)) | (refine bIf.no (by first | assumption | rfl) ?_; (conv => whnf))))
      exact ⟨rfl, r3, g2.trans g3⟩
    have t1 : ((c.toNat : Int) == 120) = false := by rw [show (120 : Int) = ((120 : Nat) : Int) from rfl, u8_eq c 120 (by decide)]; exact decide_eq_false hx
    by_cases hq : c = 34 ∨ c = 92
    · have he : escS s.data.toList k = (true, k + 1, [c]) := by simp [escS, hc, hx, hq]
      rw [he]
      have go : ∀ (H : Heap), True → True := fun _ h => h
      rcases hq with hq | hq
      · have t2 : ((c.toNat : Int) != 34) = false := by rw [show (34 : Int) = ((34 : Nat) : Int) from rfl, u8_ne c 34 (by decide)]; simp [hq]
        (try (conv => whnf)); (repeat (first | (refine Ob.of (by first | rfl | (exact ald rfl rfl (by assumption) rfl) | (exact ald_agg rfl rfl rfl (by assumption) rfl)) ?_; (conv => whnf)) | (refine bIf.yes (by first | assumption | rfl) ?_; (conv => whnf)) | (refine bIf.no (by first | assumption | rfl) ?_; (conv => whnf))))
        refine (writeByte_ax h okB_rd (by omega) c).mono ?_
        rintro _ H2 ⟨rfl, r2, g2⟩
        have hr2 := r2
        obtain ⟨i1, i2, a2, v2, i3, i4, i5⟩ := hr2
        have hb2 := hblk_of i3
        (try (conv => whnf)); (repeat (first | (refine Ob.of (by first | rfl | (exact ald rfl rfl (by assumption) rfl) | (exact ald_agg rfl rfl rfl (by assumption) rfl)) ?_; (conv => whnf)) | (refine bIf.yes (by first | assumption | rfl) ?_; (conv => whnf)) | (refine bIf.no (by first | assumption | rfl) ?_; (conv => whnf))))
        refine Ob.store rfl rfl rfl i3 rfl (by first | exact Nat.le_of_ble_eq_true rfl | simp) fun H3 s1 s2 s3 => ?_
        have s1' : H3[b]? = some (.cells (.one 37) [a2, v2, .string s, .int .i64 ((k + 1 : Nat) : Int)]) := by rw [← wn]; exact s1
        obtain ⟨r3, g3⟩ := rd_step r2 i3 s1' s2
        (try (conv => whnf)); (repeat (first | (refine Ob.of (by first | rfl | (exact ald rfl rfl (by assumption) rfl) | (exact ald_agg rfl rfl rfl (by assumption) rfl)) ?_; (conv => whnf)) | (refine bIf.yes (by first | assumption | rfl) ?_; (conv => whnf)) | (refine bIf.no (by first | assumption | rfl) ?_; (conv => whnf))))
        exact ⟨rfl, r3, g2.trans g3⟩
      · have t2 : ((c.toNat : Int) != 34) = true := by rw [show (34 : Int) = ((34 : Nat) : Int) from rfl, u8_ne c 34 (by decide)]; simp [hq]
        have t3 : ((c.toNat : Int) != 92) = false := by rw [show (92 : Int) = ((92 : Nat) : Int) from rfl, u8_ne c 92 (by decide)]; simp [hq]
        (try (conv => whnf)); (repeat (first | (refine Ob.of (by first | rfl | (exact ald rfl rfl (by assumption) rfl) | (exact ald_agg rfl rfl rfl (by assumption) rfl)) ?_; (conv => whnf)) | (refine bIf.yes (by first | assumption | rfl) ?_; (conv => whnf)) | (refine bIf.no (by first | assumption | rfl) ?_; (conv => whnf))))
        refine (writeByte_ax h okB_rd (by omega) c).mono ?_
        rintro _ H2 ⟨rfl, r2, g2⟩
        have hr2 := r2
        obtain ⟨i1, i2, a2, v2, i3, i4, i5⟩ := hr2
        have hb2 := hblk_of i3
        (try (conv => whnf)); (repeat (first | (refine Ob.of (by first | rfl | (exact ald rfl rfl (by assumption) rfl) | (exact ald_agg rfl rfl rfl (by assumption) rfl)) ?_; (conv => whnf)) | (refine bIf.yes (by first | assumption | rfl) ?_; (conv => whnf)) | (refine bIf.no (by first | assumption | rfl) ?_; (conv => whnf))))
        refine Ob.store rfl rfl rfl i3 rfl (by first | exact Nat.le_of_ble_eq_true rfl | simp) fun H3 s1 s2 s3 => ?_
        have s1' : H3[b]? = some (.cells (.one 37) [a2, v2, .string s, .int .i64 ((k + 1 : Nat) : Int)]) := by rw [← wn]; exact s1
        obtain ⟨r3, g3⟩ := rd_step r2 i3 s1' s2
        (try (conv => whnf)); (repeat (first | (refine Ob.of (by first | rfl | (exact ald rfl rfl (by assumption) rfl) | (exact ald_agg rfl rfl rfl (by assumption) rfl)) ?_; (conv => whnf)) | (refine bIf.yes (by first | assumption | rfl) ?_; (conv => whnf)) | (refine bIf.no (by first | assumption | rfl) ?_; (conv => whnf))))
        exact ⟨rfl, r3, g2.trans g3⟩
    · have he : escS s.data.toList k = (false, k, []) := by simp [escS, hc, hx, hq]
      rw [he]
      have t2 : ((c.toNat : Int) != 34) = true := by rw [show (34 : Int) = ((34 : Nat) : Int) from rfl, u8_ne c 34 (by decide)]; simp; exact fun e => hq (.inl e)
      have t3 : ((c.toNat : Int) != 92) = true := by rw [show (92 : Int) = ((92 : Nat) : Int) from rfl, u8_ne c 92 (by decide)]; simp; exact fun e => hq (.inr e)
      (try (conv => whnf)); (repeat (first | (refine Ob.of (by first | rfl | (exact ald rfl rfl (by assumption) rfl) | (exact ald_agg rfl rfl rfl (by assumption) rfl)) ?_; (conv => whnf)) | (refine bIf.yes (by first | assumption | rfl) ?_; (conv => whnf)) | (refine bIf.no (by first | assumption | rfl) ?_; (conv => whnf))))
      exact ⟨rfl, by simpa using h, .refl _ _⟩
end Go.Proofs.Ytffgdcmiacooaaa
