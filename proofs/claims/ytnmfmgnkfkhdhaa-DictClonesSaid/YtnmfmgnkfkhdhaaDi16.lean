/- The statements of package dict: an act on a dict, and on the document's. -/
import Derived.Test.YtnmfmgnkfkhdhaaDi15
import Derived.Test.YtnmfmgnkfkhdhaaAx18
set_option linter.unusedVariables false
set_option linter.unusedSimpArgs false
set_option maxRecDepth 20000
set_option maxHeartbeats 2000000
namespace Go.Proofs.Ytnmfmgnkfkhdhaa
open Go Ax
def stepL (L : List (ByteArray × V)) (x : ActT) : List (ByteArray × V) := if x.1 = 0 then setL L x.2.1 x.2.2 else if x.1 = 1 then delL L x.2.1 else L
/-- Blocks that are neither one of the dict's nor one of the document's stay. -/
def KeepX (p q : Nat) (H H' : Heap) : Prop := H.length ≤ H'.length ∧ ∀ (k : Nat) (B : Blk), H[k]? = some B → k ≠ p → k ≠ q → keepD B = true → keepR B = true → H'[k]? = some B
theorem KeepX.refl (p q : Nat) (H : Heap) : KeepX p q H H := ⟨Nat.le_refl _, fun _ _ h _ _ _ _ => h⟩
theorem KeepX.trans {p q : Nat} {A B C : Heap} (h : KeepX p q A B) (k : KeepX p q B C) : KeepX p q A C := ⟨Nat.le_trans h.1 k.1, fun i b hb hp hq h1 h2 => k.2 i b (h.2 i b hb hp hq h1 h2) hp hq h1 h2⟩
theorem KeepX.d {p q N : Nat} {A B : Heap} {L : List (ByteArray × V)} (h : FrD p A B) (hd : Has9 A p L N) : KeepX p q A B := ⟨h.1, fun i b hb hp _ h1 _ => hd.keepF h hb hp h1⟩
theorem KeepX.r {p q : Nat} {A B : Heap} {L : List (ByteArray × V)} (h : FrR q A B) (hr : RD A q L) : KeepX p q A B := ⟨h.1, fun i b hb _ hq _ h2 => hr.keepF h hb hq h2⟩
theorem KeepX.g {p q : Nat} {A B : Heap} (h : Grow A B) : KeepX p q A B := ⟨h.1, fun i b hb _ _ _ _ => h.at hb⟩
def vEq (a b : V) : Bool := (a.1 == b.1) && ((a.2.1 == b.2.1) && ((a.2.2 == b.2.2) && true))
theorem vEq_self (a : V) : vEq a a = true := by simp [vEq, ba_beq]
theorem val_eql (a b : V) : abin Try.prog .eql 32 (valV a) (valV b) = some (.bool (vEq a b)) := by kernel_rfl
theorem val_neq (a b : V) : abin Try.prog .neq 32 (valV a) (valV b) = some (.bool !(vEq a b)) := by kernel_rfl
/-- Neither the dict's blocks nor the document's: they stay; and what both have grows by new blocks alone. -/
def FrX (p q : Nat) (H H' : Heap) : Prop := H.length ≤ H'.length ∧ (∀ (k : Nat) (B : Blk), H[k]? = some B → k ≠ p → k ≠ q → ¬ Foot H p k → ¬ FootR H q k → H'[k]? = some B) ∧ (∀ k, k < H.length → Foot H' p k → Foot H p k) ∧ ∀ k, k < H.length → FootR H' q k → FootR H q k
theorem FrX.trans {p q : Nat} {A B C : Heap} (h : FrX p q A B) (k : FrX p q B C) : FrX p q A C :=
  ⟨Nat.le_trans h.1 k.1, fun i b hb hp hq h1 h2 => k.2.1 i b (h.2.1 i b hb hp hq h1 h2) hp hq (fun hf => h1 (h.2.2.1 i (lt_at hb) hf)) fun hf => h2 (h.2.2.2 i (lt_at hb) hf),
    fun i hi hf => h.2.2.1 i hi (k.2.2.1 i (Nat.lt_of_lt_of_le hi h.1) hf), fun i hi hf => h.2.2.2 i hi (k.2.2.2 i (Nat.lt_of_lt_of_le hi h.1) hf)⟩
theorem FrX.d {p q : Nat} {A B : Heap} {C : Blk} (h : FrD p A B) (hB : B[q]? = some C) (hA : A[q]? = some C) : FrX p q A B :=
  ⟨h.1, fun i b hb hp _ h1 _ => h.2.1 i b hb hp h1, h.2.2, fun k _ ⟨nv, vv, e1, e2⟩ => ⟨nv, vv, by rw [hA, ← hB]; exact e1, e2⟩⟩
theorem FrX.r {p q N : Nat} {A B : Heap} {L M : List (ByteArray × V)} (h : FrR q A B) (hr : RD A q L) (hd : Has9 A p M N) (hne : p ≠ q) : FrX p q A B := by
  obtain ⟨c, hc⟩ := hd.var
  have hB := hr.keepF h hc hne rfl
  exact ⟨h.1, fun i b hb _ hq _ h2 => h.2.1 i b hb hq h2, fun k _ ⟨mb, sv, e1, e2⟩ => ⟨mb, sv, by rw [hc, ← hB]; exact e1, e2⟩, h.2.2⟩
theorem FrX.g {p q : Nat} {A B : Heap} (h : Grow A B) (hp : p < A.length := by omega) (hq : q < A.length := by omega) : FrX p q A B :=
  ⟨h.1, fun i b hb _ _ _ _ => h.at hb, fun k _ ⟨mb, sv, e1, e2⟩ => ⟨mb, sv, by rw [← h.2 p hp]; exact e1, e2⟩, fun k _ ⟨nv, vv, e1, e2⟩ => ⟨nv, vv, by rw [← h.2 q hq]; exact e1, e2⟩⟩
theorem Has9.notFoot {H : Heap} {p N : Nat} {L : List (ByteArray × V)} (h : Has9 H p L N) {k : Nat} {B : Blk} (hk : H[k]? = some B) (hB : keepD B = true) : ¬ Foot H p k := by
  obtain ⟨ps, ⟨mb, sv, em, g1, g2, g3, g4⟩, _⟩ := h
  rintro ⟨mb', sv', h1, h2⟩
  rw [g1] at h1
  simp only [Option.some.injEq, Blk.cells.injEq, List.cons.injEq, Value.map.injEq, and_true, true_and] at h1
  obtain ⟨rfl, rfl⟩ := h1
  rcases h2 with rfl | ⟨n, e, h2⟩
  · rw [g2] at hk
    simp only [Option.some.injEq] at hk
    subst hk
    cases hB
  · rcases g4 with ⟨rfl, _⟩ | ⟨b, rest, rfl, g5⟩
    · cases h2
    · cases h2
      rw [g5] at hk
      simp only [Option.some.injEq] at hk
      subst hk
      simp [keepD] at hB
theorem RD.notFoot {H : Heap} {q : Nat} {L : List (ByteArray × V)} (h : RD H q L) {k : Nat} {B : Blk} (hk : H[k]? = some B) (hB : keepR B = true) : ¬ FootR H q k := by
  obtain ⟨nv, vv, g1, g2, g3⟩ := h
  rintro ⟨nv', vv', h1, h2⟩
  rw [g1] at h1
  simp only [Option.some.injEq, Blk.cells.injEq, List.cons.injEq, and_true, true_and] at h1
  obtain ⟨rfl, rfl⟩ := h1
  rcases h2 with ⟨n, e, rfl⟩ | ⟨n, e, rfl⟩
  · rcases g2 with ⟨h, _⟩ | ⟨b, h, _, g5⟩
    · cases h
    · cases h
      rw [g5] at hk
      simp only [Option.some.injEq] at hk
      subst hk
      simp [keepR] at hB
  · rcases g3 with ⟨h, _⟩ | ⟨b, h, _, g5⟩
    · cases h
    · cases h
      rw [g5] at hk
      simp only [Option.some.injEq] at hk
      subst hk
      simp [keepR] at hB
theorem done_x {H : Heap} {p q N : Nat} {L M : List (ByteArray × V)} (hd : Has9 H p L N) (hr : RD H q M) (hN : N ≤ 1000000) (hM : M.length ≤ 1000000) (hpq : p ≠ q) (d : Int) (n : ByteArray) (v : V) :
    AX Try.prog 10 #[ptr p, ptr q, actV d n v] H (fun r H' => ∃ b, r = .bool b ∧ (L = M → b = true) ∧ Has9 H' p (stepL L (d, n, v)) (N + 1) ∧ RD H' q (stepL M (d, n, v)) ∧ FrX p q H H') := by
  refine AX.body (n := 61) (rs := [.tmp 6]) Try.func10 rfl (by decide) rfl rfl (bC_sound _ _ _ _ ?_)
  (conv => whnf)
  refine Ob2.box rfl fun t H1 ht k1 k2 => ?_
  have hb1 := hblk_of k1
  have hd1 := hd.grow k2
  have hr1 := hr.grow k2
  obtain ⟨qc, qv1⟩ := hr1.var
  have htp : t ≠ p := by have := hd.lt; omega
  have htq : t ≠ q := by have := hr.lt; omega
  by_cases h0 : d = 0
  · have e0 : (d == 0) = true := by rw [beq_iff_eq]; exact h0
    have LV1 : aload Try.prog 32 (.pointer (some ⟨t, 0 + 2, none⟩)) H1 = some (valV v) := ald_agg rfl rfl rfl hb1 rfl
    have sL : stepL L (d, n, v) = setL L n v := if_pos h0
    have sM : stepL M (d, n, v) = setL M n v := if_pos h0
    rw [sL, sM]
    (try (conv => whnf)); (repeat (first | (refine Ob.of (by first | with_reducible assumption | with_reducible exact ex20 _ _ | with_reducible exact ex21 _ _ | with_reducible exact ex30 _ _ _ | with_reducible exact ex31 _ _ _ | with_reducible exact ex32 _ _ _ | rfl | (exact ald rfl rfl (by assumption) rfl) | (exact ald_agg rfl rfl rfl (by assumption) rfl)) ?_; (conv => whnf)) | (refine bIf.yes (by first | assumption | rfl) ?_; (conv => whnf)) | (refine bIf.no (by first | assumption | rfl) ?_; (conv => whnf))))
    apply SW.draw4 [([], [16, 17, 18, 19, 21, 22, 23, 24, 25], 0, 0, false), ([], [15, 18, 19, 21, 22, 23, 24, 25], 0, 0, false), ([(16, 1)], [15, 16, 18, 19, 21, 22, 23, 24, 25], 0, 0, false), ([], [15, 16, 17, 21, 22, 23, 24, 25], 0, 0, false), ([(18, 3)], [15, 16, 17, 18, 21, 22, 23, 24, 25], 0, 0, false), ([(15, 0), (16, 1), (17, 2), (18, 3), (19, 4)], [15, 16, 17, 18, 19, 21, 22, 23, 24, 25], 0, 0, true), ([], [15, 16, 17, 18, 19, 20, 22, 23, 24, 25], 0, 1, false), ([], [15, 16, 17, 18, 19, 20, 21, 24, 25], 0, 1, false), ([(22, 7)], [15, 16, 17, 18, 19, 20, 21, 22, 24, 25], 0, 1, false), ([], [15, 16, 17, 18, 19, 20, 21, 22, 23], 0, 1, false), ([(24, 9)], [15, 16, 17, 18, 19, 20, 21, 22, 23, 24], 0, 1, false), ([(15, 0), (16, 1), (17, 2), (18, 3), (19, 4), (20, 5), (21, 6), (22, 7), (23, 8), (24, 9), (25, 10)], [15, 16, 17, 18, 19, 20, 21, 22, 23, 24, 25], 1, 0, true), ([(15, 0), (16, 1), (17, 2), (18, 3), (19, 4), (20, 5), (21, 6), (22, 7), (23, 8), (24, 9), (25, 10), (26, 11)], [15, 16, 17, 18, 19, 20, 21, 22, 23, 24, 25, 26], 2, 0, false), ([(15, 0), (16, 1), (17, 2), (18, 3), (19, 4), (20, 5), (21, 6), (22, 7), (23, 8), (24, 9), (25, 10), (26, 11), (27, 12)], [15, 16, 17, 18, 19, 20, 21, 22, 23, 24, 25, 26, 27], 2, 0, false)]
      [(15, 0), (16, 1), (17, 2), (18, 3), (19, 4), (20, 5), (21, 6), (22, 7), (23, 8), (24, 9), (25, 10), (26, 11), (27, 12), (6, 13)] 2
      [(0, _), (1, _), (5, _)] [_, _, _, _, _, _, _, _, _, _, _, _, _, _] [fun K => K = H1, fun K => Has9 K p (setL L n v) (N + 1) ∧ RD K q M ∧ K[t]? = some (.cells .var (actC (d, n, v))) ∧ FrX p q H1 K, fun K => Has9 K p (setL L n v) (N + 1) ∧ RD K q (setL M n v) ∧ FrX p q H1 K] rfl (by kernel_rfl)
    case hF => exact ⟨rfl, rfl, rfl, trivial⟩
    case h0 => exact rfl
    case steps =>
      (try (conv => whnf)); repeat' (first | (intro K hK; rw [show K = H1 from hK]; (conv => whnf)) | (intro K hK; obtain ⟨x1, x2, x3, x4⟩ : Has9 K p (setL L n v) (N + 1) ∧ RD K q M ∧ K[t]? = some (.cells .var (actC (d, n, v))) ∧ FrX p q H1 K := hK; have x5 := hblk_of x3; (conv => whnf)) | (intro K hK; obtain ⟨x1, x2, x3⟩ : Has9 K p (setL L n v) (N + 1) ∧ RD K q (setL M n v) ∧ FrX p q H1 K := hK; (conv => whnf)) | (refine Ob.of LV1 ?_; (conv => whnf)) | (refine Ob.of (ald_agg rfl rfl rfl x5 rfl) ?_; (conv => whnf)) | (refine (set9 hd1 hN n v).mono ?_; rintro _ X ⟨rfl, z1, z2⟩; exact LeafM.mk rfl ⟨z1, hr1.frD z2 hpq.symm hd1, hd1.keepF z2 k1 htp rfl, FrX.d z2 (hd1.keepF z2 qv1 hpq.symm rfl) qv1⟩) | (refine (rset_ax x2 hM n v).mono ?_; rintro _ X ⟨rfl, z1, z2⟩; exact LeafM.mk rfl ⟨x1.frR z2 hpq x2, z1, x4.trans (FrX.r z2 x2 x1 hpq)⟩) | (refine And.intro ?_ ?_ <;> (conv => whnf)) | exact Leaf.mk rfl rfl | exact True.intro | (refine Ob.of rfl ?_; (conv => whnf)) | (refine Ob2.of (by rfl) ?_; (conv => whnf)) | (first | (refine Ob.of (by first | with_reducible assumption | with_reducible exact ex20 _ _ | with_reducible exact ex21 _ _ | with_reducible exact ex30 _ _ _ | with_reducible exact ex31 _ _ _ | with_reducible exact ex32 _ _ _ | rfl | (exact ald rfl rfl (by assumption) rfl) | (exact ald_agg rfl rfl rfl (by assumption) rfl)) ?_; (conv => whnf)) | (refine bIf.yes (by first | assumption | rfl) ?_; (conv => whnf)) | (refine bIf.no (by first | assumption | rfl) ?_; (conv => whnf))))
    rintro H2 ⟨x1, x2, x3⟩
    (try (conv => whnf)); (repeat (first | (refine Ob.of (by first | with_reducible assumption | with_reducible exact ex20 _ _ | with_reducible exact ex21 _ _ | with_reducible exact ex30 _ _ _ | with_reducible exact ex31 _ _ _ | with_reducible exact ex32 _ _ _ | rfl | (exact ald rfl rfl (by assumption) rfl) | (exact ald_agg rfl rfl rfl (by assumption) rfl)) ?_; (conv => whnf)) | (refine bIf.yes (by first | assumption | rfl) ?_; (conv => whnf)) | (refine bIf.no (by first | assumption | rfl) ?_; (conv => whnf))))
    exact ⟨_, rfl, fun e => by subst e; simp, x1, x2, (FrX.g k2 hd.lt hr.lt).trans x3⟩
  have e0 : (d == 0) = false := by rw [beq_eq_false_iff_ne]; exact h0
  by_cases h1 : d = 1
  · have e1 : (d == 1) = true := by rw [beq_iff_eq]; exact h1
    have sL : stepL L (d, n, v) = delL L n := by rw [stepL, if_neg h0, if_pos h1]
    have sM : stepL M (d, n, v) = delL M n := by rw [stepL, if_neg h0, if_pos h1]
    rw [sL, sM]
    (try (conv => whnf)); (repeat (first | (refine Ob.of (by first | with_reducible assumption | with_reducible exact ex20 _ _ | with_reducible exact ex21 _ _ | with_reducible exact ex30 _ _ _ | with_reducible exact ex31 _ _ _ | with_reducible exact ex32 _ _ _ | rfl | (exact ald rfl rfl (by assumption) rfl) | (exact ald_agg rfl rfl rfl (by assumption) rfl)) ?_; (conv => whnf)) | (refine bIf.yes (by first | assumption | rfl) ?_; (conv => whnf)) | (refine bIf.no (by first | assumption | rfl) ?_; (conv => whnf))))
    apply SW.draw4 [([], [31, 32, 34, 35, 36], 0, 0, false), ([], [30, 34, 35, 36], 0, 0, false), ([(31, 1)], [30, 31, 34, 35, 36], 0, 0, false), ([(30, 0), (31, 1), (32, 2)], [30, 31, 32, 34, 35, 36], 0, 0, true), ([], [30, 31, 32, 33, 35, 36], 0, 1, false), ([], [30, 31, 32, 33, 34], 0, 1, false), ([(35, 5)], [30, 31, 32, 33, 34, 35], 0, 1, false), ([(30, 0), (31, 1), (32, 2), (33, 3), (34, 4), (35, 5), (36, 6)], [30, 31, 32, 33, 34, 35, 36], 1, 0, true), ([(30, 0), (31, 1), (32, 2), (33, 3), (34, 4), (35, 5), (36, 6), (37, 7)], [30, 31, 32, 33, 34, 35, 36, 37], 2, 0, false), ([(30, 0), (31, 1), (32, 2), (33, 3), (34, 4), (35, 5), (36, 6), (37, 7), (38, 8)], [30, 31, 32, 33, 34, 35, 36, 37, 38], 2, 0, false)]
      [(30, 0), (31, 1), (32, 2), (33, 3), (34, 4), (35, 5), (36, 6), (37, 7), (38, 8), (6, 9)] 2
      [(0, _), (1, _), (5, _)] [_, _, _, _, _, _, _, _, _, _] [fun K => K = H1, fun K => Has9 K p (delL L n) N ∧ RD K q M ∧ K[t]? = some (.cells .var (actC (d, n, v))) ∧ FrX p q H1 K, fun K => Has9 K p (delL L n) N ∧ RD K q (delL M n) ∧ FrX p q H1 K] rfl (by kernel_rfl)
    case hF => exact ⟨rfl, rfl, rfl, trivial⟩
    case h0 => exact rfl
    case steps =>
      (try (conv => whnf)); repeat' (first | (intro K hK; rw [show K = H1 from hK]; (conv => whnf)) | (intro K hK; obtain ⟨x1, x2, x3, x4⟩ : Has9 K p (delL L n) N ∧ RD K q M ∧ K[t]? = some (.cells .var (actC (d, n, v))) ∧ FrX p q H1 K := hK; have x5 := hblk_of x3; (conv => whnf)) | (intro K hK; obtain ⟨x1, x2, x3⟩ : Has9 K p (delL L n) N ∧ RD K q (delL M n) ∧ FrX p q H1 K := hK; (conv => whnf)) | (refine (delete9 hd1 hN n).mono ?_; rintro _ X ⟨rfl, z1, z2⟩; exact LeafM.mk rfl ⟨z1, hr1.frD z2 hpq.symm hd1, hd1.keepF z2 k1 htp rfl, FrX.d z2 (hd1.keepF z2 qv1 hpq.symm rfl) qv1⟩) | (refine (rdelete_ax x2 hM n).mono ?_; rintro _ X ⟨rfl, z1, z2⟩; exact LeafM.mk rfl ⟨x1.frR z2 hpq x2, z1, x4.trans (FrX.r z2 x2 x1 hpq)⟩) | (refine And.intro ?_ ?_ <;> (conv => whnf)) | exact Leaf.mk rfl rfl | exact True.intro | (refine Ob.of rfl ?_; (conv => whnf)) | (refine Ob2.of (by rfl) ?_; (conv => whnf)) | (first | (refine Ob.of (by first | with_reducible assumption | with_reducible exact ex20 _ _ | with_reducible exact ex21 _ _ | with_reducible exact ex30 _ _ _ | with_reducible exact ex31 _ _ _ | with_reducible exact ex32 _ _ _ | rfl | (exact ald rfl rfl (by assumption) rfl) | (exact ald_agg rfl rfl rfl (by assumption) rfl)) ?_; (conv => whnf)) | (refine bIf.yes (by first | assumption | rfl) ?_; (conv => whnf)) | (refine bIf.no (by first | assumption | rfl) ?_; (conv => whnf))))
    rintro H2 ⟨x1, x2, x3⟩
    (try (conv => whnf)); (repeat (first | (refine Ob.of (by first | with_reducible assumption | with_reducible exact ex20 _ _ | with_reducible exact ex21 _ _ | with_reducible exact ex30 _ _ _ | with_reducible exact ex31 _ _ _ | with_reducible exact ex32 _ _ _ | rfl | (exact ald rfl rfl (by assumption) rfl) | (exact ald_agg rfl rfl rfl (by assumption) rfl)) ?_; (conv => whnf)) | (refine bIf.yes (by first | assumption | rfl) ?_; (conv => whnf)) | (refine bIf.no (by first | assumption | rfl) ?_; (conv => whnf))))
    exact ⟨_, rfl, fun e => by subst e; simp, x1.more (by omega), x2, (FrX.g k2 hd.lt hr.lt).trans x3⟩
  have e1 : (d == 1) = false := by rw [beq_eq_false_iff_ne]; exact h1
  have sL : stepL L (d, n, v) = L := by rw [stepL, if_neg h0, if_neg h1]
  have sM : stepL M (d, n, v) = M := by rw [stepL, if_neg h0, if_neg h1]
  rw [sL, sM]
  (try (conv => whnf)); (repeat (first | (refine Ob.of (by first | with_reducible assumption | with_reducible exact ex20 _ _ | with_reducible exact ex21 _ _ | with_reducible exact ex30 _ _ _ | with_reducible exact ex31 _ _ _ | with_reducible exact ex32 _ _ _ | rfl | (exact ald rfl rfl (by assumption) rfl) | (exact ald_agg rfl rfl rfl (by assumption) rfl)) ?_; (conv => whnf)) | (refine bIf.yes (by first | assumption | rfl) ?_; (conv => whnf)) | (refine bIf.no (by first | assumption | rfl) ?_; (conv => whnf))))
  refine (get9 hd1 n).mono ?_
  rintro _ X ⟨rfl, z⟩
  subst X
  (try (conv => whnf)); (repeat (first | (refine Ob.of (by first | with_reducible assumption | with_reducible exact ex20 _ _ | with_reducible exact ex21 _ _ | with_reducible exact ex30 _ _ _ | with_reducible exact ex31 _ _ _ | with_reducible exact ex32 _ _ _ | rfl | (exact ald rfl rfl (by assumption) rfl) | (exact ald_agg rfl rfl rfl (by assumption) rfl)) ?_; (conv => whnf)) | (refine bIf.yes (by first | assumption | rfl) ?_; (conv => whnf)) | (refine bIf.no (by first | assumption | rfl) ?_; (conv => whnf))))
  refine Ob2.alloc rfl fun a H2 ha m1 m2 => ?_
  (try (conv => whnf)); (repeat (first | (refine Ob.of (by first | with_reducible assumption | with_reducible exact ex20 _ _ | with_reducible exact ex21 _ _ | with_reducible exact ex30 _ _ _ | with_reducible exact ex31 _ _ _ | with_reducible exact ex32 _ _ _ | rfl | (exact ald rfl rfl (by assumption) rfl) | (exact ald_agg rfl rfl rfl (by assumption) rfl)) ?_; (conv => whnf)) | (refine bIf.yes (by first | assumption | rfl) ?_; (conv => whnf)) | (refine bIf.no (by first | assumption | rfl) ?_; (conv => whnf))))
  refine Ob.store rfl rfl rfl m1 rfl (by first | exact Nat.le_of_ble_eq_true rfl | simp) fun H3 s1 s2 s3 => ?_
  have g3 : Grow H1 H3 := m2.but_new s2 (by omega)
  have hb3 := hblk_of (g3.at k1)
  (try (conv => whnf)); (repeat (first | (refine Ob.of (by first | with_reducible assumption | with_reducible exact ex20 _ _ | with_reducible exact ex21 _ _ | with_reducible exact ex30 _ _ _ | with_reducible exact ex31 _ _ _ | with_reducible exact ex32 _ _ _ | rfl | (exact ald rfl rfl (by assumption) rfl) | (exact ald_agg rfl rfl rfl (by assumption) rfl)) ?_; (conv => whnf)) | (refine bIf.yes (by first | assumption | rfl) ?_; (conv => whnf)) | (refine bIf.no (by first | assumption | rfl) ?_; (conv => whnf))))
  refine (rget_ax (hr1.grow g3) hM n).mono ?_
  rintro _ X ⟨rfl, z⟩
  subst X
  (try (conv => whnf)); (repeat (first | (refine Ob.of (by first | with_reducible assumption | with_reducible exact ex20 _ _ | with_reducible exact ex21 _ _ | with_reducible exact ex30 _ _ _ | with_reducible exact ex31 _ _ _ | with_reducible exact ex32 _ _ _ | rfl | (exact ald rfl rfl (by assumption) rfl) | (exact ald_agg rfl rfl rfl (by assumption) rfl)) ?_; (conv => whnf)) | (refine bIf.yes (by first | assumption | rfl) ?_; (conv => whnf)) | (refine bIf.no (by first | assumption | rfl) ?_; (conv => whnf))))
  refine Ob2.alloc rfl fun c H4 hc n1 n2 => ?_
  (try (conv => whnf)); (repeat (first | (refine Ob.of (by first | with_reducible assumption | with_reducible exact ex20 _ _ | with_reducible exact ex21 _ _ | with_reducible exact ex30 _ _ _ | with_reducible exact ex31 _ _ _ | with_reducible exact ex32 _ _ _ | rfl | (exact ald rfl rfl (by assumption) rfl) | (exact ald_agg rfl rfl rfl (by assumption) rfl)) ?_; (conv => whnf)) | (refine bIf.yes (by first | assumption | rfl) ?_; (conv => whnf)) | (refine bIf.no (by first | assumption | rfl) ?_; (conv => whnf))))
  refine Ob.store rfl rfl rfl n1 rfl (by first | exact Nat.le_of_ble_eq_true rfl | simp) fun H5 t1 t2 t3 => ?_
  have g5 : Grow H3 H5 := n2.but_new t2 (by omega)
  have LA : aload Try.prog 32 (.pointer (some ⟨a, 0, none⟩)) H5 = some (valV ((getL L n).getD zeroV)) := ald_agg rfl rfl rfl (hblk_of (g5.at s1)) rfl
  have LC : aload Try.prog 32 (.pointer (some ⟨c, 0, none⟩)) H5 = some (valV ((getL M n).getD zeroV)) := ald_agg rfl rfl rfl (hblk_of t1) rfl
  have LE := val_eql ((getL L n).getD zeroV) ((getL M n).getD zeroV)
  have gg := k2.trans (g3.trans g5)
  have fin : ∀ b : Bool, (L = M → b = true) → ∃ b', Value.bool b = .bool b' ∧ (L = M → b' = true) ∧ Has9 H5 p L (N + 1) ∧ RD H5 q M ∧ FrX p q H H5 := fun b hb => ⟨b, rfl, hb, (hd.grow gg).more (by omega), hr.grow gg, FrX.g gg hd.lt hr.lt⟩
  cases hv : vEq ((getL L n).getD zeroV) ((getL M n).getD zeroV) with
  | false =>
    rw [hv] at LE
    (try (conv => whnf)); (repeat (first | (refine Ob.of (by first | with_reducible assumption | with_reducible exact ex20 _ _ | with_reducible exact ex21 _ _ | with_reducible exact ex30 _ _ _ | with_reducible exact ex31 _ _ _ | with_reducible exact ex32 _ _ _ | rfl | (exact ald rfl rfl (by assumption) rfl) | (exact ald_agg rfl rfl rfl (by assumption) rfl)) ?_; (conv => whnf)) | (refine bIf.yes (by first | assumption | rfl) ?_; (conv => whnf)) | (refine bIf.no (by first | assumption | rfl) ?_; (conv => whnf))))
    exact fin false fun e => by subst e; rw [vEq_self] at hv; exact hv.symm
  | true =>
    rw [hv] at LE
    (try (conv => whnf)); (repeat (first | (refine Ob.of (by first | with_reducible assumption | with_reducible exact ex20 _ _ | with_reducible exact ex21 _ _ | with_reducible exact ex30 _ _ _ | with_reducible exact ex31 _ _ _ | with_reducible exact ex32 _ _ _ | rfl | (exact ald rfl rfl (by assumption) rfl) | (exact ald_agg rfl rfl rfl (by assumption) rfl)) ?_; (conv => whnf)) | (refine bIf.yes (by first | assumption | rfl) ?_; (conv => whnf)) | (refine bIf.no (by first | assumption | rfl) ?_; (conv => whnf))))
    exact fin _ fun e => by subst e; simp
theorem done_ax {H : Heap} {p q N : Nat} {L M : List (ByteArray × V)} (hd : Has9 H p L N) (hr : RD H q M) (hN : N ≤ 1000000) (hM : M.length ≤ 1000000) (hpq : p ≠ q) (d : Int) (n : ByteArray) (v : V) :
    AX Try.prog 10 #[ptr p, ptr q, actV d n v] H (fun r H' => ∃ b, r = .bool b ∧ (L = M → b = true) ∧ Has9 H' p (stepL L (d, n, v)) (N + 1) ∧ RD H' q (stepL M (d, n, v)) ∧ KeepX p q H H') :=
  (done_x hd hr hN hM hpq d n v).mono fun r H' ⟨b, h1, h2, h3, h4, h5⟩ => ⟨b, h1, h2, h3, h4, h5.1, fun k B hk hp hq kd kr => h5.2.1 k B hk hp hq (hd.notFoot hk kd) (hr.notFoot hk kr)⟩
end Go.Proofs.Ytnmfmgnkfkhdhaa
