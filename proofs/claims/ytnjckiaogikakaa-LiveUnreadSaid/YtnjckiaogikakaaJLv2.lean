/- Package live: what an operation needs. -/
import Derived.Test.YtnjckiaogikakaaJIr1
set_option linter.unusedVariables false
set_option linter.unusedSimpArgs false
set_option maxRecDepth 20000
set_option maxHeartbeats 4000000
namespace Go.Proofs.Ytnjckiaogikakaa
open Go Ax
def NeedP (o : OpX) (loc : Int) (q : Nat) : Prop := (q : Int) < loc ∨ (q : Int) ∈ usesL o ∨ (q : Int) ∈ o.map
instance (o : OpX) (loc : Int) (q : Nat) : Decidable (NeedP o loc q) := by unfold NeedP; infer_instance
/-- A set that holds what is told. -/
def Holds (s : RS) (P : Nat → Prop) : Prop := okS s ∧ ∀ q, q < 128 → (mem s q = true ↔ P q)
theorem Holds.with {s : RS} {P Q : Nat → Prop} (h : Holds s P) {r : Nat} (hr : r < 128) (hq : ∀ q, q < 128 → (Q q ↔ P q ∨ q = r)) : Holds (withS s r) Q :=
  ⟨withS_ok h.1 hr, fun q hq' => by rw [mem_with hr hq', Bool.or_eq_true, decide_eq_true_eq, h.2 q hq', hq q hq']⟩
theorem RL.butS {X Z : Heap} {v : Value} {L : List Int} {q : Nat} {s : RS} (h : RL 1 intR X v L) (hq : X[q]? = some (.cells .var (setL s))) (k : But q X Z) : RL 1 intR Z v L := by
  rcases h with h | ⟨b, h1, h2 | ⟨m, c, h2, h3⟩⟩
  · exact .inl h
  · exact .inr ⟨b, h1, .inl h2⟩
  · by_cases hb : b = q
    · subst hb
      rw [hq] at h2
      simp only [Option.some.injEq, Blk.cells.injEq] at h2
      obtain ⟨rfl, rfl⟩ := h2
      cases L with
      | nil => exact .inr ⟨b, h1, .inl rfl⟩
      | cons x L =>
        obtain ⟨l, k1, k2⟩ := h3 0 x rfl
        have k2 : l = [.int .i64 x] := k2
        subst k2
        exact absurd k1 (by simp [slotsOf])
    · exact .inr ⟨b, h1, .inr ⟨m, c, k.at h2 hb, h3⟩⟩
theorem needs_ax {H : Heap} {o : OpX} {rv cv mv : Value} {loc : Nat} (hr : RL 1 intR H rv o.regs) (hm : RL 1 intR H mv o.map) (hL : o.regs.length ≤ 100000) (hM : o.map.length ≤ 100000) (hloc : loc ≤ 128)
    (hu : ∀ x ∈ usesL o, 0 ≤ x ∧ x < 128) (hmm : ∀ x ∈ o.map, 0 ≤ x ∧ x < 128) :
    AX Try.prog 54 #[opV o rv cv mv, .int .i64 (loc : Int)] H (fun v H' => (∃ s, v = setV s ∧ Holds s (NeedP o loc)) ∧ Grow H H') := by
  refine AX.body (n := 42) (rs := [.cell 4 67]) Try.func54 rfl (by decide) rfl rfl (bC_sound _ _ _ _ ?_)
  (conv => whnf)
  refine Ob2.box rfl fun q2 H1 hq1 a1 g1 => ?_
  (conv => whnf)
  refine Ob2.alloc rfl fun q4 H2 hq2 a2 g2 => ?_
  refine run ?_
  refine Ob2.alloc rfl fun q5 H3 hq3 a3 g3 => ?_
  have b2 := g3.at (g2.at a1)
  have b4 := g3.at a2
  have g := (g1.trans g2).trans g3
  have e4 : H.length < q4 ∧ q4 < q5 := by have := g1.1; have := g2.1; have := lt_at a1; have := lt_at a2; omega
  have e2 : q2 < q4 := by have := lt_at a1; omega
  refine run ?_
  -- the frame of all three loops
  have key : ∀ {X Y Z : Heap} {s : RS}, Grow H3 X → X[q5]? = some (.cells .var (setL s)) → X[q2]? = H3[q2]? → True := fun _ _ _ => trivial
  refine SW.loop (α := Nat) (fun k => [(2, .pointer (some ⟨q2, 0, none⟩)), (4, .pointer (some ⟨q4, 0, none⟩)), (5, .pointer (some ⟨q5, 0, none⟩)), (11, .int .i64 (loc : Int)), (12, .int .i64 (k : Int))])
    (fun k X => k ≤ loc ∧ But q5 H3 X ∧ ∃ s, X[q5]? = some (.cells .var (setL s)) ∧ Holds s (fun q => q < k)) (fun k => loc - k)
    ⟨0, ⟨rfl, rfl, rfl, rfl, rfl, trivial⟩, Nat.zero_le _, .refl _ _, (0, 0), a3, ⟨by decide, by decide⟩, fun q hq => by rw [mem_zero]; simp⟩ ?_
  rintro k X ⟨hk, kX, s, hs5, hs⟩
  refine bC_sound _ _ _ _ ?_
  by_cases hkl : k < loc
  · have d1 : decide ((k : Int) < (loc : Int)) = true := decide_eq_true (by omega)
    have hl : aload Try.prog 67 (.pointer (some ⟨q5, 0, none⟩)) X = some (setV s) := ald_agg rfl rfl rfl (hblk_of hs5) rfl
    have w1 := w_succ (k := k) (by omega)
    refine run ?_
    refine (with_ax X hs.1 (show k < 128 by omega)).mono ?_
    rintro _ Y ⟨rfl, gY⟩
    refine run ?_
    refine Ob.store (b := q5) (off := 0) rfl rfl rfl (gY.at hs5) rfl (by first | exact Nat.le_of_ble_eq_true rfl | simp) fun Z s4 k4 l4 => ?_
    refine run ?_
    exact ⟨k + 1, ⟨rfl, rfl, rfl, rfl, congrArg (fun z => some (Value.int .i64 z)) w1, trivial⟩, ⟨by omega, kX.trans ((gY.but q5).trans k4), _, s4, hs.with (by omega) fun q hq => by omega⟩, by show loc - (k + 1) < loc - k; omega⟩
  have d1 : decide ((k : Int) < (loc : Int)) = false := decide_eq_false (by omega)
  have hkk : k = loc := by omega
  subst hkk
  have gX : Grow H X := g.but_new kX (by omega)
  have c2 := kX.at b2 (by omega)
  have lo : aload Try.prog 43 (.pointer (some ⟨q2, 0, none⟩)) X = some (opV o rv cv mv) := ald_agg rfl rfl rfl (hblk_of c2) rfl
  have hul : (usesL o).length ≤ 100004 := by
    unfold usesL
    simp only [List.length_append]
    split <;> split <;> split <;> simp <;> omega
  refine run ?_
  refine (irUses_ax (intR.grow hr gX) hL).mono ?_
  rintro uv Y ⟨hU, gY⟩
  have lu : ∀ Z, alen Try.prog 35 uv Z = some (.int .i64 (usesL o).length) := fun Z => hU.len rfl Z
  have lu1 := lu Y
  refine run ?_
  refine SW.loop (α := Nat) (fun i => [(2, .pointer (some ⟨q2, 0, none⟩)), (4, .pointer (some ⟨q4, 0, none⟩)), (5, .pointer (some ⟨q5, 0, none⟩)), (20, uv), (21, .int .i64 ((usesL o).length : Int)), (22, .int .i64 (i : Int))])
    (fun i Z => i ≤ (usesL o).length ∧ But q5 Y Z ∧ RL 1 intR Z uv (usesL o) ∧ ∃ s, Z[q5]? = some (.cells .var (setL s)) ∧ Holds s (fun q => q < k ∨ (q : Int) ∈ (usesL o).take i)) (fun i => (usesL o).length - i)
    ⟨0, ⟨rfl, rfl, rfl, rfl, rfl, rfl, trivial⟩, Nat.zero_le _, .refl _ _, hU, s, gY.at hs5, hs.1, fun q hq => by rw [hs.2 q hq]; simp⟩ ?_
  rintro i Z ⟨hi, kZ, hUZ, s2, hs6, hs2⟩
  clear d1
  refine bC_sound _ _ _ _ ?_
  by_cases hil : i < (usesL o).length
  · have d1 : decide ((i : Int) < ((usesL o).length : Int)) = true := decide_eq_true (by omega)
    have hl : aload Try.prog 67 (.pointer (some ⟨q5, 0, none⟩)) Z = some (setV s2) := ald_agg rfl rfl rfl (hblk_of hs6) rfl
    have w1 := w_succ (k := i) (by omega)
    obtain ⟨x, hx⟩ := get_lt (L := usesL o) (m := i) hil
    obtain ⟨x0, x1⟩ := hu x (List.mem_of_getElem? hx)
    obtain ⟨n, rfl⟩ : ∃ n : Nat, x = (n : Int) := ⟨x.toNat, by omega⟩
    obtain ⟨p, p1, p2⟩ := int_at hUZ hx
    have p3 := p2 Z (.refl _)
    refine run ?_
    refine (with_ax Z hs2.1 (show n < 128 by omega)).mono ?_
    rintro _ Y2 ⟨rfl, gY2⟩
    refine run ?_
    refine Ob.store (b := q5) (off := 0) rfl rfl rfl (gY2.at hs6) rfl (by first | exact Nat.le_of_ble_eq_true rfl | simp) fun Z2 s4 k4 l4 => ?_
    refine run ?_
    refine ⟨i + 1, ⟨rfl, rfl, rfl, rfl, rfl, congrArg (fun z => some (Value.int .i64 z)) w1, trivial⟩, ⟨by omega, kZ.trans ((gY2.but q5).trans k4), RL.butS (intR.grow hUZ gY2) (gY2.at hs6) k4, _, s4, hs2.with (by omega) fun q hq => ?_⟩, by show (usesL o).length - (i + 1) < (usesL o).length - i; omega⟩
    rw [List.take_add_one, hx]
    simp only [Option.toList_some, List.mem_append, List.mem_singleton]
    constructor
    · rintro (h | h | h)
      · exact .inl (.inl h)
      · exact .inl (.inr h)
      · exact .inr (by omega)
    · rintro ((h | h) | h)
      · exact .inl h
      · exact .inr (.inl h)
      · exact .inr (.inr (by omega))
  have d1 : decide ((i : Int) < ((usesL o).length : Int)) = false := decide_eq_false (by omega)
  have hii : i = (usesL o).length := by omega
  subst hii
  rw [List.take_length] at hs2
  have gZ : Grow H Z := (gX.trans gY).but_new kZ (by omega)
  have c3 := kZ.at (gY.at c2) (show q2 ≠ q5 by omega)
  have c3' := hblk_of c3
  have hmZ := intR.grow hm gZ
  have lm : ∀ W, alen Try.prog 35 mv W = some (.int .i64 o.map.length) := fun W => hm.len rfl W
  have lm1 := lm Z
  clear lu1
  refine run ?_
  refine SW.loop (α := Nat) (fun i => [(2, .pointer (some ⟨q2, 0, none⟩)), (4, .pointer (some ⟨q4, 0, none⟩)), (5, .pointer (some ⟨q5, 0, none⟩)), (31, mv), (32, .int .i64 (o.map.length : Int)), (33, .int .i64 (i : Int))])
    (fun i W => i ≤ o.map.length ∧ But q5 Z W ∧ RL 1 intR W mv o.map ∧ ∃ s, W[q5]? = some (.cells .var (setL s)) ∧ Holds s (fun q => (q < k ∨ (q : Int) ∈ usesL o) ∨ (q : Int) ∈ o.map.take i)) (fun i => o.map.length - i)
    ⟨0, ⟨rfl, rfl, rfl, rfl, rfl, rfl, trivial⟩, Nat.zero_le _, .refl _ _, hmZ, s2, hs6, hs2.1, fun q hq => by rw [hs2.2 q hq]; simp⟩ ?_
  rintro i W ⟨hi3, kW, hMW, s3, hs7, hs3⟩
  clear d1
  refine bC_sound _ _ _ _ ?_
  have hl : aload Try.prog 67 (.pointer (some ⟨q5, 0, none⟩)) W = some (setV s3) := ald_agg rfl rfl rfl (hblk_of hs7) rfl
  by_cases hil : i < o.map.length
  · have d1 : decide ((i : Int) < (o.map.length : Int)) = true := decide_eq_true (by omega)
    have w1 := w_succ (k := i) (by omega)
    obtain ⟨x, hx⟩ := get_lt (L := o.map) (m := i) hil
    obtain ⟨x0, x1⟩ := hmm x (List.mem_of_getElem? hx)
    obtain ⟨n, rfl⟩ : ∃ n : Nat, x = (n : Int) := ⟨x.toNat, by omega⟩
    obtain ⟨p, p1, p2⟩ := int_at hMW hx
    have p3 := p2 W (.refl _)
    refine run ?_
    refine (with_ax W hs3.1 (show n < 128 by omega)).mono ?_
    rintro _ Y2 ⟨rfl, gY2⟩
    refine run ?_
    refine Ob.store (b := q5) (off := 0) rfl rfl rfl (gY2.at hs7) rfl (by first | exact Nat.le_of_ble_eq_true rfl | simp) fun Z2 s4 k4 l4 => ?_
    refine run ?_
    refine ⟨i + 1, ⟨rfl, rfl, rfl, rfl, rfl, congrArg (fun z => some (Value.int .i64 z)) w1, trivial⟩, ⟨by omega, kW.trans ((gY2.but q5).trans k4), RL.butS (intR.grow hMW gY2) (gY2.at hs7) k4, _, s4, hs3.with (by omega) fun q hq => ?_⟩, by show o.map.length - (i + 1) < o.map.length - i; omega⟩
    rw [List.take_add_one, hx]
    simp only [Option.toList_some, List.mem_append, List.mem_singleton]
    constructor
    · rintro (h | h | h)
      · exact .inl (.inl h)
      · exact .inl (.inr h)
      · exact .inr (by omega)
    · rintro ((h | h) | h)
      · exact .inl h
      · exact .inr (.inl h)
      · exact .inr (.inr (by omega))
  have d1 : decide ((i : Int) < (o.map.length : Int)) = false := decide_eq_false (by omega)
  have hii : i = o.map.length := by omega
  subst hii
  rw [List.take_length] at hs3
  have c4 : W[q4]? = some (.cells .var [.int .u64 0, .int .u64 0]) := kW.at (kZ.at (gY.at (kX.at b4 (by omega))) (by omega)) (by omega)
  have gW : Grow H W := gZ.but_new kW (by omega)
  refine run ?_
  refine Ob.store (b := q4) (off := 0) rfl rfl rfl c4 rfl (by first | exact Nat.le_of_ble_eq_true rfl | simp) fun Z4 s4 k4 l4 => ?_
  have hl4 : aload Try.prog 67 (.pointer (some ⟨q4, 0, none⟩)) Z4 = some (setV s3) := ald_agg rfl rfl rfl (hblk_of s4) rfl
  refine run ?_
  refine ⟨⟨s3, rfl, hs3.1, fun q hq => ?_⟩, gW.but_new k4 (by omega)⟩
  rw [hs3.2 q hq]
  unfold NeedP
  constructor
  · rintro ((h | h) | h)
    · exact .inl (by omega)
    · exact .inr (.inl h)
    · exact .inr (.inr h)
  · rintro (h | h | h)
    · exact .inl (.inl (by omega))
    · exact .inl (.inr h)
    · exact .inr h
end Go.Proofs.Ytnjckiaogikakaa
/- The reference of ir: what comes behind an operation; what is pure. -/
set_option linter.unusedVariables false
set_option linter.unusedSimpArgs false
set_option maxRecDepth 20000
set_option maxHeartbeats 4000000
namespace Go.Proofs.Ytnjckiaogikakaa
open Go Ax
theorem refTargets_ax {H : Heap} {b : BodyX} {kv ov dv : Value} (hb : BodyIn H b kv ov dv) (hL : b.ops.length < 4294967296) {at_ : Nat} {o : OpX} (ho : b.ops[at_]? = some o) :
    AX Try.prog 60 #[bodyV b kv ov dv, .int .i64 (at_ : Int)] H (fun v H' => RL 1 intR H' v (tgtL o at_) ∧ Grow H H') := by
  refine AX.body (n := 51) (rs := [.tmp 4]) Try.func60 rfl (by decide) rfl rfl (bC_sound _ _ _ _ ?_)
  (conv => whnf)
  refine Ob2.box rfl fun q1 H1 hq1 a1 g1 => ?_
  have b1 := hblk_of a1
  have l4 : alen Try.prog 27 ov H1 = some (.int .i64 b.ops.length) := hb.ops.len rfl _
  have hlt := lt_of_get ho
  have d0 : decide ((at_ : Int) < 0) = false := decide_eq_false (by omega)
  have d1 : decide ((at_ : Int) ≥ (b.ops.length : Int)) = false := decide_eq_false (by omega)
  obtain ⟨bo, rv, cv, mv, i1, jr, jc, jm, i2⟩ := ldx_op hb.ops ho
  obtain ⟨i3, i4⟩ := i2 H1 g1
  have w : IntKind.i64.wrap ((at_ : Int) + 1) = (at_ : Int) + 1 := by rw [wrap_i64 (by omega) (by omega)]
  by_cases h24 : o.kind = 24
  · have e1 : (o.kind == 24) = true := by simpa using h24
    refine run ?_
    refine ⟨.inl ⟨rfl, ?_⟩, g1⟩
    unfold tgtL; rw [if_pos h24]
  have e1 : (o.kind == 24) = false := by simpa using h24
  refine run ?_
  refine Ob2.alloc rfl fun q2 H2 hq2 a2 g2 => ?_
  refine run ?_
  refine Ob.store rfl rfl rfl a2 rfl (by first | exact Nat.le_of_ble_eq_true rfl | simp) fun H3 s3 k3 l3 => ?_
  have g3 : Grow H1 H3 := g2.but_new k3 (by omega)
  have b2 := hblk_of s3
  have g : Grow H H3 := g1.trans g3
  clear a1 a2 i1 i2 i3 i4 l4 s3
  by_cases h17 : o.kind = 17
  · have e2 : (o.kind == 17) = true := by simpa using h17
    refine run ?_
    refine Ob2.lay _ _ rfl fun H4 a4 g4 l4 => ?_
    refine run ?_
    have : tgtL o at_ = [o.a] := by unfold tgtL; rw [if_neg h24, if_pos h17]
    rw [this]
    exact ⟨RL.own (g := Value.int .i64) (L := [o.a]) (fun _ _ => rfl) a4, g.trans g4⟩
  have e2 : (o.kind == 17) = false := by simpa using h17
  have two : (o.kind == 18 || o.kind == 19) = true → jumps o.kind = true := fun h => by
    simp only [Bool.or_eq_true, beq_iff_eq] at h
    unfold jumps; rw [decide_eq_true_eq]; omega
  by_cases h18 : o.kind = 18
  · have e3 : (o.kind == 18) = true := by simpa using h18
    refine run ?_
    refine Ob2.lay _ _ rfl fun H4 a4 g4 l4 => ?_
    refine run ?_
    have : tgtL o at_ = [(at_ : Int) + 1, o.a] := by unfold tgtL; rw [if_neg h24, if_neg h17, if_pos (two (by simp [h18]))]
    rw [this]
    rw [w] at a4
    exact ⟨RL.own (g := Value.int .i64) (L := [(at_ : Int) + 1, o.a]) (fun _ _ => rfl) a4, g.trans g4⟩
  have e3 : (o.kind == 18) = false := by simpa using h18
  by_cases h19 : o.kind = 19
  · have e4 : (o.kind == 19) = true := by simpa using h19
    refine run ?_
    refine Ob2.lay _ _ rfl fun H4 a4 g4 l4 => ?_
    refine run ?_
    have : tgtL o at_ = [(at_ : Int) + 1, o.a] := by unfold tgtL; rw [if_neg h24, if_neg h17, if_pos (two (by simp [h19]))]
    rw [this]
    rw [w] at a4
    exact ⟨RL.own (g := Value.int .i64) (L := [(at_ : Int) + 1, o.a]) (fun _ _ => rfl) a4, g.trans g4⟩
  have e4 : (o.kind == 19) = false := by simpa using h19
  refine run ?_
  refine Ob2.lay _ _ rfl fun H4 a4 g4 l4 => ?_
  refine run ?_
  have : tgtL o at_ = [(at_ : Int) + 1] := by
    unfold tgtL
    rw [if_neg h24, if_neg h17, if_neg (by unfold jumps; simp; omega)]
  rw [this]
  rw [w] at a4
  exact ⟨RL.own (g := Value.int .i64) (L := [(at_ : Int) + 1]) (fun _ _ => rfl) a4, g.trans g4⟩
end Go.Proofs.Ytnjckiaogikakaa
/- Package live's laws: two lists of lists compared. -/
set_option linter.unusedVariables false
set_option linter.unusedSimpArgs false
set_option maxRecDepth 20000
set_option maxHeartbeats 4000000
namespace Go.Proofs.Ytnjckiaogikakaa
open Go Ax
def llR (H : Heap) (l : List Value) (x : List Int) : Prop := ∃ v, l = [v] ∧ RL 1 intR H v x
theorem llR.grow {H H' : Heap} {sv : Value} {L : List (List Int)} (h : RL 1 llR H sv L) (g : Grow H H') : RL 1 llR H' sv L := RL.grow (H := H) (H' := H') (fun _ _ ⟨v, h1, h2⟩ => ⟨v, h1, intR.grow h2 g⟩) h g
theorem ll_at {H : Heap} {v : Value} {L : List (List Int)} (h : RL 1 llR H v L) {i : Nat} {x : List Int} (hx : L[i]? = some x) :
    ∃ p u, aindexAddr Try.prog 37 v (.int .i64 (i : Int)) = some p ∧ RL 1 intR H u x ∧ ∀ H', Grow H H' → aload Try.prog 35 p H' = some u := by
  obtain ⟨b, c, l, h1, h2, h3, u, rfl, h4⟩ := h.at (P := Try.prog) (t := 37) (e := 35) rfl rfl hx
  have hf : ∃ a n k, u = .slice a n k := by rcases h4 with ⟨h, _⟩ | ⟨b, h, _⟩ <;> exact ⟨_, _, _, h⟩
  obtain ⟨a, n, k, rfl⟩ := hf
  refine ⟨_, _, h1, h4, fun H' g => ald rfl rfl (g.hblk h2) ?_⟩
  have := slots_get (j := 0) h3 rfl
  rwa [Nat.add_zero] at this
theorem lawLists_ax {H : Heap} {a b : Value} {A B : List (List Int)} (ha : RL 1 llR H a A) (hb : RL 1 llR H b B) (hA : A.length ≤ 1000000) (hAi : ∀ x ∈ A, x.length ≤ 1000000) :
    AX Try.prog 10 #[a, b] H (fun v H' => v = .bool (decide (A = B)) ∧ H' = H) := by
  have la := ha.len (P := Try.prog) (t := 37) (e := 35) rfl H
  have lb := hb.len (P := Try.prog) (t := 37) (e := 35) rfl H
  refine AX.body (n := 53) (rs := [.tmp 4]) Try.func10 rfl (by decide) rfl rfl (bC_sound _ _ _ _ ?_)
  by_cases hl : A.length = B.length
  rotate_left
  · have d1 : (!(((A.length : Int)) == (B.length : Int))) = true := by simp; omega
    refine run ?_
    exact ⟨by rw [decide_eq_false fun e => hl (by rw [e])]; rfl, rfl⟩
  have d1 : (!(((A.length : Int)) == (B.length : Int))) = false := by simp; omega
  refine run ?_
  refine SW.loop (α := Nat) (fun i => [(0, a), (1, b), (5, .int .i64 (i : Int))]) (fun i X => X = H ∧ i ≤ A.length ∧ A.take i = B.take i) (fun i => A.length - i) ⟨0, ⟨rfl, rfl, rfl, trivial⟩, rfl, Nat.zero_le _, rfl⟩ ?_
  clear d1
  rintro i X ⟨rfl, hi, ht⟩
  refine bC_sound _ _ _ _ ?_
  by_cases hil : i < A.length
  rotate_left
  · have d2 : decide ((i : Int) < (A.length : Int)) = false := decide_eq_false (by omega)
    refine run ?_
    rw [List.take_of_length_le (by omega), List.take_of_length_le (by omega)] at ht
    exact ⟨by rw [decide_eq_true ht]; rfl, rfl⟩
  have d2 : decide ((i : Int) < (A.length : Int)) = true := decide_eq_true (by omega)
  obtain ⟨x, hx⟩ := get_lt (L := A) (m := i) hil
  obtain ⟨y, hy⟩ := get_lt (L := B) (m := i) (by omega)
  obtain ⟨p, u, p1, p2, p3⟩ := ll_at ha hx
  obtain ⟨q, w, q1, q2, q3⟩ := ll_at hb hy
  have p4 := p3 X (.refl _)
  have q4 := q3 X (.refl _)
  have lx := p2.len (P := Try.prog) (t := 35) (e := 3) rfl X
  have ly := q2.len (P := Try.prog) (t := 35) (e := 3) rfl X
  have hxl := hAi x (List.mem_of_getElem? hx)
  have w1 := w_succ (k := i) (by omega)
  refine run ?_
  apply SW.drawH [(0, [], [19, 23, 24, 25, 26, 27], false), (1, [], [18, 23, 24, 25, 26, 27], false), (2, [(18, 0), (19, 1)], [18, 19, 23, 24, 25, 26, 27], false), (3, [(18, 0), (19, 1), (20, 2)], [18, 19, 20, 23, 24, 25, 26, 27], false), (4, [(18, 0), (19, 1), (20, 2), (21, 3)], [18, 19, 20, 21, 23, 24, 25, 26, 27], false), (5, [], [18, 19, 20, 21, 22, 24], false), (6, [], [18, 19, 20, 21, 22, 23], false), (7, [(23, 5), (24, 6)], [18, 19, 20, 21, 22, 23, 24], false), (8, [(23, 5), (24, 6), (25, 7)], [18, 19, 20, 21, 22, 23, 24, 25], false), (9, [(23, 5), (24, 6), (25, 7), (26, 8)], [18, 19, 20, 21, 22, 23, 24, 25, 26], false), (10, [(18, 0), (19, 1), (20, 2), (21, 3), (22, 4), (23, 5), (24, 6), (25, 7), (26, 8), (27, 9)], [18, 19, 20, 21, 22, 23, 24, 25, 26, 27], false)]
    [(18, 0), (19, 1), (20, 2), (21, 3), (22, 4), (23, 5), (24, 6), (25, 7), (26, 8), (27, 9), (28, 10)] []
    [(0, _), (1, _), (5, _)] rfl (by kernel_rfl)
  case hF => exact ⟨rfl, rfl, rfl, trivial⟩
  refine run ?_
  by_cases hxy : x.length = y.length
  rotate_left
  · have d3 : (!(((x.length : Int)) == (y.length : Int))) = true := by simp; omega
    refine run ?_
    exact ⟨by rw [decide_eq_false fun e => hxy (by rw [e, hy] at hx; simp at hx; rw [hx])]; rfl, rfl⟩
  have d3 : (!(((x.length : Int)) == (y.length : Int))) = false := by simp; omega
  refine run ?_
  refine SW.loop (α := Nat) (fun j => [(0, a), (1, b), (5, .int .i64 (i : Int)), (6, .int .i64 (j : Int))]) (fun j Y => Y = X ∧ j ≤ x.length ∧ x.take j = y.take j) (fun j => x.length - j) ⟨0, ⟨rfl, rfl, rfl, rfl, trivial⟩, rfl, Nat.zero_le _, rfl⟩ ?_
  clear d2 d3
  rintro j Y ⟨e, hj, htj⟩
  subst Y
  refine bC_sound _ _ _ _ ?_
  by_cases hjl : j < x.length
  · have d4 : decide ((j : Int) < (x.length : Int)) = true := decide_eq_true (by omega)
    obtain ⟨m, hm⟩ := get_lt (L := x) (m := j) hjl
    obtain ⟨n, hn⟩ := get_lt (L := y) (m := j) (by omega)
    obtain ⟨r, r1, r2⟩ := int_at p2 hm
    obtain ⟨t, t1, t2⟩ := int_at q2 hn
    have r3 := r2 X (.refl _)
    have t3 := t2 X (.refl _)
    have w2 := w_succ (k := j) (by omega)
    refine run ?_
    apply SW.drawH [(0, [], [39, 42, 45, 46, 47, 48, 49, 50, 51], false), (1, [], [38, 42, 45, 46, 47, 48, 49, 50, 51], false), (2, [(38, 0), (39, 1)], [38, 39, 42, 45, 46, 47, 48, 49, 50, 51], false), (3, [(38, 0), (39, 1), (40, 2)], [38, 39, 40, 42, 45, 46, 47, 48, 49, 50, 51], false), (4, [], [38, 39, 40, 41, 45, 46, 47, 48, 49, 50, 51], false), (5, [(38, 0), (39, 1), (40, 2), (41, 3), (42, 4)], [38, 39, 40, 41, 42, 45, 46, 47, 48, 49, 50, 51], false), (6, [(38, 0), (39, 1), (40, 2), (41, 3), (42, 4), (43, 5)], [38, 39, 40, 41, 42, 43, 45, 46, 47, 48, 49, 50, 51], false), (7, [], [38, 39, 40, 41, 42, 43, 44, 46, 49], false), (8, [], [38, 39, 40, 41, 42, 43, 44, 45, 49], false), (9, [(45, 7), (46, 8)], [38, 39, 40, 41, 42, 43, 44, 45, 46, 49], false), (10, [(45, 7), (46, 8), (47, 9)], [38, 39, 40, 41, 42, 43, 44, 45, 46, 47, 49], false), (11, [], [38, 39, 40, 41, 42, 43, 44, 45, 46, 47, 48], false), (12, [(45, 7), (46, 8), (47, 9), (48, 10), (49, 11)], [38, 39, 40, 41, 42, 43, 44, 45, 46, 47, 48, 49], false), (13, [(45, 7), (46, 8), (47, 9), (48, 10), (49, 11), (50, 12)], [38, 39, 40, 41, 42, 43, 44, 45, 46, 47, 48, 49, 50], false), (14, [(38, 0), (39, 1), (40, 2), (41, 3), (42, 4), (43, 5), (44, 6), (45, 7), (46, 8), (47, 9), (48, 10), (49, 11), (50, 12), (51, 13)], [38, 39, 40, 41, 42, 43, 44, 45, 46, 47, 48, 49, 50, 51], false)]
      [(38, 0), (39, 1), (40, 2), (41, 3), (42, 4), (43, 5), (44, 6), (45, 7), (46, 8), (47, 9), (48, 10), (49, 11), (50, 12), (51, 13), (52, 14)] []
      [(0, _), (1, _), (5, _), (6, _)] rfl (by kernel_rfl)
    case hF => exact ⟨rfl, rfl, rfl, rfl, trivial⟩
    refine run ?_
    by_cases hmn : m = n
    · have d5 : (!(m == n)) = false := by simp [hmn]
      refine run ?_
      refine ⟨j + 1, ⟨rfl, rfl, rfl, congrArg (fun z => some (Value.int .i64 z)) w2, trivial⟩, ⟨rfl, by omega, ?_⟩, by show x.length - (j + 1) < x.length - j; omega⟩
      rw [List.take_add_one, List.take_add_one, htj, hm, hn, hmn]
    · have d5 : (!(m == n)) = true := by simpa using hmn
      refine run ?_
      exact ⟨by rw [decide_eq_false fun e => hmn (by rw [e, hy] at hx; simp at hx; rw [← hx, hn] at hm; simpa using hm.symm)]; rfl, rfl⟩
  · have d4 : decide ((j : Int) < (x.length : Int)) = false := decide_eq_false (by omega)
    refine run ?_
    rw [List.take_of_length_le (by omega), List.take_of_length_le (by omega)] at htj
    refine ⟨i + 1, ⟨rfl, rfl, congrArg (fun z => some (Value.int .i64 z)) w1, trivial⟩, ⟨rfl, by omega, ?_⟩, by show A.length - (i + 1) < A.length - i; omega⟩
    rw [List.take_add_one, List.take_add_one, ht, hx, hy, htj]
end Go.Proofs.Ytnjckiaogikakaa
/- Package live: what changes nothing else; the reference's needs. -/
set_option linter.unusedVariables false
set_option linter.unusedSimpArgs false
set_option maxRecDepth 20000
set_option maxHeartbeats 4000000
namespace Go.Proofs.Ytnjckiaogikakaa
open Go Ax
def PureP (o : OpX) : Prop := 2 ≤ o.kind ∧ o.kind ≤ 5
instance (o : OpX) : Decidable (PureP o) := by unfold PureP; infer_instance
theorem irPure_ax (H : Heap) (o : OpX) (rv cv mv : Value) : AX Try.prog 23 #[opV o rv cv mv] H (fun v H' => v = .bool (decide (PureP o)) ∧ H' = H) := by
  refine AX.quiet ?_
  suffices hh : AX Try.prog 23 #[opV o rv cv mv] H (fun v H' => v = .bool (decide (PureP o)) ∧ Grow H H') from hh.mono fun v _ ⟨e, g⟩ => ⟨e ▸ plain_bool _, e, g⟩
  refine AX.body (n := 21) (rs := [.tmp 2]) Try.func23 rfl (by decide) rfl rfl (bC_sound _ _ _ _ ?_)
  (conv => whnf)
  refine Ob2.box rfl fun q1 H1 hq1 a1 g => ?_
  have b1 := hblk_of a1
  by_cases h2 : o.kind = 2
  · have e : (o.kind == 2) = true := by simpa using h2
    refine run ?_
    exact ⟨congrArg Value.bool (by rw [decide_eq_true (show PureP o from ⟨by omega, by omega⟩)]), g⟩
  have e2 : (o.kind == 2) = false := by simpa using h2
  by_cases h3 : o.kind = 3
  · have e : (o.kind == 3) = true := by simpa using h3
    refine run ?_
    exact ⟨congrArg Value.bool (by rw [decide_eq_true (show PureP o from ⟨by omega, by omega⟩)]), g⟩
  have e3 : (o.kind == 3) = false := by simpa using h3
  by_cases h4 : o.kind = 4
  · have e : (o.kind == 4) = true := by simpa using h4
    refine run ?_
    exact ⟨congrArg Value.bool (by rw [decide_eq_true (show PureP o from ⟨by omega, by omega⟩)]), g⟩
  have e4 : (o.kind == 4) = false := by simpa using h4
  refine run ?_
  refine ⟨congrArg Value.bool ?_, g⟩
  rw [Bool.eq_iff_iff, beq_iff_eq, decide_eq_true_eq]
  unfold PureP
  omega
theorem refPure_ax (H : Heap) (o : OpX) (rv cv mv : Value) : AX Try.prog 25 #[opV o rv cv mv] H (fun v H' => v = .bool (decide (PureP o)) ∧ H' = H) := by
  refine AX.quiet ?_
  suffices hh : AX Try.prog 25 #[opV o rv cv mv] H (fun v H' => v = .bool (decide (PureP o)) ∧ Grow H H') from hh.mono fun v _ ⟨e, g⟩ => ⟨e ▸ plain_bool _, e, g⟩
  refine AX.body (n := 11) (rs := [.tmp 2]) Try.func25 rfl (by decide) rfl rfl (bC_sound _ _ _ _ ?_)
  (conv => whnf)
  refine Ob2.box rfl fun q1 H1 hq1 a1 g => ?_
  have b1 := hblk_of a1
  by_cases h2 : o.kind ≥ 2
  · have e : decide (o.kind ≥ 2) = true := decide_eq_true h2
    refine run ?_
    refine ⟨congrArg Value.bool ?_, g⟩
    rw [Bool.eq_iff_iff, decide_eq_true_eq, decide_eq_true_eq]
    exact ⟨fun h => ⟨h2, h⟩, fun h => h.2⟩
  · have e : decide (o.kind ≥ 2) = false := decide_eq_false h2
    refine run ?_
    refine ⟨congrArg Value.bool ?_, g⟩
    rw [decide_eq_false (show ¬ PureP o from fun h => h2 h.1)]
    try first | exact e | rfl
end Go.Proofs.Ytnjckiaogikakaa
/- The reference of live: whether an operation needs a register. -/
set_option linter.unusedVariables false
set_option linter.unusedSimpArgs false
set_option maxRecDepth 20000
set_option maxHeartbeats 4000000
namespace Go.Proofs.Ytnjckiaogikakaa
open Go Ax
theorem uses_len {o : OpX} (hL : o.regs.length ≤ 100000) : (usesL o).length ≤ 100004 := by
  unfold usesL
  simp only [List.length_append]
  split <;> split <;> split <;> simp <;> omega
theorem refNeeds_ax {H : Heap} {o : OpX} {rv cv mv : Value} {loc : Int} {r : Nat} (hr : RL 1 intR H rv o.regs) (hm : RL 1 intR H mv o.map) (hL : o.regs.length ≤ 100000) (hM : o.map.length ≤ 100000) :
    AX Try.prog 15 #[opV o rv cv mv, .int .i64 loc, .int .i64 (r : Int)] H (fun v H' => v = .bool (decide (NeedP o loc r)) ∧ H' = H) := by
  refine AX.quiet ?_
  suffices hh : AX Try.prog 15 #[opV o rv cv mv, .int .i64 loc, .int .i64 (r : Int)] H (fun v H' => v = .bool (decide (NeedP o loc r)) ∧ Grow H H') from hh.mono fun v _ ⟨e, g⟩ => ⟨e ▸ plain_bool _, e, g⟩
  refine AX.body (n := 22) (rs := [.tmp 6]) Try.func15 rfl (by decide) rfl rfl (bC_sound _ _ _ _ ?_)
  (conv => whnf)
  refine Ob2.box rfl fun q1 H1 hq1 a1 g1 => ?_
  have b1 := hblk_of a1
  have lo : aload Try.prog 43 (.pointer (some ⟨q1, 0, none⟩)) H1 = some (opV o rv cv mv) := ald_agg rfl rfl rfl b1 rfl
  by_cases h1 : (r : Int) < loc
  · have d1 : decide ((r : Int) < loc) = true := decide_eq_true h1
    refine run ?_
    exact ⟨by rw [decide_eq_true (show NeedP o loc r from .inl h1)]; rfl, g1⟩
  have d1 : decide ((r : Int) < loc) = false := decide_eq_false h1
  refine run ?_
  refine (refUses_ax (intR.grow hr g1) hL).mono ?_
  rintro uv Y ⟨hU, gY⟩
  have b2 := hblk_of (gY.at a1)
  refine run ?_
  refine (hasRef_ax hU (by have := uses_len hL; omega) (r : Int)).mono ?_
  rintro _ Z ⟨rfl, e⟩
  subst Z
  by_cases h2 : (r : Int) ∈ usesL o
  · rw [decide_eq_true h2]
    refine run ?_
    exact ⟨by rw [decide_eq_true (show NeedP o loc r from .inr (.inl h2))]; rfl, g1.trans gY⟩
  rw [decide_eq_false h2]
  refine run ?_
  refine (hasRef_ax (intR.grow hm (g1.trans gY)) (by omega) (r : Int)).mono ?_
  rintro _ Z ⟨rfl, e⟩
  subst Z
  refine run ?_
  refine ⟨?_, g1.trans gY⟩
  by_cases h3 : (r : Int) ∈ o.map
  · rw [decide_eq_true (show NeedP o loc r from .inr (.inr h3)), decide_eq_true h3]; rfl
  · rw [decide_eq_false (show ¬ NeedP o loc r from fun h => h.elim h1 fun h => h.elim h2 h3), decide_eq_false h3]; rfl
end Go.Proofs.Ytnjckiaogikakaa
/- The reference of live: lists of bools; whether it is so behind an operation. -/
set_option linter.unusedVariables false
set_option linter.unusedSimpArgs false
set_option maxRecDepth 20000
set_option maxHeartbeats 4000000
namespace Go.Proofs.Ytnjckiaogikakaa
open Go Ax
def boolR (_ : Heap) (l : List Value) (x : Bool) : Prop := l = [.bool x]
theorem boolR.grow {H H' : Heap} {sv : Value} {L : List Bool} (h : RL 1 boolR H sv L) (g : Grow H H') : RL 1 boolR H' sv L := RL.grow (H := H) (H' := H') (fun _ _ h => h) h g
theorem bool_at {H : Heap} {v : Value} {L : List Bool} (h : RL 1 boolR H v L) {i : Nat} {x : Bool} (hx : L[i]? = some x) :
    ∃ p, aindexAddr Try.prog 39 v (.int .i64 (i : Int)) = some p ∧ ∀ H', Grow H H' → aload Try.prog 4 p H' = some (.bool x) := by
  obtain ⟨b, c, l, h1, h2, h3, h4⟩ := h.at (P := Try.prog) (t := 39) (e := 4) rfl rfl hx
  have h4 : l = [.bool x] := h4
  subst h4
  exact ⟨_, h1, fun H' g => ald rfl rfl (g.hblk h2) (slots_get (j := 0) h3 rfl)⟩
/-- Is it so at one that comes behind an operation? -/
def Behind (o : OpX) (at_ : Nat) (A : List Bool) : Prop := ∃ t ∈ tgtL o at_, A[t.toNat]? = some true
theorem behind_ax {H : Heap} {b : BodyX} {kv ov dv av : Value} {A : List Bool} (hb : BodyIn H b kv ov dv) (hA : RL 1 boolR H av A) (hL : b.ops.length < 4294967296) {at_ : Nat} {o : OpX} (ho : b.ops[at_]? = some o)
    (ht : ∀ t ∈ tgtL o at_, 0 ≤ t ∧ t < A.length) :
    AX Try.prog 41 #[bodyV b kv ov dv, av, .int .i64 (at_ : Int)] H (fun v H' => (∃ r, v = .bool r ∧ (r = true ↔ Behind o at_ A)) ∧ H' = H) := by
  refine AX.quiet ?_
  suffices hh : AX Try.prog 41 #[bodyV b kv ov dv, av, .int .i64 (at_ : Int)] H (fun v H' => (∃ r, v = .bool r ∧ (r = true ↔ Behind o at_ A)) ∧ Grow H H') from hh.mono fun v _ ⟨⟨r, e, k⟩, g⟩ => ⟨e ▸ plain_bool _, ⟨r, e, k⟩, g⟩
  refine AX.body (n := 25) (rs := [.tmp 6]) Try.func41 rfl (by decide) rfl rfl (bC_sound _ _ _ _ ?_)
  (conv => whnf)
  refine Ob2.box rfl fun q1 H1 hq1 a1 g1 => ?_
  have b1 := hblk_of a1
  have lo : aload Try.prog 30 (.pointer (some ⟨q1, 0, none⟩)) H1 = some (bodyV b kv ov dv) := ald_agg rfl rfl rfl b1 rfl
  refine run ?_
  refine (refTargets_ax (hb.grow g1) hL ho).mono ?_
  rintro tv Y ⟨hT, gY⟩
  have g := g1.trans gY
  have lt1 := hT.len (P := Try.prog) (t := 35) (e := 3) rfl Y
  have htl : (tgtL o at_).length ≤ 2 := by unfold tgtL; split; simp; split; simp; split <;> simp
  have hAY := boolR.grow hA g
  refine run ?_
  refine SW.loop (α := Nat) (fun i => [(1, av), (7, tv), (8, .int .i64 (i : Int))]) (fun i X => X = Y ∧ i ≤ (tgtL o at_).length ∧ ∀ t ∈ (tgtL o at_).take i, A[t.toNat]? ≠ some true) (fun i => (tgtL o at_).length - i) ⟨0, ⟨rfl, rfl, rfl, trivial⟩, rfl, Nat.zero_le _, by simp⟩ ?_
  rintro i X ⟨e, hi, hno⟩
  subst X
  refine bC_sound _ _ _ _ ?_
  by_cases hil : i < (tgtL o at_).length
  · have d1 : decide ((i : Int) < ((tgtL o at_).length : Int)) = true := decide_eq_true (by omega)
    obtain ⟨t, htt⟩ := get_lt (L := tgtL o at_) (m := i) hil
    have hmem := List.mem_of_getElem? htt
    obtain ⟨t0, t1⟩ := ht t hmem
    obtain ⟨n, rfl⟩ : ∃ n : Nat, t = (n : Int) := ⟨t.toNat, by omega⟩
    obtain ⟨x, hx⟩ := get_lt (L := A) (m := n) (by omega)
    obtain ⟨p, p1, p2⟩ := int_at hT htt
    obtain ⟨q, q1', q2⟩ := bool_at hAY hx
    have p3 := p2 Y (.refl _)
    have q3 := q2 Y (.refl _)
    have w1 := w_succ (k := i) (by omega)
    cases x with
    | true =>
      refine run ?_
      exact ⟨⟨true, rfl, fun _ => ⟨_, hmem, by rw [Int.toNat_natCast]; exact hx⟩, fun _ => rfl⟩, g⟩
    | false =>
      refine run ?_
      refine ⟨i + 1, ⟨rfl, rfl, congrArg (fun z => some (Value.int .i64 z)) w1, trivial⟩, ⟨rfl, by omega, fun t h => ?_⟩, by show (tgtL o at_).length - (i + 1) < (tgtL o at_).length - i; omega⟩
      rw [List.take_add_one, htt] at h
      rcases List.mem_append.1 h with h | h
      · exact hno t h
      · simp only [Option.toList_some, List.mem_singleton] at h
        subst h
        rw [Int.toNat_natCast, hx]
        simp
  · have d1 : decide ((i : Int) < ((tgtL o at_).length : Int)) = false := decide_eq_false (by omega)
    rw [List.take_of_length_le (by omega)] at hno
    refine run ?_
    exact ⟨⟨false, rfl, fun h => by simp at h, fun ⟨t, h1, h2⟩ => absurd h2 (hno t h1)⟩, g⟩
end Go.Proofs.Ytnjckiaogikakaa
/- Package live in plain data: ahead of which operations a register is needed. -/
set_option linter.unusedVariables false
set_option linter.unusedSimpArgs false
set_option maxRecDepth 20000
set_option maxHeartbeats 4000000
namespace Go.Proofs.Ytnjckiaogikakaa
open Go Ax
inductive LiveAt (b : BodyX) (loc : Int) (r : Nat) : Nat → Prop
  | need {i : Nat} {o : OpX} : b.ops[i]? = some o → NeedP o loc r → LiveAt b loc r i
  | go {i : Nat} {o : OpX} {t : Int} : b.ops[i]? = some o → defL o ≠ (r : Int) → t ∈ tgtL o i → LiveAt b loc r t.toNat → LiveAt b loc r i
def LiveBehind (b : BodyX) (loc : Int) (r i : Nat) : Prop := ∃ o t, b.ops[i]? = some o ∧ t ∈ tgtL o i ∧ LiveAt b loc r t.toNat
/-- The equation. -/
theorem live_iff {b : BodyX} {loc : Int} {r i : Nat} {o : OpX} (ho : b.ops[i]? = some o) : LiveAt b loc r i ↔ NeedP o loc r ∨ defL o ≠ (r : Int) ∧ LiveBehind b loc r i := by
  constructor
  · intro h
    cases h with
    | need h1 h2 => rw [ho] at h1; simp only [Option.some.injEq] at h1; subst h1; exact .inl h2
    | go h1 h2 h3 h4 => rw [ho] at h1; simp only [Option.some.injEq] at h1; subst h1; exact .inr ⟨h2, _, _, ho, h3, h4⟩
  · rintro (h | ⟨h, o', t, h1, h2, h3⟩)
    · exact .need ho h
    · rw [ho] at h1; simp only [Option.some.injEq] at h1; subst h1; exact .go ho h h2 h3
/-- What is closed holds all. -/
theorem live_least {b : BodyX} {loc : Int} {r : Nat} {F : Nat → Prop} (h : ∀ (i : Nat) (o : OpX), b.ops[i]? = some o → (NeedP o loc r ∨ defL o ≠ (r : Int) ∧ ∃ t ∈ tgtL o i, F t.toNat) → F i) {i : Nat} (k : LiveAt b loc r i) : F i := by
  induction k with
  | need h1 h2 => exact h _ _ h1 (.inl h2)
  | go h1 h2 h3 _ ih => exact h _ _ h1 (.inr ⟨h2, _, h3, ih⟩)
end Go.Proofs.Ytnjckiaogikakaa
/- Where the operations of a body that may be go, and which registers they name (as in c20/PfIrSafe). -/
set_option linter.unusedVariables false
set_option linter.unusedSimpArgs false
set_option maxRecDepth 20000
set_option maxHeartbeats 4000000
namespace Go.Proofs.Ytnjckiaogikakaa
open Go Ax
theorem ldx_op8 {H : Heap} {sv : Value} {L : List OpX} (h : RL 9 opxR H sv L) {i : Nat} {o : OpX} (hx : L[i]? = some o) :
    ∃ b rv cv mv, aindexAddr Try.prog 27 sv (.int .i64 (i : Int)) = some (.pointer (some ⟨b, i * 9, none⟩)) ∧ RL 1 intR H rv o.regs ∧ RL 3 caseR H cv o.cases ∧ RL 1 intR H mv o.map ∧
      (∀ H', Grow H H' → aload Try.prog 43 (.pointer (some ⟨b, i * 9, none⟩)) H' = some (opV o rv cv mv) ∧ aload Try.prog 3 (.pointer (some ⟨b, i * 9, none⟩)) H' = some (.int .i64 o.kind)) ∧
      ∀ H', Grow H H' → aload Try.prog 35 (.pointer (some ⟨b, i * 9 + 8, none⟩)) H' = some mv := by
  obtain ⟨b, c, l, h1, h2, h3, rv, cv, mv, rfl, h5, h6, h7⟩ := h.at (P := Try.prog) (t := 27) (e := 43) rfl rfl hx
  exact ⟨b, rv, cv, mv, h1, h5, h6, h7, fun H' g => ⟨ald_agg rfl rfl rfl (g.hblk h2) h3, ald rfl rfl (g.hblk h2) (slots_get (j := 0) h3 rfl)⟩, fun H' g => ald rfl rfl (g.hblk h2) (slots_get (j := 8) h3 rfl)⟩
theorem regs_app {m : Int} {A B : List Int} (h : RegsP m A) (k : RegsP m B) : RegsP m (A ++ B) := fun x hx => by
  rcases List.mem_append.1 hx with hx | hx
  · exact h x hx
  · exact k x hx
/-- Where an operation of a body that may be goes. -/
theorem tgt_safe {p : ProgT} {c : CodeT} {b : BodyX} {L : List Int} {k : Nat} {o : OpX} (ho : b.ops[k]? = some o) (h : opP (limsOf p c b) L b.ops k o) (hl : lastK b.ops = 17 ∨ lastK b.ops = 24) {t : Int} (ht : t ∈ tgtL o k) :
    0 ≤ t ∧ t < b.ops.length ∧ (t ≤ k → kindAt b.ops t = 1) := by
  obtain ⟨hk, h1, h2, h3, h4⟩ := h
  have hlt := lt_of_get ho
  have hno : (limsOf p c b).no = b.ops.length := rfl
  have key : jumps o.kind = true → 0 ≤ o.a ∧ o.a < b.ops.length ∧ (o.a ≤ k → kindAt b.ops o.a = 1) := fun hj => by
    have := h2.jump hj
    rw [hno] at this
    refine ⟨this.1, this.2, fun hle => ?_⟩
    rcases h4 hj with h | h
    · omega
    · exact h
  have nxt : o.kind ≠ 24 → o.kind ≠ 17 → (k : Int) + 1 < b.ops.length := fun e1 e2 => by
    refine Decidable.byContradiction fun hn => ?_
    have : k = b.ops.length - 1 := by omega
    have hk' : lastK b.ops = o.kind := by
      unfold lastK kindAt
      rw [show ((b.ops.length : Int) - 1).toNat = k by omega, List.getD_eq_getElem?_getD, ho]
      rfl
    omega
  unfold tgtL at ht
  split at ht
  · simp at ht
  · rename_i e24
    split at ht
    · rename_i e17
      simp only [List.mem_singleton] at ht
      subst ht
      exact key (by simp [jumps, e17])
    · rename_i e17
      have hn := nxt e24 e17
      split at ht
      · rename_i hj
        simp only [List.mem_cons, List.not_mem_nil, or_false] at ht
        rcases ht with rfl | rfl
        · exact ⟨by omega, hn, fun h => by omega⟩
        · exact key hj
      · simp only [List.mem_singleton] at ht
        subst ht
        exact ⟨by omega, hn, fun h => by omega⟩
theorem uses_safe {p : ProgT} {c : CodeT} {b : BodyX} {L : List Int} {k : Nat} {o : OpX} (h : opP (limsOf p c b) L b.ops k o) : ∀ x ∈ usesL o, 0 ≤ x ∧ x < b.regs := by
  obtain ⟨hk, h1, h2, h3, h4⟩ := h
  have part : ∀ i, i < 4 → isR o.kind i = true → 0 ≤ partN o i ∧ partN o i < b.regs := fun i hi hr => by
    have := h2 i hi
    have e : fl o.kind i = 114 := by simpa [isR] using hr
    rw [e] at this
    exact this
  intro x hx
  unfold usesL at hx
  simp only [List.mem_append] at hx
  rcases hx with (((hx | hx) | hx) | hx) | hx
  · simp at hx
  · split at hx
    · rename_i hr; simp only [List.mem_singleton] at hx; subst hx; exact part 0 (by decide) hr
    · simp at hx
  · split at hx
    · rename_i hr; simp only [List.mem_singleton] at hx; subst hx; exact part 1 (by decide) hr
    · simp at hx
  · split at hx
    · rename_i hr; simp only [List.mem_singleton] at hx; subst hx; exact part 2 (by decide) hr
    · simp at hx
  · exact h1.2.2.1 x hx
end Go.Proofs.Ytnjckiaogikakaa
/- Package live in plain data: what grows comes to an end. -/
set_option linter.unusedVariables false
set_option linter.unusedSimpArgs false
set_option maxRecDepth 20000
set_option maxHeartbeats 4000000
namespace Go.Proofs.Ytnjckiaogikakaa
open Go Ax
theorem count_set : ∀ (A : List Bool) (i : Nat), A[i]? = some false → (A.set i true).count true = A.count true + 1
  | [], i, h => by simp at h
  | a :: A, 0, h => by
    simp only [List.getElem?_cons_zero, Option.some.injEq] at h
    subst h
    simp
  | a :: A, i + 1, h => by
    simp only [List.getElem?_cons_succ] at h
    have := count_set A i h
    simp only [List.set_cons_succ, List.count_cons]
    omega
/-- Sound: what is told is so. -/
def SoundA (b : BodyX) (loc : Int) (r : Nat) (A : List Bool) : Prop := A.length = b.ops.length ∧ ∀ i : Nat, A[i]? = some true → LiveAt b loc r i
/-- What one would tell of an operation. -/
def Tells (o : OpX) (loc : Int) (r at_ : Nat) (A : List Bool) : Prop := NeedP o loc r ∨ defL o ≠ (r : Int) ∧ Behind o at_ A
theorem SoundA.set {b : BodyX} {loc : Int} {r : Nat} {A : List Bool} (h : SoundA b loc r A) {i : Nat} {o : OpX} (ho : b.ops[i]? = some o) (ht : Tells o loc r i A) : SoundA b loc r (A.set i true) := by
  refine ⟨by simpa using h.1, fun j hj => ?_⟩
  by_cases hij : i = j
  · subst hij
    rcases ht with ht | ⟨h1, t, h2, h3⟩
    · exact .need ho ht
    · exact .go ho h1 h2 (h.2 _ h3)
  · rw [List.getElem?_set_ne hij] at hj
    exact h.2 j hj
/-- Where nothing more is told all is told. -/
theorem SoundA.all {b : BodyX} {loc : Int} {r : Nat} {A : List Bool} (h : SoundA b loc r A) (hc : ∀ (i : Nat) (o : OpX), b.ops[i]? = some o → A[i]? = some true ∨ ¬ Tells o loc r i A) (i : Nat) : A[i]? = some true ↔ LiveAt b loc r i := by
  refine ⟨h.2 i, fun k => live_least (F := fun i => A[i]? = some true) (fun j o ho ht => ?_) k⟩
  rcases hc j o ho with hh | hh
  · exact hh
  · exact absurd (ht.imp id fun ⟨h1, t, h2, h3⟩ => ⟨h1, t, h2, h3⟩) hh
end Go.Proofs.Ytnjckiaogikakaa
/- Package live in plain data: sets of registers that grow till nothing more comes. -/
set_option linter.unusedVariables false
set_option linter.unusedSimpArgs false
set_option maxRecDepth 20000
set_option maxHeartbeats 4000000
namespace Go.Proofs.Ytnjckiaogikakaa
open Go Ax
def cntS (s : RS) : Nat := (List.range 128).countP (mem s)
theorem countP_lt {p q : Nat → Bool} : ∀ {l : List Nat}, (∀ x ∈ l, p x = true → q x = true) → (∃ x ∈ l, q x = true ∧ p x = false) → l.countP p < l.countP q
  | [], _, h => by obtain ⟨_, h, _⟩ := h; simp at h
  | a :: l, h1, h2 => by
    have hle : l.countP p ≤ l.countP q := List.countP_mono_left fun x hx => h1 x (List.mem_cons_of_mem _ hx)
    rw [List.countP_cons, List.countP_cons]
    obtain ⟨x, hx, hq, hp⟩ := h2
    rcases List.mem_cons.1 hx with rfl | hx
    · rw [hq, hp]; simp; omega
    · have := countP_lt (l := l) (fun x hx => h1 x (List.mem_cons_of_mem _ hx)) ⟨x, hx, hq, hp⟩
      have ha := h1 a (by simp)
      by_cases hpa : p a = true
      · rw [if_pos hpa, if_pos (ha hpa)]; omega
      · rw [if_neg hpa]; omega
theorem cntS_le (s : RS) : cntS s ≤ 128 := by
  have := List.countP_le_length (p := mem s) (l := List.range 128)
  rwa [List.length_range] at this
theorem cnt_le {s t : RS} (h : ∀ q, q < 128 → mem s q = true → mem t q = true) : cntS s ≤ cntS t := List.countP_mono_left fun x hx => h x (List.mem_range.1 hx)
theorem cnt_lt {s t : RS} (hs : okS s) (ht : okS t) (h : ∀ q, q < 128 → mem s q = true → mem t q = true) (hne : s ≠ t) : cntS s < cntS t := by
  refine countP_lt (fun x hx => h x (List.mem_range.1 hx)) (Decidable.byContradiction fun hno => hne (set_ext hs ht fun q hq => ?_))
  cases h1 : mem s q with
  | true => rw [h q hq h1]
  | false =>
    cases h2 : mem t q with
    | false => rfl
    | true => exact absurd ⟨q, List.mem_range.2 hq, h2, h1⟩ hno
def bits (I : List RS) : Nat := (I.map cntS).sum
theorem bits_le : ∀ (I : List RS), bits I ≤ 128 * I.length
  | [] => Nat.le_refl _
  | s :: I => by have := bits_le I; have := cntS_le s; unfold bits at *; simp only [List.map_cons, List.sum_cons, List.length_cons]; omega
theorem bits_set : ∀ {I : List RS} {i : Nat} {s : RS} (t : RS), I[i]? = some s → bits (I.set i t) + cntS s = bits I + cntS t
  | [], i, s, t, h => by simp at h
  | a :: I, 0, s, t, h => by
    simp only [List.getElem?_cons_zero, Option.some.injEq] at h
    subst h
    unfold bits
    simp only [List.set_cons_zero, List.map_cons, List.sum_cons]
    omega
  | a :: I, i + 1, s, t, h => by
    simp only [List.getElem?_cons_succ] at h
    have := bits_set t h
    unfold bits at *
    simp only [List.set_cons_succ, List.map_cons, List.sum_cons]
    omega
/-- Behind an operation, so far. -/
def BehI (I : List RS) (o : OpX) (i r : Nat) : Prop := ∃ t ∈ tgtL o i, ∃ s, I[t.toNat]? = some s ∧ mem s r = true
def AhI (loc : Int) (I : List RS) (o : OpX) (i r : Nat) : Prop := NeedP o loc r ∨ defL o ≠ (r : Int) ∧ BehI I o i r
/-- All that is told is so, and follows from what is told. -/
structure LvS (b : BodyX) (loc : Int) (I O : List RS) : Prop where
  li : I.length = b.ops.length
  lo : O.length = b.ops.length
  oki : ∀ (i : Nat) s, I[i]? = some s → okS s
  oko : ∀ (i : Nat) s, O[i]? = some s → okS s
  snd : ∀ (i : Nat) s, I[i]? = some s → ∀ r, r < 128 → mem s r = true → LiveAt b loc r i
  mi : ∀ (i : Nat) s o, I[i]? = some s → b.ops[i]? = some o → ∀ r, r < 128 → mem s r = true → AhI loc I o i r
  mo : ∀ (i : Nat) s o, O[i]? = some s → b.ops[i]? = some o → ∀ r, r < 128 → mem s r = true → BehI I o i r
theorem LvS.zero (b : BodyX) (loc : Int) : LvS b loc (List.replicate b.ops.length (0, 0)) (List.replicate b.ops.length (0, 0)) := by
  have h : ∀ (i : Nat) (s : RS), (List.replicate b.ops.length ((0, 0) : RS))[i]? = some s → s = (0, 0) := fun i s h => by
    rw [List.getElem?_replicate] at h; split at h
    · simpa using h.symm
    · simp at h
  refine ⟨by simp, by simp, fun i s hs => ?_, fun i s hs => ?_, fun i s hs r _ hr => ?_, fun i s o hs _ r _ hr => ?_, fun i s o hs _ r _ hr => ?_⟩
  · rw [h i s hs]; exact ⟨by decide, by decide⟩
  · rw [h i s hs]; exact ⟨by decide, by decide⟩
  all_goals
    rw [h i s hs, mem_zero] at hr
    simp at hr
/-- What is made of what is known: more, or as it was. -/
theorem LvS.step {b : BodyX} {loc : Int} {I O : List RS} (h : LvS b loc I O) {k : Nat} {o : OpX} (ho : b.ops[k]? = some o) {si so sa sb : RS} (hi : I[k]? = some si) (hso : O[k]? = some so)
    (ha : Holds sa (AhI loc I o k)) (hb : Holds sb (BehI I o k)) : LvS b loc (I.set k sa) (O.set k sb) ∧ ((sa ≠ si ∨ sb ≠ so) → bits I + bits O < bits (I.set k sa) + bits (O.set k sb)) := by
  have hsa : ∀ q, q < 128 → mem si q = true → mem sa q = true := fun q hq hm => (ha.2 q hq).2 (h.mi k si o hi ho q hq hm)
  have hsb : ∀ q, q < 128 → mem so q = true → mem sb q = true := fun q hq hm => (hb.2 q hq).2 (h.mo k so o hso ho q hq hm)
  have up : ∀ (i : Nat) s q, q < 128 → I[i]? = some s → mem s q = true → ∃ s', (I.set k sa)[i]? = some s' ∧ mem s' q = true := fun i s q hq hs hm => by
    by_cases hik : k = i
    · subst hik
      rw [hi] at hs
      simp only [Option.some.injEq] at hs
      subst hs
      exact ⟨sa, List.getElem?_set_self (lt_of_get hi), hsa q hq hm⟩
    · exact ⟨s, by rw [List.getElem?_set_ne hik]; exact hs, hm⟩
  have upB : ∀ o' i q, q < 128 → BehI I o' i q → BehI (I.set k sa) o' i q := fun o' i q hq ⟨t, ht, s, hs, hm⟩ => ⟨t, ht, up _ s q hq hs hm⟩
  have upA : ∀ o' i q, q < 128 → AhI loc I o' i q → AhI loc (I.set k sa) o' i q := fun o' i q hq hh => hh.imp id fun ⟨h1, h2⟩ => ⟨h1, upB o' i q hq h2⟩
  have sp : ∀ {J : List RS} {s t : RS} {i : Nat}, (J.set k s)[i]? = some t → (k = i ∧ t = s) ∨ (k ≠ i ∧ J[i]? = some t) := fun {J s t i} hh => by
    by_cases hik : k = i
    · subst hik
      rw [List.getElem?_set] at hh
      simp only [if_true] at hh
      split at hh
      · exact .inl ⟨rfl, by simpa using hh.symm⟩
      · simp at hh
    · rw [List.getElem?_set_ne hik] at hh
      exact .inr ⟨hik, hh⟩
  refine ⟨⟨by rw [List.length_set, h.li], by rw [List.length_set, h.lo], fun i s hs => ?_, fun i s hs => ?_, fun i s hs r hr hm => ?_, fun i s o' hs ho' r hr hm => ?_, fun i s o' hs ho' r hr hm => ?_⟩, fun hne => ?_⟩
  · rcases sp hs with ⟨_, rfl⟩ | ⟨_, hs⟩
    · exact ha.1
    · exact h.oki i s hs
  · rcases sp hs with ⟨_, rfl⟩ | ⟨_, hs⟩
    · exact hb.1
    · exact h.oko i s hs
  · rcases sp hs with ⟨rfl, rfl⟩ | ⟨_, hs⟩
    · rcases (ha.2 r hr).1 hm with hh | ⟨h1, t, h2, s', h3, h4⟩
      · exact .need ho hh
      · exact .go ho h1 h2 (h.snd _ s' h3 r hr h4)
    · exact h.snd i s hs r hr hm
  · rcases sp hs with ⟨rfl, rfl⟩ | ⟨_, hs⟩
    · rw [ho] at ho'
      simp only [Option.some.injEq] at ho'
      subst ho'
      exact upA o k r hr ((ha.2 r hr).1 hm)
    · exact upA o' i r hr (h.mi i s o' hs ho' r hr hm)
  · rcases sp hs with ⟨rfl, rfl⟩ | ⟨_, hs⟩
    · rw [ho] at ho'
      simp only [Option.some.injEq] at ho'
      subst ho'
      exact upB o k r hr ((hb.2 r hr).1 hm)
    · exact upB o' i r hr (h.mo i s o' hs ho' r hr hm)
  · have e1 := bits_set sa hi
    have e2 := bits_set sb hso
    have c1 := cnt_le hsa
    have c2 := cnt_le hsb
    rcases hne with hne | hne
    · have := cnt_lt (h.oki k si hi) ha.1 hsa (Ne.symm hne)
      omega
    · have := cnt_lt (h.oko k so hso) hb.1 hsb (Ne.symm hne)
      omega
/-- Where nothing more comes it is all. -/
def StillI (b : BodyX) (loc : Int) (I O : List RS) (i : Nat) : Prop := ∀ o si so, b.ops[i]? = some o → I[i]? = some si → O[i]? = some so → (∀ r, r < 128 → (mem si r = true ↔ AhI loc I o i r)) ∧ ∀ r, r < 128 → (mem so r = true ↔ BehI I o i r)
theorem LvS.all {b : BodyX} {loc : Int} {I O : List RS} (h : LvS b loc I O) (hc : ∀ i, i < b.ops.length → StillI b loc I O i) (ht : ∀ (i : Nat) (o : OpX), b.ops[i]? = some o → ∀ t ∈ tgtL o i, 0 ≤ t ∧ t < b.ops.length) :
    (∀ (i : Nat) s, I[i]? = some s → Holds s (fun r => LiveAt b loc r i)) ∧ ∀ (i : Nat) s, O[i]? = some s → Holds s (fun r => LiveBehind b loc r i) := by
  have at_ : ∀ {i : Nat}, i < b.ops.length → ∃ o si so, b.ops[i]? = some o ∧ I[i]? = some si ∧ O[i]? = some so := fun {i} hi => by
    obtain ⟨o, ho⟩ := get_lt hi
    obtain ⟨si, hsi⟩ := get_lt (L := I) (m := i) (by rw [h.li]; exact hi)
    obtain ⟨so, hso⟩ := get_lt (L := O) (m := i) (by rw [h.lo]; exact hi)
    exact ⟨o, si, so, ho, hsi, hso⟩
  have low : ∀ r, r < 128 → ∀ {i : Nat}, LiveAt b loc r i → ∃ s, I[i]? = some s ∧ mem s r = true := fun r hr {i} k =>
    live_least (F := fun i => ∃ s, I[i]? = some s ∧ mem s r = true) (fun j o ho hh => by
      obtain ⟨o', si, so, h1, h2, h3⟩ := at_ (lt_of_get ho)
      exact ⟨si, h2, ((hc j (lt_of_get ho) o si so ho h2 h3).1 r hr).2 (hh.imp id fun ⟨h1, t, h2, s, h3⟩ => ⟨h1, t, h2, s, h3⟩)⟩) k
  refine ⟨fun i s hs => ⟨h.oki i s hs, fun r hr => ⟨h.snd i s hs r hr, fun k => ?_⟩⟩, fun i s hs => ⟨h.oko i s hs, fun r hr => ?_⟩⟩
  · obtain ⟨s', h1, h2⟩ := low r hr k
    rw [hs] at h1
    simp only [Option.some.injEq] at h1
    rw [h1]; exact h2
  · have hi : i < b.ops.length := by have := lt_of_get hs; rw [h.lo] at this; exact this
    obtain ⟨o, si, so, h1, h2, h3⟩ := at_ hi
    rw [hs] at h3
    simp only [Option.some.injEq] at h3
    subst h3
    rw [(hc i hi o si s h1 h2 hs).2 r hr]
    constructor
    · rintro ⟨t, ht', s', k1, k2⟩
      exact ⟨o, t, h1, ht', h.snd _ s' k1 r hr k2⟩
    · rintro ⟨o', t, k1, k2, k3⟩
      rw [h1] at k1
      simp only [Option.some.injEq] at k1
      subst k1
      obtain ⟨s', k4, k5⟩ := low r hr k3
      exact ⟨t, k2, s', k4, k5⟩
end Go.Proofs.Ytnjckiaogikakaa
/- Package live: rows of sets; the sets ahead of operations, and behind them. -/
set_option linter.unusedVariables false
set_option linter.unusedSimpArgs false
set_option maxRecDepth 20000
set_option maxHeartbeats 4000000
namespace Go.Proofs.Ytnjckiaogikakaa
open Go Ax
def setR (_ : Heap) (l : List Value) (s : RS) : Prop := l = setL s
theorem setR.grow {H H' : Heap} {sv : Value} {L : List RS} (h : RL 2 setR H sv L) (g : Grow H H') : RL 2 setR H' sv L := RL.grow (H := H) (H' := H') (fun _ _ h => h) h g
def rowS (I : List RS) : List Value := I.flatMap setL
theorem rowS_len : ∀ (I : List RS), (rowS I).length = I.length * 2
  | [] => rfl
  | s :: I => by have := rowS_len I; unfold rowS at *; simp only [List.flatMap_cons, List.length_append, List.length_cons, List.length_nil, this]; omega
theorem rowS_drop : ∀ {I : List RS} {i : Nat} {s : RS}, I[i]? = some s → ((rowS I).drop (i * 2)).take 2 = setL s
  | [], i, s, h => by simp at h
  | a :: I, 0, s, h => by
    simp only [List.getElem?_cons_zero, Option.some.injEq] at h
    subst h
    rfl
  | a :: I, i + 1, s, h => by
    simp only [List.getElem?_cons_succ] at h
    have := rowS_drop h
    unfold rowS at *
    rw [List.flatMap_cons, Nat.succ_mul, show i * 2 + 2 = 2 + i * 2 by omega, ← List.drop_drop]
    exact this
theorem rowS_at {I : List RS} {i : Nat} {s : RS} (h : I[i]? = some s) : slotsOf (rowS I) (i * 2) 2 = some (setL s) := by
  have := lt_of_get h
  rw [slots_of (by rw [rowS_len]; omega), rowS_drop h]
theorem rowS_put : ∀ {I : List RS} {i : Nat} (s : RS), i < I.length → putL (rowS I) (i * 2) (setL s) = rowS (I.set i s)
  | [], i, s, h => by simp at h
  | a :: I, 0, s, h => rfl
  | a :: I, i + 1, s, h => by
    have := rowS_put (I := I) (i := i) s (by simpa using h)
    unfold rowS at *
    rw [List.flatMap_cons, List.set_cons_succ, List.flatMap_cons, ← this, Nat.succ_mul]
    rfl
theorem rowS_RL {X : Heap} {b : Nat} {m : Ax.Mode} {I : List RS} (h : X[b]? = some (.cells m (rowS I))) : RL 2 setR X (.slice (some ⟨b, 0, none⟩) I.length 2) I :=
  .inr ⟨b, rfl, .inr ⟨m, _, h, fun i s hs => ⟨_, rowS_at hs, rfl⟩⟩⟩
theorem set_at {H : Heap} {v : Value} {L : List RS} (h : RL 2 setR H v L) {i : Nat} {s : RS} (hx : L[i]? = some s) :
    ∃ p, aindexAddr Try.prog 61 v (.int .i64 (i : Int)) = some p ∧ ∀ H', Grow H H' → aload Try.prog 67 p H' = some (setV s) := by
  obtain ⟨b, c, l, h1, h2, h3, h4⟩ := h.at (P := Try.prog) (t := 61) (e := 67) rfl rfl hx
  have h4 : l = setL s := h4
  subst h4
  exact ⟨_, h1, fun H' g => ald_agg rfl rfl rfl (g.hblk h2) h3⟩
theorem zerosS : ∀ (n : Nat), zerosL [.int .u64 0, .int .u64 0] n = rowS (List.replicate n (0, 0))
  | 0 => rfl
  | n + 1 => by rw [List.replicate_succ]; show [_, _] ++ zerosL _ n = setL (0, 0) ++ rowS _; rw [zerosS n]; rfl
theorem ne_sets {s t : RS} : abin Try.prog .neq 67 (setV s) (setV t) = some (.bool (decide (s ≠ t))) := by
  have e : abin Try.prog .neq 67 (setV s) (setV t) = some (.bool (!((((s.1 : Int) == (t.1 : Int))) && (((s.2 : Int) == (t.2 : Int)) && true)))) := rfl
  rw [e]
  congr 2
  obtain ⟨a, b⟩ := s
  obtain ⟨c, d⟩ := t
  by_cases h1 : a = c
  · by_cases h2 : b = d
    · simp [h1, h2]
    · simp [h1, h2]; omega
  · simp [h1]; omega
theorem ix_set {n i b : Nat} (hn : i < n) : aindexAddr Try.prog 61 (.slice (some ⟨b, 0, none⟩) n 2) (.int .i64 (i : Int)) = some (.pointer (some ⟨b, i * 2, none⟩)) := by
  rw [idx_slice (k := 2) rfl rfl (by omega) (by omega)]; simp
theorem ld_set {X : Heap} {I : List RS} {m : Ax.Mode} {i b : Nat} {s : RS} (h : X[b]? = some (.cells m (rowS I))) (hs : I[i]? = some s) : aload Try.prog 67 (.pointer (some ⟨b, i * 2, none⟩)) X = some (setV s) := ald_agg rfl rfl rfl (hblk_of h) (rowS_at hs)
def SRow (q : Nat) (I : List RS) (K : Heap) : Prop := K[q]? = some (.cells (.row 67) (rowS I))
end Go.Proofs.Ytnjckiaogikakaa
/- Package live: the sets ahead of operations, and behind them. -/
set_option linter.unusedVariables false
set_option linter.unusedSimpArgs false
set_option maxRecDepth 20000
set_option maxHeartbeats 4000000
namespace Go.Proofs.Ytnjckiaogikakaa
open Go Ax
theorem sets_ax {H : Heap} {p : ProgT} {ps cs kv ov dv : Value} {c : CodeT} {b : BodyX} {f loc : Nat} (hcs : RL 5 codeR H cs p.2.2) (hb : BodyIn H b kv ov dv) (hL : b.ops.length ≤ 100000) (hF : b.F = (f : Int)) (hf : p.2.2[f]? = some c)
    (hloc : c.2.1 = (loc : Int)) (hl128 : loc ≤ 128)
    (ht : ∀ (i : Nat) (o : OpX), b.ops[i]? = some o → ∀ t ∈ tgtL o i, 0 ≤ t ∧ t < b.ops.length) (hr : ∀ o ∈ b.ops, o.regs.length ≤ 100000 ∧ o.map.length ≤ 100000)
    (hu : ∀ o ∈ b.ops, (∀ x ∈ usesL o, 0 ≤ x ∧ x < 128) ∧ (∀ x ∈ o.map, 0 ≤ x ∧ x < 128) ∧ -1 ≤ defL o ∧ defL o < 128) :
    AX Try.prog 22 #[progV p ps cs, bodyV b kv ov dv] H (fun v H' => (∃ iv uv I O, v = .tuple #[iv, uv] ∧ RL 2 setR H' iv I ∧ RL 2 setR H' uv O ∧ I.length = b.ops.length ∧ O.length = b.ops.length ∧
      (∀ (i : Nat) s, I[i]? = some s → Holds s (fun r => LiveAt b loc r i)) ∧ ∀ (i : Nat) s, O[i]? = some s → Holds s (fun r => LiveBehind b loc r i)) ∧ Grow H H') := by
  obtain ⟨bq, j1, j2⟩ := ldx_code hcs hf
  have l4 := fun X => hb.ops.len (P := Try.prog) (t := 27) (e := 43) rfl X
  rw [← hF] at j1
  refine AX.body (n := 94) (rs := [.tmp 4, .tmp 5]) Try.func22 rfl (by decide) rfl rfl (bC_sound _ _ _ _ ?_)
  (conv => whnf)
  refine Ob2.box rfl fun q2 H1 hq2 a2 g1 => ?_
  (conv => whnf)
  refine Ob2.box rfl fun q3 H2 hq3 a3 g2 => ?_
  have b2 := hblk_of (g2.at a2)
  have b3 := hblk_of a3
  have g := g1.trans g2
  refine run ?_
  generalize hn : b.ops.length = n at *
  refine SW.sub (F := [(2, _), (3, _)]) ?_ (Sub.of ⟨rfl, rfl, trivial⟩)
  refine SW.drawB 9 (fun i F v K => match i with | 0 => v = .pointer (some ⟨q3, 3, none⟩) | 1 => v = ov | 2 => v = .int .i64 n | 3 => ∃ q, v = .slice (some ⟨q, 0, none⟩) n 2 ∧ H2.length ≤ q ∧ SRow q (List.replicate n (0, 0)) K | 4 => v = .pointer (some ⟨q3, 3, none⟩) | 5 => v = ov | 6 => v = .int .i64 n | 7 => ∃ q, v = .slice (some ⟨q, 0, none⟩) n 2 ∧ H2.length ≤ q ∧ SRow q (List.replicate n (0, 0)) K | 8 => getF F 18 = some v | _ => True) (fun i => Nat.beq i 3 || Nat.beq i 7) rfl (by kernel_rfl) ?_ ?_ ?_
  · intro i F v K K1 h g
    match i, h with
    | 0, h => exact h
    | 1, h => exact h
    | 2, h => exact h
    | 3, h => exact let ⟨q, h1, h2, h3⟩ := h; ⟨q, h1, h2, g.at h3⟩
    | 4, h => exact h
    | 5, h => exact h
    | 6, h => exact h
    | 7, h => exact let ⟨q, h1, h2, h3⟩ := h; ⟨q, h1, h2, g.at h3⟩
    | 8, h => exact h
    | i + 9, h => trivial
  · intro i oX V K hi hoX hg hT
    have b2 := hg.hblk b2
    have b3 := hg.hblk b3
    have l4K := l4 K
    match i, hi, hoX, hT with
    | 0, hi, hoX, hT =>
      obtain rfl := Option.some.inj hoX
      rw [envOf_eq, show pairsOf _ _ 0 = [] from by kernel_rfl, show exOf _ _ 0 = [19, 20, 21, 22] from by kernel_rfl]
      (try simp only [valsOf])
      refine run ?_
      exact ⟨.refl _, rfl, fun h => absurd h (by decide)⟩
    | 1, hi, hoX, hT =>
      obtain rfl := Option.some.inj hoX
      have e0 := hT 0 (by kernel_rfl)
      (conv at e0 => whnf)
      rw [envOf_eq, show pairsOf _ _ 1 = [(15, 0)] from by kernel_rfl, show exOf _ _ 1 = [15, 19, 20, 21, 22] from by kernel_rfl]
      (try simp only [valsOf, e0])
      refine run ?_
      exact ⟨.refl _, rfl, fun h => absurd h (by decide)⟩
    | 2, hi, hoX, hT =>
      obtain rfl := Option.some.inj hoX
      have e0 := hT 0 (by kernel_rfl)
      (conv at e0 => whnf)
      have e1 := hT 1 (by kernel_rfl)
      (conv at e1 => whnf)
      rw [envOf_eq, show pairsOf _ _ 2 = [(15, 0), (16, 1)] from by kernel_rfl, show exOf _ _ 2 = [15, 16, 19, 20, 21, 22] from by kernel_rfl]
      (try simp only [valsOf, e0, e1])
      refine run ?_
      exact ⟨.refl _, rfl, fun h => absurd h (by decide)⟩
    | 3, hi, hoX, hT =>
      obtain rfl := Option.some.inj hoX
      have e0 := hT 0 (by kernel_rfl)
      (conv at e0 => whnf)
      have e1 := hT 1 (by kernel_rfl)
      (conv at e1 => whnf)
      have e2 := hT 2 (by kernel_rfl)
      (conv at e2 => whnf)
      rw [envOf_eq, show pairsOf _ _ 3 = [(15, 0), (16, 1), (17, 2)] from by kernel_rfl, show exOf _ _ 3 = [15, 16, 17, 19, 20, 21, 22] from by kernel_rfl]
      (try simp only [valsOf, e0, e1, e2])
      (conv => whnf)
      refine Ob2.of (make_slice rfl rfl rfl rfl (by decide) rfl (by omega) (by omega) (by show 16 * (n : Int) ≤ _; omega)) ?_
      rw [zerosS, Int.toNat_natCast]
      exact ⟨.push _ _, ⟨_, rfl, hg.1, at_push _ _⟩, fun _ bb hb' => ⟨by simp only [blk0, Option.some.injEq] at hb'; omega, by simp only [blk0, Option.some.injEq] at hb'; rw [List.length_append, List.length_singleton]; omega⟩⟩
    | 4, hi, hoX, hT =>
      obtain rfl := Option.some.inj hoX
      rw [envOf_eq, show pairsOf _ _ 4 = [] from by kernel_rfl, show exOf _ _ 4 = [15, 16, 17, 18, 6] from by kernel_rfl]
      (try simp only [valsOf])
      refine run ?_
      exact ⟨.refl _, rfl, fun h => absurd h (by decide)⟩
    | 5, hi, hoX, hT =>
      obtain rfl := Option.some.inj hoX
      have e4 := hT 4 (by kernel_rfl)
      (conv at e4 => whnf)
      rw [envOf_eq, show pairsOf _ _ 5 = [(19, 4)] from by kernel_rfl, show exOf _ _ 5 = [15, 16, 17, 18, 19, 6] from by kernel_rfl]
      (try simp only [valsOf, e4])
      refine run ?_
      exact ⟨.refl _, rfl, fun h => absurd h (by decide)⟩
    | 6, hi, hoX, hT =>
      obtain rfl := Option.some.inj hoX
      have e4 := hT 4 (by kernel_rfl)
      (conv at e4 => whnf)
      have e5 := hT 5 (by kernel_rfl)
      (conv at e5 => whnf)
      rw [envOf_eq, show pairsOf _ _ 6 = [(19, 4), (20, 5)] from by kernel_rfl, show exOf _ _ 6 = [15, 16, 17, 18, 19, 20, 6] from by kernel_rfl]
      (try simp only [valsOf, e4, e5])
      refine run ?_
      exact ⟨.refl _, rfl, fun h => absurd h (by decide)⟩
    | 7, hi, hoX, hT =>
      obtain rfl := Option.some.inj hoX
      have e4 := hT 4 (by kernel_rfl)
      (conv at e4 => whnf)
      have e5 := hT 5 (by kernel_rfl)
      (conv at e5 => whnf)
      have e6 := hT 6 (by kernel_rfl)
      (conv at e6 => whnf)
      rw [envOf_eq, show pairsOf _ _ 7 = [(19, 4), (20, 5), (21, 6)] from by kernel_rfl, show exOf _ _ 7 = [15, 16, 17, 18, 19, 20, 21, 6] from by kernel_rfl]
      (try simp only [valsOf, e4, e5, e6])
      (conv => whnf)
      refine Ob2.of (make_slice rfl rfl rfl rfl (by decide) rfl (by omega) (by omega) (by show 16 * (n : Int) ≤ _; omega)) ?_
      rw [zerosS, Int.toNat_natCast]
      exact ⟨.push _ _, ⟨_, rfl, hg.1, at_push _ _⟩, fun _ bb hb' => ⟨by simp only [blk0, Option.some.injEq] at hb'; omega, by simp only [blk0, Option.some.injEq] at hb'; rw [List.length_append, List.length_singleton]; omega⟩⟩
    | 8, hi, hoX, hT =>
      obtain rfl := Option.some.inj hoX
      have e0 := hT 0 (by kernel_rfl)
      (conv at e0 => whnf)
      have e1 := hT 1 (by kernel_rfl)
      (conv at e1 => whnf)
      have e2 := hT 2 (by kernel_rfl)
      (conv at e2 => whnf)
      have e3 := hT 3 (by kernel_rfl)
      (conv at e3 => whnf)
      rw [envOf_eq, show pairsOf _ _ 8 = [(15, 0), (16, 1), (17, 2), (18, 3)] from by kernel_rfl, show exOf _ _ 8 = [15, 16, 17, 18, 19, 20, 21, 22] from by kernel_rfl]
      (try simp only [valsOf, e0, e1, e2])
      refine run ?_
      exact ⟨.refl _, rfl, fun h => absurd h (by decide)⟩
  intro oX V K hV hoX hg hT hD
  have b2 := hg.hblk b2
  have b3 := hg.hblk b3
  have l4K := l4 K
  obtain rfl := Option.some.inj hoX
  have e0 := hT 0 (by decide)
  (conv at e0 => whnf)
  have e1 := hT 1 (by decide)
  (conv at e1 => whnf)
  have e2 := hT 2 (by decide)
  (conv at e2 => whnf)
  have e3 := hT 3 (by decide)
  try rw [show pairsOf _ _ 3 = [(15, 0), (16, 1), (17, 2)] from by kernel_rfl] at e3
  (try simp only [valsOf] at e3)
  (conv at e3 => whnf)
  have e4 := hT 4 (by decide)
  (conv at e4 => whnf)
  have e5 := hT 5 (by decide)
  (conv at e5 => whnf)
  have e6 := hT 6 (by decide)
  (conv at e6 => whnf)
  have e7 := hT 7 (by decide)
  try rw [show pairsOf _ _ 7 = [(19, 4), (20, 5), (21, 6)] from by kernel_rfl] at e7
  (try simp only [valsOf] at e7)
  (conv at e7 => whnf)
  have e8 := hT 8 (by decide)
  try rw [show pairsOf _ _ 8 = [(15, 0), (16, 1), (17, 2), (18, 3)] from by kernel_rfl] at e8
  (try simp only [valsOf] at e8)
  (conv at e8 => whnf)
  have es : ∀ v k, k ≠ 9 → (V.set 9 v).getD k undef = V.getD k undef := fun v k hk => by rw [getD_set (by omega), if_neg hk]
  have ec : ∀ v, (V.set 9 v).getD 9 undef = v := fun v => by rw [getD_set (by omega), if_pos rfl]
  rw [envOf_eq, show pairsOf _ _ 9 = [(15, 0), (16, 1), (17, 2), (18, 3), (19, 4), (20, 5), (21, 6), (22, 7), (6, 8)] from by kernel_rfl, show exOf _ _ 9 = [15, 16, 17, 18, 19, 20, 21, 22, 6] from by kernel_rfl]
  (try simp only [valsOf, e0, e1, e2, e4, e5, e6])
  obtain ⟨bi, v3, ni, ri⟩ := e3
  obtain ⟨bo, v7, no_, ro⟩ := e7
  have hne : bi ≠ bo := fun e => absurd (hD 3 7 bi (by decide) (by decide) rfl rfl (by rw [v3]; rfl) (by rw [v7, e]; rfl)) (by decide)
  have v8 : V.getD 8 undef = .slice (some ⟨bi, 0, none⟩) n 2 := by
    have e8' : some (V.getD 3 undef) = some (V.getD 8 undef) := e8
    rw [← Option.some.inj e8', v3]
  rw [v3, v7, v8]
  clear hT hD hoX e8
  (conv => whnf)
  (try dsimp only)
  rw [endOf_eq, show endsOf _ = [(15, 0), (16, 1), (17, 2), (18, 3), (19, 4), (20, 5), (21, 6), (22, 7), (6, 8), (7, 9)] from by kernel_rfl]
  simp only [valsOf, ec, es _ 0 (by decide), es _ 1 (by decide), es _ 2 (by decide), es _ 3 (by decide), es _ 4 (by decide), es _ 5 (by decide), es _ 6 (by decide), es _ 7 (by decide), es _ 8 (by decide)]
  (try rw [v8])
  obtain ⟨i3, i4⟩ := j2 K (g.trans hg)
  rw [hloc] at i3
  clear es ec v3 v7 v8 e0 e1 e2 e4 e5 e6 hV
  refine run ?_
  refine SW.loop (α := Bool × List RS × List RS)
    (fun y => [(2, .pointer (some ⟨q2, 0, none⟩)), (3, .pointer (some ⟨q3, 0, none⟩)), (6, .slice (some ⟨bi, 0, none⟩) n 2), (7, .slice (some ⟨bo, 0, none⟩) n 2), (8, .int .i64 (loc : Int)), (9, .bool y.1)])
    (fun y X => Grow H2 X ∧ SRow bi y.2.1 X ∧ SRow bo y.2.2 X ∧ LvS b loc y.2.1 y.2.2 ∧ (y.1 = false → ∀ i, i < n → StillI b loc y.2.1 y.2.2 i))
    (fun y => if y.1 then 256 * n - (bits y.2.1 + bits y.2.2) + 1 else 0)
    ⟨(true, .replicate n (0, 0), .replicate n (0, 0)), ⟨rfl, rfl, rfl, rfl, rfl, rfl, trivial⟩, hg, ri, ro, hn ▸ .zero b loc, fun h => by simp at h⟩ ?_
  clear i3 i4 l4K b2 b3 ri ro
  rintro ⟨grown, I, O⟩ X ⟨gX, hI, hO, hS, hst⟩
  dsimp only at hI hO hS hst ⊢
  have hIl := hS.li
  have hOl := hS.lo
  rw [hn] at hIl hOl
  refine bC_sound _ _ _ _ ?_
  cases grown with
  | false =>
    refine run ?_
    have hall := hS.all (hn.symm ▸ hst rfl) (hn.symm ▸ ht)
    exact ⟨⟨_, _, I, O, rfl, hIl ▸ rowS_RL hI, hOl ▸ rowS_RL hO, hIl, hOl, hall.1, hall.2⟩, g.trans gX⟩
  | true =>
    have c3 := hblk_of (gX.at a3)
    have lX := l4 X
    have w0 : IntKind.i64.wrap ((n : Int) - 1) = (n : Int) - 1 := wrap_i64 (by omega) (by omega)
    refine run ?_
    refine SW.loop (α := Int × Bool × List RS × List RS)
      (fun y => [(2, .pointer (some ⟨q2, 0, none⟩)), (3, .pointer (some ⟨q3, 0, none⟩)), (6, .slice (some ⟨bi, 0, none⟩) n 2), (7, .slice (some ⟨bo, 0, none⟩) n 2), (8, .int .i64 (loc : Int)), (9, .bool y.2.1), (10, .int .i64 y.1)])
      (fun y Y => (-1 ≤ y.1 ∧ y.1 < n) ∧ Grow H2 Y ∧ SRow bi y.2.2.1 Y ∧ SRow bo y.2.2.2 Y ∧ LvS b loc y.2.2.1 y.2.2.2 ∧ bits I + bits O ≤ bits y.2.2.1 + bits y.2.2.2 ∧ (y.2.1 = true → bits I + bits O + 1 ≤ bits y.2.2.1 + bits y.2.2.2) ∧
        (y.2.1 = false → ∀ i : Nat, y.1 < i → i < n → StillI b loc y.2.2.1 y.2.2.2 i)) (fun y => (y.1 + 1).toNat)
      ⟨((n : Int) - 1, false, I, O), ⟨rfl, rfl, rfl, rfl, rfl, rfl, congrArg (fun z => some (Value.int .i64 z)) w0, trivial⟩, ⟨by dsimp only; omega, by dsimp only; omega⟩, gX, hI, hO, hS, Nat.le_refl _, fun h => by simp at h, fun _ i h1 h2 => by dsimp only at h1; omega⟩ ?_
    clear w0 lX c3
    rintro ⟨k, grown, I', O'⟩ Y ⟨⟨hk1, hk2⟩, gY, hI', hO', hS', hb', hg', hst'⟩
    dsimp only at hk1 hk2 hI' hO' hS' hb' hg' hst' ⊢
    have hIl' := hS'.li
    have hOl' := hS'.lo
    rw [hn] at hIl' hOl'
    have hbi := bits_le I'
    have hbo := bits_le O'
    refine bC_sound _ _ _ _ ?_
    by_cases hk0 : 0 ≤ k
    rotate_left
    · have d1 : decide (k ≥ 0) = false := decide_eq_false (by omega)
      refine run ?_
      refine ⟨(grown, I', O'), ⟨rfl, rfl, rfl, rfl, rfl, rfl, trivial⟩, ⟨gY, hI', hO', hS', fun h i hi => hst' h i (by omega) hi⟩, ?_⟩
      show (if grown = true then 256 * n - (bits I' + bits O') + 1 else 0) < 256 * n - (bits I + bits O) + 1
      cases grown with
      | false => simp
      | true => have := hg' rfl; simp only [if_true]; omega
    have d1 : decide (k ≥ 0) = true := decide_eq_true (by omega)
    obtain ⟨m, rfl⟩ : ∃ m : Nat, k = (m : Int) := ⟨k.toNat, by omega⟩
    have hmn : m < n := by omega
    obtain ⟨o, ho⟩ := get_lt (L := b.ops) (m := m) (by omega)
    have hom := List.mem_of_getElem? ho
    obtain ⟨bz, rv, cv, mv, i5, jr, jc, jm, i6⟩ := ldx_op hb.ops ho
    obtain ⟨si, hsi⟩ := get_lt (L := I') (m := m) (by omega)
    obtain ⟨so, hso⟩ := get_lt (L := O') (m := m) (by omega)
    have htm := ht m o ho
    obtain ⟨r1, r2⟩ := hr o hom
    obtain ⟨u1, u2, u3, u4⟩ := hu o hom
    have hH2i : bi < Y.length := lt_at hI'
    have hH2o : bo < Y.length := lt_at hO'
    have hH23 : q3 < H2.length := lt_at a3
    have hgl := g.1
    have hYl := gY.1
    refine run ?_
    refine Ob2.alloc rfl fun q11 Y1 hq11 a11 g11 => ?_
    have gY1 := gY.trans g11
    have c3 := hblk_of (gY1.at a3)
    have lo : aload Try.prog 30 (.pointer (some ⟨q3, 0, none⟩)) Y1 = some (bodyV b kv ov dv) := ald_agg rfl rfl rfl c3 rfl
    refine run ?_
    refine (irTargets_ax (hb.grow (g.trans gY1)) (by omega) ho).mono ?_
    rintro tv Y2 ⟨hT, g2'⟩
    generalize hTe : tgtL o m = T at *
    have htl : T.length ≤ 2 := by rw [← hTe]; unfold tgtL; split; simp; split; simp; split <;> simp
    have lt1 := hT.len (P := Try.prog) (t := 35) (e := 3) rfl Y2
    have a11' := g2'.at a11
    have gY2 := gY1.trans g2'
    have hI2 := g2'.at (g11.at hI')
    have hO2 := g2'.at (g11.at hO')
    clear lo c3 d1
    refine run ?_
    refine SW.loop (α := Nat × RS) (fun y => [(2, .pointer (some ⟨q2, 0, none⟩)), (3, .pointer (some ⟨q3, 0, none⟩)), (6, .slice (some ⟨bi, 0, none⟩) n 2), (7, .slice (some ⟨bo, 0, none⟩) n 2), (8, .int .i64 (loc : Int)), (9, .bool grown), (10, .int .i64 (m : Int)), (11, .pointer (some ⟨q11, 0, none⟩)), (41, tv), (42, .int .i64 (T.length : Int)), (43, .int .i64 (y.1 : Int))])
      (fun y Z => y.1 ≤ T.length ∧ But q11 Y2 Z ∧ Z[q11]? = some (.cells .var (setL y.2)) ∧ Holds y.2 (fun r => ∃ t ∈ T.take y.1, ∃ s, I'[t.toNat]? = some s ∧ mem s r = true)) (fun y => T.length - y.1)
      ⟨(0, (0, 0)), ⟨rfl, rfl, rfl, rfl, rfl, rfl, rfl, rfl, rfl, rfl, rfl, trivial⟩, Nat.zero_le _, .refl _ _, a11', ⟨by decide, by decide⟩, fun q hq => by simp [mem_zero]⟩ ?_
    rintro ⟨j, s⟩ Z ⟨hj, kZ, hs, hH⟩
    dsimp only at hj kZ hs hH ⊢
    have gZ : Grow H2 Z := gY2.but_new kZ (by omega)
    have hIZ := kZ.at hI2 (by omega)
    have hOZ := kZ.at hO2 (by omega)
    have c3 := hblk_of (gZ.at a3)
    have hTZ := RL.butS (s := (0, 0)) hT a11' kZ
    refine bC_sound _ _ _ _ ?_
    by_cases hjl : j < T.length
    · have d2 : decide ((j : Int) < (T.length : Int)) = true := decide_eq_true (by omega)
      obtain ⟨t, htt⟩ := get_lt hjl
      obtain ⟨t0, t1⟩ := htm t (List.mem_of_getElem? htt)
      obtain ⟨x, rfl⟩ : ∃ x : Nat, t = (x : Int) := ⟨t.toNat, by omega⟩
      obtain ⟨sx, hsx⟩ := get_lt (L := I') (m := x) (by omega)
      obtain ⟨px, p1, p2⟩ := int_at hTZ htt
      have p3 := p2 Z (.refl _)
      have w1 := w_succ (k := j) (by omega)
      have x1 := ix_set (n := n) (i := x) (b := bi) (by omega)
      have x2 := ld_set hIZ hsx
      have x3 : aload Try.prog 67 (.pointer (some ⟨q11, 0, none⟩)) Z = some (setV s) := ald_agg rfl rfl rfl (hblk_of hs) rfl
      refine run ?_
      apply SW.drawH [(0, [], [48, 49, 50, 51], false), (1, [], [47, 49], false), (2, [], [47, 48], false), (3, [(48, 1), (49, 2)], [47, 48, 49], false), (4, [(48, 1), (49, 2), (50, 3)], [47, 48, 49, 50], false), (5, [(47, 0), (48, 1), (49, 2), (50, 3), (51, 4)], [47, 48, 49, 50, 51], true), (6, [(47, 0), (48, 1), (49, 2), (50, 3), (51, 4), (52, 5)], [47, 48, 49, 50, 51, 52], true)]
        [(47, 0), (48, 1), (49, 2), (50, 3), (51, 4), (52, 5)] []
        [(2, _), (3, _), (6, _), (7, _), (8, _), (9, _), (10, _), (11, _), (13, _), (41, _), (42, _), (43, _)] rfl (by kernel_rfl)
      case hF => exact ⟨rfl, rfl, rfl, rfl, rfl, rfl, rfl, rfl, rfl, rfl, rfl, rfl, trivial⟩
      refine run ?_
      refine (or_ax Z hH.1 (hS'.oki x sx hsx)).mono ?_
      rintro _ Z2 ⟨rfl, gz⟩
      refine run ?_
      refine Ob.store rfl rfl rfl (gz.at hs) rfl (by first | exact Nat.le_of_ble_eq_true rfl | simp) fun Z3 z1 z2 z3 => ?_
      refine run ?_
      refine ⟨(j + 1, orS s sx), ⟨rfl, rfl, rfl, rfl, rfl, rfl, rfl, rfl, rfl, rfl, congrArg (fun z => some (Value.int .i64 z)) w1, trivial⟩, ⟨by dsimp only; omega, (kZ.grow gz).trans z2, z1, orS_ok hH.1 (hS'.oki x sx hsx), fun q hq => ?_⟩, by show T.length - (j + 1) < T.length - j; omega⟩
      rw [mem_or, Bool.or_eq_true, hH.2 q hq, List.take_add_one, htt]
      constructor
      · rintro (⟨t, h1, h2⟩ | h)
        · exact ⟨t, List.mem_append_left _ h1, h2⟩
        · exact ⟨(x : Int), by simp, sx, by rw [Int.toNat_natCast]; exact hsx, h⟩
      · rintro ⟨t, h1, s2, h2, h3⟩
        rcases List.mem_append.1 h1 with h1 | h1
        · exact .inl ⟨t, h1, s2, h2, h3⟩
        · simp only [Option.toList_some, List.mem_singleton] at h1
          subst h1
          rw [Int.toNat_natCast, hsx] at h2
          simp only [Option.some.injEq] at h2
          exact .inr (h2 ▸ h3)
    · have d2 : decide ((j : Int) < (T.length : Int)) = false := decide_eq_false (by omega)
      rw [List.take_of_length_le (by omega)] at hH
      have hB : Holds s (BehI I' o m) := ⟨hH.1, fun q hq => by rw [hH.2 q hq]; unfold BehI; rw [hTe]⟩
      have i7 := (i6 Z (g.trans gZ)).1
      have lZ := l4 Z
      have x3 : aload Try.prog 67 (.pointer (some ⟨q11, 0, none⟩)) Z = some (setV s) := ald_agg rfl rfl rfl (hblk_of hs) rfl
      have q11l : q11 < Z.length := lt_at hs
      have c11 := hblk_of hs
      have okl : okS (if 0 ≤ defL o then lessS s (defL o).toNat else s) := by
        split
        · exact lessS_ok hH.1
        · exact hH.1
      have hAll : ∀ sn, Holds sn (NeedP o loc) → Holds (orS (if 0 ≤ defL o then lessS s (defL o).toNat else s) sn) (AhI loc I' o m) := fun sn hN => by
        refine ⟨orS_ok okl hN.1, fun q hq => ?_⟩
        rw [mem_or, Bool.or_eq_true, hN.2 q hq]
        unfold AhI
        rw [← hB.2 q hq, or_comm]
        refine or_congr Iff.rfl ?_
        by_cases hd : 0 ≤ defL o
        · rw [if_pos hd, mem_less hH.1 (by omega) hq, Bool.and_eq_true]
          constructor
          · rintro ⟨h1, h2⟩
            exact ⟨fun e => by simp [e] at h2, h1⟩
          · rintro ⟨h1, h2⟩
            exact ⟨h2, by simp; omega⟩
        · rw [if_neg hd]
          exact ⟨fun h => ⟨fun e => by omega, h⟩, fun h => h.2⟩
      refine run ?_
      refine SW.sub (F := [(2, _), (3, _), (6, _), (7, _), (8, _), (9, _), (10, _), (11, _)]) ?_ (Sub.of ⟨rfl, rfl, rfl, rfl, rfl, rfl, rfl, rfl, trivial⟩)
      refine SW.drawB 17 (fun i F v K => match i with | 0 => v = setV s | 1 => v = .pointer (some ⟨q3, 3, none⟩) | 2 => v = ov | 3 => v = .int .i64 (m : Int) | 4 => v = .pointer (some ⟨bz, m * 9, none⟩) | 5 => v = opV o rv cv mv | 6 => v = .int .i64 (defL o) | 7 => v = setV (if 0 ≤ defL o then lessS s (defL o).toNat else s) | 8 => v = .pointer (some ⟨q3, 3, none⟩) | 9 => v = ov | 10 => v = .int .i64 (m : Int) | 11 => v = .pointer (some ⟨bz, m * 9, none⟩) | 12 => v = opV o rv cv mv | 13 => v = .int .i64 (loc : Int) | 14 => ∃ sn, v = setV sn ∧ Holds sn (NeedP o loc) | 15 => ∃ sa, v = setV sa ∧ Holds sa (AhI loc I' o m) | 16 => ∃ q, v = .pointer (some ⟨q, 0, none⟩) ∧ K[q]? = some (.cells .var (setL (0, 0))) ∧ Z.length ≤ q | _ => True) (fun i => Nat.beq i 16) rfl (by kernel_rfl) ?_ ?_ ?_
      · intro i F v K K1 h g
        match i, h with
        | 0, h => exact h
        | 1, h => exact h
        | 2, h => exact h
        | 3, h => exact h
        | 4, h => exact h
        | 5, h => exact h
        | 6, h => exact h
        | 7, h => exact h
        | 8, h => exact h
        | 9, h => exact h
        | 10, h => exact h
        | 11, h => exact h
        | 12, h => exact h
        | 13, h => exact h
        | 14, h => exact h
        | 15, h => exact h
        | 16, h => exact let ⟨q, h1, h2, h3⟩ := h; ⟨q, h1, g.at h2, h3⟩
        | i + 17, h => trivial
      · intro i oX V K hi hoX hg hT
        have c3 := hg.hblk c3
        have c11 := hg.hblk c11
        have i7K := (i6 K (g.trans (gZ.trans hg))).1
        match i, hi, hoX, hT with
        | 0, hi, hoX, hT =>
          obtain rfl := Option.some.inj hoX
          rw [envOf_eq, show pairsOf _ _ 0 = [] from by kernel_rfl, show exOf _ _ 0 = [55, 56, 57, 58, 59, 60, 62, 63, 64, 65, 66, 67, 14] from by kernel_rfl]
          (try simp only [valsOf])
          refine run ?_
          exact ⟨.refl _, rfl, fun h => absurd h (by decide)⟩
        | 1, hi, hoX, hT =>
          obtain rfl := Option.some.inj hoX
          rw [envOf_eq, show pairsOf _ _ 1 = [] from by kernel_rfl, show exOf _ _ 1 = [54, 57, 62, 63, 64, 65, 66, 67, 14] from by kernel_rfl]
          (try simp only [valsOf])
          refine run ?_
          exact ⟨.refl _, rfl, fun h => absurd h (by decide)⟩
        | 2, hi, hoX, hT =>
          obtain rfl := Option.some.inj hoX
          have e1 := hT 1 (by kernel_rfl)
          (conv at e1 => whnf)
          rw [envOf_eq, show pairsOf _ _ 2 = [(55, 1)] from by kernel_rfl, show exOf _ _ 2 = [54, 55, 57, 62, 63, 64, 65, 66, 67, 14] from by kernel_rfl]
          (try simp only [valsOf, e1])
          refine run ?_
          exact ⟨.refl _, rfl, fun h => absurd h (by decide)⟩
        | 3, hi, hoX, hT =>
          obtain rfl := Option.some.inj hoX
          rw [envOf_eq, show pairsOf _ _ 3 = [] from by kernel_rfl, show exOf _ _ 3 = [54, 55, 56, 62, 63, 64, 65, 66, 67, 14] from by kernel_rfl]
          (try simp only [valsOf])
          refine run ?_
          exact ⟨.refl _, rfl, fun h => absurd h (by decide)⟩
        | 4, hi, hoX, hT =>
          obtain rfl := Option.some.inj hoX
          have e1 := hT 1 (by kernel_rfl)
          (conv at e1 => whnf)
          have e2 := hT 2 (by kernel_rfl)
          (conv at e2 => whnf)
          have e3 := hT 3 (by kernel_rfl)
          (conv at e3 => whnf)
          rw [envOf_eq, show pairsOf _ _ 4 = [(55, 1), (56, 2), (57, 3)] from by kernel_rfl, show exOf _ _ 4 = [54, 55, 56, 57, 62, 63, 64, 65, 66, 67, 14] from by kernel_rfl]
          (try simp only [valsOf, e1, e2, e3])
          refine run ?_
          exact ⟨.refl _, rfl, fun h => absurd h (by decide)⟩
        | 5, hi, hoX, hT =>
          obtain rfl := Option.some.inj hoX
          have e1 := hT 1 (by kernel_rfl)
          (conv at e1 => whnf)
          have e2 := hT 2 (by kernel_rfl)
          (conv at e2 => whnf)
          have e3 := hT 3 (by kernel_rfl)
          (conv at e3 => whnf)
          have e4 := hT 4 (by kernel_rfl)
          (conv at e4 => whnf)
          rw [envOf_eq, show pairsOf _ _ 5 = [(55, 1), (56, 2), (57, 3), (58, 4)] from by kernel_rfl, show exOf _ _ 5 = [54, 55, 56, 57, 58, 62, 63, 64, 65, 66, 67, 14] from by kernel_rfl]
          (try simp only [valsOf, e1, e2, e3, e4])
          refine run ?_
          exact ⟨.refl _, rfl, fun h => absurd h (by decide)⟩
        | 6, hi, hoX, hT =>
          obtain rfl := Option.some.inj hoX
          have e1 := hT 1 (by kernel_rfl)
          (conv at e1 => whnf)
          have e2 := hT 2 (by kernel_rfl)
          (conv at e2 => whnf)
          have e3 := hT 3 (by kernel_rfl)
          (conv at e3 => whnf)
          have e4 := hT 4 (by kernel_rfl)
          (conv at e4 => whnf)
          have e5 := hT 5 (by kernel_rfl)
          (conv at e5 => whnf)
          rw [envOf_eq, show pairsOf _ _ 6 = [(55, 1), (56, 2), (57, 3), (58, 4), (59, 5)] from by kernel_rfl, show exOf _ _ 6 = [54, 55, 56, 57, 58, 59, 62, 63, 64, 65, 66, 67, 14] from by kernel_rfl]
          (try simp only [valsOf, e1, e2, e3, e4, e5])
          refine run ?_
          refine (irDef_ax K o rv cv mv).mono ?_
          rintro _ Zx ⟨rfl, e⟩
          subst Zx
          refine run ?_
          exact ⟨.refl _, rfl, fun h => absurd h (by decide)⟩
        | 7, hi, hoX, hT =>
          obtain rfl := Option.some.inj hoX
          have e0 := hT 0 (by kernel_rfl)
          (conv at e0 => whnf)
          have e1 := hT 1 (by kernel_rfl)
          (conv at e1 => whnf)
          have e2 := hT 2 (by kernel_rfl)
          (conv at e2 => whnf)
          have e3 := hT 3 (by kernel_rfl)
          (conv at e3 => whnf)
          have e4 := hT 4 (by kernel_rfl)
          (conv at e4 => whnf)
          have e5 := hT 5 (by kernel_rfl)
          (conv at e5 => whnf)
          have e6 := hT 6 (by kernel_rfl)
          (conv at e6 => whnf)
          rw [envOf_eq, show pairsOf _ _ 7 = [(54, 0), (55, 1), (56, 2), (57, 3), (58, 4), (59, 5), (60, 6)] from by kernel_rfl, show exOf _ _ 7 = [54, 55, 56, 57, 58, 59, 60, 62, 63, 64, 65, 66, 67, 14] from by kernel_rfl]
          (try simp only [valsOf, e0, e1, e2, e3, e4, e5])
          rw [e6]
          refine run ?_
          refine (without_ax K hH.1 u3 u4).mono ?_
          rintro _ Z5 ⟨rfl, g5⟩
          refine run ?_
          exact ⟨g5, rfl, fun h => absurd h (by decide)⟩
        | 8, hi, hoX, hT =>
          obtain rfl := Option.some.inj hoX
          rw [envOf_eq, show pairsOf _ _ 8 = [] from by kernel_rfl, show exOf _ _ 8 = [54, 55, 56, 57, 58, 59, 60, 61, 64, 67, 14] from by kernel_rfl]
          (try simp only [valsOf])
          refine run ?_
          exact ⟨.refl _, rfl, fun h => absurd h (by decide)⟩
        | 9, hi, hoX, hT =>
          obtain rfl := Option.some.inj hoX
          have e8 := hT 8 (by kernel_rfl)
          (conv at e8 => whnf)
          rw [envOf_eq, show pairsOf _ _ 9 = [(62, 8)] from by kernel_rfl, show exOf _ _ 9 = [54, 55, 56, 57, 58, 59, 60, 61, 62, 64, 67, 14] from by kernel_rfl]
          (try simp only [valsOf, e8])
          refine run ?_
          exact ⟨.refl _, rfl, fun h => absurd h (by decide)⟩
        | 10, hi, hoX, hT =>
          obtain rfl := Option.some.inj hoX
          rw [envOf_eq, show pairsOf _ _ 10 = [] from by kernel_rfl, show exOf _ _ 10 = [54, 55, 56, 57, 58, 59, 60, 61, 62, 63, 67, 14] from by kernel_rfl]
          (try simp only [valsOf])
          refine run ?_
          exact ⟨.refl _, rfl, fun h => absurd h (by decide)⟩
        | 11, hi, hoX, hT =>
          obtain rfl := Option.some.inj hoX
          have e8 := hT 8 (by kernel_rfl)
          (conv at e8 => whnf)
          have e9 := hT 9 (by kernel_rfl)
          (conv at e9 => whnf)
          have e10 := hT 10 (by kernel_rfl)
          (conv at e10 => whnf)
          rw [envOf_eq, show pairsOf _ _ 11 = [(62, 8), (63, 9), (64, 10)] from by kernel_rfl, show exOf _ _ 11 = [54, 55, 56, 57, 58, 59, 60, 61, 62, 63, 64, 67, 14] from by kernel_rfl]
          (try simp only [valsOf, e8, e9, e10])
          refine run ?_
          exact ⟨.refl _, rfl, fun h => absurd h (by decide)⟩
        | 12, hi, hoX, hT =>
          obtain rfl := Option.some.inj hoX
          have e8 := hT 8 (by kernel_rfl)
          (conv at e8 => whnf)
          have e9 := hT 9 (by kernel_rfl)
          (conv at e9 => whnf)
          have e10 := hT 10 (by kernel_rfl)
          (conv at e10 => whnf)
          have e11 := hT 11 (by kernel_rfl)
          (conv at e11 => whnf)
          rw [envOf_eq, show pairsOf _ _ 12 = [(62, 8), (63, 9), (64, 10), (65, 11)] from by kernel_rfl, show exOf _ _ 12 = [54, 55, 56, 57, 58, 59, 60, 61, 62, 63, 64, 65, 67, 14] from by kernel_rfl]
          (try simp only [valsOf, e8, e9, e10, e11])
          refine run ?_
          exact ⟨.refl _, rfl, fun h => absurd h (by decide)⟩
        | 13, hi, hoX, hT =>
          obtain rfl := Option.some.inj hoX
          rw [envOf_eq, show pairsOf _ _ 13 = [] from by kernel_rfl, show exOf _ _ 13 = [54, 55, 56, 57, 58, 59, 60, 61, 62, 63, 64, 65, 66, 14] from by kernel_rfl]
          (try simp only [valsOf])
          refine run ?_
          exact ⟨.refl _, rfl, fun h => absurd h (by decide)⟩
        | 14, hi, hoX, hT =>
          obtain rfl := Option.some.inj hoX
          have e0 := hT 0 (by kernel_rfl)
          (conv at e0 => whnf)
          have e1 := hT 1 (by kernel_rfl)
          (conv at e1 => whnf)
          have e2 := hT 2 (by kernel_rfl)
          (conv at e2 => whnf)
          have e3 := hT 3 (by kernel_rfl)
          (conv at e3 => whnf)
          have e4 := hT 4 (by kernel_rfl)
          (conv at e4 => whnf)
          have e5 := hT 5 (by kernel_rfl)
          (conv at e5 => whnf)
          have e6 := hT 6 (by kernel_rfl)
          (conv at e6 => whnf)
          have e7 := hT 7 (by kernel_rfl)
          (conv at e7 => whnf)
          have e8 := hT 8 (by kernel_rfl)
          (conv at e8 => whnf)
          have e9 := hT 9 (by kernel_rfl)
          (conv at e9 => whnf)
          have e10 := hT 10 (by kernel_rfl)
          (conv at e10 => whnf)
          have e11 := hT 11 (by kernel_rfl)
          (conv at e11 => whnf)
          have e12 := hT 12 (by kernel_rfl)
          (conv at e12 => whnf)
          have e13 := hT 13 (by kernel_rfl)
          (conv at e13 => whnf)
          rw [envOf_eq, show pairsOf _ _ 14 = [(54, 0), (55, 1), (56, 2), (57, 3), (58, 4), (59, 5), (60, 6), (61, 7), (62, 8), (63, 9), (64, 10), (65, 11), (66, 12), (67, 13)] from by kernel_rfl, show exOf _ _ 14 = [54, 55, 56, 57, 58, 59, 60, 61, 62, 63, 64, 65, 66, 67, 14] from by kernel_rfl]
          (try simp only [valsOf, e0, e1, e2, e3, e4, e5, e8, e9, e10, e11, e12, e13])
          refine run ?_
          refine (needs_ax (intR.grow jr (g.trans (gZ.trans hg))) (intR.grow jm (g.trans (gZ.trans hg))) r1 r2 hl128 u1 u2).mono ?_
          rintro _ Z6 ⟨hN, g6⟩
          refine run ?_
          exact ⟨g6, hN, fun h => absurd h (by decide)⟩
        | 15, hi, hoX, hT =>
          obtain rfl := Option.some.inj hoX
          have e0 := hT 0 (by kernel_rfl)
          (conv at e0 => whnf)
          have e1 := hT 1 (by kernel_rfl)
          (conv at e1 => whnf)
          have e2 := hT 2 (by kernel_rfl)
          (conv at e2 => whnf)
          have e3 := hT 3 (by kernel_rfl)
          (conv at e3 => whnf)
          have e4 := hT 4 (by kernel_rfl)
          (conv at e4 => whnf)
          have e5 := hT 5 (by kernel_rfl)
          (conv at e5 => whnf)
          have e6 := hT 6 (by kernel_rfl)
          (conv at e6 => whnf)
          have e7 := hT 7 (by kernel_rfl)
          (conv at e7 => whnf)
          have e8 := hT 8 (by kernel_rfl)
          (conv at e8 => whnf)
          have e9 := hT 9 (by kernel_rfl)
          (conv at e9 => whnf)
          have e10 := hT 10 (by kernel_rfl)
          (conv at e10 => whnf)
          have e11 := hT 11 (by kernel_rfl)
          (conv at e11 => whnf)
          have e12 := hT 12 (by kernel_rfl)
          (conv at e12 => whnf)
          have e13 := hT 13 (by kernel_rfl)
          (conv at e13 => whnf)
          have e14 := hT 14 (by kernel_rfl)
          (conv at e14 => whnf)
          rw [envOf_eq, show pairsOf _ _ 15 = [(54, 0), (55, 1), (56, 2), (57, 3), (58, 4), (59, 5), (60, 6), (61, 7), (62, 8), (63, 9), (64, 10), (65, 11), (66, 12), (67, 13), (68, 14)] from by kernel_rfl, show exOf _ _ 15 = [54, 55, 56, 57, 58, 59, 60, 61, 62, 63, 64, 65, 66, 67, 68, 14] from by kernel_rfl]
          (try simp only [valsOf, e0, e1, e2, e3, e4, e5, e8, e9, e10, e11, e12, e13])
          obtain ⟨sn, v14, hN⟩ := e14
          rw [e7, v14]
          refine run ?_
          refine (or_ax K okl hN.1).mono ?_
          rintro _ Z7 ⟨rfl, g7⟩
          refine run ?_
          exact ⟨g7, ⟨_, rfl, hAll sn hN⟩, fun h => absurd h (by decide)⟩
        | 16, hi, hoX, hT =>
          obtain rfl := Option.some.inj hoX
          rw [envOf_eq, show pairsOf _ _ 16 = [] from by kernel_rfl, show exOf _ _ 16 = [54, 55, 56, 57, 58, 59, 60, 61, 62, 63, 64, 65, 66, 67, 68, 69] from by kernel_rfl]
          (try simp only [valsOf])
          (conv => whnf)
          refine Ob2.alloc rfl fun q14 Z4 hq14 a14 g14 => ?_
          refine run ?_
          exact ⟨g14, ⟨q14, rfl, a14, by have := hg.1; omega⟩, fun _ bb hb' => ⟨by simp only [blk0, Option.some.injEq] at hb'; omega, by simp only [blk0, Option.some.injEq] at hb'; have := lt_at a14; omega⟩⟩
        | i + 17, hi, hoX, hT => exact absurd hi (by omega)
      intro oX V K hV hoX hg hT hD
      have c3 := hg.hblk c3
      have c11 := hg.hblk c11
      have i7K := (i6 K (g.trans (gZ.trans hg))).1
      obtain rfl := Option.some.inj hoX
      have e0 := hT 0 (by decide)
      (conv at e0 => whnf)
      have e1 := hT 1 (by decide)
      (conv at e1 => whnf)
      have e2 := hT 2 (by decide)
      (conv at e2 => whnf)
      have e3 := hT 3 (by decide)
      (conv at e3 => whnf)
      have e4 := hT 4 (by decide)
      (conv at e4 => whnf)
      have e5 := hT 5 (by decide)
      (conv at e5 => whnf)
      have e6 := hT 6 (by decide)
      try rw [show pairsOf _ _ 6 = [(55, 1), (56, 2), (57, 3), (58, 4), (59, 5)] from by kernel_rfl] at e6
      (try simp only [valsOf] at e6)
      (conv at e6 => whnf)
      have e7 := hT 7 (by decide)
      try rw [show pairsOf _ _ 7 = [(54, 0), (55, 1), (56, 2), (57, 3), (58, 4), (59, 5), (60, 6)] from by kernel_rfl] at e7
      (try simp only [valsOf] at e7)
      (conv at e7 => whnf)
      have e8 := hT 8 (by decide)
      (conv at e8 => whnf)
      have e9 := hT 9 (by decide)
      (conv at e9 => whnf)
      have e10 := hT 10 (by decide)
      (conv at e10 => whnf)
      have e11 := hT 11 (by decide)
      (conv at e11 => whnf)
      have e12 := hT 12 (by decide)
      (conv at e12 => whnf)
      have e13 := hT 13 (by decide)
      (conv at e13 => whnf)
      have e14 := hT 14 (by decide)
      try rw [show pairsOf _ _ 14 = [(54, 0), (55, 1), (56, 2), (57, 3), (58, 4), (59, 5), (60, 6), (61, 7), (62, 8), (63, 9), (64, 10), (65, 11), (66, 12), (67, 13)] from by kernel_rfl] at e14
      (try simp only [valsOf] at e14)
      (conv at e14 => whnf)
      have e15 := hT 15 (by decide)
      try rw [show pairsOf _ _ 15 = [(54, 0), (55, 1), (56, 2), (57, 3), (58, 4), (59, 5), (60, 6), (61, 7), (62, 8), (63, 9), (64, 10), (65, 11), (66, 12), (67, 13), (68, 14)] from by kernel_rfl] at e15
      (try simp only [valsOf] at e15)
      (conv at e15 => whnf)
      have e16 := hT 16 (by decide)
      try rw [show pairsOf _ _ 16 = [] from by kernel_rfl] at e16
      (try simp only [valsOf] at e16)
      (conv at e16 => whnf)
      have es : ∀ v k, k ≠ 17 → (V.set 17 v).getD k undef = V.getD k undef := fun v k hk => by rw [getD_set (by omega), if_neg hk]
      have ec : ∀ v, (V.set 17 v).getD 17 undef = v := fun v => by rw [getD_set (by omega), if_pos rfl]
      rw [envOf_eq, show pairsOf _ _ 17 = [(54, 0), (55, 1), (56, 2), (57, 3), (58, 4), (59, 5), (60, 6), (61, 7), (62, 8), (63, 9), (64, 10), (65, 11), (66, 12), (67, 13), (68, 14), (69, 15), (14, 16)] from by kernel_rfl, show exOf _ _ 17 = [54, 55, 56, 57, 58, 59, 60, 61, 62, 63, 64, 65, 66, 67, 68, 69, 14] from by kernel_rfl]
      (try simp only [valsOf, e0, e1, e2, e3, e4, e5, e8, e9, e10, e11, e12, e13])
      obtain ⟨sa, v15, hA⟩ := e15
      obtain ⟨q14, v16, a14, hq14⟩ := e16
      rw [v15, v16]
      clear hT hD hoX
      (conv => whnf)
      refine Ob.store rfl rfl rfl a14 rfl (by first | exact Nat.le_of_ble_eq_true rfl | simp) fun Z8 z1 z2 z3 => ?_
      (try dsimp only)
      rw [endOf_eq, show endsOf _ = [(54, 0), (55, 1), (56, 2), (57, 3), (58, 4), (59, 5), (60, 6), (61, 7), (62, 8), (63, 9), (64, 10), (65, 11), (66, 12), (67, 13), (68, 14), (69, 15), (14, 16)] from by kernel_rfl]
      simp only [valsOf, ec, es _ 0 (by decide), es _ 1 (by decide), es _ 2 (by decide), es _ 3 (by decide), es _ 4 (by decide), es _ 5 (by decide), es _ 6 (by decide), es _ 7 (by decide), es _ 8 (by decide), es _ 9 (by decide), es _ 10 (by decide), es _ 11 (by decide), es _ 12 (by decide), es _ 13 (by decide), es _ 14 (by decide), es _ 15 (by decide), es _ 16 (by decide)]
      rw [v16]
      have gZ8 : Grow Z Z8 := hg.but_new z2 (by omega)
      have hI8 := gZ8.at hIZ
      have hO8 := gZ8.at hOZ
      have x3 : aload Try.prog 67 (.pointer (some ⟨q11, 0, none⟩)) Z8 = some (setV s) := ald_agg rfl rfl rfl (hblk_of (gZ8.at hs)) rfl
      have x4 : aload Try.prog 67 (.pointer (some ⟨q14, 0, none⟩)) Z8 = some (setV sa) := ald_agg rfl rfl rfl (hblk_of z1) rfl
      have y1 := ix_set (n := n) (i := m) (b := bi) (by omega)
      have y2 := ix_set (n := n) (i := m) (b := bo) (by omega)
      have y3 := ld_set hI8 hsi
      have y4 := ld_set hO8 hso
      have d3 := ne_sets (s := sa) (t := si)
      have d4 := ne_sets (s := s) (t := so)
      have w1 : IntKind.i64.wrap ((m : Int) - 1) = (m : Int) - 1 := wrap_i64 (by omega) (by omega)
      have hq11 : q11 ≠ bi ∧ q11 ≠ bo := by omega
      clear lZ i7 c3 d2 lt1
      refine run ?_
      apply SW.drawH [(0, [], [71, 72, 73, 74], false), (1, [], [70, 72], false), (2, [], [70, 71], false), (3, [(71, 1), (72, 2)], [70, 71, 72], false), (4, [(71, 1), (72, 2), (73, 3)], [70, 71, 72, 73], false), (5, [(70, 0), (71, 1), (72, 2), (73, 3), (74, 4)], [70, 71, 72, 73, 74], false), (6, [(70, 0), (71, 1), (72, 2), (73, 3), (74, 4), (75, 5)], [70, 71, 72, 73, 74, 75], false), (7, [(70, 0), (71, 1), (72, 2), (73, 3), (74, 4), (75, 5), (76, 6)], [70, 71, 72, 73, 74, 75, 76, 78, 79, 80, 81], false), (8, [(70, 0), (71, 1), (72, 2), (73, 3), (74, 4), (75, 5), (76, 6)], [70, 71, 72, 73, 74, 75, 76, 77, 79], false), (9, [(70, 0), (71, 1), (72, 2), (73, 3), (74, 4), (75, 5), (76, 6)], [70, 71, 72, 73, 74, 75, 76, 77, 78], false), (10, [(70, 0), (71, 1), (72, 2), (73, 3), (74, 4), (75, 5), (76, 6), (78, 8), (79, 9)], [70, 71, 72, 73, 74, 75, 76, 77, 78, 79], false), (11, [(70, 0), (71, 1), (72, 2), (73, 3), (74, 4), (75, 5), (76, 6), (78, 8), (79, 9), (80, 10)], [70, 71, 72, 73, 74, 75, 76, 77, 78, 79, 80], false), (12, [(70, 0), (71, 1), (72, 2), (73, 3), (74, 4), (75, 5), (76, 6), (77, 7), (78, 8), (79, 9), (80, 10), (81, 11)], [70, 71, 72, 73, 74, 75, 76, 77, 78, 79, 80, 81], false), (13, [(70, 0), (71, 1), (72, 2), (73, 3), (74, 4), (75, 5), (76, 6), (77, 7), (78, 8), (79, 9), (80, 10), (81, 11), (82, 12)], [70, 71, 72, 73, 74, 75, 76, 77, 78, 79, 80, 81, 82], false)]
        [(70, 0), (71, 1), (72, 2), (73, 3), (74, 4), (75, 5), (76, 6), (77, 7), (78, 8), (79, 9), (80, 10), (81, 11), (82, 12), (83, 13)] []
        [(2, _), (3, _), (6, _), (7, _), (8, _), (9, _), (10, _), (11, _), (14, _)] rfl (by kernel_rfl)
      case hF => exact ⟨rfl, rfl, rfl, rfl, rfl, rfl, rfl, rfl, rfl, trivial⟩
      refine run ?_
      obtain ⟨hS9, hbits⟩ := hS'.step ho hsi hso hA hB
      have fr : ∀ {A : Heap}, Grow Z8 A → A = Z8 → True := fun _ _ => trivial
      obtain ⟨K1, s1, k1, m1, e1⟩ := store_ex (P := Try.prog) (t := 67) (off := m * 2) (v := setV sa) (vs := setL sa) rfl rfl rfl hI8 rfl (by rw [rowS_len]; show m * 2 + 2 ≤ _; omega)
      rw [rowS_put sa (by omega)] at k1
      have hO81 := m1.at hO8 (Ne.symm hne)
      obtain ⟨K2, s2, k2, m2, e2⟩ := store_ex (P := Try.prog) (t := 67) (off := m * 2) (v := setV s) (vs := setL s) rfl rfl rfl hO81 rfl (by rw [rowS_len]; show m * 2 + 2 ≤ _; omega)
      rw [rowS_put s (by omega)] at k2
      have l1 := k1
      have hI2' := m2.at k1 hne
      have gH8 : Grow H2 Z8 := gZ.trans gZ8
      have gK2 : Grow H2 K2 := (gH8.but_new m1 ni).but_new m2 no_
      have f3 := m1.hblk (hblk_of (gZ8.at hs)) hq11.1
      have x31 : aload Try.prog 67 (.pointer (some ⟨q11, 0, none⟩)) K1 = some (setV s) := ald_agg rfl rfl rfl f3 rfl
      have go : (sa ≠ si ∨ s ≠ so) → ∀ Y9, Y9 = K2 → (-1 ≤ ((m : Int) - 1) ∧ ((m : Int) - 1) < n) ∧ Grow H2 Y9 ∧ SRow bi (I'.set m sa) Y9 ∧ SRow bo (O'.set m s) Y9 ∧ LvS b loc (I'.set m sa) (O'.set m s) ∧ bits I + bits O ≤ bits (I'.set m sa) + bits (O'.set m s) ∧ ((true : Bool) = true → bits I + bits O + 1 ≤ bits (I'.set m sa) + bits (O'.set m s)) ∧
          ((true : Bool) = false → ∀ i : Nat, ((m : Int) - 1) < i → i < n → StillI b loc (I'.set m sa) (O'.set m s) i) := fun hh Y9 e => by
        subst e
        have := hbits hh
        exact ⟨⟨by omega, by omega⟩, gK2, hI2', k2, hS9, by omega, fun _ => by omega, fun h => by simp at h⟩
      have hμ : ((m : Int) - 1 + 1).toNat < ((m : Int) + 1).toNat := by omega
      by_cases e1' : sa = si
      · rw [decide_eq_false (fun h => h e1')]
        by_cases e2' : s = so
        · rw [decide_eq_false (fun h => h e2')] at d4
          refine run ?_
          refine ⟨((m : Int) - 1, grown, I', O'), ⟨rfl, rfl, rfl, rfl, rfl, rfl, congrArg (fun z => some (Value.int .i64 z)) w1, trivial⟩, ⟨⟨by dsimp only; omega, by dsimp only; omega⟩, gH8, hI8, hO8, hS', hb', hg', fun hgr i hi1 hi2 => ?_⟩, hμ⟩
          dsimp only at hi1
          by_cases him : i = m
          · subst him
            intro o1 si1 so1 h1 h2 h3
            rw [ho] at h1
            rw [hsi] at h2
            rw [hso] at h3
            simp only [Option.some.injEq] at h1 h2 h3
            subst h1 h2 h3
            exact ⟨fun r hr => e1' ▸ hA.2 r hr, fun r hr => e2' ▸ hB.2 r hr⟩
          · exact hst' hgr i (by omega) hi2
        · rw [decide_eq_true e2'] at d4
          refine run ?_
          apply SW.draw2 [([], [85, 86, 87, 88, 89], 0, 0, false), ([], [84, 86, 87, 88, 89], 0, 0, false), ([], [84, 85, 87, 88, 89, 90], 0, 1, false), ([], [84, 85, 86, 88, 89, 90], 0, 1, false), ([], [84, 85, 86, 87, 89], 0, 0, false), ([], [84, 85, 86, 87, 88, 90], 0, 1, false), ([(84, 0), (85, 1), (88, 4)], [84, 85, 86, 87, 88, 89], 0, 0, false), ([(84, 0), (85, 1), (88, 4), (90, 6)], [84, 85, 86, 87, 88, 89, 90], 0, 0, true), ([(84, 0), (85, 1), (86, 2), (87, 3), (88, 4), (89, 5), (90, 6)], [84, 85, 86, 87, 88, 89, 90], 1, 0, false), ([(84, 0), (85, 1), (86, 2), (87, 3), (88, 4), (89, 5), (90, 6), (91, 8)], [84, 85, 86, 87, 88, 89, 90, 91], 1, 0, true), ([(84, 0), (85, 1), (86, 2), (87, 3), (88, 4), (89, 5), (90, 6), (91, 8)], [84, 85, 86, 87, 88, 89, 90, 91], 2, 0, false)]
            [(84, 0), (85, 1), (86, 2), (87, 3), (88, 4), (89, 5), (90, 6), (91, 8), (9, 10)] 2
            [(2, _), (3, _), (6, _), (7, _), (8, _), (10, _), (11, _), (14, _)] [_, _, _, _, _, _, _, _, _, _, _] [Z8, K1, K2] rfl (by kernel_rfl)
          case hF => exact ⟨rfl, rfl, rfl, rfl, rfl, rfl, rfl, rfl, trivial⟩
          case h0 => rfl
          case steps =>
            (try (conv => whnf)); repeat' (first | ((with_reducible refine Ob.of y1 ?_); (conv => whnf)) | ((with_reducible refine Ob.of y2 ?_); (conv => whnf)) | ((with_reducible refine Ob.of x3 ?_); (conv => whnf)) | ((with_reducible refine Ob.of x31 ?_); (conv => whnf)) | ((with_reducible refine Ob.of x4 ?_); (conv => whnf)) | ((with_reducible refine Ob2.of y1 ?_); (conv => whnf)) | ((with_reducible refine Ob2.of y2 ?_); (conv => whnf)) | ((with_reducible refine Ob2.of x3 ?_); (conv => whnf)) | ((with_reducible refine Ob2.of x31 ?_); (conv => whnf)) | ((with_reducible refine Ob2.of x4 ?_); (conv => whnf)) | (refine And.intro ?_ ?_ <;> (conv => whnf)) | exact Leaf.mk rfl rfl | exact True.intro | (refine Ob.of s1 ?_; (conv => whnf)) | (refine Ob.of s2 ?_; (conv => whnf)) | (refine Ob.of rfl ?_; (conv => whnf)) | (refine Ob2.of (by rfl) ?_; (conv => whnf)) | (refine step1 ?_))
          refine run ?_
          exact ⟨((m : Int) - 1, true, I'.set m sa, O'.set m s), ⟨rfl, rfl, rfl, rfl, rfl, rfl, congrArg (fun z => some (Value.int .i64 z)) w1, trivial⟩, go (.inr e2') _ rfl, hμ⟩
      · rw [decide_eq_true e1']
        refine run ?_
        apply SW.draw2 [([], [85, 86, 87, 88, 89], 0, 0, false), ([], [84, 86, 87, 88, 89], 0, 0, false), ([], [84, 85, 87, 88, 89, 90], 0, 1, false), ([], [84, 85, 86, 88, 89, 90], 0, 1, false), ([], [84, 85, 86, 87, 89], 0, 0, false), ([], [84, 85, 86, 87, 88, 90], 0, 1, false), ([(84, 0), (85, 1), (88, 4)], [84, 85, 86, 87, 88, 89], 0, 0, false), ([(84, 0), (85, 1), (88, 4), (90, 6)], [84, 85, 86, 87, 88, 89, 90], 0, 0, true), ([(84, 0), (85, 1), (86, 2), (87, 3), (88, 4), (89, 5), (90, 6)], [84, 85, 86, 87, 88, 89, 90], 1, 0, false), ([(84, 0), (85, 1), (86, 2), (87, 3), (88, 4), (89, 5), (90, 6), (91, 8)], [84, 85, 86, 87, 88, 89, 90, 91], 1, 0, true), ([(84, 0), (85, 1), (86, 2), (87, 3), (88, 4), (89, 5), (90, 6), (91, 8)], [84, 85, 86, 87, 88, 89, 90, 91], 2, 0, false)]
          [(84, 0), (85, 1), (86, 2), (87, 3), (88, 4), (89, 5), (90, 6), (91, 8), (9, 10)] 2
          [(2, _), (3, _), (6, _), (7, _), (8, _), (10, _), (11, _), (14, _)] [_, _, _, _, _, _, _, _, _, _, _] [Z8, K1, K2] rfl (by kernel_rfl)
        case hF => exact ⟨rfl, rfl, rfl, rfl, rfl, rfl, rfl, rfl, trivial⟩
        case h0 => rfl
        case steps =>
          (try (conv => whnf)); repeat' (first | ((with_reducible refine Ob.of y1 ?_); (conv => whnf)) | ((with_reducible refine Ob.of y2 ?_); (conv => whnf)) | ((with_reducible refine Ob.of x3 ?_); (conv => whnf)) | ((with_reducible refine Ob.of x31 ?_); (conv => whnf)) | ((with_reducible refine Ob.of x4 ?_); (conv => whnf)) | ((with_reducible refine Ob2.of y1 ?_); (conv => whnf)) | ((with_reducible refine Ob2.of y2 ?_); (conv => whnf)) | ((with_reducible refine Ob2.of x3 ?_); (conv => whnf)) | ((with_reducible refine Ob2.of x31 ?_); (conv => whnf)) | ((with_reducible refine Ob2.of x4 ?_); (conv => whnf)) | (refine And.intro ?_ ?_ <;> (conv => whnf)) | exact Leaf.mk rfl rfl | exact True.intro | (refine Ob.of s1 ?_; (conv => whnf)) | (refine Ob.of s2 ?_; (conv => whnf)) | (refine Ob.of rfl ?_; (conv => whnf)) | (refine Ob2.of (by rfl) ?_; (conv => whnf)) | (refine step1 ?_))
        refine run ?_
        exact ⟨((m : Int) - 1, true, I'.set m sa, O'.set m s), ⟨rfl, rfl, rfl, rfl, rfl, rfl, congrArg (fun z => some (Value.int .i64 z)) w1, trivial⟩, go (.inl e1') _ rfl, hμ⟩
end Go.Proofs.Ytnjckiaogikakaa
/- Package live: sets as lists. -/
set_option linter.unusedVariables false
set_option linter.unusedSimpArgs false
set_option maxRecDepth 20000
set_option maxHeartbeats 4000000
namespace Go.Proofs.Ytnjckiaogikakaa
open Go Ax
theorem rowInt : RowOK Try.prog 35 3 1 := ⟨rfl, ⟨_, rfl, rfl, by decide⟩, ⟨_, rfl, rfl⟩, by decide, ⟨_, rfl, rfl⟩⟩
theorem rowLL : RowOK Try.prog 37 35 1 := ⟨rfl, ⟨_, rfl, rfl, by decide⟩, ⟨_, rfl, rfl⟩, by decide, ⟨_, rfl, rfl⟩⟩
/-- The members of a set, below a number. -/
def memI (s : RS) (i : Nat) : List Int := ((List.range i).filter (mem s)).map fun (n : Nat) => (n : Int)
theorem memI_yes {s : RS} {i : Nat} (h : mem s i = true) : memI s (i + 1) = memI s i ++ [(i : Int)] := by
  unfold memI; rw [List.range_succ, List.filter_append, List.map_append]; simp [h]
theorem memI_no {s : RS} {i : Nat} (h : mem s i = false) : memI s (i + 1) = memI s i := by
  unfold memI; rw [List.range_succ, List.filter_append, List.map_append]; simp [h]
theorem memI_len (s : RS) (i : Nat) : (memI s i).length ≤ i := by
  unfold memI
  rw [List.length_map]
  have := List.length_filter_le (mem s) (List.range i)
  rwa [List.length_range] at this
def llO (H : Heap) (l : List Value) (x : List Int) : Prop := ∃ v, l = [v] ∧ OwnR 1 3 intR H v x
theorem llO.frr {n : Nat} (A B : Heap) (h : FrR n 35 A B) (l : List Value) (x : List Int) : llO A l x → llO B l x := fun ⟨v, h1, h2⟩ => ⟨v, h1, h2.keepR h (by decide) fun _ _ _ h => h⟩
theorem OwnR.ll {H : Heap} {v : Value} {L : List (List Int)} (h : OwnR 1 35 llO H v L) : RL 1 llR H v L := by
  rcases h.rl with h | ⟨b, h1, h2⟩
  · exact .inl h
  · refine .inr ⟨b, h1, h2.imp id fun ⟨m, c, h3, h4⟩ => ⟨m, c, h3, fun i x hx => ?_⟩⟩
    obtain ⟨l, k1, u, k2, k3⟩ := h4 i x hx
    exact ⟨l, k1, u, k2, k3.rl⟩
theorem hset_at {X : Heap} {q b : Nat} {B C : Blk} (h : X[b]? = some C) (hne : b ≠ q) : (X.set q B)[b]? = some C := by rw [List.getElem?_set_ne (fun e => hne e.symm)]; exact h
theorem hset_self {X : Heap} {q : Nat} {B C : Blk} (h : X[q]? = some C) : (X.set q B)[q]? = some B := List.getElem?_set_self (lt_at h)
theorem kill_len : ∀ (M : List Nat) (H : Heap), (killM H M).length = H.length
  | [], H => rfl
  | q :: M, H => by show (killM (H.set q .dead) M).length = _; rw [kill_len M, List.length_set]
theorem kill_get : ∀ (M : List Nat) (H : Heap) {p : Nat}, p ∉ M → (killM H M)[p]? = H[p]?
  | [], H, p, h => rfl
  | q :: M, H, p, h => by
    rw [List.mem_cons, not_or] at h
    show (killM (H.set q .dead) M)[p]? = _
    rw [kill_get M _ h.2, List.getElem?_set_ne (Ne.symm h.1)]
theorem FoR_set {A H : Heap} (h : Grow A H) {b : Nat} (hb : A.length ≤ b) (B : Blk) : Grow A (H.set b B) := h.set hb B
theorem setlists_ax {H : Heap} {iv : Value} {I : List RS} (h : RL 2 setR H iv I) (hok : ∀ (i : Nat) s, I[i]? = some s → okS s) (hL : I.length ≤ 100000) :
    AX Try.prog 42 #[iv] H (fun v H' => RL 1 llR H' v (I.map fun s => memI s 128) ∧ Grow H H') := by
  have lI := h.len (P := Try.prog) (t := 61) (e := 67) rfl H
  refine AX.bodyD (n := 27) (rs := [.tmp 2]) Try.func42 rfl (by decide) rfl rfl (dC_sound _ _ _ _ _ ?_)
  (conv => whnf)
  refine run ?_
  refine SD.loop (α := Nat × Value) (fun y => [(3, y.2), (8, iv), (9, .int .i64 (I.length : Int)), (10, .int .i64 (y.1 : Int))])
    (fun y X M => y.1 ≤ I.length ∧ Grow H X ∧ OwnR 1 35 llO X y.2 ((I.take y.1).map fun s => memI s 128) ∧ (∀ b, blkIs y.2 b → H.length ≤ b) ∧ M.Nodup ∧ ∀ q ∈ M, X[q]? = some .defd ∧ H.length ≤ q) (fun y => I.length - y.1)
    ⟨(0, .slice none 0 0), ⟨rfl, rfl, rfl, rfl, trivial⟩, Nat.zero_le _, .refl _, .inl ⟨rfl, by simp⟩, fun b ⟨_, _, hb⟩ => by simp at hb, List.nodup_nil, fun q hq => by simp at hq⟩ ?_
  rintro ⟨j, ov⟩ X M ⟨hj, gX, hov, hob, hMn, hM⟩
  dsimp only at hj hov hob ⊢
  refine dC_sound _ _ _ _ _ ?_
  by_cases hjl : j < I.length
  rotate_left
  · have d1 : decide ((j : Int) < (I.length : Int)) = false := decide_eq_false (by omega)
    rw [List.take_of_length_le (by omega)] at hov
    refine run ?_
    have hnot : ∀ b c, blkIs ov b → X[b]? = some (.cells (.row 35) c) → (killM X M)[b]? = some (.cells (.row 35) c) := fun b c _ hb => by
      rw [kill_get M X fun hm => by have := (hM b hm).1; rw [hb] at this; simp at this]; exact hb
    refine ⟨hMn, fun q hq => (hM q hq).1, ?_⟩
    (conv => whnf)
    refine ⟨OwnR.ll (hov.keep hnot fun l x _ ⟨v, h1, h2⟩ => ⟨v, h1, h2.keep (fun b c _ hb => ?_) fun _ _ _ h => h⟩), by rw [kill_len]; exact gX.1, fun p hp => ?_⟩
    · rw [kill_get M X fun hm => by have := (hM b hm).1; rw [hb] at this; simp at this]; exact hb
    · rw [kill_get M X fun hm => by have := (hM p hm).2; omega]; exact gX.2 p hp
  have d1 : decide ((j : Int) < (I.length : Int)) = true := decide_eq_true (by omega)
  obtain ⟨s, hs⟩ := get_lt hjl
  obtain ⟨p, p1, p2⟩ := set_at h hs
  have p3 := p2 X gX
  have hso := hok j s hs
  refine run ?_
  refine Ob2.alloc rfl fun q5 X1 hq5 a5 g5 => ?_
  refine run ?_
  refine Ob.store rfl rfl rfl a5 rfl (by first | exact Nat.le_of_ble_eq_true rfl | simp) fun X2 s5 k5 l5 => ?_
  have gX2 : Grow X X2 := g5.but_new k5 (by omega)
  refine run ?_
  refine Ob2.alloc rfl fun q6 X3 hq6 a6 g6 => ?_
  have gX3 := gX2.trans g6
  have l5' : aload Try.prog 67 (.pointer (some ⟨q5, 0, none⟩)) X3 = some (setV s) := ald_agg rfl rfl rfl (hblk_of (g6.at s5)) rfl
  refine run ?_
  refine (all_ax X3 s).mono ?_
  rintro _ H3 ⟨a, rfl, g3, ha⟩
  have gH3 := gX3.trans g3
  have c6 := g3.at a6
  have hq6' : q6 < H3.length := lt_at c6
  have hX6 : X.length ≤ q6 := by have := gX2.1; omega
  have ha3 : a < H3.length := lt_at ha
  have hXl := gX.1
  have ea : a ≠ q6 := by rintro rfl; rw [c6] at ha; simp at ha
  refine run ?_
  refine SD.rangeFunc (gf := 79) (cap := #[.pointer (some ⟨a, 0, none⟩)]) rfl ?_
  generalize hR : Blk.lrec 27 _ LoopState.ready none #[16] _ _ = R
  have gg : Grow H3 (H3 ++ [.defd] ++ [R]) := (Grow.push _ _).trans (.push _ _)
  refine (all1_ax (q := H3.length + 1) (a := a) hso
    (J := fun i Y => But q6 H3 Y ∧ (∃ sv, Y[q6]? = some (.cells .var [sv]) ∧ OwnR 1 3 intR Y sv (memI s i) ∧ ∀ b, blkIs sv b → H3.length + 2 ≤ b) ∧ Y[H3.length]? = some .defd ∧ Y[H3.length + 1]? = some R)
    (fun i Y hY => hblk_of (hY.1.at ha ea)) ?_ ?_ ⟨gg.but _, ⟨_, gg.at c6, .inl ⟨rfl, rfl⟩, fun b ⟨_, _, hb⟩ => by simp at hb⟩, by simp, by simp⟩).mono ?_
  · rintro i Y hi ⟨kY, ⟨sv, y6, yo, ybk⟩, yd, yr⟩ hm
    subst hR
    have hYl : H3.length + 2 ≤ Y.length := by have := lt_of_get yr; omega
    refine YX.round yr (by decide) ?_
    refine run ?_
    refine ⟨yr, ?_⟩
    generalize hU : Y.set (H3.length + 1) _ = U
    have kU : But q6 H3 U := by rw [← hU]; exact ⟨by rw [List.length_set]; exact kY.1, fun b hb hne => by rw [List.getElem?_set_ne (by omega)]; exact kY.2 b hb hne⟩
    have u6' : U[q6]? = some (.cells .var [sv]) := by rw [← hU]; exact hset_at y6 (by omega)
    have u6 : hblk U q6 = some [sv] := hblk_of u6'
    have ud : U[H3.length]? = some .defd := by rw [← hU]; exact hset_at yd (by omega)
    have uo : OwnR 1 3 intR U sv (memI s i) := yo.keep (fun b c hb h => by rw [← hU]; exact hset_at h (by have := ybk b hb; omega)) fun _ _ _ h => h
    have hUl : H3.length + 2 ≤ U.length := by rw [← hU, List.length_set]; omega
    obtain ⟨sa, sn, sm, rfl⟩ := uo.form
    refine run ?_
    refine Ob2.lay (H := U) (.cells (.row 3) [.int .i64 (i : Int)]) (.slice (some ⟨U.length, 0, none⟩) 1 1) rfl fun U2 b2 e2 l2 => ?_
    have hml := memI_len s i
    obtain ⟨U3, ap, o3, f3, n3⟩ := OwnR.append (n := H3.length + 2) (x := (i : Int)) rowInt rowInt (uo.keep (fun b c _ h => e2.at h) fun _ _ _ h => h) b2 rfl rfl ybk (by omega) (by omega) (fun _ _ _ _ _ h => h)
    have k3' : ∀ {p : Nat} {B : Blk}, p < H3.length + 2 → U[p]? = some B → U3[p]? = some B := fun hp h => f3.2 _ _ (e2.at h) (.inl hp)
    have v6 := k3' (by omega) u6'
    refine run ?_
    refine Ob2.of ap ?_
    refine run ?_
    refine Ob.store rfl rfl rfl v6 rfl (by first | exact Nat.le_of_ble_eq_true rfl | simp) fun V s3' s4' s5' => ?_
    have kV : ∀ {p : Nat} {B : Blk}, p < H3.length + 2 → p ≠ q6 → U[p]? = some B → V[p]? = some B := fun hp hq h => by rw [s4'.2 _ (lt_at (k3' hp h)) hq]; exact k3' hp h
    have vR := kV (p := H3.length + 1) (by omega) (by omega) (by rw [← hU]; exact hset_self yr)
    have hUV : U.length ≤ V.length := by have := e2.1; have := f3.1; omega
    have vo : OwnR 1 3 intR V (.slice (some ⟨U2.length, 0, none⟩) ((memI s i).length + 1) 1) (memI s i ++ [(i : Int)]) := o3.keep (fun b c hb h => by
      obtain ⟨n', k', hb⟩ := hb
      simp only [Value.slice.injEq, Option.some.injEq, Addr.mk.injEq, and_true] at hb
      rw [s4'.2 _ (lt_at h) (by omega)]; exact h) fun _ _ _ h => h
    refine run ?_
    refine ⟨vR, rfl, ⟨by rw [List.length_set]; have := kU.1; omega, fun b hb hne => ?_⟩, ⟨_, hset_at s3' (by omega), ?_, fun b hb => ?_⟩, hset_at (kV (by omega) (by omega) ud) (by omega), hset_self vR⟩
    · rw [List.getElem?_set_ne (by omega)]
      cases hx : H3[b]? with
      | none => have := List.getElem?_eq_none_iff.1 hx; omega
      | some B => exact kV (by omega) hne (kU.at hx hne)
    · rw [memI_yes hm]
      exact vo.keep (fun b c hb h => hset_at h (by
        obtain ⟨n', k', hb⟩ := hb
        simp only [Value.slice.injEq, Option.some.injEq, Addr.mk.injEq, and_true] at hb
        omega)) fun _ _ _ h => h
    · obtain ⟨n', k', hb⟩ := hb
      simp only [Value.slice.injEq, Option.some.injEq, Addr.mk.injEq, and_true] at hb
      omega
  · rintro i Y hi ⟨kY, ⟨sv, y6, yo, ybk⟩, yd, yr⟩ hm
    exact ⟨kY, ⟨sv, y6, by rw [memI_no hm]; exact yo, ybk⟩, yd, yr⟩
  · rintro _ Y ⟨kY, ⟨sv, y6, yo, ybk⟩, yd, yr⟩
    subst hR
    have hYl := lt_of_get yr
    refine ⟨_, _, yr, by simp, ?_⟩
    obtain ⟨sa, sn, sm, rfl⟩ := yo.form
    generalize hW : Y.set (H3.length + 1) .dead = W
    have kW : But q6 H3 W := by rw [← hW]; exact ⟨by rw [List.length_set]; exact kY.1, fun b hb hne => by rw [List.getElem?_set_ne (by omega)]; exact kY.2 b hb hne⟩
    have w6' : W[q6]? = some (.cells .var [.slice sa sn sm]) := by rw [← hW]; exact hset_at y6 (by omega)
    have w6 : hblk W q6 = some [.slice sa sn sm] := hblk_of w6'
    have wd : W[H3.length]? = some .defd := by rw [← hW]; exact hset_at yd (by omega)
    have wo : OwnR 1 3 intR W (.slice sa sn sm) (memI s 128) := yo.keep (fun b c hb h => by rw [← hW]; exact hset_at h (by have := ybk b hb; omega)) fun _ _ _ h => h
    have gXW : Grow X W := gX3.trans g3 |>.but_new kW (by omega)
    have hWl := gXW.1
    have hkeep : OwnR 1 35 llO W ov ((I.take j).map fun s => memI s 128) := hov.keep (fun b c _ hb => gXW.at hb) fun l x _ ⟨v, h1, h2⟩ => ⟨v, h1, h2.keep (fun b c _ hb => gXW.at hb) fun _ _ _ h => h⟩
    have hW3 : H3.length < W.length := lt_at wd
    (conv => whnf)
    refine run ?_
    refine Ob2.lay (H := W) (.cells (.row 35) [.slice sa sn sm]) (.slice (some ⟨W.length, 0, none⟩) 1 1) rfl fun U2 b2 e2 l2 => ?_
    obtain ⟨U3, ap, o3, f3, n3⟩ := OwnR.append (n := H.length) (x := memI s 128) rowLL rowLL (hkeep.keep (fun b c _ h => e2.at h) fun l x _ ⟨v, h1, h2⟩ => ⟨v, h1, h2.keep (fun b c _ hb => e2.at hb) fun _ _ _ h => h⟩) b2 rfl ⟨_, rfl, wo.keep (fun b c _ hb => e2.at hb) fun _ _ _ h => h⟩ hob (by omega) (by rw [List.length_map, List.length_take]; omega) llO.frr
    refine run ?_
    refine Ob2.of ap ?_
    have w1 := w_succ (k := j) (by omega)
    have gWU : FrR H.length 35 W U3 := (FrR.of e2).trans f3
    refine run ?_
    refine ⟨(j + 1, _), ⟨rfl, rfl, rfl, congrArg (fun z => some (Value.int .i64 z)) w1, trivial⟩, ⟨by dsimp only; omega, gWU.grow (gX.trans gXW) (Nat.le_refl _), ?_, fun b hb => ?_, ?_, fun q hq => ?_⟩, by show I.length - (j + 1) < I.length - j; omega⟩
    · rw [List.take_add_one, hs, Option.toList_some, List.map_append]
      have : ((I.take j).map fun s => memI s 128).length = j := by rw [List.length_map, List.length_take]; omega
      rw [this] at o3 ⊢
      exact o3
    · obtain ⟨n', k', hb⟩ := hb
      simp only [Value.slice.injEq, Option.some.injEq, Addr.mk.injEq, and_true] at hb
      have := e2.1
      omega
    · rw [List.nodup_cons]
      exact ⟨fun hm => by have := lt_at (hM _ hm).1; omega, hMn⟩
    · rcases List.mem_cons.1 hq with rfl | hq
      · exact ⟨gWU.2 _ _ wd (.inr fun c h => by simp at h), by omega⟩
      · exact ⟨gWU.2 _ _ (gXW.at (hM q hq).1) (.inr fun c h => by simp at h), (hM q hq).2⟩
end Go.Proofs.Ytnjckiaogikakaa
