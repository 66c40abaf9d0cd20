/- Package ir: Same; the reference's. Printed by mkIt7.py. -/
import Derived.Test.YtfobbmllbbckkaaJLi2
set_option linter.unusedVariables false
set_option linter.unusedSimpArgs false
set_option maxRecDepth 20000
set_option maxHeartbeats 8000000
namespace Go.Proofs.Ytfobbmllbbckkaa
open Go Ax
theorem badT {P : Prop} (h : ¬ P) : ((false : Bool) = true ↔ P) := ⟨fun e => by simp at e, fun e => absurd e h⟩
theorem ne_at {α : Type} {L M : List α} {m : Nat} {x y : α} (hx : L[m]? = some x) (hy : M[m]? = some y) (h : x ≠ y) : L ≠ M := fun e => by
  subst e
  rw [hx] at hy
  exact h (Option.some.inj hy)
theorem eqO_ax {H : Heap} {u v : Value} {L M : List OpX} (hu : RL 9 opxR H u L) (hv : RL 9 opxR H v M) (hL : L.length < 4294967296) (hs : ∀ o ∈ L, o.regs.length < 4294967296 ∧ o.cases.length < 4294967296 ∧ o.map.length < 4294967296) :
    AX Try.prog 51 #[u, v, fnV 52] H (fun r H' => (∃ t, r = .bool t ∧ (t = true ↔ L = M)) ∧ H' = H) := by
  refine AX.quiet ?_
  suffices hh : AX Try.prog 51 #[u, v, fnV 52] H (fun r H' => (∃ t, r = .bool t ∧ (t = true ↔ L = M)) ∧ Grow H H') from hh.mono fun v _ ⟨⟨b, e, k⟩, g⟩ => ⟨e ▸ plain_bool _, ⟨b, e, k⟩, g⟩
  refine AX.body (n := 32) (rs := [.tmp 6]) Try.func51 rfl (by decide) rfl rfl (bC_sound _ _ _ _ ?_)
  have l1 : alen Try.prog 27 u H = some (.int .i64 L.length) := hu.len rfl _
  have l2 : alen Try.prog 27 v H = some (.int .i64 M.length) := hv.len rfl _
  by_cases hlen : L.length = M.length
  rotate_left
  · have e1 : ((L.length : Int) != (M.length : Int)) = true := by rw [bne_iff_ne]; omega
    refine run ?_
    exact ⟨⟨false, rfl, badT fun h => hlen (congrArg _ h)⟩, .refl _⟩
  have e1 : ((L.length : Int) != (M.length : Int)) = false := by rw [hlen, bne_self_eq_false]
  refine run ?_
  refine SW.loop (α := Nat) (fun m => [(0, u), (1, v), (2, fnV 52), (15, u), (16, .int .i64 L.length), (17, .int .i64 (m : Int))]) (fun m X => m ≤ L.length ∧ L.take m = M.take m ∧ Grow H X) (fun m => L.length - m) ⟨0, ⟨rfl, rfl, rfl, rfl, rfl, rfl, trivial⟩, by omega, rfl, .refl _⟩ ?_
  rintro m X ⟨hm, ht, gX⟩
  refine bC_sound _ _ _ _ ?_
  by_cases hml : m < L.length
  · have d1 : decide ((m : Int) < (L.length : Int)) = true := decide_eq_true (by omega)
    obtain ⟨o, ho⟩ := get_lt hml
    obtain ⟨o2, ho2⟩ := get_lt (L := M) (m := m) (by omega)
    obtain ⟨x, rx, cx, mx, i1, ir, ic, im, i2⟩ := ldx_op hu ho
    obtain ⟨y, ry, cy, my, j1, jr, jc, jm, j2⟩ := ldx_op hv ho2
    have i3 := (i2 X gX).1
    refine run ?_
    refine Ob2.alloc rfl fun q8 X1 hq8 a8 g8 => ?_
    refine run ?_
    refine Ob.store rfl rfl rfl a8 rfl (by first | exact Nat.le_of_ble_eq_true rfl | simp) fun X2 s8 k8 l8 => ?_
    replace g8 := g8.but_new k8 (Nat.le_of_eq hq8.symm)
    have s8 : X2[q8]? = some (.cells .var [.int .i64 o.kind, .int .i64 o.a, .int .i64 o.b, .int .i64 o.c, .int .i64 o.d, rx, cx, .int .i64 o.pc, mx]) := s8
    have j3 := (j2 X2 (gX.trans g8)).1
    refine run ?_
    refine Ob2.alloc rfl fun q9 X3 hq9 a9 g9 => ?_
    refine run ?_
    refine Ob.store rfl rfl rfl a9 rfl (by first | exact Nat.le_of_ble_eq_true rfl | simp) fun X4 s9 k9 l9 => ?_
    replace g9 := g9.but_new k9 (Nat.le_of_eq hq9.symm)
    have s9 : X4[q9]? = some (.cells .var [.int .i64 o2.kind, .int .i64 o2.a, .int .i64 o2.b, .int .i64 o2.c, .int .i64 o2.d, ry, cy, .int .i64 o2.pc, my]) := s9
    have b8 := hblk_of (g9.at s8)
    have b9 := hblk_of s9
    have g4 := (gX.trans g8).trans g9
    refine run ?_
    refine (sameOp_ax (intR.grow ir g4) (caseR.grow ic g4) (intR.grow im g4) (intR.grow jr g4) (caseR.grow jc g4) (intR.grow jm g4) (hs o (List.mem_of_getElem? ho))).mono ?_
    rintro _ Y ⟨⟨t, rfl, hT⟩, e⟩
    subst Y
    cases t with
    | false =>
      refine run ?_
      exact ⟨⟨false, rfl, badT (ne_at ho ho2 fun h => by simpa using hT.2 h)⟩, g4⟩
    | true =>
      have := hT.1 rfl
      subst this
      refine run ?_
      exact ⟨m + 1, ⟨rfl, rfl, rfl, rfl, rfl, congrArg (fun z => some (Value.int .i64 z)) (w_succ (by omega)), trivial⟩, ⟨hml, take_next ht ho ho2, g4⟩, by show L.length - (m + 1) < L.length - m; omega⟩
  · have d1 : decide ((m : Int) < (L.length : Int)) = false := decide_eq_false (by omega)
    have hLM : L = M := by rwa [List.take_of_length_le (by omega), List.take_of_length_le (by omega)] at ht
    refine run ?_
    exact ⟨⟨true, rfl, fun _ => hLM, fun _ => rfl⟩, gX⟩
theorem body_eqX {b b' : BodyX} : b = b' ↔ b.F = b'.F ∧ b.regs = b'.regs ∧ b.consts = b'.consts ∧ b.ops = b'.ops ∧ b.deps = b'.deps := by
  obtain ⟨a, c, d, e, f⟩ := b
  obtain ⟨a', c', d', e', f'⟩ := b'
  simp
/-- A body of short lists. -/
structure ShortB (b : BodyX) : Prop where
  con : b.consts.length < 4294967296
  ops : b.ops.length < 4294967296
  deps : b.deps.length < 4294967296
  op : ∀ o ∈ b.ops, o.regs.length < 4294967296 ∧ o.cases.length < 4294967296 ∧ o.map.length < 4294967296
theorem short_of {b : BodyX} (h : FewB b 300) : ShortB b := ⟨by have := h.con; omega, by have := h.ops; omega, by have := h.deps; omega, fun o ho => by have := h.op o ho; omega⟩
theorem irSame_ax {H : Heap} {b b' : BodyX} {kv ov dv kv' ov' dv' : Value} (h : BodyIn H b kv ov dv) (h' : BodyIn H b' kv' ov' dv') (hs : ShortB b) :
    AX Try.prog 16 #[bodyV b kv ov dv, bodyV b' kv' ov' dv'] H (fun r H' => (∃ t, r = .bool t ∧ (t = true ↔ b = b')) ∧ H' = H) := by
  refine AX.quiet ?_
  suffices hh : AX Try.prog 16 #[bodyV b kv ov dv, bodyV b' kv' ov' dv'] H (fun r H' => (∃ t, r = .bool t ∧ (t = true ↔ b = b')) ∧ Grow H H') from hh.mono fun v _ ⟨⟨b, e, k⟩, g⟩ => ⟨e ▸ plain_bool _, ⟨b, e, k⟩, g⟩
  rw [body_eqX]
  refine AX.body (n := 38) (rs := [.tmp 4]) Try.func16 rfl (by decide) rfl rfl (bC_sound _ _ _ _ ?_)
  (conv => whnf)
  refine Ob2.box rfl fun q1 H1 hq1 a1 g1 => ?_
  (conv => whnf)
  refine Ob2.box rfl fun q2 H2 hq2 a2 g2 => ?_
  have b1 := hblk_of (g2.at a1)
  have b2 := hblk_of a2
  have g := g1.trans g2
  replace h := h.grow g
  replace h' := h'.grow g
  by_cases k1 : b.F = b'.F
  rotate_left
  · have e1 : (b.F == b'.F) = false := beq_eq_false_iff_ne.2 k1
    refine run ?_
    exact ⟨⟨false, rfl, badT fun h => k1 h.1⟩, g⟩
  have e1 : (b.F == b'.F) = true := beq_iff_eq.2 k1
  by_cases k2 : b.regs = b'.regs
  rotate_left
  · have e2 : (b.regs == b'.regs) = false := beq_eq_false_iff_ne.2 k2
    refine run ?_
    exact ⟨⟨false, rfl, badT fun h => k2 h.2.1⟩, g⟩
  have e2 : (b.regs == b'.regs) = true := beq_iff_eq.2 k2
  refine run ?_
  refine (eqV_ax h.con h'.con hs.con).mono ?_
  rintro _ X ⟨rfl, e⟩
  subst X
  by_cases k3 : b.consts = b'.consts
  rotate_left
  · rw [decide_eq_false k3]
    refine run ?_
    exact ⟨⟨false, rfl, badT fun h => k3 h.2.2.1⟩, g⟩
  rw [decide_eq_true k3]
  refine run ?_
  refine (eqO_ax h.ops h'.ops hs.ops hs.op).mono ?_
  rintro _ X ⟨⟨t, rfl, hT⟩, e⟩
  subst X
  cases t with
  | false =>
    refine run ?_
    exact ⟨⟨false, rfl, badT fun h => by simpa using hT.2 h.2.2.2.1⟩, g⟩
  | true =>
  refine run ?_
  refine (eqD_ax h.deps h'.deps hs.deps).mono ?_
  rintro _ X ⟨rfl, e⟩
  subst X
  by_cases k5 : b.deps = b'.deps
  rotate_left
  · rw [decide_eq_false k5]
    refine run ?_
    exact ⟨⟨false, rfl, badT fun h => k5 h.2.2.2.2⟩, g⟩
  rw [decide_eq_true k5]
  refine run ?_
  exact ⟨⟨true, rfl, fun _ => ⟨k1, k2, k3, hT.1 rfl, k5⟩, fun _ => rfl⟩, g⟩
theorem rSame_ax {H : Heap} {s t : BodyX} {kv ov dv kv' ov' dv' : Value} (h : BodyIn H s kv ov dv) (h' : BodyIn H t kv' ov' dv') (hs : ShortB s) :
    AX Try.prog 17 #[bodyV s kv ov dv, bodyV t kv' ov' dv'] H (fun r H' => (∃ b, r = .bool b ∧ (b = true ↔ s = t)) ∧ H' = H) := by
  refine AX.quiet ?_
  suffices hh : AX Try.prog 17 #[bodyV s kv ov dv, bodyV t kv' ov' dv'] H (fun r H' => (∃ b, r = .bool b ∧ (b = true ↔ s = t)) ∧ Grow H H') from hh.mono fun v _ ⟨⟨b, e, k⟩, g⟩ => ⟨e ▸ plain_bool _, ⟨b, e, k⟩, g⟩
  rw [body_eqX]
  have hso := hs.ops
  have hsd := hs.deps
  obtain ⟨ga, gn, gk, rfl⟩ : ∃ a n k, ov = .slice a n k := by rcases h.ops with ⟨h, _⟩ | ⟨b, h, _⟩ <;> exact ⟨_, _, _, h⟩
  obtain ⟨ja, jn, jk, rfl⟩ : ∃ a n k, ov' = .slice a n k := by rcases h'.ops with ⟨h, _⟩ | ⟨b, h, _⟩ <;> exact ⟨_, _, _, h⟩
  refine AX.body (n := 166) (rs := [.tmp 4]) Try.func17 rfl (by decide) rfl rfl (bC_sound _ _ _ _ ?_)
  (conv => whnf)
  refine Ob2.box rfl fun q1 H1 hq1 n1 g1 => ?_
  (conv => whnf)
  refine Ob2.box rfl fun q2 H2 hq2 n2 g2 => ?_
  have b1 := hblk_of (g2.at n1)
  have b2 := hblk_of n2
  have g := g1.trans g2
  replace h := h.grow g
  replace h' := h'.grow g
  have lo : ∀ X, alen Try.prog 27 (.slice ga gn gk) X = some (.int .i64 s.ops.length) := fun X => h.ops.len rfl _
  have lo' : ∀ X, alen Try.prog 27 (.slice ja jn jk) X = some (.int .i64 t.ops.length) := fun X => h'.ops.len rfl _
  have ld : ∀ X, alen Try.prog 28 dv X = some (.int .i64 s.deps.length) := fun X => h.deps.len rfl _
  have ld' : ∀ X, alen Try.prog 28 dv' X = some (.int .i64 t.deps.length) := fun X => h'.deps.len rfl _
  have lo2 := lo H2
  have lo2' := lo' H2
  have ld2 := ld H2
  have ld2' := ld' H2
  by_cases k1 : s.F = t.F
  rotate_left
  · have e1 : (s.F != t.F) = true := bne_iff_ne.2 k1
    refine run ?_
    exact ⟨⟨false, rfl, badT fun h => k1 h.1⟩, g⟩
  have e1 : (s.F != t.F) = false := by rw [k1, bne_self_eq_false]
  by_cases k2 : s.regs = t.regs
  rotate_left
  · have e2 : (s.regs != t.regs) = true := bne_iff_ne.2 k2
    refine run ?_
    exact ⟨⟨false, rfl, badT fun h => k2 h.2.1⟩, g⟩
  have e2 : (s.regs != t.regs) = false := by rw [k2, bne_self_eq_false]
  refine run ?_
  refine (SameList_ax h.con h'.con hs.con).mono ?_
  rintro _ X ⟨⟨b, rfl, hb⟩, e⟩
  subst X
  cases b with
  | false =>
    refine run ?_
    exact ⟨⟨false, rfl, badT fun h => by simpa using hb.2 h.2.2.1⟩, g⟩
  | true =>
  have k3 := hb.1 rfl
  by_cases k4 : s.ops.length = t.ops.length
  rotate_left
  · have e4 : ((s.ops.length : Int) != (t.ops.length : Int)) = true := by rw [bne_iff_ne]; omega
    refine run ?_
    exact ⟨⟨false, rfl, badT fun h => k4 (congrArg _ h.2.2.2.1)⟩, g⟩
  have e4 : ((s.ops.length : Int) != (t.ops.length : Int)) = false := by rw [k4, bne_self_eq_false]
  by_cases k5 : s.deps.length = t.deps.length
  rotate_left
  · have e5 : ((s.deps.length : Int) != (t.deps.length : Int)) = true := by rw [bne_iff_ne]; omega
    refine run ?_
    exact ⟨⟨false, rfl, badT fun h => k5 (congrArg _ h.2.2.2.2)⟩, g⟩
  have e5 : ((s.deps.length : Int) != (t.deps.length : Int)) = false := by rw [k5, bne_self_eq_false]
  refine run ?_
  refine SW.loop (α := Nat) (fun m => [(2, .pointer (some ⟨q1, 0, none⟩)), (3, .pointer (some ⟨q2, 0, none⟩)), (5, .int .i64 (m : Int))]) (fun m X => m ≤ s.ops.length ∧ s.ops.take m = t.ops.take m ∧ Grow H2 X) (fun m => s.ops.length - m) ⟨0, ⟨rfl, rfl, rfl, trivial⟩, by omega, rfl, .refl _⟩ ?_
  rintro m H3 ⟨hm, ht, g3⟩
  refine bC_sound _ _ _ _ ?_
  have c1 := g3.hblk b1
  have c2 := g3.hblk b2
  have gg := g3
  have lo3 := lo H3
  have ld3 := ld H3
  by_cases hml : m < s.ops.length
  · have d1 : decide ((m : Int) < (s.ops.length : Int)) = true := decide_eq_true (by omega)
    obtain ⟨o, ho⟩ := get_lt hml
    obtain ⟨o2, ho2⟩ := get_lt (L := t.ops) (m := m) (by omega)
    obtain ⟨x0, rx, cx, mx, i1, ir, ic, im, i2'⟩ := ldx_op h.ops ho
    obtain ⟨y0, ry, cy, my, j1, jr, jc, jm, j2'⟩ := ldx_op h'.ops ho2
    generalize hx : Value.pointer (some ⟨x0, m * 9, none⟩) = x at i1 i2'
    generalize hy : Value.pointer (some ⟨y0, m * 9, none⟩) = y at j1 j2'
    have i2 := fun X G => (i2' X G).1
    have j2 := fun X G => (j2' X G).1
    have hreg := hs.op o (List.mem_of_getElem? ho)
    refine run ?_
    refine SW.sub (F := [(2, _), (3, _), (5, _)]) ?_ (Sub.of ⟨rfl, rfl, rfl, trivial⟩)
    refine SW.drawS (R2 10 [.pointer (some ⟨q1, 3, none⟩), .slice ga gn gk, .int .i64 (m : Int), x, opV o rx cx mx, .pointer (some ⟨q2, 3, none⟩), .slice ja jn jk, .int .i64 (m : Int), y, opV o2 ry cy my] H3 [.int .i64 0, .int .i64 0, .int .i64 0, .int .i64 0, .int .i64 0, .slice none 0 0, .slice none 0 0, .int .i64 0, .slice none 0 0] [.int .i64 0, .int .i64 0, .int .i64 0, .int .i64 0, .int .i64 0, .slice none 0 0, .slice none 0 0, .int .i64 0, .slice none 0 0] [.int .i64 o.kind, .int .i64 o.a, .int .i64 o.b, .int .i64 o.c, .int .i64 o.d, rx, cx, .int .i64 o.pc, mx] [.int .i64 o2.kind, .int .i64 o2.a, .int .i64 o2.b, .int .i64 o2.c, .int .i64 o2.d, ry, cy, .int .i64 o2.pc, my]) rfl (by kernel_rfl) (R2.init ..) ?_ ?_
    · intro i o L V K ho hl hah hbh hR
      have hk := hR.grow
      have c1 := hk.hblk c1
      have c2 := hk.hblk c2
      have i3 := i2 K (gg.trans hk)
      have j3 := j2 K (gg.trans hk)
      match i, ho, hl, hah, hbh with
      | 0, ho, hl, hah, hbh =>
        obtain rfl := Option.some.inj ho
        rw [envOf_eq, show pairsOf _ _ 0 = [] from by kernel_rfl, show exOf _ _ 0 = [57, 60, 61, 62, 63, 64, 6, 7] from by kernel_rfl]
        try simp only [valsOf]
        refine run ?_
        exact hR.float hl (by decide) rfl
      | 1, ho, hl, hah, hbh =>
        obtain rfl := Option.some.inj ho
        have e0 : V.getD 0 undef = .pointer (some ⟨q1, 3, none⟩) := hR.val 0 (by decide) (hah 0 (by kernel_rfl))
        rw [envOf_eq, show pairsOf _ _ 1 = [(55, 0)] from by kernel_rfl, show exOf _ _ 1 = [55, 57, 60, 61, 62, 63, 64, 6, 7] from by kernel_rfl]
        try simp only [valsOf, e0]
        refine run ?_
        exact hR.float hl (by decide) rfl
      | 2, ho, hl, hah, hbh =>
        obtain rfl := Option.some.inj ho
        rw [envOf_eq, show pairsOf _ _ 2 = [] from by kernel_rfl, show exOf _ _ 2 = [55, 56, 60, 61, 62, 63, 64, 6, 7] from by kernel_rfl]
        try simp only [valsOf]
        refine run ?_
        exact hR.float hl (by decide) rfl
      | 3, ho, hl, hah, hbh =>
        obtain rfl := Option.some.inj ho
        have e0 : V.getD 0 undef = .pointer (some ⟨q1, 3, none⟩) := hR.val 0 (by decide) (hah 0 (by kernel_rfl))
        have e1 : V.getD 1 undef = .slice ga gn gk := hR.val 1 (by decide) (hah 1 (by kernel_rfl))
        have e2 : V.getD 2 undef = .int .i64 (m : Int) := hR.val 2 (by decide) (hah 2 (by kernel_rfl))
        rw [envOf_eq, show pairsOf _ _ 3 = [(55, 0), (56, 1), (57, 2)] from by kernel_rfl, show exOf _ _ 3 = [55, 56, 57, 60, 61, 62, 63, 64, 6, 7] from by kernel_rfl]
        try simp only [valsOf, e0, e1, e2]
        refine run ?_
        exact hR.float hl (by decide) rfl
      | 4, ho, hl, hah, hbh =>
        obtain rfl := Option.some.inj ho
        have e0 : V.getD 0 undef = .pointer (some ⟨q1, 3, none⟩) := hR.val 0 (by decide) (hah 0 (by kernel_rfl))
        have e1 : V.getD 1 undef = .slice ga gn gk := hR.val 1 (by decide) (hah 1 (by kernel_rfl))
        have e2 : V.getD 2 undef = .int .i64 (m : Int) := hR.val 2 (by decide) (hah 2 (by kernel_rfl))
        have e3 : V.getD 3 undef = x := hR.val 3 (by decide) (hah 3 (by kernel_rfl))
        rw [envOf_eq, show pairsOf _ _ 4 = [(55, 0), (56, 1), (57, 2), (58, 3)] from by kernel_rfl, show exOf _ _ 4 = [55, 56, 57, 58, 60, 61, 62, 63, 64, 6, 7] from by kernel_rfl]
        try simp only [valsOf, e0, e1, e2, e3]
        refine run ?_
        exact hR.float hl (by decide) rfl
      | 5, ho, hl, hah, hbh =>
        obtain rfl := Option.some.inj ho
        rw [envOf_eq, show pairsOf _ _ 5 = [] from by kernel_rfl, show exOf _ _ 5 = [55, 56, 57, 58, 59, 62, 6, 7] from by kernel_rfl]
        try simp only [valsOf]
        refine run ?_
        exact hR.float hl (by decide) rfl
      | 6, ho, hl, hah, hbh =>
        obtain rfl := Option.some.inj ho
        have e5 : V.getD 5 undef = .pointer (some ⟨q2, 3, none⟩) := hR.val 5 (by decide) (hah 5 (by kernel_rfl))
        rw [envOf_eq, show pairsOf _ _ 6 = [(60, 5)] from by kernel_rfl, show exOf _ _ 6 = [55, 56, 57, 58, 59, 60, 62, 6, 7] from by kernel_rfl]
        try simp only [valsOf, e5]
        refine run ?_
        exact hR.float hl (by decide) rfl
      | 7, ho, hl, hah, hbh =>
        obtain rfl := Option.some.inj ho
        rw [envOf_eq, show pairsOf _ _ 7 = [] from by kernel_rfl, show exOf _ _ 7 = [55, 56, 57, 58, 59, 60, 61, 6, 7] from by kernel_rfl]
        try simp only [valsOf]
        refine run ?_
        exact hR.float hl (by decide) rfl
      | 8, ho, hl, hah, hbh =>
        obtain rfl := Option.some.inj ho
        have e5 : V.getD 5 undef = .pointer (some ⟨q2, 3, none⟩) := hR.val 5 (by decide) (hah 5 (by kernel_rfl))
        have e6 : V.getD 6 undef = .slice ja jn jk := hR.val 6 (by decide) (hah 6 (by kernel_rfl))
        have e7 : V.getD 7 undef = .int .i64 (m : Int) := hR.val 7 (by decide) (hah 7 (by kernel_rfl))
        rw [envOf_eq, show pairsOf _ _ 8 = [(60, 5), (61, 6), (62, 7)] from by kernel_rfl, show exOf _ _ 8 = [55, 56, 57, 58, 59, 60, 61, 62, 6, 7] from by kernel_rfl]
        try simp only [valsOf, e5, e6, e7]
        refine run ?_
        exact hR.float hl (by decide) rfl
      | 9, ho, hl, hah, hbh =>
        obtain rfl := Option.some.inj ho
        have e5 : V.getD 5 undef = .pointer (some ⟨q2, 3, none⟩) := hR.val 5 (by decide) (hah 5 (by kernel_rfl))
        have e6 : V.getD 6 undef = .slice ja jn jk := hR.val 6 (by decide) (hah 6 (by kernel_rfl))
        have e7 : V.getD 7 undef = .int .i64 (m : Int) := hR.val 7 (by decide) (hah 7 (by kernel_rfl))
        have e8 : V.getD 8 undef = y := hR.val 8 (by decide) (hah 8 (by kernel_rfl))
        rw [envOf_eq, show pairsOf _ _ 9 = [(60, 5), (61, 6), (62, 7), (63, 8)] from by kernel_rfl, show exOf _ _ 9 = [55, 56, 57, 58, 59, 60, 61, 62, 63, 6, 7] from by kernel_rfl]
        try simp only [valsOf, e5, e6, e7, e8]
        refine run ?_
        exact hR.float hl (by decide) rfl
      | 10, ho, hl, hah, hbh =>
        obtain rfl := Option.some.inj ho
        rw [envOf_eq, show pairsOf _ _ 10 = [] from by kernel_rfl, show exOf _ _ 10 = [55, 56, 57, 58, 59, 60, 61, 62, 63, 64, 7] from by kernel_rfl]
        try simp only [valsOf]
        (conv => whnf)
        exact Ob2.of (b := K ++ [.cells .var [.int .i64 0, .int .i64 0, .int .i64 0, .int .i64 0, .int .i64 0, .slice none 0 0, .slice none 0 0, .int .i64 0, .slice none 0 0]]) rfl (hR.allocA rfl hl (hbh 12 (by decide) (by kernel_rfl)))
      | 11, ho, hl, hah, hbh =>
        obtain rfl := Option.some.inj ho
        rw [envOf_eq, show pairsOf _ _ 11 = [] from by kernel_rfl, show exOf _ _ 11 = [55, 56, 57, 58, 59, 60, 61, 62, 63, 64, 6] from by kernel_rfl]
        try simp only [valsOf]
        (conv => whnf)
        exact Ob2.of (b := K ++ [.cells .var [.int .i64 0, .int .i64 0, .int .i64 0, .int .i64 0, .int .i64 0, .slice none 0 0, .slice none 0 0, .int .i64 0, .slice none 0 0]]) rfl (hR.allocB rfl hl (hbh 13 (by decide) (by kernel_rfl)))
      | 12, ho, hl, hah, hbh =>
        obtain rfl := Option.some.inj ho
        have e0 : V.getD 0 undef = .pointer (some ⟨q1, 3, none⟩) := hR.val 0 (by decide) (hah 0 (by kernel_rfl))
        have e1 : V.getD 1 undef = .slice ga gn gk := hR.val 1 (by decide) (hah 1 (by kernel_rfl))
        have e2 : V.getD 2 undef = .int .i64 (m : Int) := hR.val 2 (by decide) (hah 2 (by kernel_rfl))
        have e3 : V.getD 3 undef = x := hR.val 3 (by decide) (hah 3 (by kernel_rfl))
        have e4 : V.getD 4 undef = opV o rx cx mx := hR.val 4 (by decide) (hah 4 (by kernel_rfl))
        obtain ⟨a, a1, a2, a3⟩ := hR.fst (hah 10 (by kernel_rfl))
        obtain ⟨b, b1, b2, b3⟩ := hR.snd (hah 11 (by kernel_rfl))
        rw [envOf_eq, show pairsOf _ _ 12 = [(55, 0), (56, 1), (57, 2), (58, 3), (59, 4), (6, 10), (7, 11)] from by kernel_rfl, show exOf _ _ 12 = [55, 56, 57, 58, 59, 60, 61, 62, 63, 64, 6, 7] from by kernel_rfl]
        have b2 : V.getD 11 undef = .pointer (some ⟨b, 0, none⟩) := b2
        try simp only [valsOf, e0, e1, e2, e3, e4, a2, b2]
        rw [if_neg (by simp [hl])] at a3
        (conv => whnf)
        exact Ob.store rfl rfl rfl a3 rfl (by first | exact Nat.le_of_ble_eq_true rfl | simp) fun K1 k1 k2 k3 => hR.storeA rfl hl (hah 10 (by kernel_rfl)) a2 k1 k2
      | 13, ho, hl, hah, hbh =>
        obtain rfl := Option.some.inj ho
        have e0 : V.getD 0 undef = .pointer (some ⟨q1, 3, none⟩) := hR.val 0 (by decide) (hah 0 (by kernel_rfl))
        have e1 : V.getD 1 undef = .slice ga gn gk := hR.val 1 (by decide) (hah 1 (by kernel_rfl))
        have e2 : V.getD 2 undef = .int .i64 (m : Int) := hR.val 2 (by decide) (hah 2 (by kernel_rfl))
        have e3 : V.getD 3 undef = x := hR.val 3 (by decide) (hah 3 (by kernel_rfl))
        have e4 : V.getD 4 undef = opV o rx cx mx := hR.val 4 (by decide) (hah 4 (by kernel_rfl))
        have e5 : V.getD 5 undef = .pointer (some ⟨q2, 3, none⟩) := hR.val 5 (by decide) (hah 5 (by kernel_rfl))
        have e6 : V.getD 6 undef = .slice ja jn jk := hR.val 6 (by decide) (hah 6 (by kernel_rfl))
        have e7 : V.getD 7 undef = .int .i64 (m : Int) := hR.val 7 (by decide) (hah 7 (by kernel_rfl))
        have e8 : V.getD 8 undef = y := hR.val 8 (by decide) (hah 8 (by kernel_rfl))
        have e9 : V.getD 9 undef = opV o2 ry cy my := hR.val 9 (by decide) (hah 9 (by kernel_rfl))
        obtain ⟨a, a1, a2, a3⟩ := hR.fst (hah 10 (by kernel_rfl))
        obtain ⟨b, b1, b2, b3⟩ := hR.snd (hah 11 (by kernel_rfl))
        rw [envOf_eq, show pairsOf _ _ 13 = [(55, 0), (56, 1), (57, 2), (58, 3), (59, 4), (60, 5), (61, 6), (62, 7), (63, 8), (64, 9), (6, 10), (7, 11)] from by kernel_rfl, show exOf _ _ 13 = [55, 56, 57, 58, 59, 60, 61, 62, 63, 64, 6, 7] from by kernel_rfl]
        have b2 : V.getD 11 undef = .pointer (some ⟨b, 0, none⟩) := b2
        try simp only [valsOf, e0, e1, e2, e3, e4, e5, e6, e7, e8, e9, a2, b2]
        rw [if_neg (by simp [hl])] at b3
        (conv => whnf)
        exact Ob.store rfl rfl rfl b3 rfl (by first | exact Nat.le_of_ble_eq_true rfl | simp) fun K1 k1 k2 k3 => hR.storeB rfl hl (hah 11 (by kernel_rfl)) b2 k1 k2
      | i + 14, ho, hl, hah, hbh => exact absurd ho (by simp)
    intro V K hR
    have hk := hR.grow
    obtain ⟨pa, a1, a2, a3⟩ := hR.fst rfl
    obtain ⟨pb, b1, b2, b3⟩ := hR.snd rfl
    have a2 : V.getD 10 undef = .pointer (some ⟨pa, 0, none⟩) := a2
    have b2 : V.getD 11 undef = .pointer (some ⟨pb, 0, none⟩) := b2
    have hne : V.getD 10 undef ≠ V.getD 11 undef := hR.ne rfl rfl
    rw [endOf_eq, show endsOf _ = [(55, 0), (56, 1), (57, 2), (58, 3), (59, 4), (60, 5), (61, 6), (62, 7), (63, 8), (64, 9), (6, 10), (7, 11)] from by kernel_rfl]
    simp only [valsOf, a2, b2]
    rw [a2, b2] at hne
    have a3 : K[pa]? = some (.cells .var [.int .i64 o.kind, .int .i64 o.a, .int .i64 o.b, .int .i64 o.c, .int .i64 o.d, rx, cx, .int .i64 o.pc, mx]) := a3
    have b3 : K[pb]? = some (.cells .var [.int .i64 o2.kind, .int .i64 o2.a, .int .i64 o2.b, .int .i64 o2.c, .int .i64 o2.d, ry, cy, .int .i64 o2.pc, my]) := b3
    clear hR
    have ha' := hblk_of a3
    have hb' := hblk_of b3
    have gk := gg.trans hk
    have bad : o ≠ o2 → (((false : Bool) = true) ↔ s.F = t.F ∧ s.regs = t.regs ∧ s.consts = t.consts ∧ s.ops = t.ops ∧ s.deps = t.deps) := fun hne => badT fun h => ne_at ho ho2 hne h.2.2.2.1
    have gA := g.trans gk
    clear i2 j2 i2' j2' c1 c2 hne
    by_cases m0 : o.kind = o2.kind
    rotate_left
    · have t0 : (o.kind != o2.kind) = true := bne_iff_ne.2 m0
      refine run ?_
      exact ⟨⟨false, rfl, bad fun h => m0 (congrArg OpX.kind h)⟩, gA⟩
    have t0 : (o.kind != o2.kind) = false := by rw [m0, bne_self_eq_false]
    by_cases m1 : o.a = o2.a
    rotate_left
    · have t1 : (o.a != o2.a) = true := bne_iff_ne.2 m1
      refine run ?_
      exact ⟨⟨false, rfl, bad fun h => m1 (congrArg OpX.a h)⟩, gA⟩
    have t1 : (o.a != o2.a) = false := by rw [m1, bne_self_eq_false]
    by_cases m2 : o.b = o2.b
    rotate_left
    · have t2 : (o.b != o2.b) = true := bne_iff_ne.2 m2
      refine run ?_
      exact ⟨⟨false, rfl, bad fun h => m2 (congrArg OpX.b h)⟩, gA⟩
    have t2 : (o.b != o2.b) = false := by rw [m2, bne_self_eq_false]
    by_cases m3 : o.c = o2.c
    rotate_left
    · have t3 : (o.c != o2.c) = true := bne_iff_ne.2 m3
      refine run ?_
      exact ⟨⟨false, rfl, bad fun h => m3 (congrArg OpX.c h)⟩, gA⟩
    have t3 : (o.c != o2.c) = false := by rw [m3, bne_self_eq_false]
    by_cases m4 : o.d = o2.d
    rotate_left
    · have t4 : (o.d != o2.d) = true := bne_iff_ne.2 m4
      refine run ?_
      exact ⟨⟨false, rfl, bad fun h => m4 (congrArg OpX.d h)⟩, gA⟩
    have t4 : (o.d != o2.d) = false := by rw [m4, bne_self_eq_false]
    by_cases m5 : o.pc = o2.pc
    rotate_left
    · have t5 : (o.pc != o2.pc) = true := bne_iff_ne.2 m5
      refine run ?_
      exact ⟨⟨false, rfl, bad fun h => m5 (congrArg OpX.pc h)⟩, gA⟩
    have t5 : (o.pc != o2.pc) = false := by rw [m5, bne_self_eq_false]
    refine run ?_
    refine (numbersR_ax (intR.grow ir gk) (intR.grow jr gk) hreg.1).mono ?_
    rintro _ X ⟨rfl, e⟩
    subst X
    by_cases m6 : o.regs = o2.regs
    rotate_left
    · rw [decide_eq_false m6]
      refine run ?_
      exact ⟨⟨false, rfl, bad fun h => m6 (congrArg OpX.regs h)⟩, gA⟩
    rw [decide_eq_true m6]
    refine run ?_
    refine (numbersR_ax (intR.grow im gk) (intR.grow jm gk) hreg.2.2).mono ?_
    rintro _ X ⟨rfl, e⟩
    subst X
    by_cases m7 : o.map = o2.map
    rotate_left
    · rw [decide_eq_false m7]
      refine run ?_
      exact ⟨⟨false, rfl, bad fun h => m7 (congrArg OpX.map h)⟩, gA⟩
    rw [decide_eq_true m7]
    have lc : ∀ X, alen Try.prog 40 cx X = some (.int .i64 o.cases.length) := fun X => ic.len rfl _
    have lc' : ∀ X, alen Try.prog 40 cy X = some (.int .i64 o2.cases.length) := fun X => jc.len rfl _
    have lcK := lc K
    have lcK' := lc' K
    by_cases m8 : o.cases.length = o2.cases.length
    rotate_left
    · have t8 : ((o.cases.length : Int) != (o2.cases.length : Int)) = true := by rw [bne_iff_ne]; omega
      refine run ?_
      exact ⟨⟨false, rfl, bad fun h => m8 (congrArg (fun z => (OpX.cases z).length) h)⟩, gA⟩
    have t8 : ((o.cases.length : Int) != (o2.cases.length : Int)) = false := by rw [m8, bne_self_eq_false]
    refine run ?_
    refine SW.loop (α := Nat) (fun j => [(2, .pointer (some ⟨q1, 0, none⟩)), (3, .pointer (some ⟨q2, 0, none⟩)), (5, .int .i64 (m : Int)), (6, .pointer (some ⟨pa, 0, none⟩)), (7, .pointer (some ⟨pb, 0, none⟩)), (8, .int .i64 (j : Int))]) (fun j X => j ≤ o.cases.length ∧ o.cases.take j = o2.cases.take j ∧ X = K) (fun j => o.cases.length - j) ⟨0, ⟨rfl, rfl, rfl, rfl, rfl, rfl, trivial⟩, by omega, rfl, rfl⟩ ?_
    rintro j X ⟨hj, hjt, e⟩
    subst X
    refine bC_sound _ _ _ _ ?_
    by_cases hjl : j < o.cases.length
    · have d2 : decide ((j : Int) < (o.cases.length : Int)) = true := decide_eq_true (by omega)
      obtain ⟨c, hc⟩ := get_lt hjl
      obtain ⟨c', hc'⟩ := get_lt (L := o2.cases) (m := j) (by omega)
      obtain ⟨z, z1, z2⟩ := ldx_case ic hc
      obtain ⟨w, w1, w2⟩ := ldx_case jc hc'
      have z3 := (z2 K gk).1
      have w3 := (w2 K gk).1
      have ne := case_neq c c'
      by_cases hcc : c = c'
      · have d3 : decide (c ≠ c') = false := decide_eq_false fun h => h hcc
        rw [d3] at ne
        refine run ?_
        apply SW.drawG [(0, [], [139, 142, 143, 144, 145, 146], false), (1, [(137, 0)], [137, 139, 142, 143, 144, 145, 146], false), (2, [], [137, 138, 142, 143, 144, 145, 146], false), (3, [(137, 0), (138, 1), (139, 2)], [137, 138, 139, 142, 143, 144, 145, 146], false), (4, [(137, 0), (138, 1), (139, 2), (140, 3)], [137, 138, 139, 140, 142, 143, 144, 145, 146], false), (5, [], [137, 138, 139, 140, 141, 144], false), (6, [(142, 5)], [137, 138, 139, 140, 141, 142, 144], false), (7, [], [137, 138, 139, 140, 141, 142, 143], false), (8, [(142, 5), (143, 6), (144, 7)], [137, 138, 139, 140, 141, 142, 143, 144], false), (9, [(142, 5), (143, 6), (144, 7), (145, 8)], [137, 138, 139, 140, 141, 142, 143, 144, 145], false), (10, [(137, 0), (138, 1), (139, 2), (140, 3), (141, 4), (142, 5), (143, 6), (144, 7), (145, 8), (146, 9)], [137, 138, 139, 140, 141, 142, 143, 144, 145, 146], false)]
          [(137, 0), (138, 1), (139, 2), (140, 3), (141, 4), (142, 5), (143, 6), (144, 7), (145, 8), (146, 9), (147, 10)]
          [(2, _), (3, _), (5, _), (6, _), (7, _), (8, _)] rfl (by kernel_rfl)
        case hF => exact ⟨rfl, rfl, rfl, rfl, rfl, rfl, trivial⟩
        refine run ?_
        subst hcc
        exact ⟨j + 1, ⟨rfl, rfl, rfl, rfl, rfl, congrArg (fun z => some (Value.int .i64 z)) (w_succ (by omega)), trivial⟩, ⟨hjl, take_next hjt hc hc', rfl⟩, by show o.cases.length - (j + 1) < o.cases.length - j; omega⟩
      · have d3 : decide (c ≠ c') = true := decide_eq_true hcc
        rw [d3] at ne
        refine run ?_
        apply SW.drawG [(0, [], [139, 142, 143, 144, 145, 146], false), (1, [(137, 0)], [137, 139, 142, 143, 144, 145, 146], false), (2, [], [137, 138, 142, 143, 144, 145, 146], false), (3, [(137, 0), (138, 1), (139, 2)], [137, 138, 139, 142, 143, 144, 145, 146], false), (4, [(137, 0), (138, 1), (139, 2), (140, 3)], [137, 138, 139, 140, 142, 143, 144, 145, 146], false), (5, [], [137, 138, 139, 140, 141, 144], false), (6, [(142, 5)], [137, 138, 139, 140, 141, 142, 144], false), (7, [], [137, 138, 139, 140, 141, 142, 143], false), (8, [(142, 5), (143, 6), (144, 7)], [137, 138, 139, 140, 141, 142, 143, 144], false), (9, [(142, 5), (143, 6), (144, 7), (145, 8)], [137, 138, 139, 140, 141, 142, 143, 144, 145], false), (10, [(137, 0), (138, 1), (139, 2), (140, 3), (141, 4), (142, 5), (143, 6), (144, 7), (145, 8), (146, 9)], [137, 138, 139, 140, 141, 142, 143, 144, 145, 146], false)]
          [(137, 0), (138, 1), (139, 2), (140, 3), (141, 4), (142, 5), (143, 6), (144, 7), (145, 8), (146, 9), (147, 10)]
          [(2, _), (3, _), (5, _), (6, _), (7, _), (8, _)] rfl (by kernel_rfl)
        case hF => exact ⟨rfl, rfl, rfl, rfl, rfl, rfl, trivial⟩
        refine run ?_
        exact ⟨⟨false, rfl, bad fun h => ne_at hc hc' hcc (congrArg OpX.cases h)⟩, gA⟩
    have d2 : decide ((j : Int) < (o.cases.length : Int)) = false := decide_eq_false (by omega)
    have m9 : o.cases = o2.cases := by rwa [List.take_of_length_le (by omega), List.take_of_length_le (by omega)] at hjt
    have hoo : o = o2 := op_eqX.2 ⟨m0, ⟨m1, m2, m3, m4⟩, m5, m6, m9, m7⟩
    refine run ?_
    exact ⟨m + 1, ⟨rfl, rfl, congrArg (fun z => some (Value.int .i64 z)) (w_succ (by omega)), trivial⟩, ⟨hml, take_next ht ho (hoo ▸ ho2), gk⟩, by show s.ops.length - (m + 1) < s.ops.length - m; omega⟩
  have d1 : decide ((m : Int) < (s.ops.length : Int)) = false := decide_eq_false (by omega)
  have k6 : s.ops = t.ops := by rwa [List.take_of_length_le (by omega), List.take_of_length_le (by omega)] at ht
  refine run ?_
  refine SW.loop (α := Nat) (fun m => [(2, .pointer (some ⟨q1, 0, none⟩)), (3, .pointer (some ⟨q2, 0, none⟩)), (9, .int .i64 (m : Int))]) (fun m X => m ≤ s.deps.length ∧ s.deps.take m = t.deps.take m ∧ X = H3) (fun m => s.deps.length - m) ⟨0, ⟨rfl, rfl, rfl, trivial⟩, by omega, rfl, rfl⟩ ?_
  clear hm ht hml d1 m
  rintro m X ⟨hm, ht, e⟩
  subst X
  refine bC_sound _ _ _ _ ?_
  by_cases hml : m < s.deps.length
  · have d1 : decide ((m : Int) < (s.deps.length : Int)) = true := decide_eq_true (by omega)
    obtain ⟨c, hc⟩ := get_lt hml
    obtain ⟨c', hc'⟩ := get_lt (L := t.deps) (m := m) (by omega)
    obtain ⟨z, z1, z2⟩ := ldx_dep h.deps hc
    obtain ⟨w, w1, w2⟩ := ldx_dep h'.deps hc'
    have z3 := (z2 H3 g3).1
    have w3 := (w2 H3 g3).1
    have ne := dep_neq c c'
    by_cases hcc : c = c'
    · have d3 : decide (c ≠ c') = false := decide_eq_false fun h => h hcc
      rw [d3] at ne
      refine run ?_
      apply SW.drawG [(0, [], [157, 160, 161, 162, 163, 164], false), (1, [(155, 0)], [155, 157, 160, 161, 162, 163, 164], false), (2, [], [155, 156, 160, 161, 162, 163, 164], false), (3, [(155, 0), (156, 1), (157, 2)], [155, 156, 157, 160, 161, 162, 163, 164], false), (4, [(155, 0), (156, 1), (157, 2), (158, 3)], [155, 156, 157, 158, 160, 161, 162, 163, 164], false), (5, [], [155, 156, 157, 158, 159, 162], false), (6, [(160, 5)], [155, 156, 157, 158, 159, 160, 162], false), (7, [], [155, 156, 157, 158, 159, 160, 161], false), (8, [(160, 5), (161, 6), (162, 7)], [155, 156, 157, 158, 159, 160, 161, 162], false), (9, [(160, 5), (161, 6), (162, 7), (163, 8)], [155, 156, 157, 158, 159, 160, 161, 162, 163], false), (10, [(155, 0), (156, 1), (157, 2), (158, 3), (159, 4), (160, 5), (161, 6), (162, 7), (163, 8), (164, 9)], [155, 156, 157, 158, 159, 160, 161, 162, 163, 164], false)]
        [(155, 0), (156, 1), (157, 2), (158, 3), (159, 4), (160, 5), (161, 6), (162, 7), (163, 8), (164, 9), (165, 10)]
        [(2, _), (3, _), (9, _)] rfl (by kernel_rfl)
      case hF => exact ⟨rfl, rfl, rfl, trivial⟩
      refine run ?_
      subst hcc
      exact ⟨m + 1, ⟨rfl, rfl, congrArg (fun z => some (Value.int .i64 z)) (w_succ (by omega)), trivial⟩, ⟨hml, take_next ht hc hc', rfl⟩, by show s.deps.length - (m + 1) < s.deps.length - m; omega⟩
    · have d3 : decide (c ≠ c') = true := decide_eq_true hcc
      rw [d3] at ne
      refine run ?_
      apply SW.drawG [(0, [], [157, 160, 161, 162, 163, 164], false), (1, [(155, 0)], [155, 157, 160, 161, 162, 163, 164], false), (2, [], [155, 156, 160, 161, 162, 163, 164], false), (3, [(155, 0), (156, 1), (157, 2)], [155, 156, 157, 160, 161, 162, 163, 164], false), (4, [(155, 0), (156, 1), (157, 2), (158, 3)], [155, 156, 157, 158, 160, 161, 162, 163, 164], false), (5, [], [155, 156, 157, 158, 159, 162], false), (6, [(160, 5)], [155, 156, 157, 158, 159, 160, 162], false), (7, [], [155, 156, 157, 158, 159, 160, 161], false), (8, [(160, 5), (161, 6), (162, 7)], [155, 156, 157, 158, 159, 160, 161, 162], false), (9, [(160, 5), (161, 6), (162, 7), (163, 8)], [155, 156, 157, 158, 159, 160, 161, 162, 163], false), (10, [(155, 0), (156, 1), (157, 2), (158, 3), (159, 4), (160, 5), (161, 6), (162, 7), (163, 8), (164, 9)], [155, 156, 157, 158, 159, 160, 161, 162, 163, 164], false)]
        [(155, 0), (156, 1), (157, 2), (158, 3), (159, 4), (160, 5), (161, 6), (162, 7), (163, 8), (164, 9), (165, 10)]
        [(2, _), (3, _), (9, _)] rfl (by kernel_rfl)
      case hF => exact ⟨rfl, rfl, rfl, trivial⟩
      refine run ?_
      exact ⟨⟨false, rfl, badT fun h => ne_at hc hc' hcc h.2.2.2.2⟩, g.trans g3⟩
  have d1 : decide ((m : Int) < (s.deps.length : Int)) = false := decide_eq_false (by omega)
  have k7 : s.deps = t.deps := by rwa [List.take_of_length_le (by omega), List.take_of_length_le (by omega)] at ht
  refine run ?_
  exact ⟨⟨true, rfl, fun _ => ⟨k1, k2, k3, k6, k7⟩, fun _ => rfl⟩, g.trans g3⟩
end Go.Proofs.Ytfobbmllbbckkaa
