/- Bodies as text, plainly. -/
import Derived.Test.YtfobbmllbbckkaaJDg1
set_option linter.unusedVariables false
set_option linter.unusedSimpArgs false
set_option maxRecDepth 20000
set_option maxHeartbeats 8000000
namespace Go.Proofs.Ytfobbmllbbckkaa
open Go Ax
/-- A value, told apart. -/
def valL (v : V) : Bs :=
  if v.1 = 3 then quoteS v.2.2.data.toList else if v.1 = 4 then 35 :: intL v.2.1 else if v.1 = 5 then 38 :: intL v.2.1 else
  if v.1 = 0 then [110, 117, 108, 108] else if v.1 = 1 then (if v.2.1 = 0 then [102, 97, 108, 115, 101] else [116, 114, 117, 101]) else if v.1 = 2 then intL v.2.1 else []
def conL (v : V) : Bs := [67, 32] ++ valL v ++ [10]
def caseL (c : CaseT) : Bs := [32, 99] ++ wordsL [c.1, c.2.1, c.2.2]
def opL (o : OpX) : Bs := intL o.kind ++ wordsL [o.a, o.b, o.c, o.d] ++ ([32, 114] ++ wordsL o.regs) ++ o.cases.flatMap caseL ++ ([32, 112] ++ wordsL [o.pc]) ++ ([32, 109] ++ wordsL o.map) ++ [10]
def depL1 (d : Int × Int) : Bs := [68] ++ wordsL [d.1, d.2] ++ [10]
def textL (b : BodyX) : Bs := [66] ++ wordsL [b.F, b.regs] ++ [10] ++ b.consts.flatMap conL ++ b.ops.flatMap opL ++ b.deps.flatMap depL1
theorem val_le {v : V} {n : Nat} (h : v.2.2.size ≤ n) : (valL v).length ≤ 4 * n + 22 := by
  have h1 := quote_le v.2.2.data.toList
  have h2 := intL_len v.2.1
  have h3 : v.2.2.data.toList.length = v.2.2.size := by rw [Array.length_toList]; rfl
  unfold valL
  split
  · omega
  split
  · simp; omega
  split
  · simp; omega
  split
  · simp
  split
  · split <;> simp
  split
  · omega
  · simp
theorem op_le {o : OpX} (h : o.regs.length ≤ 20 ∧ o.map.length ≤ 80 ∧ o.cases.length ≤ 20) : (opL o).length ≤ 4000 := by
  have h1 := intL_len o.kind
  have h2 := words_le [o.a, o.b, o.c, o.d]
  have h3 := words_le o.regs
  have h4 : (o.cases.flatMap caseL).length ≤ 68 * o.cases.length := flat_le fun c _ => by
    have := words_le [c.1, c.2.1, c.2.2]
    unfold caseL
    simp at this ⊢; omega
  have h5 := words_le [o.pc]
  have h6 := words_le o.map
  unfold opL
  simp only [List.length_append, List.length_cons, List.length_nil] at *
  omega
theorem text_le {b : BodyX} (h : FewB b 300) (hs : ∀ x ∈ b.consts, x.2.2.size ≤ 300) : (textL b).length ≤ 2000000 := by
  have h1 := words_le [b.F, b.regs]
  have h2 : (b.consts.flatMap conL).length ≤ 1300 * b.consts.length := flat_le fun x hx => by
    have := val_le (hs x hx)
    unfold conL
    simp only [List.length_append, List.length_cons, List.length_nil]; omega
  have h3 : (b.ops.flatMap opL).length ≤ 4000 * b.ops.length := flat_le fun o ho => op_le (h.op o ho)
  have h4 : (b.deps.flatMap depL1).length ≤ 50 * b.deps.length := flat_le fun x hx => by
    have := words_le [x.1, x.2]
    unfold depL1
    simp only [List.length_append, List.length_cons, List.length_nil] at *; omega
  have e1 := h.con
  have e2 := h.ops
  have e3 := h.deps
  unfold textL
  simp only [List.length_append, List.length_cons, List.length_nil] at *
  omega
/-- The numbers of a body are ints. -/
structure IntX (b : BodyX) : Prop where
  F : I64 b.F
  rg : I64 b.regs
  con : ∀ v ∈ b.consts, I64 v.2.1
  op : ∀ o ∈ b.ops, I64 o.kind ∧ I64 o.a ∧ I64 o.b ∧ I64 o.c ∧ I64 o.d ∧ (∀ n ∈ o.regs, I64 n) ∧ (∀ c ∈ o.cases, I64 c.1 ∧ I64 c.2.1 ∧ I64 c.2.2) ∧ I64 o.pc ∧ ∀ n ∈ o.map, I64 n
  dep : ∀ d ∈ b.deps, I64 d.1 ∧ I64 d.2
theorem intX_of {x : BodyX} (o : ty30.ok x) : IntX x := by
  obtain ⟨h1, h2, h3, h4, h5⟩ := o
  refine ⟨ok_int h1, ok_int h2, fun v hv => ok_int (h3.2 v hv).2.1, fun o ho => ?_, fun d hd => ⟨ok_int (h5.2 d hd).1, ok_int (h5.2 d hd).2⟩⟩
  obtain ⟨k1, k2, k3, k4, k5, k6, k7, k8, k9⟩ := h4.2 o ho
  exact ⟨ok_int k1, ok_int k2, ok_int k3, ok_int k4, ok_int k5, fun n hn => ok_int (k6.2 n hn), fun c hc => ⟨ok_int (k7.2 c hc).1, ok_int (k7.2 c hc).2.1, ok_int (k7.2 c hc).2.2⟩, ok_int k8, fun n hn => ok_int (k9.2 n hn)⟩
end Go.Proofs.Ytfobbmllbbckkaa
/- Values, told apart: both. -/
set_option linter.unusedVariables false
set_option linter.unusedSimpArgs false
set_option maxRecDepth 20000
set_option maxHeartbeats 8000000
namespace Go.Proofs.Ytfobbmllbbckkaa
open Go Ax
theorem valShow_ax (H : Heap) (v : V) (hn : I64 v.2.1) (h3 : v.1 ≠ 3) (h4 : v.1 ≠ 4) (h5 : v.1 ≠ 5) : AX Try.prog 73 #[valV v] H (fun r H' => r = .string (bstr (valL v)) ∧ H' = H) := by
  refine AX.quiet ?_
  suffices hh : AX Try.prog 73 #[valV v] H (fun r H' => r = .string (bstr (valL v)) ∧ Grow H H') from hh.mono fun v _ ⟨e, g⟩ => ⟨e ▸ plain_str _, e, g⟩
  refine AX.body (n := 25) (rs := [.tmp 2]) Try.func73 rfl (by decide) rfl rfl (bC_sound _ _ _ _ ?_)
  (conv => whnf)
  refine Ob2.box rfl fun q H1 hq ab g1 => ?_
  have bb := hblk_of ab
  have e3 : (v.1 == 3) = false := beq_eq_false_iff_ne.2 h3
  have e4 : (v.1 == 4) = false := beq_eq_false_iff_ne.2 h4
  have e5 : (v.1 == 5) = false := beq_eq_false_iff_ne.2 h5
  unfold valL
  rw [if_neg h3, if_neg h4, if_neg h5]
  by_cases k0 : v.1 = 0
  · have e0 : (v.1 == 0) = true := beq_iff_eq.2 k0
    rw [if_pos k0]
    refine run ?_
    exact ⟨rfl, g1⟩
  have e0 : (v.1 == 0) = false := beq_eq_false_iff_ne.2 k0
  rw [if_neg k0]
  by_cases k1 : v.1 = 1
  · have e1 : (v.1 == 1) = true := beq_iff_eq.2 k1
    rw [if_pos k1]
    by_cases m0 : v.2.1 = 0
    · have d0 : (v.2.1 == 0) = true := beq_iff_eq.2 m0
      rw [if_pos m0]
      refine run ?_
      exact ⟨rfl, g1⟩
    · have d0 : (v.2.1 == 0) = false := beq_eq_false_iff_ne.2 m0
      rw [if_neg m0]
      refine run ?_
      exact ⟨rfl, g1⟩
  have e1 : (v.1 == 1) = false := beq_eq_false_iff_ne.2 k1
  rw [if_neg k1]
  by_cases k2 : v.1 = 2
  · have e2 : (v.1 == 2) = true := beq_iff_eq.2 k2
    rw [if_pos k2]
    refine run ?_
    refine (numI_ax H1 hn.1 hn.2).mono ?_
    rintro _ X ⟨rfl, e⟩
    subst X
    refine run ?_
    exact ⟨rfl, g1⟩
  have e2 : (v.1 == 2) = false := beq_eq_false_iff_ne.2 k2
  rw [if_neg k2]
  refine run ?_
  exact ⟨rfl, g1⟩
theorem valPrint_ax (H : Heap) (v : V) (hn : I64 v.2.1) (hs : v.2.2.size ≤ 100000) : AX Try.prog 44 #[valV v] H (fun r H' => r = .string (bstr (valL v)) ∧ H' = H) := by
  refine AX.quiet ?_
  suffices hh : AX Try.prog 44 #[valV v] H (fun r H' => r = .string (bstr (valL v)) ∧ Grow H H') from hh.mono fun v _ ⟨e, g⟩ => ⟨e ▸ plain_str _, e, g⟩
  refine AX.body (n := 24) (rs := [.tmp 2]) Try.func44 rfl (by decide) rfl rfl (bC_sound _ _ _ _ ?_)
  (conv => whnf)
  refine Ob2.box rfl fun q H1 hq ab g1 => ?_
  have bb := hblk_of ab
  have hi := intL_len v.2.1
  by_cases h3 : v.1 = 3
  · have e3 : (v.1 == 3) = true := beq_iff_eq.2 h3
    have ev : valL v = quoteS v.2.2.data.toList := if_pos h3
    rw [ev]
    refine run ?_
    refine (quote_ax H1 hs).mono ?_
    rintro _ X ⟨rfl, e⟩
    subst X
    refine run ?_
    exact ⟨rfl, g1⟩
  have e3 : (v.1 == 3) = false := beq_eq_false_iff_ne.2 h3
  by_cases h4 : v.1 = 4
  · have e4 : (v.1 == 4) = true := beq_iff_eq.2 h4
    have ev : valL v = 35 :: intL v.2.1 := by unfold valL; rw [if_neg h3, if_pos h4]
    rw [ev]
    refine run ?_
    refine (numI_ax H1 hn.1 hn.2).mono ?_
    rintro _ X ⟨rfl, e⟩
    subst X
    refine run ?_
    refine Ob.cat (by first | exact bstr_list _ | rfl) (by first | exact bstr_list _ | rfl) (by first | omega | (simp only [List.length_append, List.length_cons, List.length_nil]; omega) | (simp only [List.length_append, List.length_cons, List.length_nil] at *; omega)) ?_
    refine run ?_
    exact ⟨rfl, g1⟩
  have e4 : (v.1 == 4) = false := beq_eq_false_iff_ne.2 h4
  by_cases h5 : v.1 = 5
  · have e5 : (v.1 == 5) = true := beq_iff_eq.2 h5
    have ev : valL v = 38 :: intL v.2.1 := by unfold valL; rw [if_neg h3, if_neg h4, if_pos h5]
    rw [ev]
    refine run ?_
    refine (numI_ax H1 hn.1 hn.2).mono ?_
    rintro _ X ⟨rfl, e⟩
    subst X
    refine run ?_
    refine Ob.cat (by first | exact bstr_list _ | rfl) (by first | exact bstr_list _ | rfl) (by first | omega | (simp only [List.length_append, List.length_cons, List.length_nil]; omega) | (simp only [List.length_append, List.length_cons, List.length_nil] at *; omega)) ?_
    refine run ?_
    exact ⟨rfl, g1⟩
  have e5 : (v.1 == 5) = false := beq_eq_false_iff_ne.2 h5
  refine run ?_
  refine (valShow_ax H1 v hn h3 h4 h5).mono ?_
  rintro _ X ⟨rfl, e⟩
  subst X
  refine run ?_
  exact ⟨rfl, g1⟩
theorem rvalShow_ax (H : Heap) (v : V) (hn : I64 v.2.1) (h3 : v.1 ≠ 3) (h4 : v.1 ≠ 4) (h5 : v.1 ≠ 5) : AX Try.prog 75 #[valV v] H (fun r H' => r = .string (bstr (valL v)) ∧ H' = H) := by
  refine AX.quiet ?_
  suffices hh : AX Try.prog 75 #[valV v] H (fun r H' => r = .string (bstr (valL v)) ∧ Grow H H') from hh.mono fun v _ ⟨e, g⟩ => ⟨e ▸ plain_str _, e, g⟩
  refine AX.body (n := 41) (rs := [.tmp 2]) Try.func75 rfl (by decide) rfl rfl (bC_sound _ _ _ _ ?_)
  (conv => whnf)
  refine Ob2.box rfl fun q H1 hq ab g1 => ?_
  have bb := hblk_of ab
  have e3 : (v.1 == 3) = false := beq_eq_false_iff_ne.2 h3
  have e4 : (v.1 == 4) = false := beq_eq_false_iff_ne.2 h4
  have e5 : (v.1 == 5) = false := beq_eq_false_iff_ne.2 h5
  unfold valL
  rw [if_neg h3, if_neg h4, if_neg h5]
  by_cases k0 : v.1 = 0
  · have e0 : (v.1 == 0) = true := beq_iff_eq.2 k0
    rw [if_pos k0]
    refine run ?_
    exact ⟨rfl, g1⟩
  have e0 : (v.1 == 0) = false := beq_eq_false_iff_ne.2 k0
  rw [if_neg k0]
  by_cases k1 : v.1 = 1
  · have e1 : (v.1 == 1) = true := beq_iff_eq.2 k1
    rw [if_pos k1]
    by_cases m0 : v.2.1 = 0
    · have d0 : (v.2.1 == 0) = true := beq_iff_eq.2 m0
      rw [if_pos m0]
      refine run ?_
      exact ⟨rfl, g1⟩
    · have d0 : (v.2.1 == 0) = false := beq_eq_false_iff_ne.2 m0
      rw [if_neg m0]
      refine run ?_
      exact ⟨rfl, g1⟩
  have e1 : (v.1 == 1) = false := beq_eq_false_iff_ne.2 k1
  rw [if_neg k1]
  by_cases k2 : v.1 = 2
  · have e2 : (v.1 == 2) = true := beq_iff_eq.2 k2
    rw [if_pos k2]
    refine run ?_
    refine (rnumI_ax H1 hn.1 hn.2).mono ?_
    rintro _ X ⟨rfl, e⟩
    subst X
    refine run ?_
    exact ⟨rfl, g1⟩
  have e2 : (v.1 == 2) = false := beq_eq_false_iff_ne.2 k2
  rw [if_neg k2]
  refine run ?_
  exact ⟨rfl, g1⟩
theorem rvalPrint_ax (H : Heap) (v : V) (hn : I64 v.2.1) (hs : v.2.2.size ≤ 100000) : AX Try.prog 48 #[valV v] H (fun r H' => r = .string (bstr (valL v)) ∧ H' = H) := by
  refine AX.quiet ?_
  suffices hh : AX Try.prog 48 #[valV v] H (fun r H' => r = .string (bstr (valL v)) ∧ Grow H H') from hh.mono fun v _ ⟨e, g⟩ => ⟨e ▸ plain_str _, e, g⟩
  refine AX.body (n := 25) (rs := [.tmp 2]) Try.func48 rfl (by decide) rfl rfl (bC_sound _ _ _ _ ?_)
  (conv => whnf)
  refine Ob2.box rfl fun q H1 hq ab g1 => ?_
  have bb := hblk_of ab
  have hi := intL_len v.2.1
  by_cases h3 : v.1 = 3
  · have e3 : (v.1 == 3) = true := beq_iff_eq.2 h3
    have ev : valL v = quoteS v.2.2.data.toList := if_pos h3
    rw [ev]
    refine run ?_
    refine (rquote_ax H1 hs).mono ?_
    rintro _ X ⟨rfl, e⟩
    subst X
    refine run ?_
    exact ⟨rfl, g1⟩
  have e3 : (v.1 == 3) = false := beq_eq_false_iff_ne.2 h3
  by_cases h4 : v.1 = 4
  · have e4 : (v.1 == 4) = true := beq_iff_eq.2 h4
    have ev : valL v = 35 :: intL v.2.1 := by unfold valL; rw [if_neg h3, if_pos h4]
    rw [ev]
    refine run ?_
    refine (rnumI_ax H1 hn.1 hn.2).mono ?_
    rintro _ X ⟨rfl, e⟩
    subst X
    refine run ?_
    refine Ob.cat (by first | exact bstr_list _ | rfl) (by first | exact bstr_list _ | rfl) (by first | omega | (simp only [List.length_append, List.length_cons, List.length_nil]; omega) | (simp only [List.length_append, List.length_cons, List.length_nil] at *; omega)) ?_
    refine run ?_
    exact ⟨rfl, g1⟩
  have e4 : (v.1 == 4) = false := beq_eq_false_iff_ne.2 h4
  by_cases h5 : v.1 = 5
  · have e5 : (v.1 == 5) = true := beq_iff_eq.2 h5
    have ev : valL v = 38 :: intL v.2.1 := by unfold valL; rw [if_neg h3, if_neg h4, if_pos h5]
    rw [ev]
    refine run ?_
    refine (rnumI_ax H1 hn.1 hn.2).mono ?_
    rintro _ X ⟨rfl, e⟩
    subst X
    refine run ?_
    refine Ob.cat (by first | exact bstr_list _ | rfl) (by first | exact bstr_list _ | rfl) (by first | omega | (simp only [List.length_append, List.length_cons, List.length_nil]; omega) | (simp only [List.length_append, List.length_cons, List.length_nil] at *; omega)) ?_
    refine run ?_
    exact ⟨rfl, g1⟩
  have e5 : (v.1 == 5) = false := beq_eq_false_iff_ne.2 h5
  refine run ?_
  refine (rvalShow_ax H1 v hn h3 h4 h5).mono ?_
  rintro _ X ⟨rfl, e⟩
  subst X
  refine run ?_
  exact ⟨rfl, g1⟩
end Go.Proofs.Ytfobbmllbbckkaa
/- Package ir: a body as text. -/
set_option linter.unusedVariables false
set_option linter.unusedSimpArgs false
set_option maxRecDepth 20000
set_option maxHeartbeats 8000000
namespace Go.Proofs.Ytfobbmllbbckkaa
open Go Ax
theorem okB_w : OkB 81 := ⟨by decide, by kernel_rfl⟩
theorem ld_intS {H : Heap} {sv : Value} {L : List Int} (h : RL 1 intR H sv L) {i : Nat} {x : Int} (hx : L[i]? = some x) :
    ∃ b, aindexAddr Try.prog 38 sv (.int .i64 (i : Int)) = some (.pointer (some ⟨b, i * 1, none⟩)) ∧ aload Try.prog 3 (.pointer (some ⟨b, i * 1, none⟩)) H = some (.int .i64 x) := by
  obtain ⟨b, c, l, h1, h2, h3, rfl⟩ := h.at (P := Try.prog) (t := 38) (e := 3) rfl rfl hx
  exact ⟨b, h1, ald rfl rfl h2 (slots_get (j := 0) h3 rfl)⟩
/-- The writer's words. -/
theorem WS.words {H0 H : Heap} {b : Nat} {bs : List UInt8} (S : WS 81 H0 H b bs) (first : ByteArray) {u : Value} {L : List Int} (hst : ∀ H', FrW b H H' → Grow H0 H' → RL 1 intR H' u L) (hL : L.length ≤ 1000000) (hi : ∀ n ∈ L, I64 n)
    (hl : bs.length + first.data.toList.length + (wordsL L).length ≤ lim8) :
    AX Try.prog 41 #[ptr b, .string first, u] H (WQ 81 H0 b H (bs ++ (first.data.toList ++ wordsL L))) := by
  refine AX.body (n := 27) (rs := []) Try.func41 rfl (by decide) rfl rfl (bC_sound _ _ _ _ ?_)
  refine run ?_
  refine (S.str okB_w first (by omega)).mono ?_
  rintro _ H1 ⟨S1, F1⟩
  have l1 : ∀ X, alen Try.prog 38 u X = some (.int .i64 L.length) := fun X => (hst H (.refl _ _) S.g).len rfl _
  have l1' := l1 H1
  refine run ?_
  refine SW.loop (α := Nat) (fun k => [(0, ptr b), (13, u), (14, .int .i64 L.length), (15, .int .i64 (k : Int))])
    (fun k X => k ≤ L.length ∧ WS 81 H0 X b (bs ++ (first.data.toList ++ wordsL (L.take k))) ∧ FrW b H X) (fun k => L.length - k) ⟨0, ⟨rfl, rfl, rfl, rfl, trivial⟩, by omega, by simpa [wordsL] using S1, F1⟩ ?_
  rintro k X ⟨hm, SX, FX⟩
  refine bC_sound _ _ _ _ ?_
  by_cases hml : k < L.length
  · have d1 : decide ((k : Int) < (L.length : Int)) = true := decide_eq_true (by omega)
    obtain ⟨x, hx⟩ := get_lt hml
    obtain ⟨p, i1, i2⟩ := ld_intS (hst X FX SX.g) hx
    have hxi := hi x (List.mem_of_getElem? hx)
    have ht : wordsL (L.take (k + 1)) = wordsL (L.take k) ++ (32 :: intL x) := flat_snoc _ hx
    have hle : (wordsL (L.take (k + 1))).length ≤ (wordsL L).length := flat_take_le _ L (k + 1)
    rw [ht, List.length_append] at hle
    have hil := intL_len x
    refine run ?_
    apply SW.drawH [(0, [], [22, 23, 24], false), (1, [(19, 0)], [19, 22, 23, 24], false), (2, [(19, 0), (20, 1)], [19, 20, 22, 23, 24], false), (3, [], [19, 20, 21], false), (4, [(22, 3)], [19, 20, 21, 22], true), (5, [(22, 3), (23, 4)], [19, 20, 21, 22, 23], false), (6, [(19, 0), (20, 1), (21, 2), (22, 3), (23, 4), (24, 5)], [19, 20, 21, 22, 23, 24], true)]
      [(19, 0), (20, 1), (21, 2), (22, 3), (23, 4), (24, 5), (25, 6)] []
      [(0, _), (7, _), (13, _), (14, _), (15, _)] rfl (by kernel_rfl)
    case hF => exact ⟨rfl, rfl, rfl, rfl, rfl, trivial⟩
    refine run ?_
    refine (numI_ax X hxi.1 hxi.2).mono ?_
    rintro _ Y ⟨rfl, e⟩
    subst Y
    refine run ?_
    refine Ob.cat (by first | exact bstr_list _ | rfl) (by first | exact bstr_list _ | rfl) (by first | omega | (simp only [List.length_append, List.length_cons, List.length_nil]; omega) | (simp only [List.length_append, List.length_cons, List.length_nil] at *; omega)) ?_
    refine run ?_
    refine (SX.str okB_w _ (by rw [bstr_list]; simp only [List.length_append, List.length_cons, List.length_nil] at *; omega)).mono ?_
    rintro _ Y ⟨SY, FY⟩
    rw [bstr_list] at SY
    refine run ?_
    refine ⟨k + 1, ⟨rfl, rfl, rfl, congrArg (fun z => some (Value.int .i64 z)) (w_succ (by omega)), trivial⟩, ⟨hml, ?_, FX.trans FY⟩, by show L.length - (k + 1) < L.length - k; omega⟩
    rw [ht]
    simpa using SY
  · have d1 : decide ((k : Int) < (L.length : Int)) = false := decide_eq_false (by omega)
    rw [List.take_of_length_le (by omega)] at SX
    refine run ?_
    exact ⟨SX, FX⟩
/-- Words of numbers that lie in a new row. -/
theorem WS.wordsN {H0 H : Heap} {b : Nat} {bs : List UInt8} (S : WS 81 H0 H b bs) (first : ByteArray) {g n : Nat} {L : List Int} (hr : H[g]? = some (.cells (.row 3) (L.map (Value.int .i64)))) (hn : n = L.length) (hL : L.length ≤ 8) (hi : ∀ n ∈ L, I64 n)
    {t : List UInt8} (ht : first.data.toList ++ wordsL L = t) (hl : bs.length + t.length ≤ lim8) :
    AX Try.prog 41 #[ptr b, .string first, .slice (some ⟨g, 0, none⟩) n 1] H (WQ 81 H0 b H (bs ++ t)) := by
  subst ht hn
  exact S.words first (fun H' F _ => RL.own (g := Value.int .i64) (fun _ _ => rfl) (S.keep F hr (by simp) (by simp))) (by omega) hi (by rw [List.length_append] at hl; omega)
end Go.Proofs.Ytfobbmllbbckkaa
/- Package ir: Text. -/
set_option linter.unusedVariables false
set_option linter.unusedSimpArgs false
set_option maxRecDepth 20000
set_option maxHeartbeats 8000000
namespace Go.Proofs.Ytfobbmllbbckkaa
open Go Ax
structure TextB (x : BodyX) : Prop where
  con : (x.consts.flatMap conL).length ≤ 260000
  ops : (x.ops.flatMap opL).length ≤ 1200000
  deps : (x.deps.flatMap depL1).length ≤ 12500
theorem textB_of {b : BodyX} (h : FewB b 300) (hs : ∀ x ∈ b.consts, x.2.2.size ≤ 300) : TextB b := by
  have h2 : (b.consts.flatMap conL).length ≤ 1300 * b.consts.length := flat_le fun x hx => by
    have := val_le (hs x hx)
    unfold conL
    simp only [List.length_append, List.length_cons, List.length_nil]; omega
  have h3 : (b.ops.flatMap opL).length ≤ 4000 * b.ops.length := flat_le fun o ho => op_le (h.op o ho)
  have h4 : (b.deps.flatMap depL1).length ≤ 50 * b.deps.length := flat_le fun x hx => by
    have := words_le [x.1, x.2]
    unfold depL1
    simp only [List.length_append, List.length_cons, List.length_nil] at *; omega
  have e1 := h.con
  have e2 := h.ops
  have e3 := h.deps
  exact ⟨by omega, by omega, by omega⟩
def headL16 (x : BodyX) : Bs := [66] ++ wordsL [x.F, x.regs] ++ [10]
theorem head_len (x : BodyX) : (headL16 x).length ≤ 60 := by
  have := words_le [x.F, x.regs]
  unfold headL16
  simp only [List.length_append, List.length_cons, List.length_nil] at *; omega
theorem irText_ax {H : Heap} {x : BodyX} {kv ov dv : Value} (hb : BodyIn H x kv ov dv) (hf : FewB x 300) (hs : ∀ v ∈ x.consts, v.2.2.size ≤ 300) (hi : IntX x) :
    AX Try.prog 14 #[bodyV x kv ov dv] H (fun r H' => r = .string (bstr (textL x)) ∧ H' = H) := by
  refine AX.quiet ?_
  suffices hh : AX Try.prog 14 #[bodyV x kv ov dv] H (fun r H' => r = .string (bstr (textL x)) ∧ Grow H H') from hh.mono fun v _ ⟨e, g⟩ => ⟨e ▸ plain_str _, e, g⟩
  obtain ⟨hA, hB, hC⟩ := textB_of hf hs
  have hP := head_len x
  have hcon := hf.con
  have hops := hf.ops
  have hdep := hf.deps
  refine AX.body (n := 120) (rs := [.tmp 2]) Try.func14 rfl (by decide) rfl rfl (bC_sound _ _ _ _ ?_)
  (conv => whnf)
  refine Ob2.box rfl fun q1 H1 hq1 a1 g1 => ?_
  have b1 := hblk_of a1
  refine run ?_
  refine Ob2.boxM (.one 81) rfl rfl fun b H2 hb2 ba g2 => ?_
  have S : WS 81 H1 H2 b [] := ⟨g2, by omega, g2.1, _, _, ba, .inl rfl, .inl ⟨rfl, rfl⟩⟩
  have F : FrW b H2 H2 := .refl _ _
  replace hb := hb.grow g1
  have c1 := g2.hblk b1
  refine run ?_
  refine Ob2.lay (.cells (.row 3) [.int .i64 x.F, .int .i64 x.regs]) (.slice (some ⟨_, 0, none⟩) 2 1) rfl fun U pa pg _ => ?_
  replace S := S.grow pg
  replace F := F.trans (.of pg)
  refine run ?_
  refine (S.wordsN ⟨#[66]⟩ (L := [x.F, x.regs]) pa rfl (by simp) (by intro n hn; simp only [List.mem_cons, List.not_mem_nil, or_false] at hn; rcases hn with rfl | rfl; exact hi.F; exact hi.rg) (t := [66] ++ wordsL [x.F, x.regs]) rfl (by have := words_le [x.F, x.regs]; simp only [List.length_append, List.length_cons, List.length_nil, lim8] at *; omega)).mono ?_
  rintro _ X ⟨S', F'⟩
  (try replace ab := S.box F' ab)
  (try replace bb := hblk_of ab)
  (try replace ac := S.box F' ac)
  (try replace bc := hblk_of ac)
  replace F := F.trans F'
  replace S := S'
  clear S' F'
  refine run ?_
  refine (S.byte okB_w 10 (by have := words_le [x.F, x.regs]; simp only [List.length_append, List.length_cons, List.length_nil, lim8] at *; omega)).mono ?_
  rintro _ X ⟨S', F'⟩
  (try replace ab := S.box F' ab)
  (try replace bb := hblk_of ab)
  (try replace ac := S.box F' ac)
  (try replace bc := hblk_of ac)
  replace F := F.trans F'
  replace S := S'
  clear S' F'
  refine run ?_
  replace S : WS 81 H1 _ b (headL16 x) := S
  clear c1 pa

  have c1 := S.g.hblk b1
  have l1 : ∀ X, alen Try.prog 26 kv X = some (.int .i64 x.consts.length) := fun X => hb.con.len rfl _
  have l2 : ∀ X, alen Try.prog 27 ov X = some (.int .i64 x.ops.length) := fun X => hb.ops.len rfl _
  have l3 : ∀ X, alen Try.prog 28 dv X = some (.int .i64 x.deps.length) := fun X => hb.deps.len rfl _
  have l1' := l1 X
  refine run ?_
  refine SW.loop (α := Nat) (fun k => [(1, .pointer (some ⟨q1, 0, none⟩)), (3, ptr b), (26, kv), (27, .int .i64 x.consts.length), (28, .int .i64 (k : Int))])
    (fun k X => k ≤ x.consts.length ∧ WS 81 H1 X b (headL16 x ++ (x.consts.take k).flatMap conL)) (fun k => x.consts.length - k) ⟨0, ⟨rfl, rfl, rfl, rfl, rfl, trivial⟩, by omega, by simpa using S⟩ ?_
  clear S F c1 l1'
  rintro k X ⟨hm, S⟩
  have F : FrW b X X := .refl _ _
  refine bC_sound _ _ _ _ ?_
  by_cases hml : k < x.consts.length
  · have d1 : decide ((k : Int) < (x.consts.length : Int)) = true := decide_eq_true (by omega)
    obtain ⟨v, hv⟩ := get_lt hml
    obtain ⟨p, i1, i2⟩ := ldx_val hb.con hv
    have i3 := i2 X S.g
    have hvm := List.mem_of_getElem? hv
    have ht : (x.consts.take (k + 1)).flatMap conL = (x.consts.take k).flatMap conL ++ conL v := flat_snoc _ hv
    have hle : ((x.consts.take (k + 1)).flatMap conL).length ≤ _ := flat_take_le conL x.consts (k + 1)
    have hvl := val_le (hs v hvm)
    rw [ht, List.length_append] at hle
    refine run ?_
    refine Ob2.alloc rfl fun qc X1 hqc ac gc => ?_
    refine run ?_
    refine Ob.store rfl rfl rfl ac rfl (by first | exact Nat.le_of_ble_eq_true rfl | simp) fun X2 s1 s2 s3 => ?_
    replace gc := gc.but_new s2 (Nat.le_of_eq hqc.symm)
    replace S := S.grow gc
    replace F := F.trans (.of gc)
    (try replace ab := gc.at ab)
    (try replace bb := hblk_of ab)
    replace ac := s1
    have bc := hblk_of ac
    clear s1 s2 s3 hqc
    refine run ?_
    apply SW.drawH [(0, [], [35, 36, 37, 38], false), (1, [(32, 0)], [32, 35, 36, 37, 38], false), (2, [(32, 0), (33, 1)], [32, 33, 35, 36, 37, 38], false), (3, [], [32, 33, 34], false), (4, [(35, 3)], [32, 33, 34, 35], true), (5, [(35, 3), (36, 4)], [32, 33, 34, 35, 36], false), (6, [(35, 3), (36, 4), (37, 5)], [32, 33, 34, 35, 36, 37], false), (7, [(32, 0), (33, 1), (34, 2), (35, 3), (36, 4), (37, 5), (38, 6)], [32, 33, 34, 35, 36, 37, 38], true)]
      [(32, 0), (33, 1), (34, 2), (35, 3), (36, 4), (37, 5), (38, 6), (39, 7)] []
      [(1, _), (3, _), (5, _), (26, _), (27, _), (28, _)] rfl (by kernel_rfl)
    case hF => exact ⟨rfl, rfl, rfl, rfl, rfl, rfl, trivial⟩
    refine run ?_
    refine (valPrint_ax _ v (hi.con v hvm) (by have := hs v hvm; omega)).mono ?_
    rintro _ Y ⟨rfl, e⟩
    subst Y
    refine run ?_
    refine Ob.cat (by first | exact bstr_list _ | rfl) (by first | exact bstr_list _ | rfl) (by first | omega | (simp only [List.length_append, List.length_cons, List.length_nil]; omega) | (simp only [List.length_append, List.length_cons, List.length_nil] at *; omega)) ?_
    refine run ?_
    refine Ob.cat (by first | exact bstr_list _ | rfl) (by first | exact bstr_list _ | rfl) (by first | omega | (simp only [List.length_append, List.length_cons, List.length_nil]; omega) | (simp only [List.length_append, List.length_cons, List.length_nil] at *; omega)) ?_
    refine run ?_
    refine (S.str okB_w _ (by rw [bstr_list]; simp only [List.length_append, List.length_cons, List.length_nil, lim8] at *; omega)).mono ?_
    rintro _ X ⟨S', F'⟩
    (try replace ab := S.box F' ab)
    (try replace bb := hblk_of ab)
    (try replace ac := S.box F' ac)
    (try replace bc := hblk_of ac)
    replace F := F.trans F'
    replace S := S'
    clear S' F'
    refine run ?_
    rw [bstr_list, List.append_assoc] at S
    exact ⟨k + 1, ⟨rfl, rfl, rfl, rfl, congrArg (fun z => some (Value.int .i64 z)) (w_succ (by omega)), trivial⟩, ⟨hml, by rw [ht]; exact S⟩, by show x.consts.length - (k + 1) < x.consts.length - k; omega⟩
  have d1 : decide ((k : Int) < (x.consts.length : Int)) = false := decide_eq_false (by omega)
  rw [List.take_of_length_le (by omega)] at S
  have c1 := S.g.hblk b1
  have l2' := l2 X
  refine run ?_
  generalize hP1 : headL16 x ++ x.consts.flatMap conL = P1 at S
  have hP1l : P1.length ≤ 270000 := by rw [← hP1, List.length_append]; omega
  refine SW.loop (α := Nat) (fun k => [(1, .pointer (some ⟨q1, 0, none⟩)), (3, ptr b), (42, ov), (43, .int .i64 x.ops.length), (44, .int .i64 (k : Int))])
    (fun k X => k ≤ x.ops.length ∧ WS 81 H1 X b (P1 ++ (x.ops.take k).flatMap opL)) (fun k => x.ops.length - k) ⟨0, ⟨rfl, rfl, rfl, rfl, rfl, trivial⟩, by omega, by simpa using S⟩ ?_
  clear S F c1 l2' hml hm d1 k
  rintro k X ⟨hm, S⟩
  have F : FrW b X X := .refl _ _
  refine bC_sound _ _ _ _ ?_
  by_cases hml : k < x.ops.length
  · have d1 : decide ((k : Int) < (x.ops.length : Int)) = true := decide_eq_true (by omega)
    obtain ⟨o, ho⟩ := get_lt hml
    obtain ⟨p, rv, cv, mv, i1, ir, ic, im, i2⟩ := ldx_op hb.ops ho
    obtain ⟨i3, -⟩ := i2 X S.g
    have hom := List.mem_of_getElem? ho
    obtain ⟨n1, n2, n3, n4, n5, n6, n7, n8, n9⟩ := hi.op o hom
    have ht : (x.ops.take (k + 1)).flatMap opL = (x.ops.take k).flatMap opL ++ opL o := flat_snoc _ ho
    have hle : ((x.ops.take k).flatMap opL).length ≤ _ := flat_take_le opL x.ops k
    have hfo := hf.op o hom
    have w1 := intL_len o.kind
    have w2 := words_le [o.a, o.b, o.c, o.d]
    have w3 := words_le o.regs
    have w5 := words_le [o.pc]
    have w6 := words_le o.map
    have w4 : (o.cases.flatMap caseL).length ≤ 68 * o.cases.length := flat_le fun c _ => by
      have := words_le [c.1, c.2.1, c.2.2]
      unfold caseL
      simp at this ⊢; omega
    generalize hQ : (x.ops.take k).flatMap opL = Q at S hle ht
    refine run ?_
    refine Ob2.alloc rfl fun qc X1 hqc ac gc => ?_
    refine run ?_
    refine Ob.store rfl rfl rfl ac rfl (by first | exact Nat.le_of_ble_eq_true rfl | simp) fun X2 s1 s2 s3 => ?_
    replace gc := gc.but_new s2 (Nat.le_of_eq hqc.symm)
    replace S := S.grow gc
    replace F := F.trans (.of gc)
    (try replace ab := gc.at ab)
    (try replace bb := hblk_of ab)
    replace ac := s1
    have bc := hblk_of ac
    clear s1 s2 s3 hqc
    refine run ?_
    refine SW.sub (F := [(1, _), (3, _), (7, _), (42, _), (43, _), (44, _)]) ?_ (Sub.of ⟨rfl, rfl, rfl, rfl, rfl, rfl, trivial⟩)
    refine SW.drawP 13 (fun i F v K => match i with | 0 => v = ptr b | 1 => v = .pointer (some ⟨qc, 0, none⟩) | 2 => v = .int .i64 o.kind | 3 => v = .string (bstr (intL o.kind)) | 4 => v = .pointer (some ⟨qc, 1, none⟩) | 5 => v = .int .i64 o.a | 6 => v = .pointer (some ⟨qc, 2, none⟩) | 7 => v = .int .i64 o.b | 8 => v = .pointer (some ⟨qc, 3, none⟩) | 9 => v = .int .i64 o.c | 10 => v = .pointer (some ⟨qc, 4, none⟩) | 11 => v = .int .i64 o.d | 12 => ∃ g, v = .slice (some ⟨g, 0, none⟩) 4 1 ∧ K[g]? = some (.cells (.row 3) [.int .i64 o.a, .int .i64 o.b, .int .i64 o.c, .int .i64 o.d]) | _ => True) rfl (by kernel_rfl) ?_ ?_ ?_
    · intro i F v K K1 h g
      match i, h with
      | 0, h => exact h
      | 1, h => exact h
      | 2, h => exact h
      | 3, h => exact h
      | 4, h => exact h
      | 5, h => exact h
      | 6, h => exact h
      | 7, h => exact h
      | 8, h => exact h
      | 9, h => exact h
      | 10, h => exact h
      | 11, h => exact h
      | 12, h => (obtain ⟨g', h1, h2⟩ := h; exact ⟨g', h1, g.at h2⟩)
      | i + 13, h => trivial
    · intro i oX V K hi hoX hg hT
      have bc := hg.hblk bc
      match i, hi, hoX, hT with
      | 0, hi, hoX, hT =>
        obtain rfl := Option.some.inj hoX
        rw [envOf_eq, show pairsOf _ _ 0 = [] from by kernel_rfl, show exOf _ _ 0 = [49, 50, 51, 52, 53, 54, 55, 56, 57, 58, 59, 60] from by kernel_rfl]
        (try simp only [valsOf])
        refine run ?_
        exact ⟨.refl _, rfl⟩
      | 1, hi, hoX, hT =>
        obtain rfl := Option.some.inj hoX
        rw [envOf_eq, show pairsOf _ _ 1 = [] from by kernel_rfl, show exOf _ _ 1 = [48, 52, 53, 54, 55, 56, 57, 58, 59, 60] from by kernel_rfl]
        (try simp only [valsOf])
        refine run ?_
        exact ⟨.refl _, rfl⟩
      | 2, hi, hoX, hT =>
        obtain rfl := Option.some.inj hoX
        have e1 := hT 1 (by kernel_rfl)
        (conv at e1 => whnf)
        rw [envOf_eq, show pairsOf _ _ 2 = [(49, 1)] from by kernel_rfl, show exOf _ _ 2 = [48, 49, 52, 53, 54, 55, 56, 57, 58, 59, 60] from by kernel_rfl]
        (try simp only [valsOf, e1])
        refine run ?_
        exact ⟨.refl _, rfl⟩
      | 3, hi, hoX, hT =>
        obtain rfl := Option.some.inj hoX
        have e1 := hT 1 (by kernel_rfl)
        (conv at e1 => whnf)
        have e2 := hT 2 (by kernel_rfl)
        (conv at e2 => whnf)
        rw [envOf_eq, show pairsOf _ _ 3 = [(49, 1), (50, 2)] from by kernel_rfl, show exOf _ _ 3 = [48, 49, 50, 52, 53, 54, 55, 56, 57, 58, 59, 60] from by kernel_rfl]
        (try simp only [valsOf, e1, e2])
        refine run ?_
        refine (numI_ax _ n1.1 n1.2).mono ?_
        rintro _ Y ⟨rfl, e⟩
        subst Y
        refine run ?_
        exact ⟨.refl _, rfl⟩
      | 4, hi, hoX, hT =>
        obtain rfl := Option.some.inj hoX
        rw [envOf_eq, show pairsOf _ _ 4 = [] from by kernel_rfl, show exOf _ _ 4 = [48, 49, 50, 51, 54, 55, 56, 57, 58, 59] from by kernel_rfl]
        (try simp only [valsOf])
        refine run ?_
        exact ⟨.refl _, rfl⟩
      | 5, hi, hoX, hT =>
        obtain rfl := Option.some.inj hoX
        have e4 := hT 4 (by kernel_rfl)
        (conv at e4 => whnf)
        rw [envOf_eq, show pairsOf _ _ 5 = [(52, 4)] from by kernel_rfl, show exOf _ _ 5 = [48, 49, 50, 51, 52, 54, 55, 56, 57, 58, 59] from by kernel_rfl]
        (try simp only [valsOf, e4])
        refine run ?_
        exact ⟨.refl _, rfl⟩
      | 6, hi, hoX, hT =>
        obtain rfl := Option.some.inj hoX
        rw [envOf_eq, show pairsOf _ _ 6 = [] from by kernel_rfl, show exOf _ _ 6 = [48, 49, 50, 51, 52, 53, 56, 57, 58, 59] from by kernel_rfl]
        (try simp only [valsOf])
        refine run ?_
        exact ⟨.refl _, rfl⟩
      | 7, hi, hoX, hT =>
        obtain rfl := Option.some.inj hoX
        have e6 := hT 6 (by kernel_rfl)
        (conv at e6 => whnf)
        rw [envOf_eq, show pairsOf _ _ 7 = [(54, 6)] from by kernel_rfl, show exOf _ _ 7 = [48, 49, 50, 51, 52, 53, 54, 56, 57, 58, 59] from by kernel_rfl]
        (try simp only [valsOf, e6])
        refine run ?_
        exact ⟨.refl _, rfl⟩
      | 8, hi, hoX, hT =>
        obtain rfl := Option.some.inj hoX
        rw [envOf_eq, show pairsOf _ _ 8 = [] from by kernel_rfl, show exOf _ _ 8 = [48, 49, 50, 51, 52, 53, 54, 55, 58, 59] from by kernel_rfl]
        (try simp only [valsOf])
        refine run ?_
        exact ⟨.refl _, rfl⟩
      | 9, hi, hoX, hT =>
        obtain rfl := Option.some.inj hoX
        have e8 := hT 8 (by kernel_rfl)
        (conv at e8 => whnf)
        rw [envOf_eq, show pairsOf _ _ 9 = [(56, 8)] from by kernel_rfl, show exOf _ _ 9 = [48, 49, 50, 51, 52, 53, 54, 55, 56, 58, 59] from by kernel_rfl]
        (try simp only [valsOf, e8])
        refine run ?_
        exact ⟨.refl _, rfl⟩
      | 10, hi, hoX, hT =>
        obtain rfl := Option.some.inj hoX
        rw [envOf_eq, show pairsOf _ _ 10 = [] from by kernel_rfl, show exOf _ _ 10 = [48, 49, 50, 51, 52, 53, 54, 55, 56, 57] from by kernel_rfl]
        (try simp only [valsOf])
        refine run ?_
        exact ⟨.refl _, rfl⟩
      | 11, hi, hoX, hT =>
        obtain rfl := Option.some.inj hoX
        have e10 := hT 10 (by kernel_rfl)
        (conv at e10 => whnf)
        rw [envOf_eq, show pairsOf _ _ 11 = [(58, 10)] from by kernel_rfl, show exOf _ _ 11 = [48, 49, 50, 51, 52, 53, 54, 55, 56, 57, 58] from by kernel_rfl]
        (try simp only [valsOf, e10])
        refine run ?_
        exact ⟨.refl _, rfl⟩
      | 12, hi, hoX, hT =>
        obtain rfl := Option.some.inj hoX
        have e4 := hT 4 (by kernel_rfl)
        (conv at e4 => whnf)
        have e5 := hT 5 (by kernel_rfl)
        (conv at e5 => whnf)
        have e6 := hT 6 (by kernel_rfl)
        (conv at e6 => whnf)
        have e7 := hT 7 (by kernel_rfl)
        (conv at e7 => whnf)
        have e8 := hT 8 (by kernel_rfl)
        (conv at e8 => whnf)
        have e9 := hT 9 (by kernel_rfl)
        (conv at e9 => whnf)
        have e10 := hT 10 (by kernel_rfl)
        (conv at e10 => whnf)
        have e11 := hT 11 (by kernel_rfl)
        (conv at e11 => whnf)
        rw [envOf_eq, show pairsOf _ _ 12 = [(52, 4), (53, 5), (54, 6), (55, 7), (56, 8), (57, 9), (58, 10), (59, 11)] from by kernel_rfl, show exOf _ _ 12 = [48, 49, 50, 51, 52, 53, 54, 55, 56, 57, 58, 59] from by kernel_rfl]
        (try simp only [valsOf, e4, e5, e6, e7, e8, e9, e10, e11])
        refine run ?_
        refine Ob2.lay (.cells (.row 3) [.int .i64 o.a, .int .i64 o.b, .int .i64 o.c, .int .i64 o.d]) (.slice (some ⟨_, 0, none⟩) 4 1) rfl fun U pa pg _ => ?_
        refine run ?_
        exact ⟨pg, _, rfl, pa⟩
    intro oX V K hV hoX hg hT
    have bc := hg.hblk bc
    obtain rfl := Option.some.inj hoX
    have e0 := hT 0 (by decide)
    (conv at e0 => whnf)
    have e1 := hT 1 (by decide)
    (conv at e1 => whnf)
    have e2 := hT 2 (by decide)
    (conv at e2 => whnf)
    have e3 := hT 3 (by decide)
    try rw [show pairsOf _ _ 3 = [(49, 1), (50, 2)] from by kernel_rfl] at e3
    (try simp only [valsOf] at e3)
    (conv at e3 => whnf)
    have e4 := hT 4 (by decide)
    (conv at e4 => whnf)
    have e5 := hT 5 (by decide)
    (conv at e5 => whnf)
    have e6 := hT 6 (by decide)
    (conv at e6 => whnf)
    have e7 := hT 7 (by decide)
    (conv at e7 => whnf)
    have e8 := hT 8 (by decide)
    (conv at e8 => whnf)
    have e9 := hT 9 (by decide)
    (conv at e9 => whnf)
    have e10 := hT 10 (by decide)
    (conv at e10 => whnf)
    have e11 := hT 11 (by decide)
    (conv at e11 => whnf)
    have e12 := hT 12 (by decide)
    try rw [show pairsOf _ _ 12 = [(52, 4), (53, 5), (54, 6), (55, 7), (56, 8), (57, 9), (58, 10), (59, 11)] from by kernel_rfl] at e12
    (try simp only [valsOf] at e12)
    (conv at e12 => whnf)
    have es : ∀ v k, k ≠ 13 → (V.set 13 v).getD k undef = V.getD k undef := fun v k hk => by rw [getD_set (by omega), if_neg hk]
    have ec : ∀ v, (V.set 13 v).getD 13 undef = v := fun v => by rw [getD_set (by omega), if_pos rfl]
    rw [envOf_eq, show pairsOf _ _ 13 = [(48, 0), (49, 1), (50, 2), (51, 3), (52, 4), (53, 5), (54, 6), (55, 7), (56, 8), (57, 9), (58, 10), (59, 11), (60, 12)] from by kernel_rfl, show exOf _ _ 13 = [48, 49, 50, 51, 52, 53, 54, 55, 56, 57, 58, 59, 60] from by kernel_rfl]
    (try simp only [valsOf, e0, e1, e2, e4, e5, e6, e7, e8, e9, e10, e11])
    obtain ⟨gg, e12, r12⟩ := e12
    replace e3 : V.getD 3 undef = .string (bstr (intL o.kind)) := e3
    simp only [e3, e12]
    (conv => whnf)
    replace S := S.grow hg
    replace F := F.trans (.of hg)
    replace ac := hg.at ac
    refine (S.wordsN _ (L := [o.a, o.b, o.c, o.d]) r12 rfl (by simp) (by intro n hn; simp only [List.mem_cons, List.not_mem_nil, or_false] at hn; rcases hn with rfl | rfl | rfl | rfl <;> assumption) (t := intL o.kind ++ wordsL [o.a, o.b, o.c, o.d]) (by rw [bstr_list]) (by simp only [List.length_append, List.length_cons, List.length_nil, lim8] at *; omega)).mono ?_
    rintro _ X ⟨S', F'⟩
    replace ac := S.box F' ac
    replace bc := hblk_of ac
    replace F := F.trans F'
    replace S := S'
    (try dsimp only)
    rw [endOf_eq, show endsOf _ = [(48, 0), (49, 1), (50, 2), (51, 3), (52, 4), (53, 5), (54, 6), (55, 7), (56, 8), (57, 9), (58, 10), (59, 11), (60, 12), (61, 13)] from by kernel_rfl]
    simp only [valsOf, ec, es _ 0 (by decide), es _ 1 (by decide), es _ 2 (by decide), es _ 3 (by decide), es _ 4 (by decide), es _ 5 (by decide), es _ 6 (by decide), es _ 7 (by decide), es _ 8 (by decide), es _ 9 (by decide), es _ 10 (by decide), es _ 11 (by decide), es _ 12 (by decide)]
    simp only [e3, e12]
    clear S' F' hT es e0 e1 e2 e3 e4 e5 e6 e7 e8 e9 e10 e11 e12 r12 hg
    refine run ?_
    refine (S.words ⟨#[32, 114]⟩ (fun H' _ g => intR.grow ir g) (by omega) n6 (by simp only [List.length_append, List.length_cons, List.length_nil, lim8] at *; omega)).mono ?_
    rintro _ X ⟨S', F'⟩
    (try replace ab := S.box F' ab)
    (try replace bb := hblk_of ab)
    (try replace ac := S.box F' ac)
    (try replace bc := hblk_of ac)
    replace F := F.trans F'
    replace S := S'
    clear S' F'
    refine run ?_
    have l4 : ∀ X, alen Try.prog 40 cv X = some (.int .i64 o.cases.length) := fun X => ic.len rfl _

    have l4' := l4 X
    refine run ?_
    generalize hR : P1 ++ Q ++ (intL o.kind ++ wordsL [o.a, o.b, o.c, o.d]) ++ ([32, 114] ++ wordsL o.regs) = R1 at S
    have hR1l : R1.length ≤ 1500000 := by rw [← hR]; simp only [List.length_append, List.length_cons, List.length_nil] at *; omega
    refine SW.loop (α := Nat) (fun j => [(1, .pointer (some ⟨q1, 0, none⟩)), (3, ptr b), (7, .pointer (some ⟨qc, 0, none⟩)), (42, ov), (43, .int .i64 x.ops.length), (44, .int .i64 (k : Int)), (67, cv), (68, .int .i64 o.cases.length), (69, .int .i64 (j : Int))])
      (fun j X => j ≤ o.cases.length ∧ WS 81 H1 X b (R1 ++ (o.cases.take j).flatMap caseL) ∧ X[qc]? = some (.cells .var [.int .i64 o.kind, .int .i64 o.a, .int .i64 o.b, .int .i64 o.c, .int .i64 o.d, rv, cv, .int .i64 o.pc, mv])) (fun j => o.cases.length - j)
      ⟨0, ⟨rfl, rfl, rfl, rfl, rfl, rfl, rfl, rfl, rfl, trivial⟩, by omega, by simpa using S, ac⟩ ?_
    clear S F ac bc l4'
    rintro j X ⟨hj, S, ab⟩
    have F : FrW b X X := .refl _ _
    have bb := hblk_of ab
    refine bC_sound _ _ _ _ ?_
    by_cases hjl : j < o.cases.length
    · have d2 : decide ((j : Int) < (o.cases.length : Int)) = true := decide_eq_true (by omega)
      obtain ⟨c, hc⟩ := get_lt hjl
      obtain ⟨pc, j1, j2⟩ := ldx_case ic hc
      obtain ⟨j3, -⟩ := j2 X S.g
      have hcm := List.mem_of_getElem? hc
      obtain ⟨m1, m2, m3⟩ := n7 c hcm
      have hct : (o.cases.take (j + 1)).flatMap caseL = (o.cases.take j).flatMap caseL ++ caseL c := flat_snoc _ hc
      have hcl : ((o.cases.take j).flatMap caseL).length ≤ _ := flat_take_le caseL o.cases j
      have wc := words_le [c.1, c.2.1, c.2.2]
      have wcl : (caseL c).length ≤ 68 := by unfold caseL; simp only [List.length_append, List.length_cons, List.length_nil] at *; omega
      refine run ?_
      refine Ob2.alloc rfl fun qc X1 hqc ac gc => ?_
      refine run ?_
      refine Ob.store rfl rfl rfl ac rfl (by first | exact Nat.le_of_ble_eq_true rfl | simp) fun X2 s1 s2 s3 => ?_
      replace gc := gc.but_new s2 (Nat.le_of_eq hqc.symm)
      replace S := S.grow gc
      replace F := F.trans (.of gc)
      (try replace ab := gc.at ab)
      (try replace bb := hblk_of ab)
      replace ac := s1
      have bc := hblk_of ac
      clear s1 s2 s3 hqc
      refine run ?_
      refine Ob2.lay (.cells (.row 3) [.int .i64 c.1, .int .i64 c.2.1, .int .i64 c.2.2]) (.slice (some ⟨_, 0, none⟩) 3 1) rfl fun U pa pg _ => ?_
      replace S := S.grow pg
      replace F := F.trans (.of pg)
      replace ab := pg.at ab
      refine run ?_
      refine (S.wordsN ⟨#[32, 99]⟩ (L := [c.1, c.2.1, c.2.2]) pa rfl (by simp) (by intro n hn; simp only [List.mem_cons, List.not_mem_nil, or_false] at hn; rcases hn with rfl | rfl | rfl <;> assumption) (t := caseL c) rfl (by simp only [List.length_append, List.length_cons, List.length_nil, lim8] at *; omega)).mono ?_
      rintro _ X ⟨S', F'⟩
      (try replace ab := S.box F' ab)
      (try replace bb := hblk_of ab)
      (try replace ac := S.box F' ac)
      (try replace bc := hblk_of ac)
      replace F := F.trans F'
      replace S := S'
      clear S' F'
      refine run ?_
      rw [List.append_assoc, ← hct] at S
      exact ⟨j + 1, ⟨rfl, rfl, rfl, rfl, rfl, rfl, rfl, rfl, congrArg (fun z => some (Value.int .i64 z)) (w_succ (by omega)), trivial⟩, ⟨hjl, S, ab⟩, by show o.cases.length - (j + 1) < o.cases.length - j; omega⟩
    have d2 : decide ((j : Int) < (o.cases.length : Int)) = false := decide_eq_false (by omega)
    rw [List.take_of_length_le (by omega)] at S
    refine run ?_
    refine Ob2.lay (.cells (.row 3) [.int .i64 o.pc]) (.slice (some ⟨_, 0, none⟩) 1 1) rfl fun U pa pg _ => ?_
    replace S := S.grow pg
    replace F := F.trans (.of pg)
    replace ab := pg.at ab
    replace bb := hblk_of ab
    refine run ?_
    refine (S.wordsN ⟨#[32, 112]⟩ (L := [o.pc]) pa rfl (by simp) (by intro n hn; simp only [List.mem_cons, List.not_mem_nil, or_false] at hn; rcases hn with rfl; assumption) (t := [32, 112] ++ wordsL [o.pc]) rfl (by simp only [List.length_append, List.length_cons, List.length_nil, lim8] at *; omega)).mono ?_
    rintro _ X ⟨S', F'⟩
    (try replace ab := S.box F' ab)
    (try replace bb := hblk_of ab)
    (try replace ac := S.box F' ac)
    (try replace bc := hblk_of ac)
    replace F := F.trans F'
    replace S := S'
    clear S' F'
    refine run ?_
    refine (S.words ⟨#[32, 109]⟩ (fun H' _ g => intR.grow im g) (by omega) n9 (by simp only [List.length_append, List.length_cons, List.length_nil, lim8] at *; omega)).mono ?_
    rintro _ X ⟨S', F'⟩
    (try replace ab := S.box F' ab)
    (try replace bb := hblk_of ab)
    (try replace ac := S.box F' ac)
    (try replace bc := hblk_of ac)
    replace F := F.trans F'
    replace S := S'
    clear S' F'
    refine run ?_
    refine (S.byte okB_w 10 (by simp only [List.length_append, List.length_cons, List.length_nil, lim8] at *; omega)).mono ?_
    rintro _ X ⟨S', F'⟩
    (try replace ab := S.box F' ab)
    (try replace bb := hblk_of ab)
    (try replace ac := S.box F' ac)
    (try replace bc := hblk_of ac)
    replace F := F.trans F'
    replace S := S'
    clear S' F'
    refine run ?_
    refine ⟨k + 1, ⟨rfl, rfl, rfl, rfl, congrArg (fun z => some (Value.int .i64 z)) (w_succ (by omega)), trivial⟩, ⟨hml, ?_⟩, by show x.ops.length - (k + 1) < x.ops.length - k; omega⟩
    rw [ht]
    rw [← hR] at S
    simpa only [opL, List.append_assoc] using S
  have d1 : decide ((k : Int) < (x.ops.length : Int)) = false := decide_eq_false (by omega)
  rw [List.take_of_length_le (by omega)] at S
  have c1 := S.g.hblk b1
  have l3' := l3 X
  refine run ?_
  generalize hP2 : P1 ++ x.ops.flatMap opL = P2 at S
  have hP2l : P2.length ≤ 1470000 := by rw [← hP2, List.length_append]; omega
  refine SW.loop (α := Nat) (fun k => [(1, .pointer (some ⟨q1, 0, none⟩)), (3, ptr b), (98, dv), (99, .int .i64 x.deps.length), (100, .int .i64 (k : Int))])
    (fun k X => k ≤ x.deps.length ∧ WS 81 H1 X b (P2 ++ (x.deps.take k).flatMap depL1)) (fun k => x.deps.length - k) ⟨0, ⟨rfl, rfl, rfl, rfl, rfl, trivial⟩, by omega, by simpa using S⟩ ?_
  clear S F c1 l3' hml hm d1 k
  rintro k X ⟨hm, S⟩
  have F : FrW b X X := .refl _ _
  refine bC_sound _ _ _ _ ?_
  by_cases hml : k < x.deps.length
  · have d1 : decide ((k : Int) < (x.deps.length : Int)) = true := decide_eq_true (by omega)
    obtain ⟨d, hd⟩ := get_lt hml
    obtain ⟨p, i1, i2⟩ := ldx_dep hb.deps hd
    obtain ⟨i3, -⟩ := i2 X S.g
    have hdm := List.mem_of_getElem? hd
    obtain ⟨m1, m2⟩ := hi.dep d hdm
    have ht : (x.deps.take (k + 1)).flatMap depL1 = (x.deps.take k).flatMap depL1 ++ depL1 d := flat_snoc _ hd
    have hle : ((x.deps.take k).flatMap depL1).length ≤ _ := flat_take_le depL1 x.deps k
    have wd := words_le [d.1, d.2]
    refine run ?_
    refine Ob2.alloc rfl fun qc X1 hqc ac gc => ?_
    refine run ?_
    refine Ob.store rfl rfl rfl ac rfl (by first | exact Nat.le_of_ble_eq_true rfl | simp) fun X2 s1 s2 s3 => ?_
    replace gc := gc.but_new s2 (Nat.le_of_eq hqc.symm)
    replace S := S.grow gc
    replace F := F.trans (.of gc)
    (try replace ab := gc.at ab)
    (try replace bb := hblk_of ab)
    replace ac := s1
    have bc := hblk_of ac
    clear s1 s2 s3 hqc
    refine run ?_
    refine Ob2.lay (.cells (.row 3) [.int .i64 d.1, .int .i64 d.2]) (.slice (some ⟨_, 0, none⟩) 2 1) rfl fun U pa pg _ => ?_
    replace S := S.grow pg
    replace F := F.trans (.of pg)
    refine run ?_
    refine (S.wordsN ⟨#[68]⟩ (L := [d.1, d.2]) pa rfl (by simp) (by intro n hn; simp only [List.mem_cons, List.not_mem_nil, or_false] at hn; rcases hn with rfl | rfl <;> assumption) (t := [68] ++ wordsL [d.1, d.2]) rfl (by simp only [List.length_append, List.length_cons, List.length_nil, lim8] at *; omega)).mono ?_
    rintro _ X ⟨S', F'⟩
    (try replace ab := S.box F' ab)
    (try replace bb := hblk_of ab)
    (try replace ac := S.box F' ac)
    (try replace bc := hblk_of ac)
    replace F := F.trans F'
    replace S := S'
    clear S' F'
    refine run ?_
    refine (S.byte okB_w 10 (by simp only [List.length_append, List.length_cons, List.length_nil, lim8] at *; omega)).mono ?_
    rintro _ X ⟨S', F'⟩
    (try replace ab := S.box F' ab)
    (try replace bb := hblk_of ab)
    (try replace ac := S.box F' ac)
    (try replace bc := hblk_of ac)
    replace F := F.trans F'
    replace S := S'
    clear S' F'
    refine run ?_
    refine ⟨k + 1, ⟨rfl, rfl, rfl, rfl, congrArg (fun z => some (Value.int .i64 z)) (w_succ (by omega)), trivial⟩, ⟨hml, ?_⟩, by show x.deps.length - (k + 1) < x.deps.length - k; omega⟩
    rw [ht]
    simpa only [depL1, List.append_assoc] using S
  have d1 : decide ((k : Int) < (x.deps.length : Int)) = false := decide_eq_false (by omega)
  rw [List.take_of_length_le (by omega)] at S
  have hfin : P2 ++ x.deps.flatMap depL1 = textL x := by rw [← hP2, ← hP1]; rfl
  rw [hfin] at S
  have hT := text_le hf hs
  refine run ?_
  refine (string_ax S.bl (by omega)).mono ?_
  rintro _ Y ⟨rfl, e⟩
  refine run ?_
  exact ⟨rfl, g1.trans (Keep.grow ((S.g.keep (Nat.le_refl _)).trans e))⟩
end Go.Proofs.Ytfobbmllbbckkaa
/- The reference of ir: a body as text. -/
set_option linter.unusedVariables false
set_option linter.unusedSimpArgs false
set_option maxRecDepth 20000
set_option maxHeartbeats 8000000
namespace Go.Proofs.Ytfobbmllbbckkaa
open Go Ax
theorem rwords_ax {H : Heap} {u : Value} {L : List Int} (hr : RL 1 intR H u L) (hL : L.length ≤ 1000000) (hi : ∀ n ∈ L, I64 n) :
    AX Try.prog 47 #[u] H (fun r H' => r = .string (bstr (wordsL L)) ∧ H' = H) := by
  refine AX.quiet ?_
  suffices hh : AX Try.prog 47 #[u] H (fun r H' => r = .string (bstr (wordsL L)) ∧ Grow H H') from hh.mono fun v _ ⟨e, g⟩ => ⟨e ▸ plain_str _, e, g⟩
  have hw := words_le L
  refine AX.body (n := 20) (rs := [.tmp 2]) Try.func47 rfl (by decide) rfl rfl (bC_sound _ _ _ _ ?_)
  have l1 : ∀ X, alen Try.prog 38 u X = some (.int .i64 L.length) := fun X => hr.len rfl _
  have l1' := l1 H
  refine run ?_
  refine SW.loop (α := Nat) (fun k => [(0, u), (3, .string (bstr (wordsL (L.take k)))), (4, .int .i64 (k : Int))]) (fun k X => k ≤ L.length ∧ X = H) (fun k => L.length - k) ⟨0, ⟨rfl, rfl, rfl, trivial⟩, by omega, rfl⟩ ?_
  rintro k X ⟨hm, e⟩
  subst X
  refine bC_sound _ _ _ _ ?_
  by_cases hml : k < L.length
  · have d1 : decide ((k : Int) < (L.length : Int)) = true := decide_eq_true (by omega)
    obtain ⟨x, hx⟩ := get_lt hml
    obtain ⟨p, i1, i2⟩ := ld_intS hr hx
    have hxi := hi x (List.mem_of_getElem? hx)
    have ht : wordsL (L.take (k + 1)) = wordsL (L.take k) ++ (32 :: intL x) := flat_snoc _ hx
    have hle : (wordsL (L.take k)).length ≤ (wordsL L).length := flat_take_le _ L k
    have hil := intL_len x
    refine run ?_
    refine Ob.cat (by first | exact bstr_list _ | rfl) (by first | exact bstr_list _ | rfl) (by first | omega | (simp only [List.length_append, List.length_cons, List.length_nil]; omega) | (simp only [List.length_append, List.length_cons, List.length_nil] at *; omega)) ?_
    refine run ?_
    refine (rnumI_ax H hxi.1 hxi.2).mono ?_
    rintro _ Y ⟨rfl, e⟩
    subst Y
    refine run ?_
    refine Ob.cat (by first | exact bstr_list _ | rfl) (by first | exact bstr_list _ | rfl) (by first | omega | (simp only [List.length_append, List.length_cons, List.length_nil]; omega) | (simp only [List.length_append, List.length_cons, List.length_nil] at *; omega)) ?_
    refine run ?_
    exact ⟨k + 1, ⟨rfl, congrArg (fun z => some (Value.string (bstr z))) (by rw [ht]; simp), congrArg (fun z => some (Value.int .i64 z)) (w_succ (by omega)), trivial⟩, ⟨hml, rfl⟩, by show L.length - (k + 1) < L.length - k; omega⟩
  · have d1 : decide ((k : Int) < (L.length : Int)) = false := decide_eq_false (by omega)
    rw [List.take_of_length_le (by omega)]
    refine run ?_
    exact ⟨rfl, .refl _⟩
theorem rwordsN_ax {H : Heap} {g n : Nat} {L : List Int} (hr : H[g]? = some (.cells (.row 3) (L.map (Value.int .i64)))) (hn : n = L.length) (hL : L.length ≤ 8) (hi : ∀ n ∈ L, I64 n) :
    AX Try.prog 47 #[.slice (some ⟨g, 0, none⟩) n 1] H (fun r H' => r = .string (bstr (wordsL L)) ∧ H' = H) := by
  subst hn
  exact rwords_ax (RL.own (g := Value.int .i64) (fun _ _ => rfl) hr) (by omega) hi
theorem rText_ax {H : Heap} {x : BodyX} {kv ov dv : Value} (hb : BodyIn H x kv ov dv) (hf : FewB x 300) (hs : ∀ v ∈ x.consts, v.2.2.size ≤ 300) (hi : IntX x) :
    AX Try.prog 15 #[bodyV x kv ov dv] H (fun r H' => r = .string (bstr (textL x)) ∧ H' = H) := by
  refine AX.quiet ?_
  suffices hh : AX Try.prog 15 #[bodyV x kv ov dv] H (fun r H' => r = .string (bstr (textL x)) ∧ Grow H H') from hh.mono fun v _ ⟨e, g⟩ => ⟨e ▸ plain_str _, e, g⟩
  obtain ⟨hA, hB, hC⟩ := textB_of hf hs
  have hP := head_len x
  have hcon := hf.con
  have hops := hf.ops
  have hdep := hf.deps
  refine AX.body (n := 136) (rs := [.tmp 2]) Try.func15 rfl (by decide) rfl rfl (bC_sound _ _ _ _ ?_)
  (conv => whnf)
  refine Ob2.box rfl fun q1 H1 hq1 a1 g1 => ?_
  have b1 := hblk_of a1
  replace hb := hb.grow g1
  have l1 : ∀ X, alen Try.prog 26 kv X = some (.int .i64 x.consts.length) := fun X => hb.con.len rfl _
  have l2 : ∀ X, alen Try.prog 27 ov X = some (.int .i64 x.ops.length) := fun X => hb.ops.len rfl _
  have l3 : ∀ X, alen Try.prog 28 dv X = some (.int .i64 x.deps.length) := fun X => hb.deps.len rfl _
  refine run ?_
  refine Ob2.lay (.cells (.row 3) [.int .i64 x.F, .int .i64 x.regs]) (.slice (some ⟨_, 0, none⟩) 2 1) rfl fun H2 pa g2 _ => ?_
  refine run ?_
  refine (rwordsN_ax (L := [x.F, x.regs]) pa rfl (by simp) (by intro n hn; simp only [List.mem_cons, List.not_mem_nil, or_false] at hn; rcases hn with rfl | rfl; exact hi.F; exact hi.rg)).mono ?_
  rintro _ X ⟨rfl, e⟩
  subst X
  have wh := words_le [x.F, x.regs]
  refine run ?_
  refine Ob.cat (by first | exact bstr_list _ | rfl) (by first | exact bstr_list _ | rfl) (by first | omega | (simp only [List.length_append, List.length_cons, List.length_nil]; omega) | (simp only [List.length_append, List.length_cons, List.length_nil] at *; omega)) ?_
  refine run ?_
  refine Ob.cat (by first | exact bstr_list _ | rfl) (by first | exact bstr_list _ | rfl) (by first | omega | (simp only [List.length_append, List.length_cons, List.length_nil]; omega) | (simp only [List.length_append, List.length_cons, List.length_nil] at *; omega)) ?_
  refine run ?_
  refine SW.loop (α := Nat) (fun k => [(1, .pointer (some ⟨q1, 0, none⟩)), (3, .string (bstr (headL16 x ++ (x.consts.take k).flatMap conL))), (4, .int .i64 (k : Int))])
    (fun k X => k ≤ x.consts.length ∧ Grow H1 X) (fun k => x.consts.length - k) ⟨0, ⟨rfl, congrArg (fun z => some (Value.string (bstr z))) (by simp [headL16]), rfl, trivial⟩, by omega, g2⟩ ?_
  rintro k X ⟨hm, gX⟩
  have c1 := gX.hblk b1
  have l1' := l1 X
  refine bC_sound _ _ _ _ ?_
  by_cases hml : k < x.consts.length
  · have d1 : decide ((k : Int) < (x.consts.length : Int)) = true := decide_eq_true (by omega)
    obtain ⟨v, hv⟩ := get_lt hml
    obtain ⟨p, i1, i2⟩ := ldx_val hb.con hv
    have i3 := i2 X gX
    have hvm := List.mem_of_getElem? hv
    have ht : (x.consts.take (k + 1)).flatMap conL = (x.consts.take k).flatMap conL ++ conL v := flat_snoc _ hv
    have hle : ((x.consts.take k).flatMap conL).length ≤ _ := flat_take_le conL x.consts k
    have hvl := val_le (hs v hvm)
    refine run ?_
    refine Ob.cat (by first | exact bstr_list _ | rfl) (by first | exact bstr_list _ | rfl) (by first | omega | (simp only [List.length_append, List.length_cons, List.length_nil]; omega) | (simp only [List.length_append, List.length_cons, List.length_nil] at *; omega)) ?_
    refine run ?_
    refine (rvalPrint_ax _ v (hi.con v hvm) (by have := hs v hvm; omega)).mono ?_
    rintro _ Y ⟨rfl, e⟩
    subst Y
    refine run ?_
    refine Ob.cat (by first | exact bstr_list _ | rfl) (by first | exact bstr_list _ | rfl) (by first | omega | (simp only [List.length_append, List.length_cons, List.length_nil]; omega) | (simp only [List.length_append, List.length_cons, List.length_nil] at *; omega)) ?_
    refine run ?_
    refine Ob.cat (by first | exact bstr_list _ | rfl) (by first | exact bstr_list _ | rfl) (by first | omega | (simp only [List.length_append, List.length_cons, List.length_nil]; omega) | (simp only [List.length_append, List.length_cons, List.length_nil] at *; omega)) ?_
    refine run ?_
    exact ⟨k + 1, ⟨rfl, congrArg (fun z => some (Value.string (bstr z))) (by rw [ht]; simp [conL]), congrArg (fun z => some (Value.int .i64 z)) (w_succ (by omega)), trivial⟩, ⟨hml, gX⟩, by show x.consts.length - (k + 1) < x.consts.length - k; omega⟩
  have d1 : decide ((k : Int) < (x.consts.length : Int)) = false := decide_eq_false (by omega)
  rw [List.take_of_length_le (by omega)]
  refine run ?_
  generalize hP1 : headL16 x ++ x.consts.flatMap conL = P1
  have hP1l : P1.length ≤ 270000 := by rw [← hP1, List.length_append]; omega
  refine SW.loop (α := Nat) (fun k => [(1, .pointer (some ⟨q1, 0, none⟩)), (3, .string (bstr (P1 ++ (x.ops.take k).flatMap opL))), (5, .int .i64 (k : Int))])
    (fun k X => k ≤ x.ops.length ∧ Grow H1 X) (fun k => x.ops.length - k) ⟨0, ⟨rfl, congrArg (fun z => some (Value.string (bstr z))) (by simp), rfl, trivial⟩, by omega, gX⟩ ?_
  clear c1 l1' hml hm d1 gX k X
  rintro k X ⟨hm, gX⟩
  have c1 := gX.hblk b1
  have l2' := l2 X
  refine bC_sound _ _ _ _ ?_
  by_cases hml : k < x.ops.length
  · have d1 : decide ((k : Int) < (x.ops.length : Int)) = true := decide_eq_true (by omega)
    obtain ⟨o, ho⟩ := get_lt hml
    obtain ⟨p, rv, cv, mv, i1, ir, ic, im, i2⟩ := ldx_op hb.ops ho
    obtain ⟨i3, -⟩ := i2 X gX
    have hom := List.mem_of_getElem? ho
    obtain ⟨n1, n2, n3, n4, n5, n6, n7, n8, n9⟩ := hi.op o hom
    have ht : (x.ops.take (k + 1)).flatMap opL = (x.ops.take k).flatMap opL ++ opL o := flat_snoc _ ho
    have hle : ((x.ops.take k).flatMap opL).length ≤ _ := flat_take_le opL x.ops k
    have hfo := hf.op o hom
    have w1 := intL_len o.kind
    have w2 := words_le [o.a, o.b, o.c, o.d]
    have w3 := words_le o.regs
    have w5 := words_le [o.pc]
    have w6 := words_le o.map
    have w4 : (o.cases.flatMap caseL).length ≤ 68 * o.cases.length := flat_le fun c _ => by
      have := words_le [c.1, c.2.1, c.2.2]
      unfold caseL
      simp at this ⊢; omega
    generalize hQ : (x.ops.take k).flatMap opL = Q at hle ht ⊢
    refine run ?_
    refine Ob2.alloc rfl fun qc X1 hqc ac gc => ?_
    refine run ?_
    refine Ob.store rfl rfl rfl ac rfl (by first | exact Nat.le_of_ble_eq_true rfl | simp) fun X2 s1 s2 s3 => ?_
    replace gc := gc.but_new s2 (Nat.le_of_eq hqc.symm)
    have s1 : X2[qc]? = some (.cells .var [.int .i64 o.kind, .int .i64 o.a, .int .i64 o.b, .int .i64 o.c, .int .i64 o.d, rv, cv, .int .i64 o.pc, mv]) := s1
    have bc := hblk_of s1
    have g2' := gX.trans gc
    have c2 := g2'.hblk b1
    refine run ?_
    refine SW.sub (F := [(1, _), (3, _), (5, _), (6, _)]) ?_ (Sub.of ⟨rfl, rfl, rfl, rfl, trivial⟩)
    refine SW.drawP 21 (fun i F v K => match i with | 0 => v = .string (bstr (P1 ++ Q)) | 1 => v = .pointer (some ⟨qc, 0, none⟩) | 2 => v = .int .i64 o.kind | 3 => v = .string (bstr (intL o.kind)) | 4 => v = .string (bstr (P1 ++ Q ++ intL o.kind)) | 5 => v = .pointer (some ⟨qc, 1, none⟩) | 6 => v = .int .i64 o.a | 7 => v = .pointer (some ⟨qc, 2, none⟩) | 8 => v = .int .i64 o.b | 9 => v = .pointer (some ⟨qc, 3, none⟩) | 10 => v = .int .i64 o.c | 11 => v = .pointer (some ⟨qc, 4, none⟩) | 12 => v = .int .i64 o.d | 13 => ∃ g, v = .slice (some ⟨g, 0, none⟩) 4 1 ∧ K[g]? = some (.cells (.row 3) [.int .i64 o.a, .int .i64 o.b, .int .i64 o.c, .int .i64 o.d]) | 14 => v = .string (bstr (wordsL [o.a, o.b, o.c, o.d])) | 15 => v = .string (bstr (P1 ++ Q ++ intL o.kind ++ wordsL [o.a, o.b, o.c, o.d])) | 16 => v = .string (bstr (P1 ++ Q ++ intL o.kind ++ wordsL [o.a, o.b, o.c, o.d] ++ [32, 114])) | 17 => v = .pointer (some ⟨qc, 5, none⟩) | 18 => v = rv | 19 => v = .string (bstr (wordsL o.regs)) | 20 => v = .string (bstr (P1 ++ Q ++ intL o.kind ++ wordsL [o.a, o.b, o.c, o.d] ++ [32, 114] ++ wordsL o.regs)) | _ => True) rfl (by kernel_rfl) ?_ ?_ ?_
    · intro i F v K K1 h g
      match i, h with
      | 0, h => exact h
      | 1, h => exact h
      | 2, h => exact h
      | 3, h => exact h
      | 4, h => exact h
      | 5, h => exact h
      | 6, h => exact h
      | 7, h => exact h
      | 8, h => exact h
      | 9, h => exact h
      | 10, h => exact h
      | 11, h => exact h
      | 12, h => exact h
      | 13, h => (obtain ⟨g', h1, h2⟩ := h; exact ⟨g', h1, g.at h2⟩)
      | 14, h => exact h
      | 15, h => exact h
      | 16, h => exact h
      | 17, h => exact h
      | 18, h => exact h
      | 19, h => exact h
      | 20, h => exact h
      | i + 21, h => trivial
    · intro i oX V K hi hoX hg hT
      have bc := hg.hblk bc
      match i, hi, hoX, hT with
      | 0, hi, hoX, hT =>
        obtain rfl := Option.some.inj hoX
        rw [envOf_eq, show pairsOf _ _ 0 = [] from by kernel_rfl, show exOf _ _ 0 = [47, 48, 49, 51, 52, 53, 54, 55, 56, 57, 58, 59, 60, 63, 64, 65] from by kernel_rfl]
        (try simp only [valsOf])
        refine run ?_
        exact ⟨.refl _, rfl⟩
      | 1, hi, hoX, hT =>
        obtain rfl := Option.some.inj hoX
        rw [envOf_eq, show pairsOf _ _ 1 = [] from by kernel_rfl, show exOf _ _ 1 = [46, 51, 52, 53, 54, 55, 56, 57, 58, 59, 63, 64] from by kernel_rfl]
        (try simp only [valsOf])
        refine run ?_
        exact ⟨.refl _, rfl⟩
      | 2, hi, hoX, hT =>
        obtain rfl := Option.some.inj hoX
        have e1 := hT 1 (by kernel_rfl)
        (conv at e1 => whnf)
        rw [envOf_eq, show pairsOf _ _ 2 = [(47, 1)] from by kernel_rfl, show exOf _ _ 2 = [46, 47, 51, 52, 53, 54, 55, 56, 57, 58, 59, 63, 64] from by kernel_rfl]
        (try simp only [valsOf, e1])
        refine run ?_
        exact ⟨.refl _, rfl⟩
      | 3, hi, hoX, hT =>
        obtain rfl := Option.some.inj hoX
        have e1 := hT 1 (by kernel_rfl)
        (conv at e1 => whnf)
        have e2 := hT 2 (by kernel_rfl)
        (conv at e2 => whnf)
        rw [envOf_eq, show pairsOf _ _ 3 = [(47, 1), (48, 2)] from by kernel_rfl, show exOf _ _ 3 = [46, 47, 48, 51, 52, 53, 54, 55, 56, 57, 58, 59, 63, 64] from by kernel_rfl]
        (try simp only [valsOf, e1, e2])
        refine run ?_
        refine (rnumI_ax _ n1.1 n1.2).mono ?_
        rintro _ Y ⟨rfl, e⟩
        subst Y
        refine run ?_
        exact ⟨.refl _, rfl⟩
      | 4, hi, hoX, hT =>
        obtain rfl := Option.some.inj hoX
        have e0 := hT 0 (by kernel_rfl)
        (conv at e0 => whnf)
        have e1 := hT 1 (by kernel_rfl)
        (conv at e1 => whnf)
        have e2 := hT 2 (by kernel_rfl)
        (conv at e2 => whnf)
        have e3 := hT 3 (by kernel_rfl)
        (conv at e3 => whnf)
        rw [envOf_eq, show pairsOf _ _ 4 = [(46, 0), (47, 1), (48, 2), (49, 3)] from by kernel_rfl, show exOf _ _ 4 = [46, 47, 48, 49, 51, 52, 53, 54, 55, 56, 57, 58, 59, 60, 63, 64, 65] from by kernel_rfl]
        (try simp only [valsOf, e0, e1, e2, e3])
        refine run ?_
        refine Ob.cat (by first | exact bstr_list _ | rfl) (by first | exact bstr_list _ | rfl) (by first | omega | (simp only [List.length_append, List.length_cons, List.length_nil]; omega) | (simp only [List.length_append, List.length_cons, List.length_nil] at *; omega)) ?_
        refine run ?_
        exact ⟨.refl _, rfl⟩
      | 5, hi, hoX, hT =>
        obtain rfl := Option.some.inj hoX
        rw [envOf_eq, show pairsOf _ _ 5 = [] from by kernel_rfl, show exOf _ _ 5 = [46, 47, 48, 49, 50, 53, 54, 55, 56, 57, 58, 63, 64] from by kernel_rfl]
        (try simp only [valsOf])
        refine run ?_
        exact ⟨.refl _, rfl⟩
      | 6, hi, hoX, hT =>
        obtain rfl := Option.some.inj hoX
        have e5 := hT 5 (by kernel_rfl)
        (conv at e5 => whnf)
        rw [envOf_eq, show pairsOf _ _ 6 = [(51, 5)] from by kernel_rfl, show exOf _ _ 6 = [46, 47, 48, 49, 50, 51, 53, 54, 55, 56, 57, 58, 63, 64] from by kernel_rfl]
        (try simp only [valsOf, e5])
        refine run ?_
        exact ⟨.refl _, rfl⟩
      | 7, hi, hoX, hT =>
        obtain rfl := Option.some.inj hoX
        rw [envOf_eq, show pairsOf _ _ 7 = [] from by kernel_rfl, show exOf _ _ 7 = [46, 47, 48, 49, 50, 51, 52, 55, 56, 57, 58, 63, 64] from by kernel_rfl]
        (try simp only [valsOf])
        refine run ?_
        exact ⟨.refl _, rfl⟩
      | 8, hi, hoX, hT =>
        obtain rfl := Option.some.inj hoX
        have e7 := hT 7 (by kernel_rfl)
        (conv at e7 => whnf)
        rw [envOf_eq, show pairsOf _ _ 8 = [(53, 7)] from by kernel_rfl, show exOf _ _ 8 = [46, 47, 48, 49, 50, 51, 52, 53, 55, 56, 57, 58, 63, 64] from by kernel_rfl]
        (try simp only [valsOf, e7])
        refine run ?_
        exact ⟨.refl _, rfl⟩
      | 9, hi, hoX, hT =>
        obtain rfl := Option.some.inj hoX
        rw [envOf_eq, show pairsOf _ _ 9 = [] from by kernel_rfl, show exOf _ _ 9 = [46, 47, 48, 49, 50, 51, 52, 53, 54, 57, 58, 63, 64] from by kernel_rfl]
        (try simp only [valsOf])
        refine run ?_
        exact ⟨.refl _, rfl⟩
      | 10, hi, hoX, hT =>
        obtain rfl := Option.some.inj hoX
        have e9 := hT 9 (by kernel_rfl)
        (conv at e9 => whnf)
        rw [envOf_eq, show pairsOf _ _ 10 = [(55, 9)] from by kernel_rfl, show exOf _ _ 10 = [46, 47, 48, 49, 50, 51, 52, 53, 54, 55, 57, 58, 63, 64] from by kernel_rfl]
        (try simp only [valsOf, e9])
        refine run ?_
        exact ⟨.refl _, rfl⟩
      | 11, hi, hoX, hT =>
        obtain rfl := Option.some.inj hoX
        rw [envOf_eq, show pairsOf _ _ 11 = [] from by kernel_rfl, show exOf _ _ 11 = [46, 47, 48, 49, 50, 51, 52, 53, 54, 55, 56, 63, 64] from by kernel_rfl]
        (try simp only [valsOf])
        refine run ?_
        exact ⟨.refl _, rfl⟩
      | 12, hi, hoX, hT =>
        obtain rfl := Option.some.inj hoX
        have e11 := hT 11 (by kernel_rfl)
        (conv at e11 => whnf)
        rw [envOf_eq, show pairsOf _ _ 12 = [(57, 11)] from by kernel_rfl, show exOf _ _ 12 = [46, 47, 48, 49, 50, 51, 52, 53, 54, 55, 56, 57, 63, 64] from by kernel_rfl]
        (try simp only [valsOf, e11])
        refine run ?_
        exact ⟨.refl _, rfl⟩
      | 13, hi, hoX, hT =>
        obtain rfl := Option.some.inj hoX
        have e5 := hT 5 (by kernel_rfl)
        (conv at e5 => whnf)
        have e6 := hT 6 (by kernel_rfl)
        (conv at e6 => whnf)
        have e7 := hT 7 (by kernel_rfl)
        (conv at e7 => whnf)
        have e8 := hT 8 (by kernel_rfl)
        (conv at e8 => whnf)
        have e9 := hT 9 (by kernel_rfl)
        (conv at e9 => whnf)
        have e10 := hT 10 (by kernel_rfl)
        (conv at e10 => whnf)
        have e11 := hT 11 (by kernel_rfl)
        (conv at e11 => whnf)
        have e12 := hT 12 (by kernel_rfl)
        (conv at e12 => whnf)
        rw [envOf_eq, show pairsOf _ _ 13 = [(51, 5), (52, 6), (53, 7), (54, 8), (55, 9), (56, 10), (57, 11), (58, 12)] from by kernel_rfl, show exOf _ _ 13 = [46, 47, 48, 49, 50, 51, 52, 53, 54, 55, 56, 57, 58, 63, 64] from by kernel_rfl]
        (try simp only [valsOf, e5, e6, e7, e8, e9, e10, e11, e12])
        refine run ?_
        refine Ob2.lay (.cells (.row 3) [.int .i64 o.a, .int .i64 o.b, .int .i64 o.c, .int .i64 o.d]) (.slice (some ⟨_, 0, none⟩) 4 1) rfl fun U pa pg _ => ?_
        refine run ?_
        exact ⟨pg, _, rfl, pa⟩
      | 14, hi, hoX, hT =>
        obtain rfl := Option.some.inj hoX
        have e1 := hT 1 (by kernel_rfl)
        (conv at e1 => whnf)
        have e2 := hT 2 (by kernel_rfl)
        (conv at e2 => whnf)
        have e3 := hT 3 (by kernel_rfl)
        (conv at e3 => whnf)
        have e5 := hT 5 (by kernel_rfl)
        (conv at e5 => whnf)
        have e6 := hT 6 (by kernel_rfl)
        (conv at e6 => whnf)
        have e7 := hT 7 (by kernel_rfl)
        (conv at e7 => whnf)
        have e8 := hT 8 (by kernel_rfl)
        (conv at e8 => whnf)
        have e9 := hT 9 (by kernel_rfl)
        (conv at e9 => whnf)
        have e10 := hT 10 (by kernel_rfl)
        (conv at e10 => whnf)
        have e11 := hT 11 (by kernel_rfl)
        (conv at e11 => whnf)
        have e12 := hT 12 (by kernel_rfl)
        (conv at e12 => whnf)
        have e13 := hT 13 (by kernel_rfl)
        (conv at e13 => whnf)
        rw [envOf_eq, show pairsOf _ _ 14 = [(47, 1), (48, 2), (49, 3), (51, 5), (52, 6), (53, 7), (54, 8), (55, 9), (56, 10), (57, 11), (58, 12), (59, 13)] from by kernel_rfl, show exOf _ _ 14 = [46, 47, 48, 49, 50, 51, 52, 53, 54, 55, 56, 57, 58, 59, 63, 64] from by kernel_rfl]
        (try simp only [valsOf, e1, e2, e3, e5, e6, e7, e8, e9, e10, e11, e12])
        obtain ⟨gg, e13, r13⟩ := e13
        simp only [e13]
        refine run ?_
        refine (rwordsN_ax (L := [o.a, o.b, o.c, o.d]) r13 rfl (by simp) (by intro n hn; simp only [List.mem_cons, List.not_mem_nil, or_false] at hn; rcases hn with rfl | rfl | rfl | rfl <;> assumption)).mono ?_
        rintro _ Y ⟨rfl, e⟩
        subst Y
        refine run ?_
        exact ⟨.refl _, rfl⟩
      | 15, hi, hoX, hT =>
        obtain rfl := Option.some.inj hoX
        have e0 := hT 0 (by kernel_rfl)
        (conv at e0 => whnf)
        have e1 := hT 1 (by kernel_rfl)
        (conv at e1 => whnf)
        have e2 := hT 2 (by kernel_rfl)
        (conv at e2 => whnf)
        have e3 := hT 3 (by kernel_rfl)
        (conv at e3 => whnf)
        have e4 := hT 4 (by kernel_rfl)
        (conv at e4 => whnf)
        have e5 := hT 5 (by kernel_rfl)
        (conv at e5 => whnf)
        have e6 := hT 6 (by kernel_rfl)
        (conv at e6 => whnf)
        have e7 := hT 7 (by kernel_rfl)
        (conv at e7 => whnf)
        have e8 := hT 8 (by kernel_rfl)
        (conv at e8 => whnf)
        have e9 := hT 9 (by kernel_rfl)
        (conv at e9 => whnf)
        have e10 := hT 10 (by kernel_rfl)
        (conv at e10 => whnf)
        have e11 := hT 11 (by kernel_rfl)
        (conv at e11 => whnf)
        have e12 := hT 12 (by kernel_rfl)
        (conv at e12 => whnf)
        have e13 := hT 13 (by kernel_rfl)
        (conv at e13 => whnf)
        have e14 := hT 14 (by kernel_rfl)
        (conv at e14 => whnf)
        rw [envOf_eq, show pairsOf _ _ 15 = [(46, 0), (47, 1), (48, 2), (49, 3), (50, 4), (51, 5), (52, 6), (53, 7), (54, 8), (55, 9), (56, 10), (57, 11), (58, 12), (59, 13), (60, 14)] from by kernel_rfl, show exOf _ _ 15 = [46, 47, 48, 49, 50, 51, 52, 53, 54, 55, 56, 57, 58, 59, 60, 63, 64, 65] from by kernel_rfl]
        (try simp only [valsOf, e0, e1, e2, e3, e4, e5, e6, e7, e8, e9, e10, e11, e12, e14])
        refine run ?_
        refine Ob.cat (by first | exact bstr_list _ | rfl) (by first | exact bstr_list _ | rfl) (by first | omega | (simp only [List.length_append, List.length_cons, List.length_nil]; omega) | (simp only [List.length_append, List.length_cons, List.length_nil] at *; omega)) ?_
        refine run ?_
        exact ⟨.refl _, rfl⟩
      | 16, hi, hoX, hT =>
        obtain rfl := Option.some.inj hoX
        have e0 := hT 0 (by kernel_rfl)
        (conv at e0 => whnf)
        have e1 := hT 1 (by kernel_rfl)
        (conv at e1 => whnf)
        have e2 := hT 2 (by kernel_rfl)
        (conv at e2 => whnf)
        have e3 := hT 3 (by kernel_rfl)
        (conv at e3 => whnf)
        have e4 := hT 4 (by kernel_rfl)
        (conv at e4 => whnf)
        have e5 := hT 5 (by kernel_rfl)
        (conv at e5 => whnf)
        have e6 := hT 6 (by kernel_rfl)
        (conv at e6 => whnf)
        have e7 := hT 7 (by kernel_rfl)
        (conv at e7 => whnf)
        have e8 := hT 8 (by kernel_rfl)
        (conv at e8 => whnf)
        have e9 := hT 9 (by kernel_rfl)
        (conv at e9 => whnf)
        have e10 := hT 10 (by kernel_rfl)
        (conv at e10 => whnf)
        have e11 := hT 11 (by kernel_rfl)
        (conv at e11 => whnf)
        have e12 := hT 12 (by kernel_rfl)
        (conv at e12 => whnf)
        have e13 := hT 13 (by kernel_rfl)
        (conv at e13 => whnf)
        have e14 := hT 14 (by kernel_rfl)
        (conv at e14 => whnf)
        have e15 := hT 15 (by kernel_rfl)
        (conv at e15 => whnf)
        rw [envOf_eq, show pairsOf _ _ 16 = [(46, 0), (47, 1), (48, 2), (49, 3), (50, 4), (51, 5), (52, 6), (53, 7), (54, 8), (55, 9), (56, 10), (57, 11), (58, 12), (59, 13), (60, 14), (61, 15)] from by kernel_rfl, show exOf _ _ 16 = [46, 47, 48, 49, 50, 51, 52, 53, 54, 55, 56, 57, 58, 59, 60, 61, 63, 64, 65] from by kernel_rfl]
        (try simp only [valsOf, e0, e1, e2, e3, e4, e5, e6, e7, e8, e9, e10, e11, e12, e14, e15])
        refine run ?_
        refine Ob.cat (by first | exact bstr_list _ | rfl) (by first | exact bstr_list _ | rfl) (by first | omega | (simp only [List.length_append, List.length_cons, List.length_nil]; omega) | (simp only [List.length_append, List.length_cons, List.length_nil] at *; omega)) ?_
        refine run ?_
        exact ⟨.refl _, rfl⟩
      | 17, hi, hoX, hT =>
        obtain rfl := Option.some.inj hoX
        rw [envOf_eq, show pairsOf _ _ 17 = [] from by kernel_rfl, show exOf _ _ 17 = [46, 47, 48, 49, 50, 51, 52, 53, 54, 55, 56, 57, 58, 59, 60, 61, 62] from by kernel_rfl]
        (try simp only [valsOf])
        refine run ?_
        exact ⟨.refl _, rfl⟩
      | 18, hi, hoX, hT =>
        obtain rfl := Option.some.inj hoX
        have e17 := hT 17 (by kernel_rfl)
        (conv at e17 => whnf)
        rw [envOf_eq, show pairsOf _ _ 18 = [(63, 17)] from by kernel_rfl, show exOf _ _ 18 = [46, 47, 48, 49, 50, 51, 52, 53, 54, 55, 56, 57, 58, 59, 60, 61, 62, 63] from by kernel_rfl]
        (try simp only [valsOf, e17])
        refine run ?_
        exact ⟨.refl _, rfl⟩
      | 19, hi, hoX, hT =>
        obtain rfl := Option.some.inj hoX
        have e1 := hT 1 (by kernel_rfl)
        (conv at e1 => whnf)
        have e2 := hT 2 (by kernel_rfl)
        (conv at e2 => whnf)
        have e3 := hT 3 (by kernel_rfl)
        (conv at e3 => whnf)
        have e5 := hT 5 (by kernel_rfl)
        (conv at e5 => whnf)
        have e6 := hT 6 (by kernel_rfl)
        (conv at e6 => whnf)
        have e7 := hT 7 (by kernel_rfl)
        (conv at e7 => whnf)
        have e8 := hT 8 (by kernel_rfl)
        (conv at e8 => whnf)
        have e9 := hT 9 (by kernel_rfl)
        (conv at e9 => whnf)
        have e10 := hT 10 (by kernel_rfl)
        (conv at e10 => whnf)
        have e11 := hT 11 (by kernel_rfl)
        (conv at e11 => whnf)
        have e12 := hT 12 (by kernel_rfl)
        (conv at e12 => whnf)
        have e13 := hT 13 (by kernel_rfl)
        (conv at e13 => whnf)
        have e14 := hT 14 (by kernel_rfl)
        (conv at e14 => whnf)
        have e17 := hT 17 (by kernel_rfl)
        (conv at e17 => whnf)
        have e18 := hT 18 (by kernel_rfl)
        (conv at e18 => whnf)
        rw [envOf_eq, show pairsOf _ _ 19 = [(47, 1), (48, 2), (49, 3), (51, 5), (52, 6), (53, 7), (54, 8), (55, 9), (56, 10), (57, 11), (58, 12), (59, 13), (60, 14), (63, 17), (64, 18)] from by kernel_rfl, show exOf _ _ 19 = [46, 47, 48, 49, 50, 51, 52, 53, 54, 55, 56, 57, 58, 59, 60, 61, 62, 63, 64] from by kernel_rfl]
        (try simp only [valsOf, e1, e2, e3, e5, e6, e7, e8, e9, e10, e11, e12, e14, e17, e18])
        refine run ?_
        refine (rwords_ax (intR.grow ir (g2'.trans hg)) (by omega) n6).mono ?_
        rintro _ Y ⟨rfl, e⟩
        subst Y
        refine run ?_
        exact ⟨.refl _, rfl⟩
      | 20, hi, hoX, hT =>
        obtain rfl := Option.some.inj hoX
        have e0 := hT 0 (by kernel_rfl)
        (conv at e0 => whnf)
        have e1 := hT 1 (by kernel_rfl)
        (conv at e1 => whnf)
        have e2 := hT 2 (by kernel_rfl)
        (conv at e2 => whnf)
        have e3 := hT 3 (by kernel_rfl)
        (conv at e3 => whnf)
        have e4 := hT 4 (by kernel_rfl)
        (conv at e4 => whnf)
        have e5 := hT 5 (by kernel_rfl)
        (conv at e5 => whnf)
        have e6 := hT 6 (by kernel_rfl)
        (conv at e6 => whnf)
        have e7 := hT 7 (by kernel_rfl)
        (conv at e7 => whnf)
        have e8 := hT 8 (by kernel_rfl)
        (conv at e8 => whnf)
        have e9 := hT 9 (by kernel_rfl)
        (conv at e9 => whnf)
        have e10 := hT 10 (by kernel_rfl)
        (conv at e10 => whnf)
        have e11 := hT 11 (by kernel_rfl)
        (conv at e11 => whnf)
        have e12 := hT 12 (by kernel_rfl)
        (conv at e12 => whnf)
        have e13 := hT 13 (by kernel_rfl)
        (conv at e13 => whnf)
        have e14 := hT 14 (by kernel_rfl)
        (conv at e14 => whnf)
        have e15 := hT 15 (by kernel_rfl)
        (conv at e15 => whnf)
        have e16 := hT 16 (by kernel_rfl)
        (conv at e16 => whnf)
        have e17 := hT 17 (by kernel_rfl)
        (conv at e17 => whnf)
        have e18 := hT 18 (by kernel_rfl)
        (conv at e18 => whnf)
        have e19 := hT 19 (by kernel_rfl)
        (conv at e19 => whnf)
        rw [envOf_eq, show pairsOf _ _ 20 = [(46, 0), (47, 1), (48, 2), (49, 3), (50, 4), (51, 5), (52, 6), (53, 7), (54, 8), (55, 9), (56, 10), (57, 11), (58, 12), (59, 13), (60, 14), (61, 15), (62, 16), (63, 17), (64, 18), (65, 19)] from by kernel_rfl, show exOf _ _ 20 = [46, 47, 48, 49, 50, 51, 52, 53, 54, 55, 56, 57, 58, 59, 60, 61, 62, 63, 64, 65] from by kernel_rfl]
        (try simp only [valsOf, e0, e1, e2, e3, e4, e5, e6, e7, e8, e9, e10, e11, e12, e14, e15, e16, e17, e18, e19])
        refine run ?_
        refine Ob.cat (by first | exact bstr_list _ | rfl) (by first | exact bstr_list _ | rfl) (by first | omega | (simp only [List.length_append, List.length_cons, List.length_nil]; omega) | (simp only [List.length_append, List.length_cons, List.length_nil] at *; omega)) ?_
        refine run ?_
        exact ⟨.refl _, rfl⟩
      | i + 21, hi, hoX, hT => exact absurd hi (by omega)
    intro oX V K hV hoX hg hT
    have bc := hg.hblk bc
    obtain rfl := Option.some.inj hoX
    have e0 := hT 0 (by decide)
    (conv at e0 => whnf)
    have e1 := hT 1 (by decide)
    (conv at e1 => whnf)
    have e2 := hT 2 (by decide)
    (conv at e2 => whnf)
    have e3 := hT 3 (by decide)
    (conv at e3 => whnf)
    have e4 := hT 4 (by decide)
    (conv at e4 => whnf)
    have e5 := hT 5 (by decide)
    (conv at e5 => whnf)
    have e6 := hT 6 (by decide)
    (conv at e6 => whnf)
    have e7 := hT 7 (by decide)
    (conv at e7 => whnf)
    have e8 := hT 8 (by decide)
    (conv at e8 => whnf)
    have e9 := hT 9 (by decide)
    (conv at e9 => whnf)
    have e10 := hT 10 (by decide)
    (conv at e10 => whnf)
    have e11 := hT 11 (by decide)
    (conv at e11 => whnf)
    have e12 := hT 12 (by decide)
    (conv at e12 => whnf)
    have e13 := hT 13 (by decide)
    try rw [show pairsOf _ _ 13 = [(51, 5), (52, 6), (53, 7), (54, 8), (55, 9), (56, 10), (57, 11), (58, 12)] from by kernel_rfl] at e13
    (try simp only [valsOf] at e13)
    (conv at e13 => whnf)
    have e14 := hT 14 (by decide)
    (conv at e14 => whnf)
    have e15 := hT 15 (by decide)
    (conv at e15 => whnf)
    have e16 := hT 16 (by decide)
    (conv at e16 => whnf)
    have e17 := hT 17 (by decide)
    (conv at e17 => whnf)
    have e18 := hT 18 (by decide)
    (conv at e18 => whnf)
    have e19 := hT 19 (by decide)
    (conv at e19 => whnf)
    have e20 := hT 20 (by decide)
    (conv at e20 => whnf)
    have es : ∀ v k, k ≠ 21 → (V.set 21 v).getD k undef = V.getD k undef := fun v k hk => by rw [getD_set (by omega), if_neg hk]
    have ec : ∀ v, (V.set 21 v).getD 21 undef = v := fun v => by rw [getD_set (by omega), if_pos rfl]
    rw [envOf_eq, show pairsOf _ _ 21 = [(46, 0), (47, 1), (48, 2), (49, 3), (50, 4), (51, 5), (52, 6), (53, 7), (54, 8), (55, 9), (56, 10), (57, 11), (58, 12), (59, 13), (60, 14), (61, 15), (62, 16), (63, 17), (64, 18), (65, 19), (66, 20)] from by kernel_rfl, show exOf _ _ 21 = [46, 47, 48, 49, 50, 51, 52, 53, 54, 55, 56, 57, 58, 59, 60, 61, 62, 63, 64, 65, 66] from by kernel_rfl]
    (try simp only [valsOf, e0, e1, e2, e3, e4, e5, e6, e7, e8, e9, e10, e11, e12, e14, e15, e16, e17, e18, e19, e20])
    have bc3 := bc
    have g3' := g2'.trans hg
    refine run ?_
    (try dsimp only)
    rw [endOf_eq, show endsOf _ = [(46, 0), (47, 1), (48, 2), (49, 3), (50, 4), (51, 5), (52, 6), (53, 7), (54, 8), (55, 9), (56, 10), (57, 11), (58, 12), (59, 13), (60, 14), (61, 15), (62, 16), (63, 17), (64, 18), (65, 19), (66, 20), (3, 21)] from by kernel_rfl]
    simp only [valsOf, ec, es _ 0 (by decide), es _ 1 (by decide), es _ 2 (by decide), es _ 3 (by decide), es _ 4 (by decide), es _ 5 (by decide), es _ 6 (by decide), es _ 7 (by decide), es _ 8 (by decide), es _ 9 (by decide), es _ 10 (by decide), es _ 11 (by decide), es _ 12 (by decide), es _ 13 (by decide), es _ 14 (by decide), es _ 15 (by decide), es _ 16 (by decide), es _ 17 (by decide), es _ 18 (by decide), es _ 19 (by decide), es _ 20 (by decide)]
    simp only [e20]
    clear hT es e0 e1 e2 e3 e4 e5 e6 e7 e8 e9 e10 e11 e12 e13 e14 e15 e16 e17 e18 e19 e20
    refine run ?_
    have l4 : ∀ X, alen Try.prog 40 cv X = some (.int .i64 o.cases.length) := fun X => ic.len rfl _
    generalize hR : P1 ++ Q ++ intL o.kind ++ wordsL [o.a, o.b, o.c, o.d] ++ [32, 114] ++ wordsL o.regs = R1
    have hR1l : R1.length ≤ 1500000 := by rw [← hR]; simp only [List.length_append, List.length_cons, List.length_nil] at *; omega
    refine SW.loop (α := Nat) (fun j => [(1, .pointer (some ⟨q1, 0, none⟩)), (3, .string (bstr (R1 ++ (o.cases.take j).flatMap caseL))), (5, .int .i64 (k : Int)), (6, .pointer (some ⟨qc, 0, none⟩)), (7, .int .i64 (j : Int))])
      (fun j Y => j ≤ o.cases.length ∧ Grow K Y) (fun j => o.cases.length - j)
      ⟨0, ⟨rfl, congrArg (fun z => some (Value.string (bstr z))) (by simp [hR]), rfl, rfl, rfl, trivial⟩, by omega, .refl _⟩ ?_
    rintro j Y ⟨hj, gY⟩
    have bcY := gY.hblk bc3
    have gY' := g3'.trans gY
    have l4' := l4 Y
    refine bC_sound _ _ _ _ ?_
    by_cases hjl : j < o.cases.length
    · have d2 : decide ((j : Int) < (o.cases.length : Int)) = true := decide_eq_true (by omega)
      obtain ⟨c, hc⟩ := get_lt hjl
      obtain ⟨pc, j1, j2⟩ := ldx_case ic hc
      obtain ⟨-, j3, j4, j5⟩ := j2 Y gY'
      have hcm := List.mem_of_getElem? hc
      obtain ⟨m1, m2, m3⟩ := n7 c hcm
      have hct : (o.cases.take (j + 1)).flatMap caseL = (o.cases.take j).flatMap caseL ++ caseL c := flat_snoc _ hc
      have hcl : ((o.cases.take j).flatMap caseL).length ≤ _ := flat_take_le caseL o.cases j
      have wc := words_le [c.1, c.2.1, c.2.2]
      refine run ?_
      apply SW.drawG [(0, [], [76, 77, 78, 79, 80, 81, 82, 83, 84, 85, 86, 87, 88, 89, 90, 91, 92, 93, 94, 95], false), (1, [(74, 0)], [74, 76, 77, 78, 79, 80, 81, 82, 83, 84, 85, 86, 87, 88, 89, 90, 91, 92, 93, 94, 95], false), (2, [], [74, 75, 78, 82, 83, 84, 85, 86, 87, 88, 89, 90, 91, 92, 93], false), (3, [(76, 2)], [74, 75, 76, 78, 82, 83, 84, 85, 86, 87, 88, 89, 90, 91, 92, 93], false), (4, [], [74, 75, 76, 77, 82, 83, 84, 85, 86, 87, 88, 89, 90, 91, 92, 93], false), (5, [(76, 2), (77, 3), (78, 4)], [74, 75, 76, 77, 78, 82, 83, 84, 85, 86, 87, 88, 89, 90, 91, 92, 93], false), (6, [(76, 2), (77, 3), (78, 4), (79, 5)], [74, 75, 76, 77, 78, 79, 82, 83, 84, 85, 86, 87, 88, 89, 90, 91, 92, 93], false), (7, [(76, 2), (77, 3), (78, 4), (79, 5), (80, 6)], [74, 75, 76, 77, 78, 79, 80, 82, 83, 84, 85, 86, 87, 88, 89, 90, 91, 92, 93], false), (8, [], [74, 75, 76, 77, 78, 79, 80, 81, 84, 88, 89, 90, 91, 92, 93], false), (9, [(82, 8)], [74, 75, 76, 77, 78, 79, 80, 81, 82, 84, 88, 89, 90, 91, 92, 93], false), (10, [], [74, 75, 76, 77, 78, 79, 80, 81, 82, 83, 88, 89, 90, 91, 92, 93], false), (11, [(82, 8), (83, 9), (84, 10)], [74, 75, 76, 77, 78, 79, 80, 81, 82, 83, 84, 88, 89, 90, 91, 92, 93], false), (12, [(82, 8), (83, 9), (84, 10), (85, 11)], [74, 75, 76, 77, 78, 79, 80, 81, 82, 83, 84, 85, 88, 89, 90, 91, 92, 93], false), (13, [(82, 8), (83, 9), (84, 10), (85, 11), (86, 12)], [74, 75, 76, 77, 78, 79, 80, 81, 82, 83, 84, 85, 86, 88, 89, 90, 91, 92, 93], false), (14, [], [74, 75, 76, 77, 78, 79, 80, 81, 82, 83, 84, 85, 86, 87, 90], false), (15, [(88, 14)], [74, 75, 76, 77, 78, 79, 80, 81, 82, 83, 84, 85, 86, 87, 88, 90], false), (16, [], [74, 75, 76, 77, 78, 79, 80, 81, 82, 83, 84, 85, 86, 87, 88, 89], false), (17, [(88, 14), (89, 15), (90, 16)], [74, 75, 76, 77, 78, 79, 80, 81, 82, 83, 84, 85, 86, 87, 88, 89, 90], false), (18, [(88, 14), (89, 15), (90, 16), (91, 17)], [74, 75, 76, 77, 78, 79, 80, 81, 82, 83, 84, 85, 86, 87, 88, 89, 90, 91], false), (19, [(88, 14), (89, 15), (90, 16), (91, 17), (92, 18)], [74, 75, 76, 77, 78, 79, 80, 81, 82, 83, 84, 85, 86, 87, 88, 89, 90, 91, 92], false), (20, [(76, 2), (77, 3), (78, 4), (79, 5), (80, 6), (81, 7), (82, 8), (83, 9), (84, 10), (85, 11), (86, 12), (87, 13), (88, 14), (89, 15), (90, 16), (91, 17), (92, 18), (93, 19)], [74, 75, 76, 77, 78, 79, 80, 81, 82, 83, 84, 85, 86, 87, 88, 89, 90, 91, 92, 93], true), (21, [(76, 2), (77, 3), (78, 4), (79, 5), (80, 6), (81, 7), (82, 8), (83, 9), (84, 10), (85, 11), (86, 12), (87, 13), (88, 14), (89, 15), (90, 16), (91, 17), (92, 18), (93, 19), (94, 20)], [74, 75, 76, 77, 78, 79, 80, 81, 82, 83, 84, 85, 86, 87, 88, 89, 90, 91, 92, 93, 94], true), (22, [(74, 0), (75, 1), (76, 2), (77, 3), (78, 4), (79, 5), (80, 6), (81, 7), (82, 8), (83, 9), (84, 10), (85, 11), (86, 12), (87, 13), (88, 14), (89, 15), (90, 16), (91, 17), (92, 18), (93, 19), (94, 20), (95, 21)], [74, 75, 76, 77, 78, 79, 80, 81, 82, 83, 84, 85, 86, 87, 88, 89, 90, 91, 92, 93, 94, 95], false), (23, [(74, 0), (75, 1), (76, 2), (77, 3), (78, 4), (79, 5), (80, 6), (81, 7), (82, 8), (83, 9), (84, 10), (85, 11), (86, 12), (87, 13), (88, 14), (89, 15), (90, 16), (91, 17), (92, 18), (93, 19), (94, 20), (95, 21), (96, 22)], [74, 75, 76, 77, 78, 79, 80, 81, 82, 83, 84, 85, 86, 87, 88, 89, 90, 91, 92, 93, 94, 95, 96], false)]
        [(74, 0), (75, 1), (76, 2), (77, 3), (78, 4), (79, 5), (80, 6), (81, 7), (82, 8), (83, 9), (84, 10), (85, 11), (86, 12), (87, 13), (88, 14), (89, 15), (90, 16), (91, 17), (92, 18), (93, 19), (94, 20), (95, 21), (96, 22), (3, 23)]
        [(1, _), (3, _), (5, _), (6, _), (7, _)] rfl (by kernel_rfl)
      case hF => exact ⟨rfl, rfl, rfl, rfl, rfl, trivial⟩
      refine run ?_
      refine Ob.cat (by first | exact bstr_list _ | rfl) (by first | exact bstr_list _ | rfl) (by first | omega | (simp only [List.length_append, List.length_cons, List.length_nil]; omega) | (simp only [List.length_append, List.length_cons, List.length_nil] at *; omega)) ?_
      refine run ?_
      refine Ob2.lay (.cells (.row 3) [.int .i64 c.1, .int .i64 c.2.1, .int .i64 c.2.2]) (.slice (some ⟨_, 0, none⟩) 3 1) rfl fun X4 pa4 g4 _ => ?_
      refine run ?_
      refine (rwordsN_ax (L := [c.1, c.2.1, c.2.2]) pa4 rfl (by simp) (by intro n hn; simp only [List.mem_cons, List.not_mem_nil, or_false] at hn; rcases hn with rfl | rfl | rfl <;> assumption)).mono ?_
      rintro _ Y ⟨rfl, e⟩
      subst Y
      refine run ?_
      refine Ob.cat (by first | exact bstr_list _ | rfl) (by first | exact bstr_list _ | rfl) (by first | omega | (simp only [List.length_append, List.length_cons, List.length_nil]; omega) | (simp only [List.length_append, List.length_cons, List.length_nil] at *; omega)) ?_
      refine run ?_
      exact ⟨j + 1, ⟨rfl, congrArg (fun z => some (Value.string (bstr z))) (by rw [hct]; simp [caseL]), rfl, rfl, congrArg (fun z => some (Value.int .i64 z)) (w_succ (by omega)), trivial⟩, ⟨hjl, gY.trans g4⟩, by show o.cases.length - (j + 1) < o.cases.length - j; omega⟩
    have d2 : decide ((j : Int) < (o.cases.length : Int)) = false := decide_eq_false (by omega)
    rw [List.take_of_length_le (by omega)]
    refine run ?_
    apply SW.drawG [(0, [], [99, 100, 101, 102, 105, 106, 107], false), (1, [(97, 0)], [97, 99, 100, 101, 102, 105, 106, 107], false), (2, [], [97, 98, 105, 106], false), (3, [(99, 2)], [97, 98, 99, 105, 106], false), (8, [], [97, 98, 99, 100, 101, 102, 103, 104], false), (9, [(105, 8)], [97, 98, 99, 100, 101, 102, 103, 104, 105], false), (4, [(99, 2), (100, 3)], [97, 98, 99, 100, 105, 106], true), (5, [(99, 2), (100, 3), (101, 4)], [97, 98, 99, 100, 101, 105, 106], true), (6, [(97, 0), (98, 1), (99, 2), (100, 3), (101, 4), (102, 5)], [97, 98, 99, 100, 101, 102, 105, 106, 107], false), (7, [(97, 0), (98, 1), (99, 2), (100, 3), (101, 4), (102, 5), (103, 6)], [97, 98, 99, 100, 101, 102, 103, 105, 106, 107], false), (10, [(99, 2), (100, 3), (101, 4), (102, 5), (105, 8), (106, 9)], [97, 98, 99, 100, 101, 102, 103, 104, 105, 106], true), (11, [(97, 0), (98, 1), (99, 2), (100, 3), (101, 4), (102, 5), (103, 6), (104, 7), (105, 8), (106, 9), (107, 10)], [97, 98, 99, 100, 101, 102, 103, 104, 105, 106, 107], false), (12, [(97, 0), (98, 1), (99, 2), (100, 3), (101, 4), (102, 5), (103, 6), (104, 7), (105, 8), (106, 9), (107, 10), (108, 11)], [97, 98, 99, 100, 101, 102, 103, 104, 105, 106, 107, 108], false), (13, [(97, 0), (98, 1), (99, 2), (100, 3), (101, 4), (102, 5), (103, 6), (104, 7), (105, 8), (106, 9), (107, 10), (108, 11), (109, 12)], [97, 98, 99, 100, 101, 102, 103, 104, 105, 106, 107, 108, 109], false)]
      [(97, 0), (98, 1), (99, 2), (100, 3), (101, 4), (102, 5), (103, 6), (104, 7), (105, 8), (106, 9), (107, 10), (108, 11), (109, 12), (3, 13)]
      [(1, _), (3, _), (5, _), (6, _)] rfl (by kernel_rfl)
    case hF => exact ⟨rfl, rfl, rfl, rfl, trivial⟩
    refine run ?_
    refine Ob.cat (by first | exact bstr_list _ | rfl) (by first | exact bstr_list _ | rfl) (by first | omega | (simp only [List.length_append, List.length_cons, List.length_nil]; omega) | (simp only [List.length_append, List.length_cons, List.length_nil] at *; omega)) ?_
    refine run ?_
    refine Ob2.lay (.cells (.row 3) [.int .i64 o.pc]) (.slice (some ⟨_, 0, none⟩) 1 1) rfl fun X4 pa4 g4 _ => ?_
    have bc4 := g4.hblk bcY
    refine run ?_
    refine (rwordsN_ax (L := [o.pc]) pa4 rfl (by simp) (by intro n hn; simp only [List.mem_cons, List.not_mem_nil, or_false] at hn; rcases hn with rfl; assumption)).mono ?_
    rintro _ Y ⟨rfl, e⟩
    subst Y
    refine run ?_
    refine Ob.cat (by first | exact bstr_list _ | rfl) (by first | exact bstr_list _ | rfl) (by first | omega | (simp only [List.length_append, List.length_cons, List.length_nil]; omega) | (simp only [List.length_append, List.length_cons, List.length_nil] at *; omega)) ?_
    refine run ?_
    refine Ob.cat (by first | exact bstr_list _ | rfl) (by first | exact bstr_list _ | rfl) (by first | omega | (simp only [List.length_append, List.length_cons, List.length_nil]; omega) | (simp only [List.length_append, List.length_cons, List.length_nil] at *; omega)) ?_
    refine run ?_
    refine (rwords_ax (intR.grow im (gY'.trans g4)) (by omega) n9).mono ?_
    rintro _ Y ⟨rfl, e⟩
    subst Y
    refine run ?_
    refine Ob.cat (by first | exact bstr_list _ | rfl) (by first | exact bstr_list _ | rfl) (by first | omega | (simp only [List.length_append, List.length_cons, List.length_nil]; omega) | (simp only [List.length_append, List.length_cons, List.length_nil] at *; omega)) ?_
    refine run ?_
    refine Ob.cat (by first | exact bstr_list _ | rfl) (by first | exact bstr_list _ | rfl) (by first | omega | (simp only [List.length_append, List.length_cons, List.length_nil]; omega) | (simp only [List.length_append, List.length_cons, List.length_nil] at *; omega)) ?_
    refine run ?_
    exact ⟨k + 1, ⟨rfl, congrArg (fun z => some (Value.string (bstr z))) (by rw [ht, ← hR]; simp [opL]), congrArg (fun z => some (Value.int .i64 z)) (w_succ (by omega)), trivial⟩, ⟨hml, gY'.trans g4⟩, by show x.ops.length - (k + 1) < x.ops.length - k; omega⟩
  have d1 : decide ((k : Int) < (x.ops.length : Int)) = false := decide_eq_false (by omega)
  rw [List.take_of_length_le (by omega)]
  refine run ?_
  generalize hP2 : P1 ++ x.ops.flatMap opL = P2
  have hP2l : P2.length ≤ 1470000 := by rw [← hP2, List.length_append]; omega
  refine SW.loop (α := Nat) (fun k => [(1, .pointer (some ⟨q1, 0, none⟩)), (3, .string (bstr (P2 ++ (x.deps.take k).flatMap depL1))), (8, .int .i64 (k : Int))])
    (fun k X => k ≤ x.deps.length ∧ Grow H1 X) (fun k => x.deps.length - k) ⟨0, ⟨rfl, congrArg (fun z => some (Value.string (bstr z))) (by simp), rfl, trivial⟩, by omega, gX⟩ ?_
  clear c1 l2' hml hm d1 gX k X
  rintro k X ⟨hm, gX⟩
  have c1 := gX.hblk b1
  have l3' := l3 X
  refine bC_sound _ _ _ _ ?_
  by_cases hml : k < x.deps.length
  · have d1 : decide ((k : Int) < (x.deps.length : Int)) = true := decide_eq_true (by omega)
    obtain ⟨d, hd⟩ := get_lt hml
    obtain ⟨p, i1, i2⟩ := ldx_dep hb.deps hd
    obtain ⟨-, i3, i4⟩ := i2 X gX
    have hdm := List.mem_of_getElem? hd
    obtain ⟨m1, m2⟩ := hi.dep d hdm
    have ht : (x.deps.take (k + 1)).flatMap depL1 = (x.deps.take k).flatMap depL1 ++ depL1 d := flat_snoc _ hd
    have hle : ((x.deps.take k).flatMap depL1).length ≤ _ := flat_take_le depL1 x.deps k
    have wd := words_le [d.1, d.2]
    refine run ?_
    apply SW.drawG [(0, [], [119, 120, 121, 122, 123, 124, 125, 126, 127, 128, 129, 130, 131, 132], false), (1, [(117, 0)], [117, 119, 120, 121, 122, 123, 124, 125, 126, 127, 128, 129, 130, 131, 132], false), (2, [], [117, 118, 121, 125, 126, 127, 128, 129, 130], false), (3, [(119, 2)], [117, 118, 119, 121, 125, 126, 127, 128, 129, 130], false), (4, [], [117, 118, 119, 120, 125, 126, 127, 128, 129, 130], false), (5, [(119, 2), (120, 3), (121, 4)], [117, 118, 119, 120, 121, 125, 126, 127, 128, 129, 130], false), (6, [(119, 2), (120, 3), (121, 4), (122, 5)], [117, 118, 119, 120, 121, 122, 125, 126, 127, 128, 129, 130], false), (7, [(119, 2), (120, 3), (121, 4), (122, 5), (123, 6)], [117, 118, 119, 120, 121, 122, 123, 125, 126, 127, 128, 129, 130], false), (8, [], [117, 118, 119, 120, 121, 122, 123, 124, 127], false), (9, [(125, 8)], [117, 118, 119, 120, 121, 122, 123, 124, 125, 127], false), (10, [], [117, 118, 119, 120, 121, 122, 123, 124, 125, 126], false), (11, [(125, 8), (126, 9), (127, 10)], [117, 118, 119, 120, 121, 122, 123, 124, 125, 126, 127], false), (12, [(125, 8), (126, 9), (127, 10), (128, 11)], [117, 118, 119, 120, 121, 122, 123, 124, 125, 126, 127, 128], false), (13, [(125, 8), (126, 9), (127, 10), (128, 11), (129, 12)], [117, 118, 119, 120, 121, 122, 123, 124, 125, 126, 127, 128, 129], false), (14, [(119, 2), (120, 3), (121, 4), (122, 5), (123, 6), (124, 7), (125, 8), (126, 9), (127, 10), (128, 11), (129, 12), (130, 13)], [117, 118, 119, 120, 121, 122, 123, 124, 125, 126, 127, 128, 129, 130], true), (15, [(119, 2), (120, 3), (121, 4), (122, 5), (123, 6), (124, 7), (125, 8), (126, 9), (127, 10), (128, 11), (129, 12), (130, 13), (131, 14)], [117, 118, 119, 120, 121, 122, 123, 124, 125, 126, 127, 128, 129, 130, 131], true), (16, [(117, 0), (118, 1), (119, 2), (120, 3), (121, 4), (122, 5), (123, 6), (124, 7), (125, 8), (126, 9), (127, 10), (128, 11), (129, 12), (130, 13), (131, 14), (132, 15)], [117, 118, 119, 120, 121, 122, 123, 124, 125, 126, 127, 128, 129, 130, 131, 132], false), (17, [(117, 0), (118, 1), (119, 2), (120, 3), (121, 4), (122, 5), (123, 6), (124, 7), (125, 8), (126, 9), (127, 10), (128, 11), (129, 12), (130, 13), (131, 14), (132, 15), (133, 16)], [117, 118, 119, 120, 121, 122, 123, 124, 125, 126, 127, 128, 129, 130, 131, 132, 133], false), (18, [(117, 0), (118, 1), (119, 2), (120, 3), (121, 4), (122, 5), (123, 6), (124, 7), (125, 8), (126, 9), (127, 10), (128, 11), (129, 12), (130, 13), (131, 14), (132, 15), (133, 16), (134, 17)], [117, 118, 119, 120, 121, 122, 123, 124, 125, 126, 127, 128, 129, 130, 131, 132, 133, 134], false)]
      [(117, 0), (118, 1), (119, 2), (120, 3), (121, 4), (122, 5), (123, 6), (124, 7), (125, 8), (126, 9), (127, 10), (128, 11), (129, 12), (130, 13), (131, 14), (132, 15), (133, 16), (134, 17), (3, 18)]
      [(1, _), (3, _), (8, _)] rfl (by kernel_rfl)
    case hF => exact ⟨rfl, rfl, rfl, trivial⟩
    refine run ?_
    refine Ob.cat (by first | exact bstr_list _ | rfl) (by first | exact bstr_list _ | rfl) (by first | omega | (simp only [List.length_append, List.length_cons, List.length_nil]; omega) | (simp only [List.length_append, List.length_cons, List.length_nil] at *; omega)) ?_
    refine run ?_
    refine Ob2.lay (.cells (.row 3) [.int .i64 d.1, .int .i64 d.2]) (.slice (some ⟨_, 0, none⟩) 2 1) rfl fun X4 pa4 g4 _ => ?_
    refine run ?_
    refine (rwordsN_ax (L := [d.1, d.2]) pa4 rfl (by simp) (by intro n hn; simp only [List.mem_cons, List.not_mem_nil, or_false] at hn; rcases hn with rfl | rfl <;> assumption)).mono ?_
    rintro _ Y ⟨rfl, e⟩
    subst Y
    refine run ?_
    refine Ob.cat (by first | exact bstr_list _ | rfl) (by first | exact bstr_list _ | rfl) (by first | omega | (simp only [List.length_append, List.length_cons, List.length_nil]; omega) | (simp only [List.length_append, List.length_cons, List.length_nil] at *; omega)) ?_
    refine run ?_
    refine Ob.cat (by first | exact bstr_list _ | rfl) (by first | exact bstr_list _ | rfl) (by first | omega | (simp only [List.length_append, List.length_cons, List.length_nil]; omega) | (simp only [List.length_append, List.length_cons, List.length_nil] at *; omega)) ?_
    refine run ?_
    exact ⟨k + 1, ⟨rfl, congrArg (fun z => some (Value.string (bstr z))) (by rw [ht]; simp [depL1]), congrArg (fun z => some (Value.int .i64 z)) (w_succ (by omega)), trivial⟩, ⟨hml, gX.trans g4⟩, by show x.deps.length - (k + 1) < x.deps.length - k; omega⟩
  have d1 : decide ((k : Int) < (x.deps.length : Int)) = false := decide_eq_false (by omega)
  rw [List.take_of_length_le (by omega)]
  have hfin : P2 ++ x.deps.flatMap depL1 = textL x := by rw [← hP2, ← hP1]; rfl
  rw [hfin]
  refine run ?_
  exact ⟨rfl, g1.trans gX⟩
end Go.Proofs.Ytfobbmllbbckkaa
/- Package ir: are two bodies alike? Printed by mkIt6.py. -/
set_option linter.unusedVariables false
set_option linter.unusedSimpArgs false
set_option maxRecDepth 20000
set_option maxHeartbeats 8000000
namespace Go.Proofs.Ytfobbmllbbckkaa
open Go Ax
theorem ba_beq2 (s t : ByteArray) : (s == t) = decide (s = t) := by
  by_cases h : s = t
  · subst h; simp
  · rw [decide_eq_false h, beq_eq_false_iff_ne]; exact h
theorem val_neq (x y : V) : abin Try.prog .neq 51 (valV x) (valV y) = some (.bool (decide (x ≠ y))) := by
  have h : abin Try.prog .neq 51 (valV x) (valV y) = some (.bool (!(x.1 == y.1 && (x.2.1 == y.2.1 && (x.2.2 == y.2.2 && true))))) := by kernel_rfl
  rw [h]
  obtain ⟨a, b, c⟩ := x
  obtain ⟨a', b', c'⟩ := y
  congr 2
  rw [Bool.eq_iff_iff]
  simp
theorem case_neq (x y : CaseT) : abin Try.prog .neq 90 (.agg #[.int .i64 x.1, .int .i64 x.2.1, .int .i64 x.2.2]) (.agg #[.int .i64 y.1, .int .i64 y.2.1, .int .i64 y.2.2]) = some (.bool (decide (x ≠ y))) := by
  have h : abin Try.prog .neq 90 (.agg #[.int .i64 x.1, .int .i64 x.2.1, .int .i64 x.2.2]) (.agg #[.int .i64 y.1, .int .i64 y.2.1, .int .i64 y.2.2]) = some (.bool (!(x.1 == y.1 && (x.2.1 == y.2.1 && (x.2.2 == y.2.2 && true))))) := by kernel_rfl
  rw [h]
  obtain ⟨a, b, c⟩ := x
  obtain ⟨a', b', c'⟩ := y
  congr 2
  rw [Bool.eq_iff_iff]
  simp
theorem dep_neq (x y : Int × Int) : abin Try.prog .neq 60 (.agg #[.int .i64 x.1, .int .i64 x.2]) (.agg #[.int .i64 y.1, .int .i64 y.2]) = some (.bool (decide (x ≠ y))) := by
  have h : abin Try.prog .neq 60 (.agg #[.int .i64 x.1, .int .i64 x.2]) (.agg #[.int .i64 y.1, .int .i64 y.2]) = some (.bool (!(x.1 == y.1 && (x.2 == y.2 && true)))) := by kernel_rfl
  rw [h]
  obtain ⟨a, b⟩ := x
  obtain ⟨a', b'⟩ := y
  congr 2
  rw [Bool.eq_iff_iff]
  simp
theorem int_neq (x y : Int) : abin Try.prog .neq 3 (.int .i64 x) (.int .i64 y) = some (.bool (decide (x ≠ y))) := by
  have h : abin Try.prog .neq 3 (.int .i64 x) (.int .i64 y) = some (.bool (!(x == y))) := rfl
  rw [h]
  congr 2
  rw [Bool.eq_iff_iff]
  simp
theorem arr_eql (a b c d a' b' c' d' : Int) : abin Try.prog .eql 71 (.agg #[.int .i64 a, .int .i64 b, .int .i64 c, .int .i64 d]) (.agg #[.int .i64 a', .int .i64 b', .int .i64 c', .int .i64 d']) = some (.bool (decide (a = a' ∧ b = b' ∧ c = c' ∧ d = d'))) := by
  have h : abin Try.prog .eql 71 (.agg #[.int .i64 a, .int .i64 b, .int .i64 c, .int .i64 d]) (.agg #[.int .i64 a', .int .i64 b', .int .i64 c', .int .i64 d']) = some (.bool (a == a' && (b == b' && (c == c' && (d == d' && true))))) := by kernel_rfl
  rw [h]
  congr 2
  rw [Bool.eq_iff_iff]
  simp
theorem eqV_ax {H : Heap} {u v : Value} {L M : List (V)} (hu : RL 3 valR H u L) (hv : RL 3 valR H v M) (hL : L.length < 4294967296) :
    AX Try.prog 50 #[u, v] H (fun r H' => r = .bool (decide (L = M)) ∧ H' = H) := by
  refine AX.body (n := 26) (rs := [.tmp 4]) Try.func50 rfl (by decide) rfl rfl (bC_sound _ _ _ _ ?_)
  have l1 : alen Try.prog 26 u H = some (.int .i64 L.length) := hu.len rfl _
  have l2 : alen Try.prog 26 v H = some (.int .i64 M.length) := hv.len rfl _
  by_cases hlen : L.length = M.length
  rotate_left
  · have e1 : ((L.length : Int) != (M.length : Int)) = true := by rw [bne_iff_ne]; omega
    refine run ?_
    exact ⟨congrArg Value.bool (decide_eq_false fun h => hlen (congrArg _ h)).symm, rfl⟩
  have e1 : ((L.length : Int) != (M.length : Int)) = false := by rw [hlen, bne_self_eq_false]
  refine run ?_
  refine SW.loop (α := Nat) (fun m => [(0, u), (1, v), (12, .int .i64 L.length), (13, .int .i64 (m : Int))]) (fun m H' => m ≤ L.length ∧ L.take m = M.take m ∧ H' = H) (fun m => L.length - m) ⟨0, ⟨rfl, rfl, rfl, rfl, trivial⟩, by omega, rfl, rfl⟩ ?_
  rintro m X ⟨hm, ht, e⟩
  subst X
  refine bC_sound _ _ _ _ ?_
  by_cases hml : m < L.length
  · have d1 : decide ((m : Int) < (L.length : Int)) = true := decide_eq_true (by omega)
    obtain ⟨x, hx⟩ := get_lt hml
    obtain ⟨y, hy⟩ := get_lt (L := M) (m := m) (by omega)
    obtain ⟨p, i1, i2⟩ := ldx_val hu hx
    obtain ⟨q, j1, j2⟩ := ldx_val hv hy
    have i3 := i2 H (.refl _)
    have j3 := j2 H (.refl _)
    have ne := val_neq x y
    by_cases hxy : x = y
    · have d2 : decide (x ≠ y) = false := decide_eq_false fun h => h hxy
      rw [d2] at ne
      refine run ?_
      apply SW.drawG [(0, [], [17, 20, 21, 22, 23], false), (1, [], [16, 20, 21, 22, 23], false), (2, [(16, 0), (17, 1)], [16, 17, 20, 21, 22, 23], false), (3, [(16, 0), (17, 1), (18, 2)], [16, 17, 18, 20, 21, 22, 23], false), (4, [], [16, 17, 18, 19, 21], false), (5, [], [16, 17, 18, 19, 20], false), (6, [(20, 4), (21, 5)], [16, 17, 18, 19, 20, 21], false), (7, [(20, 4), (21, 5), (22, 6)], [16, 17, 18, 19, 20, 21, 22], false), (8, [(16, 0), (17, 1), (18, 2), (19, 3), (20, 4), (21, 5), (22, 6), (23, 7)], [16, 17, 18, 19, 20, 21, 22, 23], false)]
        [(16, 0), (17, 1), (18, 2), (19, 3), (20, 4), (21, 5), (22, 6), (23, 7), (24, 8)]
        [(0, _), (1, _), (5, _), (12, _), (13, _)] rfl (by kernel_rfl)
      case hF => exact ⟨rfl, rfl, rfl, rfl, rfl, trivial⟩
      refine run ?_
      subst hxy
      exact ⟨m + 1, ⟨rfl, rfl, rfl, congrArg (fun z => some (Value.int .i64 z)) (w_succ (by omega)), trivial⟩, ⟨hml, take_next ht hx hy, rfl⟩, by show L.length - (m + 1) < L.length - m; omega⟩
    · have d2 : decide (x ≠ y) = true := decide_eq_true hxy
      rw [d2] at ne
      refine run ?_
      apply SW.drawG [(0, [], [17, 20, 21, 22, 23], false), (1, [], [16, 20, 21, 22, 23], false), (2, [(16, 0), (17, 1)], [16, 17, 20, 21, 22, 23], false), (3, [(16, 0), (17, 1), (18, 2)], [16, 17, 18, 20, 21, 22, 23], false), (4, [], [16, 17, 18, 19, 21], false), (5, [], [16, 17, 18, 19, 20], false), (6, [(20, 4), (21, 5)], [16, 17, 18, 19, 20, 21], false), (7, [(20, 4), (21, 5), (22, 6)], [16, 17, 18, 19, 20, 21, 22], false), (8, [(16, 0), (17, 1), (18, 2), (19, 3), (20, 4), (21, 5), (22, 6), (23, 7)], [16, 17, 18, 19, 20, 21, 22, 23], false)]
        [(16, 0), (17, 1), (18, 2), (19, 3), (20, 4), (21, 5), (22, 6), (23, 7), (24, 8)]
        [(0, _), (1, _), (5, _), (12, _), (13, _)] rfl (by kernel_rfl)
      case hF => exact ⟨rfl, rfl, rfl, rfl, rfl, trivial⟩
      refine run ?_
      refine ⟨congrArg Value.bool (decide_eq_false fun h => ?_).symm, rfl⟩
      subst h
      rw [hx] at hy
      exact hxy (Option.some.inj hy)
  · have d1 : decide ((m : Int) < (L.length : Int)) = false := decide_eq_false (by omega)
    have hLM : L = M := by rwa [List.take_of_length_le (by omega), List.take_of_length_le (by omega)] at ht
    rw [decide_eq_true hLM]
    refine run ?_
    exact ⟨rfl, rfl⟩
theorem eqD_ax {H : Heap} {u v : Value} {L M : List (Int × Int)} (hu : RL 2 depR H u L) (hv : RL 2 depR H v M) (hL : L.length < 4294967296) :
    AX Try.prog 53 #[u, v] H (fun r H' => r = .bool (decide (L = M)) ∧ H' = H) := by
  refine AX.body (n := 26) (rs := [.tmp 4]) Try.func53 rfl (by decide) rfl rfl (bC_sound _ _ _ _ ?_)
  have l1 : alen Try.prog 28 u H = some (.int .i64 L.length) := hu.len rfl _
  have l2 : alen Try.prog 28 v H = some (.int .i64 M.length) := hv.len rfl _
  by_cases hlen : L.length = M.length
  rotate_left
  · have e1 : ((L.length : Int) != (M.length : Int)) = true := by rw [bne_iff_ne]; omega
    refine run ?_
    exact ⟨congrArg Value.bool (decide_eq_false fun h => hlen (congrArg _ h)).symm, rfl⟩
  have e1 : ((L.length : Int) != (M.length : Int)) = false := by rw [hlen, bne_self_eq_false]
  refine run ?_
  refine SW.loop (α := Nat) (fun m => [(0, u), (1, v), (12, .int .i64 L.length), (13, .int .i64 (m : Int))]) (fun m H' => m ≤ L.length ∧ L.take m = M.take m ∧ H' = H) (fun m => L.length - m) ⟨0, ⟨rfl, rfl, rfl, rfl, trivial⟩, by omega, rfl, rfl⟩ ?_
  rintro m X ⟨hm, ht, e⟩
  subst X
  refine bC_sound _ _ _ _ ?_
  by_cases hml : m < L.length
  · have d1 : decide ((m : Int) < (L.length : Int)) = true := decide_eq_true (by omega)
    obtain ⟨x, hx⟩ := get_lt hml
    obtain ⟨y, hy⟩ := get_lt (L := M) (m := m) (by omega)
    obtain ⟨p, i1, i2⟩ := ldx_dep hu hx
    obtain ⟨q, j1, j2⟩ := ldx_dep hv hy
    have i3 := (i2 H (.refl _)).1
    have j3 := (j2 H (.refl _)).1
    have ne := dep_neq x y
    by_cases hxy : x = y
    · have d2 : decide (x ≠ y) = false := decide_eq_false fun h => h hxy
      rw [d2] at ne
      refine run ?_
      apply SW.drawG [(0, [], [17, 20, 21, 22, 23], false), (1, [], [16, 20, 21, 22, 23], false), (2, [(16, 0), (17, 1)], [16, 17, 20, 21, 22, 23], false), (3, [(16, 0), (17, 1), (18, 2)], [16, 17, 18, 20, 21, 22, 23], false), (4, [], [16, 17, 18, 19, 21], false), (5, [], [16, 17, 18, 19, 20], false), (6, [(20, 4), (21, 5)], [16, 17, 18, 19, 20, 21], false), (7, [(20, 4), (21, 5), (22, 6)], [16, 17, 18, 19, 20, 21, 22], false), (8, [(16, 0), (17, 1), (18, 2), (19, 3), (20, 4), (21, 5), (22, 6), (23, 7)], [16, 17, 18, 19, 20, 21, 22, 23], false)]
        [(16, 0), (17, 1), (18, 2), (19, 3), (20, 4), (21, 5), (22, 6), (23, 7), (24, 8)]
        [(0, _), (1, _), (5, _), (12, _), (13, _)] rfl (by kernel_rfl)
      case hF => exact ⟨rfl, rfl, rfl, rfl, rfl, trivial⟩
      refine run ?_
      subst hxy
      exact ⟨m + 1, ⟨rfl, rfl, rfl, congrArg (fun z => some (Value.int .i64 z)) (w_succ (by omega)), trivial⟩, ⟨hml, take_next ht hx hy, rfl⟩, by show L.length - (m + 1) < L.length - m; omega⟩
    · have d2 : decide (x ≠ y) = true := decide_eq_true hxy
      rw [d2] at ne
      refine run ?_
      apply SW.drawG [(0, [], [17, 20, 21, 22, 23], false), (1, [], [16, 20, 21, 22, 23], false), (2, [(16, 0), (17, 1)], [16, 17, 20, 21, 22, 23], false), (3, [(16, 0), (17, 1), (18, 2)], [16, 17, 18, 20, 21, 22, 23], false), (4, [], [16, 17, 18, 19, 21], false), (5, [], [16, 17, 18, 19, 20], false), (6, [(20, 4), (21, 5)], [16, 17, 18, 19, 20, 21], false), (7, [(20, 4), (21, 5), (22, 6)], [16, 17, 18, 19, 20, 21, 22], false), (8, [(16, 0), (17, 1), (18, 2), (19, 3), (20, 4), (21, 5), (22, 6), (23, 7)], [16, 17, 18, 19, 20, 21, 22, 23], false)]
        [(16, 0), (17, 1), (18, 2), (19, 3), (20, 4), (21, 5), (22, 6), (23, 7), (24, 8)]
        [(0, _), (1, _), (5, _), (12, _), (13, _)] rfl (by kernel_rfl)
      case hF => exact ⟨rfl, rfl, rfl, rfl, rfl, trivial⟩
      refine run ?_
      refine ⟨congrArg Value.bool (decide_eq_false fun h => ?_).symm, rfl⟩
      subst h
      rw [hx] at hy
      exact hxy (Option.some.inj hy)
  · have d1 : decide ((m : Int) < (L.length : Int)) = false := decide_eq_false (by omega)
    have hLM : L = M := by rwa [List.take_of_length_le (by omega), List.take_of_length_le (by omega)] at ht
    rw [decide_eq_true hLM]
    refine run ?_
    exact ⟨rfl, rfl⟩
theorem eqN_ax {H : Heap} {u v : Value} {L M : List (Int)} (hu : RL 1 intR H u L) (hv : RL 1 intR H v M) (hL : L.length < 4294967296) :
    AX Try.prog 77 #[u, v] H (fun r H' => r = .bool (decide (L = M)) ∧ H' = H) := by
  refine AX.body (n := 26) (rs := [.tmp 4]) Try.func77 rfl (by decide) rfl rfl (bC_sound _ _ _ _ ?_)
  have l1 : alen Try.prog 38 u H = some (.int .i64 L.length) := hu.len rfl _
  have l2 : alen Try.prog 38 v H = some (.int .i64 M.length) := hv.len rfl _
  by_cases hlen : L.length = M.length
  rotate_left
  · have e1 : ((L.length : Int) != (M.length : Int)) = true := by rw [bne_iff_ne]; omega
    refine run ?_
    exact ⟨congrArg Value.bool (decide_eq_false fun h => hlen (congrArg _ h)).symm, rfl⟩
  have e1 : ((L.length : Int) != (M.length : Int)) = false := by rw [hlen, bne_self_eq_false]
  refine run ?_
  refine SW.loop (α := Nat) (fun m => [(0, u), (1, v), (12, .int .i64 L.length), (13, .int .i64 (m : Int))]) (fun m H' => m ≤ L.length ∧ L.take m = M.take m ∧ H' = H) (fun m => L.length - m) ⟨0, ⟨rfl, rfl, rfl, rfl, trivial⟩, by omega, rfl, rfl⟩ ?_
  rintro m X ⟨hm, ht, e⟩
  subst X
  refine bC_sound _ _ _ _ ?_
  by_cases hml : m < L.length
  · have d1 : decide ((m : Int) < (L.length : Int)) = true := decide_eq_true (by omega)
    obtain ⟨x, hx⟩ := get_lt hml
    obtain ⟨y, hy⟩ := get_lt (L := M) (m := m) (by omega)
    obtain ⟨p, i1, i2⟩ := ld_intS hu hx
    obtain ⟨q, j1, j2⟩ := ld_intS hv hy
    have i3 := i2
    have j3 := j2
    have ne := int_neq x y
    by_cases hxy : x = y
    · have d2 : decide (x ≠ y) = false := decide_eq_false fun h => h hxy
      rw [d2] at ne
      refine run ?_
      apply SW.drawG [(0, [], [17, 20, 21, 22, 23], false), (1, [], [16, 20, 21, 22, 23], false), (2, [(16, 0), (17, 1)], [16, 17, 20, 21, 22, 23], false), (3, [(16, 0), (17, 1), (18, 2)], [16, 17, 18, 20, 21, 22, 23], false), (4, [], [16, 17, 18, 19, 21], false), (5, [], [16, 17, 18, 19, 20], false), (6, [(20, 4), (21, 5)], [16, 17, 18, 19, 20, 21], false), (7, [(20, 4), (21, 5), (22, 6)], [16, 17, 18, 19, 20, 21, 22], false), (8, [(16, 0), (17, 1), (18, 2), (19, 3), (20, 4), (21, 5), (22, 6), (23, 7)], [16, 17, 18, 19, 20, 21, 22, 23], false)]
        [(16, 0), (17, 1), (18, 2), (19, 3), (20, 4), (21, 5), (22, 6), (23, 7), (24, 8)]
        [(0, _), (1, _), (5, _), (12, _), (13, _)] rfl (by kernel_rfl)
      case hF => exact ⟨rfl, rfl, rfl, rfl, rfl, trivial⟩
      refine run ?_
      subst hxy
      exact ⟨m + 1, ⟨rfl, rfl, rfl, congrArg (fun z => some (Value.int .i64 z)) (w_succ (by omega)), trivial⟩, ⟨hml, take_next ht hx hy, rfl⟩, by show L.length - (m + 1) < L.length - m; omega⟩
    · have d2 : decide (x ≠ y) = true := decide_eq_true hxy
      rw [d2] at ne
      refine run ?_
      apply SW.drawG [(0, [], [17, 20, 21, 22, 23], false), (1, [], [16, 20, 21, 22, 23], false), (2, [(16, 0), (17, 1)], [16, 17, 20, 21, 22, 23], false), (3, [(16, 0), (17, 1), (18, 2)], [16, 17, 18, 20, 21, 22, 23], false), (4, [], [16, 17, 18, 19, 21], false), (5, [], [16, 17, 18, 19, 20], false), (6, [(20, 4), (21, 5)], [16, 17, 18, 19, 20, 21], false), (7, [(20, 4), (21, 5), (22, 6)], [16, 17, 18, 19, 20, 21, 22], false), (8, [(16, 0), (17, 1), (18, 2), (19, 3), (20, 4), (21, 5), (22, 6), (23, 7)], [16, 17, 18, 19, 20, 21, 22, 23], false)]
        [(16, 0), (17, 1), (18, 2), (19, 3), (20, 4), (21, 5), (22, 6), (23, 7), (24, 8)]
        [(0, _), (1, _), (5, _), (12, _), (13, _)] rfl (by kernel_rfl)
      case hF => exact ⟨rfl, rfl, rfl, rfl, rfl, trivial⟩
      refine run ?_
      refine ⟨congrArg Value.bool (decide_eq_false fun h => ?_).symm, rfl⟩
      subst h
      rw [hx] at hy
      exact hxy (Option.some.inj hy)
  · have d1 : decide ((m : Int) < (L.length : Int)) = false := decide_eq_false (by omega)
    have hLM : L = M := by rwa [List.take_of_length_le (by omega), List.take_of_length_le (by omega)] at ht
    rw [decide_eq_true hLM]
    refine run ?_
    exact ⟨rfl, rfl⟩
theorem eqC_ax {H : Heap} {u v : Value} {L M : List (CaseT)} (hu : RL 3 caseR H u L) (hv : RL 3 caseR H v M) (hL : L.length < 4294967296) :
    AX Try.prog 78 #[u, v] H (fun r H' => r = .bool (decide (L = M)) ∧ H' = H) := by
  refine AX.body (n := 26) (rs := [.tmp 4]) Try.func78 rfl (by decide) rfl rfl (bC_sound _ _ _ _ ?_)
  have l1 : alen Try.prog 40 u H = some (.int .i64 L.length) := hu.len rfl _
  have l2 : alen Try.prog 40 v H = some (.int .i64 M.length) := hv.len rfl _
  by_cases hlen : L.length = M.length
  rotate_left
  · have e1 : ((L.length : Int) != (M.length : Int)) = true := by rw [bne_iff_ne]; omega
    refine run ?_
    exact ⟨congrArg Value.bool (decide_eq_false fun h => hlen (congrArg _ h)).symm, rfl⟩
  have e1 : ((L.length : Int) != (M.length : Int)) = false := by rw [hlen, bne_self_eq_false]
  refine run ?_
  refine SW.loop (α := Nat) (fun m => [(0, u), (1, v), (12, .int .i64 L.length), (13, .int .i64 (m : Int))]) (fun m H' => m ≤ L.length ∧ L.take m = M.take m ∧ H' = H) (fun m => L.length - m) ⟨0, ⟨rfl, rfl, rfl, rfl, trivial⟩, by omega, rfl, rfl⟩ ?_
  rintro m X ⟨hm, ht, e⟩
  subst X
  refine bC_sound _ _ _ _ ?_
  by_cases hml : m < L.length
  · have d1 : decide ((m : Int) < (L.length : Int)) = true := decide_eq_true (by omega)
    obtain ⟨x, hx⟩ := get_lt hml
    obtain ⟨y, hy⟩ := get_lt (L := M) (m := m) (by omega)
    obtain ⟨p, i1, i2⟩ := ldx_case hu hx
    obtain ⟨q, j1, j2⟩ := ldx_case hv hy
    have i3 := (i2 H (.refl _)).1
    have j3 := (j2 H (.refl _)).1
    have ne := case_neq x y
    by_cases hxy : x = y
    · have d2 : decide (x ≠ y) = false := decide_eq_false fun h => h hxy
      rw [d2] at ne
      refine run ?_
      apply SW.drawG [(0, [], [17, 20, 21, 22, 23], false), (1, [], [16, 20, 21, 22, 23], false), (2, [(16, 0), (17, 1)], [16, 17, 20, 21, 22, 23], false), (3, [(16, 0), (17, 1), (18, 2)], [16, 17, 18, 20, 21, 22, 23], false), (4, [], [16, 17, 18, 19, 21], false), (5, [], [16, 17, 18, 19, 20], false), (6, [(20, 4), (21, 5)], [16, 17, 18, 19, 20, 21], false), (7, [(20, 4), (21, 5), (22, 6)], [16, 17, 18, 19, 20, 21, 22], false), (8, [(16, 0), (17, 1), (18, 2), (19, 3), (20, 4), (21, 5), (22, 6), (23, 7)], [16, 17, 18, 19, 20, 21, 22, 23], false)]
        [(16, 0), (17, 1), (18, 2), (19, 3), (20, 4), (21, 5), (22, 6), (23, 7), (24, 8)]
        [(0, _), (1, _), (5, _), (12, _), (13, _)] rfl (by kernel_rfl)
      case hF => exact ⟨rfl, rfl, rfl, rfl, rfl, trivial⟩
      refine run ?_
      subst hxy
      exact ⟨m + 1, ⟨rfl, rfl, rfl, congrArg (fun z => some (Value.int .i64 z)) (w_succ (by omega)), trivial⟩, ⟨hml, take_next ht hx hy, rfl⟩, by show L.length - (m + 1) < L.length - m; omega⟩
    · have d2 : decide (x ≠ y) = true := decide_eq_true hxy
      rw [d2] at ne
      refine run ?_
      apply SW.drawG [(0, [], [17, 20, 21, 22, 23], false), (1, [], [16, 20, 21, 22, 23], false), (2, [(16, 0), (17, 1)], [16, 17, 20, 21, 22, 23], false), (3, [(16, 0), (17, 1), (18, 2)], [16, 17, 18, 20, 21, 22, 23], false), (4, [], [16, 17, 18, 19, 21], false), (5, [], [16, 17, 18, 19, 20], false), (6, [(20, 4), (21, 5)], [16, 17, 18, 19, 20, 21], false), (7, [(20, 4), (21, 5), (22, 6)], [16, 17, 18, 19, 20, 21, 22], false), (8, [(16, 0), (17, 1), (18, 2), (19, 3), (20, 4), (21, 5), (22, 6), (23, 7)], [16, 17, 18, 19, 20, 21, 22, 23], false)]
        [(16, 0), (17, 1), (18, 2), (19, 3), (20, 4), (21, 5), (22, 6), (23, 7), (24, 8)]
        [(0, _), (1, _), (5, _), (12, _), (13, _)] rfl (by kernel_rfl)
      case hF => exact ⟨rfl, rfl, rfl, rfl, rfl, trivial⟩
      refine run ?_
      refine ⟨congrArg Value.bool (decide_eq_false fun h => ?_).symm, rfl⟩
      subst h
      rw [hx] at hy
      exact hxy (Option.some.inj hy)
  · have d1 : decide ((m : Int) < (L.length : Int)) = false := decide_eq_false (by omega)
    have hLM : L = M := by rwa [List.take_of_length_le (by omega), List.take_of_length_le (by omega)] at ht
    rw [decide_eq_true hLM]
    refine run ?_
    exact ⟨rfl, rfl⟩
theorem partsI_ax {H : Heap} (o : OpX) (rv cv mv : Value) : AX Try.prog 37 #[opV o rv cv mv] H (fun r H' => r = .agg #[.int .i64 o.a, .int .i64 o.b, .int .i64 o.c, .int .i64 o.d] ∧ H' = H) := by
  refine AX.quiet ?_
  suffices hh : AX Try.prog 37 #[opV o rv cv mv] H (fun r H' => r = .agg #[.int .i64 o.a, .int .i64 o.b, .int .i64 o.c, .int .i64 o.d] ∧ Grow H H') from hh.mono fun v _ ⟨e, g⟩ => ⟨e ▸ plain_agg (vs := [_, _, _, _]) (fun x hx => by simp only [List.mem_cons, List.not_mem_nil, or_false] at hx; rcases hx with rfl | rfl | rfl | rfl <;> exact plain_int _ _), e, g⟩
  refine AX.body (n := 12) (rs := [.cell 2 71]) Try.func37 rfl (by decide) rfl rfl (bC_sound _ _ _ _ ?_)
  (conv => whnf)
  refine Ob2.box rfl fun q1 H1 hq1 a1 g1 => ?_
  have b1 := hblk_of a1
  refine run ?_
  refine Ob2.alloc rfl fun q2 H2 hq2 a2 g2 => ?_
  have b1' := g2.hblk b1
  refine run ?_
  refine Ob.store rfl rfl rfl a2 rfl (by first | exact Nat.le_of_ble_eq_true rfl | simp) fun H3 s1 s2 s3 => ?_
  have b3 := hblk_of s1
  refine run ?_
  exact ⟨rfl, g1.trans (g2.but_new s2 (Nat.le_of_eq hq2.symm))⟩
theorem op_eqX {o o' : OpX} : o = o' ↔ o.kind = o'.kind ∧ (o.a = o'.a ∧ o.b = o'.b ∧ o.c = o'.c ∧ o.d = o'.d) ∧ o.pc = o'.pc ∧ o.regs = o'.regs ∧ o.cases = o'.cases ∧ o.map = o'.map := by
  obtain ⟨k, a, b, c, d, r, cs, p, m⟩ := o
  obtain ⟨k', a', b', c', d', r', cs', p', m'⟩ := o'
  simp only [Prod.mk.injEq]
  constructor
  · rintro ⟨h1, h2, h3, h4, h5, h6, h7, h8, h9⟩; exact ⟨h1, ⟨h2, h3, h4, h5⟩, h8, h6, h7, h9⟩
  · rintro ⟨h1, ⟨h2, h3, h4, h5⟩, h8, h6, h7, h9⟩; exact ⟨h1, h2, h3, h4, h5, h6, h7, h8, h9⟩
theorem sameOp_ax {H : Heap} {o o' : OpX} {rv cv mv rv' cv' mv' : Value} (hr : RL 1 intR H rv o.regs) (hc : RL 3 caseR H cv o.cases) (hm : RL 1 intR H mv o.map) (hr' : RL 1 intR H rv' o'.regs) (hc' : RL 3 caseR H cv' o'.cases) (hm' : RL 1 intR H mv' o'.map)
    (hl : o.regs.length < 4294967296 ∧ o.cases.length < 4294967296 ∧ o.map.length < 4294967296) :
    AX Try.prog 52 #[opV o rv cv mv, opV o' rv' cv' mv'] H (fun r H' => (∃ t, r = .bool t ∧ (t = true ↔ o = o')) ∧ H' = H) := by
  refine AX.quiet ?_
  suffices hh : AX Try.prog 52 #[opV o rv cv mv, opV o' rv' cv' mv'] H (fun r H' => (∃ t, r = .bool t ∧ (t = true ↔ o = o')) ∧ Grow H H') from hh.mono fun v _ ⟨⟨b, e, k⟩, g⟩ => ⟨e ▸ plain_bool _, ⟨b, e, k⟩, g⟩
  rw [op_eqX]
  refine AX.body (n := 45) (rs := [.tmp 4]) Try.func52 rfl (by decide) rfl rfl (bC_sound _ _ _ _ ?_)
  (conv => whnf)
  refine Ob2.box rfl fun q1 H1 hq1 a1 g1 => ?_
  (conv => whnf)
  refine Ob2.box rfl fun q2 H2 hq2 a2 g2 => ?_
  have b1 := hblk_of (g2.at a1)
  have b2 := hblk_of a2
  have g := g1.trans g2
  replace hr := intR.grow hr g
  replace hc := caseR.grow hc g
  replace hm := intR.grow hm g
  replace hr' := intR.grow hr' g
  replace hc' := caseR.grow hc' g
  replace hm' := intR.grow hm' g
  have ar := arr_eql o.a o.b o.c o.d o'.a o'.b o'.c o'.d
  have bad : ∀ {P : Prop}, ¬ P → ((false : Bool) = true ↔ P) := fun h => ⟨fun e => by simp at e, fun e => absurd e h⟩
  by_cases k1 : o.kind = o'.kind
  rotate_left
  · have e1 : (o.kind == o'.kind) = false := beq_eq_false_iff_ne.2 k1
    refine run ?_
    apply SW.drawG [(0, [], [7, 8], false), (1, [(5, 0)], [5, 7, 8], false), (2, [], [5, 6], false), (3, [(7, 2)], [5, 6, 7], false), (4, [(5, 0), (6, 1), (7, 2), (8, 3)], [5, 6, 7, 8], false), (5, [(5, 0), (6, 1), (7, 2), (8, 3), (9, 4)], [5, 6, 7, 8, 9], false), (6, [(5, 0), (6, 1), (7, 2), (8, 3), (9, 4), (10, 5)], [5, 6, 7, 8, 9, 10, 13], false), (8, [(5, 0), (6, 1), (7, 2), (8, 3), (9, 4), (10, 5)], [5, 6, 7, 8, 9, 10, 11, 12], false), (7, [(5, 0), (6, 1), (7, 2), (8, 3), (9, 4), (10, 5), (11, 6)], [5, 6, 7, 8, 9, 10, 11, 13], true), (9, [(5, 0), (6, 1), (7, 2), (8, 3), (9, 4), (10, 5), (11, 6), (12, 7), (13, 8)], [5, 6, 7, 8, 9, 10, 11, 12, 13], true), (10, [(5, 0), (6, 1), (7, 2), (8, 3), (9, 4), (10, 5), (11, 6), (12, 7), (13, 8), (14, 9)], [5, 6, 7, 8, 9, 10, 11, 12, 13, 14], false), (11, [(5, 0), (6, 1), (7, 2), (8, 3), (9, 4), (10, 5), (11, 6), (12, 7), (13, 8), (14, 9), (15, 10)], [5, 6, 7, 8, 9, 10, 11, 12, 13, 14, 15], false), (12, [(5, 0), (6, 1), (7, 2), (8, 3), (9, 4), (10, 5), (11, 6), (12, 7), (13, 8), (14, 9), (15, 10), (16, 11)], [5, 6, 7, 8, 9, 10, 11, 12, 13, 14, 15, 16], false), (13, [(5, 0), (6, 1), (7, 2), (8, 3), (9, 4), (10, 5), (11, 6), (12, 7), (13, 8), (14, 9), (15, 10), (16, 11), (17, 12)], [5, 6, 7, 8, 9, 10, 11, 12, 13, 14, 15, 16, 17, 20, 21], false), (14, [(5, 0), (6, 1), (7, 2), (8, 3), (9, 4), (10, 5), (11, 6), (12, 7), (13, 8), (14, 9), (15, 10), (16, 11), (17, 12), (18, 13)], [5, 6, 7, 8, 9, 10, 11, 12, 13, 14, 15, 16, 17, 18, 20, 21], false), (15, [(5, 0), (6, 1), (7, 2), (8, 3), (9, 4), (10, 5), (11, 6), (12, 7), (13, 8), (14, 9), (15, 10), (16, 11), (17, 12)], [5, 6, 7, 8, 9, 10, 11, 12, 13, 14, 15, 16, 17, 18, 19], false), (16, [(5, 0), (6, 1), (7, 2), (8, 3), (9, 4), (10, 5), (11, 6), (12, 7), (13, 8), (14, 9), (15, 10), (16, 11), (17, 12), (20, 15)], [5, 6, 7, 8, 9, 10, 11, 12, 13, 14, 15, 16, 17, 18, 19, 20], false), (17, [(5, 0), (6, 1), (7, 2), (8, 3), (9, 4), (10, 5), (11, 6), (12, 7), (13, 8), (14, 9), (15, 10), (16, 11), (17, 12), (18, 13), (19, 14), (20, 15), (21, 16)], [5, 6, 7, 8, 9, 10, 11, 12, 13, 14, 15, 16, 17, 18, 19, 20, 21], false), (18, [(5, 0), (6, 1), (7, 2), (8, 3), (9, 4), (10, 5), (11, 6), (12, 7), (13, 8), (14, 9), (15, 10), (16, 11), (17, 12), (18, 13), (19, 14), (20, 15), (21, 16), (22, 17)], [5, 6, 7, 8, 9, 10, 11, 12, 13, 14, 15, 16, 17, 18, 19, 20, 21, 22], false), (19, [(5, 0), (6, 1), (7, 2), (8, 3), (9, 4), (10, 5), (11, 6), (12, 7), (13, 8), (14, 9), (15, 10), (16, 11), (17, 12), (18, 13), (19, 14), (20, 15), (21, 16), (22, 17), (23, 18)], [5, 6, 7, 8, 9, 10, 11, 12, 13, 14, 15, 16, 17, 18, 19, 20, 21, 22, 23], false), (20, [(5, 0), (6, 1), (7, 2), (8, 3), (9, 4), (10, 5), (11, 6), (12, 7), (13, 8), (14, 9), (15, 10), (16, 11), (17, 12), (18, 13), (19, 14), (20, 15), (21, 16), (22, 17), (23, 18), (24, 19)], [5, 6, 7, 8, 9, 10, 11, 12, 13, 14, 15, 16, 17, 18, 19, 20, 21, 22, 23, 24, 27, 28], false), (21, [(5, 0), (6, 1), (7, 2), (8, 3), (9, 4), (10, 5), (11, 6), (12, 7), (13, 8), (14, 9), (15, 10), (16, 11), (17, 12), (18, 13), (19, 14), (20, 15), (21, 16), (22, 17), (23, 18), (24, 19), (25, 20)], [5, 6, 7, 8, 9, 10, 11, 12, 13, 14, 15, 16, 17, 18, 19, 20, 21, 22, 23, 24, 25, 27, 28], false), (22, [(5, 0), (6, 1), (7, 2), (8, 3), (9, 4), (10, 5), (11, 6), (12, 7), (13, 8), (14, 9), (15, 10), (16, 11), (17, 12), (18, 13), (19, 14), (20, 15), (21, 16), (22, 17), (23, 18), (24, 19)], [5, 6, 7, 8, 9, 10, 11, 12, 13, 14, 15, 16, 17, 18, 19, 20, 21, 22, 23, 24, 25, 26], false), (23, [(5, 0), (6, 1), (7, 2), (8, 3), (9, 4), (10, 5), (11, 6), (12, 7), (13, 8), (14, 9), (15, 10), (16, 11), (17, 12), (18, 13), (19, 14), (20, 15), (21, 16), (22, 17), (23, 18), (24, 19), (27, 22)], [5, 6, 7, 8, 9, 10, 11, 12, 13, 14, 15, 16, 17, 18, 19, 20, 21, 22, 23, 24, 25, 26, 27], false), (24, [(5, 0), (6, 1), (7, 2), (8, 3), (9, 4), (10, 5), (11, 6), (12, 7), (13, 8), (14, 9), (15, 10), (16, 11), (17, 12), (18, 13), (19, 14), (20, 15), (21, 16), (22, 17), (23, 18), (24, 19), (25, 20), (26, 21), (27, 22), (28, 23)], [5, 6, 7, 8, 9, 10, 11, 12, 13, 14, 15, 16, 17, 18, 19, 20, 21, 22, 23, 24, 25, 26, 27, 28], true), (25, [(5, 0), (6, 1), (7, 2), (8, 3), (9, 4), (10, 5), (11, 6), (12, 7), (13, 8), (14, 9), (15, 10), (16, 11), (17, 12), (18, 13), (19, 14), (20, 15), (21, 16), (22, 17), (23, 18), (24, 19), (25, 20), (26, 21), (27, 22), (28, 23), (29, 24)], [5, 6, 7, 8, 9, 10, 11, 12, 13, 14, 15, 16, 17, 18, 19, 20, 21, 22, 23, 24, 25, 26, 27, 28, 29], false), (26, [(5, 0), (6, 1), (7, 2), (8, 3), (9, 4), (10, 5), (11, 6), (12, 7), (13, 8), (14, 9), (15, 10), (16, 11), (17, 12), (18, 13), (19, 14), (20, 15), (21, 16), (22, 17), (23, 18), (24, 19), (25, 20), (26, 21), (27, 22), (28, 23), (29, 24), (30, 25)], [5, 6, 7, 8, 9, 10, 11, 12, 13, 14, 15, 16, 17, 18, 19, 20, 21, 22, 23, 24, 25, 26, 27, 28, 29, 30], false), (27, [(5, 0), (6, 1), (7, 2), (8, 3), (9, 4), (10, 5), (11, 6), (12, 7), (13, 8), (14, 9), (15, 10), (16, 11), (17, 12), (18, 13), (19, 14), (20, 15), (21, 16), (22, 17), (23, 18), (24, 19), (25, 20), (26, 21), (27, 22), (28, 23), (29, 24), (30, 25), (31, 26)], [5, 6, 7, 8, 9, 10, 11, 12, 13, 14, 15, 16, 17, 18, 19, 20, 21, 22, 23, 24, 25, 26, 27, 28, 29, 30, 31, 34, 35], false), (28, [(5, 0), (6, 1), (7, 2), (8, 3), (9, 4), (10, 5), (11, 6), (12, 7), (13, 8), (14, 9), (15, 10), (16, 11), (17, 12), (18, 13), (19, 14), (20, 15), (21, 16), (22, 17), (23, 18), (24, 19), (25, 20), (26, 21), (27, 22), (28, 23), (29, 24), (30, 25), (31, 26), (32, 27)], [5, 6, 7, 8, 9, 10, 11, 12, 13, 14, 15, 16, 17, 18, 19, 20, 21, 22, 23, 24, 25, 26, 27, 28, 29, 30, 31, 32, 34, 35], false), (29, [(5, 0), (6, 1), (7, 2), (8, 3), (9, 4), (10, 5), (11, 6), (12, 7), (13, 8), (14, 9), (15, 10), (16, 11), (17, 12), (18, 13), (19, 14), (20, 15), (21, 16), (22, 17), (23, 18), (24, 19), (25, 20), (26, 21), (27, 22), (28, 23), (29, 24), (30, 25), (31, 26)], [5, 6, 7, 8, 9, 10, 11, 12, 13, 14, 15, 16, 17, 18, 19, 20, 21, 22, 23, 24, 25, 26, 27, 28, 29, 30, 31, 32, 33], false), (30, [(5, 0), (6, 1), (7, 2), (8, 3), (9, 4), (10, 5), (11, 6), (12, 7), (13, 8), (14, 9), (15, 10), (16, 11), (17, 12), (18, 13), (19, 14), (20, 15), (21, 16), (22, 17), (23, 18), (24, 19), (25, 20), (26, 21), (27, 22), (28, 23), (29, 24), (30, 25), (31, 26), (34, 29)], [5, 6, 7, 8, 9, 10, 11, 12, 13, 14, 15, 16, 17, 18, 19, 20, 21, 22, 23, 24, 25, 26, 27, 28, 29, 30, 31, 32, 33, 34], false), (31, [(5, 0), (6, 1), (7, 2), (8, 3), (9, 4), (10, 5), (11, 6), (12, 7), (13, 8), (14, 9), (15, 10), (16, 11), (17, 12), (18, 13), (19, 14), (20, 15), (21, 16), (22, 17), (23, 18), (24, 19), (25, 20), (26, 21), (27, 22), (28, 23), (29, 24), (30, 25), (31, 26), (32, 27), (33, 28), (34, 29), (35, 30)], [5, 6, 7, 8, 9, 10, 11, 12, 13, 14, 15, 16, 17, 18, 19, 20, 21, 22, 23, 24, 25, 26, 27, 28, 29, 30, 31, 32, 33, 34, 35], true), (32, [(5, 0), (6, 1), (7, 2), (8, 3), (9, 4), (10, 5), (11, 6), (12, 7), (13, 8), (14, 9), (15, 10), (16, 11), (17, 12), (18, 13), (19, 14), (20, 15), (21, 16), (22, 17), (23, 18), (24, 19), (25, 20), (26, 21), (27, 22), (28, 23), (29, 24), (30, 25), (31, 26), (32, 27), (33, 28), (34, 29), (35, 30), (36, 31)], [5, 6, 7, 8, 9, 10, 11, 12, 13, 14, 15, 16, 17, 18, 19, 20, 21, 22, 23, 24, 25, 26, 27, 28, 29, 30, 31, 32, 33, 34, 35, 36], false), (33, [(5, 0), (6, 1), (7, 2), (8, 3), (9, 4), (10, 5), (11, 6), (12, 7), (13, 8), (14, 9), (15, 10), (16, 11), (17, 12), (18, 13), (19, 14), (20, 15), (21, 16), (22, 17), (23, 18), (24, 19), (25, 20), (26, 21), (27, 22), (28, 23), (29, 24), (30, 25), (31, 26), (32, 27), (33, 28), (34, 29), (35, 30), (36, 31), (37, 32)], [5, 6, 7, 8, 9, 10, 11, 12, 13, 14, 15, 16, 17, 18, 19, 20, 21, 22, 23, 24, 25, 26, 27, 28, 29, 30, 31, 32, 33, 34, 35, 36, 37], false), (34, [(5, 0), (6, 1), (7, 2), (8, 3), (9, 4), (10, 5), (11, 6), (12, 7), (13, 8), (14, 9), (15, 10), (16, 11), (17, 12), (18, 13), (19, 14), (20, 15), (21, 16), (22, 17), (23, 18), (24, 19), (25, 20), (26, 21), (27, 22), (28, 23), (29, 24), (30, 25), (31, 26), (32, 27), (33, 28), (34, 29), (35, 30), (36, 31), (37, 32), (38, 33)], [5, 6, 7, 8, 9, 10, 11, 12, 13, 14, 15, 16, 17, 18, 19, 20, 21, 22, 23, 24, 25, 26, 27, 28, 29, 30, 31, 32, 33, 34, 35, 36, 37, 38, 41, 42], false), (35, [(5, 0), (6, 1), (7, 2), (8, 3), (9, 4), (10, 5), (11, 6), (12, 7), (13, 8), (14, 9), (15, 10), (16, 11), (17, 12), (18, 13), (19, 14), (20, 15), (21, 16), (22, 17), (23, 18), (24, 19), (25, 20), (26, 21), (27, 22), (28, 23), (29, 24), (30, 25), (31, 26), (32, 27), (33, 28), (34, 29), (35, 30), (36, 31), (37, 32), (38, 33), (39, 34)], [5, 6, 7, 8, 9, 10, 11, 12, 13, 14, 15, 16, 17, 18, 19, 20, 21, 22, 23, 24, 25, 26, 27, 28, 29, 30, 31, 32, 33, 34, 35, 36, 37, 38, 39, 41, 42], false), (36, [(5, 0), (6, 1), (7, 2), (8, 3), (9, 4), (10, 5), (11, 6), (12, 7), (13, 8), (14, 9), (15, 10), (16, 11), (17, 12), (18, 13), (19, 14), (20, 15), (21, 16), (22, 17), (23, 18), (24, 19), (25, 20), (26, 21), (27, 22), (28, 23), (29, 24), (30, 25), (31, 26), (32, 27), (33, 28), (34, 29), (35, 30), (36, 31), (37, 32), (38, 33)], [5, 6, 7, 8, 9, 10, 11, 12, 13, 14, 15, 16, 17, 18, 19, 20, 21, 22, 23, 24, 25, 26, 27, 28, 29, 30, 31, 32, 33, 34, 35, 36, 37, 38, 39, 40], false), (37, [(5, 0), (6, 1), (7, 2), (8, 3), (9, 4), (10, 5), (11, 6), (12, 7), (13, 8), (14, 9), (15, 10), (16, 11), (17, 12), (18, 13), (19, 14), (20, 15), (21, 16), (22, 17), (23, 18), (24, 19), (25, 20), (26, 21), (27, 22), (28, 23), (29, 24), (30, 25), (31, 26), (32, 27), (33, 28), (34, 29), (35, 30), (36, 31), (37, 32), (38, 33), (41, 36)], [5, 6, 7, 8, 9, 10, 11, 12, 13, 14, 15, 16, 17, 18, 19, 20, 21, 22, 23, 24, 25, 26, 27, 28, 29, 30, 31, 32, 33, 34, 35, 36, 37, 38, 39, 40, 41], false), (38, [(5, 0), (6, 1), (7, 2), (8, 3), (9, 4), (10, 5), (11, 6), (12, 7), (13, 8), (14, 9), (15, 10), (16, 11), (17, 12), (18, 13), (19, 14), (20, 15), (21, 16), (22, 17), (23, 18), (24, 19), (25, 20), (26, 21), (27, 22), (28, 23), (29, 24), (30, 25), (31, 26), (32, 27), (33, 28), (34, 29), (35, 30), (36, 31), (37, 32), (38, 33), (39, 34), (40, 35), (41, 36), (42, 37)], [5, 6, 7, 8, 9, 10, 11, 12, 13, 14, 15, 16, 17, 18, 19, 20, 21, 22, 23, 24, 25, 26, 27, 28, 29, 30, 31, 32, 33, 34, 35, 36, 37, 38, 39, 40, 41, 42], true), (39, [(5, 0), (6, 1), (7, 2), (8, 3), (9, 4), (10, 5), (11, 6), (12, 7), (13, 8), (14, 9), (15, 10), (16, 11), (17, 12), (18, 13), (19, 14), (20, 15), (21, 16), (22, 17), (23, 18), (24, 19), (25, 20), (26, 21), (27, 22), (28, 23), (29, 24), (30, 25), (31, 26), (32, 27), (33, 28), (34, 29), (35, 30), (36, 31), (37, 32), (38, 33), (39, 34), (40, 35), (41, 36), (42, 37), (43, 38)], [5, 6, 7, 8, 9, 10, 11, 12, 13, 14, 15, 16, 17, 18, 19, 20, 21, 22, 23, 24, 25, 26, 27, 28, 29, 30, 31, 32, 33, 34, 35, 36, 37, 38, 39, 40, 41, 42, 43], false), (40, [(5, 0), (6, 1), (7, 2), (8, 3), (9, 4), (10, 5), (11, 6), (12, 7), (13, 8), (14, 9), (15, 10), (16, 11), (17, 12), (18, 13), (19, 14), (20, 15), (21, 16), (22, 17), (23, 18), (24, 19), (25, 20), (26, 21), (27, 22), (28, 23), (29, 24), (30, 25), (31, 26), (32, 27), (33, 28), (34, 29), (35, 30), (36, 31), (37, 32), (38, 33), (39, 34), (40, 35), (41, 36), (42, 37), (43, 38), (44, 39)], [5, 6, 7, 8, 9, 10, 11, 12, 13, 14, 15, 16, 17, 18, 19, 20, 21, 22, 23, 24, 25, 26, 27, 28, 29, 30, 31, 32, 33, 34, 35, 36, 37, 38, 39, 40, 41, 42, 43, 44], false)]
      [(5, 0), (6, 1), (7, 2), (8, 3), (9, 4), (10, 5), (11, 6), (12, 7), (13, 8), (14, 9), (15, 10), (16, 11), (17, 12), (18, 13), (19, 14), (20, 15), (21, 16), (22, 17), (23, 18), (24, 19), (25, 20), (26, 21), (27, 22), (28, 23), (29, 24), (30, 25), (31, 26), (32, 27), (33, 28), (34, 29), (35, 30), (36, 31), (37, 32), (38, 33), (39, 34), (40, 35), (41, 36), (42, 37), (43, 38), (44, 39), (4, 40)]
      [(2, _), (3, _)] rfl (by kernel_rfl)
    case hF => exact ⟨rfl, rfl, trivial⟩
    refine run ?_
    exact ⟨⟨false, rfl, bad fun h => k1 h.1⟩, g⟩
  have e1 : (o.kind == o'.kind) = true := beq_iff_eq.2 k1
  by_cases k2 : o.a = o'.a ∧ o.b = o'.b ∧ o.c = o'.c ∧ o.d = o'.d
  rotate_left
  · rw [decide_eq_false k2] at ar
    refine run ?_
    apply SW.drawG [(0, [], [7, 8], false), (1, [(5, 0)], [5, 7, 8], false), (2, [], [5, 6], false), (3, [(7, 2)], [5, 6, 7], false), (4, [(5, 0), (6, 1), (7, 2), (8, 3)], [5, 6, 7, 8], false), (5, [(5, 0), (6, 1), (7, 2), (8, 3), (9, 4)], [5, 6, 7, 8, 9], false), (6, [(5, 0), (6, 1), (7, 2), (8, 3), (9, 4), (10, 5)], [5, 6, 7, 8, 9, 10, 13], false), (8, [(5, 0), (6, 1), (7, 2), (8, 3), (9, 4), (10, 5)], [5, 6, 7, 8, 9, 10, 11, 12], false), (7, [(5, 0), (6, 1), (7, 2), (8, 3), (9, 4), (10, 5), (11, 6)], [5, 6, 7, 8, 9, 10, 11, 13], true), (9, [(5, 0), (6, 1), (7, 2), (8, 3), (9, 4), (10, 5), (11, 6), (12, 7), (13, 8)], [5, 6, 7, 8, 9, 10, 11, 12, 13], true), (10, [(5, 0), (6, 1), (7, 2), (8, 3), (9, 4), (10, 5), (11, 6), (12, 7), (13, 8), (14, 9)], [5, 6, 7, 8, 9, 10, 11, 12, 13, 14], false), (11, [(5, 0), (6, 1), (7, 2), (8, 3), (9, 4), (10, 5), (11, 6), (12, 7), (13, 8), (14, 9), (15, 10)], [5, 6, 7, 8, 9, 10, 11, 12, 13, 14, 15], false), (12, [(5, 0), (6, 1), (7, 2), (8, 3), (9, 4), (10, 5), (11, 6), (12, 7), (13, 8), (14, 9), (15, 10), (16, 11)], [5, 6, 7, 8, 9, 10, 11, 12, 13, 14, 15, 16], false), (13, [(5, 0), (6, 1), (7, 2), (8, 3), (9, 4), (10, 5), (11, 6), (12, 7), (13, 8), (14, 9), (15, 10), (16, 11), (17, 12)], [5, 6, 7, 8, 9, 10, 11, 12, 13, 14, 15, 16, 17, 20, 21], false), (14, [(5, 0), (6, 1), (7, 2), (8, 3), (9, 4), (10, 5), (11, 6), (12, 7), (13, 8), (14, 9), (15, 10), (16, 11), (17, 12), (18, 13)], [5, 6, 7, 8, 9, 10, 11, 12, 13, 14, 15, 16, 17, 18, 20, 21], false), (15, [(5, 0), (6, 1), (7, 2), (8, 3), (9, 4), (10, 5), (11, 6), (12, 7), (13, 8), (14, 9), (15, 10), (16, 11), (17, 12)], [5, 6, 7, 8, 9, 10, 11, 12, 13, 14, 15, 16, 17, 18, 19], false), (16, [(5, 0), (6, 1), (7, 2), (8, 3), (9, 4), (10, 5), (11, 6), (12, 7), (13, 8), (14, 9), (15, 10), (16, 11), (17, 12), (20, 15)], [5, 6, 7, 8, 9, 10, 11, 12, 13, 14, 15, 16, 17, 18, 19, 20], false), (17, [(5, 0), (6, 1), (7, 2), (8, 3), (9, 4), (10, 5), (11, 6), (12, 7), (13, 8), (14, 9), (15, 10), (16, 11), (17, 12), (18, 13), (19, 14), (20, 15), (21, 16)], [5, 6, 7, 8, 9, 10, 11, 12, 13, 14, 15, 16, 17, 18, 19, 20, 21], false), (18, [(5, 0), (6, 1), (7, 2), (8, 3), (9, 4), (10, 5), (11, 6), (12, 7), (13, 8), (14, 9), (15, 10), (16, 11), (17, 12), (18, 13), (19, 14), (20, 15), (21, 16), (22, 17)], [5, 6, 7, 8, 9, 10, 11, 12, 13, 14, 15, 16, 17, 18, 19, 20, 21, 22], false), (19, [(5, 0), (6, 1), (7, 2), (8, 3), (9, 4), (10, 5), (11, 6), (12, 7), (13, 8), (14, 9), (15, 10), (16, 11), (17, 12), (18, 13), (19, 14), (20, 15), (21, 16), (22, 17), (23, 18)], [5, 6, 7, 8, 9, 10, 11, 12, 13, 14, 15, 16, 17, 18, 19, 20, 21, 22, 23], false), (20, [(5, 0), (6, 1), (7, 2), (8, 3), (9, 4), (10, 5), (11, 6), (12, 7), (13, 8), (14, 9), (15, 10), (16, 11), (17, 12), (18, 13), (19, 14), (20, 15), (21, 16), (22, 17), (23, 18), (24, 19)], [5, 6, 7, 8, 9, 10, 11, 12, 13, 14, 15, 16, 17, 18, 19, 20, 21, 22, 23, 24, 27, 28], false), (21, [(5, 0), (6, 1), (7, 2), (8, 3), (9, 4), (10, 5), (11, 6), (12, 7), (13, 8), (14, 9), (15, 10), (16, 11), (17, 12), (18, 13), (19, 14), (20, 15), (21, 16), (22, 17), (23, 18), (24, 19), (25, 20)], [5, 6, 7, 8, 9, 10, 11, 12, 13, 14, 15, 16, 17, 18, 19, 20, 21, 22, 23, 24, 25, 27, 28], false), (22, [(5, 0), (6, 1), (7, 2), (8, 3), (9, 4), (10, 5), (11, 6), (12, 7), (13, 8), (14, 9), (15, 10), (16, 11), (17, 12), (18, 13), (19, 14), (20, 15), (21, 16), (22, 17), (23, 18), (24, 19)], [5, 6, 7, 8, 9, 10, 11, 12, 13, 14, 15, 16, 17, 18, 19, 20, 21, 22, 23, 24, 25, 26], false), (23, [(5, 0), (6, 1), (7, 2), (8, 3), (9, 4), (10, 5), (11, 6), (12, 7), (13, 8), (14, 9), (15, 10), (16, 11), (17, 12), (18, 13), (19, 14), (20, 15), (21, 16), (22, 17), (23, 18), (24, 19), (27, 22)], [5, 6, 7, 8, 9, 10, 11, 12, 13, 14, 15, 16, 17, 18, 19, 20, 21, 22, 23, 24, 25, 26, 27], false), (24, [(5, 0), (6, 1), (7, 2), (8, 3), (9, 4), (10, 5), (11, 6), (12, 7), (13, 8), (14, 9), (15, 10), (16, 11), (17, 12), (18, 13), (19, 14), (20, 15), (21, 16), (22, 17), (23, 18), (24, 19), (25, 20), (26, 21), (27, 22), (28, 23)], [5, 6, 7, 8, 9, 10, 11, 12, 13, 14, 15, 16, 17, 18, 19, 20, 21, 22, 23, 24, 25, 26, 27, 28], true), (25, [(5, 0), (6, 1), (7, 2), (8, 3), (9, 4), (10, 5), (11, 6), (12, 7), (13, 8), (14, 9), (15, 10), (16, 11), (17, 12), (18, 13), (19, 14), (20, 15), (21, 16), (22, 17), (23, 18), (24, 19), (25, 20), (26, 21), (27, 22), (28, 23), (29, 24)], [5, 6, 7, 8, 9, 10, 11, 12, 13, 14, 15, 16, 17, 18, 19, 20, 21, 22, 23, 24, 25, 26, 27, 28, 29], false), (26, [(5, 0), (6, 1), (7, 2), (8, 3), (9, 4), (10, 5), (11, 6), (12, 7), (13, 8), (14, 9), (15, 10), (16, 11), (17, 12), (18, 13), (19, 14), (20, 15), (21, 16), (22, 17), (23, 18), (24, 19), (25, 20), (26, 21), (27, 22), (28, 23), (29, 24), (30, 25)], [5, 6, 7, 8, 9, 10, 11, 12, 13, 14, 15, 16, 17, 18, 19, 20, 21, 22, 23, 24, 25, 26, 27, 28, 29, 30], false), (27, [(5, 0), (6, 1), (7, 2), (8, 3), (9, 4), (10, 5), (11, 6), (12, 7), (13, 8), (14, 9), (15, 10), (16, 11), (17, 12), (18, 13), (19, 14), (20, 15), (21, 16), (22, 17), (23, 18), (24, 19), (25, 20), (26, 21), (27, 22), (28, 23), (29, 24), (30, 25), (31, 26)], [5, 6, 7, 8, 9, 10, 11, 12, 13, 14, 15, 16, 17, 18, 19, 20, 21, 22, 23, 24, 25, 26, 27, 28, 29, 30, 31, 34, 35], false), (28, [(5, 0), (6, 1), (7, 2), (8, 3), (9, 4), (10, 5), (11, 6), (12, 7), (13, 8), (14, 9), (15, 10), (16, 11), (17, 12), (18, 13), (19, 14), (20, 15), (21, 16), (22, 17), (23, 18), (24, 19), (25, 20), (26, 21), (27, 22), (28, 23), (29, 24), (30, 25), (31, 26), (32, 27)], [5, 6, 7, 8, 9, 10, 11, 12, 13, 14, 15, 16, 17, 18, 19, 20, 21, 22, 23, 24, 25, 26, 27, 28, 29, 30, 31, 32, 34, 35], false), (29, [(5, 0), (6, 1), (7, 2), (8, 3), (9, 4), (10, 5), (11, 6), (12, 7), (13, 8), (14, 9), (15, 10), (16, 11), (17, 12), (18, 13), (19, 14), (20, 15), (21, 16), (22, 17), (23, 18), (24, 19), (25, 20), (26, 21), (27, 22), (28, 23), (29, 24), (30, 25), (31, 26)], [5, 6, 7, 8, 9, 10, 11, 12, 13, 14, 15, 16, 17, 18, 19, 20, 21, 22, 23, 24, 25, 26, 27, 28, 29, 30, 31, 32, 33], false), (30, [(5, 0), (6, 1), (7, 2), (8, 3), (9, 4), (10, 5), (11, 6), (12, 7), (13, 8), (14, 9), (15, 10), (16, 11), (17, 12), (18, 13), (19, 14), (20, 15), (21, 16), (22, 17), (23, 18), (24, 19), (25, 20), (26, 21), (27, 22), (28, 23), (29, 24), (30, 25), (31, 26), (34, 29)], [5, 6, 7, 8, 9, 10, 11, 12, 13, 14, 15, 16, 17, 18, 19, 20, 21, 22, 23, 24, 25, 26, 27, 28, 29, 30, 31, 32, 33, 34], false), (31, [(5, 0), (6, 1), (7, 2), (8, 3), (9, 4), (10, 5), (11, 6), (12, 7), (13, 8), (14, 9), (15, 10), (16, 11), (17, 12), (18, 13), (19, 14), (20, 15), (21, 16), (22, 17), (23, 18), (24, 19), (25, 20), (26, 21), (27, 22), (28, 23), (29, 24), (30, 25), (31, 26), (32, 27), (33, 28), (34, 29), (35, 30)], [5, 6, 7, 8, 9, 10, 11, 12, 13, 14, 15, 16, 17, 18, 19, 20, 21, 22, 23, 24, 25, 26, 27, 28, 29, 30, 31, 32, 33, 34, 35], true), (32, [(5, 0), (6, 1), (7, 2), (8, 3), (9, 4), (10, 5), (11, 6), (12, 7), (13, 8), (14, 9), (15, 10), (16, 11), (17, 12), (18, 13), (19, 14), (20, 15), (21, 16), (22, 17), (23, 18), (24, 19), (25, 20), (26, 21), (27, 22), (28, 23), (29, 24), (30, 25), (31, 26), (32, 27), (33, 28), (34, 29), (35, 30), (36, 31)], [5, 6, 7, 8, 9, 10, 11, 12, 13, 14, 15, 16, 17, 18, 19, 20, 21, 22, 23, 24, 25, 26, 27, 28, 29, 30, 31, 32, 33, 34, 35, 36], false), (33, [(5, 0), (6, 1), (7, 2), (8, 3), (9, 4), (10, 5), (11, 6), (12, 7), (13, 8), (14, 9), (15, 10), (16, 11), (17, 12), (18, 13), (19, 14), (20, 15), (21, 16), (22, 17), (23, 18), (24, 19), (25, 20), (26, 21), (27, 22), (28, 23), (29, 24), (30, 25), (31, 26), (32, 27), (33, 28), (34, 29), (35, 30), (36, 31), (37, 32)], [5, 6, 7, 8, 9, 10, 11, 12, 13, 14, 15, 16, 17, 18, 19, 20, 21, 22, 23, 24, 25, 26, 27, 28, 29, 30, 31, 32, 33, 34, 35, 36, 37], false), (34, [(5, 0), (6, 1), (7, 2), (8, 3), (9, 4), (10, 5), (11, 6), (12, 7), (13, 8), (14, 9), (15, 10), (16, 11), (17, 12), (18, 13), (19, 14), (20, 15), (21, 16), (22, 17), (23, 18), (24, 19), (25, 20), (26, 21), (27, 22), (28, 23), (29, 24), (30, 25), (31, 26), (32, 27), (33, 28), (34, 29), (35, 30), (36, 31), (37, 32), (38, 33)], [5, 6, 7, 8, 9, 10, 11, 12, 13, 14, 15, 16, 17, 18, 19, 20, 21, 22, 23, 24, 25, 26, 27, 28, 29, 30, 31, 32, 33, 34, 35, 36, 37, 38, 41, 42], false), (35, [(5, 0), (6, 1), (7, 2), (8, 3), (9, 4), (10, 5), (11, 6), (12, 7), (13, 8), (14, 9), (15, 10), (16, 11), (17, 12), (18, 13), (19, 14), (20, 15), (21, 16), (22, 17), (23, 18), (24, 19), (25, 20), (26, 21), (27, 22), (28, 23), (29, 24), (30, 25), (31, 26), (32, 27), (33, 28), (34, 29), (35, 30), (36, 31), (37, 32), (38, 33), (39, 34)], [5, 6, 7, 8, 9, 10, 11, 12, 13, 14, 15, 16, 17, 18, 19, 20, 21, 22, 23, 24, 25, 26, 27, 28, 29, 30, 31, 32, 33, 34, 35, 36, 37, 38, 39, 41, 42], false), (36, [(5, 0), (6, 1), (7, 2), (8, 3), (9, 4), (10, 5), (11, 6), (12, 7), (13, 8), (14, 9), (15, 10), (16, 11), (17, 12), (18, 13), (19, 14), (20, 15), (21, 16), (22, 17), (23, 18), (24, 19), (25, 20), (26, 21), (27, 22), (28, 23), (29, 24), (30, 25), (31, 26), (32, 27), (33, 28), (34, 29), (35, 30), (36, 31), (37, 32), (38, 33)], [5, 6, 7, 8, 9, 10, 11, 12, 13, 14, 15, 16, 17, 18, 19, 20, 21, 22, 23, 24, 25, 26, 27, 28, 29, 30, 31, 32, 33, 34, 35, 36, 37, 38, 39, 40], false), (37, [(5, 0), (6, 1), (7, 2), (8, 3), (9, 4), (10, 5), (11, 6), (12, 7), (13, 8), (14, 9), (15, 10), (16, 11), (17, 12), (18, 13), (19, 14), (20, 15), (21, 16), (22, 17), (23, 18), (24, 19), (25, 20), (26, 21), (27, 22), (28, 23), (29, 24), (30, 25), (31, 26), (32, 27), (33, 28), (34, 29), (35, 30), (36, 31), (37, 32), (38, 33), (41, 36)], [5, 6, 7, 8, 9, 10, 11, 12, 13, 14, 15, 16, 17, 18, 19, 20, 21, 22, 23, 24, 25, 26, 27, 28, 29, 30, 31, 32, 33, 34, 35, 36, 37, 38, 39, 40, 41], false), (38, [(5, 0), (6, 1), (7, 2), (8, 3), (9, 4), (10, 5), (11, 6), (12, 7), (13, 8), (14, 9), (15, 10), (16, 11), (17, 12), (18, 13), (19, 14), (20, 15), (21, 16), (22, 17), (23, 18), (24, 19), (25, 20), (26, 21), (27, 22), (28, 23), (29, 24), (30, 25), (31, 26), (32, 27), (33, 28), (34, 29), (35, 30), (36, 31), (37, 32), (38, 33), (39, 34), (40, 35), (41, 36), (42, 37)], [5, 6, 7, 8, 9, 10, 11, 12, 13, 14, 15, 16, 17, 18, 19, 20, 21, 22, 23, 24, 25, 26, 27, 28, 29, 30, 31, 32, 33, 34, 35, 36, 37, 38, 39, 40, 41, 42], true), (39, [(5, 0), (6, 1), (7, 2), (8, 3), (9, 4), (10, 5), (11, 6), (12, 7), (13, 8), (14, 9), (15, 10), (16, 11), (17, 12), (18, 13), (19, 14), (20, 15), (21, 16), (22, 17), (23, 18), (24, 19), (25, 20), (26, 21), (27, 22), (28, 23), (29, 24), (30, 25), (31, 26), (32, 27), (33, 28), (34, 29), (35, 30), (36, 31), (37, 32), (38, 33), (39, 34), (40, 35), (41, 36), (42, 37), (43, 38)], [5, 6, 7, 8, 9, 10, 11, 12, 13, 14, 15, 16, 17, 18, 19, 20, 21, 22, 23, 24, 25, 26, 27, 28, 29, 30, 31, 32, 33, 34, 35, 36, 37, 38, 39, 40, 41, 42, 43], false), (40, [(5, 0), (6, 1), (7, 2), (8, 3), (9, 4), (10, 5), (11, 6), (12, 7), (13, 8), (14, 9), (15, 10), (16, 11), (17, 12), (18, 13), (19, 14), (20, 15), (21, 16), (22, 17), (23, 18), (24, 19), (25, 20), (26, 21), (27, 22), (28, 23), (29, 24), (30, 25), (31, 26), (32, 27), (33, 28), (34, 29), (35, 30), (36, 31), (37, 32), (38, 33), (39, 34), (40, 35), (41, 36), (42, 37), (43, 38), (44, 39)], [5, 6, 7, 8, 9, 10, 11, 12, 13, 14, 15, 16, 17, 18, 19, 20, 21, 22, 23, 24, 25, 26, 27, 28, 29, 30, 31, 32, 33, 34, 35, 36, 37, 38, 39, 40, 41, 42, 43, 44], false)]
      [(5, 0), (6, 1), (7, 2), (8, 3), (9, 4), (10, 5), (11, 6), (12, 7), (13, 8), (14, 9), (15, 10), (16, 11), (17, 12), (18, 13), (19, 14), (20, 15), (21, 16), (22, 17), (23, 18), (24, 19), (25, 20), (26, 21), (27, 22), (28, 23), (29, 24), (30, 25), (31, 26), (32, 27), (33, 28), (34, 29), (35, 30), (36, 31), (37, 32), (38, 33), (39, 34), (40, 35), (41, 36), (42, 37), (43, 38), (44, 39), (4, 40)]
      [(2, _), (3, _)] rfl (by kernel_rfl)
    case hF => exact ⟨rfl, rfl, trivial⟩
    refine run ?_
    refine (partsI_ax o rv cv mv).mono ?_
    rintro _ X ⟨rfl, e⟩
    subst X
    refine run ?_
    refine (partsI_ax o' rv' cv' mv').mono ?_
    rintro _ X ⟨rfl, e⟩
    subst X
    refine run ?_
    exact ⟨⟨false, rfl, bad fun h => k2 h.2.1⟩, g⟩
  rw [decide_eq_true k2] at ar
  by_cases k3 : o.pc = o'.pc
  rotate_left
  · have e3 : (o.pc == o'.pc) = false := beq_eq_false_iff_ne.2 k3
    refine run ?_
    apply SW.drawG [(0, [], [7, 8], false), (1, [(5, 0)], [5, 7, 8], false), (2, [], [5, 6], false), (3, [(7, 2)], [5, 6, 7], false), (4, [(5, 0), (6, 1), (7, 2), (8, 3)], [5, 6, 7, 8], false), (5, [(5, 0), (6, 1), (7, 2), (8, 3), (9, 4)], [5, 6, 7, 8, 9], false), (6, [(5, 0), (6, 1), (7, 2), (8, 3), (9, 4), (10, 5)], [5, 6, 7, 8, 9, 10, 13], false), (8, [(5, 0), (6, 1), (7, 2), (8, 3), (9, 4), (10, 5)], [5, 6, 7, 8, 9, 10, 11, 12], false), (7, [(5, 0), (6, 1), (7, 2), (8, 3), (9, 4), (10, 5), (11, 6)], [5, 6, 7, 8, 9, 10, 11, 13], true), (9, [(5, 0), (6, 1), (7, 2), (8, 3), (9, 4), (10, 5), (11, 6), (12, 7), (13, 8)], [5, 6, 7, 8, 9, 10, 11, 12, 13], true), (10, [(5, 0), (6, 1), (7, 2), (8, 3), (9, 4), (10, 5), (11, 6), (12, 7), (13, 8), (14, 9)], [5, 6, 7, 8, 9, 10, 11, 12, 13, 14], false), (11, [(5, 0), (6, 1), (7, 2), (8, 3), (9, 4), (10, 5), (11, 6), (12, 7), (13, 8), (14, 9), (15, 10)], [5, 6, 7, 8, 9, 10, 11, 12, 13, 14, 15], false), (12, [(5, 0), (6, 1), (7, 2), (8, 3), (9, 4), (10, 5), (11, 6), (12, 7), (13, 8), (14, 9), (15, 10), (16, 11)], [5, 6, 7, 8, 9, 10, 11, 12, 13, 14, 15, 16], false), (13, [(5, 0), (6, 1), (7, 2), (8, 3), (9, 4), (10, 5), (11, 6), (12, 7), (13, 8), (14, 9), (15, 10), (16, 11), (17, 12)], [5, 6, 7, 8, 9, 10, 11, 12, 13, 14, 15, 16, 17, 20, 21], false), (14, [(5, 0), (6, 1), (7, 2), (8, 3), (9, 4), (10, 5), (11, 6), (12, 7), (13, 8), (14, 9), (15, 10), (16, 11), (17, 12), (18, 13)], [5, 6, 7, 8, 9, 10, 11, 12, 13, 14, 15, 16, 17, 18, 20, 21], false), (15, [(5, 0), (6, 1), (7, 2), (8, 3), (9, 4), (10, 5), (11, 6), (12, 7), (13, 8), (14, 9), (15, 10), (16, 11), (17, 12)], [5, 6, 7, 8, 9, 10, 11, 12, 13, 14, 15, 16, 17, 18, 19], false), (16, [(5, 0), (6, 1), (7, 2), (8, 3), (9, 4), (10, 5), (11, 6), (12, 7), (13, 8), (14, 9), (15, 10), (16, 11), (17, 12), (20, 15)], [5, 6, 7, 8, 9, 10, 11, 12, 13, 14, 15, 16, 17, 18, 19, 20], false), (17, [(5, 0), (6, 1), (7, 2), (8, 3), (9, 4), (10, 5), (11, 6), (12, 7), (13, 8), (14, 9), (15, 10), (16, 11), (17, 12), (18, 13), (19, 14), (20, 15), (21, 16)], [5, 6, 7, 8, 9, 10, 11, 12, 13, 14, 15, 16, 17, 18, 19, 20, 21], false), (18, [(5, 0), (6, 1), (7, 2), (8, 3), (9, 4), (10, 5), (11, 6), (12, 7), (13, 8), (14, 9), (15, 10), (16, 11), (17, 12), (18, 13), (19, 14), (20, 15), (21, 16), (22, 17)], [5, 6, 7, 8, 9, 10, 11, 12, 13, 14, 15, 16, 17, 18, 19, 20, 21, 22], false), (19, [(5, 0), (6, 1), (7, 2), (8, 3), (9, 4), (10, 5), (11, 6), (12, 7), (13, 8), (14, 9), (15, 10), (16, 11), (17, 12), (18, 13), (19, 14), (20, 15), (21, 16), (22, 17), (23, 18)], [5, 6, 7, 8, 9, 10, 11, 12, 13, 14, 15, 16, 17, 18, 19, 20, 21, 22, 23], false), (20, [(5, 0), (6, 1), (7, 2), (8, 3), (9, 4), (10, 5), (11, 6), (12, 7), (13, 8), (14, 9), (15, 10), (16, 11), (17, 12), (18, 13), (19, 14), (20, 15), (21, 16), (22, 17), (23, 18), (24, 19)], [5, 6, 7, 8, 9, 10, 11, 12, 13, 14, 15, 16, 17, 18, 19, 20, 21, 22, 23, 24, 27, 28], false), (21, [(5, 0), (6, 1), (7, 2), (8, 3), (9, 4), (10, 5), (11, 6), (12, 7), (13, 8), (14, 9), (15, 10), (16, 11), (17, 12), (18, 13), (19, 14), (20, 15), (21, 16), (22, 17), (23, 18), (24, 19), (25, 20)], [5, 6, 7, 8, 9, 10, 11, 12, 13, 14, 15, 16, 17, 18, 19, 20, 21, 22, 23, 24, 25, 27, 28], false), (22, [(5, 0), (6, 1), (7, 2), (8, 3), (9, 4), (10, 5), (11, 6), (12, 7), (13, 8), (14, 9), (15, 10), (16, 11), (17, 12), (18, 13), (19, 14), (20, 15), (21, 16), (22, 17), (23, 18), (24, 19)], [5, 6, 7, 8, 9, 10, 11, 12, 13, 14, 15, 16, 17, 18, 19, 20, 21, 22, 23, 24, 25, 26], false), (23, [(5, 0), (6, 1), (7, 2), (8, 3), (9, 4), (10, 5), (11, 6), (12, 7), (13, 8), (14, 9), (15, 10), (16, 11), (17, 12), (18, 13), (19, 14), (20, 15), (21, 16), (22, 17), (23, 18), (24, 19), (27, 22)], [5, 6, 7, 8, 9, 10, 11, 12, 13, 14, 15, 16, 17, 18, 19, 20, 21, 22, 23, 24, 25, 26, 27], false), (24, [(5, 0), (6, 1), (7, 2), (8, 3), (9, 4), (10, 5), (11, 6), (12, 7), (13, 8), (14, 9), (15, 10), (16, 11), (17, 12), (18, 13), (19, 14), (20, 15), (21, 16), (22, 17), (23, 18), (24, 19), (25, 20), (26, 21), (27, 22), (28, 23)], [5, 6, 7, 8, 9, 10, 11, 12, 13, 14, 15, 16, 17, 18, 19, 20, 21, 22, 23, 24, 25, 26, 27, 28], true), (25, [(5, 0), (6, 1), (7, 2), (8, 3), (9, 4), (10, 5), (11, 6), (12, 7), (13, 8), (14, 9), (15, 10), (16, 11), (17, 12), (18, 13), (19, 14), (20, 15), (21, 16), (22, 17), (23, 18), (24, 19), (25, 20), (26, 21), (27, 22), (28, 23), (29, 24)], [5, 6, 7, 8, 9, 10, 11, 12, 13, 14, 15, 16, 17, 18, 19, 20, 21, 22, 23, 24, 25, 26, 27, 28, 29], false), (26, [(5, 0), (6, 1), (7, 2), (8, 3), (9, 4), (10, 5), (11, 6), (12, 7), (13, 8), (14, 9), (15, 10), (16, 11), (17, 12), (18, 13), (19, 14), (20, 15), (21, 16), (22, 17), (23, 18), (24, 19), (25, 20), (26, 21), (27, 22), (28, 23), (29, 24), (30, 25)], [5, 6, 7, 8, 9, 10, 11, 12, 13, 14, 15, 16, 17, 18, 19, 20, 21, 22, 23, 24, 25, 26, 27, 28, 29, 30], false), (27, [(5, 0), (6, 1), (7, 2), (8, 3), (9, 4), (10, 5), (11, 6), (12, 7), (13, 8), (14, 9), (15, 10), (16, 11), (17, 12), (18, 13), (19, 14), (20, 15), (21, 16), (22, 17), (23, 18), (24, 19), (25, 20), (26, 21), (27, 22), (28, 23), (29, 24), (30, 25), (31, 26)], [5, 6, 7, 8, 9, 10, 11, 12, 13, 14, 15, 16, 17, 18, 19, 20, 21, 22, 23, 24, 25, 26, 27, 28, 29, 30, 31, 34, 35], false), (28, [(5, 0), (6, 1), (7, 2), (8, 3), (9, 4), (10, 5), (11, 6), (12, 7), (13, 8), (14, 9), (15, 10), (16, 11), (17, 12), (18, 13), (19, 14), (20, 15), (21, 16), (22, 17), (23, 18), (24, 19), (25, 20), (26, 21), (27, 22), (28, 23), (29, 24), (30, 25), (31, 26), (32, 27)], [5, 6, 7, 8, 9, 10, 11, 12, 13, 14, 15, 16, 17, 18, 19, 20, 21, 22, 23, 24, 25, 26, 27, 28, 29, 30, 31, 32, 34, 35], false), (29, [(5, 0), (6, 1), (7, 2), (8, 3), (9, 4), (10, 5), (11, 6), (12, 7), (13, 8), (14, 9), (15, 10), (16, 11), (17, 12), (18, 13), (19, 14), (20, 15), (21, 16), (22, 17), (23, 18), (24, 19), (25, 20), (26, 21), (27, 22), (28, 23), (29, 24), (30, 25), (31, 26)], [5, 6, 7, 8, 9, 10, 11, 12, 13, 14, 15, 16, 17, 18, 19, 20, 21, 22, 23, 24, 25, 26, 27, 28, 29, 30, 31, 32, 33], false), (30, [(5, 0), (6, 1), (7, 2), (8, 3), (9, 4), (10, 5), (11, 6), (12, 7), (13, 8), (14, 9), (15, 10), (16, 11), (17, 12), (18, 13), (19, 14), (20, 15), (21, 16), (22, 17), (23, 18), (24, 19), (25, 20), (26, 21), (27, 22), (28, 23), (29, 24), (30, 25), (31, 26), (34, 29)], [5, 6, 7, 8, 9, 10, 11, 12, 13, 14, 15, 16, 17, 18, 19, 20, 21, 22, 23, 24, 25, 26, 27, 28, 29, 30, 31, 32, 33, 34], false), (31, [(5, 0), (6, 1), (7, 2), (8, 3), (9, 4), (10, 5), (11, 6), (12, 7), (13, 8), (14, 9), (15, 10), (16, 11), (17, 12), (18, 13), (19, 14), (20, 15), (21, 16), (22, 17), (23, 18), (24, 19), (25, 20), (26, 21), (27, 22), (28, 23), (29, 24), (30, 25), (31, 26), (32, 27), (33, 28), (34, 29), (35, 30)], [5, 6, 7, 8, 9, 10, 11, 12, 13, 14, 15, 16, 17, 18, 19, 20, 21, 22, 23, 24, 25, 26, 27, 28, 29, 30, 31, 32, 33, 34, 35], true), (32, [(5, 0), (6, 1), (7, 2), (8, 3), (9, 4), (10, 5), (11, 6), (12, 7), (13, 8), (14, 9), (15, 10), (16, 11), (17, 12), (18, 13), (19, 14), (20, 15), (21, 16), (22, 17), (23, 18), (24, 19), (25, 20), (26, 21), (27, 22), (28, 23), (29, 24), (30, 25), (31, 26), (32, 27), (33, 28), (34, 29), (35, 30), (36, 31)], [5, 6, 7, 8, 9, 10, 11, 12, 13, 14, 15, 16, 17, 18, 19, 20, 21, 22, 23, 24, 25, 26, 27, 28, 29, 30, 31, 32, 33, 34, 35, 36], false), (33, [(5, 0), (6, 1), (7, 2), (8, 3), (9, 4), (10, 5), (11, 6), (12, 7), (13, 8), (14, 9), (15, 10), (16, 11), (17, 12), (18, 13), (19, 14), (20, 15), (21, 16), (22, 17), (23, 18), (24, 19), (25, 20), (26, 21), (27, 22), (28, 23), (29, 24), (30, 25), (31, 26), (32, 27), (33, 28), (34, 29), (35, 30), (36, 31), (37, 32)], [5, 6, 7, 8, 9, 10, 11, 12, 13, 14, 15, 16, 17, 18, 19, 20, 21, 22, 23, 24, 25, 26, 27, 28, 29, 30, 31, 32, 33, 34, 35, 36, 37], false), (34, [(5, 0), (6, 1), (7, 2), (8, 3), (9, 4), (10, 5), (11, 6), (12, 7), (13, 8), (14, 9), (15, 10), (16, 11), (17, 12), (18, 13), (19, 14), (20, 15), (21, 16), (22, 17), (23, 18), (24, 19), (25, 20), (26, 21), (27, 22), (28, 23), (29, 24), (30, 25), (31, 26), (32, 27), (33, 28), (34, 29), (35, 30), (36, 31), (37, 32), (38, 33)], [5, 6, 7, 8, 9, 10, 11, 12, 13, 14, 15, 16, 17, 18, 19, 20, 21, 22, 23, 24, 25, 26, 27, 28, 29, 30, 31, 32, 33, 34, 35, 36, 37, 38, 41, 42], false), (35, [(5, 0), (6, 1), (7, 2), (8, 3), (9, 4), (10, 5), (11, 6), (12, 7), (13, 8), (14, 9), (15, 10), (16, 11), (17, 12), (18, 13), (19, 14), (20, 15), (21, 16), (22, 17), (23, 18), (24, 19), (25, 20), (26, 21), (27, 22), (28, 23), (29, 24), (30, 25), (31, 26), (32, 27), (33, 28), (34, 29), (35, 30), (36, 31), (37, 32), (38, 33), (39, 34)], [5, 6, 7, 8, 9, 10, 11, 12, 13, 14, 15, 16, 17, 18, 19, 20, 21, 22, 23, 24, 25, 26, 27, 28, 29, 30, 31, 32, 33, 34, 35, 36, 37, 38, 39, 41, 42], false), (36, [(5, 0), (6, 1), (7, 2), (8, 3), (9, 4), (10, 5), (11, 6), (12, 7), (13, 8), (14, 9), (15, 10), (16, 11), (17, 12), (18, 13), (19, 14), (20, 15), (21, 16), (22, 17), (23, 18), (24, 19), (25, 20), (26, 21), (27, 22), (28, 23), (29, 24), (30, 25), (31, 26), (32, 27), (33, 28), (34, 29), (35, 30), (36, 31), (37, 32), (38, 33)], [5, 6, 7, 8, 9, 10, 11, 12, 13, 14, 15, 16, 17, 18, 19, 20, 21, 22, 23, 24, 25, 26, 27, 28, 29, 30, 31, 32, 33, 34, 35, 36, 37, 38, 39, 40], false), (37, [(5, 0), (6, 1), (7, 2), (8, 3), (9, 4), (10, 5), (11, 6), (12, 7), (13, 8), (14, 9), (15, 10), (16, 11), (17, 12), (18, 13), (19, 14), (20, 15), (21, 16), (22, 17), (23, 18), (24, 19), (25, 20), (26, 21), (27, 22), (28, 23), (29, 24), (30, 25), (31, 26), (32, 27), (33, 28), (34, 29), (35, 30), (36, 31), (37, 32), (38, 33), (41, 36)], [5, 6, 7, 8, 9, 10, 11, 12, 13, 14, 15, 16, 17, 18, 19, 20, 21, 22, 23, 24, 25, 26, 27, 28, 29, 30, 31, 32, 33, 34, 35, 36, 37, 38, 39, 40, 41], false), (38, [(5, 0), (6, 1), (7, 2), (8, 3), (9, 4), (10, 5), (11, 6), (12, 7), (13, 8), (14, 9), (15, 10), (16, 11), (17, 12), (18, 13), (19, 14), (20, 15), (21, 16), (22, 17), (23, 18), (24, 19), (25, 20), (26, 21), (27, 22), (28, 23), (29, 24), (30, 25), (31, 26), (32, 27), (33, 28), (34, 29), (35, 30), (36, 31), (37, 32), (38, 33), (39, 34), (40, 35), (41, 36), (42, 37)], [5, 6, 7, 8, 9, 10, 11, 12, 13, 14, 15, 16, 17, 18, 19, 20, 21, 22, 23, 24, 25, 26, 27, 28, 29, 30, 31, 32, 33, 34, 35, 36, 37, 38, 39, 40, 41, 42], true), (39, [(5, 0), (6, 1), (7, 2), (8, 3), (9, 4), (10, 5), (11, 6), (12, 7), (13, 8), (14, 9), (15, 10), (16, 11), (17, 12), (18, 13), (19, 14), (20, 15), (21, 16), (22, 17), (23, 18), (24, 19), (25, 20), (26, 21), (27, 22), (28, 23), (29, 24), (30, 25), (31, 26), (32, 27), (33, 28), (34, 29), (35, 30), (36, 31), (37, 32), (38, 33), (39, 34), (40, 35), (41, 36), (42, 37), (43, 38)], [5, 6, 7, 8, 9, 10, 11, 12, 13, 14, 15, 16, 17, 18, 19, 20, 21, 22, 23, 24, 25, 26, 27, 28, 29, 30, 31, 32, 33, 34, 35, 36, 37, 38, 39, 40, 41, 42, 43], false), (40, [(5, 0), (6, 1), (7, 2), (8, 3), (9, 4), (10, 5), (11, 6), (12, 7), (13, 8), (14, 9), (15, 10), (16, 11), (17, 12), (18, 13), (19, 14), (20, 15), (21, 16), (22, 17), (23, 18), (24, 19), (25, 20), (26, 21), (27, 22), (28, 23), (29, 24), (30, 25), (31, 26), (32, 27), (33, 28), (34, 29), (35, 30), (36, 31), (37, 32), (38, 33), (39, 34), (40, 35), (41, 36), (42, 37), (43, 38), (44, 39)], [5, 6, 7, 8, 9, 10, 11, 12, 13, 14, 15, 16, 17, 18, 19, 20, 21, 22, 23, 24, 25, 26, 27, 28, 29, 30, 31, 32, 33, 34, 35, 36, 37, 38, 39, 40, 41, 42, 43, 44], false)]
      [(5, 0), (6, 1), (7, 2), (8, 3), (9, 4), (10, 5), (11, 6), (12, 7), (13, 8), (14, 9), (15, 10), (16, 11), (17, 12), (18, 13), (19, 14), (20, 15), (21, 16), (22, 17), (23, 18), (24, 19), (25, 20), (26, 21), (27, 22), (28, 23), (29, 24), (30, 25), (31, 26), (32, 27), (33, 28), (34, 29), (35, 30), (36, 31), (37, 32), (38, 33), (39, 34), (40, 35), (41, 36), (42, 37), (43, 38), (44, 39), (4, 40)]
      [(2, _), (3, _)] rfl (by kernel_rfl)
    case hF => exact ⟨rfl, rfl, trivial⟩
    refine run ?_
    refine (partsI_ax o rv cv mv).mono ?_
    rintro _ X ⟨rfl, e⟩
    subst X
    refine run ?_
    refine (partsI_ax o' rv' cv' mv').mono ?_
    rintro _ X ⟨rfl, e⟩
    subst X
    refine run ?_
    exact ⟨⟨false, rfl, bad fun h => k3 h.2.2.1⟩, g⟩
  have e3 : (o.pc == o'.pc) = true := beq_iff_eq.2 k3
  refine run ?_
  apply SW.drawG [(0, [], [7, 8], false), (1, [(5, 0)], [5, 7, 8], false), (2, [], [5, 6], false), (3, [(7, 2)], [5, 6, 7], false), (4, [(5, 0), (6, 1), (7, 2), (8, 3)], [5, 6, 7, 8], false), (5, [(5, 0), (6, 1), (7, 2), (8, 3), (9, 4)], [5, 6, 7, 8, 9], false), (6, [(5, 0), (6, 1), (7, 2), (8, 3), (9, 4), (10, 5)], [5, 6, 7, 8, 9, 10, 13], false), (8, [(5, 0), (6, 1), (7, 2), (8, 3), (9, 4), (10, 5)], [5, 6, 7, 8, 9, 10, 11, 12], false), (7, [(5, 0), (6, 1), (7, 2), (8, 3), (9, 4), (10, 5), (11, 6)], [5, 6, 7, 8, 9, 10, 11, 13], true), (9, [(5, 0), (6, 1), (7, 2), (8, 3), (9, 4), (10, 5), (11, 6), (12, 7), (13, 8)], [5, 6, 7, 8, 9, 10, 11, 12, 13], true), (10, [(5, 0), (6, 1), (7, 2), (8, 3), (9, 4), (10, 5), (11, 6), (12, 7), (13, 8), (14, 9)], [5, 6, 7, 8, 9, 10, 11, 12, 13, 14], false), (11, [(5, 0), (6, 1), (7, 2), (8, 3), (9, 4), (10, 5), (11, 6), (12, 7), (13, 8), (14, 9), (15, 10)], [5, 6, 7, 8, 9, 10, 11, 12, 13, 14, 15], false), (12, [(5, 0), (6, 1), (7, 2), (8, 3), (9, 4), (10, 5), (11, 6), (12, 7), (13, 8), (14, 9), (15, 10), (16, 11)], [5, 6, 7, 8, 9, 10, 11, 12, 13, 14, 15, 16], false), (13, [(5, 0), (6, 1), (7, 2), (8, 3), (9, 4), (10, 5), (11, 6), (12, 7), (13, 8), (14, 9), (15, 10), (16, 11), (17, 12)], [5, 6, 7, 8, 9, 10, 11, 12, 13, 14, 15, 16, 17, 20, 21], false), (14, [(5, 0), (6, 1), (7, 2), (8, 3), (9, 4), (10, 5), (11, 6), (12, 7), (13, 8), (14, 9), (15, 10), (16, 11), (17, 12), (18, 13)], [5, 6, 7, 8, 9, 10, 11, 12, 13, 14, 15, 16, 17, 18, 20, 21], false), (15, [(5, 0), (6, 1), (7, 2), (8, 3), (9, 4), (10, 5), (11, 6), (12, 7), (13, 8), (14, 9), (15, 10), (16, 11), (17, 12)], [5, 6, 7, 8, 9, 10, 11, 12, 13, 14, 15, 16, 17, 18, 19], false), (16, [(5, 0), (6, 1), (7, 2), (8, 3), (9, 4), (10, 5), (11, 6), (12, 7), (13, 8), (14, 9), (15, 10), (16, 11), (17, 12), (20, 15)], [5, 6, 7, 8, 9, 10, 11, 12, 13, 14, 15, 16, 17, 18, 19, 20], false), (17, [(5, 0), (6, 1), (7, 2), (8, 3), (9, 4), (10, 5), (11, 6), (12, 7), (13, 8), (14, 9), (15, 10), (16, 11), (17, 12), (18, 13), (19, 14), (20, 15), (21, 16)], [5, 6, 7, 8, 9, 10, 11, 12, 13, 14, 15, 16, 17, 18, 19, 20, 21], false), (18, [(5, 0), (6, 1), (7, 2), (8, 3), (9, 4), (10, 5), (11, 6), (12, 7), (13, 8), (14, 9), (15, 10), (16, 11), (17, 12), (18, 13), (19, 14), (20, 15), (21, 16), (22, 17)], [5, 6, 7, 8, 9, 10, 11, 12, 13, 14, 15, 16, 17, 18, 19, 20, 21, 22], false), (19, [(5, 0), (6, 1), (7, 2), (8, 3), (9, 4), (10, 5), (11, 6), (12, 7), (13, 8), (14, 9), (15, 10), (16, 11), (17, 12), (18, 13), (19, 14), (20, 15), (21, 16), (22, 17), (23, 18)], [5, 6, 7, 8, 9, 10, 11, 12, 13, 14, 15, 16, 17, 18, 19, 20, 21, 22, 23], false), (20, [(5, 0), (6, 1), (7, 2), (8, 3), (9, 4), (10, 5), (11, 6), (12, 7), (13, 8), (14, 9), (15, 10), (16, 11), (17, 12), (18, 13), (19, 14), (20, 15), (21, 16), (22, 17), (23, 18), (24, 19)], [5, 6, 7, 8, 9, 10, 11, 12, 13, 14, 15, 16, 17, 18, 19, 20, 21, 22, 23, 24, 27, 28], false), (21, [(5, 0), (6, 1), (7, 2), (8, 3), (9, 4), (10, 5), (11, 6), (12, 7), (13, 8), (14, 9), (15, 10), (16, 11), (17, 12), (18, 13), (19, 14), (20, 15), (21, 16), (22, 17), (23, 18), (24, 19), (25, 20)], [5, 6, 7, 8, 9, 10, 11, 12, 13, 14, 15, 16, 17, 18, 19, 20, 21, 22, 23, 24, 25, 27, 28], false), (22, [(5, 0), (6, 1), (7, 2), (8, 3), (9, 4), (10, 5), (11, 6), (12, 7), (13, 8), (14, 9), (15, 10), (16, 11), (17, 12), (18, 13), (19, 14), (20, 15), (21, 16), (22, 17), (23, 18), (24, 19)], [5, 6, 7, 8, 9, 10, 11, 12, 13, 14, 15, 16, 17, 18, 19, 20, 21, 22, 23, 24, 25, 26], false), (23, [(5, 0), (6, 1), (7, 2), (8, 3), (9, 4), (10, 5), (11, 6), (12, 7), (13, 8), (14, 9), (15, 10), (16, 11), (17, 12), (18, 13), (19, 14), (20, 15), (21, 16), (22, 17), (23, 18), (24, 19), (27, 22)], [5, 6, 7, 8, 9, 10, 11, 12, 13, 14, 15, 16, 17, 18, 19, 20, 21, 22, 23, 24, 25, 26, 27], false), (24, [(5, 0), (6, 1), (7, 2), (8, 3), (9, 4), (10, 5), (11, 6), (12, 7), (13, 8), (14, 9), (15, 10), (16, 11), (17, 12), (18, 13), (19, 14), (20, 15), (21, 16), (22, 17), (23, 18), (24, 19), (25, 20), (26, 21), (27, 22), (28, 23)], [5, 6, 7, 8, 9, 10, 11, 12, 13, 14, 15, 16, 17, 18, 19, 20, 21, 22, 23, 24, 25, 26, 27, 28], true), (25, [(5, 0), (6, 1), (7, 2), (8, 3), (9, 4), (10, 5), (11, 6), (12, 7), (13, 8), (14, 9), (15, 10), (16, 11), (17, 12), (18, 13), (19, 14), (20, 15), (21, 16), (22, 17), (23, 18), (24, 19), (25, 20), (26, 21), (27, 22), (28, 23), (29, 24)], [5, 6, 7, 8, 9, 10, 11, 12, 13, 14, 15, 16, 17, 18, 19, 20, 21, 22, 23, 24, 25, 26, 27, 28, 29], false), (26, [(5, 0), (6, 1), (7, 2), (8, 3), (9, 4), (10, 5), (11, 6), (12, 7), (13, 8), (14, 9), (15, 10), (16, 11), (17, 12), (18, 13), (19, 14), (20, 15), (21, 16), (22, 17), (23, 18), (24, 19), (25, 20), (26, 21), (27, 22), (28, 23), (29, 24), (30, 25)], [5, 6, 7, 8, 9, 10, 11, 12, 13, 14, 15, 16, 17, 18, 19, 20, 21, 22, 23, 24, 25, 26, 27, 28, 29, 30], false), (27, [(5, 0), (6, 1), (7, 2), (8, 3), (9, 4), (10, 5), (11, 6), (12, 7), (13, 8), (14, 9), (15, 10), (16, 11), (17, 12), (18, 13), (19, 14), (20, 15), (21, 16), (22, 17), (23, 18), (24, 19), (25, 20), (26, 21), (27, 22), (28, 23), (29, 24), (30, 25), (31, 26)], [5, 6, 7, 8, 9, 10, 11, 12, 13, 14, 15, 16, 17, 18, 19, 20, 21, 22, 23, 24, 25, 26, 27, 28, 29, 30, 31, 34, 35], false), (28, [(5, 0), (6, 1), (7, 2), (8, 3), (9, 4), (10, 5), (11, 6), (12, 7), (13, 8), (14, 9), (15, 10), (16, 11), (17, 12), (18, 13), (19, 14), (20, 15), (21, 16), (22, 17), (23, 18), (24, 19), (25, 20), (26, 21), (27, 22), (28, 23), (29, 24), (30, 25), (31, 26), (32, 27)], [5, 6, 7, 8, 9, 10, 11, 12, 13, 14, 15, 16, 17, 18, 19, 20, 21, 22, 23, 24, 25, 26, 27, 28, 29, 30, 31, 32, 34, 35], false), (29, [(5, 0), (6, 1), (7, 2), (8, 3), (9, 4), (10, 5), (11, 6), (12, 7), (13, 8), (14, 9), (15, 10), (16, 11), (17, 12), (18, 13), (19, 14), (20, 15), (21, 16), (22, 17), (23, 18), (24, 19), (25, 20), (26, 21), (27, 22), (28, 23), (29, 24), (30, 25), (31, 26)], [5, 6, 7, 8, 9, 10, 11, 12, 13, 14, 15, 16, 17, 18, 19, 20, 21, 22, 23, 24, 25, 26, 27, 28, 29, 30, 31, 32, 33], false), (30, [(5, 0), (6, 1), (7, 2), (8, 3), (9, 4), (10, 5), (11, 6), (12, 7), (13, 8), (14, 9), (15, 10), (16, 11), (17, 12), (18, 13), (19, 14), (20, 15), (21, 16), (22, 17), (23, 18), (24, 19), (25, 20), (26, 21), (27, 22), (28, 23), (29, 24), (30, 25), (31, 26), (34, 29)], [5, 6, 7, 8, 9, 10, 11, 12, 13, 14, 15, 16, 17, 18, 19, 20, 21, 22, 23, 24, 25, 26, 27, 28, 29, 30, 31, 32, 33, 34], false), (31, [(5, 0), (6, 1), (7, 2), (8, 3), (9, 4), (10, 5), (11, 6), (12, 7), (13, 8), (14, 9), (15, 10), (16, 11), (17, 12), (18, 13), (19, 14), (20, 15), (21, 16), (22, 17), (23, 18), (24, 19), (25, 20), (26, 21), (27, 22), (28, 23), (29, 24), (30, 25), (31, 26), (32, 27), (33, 28), (34, 29), (35, 30)], [5, 6, 7, 8, 9, 10, 11, 12, 13, 14, 15, 16, 17, 18, 19, 20, 21, 22, 23, 24, 25, 26, 27, 28, 29, 30, 31, 32, 33, 34, 35], true), (32, [(5, 0), (6, 1), (7, 2), (8, 3), (9, 4), (10, 5), (11, 6), (12, 7), (13, 8), (14, 9), (15, 10), (16, 11), (17, 12), (18, 13), (19, 14), (20, 15), (21, 16), (22, 17), (23, 18), (24, 19), (25, 20), (26, 21), (27, 22), (28, 23), (29, 24), (30, 25), (31, 26), (32, 27), (33, 28), (34, 29), (35, 30), (36, 31)], [5, 6, 7, 8, 9, 10, 11, 12, 13, 14, 15, 16, 17, 18, 19, 20, 21, 22, 23, 24, 25, 26, 27, 28, 29, 30, 31, 32, 33, 34, 35, 36], false), (33, [(5, 0), (6, 1), (7, 2), (8, 3), (9, 4), (10, 5), (11, 6), (12, 7), (13, 8), (14, 9), (15, 10), (16, 11), (17, 12), (18, 13), (19, 14), (20, 15), (21, 16), (22, 17), (23, 18), (24, 19), (25, 20), (26, 21), (27, 22), (28, 23), (29, 24), (30, 25), (31, 26), (32, 27), (33, 28), (34, 29), (35, 30), (36, 31), (37, 32)], [5, 6, 7, 8, 9, 10, 11, 12, 13, 14, 15, 16, 17, 18, 19, 20, 21, 22, 23, 24, 25, 26, 27, 28, 29, 30, 31, 32, 33, 34, 35, 36, 37], false), (34, [(5, 0), (6, 1), (7, 2), (8, 3), (9, 4), (10, 5), (11, 6), (12, 7), (13, 8), (14, 9), (15, 10), (16, 11), (17, 12), (18, 13), (19, 14), (20, 15), (21, 16), (22, 17), (23, 18), (24, 19), (25, 20), (26, 21), (27, 22), (28, 23), (29, 24), (30, 25), (31, 26), (32, 27), (33, 28), (34, 29), (35, 30), (36, 31), (37, 32), (38, 33)], [5, 6, 7, 8, 9, 10, 11, 12, 13, 14, 15, 16, 17, 18, 19, 20, 21, 22, 23, 24, 25, 26, 27, 28, 29, 30, 31, 32, 33, 34, 35, 36, 37, 38, 41, 42], false), (35, [(5, 0), (6, 1), (7, 2), (8, 3), (9, 4), (10, 5), (11, 6), (12, 7), (13, 8), (14, 9), (15, 10), (16, 11), (17, 12), (18, 13), (19, 14), (20, 15), (21, 16), (22, 17), (23, 18), (24, 19), (25, 20), (26, 21), (27, 22), (28, 23), (29, 24), (30, 25), (31, 26), (32, 27), (33, 28), (34, 29), (35, 30), (36, 31), (37, 32), (38, 33), (39, 34)], [5, 6, 7, 8, 9, 10, 11, 12, 13, 14, 15, 16, 17, 18, 19, 20, 21, 22, 23, 24, 25, 26, 27, 28, 29, 30, 31, 32, 33, 34, 35, 36, 37, 38, 39, 41, 42], false), (36, [(5, 0), (6, 1), (7, 2), (8, 3), (9, 4), (10, 5), (11, 6), (12, 7), (13, 8), (14, 9), (15, 10), (16, 11), (17, 12), (18, 13), (19, 14), (20, 15), (21, 16), (22, 17), (23, 18), (24, 19), (25, 20), (26, 21), (27, 22), (28, 23), (29, 24), (30, 25), (31, 26), (32, 27), (33, 28), (34, 29), (35, 30), (36, 31), (37, 32), (38, 33)], [5, 6, 7, 8, 9, 10, 11, 12, 13, 14, 15, 16, 17, 18, 19, 20, 21, 22, 23, 24, 25, 26, 27, 28, 29, 30, 31, 32, 33, 34, 35, 36, 37, 38, 39, 40], false), (37, [(5, 0), (6, 1), (7, 2), (8, 3), (9, 4), (10, 5), (11, 6), (12, 7), (13, 8), (14, 9), (15, 10), (16, 11), (17, 12), (18, 13), (19, 14), (20, 15), (21, 16), (22, 17), (23, 18), (24, 19), (25, 20), (26, 21), (27, 22), (28, 23), (29, 24), (30, 25), (31, 26), (32, 27), (33, 28), (34, 29), (35, 30), (36, 31), (37, 32), (38, 33), (41, 36)], [5, 6, 7, 8, 9, 10, 11, 12, 13, 14, 15, 16, 17, 18, 19, 20, 21, 22, 23, 24, 25, 26, 27, 28, 29, 30, 31, 32, 33, 34, 35, 36, 37, 38, 39, 40, 41], false), (38, [(5, 0), (6, 1), (7, 2), (8, 3), (9, 4), (10, 5), (11, 6), (12, 7), (13, 8), (14, 9), (15, 10), (16, 11), (17, 12), (18, 13), (19, 14), (20, 15), (21, 16), (22, 17), (23, 18), (24, 19), (25, 20), (26, 21), (27, 22), (28, 23), (29, 24), (30, 25), (31, 26), (32, 27), (33, 28), (34, 29), (35, 30), (36, 31), (37, 32), (38, 33), (39, 34), (40, 35), (41, 36), (42, 37)], [5, 6, 7, 8, 9, 10, 11, 12, 13, 14, 15, 16, 17, 18, 19, 20, 21, 22, 23, 24, 25, 26, 27, 28, 29, 30, 31, 32, 33, 34, 35, 36, 37, 38, 39, 40, 41, 42], true), (39, [(5, 0), (6, 1), (7, 2), (8, 3), (9, 4), (10, 5), (11, 6), (12, 7), (13, 8), (14, 9), (15, 10), (16, 11), (17, 12), (18, 13), (19, 14), (20, 15), (21, 16), (22, 17), (23, 18), (24, 19), (25, 20), (26, 21), (27, 22), (28, 23), (29, 24), (30, 25), (31, 26), (32, 27), (33, 28), (34, 29), (35, 30), (36, 31), (37, 32), (38, 33), (39, 34), (40, 35), (41, 36), (42, 37), (43, 38)], [5, 6, 7, 8, 9, 10, 11, 12, 13, 14, 15, 16, 17, 18, 19, 20, 21, 22, 23, 24, 25, 26, 27, 28, 29, 30, 31, 32, 33, 34, 35, 36, 37, 38, 39, 40, 41, 42, 43], false), (40, [(5, 0), (6, 1), (7, 2), (8, 3), (9, 4), (10, 5), (11, 6), (12, 7), (13, 8), (14, 9), (15, 10), (16, 11), (17, 12), (18, 13), (19, 14), (20, 15), (21, 16), (22, 17), (23, 18), (24, 19), (25, 20), (26, 21), (27, 22), (28, 23), (29, 24), (30, 25), (31, 26), (32, 27), (33, 28), (34, 29), (35, 30), (36, 31), (37, 32), (38, 33), (39, 34), (40, 35), (41, 36), (42, 37), (43, 38), (44, 39)], [5, 6, 7, 8, 9, 10, 11, 12, 13, 14, 15, 16, 17, 18, 19, 20, 21, 22, 23, 24, 25, 26, 27, 28, 29, 30, 31, 32, 33, 34, 35, 36, 37, 38, 39, 40, 41, 42, 43, 44], false)]
    [(5, 0), (6, 1), (7, 2), (8, 3), (9, 4), (10, 5), (11, 6), (12, 7), (13, 8), (14, 9), (15, 10), (16, 11), (17, 12), (18, 13), (19, 14), (20, 15), (21, 16), (22, 17), (23, 18), (24, 19), (25, 20), (26, 21), (27, 22), (28, 23), (29, 24), (30, 25), (31, 26), (32, 27), (33, 28), (34, 29), (35, 30), (36, 31), (37, 32), (38, 33), (39, 34), (40, 35), (41, 36), (42, 37), (43, 38), (44, 39), (4, 40)]
    [(2, _), (3, _)] rfl (by kernel_rfl)
  case hF => exact ⟨rfl, rfl, trivial⟩
  refine run ?_
  refine (partsI_ax o rv cv mv).mono ?_
  rintro _ X ⟨rfl, e⟩
  subst X
  refine run ?_
  refine (partsI_ax o' rv' cv' mv').mono ?_
  rintro _ X ⟨rfl, e⟩
  subst X
  refine run ?_
  refine (eqN_ax hr hr' hl.1).mono ?_
  rintro _ X ⟨rfl, e⟩
  subst X
  by_cases k4 : o.regs = o'.regs
  rotate_left
  · rw [decide_eq_false k4]
    refine run ?_
    exact ⟨⟨false, rfl, bad fun h => k4 h.2.2.2.1⟩, g⟩
  rw [decide_eq_true k4]
  refine run ?_
  refine (eqC_ax hc hc' hl.2.1).mono ?_
  rintro _ X ⟨rfl, e⟩
  subst X
  by_cases k5 : o.cases = o'.cases
  rotate_left
  · rw [decide_eq_false k5]
    refine run ?_
    exact ⟨⟨false, rfl, bad fun h => k5 h.2.2.2.2.1⟩, g⟩
  rw [decide_eq_true k5]
  refine run ?_
  refine (eqN_ax hm hm' hl.2.2).mono ?_
  rintro _ X ⟨rfl, e⟩
  subst X
  by_cases k6 : o.map = o'.map
  rotate_left
  · rw [decide_eq_false k6]
    refine run ?_
    exact ⟨⟨false, rfl, bad fun h => k6 h.2.2.2.2.2⟩, g⟩
  rw [decide_eq_true k6]
  refine run ?_
  exact ⟨⟨true, rfl, fun _ => ⟨k1, k2, k3, k4, k5, k6⟩, fun _ => rfl⟩, g⟩
end Go.Proofs.Ytfobbmllbbckkaa
