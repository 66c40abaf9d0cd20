/- Package ir: operations and bodies as plain data; small functions. -/
import Derived.Test.YtfobbmllbbckkaaJLi1
set_option linter.unusedVariables false
set_option linter.unusedSimpArgs false
set_option maxRecDepth 20000
set_option maxHeartbeats 8000000
namespace Go.Proofs.Ytfobbmllbbckkaa
open Go Ax
abbrev CaseT := Int × Int × Int
abbrev OpX := Int × Int × Int × Int × Int × List Int × List CaseT × Int × List Int
abbrev BodyX := Int × Int × List V × List OpX × List (Int × Int)
theorem irBelow_ax (H : Heap) (n m : Int) : AX Try.prog 19 #[.int .i64 n, .int .i64 m] H (fun v H' => v = .bool (decide (0 ≤ n ∧ n < m)) ∧ H' = H) := by
  refine AX.quiet ?_
  suffices hh : AX Try.prog 19 #[.int .i64 n, .int .i64 m] H (fun v H' => v = .bool (decide (0 ≤ n ∧ n < m)) ∧ Grow H H') from hh.mono fun v _ ⟨e, g⟩ => ⟨e ▸ plain_bool _, e, g⟩
  refine AX.body (n := 12) (rs := [.tmp 4]) Try.func19 rfl (by decide) rfl rfl (bC_sound _ _ _ _ ?_)
  by_cases h0 : 0 ≤ n
  · have d0 : decide (n ≥ 0) = true := decide_eq_true h0
    by_cases h1 : n < m
    · have d1 : decide (n < m) = true := decide_eq_true h1
      refine run ?_
      exact ⟨congrArg Value.bool (d1.trans (Eq.symm (decide_eq_true (p := 0 ≤ n ∧ n < m) ⟨h0, h1⟩))), .refl _⟩
    · have d1 : decide (n < m) = false := decide_eq_false h1
      refine run ?_
      exact ⟨congrArg Value.bool (d1.trans (Eq.symm (decide_eq_false (p := 0 ≤ n ∧ n < m) fun h => h1 h.2))), .refl _⟩
  · have d0 : decide (n ≥ 0) = false := decide_eq_false h0
    refine run ?_
    exact ⟨congrArg Value.bool (Eq.symm (decide_eq_false (p := 0 ≤ n ∧ n < m) fun h => h0 h.1)), .refl _⟩
end Go.Proofs.Ytfobbmllbbckkaa
/- Package ir: how bodies lie in memory; which parts an operation may have. -/
set_option linter.unusedVariables false
set_option linter.unusedSimpArgs false
set_option maxRecDepth 20000
set_option maxHeartbeats 8000000
namespace Go.Proofs.Ytfobbmllbbckkaa
open Go Ax
abbrev OpX.kind (o : OpX) : Int := o.1
abbrev OpX.a (o : OpX) : Int := o.2.1
abbrev OpX.b (o : OpX) : Int := o.2.2.1
abbrev OpX.c (o : OpX) : Int := o.2.2.2.1
abbrev OpX.d (o : OpX) : Int := o.2.2.2.2.1
abbrev OpX.regs (o : OpX) : List Int := o.2.2.2.2.2.1
abbrev OpX.cases (o : OpX) : List CaseT := o.2.2.2.2.2.2.1
abbrev OpX.pc (o : OpX) : Int := o.2.2.2.2.2.2.2.1
abbrev OpX.map (o : OpX) : List Int := o.2.2.2.2.2.2.2.2
abbrev BodyX.F (b : BodyX) : Int := b.1
abbrev BodyX.regs (b : BodyX) : Int := b.2.1
abbrev BodyX.consts (b : BodyX) : List V := b.2.2.1
abbrev BodyX.ops (b : BodyX) : List OpX := b.2.2.2.1
abbrev BodyX.deps (b : BodyX) : List (Int × Int) := b.2.2.2.2
abbrev opV (o : OpX) (rv cv mv : Value) : Value := .agg #[.int .i64 o.kind, .int .i64 o.a, .int .i64 o.b, .int .i64 o.c, .int .i64 o.d, rv, cv, .int .i64 o.pc, mv]
abbrev bodyV (b : BodyX) (kv ov dv : Value) : Value := .agg #[.int .i64 b.F, .int .i64 b.regs, kv, ov, dv]
def caseR (_ : Heap) (l : List Value) (x : CaseT) : Prop := l = [.int .i64 x.1, .int .i64 x.2.1, .int .i64 x.2.2]
def depR (_ : Heap) (l : List Value) (x : Int × Int) : Prop := l = [.int .i64 x.1, .int .i64 x.2]
def opxR (H : Heap) (l : List Value) (o : OpX) : Prop :=
  ∃ rv cv mv, l = [.int .i64 o.kind, .int .i64 o.a, .int .i64 o.b, .int .i64 o.c, .int .i64 o.d, rv, cv, .int .i64 o.pc, mv] ∧ RL 1 intR H rv o.regs ∧ RL 3 caseR H cv o.cases ∧ RL 1 intR H mv o.map
theorem caseR.grow {H H' : Heap} {sv : Value} {L : List CaseT} (h : RL 3 caseR H sv L) (g : Grow H H') : RL 3 caseR H' sv L := RL.grow (H := H) (H' := H') (fun _ _ h => h) h g
theorem depR.grow {H H' : Heap} {sv : Value} {L : List (Int × Int)} (h : RL 2 depR H sv L) (g : Grow H H') : RL 2 depR H' sv L := RL.grow (H := H) (H' := H') (fun _ _ h => h) h g
theorem xval_grow {H H' : Heap} {sv : Value} {L : List V} (h : RL 3 valR H sv L) (g : Grow H H') : RL 3 valR H' sv L := RL.grow (H := H) (H' := H') (fun _ _ h => h) h g
theorem opxR.keep {H H' : Heap} {l : List Value} {o : OpX} (h : opxR H l o) (g : Grow H H') : opxR H' l o := by
  obtain ⟨rv, cv, mv, h1, h2, h3, h4⟩ := h
  exact ⟨rv, cv, mv, h1, intR.grow h2 g, caseR.grow h3 g, intR.grow h4 g⟩
theorem opxR.grow {H H' : Heap} {sv : Value} {L : List OpX} (h : RL 9 opxR H sv L) (g : Grow H H') : RL 9 opxR H' sv L := RL.grow (H := H) (H' := H') (fun _ _ h => h.keep g) h g
structure BodyIn (H : Heap) (b : BodyX) (kv ov dv : Value) : Prop where
  con : RL 3 valR H kv b.consts
  ops : RL 9 opxR H ov b.ops
  deps : RL 2 depR H dv b.deps
theorem BodyIn.grow {H H' : Heap} {b : BodyX} {kv ov dv : Value} (h : BodyIn H b kv ov dv) (g : Grow H H') : BodyIn H' b kv ov dv := ⟨xval_grow h.con g, opxR.grow h.ops g, depR.grow h.deps g⟩
theorem ldx_val {H : Heap} {sv : Value} {L : List V} (h : RL 3 valR H sv L) {i : Nat} {x : V} (hx : L[i]? = some x) :
    ∃ b, aindexAddr Try.prog 26 sv (.int .i64 (i : Int)) = some (.pointer (some ⟨b, i * 3, none⟩)) ∧ ∀ H', Grow H H' → aload Try.prog 51 (.pointer (some ⟨b, i * 3, none⟩)) H' = some (valV x) := by
  obtain ⟨b, c, l, h1, h2, h3, rfl⟩ := h.at (P := Try.prog) (t := 26) (e := 51) rfl rfl hx
  exact ⟨b, h1, fun H' g => ald_agg rfl rfl rfl (g.hblk h2) h3⟩
theorem ldx_case {H : Heap} {sv : Value} {L : List CaseT} (h : RL 3 caseR H sv L) {i : Nat} {x : CaseT} (hx : L[i]? = some x) :
    ∃ b, aindexAddr Try.prog 40 sv (.int .i64 (i : Int)) = some (.pointer (some ⟨b, i * 3, none⟩)) ∧ ∀ H', Grow H H' → aload Try.prog 90 (.pointer (some ⟨b, i * 3, none⟩)) H' = some (.agg #[.int .i64 x.1, .int .i64 x.2.1, .int .i64 x.2.2]) ∧
      aload Try.prog 3 (.pointer (some ⟨b, i * 3, none⟩)) H' = some (.int .i64 x.1) ∧ aload Try.prog 3 (.pointer (some ⟨b, i * 3 + 1, none⟩)) H' = some (.int .i64 x.2.1) ∧ aload Try.prog 3 (.pointer (some ⟨b, i * 3 + 2, none⟩)) H' = some (.int .i64 x.2.2) := by
  obtain ⟨b, c, l, h1, h2, h3, rfl⟩ := h.at (P := Try.prog) (t := 40) (e := 90) rfl rfl hx
  exact ⟨b, h1, fun H' g => ⟨ald_agg rfl rfl rfl (g.hblk h2) h3, ald rfl rfl (g.hblk h2) (slots_get (j := 0) h3 rfl), ald rfl rfl (g.hblk h2) (slots_get (j := 1) h3 rfl), ald rfl rfl (g.hblk h2) (slots_get (j := 2) h3 rfl)⟩⟩
theorem ldx_dep {H : Heap} {sv : Value} {L : List (Int × Int)} (h : RL 2 depR H sv L) {i : Nat} {x : Int × Int} (hx : L[i]? = some x) :
    ∃ b, aindexAddr Try.prog 28 sv (.int .i64 (i : Int)) = some (.pointer (some ⟨b, i * 2, none⟩)) ∧ ∀ H', Grow H H' → aload Try.prog 60 (.pointer (some ⟨b, i * 2, none⟩)) H' = some (.agg #[.int .i64 x.1, .int .i64 x.2]) ∧
      aload Try.prog 3 (.pointer (some ⟨b, i * 2, none⟩)) H' = some (.int .i64 x.1) ∧ aload Try.prog 3 (.pointer (some ⟨b, i * 2 + 1, none⟩)) H' = some (.int .i64 x.2) := by
  obtain ⟨b, c, l, h1, h2, h3, rfl⟩ := h.at (P := Try.prog) (t := 28) (e := 60) rfl rfl hx
  exact ⟨b, h1, fun H' g => ⟨ald_agg rfl rfl rfl (g.hblk h2) h3, ald rfl rfl (g.hblk h2) (slots_get (j := 0) h3 rfl), ald rfl rfl (g.hblk h2) (slots_get (j := 1) h3 rfl)⟩⟩
theorem ldx_op {H : Heap} {sv : Value} {L : List OpX} (h : RL 9 opxR H sv L) {i : Nat} {o : OpX} (hx : L[i]? = some o) :
    ∃ b rv cv mv, aindexAddr Try.prog 27 sv (.int .i64 (i : Int)) = some (.pointer (some ⟨b, i * 9, none⟩)) ∧ RL 1 intR H rv o.regs ∧ RL 3 caseR H cv o.cases ∧ RL 1 intR H mv o.map ∧
      ∀ H', Grow H H' → aload Try.prog 42 (.pointer (some ⟨b, i * 9, none⟩)) H' = some (opV o rv cv mv) ∧ aload Try.prog 3 (.pointer (some ⟨b, i * 9, none⟩)) H' = some (.int .i64 o.kind) := by
  obtain ⟨b, c, l, h1, h2, h3, rv, cv, mv, rfl, h5, h6, h7⟩ := h.at (P := Try.prog) (t := 27) (e := 42) rfl rfl hx
  exact ⟨b, rv, cv, mv, h1, h5, h6, h7, fun H' g => ⟨ald_agg rfl rfl rfl (g.hblk h2) h3, ald rfl rfl (g.hblk h2) (slots_get (j := 0) h3 rfl)⟩⟩
/-- A field of a code. -/
theorem ldx_code {H : Heap} {sv : Value} {L : List CodeT} (h : RL 5 codeR H sv L) {i : Nat} {x : CodeT} (hx : L[i]? = some x) :
    ∃ b, aindexAddr Try.prog 23 sv (.int .i64 (i : Int)) = some (.pointer (some ⟨b, i * 5, none⟩)) ∧ ∀ H', Grow H H' → aload Try.prog 3 (.pointer (some ⟨b, i * 5 + 1, none⟩)) H' = some (.int .i64 x.2.1) ∧ aload Try.prog 3 (.pointer (some ⟨b, i * 5 + 2, none⟩)) H' = some (.int .i64 x.2.2.1) := by
  obtain ⟨b, c, l, h1, h2, h3, u, rfl, h4⟩ := h.at (P := Try.prog) (t := 23) (e := 49) rfl rfl hx
  exact ⟨b, h1, fun H' g => ⟨ald rfl rfl (g.hblk h2) (slots_get (j := 1) h3 rfl), ald rfl rfl (g.hblk h2) (slots_get (j := 2) h3 rfl)⟩⟩
/-- What bounds the parts of operations. -/
structure Lims where
  rg : Int
  nc : Int
  gl : Int
  np : Int
  st : Int
  no : Int
def limsOf (p : ProgT) (c : CodeT) (b : BodyX) : Lims := ⟨b.regs, b.consts.length, p.1, p.2.1.length, c.2.2.1, b.ops.length⟩
def partP (m : Lims) (t n : Int) : Prop :=
  if t = 82 ∨ t = 114 then 0 ≤ n ∧ n < m.rg else if t = 107 then 0 ≤ n ∧ n < m.nc else if t = 103 then 0 ≤ n ∧ n < m.gl else if t = 112 then 0 ≤ n ∧ n < m.np else if t = 115 then 0 ≤ n ∧ n < m.st else
  if t = 117 then n = 1 ∨ n = 2 else if t = 98 then 1 ≤ n ∧ n ≤ 11 else if t = 116 then 0 ≤ n ∧ n < m.no else if t = 110 then 1 ≤ n ∧ n ≤ 100000 else if t = 104 then 1 ≤ n else if t = 105 then 0 ≤ n ∧ n < 12 else
  if t = 99 then 1 ≤ n ∧ n ≤ 7 else n = 0
instance (m : Lims) (t n : Int) : Decidable (partP m t n) := by unfold partP; infer_instance
abbrev chkV (p : ProgT) (ps cs : Value) (b : BodyX) (kv ov dv sv : Value) : Value := .agg #[.int .i64 p.1, ps, cs, .int .i64 b.F, .int .i64 b.regs, kv, ov, dv, sv]
theorem part_ax {H : Heap} {p : ProgT} {ps cs kv ov dv sv : Value} {c : CodeT} {b : BodyX} {f : Nat} (hp : RL 1 strR H ps p.2.1) (hcs : RL 5 codeR H cs p.2.2) (hb : BodyIn H b kv ov dv) (hF : b.F = (f : Int)) (hf : p.2.2[f]? = some c) (t n : Int) :
    AX Try.prog 63 #[chkV p ps cs b kv ov dv sv, .int .i32 t, .int .i64 n] H (fun v H' => v = .bool (decide (partP (limsOf p c b) t n)) ∧ H' = H) := by
  refine AX.quiet ?_
  suffices hh : AX Try.prog 63 #[chkV p ps cs b kv ov dv sv, .int .i32 t, .int .i64 n] H (fun v H' => v = .bool (decide (partP (limsOf p c b) t n)) ∧ Grow H H') from hh.mono fun v _ ⟨e, g⟩ => ⟨e ▸ plain_bool _, e, g⟩
  refine AX.body (n := 102) (rs := [.tmp 6]) Try.func63 rfl (by decide) rfl rfl (bC_sound _ _ _ _ ?_)
  (conv => whnf)
  refine Ob2.box rfl fun q1 H1 hq1 a1 g => ?_
  have b1 := hblk_of a1
  have l1 : alen Try.prog 22 ps H1 = some (.int .i64 p.2.1.length) := hp.len rfl _
  have l2 : alen Try.prog 26 kv H1 = some (.int .i64 b.consts.length) := hb.con.len rfl _
  have l3 : alen Try.prog 27 ov H1 = some (.int .i64 b.ops.length) := hb.ops.len rfl _
  obtain ⟨bq, i1, i2⟩ := ldx_code hcs hf
  have i3 := (i2 H1 g).2
  rw [← hF] at i1
  clear a1 hp hcs hb i2
  (try (conv => whnf)); (repeat' ((fail_if_success (with_reducible refine And.intro ?_ ?_)); (fail_if_success (with_reducible refine Exists.intro ?_ ?_)); (first | ((with_reducible refine AX.id ?_); (first | (refine (irBelow_ax _ _ _).mono ?_; (rintro _ X ⟨rfl, eX⟩; subst X; (conv => whnf))) | (refine (sign_ax _ _).mono ?_; (rintro _ X ⟨rfl, eX⟩; subst X; (conv => whnf))) | (refine (built_ax _ _).mono ?_; (rintro _ X ⟨rfl, eX⟩; subst X; (conv => whnf))))) | (refine step0 ?_) | (apply bIf.of <;> intro hc <;> (conv => whnf)))))
  all_goals refine ⟨congrArg Value.bool ?_, g⟩
  all_goals (simp only [ba_ne_t, ba_ne_f, ba_eq_t, ba_eq_f, bne_iff_ne, bne_eq_false_iff_eq, decide_eq_true_eq, decide_eq_false_iff_not, beq_iff_eq, beq_eq_false_iff_ne, ne_eq, Bool.not_eq_true, Bool.not_eq_false, Bool.not_eq_true', Bool.not_eq_false'] at *)
  all_goals first | rw [sign_some] | rw [built_some] | skip
  all_goals rw [Bool.eq_iff_iff]
  all_goals simp only [decide_eq_true_eq, beq_iff_eq, decide_eq_false_iff_not, Bool.false_eq_true, reduceCtorEq, false_iff, true_iff] at *
  all_goals clear b1 l1 l2 l3 g i1 i3
  all_goals subst_vars
  all_goals first | (simp [partP, limsOf]; done) | (simp [partP, limsOf] <;> omega) | (simp [partP, limsOf, *] <;> omega)
end Go.Proofs.Ytfobbmllbbckkaa
/- Package ir: the letters of an operation's parts; lists of an operation. -/
set_option linter.unusedVariables false
set_option linter.unusedSimpArgs false
set_option maxRecDepth 20000
set_option maxHeartbeats 8000000
namespace Go.Proofs.Ytfobbmllbbckkaa
open Go Ax
/-- The letters of an operation's parts. -/
def fldL : List (List Nat) := [[], [110, 45, 45, 45], [82, 107, 45, 45], [82, 45, 45, 45], [82, 114, 45, 45], [82, 103, 45, 45], [103, 114, 45, 45], [82, 45, 45, 45], [114, 114, 112, 115], [82, 114, 112, 115], [114, 114, 112, 115], [82, 114, 114, 45], [114, 114, 114, 45],
  [114, 45, 112, 45], [114, 114, 45, 45], [82, 114, 117, 45], [82, 114, 114, 98], [116, 45, 45, 45], [116, 114, 45, 45], [116, 114, 45, 45], [82, 45, 45, 45], [82, 45, 45, 45], [82, 45, 99, 45], [114, 45, 45, 45], [114, 45, 45, 45], [114, 104, 45, 45], [82, 114, 105, 45],
  [82, 104, 105, 45], [114, 114, 105, 45], [114, 114, 104, 45], [82, 114, 45, 45]]
def fldN (k : Int) : List Nat := fldL.getD k.toNat []
def fldB (k : Int) : ByteArray := ⟨((fldN k).map UInt8.ofNat).toArray⟩
def fl (k : Int) (i : Nat) : Nat := (fldN k).getD i 0
theorem thirty {a : Int} (h1 : 1 ≤ a) (h7 : a ≤ 30) : a = 1 ∨ a = 2 ∨ a = 3 ∨ a = 4 ∨ a = 5 ∨ a = 6 ∨ a = 7 ∨ a = 8 ∨ a = 9 ∨ a = 10 ∨ a = 11 ∨ a = 12 ∨ a = 13 ∨ a = 14 ∨ a = 15 ∨ a = 16 ∨ a = 17 ∨ a = 18 ∨ a = 19 ∨ a = 20 ∨ a = 21 ∨ a = 22 ∨ a = 23 ∨ a = 24 ∨ a = 25 ∨ a = 26 ∨ a = 27 ∨ a = 28 ∨ a = 29 ∨ a = 30 := by omega
theorem fldB_no {k : Int} (h : ¬ (1 ≤ k ∧ k ≤ 30)) : fldB k = ⟨#[]⟩ := by
  unfold fldB fldN
  by_cases h0 : k < 1
  · rw [show k.toNat = 0 by omega]; rfl
  · rw [List.getD_eq_getElem?_getD, List.getElem?_eq_none (by simp [fldL]; omega)]; rfl
theorem fields_ax (H : Heap) (k : Int) : AX Try.prog 38 #[.int .i64 k] H (fun v H' => v = .string (fldB k) ∧ H' = H) := by
  refine AX.quiet ?_
  suffices hh : AX Try.prog 38 #[.int .i64 k] H (fun v H' => v = .string (fldB k) ∧ Grow H H') from hh.mono fun v _ ⟨e, g⟩ => ⟨e ▸ plain_str _, e, g⟩
  refine AX.body (n := 59) (rs := [.tmp 2]) Try.func38 rfl (by decide) rfl rfl (bC_sound _ _ _ _ ?_)
  by_cases h : 1 ≤ k ∧ k ≤ 30
  · rcases thirty h.1 h.2 with rfl | rfl | rfl | rfl | rfl | rfl | rfl | rfl | rfl | rfl | rfl | rfl | rfl | rfl | rfl | rfl | rfl | rfl | rfl | rfl | rfl | rfl | rfl | rfl | rfl | rfl | rfl | rfl | rfl | rfl <;> (refine run ?_; exact ⟨rfl, .refl _⟩)
  · rw [fldB_no h]
    (try (conv => whnf)); (repeat' ((fail_if_success (with_reducible refine And.intro ?_ ?_)); (fail_if_success (with_reducible refine Exists.intro ?_ ?_)); (first | (refine step0 ?_) | (apply bIf.of <;> intro hc <;> (conv => whnf)))))
    all_goals first | exact ⟨rfl, .refl _⟩ | (exfalso; (simp only [ba_ne_t, ba_ne_f, ba_eq_t, ba_eq_f, bne_iff_ne, bne_eq_false_iff_eq, decide_eq_true_eq, decide_eq_false_iff_not, beq_iff_eq, beq_eq_false_iff_ne, ne_eq, Bool.not_eq_true, Bool.not_eq_false, Bool.not_eq_true', Bool.not_eq_false'] at *); omega)
theorem fld_len {k : Int} (h : 1 ≤ k ∧ k ≤ 30) : (fldN k).length = 4 := by
  rcases thirty h.1 h.2 with rfl | rfl | rfl | rfl | rfl | rfl | rfl | rfl | rfl | rfl | rfl | rfl | rfl | rfl | rfl | rfl | rfl | rfl | rfl | rfl | rfl | rfl | rfl | rfl | rfl | rfl | rfl | rfl | rfl | rfl <;> rfl
theorem fldB_size {k : Int} (h : 1 ≤ k ∧ k ≤ 30) : (fldB k).size = 4 := by
  show (((fldN k).map UInt8.ofNat).toArray).size = 4
  simp [fld_len h]
theorem fldB_ne {k : Int} (h : 1 ≤ k ∧ k ≤ 30) : (fldB k == ⟨#[]⟩) = false := by
  rw [ba_eq_f]
  intro e
  have := fldB_size h
  rw [e] at this
  exact absurd this (by decide)
theorem fl_small {k : Int} (h : 1 ≤ k ∧ k ≤ 30) (i : Nat) (hi : i < 4) : fl k i < 128 := by
  rcases thirty h.1 h.2 with rfl | rfl | rfl | rfl | rfl | rfl | rfl | rfl | rfl | rfl | rfl | rfl | rfl | rfl | rfl | rfl | rfl | rfl | rfl | rfl | rfl | rfl | rfl | rfl | rfl | rfl | rfl | rfl | rfl | rfl <;> match i, hi with | 0, _ => decide | 1, _ => decide | 2, _ => decide | 3, _ => decide
theorem fldB_dec {k : Int} (h : 1 ≤ k ∧ k ≤ 30) {i : Nat} (hi : i < 4) : Utf8.decode (fldB k) i = (fl k i, 1) := by
  refine dec_ascii ?_ (fl_small h i hi)
  have hl := fld_len h
  show (((fldN k).map UInt8.ofNat).toArray)[i]?.map UInt8.toNat = _
  have hs := fl_small h i hi
  unfold fl at hs ⊢
  rw [List.getElem?_toArray, List.getElem?_map, List.getElem?_eq_getElem (by omega)]
  rw [List.getD_eq_getElem?_getD, List.getElem?_eq_getElem (by omega)] at hs ⊢
  simp only [Option.map_some, Option.getD_some, Option.some.injEq] at hs ⊢
  simp [UInt8.toNat_ofNat]; omega
theorem parts_ax (H : Heap) (o : OpX) (rv cv mv : Value) : AX Try.prog 37 #[opV o rv cv mv] H (fun v H' => v = .agg #[.int .i64 o.a, .int .i64 o.b, .int .i64 o.c, .int .i64 o.d] ∧ Grow H H') := by
  refine AX.body (n := 12) (rs := [.cell 2 71]) Try.func37 rfl (by decide) rfl rfl (bC_sound _ _ _ _ ?_)
  (conv => whnf)
  refine Ob2.box rfl fun q1 H1 hq1 a1 g1 => ?_
  have b1 := hblk_of a1
  refine run ?_
  refine Ob2.alloc rfl fun q2 H2 hq2 a2 g2 => ?_
  have b2 := g2.hblk b1
  refine run ?_
  refine Ob.store rfl rfl rfl a2 rfl (by first | exact Nat.le_of_ble_eq_true rfl | simp) fun H3 s3 k3 l3 => ?_
  have b3 := hblk_of s3
  refine run ?_
  exact ⟨rfl, g1.trans (g2.but_new k3 (by omega))⟩
/-- Are all numbers registers? -/
def RegsP (m : Int) (L : List Int) : Prop := ∀ x ∈ L, 0 ≤ x ∧ x < m
theorem indexi_ax {H : Heap} {u : Value} {L : List Int} (hu : RL 1 intR H u L) (hL : L.length < 4294967296) (g : Nat) (cap : Value) (m : Int)
    (hg : ∀ x : Int, AX Try.prog g #[.int .i64 x, cap] H (fun v H' => (∃ b, v = .bool b ∧ (b = true ↔ ¬ (0 ≤ x ∧ x < m))) ∧ H' = H)) :
    AX Try.prog 90 #[u, .func (.func g) #[] #[cap]] H (fun v H' => (∃ i : Int, v = .int .i64 i ∧ (0 ≤ i ↔ ¬ RegsP m L)) ∧ H' = H) := by
  refine AX.body (n := 19) (rs := [.tmp 4]) Try.func90 rfl (by decide) rfl rfl (bC_sound _ _ _ _ ?_)
  have l1 : alen Try.prog 38 u H = some (.int .i64 L.length) := hu.len rfl _
  refine run ?_
  refine SW.loop (α := Nat) (fun k => [(0, u), (1, .func (.func g) #[] #[cap]), (7, .int .i64 L.length), (8, .int .i64 (k : Int))]) (fun k H' => k ≤ L.length ∧ (∀ (i : Nat) x, i < k → L[i]? = some x → 0 ≤ x ∧ x < m) ∧ H' = H) (fun k => L.length - k) ⟨0, ⟨rfl, rfl, rfl, rfl, trivial⟩, by omega, fun i s h => by omega, rfl⟩ ?_
  rintro k X ⟨hm, ht, e⟩
  subst X
  refine bC_sound _ _ _ _ ?_
  by_cases hml : k < L.length
  · have d1 : decide ((k : Int) < (L.length : Int)) = true := decide_eq_true (by omega)
    obtain ⟨x, hx⟩ := get_lt hml
    obtain ⟨p, i1, i2⟩ := ld_int hu hx
    have i3 := i2 H (.refl _)
    refine run ?_
    refine (hg x).mono ?_
    rintro _ X ⟨⟨b, rfl, hb⟩, e⟩
    subst X
    cases b with
    | false =>
      have hp : 0 ≤ x ∧ x < m := Decidable.byContradiction fun h => by simpa using hb.2 h
      refine run ?_
      refine ⟨k + 1, ⟨rfl, rfl, rfl, congrArg (fun z => some (Value.int .i64 z)) (w_succ (by omega)), trivial⟩, ⟨hml, fun i s hi hs => ?_, rfl⟩, by show L.length - (k + 1) < L.length - k; omega⟩
      by_cases him : i = k
      · subst him; rw [hx] at hs; simp only [Option.some.injEq] at hs; subst hs; exact hp
      · exact ht i s (by omega) hs
    | true =>
      have hp := hb.1 rfl
      refine run ?_
      exact ⟨⟨k, rfl, fun _ h => hp (h x (List.mem_of_getElem? hx)), fun _ => by omega⟩, rfl⟩
  · have d1 : decide ((k : Int) < (L.length : Int)) = false := decide_eq_false (by omega)
    refine run ?_
    refine ⟨⟨-1, rfl, fun h => by omega, fun h => absurd (fun x hx => ?_) h⟩, rfl⟩
    obtain ⟨i, hi, rfl⟩ := List.getElem_of_mem hx
    exact ht i L[i] (by omega) (List.getElem?_eq_getElem hi)
theorem containsi_ax {H : Heap} {u : Value} {L : List Int} (hu : RL 1 intR H u L) (hL : L.length < 4294967296) (g : Nat) (cap : Value) (m : Int)
    (hg : ∀ x : Int, AX Try.prog g #[.int .i64 x, cap] H (fun v H' => (∃ b, v = .bool b ∧ (b = true ↔ ¬ (0 ≤ x ∧ x < m))) ∧ H' = H)) :
    AX Try.prog 64 #[u, .func (.func g) #[] #[cap]] H (fun v H' => (∃ b, v = .bool b ∧ (b = true ↔ ¬ RegsP m L)) ∧ H' = H) := by
  refine AX.body (n := 9) (rs := [.tmp 4]) Try.func64 rfl (by decide) rfl rfl (bC_sound _ _ _ _ ?_)
  refine run ?_
  refine (indexi_ax hu hL g cap m hg).mono ?_
  rintro _ X ⟨⟨i, rfl, hi⟩, e⟩
  subst X
  refine run ?_
  exact ⟨⟨_, rfl, by rw [decide_eq_true_eq]; exact hi⟩, rfl⟩
/-- How many registers an operation may list. -/
def leastP (k c : Int) : Int := if k = 20 then 1 else if k = 21 then 2 else if k = 22 then builtN c else 0
def mostP (k c : Int) : Int := if k = 20 then 7 else if k = 21 then 8 else if k = 22 then builtN c else 0
def CaseP (x : CaseT) : Prop := 1 ≤ x.1 ∧ -1 ≤ x.2.1 ∧ 0 ≤ x.2.2 ∧ x.2.2 < 12
instance (x : CaseT) : Decidable (CaseP x) := by unfold CaseP; infer_instance
def CasesP (L : List CaseT) : Prop := ∀ x ∈ L, CaseP x
def listsP (m : Int) (o : OpX) : Prop :=
  leastP o.kind o.c ≤ o.regs.length ∧ (o.regs.length : Int) ≤ mostP o.kind o.c ∧ RegsP m o.regs ∧ (o.kind ≠ 30 → o.cases.length = 0) ∧ (o.kind = 30 → 1 ≤ o.cases.length ∧ o.cases.length ≤ 4 ∧ CasesP o.cases)
theorem lists2_ax (H : Heap) (x : CaseT) : AX Try.prog 88 #[.agg #[.int .i64 x.1, .int .i64 x.2.1, .int .i64 x.2.2]] H (fun v H' => (∃ b, v = .bool b ∧ (b = true ↔ ¬ CaseP x)) ∧ H' = H) := by
  refine AX.quiet ?_
  suffices hh : AX Try.prog 88 #[.agg #[.int .i64 x.1, .int .i64 x.2.1, .int .i64 x.2.2]] H (fun v H' => (∃ b, v = .bool b ∧ (b = true ↔ ¬ CaseP x)) ∧ Grow H H') from hh.mono fun v _ ⟨⟨b, e, k⟩, g⟩ => ⟨e ▸ plain_bool _, ⟨b, e, k⟩, g⟩
  refine AX.body (n := 17) (rs := [.tmp 2]) Try.func88 rfl (by decide) rfl rfl (bC_sound _ _ _ _ ?_)
  (conv => whnf)
  refine Ob2.box rfl fun q1 H1 hq1 a1 g => ?_
  have b1 := hblk_of a1
  (try (conv => whnf)); (repeat' ((fail_if_success (with_reducible refine And.intro ?_ ?_)); (fail_if_success (with_reducible refine Exists.intro ?_ ?_)); (first | ((with_reducible refine AX.id ?_); (first | (refine (irBelow_ax _ _ _).mono ?_; (rintro _ X ⟨rfl, eX⟩; subst X; (conv => whnf))))) | (refine step0 ?_) | (apply bIf.of <;> intro hc <;> (conv => whnf)))))
  all_goals refine ⟨⟨_, rfl, ?_⟩, g⟩
  all_goals clear b1 a1 hq1 g
  all_goals (simp only [ba_ne_t, ba_ne_f, ba_eq_t, ba_eq_f, bne_iff_ne, bne_eq_false_iff_eq, decide_eq_true_eq, decide_eq_false_iff_not, beq_iff_eq, beq_eq_false_iff_ne, ne_eq, Bool.not_eq_true, Bool.not_eq_false, Bool.not_eq_true', Bool.not_eq_false'] at *)
  all_goals unfold CaseP
  all_goals first | omega | (simp only [true_iff, Bool.not_eq_true', decide_eq_false_iff_not]; omega)
theorem indexc_ax {H : Heap} {u : Value} {L : List CaseT} (hu : RL 3 caseR H u L) (hL : L.length < 4294967296) :
    AX Try.prog 103 #[u, fnV 88] H (fun v H' => (∃ i : Int, v = .int .i64 i ∧ (0 ≤ i ↔ ¬ CasesP L)) ∧ H' = H) := by
  refine AX.body (n := 19) (rs := [.tmp 4]) Try.func103 rfl (by decide) rfl rfl (bC_sound _ _ _ _ ?_)
  have l1 : alen Try.prog 40 u H = some (.int .i64 L.length) := hu.len rfl _
  refine run ?_
  refine SW.loop (α := Nat) (fun k => [(0, u), (1, fnV 88), (7, .int .i64 L.length), (8, .int .i64 (k : Int))]) (fun k H' => k ≤ L.length ∧ (∀ (i : Nat) x, i < k → L[i]? = some x → CaseP x) ∧ H' = H) (fun k => L.length - k) ⟨0, ⟨rfl, rfl, rfl, rfl, trivial⟩, by omega, fun i s h => by omega, rfl⟩ ?_
  rintro k X ⟨hm, ht, e⟩
  subst X
  refine bC_sound _ _ _ _ ?_
  by_cases hml : k < L.length
  · have d1 : decide ((k : Int) < (L.length : Int)) = true := decide_eq_true (by omega)
    obtain ⟨x, hx⟩ := get_lt hml
    obtain ⟨p, i1, i2⟩ := ldx_case hu hx
    have i3 := (i2 H (.refl _)).1
    refine run ?_
    refine (lists2_ax H x).mono ?_
    rintro _ X ⟨⟨b, rfl, hb⟩, e⟩
    subst X
    cases b with
    | false =>
      have hp : CaseP x := Decidable.byContradiction fun h => by simpa using hb.2 h
      refine run ?_
      refine ⟨k + 1, ⟨rfl, rfl, rfl, congrArg (fun z => some (Value.int .i64 z)) (w_succ (by omega)), trivial⟩, ⟨hml, fun i s hi hs => ?_, rfl⟩, by show L.length - (k + 1) < L.length - k; omega⟩
      by_cases him : i = k
      · subst him; rw [hx] at hs; simp only [Option.some.injEq] at hs; subst hs; exact hp
      · exact ht i s (by omega) hs
    | true =>
      have hp := hb.1 rfl
      refine run ?_
      exact ⟨⟨k, rfl, fun _ h => hp (h x (List.mem_of_getElem? hx)), fun _ => by omega⟩, rfl⟩
  · have d1 : decide ((k : Int) < (L.length : Int)) = false := decide_eq_false (by omega)
    refine run ?_
    refine ⟨⟨-1, rfl, fun h => by omega, fun h => absurd (fun x hx => ?_) h⟩, rfl⟩
    obtain ⟨i, hi, rfl⟩ := List.getElem_of_mem hx
    exact ht i L[i] (by omega) (List.getElem?_eq_getElem hi)
theorem containsc_ax {H : Heap} {u : Value} {L : List CaseT} (hu : RL 3 caseR H u L) (hL : L.length < 4294967296) :
    AX Try.prog 87 #[u, fnV 88] H (fun v H' => (∃ b, v = .bool b ∧ (b = true ↔ ¬ CasesP L)) ∧ H' = H) := by
  refine AX.body (n := 9) (rs := [.tmp 4]) Try.func87 rfl (by decide) rfl rfl (bC_sound _ _ _ _ ?_)
  refine run ?_
  refine (indexc_ax hu hL).mono ?_
  rintro _ X ⟨⟨i, rfl, hi⟩, e⟩
  subst X
  refine run ?_
  exact ⟨⟨_, rfl, by rw [decide_eq_true_eq]; exact hi⟩, rfl⟩
end Go.Proofs.Ytfobbmllbbckkaa
/- Package ir: may an operation's lists be? -/
set_option linter.unusedVariables false
set_option linter.unusedSimpArgs false
set_option maxRecDepth 20000
set_option maxHeartbeats 8000000
namespace Go.Proofs.Ytfobbmllbbckkaa
open Go Ax
abbrev chkL (p : ProgT) (ps cs : Value) (b : BodyX) (kv ov dv sv : Value) : List Value := [.int .i64 p.1, ps, cs, .int .i64 b.F, .int .i64 b.regs, kv, ov, dv, sv]
theorem lists1_ax {H : Heap} {p : ProgT} {ps cs kv ov dv sv : Value} {b : BodyX} {q : Nat} (hq : hblk H q = some (chkL p ps cs b kv ov dv sv)) (x : Int) :
    AX Try.prog 86 #[.int .i64 x, .pointer (some ⟨q, 0, none⟩)] H (fun v H' => (∃ t, v = .bool t ∧ (t = true ↔ ¬ (0 ≤ x ∧ x < b.regs))) ∧ H' = H) := by
  refine AX.body (n := 10) (rs := [.tmp 3]) Try.func86 rfl (by decide) rfl rfl (bC_sound _ _ _ _ ?_)
  (try (conv => whnf)); (repeat' ((fail_if_success (with_reducible refine And.intro ?_ ?_)); (fail_if_success (with_reducible refine Exists.intro ?_ ?_)); (first | ((with_reducible refine AX.id ?_); (first | (refine (irBelow_ax _ _ _).mono ?_; (rintro _ X ⟨rfl, eX⟩; subst X; (conv => whnf))))) | (refine step0 ?_) | (apply bIf.of <;> intro hc <;> (conv => whnf)))))
  refine ⟨⟨_, rfl, ?_⟩, rfl⟩
  rw [Bool.not_eq_true', decide_eq_false_iff_not]
theorem op1_ax {H : Heap} {p : ProgT} {ps cs kv ov dv sv : Value} {b : BodyX} {q : Nat} (hq : hblk H q = some (chkL p ps cs b kv ov dv sv)) (x : Int) :
    AX Try.prog 65 #[.int .i64 x, .pointer (some ⟨q, 0, none⟩)] H (fun v H' => (∃ t, v = .bool t ∧ (t = true ↔ ¬ (0 ≤ x ∧ x < b.regs))) ∧ H' = H) := by
  refine AX.body (n := 10) (rs := [.tmp 3]) Try.func65 rfl (by decide) rfl rfl (bC_sound _ _ _ _ ?_)
  (try (conv => whnf)); (repeat' ((fail_if_success (with_reducible refine And.intro ?_ ?_)); (fail_if_success (with_reducible refine Exists.intro ?_ ?_)); (first | ((with_reducible refine AX.id ?_); (first | (refine (irBelow_ax _ _ _).mono ?_; (rintro _ X ⟨rfl, eX⟩; subst X; (conv => whnf))))) | (refine step0 ?_) | (apply bIf.of <;> intro hc <;> (conv => whnf)))))
  refine ⟨⟨_, rfl, ?_⟩, rfl⟩
  rw [Bool.not_eq_true', decide_eq_false_iff_not]
theorem lists_ax {H : Heap} {p : ProgT} {ps cs kv ov dv sv rv cv mv : Value} {b : BodyX} {o : OpX} (hr : RL 1 intR H rv o.regs) (hc : RL 3 caseR H cv o.cases) (hL : o.regs.length < 4294967296) (hC : o.cases.length < 4294967296) :
    AX Try.prog 62 #[chkV p ps cs b kv ov dv sv, opV o rv cv mv] H (fun v H' => (∃ t, v = .bool t ∧ (t = true ↔ listsP b.regs o)) ∧ H' = H) := by
  refine AX.quiet ?_
  suffices hh : AX Try.prog 62 #[chkV p ps cs b kv ov dv sv, opV o rv cv mv] H (fun v H' => (∃ t, v = .bool t ∧ (t = true ↔ listsP b.regs o)) ∧ Grow H H') from hh.mono fun v _ ⟨⟨b, e, k⟩, g⟩ => ⟨e ▸ plain_bool _, ⟨b, e, k⟩, g⟩
  refine AX.body (n := 63) (rs := [.tmp 4]) Try.func62 rfl (by decide) rfl rfl (bC_sound _ _ _ _ ?_)
  (conv => whnf)
  refine Ob2.box rfl fun q1 H1 hq1 a1 g1 => ?_
  (conv => whnf)
  refine Ob2.box rfl fun q2 H2 hq2 a2 g2 => ?_
  have b1 := hblk_of (g2.at a1)
  have b2 := hblk_of a2
  have g := g1.trans g2
  have l1 : alen Try.prog 38 rv H2 = some (.int .i64 o.regs.length) := hr.len rfl _
  have l2 : alen Try.prog 40 cv H2 = some (.int .i64 o.cases.length) := hc.len rfl _
  have cont := containsi_ax (intR.grow hr g) hL 86 (.pointer (some ⟨q1, 0, none⟩)) b.regs (lists1_ax b1)
  have contc := containsc_ax (caseR.grow hc g) hC
  clear a1 a2 g1 g2 hr hc
  (try (conv => whnf)); (repeat' ((fail_if_success (with_reducible refine And.intro ?_ ?_)); (fail_if_success (with_reducible refine Exists.intro ?_ ?_)); (first | ((with_reducible refine AX.id ?_); (first | (refine (built_ax _ _).mono ?_; (rintro _ X ⟨rfl, eX⟩; subst X; (conv => whnf))) | (refine (cont).mono ?_; (rintro _ X ⟨⟨bb, rfl, hb⟩, eX⟩; subst X; cases bb <;> (conv => whnf))) | (refine (contc).mono ?_; (rintro _ X ⟨⟨bb, rfl, hb⟩, eX⟩; subst X; cases bb <;> (conv => whnf))))) | (refine step0 ?_) | (apply bIf.of <;> intro hc <;> (conv => whnf)))))
  all_goals clear b1 b2 l1 l2 cont contc hq1 hq2
  all_goals refine ⟨⟨_, rfl, ?_⟩, g⟩
  all_goals clear g
  all_goals (simp only [ba_ne_t, ba_ne_f, ba_eq_t, ba_eq_f, bne_iff_ne, bne_eq_false_iff_eq, decide_eq_true_eq, decide_eq_false_iff_not, beq_iff_eq, beq_eq_false_iff_ne, ne_eq, Bool.not_eq_true, Bool.not_eq_false, Bool.not_eq_true', Bool.not_eq_false'] at *)
  all_goals simp only [listsP, leastP, mostP, Bool.false_eq_true, false_iff, true_iff, Decidable.not_not, Bool.not_false, Bool.not_true] at *
  all_goals grind
end Go.Proofs.Ytfobbmllbbckkaa
/- Package ir: may an operation be? -/
set_option linter.unusedVariables false
set_option linter.unusedSimpArgs false
set_option maxRecDepth 20000
set_option maxHeartbeats 8000000
namespace Go.Proofs.Ytfobbmllbbckkaa
open Go Ax
def jumps (k : Int) : Bool := decide (17 ≤ k ∧ k ≤ 19)
theorem irGoes_ax (H : Heap) (k : Int) : AX Try.prog 40 #[.int .i64 k] H (fun v H' => v = .bool (jumps k) ∧ H' = H) := by
  refine AX.body (n := 13) (rs := [.tmp 2]) Try.func40 rfl (by decide) rfl rfl (bC_sound _ _ _ _ ?_)
  (try (conv => whnf)); (repeat' ((fail_if_success (with_reducible refine And.intro ?_ ?_)); (fail_if_success (with_reducible refine Exists.intro ?_ ?_)); (first | (refine step0 ?_) | (apply bIf.of <;> intro hc <;> (conv => whnf)))))
  all_goals refine ⟨congrArg Value.bool ?_, rfl⟩
  all_goals (simp only [ba_ne_t, ba_ne_f, ba_eq_t, ba_eq_f, bne_iff_ne, bne_eq_false_iff_eq, decide_eq_true_eq, decide_eq_false_iff_not, beq_iff_eq, beq_eq_false_iff_ne, ne_eq, Bool.not_eq_true, Bool.not_eq_false, Bool.not_eq_true', Bool.not_eq_false'] at *)
  all_goals rw [Bool.eq_iff_iff]
  all_goals simp only [jumps, decide_eq_true_eq, beq_iff_eq, true_iff]
  all_goals omega
def partN (o : OpX) (i : Nat) : Int := [o.a, o.b, o.c, o.d].getD i 0
def PartsP (m : Lims) (o : OpX) (n : Nat) : Prop := ∀ i, i < n → partP m (fl o.kind i) (partN o i)
def PcP (m : Lims) (L : List Int) (o : OpX) : Prop := 0 ≤ o.pc ∧ o.pc < L.length ∧ L[o.pc.toNat]? = some (o.map.length : Int) ∧ RegsP m.rg o.map
def kindAt (ops : List OpX) (a : Int) : Int := (ops.getD a.toNat (0, 0, 0, 0, 0, [], [], 0, [])).1
def JumpP (ops : List OpX) (at_ : Int) (o : OpX) : Prop := jumps o.kind = true → at_ < o.a ∨ kindAt ops o.a = 1
def opP (m : Lims) (L : List Int) (ops : List OpX) (at_ : Int) (o : OpX) : Prop :=
  (1 ≤ o.kind ∧ o.kind ≤ 30) ∧ listsP m.rg o ∧ PartsP m o 4 ∧ PcP m L o ∧ JumpP ops at_ o
theorem PartsP.next {m : Lims} {o : OpX} {n : Nat} (h : PartsP m o n) (k : partP m (fl o.kind n) (partN o n)) : PartsP m o (n + 1) := fun i hi => by
  by_cases e : i = n
  · subst e; exact k
  · exact h i (by omega)
theorem PartsP.jump {m : Lims} {o : OpX} (h : PartsP m o 4) (k : jumps o.kind = true) : 0 ≤ o.a ∧ o.a < m.no := by
  have h0 := h 0 (by decide)
  have hk : o.kind = 17 ∨ o.kind = 18 ∨ o.kind = 19 := by simp only [jumps, decide_eq_true_eq] at k; omega
  have hf : fl o.kind 0 = 116 := by rcases hk with e | e | e <;> rw [e] <;> rfl
  rw [hf] at h0
  exact h0
theorem part2_ax {H : Heap} {p : ProgT} {ps cs kv ov dv sv : Value} {c : CodeT} {b : BodyX} {f : Nat} (hp : RL 1 strR H ps p.2.1) (hcs : RL 5 codeR H cs p.2.2) (hb : BodyIn H b kv ov dv) (hF : b.F = (f : Int)) (hf : p.2.2[f]? = some c) (t n : Int) :
    AX Try.prog 63 #[chkV p ps cs b kv ov dv sv, .int .i32 t, .int .i64 n] H (fun v H' => (∃ u, v = .bool u ∧ (u = true ↔ partP (limsOf p c b) t n)) ∧ H' = H) :=
  (part_ax hp hcs hb hF hf t n).mono fun v H' h => ⟨⟨_, h.1, decide_eq_true_iff⟩, h.2⟩
theorem op_ax {H : Heap} {p : ProgT} {ps cs kv ov dv sv : Value} {c : CodeT} {b : BodyX} {f at_ : Nat} {L : List Int} {o : OpX} (hp : RL 1 strR H ps p.2.1) (hcs : RL 5 codeR H cs p.2.2) (hb : BodyIn H b kv ov dv) (hs : RL 1 intR H sv L) (hF : b.F = (f : Int)) (hf : p.2.2[f]? = some c)
    (hat : b.ops[at_]? = some o) (hrl : o.regs.length < 4294967296) (hcl : o.cases.length < 4294967296) (hml : o.map.length < 4294967296) :
    AX Try.prog 26 #[chkV p ps cs b kv ov dv sv, .int .i64 (at_ : Int)] H (fun v H' => (∃ t, v = .bool t ∧ (t = true ↔ opP (limsOf p c b) L b.ops at_ o)) ∧ H' = H) := by
  refine AX.quiet ?_
  suffices hh : AX Try.prog 26 #[chkV p ps cs b kv ov dv sv, .int .i64 (at_ : Int)] H (fun v H' => (∃ t, v = .bool t ∧ (t = true ↔ opP (limsOf p c b) L b.ops at_ o)) ∧ Grow H H') from hh.mono fun v _ ⟨⟨b, e, k⟩, g⟩ => ⟨e ▸ plain_bool _, ⟨b, e, k⟩, g⟩
  refine AX.body (n := 88) (rs := [.tmp 4]) Try.func26 rfl (by decide) rfl rfl (bC_sound _ _ _ _ ?_)
  (conv => whnf)
  refine Ob2.box rfl fun q1 H1 hq1 a1 g1 => ?_
  have b1 := hblk_of a1
  obtain ⟨bo, rv, cv, mv, i1, hr, hcs', hm', i2⟩ := ldx_op hb.ops hat
  have i3 := (i2 H1 g1).1
  refine run ?_
  refine Ob2.alloc rfl fun q2 H2 hq2 a2 g2 => ?_
  have b1 := g2.hblk b1
  refine run ?_
  refine Ob.store rfl rfl rfl a2 rfl (by first | exact Nat.le_of_ble_eq_true rfl | simp) fun H3 s3 k3 l3 => ?_
  have g3 : Grow H1 H3 := g2.but_new k3 (by omega)
  have b1 := k3.hblk b1 (by have := lt_at a1; omega)
  have b2 := hblk_of s3
  have g : Grow H H3 := g1.trans g3
  clear i3 a2 g2 s3
  refine run ?_
  refine (fields_ax H3 o.kind).mono ?_
  rintro _ X ⟨rfl, e⟩
  subst X
  by_cases hk : 1 ≤ o.kind ∧ o.kind ≤ 30
  rotate_left
  · have e0 : (fldB o.kind == ⟨#[]⟩) = true := by rw [fldB_no hk]; rfl
    refine run ?_
    exact ⟨⟨false, rfl, by simp only [Bool.false_eq_true, false_iff]; exact fun h => hk h.1⟩, g⟩
  have e0 := fldB_ne hk
  refine run ?_
  refine (lists_ax (b := b) (p := p) (ps := ps) (cs := cs) (kv := kv) (ov := ov) (dv := dv) (sv := sv) (mv := mv) (intR.grow hr g) (caseR.grow hcs' g) hrl hcl).mono ?_
  rintro _ X ⟨⟨t, rfl, ht⟩, e⟩
  subst X
  cases t with
  | false =>
    refine run ?_
    exact ⟨⟨false, rfl, by simp only [Bool.false_eq_true, false_iff]; exact fun h => by simpa using ht.2 h.2.1⟩, g⟩
  | true =>
  have hl := ht.1 rfl
  refine run ?_
  refine (parts_ax H3 o rv cv mv).mono ?_
  rintro _ H4 ⟨rfl, g4⟩
  have b1 := g4.hblk b1
  have b2 := g4.hblk b2
  have n1 := lt_hblk b1
  have n2 := lt_hblk b2
  refine run ?_
  refine Ob2.alloc rfl fun q5 H5 hq5 a5 g5 => ?_
  have b1 := g5.hblk b1
  have b2 := g5.hblk b2
  refine run ?_
  refine Ob.store rfl rfl rfl a5 rfl (by first | exact Nat.le_of_ble_eq_true rfl | simp) fun H6 s6 k6 l6 => ?_
  have g6 : Grow H4 H6 := g5.but_new k6 (by omega)
  have b1 := k6.hblk b1 (by omega)
  have b2 := k6.hblk b2 (by omega)
  have b3 := hblk_of s6
  have n3 := lt_hblk b3
  have g7 : Grow H H6 := (g.trans g4).trans g6
  clear a5 g5 s6 k6 l6
  refine run ?_
  refine Ob2.range rfl fun q7 H7 hq7 a7 g8 => ?_
  have b1 := g8.hblk b1
  have b2 := g8.hblk b2
  have b3 := g8.hblk b3
  have hg7 : Grow H H7 := g7.trans g8
  have hlen : H.length ≤ q7 := by have := g7.1; omega
  have ne1 : q1 ≠ q7 := by have := g6.1; omega
  have ne2 : q2 ≠ q7 := by have := g6.1; omega
  have ne3 : q5 ≠ q7 := by omega
  refine run ?_
  refine SW.loop (α := Nat) (fun m => [(1, .int .i64 (at_ : Int)), (2, .pointer (some ⟨q1, 0, none⟩)), (5, .pointer (some ⟨q2, 0, none⟩)), (7, .pointer (some ⟨q5, 0, none⟩)), (30, .pointer (some ⟨q7, 0, none⟩))])
    (fun m X => m ≤ 4 ∧ PartsP (limsOf p c b) o m ∧ X[q7]? = some (.iter (fldB o.kind) m) ∧ hblk X q1 = some (chkL p ps cs b kv ov dv sv) ∧ hblk X q2 = hblk H7 q2 ∧ hblk X q5 = hblk H7 q5 ∧ Grow H X) (fun m => 4 - m)
    ⟨0, ⟨rfl, rfl, rfl, rfl, rfl, trivial⟩, by omega, fun i hi => by omega, a7, b1, rfl, rfl, hg7⟩ ?_
  rintro m X ⟨hm4, hP, hit, c1, c2, c3, gx⟩
  rw [b2] at c2
  rw [b3] at c3
  have b2' := b2
  have b3' := b3
  clear b1 b2 b3 a7 g8 hg7 g7
  refine bC_sound _ _ _ _ ?_
  by_cases hm : m < 4
  · have hdec := fldB_dec hk hm
    have hsz := fldB_size hk
    refine run ?_
    refine Ob2.next hit (by omega) hdec fun X2 t1 t2 t3 => ?_
    have d1 := t2.hblk c1 ne1
    have d2 := t2.hblk c2 ne2
    have d3 := t2.hblk c3 ne3
    have gx2 : Grow H X2 := gx.but_new t2 (by omega)
    refine run ?_
    have pa := part2_ax (sv := sv) (strR.grow hp gx2) (codeR.grow hcs gx2) (hb.grow gx2) hF hf
    have fin : partP (limsOf p c b) (fl o.kind m) (partN o m) → (m + 1 ≤ 4 ∧ PartsP (limsOf p c b) o (m + 1) ∧ X2[q7]? = some (.iter (fldB o.kind) (m + 1)) ∧ hblk X2 q1 = some (chkL p ps cs b kv ov dv sv) ∧ hblk X2 q2 = hblk H7 q2 ∧ hblk X2 q5 = hblk H7 q5 ∧ Grow H X2) ∧ 4 - (m + 1) < 4 - m :=
      fun h => ⟨⟨by omega, hP.next h, t1, d1, by rw [d2, b2'], by rw [d3, b3'], gx2⟩, by omega⟩
    have bad : ¬ partP (limsOf p c b) (fl o.kind m) (partN o m) → ((∃ t, Value.bool false = .bool t ∧ (t = true ↔ opP (limsOf p c b) L b.ops at_ o)) ∧ Grow H X2) :=
      fun h => ⟨⟨false, rfl, by simp only [Bool.false_eq_true, false_iff]; exact fun k => h (k.2.2.1 m hm)⟩, gx2⟩
    rcases (by omega : m = 0 ∨ m = 1 ∨ m = 2 ∨ m = 3) with rfl | rfl | rfl | rfl
    all_goals
      apply SW.drawG [(0, [], [36, 37, 38, 39], false), (1, [], [35, 37, 38, 39], false), (2, [], [35, 36], false), (3, [(37, 2)], [35, 36, 37], false), (4, [(37, 2), (38, 3)], [35, 36, 37, 38], false), (5, [(35, 0), (36, 1), (37, 2), (38, 3), (39, 4)], [35, 36, 37, 38, 39], true), (6, [(35, 0), (36, 1), (37, 2), (38, 3), (39, 4), (40, 5)], [35, 36, 37, 38, 39, 40], false)]
        [(35, 0), (36, 1), (37, 2), (38, 3), (39, 4), (40, 5), (41, 6)]
        [(1, _), (2, _), (5, _), (7, _), (8, _), (9, _), (30, _)] rfl (by kernel_rfl)
      case hF => exact ⟨rfl, rfl, rfl, rfl, rfl, rfl, rfl, trivial⟩
      refine run ?_
      refine (pa _ _).mono ?_
      rintro _ X' ⟨⟨t, rfl, ht⟩, e⟩
      subst X'
      cases t with
      | true =>
        refine run ?_
        exact ⟨_, ⟨rfl, rfl, rfl, rfl, rfl, trivial⟩, fin (ht.1 rfl)⟩
      | false =>
        refine run ?_
        exact bad fun h => by simpa using ht.2 h
  · have hm4 : m = 4 := by omega
    subst hm4
    have hsz := fldB_size hk
    refine run ?_
    refine Ob2.nextEnd hit (by omega) ?_
    refine run ?_
    have cm := containsi_ax (intR.grow hm' gx) hml 65 (.pointer (some ⟨q1, 0, none⟩)) b.regs (op1_ax c1)
    have l1 : alen Try.prog 38 sv X = some (.int .i64 L.length) := hs.len rfl _
    have l2 : alen Try.prog 38 mv X = some (.int .i64 o.map.length) := hm'.len rfl _
    have hpc : (0 ≤ o.pc ∧ o.pc < L.length) → ∃ q d, aindexAddr Try.prog 38 sv (.int .i64 o.pc) = some q ∧ aload Try.prog 3 q X = some (.int .i64 d) ∧ L[o.pc.toNat]? = some d := fun h => by
      obtain ⟨j, hj⟩ : ∃ j : Nat, o.pc = (j : Int) := ⟨o.pc.toNat, by omega⟩
      obtain ⟨d, hd⟩ := get_lt (L := L) (m := j) (by omega)
      obtain ⟨q, k1, k2⟩ := ld_int hs hd
      exact ⟨q, d, by rw [hj]; exact k1, k2 X gx, by rw [hj, Int.toNat_natCast]; exact hd⟩
    have hja : jumps o.kind = true → ∃ q z, aindexAddr Try.prog 27 ov (.int .i64 o.a) = some (.pointer (some ⟨q, z, none⟩)) ∧ aload Try.prog 3 (.pointer (some ⟨q, z, none⟩)) X = some (.int .i64 (kindAt b.ops o.a)) := fun h => by
      have h1 := hP.jump h
      have h2 : (limsOf p c b).no = b.ops.length := rfl
      obtain ⟨j, hj⟩ : ∃ j : Nat, o.a = (j : Int) := ⟨o.a.toNat, by omega⟩
      obtain ⟨y, hy⟩ := get_lt (L := b.ops) (m := j) (by omega)
      obtain ⟨bq, _, _, _, k1, _, _, _, k2⟩ := ldx_op hb.ops hy
      refine ⟨_, _, by rw [hj]; exact k1, ?_⟩
      rw [(k2 X gx).2]
      unfold kindAt
      rw [hj, Int.toNat_natCast, List.getD_eq_getElem?_getD, hy]
      rfl
    have fin : ∀ t : Bool, (t = true ↔ PcP (limsOf p c b) L o ∧ JumpP b.ops at_ o) → ((∃ u, Value.bool t = .bool u ∧ (u = true ↔ opP (limsOf p c b) L b.ops at_ o)) ∧ Grow H X) := fun t h => ⟨⟨t, rfl, h.trans ⟨fun h => ⟨hk, hl, hP, h.1, h.2⟩, fun h => ⟨h.2.2.2.1, h.2.2.2.2⟩⟩⟩, gx⟩
    have hrg : (limsOf p c b).rg = b.regs := rfl
    unfold PcP JumpP at fin
    rw [hrg] at fin
    clear hcs hb hs hp hP hit hat a1 n1 n2 n3 hlen ne1 ne2 ne3
    by_cases h1 : 0 ≤ o.pc ∧ o.pc < L.length
    · obtain ⟨q, d, k1, k2, k3⟩ := hpc h1
      have e1 : (!decide (0 ≤ o.pc ∧ o.pc < (L.length : Int))) = false := by rw [decide_eq_true h1]; rfl
      rw [k3] at fin
      by_cases h2 : jumps o.kind = true
      · obtain ⟨q', z', k4, k5⟩ := hja h2
        have e2 : (!jumps o.kind) = false := by rw [h2]; rfl
        apply SW.drawG [(0, [], [44, 45, 46], false), (1, [(42, 0)], [42, 44, 45, 46], false), (2, [], [42, 43], false), (3, [(44, 2)], [42, 43, 44], false), (4, [(44, 2), (45, 3)], [42, 43, 44, 45], false), (5, [(42, 0), (43, 1), (44, 2), (45, 3), (46, 4)], [42, 43, 44, 45, 46], true), (6, [(42, 0), (43, 1), (44, 2), (45, 3), (46, 4), (47, 5)], [42, 43, 44, 45, 46, 47], false), (7, [(42, 0), (43, 1), (44, 2), (45, 3), (46, 4), (47, 5), (48, 6)], [42, 43, 44, 45, 46, 47, 48], false), (8, [(42, 0), (43, 1), (44, 2), (45, 3), (46, 4), (47, 5), (48, 6), (49, 7)], [42, 43, 44, 45, 46, 47, 48, 49, 52, 53, 56, 57, 58], false), (9, [(42, 0), (43, 1), (44, 2), (45, 3), (46, 4), (47, 5), (48, 6), (49, 7), (50, 8)], [42, 43, 44, 45, 46, 47, 48, 49, 50, 52, 53, 56, 57, 58], false), (10, [(42, 0), (43, 1), (44, 2), (45, 3), (46, 4), (47, 5), (48, 6), (49, 7)], [42, 43, 44, 45, 46, 47, 48, 49, 50, 51, 56, 57, 58], false), (11, [(42, 0), (43, 1), (44, 2), (45, 3), (46, 4), (47, 5), (48, 6), (49, 7), (52, 10)], [42, 43, 44, 45, 46, 47, 48, 49, 50, 51, 52, 56, 57, 58], false), (12, [(42, 0), (43, 1), (44, 2), (45, 3), (46, 4), (47, 5), (48, 6), (49, 7), (50, 8), (51, 9), (52, 10), (53, 11)], [42, 43, 44, 45, 46, 47, 48, 49, 50, 51, 52, 53, 56, 57, 58], false), (13, [(42, 0), (43, 1), (44, 2), (45, 3), (46, 4), (47, 5), (48, 6), (49, 7), (50, 8), (51, 9), (52, 10), (53, 11), (54, 12)], [42, 43, 44, 45, 46, 47, 48, 49, 50, 51, 52, 53, 54, 56, 57, 58], false), (14, [(42, 0), (43, 1), (44, 2), (45, 3), (46, 4), (47, 5), (48, 6), (49, 7)], [42, 43, 44, 45, 46, 47, 48, 49, 50, 51, 52, 53, 54, 55], false), (15, [(42, 0), (43, 1), (44, 2), (45, 3), (46, 4), (47, 5), (48, 6), (49, 7), (56, 14)], [42, 43, 44, 45, 46, 47, 48, 49, 50, 51, 52, 53, 54, 55, 56], false), (16, [(42, 0), (43, 1), (44, 2), (45, 3), (46, 4), (47, 5), (48, 6), (49, 7), (56, 14), (57, 15)], [42, 43, 44, 45, 46, 47, 48, 49, 50, 51, 52, 53, 54, 55, 56, 57], false), (17, [(42, 0), (43, 1), (44, 2), (45, 3), (46, 4), (47, 5), (48, 6), (49, 7), (50, 8), (51, 9), (52, 10), (53, 11), (54, 12), (55, 13), (56, 14), (57, 15), (58, 16)], [42, 43, 44, 45, 46, 47, 48, 49, 50, 51, 52, 53, 54, 55, 56, 57, 58], false), (18, [(42, 0), (43, 1), (44, 2), (45, 3), (46, 4), (47, 5), (48, 6), (49, 7), (50, 8), (51, 9), (52, 10), (53, 11), (54, 12), (55, 13), (56, 14), (57, 15), (58, 16), (59, 17)], [42, 43, 44, 45, 46, 47, 48, 49, 50, 51, 52, 53, 54, 55, 56, 57, 58, 59], false), (19, [(42, 0), (43, 1), (44, 2), (45, 3), (46, 4), (47, 5), (48, 6), (49, 7), (50, 8), (51, 9), (52, 10), (53, 11), (54, 12), (55, 13), (56, 14), (57, 15), (58, 16), (59, 17), (60, 18)], [42, 43, 44, 45, 46, 47, 48, 49, 50, 51, 52, 53, 54, 55, 56, 57, 58, 59, 60], false), (20, [(42, 0), (43, 1), (44, 2), (45, 3), (46, 4), (47, 5), (48, 6), (49, 7), (50, 8), (51, 9), (52, 10), (53, 11), (54, 12), (55, 13), (56, 14), (57, 15), (58, 16), (59, 17), (60, 18), (61, 19)], [42, 43, 44, 45, 46, 47, 48, 49, 50, 51, 52, 53, 54, 55, 56, 57, 58, 59, 60, 61, 64], false), (21, [(42, 0), (43, 1), (44, 2), (45, 3), (46, 4), (47, 5), (48, 6), (49, 7), (50, 8), (51, 9), (52, 10), (53, 11), (54, 12), (55, 13), (56, 14), (57, 15), (58, 16), (59, 17), (60, 18), (61, 19), (62, 20)], [42, 43, 44, 45, 46, 47, 48, 49, 50, 51, 52, 53, 54, 55, 56, 57, 58, 59, 60, 61, 62, 64], false), (22, [(42, 0), (43, 1), (44, 2), (45, 3), (46, 4), (47, 5), (48, 6), (49, 7), (50, 8), (51, 9), (52, 10), (53, 11), (54, 12), (55, 13), (56, 14), (57, 15), (58, 16), (59, 17), (60, 18), (61, 19)], [42, 43, 44, 45, 46, 47, 48, 49, 50, 51, 52, 53, 54, 55, 56, 57, 58, 59, 60, 61, 62, 63], false), (23, [(42, 0), (43, 1), (44, 2), (45, 3), (46, 4), (47, 5), (48, 6), (49, 7), (50, 8), (51, 9), (52, 10), (53, 11), (54, 12), (55, 13), (56, 14), (57, 15), (58, 16), (59, 17), (60, 18), (61, 19), (62, 20), (63, 21), (64, 22)], [42, 43, 44, 45, 46, 47, 48, 49, 50, 51, 52, 53, 54, 55, 56, 57, 58, 59, 60, 61, 62, 63, 64], true), (24, [(42, 0), (43, 1), (44, 2), (45, 3), (46, 4), (47, 5), (48, 6), (49, 7), (50, 8), (51, 9), (52, 10), (53, 11), (54, 12), (55, 13), (56, 14), (57, 15), (58, 16), (59, 17), (60, 18), (61, 19), (62, 20), (63, 21), (64, 22), (65, 23)], [42, 43, 44, 45, 46, 47, 48, 49, 50, 51, 52, 53, 54, 55, 56, 57, 58, 59, 60, 61, 62, 63, 64, 65], false)]
          [(42, 0), (43, 1), (44, 2), (45, 3), (46, 4), (47, 5), (48, 6), (49, 7), (50, 8), (51, 9), (52, 10), (53, 11), (54, 12), (55, 13), (56, 14), (57, 15), (58, 16), (59, 17), (60, 18), (61, 19), (62, 20), (63, 21), (64, 22), (65, 23), (66, 24)]
          [(1, _), (2, _), (5, _)] rfl (by kernel_rfl)
        case hF => exact ⟨rfl, rfl, rfl, trivial⟩
        (try (conv => whnf)); (repeat' ((fail_if_success (with_reducible refine And.intro ?_ ?_)); (fail_if_success (with_reducible refine Exists.intro ?_ ?_)); (first | ((with_reducible refine AX.id ?_); (first | (refine (irBelow_ax _ _ _).mono ?_; (rintro _ X ⟨rfl, eX⟩; subst X; (conv => whnf))) | (refine (cm).mono ?_; (rintro _ X ⟨⟨bb, rfl, hb⟩, eX⟩; subst X; cases bb <;> (conv => whnf))) | (refine (irGoes_ax _ _).mono ?_; (rintro _ X ⟨rfl, eX⟩; subst X; (conv => whnf))))) | (refine step0 ?_) | (apply bIf.of <;> intro hc <;> (conv => whnf)))))
        all_goals refine fin _ ?_
        all_goals clear fin cm gx c1 c2 c3 l1 l2 b2' b3' i1 i2 hr hcs' hm' ht hpc hja g1 b1
        all_goals (simp only [ba_ne_t, ba_ne_f, ba_eq_t, ba_eq_f, bne_iff_ne, bne_eq_false_iff_eq, decide_eq_true_eq, decide_eq_false_iff_not, beq_iff_eq, beq_eq_false_iff_ne, ne_eq, Bool.not_eq_true, Bool.not_eq_false, Bool.not_eq_true', Bool.not_eq_false'] at *)
        all_goals simp only [Bool.false_eq_true, false_iff, true_iff, Classical.not_not, Bool.not_false, Bool.not_true] at *
        all_goals grind
      · have e2 : (!jumps o.kind) = true := by simpa using h2
        apply SW.drawG [(0, [], [44, 45, 46], false), (1, [(42, 0)], [42, 44, 45, 46], false), (2, [], [42, 43], false), (3, [(44, 2)], [42, 43, 44], false), (4, [(44, 2), (45, 3)], [42, 43, 44, 45], false), (5, [(42, 0), (43, 1), (44, 2), (45, 3), (46, 4)], [42, 43, 44, 45, 46], true), (6, [(42, 0), (43, 1), (44, 2), (45, 3), (46, 4), (47, 5)], [42, 43, 44, 45, 46, 47], false), (7, [(42, 0), (43, 1), (44, 2), (45, 3), (46, 4), (47, 5), (48, 6)], [42, 43, 44, 45, 46, 47, 48], false), (8, [(42, 0), (43, 1), (44, 2), (45, 3), (46, 4), (47, 5), (48, 6), (49, 7)], [42, 43, 44, 45, 46, 47, 48, 49, 52, 53, 56, 57, 58], false), (9, [(42, 0), (43, 1), (44, 2), (45, 3), (46, 4), (47, 5), (48, 6), (49, 7), (50, 8)], [42, 43, 44, 45, 46, 47, 48, 49, 50, 52, 53, 56, 57, 58], false), (10, [(42, 0), (43, 1), (44, 2), (45, 3), (46, 4), (47, 5), (48, 6), (49, 7)], [42, 43, 44, 45, 46, 47, 48, 49, 50, 51, 56, 57, 58], false), (11, [(42, 0), (43, 1), (44, 2), (45, 3), (46, 4), (47, 5), (48, 6), (49, 7), (52, 10)], [42, 43, 44, 45, 46, 47, 48, 49, 50, 51, 52, 56, 57, 58], false), (12, [(42, 0), (43, 1), (44, 2), (45, 3), (46, 4), (47, 5), (48, 6), (49, 7), (50, 8), (51, 9), (52, 10), (53, 11)], [42, 43, 44, 45, 46, 47, 48, 49, 50, 51, 52, 53, 56, 57, 58], false), (13, [(42, 0), (43, 1), (44, 2), (45, 3), (46, 4), (47, 5), (48, 6), (49, 7), (50, 8), (51, 9), (52, 10), (53, 11), (54, 12)], [42, 43, 44, 45, 46, 47, 48, 49, 50, 51, 52, 53, 54, 56, 57, 58], false), (14, [(42, 0), (43, 1), (44, 2), (45, 3), (46, 4), (47, 5), (48, 6), (49, 7)], [42, 43, 44, 45, 46, 47, 48, 49, 50, 51, 52, 53, 54, 55], false), (15, [(42, 0), (43, 1), (44, 2), (45, 3), (46, 4), (47, 5), (48, 6), (49, 7), (56, 14)], [42, 43, 44, 45, 46, 47, 48, 49, 50, 51, 52, 53, 54, 55, 56], false), (16, [(42, 0), (43, 1), (44, 2), (45, 3), (46, 4), (47, 5), (48, 6), (49, 7), (56, 14), (57, 15)], [42, 43, 44, 45, 46, 47, 48, 49, 50, 51, 52, 53, 54, 55, 56, 57], false), (17, [(42, 0), (43, 1), (44, 2), (45, 3), (46, 4), (47, 5), (48, 6), (49, 7), (50, 8), (51, 9), (52, 10), (53, 11), (54, 12), (55, 13), (56, 14), (57, 15), (58, 16)], [42, 43, 44, 45, 46, 47, 48, 49, 50, 51, 52, 53, 54, 55, 56, 57, 58], false), (18, [(42, 0), (43, 1), (44, 2), (45, 3), (46, 4), (47, 5), (48, 6), (49, 7), (50, 8), (51, 9), (52, 10), (53, 11), (54, 12), (55, 13), (56, 14), (57, 15), (58, 16), (59, 17)], [42, 43, 44, 45, 46, 47, 48, 49, 50, 51, 52, 53, 54, 55, 56, 57, 58, 59], false), (19, [(42, 0), (43, 1), (44, 2), (45, 3), (46, 4), (47, 5), (48, 6), (49, 7), (50, 8), (51, 9), (52, 10), (53, 11), (54, 12), (55, 13), (56, 14), (57, 15), (58, 16), (59, 17), (60, 18)], [42, 43, 44, 45, 46, 47, 48, 49, 50, 51, 52, 53, 54, 55, 56, 57, 58, 59, 60], false), (20, [(42, 0), (43, 1), (44, 2), (45, 3), (46, 4), (47, 5), (48, 6), (49, 7), (50, 8), (51, 9), (52, 10), (53, 11), (54, 12), (55, 13), (56, 14), (57, 15), (58, 16), (59, 17), (60, 18), (61, 19)], [42, 43, 44, 45, 46, 47, 48, 49, 50, 51, 52, 53, 54, 55, 56, 57, 58, 59, 60, 61, 64], false), (21, [(42, 0), (43, 1), (44, 2), (45, 3), (46, 4), (47, 5), (48, 6), (49, 7), (50, 8), (51, 9), (52, 10), (53, 11), (54, 12), (55, 13), (56, 14), (57, 15), (58, 16), (59, 17), (60, 18), (61, 19), (62, 20)], [42, 43, 44, 45, 46, 47, 48, 49, 50, 51, 52, 53, 54, 55, 56, 57, 58, 59, 60, 61, 62, 64], false), (22, [(42, 0), (43, 1), (44, 2), (45, 3), (46, 4), (47, 5), (48, 6), (49, 7), (50, 8), (51, 9), (52, 10), (53, 11), (54, 12), (55, 13), (56, 14), (57, 15), (58, 16), (59, 17), (60, 18), (61, 19)], [42, 43, 44, 45, 46, 47, 48, 49, 50, 51, 52, 53, 54, 55, 56, 57, 58, 59, 60, 61, 62, 63], false), (23, [(42, 0), (43, 1), (44, 2), (45, 3), (46, 4), (47, 5), (48, 6), (49, 7), (50, 8), (51, 9), (52, 10), (53, 11), (54, 12), (55, 13), (56, 14), (57, 15), (58, 16), (59, 17), (60, 18), (61, 19), (62, 20), (63, 21), (64, 22)], [42, 43, 44, 45, 46, 47, 48, 49, 50, 51, 52, 53, 54, 55, 56, 57, 58, 59, 60, 61, 62, 63, 64], true), (24, [(42, 0), (43, 1), (44, 2), (45, 3), (46, 4), (47, 5), (48, 6), (49, 7), (50, 8), (51, 9), (52, 10), (53, 11), (54, 12), (55, 13), (56, 14), (57, 15), (58, 16), (59, 17), (60, 18), (61, 19), (62, 20), (63, 21), (64, 22), (65, 23)], [42, 43, 44, 45, 46, 47, 48, 49, 50, 51, 52, 53, 54, 55, 56, 57, 58, 59, 60, 61, 62, 63, 64, 65], false)]
          [(42, 0), (43, 1), (44, 2), (45, 3), (46, 4), (47, 5), (48, 6), (49, 7), (50, 8), (51, 9), (52, 10), (53, 11), (54, 12), (55, 13), (56, 14), (57, 15), (58, 16), (59, 17), (60, 18), (61, 19), (62, 20), (63, 21), (64, 22), (65, 23), (66, 24)]
          [(1, _), (2, _), (5, _)] rfl (by kernel_rfl)
        case hF => exact ⟨rfl, rfl, rfl, trivial⟩
        (try (conv => whnf)); (repeat' ((fail_if_success (with_reducible refine And.intro ?_ ?_)); (fail_if_success (with_reducible refine Exists.intro ?_ ?_)); (first | ((with_reducible refine AX.id ?_); (first | (refine (irBelow_ax _ _ _).mono ?_; (rintro _ X ⟨rfl, eX⟩; subst X; (conv => whnf))) | (refine (cm).mono ?_; (rintro _ X ⟨⟨bb, rfl, hb⟩, eX⟩; subst X; cases bb <;> (conv => whnf))) | (refine (irGoes_ax _ _).mono ?_; (rintro _ X ⟨rfl, eX⟩; subst X; (conv => whnf))))) | (refine step0 ?_) | (apply bIf.of <;> intro hc <;> (conv => whnf)))))
        all_goals refine fin _ ?_
        all_goals clear fin cm gx c1 c2 c3 l1 l2 b2' b3' i1 i2 hr hcs' hm' ht hpc hja g1 b1
        all_goals (simp only [ba_ne_t, ba_ne_f, ba_eq_t, ba_eq_f, bne_iff_ne, bne_eq_false_iff_eq, decide_eq_true_eq, decide_eq_false_iff_not, beq_iff_eq, beq_eq_false_iff_ne, ne_eq, Bool.not_eq_true, Bool.not_eq_false, Bool.not_eq_true', Bool.not_eq_false'] at *)
        all_goals simp only [Bool.false_eq_true, false_iff, true_iff, Classical.not_not, Bool.not_false, Bool.not_true] at *
        all_goals grind
    · have e1 : (!decide (0 ≤ o.pc ∧ o.pc < (L.length : Int))) = true := by rw [decide_eq_false h1]; rfl
      apply SW.drawG [(0, [], [44, 45, 46], false), (1, [(42, 0)], [42, 44, 45, 46], false), (2, [], [42, 43], false), (3, [(44, 2)], [42, 43, 44], false), (4, [(44, 2), (45, 3)], [42, 43, 44, 45], false), (5, [(42, 0), (43, 1), (44, 2), (45, 3), (46, 4)], [42, 43, 44, 45, 46], true), (6, [(42, 0), (43, 1), (44, 2), (45, 3), (46, 4), (47, 5)], [42, 43, 44, 45, 46, 47], false), (7, [(42, 0), (43, 1), (44, 2), (45, 3), (46, 4), (47, 5), (48, 6)], [42, 43, 44, 45, 46, 47, 48], false), (8, [(42, 0), (43, 1), (44, 2), (45, 3), (46, 4), (47, 5), (48, 6), (49, 7)], [42, 43, 44, 45, 46, 47, 48, 49, 52, 53, 56, 57, 58], false), (9, [(42, 0), (43, 1), (44, 2), (45, 3), (46, 4), (47, 5), (48, 6), (49, 7), (50, 8)], [42, 43, 44, 45, 46, 47, 48, 49, 50, 52, 53, 56, 57, 58], false), (10, [(42, 0), (43, 1), (44, 2), (45, 3), (46, 4), (47, 5), (48, 6), (49, 7)], [42, 43, 44, 45, 46, 47, 48, 49, 50, 51, 56, 57, 58], false), (11, [(42, 0), (43, 1), (44, 2), (45, 3), (46, 4), (47, 5), (48, 6), (49, 7), (52, 10)], [42, 43, 44, 45, 46, 47, 48, 49, 50, 51, 52, 56, 57, 58], false), (12, [(42, 0), (43, 1), (44, 2), (45, 3), (46, 4), (47, 5), (48, 6), (49, 7), (50, 8), (51, 9), (52, 10), (53, 11)], [42, 43, 44, 45, 46, 47, 48, 49, 50, 51, 52, 53, 56, 57, 58], false), (13, [(42, 0), (43, 1), (44, 2), (45, 3), (46, 4), (47, 5), (48, 6), (49, 7), (50, 8), (51, 9), (52, 10), (53, 11), (54, 12)], [42, 43, 44, 45, 46, 47, 48, 49, 50, 51, 52, 53, 54, 56, 57, 58], false), (14, [(42, 0), (43, 1), (44, 2), (45, 3), (46, 4), (47, 5), (48, 6), (49, 7)], [42, 43, 44, 45, 46, 47, 48, 49, 50, 51, 52, 53, 54, 55], false), (15, [(42, 0), (43, 1), (44, 2), (45, 3), (46, 4), (47, 5), (48, 6), (49, 7), (56, 14)], [42, 43, 44, 45, 46, 47, 48, 49, 50, 51, 52, 53, 54, 55, 56], false), (16, [(42, 0), (43, 1), (44, 2), (45, 3), (46, 4), (47, 5), (48, 6), (49, 7), (56, 14), (57, 15)], [42, 43, 44, 45, 46, 47, 48, 49, 50, 51, 52, 53, 54, 55, 56, 57], false), (17, [(42, 0), (43, 1), (44, 2), (45, 3), (46, 4), (47, 5), (48, 6), (49, 7), (50, 8), (51, 9), (52, 10), (53, 11), (54, 12), (55, 13), (56, 14), (57, 15), (58, 16)], [42, 43, 44, 45, 46, 47, 48, 49, 50, 51, 52, 53, 54, 55, 56, 57, 58], false), (18, [(42, 0), (43, 1), (44, 2), (45, 3), (46, 4), (47, 5), (48, 6), (49, 7), (50, 8), (51, 9), (52, 10), (53, 11), (54, 12), (55, 13), (56, 14), (57, 15), (58, 16), (59, 17)], [42, 43, 44, 45, 46, 47, 48, 49, 50, 51, 52, 53, 54, 55, 56, 57, 58, 59], false), (19, [(42, 0), (43, 1), (44, 2), (45, 3), (46, 4), (47, 5), (48, 6), (49, 7), (50, 8), (51, 9), (52, 10), (53, 11), (54, 12), (55, 13), (56, 14), (57, 15), (58, 16), (59, 17), (60, 18)], [42, 43, 44, 45, 46, 47, 48, 49, 50, 51, 52, 53, 54, 55, 56, 57, 58, 59, 60], false), (20, [(42, 0), (43, 1), (44, 2), (45, 3), (46, 4), (47, 5), (48, 6), (49, 7), (50, 8), (51, 9), (52, 10), (53, 11), (54, 12), (55, 13), (56, 14), (57, 15), (58, 16), (59, 17), (60, 18), (61, 19)], [42, 43, 44, 45, 46, 47, 48, 49, 50, 51, 52, 53, 54, 55, 56, 57, 58, 59, 60, 61, 64], false), (21, [(42, 0), (43, 1), (44, 2), (45, 3), (46, 4), (47, 5), (48, 6), (49, 7), (50, 8), (51, 9), (52, 10), (53, 11), (54, 12), (55, 13), (56, 14), (57, 15), (58, 16), (59, 17), (60, 18), (61, 19), (62, 20)], [42, 43, 44, 45, 46, 47, 48, 49, 50, 51, 52, 53, 54, 55, 56, 57, 58, 59, 60, 61, 62, 64], false), (22, [(42, 0), (43, 1), (44, 2), (45, 3), (46, 4), (47, 5), (48, 6), (49, 7), (50, 8), (51, 9), (52, 10), (53, 11), (54, 12), (55, 13), (56, 14), (57, 15), (58, 16), (59, 17), (60, 18), (61, 19)], [42, 43, 44, 45, 46, 47, 48, 49, 50, 51, 52, 53, 54, 55, 56, 57, 58, 59, 60, 61, 62, 63], false), (23, [(42, 0), (43, 1), (44, 2), (45, 3), (46, 4), (47, 5), (48, 6), (49, 7), (50, 8), (51, 9), (52, 10), (53, 11), (54, 12), (55, 13), (56, 14), (57, 15), (58, 16), (59, 17), (60, 18), (61, 19), (62, 20), (63, 21), (64, 22)], [42, 43, 44, 45, 46, 47, 48, 49, 50, 51, 52, 53, 54, 55, 56, 57, 58, 59, 60, 61, 62, 63, 64], true), (24, [(42, 0), (43, 1), (44, 2), (45, 3), (46, 4), (47, 5), (48, 6), (49, 7), (50, 8), (51, 9), (52, 10), (53, 11), (54, 12), (55, 13), (56, 14), (57, 15), (58, 16), (59, 17), (60, 18), (61, 19), (62, 20), (63, 21), (64, 22), (65, 23)], [42, 43, 44, 45, 46, 47, 48, 49, 50, 51, 52, 53, 54, 55, 56, 57, 58, 59, 60, 61, 62, 63, 64, 65], false)]
        [(42, 0), (43, 1), (44, 2), (45, 3), (46, 4), (47, 5), (48, 6), (49, 7), (50, 8), (51, 9), (52, 10), (53, 11), (54, 12), (55, 13), (56, 14), (57, 15), (58, 16), (59, 17), (60, 18), (61, 19), (62, 20), (63, 21), (64, 22), (65, 23), (66, 24)]
        [(1, _), (2, _), (5, _)] rfl (by kernel_rfl)
      case hF => exact ⟨rfl, rfl, rfl, trivial⟩
      (try (conv => whnf)); (repeat' ((fail_if_success (with_reducible refine And.intro ?_ ?_)); (fail_if_success (with_reducible refine Exists.intro ?_ ?_)); (first | ((with_reducible refine AX.id ?_); (first | (refine (irBelow_ax _ _ _).mono ?_; (rintro _ X ⟨rfl, eX⟩; subst X; (conv => whnf))) | (refine (cm).mono ?_; (rintro _ X ⟨⟨bb, rfl, hb⟩, eX⟩; subst X; cases bb <;> (conv => whnf))) | (refine (irGoes_ax _ _).mono ?_; (rintro _ X ⟨rfl, eX⟩; subst X; (conv => whnf))))) | (refine step0 ?_) | (apply bIf.of <;> intro hc <;> (conv => whnf)))))
      all_goals refine fin _ ?_
      all_goals clear fin cm gx c1 c2 c3 l1 l2 b2' b3' i1 i2 hr hcs' hm' ht hpc hja g1 b1
      all_goals (simp only [ba_ne_t, ba_ne_f, ba_eq_t, ba_eq_f, bne_iff_ne, bne_eq_false_iff_eq, decide_eq_true_eq, decide_eq_false_iff_not, beq_iff_eq, beq_eq_false_iff_ne, ne_eq, Bool.not_eq_true, Bool.not_eq_false, Bool.not_eq_true', Bool.not_eq_false'] at *)
      all_goals simp only [Bool.false_eq_true, false_iff, true_iff, Classical.not_not, Bool.not_false, Bool.not_true] at *
      all_goals grind
end Go.Proofs.Ytfobbmllbbckkaa
/- Package ir: may a body be? -/
set_option linter.unusedVariables false
set_option linter.unusedSimpArgs false
set_option maxRecDepth 20000
set_option maxHeartbeats 8000000
namespace Go.Proofs.Ytfobbmllbbckkaa
open Go Ax
def ValP (v : V) : Prop :=
  (v.1 ≠ 3 → v.2.2 = ⟨#[]⟩) ∧ (v.1 = 0 ∧ v.2.1 = 0 ∨ v.1 = 1 ∧ (v.2.1 = 0 ∨ v.2.1 = 1) ∨ v.1 = 2 ∧ -4611686018427387904 ≤ v.2.1 ∧ v.2.1 ≤ 4611686018427387903 ∨ v.1 = 3 ∧ v.2.1 = 0 ∧ v.2.2.size ≤ 256 ∨ v.1 = 4 ∧ 1 ≤ v.2.1 ∧ v.2.1 ≤ 9223372036854775807 ∨ v.1 = 5 ∧ 0 ≤ v.2.1 ∧ v.2.1 ≤ 9223372036854775807)
def ValsP (L : List V) : Prop := ∀ x ∈ L, ValP x
def DepP (d : Int × Int) : Prop := 1 ≤ d.1 ∧ 0 ≤ d.2
def DepsP (L : List (Int × Int)) : Prop := ∀ x ∈ L, DepP x
theorem valRight_ax (H : Heap) (v : V) (h0 : v.2.1 ≤ 9223372036854775807) : AX Try.prog 22 #[valV v] H (fun r H' => (∃ b, r = .bool b ∧ (b = true ↔ ValP v)) ∧ H' = H) := by
  refine AX.quiet ?_
  suffices hh : AX Try.prog 22 #[valV v] H (fun r H' => (∃ b, r = .bool b ∧ (b = true ↔ ValP v)) ∧ Grow H H') from hh.mono fun v _ ⟨⟨b, e, k⟩, g⟩ => ⟨e ▸ plain_bool _, ⟨b, e, k⟩, g⟩
  refine AX.body (n := 54) (rs := [.tmp 2]) Try.func22 rfl (by decide) rfl rfl (bC_sound _ _ _ _ ?_)
  (conv => whnf)
  refine Ob2.box rfl fun q1 H1 hq1 a1 g => ?_
  have b1 := hblk_of a1
  (try (conv => whnf)); (repeat' ((fail_if_success (with_reducible refine And.intro ?_ ?_)); (fail_if_success (with_reducible refine Exists.intro ?_ ?_)); (first | (refine step0 ?_) | (apply bIf.of <;> intro hc <;> (conv => whnf)))))
  all_goals refine ⟨⟨_, rfl, ?_⟩, g⟩
  all_goals clear b1 a1 g hq1
  all_goals unfold ValP
  all_goals ((try (simp only [ba_ne_t, ba_ne_f, ba_eq_t, ba_eq_f, bne_iff_ne, bne_eq_false_iff_eq, decide_eq_true_eq, decide_eq_false_iff_not, beq_iff_eq, beq_eq_false_iff_ne, ne_eq, Bool.not_eq_true, Bool.not_eq_false, Bool.not_eq_true', Bool.not_eq_false'] at *)); (try simp only [Bool.false_eq_true, false_iff, true_iff, Classical.not_not, Bool.not_false, Bool.not_true] at *))
  all_goals grind
theorem chkv1_ax (H : Heap) (v : V) (h0 : v.2.1 ≤ 9223372036854775807) : AX Try.prog 21 #[valV v] H (fun r H' => (∃ b, r = .bool b ∧ (b = true ↔ ¬ ValP v)) ∧ H' = H) := by
  refine AX.quiet ?_
  suffices hh : AX Try.prog 21 #[valV v] H (fun r H' => (∃ b, r = .bool b ∧ (b = true ↔ ¬ ValP v)) ∧ Grow H H') from hh.mono fun v _ ⟨⟨b, e, k⟩, g⟩ => ⟨e ▸ plain_bool _, ⟨b, e, k⟩, g⟩
  refine AX.body (n := 6) (rs := [.tmp 2]) Try.func21 rfl (by decide) rfl rfl (bC_sound _ _ _ _ ?_)
  (conv => whnf)
  refine Ob2.box rfl fun q1 H1 hq1 a1 g => ?_
  have b1 := hblk_of a1
  (try (conv => whnf)); (repeat' ((fail_if_success (with_reducible refine And.intro ?_ ?_)); (fail_if_success (with_reducible refine Exists.intro ?_ ?_)); (first | ((with_reducible refine AX.id ?_); (first | (refine (valRight_ax _ v h0).mono ?_; (rintro _ X ⟨⟨bb, rfl, hb⟩, eX⟩; subst X; cases bb <;> (conv => whnf))))) | (refine step0 ?_) | (apply bIf.of <;> intro hc <;> (conv => whnf)))))
  all_goals refine ⟨⟨_, rfl, ?_⟩, g⟩
  all_goals ((try (simp only [ba_ne_t, ba_ne_f, ba_eq_t, ba_eq_f, bne_iff_ne, bne_eq_false_iff_eq, decide_eq_true_eq, decide_eq_false_iff_not, beq_iff_eq, beq_eq_false_iff_ne, ne_eq, Bool.not_eq_true, Bool.not_eq_false, Bool.not_eq_true', Bool.not_eq_false'] at *)); (try simp only [Bool.false_eq_true, false_iff, true_iff, Classical.not_not, Bool.not_false, Bool.not_true] at *))
  all_goals simpa using hb
theorem chkd2_ax (H : Heap) (d : Int × Int) : AX Try.prog 24 #[.agg #[.int .i64 d.1, .int .i64 d.2]] H (fun r H' => (∃ b, r = .bool b ∧ (b = true ↔ ¬ DepP d)) ∧ H' = H) := by
  refine AX.quiet ?_
  suffices hh : AX Try.prog 24 #[.agg #[.int .i64 d.1, .int .i64 d.2]] H (fun r H' => (∃ b, r = .bool b ∧ (b = true ↔ ¬ DepP d)) ∧ Grow H H') from hh.mono fun v _ ⟨⟨b, e, k⟩, g⟩ => ⟨e ▸ plain_bool _, ⟨b, e, k⟩, g⟩
  refine AX.body (n := 11) (rs := [.tmp 2]) Try.func24 rfl (by decide) rfl rfl (bC_sound _ _ _ _ ?_)
  (conv => whnf)
  refine Ob2.box rfl fun q1 H1 hq1 a1 g => ?_
  have b1 := hblk_of a1
  (try (conv => whnf)); (repeat' ((fail_if_success (with_reducible refine And.intro ?_ ?_)); (fail_if_success (with_reducible refine Exists.intro ?_ ?_)); (first | (refine step0 ?_) | (apply bIf.of <;> intro hc <;> (conv => whnf)))))
  all_goals refine ⟨⟨_, rfl, ?_⟩, g⟩
  all_goals clear b1 a1 g hq1
  all_goals unfold DepP
  all_goals ((try (simp only [ba_ne_t, ba_ne_f, ba_eq_t, ba_eq_f, bne_iff_ne, bne_eq_false_iff_eq, decide_eq_true_eq, decide_eq_false_iff_not, beq_iff_eq, beq_eq_false_iff_ne, ne_eq, Bool.not_eq_true, Bool.not_eq_false, Bool.not_eq_true', Bool.not_eq_false'] at *)); (try simp only [Bool.false_eq_true, false_iff, true_iff, Classical.not_not, Bool.not_false, Bool.not_true] at *))
  all_goals omega
theorem indexv_ax {H : Heap} {u : Value} {L : List V} (hu : RL 3 valR H u L) (hL : L.length < 4294967296) (h0 : ∀ x ∈ L, x.2.1 ≤ 9223372036854775807) :
    AX Try.prog 59 #[u, fnV 21] H (fun v H' => (∃ i : Int, v = .int .i64 i ∧ (0 ≤ i ↔ ¬ ValsP L)) ∧ H' = H) := by
  refine AX.body (n := 19) (rs := [.tmp 4]) Try.func59 rfl (by decide) rfl rfl (bC_sound _ _ _ _ ?_)
  have l1 : alen Try.prog 26 u H = some (.int .i64 L.length) := hu.len rfl _
  refine run ?_
  refine SW.loop (α := Nat) (fun k => [(0, u), (1, fnV 21), (7, .int .i64 L.length), (8, .int .i64 (k : Int))]) (fun k H' => k ≤ L.length ∧ (∀ (i : Nat) x, i < k → L[i]? = some x → ValP x) ∧ H' = H) (fun k => L.length - k) ⟨0, ⟨rfl, rfl, rfl, rfl, trivial⟩, by omega, fun i s h => by omega, rfl⟩ ?_
  rintro k X ⟨hm, ht, e⟩
  subst X
  refine bC_sound _ _ _ _ ?_
  by_cases hml : k < L.length
  · have d1 : decide ((k : Int) < (L.length : Int)) = true := decide_eq_true (by omega)
    obtain ⟨x, hx⟩ := get_lt hml
    obtain ⟨p, i1, i2⟩ := ldx_val hu hx
    have i3 := i2 H (.refl _)
    refine run ?_
    refine (chkv1_ax H x (h0 x (List.mem_of_getElem? hx))).mono ?_
    rintro _ X ⟨⟨b, rfl, hb⟩, e⟩
    subst X
    cases b with
    | false =>
      have hp : ValP x := Classical.byContradiction fun h => by simpa using hb.2 h
      refine run ?_
      refine ⟨k + 1, ⟨rfl, rfl, rfl, congrArg (fun z => some (Value.int .i64 z)) (w_succ (by omega)), trivial⟩, ⟨hml, fun i s hi hs => ?_, rfl⟩, by show L.length - (k + 1) < L.length - k; omega⟩
      by_cases him : i = k
      · subst him; rw [hx] at hs; simp only [Option.some.injEq] at hs; subst hs; exact hp
      · exact ht i s (by omega) hs
    | true =>
      have hp := hb.1 rfl
      refine run ?_
      exact ⟨⟨k, rfl, fun _ h => hp (h x (List.mem_of_getElem? hx)), fun _ => by omega⟩, rfl⟩
  · have d1 : decide ((k : Int) < (L.length : Int)) = false := decide_eq_false (by omega)
    refine run ?_
    refine ⟨⟨-1, rfl, fun h => by omega, fun h => absurd (fun x hx => ?_) h⟩, rfl⟩
    obtain ⟨i, hi, rfl⟩ := List.getElem_of_mem hx
    exact ht i L[i] (by omega) (List.getElem?_eq_getElem hi)
theorem containsv_ax {H : Heap} {u : Value} {L : List V} (hu : RL 3 valR H u L) (hL : L.length < 4294967296) (h0 : ∀ x ∈ L, x.2.1 ≤ 9223372036854775807) :
    AX Try.prog 20 #[u, fnV 21] H (fun v H' => (∃ b, v = .bool b ∧ (b = true ↔ ¬ ValsP L)) ∧ H' = H) := by
  refine AX.body (n := 9) (rs := [.tmp 4]) Try.func20 rfl (by decide) rfl rfl (bC_sound _ _ _ _ ?_)
  refine run ?_
  refine (indexv_ax hu hL h0).mono ?_
  rintro _ X ⟨⟨i, rfl, hi⟩, e⟩
  subst X
  refine run ?_
  exact ⟨⟨_, rfl, by rw [decide_eq_true_eq]; exact hi⟩, rfl⟩
theorem indexd_ax {H : Heap} {u : Value} {L : List (Int × Int)} (hu : RL 2 depR H u L) (hL : L.length < 4294967296) :
    AX Try.prog 60 #[u, fnV 24] H (fun v H' => (∃ i : Int, v = .int .i64 i ∧ (0 ≤ i ↔ ¬ DepsP L)) ∧ H' = H) := by
  refine AX.body (n := 19) (rs := [.tmp 4]) Try.func60 rfl (by decide) rfl rfl (bC_sound _ _ _ _ ?_)
  have l1 : alen Try.prog 28 u H = some (.int .i64 L.length) := hu.len rfl _
  refine run ?_
  refine SW.loop (α := Nat) (fun k => [(0, u), (1, fnV 24), (7, .int .i64 L.length), (8, .int .i64 (k : Int))]) (fun k H' => k ≤ L.length ∧ (∀ (i : Nat) x, i < k → L[i]? = some x → DepP x) ∧ H' = H) (fun k => L.length - k) ⟨0, ⟨rfl, rfl, rfl, rfl, trivial⟩, by omega, fun i s h => by omega, rfl⟩ ?_
  rintro k X ⟨hm, ht, e⟩
  subst X
  refine bC_sound _ _ _ _ ?_
  by_cases hml : k < L.length
  · have d1 : decide ((k : Int) < (L.length : Int)) = true := decide_eq_true (by omega)
    obtain ⟨x, hx⟩ := get_lt hml
    obtain ⟨p, i1, i2⟩ := ldx_dep hu hx
    have i3 := (i2 H (.refl _)).1
    refine run ?_
    refine (chkd2_ax H x).mono ?_
    rintro _ X ⟨⟨b, rfl, hb⟩, e⟩
    subst X
    cases b with
    | false =>
      have hp : DepP x := Classical.byContradiction fun h => by simpa using hb.2 h
      refine run ?_
      refine ⟨k + 1, ⟨rfl, rfl, rfl, congrArg (fun z => some (Value.int .i64 z)) (w_succ (by omega)), trivial⟩, ⟨hml, fun i s hi hs => ?_, rfl⟩, by show L.length - (k + 1) < L.length - k; omega⟩
      by_cases him : i = k
      · subst him; rw [hx] at hs; simp only [Option.some.injEq] at hs; subst hs; exact hp
      · exact ht i s (by omega) hs
    | true =>
      have hp := hb.1 rfl
      refine run ?_
      exact ⟨⟨k, rfl, fun _ h => hp (h x (List.mem_of_getElem? hx)), fun _ => by omega⟩, rfl⟩
  · have d1 : decide ((k : Int) < (L.length : Int)) = false := decide_eq_false (by omega)
    refine run ?_
    refine ⟨⟨-1, rfl, fun h => by omega, fun h => absurd (fun x hx => ?_) h⟩, rfl⟩
    obtain ⟨i, hi, rfl⟩ := List.getElem_of_mem hx
    exact ht i L[i] (by omega) (List.getElem?_eq_getElem hi)
theorem containsd_ax {H : Heap} {u : Value} {L : List (Int × Int)} (hu : RL 2 depR H u L) (hL : L.length < 4294967296) :
    AX Try.prog 23 #[u, fnV 24] H (fun v H' => (∃ b, v = .bool b ∧ (b = true ↔ ¬ DepsP L)) ∧ H' = H) := by
  refine AX.body (n := 9) (rs := [.tmp 4]) Try.func23 rfl (by decide) rfl rfl (bC_sound _ _ _ _ ?_)
  refine run ?_
  refine (indexd_ax hu hL).mono ?_
  rintro _ X ⟨⟨i, rfl, hi⟩, e⟩
  subst X
  refine run ?_
  exact ⟨⟨_, rfl, by rw [decide_eq_true_eq]; exact hi⟩, rfl⟩
end Go.Proofs.Ytfobbmllbbckkaa
/- Package ir: Check, whole. -/
set_option linter.unusedVariables false
set_option linter.unusedSimpArgs false
set_option maxRecDepth 20000
set_option maxHeartbeats 8000000
namespace Go.Proofs.Ytfobbmllbbckkaa
open Go Ax
/-- A body's bounds. -/
def BLim (p : ProgT) (c : CodeT) (b : BodyX) : Prop := c.2.1 ≤ b.regs ∧ b.regs ≤ 88 ∧ b.consts.length ≤ 4000 ∧ 1 ≤ b.ops.length ∧ b.ops.length ≤ 16000 ∧ b.deps.length ≤ 200
def OpsP (p : ProgT) (c : CodeT) (b : BodyX) (L : List Int) (n : Nat) : Prop := ∀ i o, i < n → b.ops[i]? = some o → opP (limsOf p c b) L b.ops i o
def lastK (ops : List OpX) : Int := kindAt ops (ops.length - 1)
/-- May a body be? -/
def CheckB (p : ProgT) (b : BodyX) : Prop :=
  CheckP p ∧ 0 ≤ b.F ∧ ∃ c L, p.2.2[b.F.toNat]? = some c ∧ BLim p c b ∧ ValsP b.consts ∧ DepsP b.deps ∧ Closed c L ∧ OpsP p c b L b.ops.length ∧ (lastK b.ops = 17 ∨ lastK b.ops = 24)
def IrV (p : ProgT) (b : BodyX) (v : Value) : Prop := (v = .int .i64 0 ∧ CheckB p b) ∨ (v = .int .i64 16 ∧ ¬ CheckB p b)
theorem IrV.plain {p : ProgT} {b : BodyX} {v : Value} (h : IrV p b v) : plain v := by rcases h with ⟨rfl, _⟩ | ⟨rfl, _⟩ <;> exact plain_int _ _
/-- What a body's lists are at most. -/
structure SmallB (b : BodyX) : Prop where
  vals : ∀ x ∈ b.consts, x.2.1 ≤ 9223372036854775807
  con : b.consts.length < 4294967296
  ops : b.ops.length < 4294967296
  deps : b.deps.length < 4294967296
  op : ∀ o ∈ b.ops, o.regs.length < 4294967296 ∧ o.cases.length < 4294967296 ∧ o.map.length < 4294967296
theorem OpsP.next {p : ProgT} {c : CodeT} {b : BodyX} {L : List Int} {n : Nat} {o : OpX} (h : OpsP p c b L n) (hx : b.ops[n]? = some o) (k : opP (limsOf p c b) L b.ops n o) : OpsP p c b L (n + 1) := by
  intro i y hi hy
  by_cases e : i = n
  · subst e; rw [hx] at hy; simp only [Option.some.injEq] at hy; subst hy; exact k
  · exact h i y (by omega) hy
theorem irCheck_ax {H : Heap} {p : ProgT} {ps cs kv ov dv : Value} {b : BodyX} (hp : RL 1 strR H ps p.2.1) (hcs : RL 5 codeR H cs p.2.2) (hL : p.2.1.length < 4294967296) (hb : BodyIn H b kv ov dv) (hsm : SmallB b) :
    AX Try.prog 9 #[progV p ps cs, bodyV b kv ov dv] H (fun v H' => IrV p b v ∧ H' = H) := by
  refine AX.quiet ?_
  suffices hh : AX Try.prog 9 #[progV p ps cs, bodyV b kv ov dv] H (fun v H' => IrV p b v ∧ Grow H H') from hh.mono fun v _ ⟨e, g⟩ => ⟨e.plain, e, g⟩
  refine AX.body (n := 102) (rs := [.tmp 4]) Try.func9 rfl (by decide) rfl rfl (bC_sound _ _ _ _ ?_)
  (conv => whnf)
  refine Ob2.box rfl fun q1 H1 hq1 a1 g1 => ?_
  (conv => whnf)
  refine Ob2.box rfl fun q2 H2 hq2 a2 g2 => ?_
  have b1 := hblk_of (g2.at a1)
  have b2 := hblk_of a2
  have g := g1.trans g2
  have l2 : alen Try.prog 23 cs H2 = some (.int .i64 p.2.2.length) := hcs.len rfl _
  have l3 : alen Try.prog 26 kv H2 = some (.int .i64 b.consts.length) := hb.con.len rfl _
  have l4 : alen Try.prog 27 ov H2 = some (.int .i64 b.ops.length) := hb.ops.len rfl _
  have l5 : alen Try.prog 28 dv H2 = some (.int .i64 b.deps.length) := hb.deps.len rfl _
  clear a1 a2 g1
  refine run ?_
  apply SW.drawG [(0, [], [], false), (1, [(8, 0)], [8], true), (2, [(8, 0), (9, 1)], [8, 9], false), (3, [(8, 0), (9, 1), (10, 2)], [8, 9, 10], false), (4, [(8, 0), (9, 1), (10, 2), (11, 3)], [8, 9, 10, 11, 14, 15, 16], false), (5, [(8, 0), (9, 1), (10, 2), (11, 3), (12, 4)], [8, 9, 10, 11, 12, 14, 15, 16], false), (6, [(8, 0), (9, 1), (10, 2), (11, 3)], [8, 9, 10, 11, 12, 13], false), (7, [(8, 0), (9, 1), (10, 2), (11, 3), (14, 6)], [8, 9, 10, 11, 12, 13, 14], false), (8, [(8, 0), (9, 1), (10, 2), (11, 3), (14, 6), (15, 7)], [8, 9, 10, 11, 12, 13, 14, 15], false), (9, [(8, 0), (9, 1), (10, 2), (11, 3), (12, 4), (13, 5), (14, 6), (15, 7), (16, 8)], [8, 9, 10, 11, 12, 13, 14, 15, 16], true), (10, [(8, 0), (9, 1), (10, 2), (11, 3), (12, 4), (13, 5), (14, 6), (15, 7), (16, 8), (17, 9)], [8, 9, 10, 11, 12, 13, 14, 15, 16, 17], false), (11, [(8, 0), (9, 1), (10, 2), (11, 3), (12, 4), (13, 5), (14, 6), (15, 7), (16, 8), (17, 9), (18, 10)], [8, 9, 10, 11, 12, 13, 14, 15, 16, 17, 18], false), (12, [(8, 0), (9, 1), (10, 2), (11, 3), (12, 4), (13, 5), (14, 6), (15, 7), (16, 8), (17, 9), (18, 10), (19, 11)], [8, 9, 10, 11, 12, 13, 14, 15, 16, 17, 18, 19], false), (13, [(8, 0), (9, 1), (10, 2), (11, 3), (12, 4), (13, 5), (14, 6), (15, 7), (16, 8), (17, 9), (18, 10), (19, 11), (20, 12)], [8, 9, 10, 11, 12, 13, 14, 15, 16, 17, 18, 19, 20, 23, 24, 25, 26, 27, 28, 29], false), (14, [(8, 0), (9, 1), (10, 2), (11, 3), (12, 4), (13, 5), (14, 6), (15, 7), (16, 8), (17, 9), (18, 10), (19, 11), (20, 12), (21, 13)], [8, 9, 10, 11, 12, 13, 14, 15, 16, 17, 18, 19, 20, 21, 23, 24, 25, 26, 27, 28, 29], false), (15, [(8, 0), (9, 1), (10, 2), (11, 3), (12, 4), (13, 5), (14, 6), (15, 7), (16, 8), (17, 9), (18, 10), (19, 11), (20, 12)], [8, 9, 10, 11, 12, 13, 14, 15, 16, 17, 18, 19, 20, 21, 22, 25, 26], false), (16, [(8, 0), (9, 1), (10, 2), (11, 3), (12, 4), (13, 5), (14, 6), (15, 7), (16, 8), (17, 9), (18, 10), (19, 11), (20, 12), (23, 15)], [8, 9, 10, 11, 12, 13, 14, 15, 16, 17, 18, 19, 20, 21, 22, 23, 25, 26], false), (17, [(8, 0), (9, 1), (10, 2), (11, 3), (12, 4), (13, 5), (14, 6), (15, 7), (16, 8), (17, 9), (18, 10), (19, 11), (20, 12)], [8, 9, 10, 11, 12, 13, 14, 15, 16, 17, 18, 19, 20, 21, 22, 23, 24], false), (18, [(8, 0), (9, 1), (10, 2), (11, 3), (12, 4), (13, 5), (14, 6), (15, 7), (16, 8), (17, 9), (18, 10), (19, 11), (20, 12), (25, 17)], [8, 9, 10, 11, 12, 13, 14, 15, 16, 17, 18, 19, 20, 21, 22, 23, 24, 25], false), (19, [(8, 0), (9, 1), (10, 2), (11, 3), (12, 4), (13, 5), (14, 6), (15, 7), (16, 8), (17, 9), (18, 10), (19, 11), (20, 12), (23, 15), (24, 16), (25, 17), (26, 18)], [8, 9, 10, 11, 12, 13, 14, 15, 16, 17, 18, 19, 20, 21, 22, 23, 24, 25, 26], false), (20, [(8, 0), (9, 1), (10, 2), (11, 3), (12, 4), (13, 5), (14, 6), (15, 7), (16, 8), (17, 9), (18, 10), (19, 11), (20, 12), (23, 15), (24, 16), (25, 17), (26, 18), (27, 19)], [8, 9, 10, 11, 12, 13, 14, 15, 16, 17, 18, 19, 20, 21, 22, 23, 24, 25, 26, 27], false), (21, [(8, 0), (9, 1), (10, 2), (11, 3), (12, 4), (13, 5), (14, 6), (15, 7), (16, 8), (17, 9), (18, 10), (19, 11), (20, 12), (23, 15), (24, 16), (25, 17), (26, 18), (27, 19), (28, 20)], [8, 9, 10, 11, 12, 13, 14, 15, 16, 17, 18, 19, 20, 21, 22, 23, 24, 25, 26, 27, 28], false), (22, [(8, 0), (9, 1), (10, 2), (11, 3), (12, 4), (13, 5), (14, 6), (15, 7), (16, 8), (17, 9), (18, 10), (19, 11), (20, 12), (21, 13), (22, 14), (23, 15), (24, 16), (25, 17), (26, 18), (27, 19), (28, 20), (29, 21)], [8, 9, 10, 11, 12, 13, 14, 15, 16, 17, 18, 19, 20, 21, 22, 23, 24, 25, 26, 27, 28, 29], false), (23, [(8, 0), (9, 1), (10, 2), (11, 3), (12, 4), (13, 5), (14, 6), (15, 7), (16, 8), (17, 9), (18, 10), (19, 11), (20, 12), (21, 13), (22, 14), (23, 15), (24, 16), (25, 17), (26, 18), (27, 19), (28, 20), (29, 21), (30, 22)], [8, 9, 10, 11, 12, 13, 14, 15, 16, 17, 18, 19, 20, 21, 22, 23, 24, 25, 26, 27, 28, 29, 30], false), (24, [(8, 0), (9, 1), (10, 2), (11, 3), (12, 4), (13, 5), (14, 6), (15, 7), (16, 8), (17, 9), (18, 10), (19, 11), (20, 12), (21, 13), (22, 14), (23, 15), (24, 16), (25, 17), (26, 18), (27, 19), (28, 20), (29, 21), (30, 22), (31, 23)], [8, 9, 10, 11, 12, 13, 14, 15, 16, 17, 18, 19, 20, 21, 22, 23, 24, 25, 26, 27, 28, 29, 30, 31], false), (25, [(8, 0), (9, 1), (10, 2), (11, 3), (12, 4), (13, 5), (14, 6), (15, 7), (16, 8), (17, 9), (18, 10), (19, 11), (20, 12), (21, 13), (22, 14), (23, 15), (24, 16), (25, 17), (26, 18), (27, 19), (28, 20), (29, 21), (30, 22), (31, 23), (32, 24)], [8, 9, 10, 11, 12, 13, 14, 15, 16, 17, 18, 19, 20, 21, 22, 23, 24, 25, 26, 27, 28, 29, 30, 31, 32], false), (26, [(8, 0), (9, 1), (10, 2), (11, 3), (12, 4), (13, 5), (14, 6), (15, 7), (16, 8), (17, 9), (18, 10), (19, 11), (20, 12), (21, 13), (22, 14), (23, 15), (24, 16), (25, 17), (26, 18), (27, 19), (28, 20), (29, 21), (30, 22), (31, 23), (32, 24), (33, 25)], [8, 9, 10, 11, 12, 13, 14, 15, 16, 17, 18, 19, 20, 21, 22, 23, 24, 25, 26, 27, 28, 29, 30, 31, 32, 33], false), (27, [(8, 0), (9, 1), (10, 2), (11, 3), (12, 4), (13, 5), (14, 6), (15, 7), (16, 8), (17, 9), (18, 10), (19, 11), (20, 12), (21, 13), (22, 14), (23, 15), (24, 16), (25, 17), (26, 18), (27, 19), (28, 20), (29, 21), (30, 22), (31, 23), (32, 24), (33, 25), (34, 26)], [8, 9, 10, 11, 12, 13, 14, 15, 16, 17, 18, 19, 20, 21, 22, 23, 24, 25, 26, 27, 28, 29, 30, 31, 32, 33, 34], false), (28, [(8, 0), (9, 1), (10, 2), (11, 3), (12, 4), (13, 5), (14, 6), (15, 7), (16, 8), (17, 9), (18, 10), (19, 11), (20, 12), (21, 13), (22, 14), (23, 15), (24, 16), (25, 17), (26, 18), (27, 19), (28, 20), (29, 21), (30, 22), (31, 23), (32, 24), (33, 25), (34, 26), (35, 27)], [8, 9, 10, 11, 12, 13, 14, 15, 16, 17, 18, 19, 20, 21, 22, 23, 24, 25, 26, 27, 28, 29, 30, 31, 32, 33, 34, 35], false), (29, [(8, 0), (9, 1), (10, 2), (11, 3), (12, 4), (13, 5), (14, 6), (15, 7), (16, 8), (17, 9), (18, 10), (19, 11), (20, 12), (21, 13), (22, 14), (23, 15), (24, 16), (25, 17), (26, 18), (27, 19), (28, 20), (29, 21), (30, 22), (31, 23), (32, 24), (33, 25), (34, 26), (35, 27), (36, 28)], [8, 9, 10, 11, 12, 13, 14, 15, 16, 17, 18, 19, 20, 21, 22, 23, 24, 25, 26, 27, 28, 29, 30, 31, 32, 33, 34, 35, 36], false), (30, [(8, 0), (9, 1), (10, 2), (11, 3), (12, 4), (13, 5), (14, 6), (15, 7), (16, 8), (17, 9), (18, 10), (19, 11), (20, 12), (21, 13), (22, 14), (23, 15), (24, 16), (25, 17), (26, 18), (27, 19), (28, 20), (29, 21), (30, 22), (31, 23), (32, 24), (33, 25), (34, 26), (35, 27), (36, 28), (37, 29)], [8, 9, 10, 11, 12, 13, 14, 15, 16, 17, 18, 19, 20, 21, 22, 23, 24, 25, 26, 27, 28, 29, 30, 31, 32, 33, 34, 35, 36, 37], false), (31, [(8, 0), (9, 1), (10, 2), (11, 3), (12, 4), (13, 5), (14, 6), (15, 7), (16, 8), (17, 9), (18, 10), (19, 11), (20, 12), (21, 13), (22, 14), (23, 15), (24, 16), (25, 17), (26, 18), (27, 19), (28, 20), (29, 21), (30, 22), (31, 23), (32, 24), (33, 25), (34, 26), (35, 27), (36, 28), (37, 29), (38, 30)], [8, 9, 10, 11, 12, 13, 14, 15, 16, 17, 18, 19, 20, 21, 22, 23, 24, 25, 26, 27, 28, 29, 30, 31, 32, 33, 34, 35, 36, 37, 38], false), (32, [(8, 0), (9, 1), (10, 2), (11, 3), (12, 4), (13, 5), (14, 6), (15, 7), (16, 8), (17, 9), (18, 10), (19, 11), (20, 12), (21, 13), (22, 14), (23, 15), (24, 16), (25, 17), (26, 18), (27, 19), (28, 20), (29, 21), (30, 22), (31, 23), (32, 24), (33, 25), (34, 26), (35, 27), (36, 28), (37, 29), (38, 30), (39, 31)], [8, 9, 10, 11, 12, 13, 14, 15, 16, 17, 18, 19, 20, 21, 22, 23, 24, 25, 26, 27, 28, 29, 30, 31, 32, 33, 34, 35, 36, 37, 38, 39], false), (33, [(8, 0), (9, 1), (10, 2), (11, 3), (12, 4), (13, 5), (14, 6), (15, 7), (16, 8), (17, 9), (18, 10), (19, 11), (20, 12), (21, 13), (22, 14), (23, 15), (24, 16), (25, 17), (26, 18), (27, 19), (28, 20), (29, 21), (30, 22), (31, 23), (32, 24), (33, 25), (34, 26), (35, 27), (36, 28), (37, 29), (38, 30), (39, 31), (40, 32)], [8, 9, 10, 11, 12, 13, 14, 15, 16, 17, 18, 19, 20, 21, 22, 23, 24, 25, 26, 27, 28, 29, 30, 31, 32, 33, 34, 35, 36, 37, 38, 39, 40], false), (34, [(8, 0), (9, 1), (10, 2), (11, 3), (12, 4), (13, 5), (14, 6), (15, 7), (16, 8), (17, 9), (18, 10), (19, 11), (20, 12), (21, 13), (22, 14), (23, 15), (24, 16), (25, 17), (26, 18), (27, 19), (28, 20), (29, 21), (30, 22), (31, 23), (32, 24), (33, 25), (34, 26), (35, 27), (36, 28), (37, 29), (38, 30), (39, 31), (40, 32), (41, 33)], [8, 9, 10, 11, 12, 13, 14, 15, 16, 17, 18, 19, 20, 21, 22, 23, 24, 25, 26, 27, 28, 29, 30, 31, 32, 33, 34, 35, 36, 37, 38, 39, 40, 41], false), (35, [(8, 0), (9, 1), (10, 2), (11, 3), (12, 4), (13, 5), (14, 6), (15, 7), (16, 8), (17, 9), (18, 10), (19, 11), (20, 12), (21, 13), (22, 14), (23, 15), (24, 16), (25, 17), (26, 18), (27, 19), (28, 20), (29, 21), (30, 22), (31, 23), (32, 24), (33, 25), (34, 26), (35, 27), (36, 28), (37, 29), (38, 30), (39, 31), (40, 32), (41, 33), (42, 34)], [8, 9, 10, 11, 12, 13, 14, 15, 16, 17, 18, 19, 20, 21, 22, 23, 24, 25, 26, 27, 28, 29, 30, 31, 32, 33, 34, 35, 36, 37, 38, 39, 40, 41, 42], false), (36, [(8, 0), (9, 1), (10, 2), (11, 3), (12, 4), (13, 5), (14, 6), (15, 7), (16, 8), (17, 9), (18, 10), (19, 11), (20, 12), (21, 13), (22, 14), (23, 15), (24, 16), (25, 17), (26, 18), (27, 19), (28, 20), (29, 21), (30, 22), (31, 23), (32, 24), (33, 25), (34, 26), (35, 27), (36, 28), (37, 29), (38, 30), (39, 31), (40, 32), (41, 33), (42, 34), (43, 35)], [8, 9, 10, 11, 12, 13, 14, 15, 16, 17, 18, 19, 20, 21, 22, 23, 24, 25, 26, 27, 28, 29, 30, 31, 32, 33, 34, 35, 36, 37, 38, 39, 40, 41, 42, 43], false), (37, [(8, 0), (9, 1), (10, 2), (11, 3), (12, 4), (13, 5), (14, 6), (15, 7), (16, 8), (17, 9), (18, 10), (19, 11), (20, 12), (21, 13), (22, 14), (23, 15), (24, 16), (25, 17), (26, 18), (27, 19), (28, 20), (29, 21), (30, 22), (31, 23), (32, 24), (33, 25), (34, 26), (35, 27), (36, 28), (37, 29), (38, 30), (39, 31), (40, 32), (41, 33), (42, 34), (43, 35), (44, 36)], [8, 9, 10, 11, 12, 13, 14, 15, 16, 17, 18, 19, 20, 21, 22, 23, 24, 25, 26, 27, 28, 29, 30, 31, 32, 33, 34, 35, 36, 37, 38, 39, 40, 41, 42, 43, 44], false), (38, [(8, 0), (9, 1), (10, 2), (11, 3), (12, 4), (13, 5), (14, 6), (15, 7), (16, 8), (17, 9), (18, 10), (19, 11), (20, 12), (21, 13), (22, 14), (23, 15), (24, 16), (25, 17), (26, 18), (27, 19), (28, 20), (29, 21), (30, 22), (31, 23), (32, 24), (33, 25), (34, 26), (35, 27), (36, 28), (37, 29), (38, 30), (39, 31), (40, 32), (41, 33), (42, 34), (43, 35), (44, 36), (45, 37)], [8, 9, 10, 11, 12, 13, 14, 15, 16, 17, 18, 19, 20, 21, 22, 23, 24, 25, 26, 27, 28, 29, 30, 31, 32, 33, 34, 35, 36, 37, 38, 39, 40, 41, 42, 43, 44, 45], false), (39, [(8, 0), (9, 1), (10, 2), (11, 3), (12, 4), (13, 5), (14, 6), (15, 7), (16, 8), (17, 9), (18, 10), (19, 11), (20, 12), (21, 13), (22, 14), (23, 15), (24, 16), (25, 17), (26, 18), (27, 19), (28, 20), (29, 21), (30, 22), (31, 23), (32, 24), (33, 25), (34, 26), (35, 27), (36, 28), (37, 29), (38, 30), (39, 31), (40, 32), (41, 33), (42, 34), (43, 35), (44, 36), (45, 37), (46, 38)], [8, 9, 10, 11, 12, 13, 14, 15, 16, 17, 18, 19, 20, 21, 22, 23, 24, 25, 26, 27, 28, 29, 30, 31, 32, 33, 34, 35, 36, 37, 38, 39, 40, 41, 42, 43, 44, 45, 46], false), (40, [(8, 0), (9, 1), (10, 2), (11, 3), (12, 4), (13, 5), (14, 6), (15, 7), (16, 8), (17, 9), (18, 10), (19, 11), (20, 12), (21, 13), (22, 14), (23, 15), (24, 16), (25, 17), (26, 18), (27, 19), (28, 20), (29, 21), (30, 22), (31, 23), (32, 24), (33, 25), (34, 26), (35, 27), (36, 28), (37, 29), (38, 30), (39, 31), (40, 32), (41, 33), (42, 34), (43, 35), (44, 36), (45, 37), (46, 38), (47, 39)], [8, 9, 10, 11, 12, 13, 14, 15, 16, 17, 18, 19, 20, 21, 22, 23, 24, 25, 26, 27, 28, 29, 30, 31, 32, 33, 34, 35, 36, 37, 38, 39, 40, 41, 42, 43, 44, 45, 46, 47], false), (41, [(8, 0), (9, 1), (10, 2), (11, 3), (12, 4), (13, 5), (14, 6), (15, 7), (16, 8), (17, 9), (18, 10), (19, 11), (20, 12), (21, 13), (22, 14), (23, 15), (24, 16), (25, 17), (26, 18), (27, 19), (28, 20), (29, 21), (30, 22), (31, 23), (32, 24), (33, 25), (34, 26), (35, 27), (36, 28), (37, 29), (38, 30), (39, 31), (40, 32), (41, 33), (42, 34), (43, 35), (44, 36), (45, 37), (46, 38), (47, 39), (48, 40)], [8, 9, 10, 11, 12, 13, 14, 15, 16, 17, 18, 19, 20, 21, 22, 23, 24, 25, 26, 27, 28, 29, 30, 31, 32, 33, 34, 35, 36, 37, 38, 39, 40, 41, 42, 43, 44, 45, 46, 47, 48], false), (42, [(8, 0), (9, 1), (10, 2), (11, 3), (12, 4), (13, 5), (14, 6), (15, 7), (16, 8), (17, 9), (18, 10), (19, 11), (20, 12), (21, 13), (22, 14), (23, 15), (24, 16), (25, 17), (26, 18), (27, 19), (28, 20), (29, 21), (30, 22), (31, 23), (32, 24), (33, 25), (34, 26), (35, 27), (36, 28), (37, 29), (38, 30), (39, 31), (40, 32), (41, 33), (42, 34), (43, 35), (44, 36), (45, 37), (46, 38), (47, 39), (48, 40), (49, 41)], [8, 9, 10, 11, 12, 13, 14, 15, 16, 17, 18, 19, 20, 21, 22, 23, 24, 25, 26, 27, 28, 29, 30, 31, 32, 33, 34, 35, 36, 37, 38, 39, 40, 41, 42, 43, 44, 45, 46, 47, 48, 49], false), (43, [(8, 0), (9, 1), (10, 2), (11, 3), (12, 4), (13, 5), (14, 6), (15, 7), (16, 8), (17, 9), (18, 10), (19, 11), (20, 12), (21, 13), (22, 14), (23, 15), (24, 16), (25, 17), (26, 18), (27, 19), (28, 20), (29, 21), (30, 22), (31, 23), (32, 24), (33, 25), (34, 26), (35, 27), (36, 28), (37, 29), (38, 30), (39, 31), (40, 32), (41, 33), (42, 34), (43, 35), (44, 36), (45, 37), (46, 38), (47, 39), (48, 40), (49, 41), (50, 42)], [8, 9, 10, 11, 12, 13, 14, 15, 16, 17, 18, 19, 20, 21, 22, 23, 24, 25, 26, 27, 28, 29, 30, 31, 32, 33, 34, 35, 36, 37, 38, 39, 40, 41, 42, 43, 44, 45, 46, 47, 48, 49, 50], false), (44, [(8, 0), (9, 1), (10, 2), (11, 3), (12, 4), (13, 5), (14, 6), (15, 7), (16, 8), (17, 9), (18, 10), (19, 11), (20, 12), (21, 13), (22, 14), (23, 15), (24, 16), (25, 17), (26, 18), (27, 19), (28, 20), (29, 21), (30, 22), (31, 23), (32, 24), (33, 25), (34, 26), (35, 27), (36, 28), (37, 29), (38, 30), (39, 31), (40, 32), (41, 33), (42, 34), (43, 35), (44, 36), (45, 37), (46, 38), (47, 39), (48, 40), (49, 41), (50, 42), (51, 43)], [8, 9, 10, 11, 12, 13, 14, 15, 16, 17, 18, 19, 20, 21, 22, 23, 24, 25, 26, 27, 28, 29, 30, 31, 32, 33, 34, 35, 36, 37, 38, 39, 40, 41, 42, 43, 44, 45, 46, 47, 48, 49, 50, 51], false), (45, [(8, 0), (9, 1), (10, 2), (11, 3), (12, 4), (13, 5), (14, 6), (15, 7), (16, 8), (17, 9), (18, 10), (19, 11), (20, 12), (21, 13), (22, 14), (23, 15), (24, 16), (25, 17), (26, 18), (27, 19), (28, 20), (29, 21), (30, 22), (31, 23), (32, 24), (33, 25), (34, 26), (35, 27), (36, 28), (37, 29), (38, 30), (39, 31), (40, 32), (41, 33), (42, 34), (43, 35), (44, 36), (45, 37), (46, 38), (47, 39), (48, 40), (49, 41), (50, 42), (51, 43), (52, 44)], [8, 9, 10, 11, 12, 13, 14, 15, 16, 17, 18, 19, 20, 21, 22, 23, 24, 25, 26, 27, 28, 29, 30, 31, 32, 33, 34, 35, 36, 37, 38, 39, 40, 41, 42, 43, 44, 45, 46, 47, 48, 49, 50, 51, 52], false), (46, [(8, 0), (9, 1), (10, 2), (11, 3), (12, 4), (13, 5), (14, 6), (15, 7), (16, 8), (17, 9), (18, 10), (19, 11), (20, 12), (21, 13), (22, 14), (23, 15), (24, 16), (25, 17), (26, 18), (27, 19), (28, 20), (29, 21), (30, 22), (31, 23), (32, 24), (33, 25), (34, 26), (35, 27), (36, 28), (37, 29), (38, 30), (39, 31), (40, 32), (41, 33), (42, 34), (43, 35), (44, 36), (45, 37), (46, 38), (47, 39), (48, 40), (49, 41), (50, 42), (51, 43), (52, 44), (53, 45)], [8, 9, 10, 11, 12, 13, 14, 15, 16, 17, 18, 19, 20, 21, 22, 23, 24, 25, 26, 27, 28, 29, 30, 31, 32, 33, 34, 35, 36, 37, 38, 39, 40, 41, 42, 43, 44, 45, 46, 47, 48, 49, 50, 51, 52, 53], false), (47, [(8, 0), (9, 1), (10, 2), (11, 3), (12, 4), (13, 5), (14, 6), (15, 7), (16, 8), (17, 9), (18, 10), (19, 11), (20, 12), (21, 13), (22, 14), (23, 15), (24, 16), (25, 17), (26, 18), (27, 19), (28, 20), (29, 21), (30, 22), (31, 23), (32, 24), (33, 25), (34, 26), (35, 27), (36, 28), (37, 29), (38, 30), (39, 31), (40, 32), (41, 33), (42, 34), (43, 35), (44, 36), (45, 37), (46, 38), (47, 39), (48, 40), (49, 41), (50, 42), (51, 43), (52, 44), (53, 45), (54, 46)], [8, 9, 10, 11, 12, 13, 14, 15, 16, 17, 18, 19, 20, 21, 22, 23, 24, 25, 26, 27, 28, 29, 30, 31, 32, 33, 34, 35, 36, 37, 38, 39, 40, 41, 42, 43, 44, 45, 46, 47, 48, 49, 50, 51, 52, 53, 54], false), (48, [(8, 0), (9, 1), (10, 2), (11, 3), (12, 4), (13, 5), (14, 6), (15, 7), (16, 8), (17, 9), (18, 10), (19, 11), (20, 12), (21, 13), (22, 14), (23, 15), (24, 16), (25, 17), (26, 18), (27, 19), (28, 20), (29, 21), (30, 22), (31, 23), (32, 24), (33, 25), (34, 26), (35, 27), (36, 28), (37, 29), (38, 30), (39, 31), (40, 32), (41, 33), (42, 34), (43, 35), (44, 36), (45, 37), (46, 38), (47, 39), (48, 40), (49, 41), (50, 42), (51, 43), (52, 44), (53, 45), (54, 46), (55, 47)], [8, 9, 10, 11, 12, 13, 14, 15, 16, 17, 18, 19, 20, 21, 22, 23, 24, 25, 26, 27, 28, 29, 30, 31, 32, 33, 34, 35, 36, 37, 38, 39, 40, 41, 42, 43, 44, 45, 46, 47, 48, 49, 50, 51, 52, 53, 54, 55], false), (49, [(8, 0), (9, 1), (10, 2), (11, 3), (12, 4), (13, 5), (14, 6), (15, 7), (16, 8), (17, 9), (18, 10), (19, 11), (20, 12), (21, 13), (22, 14), (23, 15), (24, 16), (25, 17), (26, 18), (27, 19), (28, 20), (29, 21), (30, 22), (31, 23), (32, 24), (33, 25), (34, 26), (35, 27), (36, 28), (37, 29), (38, 30), (39, 31), (40, 32), (41, 33), (42, 34), (43, 35), (44, 36), (45, 37), (46, 38), (47, 39), (48, 40), (49, 41), (50, 42), (51, 43), (52, 44), (53, 45), (54, 46), (55, 47), (56, 48)], [8, 9, 10, 11, 12, 13, 14, 15, 16, 17, 18, 19, 20, 21, 22, 23, 24, 25, 26, 27, 28, 29, 30, 31, 32, 33, 34, 35, 36, 37, 38, 39, 40, 41, 42, 43, 44, 45, 46, 47, 48, 49, 50, 51, 52, 53, 54, 55, 56], false), (50, [(8, 0), (9, 1), (10, 2), (11, 3), (12, 4), (13, 5), (14, 6), (15, 7), (16, 8), (17, 9), (18, 10), (19, 11), (20, 12), (21, 13), (22, 14), (23, 15), (24, 16), (25, 17), (26, 18), (27, 19), (28, 20), (29, 21), (30, 22), (31, 23), (32, 24), (33, 25), (34, 26), (35, 27), (36, 28), (37, 29), (38, 30), (39, 31), (40, 32), (41, 33), (42, 34), (43, 35), (44, 36), (45, 37), (46, 38), (47, 39), (48, 40), (49, 41), (50, 42), (51, 43), (52, 44), (53, 45), (54, 46), (55, 47), (56, 48), (57, 49)], [8, 9, 10, 11, 12, 13, 14, 15, 16, 17, 18, 19, 20, 21, 22, 23, 24, 25, 26, 27, 28, 29, 30, 31, 32, 33, 34, 35, 36, 37, 38, 39, 40, 41, 42, 43, 44, 45, 46, 47, 48, 49, 50, 51, 52, 53, 54, 55, 56, 57], false), (51, [(8, 0), (9, 1), (10, 2), (11, 3), (12, 4), (13, 5), (14, 6), (15, 7), (16, 8), (17, 9), (18, 10), (19, 11), (20, 12), (21, 13), (22, 14), (23, 15), (24, 16), (25, 17), (26, 18), (27, 19), (28, 20), (29, 21), (30, 22), (31, 23), (32, 24), (33, 25), (34, 26), (35, 27), (36, 28), (37, 29), (38, 30), (39, 31), (40, 32), (41, 33), (42, 34), (43, 35), (44, 36), (45, 37), (46, 38), (47, 39), (48, 40), (49, 41), (50, 42), (51, 43), (52, 44), (53, 45), (54, 46), (55, 47), (56, 48), (57, 49), (58, 50)], [8, 9, 10, 11, 12, 13, 14, 15, 16, 17, 18, 19, 20, 21, 22, 23, 24, 25, 26, 27, 28, 29, 30, 31, 32, 33, 34, 35, 36, 37, 38, 39, 40, 41, 42, 43, 44, 45, 46, 47, 48, 49, 50, 51, 52, 53, 54, 55, 56, 57, 58], false), (52, [(8, 0), (9, 1), (10, 2), (11, 3), (12, 4), (13, 5), (14, 6), (15, 7), (16, 8), (17, 9), (18, 10), (19, 11), (20, 12), (21, 13), (22, 14), (23, 15), (24, 16), (25, 17), (26, 18), (27, 19), (28, 20), (29, 21), (30, 22), (31, 23), (32, 24), (33, 25), (34, 26), (35, 27), (36, 28), (37, 29), (38, 30), (39, 31), (40, 32), (41, 33), (42, 34), (43, 35), (44, 36), (45, 37), (46, 38), (47, 39), (48, 40), (49, 41), (50, 42), (51, 43), (52, 44), (53, 45), (54, 46), (55, 47), (56, 48), (57, 49), (58, 50), (59, 51)], [8, 9, 10, 11, 12, 13, 14, 15, 16, 17, 18, 19, 20, 21, 22, 23, 24, 25, 26, 27, 28, 29, 30, 31, 32, 33, 34, 35, 36, 37, 38, 39, 40, 41, 42, 43, 44, 45, 46, 47, 48, 49, 50, 51, 52, 53, 54, 55, 56, 57, 58, 59], false)]
    [(8, 0), (9, 1), (10, 2), (11, 3), (12, 4), (13, 5), (14, 6), (15, 7), (16, 8), (17, 9), (18, 10), (19, 11), (20, 12), (21, 13), (22, 14), (23, 15), (24, 16), (25, 17), (26, 18), (27, 19), (28, 20), (29, 21), (30, 22), (31, 23), (32, 24), (33, 25), (34, 26), (35, 27), (36, 28), (37, 29), (38, 30), (39, 31), (40, 32), (41, 33), (42, 34), (43, 35), (44, 36), (45, 37), (46, 38), (47, 39), (48, 40), (49, 41), (50, 42), (51, 43), (52, 44), (53, 45), (54, 46), (55, 47), (56, 48), (57, 49), (58, 50), (59, 51), (60, 52)]
    [(2, _), (3, _), (4, _)] rfl (by kernel_rfl)
  case hF => exact ⟨rfl, rfl, rfl, trivial⟩
  refine run ?_
  refine (check_ax (strR.grow hp g) (codeR.grow hcs g) hL).mono ?_
  rintro v X ⟨hv, e⟩
  subst X
  rcases hv with ⟨rfl, hv⟩ | ⟨rfl, hv⟩
  rotate_left
  · refine run ?_
    exact ⟨.inr ⟨rfl, fun h => hv h.1⟩, g⟩
  by_cases hF : 0 ≤ b.F ∧ b.F < p.2.2.length
  rotate_left
  · have e1 : (!decide (0 ≤ b.F ∧ b.F < (p.2.2.length : Int))) = true := by rw [decide_eq_false hF]; rfl
    (try (conv => whnf)); (repeat' ((fail_if_success (with_reducible refine And.intro ?_ ?_)); (fail_if_success (with_reducible refine Exists.intro ?_ ?_)); (first | ((with_reducible refine AX.id ?_); (first | (refine (irBelow_ax _ _ _).mono ?_; (rintro _ X ⟨rfl, eX⟩; subst X; (conv => whnf))))) | (refine step0 ?_) | (apply bIf.of <;> intro hc <;> (conv => whnf)))))
    refine ⟨.inr ⟨rfl, fun h => hF ?_⟩, g⟩
    obtain ⟨_, h0, c, L, hc, _⟩ := h
    exact ⟨h0, by have := lt_of_get hc; omega⟩
  have e1 : (!decide (0 ≤ b.F ∧ b.F < (p.2.2.length : Int))) = false := by rw [decide_eq_true hF]; rfl
  obtain ⟨f, hf⟩ : ∃ f : Nat, b.F = (f : Int) := ⟨b.F.toNat, by omega⟩
  obtain ⟨c, hc⟩ := get_lt (L := p.2.2) (m := f) (by omega)
  obtain ⟨bq, i1, i2⟩ := ldx_code hcs hc
  have i3 := (i2 H2 g).1
  rw [← hf] at i1
  have hcf : p.2.2[b.F.toNat]? = some c := by rw [hf, Int.toNat_natCast]; exact hc
  have un : ∀ {c' : CodeT}, p.2.2[b.F.toNat]? = some c' → c' = c := fun h => by rw [hcf] at h; simp only [Option.some.injEq] at h; exact h.symm
  by_cases hlim : BLim p c b
  rotate_left
  · have bad : IrV p b (.int .i64 16) ∧ Grow H H2 := ⟨.inr ⟨rfl, fun ⟨_, _, c', L, h1, h2, _⟩ => hlim (by rw [← un h1]; exact h2)⟩, g⟩
    (try (conv => whnf)); (repeat' ((fail_if_success (with_reducible refine And.intro ?_ ?_)); (fail_if_success (with_reducible refine Exists.intro ?_ ?_)); (first | ((with_reducible refine AX.id ?_); (first | (refine (irBelow_ax _ _ _).mono ?_; (rintro _ X ⟨rfl, eX⟩; subst X; (conv => whnf))))) | (refine step0 ?_) | (apply bIf.of <;> intro hc <;> (conv => whnf)))))
    all_goals first
      | exact bad
      | (exfalso; refine hlim ?_; clear bad b1 b2 i1 i2 i3 l2 l3 l4 l5; unfold BLim; ((try (simp only [ba_ne_t, ba_ne_f, ba_eq_t, ba_eq_f, bne_iff_ne, bne_eq_false_iff_eq, decide_eq_true_eq, decide_eq_false_iff_not, beq_iff_eq, beq_eq_false_iff_ne, ne_eq, Bool.not_eq_true, Bool.not_eq_false, Bool.not_eq_true', Bool.not_eq_false'] at *)); (try simp only [Bool.false_eq_true, false_iff, true_iff, Classical.not_not, Bool.not_false, Bool.not_true] at *)); omega)
  have hlim' := hlim
  unfold BLim at hlim'
  have t1 : decide (b.regs < c.2.1) = false := decide_eq_false (by omega)
  have t2 : decide (b.regs > 88) = false := decide_eq_false (by omega)
  have t3 : decide ((b.consts.length : Int) > 4000) = false := decide_eq_false (by omega)
  have t4 : decide ((b.ops.length : Int) < 1) = false := decide_eq_false (by omega)
  have t5 : decide ((b.ops.length : Int) > 16000) = false := decide_eq_false (by omega)
  have t6 : decide ((b.deps.length : Int) > 200) = false := decide_eq_false (by omega)
  (try (conv => whnf)); (repeat' ((fail_if_success (with_reducible refine And.intro ?_ ?_)); (fail_if_success (with_reducible refine Exists.intro ?_ ?_)); (first | ((with_reducible refine AX.id ?_); (first | (refine (irBelow_ax _ _ _).mono ?_; (rintro _ X ⟨rfl, eX⟩; subst X; (conv => whnf))))) | (refine step0 ?_) | (apply bIf.of <;> intro hc <;> (conv => whnf)))))
  refine (containsv_ax (xval_grow hb.con g) hsm.con hsm.vals).mono ?_
  rintro _ X ⟨⟨t, rfl, ht⟩, e⟩
  subst X
  cases t with
  | true =>
    refine run ?_
    exact ⟨.inr ⟨rfl, fun ⟨_, _, c', L, h1, h2, h3, _⟩ => ht.1 rfl h3⟩, g⟩
  | false =>
  have hVals : ValsP b.consts := Classical.byContradiction fun h => by simpa using ht.2 h
  refine run ?_
  refine (containsd_ax (depR.grow hb.deps g) hsm.deps).mono ?_
  rintro _ X ⟨⟨t, rfl, ht⟩, e⟩
  subst X
  cases t with
  | true =>
    refine run ?_
    exact ⟨.inr ⟨rfl, fun ⟨_, _, c', L, h1, h2, h3, h4, _⟩ => ht.1 rfl h4⟩, g⟩
  | false =>
  have hD : DepsP b.deps := Classical.byContradiction fun h => by simpa using ht.2 h
  refine run ?_
  have p2 := strR.grow hp g
  have b1' := b1
  have b2' := b2
  have c2 := codeR.grow hcs g
  refine SW.sub (F := [(2, _), (3, _)]) ?_ (Sub.of ⟨rfl, rfl, trivial⟩)
  refine SW.drawP 8 (fun i F v K => match i with | 0 => v = progV p ps cs | 1 => v = bodyV b kv ov dv | 2 => v = progV p ps cs | 3 => v = .pointer (some ⟨q2, 0, none⟩) | 4 => v = .int .i64 b.F | 5 => ∃ L, DL p b.F L ∧ OwnR 1 3 intR K v L | 6 => v = chkV p ps cs b kv ov dv ((getF F 74).getD undef) | 7 => ∃ q, v = .pointer (some ⟨q, 0, none⟩) ∧ H2.length ≤ q ∧ K[q]? = some (.cells .var [.int .i64 0, .slice none 0 0, .slice none 0 0, .int .i64 0, .int .i64 0, .slice none 0 0, .slice none 0 0, .slice none 0 0, .slice none 0 0]) | _ => True) rfl (by kernel_rfl) ?_ ?_ ?_
  · intro i F v K K1 h g
    match i, h with
    | 0, h => exact h
    | 1, h => exact h
    | 2, h => exact h
    | 3, h => exact h
    | 4, h => exact h
    | 5, h => (obtain ⟨L, h1, h2⟩ := h; exact ⟨L, h1, h2.keep (fun b c _ hb => g.at hb) fun _ _ _ h => h⟩)
    | 6, h => exact h
    | 7, h => (obtain ⟨q, h1, h2, h3⟩ := h; exact ⟨q, h1, h2, g.at h3⟩)
    | i + 8, h => trivial
  · intro i oX V K hi hoX hg hT
    have b1 := hg.hblk b1
    have b2 := hg.hblk b2
    match i, hi, hoX, hT with
    | 0, hi, hoX, hT =>
      obtain rfl := Option.some.inj hoX
      rw [envOf_eq, show pairsOf _ _ 0 = [] from by kernel_rfl, show exOf _ _ 0 = [70, 71, 72, 73, 74, 5] from by kernel_rfl]
      (try simp only [valsOf])
      refine run ?_
      exact ⟨.refl _, rfl⟩
    | 1, hi, hoX, hT =>
      obtain rfl := Option.some.inj hoX
      rw [envOf_eq, show pairsOf _ _ 1 = [] from by kernel_rfl, show exOf _ _ 1 = [69, 71, 72, 73, 74, 5] from by kernel_rfl]
      (try simp only [valsOf])
      refine run ?_
      exact ⟨.refl _, rfl⟩
    | 2, hi, hoX, hT =>
      obtain rfl := Option.some.inj hoX
      rw [envOf_eq, show pairsOf _ _ 2 = [] from by kernel_rfl, show exOf _ _ 2 = [69, 70, 72, 73, 5] from by kernel_rfl]
      (try simp only [valsOf])
      refine run ?_
      exact ⟨.refl _, rfl⟩
    | 3, hi, hoX, hT =>
      obtain rfl := Option.some.inj hoX
      rw [envOf_eq, show pairsOf _ _ 3 = [] from by kernel_rfl, show exOf _ _ 3 = [69, 70, 71, 5] from by kernel_rfl]
      (try simp only [valsOf])
      refine run ?_
      exact ⟨.refl _, rfl⟩
    | 4, hi, hoX, hT =>
      obtain rfl := Option.some.inj hoX
      have e3 := hT 3 (by kernel_rfl)
      (conv at e3 => whnf)
      rw [envOf_eq, show pairsOf _ _ 4 = [(72, 3)] from by kernel_rfl, show exOf _ _ 4 = [69, 70, 71, 72, 5] from by kernel_rfl]
      (try simp only [valsOf, e3])
      refine run ?_
      exact ⟨.refl _, rfl⟩
    | 5, hi, hoX, hT =>
      obtain rfl := Option.some.inj hoX
      have e2 := hT 2 (by kernel_rfl)
      (conv at e2 => whnf)
      have e3 := hT 3 (by kernel_rfl)
      (conv at e3 => whnf)
      have e4 := hT 4 (by kernel_rfl)
      (conv at e4 => whnf)
      rw [envOf_eq, show pairsOf _ _ 5 = [(71, 2), (72, 3), (73, 4)] from by kernel_rfl, show exOf _ _ 5 = [69, 70, 71, 72, 73, 5] from by kernel_rfl]
      (try simp only [valsOf, e2, e3, e4])
      refine run ?_
      refine (DepthsO_ax (strR.grow p2 hg) (codeR.grow c2 hg) hL b.F).mono ?_
      rintro v K2 ⟨⟨L, h1, h2⟩, h3⟩
      refine run ?_
      exact ⟨h3, L, h1, h2⟩
    | 6, hi, hoX, hT =>
      obtain rfl := Option.some.inj hoX
      have e0 := hT 0 (by kernel_rfl)
      (conv at e0 => whnf)
      have e1 := hT 1 (by kernel_rfl)
      (conv at e1 => whnf)
      have e2 := hT 2 (by kernel_rfl)
      (conv at e2 => whnf)
      have e3 := hT 3 (by kernel_rfl)
      (conv at e3 => whnf)
      have e4 := hT 4 (by kernel_rfl)
      (conv at e4 => whnf)
      have e5 := hT 5 (by kernel_rfl)
      (conv at e5 => whnf)
      rw [envOf_eq, show pairsOf _ _ 6 = [(69, 0), (70, 1), (71, 2), (72, 3), (73, 4), (74, 5)] from by kernel_rfl, show exOf _ _ 6 = [69, 70, 71, 72, 73, 74, 5] from by kernel_rfl]
      (try simp only [valsOf, e0, e1, e2, e3, e4])
      generalize V.getD 5 undef = sv at e5 ⊢
      obtain ⟨L, h1, h2⟩ := e5
      obtain ⟨y1, y2, y3, rfl⟩ := h2.form
      refine run ?_
      exact ⟨.refl _, rfl⟩
    | 7, hi, hoX, hT =>
      obtain rfl := Option.some.inj hoX
      rw [envOf_eq, show pairsOf _ _ 7 = [] from by kernel_rfl, show exOf _ _ 7 = [69, 70, 71, 72, 73, 74, 75] from by kernel_rfl]
      (try simp only [valsOf])
      (conv => whnf)
      refine Ob2.alloc rfl fun q K2 hq a1 k1 => ?_
      refine run ?_
      exact ⟨k1, q, rfl, by rw [hq]; exact hg.1, a1⟩
  intro oX V K hV hoX hg hT
  have b1 := hg.hblk b1
  have b2 := hg.hblk b2
  obtain rfl := Option.some.inj hoX
  have e0 := hT 0 (by decide)
  (conv at e0 => whnf)
  have e1 := hT 1 (by decide)
  (conv at e1 => whnf)
  have e2 := hT 2 (by decide)
  (conv at e2 => whnf)
  have e3 := hT 3 (by decide)
  (conv at e3 => whnf)
  have e4 := hT 4 (by decide)
  (conv at e4 => whnf)
  have e5 := hT 5 (by decide)
  try rw [show pairsOf _ _ 5 = [(71, 2), (72, 3), (73, 4)] from by kernel_rfl] at e5
  (try simp only [valsOf] at e5)
  (conv at e5 => whnf)
  have e6 := hT 6 (by decide)
  try rw [show pairsOf _ _ 6 = [(69, 0), (70, 1), (71, 2), (72, 3), (73, 4), (74, 5)] from by kernel_rfl] at e6
  (try simp only [valsOf] at e6)
  (conv at e6 => whnf)
  have e7 := hT 7 (by decide)
  try rw [show pairsOf _ _ 7 = [] from by kernel_rfl] at e7
  (try simp only [valsOf] at e7)
  (conv at e7 => whnf)
  have es : ∀ v k, k ≠ 8 → (V.set 8 v).getD k undef = V.getD k undef := fun v k hk => by rw [getD_set (by omega), if_neg hk]
  have ec : ∀ v, (V.set 8 v).getD 8 undef = v := fun v => by rw [getD_set (by omega), if_pos rfl]
  rw [envOf_eq, show pairsOf _ _ 8 = [(69, 0), (70, 1), (71, 2), (72, 3), (73, 4), (74, 5), (75, 6), (5, 7)] from by kernel_rfl, show exOf _ _ 8 = [69, 70, 71, 72, 73, 74, 75, 5] from by kernel_rfl]
  (try simp only [valsOf, e0, e1, e2, e3, e4])
  obtain ⟨L, hDL, hO⟩ := e5
  obtain ⟨q5, e7, hq5, a5⟩ := e7
  replace e6 : V.getD 6 undef = chkV p ps cs b kv ov dv (V.getD 5 undef) := e6
  generalize V.getD 5 undef = sv at hO e6
  simp only [e6, e7]
  (conv => whnf)
  refine Ob.store rfl rfl rfl a5 rfl (by first | exact Nat.le_of_ble_eq_true rfl | simp) fun H3 s5 k5 m5 => ?_
  (try dsimp only)
  rw [endOf_eq, show endsOf _ = [(69, 0), (70, 1), (71, 2), (72, 3), (73, 4), (74, 5), (75, 6), (5, 7)] from by kernel_rfl]
  simp only [valsOf, ec, es _ 0 (by decide), es _ 1 (by decide), es _ 2 (by decide), es _ 3 (by decide), es _ 4 (by decide), es _ 5 (by decide), es _ 6 (by decide), es _ 7 (by decide)]
  simp only [e6, e7]
  have hO2 : OwnR 1 3 intR H3 sv L := hO.keep (fun b c _ hb => k5.at hb (by rintro rfl; rw [a5] at hb; simp at hb)) fun _ _ _ h => h
  have g3 : Grow H2 H3 := hg.but_new k5 hq5
  have b1 := k5.hblk b1 (by rintro rfl; have := lt_hblk b1'; omega)
  have b2 := k5.hblk b2 (by rintro rfl; have := lt_hblk b2'; omega)
  have b5 := hblk_of s5
  have g4 := g.trans g3
  have l4 : alen Try.prog 27 ov H3 = some (.int .i64 b.ops.length) := hb.ops.len rfl _
  have hCl : Closed c L := by
    rcases hDL with ⟨c', _, h1, _, h2⟩ | ⟨h1, _⟩
    · rw [← un h1]; exact h2
    · rcases h1 with h1 | h1 | h1
      · omega
      · omega
      · exact absurd hv h1
  have uL : ∀ {c' L'}, p.2.2[b.F.toNat]? = some c' → Closed c' L' → c' = c ∧ L' = L := fun h1 h2 => by
    have := un h1
    subst this
    exact ⟨rfl, h2.uniq hCl⟩
  obtain ⟨y1, y2, y3, rfl⟩ := hO2.form
  clear hT es e0 e1 e2 e3 e4 s5 k5 a5 hO hg
  refine run ?_
  refine SW.loop (α := Nat) (fun m => [(2, .pointer (some ⟨q1, 0, none⟩)), (3, .pointer (some ⟨q2, 0, none⟩)), (5, .pointer (some ⟨q5, 0, none⟩)), (78, .int .i64 (b.ops.length : Int)), (79, .int .i64 (m : Int))]) (fun m X => m ≤ b.ops.length ∧ OpsP p c b L m ∧ X = H3) (fun m => b.ops.length - m) ⟨0, ⟨rfl, rfl, rfl, rfl, rfl, trivial⟩, by omega, fun i o hi => by omega, rfl⟩ ?_
  rintro m X ⟨hm, htm, e⟩
  subst X
  refine bC_sound _ _ _ _ ?_
  by_cases hml : m < b.ops.length
  · have d1 : decide ((m : Int) < (b.ops.length : Int)) = true := decide_eq_true (by omega)
    obtain ⟨o, ho⟩ := get_lt hml
    obtain ⟨o1, o2, o3⟩ := hsm.op o (List.mem_of_getElem? ho)
    refine run ?_
    refine (op_ax (strR.grow hp g4) (codeR.grow hcs g4) (hb.grow g4) hO2.rl hf hc ho o1 o2 o3).mono ?_
    rintro _ X ⟨⟨t, rfl, hto⟩, e⟩
    subst X
    cases t with
    | true =>
      refine run ?_
      exact ⟨m + 1, ⟨rfl, rfl, rfl, rfl, congrArg (fun z => some (Value.int .i64 z)) (w_succ (by omega)), trivial⟩, ⟨hml, htm.next ho (hto.1 rfl), rfl⟩, by show _ - (m + 1) < _ - m; omega⟩
    | false =>
      refine run ?_
      refine ⟨.inr ⟨rfl, fun ⟨_, _, c', L', h1, h2, h3, h4, h5, h6, _⟩ => ?_⟩, g4⟩
      obtain ⟨rfl, rfl⟩ := uL h1 h5
      have := hto.2 (h6 m o hml ho)
      simp at this
  · have d1 : decide ((m : Int) < (b.ops.length : Int)) = false := decide_eq_false (by omega)
    have hme : m = b.ops.length := by omega
    rw [hme] at htm
    obtain ⟨o, ho⟩ := get_lt (L := b.ops) (m := b.ops.length - 1) (by omega)
    obtain ⟨bo, _, _, _, i1, _, _, _, i2⟩ := ldx_op hb.ops ho
    have i3 := (i2 H3 g4).2
    have w : IntKind.i64.wrap ((b.ops.length : Int) - 1) = ((b.ops.length - 1 : Nat) : Int) := by rw [wrap_i64 (by omega) (by omega)]; omega
    rw [← w] at i1
    have hlast : o.kind = lastK b.ops := by
      unfold lastK kindAt
      rw [show ((b.ops.length : Int) - 1).toNat = b.ops.length - 1 by omega, List.getD_eq_getElem?_getD, ho]
      rfl
    rw [hlast] at i3
    (try (conv => whnf)); (repeat' ((fail_if_success (with_reducible refine And.intro ?_ ?_)); (fail_if_success (with_reducible refine Exists.intro ?_ ?_)); (first | (refine step0 ?_) | (apply bIf.of <;> intro hc <;> (conv => whnf)))))
    all_goals clear i1 i3 b1 b2 b5 l4 d1 w
    all_goals ((try (simp only [ba_ne_t, ba_ne_f, ba_eq_t, ba_eq_f, bne_iff_ne, bne_eq_false_iff_eq, decide_eq_true_eq, decide_eq_false_iff_not, beq_iff_eq, beq_eq_false_iff_ne, ne_eq, Bool.not_eq_true, Bool.not_eq_false, Bool.not_eq_true', Bool.not_eq_false'] at *)); (try simp only [Bool.false_eq_true, false_iff, true_iff, Classical.not_not, Bool.not_false, Bool.not_true] at *))
    · refine ⟨.inr ⟨rfl, fun ⟨_, _, c', L', h1, h2, h3, h4, h5, h6, h7⟩ => ?_⟩, g4⟩
      omega
    · exact ⟨.inl ⟨rfl, hv, hF.1, c, L, hcf, hlim, hVals, hD, hCl, htm, by omega⟩, g4⟩
    · exact ⟨.inl ⟨rfl, hv, hF.1, c, L, hcf, hlim, hVals, hD, hCl, htm, by omega⟩, g4⟩
end Go.Proofs.Ytfobbmllbbckkaa
/- The document of package ir: what operations read and write; may their parts be? -/
set_option linter.unusedVariables false
set_option linter.unusedSimpArgs false
set_option maxRecDepth 20000
set_option maxHeartbeats 8000000
namespace Go.Proofs.Ytfobbmllbbckkaa
open Go Ax
theorem in_ax (H : Heap) (n a b : Int) : AX Try.prog 28 #[.int .i64 n, .int .i64 a, .int .i64 b] H (fun v H' => v = .bool (decide (a ≤ n ∧ n ≤ b)) ∧ H' = H) := by
  refine AX.body (n := 15) (rs := [.tmp 6]) Try.func28 rfl (by decide) rfl rfl (bC_sound _ _ _ _ ?_)
  (try (conv => whnf)); (repeat' ((fail_if_success (with_reducible refine And.intro ?_ ?_)); (fail_if_success (with_reducible refine Exists.intro ?_ ?_)); (first | (refine step0 ?_) | (apply bIf.of <;> intro hc <;> (conv => whnf)))))
  all_goals refine ⟨congrArg Value.bool ?_, rfl⟩
  all_goals ((try (simp only [ba_ne_t, ba_ne_f, ba_eq_t, ba_eq_f, bne_iff_ne, bne_eq_false_iff_eq, decide_eq_true_eq, decide_eq_false_iff_not, beq_iff_eq, beq_eq_false_iff_ne, ne_eq, Bool.not_eq_true, Bool.not_eq_false, Bool.not_eq_true', Bool.not_eq_false'] at *)); (try simp only [Bool.false_eq_true, false_iff, true_iff, Classical.not_not, Bool.not_false, Bool.not_true] at *))
  all_goals rw [Bool.eq_iff_iff]
  all_goals simp only [decide_eq_true_eq, Bool.false_eq_true, false_iff]
  all_goals omega
def isR (k : Int) (i : Nat) : Bool := Nat.beq (fl k i) 114
def isW (k : Int) : Bool := Nat.beq (fl k 0) 82
theorem fl_no {k : Int} (h : ¬ (1 ≤ k ∧ k ≤ 30)) (i : Nat) : fl k i = 0 := by
  have : fldN k = [] := by
    unfold fldN
    by_cases h0 : k < 1
    · rw [show k.toNat = 0 by omega]; rfl
    · rw [List.getD_eq_getElem?_getD, List.getElem?_eq_none (by simp [fldL]; omega)]; rfl
  unfold fl
  rw [this]
  rfl
theorem plain_four (a b c d : Bool) : plain (.tuple #[.bool a, .bool b, .bool c, .bool d]) := plain_tuple (vs := [_, _, _, _]) fun x hx => by
  simp only [List.mem_cons, List.not_mem_nil, or_false] at hx
  rcases hx with rfl | rfl | rfl | rfl <;> exact plain_bool _
theorem reads_ax (H : Heap) (k : Int) : AX Try.prog 68 #[.int .i64 k] H (fun v H' => v = .tuple #[.bool (isR k 0), .bool (isR k 1), .bool (isR k 2), .bool (isW k)] ∧ H' = H) := by
  refine AX.quiet ?_
  suffices hh : AX Try.prog 68 #[.int .i64 k] H (fun v H' => v = .tuple #[.bool (isR k 0), .bool (isR k 1), .bool (isR k 2), .bool (isW k)] ∧ Grow H H') from hh.mono fun v _ ⟨e, g⟩ => ⟨e ▸ plain_four _ _ _ _, e, g⟩
  refine AX.body (n := 42) (rs := [.tmp 2, .tmp 3, .tmp 4, .tmp 5]) Try.func68 rfl (by decide) rfl rfl (bC_sound _ _ _ _ ?_)
  by_cases h : 1 ≤ k ∧ k ≤ 30
  · rcases thirty h.1 h.2 with rfl | rfl | rfl | rfl | rfl | rfl | rfl | rfl | rfl | rfl | rfl | rfl | rfl | rfl | rfl | rfl | rfl | rfl | rfl | rfl | rfl | rfl | rfl | rfl | rfl | rfl | rfl | rfl | rfl | rfl <;> (refine run ?_; exact ⟨rfl, .refl _⟩)
  · have e : ∀ i, fl k i = 0 := fl_no h
    unfold isR isW
    rw [e, e, e]
    (try (conv => whnf)); (repeat' ((fail_if_success (with_reducible refine And.intro ?_ ?_)); (fail_if_success (with_reducible refine Exists.intro ?_ ?_)); (first | (refine step0 ?_) | (apply bIf.of <;> intro hc <;> (conv => whnf)))))
    all_goals first | exact ⟨rfl, .refl _⟩ | (exfalso; clear e; (simp only [ba_ne_t, ba_ne_f, ba_eq_t, ba_eq_f, bne_iff_ne, bne_eq_false_iff_eq, decide_eq_true_eq, decide_eq_false_iff_not, beq_iff_eq, beq_eq_false_iff_ne, ne_eq, Bool.not_eq_true, Bool.not_eq_false, Bool.not_eq_true', Bool.not_eq_false'] at *); omega)
/-- The registers that an operation reads. -/
def usesL (o : OpX) : List Int := ((([] ++ if isR o.kind 0 then [o.a] else []) ++ if isR o.kind 1 then [o.b] else []) ++ if isR o.kind 2 then [o.c] else []) ++ o.regs
def defL (o : OpX) : Int := if isW o.kind then o.a else -1
theorem intR.fr {n : Nat} {e : TypeId} : ∀ A B, FrR n e A B → ∀ (l : List Value) (x : Int), intR A l x → intR B l x := fun _ _ _ _ _ h => h
theorem app1 {n b2 : Nat} {m2 : Ax.Mode} {H : Heap} {sv : Value} {L : List Int} {x : Int} (h : OwnR 1 3 intR H sv L) (hsv : ∀ b, blkIs sv b → n ≤ b) (hn : n ≤ H.length) (hL : L.length ≤ 1000000) (hb2 : H[b2]? = some (.cells m2 [.int .i64 x])) :
    ∃ sv' H', aappend Try.prog 38 38 sv (.slice (some ⟨b2, 0, none⟩) 1 1) H = some (sv', H') ∧ OwnR 1 3 intR H' sv' (L ++ [x]) ∧ FrR n 3 H H' ∧ ∀ b, blkIs sv' b → n ≤ b := by
  obtain ⟨H', h1, h2, h3, _⟩ := OwnR.append rowI rowI h hb2 rfl (show intR H _ x from rfl) hsv hn hL (fun _ _ _ _ _ h => h)
  exact ⟨_, H', h1, h2, h3, fun b ⟨_, _, e⟩ => by simp only [Value.slice.injEq, Option.some.injEq, Addr.mk.injEq] at e; omega⟩
theorem refUses_ax {H : Heap} {o : OpX} {rv cv mv : Value} (hr : RL 1 intR H rv o.regs) (hL : o.regs.length ≤ 100000) :
    AX Try.prog 35 #[opV o rv cv mv] H (fun v H' => RL 1 intR H' v (usesL o) ∧ Grow H H') := by
  refine AX.body (n := 38) (rs := [.tmp 2]) Try.func35 rfl (by decide) rfl rfl (bC_sound _ _ _ _ ?_)
  (conv => whnf)
  refine Ob2.box rfl fun q1 H1 hq1 a1 g1 => ?_
  have b1 := hblk_of a1
  refine run ?_
  refine (reads_ax _ _).mono ?_
  rintro _ X ⟨rfl, e⟩
  subst X
  have own1 : OwnR 1 3 intR H1 (.slice none 0 0) [] := .inl ⟨rfl, rfl⟩
  have hsv1 : ∀ b, blkIs (.slice none 0 0) b → H1.length ≤ b := fun b ⟨n, k, h⟩ => by simp at h
  have fr1 := FrR.refl H1.length 3 H1
  cases f0 : isR o.kind 0 with
  | false =>
    refine run ?_
    cases f1 : isR o.kind 1 with
    | false =>
      refine run ?_
      cases f2 : isR o.kind 2 with
      | false =>
        refine run ?_
        obtain ⟨sv9, H9, e91, e92, e93, e94⟩ := OwnR.appendL (n := H1.length) rowI rowI own1 (intR.grow hr (fr1.grow g1 g1.1)) hsv1 fr1.1 (by simp; omega) (fun _ _ _ _ _ h => h)
        refine run ?_
        refine Ob2.of e91 ?_
        obtain ⟨z1, z2, z3, rfl⟩ := e92.form
        refine run ?_
        refine ⟨?_, (fr1.trans e93).grow g1 g1.1⟩
        have := e92.rl
        simpa [usesL, f0, f1, f2, oneOr] using this
      | true =>
        refine run ?_
        refine Ob2.lay (H := H1) (.cells (.row 3) [.int .i64 o.c]) (.slice (some ⟨H1.length, 0, none⟩) 1 1) rfl fun G2 ad2 gd2 ld2 => ?_
        obtain ⟨sv2, H2, ee2, own2, fx2, hsv2⟩ := app1 (n := H1.length) (own1.keep (fun b c _ hb => gd2.at hb) fun _ _ _ h => h) hsv1 (by have := fr1.1; have := gd2.1; omega) (by simp) ad2
        refine run ?_
        refine Ob2.of ee2 ?_
        have fr2 := (fr1.trans (.of gd2)).trans fx2
        have b1 := hblk_of (fr2.2 q1 _ a1 (.inr fun c h => by simp at h))
        obtain ⟨z1, z2, z3, rfl⟩ := own2.form
        refine run ?_
        obtain ⟨sv9, H9, e91, e92, e93, e94⟩ := OwnR.appendL (n := H1.length) rowI rowI own2 (intR.grow hr (fr2.grow g1 g1.1)) hsv2 fr2.1 (by simp; omega) (fun _ _ _ _ _ h => h)
        refine run ?_
        refine Ob2.of e91 ?_
        obtain ⟨z1, z2, z3, rfl⟩ := e92.form
        refine run ?_
        refine ⟨?_, (fr2.trans e93).grow g1 g1.1⟩
        have := e92.rl
        simpa [usesL, f0, f1, f2, oneOr] using this
    | true =>
      refine run ?_
      refine Ob2.lay (H := H1) (.cells (.row 3) [.int .i64 o.b]) (.slice (some ⟨H1.length, 0, none⟩) 1 1) rfl fun G2 ad2 gd2 ld2 => ?_
      obtain ⟨sv2, H2, ee2, own2, fx2, hsv2⟩ := app1 (n := H1.length) (own1.keep (fun b c _ hb => gd2.at hb) fun _ _ _ h => h) hsv1 (by have := fr1.1; have := gd2.1; omega) (by simp) ad2
      refine run ?_
      refine Ob2.of ee2 ?_
      have fr2 := (fr1.trans (.of gd2)).trans fx2
      have b1 := hblk_of (fr2.2 q1 _ a1 (.inr fun c h => by simp at h))
      obtain ⟨z1, z2, z3, rfl⟩ := own2.form
      refine run ?_
      cases f2 : isR o.kind 2 with
      | false =>
        refine run ?_
        obtain ⟨sv9, H9, e91, e92, e93, e94⟩ := OwnR.appendL (n := H1.length) rowI rowI own2 (intR.grow hr (fr2.grow g1 g1.1)) hsv2 fr2.1 (by simp; omega) (fun _ _ _ _ _ h => h)
        refine run ?_
        refine Ob2.of e91 ?_
        obtain ⟨z1, z2, z3, rfl⟩ := e92.form
        refine run ?_
        refine ⟨?_, (fr2.trans e93).grow g1 g1.1⟩
        have := e92.rl
        simpa [usesL, f0, f1, f2, oneOr] using this
      | true =>
        refine run ?_
        refine Ob2.lay (H := H2) (.cells (.row 3) [.int .i64 o.c]) (.slice (some ⟨H2.length, 0, none⟩) 1 1) rfl fun G3 ad3 gd3 ld3 => ?_
        obtain ⟨sv3, H3, ee3, own3, fx3, hsv3⟩ := app1 (n := H1.length) (own2.keep (fun b c _ hb => gd3.at hb) fun _ _ _ h => h) hsv2 (by have := fr2.1; have := gd3.1; omega) (by simp) ad3
        refine run ?_
        refine Ob2.of ee3 ?_
        have fr3 := (fr2.trans (.of gd3)).trans fx3
        have b1 := hblk_of (fr3.2 q1 _ a1 (.inr fun c h => by simp at h))
        obtain ⟨z1, z2, z3, rfl⟩ := own3.form
        refine run ?_
        obtain ⟨sv9, H9, e91, e92, e93, e94⟩ := OwnR.appendL (n := H1.length) rowI rowI own3 (intR.grow hr (fr3.grow g1 g1.1)) hsv3 fr3.1 (by simp; omega) (fun _ _ _ _ _ h => h)
        refine run ?_
        refine Ob2.of e91 ?_
        obtain ⟨z1, z2, z3, rfl⟩ := e92.form
        refine run ?_
        refine ⟨?_, (fr3.trans e93).grow g1 g1.1⟩
        have := e92.rl
        simpa [usesL, f0, f1, f2, oneOr] using this
  | true =>
    refine run ?_
    refine Ob2.lay (H := H1) (.cells (.row 3) [.int .i64 o.a]) (.slice (some ⟨H1.length, 0, none⟩) 1 1) rfl fun G2 ad2 gd2 ld2 => ?_
    obtain ⟨sv2, H2, ee2, own2, fx2, hsv2⟩ := app1 (n := H1.length) (own1.keep (fun b c _ hb => gd2.at hb) fun _ _ _ h => h) hsv1 (by have := fr1.1; have := gd2.1; omega) (by simp) ad2
    refine run ?_
    refine Ob2.of ee2 ?_
    have fr2 := (fr1.trans (.of gd2)).trans fx2
    have b1 := hblk_of (fr2.2 q1 _ a1 (.inr fun c h => by simp at h))
    obtain ⟨z1, z2, z3, rfl⟩ := own2.form
    refine run ?_
    cases f1 : isR o.kind 1 with
    | false =>
      refine run ?_
      cases f2 : isR o.kind 2 with
      | false =>
        refine run ?_
        obtain ⟨sv9, H9, e91, e92, e93, e94⟩ := OwnR.appendL (n := H1.length) rowI rowI own2 (intR.grow hr (fr2.grow g1 g1.1)) hsv2 fr2.1 (by simp; omega) (fun _ _ _ _ _ h => h)
        refine run ?_
        refine Ob2.of e91 ?_
        obtain ⟨z1, z2, z3, rfl⟩ := e92.form
        refine run ?_
        refine ⟨?_, (fr2.trans e93).grow g1 g1.1⟩
        have := e92.rl
        simpa [usesL, f0, f1, f2, oneOr] using this
      | true =>
        refine run ?_
        refine Ob2.lay (H := H2) (.cells (.row 3) [.int .i64 o.c]) (.slice (some ⟨H2.length, 0, none⟩) 1 1) rfl fun G3 ad3 gd3 ld3 => ?_
        obtain ⟨sv3, H3, ee3, own3, fx3, hsv3⟩ := app1 (n := H1.length) (own2.keep (fun b c _ hb => gd3.at hb) fun _ _ _ h => h) hsv2 (by have := fr2.1; have := gd3.1; omega) (by simp) ad3
        refine run ?_
        refine Ob2.of ee3 ?_
        have fr3 := (fr2.trans (.of gd3)).trans fx3
        have b1 := hblk_of (fr3.2 q1 _ a1 (.inr fun c h => by simp at h))
        obtain ⟨z1, z2, z3, rfl⟩ := own3.form
        refine run ?_
        obtain ⟨sv9, H9, e91, e92, e93, e94⟩ := OwnR.appendL (n := H1.length) rowI rowI own3 (intR.grow hr (fr3.grow g1 g1.1)) hsv3 fr3.1 (by simp; omega) (fun _ _ _ _ _ h => h)
        refine run ?_
        refine Ob2.of e91 ?_
        obtain ⟨z1, z2, z3, rfl⟩ := e92.form
        refine run ?_
        refine ⟨?_, (fr3.trans e93).grow g1 g1.1⟩
        have := e92.rl
        simpa [usesL, f0, f1, f2, oneOr] using this
    | true =>
      refine run ?_
      refine Ob2.lay (H := H2) (.cells (.row 3) [.int .i64 o.b]) (.slice (some ⟨H2.length, 0, none⟩) 1 1) rfl fun G3 ad3 gd3 ld3 => ?_
      obtain ⟨sv3, H3, ee3, own3, fx3, hsv3⟩ := app1 (n := H1.length) (own2.keep (fun b c _ hb => gd3.at hb) fun _ _ _ h => h) hsv2 (by have := fr2.1; have := gd3.1; omega) (by simp) ad3
      refine run ?_
      refine Ob2.of ee3 ?_
      have fr3 := (fr2.trans (.of gd3)).trans fx3
      have b1 := hblk_of (fr3.2 q1 _ a1 (.inr fun c h => by simp at h))
      obtain ⟨z1, z2, z3, rfl⟩ := own3.form
      refine run ?_
      cases f2 : isR o.kind 2 with
      | false =>
        refine run ?_
        obtain ⟨sv9, H9, e91, e92, e93, e94⟩ := OwnR.appendL (n := H1.length) rowI rowI own3 (intR.grow hr (fr3.grow g1 g1.1)) hsv3 fr3.1 (by simp; omega) (fun _ _ _ _ _ h => h)
        refine run ?_
        refine Ob2.of e91 ?_
        obtain ⟨z1, z2, z3, rfl⟩ := e92.form
        refine run ?_
        refine ⟨?_, (fr3.trans e93).grow g1 g1.1⟩
        have := e92.rl
        simpa [usesL, f0, f1, f2, oneOr] using this
      | true =>
        refine run ?_
        refine Ob2.lay (H := H3) (.cells (.row 3) [.int .i64 o.c]) (.slice (some ⟨H3.length, 0, none⟩) 1 1) rfl fun G4 ad4 gd4 ld4 => ?_
        obtain ⟨sv4, H4, ee4, own4, fx4, hsv4⟩ := app1 (n := H1.length) (own3.keep (fun b c _ hb => gd4.at hb) fun _ _ _ h => h) hsv3 (by have := fr3.1; have := gd4.1; omega) (by simp) ad4
        refine run ?_
        refine Ob2.of ee4 ?_
        have fr4 := (fr3.trans (.of gd4)).trans fx4
        have b1 := hblk_of (fr4.2 q1 _ a1 (.inr fun c h => by simp at h))
        obtain ⟨z1, z2, z3, rfl⟩ := own4.form
        refine run ?_
        obtain ⟨sv9, H9, e91, e92, e93, e94⟩ := OwnR.appendL (n := H1.length) rowI rowI own4 (intR.grow hr (fr4.grow g1 g1.1)) hsv4 fr4.1 (by simp; omega) (fun _ _ _ _ _ h => h)
        refine run ?_
        refine Ob2.of e91 ?_
        obtain ⟨z1, z2, z3, rfl⟩ := e92.form
        refine run ?_
        refine ⟨?_, (fr4.trans e93).grow g1 g1.1⟩
        have := e92.rl
        simpa [usesL, f0, f1, f2, oneOr] using this
theorem refDef_ax (H : Heap) (o : OpX) (rv cv mv : Value) : AX Try.prog 31 #[opV o rv cv mv] H (fun v H' => v = .int .i64 (defL o) ∧ H' = H) := by
  refine AX.quiet ?_
  suffices hh : AX Try.prog 31 #[opV o rv cv mv] H (fun v H' => v = .int .i64 (defL o) ∧ Grow H H') from hh.mono fun v _ ⟨e, g⟩ => ⟨e ▸ plain_int _ _, e, g⟩
  refine AX.body (n := 18) (rs := [.tmp 2]) Try.func31 rfl (by decide) rfl rfl (bC_sound _ _ _ _ ?_)
  (conv => whnf)
  refine Ob2.box rfl fun q1 H1 hq1 a1 g => ?_
  have b1 := hblk_of a1
  (try (conv => whnf)); (repeat' ((fail_if_success (with_reducible refine And.intro ?_ ?_)); (fail_if_success (with_reducible refine Exists.intro ?_ ?_)); (first | ((with_reducible refine AX.id ?_); (first | (refine (reads_ax _ _).mono ?_; (rintro _ X ⟨rfl, eX⟩; subst X; (conv => whnf))))) | (refine step0 ?_) | (apply bIf.of <;> intro hc <;> (conv => whnf)))))
  all_goals refine ⟨congrArg (Value.int .i64) ?_, g⟩
  all_goals simp [defL, hc]
theorem refWrong_ax (H : Heap) (o : OpX) (rv cv mv : Value) : AX Try.prog 36 #[opV o rv cv mv] H (fun v H' => v = .bool (isW o.kind) ∧ H' = H) := by
  refine AX.quiet ?_
  suffices hh : AX Try.prog 36 #[opV o rv cv mv] H (fun v H' => v = .bool (isW o.kind) ∧ Grow H H') from hh.mono fun v _ ⟨e, g⟩ => ⟨e ▸ plain_bool _, e, g⟩
  refine AX.body (n := 16) (rs := [.tmp 2]) Try.func36 rfl (by decide) rfl rfl (bC_sound _ _ _ _ ?_)
  (conv => whnf)
  refine Ob2.box rfl fun q1 H1 hq1 a1 g => ?_
  have b1 := hblk_of a1
  (try (conv => whnf)); (repeat' ((fail_if_success (with_reducible refine And.intro ?_ ?_)); (fail_if_success (with_reducible refine Exists.intro ?_ ?_)); (first | ((with_reducible refine AX.id ?_); (first | (refine (reads_ax _ _).mono ?_; (rintro _ X ⟨rfl, eX⟩; subst X; (conv => whnf))))) | (refine step0 ?_) | (apply bIf.of <;> intro hc <;> (conv => whnf)))))
  exact ⟨rfl, g⟩
theorem refRegs_ax {H : Heap} {u : Value} {L : List Int} (hu : RL 1 intR H u L) (hL : L.length < 4294967296) (m : Int) (hm : -1000000 ≤ m) (hm2 : m ≤ 9223372036854775807) :
    AX Try.prog 34 #[u, .int .i64 m] H (fun v H' => (∃ b, v = .bool b ∧ (b = true ↔ RegsP m L)) ∧ H' = H) := by
  refine AX.quiet ?_
  suffices hh : AX Try.prog 34 #[u, .int .i64 m] H (fun v H' => (∃ b, v = .bool b ∧ (b = true ↔ RegsP m L)) ∧ Grow H H') from hh.mono fun v _ ⟨⟨b, e, k⟩, g⟩ => ⟨e ▸ plain_bool _, ⟨b, e, k⟩, g⟩
  refine AX.body (n := 20) (rs := [.tmp 4]) Try.func34 rfl (by decide) rfl rfl (bC_sound _ _ _ _ ?_)
  have l1 : alen Try.prog 38 u H = some (.int .i64 L.length) := hu.len rfl _
  have w1 : IntKind.i64.wrap (m - 1) = m - 1 := wrap_i64 (by omega) (by omega)
  refine run ?_
  refine SW.loop (α := Nat) (fun k => [(0, u), (1, .int .i64 m), (5, .int .i64 (k : Int))]) (fun k H' => k ≤ L.length ∧ (∀ (i : Nat) x, i < k → L[i]? = some x → 0 ≤ x ∧ x < m) ∧ H' = H) (fun k => L.length - k) ⟨0, ⟨rfl, rfl, rfl, trivial⟩, by omega, fun i s h => by omega, rfl⟩ ?_
  rintro k X ⟨hk, ht, e⟩
  subst X
  refine bC_sound _ _ _ _ ?_
  by_cases hml : k < L.length
  · have d1 : decide ((k : Int) < (L.length : Int)) = true := decide_eq_true (by omega)
    obtain ⟨x, hx⟩ := get_lt hml
    obtain ⟨p, i1, i2⟩ := ld_int hu hx
    have i3 := i2 H (.refl _)
    refine run ?_
    refine (in_ax H x 0 _).mono ?_
    rintro _ X ⟨rfl, e⟩
    subst X
    rw [w1]
    by_cases hp : 0 ≤ x ∧ x ≤ m - 1
    · have e1 : (!decide (0 ≤ x ∧ x ≤ m - 1)) = false := by rw [decide_eq_true hp]; rfl
      refine run ?_
      refine ⟨k + 1, ⟨rfl, rfl, congrArg (fun z => some (Value.int .i64 z)) (w_succ (by omega)), trivial⟩, ⟨hml, fun i s hi hs => ?_, rfl⟩, by show L.length - (k + 1) < L.length - k; omega⟩
      by_cases him : i = k
      · subst him; rw [hx] at hs; simp only [Option.some.injEq] at hs; subst hs; omega
      · exact ht i s (by omega) hs
    · have e1 : (!decide (0 ≤ x ∧ x ≤ m - 1)) = true := by rw [decide_eq_false hp]; rfl
      refine run ?_
      exact ⟨⟨false, rfl, by simp only [Bool.false_eq_true, false_iff]; exact fun h => by have := h x (List.mem_of_getElem? hx); omega⟩, .refl _⟩
  · have d1 : decide ((k : Int) < (L.length : Int)) = false := decide_eq_false (by omega)
    refine run ?_
    refine ⟨⟨true, rfl, fun _ x hx => ?_, fun _ => rfl⟩, .refl _⟩
    obtain ⟨i, hi, rfl⟩ := List.getElem_of_mem hx
    exact ht i L[i] (by omega) (List.getElem?_eq_getElem hi)
end Go.Proofs.Ytfobbmllbbckkaa
/- The document of package ir: may an operation's parts, lists and values be? -/
set_option linter.unusedVariables false
set_option linter.unusedSimpArgs false
set_option maxRecDepth 20000
set_option maxHeartbeats 8000000
namespace Go.Proofs.Ytfobbmllbbckkaa
open Go Ax
/-- The parts of an operation that are no registers. -/
def noReg (t : Nat) : Bool := decide (t ≠ 82 ∧ t ≠ 114)
def OthP (m : Lims) (o : OpX) : Prop :=
  (1 ≤ o.kind ∧ o.kind ≤ 30) ∧ (noReg (fl o.kind 0) = true → partP m (fl o.kind 0) o.a) ∧ (noReg (fl o.kind 1) = true → partP m (fl o.kind 1) o.b) ∧ (noReg (fl o.kind 2) = true → partP m (fl o.kind 2) o.c) ∧ (noReg (fl o.kind 3) = true → partP m (fl o.kind 3) o.d)
structure LimOK (m : Lims) : Prop where
  gl : 0 ≤ m.gl ∧ m.gl ≤ 1000000
  st : 0 ≤ m.st ∧ m.st ≤ 1000000
  nc : 0 ≤ m.nc ∧ m.nc ≤ 4294967296
  np : 0 ≤ m.np ∧ m.np ≤ 4294967296
  no : 0 ≤ m.no ∧ m.no ≤ 4294967296
theorem others_ax {H : Heap} {p : ProgT} {ps cs kv ov dv rv cv mv : Value} {c : CodeT} {b : BodyX} {f : Nat} (o : OpX) (hp : RL 1 strR H ps p.2.1) (hcs : RL 5 codeR H cs p.2.2) (hb : BodyIn H b kv ov dv) (hF : b.F = (f : Int)) (hf : p.2.2[f]? = some c) (hm : LimOK (limsOf p c b))
    (hi : o.a ≤ 9223372036854775807 ∧ o.b ≤ 9223372036854775807 ∧ o.c ≤ 9223372036854775807 ∧ o.d ≤ 9223372036854775807) :
    AX Try.prog 32 #[progV p ps cs, bodyV b kv ov dv, opV o rv cv mv] H (fun v H' => (∃ t, v = .bool t ∧ (t = true ↔ OthP (limsOf p c b) o)) ∧ H' = H) := by
  refine AX.quiet ?_
  suffices hh : AX Try.prog 32 #[progV p ps cs, bodyV b kv ov dv, opV o rv cv mv] H (fun v H' => (∃ t, v = .bool t ∧ (t = true ↔ OthP (limsOf p c b) o)) ∧ Grow H H') from hh.mono fun v _ ⟨⟨b, e, k⟩, g⟩ => ⟨e ▸ plain_bool _, ⟨b, e, k⟩, g⟩
  refine AX.body (n := 297) (rs := [.tmp 6]) Try.func32 rfl (by decide) rfl rfl (bC_sound _ _ _ _ ?_)
  (conv => whnf)
  refine Ob2.box rfl fun q1 H1 hq1 a1 g1 => ?_
  (conv => whnf)
  refine Ob2.box rfl fun q2 H2 hq2 a2 g2 => ?_
  (conv => whnf)
  refine Ob2.box rfl fun q3 H3 hq3 a3 g3 => ?_
  have b1 := hblk_of (g3.at (g2.at a1))
  have b2 := hblk_of (g3.at a2)
  have b3 := hblk_of a3
  have g := (g1.trans g2).trans g3
  have l1 : alen Try.prog 22 ps H3 = some (.int .i64 p.2.1.length) := hp.len rfl _
  have l2 : alen Try.prog 26 kv H3 = some (.int .i64 b.consts.length) := hb.con.len rfl _
  have l3 : alen Try.prog 27 ov H3 = some (.int .i64 b.ops.length) := hb.ops.len rfl _
  obtain ⟨bq, i1, i2⟩ := ldx_code hcs hf
  have i3 := (i2 H3 g).2
  rw [← hF] at i1
  obtain ⟨⟨m1, m2⟩, ⟨m3, m4⟩, ⟨m5, m6⟩, ⟨m7, m8⟩, ⟨m9, m10⟩⟩ := hm
  dsimp only [limsOf] at m1 m2 m3 m4 m5 m6 m7 m8 m9 m10
  have w1 : IntKind.i64.wrap ((p.2.1.length : Int) - 1) = (p.2.1.length : Int) - 1 := wrap_i64 (by omega) (by omega)
  have w2 : IntKind.i64.wrap ((b.consts.length : Int) - 1) = (b.consts.length : Int) - 1 := wrap_i64 (by omega) (by omega)
  have w3 : IntKind.i64.wrap ((b.ops.length : Int) - 1) = (b.ops.length : Int) - 1 := wrap_i64 (by omega) (by omega)
  have w4 : IntKind.i64.wrap (p.1 - 1) = p.1 - 1 := wrap_i64 (by omega) (by omega)
  have w5 : IntKind.i64.wrap (c.2.2.1 - 1) = c.2.2.1 - 1 := wrap_i64 (by omega) (by omega)
  clear g1 g2 g3 a1 a2 a3 hp hcs hb i2
  refine run ?_
  apply SW.drawG [(0, [], [16, 17, 18, 19, 20, 21, 22, 23, 24, 25, 26], false), (1, [(12, 0)], [12, 16, 17, 18, 19, 20, 21, 22, 23, 24, 25, 26], false), (2, [(12, 0), (13, 1)], [12, 13, 16, 17, 18, 19, 20, 21, 22, 23, 24, 25, 26], false), (3, [(12, 0), (13, 1), (14, 2)], [12, 13, 14, 16, 17, 18, 19, 20, 21, 22, 23, 24, 25, 26], false), (4, [], [12, 13, 14, 15, 19, 20, 21, 22, 23, 24, 25, 26, 7], false), (5, [(16, 4)], [12, 13, 14, 15, 16, 19, 20, 21, 22, 23, 24, 25, 26, 7], false), (6, [(16, 4), (17, 5)], [12, 13, 14, 15, 16, 17, 19, 20, 21, 22, 23, 24, 25, 26, 7], false), (7, [], [12, 13, 14, 15, 16, 17, 18, 21, 22, 7, 8], false), (8, [(19, 7)], [12, 13, 14, 15, 16, 17, 18, 19, 21, 22, 7, 8], false), (9, [], [12, 13, 14, 15, 16, 17, 18, 19, 20, 7, 8], false), (10, [(21, 9)], [12, 13, 14, 15, 16, 17, 18, 19, 20, 21, 7, 8], false), (11, [(19, 7), (20, 8), (21, 9), (22, 10)], [12, 13, 14, 15, 16, 17, 18, 19, 20, 21, 22, 7, 8], false), (12, [(19, 7), (20, 8), (21, 9), (22, 10), (23, 11)], [12, 13, 14, 15, 16, 17, 18, 19, 20, 21, 22, 23, 7, 8], false), (13, [(19, 7), (20, 8), (21, 9), (22, 10), (23, 11), (24, 12)], [12, 13, 14, 15, 16, 17, 18, 19, 20, 21, 22, 23, 24, 7, 8], false), (14, [(19, 7), (20, 8), (21, 9), (22, 10), (23, 11), (24, 12), (25, 13)], [12, 13, 14, 15, 16, 17, 18, 19, 20, 21, 22, 23, 24, 25, 7, 8], false), (15, [(12, 0), (13, 1), (14, 2), (15, 3)], [12, 13, 14, 15, 16, 17, 18, 19, 20, 21, 22, 23, 24, 25, 26], false), (16, [(12, 0), (13, 1), (14, 2), (15, 3), (16, 4), (17, 5), (18, 6), (7, 15)], [12, 13, 14, 15, 16, 17, 18, 19, 20, 21, 22, 23, 24, 25, 26, 7], false), (17, [(12, 0), (13, 1), (14, 2), (15, 3), (16, 4), (17, 5), (18, 6), (19, 7), (20, 8), (21, 9), (22, 10), (23, 11), (24, 12), (25, 13), (26, 14), (7, 15), (8, 16)], [12, 13, 14, 15, 16, 17, 18, 19, 20, 21, 22, 23, 24, 25, 26, 7, 8], false)]
    [(12, 0), (13, 1), (14, 2), (15, 3), (16, 4), (17, 5), (18, 6), (19, 7), (20, 8), (21, 9), (22, 10), (23, 11), (24, 12), (25, 13), (26, 14), (7, 15), (8, 16), (9, 17)]
    [(3, _), (4, _), (5, _)] rfl (by kernel_rfl)
  case hF => exact ⟨rfl, rfl, rfl, trivial⟩
  obtain ⟨k, oa, ob, oc, od, orr, oca, opc, om⟩ := o
  dsimp only at b3 hi
  by_cases h : 1 ≤ k ∧ k ≤ 30
  rotate_left
  · (try (conv => whnf)); (repeat' ((fail_if_success (with_reducible refine And.intro ?_ ?_)); (fail_if_success (with_reducible refine Exists.intro ?_ ?_)); (first | ((with_reducible refine AX.id ?_); (first | (refine (in_ax _ _ _ _).mono ?_; (rintro _ X ⟨rfl, eX⟩; subst X; (conv => whnf))))) | (refine step0 ?_) | (apply bIf.of <;> intro hc <;> (conv => whnf)))))
    all_goals first
      | (refine ⟨⟨false, rfl, ?_⟩, g⟩; simp only [Bool.false_eq_true, false_iff]; exact fun hh => h hh.1)
      | (exfalso; clear b1 b2 b3 l1 l2 l3 i1 i3 g; ((try (simp only [ba_ne_t, ba_ne_f, ba_eq_t, ba_eq_f, bne_iff_ne, bne_eq_false_iff_eq, decide_eq_true_eq, decide_eq_false_iff_not, beq_iff_eq, beq_eq_false_iff_ne, ne_eq, Bool.not_eq_true, Bool.not_eq_false, Bool.not_eq_true', Bool.not_eq_false'] at *)); (try simp only [Bool.false_eq_true, false_iff, true_iff, Classical.not_not, Bool.not_false, Bool.not_true] at *)); dsimp only [OpX.kind] at *; omega)
  · rcases thirty h.1 h.2 with rfl | rfl | rfl | rfl | rfl | rfl | rfl | rfl | rfl | rfl | rfl | rfl | rfl | rfl | rfl | rfl | rfl | rfl | rfl | rfl | rfl | rfl | rfl | rfl | rfl | rfl | rfl | rfl | rfl | rfl
    all_goals (try (conv => whnf)); (repeat' ((fail_if_success (with_reducible refine And.intro ?_ ?_)); (fail_if_success (with_reducible refine Exists.intro ?_ ?_)); (first | ((with_reducible refine AX.id ?_); (first | (refine (in_ax _ _ _ _).mono ?_; (rintro _ X ⟨rfl, eX⟩; subst X; (conv => whnf))))) | (refine step0 ?_) | (apply bIf.of <;> intro hc <;> (conv => whnf)))))
    all_goals refine ⟨⟨_, rfl, ?_⟩, g⟩
    all_goals clear b1 b2 b3 l1 l2 l3 i1 i3 g h
    all_goals ((try (simp only [ba_ne_t, ba_ne_f, ba_eq_t, ba_eq_f, bne_iff_ne, bne_eq_false_iff_eq, decide_eq_true_eq, decide_eq_false_iff_not, beq_iff_eq, beq_eq_false_iff_ne, ne_eq, Bool.not_eq_true, Bool.not_eq_false, Bool.not_eq_true', Bool.not_eq_false'] at *)); (try simp only [Bool.false_eq_true, false_iff, true_iff, Classical.not_not, Bool.not_false, Bool.not_true] at *))
    all_goals simp only [OthP, OpX.kind, OpX.a, OpX.b, OpX.c, OpX.d, fl, fldN, fldL, w1, w2, w3, w4, w5] at *
    all_goals simp [noReg, partP, limsOf] at *
    all_goals first | omega | grind
end Go.Proofs.Ytfobbmllbbckkaa
/- The document of package ir: may an operation's lists be, may values be? -/
set_option linter.unusedVariables false
set_option linter.unusedSimpArgs false
set_option maxRecDepth 20000
set_option maxHeartbeats 8000000
namespace Go.Proofs.Ytfobbmllbbckkaa
open Go Ax
def ListsR (o : OpX) : Prop :=
  leastP o.kind o.c ≤ o.regs.length ∧ (o.regs.length : Int) ≤ mostP o.kind o.c ∧ (o.kind ≠ 30 → o.cases.length = 0) ∧ (o.kind = 30 → 1 ≤ o.cases.length ∧ o.cases.length ≤ 4) ∧ CasesP o.cases
theorem ListsR.iff {m : Int} {o : OpX} : listsP m o ↔ ListsR o ∧ RegsP m o.regs := by
  constructor
  · rintro ⟨h1, h2, h3, h4, h5⟩
    refine ⟨⟨h1, h2, h4, fun h => ⟨(h5 h).1, (h5 h).2.1⟩, ?_⟩, h3⟩
    by_cases h : o.kind = 30
    · exact (h5 h).2.2
    · have := List.length_eq_zero_iff.1 (h4 h)
      rw [this]
      intro x hx
      simp at hx
  · rintro ⟨⟨h1, h2, h4, h5, h6⟩, h3⟩
    exact ⟨h1, h2, h3, h4, fun h => ⟨(h5 h).1, (h5 h).2, h6⟩⟩
theorem refLists_ax {H : Heap} {rv cv mv : Value} {o : OpX} (hr : RL 1 intR H rv o.regs) (hc : RL 3 caseR H cv o.cases) (hC : o.cases.length < 4294967296) :
    AX Try.prog 33 #[opV o rv cv mv] H (fun v H' => (∃ t, v = .bool t ∧ (t = true ↔ ListsR o)) ∧ H' = H) := by
  refine AX.quiet ?_
  suffices hh : AX Try.prog 33 #[opV o rv cv mv] H (fun v H' => (∃ t, v = .bool t ∧ (t = true ↔ ListsR o)) ∧ Grow H H') from hh.mono fun v _ ⟨⟨b, e, k⟩, g⟩ => ⟨e ▸ plain_bool _, ⟨b, e, k⟩, g⟩
  refine AX.body (n := 92) (rs := [.tmp 2]) Try.func33 rfl (by decide) rfl rfl (bC_sound _ _ _ _ ?_)
  (conv => whnf)
  refine Ob2.box rfl fun q1 H1 hq1 a1 g => ?_
  have b1 := hblk_of a1
  have l1 : alen Try.prog 38 rv H1 = some (.int .i64 o.regs.length) := hr.len rfl _
  have l2 : alen Try.prog 40 cv H1 = some (.int .i64 o.cases.length) := hc.len rfl _
  have hcs := hc
  clear hr hc a1
  (try (conv => whnf)); (repeat' ((fail_if_success (with_reducible refine And.intro ?_ ?_)); (fail_if_success (with_reducible refine Exists.intro ?_ ?_)); (first | ((with_reducible refine AX.id ?_); (first | (refine (rbuilt_ax _ _).mono ?_; (rintro _ X ⟨rfl, eX⟩; subst X; (conv => whnf))) | (refine (in_ax _ _ _ _).mono ?_; (rintro _ X ⟨rfl, eX⟩; subst X; (conv => whnf))))) | (refine step0 ?_) | (apply bIf.of <;> intro hc <;> (conv => whnf)))))
  all_goals first
    | (refine ⟨⟨false, rfl, ?_⟩, g⟩
       clear b1 l1 l2 hcs g
       ((try (simp only [ba_ne_t, ba_ne_f, ba_eq_t, ba_eq_f, bne_iff_ne, bne_eq_false_iff_eq, decide_eq_true_eq, decide_eq_false_iff_not, beq_iff_eq, beq_eq_false_iff_ne, ne_eq, Bool.not_eq_true, Bool.not_eq_false, Bool.not_eq_true', Bool.not_eq_false'] at *)); (try simp only [Bool.false_eq_true, false_iff, true_iff, Classical.not_not, Bool.not_false, Bool.not_true] at *))
       rintro ⟨h1, h2, h3, h4, h5⟩
       unfold leastP at h1
       unfold mostP at h2
       grind)
    | skip
  all_goals
    have hR : leastP o.kind o.c ≤ o.regs.length ∧ (o.regs.length : Int) ≤ mostP o.kind o.c ∧ (o.kind ≠ 30 → o.cases.length = 0) ∧ (o.kind = 30 → 1 ≤ o.cases.length ∧ o.cases.length ≤ 4) := by
      clear b1 l1 l2 hcs g
      ((try (simp only [ba_ne_t, ba_ne_f, ba_eq_t, ba_eq_f, bne_iff_ne, bne_eq_false_iff_eq, decide_eq_true_eq, decide_eq_false_iff_not, beq_iff_eq, beq_eq_false_iff_ne, ne_eq, Bool.not_eq_true, Bool.not_eq_false, Bool.not_eq_true', Bool.not_eq_false'] at *)); (try simp only [Bool.false_eq_true, false_iff, true_iff, Classical.not_not, Bool.not_false, Bool.not_true] at *))
      unfold leastP mostP
      grind
    refine SW.loop (α := Nat) (fun k => [(1, .pointer (some ⟨q1, 0, none⟩)), (7, .int .i64 (k : Int))]) (fun k H' => k ≤ o.cases.length ∧ (∀ (i : Nat) x, i < k → o.cases[i]? = some x → CaseP x) ∧ H' = H1) (fun k => o.cases.length - k) ⟨0, ⟨rfl, rfl, trivial⟩, by omega, fun i s h => by omega, rfl⟩ ?_
    rintro k X ⟨hk, ht, e⟩
    subst X
    refine bC_sound _ _ _ _ ?_
    by_cases hml : k < o.cases.length
    · have d1 : decide ((k : Int) < (o.cases.length : Int)) = true := decide_eq_true (by omega)
      obtain ⟨x, hx⟩ := get_lt hml
      obtain ⟨p, i1, i2⟩ := ldx_case hcs hx
      obtain ⟨_, i3, i4, i5⟩ := i2 H1 g
      (try (conv => whnf)); (repeat' ((fail_if_success (with_reducible refine And.intro ?_ ?_)); (fail_if_success (with_reducible refine Exists.intro ?_ ?_)); (first | ((with_reducible refine AX.id ?_); (first | (refine (in_ax _ _ _ _).mono ?_; (rintro _ X ⟨rfl, eX⟩; subst X; (conv => whnf))))) | (refine step0 ?_) | (apply bIf.of <;> intro hc <;> (conv => whnf)))))
      all_goals first
        | (refine ⟨⟨false, rfl, ?_⟩, g⟩
           simp only [Bool.false_eq_true, false_iff]
           intro h
           have := h.2.2.2.2 x (List.mem_of_getElem? hx)
           unfold CaseP at this
           clear b1 l1 l2 hcs g i1 i2 i3 i4 i5 ht hR
           ((try (simp only [ba_ne_t, ba_ne_f, ba_eq_t, ba_eq_f, bne_iff_ne, bne_eq_false_iff_eq, decide_eq_true_eq, decide_eq_false_iff_not, beq_iff_eq, beq_eq_false_iff_ne, ne_eq, Bool.not_eq_true, Bool.not_eq_false, Bool.not_eq_true', Bool.not_eq_false'] at *)); (try simp only [Bool.false_eq_true, false_iff, true_iff, Classical.not_not, Bool.not_false, Bool.not_true] at *))
           omega)
        | (refine ⟨k + 1, ⟨rfl, congrArg (fun z => some (Value.int .i64 z)) (w_succ (by omega)), trivial⟩, ⟨hml, fun i s hi hs => ?_, rfl⟩, by show o.cases.length - (k + 1) < o.cases.length - k; omega⟩
           by_cases him : i = k
           · subst him; rw [hx] at hs; simp only [Option.some.injEq] at hs; subst hs
             unfold CaseP
             clear b1 l1 l2 hcs g i1 i2 i3 i4 i5 ht hR
             ((try (simp only [ba_ne_t, ba_ne_f, ba_eq_t, ba_eq_f, bne_iff_ne, bne_eq_false_iff_eq, decide_eq_true_eq, decide_eq_false_iff_not, beq_iff_eq, beq_eq_false_iff_ne, ne_eq, Bool.not_eq_true, Bool.not_eq_false, Bool.not_eq_true', Bool.not_eq_false'] at *)); (try simp only [Bool.false_eq_true, false_iff, true_iff, Classical.not_not, Bool.not_false, Bool.not_true] at *))
             omega
           · exact ht i s (by omega) hs)
    · have d1 : decide ((k : Int) < (o.cases.length : Int)) = false := decide_eq_false (by omega)
      refine run ?_
      refine ⟨⟨true, rfl, fun _ => ⟨hR.1, hR.2.1, hR.2.2.1, hR.2.2.2, fun x hx => ?_⟩, fun _ => rfl⟩, g⟩
      obtain ⟨i, hi, rfl⟩ := List.getElem_of_mem hx
      exact ht i o.cases[i] (by omega) (List.getElem?_eq_getElem hi)
theorem refRight_ax (H : Heap) (v : V) (h0 : v.2.1 ≤ 9223372036854775807) : AX Try.prog 29 #[valV v] H (fun r H' => (∃ b, r = .bool b ∧ (b = true ↔ ValP v)) ∧ H' = H) := by
  refine AX.quiet ?_
  suffices hh : AX Try.prog 29 #[valV v] H (fun r H' => (∃ b, r = .bool b ∧ (b = true ↔ ValP v)) ∧ Grow H H') from hh.mono fun v _ ⟨⟨b, e, k⟩, g⟩ => ⟨e ▸ plain_bool _, ⟨b, e, k⟩, g⟩
  refine AX.body (n := 43) (rs := [.tmp 2]) Try.func29 rfl (by decide) rfl rfl (bC_sound _ _ _ _ ?_)
  (conv => whnf)
  refine Ob2.box rfl fun q1 H1 hq1 a1 g => ?_
  have b1 := hblk_of a1
  (try (conv => whnf)); (repeat' ((fail_if_success (with_reducible refine And.intro ?_ ?_)); (fail_if_success (with_reducible refine Exists.intro ?_ ?_)); (first | (refine step0 ?_) | (apply bIf.of <;> intro hc <;> (conv => whnf)))))
  all_goals refine ⟨⟨_, rfl, ?_⟩, g⟩
  all_goals clear b1 a1 g hq1
  all_goals unfold ValP
  all_goals ((try (simp only [ba_ne_t, ba_ne_f, ba_eq_t, ba_eq_f, bne_iff_ne, bne_eq_false_iff_eq, decide_eq_true_eq, decide_eq_false_iff_not, beq_iff_eq, beq_eq_false_iff_ne, ne_eq, Bool.not_eq_true, Bool.not_eq_false, Bool.not_eq_true', Bool.not_eq_false'] at *)); (try simp only [Bool.false_eq_true, false_iff, true_iff, Classical.not_not, Bool.not_false, Bool.not_true] at *))
  all_goals grind
end Go.Proofs.Ytfobbmllbbckkaa
/- The document of package ir: what an operation must be, told in the document's way. -/
set_option linter.unusedVariables false
set_option linter.unusedSimpArgs false
set_option maxRecDepth 20000
set_option maxHeartbeats 8000000
namespace Go.Proofs.Ytfobbmllbbckkaa
open Go Ax
theorem fl_some {k : Int} (h : 1 ≤ k ∧ k ≤ 30) : fl k 3 ≠ 114 ∧ fl k 3 ≠ 82 ∧ fl k 1 ≠ 82 ∧ fl k 2 ≠ 82 := by
  rcases thirty h.1 h.2 with rfl | rfl | rfl | rfl | rfl | rfl | rfl | rfl | rfl | rfl | rfl | rfl | rfl | rfl | rfl | rfl | rfl | rfl | rfl | rfl | rfl | rfl | rfl | rfl | rfl | rfl | rfl | rfl | rfl | rfl <;> decide
theorem part_r {m : Lims} {t : Nat} {n : Int} (h : t = 114 ∨ t = 82) : partP m t n ↔ 0 ≤ n ∧ n < m.rg := by
  rcases h with rfl | rfl <;> simp [partP]
def RefP (m : Lims) (o : OpX) : Prop := OthP m o ∧ ListsR o ∧ RegsP m.rg (usesL o) ∧ defL o < m.rg ∧ ¬ defL o < -1 ∧ ¬ (defL o = -1 ∧ isW o.kind = true)
theorem regs_uses {m : Int} {o : OpX} : RegsP m (usesL o) ↔ (fl o.kind 0 = 114 → 0 ≤ o.a ∧ o.a < m) ∧ (fl o.kind 1 = 114 → 0 ≤ o.b ∧ o.b < m) ∧ (fl o.kind 2 = 114 → 0 ≤ o.c ∧ o.c < m) ∧ RegsP m o.regs := by
  have e : ∀ i, isR o.kind i = decide (fl o.kind i = 114) := fun i => by
    unfold isR
    by_cases h : fl o.kind i = 114
    · rw [h]; rfl
    · rw [decide_eq_false h]; cases hb : Nat.beq _ _ with | false => rfl | true => exact absurd (Nat.eq_of_beq_eq_true hb) h
  unfold RegsP usesL
  rw [e, e, e]
  simp only [decide_eq_true_eq, List.mem_append, List.nil_append]
  constructor
  · intro h
    exact ⟨fun h0 => h _ (.inl (.inl (.inl (by simp [h0])))), fun h0 => h _ (.inl (.inl (.inr (by simp [h0])))), fun h0 => h _ (.inl (.inr (by simp [h0]))), fun x hx => h x (.inr hx)⟩
  · rintro ⟨h0, h1, h2, h3⟩ x (((hx | hx) | hx) | hx)
    · by_cases h : fl o.kind 0 = 114
      · rw [if_pos h] at hx; simp at hx; subst hx; exact h0 h
      · rw [if_neg h] at hx; simp at hx
    · by_cases h : fl o.kind 1 = 114
      · rw [if_pos h] at hx; simp at hx; subst hx; exact h1 h
      · rw [if_neg h] at hx; simp at hx
    · by_cases h : fl o.kind 2 = 114
      · rw [if_pos h] at hx; simp at hx; subst hx; exact h2 h
      · rw [if_neg h] at hx; simp at hx
    · exact h3 x hx
theorem isW_eq (k : Int) : isW k = decide (fl k 0 = 82) := by
  unfold isW
  by_cases h : fl k 0 = 82
  · rw [h]; rfl
  · rw [decide_eq_false h]; cases hb : Nat.beq _ _ with | false => rfl | true => exact absurd (Nat.eq_of_beq_eq_true hb) h
theorem parts4 {m : Lims} {o : OpX} : PartsP m o 4 ↔ partP m (fl o.kind 0) o.a ∧ partP m (fl o.kind 1) o.b ∧ partP m (fl o.kind 2) o.c ∧ partP m (fl o.kind 3) o.d := by
  constructor
  · intro h; exact ⟨h 0 (by decide), h 1 (by decide), h 2 (by decide), h 3 (by decide)⟩
  · rintro ⟨h0, h1, h2, h3⟩ i hi
    match i, hi with
    | 0, _ => exact h0
    | 1, _ => exact h1
    | 2, _ => exact h2
    | 3, _ => exact h3
theorem refP_iff {m : Lims} {o : OpX} (h0 : 0 ≤ m.rg) : RefP m o ↔ (1 ≤ o.kind ∧ o.kind ≤ 30) ∧ listsP m.rg o ∧ PartsP m o 4 := by
  rw [parts4, ListsR.iff]
  unfold RefP OthP
  rw [regs_uses]
  have hn : ∀ t : Nat, noReg t = true ↔ t ≠ 114 ∧ t ≠ 82 := fun t => by unfold noReg; rw [decide_eq_true_eq]; omega
  rw [hn, hn, hn, hn]
  have hd : defL o = if fl o.kind 0 = 82 then o.a else -1 := by unfold defL; rw [isW_eq]; simp
  rw [hd, isW_eq, decide_eq_true_eq]
  constructor
  · rintro ⟨⟨hk, a0, a1, a2, a3⟩, hl, ⟨r0, r1, r2, r3⟩, d1, d2, d3⟩
    obtain ⟨f1, f2, f3, f4⟩ := fl_some hk
    refine ⟨hk, ⟨hl, r3⟩, ?_, ?_, ?_, a3 ⟨f1, f2⟩⟩
    · by_cases e : fl o.kind 0 = 114
      · exact (part_r (.inl e)).2 (r0 e)
      · by_cases e2 : fl o.kind 0 = 82
        · rw [if_pos e2] at d1 d2 d3
          exact (part_r (.inr e2)).2 ⟨by omega, d1⟩
        · exact a0 ⟨e, e2⟩
    · by_cases e : fl o.kind 1 = 114
      · exact (part_r (.inl e)).2 (r1 e)
      · exact a1 ⟨e, f3⟩
    · by_cases e : fl o.kind 2 = 114
      · exact (part_r (.inl e)).2 (r2 e)
      · exact a2 ⟨e, f4⟩
  · rintro ⟨hk, ⟨hl, r3⟩, p0, p1, p2, p3⟩
    refine ⟨⟨hk, fun _ => p0, fun _ => p1, fun _ => p2, fun _ => p3⟩, hl, ⟨fun e => (part_r (.inl e)).1 p0, fun e => (part_r (.inl e)).1 p1, fun e => (part_r (.inl e)).1 p2, r3⟩, ?_, ?_, ?_⟩
    · by_cases e : fl o.kind 0 = 82
      · rw [if_pos e]; exact ((part_r (.inr e)).1 p0).2
      · rw [if_neg e]; omega
    · by_cases e : fl o.kind 0 = 82
      · rw [if_pos e]; have := ((part_r (.inr e)).1 p0).1; omega
      · rw [if_neg e]; omega
    · rintro ⟨e1, e2⟩
      rw [if_pos e2] at e1
      have := ((part_r (.inr e2)).1 p0).1; omega
theorem opP_ref {m : Lims} {L : List Int} {ops : List OpX} {at_ : Int} {o : OpX} (h0 : 0 ≤ m.rg) : opP m L ops at_ o ↔ RefP m o ∧ PcP m L o ∧ JumpP ops at_ o := by
  rw [refP_iff h0]
  unfold opP
  constructor
  · rintro ⟨h1, h2, h3, h4, h5⟩; exact ⟨⟨h1, h2, h3⟩, h4, h5⟩
  · rintro ⟨⟨h1, h2, h3⟩, h4, h5⟩; exact ⟨h1, h2, h3, h4, h5⟩
end Go.Proofs.Ytfobbmllbbckkaa
/- The document of package ir: Check, whole. -/
set_option linter.unusedVariables false
set_option linter.unusedSimpArgs false
set_option maxRecDepth 20000
set_option maxHeartbeats 8000000
namespace Go.Proofs.Ytfobbmllbbckkaa
open Go Ax
/-- The numbers of a body's operations are Go's, and their lists are no longer than lists may be. -/
def IntB (b : BodyX) : Prop := ∀ o ∈ b.ops, (o.a ≤ 9223372036854775807 ∧ o.b ≤ 9223372036854775807 ∧ o.c ≤ 9223372036854775807 ∧ o.d ≤ 9223372036854775807) ∧ o.regs.length ≤ 100000
theorem RefP.rg {m : Lims} {o : OpX} (h : RefP m o) : 1 ≤ o.kind ∧ o.kind ≤ 30 := h.1.1
theorem OthP.jump {m : Lims} {o : OpX} (h : OthP m o) (k : jumps o.kind = true) : 0 ≤ o.a ∧ o.a < m.no := by
  have hk : o.kind = 17 ∨ o.kind = 18 ∨ o.kind = 19 := by simp only [jumps, decide_eq_true_eq] at k; omega
  have hf : fl o.kind 0 = 116 := by rcases hk with e | e | e <;> rw [e] <;> rfl
  have h0 := h.2.1
  rw [hf] at h0
  exact h0 rfl
theorem refCheck_ax {H : Heap} {p : ProgT} {ps cs kv ov dv : Value} {b : BodyX} (hp : RL 1 strR H ps p.2.1) (hcs : RL 5 codeR H cs p.2.2) (hL : p.2.1.length < 4294967296) (hbI : BodyIn H b kv ov dv) (hsm : SmallB b) (hib : IntB b) :
    AX Try.prog 10 #[progV p ps cs, bodyV b kv ov dv] H (fun v H' => IrV p b v ∧ H' = H) := by
  refine AX.quiet ?_
  suffices hh : AX Try.prog 10 #[progV p ps cs, bodyV b kv ov dv] H (fun v H' => IrV p b v ∧ Grow H H') from hh.mono fun v _ ⟨e, g⟩ => ⟨e.plain, e, g⟩
  refine AX.body (n := 208) (rs := [.tmp 4]) Try.func10 rfl (by decide) rfl rfl (bC_sound _ _ _ _ ?_)
  (conv => whnf)
  refine Ob2.box rfl fun q1 H1 hq1 a1 g1 => ?_
  (conv => whnf)
  refine Ob2.box rfl fun q2 H2 hq2 a2 g2 => ?_
  have b1 := hblk_of (g2.at a1)
  have b2 := hblk_of a2
  have g := g1.trans g2
  have l2 : alen Try.prog 23 cs H2 = some (.int .i64 p.2.2.length) := hcs.len rfl _
  have l3 : alen Try.prog 26 kv H2 = some (.int .i64 b.consts.length) := hbI.con.len rfl _
  have l4 : alen Try.prog 27 ov H2 = some (.int .i64 b.ops.length) := hbI.ops.len rfl _
  have l5 : alen Try.prog 28 dv H2 = some (.int .i64 b.deps.length) := hbI.deps.len rfl _
  clear a1 a2 g1
  refine run ?_
  apply SW.drawG [(0, [], [], false), (1, [(12, 0)], [12], true), (2, [(12, 0), (13, 1)], [12, 13], false), (3, [(12, 0), (13, 1), (14, 2)], [12, 13, 14], false), (4, [(12, 0), (13, 1), (14, 2), (15, 3)], [12, 13, 14, 15, 18, 19, 20, 21], false), (5, [(12, 0), (13, 1), (14, 2), (15, 3), (16, 4)], [12, 13, 14, 15, 16, 18, 19, 20, 21], false), (6, [(12, 0), (13, 1), (14, 2), (15, 3)], [12, 13, 14, 15, 16, 17], false), (7, [(12, 0), (13, 1), (14, 2), (15, 3), (18, 6)], [12, 13, 14, 15, 16, 17, 18], false), (8, [(12, 0), (13, 1), (14, 2), (15, 3), (18, 6), (19, 7)], [12, 13, 14, 15, 16, 17, 18, 19], false), (9, [(12, 0), (13, 1), (14, 2), (15, 3), (18, 6), (19, 7), (20, 8)], [12, 13, 14, 15, 16, 17, 18, 19, 20], false), (10, [(12, 0), (13, 1), (14, 2), (15, 3), (16, 4), (17, 5), (18, 6), (19, 7), (20, 8), (21, 9)], [12, 13, 14, 15, 16, 17, 18, 19, 20, 21], true), (11, [(12, 0), (13, 1), (14, 2), (15, 3), (16, 4), (17, 5), (18, 6), (19, 7), (20, 8), (21, 9), (22, 10)], [12, 13, 14, 15, 16, 17, 18, 19, 20, 21, 22], false), (12, [(12, 0), (13, 1), (14, 2), (15, 3), (16, 4), (17, 5), (18, 6), (19, 7), (20, 8), (21, 9), (22, 10), (23, 11)], [12, 13, 14, 15, 16, 17, 18, 19, 20, 21, 22, 23], false), (13, [(12, 0), (13, 1), (14, 2), (15, 3), (16, 4), (17, 5), (18, 6), (19, 7), (20, 8), (21, 9), (22, 10), (23, 11), (24, 12)], [12, 13, 14, 15, 16, 17, 18, 19, 20, 21, 22, 23, 24], false), (14, [(12, 0), (13, 1), (14, 2), (15, 3), (16, 4), (17, 5), (18, 6), (19, 7), (20, 8), (21, 9), (22, 10), (23, 11), (24, 12), (25, 13)], [12, 13, 14, 15, 16, 17, 18, 19, 20, 21, 22, 23, 24, 25, 28, 29, 30, 31, 32, 33, 34], false), (15, [(12, 0), (13, 1), (14, 2), (15, 3), (16, 4), (17, 5), (18, 6), (19, 7), (20, 8), (21, 9), (22, 10), (23, 11), (24, 12), (25, 13), (26, 14)], [12, 13, 14, 15, 16, 17, 18, 19, 20, 21, 22, 23, 24, 25, 26, 28, 29, 30, 31, 32, 33, 34], false), (16, [(12, 0), (13, 1), (14, 2), (15, 3), (16, 4), (17, 5), (18, 6), (19, 7), (20, 8), (21, 9), (22, 10), (23, 11), (24, 12), (25, 13)], [12, 13, 14, 15, 16, 17, 18, 19, 20, 21, 22, 23, 24, 25, 26, 27, 30, 31], false), (17, [(12, 0), (13, 1), (14, 2), (15, 3), (16, 4), (17, 5), (18, 6), (19, 7), (20, 8), (21, 9), (22, 10), (23, 11), (24, 12), (25, 13), (28, 16)], [12, 13, 14, 15, 16, 17, 18, 19, 20, 21, 22, 23, 24, 25, 26, 27, 28, 30, 31], false), (18, [(12, 0), (13, 1), (14, 2), (15, 3), (16, 4), (17, 5), (18, 6), (19, 7), (20, 8), (21, 9), (22, 10), (23, 11), (24, 12), (25, 13)], [12, 13, 14, 15, 16, 17, 18, 19, 20, 21, 22, 23, 24, 25, 26, 27, 28, 29], false), (19, [(12, 0), (13, 1), (14, 2), (15, 3), (16, 4), (17, 5), (18, 6), (19, 7), (20, 8), (21, 9), (22, 10), (23, 11), (24, 12), (25, 13), (30, 18)], [12, 13, 14, 15, 16, 17, 18, 19, 20, 21, 22, 23, 24, 25, 26, 27, 28, 29, 30], false), (20, [(12, 0), (13, 1), (14, 2), (15, 3), (16, 4), (17, 5), (18, 6), (19, 7), (20, 8), (21, 9), (22, 10), (23, 11), (24, 12), (25, 13), (28, 16), (29, 17), (30, 18), (31, 19)], [12, 13, 14, 15, 16, 17, 18, 19, 20, 21, 22, 23, 24, 25, 26, 27, 28, 29, 30, 31], false), (21, [(12, 0), (13, 1), (14, 2), (15, 3), (16, 4), (17, 5), (18, 6), (19, 7), (20, 8), (21, 9), (22, 10), (23, 11), (24, 12), (25, 13), (28, 16), (29, 17), (30, 18), (31, 19), (32, 20)], [12, 13, 14, 15, 16, 17, 18, 19, 20, 21, 22, 23, 24, 25, 26, 27, 28, 29, 30, 31, 32], false), (22, [(12, 0), (13, 1), (14, 2), (15, 3), (16, 4), (17, 5), (18, 6), (19, 7), (20, 8), (21, 9), (22, 10), (23, 11), (24, 12), (25, 13), (28, 16), (29, 17), (30, 18), (31, 19), (32, 20), (33, 21)], [12, 13, 14, 15, 16, 17, 18, 19, 20, 21, 22, 23, 24, 25, 26, 27, 28, 29, 30, 31, 32, 33], false), (23, [(12, 0), (13, 1), (14, 2), (15, 3), (16, 4), (17, 5), (18, 6), (19, 7), (20, 8), (21, 9), (22, 10), (23, 11), (24, 12), (25, 13), (26, 14), (27, 15), (28, 16), (29, 17), (30, 18), (31, 19), (32, 20), (33, 21), (34, 22)], [12, 13, 14, 15, 16, 17, 18, 19, 20, 21, 22, 23, 24, 25, 26, 27, 28, 29, 30, 31, 32, 33, 34], true), (24, [(12, 0), (13, 1), (14, 2), (15, 3), (16, 4), (17, 5), (18, 6), (19, 7), (20, 8), (21, 9), (22, 10), (23, 11), (24, 12), (25, 13), (26, 14), (27, 15), (28, 16), (29, 17), (30, 18), (31, 19), (32, 20), (33, 21), (34, 22), (35, 23)], [12, 13, 14, 15, 16, 17, 18, 19, 20, 21, 22, 23, 24, 25, 26, 27, 28, 29, 30, 31, 32, 33, 34, 35], false), (25, [(12, 0), (13, 1), (14, 2), (15, 3), (16, 4), (17, 5), (18, 6), (19, 7), (20, 8), (21, 9), (22, 10), (23, 11), (24, 12), (25, 13), (26, 14), (27, 15), (28, 16), (29, 17), (30, 18), (31, 19), (32, 20), (33, 21), (34, 22), (35, 23), (36, 24)], [12, 13, 14, 15, 16, 17, 18, 19, 20, 21, 22, 23, 24, 25, 26, 27, 28, 29, 30, 31, 32, 33, 34, 35, 36], false), (26, [(12, 0), (13, 1), (14, 2), (15, 3), (16, 4), (17, 5), (18, 6), (19, 7), (20, 8), (21, 9), (22, 10), (23, 11), (24, 12), (25, 13), (26, 14), (27, 15), (28, 16), (29, 17), (30, 18), (31, 19), (32, 20), (33, 21), (34, 22), (35, 23), (36, 24), (37, 25)], [12, 13, 14, 15, 16, 17, 18, 19, 20, 21, 22, 23, 24, 25, 26, 27, 28, 29, 30, 31, 32, 33, 34, 35, 36, 37], false), (27, [(12, 0), (13, 1), (14, 2), (15, 3), (16, 4), (17, 5), (18, 6), (19, 7), (20, 8), (21, 9), (22, 10), (23, 11), (24, 12), (25, 13), (26, 14), (27, 15), (28, 16), (29, 17), (30, 18), (31, 19), (32, 20), (33, 21), (34, 22), (35, 23), (36, 24), (37, 25), (38, 26)], [12, 13, 14, 15, 16, 17, 18, 19, 20, 21, 22, 23, 24, 25, 26, 27, 28, 29, 30, 31, 32, 33, 34, 35, 36, 37, 38], false), (28, [(12, 0), (13, 1), (14, 2), (15, 3), (16, 4), (17, 5), (18, 6), (19, 7), (20, 8), (21, 9), (22, 10), (23, 11), (24, 12), (25, 13), (26, 14), (27, 15), (28, 16), (29, 17), (30, 18), (31, 19), (32, 20), (33, 21), (34, 22), (35, 23), (36, 24), (37, 25), (38, 26), (39, 27)], [12, 13, 14, 15, 16, 17, 18, 19, 20, 21, 22, 23, 24, 25, 26, 27, 28, 29, 30, 31, 32, 33, 34, 35, 36, 37, 38, 39], false), (29, [(12, 0), (13, 1), (14, 2), (15, 3), (16, 4), (17, 5), (18, 6), (19, 7), (20, 8), (21, 9), (22, 10), (23, 11), (24, 12), (25, 13), (26, 14), (27, 15), (28, 16), (29, 17), (30, 18), (31, 19), (32, 20), (33, 21), (34, 22), (35, 23), (36, 24), (37, 25), (38, 26), (39, 27), (40, 28)], [12, 13, 14, 15, 16, 17, 18, 19, 20, 21, 22, 23, 24, 25, 26, 27, 28, 29, 30, 31, 32, 33, 34, 35, 36, 37, 38, 39, 40], false), (30, [(12, 0), (13, 1), (14, 2), (15, 3), (16, 4), (17, 5), (18, 6), (19, 7), (20, 8), (21, 9), (22, 10), (23, 11), (24, 12), (25, 13), (26, 14), (27, 15), (28, 16), (29, 17), (30, 18), (31, 19), (32, 20), (33, 21), (34, 22), (35, 23), (36, 24), (37, 25), (38, 26), (39, 27), (40, 28), (41, 29)], [12, 13, 14, 15, 16, 17, 18, 19, 20, 21, 22, 23, 24, 25, 26, 27, 28, 29, 30, 31, 32, 33, 34, 35, 36, 37, 38, 39, 40, 41], false), (31, [(12, 0), (13, 1), (14, 2), (15, 3), (16, 4), (17, 5), (18, 6), (19, 7), (20, 8), (21, 9), (22, 10), (23, 11), (24, 12), (25, 13), (26, 14), (27, 15), (28, 16), (29, 17), (30, 18), (31, 19), (32, 20), (33, 21), (34, 22), (35, 23), (36, 24), (37, 25), (38, 26), (39, 27), (40, 28), (41, 29), (42, 30)], [12, 13, 14, 15, 16, 17, 18, 19, 20, 21, 22, 23, 24, 25, 26, 27, 28, 29, 30, 31, 32, 33, 34, 35, 36, 37, 38, 39, 40, 41, 42], false), (32, [(12, 0), (13, 1), (14, 2), (15, 3), (16, 4), (17, 5), (18, 6), (19, 7), (20, 8), (21, 9), (22, 10), (23, 11), (24, 12), (25, 13), (26, 14), (27, 15), (28, 16), (29, 17), (30, 18), (31, 19), (32, 20), (33, 21), (34, 22), (35, 23), (36, 24), (37, 25), (38, 26), (39, 27), (40, 28), (41, 29), (42, 30), (43, 31)], [12, 13, 14, 15, 16, 17, 18, 19, 20, 21, 22, 23, 24, 25, 26, 27, 28, 29, 30, 31, 32, 33, 34, 35, 36, 37, 38, 39, 40, 41, 42, 43], false), (33, [(12, 0), (13, 1), (14, 2), (15, 3), (16, 4), (17, 5), (18, 6), (19, 7), (20, 8), (21, 9), (22, 10), (23, 11), (24, 12), (25, 13), (26, 14), (27, 15), (28, 16), (29, 17), (30, 18), (31, 19), (32, 20), (33, 21), (34, 22), (35, 23), (36, 24), (37, 25), (38, 26), (39, 27), (40, 28), (41, 29), (42, 30), (43, 31), (44, 32)], [12, 13, 14, 15, 16, 17, 18, 19, 20, 21, 22, 23, 24, 25, 26, 27, 28, 29, 30, 31, 32, 33, 34, 35, 36, 37, 38, 39, 40, 41, 42, 43, 44], false), (34, [(12, 0), (13, 1), (14, 2), (15, 3), (16, 4), (17, 5), (18, 6), (19, 7), (20, 8), (21, 9), (22, 10), (23, 11), (24, 12), (25, 13), (26, 14), (27, 15), (28, 16), (29, 17), (30, 18), (31, 19), (32, 20), (33, 21), (34, 22), (35, 23), (36, 24), (37, 25), (38, 26), (39, 27), (40, 28), (41, 29), (42, 30), (43, 31), (44, 32), (45, 33)], [12, 13, 14, 15, 16, 17, 18, 19, 20, 21, 22, 23, 24, 25, 26, 27, 28, 29, 30, 31, 32, 33, 34, 35, 36, 37, 38, 39, 40, 41, 42, 43, 44, 45], false), (35, [(12, 0), (13, 1), (14, 2), (15, 3), (16, 4), (17, 5), (18, 6), (19, 7), (20, 8), (21, 9), (22, 10), (23, 11), (24, 12), (25, 13), (26, 14), (27, 15), (28, 16), (29, 17), (30, 18), (31, 19), (32, 20), (33, 21), (34, 22), (35, 23), (36, 24), (37, 25), (38, 26), (39, 27), (40, 28), (41, 29), (42, 30), (43, 31), (44, 32), (45, 33), (46, 34)], [12, 13, 14, 15, 16, 17, 18, 19, 20, 21, 22, 23, 24, 25, 26, 27, 28, 29, 30, 31, 32, 33, 34, 35, 36, 37, 38, 39, 40, 41, 42, 43, 44, 45, 46], false), (36, [(12, 0), (13, 1), (14, 2), (15, 3), (16, 4), (17, 5), (18, 6), (19, 7), (20, 8), (21, 9), (22, 10), (23, 11), (24, 12), (25, 13), (26, 14), (27, 15), (28, 16), (29, 17), (30, 18), (31, 19), (32, 20), (33, 21), (34, 22), (35, 23), (36, 24), (37, 25), (38, 26), (39, 27), (40, 28), (41, 29), (42, 30), (43, 31), (44, 32), (45, 33), (46, 34), (47, 35)], [12, 13, 14, 15, 16, 17, 18, 19, 20, 21, 22, 23, 24, 25, 26, 27, 28, 29, 30, 31, 32, 33, 34, 35, 36, 37, 38, 39, 40, 41, 42, 43, 44, 45, 46, 47], true), (37, [(12, 0), (13, 1), (14, 2), (15, 3), (16, 4), (17, 5), (18, 6), (19, 7), (20, 8), (21, 9), (22, 10), (23, 11), (24, 12), (25, 13), (26, 14), (27, 15), (28, 16), (29, 17), (30, 18), (31, 19), (32, 20), (33, 21), (34, 22), (35, 23), (36, 24), (37, 25), (38, 26), (39, 27), (40, 28), (41, 29), (42, 30), (43, 31), (44, 32), (45, 33), (46, 34), (47, 35), (48, 36)], [12, 13, 14, 15, 16, 17, 18, 19, 20, 21, 22, 23, 24, 25, 26, 27, 28, 29, 30, 31, 32, 33, 34, 35, 36, 37, 38, 39, 40, 41, 42, 43, 44, 45, 46, 47, 48], false), (38, [(12, 0), (13, 1), (14, 2), (15, 3), (16, 4), (17, 5), (18, 6), (19, 7), (20, 8), (21, 9), (22, 10), (23, 11), (24, 12), (25, 13), (26, 14), (27, 15), (28, 16), (29, 17), (30, 18), (31, 19), (32, 20), (33, 21), (34, 22), (35, 23), (36, 24), (37, 25), (38, 26), (39, 27), (40, 28), (41, 29), (42, 30), (43, 31), (44, 32), (45, 33), (46, 34), (47, 35), (48, 36), (49, 37)], [12, 13, 14, 15, 16, 17, 18, 19, 20, 21, 22, 23, 24, 25, 26, 27, 28, 29, 30, 31, 32, 33, 34, 35, 36, 37, 38, 39, 40, 41, 42, 43, 44, 45, 46, 47, 48, 49], false), (39, [(12, 0), (13, 1), (14, 2), (15, 3), (16, 4), (17, 5), (18, 6), (19, 7), (20, 8), (21, 9), (22, 10), (23, 11), (24, 12), (25, 13), (26, 14), (27, 15), (28, 16), (29, 17), (30, 18), (31, 19), (32, 20), (33, 21), (34, 22), (35, 23), (36, 24), (37, 25), (38, 26), (39, 27), (40, 28), (41, 29), (42, 30), (43, 31), (44, 32), (45, 33), (46, 34), (47, 35), (48, 36), (49, 37), (50, 38)], [12, 13, 14, 15, 16, 17, 18, 19, 20, 21, 22, 23, 24, 25, 26, 27, 28, 29, 30, 31, 32, 33, 34, 35, 36, 37, 38, 39, 40, 41, 42, 43, 44, 45, 46, 47, 48, 49, 50], false), (40, [(12, 0), (13, 1), (14, 2), (15, 3), (16, 4), (17, 5), (18, 6), (19, 7), (20, 8), (21, 9), (22, 10), (23, 11), (24, 12), (25, 13), (26, 14), (27, 15), (28, 16), (29, 17), (30, 18), (31, 19), (32, 20), (33, 21), (34, 22), (35, 23), (36, 24), (37, 25), (38, 26), (39, 27), (40, 28), (41, 29), (42, 30), (43, 31), (44, 32), (45, 33), (46, 34), (47, 35), (48, 36), (49, 37), (50, 38), (51, 39)], [12, 13, 14, 15, 16, 17, 18, 19, 20, 21, 22, 23, 24, 25, 26, 27, 28, 29, 30, 31, 32, 33, 34, 35, 36, 37, 38, 39, 40, 41, 42, 43, 44, 45, 46, 47, 48, 49, 50, 51], false), (41, [(12, 0), (13, 1), (14, 2), (15, 3), (16, 4), (17, 5), (18, 6), (19, 7), (20, 8), (21, 9), (22, 10), (23, 11), (24, 12), (25, 13), (26, 14), (27, 15), (28, 16), (29, 17), (30, 18), (31, 19), (32, 20), (33, 21), (34, 22), (35, 23), (36, 24), (37, 25), (38, 26), (39, 27), (40, 28), (41, 29), (42, 30), (43, 31), (44, 32), (45, 33), (46, 34), (47, 35), (48, 36), (49, 37), (50, 38), (51, 39), (52, 40)], [12, 13, 14, 15, 16, 17, 18, 19, 20, 21, 22, 23, 24, 25, 26, 27, 28, 29, 30, 31, 32, 33, 34, 35, 36, 37, 38, 39, 40, 41, 42, 43, 44, 45, 46, 47, 48, 49, 50, 51, 52], false), (42, [(12, 0), (13, 1), (14, 2), (15, 3), (16, 4), (17, 5), (18, 6), (19, 7), (20, 8), (21, 9), (22, 10), (23, 11), (24, 12), (25, 13), (26, 14), (27, 15), (28, 16), (29, 17), (30, 18), (31, 19), (32, 20), (33, 21), (34, 22), (35, 23), (36, 24), (37, 25), (38, 26), (39, 27), (40, 28), (41, 29), (42, 30), (43, 31), (44, 32), (45, 33), (46, 34), (47, 35), (48, 36), (49, 37), (50, 38), (51, 39), (52, 40), (53, 41)], [12, 13, 14, 15, 16, 17, 18, 19, 20, 21, 22, 23, 24, 25, 26, 27, 28, 29, 30, 31, 32, 33, 34, 35, 36, 37, 38, 39, 40, 41, 42, 43, 44, 45, 46, 47, 48, 49, 50, 51, 52, 53], false), (43, [(12, 0), (13, 1), (14, 2), (15, 3), (16, 4), (17, 5), (18, 6), (19, 7), (20, 8), (21, 9), (22, 10), (23, 11), (24, 12), (25, 13), (26, 14), (27, 15), (28, 16), (29, 17), (30, 18), (31, 19), (32, 20), (33, 21), (34, 22), (35, 23), (36, 24), (37, 25), (38, 26), (39, 27), (40, 28), (41, 29), (42, 30), (43, 31), (44, 32), (45, 33), (46, 34), (47, 35), (48, 36), (49, 37), (50, 38), (51, 39), (52, 40), (53, 41), (54, 42)], [12, 13, 14, 15, 16, 17, 18, 19, 20, 21, 22, 23, 24, 25, 26, 27, 28, 29, 30, 31, 32, 33, 34, 35, 36, 37, 38, 39, 40, 41, 42, 43, 44, 45, 46, 47, 48, 49, 50, 51, 52, 53, 54], false), (44, [(12, 0), (13, 1), (14, 2), (15, 3), (16, 4), (17, 5), (18, 6), (19, 7), (20, 8), (21, 9), (22, 10), (23, 11), (24, 12), (25, 13), (26, 14), (27, 15), (28, 16), (29, 17), (30, 18), (31, 19), (32, 20), (33, 21), (34, 22), (35, 23), (36, 24), (37, 25), (38, 26), (39, 27), (40, 28), (41, 29), (42, 30), (43, 31), (44, 32), (45, 33), (46, 34), (47, 35), (48, 36), (49, 37), (50, 38), (51, 39), (52, 40), (53, 41), (54, 42), (55, 43)], [12, 13, 14, 15, 16, 17, 18, 19, 20, 21, 22, 23, 24, 25, 26, 27, 28, 29, 30, 31, 32, 33, 34, 35, 36, 37, 38, 39, 40, 41, 42, 43, 44, 45, 46, 47, 48, 49, 50, 51, 52, 53, 54, 55], false)]
    [(12, 0), (13, 1), (14, 2), (15, 3), (16, 4), (17, 5), (18, 6), (19, 7), (20, 8), (21, 9), (22, 10), (23, 11), (24, 12), (25, 13), (26, 14), (27, 15), (28, 16), (29, 17), (30, 18), (31, 19), (32, 20), (33, 21), (34, 22), (35, 23), (36, 24), (37, 25), (38, 26), (39, 27), (40, 28), (41, 29), (42, 30), (43, 31), (44, 32), (45, 33), (46, 34), (47, 35), (48, 36), (49, 37), (50, 38), (51, 39), (52, 40), (53, 41), (54, 42), (55, 43), (56, 44)]
    [(2, _), (3, _), (4, _)] rfl (by kernel_rfl)
  case hF => exact ⟨rfl, rfl, rfl, trivial⟩
  refine run ?_
  refine (rcheck_ax (strR.grow hp g) (codeR.grow hcs g) hL).mono ?_
  rintro v X ⟨hv, e⟩
  subst X
  rcases hv with ⟨rfl, hv⟩ | ⟨rfl, hv⟩
  rotate_left
  · refine run ?_
    exact ⟨.inr ⟨rfl, fun h => hv h.1⟩, g⟩
  have hv' := hv
  obtain ⟨hg1, hg2, hg3, hg4, hg5, _, hr⟩ := hv'
  have w0 : IntKind.i64.wrap ((p.2.2.length : Int) - 1) = (p.2.2.length : Int) - 1 := wrap_i64 (by omega) (by omega)
  by_cases hF : 0 ≤ b.F ∧ b.F ≤ (p.2.2.length : Int) - 1
  rotate_left
  · have e1 : (!decide (0 ≤ b.F ∧ b.F ≤ IntKind.i64.wrap ((p.2.2.length : Int) - 1))) = true := by rw [w0, decide_eq_false hF]; rfl
    (try (conv => whnf)); (repeat' ((fail_if_success (with_reducible refine And.intro ?_ ?_)); (fail_if_success (with_reducible refine Exists.intro ?_ ?_)); (first | ((with_reducible refine AX.id ?_); (first | (refine (in_ax _ _ _ _).mono ?_; (rintro _ X ⟨rfl, eX⟩; subst X; (conv => whnf))))) | (refine step0 ?_) | (apply bIf.of <;> intro hc <;> (conv => whnf)))))
    refine ⟨.inr ⟨rfl, fun h => hF ?_⟩, g⟩
    obtain ⟨_, h0, c, L, hc, _⟩ := h
    exact ⟨h0, by have := lt_of_get hc; omega⟩
  have e1 : (!decide (0 ≤ b.F ∧ b.F ≤ IntKind.i64.wrap ((p.2.2.length : Int) - 1))) = false := by rw [w0, decide_eq_true hF]; rfl
  obtain ⟨f, hf⟩ : ∃ f : Nat, b.F = (f : Int) := ⟨b.F.toNat, by omega⟩
  obtain ⟨c, hc⟩ := get_lt (L := p.2.2) (m := f) (by omega)
  obtain ⟨bq, i1, i2⟩ := ldx_code hcs hc
  have i3 := (i2 H2 g).1
  rw [← hf] at i1
  have hcf : p.2.2[b.F.toNat]? = some c := by rw [hf, Int.toNat_natCast]; exact hc
  have un : ∀ {c' : CodeT}, p.2.2[b.F.toNat]? = some c' → c' = c := fun h => by rw [hcf] at h; simp only [Option.some.injEq] at h; exact h.symm
  by_cases hlim : BLim p c b
  rotate_left
  · have bad : IrV p b (.int .i64 16) ∧ Grow H H2 := ⟨.inr ⟨rfl, fun ⟨_, _, c', L, h1, h2, _⟩ => hlim (by rw [← un h1]; exact h2)⟩, g⟩
    (try (conv => whnf)); (repeat' ((fail_if_success (with_reducible refine And.intro ?_ ?_)); (fail_if_success (with_reducible refine Exists.intro ?_ ?_)); (first | ((with_reducible refine AX.id ?_); (first | (refine (in_ax _ _ _ _).mono ?_; (rintro _ X ⟨rfl, eX⟩; subst X; (conv => whnf))))) | (refine step0 ?_) | (apply bIf.of <;> intro hc <;> (conv => whnf)))))
    all_goals first
      | exact bad
      | (exfalso; refine hlim ?_; clear bad b1 b2 i1 i2 i3 l2 l3 l4 l5; unfold BLim; ((try (simp only [ba_ne_t, ba_ne_f, ba_eq_t, ba_eq_f, bne_iff_ne, bne_eq_false_iff_eq, decide_eq_true_eq, decide_eq_false_iff_not, beq_iff_eq, beq_eq_false_iff_ne, ne_eq, Bool.not_eq_true, Bool.not_eq_false, Bool.not_eq_true', Bool.not_eq_false'] at *)); (try simp only [Bool.false_eq_true, false_iff, true_iff, Classical.not_not, Bool.not_false, Bool.not_true] at *)); omega)
  have hlim' := hlim
  unfold BLim at hlim'
  have t1 : (!decide (c.2.1 ≤ b.regs ∧ b.regs ≤ 88)) = false := by rw [decide_eq_true (by omega)]; rfl
  have t3 : decide ((b.consts.length : Int) > 4000) = false := decide_eq_false (by omega)
  have t4 : (!decide (1 ≤ (b.ops.length : Int) ∧ (b.ops.length : Int) ≤ 16000)) = false := by rw [decide_eq_true (by omega)]; rfl
  have t6 : decide ((b.deps.length : Int) > 200) = false := decide_eq_false (by omega)
  (try (conv => whnf)); (repeat' ((fail_if_success (with_reducible refine And.intro ?_ ?_)); (fail_if_success (with_reducible refine Exists.intro ?_ ?_)); (first | ((with_reducible refine AX.id ?_); (first | (refine (in_ax _ _ _ _).mono ?_; (rintro _ X ⟨rfl, eX⟩; subst X; (conv => whnf))))) | (refine step0 ?_) | (apply bIf.of <;> intro hc <;> (conv => whnf)))))
  clear t1 t3 t4 t6 i1 i2 i3 e1
  refine SW.loop (α := Nat) (fun m => [(2, .pointer (some ⟨q1, 0, none⟩)), (3, .pointer (some ⟨q2, 0, none⟩)), (5, .int .i64 (m : Int))]) (fun m X => m ≤ b.consts.length ∧ (∀ (i : Nat) x, i < m → b.consts[i]? = some x → ValP x) ∧ X = H2) (fun m => b.consts.length - m) ⟨0, ⟨rfl, rfl, rfl, trivial⟩, by omega, fun i o hi => by omega, rfl⟩ ?_
  rintro m X ⟨hm, htm, e⟩
  subst X
  refine bC_sound _ _ _ _ ?_
  by_cases hml : m < b.consts.length
  · have d1 : decide ((m : Int) < (b.consts.length : Int)) = true := decide_eq_true (by omega)
    obtain ⟨x, hx⟩ := get_lt hml
    obtain ⟨bq, i1, i2⟩ := ldx_val hbI.con hx
    have i3 := i2 H2 g
    refine run ?_
    refine (refRight_ax H2 x (hsm.vals x (List.mem_of_getElem? hx))).mono ?_
    rintro _ X ⟨⟨t, rfl, ht⟩, e⟩
    subst X
    cases t with
    | true =>
      refine run ?_
      refine ⟨m + 1, ⟨rfl, rfl, congrArg (fun z => some (Value.int .i64 z)) (w_succ (by omega)), trivial⟩, ⟨hml, fun i s hi hs => ?_, rfl⟩, by show _ - (m + 1) < _ - m; omega⟩
      by_cases him : i = m
      · subst him; rw [hx] at hs; simp only [Option.some.injEq] at hs; subst hs; exact ht.1 rfl
      · exact htm i s (by omega) hs
    | false =>
      refine run ?_
      exact ⟨.inr ⟨rfl, fun ⟨_, _, c', L, h1, h2, h3, _⟩ => by have := ht.2 (h3 x (List.mem_of_getElem? hx)); simp at this⟩, g⟩
  have d1 : decide ((m : Int) < (b.consts.length : Int)) = false := decide_eq_false (by omega)
  have hVals : ValsP b.consts := fun x hx => by
    obtain ⟨i, hi, rfl⟩ := List.getElem_of_mem hx
    exact htm i _ (by omega) (List.getElem?_eq_getElem hi)
  clear htm hml
  refine run ?_
  refine SW.loop (α := Nat) (fun m => [(2, .pointer (some ⟨q1, 0, none⟩)), (3, .pointer (some ⟨q2, 0, none⟩)), (6, .int .i64 (m : Int))]) (fun m X => m ≤ b.deps.length ∧ (∀ (i : Nat) x, i < m → b.deps[i]? = some x → DepP x) ∧ X = H2) (fun m => b.deps.length - m) ⟨0, ⟨rfl, rfl, rfl, trivial⟩, by omega, fun i o hi => by omega, rfl⟩ ?_
  clear d1 hm m
  rintro m X ⟨hm, htm, e⟩
  subst X
  refine bC_sound _ _ _ _ ?_
  by_cases hml : m < b.deps.length
  · have d1 : decide ((m : Int) < (b.deps.length : Int)) = true := decide_eq_true (by omega)
    obtain ⟨x, hx⟩ := get_lt hml
    obtain ⟨bq, i1, i2⟩ := ldx_dep hbI.deps hx
    obtain ⟨_, i3, i4⟩ := i2 H2 g
    (try (conv => whnf)); (repeat' ((fail_if_success (with_reducible refine And.intro ?_ ?_)); (fail_if_success (with_reducible refine Exists.intro ?_ ?_)); (first | (refine step0 ?_) | (apply bIf.of <;> intro hc <;> (conv => whnf)))))
    all_goals first
      | (refine ⟨.inr ⟨rfl, fun ⟨_, _, c', L, h1, h2, h3, h4, _⟩ => ?_⟩, g⟩
         have := h4 x (List.mem_of_getElem? hx)
         unfold DepP at this
         clear i1 i2 i3 i4 b1 b2 l2 l3 l4 l5 d1 htm
         ((try (simp only [ba_ne_t, ba_ne_f, ba_eq_t, ba_eq_f, bne_iff_ne, bne_eq_false_iff_eq, decide_eq_true_eq, decide_eq_false_iff_not, beq_iff_eq, beq_eq_false_iff_ne, ne_eq, Bool.not_eq_true, Bool.not_eq_false, Bool.not_eq_true', Bool.not_eq_false'] at *)); (try simp only [Bool.false_eq_true, false_iff, true_iff, Classical.not_not, Bool.not_false, Bool.not_true] at *))
         omega)
      | (refine ⟨m + 1, ⟨rfl, rfl, congrArg (fun z => some (Value.int .i64 z)) (w_succ (by omega)), trivial⟩, ⟨hml, fun i s hi hs => ?_, rfl⟩, by show _ - (m + 1) < _ - m; omega⟩
         by_cases him : i = m
         · subst him; rw [hx] at hs; simp only [Option.some.injEq] at hs; subst hs
           unfold DepP
           clear i1 i2 i3 i4 b1 b2 l2 l3 l4 l5 d1 htm
           ((try (simp only [ba_ne_t, ba_ne_f, ba_eq_t, ba_eq_f, bne_iff_ne, bne_eq_false_iff_eq, decide_eq_true_eq, decide_eq_false_iff_not, beq_iff_eq, beq_eq_false_iff_ne, ne_eq, Bool.not_eq_true, Bool.not_eq_false, Bool.not_eq_true', Bool.not_eq_false'] at *)); (try simp only [Bool.false_eq_true, false_iff, true_iff, Classical.not_not, Bool.not_false, Bool.not_true] at *))
           omega
         · exact htm i s (by omega) hs)
  have d1 : decide ((m : Int) < (b.deps.length : Int)) = false := decide_eq_false (by omega)
  have hDeps : DepsP b.deps := fun x hx => by
    obtain ⟨i, hi, rfl⟩ := List.getElem_of_mem hx
    exact htm i _ (by omega) (List.getElem?_eq_getElem hi)
  clear htm hml
  refine run ?_
  refine (rDepths_ax (strR.grow hp g) (codeR.grow hcs g) hL b.F).mono ?_
  rintro sv H3 ⟨⟨L, hDL, hsv⟩, g3⟩
  have g4 := g.trans g3
  have b1 := g3.hblk b1
  have b2 := g3.hblk b2
  have hCl : Closed c L := by
    rcases hDL with ⟨c', _, h1, _, h2⟩ | ⟨h1, _⟩
    · rw [← un h1]; exact h2
    · rcases h1 with h1 | h1 | h1
      · omega
      · omega
      · exact absurd hv h1
  have uL : ∀ {c' L'}, p.2.2[b.F.toNat]? = some c' → Closed c' L' → c' = c ∧ L' = L := fun h1 h2 => by
    have := un h1
    subst this
    exact ⟨rfl, h2.uniq hCl⟩
  have hRc := hr f c hc
  have hlm := hRc.1
  unfold Lim at hlm
  have hLok : LimOK (limsOf p c b) := ⟨⟨hg1, by show p.1 ≤ _; omega⟩, ⟨by show 0 ≤ c.2.2.1; omega, by show c.2.2.1 ≤ _; omega⟩, ⟨by show 0 ≤ (b.consts.length : Int); omega, by show (b.consts.length : Int) ≤ _; omega⟩, ⟨by show 0 ≤ (p.2.1.length : Int); omega, by show (p.2.1.length : Int) ≤ _; omega⟩, ⟨by show 0 ≤ (b.ops.length : Int); omega, by show (b.ops.length : Int) ≤ _; omega⟩⟩
  have hrg : (limsOf p c b).rg = b.regs := rfl
  have hno : (limsOf p c b).no = b.ops.length := rfl
  have hLlen : L.length = c.ins.length := hCl.inv.1
  refine run ?_
  refine SW.loop (α := Nat) (fun m => [(2, .pointer (some ⟨q1, 0, none⟩)), (3, .pointer (some ⟨q2, 0, none⟩)), (7, sv), (8, .int .i64 (m : Int))]) (fun m X => m ≤ b.ops.length ∧ OpsP p c b L m ∧ Grow H3 X) (fun m => b.ops.length - m) ⟨0, ⟨rfl, rfl, rfl, rfl, trivial⟩, by omega, fun i o hi => by omega, .refl _⟩ ?_
  clear d1 hm m
  rintro m X ⟨hm, htm, gX⟩
  refine bC_sound _ _ _ _ ?_
  have b1 := gX.hblk b1
  have b2 := gX.hblk b2
  have g5 := g4.trans gX
  have l4 : alen Try.prog 27 ov X = some (.int .i64 b.ops.length) := hbI.ops.len rfl _
  by_cases hml : m < b.ops.length
  · have d1 : decide ((m : Int) < (b.ops.length : Int)) = true := decide_eq_true (by omega)
    obtain ⟨o, ho⟩ := get_lt hml
    obtain ⟨o1, o2, o3⟩ := hsm.op o (List.mem_of_getElem? ho)
    obtain ⟨o4, o5⟩ := hib o (List.mem_of_getElem? ho)
    obtain ⟨bo, rv, cv, mv, i1, jr, jc, jm, i2⟩ := ldx_op hbI.ops ho
    have i3 := (i2 X g5).1
    refine run ?_
    refine Ob2.alloc rfl fun q4 X2 hq4 a4 k4 => ?_
    refine run ?_
    refine Ob.store rfl rfl rfl a4 rfl (by first | exact Nat.le_of_ble_eq_true rfl | simp) fun X3 s4 k5 m5 => ?_
    have gX3 : Grow X X3 := k4.but_new k5 (by omega)
    have b1 := gX3.hblk b1
    have b2 := gX3.hblk b2
    have b4 := hblk_of s4
    have g6 := g5.trans gX3
    clear a4 s4 k5 k4 m5 i3 d1 l4 l2 l3 l5
    refine run ?_
    refine (refDef_ax X3 o rv cv mv).mono ?_
    rintro _ X ⟨rfl, e⟩
    subst X
    refine run ?_
    have ot := others_ax (rv := rv) (cv := cv) (mv := mv) o (strR.grow hp g6) (codeR.grow hcs g6) (hbI.grow g6) hf hc hLok o4
    have lt := refLists_ax (mv := mv) (intR.grow jr g6) (caseR.grow jc g6) o2
    have us := refUses_ax (cv := cv) (mv := mv) (intR.grow jr g6) o5
    have hrg0 : 0 ≤ (limsOf p c b).rg := by rw [hrg]; omega
    have bad : ∀ {Y}, ¬ opP (limsOf p c b) L b.ops m o → Grow H Y → IrV p b (.int .i64 16) ∧ Grow H Y := fun hn gY => ⟨.inr ⟨rfl, fun ⟨_, _, c', L', h1, h2, h3, h4, h5, h6, _⟩ => by
      obtain ⟨rfl, rfl⟩ := uL h1 h5
      exact hn (h6 m o hml ho)⟩, gY⟩
    have badR : ∀ {Y}, ¬ RefP (limsOf p c b) o → Grow H Y → IrV p b (.int .i64 16) ∧ Grow H Y := fun hn gY => bad (fun h => hn ((opP_ref hrg0).1 h).1) gY
    apply SW.drawG [(0, [], [113, 114], false), (1, [], [112, 114], false), (2, [], [112, 113], false), (3, [(112, 0), (113, 1), (114, 2)], [112, 113, 114], true), (4, [(112, 0), (113, 1), (114, 2), (115, 3)], [112, 113, 114, 115], false), (5, [(112, 0), (113, 1), (114, 2), (115, 3), (116, 4)], [112, 113, 114, 115, 116], false), (6, [(112, 0), (113, 1), (114, 2), (115, 3), (116, 4), (117, 5)], [112, 113, 114, 115, 116, 117], false), (7, [(112, 0), (113, 1), (114, 2), (115, 3), (116, 4), (117, 5), (118, 6)], [112, 113, 114, 115, 116, 117, 118], true), (8, [(112, 0), (113, 1), (114, 2), (115, 3), (116, 4), (117, 5), (118, 6), (119, 7)], [112, 113, 114, 115, 116, 117, 118, 119], false), (9, [(112, 0), (113, 1), (114, 2), (115, 3), (116, 4), (117, 5), (118, 6), (119, 7), (120, 8)], [112, 113, 114, 115, 116, 117, 118, 119, 120], false), (10, [(112, 0), (113, 1), (114, 2), (115, 3), (116, 4), (117, 5), (118, 6), (119, 7), (120, 8), (121, 9)], [112, 113, 114, 115, 116, 117, 118, 119, 120, 121], false), (11, [(112, 0), (113, 1), (114, 2), (115, 3), (116, 4), (117, 5), (118, 6), (119, 7), (120, 8), (121, 9), (122, 10)], [112, 113, 114, 115, 116, 117, 118, 119, 120, 121, 122, 125, 126], false), (13, [(112, 0), (113, 1), (114, 2), (115, 3), (116, 4), (117, 5), (118, 6), (119, 7), (120, 8), (121, 9), (122, 10)], [112, 113, 114, 115, 116, 117, 118, 119, 120, 121, 122, 123, 124], false), (14, [(112, 0), (113, 1), (114, 2), (115, 3), (116, 4), (117, 5), (118, 6), (119, 7), (120, 8), (121, 9), (122, 10), (125, 13)], [112, 113, 114, 115, 116, 117, 118, 119, 120, 121, 122, 123, 124, 125], false), (12, [(112, 0), (113, 1), (114, 2), (115, 3), (116, 4), (117, 5), (118, 6), (119, 7), (120, 8), (121, 9), (122, 10), (123, 11)], [112, 113, 114, 115, 116, 117, 118, 119, 120, 121, 122, 123, 125, 126], true), (15, [(112, 0), (113, 1), (114, 2), (115, 3), (116, 4), (117, 5), (118, 6), (119, 7), (120, 8), (121, 9), (122, 10), (123, 11), (124, 12), (125, 13), (126, 14)], [112, 113, 114, 115, 116, 117, 118, 119, 120, 121, 122, 123, 124, 125, 126], true), (16, [(112, 0), (113, 1), (114, 2), (115, 3), (116, 4), (117, 5), (118, 6), (119, 7), (120, 8), (121, 9), (122, 10), (123, 11), (124, 12), (125, 13), (126, 14), (127, 15)], [112, 113, 114, 115, 116, 117, 118, 119, 120, 121, 122, 123, 124, 125, 126, 127], false), (17, [(112, 0), (113, 1), (114, 2), (115, 3), (116, 4), (117, 5), (118, 6), (119, 7), (120, 8), (121, 9), (122, 10), (123, 11), (124, 12), (125, 13), (126, 14), (127, 15), (128, 16)], [112, 113, 114, 115, 116, 117, 118, 119, 120, 121, 122, 123, 124, 125, 126, 127, 128], false), (18, [(112, 0), (113, 1), (114, 2), (115, 3), (116, 4), (117, 5), (118, 6), (119, 7), (120, 8), (121, 9), (122, 10), (123, 11), (124, 12), (125, 13), (126, 14), (127, 15), (128, 16), (129, 17)], [112, 113, 114, 115, 116, 117, 118, 119, 120, 121, 122, 123, 124, 125, 126, 127, 128, 129], false), (19, [(112, 0), (113, 1), (114, 2), (115, 3), (116, 4), (117, 5), (118, 6), (119, 7), (120, 8), (121, 9), (122, 10), (123, 11), (124, 12), (125, 13), (126, 14), (127, 15), (128, 16), (129, 17), (130, 18)], [112, 113, 114, 115, 116, 117, 118, 119, 120, 121, 122, 123, 124, 125, 126, 127, 128, 129, 130, 132, 133], false), (20, [(112, 0), (113, 1), (114, 2), (115, 3), (116, 4), (117, 5), (118, 6), (119, 7), (120, 8), (121, 9), (122, 10), (123, 11), (124, 12), (125, 13), (126, 14), (127, 15), (128, 16), (129, 17), (130, 18)], [112, 113, 114, 115, 116, 117, 118, 119, 120, 121, 122, 123, 124, 125, 126, 127, 128, 129, 130, 131], false), (21, [(112, 0), (113, 1), (114, 2), (115, 3), (116, 4), (117, 5), (118, 6), (119, 7), (120, 8), (121, 9), (122, 10), (123, 11), (124, 12), (125, 13), (126, 14), (127, 15), (128, 16), (129, 17), (130, 18), (132, 20)], [112, 113, 114, 115, 116, 117, 118, 119, 120, 121, 122, 123, 124, 125, 126, 127, 128, 129, 130, 131, 132], false), (22, [(112, 0), (113, 1), (114, 2), (115, 3), (116, 4), (117, 5), (118, 6), (119, 7), (120, 8), (121, 9), (122, 10), (123, 11), (124, 12), (125, 13), (126, 14), (127, 15), (128, 16), (129, 17), (130, 18), (131, 19), (132, 20), (133, 21)], [112, 113, 114, 115, 116, 117, 118, 119, 120, 121, 122, 123, 124, 125, 126, 127, 128, 129, 130, 131, 132, 133], false), (23, [(112, 0), (113, 1), (114, 2), (115, 3), (116, 4), (117, 5), (118, 6), (119, 7), (120, 8), (121, 9), (122, 10), (123, 11), (124, 12), (125, 13), (126, 14), (127, 15), (128, 16), (129, 17), (130, 18), (131, 19), (132, 20), (133, 21), (134, 22)], [112, 113, 114, 115, 116, 117, 118, 119, 120, 121, 122, 123, 124, 125, 126, 127, 128, 129, 130, 131, 132, 133, 134], false), (24, [(112, 0), (113, 1), (114, 2), (115, 3), (116, 4), (117, 5), (118, 6), (119, 7), (120, 8), (121, 9), (122, 10), (123, 11), (124, 12), (125, 13), (126, 14), (127, 15), (128, 16), (129, 17), (130, 18), (131, 19), (132, 20), (133, 21), (134, 22), (135, 23)], [112, 113, 114, 115, 116, 117, 118, 119, 120, 121, 122, 123, 124, 125, 126, 127, 128, 129, 130, 131, 132, 133, 134, 135], false), (25, [(112, 0), (113, 1), (114, 2), (115, 3), (116, 4), (117, 5), (118, 6), (119, 7), (120, 8), (121, 9), (122, 10), (123, 11), (124, 12), (125, 13), (126, 14), (127, 15), (128, 16), (129, 17), (130, 18), (131, 19), (132, 20), (133, 21), (134, 22), (135, 23), (136, 24)], [112, 113, 114, 115, 116, 117, 118, 119, 120, 121, 122, 123, 124, 125, 126, 127, 128, 129, 130, 131, 132, 133, 134, 135, 136], false), (26, [(112, 0), (113, 1), (114, 2), (115, 3), (116, 4), (117, 5), (118, 6), (119, 7), (120, 8), (121, 9), (122, 10), (123, 11), (124, 12), (125, 13), (126, 14), (127, 15), (128, 16), (129, 17), (130, 18), (131, 19), (132, 20), (133, 21), (134, 22), (135, 23), (136, 24), (137, 25)], [112, 113, 114, 115, 116, 117, 118, 119, 120, 121, 122, 123, 124, 125, 126, 127, 128, 129, 130, 131, 132, 133, 134, 135, 136, 137], false), (27, [(112, 0), (113, 1), (114, 2), (115, 3), (116, 4), (117, 5), (118, 6), (119, 7), (120, 8), (121, 9), (122, 10), (123, 11), (124, 12), (125, 13), (126, 14), (127, 15), (128, 16), (129, 17), (130, 18), (131, 19), (132, 20), (133, 21), (134, 22), (135, 23), (136, 24), (137, 25), (138, 26)], [112, 113, 114, 115, 116, 117, 118, 119, 120, 121, 122, 123, 124, 125, 126, 127, 128, 129, 130, 131, 132, 133, 134, 135, 136, 137, 138], false), (28, [(112, 0), (113, 1), (114, 2), (115, 3), (116, 4), (117, 5), (118, 6), (119, 7), (120, 8), (121, 9), (122, 10), (123, 11), (124, 12), (125, 13), (126, 14), (127, 15), (128, 16), (129, 17), (130, 18), (131, 19), (132, 20), (133, 21), (134, 22), (135, 23), (136, 24), (137, 25), (138, 26), (139, 27)], [112, 113, 114, 115, 116, 117, 118, 119, 120, 121, 122, 123, 124, 125, 126, 127, 128, 129, 130, 131, 132, 133, 134, 135, 136, 137, 138, 139], false), (29, [(112, 0), (113, 1), (114, 2), (115, 3), (116, 4), (117, 5), (118, 6), (119, 7), (120, 8), (121, 9), (122, 10), (123, 11), (124, 12), (125, 13), (126, 14), (127, 15), (128, 16), (129, 17), (130, 18), (131, 19), (132, 20), (133, 21), (134, 22), (135, 23), (136, 24), (137, 25), (138, 26), (139, 27), (140, 28)], [112, 113, 114, 115, 116, 117, 118, 119, 120, 121, 122, 123, 124, 125, 126, 127, 128, 129, 130, 131, 132, 133, 134, 135, 136, 137, 138, 139, 140], false), (30, [(112, 0), (113, 1), (114, 2), (115, 3), (116, 4), (117, 5), (118, 6), (119, 7), (120, 8), (121, 9), (122, 10), (123, 11), (124, 12), (125, 13), (126, 14), (127, 15), (128, 16), (129, 17), (130, 18), (131, 19), (132, 20), (133, 21), (134, 22), (135, 23), (136, 24), (137, 25), (138, 26), (139, 27), (140, 28), (141, 29)], [112, 113, 114, 115, 116, 117, 118, 119, 120, 121, 122, 123, 124, 125, 126, 127, 128, 129, 130, 131, 132, 133, 134, 135, 136, 137, 138, 139, 140, 141], false), (31, [(112, 0), (113, 1), (114, 2), (115, 3), (116, 4), (117, 5), (118, 6), (119, 7), (120, 8), (121, 9), (122, 10), (123, 11), (124, 12), (125, 13), (126, 14), (127, 15), (128, 16), (129, 17), (130, 18), (131, 19), (132, 20), (133, 21), (134, 22), (135, 23), (136, 24), (137, 25), (138, 26), (139, 27), (140, 28), (141, 29), (142, 30)], [112, 113, 114, 115, 116, 117, 118, 119, 120, 121, 122, 123, 124, 125, 126, 127, 128, 129, 130, 131, 132, 133, 134, 135, 136, 137, 138, 139, 140, 141, 142], false), (32, [(112, 0), (113, 1), (114, 2), (115, 3), (116, 4), (117, 5), (118, 6), (119, 7), (120, 8), (121, 9), (122, 10), (123, 11), (124, 12), (125, 13), (126, 14), (127, 15), (128, 16), (129, 17), (130, 18), (131, 19), (132, 20), (133, 21), (134, 22), (135, 23), (136, 24), (137, 25), (138, 26), (139, 27), (140, 28), (141, 29), (142, 30), (143, 31)], [112, 113, 114, 115, 116, 117, 118, 119, 120, 121, 122, 123, 124, 125, 126, 127, 128, 129, 130, 131, 132, 133, 134, 135, 136, 137, 138, 139, 140, 141, 142, 143], false), (33, [(112, 0), (113, 1), (114, 2), (115, 3), (116, 4), (117, 5), (118, 6), (119, 7), (120, 8), (121, 9), (122, 10), (123, 11), (124, 12), (125, 13), (126, 14), (127, 15), (128, 16), (129, 17), (130, 18), (131, 19), (132, 20), (133, 21), (134, 22), (135, 23), (136, 24), (137, 25), (138, 26), (139, 27), (140, 28), (141, 29), (142, 30), (143, 31), (144, 32)], [112, 113, 114, 115, 116, 117, 118, 119, 120, 121, 122, 123, 124, 125, 126, 127, 128, 129, 130, 131, 132, 133, 134, 135, 136, 137, 138, 139, 140, 141, 142, 143, 144], true), (34, [(112, 0), (113, 1), (114, 2), (115, 3), (116, 4), (117, 5), (118, 6), (119, 7), (120, 8), (121, 9), (122, 10), (123, 11), (124, 12), (125, 13), (126, 14), (127, 15), (128, 16), (129, 17), (130, 18), (131, 19), (132, 20), (133, 21), (134, 22), (135, 23), (136, 24), (137, 25), (138, 26), (139, 27), (140, 28), (141, 29), (142, 30), (143, 31), (144, 32), (145, 33)], [112, 113, 114, 115, 116, 117, 118, 119, 120, 121, 122, 123, 124, 125, 126, 127, 128, 129, 130, 131, 132, 133, 134, 135, 136, 137, 138, 139, 140, 141, 142, 143, 144, 145], false), (35, [(112, 0), (113, 1), (114, 2), (115, 3), (116, 4), (117, 5), (118, 6), (119, 7), (120, 8), (121, 9), (122, 10), (123, 11), (124, 12), (125, 13), (126, 14), (127, 15), (128, 16), (129, 17), (130, 18), (131, 19), (132, 20), (133, 21), (134, 22), (135, 23), (136, 24), (137, 25), (138, 26), (139, 27), (140, 28), (141, 29), (142, 30), (143, 31), (144, 32), (145, 33), (146, 34)], [112, 113, 114, 115, 116, 117, 118, 119, 120, 121, 122, 123, 124, 125, 126, 127, 128, 129, 130, 131, 132, 133, 134, 135, 136, 137, 138, 139, 140, 141, 142, 143, 144, 145, 146], false)]
      [(112, 0), (113, 1), (114, 2), (115, 3), (116, 4), (117, 5), (118, 6), (119, 7), (120, 8), (121, 9), (122, 10), (123, 11), (124, 12), (125, 13), (126, 14), (127, 15), (128, 16), (129, 17), (130, 18), (131, 19), (132, 20), (133, 21), (134, 22), (135, 23), (136, 24), (137, 25), (138, 26), (139, 27), (140, 28), (141, 29), (142, 30), (143, 31), (144, 32), (145, 33), (146, 34), (147, 35)]
      [(2, _), (3, _), (7, _), (8, _), (9, _), (10, _)] rfl (by kernel_rfl)
    case hF => exact ⟨rfl, rfl, rfl, rfl, rfl, rfl, trivial⟩
    (try (conv => whnf)); (repeat' ((fail_if_success (with_reducible refine And.intro ?_ ?_)); (fail_if_success (with_reducible refine Exists.intro ?_ ?_)); (first | ((with_reducible refine AX.id ?_); (first | (refine (ot).mono ?_; (rintro _ X ⟨⟨bb, rfl, hb⟩, eX⟩; subst X; cases bb <;> (conv => whnf))) | (refine (lt).mono ?_; (rintro _ X ⟨⟨bb, rfl, hb⟩, eX⟩; subst X; cases bb <;> (conv => whnf))))) | (refine step0 ?_) | (apply bIf.of <;> intro hc <;> (conv => whnf)))))
    all_goals first
      | exact badR (fun h => by have := hb.2 h.1; simp at this) g6
      | exact badR (fun h => by have := hb.2 h.2.1; simp at this) g6
      | skip
    have hO : OthP (limsOf p c b) o := (show true = true ↔ OthP (limsOf p c b) o by assumption).1 rfl
    have hLi : ListsR o := (show true = true ↔ ListsR o by assumption).1 rfl
    refine us.mono ?_
    rintro u X4 ⟨hu, gu⟩
    have b1 := gu.hblk b1
    have b2 := gu.hblk b2
    have b4 := gu.hblk b4
    have g7 := g6.trans gu
    have gX4 := gX3.trans gu
    have hul : (usesL o).length < 4294967296 := by
      unfold usesL
      simp only [List.length_append, List.length_nil]
      have hh : ∀ (t : Bool) (x : Int), (if t then [x] else []).length ≤ 1 := fun t x => by cases t <;> simp
      have := hh (isR o.kind 0) o.a
      have := hh (isR o.kind 1) o.b
      have := hh (isR o.kind 2) o.c
      omega
    have rg := refRegs_ax hu hul b.regs (by omega) (by omega)
    have wr := refWrong_ax X4 o rv cv mv
    have l6 : alen Try.prog 38 sv X4 = some (.int .i64 L.length) := hsv.len rfl _
    have l7 : alen Try.prog 38 mv X4 = some (.int .i64 o.map.length) := jm.len rfl _
    clear ot lt us hb
    (try (conv => whnf)); (repeat' ((fail_if_success (with_reducible refine And.intro ?_ ?_)); (fail_if_success (with_reducible refine Exists.intro ?_ ?_)); (first | ((with_reducible refine AX.id ?_); (first | (refine (rg).mono ?_; (rintro _ X ⟨⟨bb, rfl, hb⟩, eX⟩; subst X; cases bb <;> (conv => whnf))) | (refine (wr).mono ?_; (rintro _ X ⟨rfl, eX⟩; subst X; (conv => whnf))))) | (refine step0 ?_) | (apply bIf.of <;> intro hc <;> (conv => whnf)))))
    all_goals first
      | (refine badR (fun h => ?_) g7
         obtain ⟨_, _, h3, h4, h5, h6⟩ := h
         clear b1 b2 b4 l6 l7 rg wr hu bad badR htm hbI hp hcs hsv jr jc jm i1 i2 g7 gX4 gu
         rw [hrg] at h3 h4
         ((try (simp only [ba_ne_t, ba_ne_f, ba_eq_t, ba_eq_f, bne_iff_ne, bne_eq_false_iff_eq, decide_eq_true_eq, decide_eq_false_iff_not, beq_iff_eq, beq_eq_false_iff_ne, ne_eq, Bool.not_eq_true, Bool.not_eq_false, Bool.not_eq_true', Bool.not_eq_false'] at *)); (try simp only [Bool.false_eq_true, false_iff, true_iff, Classical.not_not, Bool.not_false, Bool.not_true] at *))
         grind)
      | skip
    all_goals
      have hRP : RefP (limsOf p c b) o := by
        refine ⟨hO, hLi, ?_, ?_, ?_, ?_⟩
        all_goals (try rw [hrg])
        all_goals clear b1 b2 b4 l6 l7 rg wr hu bad badR htm hbI hp hcs hsv jr jc jm i1 i2 g7 gX4 gu
        all_goals ((try (simp only [ba_ne_t, ba_ne_f, ba_eq_t, ba_eq_f, bne_iff_ne, bne_eq_false_iff_eq, decide_eq_true_eq, decide_eq_false_iff_not, beq_iff_eq, beq_eq_false_iff_ne, ne_eq, Bool.not_eq_true, Bool.not_eq_false, Bool.not_eq_true', Bool.not_eq_false'] at *)); (try simp only [Bool.false_eq_true, false_iff, true_iff, Classical.not_not, Bool.not_false, Bool.not_true] at *))
        all_goals grind
    all_goals
      clear hc
      have rm := refRegs_ax (intR.grow jm g7) (by omega) b.regs (by omega) (by omega)
      have hpc : (0 ≤ o.pc ∧ o.pc ≤ (L.length : Int) - 1) → ∃ q d, aindexAddr Try.prog 38 sv (.int .i64 o.pc) = some q ∧ aload Try.prog 3 q X4 = some (.int .i64 d) ∧ L[o.pc.toNat]? = some d := fun h => by
        obtain ⟨j, hj⟩ : ∃ j : Nat, o.pc = (j : Int) := ⟨o.pc.toNat, by omega⟩
        obtain ⟨d, hd⟩ := get_lt (L := L) (m := j) (by omega)
        obtain ⟨q, k1, k2⟩ := ld_int hsv hd
        exact ⟨q, d, by rw [hj]; exact k1, k2 X4 (gX.trans gX4), by rw [hj, Int.toNat_natCast]; exact hd⟩
      have hja : jumps o.kind = true → ∃ q z, aindexAddr Try.prog 27 ov (.int .i64 o.a) = some (.pointer (some ⟨q, z, none⟩)) ∧ aload Try.prog 3 (.pointer (some ⟨q, z, none⟩)) X4 = some (.int .i64 (kindAt b.ops o.a)) := fun h => by
        have h1 := hO.jump h
        rw [hno] at h1
        obtain ⟨j, hj⟩ : ∃ j : Nat, o.a = (j : Int) := ⟨o.a.toNat, by omega⟩
        obtain ⟨y, hy⟩ := get_lt (L := b.ops) (m := j) (by omega)
        obtain ⟨bq, _, _, _, k1, _, _, _, k2⟩ := ldx_op hbI.ops hy
        refine ⟨_, _, by rw [hj]; exact k1, ?_⟩
        rw [(k2 X4 g7).2]
        unfold kindAt
        rw [hj, Int.toNat_natCast, List.getD_eq_getElem?_getD, hy]
        rfl
      have fin : PcP (limsOf p c b) L o ∧ JumpP b.ops m o → (m + 1 ≤ b.ops.length ∧ OpsP p c b L (m + 1) ∧ Grow H3 X4) ∧ b.ops.length - (m + 1) < b.ops.length - m := fun h => ⟨⟨hml, htm.next ho ((opP_ref hrg0).2 ⟨hRP, h.1, h.2⟩), gX.trans gX4⟩, by omega⟩
      have bad2 : ¬ (PcP (limsOf p c b) L o ∧ JumpP b.ops m o) → IrV p b (.int .i64 16) ∧ Grow H X4 := fun h => bad (fun k => h ((opP_ref hrg0).1 k).2) g7
      have wl : IntKind.i64.wrap ((L.length : Int) - 1) = (L.length : Int) - 1 := wrap_i64 (by omega) (by omega)
      have wm : IntKind.i64.wrap ((m : Int) + 1) = ((m + 1 : Nat) : Int) := w_succ (by omega)
      unfold PcP JumpP at fin bad2
      rw [hrg] at fin bad2
      clear bad badR rg wr hu hbI hp hcs hsv jr jc jm i1 i2
      by_cases h1 : 0 ≤ o.pc ∧ o.pc ≤ (L.length : Int) - 1
      · obtain ⟨q, d, k1, k2, k3⟩ := hpc h1
        have e1 : (!decide (0 ≤ o.pc ∧ o.pc ≤ IntKind.i64.wrap ((L.length : Int) - 1))) = false := by rw [wl, decide_eq_true h1]; rfl
        rw [k3] at fin bad2
        by_cases h2 : jumps o.kind = true
        · obtain ⟨q', z', k4, k5⟩ := hja h2
          have e2 : decide (17 ≤ o.kind ∧ o.kind ≤ 19) = true := h2
          apply SW.drawG [(0, [], [150, 151, 152], false), (1, [(148, 0)], [148, 150, 151, 152], false), (2, [], [148, 149], false), (3, [(150, 2)], [148, 149, 150], false), (4, [(150, 2), (151, 3)], [148, 149, 150, 151], false), (5, [(148, 0), (149, 1), (150, 2), (151, 3), (152, 4)], [148, 149, 150, 151, 152], true), (6, [(148, 0), (149, 1), (150, 2), (151, 3), (152, 4), (153, 5)], [148, 149, 150, 151, 152, 153], false), (7, [(148, 0), (149, 1), (150, 2), (151, 3), (152, 4), (153, 5), (154, 6)], [148, 149, 150, 151, 152, 153, 154], false), (8, [(148, 0), (149, 1), (150, 2), (151, 3), (152, 4), (153, 5), (154, 6), (155, 7)], [148, 149, 150, 151, 152, 153, 154, 155, 157, 158, 161, 162, 163], false), (9, [(148, 0), (149, 1), (150, 2), (151, 3), (152, 4), (153, 5), (154, 6), (155, 7)], [148, 149, 150, 151, 152, 153, 154, 155, 156, 161, 162, 163], false), (10, [(148, 0), (149, 1), (150, 2), (151, 3), (152, 4), (153, 5), (154, 6), (155, 7), (157, 9)], [148, 149, 150, 151, 152, 153, 154, 155, 156, 157, 161, 162, 163], false), (11, [(148, 0), (149, 1), (150, 2), (151, 3), (152, 4), (153, 5), (154, 6), (155, 7), (156, 8), (157, 9), (158, 10)], [148, 149, 150, 151, 152, 153, 154, 155, 156, 157, 158, 161, 162, 163], false), (12, [(148, 0), (149, 1), (150, 2), (151, 3), (152, 4), (153, 5), (154, 6), (155, 7), (156, 8), (157, 9), (158, 10), (159, 11)], [148, 149, 150, 151, 152, 153, 154, 155, 156, 157, 158, 159, 161, 162, 163], false), (13, [(148, 0), (149, 1), (150, 2), (151, 3), (152, 4), (153, 5), (154, 6), (155, 7)], [148, 149, 150, 151, 152, 153, 154, 155, 156, 157, 158, 159, 160], false), (14, [(148, 0), (149, 1), (150, 2), (151, 3), (152, 4), (153, 5), (154, 6), (155, 7), (161, 13)], [148, 149, 150, 151, 152, 153, 154, 155, 156, 157, 158, 159, 160, 161], false), (15, [(148, 0), (149, 1), (150, 2), (151, 3), (152, 4), (153, 5), (154, 6), (155, 7), (161, 13), (162, 14)], [148, 149, 150, 151, 152, 153, 154, 155, 156, 157, 158, 159, 160, 161, 162], false), (16, [(148, 0), (149, 1), (150, 2), (151, 3), (152, 4), (153, 5), (154, 6), (155, 7), (156, 8), (157, 9), (158, 10), (159, 11), (160, 12), (161, 13), (162, 14), (163, 15)], [148, 149, 150, 151, 152, 153, 154, 155, 156, 157, 158, 159, 160, 161, 162, 163], false), (17, [(148, 0), (149, 1), (150, 2), (151, 3), (152, 4), (153, 5), (154, 6), (155, 7), (156, 8), (157, 9), (158, 10), (159, 11), (160, 12), (161, 13), (162, 14), (163, 15), (164, 16)], [148, 149, 150, 151, 152, 153, 154, 155, 156, 157, 158, 159, 160, 161, 162, 163, 164], false), (18, [(148, 0), (149, 1), (150, 2), (151, 3), (152, 4), (153, 5), (154, 6), (155, 7), (156, 8), (157, 9), (158, 10), (159, 11), (160, 12), (161, 13), (162, 14), (163, 15), (164, 16), (165, 17)], [148, 149, 150, 151, 152, 153, 154, 155, 156, 157, 158, 159, 160, 161, 162, 163, 164, 165], false), (19, [(148, 0), (149, 1), (150, 2), (151, 3), (152, 4), (153, 5), (154, 6), (155, 7), (156, 8), (157, 9), (158, 10), (159, 11), (160, 12), (161, 13), (162, 14), (163, 15), (164, 16), (165, 17), (166, 18)], [148, 149, 150, 151, 152, 153, 154, 155, 156, 157, 158, 159, 160, 161, 162, 163, 164, 165, 166, 169, 170], false), (20, [(148, 0), (149, 1), (150, 2), (151, 3), (152, 4), (153, 5), (154, 6), (155, 7), (156, 8), (157, 9), (158, 10), (159, 11), (160, 12), (161, 13), (162, 14), (163, 15), (164, 16), (165, 17), (166, 18), (167, 19)], [148, 149, 150, 151, 152, 153, 154, 155, 156, 157, 158, 159, 160, 161, 162, 163, 164, 165, 166, 167, 169, 170], false), (21, [(148, 0), (149, 1), (150, 2), (151, 3), (152, 4), (153, 5), (154, 6), (155, 7), (156, 8), (157, 9), (158, 10), (159, 11), (160, 12), (161, 13), (162, 14), (163, 15), (164, 16), (165, 17), (166, 18)], [148, 149, 150, 151, 152, 153, 154, 155, 156, 157, 158, 159, 160, 161, 162, 163, 164, 165, 166, 167, 168], false), (22, [(148, 0), (149, 1), (150, 2), (151, 3), (152, 4), (153, 5), (154, 6), (155, 7), (156, 8), (157, 9), (158, 10), (159, 11), (160, 12), (161, 13), (162, 14), (163, 15), (164, 16), (165, 17), (166, 18), (169, 21)], [148, 149, 150, 151, 152, 153, 154, 155, 156, 157, 158, 159, 160, 161, 162, 163, 164, 165, 166, 167, 168, 169], false), (23, [(148, 0), (149, 1), (150, 2), (151, 3), (152, 4), (153, 5), (154, 6), (155, 7), (156, 8), (157, 9), (158, 10), (159, 11), (160, 12), (161, 13), (162, 14), (163, 15), (164, 16), (165, 17), (166, 18), (167, 19), (168, 20), (169, 21), (170, 22)], [148, 149, 150, 151, 152, 153, 154, 155, 156, 157, 158, 159, 160, 161, 162, 163, 164, 165, 166, 167, 168, 169, 170], true), (24, [(148, 0), (149, 1), (150, 2), (151, 3), (152, 4), (153, 5), (154, 6), (155, 7), (156, 8), (157, 9), (158, 10), (159, 11), (160, 12), (161, 13), (162, 14), (163, 15), (164, 16), (165, 17), (166, 18), (167, 19), (168, 20), (169, 21), (170, 22), (171, 23)], [148, 149, 150, 151, 152, 153, 154, 155, 156, 157, 158, 159, 160, 161, 162, 163, 164, 165, 166, 167, 168, 169, 170, 171], false), (25, [(148, 0), (149, 1), (150, 2), (151, 3), (152, 4), (153, 5), (154, 6), (155, 7), (156, 8), (157, 9), (158, 10), (159, 11), (160, 12), (161, 13), (162, 14), (163, 15), (164, 16), (165, 17), (166, 18), (167, 19), (168, 20), (169, 21), (170, 22), (171, 23), (172, 24)], [148, 149, 150, 151, 152, 153, 154, 155, 156, 157, 158, 159, 160, 161, 162, 163, 164, 165, 166, 167, 168, 169, 170, 171, 172], false)]
            [(148, 0), (149, 1), (150, 2), (151, 3), (152, 4), (153, 5), (154, 6), (155, 7), (156, 8), (157, 9), (158, 10), (159, 11), (160, 12), (161, 13), (162, 14), (163, 15), (164, 16), (165, 17), (166, 18), (167, 19), (168, 20), (169, 21), (170, 22), (171, 23), (172, 24), (173, 25)]
            [(2, _), (3, _), (7, _), (8, _), (9, _)] rfl (by kernel_rfl)
          case hF => exact ⟨rfl, rfl, rfl, rfl, rfl, trivial⟩
          (try (conv => whnf)); (repeat' ((fail_if_success (with_reducible refine And.intro ?_ ?_)); (fail_if_success (with_reducible refine Exists.intro ?_ ?_)); (first | ((with_reducible refine AX.id ?_); (first | (refine (in_ax _ _ _ _).mono ?_; (rintro _ X ⟨rfl, eX⟩; subst X; (conv => whnf))) | (refine (rm).mono ?_; (rintro _ X ⟨⟨bb, rfl, hb⟩, eX⟩; subst X; cases bb <;> (conv => whnf))))) | (refine step0 ?_) | (apply bIf.of <;> intro hc <;> (conv => whnf)))))
          all_goals first
            | (refine bad2 (fun h => ?_)
               clear fin bad2 rm hpc hja b1 b2 b4 l6 l7 hRP hO hLi htm g7 gX4 gX3 gu gX
               ((try (simp only [ba_ne_t, ba_ne_f, ba_eq_t, ba_eq_f, bne_iff_ne, bne_eq_false_iff_eq, decide_eq_true_eq, decide_eq_false_iff_not, beq_iff_eq, beq_eq_false_iff_ne, ne_eq, Bool.not_eq_true, Bool.not_eq_false, Bool.not_eq_true', Bool.not_eq_false'] at *)); (try simp only [Bool.false_eq_true, false_iff, true_iff, Classical.not_not, Bool.not_false, Bool.not_true] at *))
               grind)
            | (refine ⟨_, ⟨rfl, rfl, rfl, congrArg (fun z => some (Value.int .i64 z)) wm, trivial⟩, fin ?_⟩
               clear fin bad2 rm hpc hja b1 b2 b4 l6 l7 hRP hO hLi htm g7 gX4 gX3 gu gX
               ((try (simp only [ba_ne_t, ba_ne_f, ba_eq_t, ba_eq_f, bne_iff_ne, bne_eq_false_iff_eq, decide_eq_true_eq, decide_eq_false_iff_not, beq_iff_eq, beq_eq_false_iff_ne, ne_eq, Bool.not_eq_true, Bool.not_eq_false, Bool.not_eq_true', Bool.not_eq_false'] at *)); (try simp only [Bool.false_eq_true, false_iff, true_iff, Classical.not_not, Bool.not_false, Bool.not_true] at *))
               grind)
        · have e2 : decide (17 ≤ o.kind ∧ o.kind ≤ 19) = false := by simpa [jumps] using h2
          apply SW.drawG [(0, [], [150, 151, 152], false), (1, [(148, 0)], [148, 150, 151, 152], false), (2, [], [148, 149], false), (3, [(150, 2)], [148, 149, 150], false), (4, [(150, 2), (151, 3)], [148, 149, 150, 151], false), (5, [(148, 0), (149, 1), (150, 2), (151, 3), (152, 4)], [148, 149, 150, 151, 152], true), (6, [(148, 0), (149, 1), (150, 2), (151, 3), (152, 4), (153, 5)], [148, 149, 150, 151, 152, 153], false), (7, [(148, 0), (149, 1), (150, 2), (151, 3), (152, 4), (153, 5), (154, 6)], [148, 149, 150, 151, 152, 153, 154], false), (8, [(148, 0), (149, 1), (150, 2), (151, 3), (152, 4), (153, 5), (154, 6), (155, 7)], [148, 149, 150, 151, 152, 153, 154, 155, 157, 158, 161, 162, 163], false), (9, [(148, 0), (149, 1), (150, 2), (151, 3), (152, 4), (153, 5), (154, 6), (155, 7)], [148, 149, 150, 151, 152, 153, 154, 155, 156, 161, 162, 163], false), (10, [(148, 0), (149, 1), (150, 2), (151, 3), (152, 4), (153, 5), (154, 6), (155, 7), (157, 9)], [148, 149, 150, 151, 152, 153, 154, 155, 156, 157, 161, 162, 163], false), (11, [(148, 0), (149, 1), (150, 2), (151, 3), (152, 4), (153, 5), (154, 6), (155, 7), (156, 8), (157, 9), (158, 10)], [148, 149, 150, 151, 152, 153, 154, 155, 156, 157, 158, 161, 162, 163], false), (12, [(148, 0), (149, 1), (150, 2), (151, 3), (152, 4), (153, 5), (154, 6), (155, 7), (156, 8), (157, 9), (158, 10), (159, 11)], [148, 149, 150, 151, 152, 153, 154, 155, 156, 157, 158, 159, 161, 162, 163], false), (13, [(148, 0), (149, 1), (150, 2), (151, 3), (152, 4), (153, 5), (154, 6), (155, 7)], [148, 149, 150, 151, 152, 153, 154, 155, 156, 157, 158, 159, 160], false), (14, [(148, 0), (149, 1), (150, 2), (151, 3), (152, 4), (153, 5), (154, 6), (155, 7), (161, 13)], [148, 149, 150, 151, 152, 153, 154, 155, 156, 157, 158, 159, 160, 161], false), (15, [(148, 0), (149, 1), (150, 2), (151, 3), (152, 4), (153, 5), (154, 6), (155, 7), (161, 13), (162, 14)], [148, 149, 150, 151, 152, 153, 154, 155, 156, 157, 158, 159, 160, 161, 162], false), (16, [(148, 0), (149, 1), (150, 2), (151, 3), (152, 4), (153, 5), (154, 6), (155, 7), (156, 8), (157, 9), (158, 10), (159, 11), (160, 12), (161, 13), (162, 14), (163, 15)], [148, 149, 150, 151, 152, 153, 154, 155, 156, 157, 158, 159, 160, 161, 162, 163], false), (17, [(148, 0), (149, 1), (150, 2), (151, 3), (152, 4), (153, 5), (154, 6), (155, 7), (156, 8), (157, 9), (158, 10), (159, 11), (160, 12), (161, 13), (162, 14), (163, 15), (164, 16)], [148, 149, 150, 151, 152, 153, 154, 155, 156, 157, 158, 159, 160, 161, 162, 163, 164], false), (18, [(148, 0), (149, 1), (150, 2), (151, 3), (152, 4), (153, 5), (154, 6), (155, 7), (156, 8), (157, 9), (158, 10), (159, 11), (160, 12), (161, 13), (162, 14), (163, 15), (164, 16), (165, 17)], [148, 149, 150, 151, 152, 153, 154, 155, 156, 157, 158, 159, 160, 161, 162, 163, 164, 165], false), (19, [(148, 0), (149, 1), (150, 2), (151, 3), (152, 4), (153, 5), (154, 6), (155, 7), (156, 8), (157, 9), (158, 10), (159, 11), (160, 12), (161, 13), (162, 14), (163, 15), (164, 16), (165, 17), (166, 18)], [148, 149, 150, 151, 152, 153, 154, 155, 156, 157, 158, 159, 160, 161, 162, 163, 164, 165, 166, 169, 170], false), (20, [(148, 0), (149, 1), (150, 2), (151, 3), (152, 4), (153, 5), (154, 6), (155, 7), (156, 8), (157, 9), (158, 10), (159, 11), (160, 12), (161, 13), (162, 14), (163, 15), (164, 16), (165, 17), (166, 18), (167, 19)], [148, 149, 150, 151, 152, 153, 154, 155, 156, 157, 158, 159, 160, 161, 162, 163, 164, 165, 166, 167, 169, 170], false), (21, [(148, 0), (149, 1), (150, 2), (151, 3), (152, 4), (153, 5), (154, 6), (155, 7), (156, 8), (157, 9), (158, 10), (159, 11), (160, 12), (161, 13), (162, 14), (163, 15), (164, 16), (165, 17), (166, 18)], [148, 149, 150, 151, 152, 153, 154, 155, 156, 157, 158, 159, 160, 161, 162, 163, 164, 165, 166, 167, 168], false), (22, [(148, 0), (149, 1), (150, 2), (151, 3), (152, 4), (153, 5), (154, 6), (155, 7), (156, 8), (157, 9), (158, 10), (159, 11), (160, 12), (161, 13), (162, 14), (163, 15), (164, 16), (165, 17), (166, 18), (169, 21)], [148, 149, 150, 151, 152, 153, 154, 155, 156, 157, 158, 159, 160, 161, 162, 163, 164, 165, 166, 167, 168, 169], false), (23, [(148, 0), (149, 1), (150, 2), (151, 3), (152, 4), (153, 5), (154, 6), (155, 7), (156, 8), (157, 9), (158, 10), (159, 11), (160, 12), (161, 13), (162, 14), (163, 15), (164, 16), (165, 17), (166, 18), (167, 19), (168, 20), (169, 21), (170, 22)], [148, 149, 150, 151, 152, 153, 154, 155, 156, 157, 158, 159, 160, 161, 162, 163, 164, 165, 166, 167, 168, 169, 170], true), (24, [(148, 0), (149, 1), (150, 2), (151, 3), (152, 4), (153, 5), (154, 6), (155, 7), (156, 8), (157, 9), (158, 10), (159, 11), (160, 12), (161, 13), (162, 14), (163, 15), (164, 16), (165, 17), (166, 18), (167, 19), (168, 20), (169, 21), (170, 22), (171, 23)], [148, 149, 150, 151, 152, 153, 154, 155, 156, 157, 158, 159, 160, 161, 162, 163, 164, 165, 166, 167, 168, 169, 170, 171], false), (25, [(148, 0), (149, 1), (150, 2), (151, 3), (152, 4), (153, 5), (154, 6), (155, 7), (156, 8), (157, 9), (158, 10), (159, 11), (160, 12), (161, 13), (162, 14), (163, 15), (164, 16), (165, 17), (166, 18), (167, 19), (168, 20), (169, 21), (170, 22), (171, 23), (172, 24)], [148, 149, 150, 151, 152, 153, 154, 155, 156, 157, 158, 159, 160, 161, 162, 163, 164, 165, 166, 167, 168, 169, 170, 171, 172], false)]
            [(148, 0), (149, 1), (150, 2), (151, 3), (152, 4), (153, 5), (154, 6), (155, 7), (156, 8), (157, 9), (158, 10), (159, 11), (160, 12), (161, 13), (162, 14), (163, 15), (164, 16), (165, 17), (166, 18), (167, 19), (168, 20), (169, 21), (170, 22), (171, 23), (172, 24), (173, 25)]
            [(2, _), (3, _), (7, _), (8, _), (9, _)] rfl (by kernel_rfl)
          case hF => exact ⟨rfl, rfl, rfl, rfl, rfl, trivial⟩
          (try (conv => whnf)); (repeat' ((fail_if_success (with_reducible refine And.intro ?_ ?_)); (fail_if_success (with_reducible refine Exists.intro ?_ ?_)); (first | ((with_reducible refine AX.id ?_); (first | (refine (in_ax _ _ _ _).mono ?_; (rintro _ X ⟨rfl, eX⟩; subst X; (conv => whnf))) | (refine (rm).mono ?_; (rintro _ X ⟨⟨bb, rfl, hb⟩, eX⟩; subst X; cases bb <;> (conv => whnf))))) | (refine step0 ?_) | (apply bIf.of <;> intro hc <;> (conv => whnf)))))
          all_goals first
            | (refine bad2 (fun h => ?_)
               clear fin bad2 rm hpc hja b1 b2 b4 l6 l7 hRP hO hLi htm g7 gX4 gX3 gu gX
               ((try (simp only [ba_ne_t, ba_ne_f, ba_eq_t, ba_eq_f, bne_iff_ne, bne_eq_false_iff_eq, decide_eq_true_eq, decide_eq_false_iff_not, beq_iff_eq, beq_eq_false_iff_ne, ne_eq, Bool.not_eq_true, Bool.not_eq_false, Bool.not_eq_true', Bool.not_eq_false'] at *)); (try simp only [Bool.false_eq_true, false_iff, true_iff, Classical.not_not, Bool.not_false, Bool.not_true] at *))
               grind)
            | (refine ⟨_, ⟨rfl, rfl, rfl, congrArg (fun z => some (Value.int .i64 z)) wm, trivial⟩, fin ?_⟩
               clear fin bad2 rm hpc hja b1 b2 b4 l6 l7 hRP hO hLi htm g7 gX4 gX3 gu gX
               ((try (simp only [ba_ne_t, ba_ne_f, ba_eq_t, ba_eq_f, bne_iff_ne, bne_eq_false_iff_eq, decide_eq_true_eq, decide_eq_false_iff_not, beq_iff_eq, beq_eq_false_iff_ne, ne_eq, Bool.not_eq_true, Bool.not_eq_false, Bool.not_eq_true', Bool.not_eq_false'] at *)); (try simp only [Bool.false_eq_true, false_iff, true_iff, Classical.not_not, Bool.not_false, Bool.not_true] at *))
               grind)
      · have e1 : (!decide (0 ≤ o.pc ∧ o.pc ≤ IntKind.i64.wrap ((L.length : Int) - 1))) = true := by rw [wl, decide_eq_false h1]; rfl
        apply SW.drawG [(0, [], [150, 151, 152], false), (1, [(148, 0)], [148, 150, 151, 152], false), (2, [], [148, 149], false), (3, [(150, 2)], [148, 149, 150], false), (4, [(150, 2), (151, 3)], [148, 149, 150, 151], false), (5, [(148, 0), (149, 1), (150, 2), (151, 3), (152, 4)], [148, 149, 150, 151, 152], true), (6, [(148, 0), (149, 1), (150, 2), (151, 3), (152, 4), (153, 5)], [148, 149, 150, 151, 152, 153], false), (7, [(148, 0), (149, 1), (150, 2), (151, 3), (152, 4), (153, 5), (154, 6)], [148, 149, 150, 151, 152, 153, 154], false), (8, [(148, 0), (149, 1), (150, 2), (151, 3), (152, 4), (153, 5), (154, 6), (155, 7)], [148, 149, 150, 151, 152, 153, 154, 155, 157, 158, 161, 162, 163], false), (9, [(148, 0), (149, 1), (150, 2), (151, 3), (152, 4), (153, 5), (154, 6), (155, 7)], [148, 149, 150, 151, 152, 153, 154, 155, 156, 161, 162, 163], false), (10, [(148, 0), (149, 1), (150, 2), (151, 3), (152, 4), (153, 5), (154, 6), (155, 7), (157, 9)], [148, 149, 150, 151, 152, 153, 154, 155, 156, 157, 161, 162, 163], false), (11, [(148, 0), (149, 1), (150, 2), (151, 3), (152, 4), (153, 5), (154, 6), (155, 7), (156, 8), (157, 9), (158, 10)], [148, 149, 150, 151, 152, 153, 154, 155, 156, 157, 158, 161, 162, 163], false), (12, [(148, 0), (149, 1), (150, 2), (151, 3), (152, 4), (153, 5), (154, 6), (155, 7), (156, 8), (157, 9), (158, 10), (159, 11)], [148, 149, 150, 151, 152, 153, 154, 155, 156, 157, 158, 159, 161, 162, 163], false), (13, [(148, 0), (149, 1), (150, 2), (151, 3), (152, 4), (153, 5), (154, 6), (155, 7)], [148, 149, 150, 151, 152, 153, 154, 155, 156, 157, 158, 159, 160], false), (14, [(148, 0), (149, 1), (150, 2), (151, 3), (152, 4), (153, 5), (154, 6), (155, 7), (161, 13)], [148, 149, 150, 151, 152, 153, 154, 155, 156, 157, 158, 159, 160, 161], false), (15, [(148, 0), (149, 1), (150, 2), (151, 3), (152, 4), (153, 5), (154, 6), (155, 7), (161, 13), (162, 14)], [148, 149, 150, 151, 152, 153, 154, 155, 156, 157, 158, 159, 160, 161, 162], false), (16, [(148, 0), (149, 1), (150, 2), (151, 3), (152, 4), (153, 5), (154, 6), (155, 7), (156, 8), (157, 9), (158, 10), (159, 11), (160, 12), (161, 13), (162, 14), (163, 15)], [148, 149, 150, 151, 152, 153, 154, 155, 156, 157, 158, 159, 160, 161, 162, 163], false), (17, [(148, 0), (149, 1), (150, 2), (151, 3), (152, 4), (153, 5), (154, 6), (155, 7), (156, 8), (157, 9), (158, 10), (159, 11), (160, 12), (161, 13), (162, 14), (163, 15), (164, 16)], [148, 149, 150, 151, 152, 153, 154, 155, 156, 157, 158, 159, 160, 161, 162, 163, 164], false), (18, [(148, 0), (149, 1), (150, 2), (151, 3), (152, 4), (153, 5), (154, 6), (155, 7), (156, 8), (157, 9), (158, 10), (159, 11), (160, 12), (161, 13), (162, 14), (163, 15), (164, 16), (165, 17)], [148, 149, 150, 151, 152, 153, 154, 155, 156, 157, 158, 159, 160, 161, 162, 163, 164, 165], false), (19, [(148, 0), (149, 1), (150, 2), (151, 3), (152, 4), (153, 5), (154, 6), (155, 7), (156, 8), (157, 9), (158, 10), (159, 11), (160, 12), (161, 13), (162, 14), (163, 15), (164, 16), (165, 17), (166, 18)], [148, 149, 150, 151, 152, 153, 154, 155, 156, 157, 158, 159, 160, 161, 162, 163, 164, 165, 166, 169, 170], false), (20, [(148, 0), (149, 1), (150, 2), (151, 3), (152, 4), (153, 5), (154, 6), (155, 7), (156, 8), (157, 9), (158, 10), (159, 11), (160, 12), (161, 13), (162, 14), (163, 15), (164, 16), (165, 17), (166, 18), (167, 19)], [148, 149, 150, 151, 152, 153, 154, 155, 156, 157, 158, 159, 160, 161, 162, 163, 164, 165, 166, 167, 169, 170], false), (21, [(148, 0), (149, 1), (150, 2), (151, 3), (152, 4), (153, 5), (154, 6), (155, 7), (156, 8), (157, 9), (158, 10), (159, 11), (160, 12), (161, 13), (162, 14), (163, 15), (164, 16), (165, 17), (166, 18)], [148, 149, 150, 151, 152, 153, 154, 155, 156, 157, 158, 159, 160, 161, 162, 163, 164, 165, 166, 167, 168], false), (22, [(148, 0), (149, 1), (150, 2), (151, 3), (152, 4), (153, 5), (154, 6), (155, 7), (156, 8), (157, 9), (158, 10), (159, 11), (160, 12), (161, 13), (162, 14), (163, 15), (164, 16), (165, 17), (166, 18), (169, 21)], [148, 149, 150, 151, 152, 153, 154, 155, 156, 157, 158, 159, 160, 161, 162, 163, 164, 165, 166, 167, 168, 169], false), (23, [(148, 0), (149, 1), (150, 2), (151, 3), (152, 4), (153, 5), (154, 6), (155, 7), (156, 8), (157, 9), (158, 10), (159, 11), (160, 12), (161, 13), (162, 14), (163, 15), (164, 16), (165, 17), (166, 18), (167, 19), (168, 20), (169, 21), (170, 22)], [148, 149, 150, 151, 152, 153, 154, 155, 156, 157, 158, 159, 160, 161, 162, 163, 164, 165, 166, 167, 168, 169, 170], true), (24, [(148, 0), (149, 1), (150, 2), (151, 3), (152, 4), (153, 5), (154, 6), (155, 7), (156, 8), (157, 9), (158, 10), (159, 11), (160, 12), (161, 13), (162, 14), (163, 15), (164, 16), (165, 17), (166, 18), (167, 19), (168, 20), (169, 21), (170, 22), (171, 23)], [148, 149, 150, 151, 152, 153, 154, 155, 156, 157, 158, 159, 160, 161, 162, 163, 164, 165, 166, 167, 168, 169, 170, 171], false), (25, [(148, 0), (149, 1), (150, 2), (151, 3), (152, 4), (153, 5), (154, 6), (155, 7), (156, 8), (157, 9), (158, 10), (159, 11), (160, 12), (161, 13), (162, 14), (163, 15), (164, 16), (165, 17), (166, 18), (167, 19), (168, 20), (169, 21), (170, 22), (171, 23), (172, 24)], [148, 149, 150, 151, 152, 153, 154, 155, 156, 157, 158, 159, 160, 161, 162, 163, 164, 165, 166, 167, 168, 169, 170, 171, 172], false)]
          [(148, 0), (149, 1), (150, 2), (151, 3), (152, 4), (153, 5), (154, 6), (155, 7), (156, 8), (157, 9), (158, 10), (159, 11), (160, 12), (161, 13), (162, 14), (163, 15), (164, 16), (165, 17), (166, 18), (167, 19), (168, 20), (169, 21), (170, 22), (171, 23), (172, 24), (173, 25)]
          [(2, _), (3, _), (7, _), (8, _), (9, _)] rfl (by kernel_rfl)
        case hF => exact ⟨rfl, rfl, rfl, rfl, rfl, trivial⟩
        (try (conv => whnf)); (repeat' ((fail_if_success (with_reducible refine And.intro ?_ ?_)); (fail_if_success (with_reducible refine Exists.intro ?_ ?_)); (first | ((with_reducible refine AX.id ?_); (first | (refine (in_ax _ _ _ _).mono ?_; (rintro _ X ⟨rfl, eX⟩; subst X; (conv => whnf))) | (refine (rm).mono ?_; (rintro _ X ⟨⟨bb, rfl, hb⟩, eX⟩; subst X; cases bb <;> (conv => whnf))))) | (refine step0 ?_) | (apply bIf.of <;> intro hc <;> (conv => whnf)))))
        all_goals first
          | (refine bad2 (fun h => ?_)
             clear fin bad2 rm hpc hja b1 b2 b4 l6 l7 hRP hO hLi htm g7 gX4 gX3 gu gX
             ((try (simp only [ba_ne_t, ba_ne_f, ba_eq_t, ba_eq_f, bne_iff_ne, bne_eq_false_iff_eq, decide_eq_true_eq, decide_eq_false_iff_not, beq_iff_eq, beq_eq_false_iff_ne, ne_eq, Bool.not_eq_true, Bool.not_eq_false, Bool.not_eq_true', Bool.not_eq_false'] at *)); (try simp only [Bool.false_eq_true, false_iff, true_iff, Classical.not_not, Bool.not_false, Bool.not_true] at *))
             grind)
          | (refine ⟨_, ⟨rfl, rfl, rfl, congrArg (fun z => some (Value.int .i64 z)) wm, trivial⟩, fin ?_⟩
             clear fin bad2 rm hpc hja b1 b2 b4 l6 l7 hRP hO hLi htm g7 gX4 gX3 gu gX
             ((try (simp only [ba_ne_t, ba_ne_f, ba_eq_t, ba_eq_f, bne_iff_ne, bne_eq_false_iff_eq, decide_eq_true_eq, decide_eq_false_iff_not, beq_iff_eq, beq_eq_false_iff_ne, ne_eq, Bool.not_eq_true, Bool.not_eq_false, Bool.not_eq_true', Bool.not_eq_false'] at *)); (try simp only [Bool.false_eq_true, false_iff, true_iff, Classical.not_not, Bool.not_false, Bool.not_true] at *))
             grind)
  · have d1 : decide ((m : Int) < (b.ops.length : Int)) = false := decide_eq_false (by omega)
    have hme : m = b.ops.length := by omega
    rw [hme] at htm
    obtain ⟨o, ho⟩ := get_lt (L := b.ops) (m := b.ops.length - 1) (by omega)
    obtain ⟨bo, _, _, _, i1, _, _, _, i2⟩ := ldx_op hbI.ops ho
    have i3 := (i2 X g5).2
    have w : IntKind.i64.wrap ((b.ops.length : Int) - 1) = ((b.ops.length - 1 : Nat) : Int) := by rw [wrap_i64 (by omega) (by omega)]; omega
    rw [← w] at i1
    have hlast : o.kind = lastK b.ops := by
      unfold lastK kindAt
      rw [show ((b.ops.length : Int) - 1).toNat = b.ops.length - 1 by omega, List.getD_eq_getElem?_getD, ho]
      rfl
    rw [hlast] at i3
    (try (conv => whnf)); (repeat' ((fail_if_success (with_reducible refine And.intro ?_ ?_)); (fail_if_success (with_reducible refine Exists.intro ?_ ?_)); (first | (refine step0 ?_) | (apply bIf.of <;> intro hc <;> (conv => whnf)))))
    all_goals clear i1 i3 b1 b2 l4 d1 w
    all_goals ((try (simp only [ba_ne_t, ba_ne_f, ba_eq_t, ba_eq_f, bne_iff_ne, bne_eq_false_iff_eq, decide_eq_true_eq, decide_eq_false_iff_not, beq_iff_eq, beq_eq_false_iff_ne, ne_eq, Bool.not_eq_true, Bool.not_eq_false, Bool.not_eq_true', Bool.not_eq_false'] at *)); (try simp only [Bool.false_eq_true, false_iff, true_iff, Classical.not_not, Bool.not_false, Bool.not_true] at *))
    · refine ⟨.inr ⟨rfl, fun ⟨_, _, c', L', h1, h2, h3, h4, h5, h6, h7⟩ => ?_⟩, g5⟩
      omega
    · exact ⟨.inl ⟨rfl, hv, hF.1, c, L, hcf, hlim, hVals, hDeps, hCl, htm, by omega⟩, g5⟩
    · exact ⟨.inl ⟨rfl, hv, hF.1, c, L, hcf, hlim, hVals, hDeps, hCl, htm, by omega⟩, g5⟩
end Go.Proofs.Ytfobbmllbbckkaa
/- Package ir: what operations read and write, and what comes behind them. -/
set_option linter.unusedVariables false
set_option linter.unusedSimpArgs false
set_option maxRecDepth 20000
set_option maxHeartbeats 8000000
namespace Go.Proofs.Ytfobbmllbbckkaa
open Go Ax
def usesN (o : OpX) : Nat → List Int
  | 0 => []
  | m + 1 => usesN o m ++ if fl o.kind m = 114 then [partN o m] else []
theorem usesN_len (o : OpX) : ∀ m, (usesN o m).length ≤ m
  | 0 => by simp [usesN]
  | m + 1 => by
    have := usesN_len o m
    simp only [usesN, List.length_append]
    split <;> simp <;> omega
theorem isR_eq (k : Int) (i : Nat) : isR k i = decide (fl k i = 114) := by
  unfold isR
  by_cases h : fl k i = 114
  · rw [h]; rfl
  · rw [decide_eq_false h]; cases hb : Nat.beq _ _ with | false => rfl | true => exact absurd (Nat.eq_of_beq_eq_true hb) h
theorem usesN_all (o : OpX) (h : fl o.kind 3 ≠ 114) : usesN o 4 ++ o.regs = usesL o := by
  unfold usesL
  rw [isR_eq, isR_eq, isR_eq]
  simp only [usesN, if_neg h, List.append_nil, decide_eq_true_eq]
  rfl
theorem fl3 (k : Int) : fl k 3 ≠ 114 := by
  by_cases h : 1 ≤ k ∧ k ≤ 30
  · exact (fl_some h).1
  · rw [fl_no h]; decide
theorem irUses_ax {H : Heap} {o : OpX} {rv cv mv : Value} (hr : RL 1 intR H rv o.regs) (hL : o.regs.length ≤ 100000) :
    AX Try.prog 11 #[opV o rv cv mv] H (fun v H' => RL 1 intR H' v (usesL o) ∧ Grow H H') := by
  refine AX.body (n := 29) (rs := [.tmp 2]) Try.func11 rfl (by decide) rfl rfl (bC_sound _ _ _ _ ?_)
  (conv => whnf)
  refine Ob2.box rfl fun q1 H1 hq1 a1 g1 => ?_
  have b1 := hblk_of a1
  refine run ?_
  refine (parts_ax H1 o rv cv mv).mono ?_
  rintro _ H2 ⟨rfl, g2⟩
  have b1 := g2.hblk b1
  refine run ?_
  refine Ob2.alloc rfl fun q3 H3 hq3 a3 g3 => ?_
  have b1 := g3.hblk b1
  refine run ?_
  refine Ob.store rfl rfl rfl a3 rfl (by first | exact Nat.le_of_ble_eq_true rfl | simp) fun H4 s4 k4 l4 => ?_
  have g4 : Grow H2 H4 := g3.but_new k4 (by omega)
  have n1 : q1 < H2.length := by have := g2.1; have := lt_at a1; omega
  have b1 := k4.hblk b1 (by omega)
  have b3 := hblk_of s4
  have n3 : q3 < H4.length := lt_hblk b3
  have gg : Grow H H4 := (g1.trans g2).trans g4
  clear s4 a3 g3 k4 l4
  refine run ?_
  refine (fields_ax H4 o.kind).mono ?_
  rintro _ X ⟨rfl, e⟩
  subst X
  refine run ?_
  refine Ob2.range rfl fun q5 H5 hq5 a5 g5 => ?_
  have b1 := g5.hblk b1
  have b3 := g5.hblk b3
  have g6 : Grow H H5 := gg.trans g5
  have n5 : q5 < H5.length := lt_at a5
  have h45 : H4.length ≤ H5.length := g5.1
  have h24 : H2.length ≤ H4.length := g4.1
  refine run ?_
  refine SW.loop (α := Nat × Value) (fun y => [(1, .pointer (some ⟨q1, 0, none⟩)), (3, y.2), (4, .pointer (some ⟨q3, 0, none⟩)), (12, .pointer (some ⟨q5, 0, none⟩))])
    (fun y X => y.1 ≤ 4 ∧ (y.1 = 0 ∨ 1 ≤ o.kind ∧ o.kind ≤ 30) ∧ OwnR 1 3 intR X y.2 (usesN o y.1) ∧ (∀ b, blkIs y.2 b → H5.length ≤ b) ∧ X[q5]? = some (.iter (fldB o.kind) y.1) ∧ hblk X q1 = hblk H5 q1 ∧ hblk X q3 = hblk H5 q3 ∧ Grow H X ∧ H5.length ≤ X.length) (fun y => 4 - y.1)
    ⟨(0, .slice none 0 0), ⟨rfl, rfl, rfl, rfl, trivial⟩, by show 0 ≤ 4; omega, .inl rfl, .inl ⟨rfl, rfl⟩, fun b ⟨n, k, h⟩ => by simp at h, a5, rfl, rfl, g6, Nat.le_refl _⟩ ?_
  rintro ⟨m, sv⟩ X ⟨hm4, hmk, hO, hsv, hit, c1, c3, gx, hlx⟩
  dsimp only at hm4 hmk hO hsv hit ⊢
  rw [b1] at c1
  rw [b3] at c3
  have b1' := b1
  have b3' := b3
  clear b1 b3 a5 g5 g6 gg
  refine bC_sound _ _ _ _ ?_
  by_cases hm : m < 4 ∧ 1 ≤ o.kind ∧ o.kind ≤ 30
  · obtain ⟨hm, hk⟩ := hm
    have hdec := fldB_dec hk hm
    have hsz := fldB_size hk
    refine run ?_
    refine Ob2.next hit (by omega) hdec fun X2 t1 t2 t3 => ?_
    have d1 := t2.hblk c1 (by omega)
    have d3 := t2.hblk c3 (by omega)
    have gx2 : Grow H X2 := gx.but_new t2 (by have := g4.1; have := g1.1; have := g2.1; omega)
    have hO2 : OwnR 1 3 intR X2 sv (usesN o m) := hO.keep (fun b c hb h => t2.at h (by have := hsv b hb; omega)) fun _ _ _ h => h
    obtain ⟨y1, y2, y3, rfl⟩ := hO2.form
    refine run ?_
    by_cases hl : fl o.kind m = 114
    · have e1 : (((fl o.kind m : Nat) : Int) == 114) = true := by rw [hl]; rfl
      have hu : usesN o (m + 1) = usesN o m ++ [partN o m] := by simp only [usesN, if_pos hl]
      obtain ⟨i1, i2⟩ : aindexAddr Try.prog 71 (.pointer (some ⟨q3, 0, none⟩)) (.int .i64 (m : Int)) = some (.pointer (some ⟨q3, m, none⟩)) ∧ aload Try.prog 3 (.pointer (some ⟨q3, m, none⟩)) X2 = some (.int .i64 (partN o m)) := by
        rcases (by omega : m = 0 ∨ m = 1 ∨ m = 2 ∨ m = 3) with rfl | rfl | rfl | rfl <;> exact ⟨rfl, ald rfl rfl d3 rfl⟩
      refine run ?_
      refine Ob2.lay (H := X2) (.cells (.row 3) [.int .i64 (partN o m)]) (.slice (some ⟨X2.length, 0, none⟩) 1 1) rfl fun X3 ad gd ld => ?_
      obtain ⟨sv', X4, ee, hO4, fx, hsv'⟩ := app1 (n := H5.length) (hO2.keep (fun b c _ hb => gd.at hb) fun _ _ _ h => h) hsv (by omega) (by have := usesN_len o m; omega) ad
      refine run ?_
      refine Ob2.of ee ?_
      obtain ⟨y1, y2, y3, rfl⟩ := hO4.form
      refine run ?_
      have hk4 : ∀ q : Nat, q < H5.length → ∀ c, hblk X2 q = some c → hblk X4 q = some c := fun q hq c hc => by
        obtain ⟨mm, hmm⟩ := hblk_some (gd.hblk hc)
        exact hblk_of (fx.2 q _ hmm (.inl hq))
      refine ⟨(m + 1, _), ⟨rfl, rfl, rfl, rfl, trivial⟩, ⟨hm, .inr hk, by rw [hu]; exact hO4, hsv', fx.2 q5 _ (gd.at t1) (.inl n5), ?_, ?_, fx.grow (gx2.trans gd) (by have := g4.1; have := g1.1; have := g2.1; omega), by have := fx.1; omega⟩, by show 4 - (m + 1) < 4 - m; omega⟩
      · rw [b1']; exact hk4 _ (by omega) _ d1
      · rw [b3']; exact hk4 _ (by omega) _ d3
    · have e1 : (((fl o.kind m : Nat) : Int) == 114) = false := by rw [beq_eq_false_iff_ne]; omega
      have hu : usesN o (m + 1) = usesN o m := by simp only [usesN, if_neg hl, List.append_nil]
      refine run ?_
      exact ⟨(m + 1, _), ⟨rfl, rfl, rfl, rfl, trivial⟩, ⟨hm, .inr hk, by rw [hu]; exact hO2, hsv, t1, by rw [b1', d1], by rw [b3', d3], gx2, by omega⟩, by show 4 - (m + 1) < 4 - m; omega⟩
  · have hend : ¬ m < (fldB o.kind).size ∧ usesN o m ++ o.regs = usesL o := by
      by_cases hk : 1 ≤ o.kind ∧ o.kind ≤ 30
      · have : m = 4 := by omega
        subst this
        exact ⟨by rw [fldB_size hk]; omega, usesN_all o (fl3 _)⟩
      · have : m = 0 := by omega
        subst this
        refine ⟨by rw [fldB_no hk]; show ¬ 0 < 0; omega, ?_⟩
        unfold usesL
        rw [isR_eq, isR_eq, isR_eq, fl_no hk, fl_no hk, fl_no hk]
        rfl
    obtain ⟨hend, hU⟩ := hend
    refine run ?_
    refine Ob2.nextEnd hit hend ?_
    obtain ⟨sv9, H9, e91, e92, e93, e94⟩ := OwnR.appendL (n := H5.length) rowI rowI hO (intR.grow hr gx) hsv hlx (by have := usesN_len o m; omega) (fun _ _ _ _ _ h => h)
    refine run ?_
    refine Ob2.of e91 ?_
    obtain ⟨z1, z2, z3, rfl⟩ := e92.form
    refine run ?_
    have := e92.rl
    rw [hU] at this
    exact ⟨this, e93.grow gx (by have := g4.1; have := g1.1; have := g2.1; omega)⟩
theorem hasR0_ax (H : Heap) (k : Int) : AX Try.prog 70 #[.string (fldB k), .string ⟨#[82]⟩] H (fun v H' => v = .bool (isW k) ∧ H' = H) := by
  refine AX.body (n := 18) (rs := [.tmp 4]) Try.func70 rfl (by decide) rfl rfl (bC_sound _ _ _ _ ?_)
  by_cases h : 1 ≤ k ∧ k ≤ 30
  · rcases thirty h.1 h.2 with rfl | rfl | rfl | rfl | rfl | rfl | rfl | rfl | rfl | rfl | rfl | rfl | rfl | rfl | rfl | rfl | rfl | rfl | rfl | rfl | rfl | rfl | rfl | rfl | rfl | rfl | rfl | rfl | rfl | rfl <;> (refine run ?_; exact ⟨rfl, rfl⟩)
  · rw [fldB_no h]
    unfold isW
    rw [fl_no h]
    refine run ?_
    exact ⟨rfl, rfl⟩
theorem hasR_ax (H : Heap) (k : Int) : AX Try.prog 39 #[.string (fldB k), .string ⟨#[82]⟩] H (fun v H' => v = .bool (isW k) ∧ H' = H) := by
  refine AX.body (n := 8) (rs := [.tmp 4]) Try.func39 rfl (by decide) rfl rfl (bC_sound _ _ _ _ ?_)
  (try (conv => whnf)); (repeat' ((fail_if_success (with_reducible refine And.intro ?_ ?_)); (fail_if_success (with_reducible refine Exists.intro ?_ ?_)); (first | ((with_reducible refine AX.id ?_); (first | (refine (hasR0_ax _ _).mono ?_; (rintro _ X ⟨rfl, eX⟩; subst X; (conv => whnf))))) | (refine step0 ?_) | (apply bIf.of <;> intro hc <;> (conv => whnf)))))
  exact ⟨rfl, rfl⟩
theorem irDef_ax (H : Heap) (o : OpX) (rv cv mv : Value) : AX Try.prog 12 #[opV o rv cv mv] H (fun v H' => v = .int .i64 (defL o) ∧ H' = H) := by
  refine AX.quiet ?_
  suffices hh : AX Try.prog 12 #[opV o rv cv mv] H (fun v H' => v = .int .i64 (defL o) ∧ Grow H H') from hh.mono fun v _ ⟨e, g⟩ => ⟨e ▸ plain_int _ _, e, g⟩
  refine AX.body (n := 9) (rs := [.tmp 2]) Try.func12 rfl (by decide) rfl rfl (bC_sound _ _ _ _ ?_)
  (conv => whnf)
  refine Ob2.box rfl fun q1 H1 hq1 a1 g => ?_
  have b1 := hblk_of a1
  (try (conv => whnf)); (repeat' ((fail_if_success (with_reducible refine And.intro ?_ ?_)); (fail_if_success (with_reducible refine Exists.intro ?_ ?_)); (first | ((with_reducible refine AX.id ?_); (first | (refine (fields_ax _ _).mono ?_; (rintro _ X ⟨rfl, eX⟩; subst X; (conv => whnf))) | (refine (hasR_ax _ _).mono ?_; (rintro _ X ⟨rfl, eX⟩; subst X; (conv => whnf))))) | (refine step0 ?_) | (apply bIf.of <;> intro hc <;> (conv => whnf)))))
  all_goals refine ⟨congrArg (Value.int .i64) ?_, g⟩
  all_goals simp [defL, hc]
/-- What comes behind an operation. -/
def tgtL (o : OpX) (at_ : Int) : List Int := if o.kind = 24 then [] else if o.kind = 17 then [o.a] else if jumps o.kind = true then [at_ + 1, o.a] else [at_ + 1]
theorem row_one {H : Heap} (a : Int) : RL 1 intR (H ++ [.cells (.row 3) [.int .i64 a]]) (.slice (some ⟨H.length, 0, none⟩) 1 1) [a] := RL.own (g := Value.int .i64) (L := [a]) (fun _ _ => rfl) (at_push _ _)
theorem irTargets_ax {H : Heap} {b : BodyX} {kv ov dv : Value} (hb : BodyIn H b kv ov dv) (hL : b.ops.length < 4294967296) {at_ : Nat} {o : OpX} (ho : b.ops[at_]? = some o) :
    AX Try.prog 13 #[bodyV b kv ov dv, .int .i64 (at_ : Int)] H (fun v H' => RL 1 intR H' v (tgtL o at_) ∧ Grow H H') := by
  refine AX.body (n := 43) (rs := [.tmp 4]) Try.func13 rfl (by decide) rfl rfl (bC_sound _ _ _ _ ?_)
  (conv => whnf)
  refine Ob2.box rfl fun q1 H1 hq1 a1 g1 => ?_
  have b1 := hblk_of a1
  have l4 : alen Try.prog 27 ov H1 = some (.int .i64 b.ops.length) := hb.ops.len rfl _
  have hlt := lt_of_get ho
  have d0 : decide ((at_ : Int) < 0) = false := decide_eq_false (by omega)
  have d1 : decide ((at_ : Int) ≥ (b.ops.length : Int)) = false := decide_eq_false (by omega)
  obtain ⟨bo, rv, cv, mv, i1, jr, jc, jm, i2⟩ := ldx_op hb.ops ho
  have i3 := (i2 H1 g1).1
  have w : IntKind.i64.wrap ((at_ : Int) + 1) = (at_ : Int) + 1 := by rw [wrap_i64 (by omega) (by omega)]
  refine run ?_
  refine Ob2.alloc rfl fun q2 H2 hq2 a2 g2 => ?_
  refine run ?_
  refine Ob.store rfl rfl rfl a2 rfl (by first | exact Nat.le_of_ble_eq_true rfl | simp) fun H3 s3 k3 l3 => ?_
  have g3 : Grow H1 H3 := g2.but_new k3 (by omega)
  have b2 := hblk_of s3
  have g : Grow H H3 := g1.trans g3
  clear a1 a2 i1 i2 i3 l4 s3
  (try (conv => whnf)); (repeat' ((fail_if_success (with_reducible refine And.intro ?_ ?_)); (fail_if_success (with_reducible refine Exists.intro ?_ ?_)); (first | ((with_reducible refine AX.id ?_); (first | (refine (irGoes_ax _ _).mono ?_; (rintro _ X ⟨rfl, eX⟩; subst X; (conv => whnf))))) | (refine step0 ?_) | (apply bIf.of <;> intro hc <;> (conv => whnf)))))
  · have e : o.kind = 24 := by simpa using hc
    refine ⟨.inl ⟨rfl, ?_⟩, g⟩
    unfold tgtL; rw [if_pos e]
  all_goals
    refine Ob2.lay _ _ rfl fun H4 a4 g4 l4 => ?_
    refine run ?_
  · rename_i h1
    have e1 : ¬ o.kind = 24 := by simpa using h1
    have e2 : o.kind = 17 := by simpa using hc
    have : tgtL o at_ = [o.a] := by unfold tgtL; rw [if_neg e1, if_pos e2]
    rw [this]
    exact ⟨RL.own (g := Value.int .i64) (L := [o.a]) (fun _ _ => rfl) a4, g.trans g4⟩
  · rename_i h1 h2
    have e1 : ¬ o.kind = 24 := by simpa using h1
    have e2 : ¬ o.kind = 17 := by simpa using h2
    have : tgtL o at_ = [(at_ : Int) + 1, o.a] := by unfold tgtL; rw [if_neg e1, if_neg e2, if_pos hc]
    rw [this]
    rw [w] at a4
    exact ⟨RL.own (g := Value.int .i64) (L := [(at_ : Int) + 1, o.a]) (fun _ _ => rfl) a4, g.trans g4⟩
  · rename_i h1 h2
    have e1 : ¬ o.kind = 24 := by simpa using h1
    have e2 : ¬ o.kind = 17 := by simpa using h2
    have : tgtL o at_ = [(at_ : Int) + 1] := by unfold tgtL; rw [if_neg e1, if_neg e2, if_neg (by simp [hc])]
    rw [this]
    rw [w] at a4
    exact ⟨RL.own (g := Value.int .i64) (L := [(at_ : Int) + 1]) (fun _ _ => rfl) a4, g.trans g4⟩
end Go.Proofs.Ytfobbmllbbckkaa
/- The statements of package ir: short bodies, bodies as plain data, and the small body. -/
set_option linter.unusedVariables false
set_option linter.unusedSimpArgs false
set_option maxRecDepth 20000
set_option maxHeartbeats 8000000
namespace Go.Proofs.Ytfobbmllbbckkaa
open Go Ax
structure FewB (b : BodyX) (n : Nat) : Prop where
  ops : b.ops.length ≤ n
  con : b.consts.length ≤ 200
  deps : b.deps.length ≤ 250
  op : ∀ o ∈ b.ops, o.regs.length ≤ 20 ∧ o.map.length ≤ 80 ∧ o.cases.length ≤ 20
theorem ldx_opL {H : Heap} {sv : Value} {L : List OpX} (h : RL 9 opxR H sv L) {i : Nat} {o : OpX} (hx : L[i]? = some o) :
    ∃ b rv cv mv, aindexAddr Try.prog 27 sv (.int .i64 (i : Int)) = some (.pointer (some ⟨b, i * 9, none⟩)) ∧ RL 1 intR H rv o.regs ∧ RL 3 caseR H cv o.cases ∧ RL 1 intR H mv o.map ∧
      ∀ H', Grow H H' → aload Try.prog 38 (.pointer (some ⟨b, i * 9 + 5, none⟩)) H' = some rv ∧ aload Try.prog 40 (.pointer (some ⟨b, i * 9 + 6, none⟩)) H' = some cv ∧ aload Try.prog 38 (.pointer (some ⟨b, i * 9 + 8, none⟩)) H' = some mv := by
  obtain ⟨b, c, l, h1, h2, h3, rv, cv, mv, rfl, h5, h6, h7⟩ := h.at (P := Try.prog) (t := 27) (e := 42) rfl rfl hx
  exact ⟨b, rv, cv, mv, h1, h5, h6, h7, fun H' g => ⟨ald rfl rfl (g.hblk h2) (slots_get (j := 5) h3 rfl), ald rfl rfl (g.hblk h2) (slots_get (j := 6) h3 rfl), ald rfl rfl (g.hblk h2) (slots_get (j := 8) h3 rfl)⟩⟩
theorem ldx_valS {H : Heap} {sv : Value} {L : List V} (h : RL 3 valR H sv L) {i : Nat} {x : V} (hx : L[i]? = some x) :
    ∃ b, aindexAddr Try.prog 26 sv (.int .i64 (i : Int)) = some (.pointer (some ⟨b, i * 3, none⟩)) ∧ ∀ H', Grow H H' → aload Try.prog 9 (.pointer (some ⟨b, i * 3 + 2, none⟩)) H' = some (.string x.2.2) := by
  obtain ⟨b, c, l, h1, h2, h3, rfl⟩ := h.at (P := Try.prog) (t := 26) (e := 51) rfl rfl hx
  exact ⟨b, h1, fun H' g => ald rfl rfl (g.hblk h2) (slots_get (j := 2) h3 rfl)⟩
theorem fewS_ax {H : Heap} {b : BodyX} {kv ov dv : Value} (hbI : BodyIn H b kv ov dv) (n : Nat) (hn : n ≤ 100000) :
    AX Try.prog 7 #[bodyV b kv ov dv, .int .i64 (n : Int)] H (fun v H' => (∃ t, v = .bool t ∧ (t = true → FewB b n ∧ ∀ x ∈ b.consts, x.2.2.size ≤ 300)) ∧ H' = H) := by
  refine AX.quiet ?_
  suffices hh : AX Try.prog 7 #[bodyV b kv ov dv, .int .i64 (n : Int)] H (fun v H' => (∃ t, v = .bool t ∧ (t = true → FewB b n ∧ ∀ x ∈ b.consts, x.2.2.size ≤ 300)) ∧ Grow H H') from hh.mono fun v _ ⟨⟨b, e, k⟩, g⟩ => ⟨e ▸ plain_bool _, ⟨b, e, k⟩, g⟩
  refine AX.body (n := 74) (rs := [.tmp 4]) Try.func7 rfl (by decide) rfl rfl (bC_sound _ _ _ _ ?_)
  (conv => whnf)
  refine Ob2.box rfl fun q1 H1 hq1 a1 g => ?_
  have b1 := hblk_of a1
  have l3 : alen Try.prog 26 kv H1 = some (.int .i64 b.consts.length) := hbI.con.len rfl _
  have l4 : alen Try.prog 27 ov H1 = some (.int .i64 b.ops.length) := hbI.ops.len rfl _
  have l5 : alen Try.prog 28 dv H1 = some (.int .i64 b.deps.length) := hbI.deps.len rfl _
  clear a1
  (try (conv => whnf)); (repeat' ((fail_if_success (with_reducible refine And.intro ?_ ?_)); (fail_if_success (with_reducible refine Exists.intro ?_ ?_)); (first | (refine step0 ?_) | (apply bIf.of <;> intro hc <;> (conv => whnf)))))
  all_goals first
    | exact ⟨⟨false, rfl, fun h => by simp at h⟩, g⟩
    | skip
  have hbs : b.ops.length ≤ n ∧ b.consts.length ≤ 200 ∧ b.deps.length ≤ 250 := by
    clear b1 l3 l4 l5 hbI
    ((try (simp only [ba_ne_t, ba_ne_f, ba_eq_t, ba_eq_f, bne_iff_ne, bne_eq_false_iff_eq, decide_eq_true_eq, decide_eq_false_iff_not, beq_iff_eq, beq_eq_false_iff_ne, ne_eq, Bool.not_eq_true, Bool.not_eq_false, Bool.not_eq_true', Bool.not_eq_false'] at *)); (try simp only [Bool.false_eq_true, false_iff, true_iff, Classical.not_not, Bool.not_false, Bool.not_true] at *))
    omega
  refine SW.loop (α := Nat) (fun m => [(2, .pointer (some ⟨q1, 0, none⟩)), (5, .int .i64 (m : Int))]) (fun m X => m ≤ b.ops.length ∧ (∀ (i : Nat) o, i < m → b.ops[i]? = some o → o.regs.length ≤ 20 ∧ o.map.length ≤ 80 ∧ o.cases.length ≤ 20) ∧ X = H1) (fun m => b.ops.length - m) ⟨0, ⟨rfl, rfl, trivial⟩, by omega, fun i o hi => by omega, rfl⟩ ?_
  rintro m X ⟨hm, htm, e⟩
  subst X
  refine bC_sound _ _ _ _ ?_
  by_cases hml : m < b.ops.length
  · have d1 : decide ((m : Int) < (b.ops.length : Int)) = true := decide_eq_true (by omega)
    obtain ⟨o, ho⟩ := get_lt hml
    obtain ⟨bq, rv, cv, mv, i1, jr, jc, jm, i2⟩ := ldx_opL hbI.ops ho
    obtain ⟨i3, i4, i5⟩ := i2 H1 g
    have m1 : alen Try.prog 38 rv H1 = some (.int .i64 o.regs.length) := jr.len rfl _
    have m2 : alen Try.prog 40 cv H1 = some (.int .i64 o.cases.length) := jc.len rfl _
    have m3 : alen Try.prog 38 mv H1 = some (.int .i64 o.map.length) := jm.len rfl _
    clear hc
    (try (conv => whnf)); (repeat' ((fail_if_success (with_reducible refine And.intro ?_ ?_)); (fail_if_success (with_reducible refine Exists.intro ?_ ?_)); (first | (refine step0 ?_) | (apply bIf.of <;> intro hc <;> (conv => whnf)))))
    all_goals first
      | exact ⟨⟨false, rfl, fun h => by simp at h⟩, g⟩
      | (refine ⟨m + 1, ⟨rfl, congrArg (fun z => some (Value.int .i64 z)) (w_succ (by omega)), trivial⟩, ⟨hml, fun i s hi hs => ?_, rfl⟩, by show _ - (m + 1) < _ - m; omega⟩
         by_cases him : i = m
         · subst him; rw [ho] at hs; simp only [Option.some.injEq] at hs; subst hs
           clear b1 l3 l4 l5 hbI i1 i2 i3 i4 i5 m1 m2 m3 d1 htm
           ((try (simp only [ba_ne_t, ba_ne_f, ba_eq_t, ba_eq_f, bne_iff_ne, bne_eq_false_iff_eq, decide_eq_true_eq, decide_eq_false_iff_not, beq_iff_eq, beq_eq_false_iff_ne, ne_eq, Bool.not_eq_true, Bool.not_eq_false, Bool.not_eq_true', Bool.not_eq_false'] at *)); (try simp only [Bool.false_eq_true, false_iff, true_iff, Classical.not_not, Bool.not_false, Bool.not_true] at *))
           omega
         · exact htm i s (by omega) hs)
  have d1 : decide ((m : Int) < (b.ops.length : Int)) = false := decide_eq_false (by omega)
  have hop : ∀ o ∈ b.ops, o.regs.length ≤ 20 ∧ o.map.length ≤ 80 ∧ o.cases.length ≤ 20 := fun x hx => by
    obtain ⟨i, hi, rfl⟩ := List.getElem_of_mem hx
    exact htm i _ (by omega) (List.getElem?_eq_getElem hi)
  clear htm hml hc
  refine run ?_
  refine SW.loop (α := Nat) (fun m => [(2, .pointer (some ⟨q1, 0, none⟩)), (6, .int .i64 (m : Int))]) (fun m X => m ≤ b.consts.length ∧ (∀ (i : Nat) x, i < m → b.consts[i]? = some x → x.2.2.size ≤ 300) ∧ X = H1) (fun m => b.consts.length - m) ⟨0, ⟨rfl, rfl, trivial⟩, by omega, fun i x hi => by omega, rfl⟩ ?_
  clear d1 hm m
  rintro m X ⟨hm, htm, e⟩
  subst X
  refine bC_sound _ _ _ _ ?_
  by_cases hml : m < b.consts.length
  · have d1 : decide ((m : Int) < (b.consts.length : Int)) = true := decide_eq_true (by omega)
    obtain ⟨x, hx⟩ := get_lt hml
    obtain ⟨bq, i1, i2⟩ := ldx_valS hbI.con hx
    have i3 := i2 H1 g
    (try (conv => whnf)); (repeat' ((fail_if_success (with_reducible refine And.intro ?_ ?_)); (fail_if_success (with_reducible refine Exists.intro ?_ ?_)); (first | (refine step0 ?_) | (apply bIf.of <;> intro hc <;> (conv => whnf)))))
    all_goals first
      | exact ⟨⟨false, rfl, fun h => by simp at h⟩, g⟩
      | (refine ⟨m + 1, ⟨rfl, congrArg (fun z => some (Value.int .i64 z)) (w_succ (by omega)), trivial⟩, ⟨hml, fun i s hi hs => ?_, rfl⟩, by show _ - (m + 1) < _ - m; omega⟩
         by_cases him : i = m
         · subst him; rw [hx] at hs; simp only [Option.some.injEq] at hs; subst hs
           clear b1 l3 l4 l5 hbI i1 i2 i3 d1 htm
           ((try (simp only [ba_ne_t, ba_ne_f, ba_eq_t, ba_eq_f, bne_iff_ne, bne_eq_false_iff_eq, decide_eq_true_eq, decide_eq_false_iff_not, beq_iff_eq, beq_eq_false_iff_ne, ne_eq, Bool.not_eq_true, Bool.not_eq_false, Bool.not_eq_true', Bool.not_eq_false'] at *)); (try simp only [Bool.false_eq_true, false_iff, true_iff, Classical.not_not, Bool.not_false, Bool.not_true] at *))
           omega
         · exact htm i s (by omega) hs)
  · have d1 : decide ((m : Int) < (b.consts.length : Int)) = false := decide_eq_false (by omega)
    refine run ?_
    exact ⟨⟨true, rfl, fun _ => ⟨⟨hbs.1, hbs.2.1, hbs.2.2, hop⟩, fun x hx => by
      obtain ⟨i, hi, rfl⟩ := List.getElem_of_mem hx
      exact htm i _ (by omega) (List.getElem?_eq_getElem hi)⟩⟩, g⟩
theorem fewB_ax {H : Heap} {b : BodyX} {kv ov dv : Value} (hbI : BodyIn H b kv ov dv) (n : Nat) (hn : n ≤ 100000) :
    AX Try.prog 7 #[bodyV b kv ov dv, .int .i64 (n : Int)] H (fun v H' => (∃ t, v = .bool t ∧ (t = true → FewB b n)) ∧ H' = H) :=
  (fewS_ax hbI n hn).mono fun v H' ⟨⟨t, h1, h2⟩, h3⟩ => ⟨⟨t, h1, fun h => (h2 h).1⟩, h3⟩
end Go.Proofs.Ytfobbmllbbckkaa
