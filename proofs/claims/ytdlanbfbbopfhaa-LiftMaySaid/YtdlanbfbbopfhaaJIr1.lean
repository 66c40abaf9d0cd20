/- Package ir: operations and bodies as plain data; small functions. -/
import Derived.Test.YtdlanbfbbopfhaaJLi3
set_option linter.unusedVariables false
set_option linter.unusedSimpArgs false
set_option maxRecDepth 20000
set_option maxHeartbeats 8000000
namespace Go.Proofs.Ytdlanbfbbopfhaa
open Go Ax
abbrev CaseT := Int × Int × Int
abbrev OpX := Int × Int × Int × Int × Int × List Int × List CaseT × Int × List Int
abbrev BodyX := Int × Int × List V × List OpX × List (Int × Int)
theorem irBelow_ax (H : Heap) (n m : Int) : AX Try.prog 27 #[.int .i64 n, .int .i64 m] H (fun v H' => v = .bool (decide (0 ≤ n ∧ n < m)) ∧ H' = H) := by
  refine AX.quiet ?_
  suffices hh : AX Try.prog 27 #[.int .i64 n, .int .i64 m] H (fun v H' => v = .bool (decide (0 ≤ n ∧ n < m)) ∧ Grow H H') from hh.mono fun v _ ⟨e, g⟩ => ⟨e ▸ plain_bool _, e, g⟩
  refine AX.body (n := 12) (rs := [.tmp 4]) Try.func27 rfl (by decide) rfl rfl (bC_sound _ _ _ _ ?_)
  by_cases h0 : 0 ≤ n
  · have d0 : decide (n ≥ 0) = true := decide_eq_true h0
    by_cases h1 : n < m
    · have d1 : decide (n < m) = true := decide_eq_true h1
      (try (conv => whnf)); (repeat ((fail_if_success (with_reducible refine And.intro ?_ ?_)); (fail_if_success (with_reducible refine Exists.intro ?_ ?_)); (first | (apply Ob.of; (first | with_reducible assumption | with_reducible exact ex20 _ _ | with_reducible exact ex21 _ _ | with_reducible exact ex30 _ _ _ | with_reducible exact ex31 _ _ _ | with_reducible exact ex32 _ _ _ | rfl | (exact ald rfl rfl (by assumption) rfl) | (exact ald_agg rfl rfl rfl (by assumption) rfl)); (conv => whnf)) | (apply bIf.yes; (first | assumption | rfl); (conv => whnf)) | (apply bIf.no; (first | assumption | rfl); (conv => whnf)) | ((with_reducible refine Ob.load (by with_unfolding_all assumption) ?_); (conv => whnf)) | (apply Grows.mk; (first | exact Grow.refl _ | assumption); (conv => whnf)))))
      exact ⟨congrArg Value.bool (d1.trans (Eq.symm (decide_eq_true (p := 0 ≤ n ∧ n < m) ⟨h0, h1⟩))), .refl _⟩
    · have d1 : decide (n < m) = false := decide_eq_false h1
      (try (conv => whnf)); (repeat ((fail_if_success (with_reducible refine And.intro ?_ ?_)); (fail_if_success (with_reducible refine Exists.intro ?_ ?_)); (first | (apply Ob.of; (first | with_reducible assumption | with_reducible exact ex20 _ _ | with_reducible exact ex21 _ _ | with_reducible exact ex30 _ _ _ | with_reducible exact ex31 _ _ _ | with_reducible exact ex32 _ _ _ | rfl | (exact ald rfl rfl (by assumption) rfl) | (exact ald_agg rfl rfl rfl (by assumption) rfl)); (conv => whnf)) | (apply bIf.yes; (first | assumption | rfl); (conv => whnf)) | (apply bIf.no; (first | assumption | rfl); (conv => whnf)) | ((with_reducible refine Ob.load (by with_unfolding_all assumption) ?_); (conv => whnf)) | (apply Grows.mk; (first | exact Grow.refl _ | assumption); (conv => whnf)))))
      exact ⟨congrArg Value.bool (d1.trans (Eq.symm (decide_eq_false (p := 0 ≤ n ∧ n < m) fun h => h1 h.2))), .refl _⟩
  · have d0 : decide (n ≥ 0) = false := decide_eq_false h0
    (try (conv => whnf)); (repeat ((fail_if_success (with_reducible refine And.intro ?_ ?_)); (fail_if_success (with_reducible refine Exists.intro ?_ ?_)); (first | (apply Ob.of; (first | with_reducible assumption | with_reducible exact ex20 _ _ | with_reducible exact ex21 _ _ | with_reducible exact ex30 _ _ _ | with_reducible exact ex31 _ _ _ | with_reducible exact ex32 _ _ _ | rfl | (exact ald rfl rfl (by assumption) rfl) | (exact ald_agg rfl rfl rfl (by assumption) rfl)); (conv => whnf)) | (apply bIf.yes; (first | assumption | rfl); (conv => whnf)) | (apply bIf.no; (first | assumption | rfl); (conv => whnf)) | ((with_reducible refine Ob.load (by with_unfolding_all assumption) ?_); (conv => whnf)) | (apply Grows.mk; (first | exact Grow.refl _ | assumption); (conv => whnf)))))
    exact ⟨congrArg Value.bool (Eq.symm (decide_eq_false (p := 0 ≤ n ∧ n < m) fun h => h0 h.1)), .refl _⟩
end Go.Proofs.Ytdlanbfbbopfhaa
/- Package ir: how bodies lie in memory; which parts an operation may have. -/
set_option linter.unusedVariables false
set_option linter.unusedSimpArgs false
set_option maxRecDepth 20000
set_option maxHeartbeats 8000000
namespace Go.Proofs.Ytdlanbfbbopfhaa
open Go Ax
abbrev OpX.kind (o : OpX) : Int := o.1
abbrev OpX.a (o : OpX) : Int := o.2.1
abbrev OpX.b (o : OpX) : Int := o.2.2.1
abbrev OpX.c (o : OpX) : Int := o.2.2.2.1
abbrev OpX.d (o : OpX) : Int := o.2.2.2.2.1
abbrev OpX.regs (o : OpX) : List Int := o.2.2.2.2.2.1
abbrev OpX.cases (o : OpX) : List CaseT := o.2.2.2.2.2.2.1
abbrev OpX.pc (o : OpX) : Int := o.2.2.2.2.2.2.2.1
abbrev OpX.map (o : OpX) : List Int := o.2.2.2.2.2.2.2.2
abbrev BodyX.F (b : BodyX) : Int := b.1
abbrev BodyX.regs (b : BodyX) : Int := b.2.1
abbrev BodyX.consts (b : BodyX) : List V := b.2.2.1
abbrev BodyX.ops (b : BodyX) : List OpX := b.2.2.2.1
abbrev BodyX.deps (b : BodyX) : List (Int × Int) := b.2.2.2.2
abbrev opV (o : OpX) (rv cv mv : Value) : Value := .agg #[.int .i64 o.kind, .int .i64 o.a, .int .i64 o.b, .int .i64 o.c, .int .i64 o.d, rv, cv, .int .i64 o.pc, mv]
abbrev bodyV (b : BodyX) (kv ov dv : Value) : Value := .agg #[.int .i64 b.F, .int .i64 b.regs, kv, ov, dv]
def caseR (_ : Heap) (l : List Value) (x : CaseT) : Prop := l = [.int .i64 x.1, .int .i64 x.2.1, .int .i64 x.2.2]
def depR (_ : Heap) (l : List Value) (x : Int × Int) : Prop := l = [.int .i64 x.1, .int .i64 x.2]
def opxR (H : Heap) (l : List Value) (o : OpX) : Prop :=
  ∃ rv cv mv, l = [.int .i64 o.kind, .int .i64 o.a, .int .i64 o.b, .int .i64 o.c, .int .i64 o.d, rv, cv, .int .i64 o.pc, mv] ∧ RL 1 intR H rv o.regs ∧ RL 3 caseR H cv o.cases ∧ RL 1 intR H mv o.map
theorem caseR.grow {H H' : Heap} {sv : Value} {L : List CaseT} (h : RL 3 caseR H sv L) (g : Grow H H') : RL 3 caseR H' sv L := RL.grow (H := H) (H' := H') (fun _ _ h => h) h g
theorem depR.grow {H H' : Heap} {sv : Value} {L : List (Int × Int)} (h : RL 2 depR H sv L) (g : Grow H H') : RL 2 depR H' sv L := RL.grow (H := H) (H' := H') (fun _ _ h => h) h g
theorem xval_grow {H H' : Heap} {sv : Value} {L : List V} (h : RL 3 valR H sv L) (g : Grow H H') : RL 3 valR H' sv L := RL.grow (H := H) (H' := H') (fun _ _ h => h) h g
theorem opxR.keep {H H' : Heap} {l : List Value} {o : OpX} (h : opxR H l o) (g : Grow H H') : opxR H' l o := by
  obtain ⟨rv, cv, mv, h1, h2, h3, h4⟩ := h
  exact ⟨rv, cv, mv, h1, intR.grow h2 g, caseR.grow h3 g, intR.grow h4 g⟩
theorem opxR.grow {H H' : Heap} {sv : Value} {L : List OpX} (h : RL 9 opxR H sv L) (g : Grow H H') : RL 9 opxR H' sv L := RL.grow (H := H) (H' := H') (fun _ _ h => h.keep g) h g
structure BodyIn (H : Heap) (b : BodyX) (kv ov dv : Value) : Prop where
  con : RL 3 valR H kv b.consts
  ops : RL 9 opxR H ov b.ops
  deps : RL 2 depR H dv b.deps
theorem BodyIn.grow {H H' : Heap} {b : BodyX} {kv ov dv : Value} (h : BodyIn H b kv ov dv) (g : Grow H H') : BodyIn H' b kv ov dv := ⟨xval_grow h.con g, opxR.grow h.ops g, depR.grow h.deps g⟩
theorem ldx_val {H : Heap} {sv : Value} {L : List V} (h : RL 3 valR H sv L) {i : Nat} {x : V} (hx : L[i]? = some x) :
    ∃ b, aindexAddr Try.prog 28 sv (.int .i64 (i : Int)) = some (.pointer (some ⟨b, i * 3, none⟩)) ∧ ∀ H', Grow H H' → aload Try.prog 54 (.pointer (some ⟨b, i * 3, none⟩)) H' = some (valV x) := by
  obtain ⟨b, c, l, h1, h2, h3, rfl⟩ := h.at (P := Try.prog) (t := 28) (e := 54) rfl rfl hx
  exact ⟨b, h1, fun H' g => ald_agg rfl rfl rfl (g.hblk h2) h3⟩
theorem ldx_case {H : Heap} {sv : Value} {L : List CaseT} (h : RL 3 caseR H sv L) {i : Nat} {x : CaseT} (hx : L[i]? = some x) :
    ∃ b, aindexAddr Try.prog 42 sv (.int .i64 (i : Int)) = some (.pointer (some ⟨b, i * 3, none⟩)) ∧ ∀ H', Grow H H' → aload Try.prog 67 (.pointer (some ⟨b, i * 3, none⟩)) H' = some (.agg #[.int .i64 x.1, .int .i64 x.2.1, .int .i64 x.2.2]) ∧
      aload Try.prog 3 (.pointer (some ⟨b, i * 3, none⟩)) H' = some (.int .i64 x.1) ∧ aload Try.prog 3 (.pointer (some ⟨b, i * 3 + 1, none⟩)) H' = some (.int .i64 x.2.1) ∧ aload Try.prog 3 (.pointer (some ⟨b, i * 3 + 2, none⟩)) H' = some (.int .i64 x.2.2) := by
  obtain ⟨b, c, l, h1, h2, h3, rfl⟩ := h.at (P := Try.prog) (t := 42) (e := 67) rfl rfl hx
  exact ⟨b, h1, fun H' g => ⟨ald_agg rfl rfl rfl (g.hblk h2) h3, ald rfl rfl (g.hblk h2) (slots_get (j := 0) h3 rfl), ald rfl rfl (g.hblk h2) (slots_get (j := 1) h3 rfl), ald rfl rfl (g.hblk h2) (slots_get (j := 2) h3 rfl)⟩⟩
theorem ldx_dep {H : Heap} {sv : Value} {L : List (Int × Int)} (h : RL 2 depR H sv L) {i : Nat} {x : Int × Int} (hx : L[i]? = some x) :
    ∃ b, aindexAddr Try.prog 30 sv (.int .i64 (i : Int)) = some (.pointer (some ⟨b, i * 2, none⟩)) ∧ ∀ H', Grow H H' → aload Try.prog 69 (.pointer (some ⟨b, i * 2, none⟩)) H' = some (.agg #[.int .i64 x.1, .int .i64 x.2]) ∧
      aload Try.prog 3 (.pointer (some ⟨b, i * 2, none⟩)) H' = some (.int .i64 x.1) ∧ aload Try.prog 3 (.pointer (some ⟨b, i * 2 + 1, none⟩)) H' = some (.int .i64 x.2) := by
  obtain ⟨b, c, l, h1, h2, h3, rfl⟩ := h.at (P := Try.prog) (t := 30) (e := 69) rfl rfl hx
  exact ⟨b, h1, fun H' g => ⟨ald_agg rfl rfl rfl (g.hblk h2) h3, ald rfl rfl (g.hblk h2) (slots_get (j := 0) h3 rfl), ald rfl rfl (g.hblk h2) (slots_get (j := 1) h3 rfl)⟩⟩
theorem ldx_op {H : Heap} {sv : Value} {L : List OpX} (h : RL 9 opxR H sv L) {i : Nat} {o : OpX} (hx : L[i]? = some o) :
    ∃ b rv cv mv, aindexAddr Try.prog 29 sv (.int .i64 (i : Int)) = some (.pointer (some ⟨b, i * 9, none⟩)) ∧ RL 1 intR H rv o.regs ∧ RL 3 caseR H cv o.cases ∧ RL 1 intR H mv o.map ∧
      ∀ H', Grow H H' → aload Try.prog 44 (.pointer (some ⟨b, i * 9, none⟩)) H' = some (opV o rv cv mv) ∧ aload Try.prog 3 (.pointer (some ⟨b, i * 9, none⟩)) H' = some (.int .i64 o.kind) := by
  obtain ⟨b, c, l, h1, h2, h3, rv, cv, mv, rfl, h5, h6, h7⟩ := h.at (P := Try.prog) (t := 29) (e := 44) rfl rfl hx
  exact ⟨b, rv, cv, mv, h1, h5, h6, h7, fun H' g => ⟨ald_agg rfl rfl rfl (g.hblk h2) h3, ald rfl rfl (g.hblk h2) (slots_get (j := 0) h3 rfl)⟩⟩
/-- A field of a code. -/
theorem ldx_code {H : Heap} {sv : Value} {L : List CodeT} (h : RL 5 codeR H sv L) {i : Nat} {x : CodeT} (hx : L[i]? = some x) :
    ∃ b, aindexAddr Try.prog 23 sv (.int .i64 (i : Int)) = some (.pointer (some ⟨b, i * 5, none⟩)) ∧ ∀ H', Grow H H' → aload Try.prog 3 (.pointer (some ⟨b, i * 5 + 1, none⟩)) H' = some (.int .i64 x.2.1) ∧ aload Try.prog 3 (.pointer (some ⟨b, i * 5 + 2, none⟩)) H' = some (.int .i64 x.2.2.1) := by
  obtain ⟨b, c, l, h1, h2, h3, u, rfl, h4⟩ := h.at (P := Try.prog) (t := 23) (e := 49) rfl rfl hx
  exact ⟨b, h1, fun H' g => ⟨ald rfl rfl (g.hblk h2) (slots_get (j := 1) h3 rfl), ald rfl rfl (g.hblk h2) (slots_get (j := 2) h3 rfl)⟩⟩
/-- What bounds the parts of operations. -/
structure Lims where
  rg : Int
  nc : Int
  gl : Int
  np : Int
  st : Int
  no : Int
def limsOf (p : ProgT) (c : CodeT) (b : BodyX) : Lims := ⟨b.regs, b.consts.length, p.1, p.2.1.length, c.2.2.1, b.ops.length⟩
def partP (m : Lims) (t n : Int) : Prop :=
  if t = 82 ∨ t = 114 then 0 ≤ n ∧ n < m.rg else if t = 107 then 0 ≤ n ∧ n < m.nc else if t = 103 then 0 ≤ n ∧ n < m.gl else if t = 112 then 0 ≤ n ∧ n < m.np else if t = 115 then 0 ≤ n ∧ n < m.st else
  if t = 117 then n = 1 ∨ n = 2 else if t = 98 then 1 ≤ n ∧ n ≤ 11 else if t = 116 then 0 ≤ n ∧ n < m.no else if t = 110 then 1 ≤ n ∧ n ≤ 100000 else if t = 104 then 1 ≤ n else if t = 105 then 0 ≤ n ∧ n < 12 else
  if t = 99 then 1 ≤ n ∧ n ≤ 7 else n = 0
instance (m : Lims) (t n : Int) : Decidable (partP m t n) := by unfold partP; infer_instance
abbrev chkV (p : ProgT) (ps cs : Value) (b : BodyX) (kv ov dv sv : Value) : Value := .agg #[.int .i64 p.1, ps, cs, .int .i64 b.F, .int .i64 b.regs, kv, ov, dv, sv]
theorem part_ax {H : Heap} {p : ProgT} {ps cs kv ov dv sv : Value} {c : CodeT} {b : BodyX} {f : Nat} (hp : RL 1 strR H ps p.2.1) (hcs : RL 5 codeR H cs p.2.2) (hb : BodyIn H b kv ov dv) (hF : b.F = (f : Int)) (hf : p.2.2[f]? = some c) (t n : Int) :
    AX Try.prog 50 #[chkV p ps cs b kv ov dv sv, .int .i32 t, .int .i64 n] H (fun v H' => v = .bool (decide (partP (limsOf p c b) t n)) ∧ H' = H) := by
  refine AX.quiet ?_
  suffices hh : AX Try.prog 50 #[chkV p ps cs b kv ov dv sv, .int .i32 t, .int .i64 n] H (fun v H' => v = .bool (decide (partP (limsOf p c b) t n)) ∧ Grow H H') from hh.mono fun v _ ⟨e, g⟩ => ⟨e ▸ plain_bool _, e, g⟩
  refine AX.body (n := 102) (rs := [.tmp 6]) Try.func50 rfl (by decide) rfl rfl (bC_sound _ _ _ _ ?_)
  (conv => whnf)
  refine Ob2.box rfl fun q1 H1 hq1 a1 g => ?_
  have b1 := hblk_of a1
  have l1 : alen Try.prog 22 ps H1 = some (.int .i64 p.2.1.length) := hp.len rfl _
  have l2 : alen Try.prog 28 kv H1 = some (.int .i64 b.consts.length) := hb.con.len rfl _
  have l3 : alen Try.prog 29 ov H1 = some (.int .i64 b.ops.length) := hb.ops.len rfl _
  obtain ⟨bq, i1, i2⟩ := ldx_code hcs hf
  have i3 := (i2 H1 g).2
  rw [← hF] at i1
  clear a1 hp hcs hb i2
  (try (conv => whnf)); (repeat' ((fail_if_success (with_reducible refine And.intro ?_ ?_)); (fail_if_success (with_reducible refine Exists.intro ?_ ?_)); (first | ((with_reducible refine AX.id ?_); (first | (refine (irBelow_ax _ _ _).mono ?_; (rintro _ X ⟨rfl, eX⟩; subst X; (conv => whnf))) | (refine (sign_ax _ _).mono ?_; (rintro _ X ⟨rfl, eX⟩; subst X; (conv => whnf))) | (refine (built_ax _ _).mono ?_; (rintro _ X ⟨rfl, eX⟩; subst X; (conv => whnf))))) | (first | (apply Ob.of; (first | with_reducible assumption | with_reducible exact ex20 _ _ | with_reducible exact ex21 _ _ | with_reducible exact ex30 _ _ _ | with_reducible exact ex31 _ _ _ | with_reducible exact ex32 _ _ _ | rfl | (exact ald rfl rfl (by assumption) rfl) | (exact ald_agg rfl rfl rfl (by assumption) rfl)); (conv => whnf)) | (apply bIf.yes; (first | assumption | rfl); (conv => whnf)) | (apply bIf.no; (first | assumption | rfl); (conv => whnf)) | ((with_reducible refine Ob.load (by with_unfolding_all assumption) ?_); (conv => whnf)) | (apply Grows.mk; (first | exact Grow.refl _ | assumption); (conv => whnf))) | (apply bIf.of <;> intro hc <;> (conv => whnf)))))
  all_goals refine ⟨congrArg Value.bool ?_, g⟩
  all_goals (simp only [ba_ne_t, ba_ne_f, ba_eq_t, ba_eq_f, bne_iff_ne, bne_eq_false_iff_eq, decide_eq_true_eq, decide_eq_false_iff_not, beq_iff_eq, beq_eq_false_iff_ne, ne_eq, Bool.not_eq_true, Bool.not_eq_false, Bool.not_eq_true', Bool.not_eq_false'] at *)
  all_goals first | rw [sign_some] | rw [built_some] | skip
  all_goals rw [Bool.eq_iff_iff]
  all_goals simp only [decide_eq_true_eq, beq_iff_eq, decide_eq_false_iff_not, Bool.false_eq_true, reduceCtorEq, false_iff, true_iff] at *
  all_goals clear b1 l1 l2 l3 g i1 i3
  all_goals subst_vars
  all_goals first | (simp [partP, limsOf]; done) | (simp [partP, limsOf] <;> omega) | (simp [partP, limsOf, *] <;> omega)
end Go.Proofs.Ytdlanbfbbopfhaa
/- Package ir: the letters of an operation's parts; lists of an operation. -/
set_option linter.unusedVariables false
set_option linter.unusedSimpArgs false
set_option maxRecDepth 20000
set_option maxHeartbeats 8000000
namespace Go.Proofs.Ytdlanbfbbopfhaa
open Go Ax
/-- The letters of an operation's parts. -/
def fldL : List (List Nat) := [[], [110, 45, 45, 45], [82, 107, 45, 45], [82, 45, 45, 45], [82, 114, 45, 45], [82, 103, 45, 45], [103, 114, 45, 45], [82, 45, 45, 45], [114, 114, 112, 115], [82, 114, 112, 115], [114, 114, 112, 115], [82, 114, 114, 45], [114, 114, 114, 45],
  [114, 45, 112, 45], [114, 114, 45, 45], [82, 114, 117, 45], [82, 114, 114, 98], [116, 45, 45, 45], [116, 114, 45, 45], [116, 114, 45, 45], [82, 45, 45, 45], [82, 45, 45, 45], [82, 45, 99, 45], [114, 45, 45, 45], [114, 45, 45, 45], [114, 104, 45, 45], [82, 114, 105, 45],
  [82, 104, 105, 45], [114, 114, 105, 45], [114, 114, 104, 45], [82, 114, 45, 45]]
def fldN (k : Int) : List Nat := fldL.getD k.toNat []
def fldB (k : Int) : ByteArray := ⟨((fldN k).map UInt8.ofNat).toArray⟩
def fl (k : Int) (i : Nat) : Nat := (fldN k).getD i 0
theorem thirty {a : Int} (h1 : 1 ≤ a) (h7 : a ≤ 30) : a = 1 ∨ a = 2 ∨ a = 3 ∨ a = 4 ∨ a = 5 ∨ a = 6 ∨ a = 7 ∨ a = 8 ∨ a = 9 ∨ a = 10 ∨ a = 11 ∨ a = 12 ∨ a = 13 ∨ a = 14 ∨ a = 15 ∨ a = 16 ∨ a = 17 ∨ a = 18 ∨ a = 19 ∨ a = 20 ∨ a = 21 ∨ a = 22 ∨ a = 23 ∨ a = 24 ∨ a = 25 ∨ a = 26 ∨ a = 27 ∨ a = 28 ∨ a = 29 ∨ a = 30 := by omega
theorem fldB_no {k : Int} (h : ¬ (1 ≤ k ∧ k ≤ 30)) : fldB k = ⟨#[]⟩ := by
  unfold fldB fldN
  by_cases h0 : k < 1
  · rw [show k.toNat = 0 by omega]; rfl
  · rw [List.getD_eq_getElem?_getD, List.getElem?_eq_none (by simp [fldL]; omega)]; rfl
theorem fields_ax (H : Heap) (k : Int) : AX Try.prog 47 #[.int .i64 k] H (fun v H' => v = .string (fldB k) ∧ H' = H) := by
  refine AX.quiet ?_
  suffices hh : AX Try.prog 47 #[.int .i64 k] H (fun v H' => v = .string (fldB k) ∧ Grow H H') from hh.mono fun v _ ⟨e, g⟩ => ⟨e ▸ plain_str _, e, g⟩
  refine AX.body (n := 59) (rs := [.tmp 2]) Try.func47 rfl (by decide) rfl rfl (bC_sound _ _ _ _ ?_)
  by_cases h : 1 ≤ k ∧ k ≤ 30
  · rcases thirty h.1 h.2 with rfl | rfl | rfl | rfl | rfl | rfl | rfl | rfl | rfl | rfl | rfl | rfl | rfl | rfl | rfl | rfl | rfl | rfl | rfl | rfl | rfl | rfl | rfl | rfl | rfl | rfl | rfl | rfl | rfl | rfl <;> ((try (conv => whnf)); (repeat ((fail_if_success (with_reducible refine And.intro ?_ ?_)); (fail_if_success (with_reducible refine Exists.intro ?_ ?_)); (first | (apply Ob.of; (first | with_reducible assumption | with_reducible exact ex20 _ _ | with_reducible exact ex21 _ _ | with_reducible exact ex30 _ _ _ | with_reducible exact ex31 _ _ _ | with_reducible exact ex32 _ _ _ | rfl | (exact ald rfl rfl (by assumption) rfl) | (exact ald_agg rfl rfl rfl (by assumption) rfl)); (conv => whnf)) | (apply bIf.yes; (first | assumption | rfl); (conv => whnf)) | (apply bIf.no; (first | assumption | rfl); (conv => whnf)) | ((with_reducible refine Ob.load (by with_unfolding_all assumption) ?_); (conv => whnf)) | (apply Grows.mk; (first | exact Grow.refl _ | assumption); (conv => whnf))))); exact ⟨rfl, .refl _⟩)
  · rw [fldB_no h]
    (try (conv => whnf)); (repeat' ((fail_if_success (with_reducible refine And.intro ?_ ?_)); (fail_if_success (with_reducible refine Exists.intro ?_ ?_)); (first | (first | (apply Ob.of; (first | with_reducible assumption | with_reducible exact ex20 _ _ | with_reducible exact ex21 _ _ | with_reducible exact ex30 _ _ _ | with_reducible exact ex31 _ _ _ | with_reducible exact ex32 _ _ _ | rfl | (exact ald rfl rfl (by assumption) rfl) | (exact ald_agg rfl rfl rfl (by assumption) rfl)); (conv => whnf)) | (apply bIf.yes; (first | assumption | rfl); (conv => whnf)) | (apply bIf.no; (first | assumption | rfl); (conv => whnf)) | ((with_reducible refine Ob.load (by with_unfolding_all assumption) ?_); (conv => whnf)) | (apply Grows.mk; (first | exact Grow.refl _ | assumption); (conv => whnf))) | (apply bIf.of <;> intro hc <;> (conv => whnf)))))
    all_goals first | exact ⟨rfl, .refl _⟩ | (exfalso; (simp only [ba_ne_t, ba_ne_f, ba_eq_t, ba_eq_f, bne_iff_ne, bne_eq_false_iff_eq, decide_eq_true_eq, decide_eq_false_iff_not, beq_iff_eq, beq_eq_false_iff_ne, ne_eq, Bool.not_eq_true, Bool.not_eq_false, Bool.not_eq_true', Bool.not_eq_false'] at *); omega)
theorem fld_len {k : Int} (h : 1 ≤ k ∧ k ≤ 30) : (fldN k).length = 4 := by
  rcases thirty h.1 h.2 with rfl | rfl | rfl | rfl | rfl | rfl | rfl | rfl | rfl | rfl | rfl | rfl | rfl | rfl | rfl | rfl | rfl | rfl | rfl | rfl | rfl | rfl | rfl | rfl | rfl | rfl | rfl | rfl | rfl | rfl <;> rfl
theorem fldB_size {k : Int} (h : 1 ≤ k ∧ k ≤ 30) : (fldB k).size = 4 := by
  show (((fldN k).map UInt8.ofNat).toArray).size = 4
  simp [fld_len h]
theorem fldB_ne {k : Int} (h : 1 ≤ k ∧ k ≤ 30) : (fldB k == ⟨#[]⟩) = false := by
  rw [ba_eq_f]
  intro e
  have := fldB_size h
  rw [e] at this
  exact absurd this (by decide)
theorem fl_small {k : Int} (h : 1 ≤ k ∧ k ≤ 30) (i : Nat) (hi : i < 4) : fl k i < 128 := by
  rcases thirty h.1 h.2 with rfl | rfl | rfl | rfl | rfl | rfl | rfl | rfl | rfl | rfl | rfl | rfl | rfl | rfl | rfl | rfl | rfl | rfl | rfl | rfl | rfl | rfl | rfl | rfl | rfl | rfl | rfl | rfl | rfl | rfl <;> match i, hi with | 0, _ => decide | 1, _ => decide | 2, _ => decide | 3, _ => decide
theorem fldB_dec {k : Int} (h : 1 ≤ k ∧ k ≤ 30) {i : Nat} (hi : i < 4) : Utf8.decode (fldB k) i = (fl k i, 1) := by
  refine dec_ascii ?_ (fl_small h i hi)
  have hl := fld_len h
  show (((fldN k).map UInt8.ofNat).toArray)[i]?.map UInt8.toNat = _
  have hs := fl_small h i hi
  unfold fl at hs ⊢
  rw [List.getElem?_toArray, List.getElem?_map, List.getElem?_eq_getElem (by omega)]
  rw [List.getD_eq_getElem?_getD, List.getElem?_eq_getElem (by omega)] at hs ⊢
  simp only [Option.map_some, Option.getD_some, Option.some.injEq] at hs ⊢
  simp [UInt8.toNat_ofNat]; omega
theorem parts_ax (H : Heap) (o : OpX) (rv cv mv : Value) : AX Try.prog 49 #[opV o rv cv mv] H (fun v H' => v = .agg #[.int .i64 o.a, .int .i64 o.b, .int .i64 o.c, .int .i64 o.d] ∧ Grow H H') := by
  refine AX.body (n := 12) (rs := [.cell 2 93]) Try.func49 rfl (by decide) rfl rfl (bC_sound _ _ _ _ ?_)
  (conv => whnf)
  refine Ob2.box rfl fun q1 H1 hq1 a1 g1 => ?_
  have b1 := hblk_of a1
  (try (conv => whnf)); (repeat ((fail_if_success (with_reducible refine And.intro ?_ ?_)); (fail_if_success (with_reducible refine Exists.intro ?_ ?_)); (first | (apply Ob.of; (first | with_reducible assumption | with_reducible exact ex20 _ _ | with_reducible exact ex21 _ _ | with_reducible exact ex30 _ _ _ | with_reducible exact ex31 _ _ _ | with_reducible exact ex32 _ _ _ | rfl | (exact ald rfl rfl (by assumption) rfl) | (exact ald_agg rfl rfl rfl (by assumption) rfl)); (conv => whnf)) | (apply bIf.yes; (first | assumption | rfl); (conv => whnf)) | (apply bIf.no; (first | assumption | rfl); (conv => whnf)) | ((with_reducible refine Ob.load (by with_unfolding_all assumption) ?_); (conv => whnf)) | (apply Grows.mk; (first | exact Grow.refl _ | assumption); (conv => whnf)))))
  refine Ob2.alloc rfl fun q2 H2 hq2 a2 g2 => ?_
  have b2 := g2.hblk b1
  (try (conv => whnf)); (repeat ((fail_if_success (with_reducible refine And.intro ?_ ?_)); (fail_if_success (with_reducible refine Exists.intro ?_ ?_)); (first | (apply Ob.of; (first | with_reducible assumption | with_reducible exact ex20 _ _ | with_reducible exact ex21 _ _ | with_reducible exact ex30 _ _ _ | with_reducible exact ex31 _ _ _ | with_reducible exact ex32 _ _ _ | rfl | (exact ald rfl rfl (by assumption) rfl) | (exact ald_agg rfl rfl rfl (by assumption) rfl)); (conv => whnf)) | (apply bIf.yes; (first | assumption | rfl); (conv => whnf)) | (apply bIf.no; (first | assumption | rfl); (conv => whnf)) | ((with_reducible refine Ob.load (by with_unfolding_all assumption) ?_); (conv => whnf)) | (apply Grows.mk; (first | exact Grow.refl _ | assumption); (conv => whnf)))))
  refine Ob.store rfl rfl rfl a2 rfl (by first | exact Nat.le_of_ble_eq_true rfl | simp) fun H3 s3 k3 l3 => ?_
  have b3 := hblk_of s3
  (try (conv => whnf)); (repeat ((fail_if_success (with_reducible refine And.intro ?_ ?_)); (fail_if_success (with_reducible refine Exists.intro ?_ ?_)); (first | (apply Ob.of; (first | with_reducible assumption | with_reducible exact ex20 _ _ | with_reducible exact ex21 _ _ | with_reducible exact ex30 _ _ _ | with_reducible exact ex31 _ _ _ | with_reducible exact ex32 _ _ _ | rfl | (exact ald rfl rfl (by assumption) rfl) | (exact ald_agg rfl rfl rfl (by assumption) rfl)); (conv => whnf)) | (apply bIf.yes; (first | assumption | rfl); (conv => whnf)) | (apply bIf.no; (first | assumption | rfl); (conv => whnf)) | ((with_reducible refine Ob.load (by with_unfolding_all assumption) ?_); (conv => whnf)) | (apply Grows.mk; (first | exact Grow.refl _ | assumption); (conv => whnf)))))
  exact ⟨rfl, g1.trans (g2.but_new k3 (by omega))⟩
/-- Are all numbers registers? -/
def RegsP (m : Int) (L : List Int) : Prop := ∀ x ∈ L, 0 ≤ x ∧ x < m
theorem indexi_ax {H : Heap} {u : Value} {L : List Int} (hu : RL 1 intR H u L) (hL : L.length < 4294967296) (g : Nat) (cap : Value) (m : Int)
    (hg : ∀ x : Int, AX Try.prog g #[.int .i64 x, cap] H (fun v H' => (∃ b, v = .bool b ∧ (b = true ↔ ¬ (0 ≤ x ∧ x < m))) ∧ H' = H)) :
    AX Try.prog 69 #[u, .func (.func g) #[] #[cap]] H (fun v H' => (∃ i : Int, v = .int .i64 i ∧ (0 ≤ i ↔ ¬ RegsP m L)) ∧ H' = H) := by
  refine AX.body (n := 19) (rs := [.tmp 4]) Try.func69 rfl (by decide) rfl rfl (bC_sound _ _ _ _ ?_)
  have l1 : alen Try.prog 36 u H = some (.int .i64 L.length) := hu.len rfl _
  (try (conv => whnf)); (repeat ((fail_if_success (with_reducible refine And.intro ?_ ?_)); (fail_if_success (with_reducible refine Exists.intro ?_ ?_)); (first | (apply Ob.of; (first | with_reducible assumption | with_reducible exact ex20 _ _ | with_reducible exact ex21 _ _ | with_reducible exact ex30 _ _ _ | with_reducible exact ex31 _ _ _ | with_reducible exact ex32 _ _ _ | rfl | (exact ald rfl rfl (by assumption) rfl) | (exact ald_agg rfl rfl rfl (by assumption) rfl)); (conv => whnf)) | (apply bIf.yes; (first | assumption | rfl); (conv => whnf)) | (apply bIf.no; (first | assumption | rfl); (conv => whnf)) | ((with_reducible refine Ob.load (by with_unfolding_all assumption) ?_); (conv => whnf)) | (apply Grows.mk; (first | exact Grow.refl _ | assumption); (conv => whnf)))))
  refine SW.loop (α := Nat) (fun k => [(0, u), (1, .func (.func g) #[] #[cap]), (7, .int .i64 L.length), (8, .int .i64 (k : Int))]) (fun k H' => k ≤ L.length ∧ (∀ (i : Nat) x, i < k → L[i]? = some x → 0 ≤ x ∧ x < m) ∧ H' = H) (fun k => L.length - k) ⟨0, ⟨rfl, rfl, rfl, rfl, trivial⟩, by omega, fun i s h => by omega, rfl⟩ ?_
  rintro k X ⟨hm, ht, e⟩
  subst X
  refine bC_sound _ _ _ _ ?_
  by_cases hml : k < L.length
  · have d1 : decide ((k : Int) < (L.length : Int)) = true := decide_eq_true (by omega)
    obtain ⟨x, hx⟩ := get_lt hml
    obtain ⟨p, i1, i2⟩ := ld_int hu hx
    have i3 := i2 H (.refl _)
    (try (conv => whnf)); (repeat ((fail_if_success (with_reducible refine And.intro ?_ ?_)); (fail_if_success (with_reducible refine Exists.intro ?_ ?_)); (first | (apply Ob.of; (first | with_reducible assumption | with_reducible exact ex20 _ _ | with_reducible exact ex21 _ _ | with_reducible exact ex30 _ _ _ | with_reducible exact ex31 _ _ _ | with_reducible exact ex32 _ _ _ | rfl | (exact ald rfl rfl (by assumption) rfl) | (exact ald_agg rfl rfl rfl (by assumption) rfl)); (conv => whnf)) | (apply bIf.yes; (first | assumption | rfl); (conv => whnf)) | (apply bIf.no; (first | assumption | rfl); (conv => whnf)) | ((with_reducible refine Ob.load (by with_unfolding_all assumption) ?_); (conv => whnf)) | (apply Grows.mk; (first | exact Grow.refl _ | assumption); (conv => whnf)))))
    refine (hg x).mono ?_
    rintro _ X ⟨⟨b, rfl, hb⟩, e⟩
    subst X
    cases b with
    | false =>
      have hp : 0 ≤ x ∧ x < m := Decidable.byContradiction fun h => by simpa using hb.2 h
      (try (conv => whnf)); (repeat ((fail_if_success (with_reducible refine And.intro ?_ ?_)); (fail_if_success (with_reducible refine Exists.intro ?_ ?_)); (first | (apply Ob.of; (first | with_reducible assumption | with_reducible exact ex20 _ _ | with_reducible exact ex21 _ _ | with_reducible exact ex30 _ _ _ | with_reducible exact ex31 _ _ _ | with_reducible exact ex32 _ _ _ | rfl | (exact ald rfl rfl (by assumption) rfl) | (exact ald_agg rfl rfl rfl (by assumption) rfl)); (conv => whnf)) | (apply bIf.yes; (first | assumption | rfl); (conv => whnf)) | (apply bIf.no; (first | assumption | rfl); (conv => whnf)) | ((with_reducible refine Ob.load (by with_unfolding_all assumption) ?_); (conv => whnf)) | (apply Grows.mk; (first | exact Grow.refl _ | assumption); (conv => whnf)))))
      refine ⟨k + 1, ⟨rfl, rfl, rfl, congrArg (fun z => some (Value.int .i64 z)) (w_succ (by omega)), trivial⟩, ⟨hml, fun i s hi hs => ?_, rfl⟩, by show L.length - (k + 1) < L.length - k; omega⟩
      by_cases him : i = k
      · subst him; rw [hx] at hs; simp only [Option.some.injEq] at hs; subst hs; exact hp
      · exact ht i s (by omega) hs
    | true =>
      have hp := hb.1 rfl
      (try (conv => whnf)); (repeat ((fail_if_success (with_reducible refine And.intro ?_ ?_)); (fail_if_success (with_reducible refine Exists.intro ?_ ?_)); (first | (apply Ob.of; (first | with_reducible assumption | with_reducible exact ex20 _ _ | with_reducible exact ex21 _ _ | with_reducible exact ex30 _ _ _ | with_reducible exact ex31 _ _ _ | with_reducible exact ex32 _ _ _ | rfl | (exact ald rfl rfl (by assumption) rfl) | (exact ald_agg rfl rfl rfl (by assumption) rfl)); (conv => whnf)) | (apply bIf.yes; (first | assumption | rfl); (conv => whnf)) | (apply bIf.no; (first | assumption | rfl); (conv => whnf)) | ((with_reducible refine Ob.load (by with_unfolding_all assumption) ?_); (conv => whnf)) | (apply Grows.mk; (first | exact Grow.refl _ | assumption); (conv => whnf)))))
      exact ⟨⟨k, rfl, fun _ h => hp (h x (List.mem_of_getElem? hx)), fun _ => by omega⟩, rfl⟩
  · have d1 : decide ((k : Int) < (L.length : Int)) = false := decide_eq_false (by omega)
    (try (conv => whnf)); (repeat ((fail_if_success (with_reducible refine And.intro ?_ ?_)); (fail_if_success (with_reducible refine Exists.intro ?_ ?_)); (first | (apply Ob.of; (first | with_reducible assumption | with_reducible exact ex20 _ _ | with_reducible exact ex21 _ _ | with_reducible exact ex30 _ _ _ | with_reducible exact ex31 _ _ _ | with_reducible exact ex32 _ _ _ | rfl | (exact ald rfl rfl (by assumption) rfl) | (exact ald_agg rfl rfl rfl (by assumption) rfl)); (conv => whnf)) | (apply bIf.yes; (first | assumption | rfl); (conv => whnf)) | (apply bIf.no; (first | assumption | rfl); (conv => whnf)) | ((with_reducible refine Ob.load (by with_unfolding_all assumption) ?_); (conv => whnf)) | (apply Grows.mk; (first | exact Grow.refl _ | assumption); (conv => whnf)))))
    refine ⟨⟨-1, rfl, fun h => by omega, fun h => absurd (fun x hx => ?_) h⟩, rfl⟩
    obtain ⟨i, hi, rfl⟩ := List.getElem_of_mem hx
    exact ht i L[i] (by omega) (List.getElem?_eq_getElem hi)
theorem containsi_ax {H : Heap} {u : Value} {L : List Int} (hu : RL 1 intR H u L) (hL : L.length < 4294967296) (g : Nat) (cap : Value) (m : Int)
    (hg : ∀ x : Int, AX Try.prog g #[.int .i64 x, cap] H (fun v H' => (∃ b, v = .bool b ∧ (b = true ↔ ¬ (0 ≤ x ∧ x < m))) ∧ H' = H)) :
    AX Try.prog 51 #[u, .func (.func g) #[] #[cap]] H (fun v H' => (∃ b, v = .bool b ∧ (b = true ↔ ¬ RegsP m L)) ∧ H' = H) := by
  refine AX.body (n := 9) (rs := [.tmp 4]) Try.func51 rfl (by decide) rfl rfl (bC_sound _ _ _ _ ?_)
  (try (conv => whnf)); (repeat ((fail_if_success (with_reducible refine And.intro ?_ ?_)); (fail_if_success (with_reducible refine Exists.intro ?_ ?_)); (first | (apply Ob.of; (first | with_reducible assumption | with_reducible exact ex20 _ _ | with_reducible exact ex21 _ _ | with_reducible exact ex30 _ _ _ | with_reducible exact ex31 _ _ _ | with_reducible exact ex32 _ _ _ | rfl | (exact ald rfl rfl (by assumption) rfl) | (exact ald_agg rfl rfl rfl (by assumption) rfl)); (conv => whnf)) | (apply bIf.yes; (first | assumption | rfl); (conv => whnf)) | (apply bIf.no; (first | assumption | rfl); (conv => whnf)) | ((with_reducible refine Ob.load (by with_unfolding_all assumption) ?_); (conv => whnf)) | (apply Grows.mk; (first | exact Grow.refl _ | assumption); (conv => whnf)))))
  refine (indexi_ax hu hL g cap m hg).mono ?_
  rintro _ X ⟨⟨i, rfl, hi⟩, e⟩
  subst X
  (try (conv => whnf)); (repeat ((fail_if_success (with_reducible refine And.intro ?_ ?_)); (fail_if_success (with_reducible refine Exists.intro ?_ ?_)); (first | (apply Ob.of; (first | with_reducible assumption | with_reducible exact ex20 _ _ | with_reducible exact ex21 _ _ | with_reducible exact ex30 _ _ _ | with_reducible exact ex31 _ _ _ | with_reducible exact ex32 _ _ _ | rfl | (exact ald rfl rfl (by assumption) rfl) | (exact ald_agg rfl rfl rfl (by assumption) rfl)); (conv => whnf)) | (apply bIf.yes; (first | assumption | rfl); (conv => whnf)) | (apply bIf.no; (first | assumption | rfl); (conv => whnf)) | ((with_reducible refine Ob.load (by with_unfolding_all assumption) ?_); (conv => whnf)) | (apply Grows.mk; (first | exact Grow.refl _ | assumption); (conv => whnf)))))
  exact ⟨⟨_, rfl, by rw [decide_eq_true_eq]; exact hi⟩, rfl⟩
/-- How many registers an operation may list. -/
def leastP (k c : Int) : Int := if k = 20 then 1 else if k = 21 then 2 else if k = 22 then builtN c else 0
def mostP (k c : Int) : Int := if k = 20 then 7 else if k = 21 then 8 else if k = 22 then builtN c else 0
def CaseP (x : CaseT) : Prop := 1 ≤ x.1 ∧ -1 ≤ x.2.1 ∧ 0 ≤ x.2.2 ∧ x.2.2 < 12
instance (x : CaseT) : Decidable (CaseP x) := by unfold CaseP; infer_instance
def CasesP (L : List CaseT) : Prop := ∀ x ∈ L, CaseP x
def listsP (m : Int) (o : OpX) : Prop :=
  leastP o.kind o.c ≤ o.regs.length ∧ (o.regs.length : Int) ≤ mostP o.kind o.c ∧ RegsP m o.regs ∧ (o.kind ≠ 30 → o.cases.length = 0) ∧ (o.kind = 30 → 1 ≤ o.cases.length ∧ o.cases.length ≤ 4 ∧ CasesP o.cases)
theorem lists2_ax (H : Heap) (x : CaseT) : AX Try.prog 67 #[.agg #[.int .i64 x.1, .int .i64 x.2.1, .int .i64 x.2.2]] H (fun v H' => (∃ b, v = .bool b ∧ (b = true ↔ ¬ CaseP x)) ∧ H' = H) := by
  refine AX.quiet ?_
  suffices hh : AX Try.prog 67 #[.agg #[.int .i64 x.1, .int .i64 x.2.1, .int .i64 x.2.2]] H (fun v H' => (∃ b, v = .bool b ∧ (b = true ↔ ¬ CaseP x)) ∧ Grow H H') from hh.mono fun v _ ⟨⟨b, e, k⟩, g⟩ => ⟨e ▸ plain_bool _, ⟨b, e, k⟩, g⟩
  refine AX.body (n := 17) (rs := [.tmp 2]) Try.func67 rfl (by decide) rfl rfl (bC_sound _ _ _ _ ?_)
  (conv => whnf)
  refine Ob2.box rfl fun q1 H1 hq1 a1 g => ?_
  have b1 := hblk_of a1
  (try (conv => whnf)); (repeat' ((fail_if_success (with_reducible refine And.intro ?_ ?_)); (fail_if_success (with_reducible refine Exists.intro ?_ ?_)); (first | ((with_reducible refine AX.id ?_); (first | (refine (irBelow_ax _ _ _).mono ?_; (rintro _ X ⟨rfl, eX⟩; subst X; (conv => whnf))))) | (first | (apply Ob.of; (first | with_reducible assumption | with_reducible exact ex20 _ _ | with_reducible exact ex21 _ _ | with_reducible exact ex30 _ _ _ | with_reducible exact ex31 _ _ _ | with_reducible exact ex32 _ _ _ | rfl | (exact ald rfl rfl (by assumption) rfl) | (exact ald_agg rfl rfl rfl (by assumption) rfl)); (conv => whnf)) | (apply bIf.yes; (first | assumption | rfl); (conv => whnf)) | (apply bIf.no; (first | assumption | rfl); (conv => whnf)) | ((with_reducible refine Ob.load (by with_unfolding_all assumption) ?_); (conv => whnf)) | (apply Grows.mk; (first | exact Grow.refl _ | assumption); (conv => whnf))) | (apply bIf.of <;> intro hc <;> (conv => whnf)))))
  all_goals refine ⟨⟨_, rfl, ?_⟩, g⟩
  all_goals clear b1 a1 hq1 g
  all_goals (simp only [ba_ne_t, ba_ne_f, ba_eq_t, ba_eq_f, bne_iff_ne, bne_eq_false_iff_eq, decide_eq_true_eq, decide_eq_false_iff_not, beq_iff_eq, beq_eq_false_iff_ne, ne_eq, Bool.not_eq_true, Bool.not_eq_false, Bool.not_eq_true', Bool.not_eq_false'] at *)
  all_goals unfold CaseP
  all_goals first | omega | (simp only [true_iff, Bool.not_eq_true', decide_eq_false_iff_not]; omega)
theorem indexc_ax {H : Heap} {u : Value} {L : List CaseT} (hu : RL 3 caseR H u L) (hL : L.length < 4294967296) :
    AX Try.prog 76 #[u, fnV 67] H (fun v H' => (∃ i : Int, v = .int .i64 i ∧ (0 ≤ i ↔ ¬ CasesP L)) ∧ H' = H) := by
  refine AX.body (n := 19) (rs := [.tmp 4]) Try.func76 rfl (by decide) rfl rfl (bC_sound _ _ _ _ ?_)
  have l1 : alen Try.prog 42 u H = some (.int .i64 L.length) := hu.len rfl _
  (try (conv => whnf)); (repeat ((fail_if_success (with_reducible refine And.intro ?_ ?_)); (fail_if_success (with_reducible refine Exists.intro ?_ ?_)); (first | (apply Ob.of; (first | with_reducible assumption | with_reducible exact ex20 _ _ | with_reducible exact ex21 _ _ | with_reducible exact ex30 _ _ _ | with_reducible exact ex31 _ _ _ | with_reducible exact ex32 _ _ _ | rfl | (exact ald rfl rfl (by assumption) rfl) | (exact ald_agg rfl rfl rfl (by assumption) rfl)); (conv => whnf)) | (apply bIf.yes; (first | assumption | rfl); (conv => whnf)) | (apply bIf.no; (first | assumption | rfl); (conv => whnf)) | ((with_reducible refine Ob.load (by with_unfolding_all assumption) ?_); (conv => whnf)) | (apply Grows.mk; (first | exact Grow.refl _ | assumption); (conv => whnf)))))
  refine SW.loop (α := Nat) (fun k => [(0, u), (1, fnV 67), (7, .int .i64 L.length), (8, .int .i64 (k : Int))]) (fun k H' => k ≤ L.length ∧ (∀ (i : Nat) x, i < k → L[i]? = some x → CaseP x) ∧ H' = H) (fun k => L.length - k) ⟨0, ⟨rfl, rfl, rfl, rfl, trivial⟩, by omega, fun i s h => by omega, rfl⟩ ?_
  rintro k X ⟨hm, ht, e⟩
  subst X
  refine bC_sound _ _ _ _ ?_
  by_cases hml : k < L.length
  · have d1 : decide ((k : Int) < (L.length : Int)) = true := decide_eq_true (by omega)
    obtain ⟨x, hx⟩ := get_lt hml
    obtain ⟨p, i1, i2⟩ := ldx_case hu hx
    have i3 := (i2 H (.refl _)).1
    (try (conv => whnf)); (repeat ((fail_if_success (with_reducible refine And.intro ?_ ?_)); (fail_if_success (with_reducible refine Exists.intro ?_ ?_)); (first | (apply Ob.of; (first | with_reducible assumption | with_reducible exact ex20 _ _ | with_reducible exact ex21 _ _ | with_reducible exact ex30 _ _ _ | with_reducible exact ex31 _ _ _ | with_reducible exact ex32 _ _ _ | rfl | (exact ald rfl rfl (by assumption) rfl) | (exact ald_agg rfl rfl rfl (by assumption) rfl)); (conv => whnf)) | (apply bIf.yes; (first | assumption | rfl); (conv => whnf)) | (apply bIf.no; (first | assumption | rfl); (conv => whnf)) | ((with_reducible refine Ob.load (by with_unfolding_all assumption) ?_); (conv => whnf)) | (apply Grows.mk; (first | exact Grow.refl _ | assumption); (conv => whnf)))))
    refine (lists2_ax H x).mono ?_
    rintro _ X ⟨⟨b, rfl, hb⟩, e⟩
    subst X
    cases b with
    | false =>
      have hp : CaseP x := Decidable.byContradiction fun h => by simpa using hb.2 h
      (try (conv => whnf)); (repeat ((fail_if_success (with_reducible refine And.intro ?_ ?_)); (fail_if_success (with_reducible refine Exists.intro ?_ ?_)); (first | (apply Ob.of; (first | with_reducible assumption | with_reducible exact ex20 _ _ | with_reducible exact ex21 _ _ | with_reducible exact ex30 _ _ _ | with_reducible exact ex31 _ _ _ | with_reducible exact ex32 _ _ _ | rfl | (exact ald rfl rfl (by assumption) rfl) | (exact ald_agg rfl rfl rfl (by assumption) rfl)); (conv => whnf)) | (apply bIf.yes; (first | assumption | rfl); (conv => whnf)) | (apply bIf.no; (first | assumption | rfl); (conv => whnf)) | ((with_reducible refine Ob.load (by with_unfolding_all assumption) ?_); (conv => whnf)) | (apply Grows.mk; (first | exact Grow.refl _ | assumption); (conv => whnf)))))
      refine ⟨k + 1, ⟨rfl, rfl, rfl, congrArg (fun z => some (Value.int .i64 z)) (w_succ (by omega)), trivial⟩, ⟨hml, fun i s hi hs => ?_, rfl⟩, by show L.length - (k + 1) < L.length - k; omega⟩
      by_cases him : i = k
      · subst him; rw [hx] at hs; simp only [Option.some.injEq] at hs; subst hs; exact hp
      · exact ht i s (by omega) hs
    | true =>
      have hp := hb.1 rfl
      (try (conv => whnf)); (repeat ((fail_if_success (with_reducible refine And.intro ?_ ?_)); (fail_if_success (with_reducible refine Exists.intro ?_ ?_)); (first | (apply Ob.of; (first | with_reducible assumption | with_reducible exact ex20 _ _ | with_reducible exact ex21 _ _ | with_reducible exact ex30 _ _ _ | with_reducible exact ex31 _ _ _ | with_reducible exact ex32 _ _ _ | rfl | (exact ald rfl rfl (by assumption) rfl) | (exact ald_agg rfl rfl rfl (by assumption) rfl)); (conv => whnf)) | (apply bIf.yes; (first | assumption | rfl); (conv => whnf)) | (apply bIf.no; (first | assumption | rfl); (conv => whnf)) | ((with_reducible refine Ob.load (by with_unfolding_all assumption) ?_); (conv => whnf)) | (apply Grows.mk; (first | exact Grow.refl _ | assumption); (conv => whnf)))))
      exact ⟨⟨k, rfl, fun _ h => hp (h x (List.mem_of_getElem? hx)), fun _ => by omega⟩, rfl⟩
  · have d1 : decide ((k : Int) < (L.length : Int)) = false := decide_eq_false (by omega)
    (try (conv => whnf)); (repeat ((fail_if_success (with_reducible refine And.intro ?_ ?_)); (fail_if_success (with_reducible refine Exists.intro ?_ ?_)); (first | (apply Ob.of; (first | with_reducible assumption | with_reducible exact ex20 _ _ | with_reducible exact ex21 _ _ | with_reducible exact ex30 _ _ _ | with_reducible exact ex31 _ _ _ | with_reducible exact ex32 _ _ _ | rfl | (exact ald rfl rfl (by assumption) rfl) | (exact ald_agg rfl rfl rfl (by assumption) rfl)); (conv => whnf)) | (apply bIf.yes; (first | assumption | rfl); (conv => whnf)) | (apply bIf.no; (first | assumption | rfl); (conv => whnf)) | ((with_reducible refine Ob.load (by with_unfolding_all assumption) ?_); (conv => whnf)) | (apply Grows.mk; (first | exact Grow.refl _ | assumption); (conv => whnf)))))
    refine ⟨⟨-1, rfl, fun h => by omega, fun h => absurd (fun x hx => ?_) h⟩, rfl⟩
    obtain ⟨i, hi, rfl⟩ := List.getElem_of_mem hx
    exact ht i L[i] (by omega) (List.getElem?_eq_getElem hi)
theorem containsc_ax {H : Heap} {u : Value} {L : List CaseT} (hu : RL 3 caseR H u L) (hL : L.length < 4294967296) :
    AX Try.prog 66 #[u, fnV 67] H (fun v H' => (∃ b, v = .bool b ∧ (b = true ↔ ¬ CasesP L)) ∧ H' = H) := by
  refine AX.body (n := 9) (rs := [.tmp 4]) Try.func66 rfl (by decide) rfl rfl (bC_sound _ _ _ _ ?_)
  (try (conv => whnf)); (repeat ((fail_if_success (with_reducible refine And.intro ?_ ?_)); (fail_if_success (with_reducible refine Exists.intro ?_ ?_)); (first | (apply Ob.of; (first | with_reducible assumption | with_reducible exact ex20 _ _ | with_reducible exact ex21 _ _ | with_reducible exact ex30 _ _ _ | with_reducible exact ex31 _ _ _ | with_reducible exact ex32 _ _ _ | rfl | (exact ald rfl rfl (by assumption) rfl) | (exact ald_agg rfl rfl rfl (by assumption) rfl)); (conv => whnf)) | (apply bIf.yes; (first | assumption | rfl); (conv => whnf)) | (apply bIf.no; (first | assumption | rfl); (conv => whnf)) | ((with_reducible refine Ob.load (by with_unfolding_all assumption) ?_); (conv => whnf)) | (apply Grows.mk; (first | exact Grow.refl _ | assumption); (conv => whnf)))))
  refine (indexc_ax hu hL).mono ?_
  rintro _ X ⟨⟨i, rfl, hi⟩, e⟩
  subst X
  (try (conv => whnf)); (repeat ((fail_if_success (with_reducible refine And.intro ?_ ?_)); (fail_if_success (with_reducible refine Exists.intro ?_ ?_)); (first | (apply Ob.of; (first | with_reducible assumption | with_reducible exact ex20 _ _ | with_reducible exact ex21 _ _ | with_reducible exact ex30 _ _ _ | with_reducible exact ex31 _ _ _ | with_reducible exact ex32 _ _ _ | rfl | (exact ald rfl rfl (by assumption) rfl) | (exact ald_agg rfl rfl rfl (by assumption) rfl)); (conv => whnf)) | (apply bIf.yes; (first | assumption | rfl); (conv => whnf)) | (apply bIf.no; (first | assumption | rfl); (conv => whnf)) | ((with_reducible refine Ob.load (by with_unfolding_all assumption) ?_); (conv => whnf)) | (apply Grows.mk; (first | exact Grow.refl _ | assumption); (conv => whnf)))))
  exact ⟨⟨_, rfl, by rw [decide_eq_true_eq]; exact hi⟩, rfl⟩
end Go.Proofs.Ytdlanbfbbopfhaa
/- Package ir: may an operation's lists be? -/
set_option linter.unusedVariables false
set_option linter.unusedSimpArgs false
set_option maxRecDepth 20000
set_option maxHeartbeats 8000000
namespace Go.Proofs.Ytdlanbfbbopfhaa
open Go Ax
abbrev chkL (p : ProgT) (ps cs : Value) (b : BodyX) (kv ov dv sv : Value) : List Value := [.int .i64 p.1, ps, cs, .int .i64 b.F, .int .i64 b.regs, kv, ov, dv, sv]
theorem lists1_ax {H : Heap} {p : ProgT} {ps cs kv ov dv sv : Value} {b : BodyX} {q : Nat} (hq : hblk H q = some (chkL p ps cs b kv ov dv sv)) (x : Int) :
    AX Try.prog 65 #[.int .i64 x, .pointer (some ⟨q, 0, none⟩)] H (fun v H' => (∃ t, v = .bool t ∧ (t = true ↔ ¬ (0 ≤ x ∧ x < b.regs))) ∧ H' = H) := by
  refine AX.body (n := 10) (rs := [.tmp 3]) Try.func65 rfl (by decide) rfl rfl (bC_sound _ _ _ _ ?_)
  (try (conv => whnf)); (repeat' ((fail_if_success (with_reducible refine And.intro ?_ ?_)); (fail_if_success (with_reducible refine Exists.intro ?_ ?_)); (first | ((with_reducible refine AX.id ?_); (first | (refine (irBelow_ax _ _ _).mono ?_; (rintro _ X ⟨rfl, eX⟩; subst X; (conv => whnf))))) | (first | (apply Ob.of; (first | with_reducible assumption | with_reducible exact ex20 _ _ | with_reducible exact ex21 _ _ | with_reducible exact ex30 _ _ _ | with_reducible exact ex31 _ _ _ | with_reducible exact ex32 _ _ _ | rfl | (exact ald rfl rfl (by assumption) rfl) | (exact ald_agg rfl rfl rfl (by assumption) rfl)); (conv => whnf)) | (apply bIf.yes; (first | assumption | rfl); (conv => whnf)) | (apply bIf.no; (first | assumption | rfl); (conv => whnf)) | ((with_reducible refine Ob.load (by with_unfolding_all assumption) ?_); (conv => whnf)) | (apply Grows.mk; (first | exact Grow.refl _ | assumption); (conv => whnf))) | (apply bIf.of <;> intro hc <;> (conv => whnf)))))
  refine ⟨⟨_, rfl, ?_⟩, rfl⟩
  rw [Bool.not_eq_true', decide_eq_false_iff_not]
theorem op1_ax {H : Heap} {p : ProgT} {ps cs kv ov dv sv : Value} {b : BodyX} {q : Nat} (hq : hblk H q = some (chkL p ps cs b kv ov dv sv)) (x : Int) :
    AX Try.prog 52 #[.int .i64 x, .pointer (some ⟨q, 0, none⟩)] H (fun v H' => (∃ t, v = .bool t ∧ (t = true ↔ ¬ (0 ≤ x ∧ x < b.regs))) ∧ H' = H) := by
  refine AX.body (n := 10) (rs := [.tmp 3]) Try.func52 rfl (by decide) rfl rfl (bC_sound _ _ _ _ ?_)
  (try (conv => whnf)); (repeat' ((fail_if_success (with_reducible refine And.intro ?_ ?_)); (fail_if_success (with_reducible refine Exists.intro ?_ ?_)); (first | ((with_reducible refine AX.id ?_); (first | (refine (irBelow_ax _ _ _).mono ?_; (rintro _ X ⟨rfl, eX⟩; subst X; (conv => whnf))))) | (first | (apply Ob.of; (first | with_reducible assumption | with_reducible exact ex20 _ _ | with_reducible exact ex21 _ _ | with_reducible exact ex30 _ _ _ | with_reducible exact ex31 _ _ _ | with_reducible exact ex32 _ _ _ | rfl | (exact ald rfl rfl (by assumption) rfl) | (exact ald_agg rfl rfl rfl (by assumption) rfl)); (conv => whnf)) | (apply bIf.yes; (first | assumption | rfl); (conv => whnf)) | (apply bIf.no; (first | assumption | rfl); (conv => whnf)) | ((with_reducible refine Ob.load (by with_unfolding_all assumption) ?_); (conv => whnf)) | (apply Grows.mk; (first | exact Grow.refl _ | assumption); (conv => whnf))) | (apply bIf.of <;> intro hc <;> (conv => whnf)))))
  refine ⟨⟨_, rfl, ?_⟩, rfl⟩
  rw [Bool.not_eq_true', decide_eq_false_iff_not]
theorem lists_ax {H : Heap} {p : ProgT} {ps cs kv ov dv sv rv cv mv : Value} {b : BodyX} {o : OpX} (hr : RL 1 intR H rv o.regs) (hc : RL 3 caseR H cv o.cases) (hL : o.regs.length < 4294967296) (hC : o.cases.length < 4294967296) :
    AX Try.prog 48 #[chkV p ps cs b kv ov dv sv, opV o rv cv mv] H (fun v H' => (∃ t, v = .bool t ∧ (t = true ↔ listsP b.regs o)) ∧ H' = H) := by
  refine AX.quiet ?_
  suffices hh : AX Try.prog 48 #[chkV p ps cs b kv ov dv sv, opV o rv cv mv] H (fun v H' => (∃ t, v = .bool t ∧ (t = true ↔ listsP b.regs o)) ∧ Grow H H') from hh.mono fun v _ ⟨⟨b, e, k⟩, g⟩ => ⟨e ▸ plain_bool _, ⟨b, e, k⟩, g⟩
  refine AX.body (n := 63) (rs := [.tmp 4]) Try.func48 rfl (by decide) rfl rfl (bC_sound _ _ _ _ ?_)
  (conv => whnf)
  refine Ob2.box rfl fun q1 H1 hq1 a1 g1 => ?_
  (conv => whnf)
  refine Ob2.box rfl fun q2 H2 hq2 a2 g2 => ?_
  have b1 := hblk_of (g2.at a1)
  have b2 := hblk_of a2
  have g := g1.trans g2
  have l1 : alen Try.prog 36 rv H2 = some (.int .i64 o.regs.length) := hr.len rfl _
  have l2 : alen Try.prog 42 cv H2 = some (.int .i64 o.cases.length) := hc.len rfl _
  have cont := containsi_ax (intR.grow hr g) hL 65 (.pointer (some ⟨q1, 0, none⟩)) b.regs (lists1_ax b1)
  have contc := containsc_ax (caseR.grow hc g) hC
  clear a1 a2 g1 g2 hr hc
  (try (conv => whnf)); (repeat' ((fail_if_success (with_reducible refine And.intro ?_ ?_)); (fail_if_success (with_reducible refine Exists.intro ?_ ?_)); (first | ((with_reducible refine AX.id ?_); (first | (refine (built_ax _ _).mono ?_; (rintro _ X ⟨rfl, eX⟩; subst X; (conv => whnf))) | (refine (cont).mono ?_; (rintro _ X ⟨⟨bb, rfl, hb⟩, eX⟩; subst X; cases bb <;> (conv => whnf))) | (refine (contc).mono ?_; (rintro _ X ⟨⟨bb, rfl, hb⟩, eX⟩; subst X; cases bb <;> (conv => whnf))))) | (first | (apply Ob.of; (first | with_reducible assumption | with_reducible exact ex20 _ _ | with_reducible exact ex21 _ _ | with_reducible exact ex30 _ _ _ | with_reducible exact ex31 _ _ _ | with_reducible exact ex32 _ _ _ | rfl | (exact ald rfl rfl (by assumption) rfl) | (exact ald_agg rfl rfl rfl (by assumption) rfl)); (conv => whnf)) | (apply bIf.yes; (first | assumption | rfl); (conv => whnf)) | (apply bIf.no; (first | assumption | rfl); (conv => whnf)) | ((with_reducible refine Ob.load (by with_unfolding_all assumption) ?_); (conv => whnf)) | (apply Grows.mk; (first | exact Grow.refl _ | assumption); (conv => whnf))) | (apply bIf.of <;> intro hc <;> (conv => whnf)))))
  all_goals clear b1 b2 l1 l2 cont contc hq1 hq2
  all_goals refine ⟨⟨_, rfl, ?_⟩, g⟩
  all_goals clear g
  all_goals (simp only [ba_ne_t, ba_ne_f, ba_eq_t, ba_eq_f, bne_iff_ne, bne_eq_false_iff_eq, decide_eq_true_eq, decide_eq_false_iff_not, beq_iff_eq, beq_eq_false_iff_ne, ne_eq, Bool.not_eq_true, Bool.not_eq_false, Bool.not_eq_true', Bool.not_eq_false'] at *)
  all_goals simp only [listsP, leastP, mostP, Bool.false_eq_true, false_iff, true_iff, Decidable.not_not, Bool.not_false, Bool.not_true] at *
  all_goals grind
end Go.Proofs.Ytdlanbfbbopfhaa
/- Package ir: may an operation be? -/
set_option linter.unusedVariables false
set_option linter.unusedSimpArgs false
set_option maxRecDepth 20000
set_option maxHeartbeats 8000000
namespace Go.Proofs.Ytdlanbfbbopfhaa
open Go Ax
def jumps (k : Int) : Bool := decide (17 ≤ k ∧ k ≤ 19)
theorem irGoes_ax (H : Heap) (k : Int) : AX Try.prog 53 #[.int .i64 k] H (fun v H' => v = .bool (jumps k) ∧ H' = H) := by
  refine AX.body (n := 13) (rs := [.tmp 2]) Try.func53 rfl (by decide) rfl rfl (bC_sound _ _ _ _ ?_)
  (try (conv => whnf)); (repeat' ((fail_if_success (with_reducible refine And.intro ?_ ?_)); (fail_if_success (with_reducible refine Exists.intro ?_ ?_)); (first | (first | (apply Ob.of; (first | with_reducible assumption | with_reducible exact ex20 _ _ | with_reducible exact ex21 _ _ | with_reducible exact ex30 _ _ _ | with_reducible exact ex31 _ _ _ | with_reducible exact ex32 _ _ _ | rfl | (exact ald rfl rfl (by assumption) rfl) | (exact ald_agg rfl rfl rfl (by assumption) rfl)); (conv => whnf)) | (apply bIf.yes; (first | assumption | rfl); (conv => whnf)) | (apply bIf.no; (first | assumption | rfl); (conv => whnf)) | ((with_reducible refine Ob.load (by with_unfolding_all assumption) ?_); (conv => whnf)) | (apply Grows.mk; (first | exact Grow.refl _ | assumption); (conv => whnf))) | (apply bIf.of <;> intro hc <;> (conv => whnf)))))
  all_goals refine ⟨congrArg Value.bool ?_, rfl⟩
  all_goals (simp only [ba_ne_t, ba_ne_f, ba_eq_t, ba_eq_f, bne_iff_ne, bne_eq_false_iff_eq, decide_eq_true_eq, decide_eq_false_iff_not, beq_iff_eq, beq_eq_false_iff_ne, ne_eq, Bool.not_eq_true, Bool.not_eq_false, Bool.not_eq_true', Bool.not_eq_false'] at *)
  all_goals rw [Bool.eq_iff_iff]
  all_goals simp only [jumps, decide_eq_true_eq, beq_iff_eq, true_iff]
  all_goals omega
def partN (o : OpX) (i : Nat) : Int := [o.a, o.b, o.c, o.d].getD i 0
def PartsP (m : Lims) (o : OpX) (n : Nat) : Prop := ∀ i, i < n → partP m (fl o.kind i) (partN o i)
def PcP (m : Lims) (L : List Int) (o : OpX) : Prop := 0 ≤ o.pc ∧ o.pc < L.length ∧ L[o.pc.toNat]? = some (o.map.length : Int) ∧ RegsP m.rg o.map
def kindAt (ops : List OpX) (a : Int) : Int := (ops.getD a.toNat (0, 0, 0, 0, 0, [], [], 0, [])).1
def JumpP (ops : List OpX) (at_ : Int) (o : OpX) : Prop := jumps o.kind = true → at_ < o.a ∨ kindAt ops o.a = 1
def opP (m : Lims) (L : List Int) (ops : List OpX) (at_ : Int) (o : OpX) : Prop :=
  (1 ≤ o.kind ∧ o.kind ≤ 30) ∧ listsP m.rg o ∧ PartsP m o 4 ∧ PcP m L o ∧ JumpP ops at_ o
theorem PartsP.next {m : Lims} {o : OpX} {n : Nat} (h : PartsP m o n) (k : partP m (fl o.kind n) (partN o n)) : PartsP m o (n + 1) := fun i hi => by
  by_cases e : i = n
  · subst e; exact k
  · exact h i (by omega)
theorem PartsP.jump {m : Lims} {o : OpX} (h : PartsP m o 4) (k : jumps o.kind = true) : 0 ≤ o.a ∧ o.a < m.no := by
  have h0 := h 0 (by decide)
  have hk : o.kind = 17 ∨ o.kind = 18 ∨ o.kind = 19 := by simp only [jumps, decide_eq_true_eq] at k; omega
  have hf : fl o.kind 0 = 116 := by rcases hk with e | e | e <;> rw [e] <;> rfl
  rw [hf] at h0
  exact h0
theorem part2_ax {H : Heap} {p : ProgT} {ps cs kv ov dv sv : Value} {c : CodeT} {b : BodyX} {f : Nat} (hp : RL 1 strR H ps p.2.1) (hcs : RL 5 codeR H cs p.2.2) (hb : BodyIn H b kv ov dv) (hF : b.F = (f : Int)) (hf : p.2.2[f]? = some c) (t n : Int) :
    AX Try.prog 50 #[chkV p ps cs b kv ov dv sv, .int .i32 t, .int .i64 n] H (fun v H' => (∃ u, v = .bool u ∧ (u = true ↔ partP (limsOf p c b) t n)) ∧ H' = H) :=
  (part_ax hp hcs hb hF hf t n).mono fun v H' h => ⟨⟨_, h.1, decide_eq_true_iff⟩, h.2⟩
theorem op_ax {H : Heap} {p : ProgT} {ps cs kv ov dv sv : Value} {c : CodeT} {b : BodyX} {f at_ : Nat} {L : List Int} {o : OpX} (hp : RL 1 strR H ps p.2.1) (hcs : RL 5 codeR H cs p.2.2) (hb : BodyIn H b kv ov dv) (hs : RL 1 intR H sv L) (hF : b.F = (f : Int)) (hf : p.2.2[f]? = some c)
    (hat : b.ops[at_]? = some o) (hrl : o.regs.length < 4294967296) (hcl : o.cases.length < 4294967296) (hml : o.map.length < 4294967296) :
    AX Try.prog 34 #[chkV p ps cs b kv ov dv sv, .int .i64 (at_ : Int)] H (fun v H' => (∃ t, v = .bool t ∧ (t = true ↔ opP (limsOf p c b) L b.ops at_ o)) ∧ H' = H) := by
  refine AX.quiet ?_
  suffices hh : AX Try.prog 34 #[chkV p ps cs b kv ov dv sv, .int .i64 (at_ : Int)] H (fun v H' => (∃ t, v = .bool t ∧ (t = true ↔ opP (limsOf p c b) L b.ops at_ o)) ∧ Grow H H') from hh.mono fun v _ ⟨⟨b, e, k⟩, g⟩ => ⟨e ▸ plain_bool _, ⟨b, e, k⟩, g⟩
  refine AX.body (n := 88) (rs := [.tmp 4]) Try.func34 rfl (by decide) rfl rfl (bC_sound _ _ _ _ ?_)
  (conv => whnf)
  refine Ob2.box rfl fun q1 H1 hq1 a1 g1 => ?_
  have b1 := hblk_of a1
  obtain ⟨bo, rv, cv, mv, i1, hr, hcs', hm', i2⟩ := ldx_op hb.ops hat
  have i3 := (i2 H1 g1).1
  (try (conv => whnf)); (repeat ((fail_if_success (with_reducible refine And.intro ?_ ?_)); (fail_if_success (with_reducible refine Exists.intro ?_ ?_)); (first | (apply Ob.of; (first | with_reducible assumption | with_reducible exact ex20 _ _ | with_reducible exact ex21 _ _ | with_reducible exact ex30 _ _ _ | with_reducible exact ex31 _ _ _ | with_reducible exact ex32 _ _ _ | rfl | (exact ald rfl rfl (by assumption) rfl) | (exact ald_agg rfl rfl rfl (by assumption) rfl)); (conv => whnf)) | (apply bIf.yes; (first | assumption | rfl); (conv => whnf)) | (apply bIf.no; (first | assumption | rfl); (conv => whnf)) | ((with_reducible refine Ob.load (by with_unfolding_all assumption) ?_); (conv => whnf)) | (apply Grows.mk; (first | exact Grow.refl _ | assumption); (conv => whnf)))))
  refine Ob2.alloc rfl fun q2 H2 hq2 a2 g2 => ?_
  have b1 := g2.hblk b1
  (try (conv => whnf)); (repeat ((fail_if_success (with_reducible refine And.intro ?_ ?_)); (fail_if_success (with_reducible refine Exists.intro ?_ ?_)); (first | (apply Ob.of; (first | with_reducible assumption | with_reducible exact ex20 _ _ | with_reducible exact ex21 _ _ | with_reducible exact ex30 _ _ _ | with_reducible exact ex31 _ _ _ | with_reducible exact ex32 _ _ _ | rfl | (exact ald rfl rfl (by assumption) rfl) | (exact ald_agg rfl rfl rfl (by assumption) rfl)); (conv => whnf)) | (apply bIf.yes; (first | assumption | rfl); (conv => whnf)) | (apply bIf.no; (first | assumption | rfl); (conv => whnf)) | ((with_reducible refine Ob.load (by with_unfolding_all assumption) ?_); (conv => whnf)) | (apply Grows.mk; (first | exact Grow.refl _ | assumption); (conv => whnf)))))
  refine Ob.store rfl rfl rfl a2 rfl (by first | exact Nat.le_of_ble_eq_true rfl | simp) fun H3 s3 k3 l3 => ?_
  have g3 : Grow H1 H3 := g2.but_new k3 (by omega)
  have b1 := k3.hblk b1 (by have := lt_at a1; omega)
  have b2 := hblk_of s3
  have g : Grow H H3 := g1.trans g3
  clear i3 a2 g2 s3
  (try (conv => whnf)); (repeat ((fail_if_success (with_reducible refine And.intro ?_ ?_)); (fail_if_success (with_reducible refine Exists.intro ?_ ?_)); (first | (apply Ob.of; (first | with_reducible assumption | with_reducible exact ex20 _ _ | with_reducible exact ex21 _ _ | with_reducible exact ex30 _ _ _ | with_reducible exact ex31 _ _ _ | with_reducible exact ex32 _ _ _ | rfl | (exact ald rfl rfl (by assumption) rfl) | (exact ald_agg rfl rfl rfl (by assumption) rfl)); (conv => whnf)) | (apply bIf.yes; (first | assumption | rfl); (conv => whnf)) | (apply bIf.no; (first | assumption | rfl); (conv => whnf)) | ((with_reducible refine Ob.load (by with_unfolding_all assumption) ?_); (conv => whnf)) | (apply Grows.mk; (first | exact Grow.refl _ | assumption); (conv => whnf)))))
  refine (fields_ax H3 o.kind).mono ?_
  rintro _ X ⟨rfl, e⟩
  subst X
  by_cases hk : 1 ≤ o.kind ∧ o.kind ≤ 30
  rotate_left
  · have e0 : (fldB o.kind == ⟨#[]⟩) = true := by rw [fldB_no hk]; rfl
    (try (conv => whnf)); (repeat ((fail_if_success (with_reducible refine And.intro ?_ ?_)); (fail_if_success (with_reducible refine Exists.intro ?_ ?_)); (first | (apply Ob.of; (first | with_reducible assumption | with_reducible exact ex20 _ _ | with_reducible exact ex21 _ _ | with_reducible exact ex30 _ _ _ | with_reducible exact ex31 _ _ _ | with_reducible exact ex32 _ _ _ | rfl | (exact ald rfl rfl (by assumption) rfl) | (exact ald_agg rfl rfl rfl (by assumption) rfl)); (conv => whnf)) | (apply bIf.yes; (first | assumption | rfl); (conv => whnf)) | (apply bIf.no; (first | assumption | rfl); (conv => whnf)) | ((with_reducible refine Ob.load (by with_unfolding_all assumption) ?_); (conv => whnf)) | (apply Grows.mk; (first | exact Grow.refl _ | assumption); (conv => whnf)))))
    exact ⟨⟨false, rfl, by simp only [Bool.false_eq_true, false_iff]; exact fun h => hk h.1⟩, g⟩
  have e0 := fldB_ne hk
  (try (conv => whnf)); (repeat ((fail_if_success (with_reducible refine And.intro ?_ ?_)); (fail_if_success (with_reducible refine Exists.intro ?_ ?_)); (first | (apply Ob.of; (first | with_reducible assumption | with_reducible exact ex20 _ _ | with_reducible exact ex21 _ _ | with_reducible exact ex30 _ _ _ | with_reducible exact ex31 _ _ _ | with_reducible exact ex32 _ _ _ | rfl | (exact ald rfl rfl (by assumption) rfl) | (exact ald_agg rfl rfl rfl (by assumption) rfl)); (conv => whnf)) | (apply bIf.yes; (first | assumption | rfl); (conv => whnf)) | (apply bIf.no; (first | assumption | rfl); (conv => whnf)) | ((with_reducible refine Ob.load (by with_unfolding_all assumption) ?_); (conv => whnf)) | (apply Grows.mk; (first | exact Grow.refl _ | assumption); (conv => whnf)))))
  refine (lists_ax (b := b) (p := p) (ps := ps) (cs := cs) (kv := kv) (ov := ov) (dv := dv) (sv := sv) (mv := mv) (intR.grow hr g) (caseR.grow hcs' g) hrl hcl).mono ?_
  rintro _ X ⟨⟨t, rfl, ht⟩, e⟩
  subst X
  cases t with
  | false =>
    (try (conv => whnf)); (repeat ((fail_if_success (with_reducible refine And.intro ?_ ?_)); (fail_if_success (with_reducible refine Exists.intro ?_ ?_)); (first | (apply Ob.of; (first | with_reducible assumption | with_reducible exact ex20 _ _ | with_reducible exact ex21 _ _ | with_reducible exact ex30 _ _ _ | with_reducible exact ex31 _ _ _ | with_reducible exact ex32 _ _ _ | rfl | (exact ald rfl rfl (by assumption) rfl) | (exact ald_agg rfl rfl rfl (by assumption) rfl)); (conv => whnf)) | (apply bIf.yes; (first | assumption | rfl); (conv => whnf)) | (apply bIf.no; (first | assumption | rfl); (conv => whnf)) | ((with_reducible refine Ob.load (by with_unfolding_all assumption) ?_); (conv => whnf)) | (apply Grows.mk; (first | exact Grow.refl _ | assumption); (conv => whnf)))))
    exact ⟨⟨false, rfl, by simp only [Bool.false_eq_true, false_iff]; exact fun h => by simpa using ht.2 h.2.1⟩, g⟩
  | true =>
  have hl := ht.1 rfl
  (try (conv => whnf)); (repeat ((fail_if_success (with_reducible refine And.intro ?_ ?_)); (fail_if_success (with_reducible refine Exists.intro ?_ ?_)); (first | (apply Ob.of; (first | with_reducible assumption | with_reducible exact ex20 _ _ | with_reducible exact ex21 _ _ | with_reducible exact ex30 _ _ _ | with_reducible exact ex31 _ _ _ | with_reducible exact ex32 _ _ _ | rfl | (exact ald rfl rfl (by assumption) rfl) | (exact ald_agg rfl rfl rfl (by assumption) rfl)); (conv => whnf)) | (apply bIf.yes; (first | assumption | rfl); (conv => whnf)) | (apply bIf.no; (first | assumption | rfl); (conv => whnf)) | ((with_reducible refine Ob.load (by with_unfolding_all assumption) ?_); (conv => whnf)) | (apply Grows.mk; (first | exact Grow.refl _ | assumption); (conv => whnf)))))
  refine (parts_ax H3 o rv cv mv).mono ?_
  rintro _ H4 ⟨rfl, g4⟩
  have b1 := g4.hblk b1
  have b2 := g4.hblk b2
  have n1 := lt_hblk b1
  have n2 := lt_hblk b2
  (try (conv => whnf)); (repeat ((fail_if_success (with_reducible refine And.intro ?_ ?_)); (fail_if_success (with_reducible refine Exists.intro ?_ ?_)); (first | (apply Ob.of; (first | with_reducible assumption | with_reducible exact ex20 _ _ | with_reducible exact ex21 _ _ | with_reducible exact ex30 _ _ _ | with_reducible exact ex31 _ _ _ | with_reducible exact ex32 _ _ _ | rfl | (exact ald rfl rfl (by assumption) rfl) | (exact ald_agg rfl rfl rfl (by assumption) rfl)); (conv => whnf)) | (apply bIf.yes; (first | assumption | rfl); (conv => whnf)) | (apply bIf.no; (first | assumption | rfl); (conv => whnf)) | ((with_reducible refine Ob.load (by with_unfolding_all assumption) ?_); (conv => whnf)) | (apply Grows.mk; (first | exact Grow.refl _ | assumption); (conv => whnf)))))
  refine Ob2.alloc rfl fun q5 H5 hq5 a5 g5 => ?_
  have b1 := g5.hblk b1
  have b2 := g5.hblk b2
  (try (conv => whnf)); (repeat ((fail_if_success (with_reducible refine And.intro ?_ ?_)); (fail_if_success (with_reducible refine Exists.intro ?_ ?_)); (first | (apply Ob.of; (first | with_reducible assumption | with_reducible exact ex20 _ _ | with_reducible exact ex21 _ _ | with_reducible exact ex30 _ _ _ | with_reducible exact ex31 _ _ _ | with_reducible exact ex32 _ _ _ | rfl | (exact ald rfl rfl (by assumption) rfl) | (exact ald_agg rfl rfl rfl (by assumption) rfl)); (conv => whnf)) | (apply bIf.yes; (first | assumption | rfl); (conv => whnf)) | (apply bIf.no; (first | assumption | rfl); (conv => whnf)) | ((with_reducible refine Ob.load (by with_unfolding_all assumption) ?_); (conv => whnf)) | (apply Grows.mk; (first | exact Grow.refl _ | assumption); (conv => whnf)))))
  refine Ob.store rfl rfl rfl a5 rfl (by first | exact Nat.le_of_ble_eq_true rfl | simp) fun H6 s6 k6 l6 => ?_
  have g6 : Grow H4 H6 := g5.but_new k6 (by omega)
  have b1 := k6.hblk b1 (by omega)
  have b2 := k6.hblk b2 (by omega)
  have b3 := hblk_of s6
  have n3 := lt_hblk b3
  have g7 : Grow H H6 := (g.trans g4).trans g6
  clear a5 g5 s6 k6 l6
  (try (conv => whnf)); (repeat ((fail_if_success (with_reducible refine And.intro ?_ ?_)); (fail_if_success (with_reducible refine Exists.intro ?_ ?_)); (first | (apply Ob.of; (first | with_reducible assumption | with_reducible exact ex20 _ _ | with_reducible exact ex21 _ _ | with_reducible exact ex30 _ _ _ | with_reducible exact ex31 _ _ _ | with_reducible exact ex32 _ _ _ | rfl | (exact ald rfl rfl (by assumption) rfl) | (exact ald_agg rfl rfl rfl (by assumption) rfl)); (conv => whnf)) | (apply bIf.yes; (first | assumption | rfl); (conv => whnf)) | (apply bIf.no; (first | assumption | rfl); (conv => whnf)) | ((with_reducible refine Ob.load (by with_unfolding_all assumption) ?_); (conv => whnf)) | (apply Grows.mk; (first | exact Grow.refl _ | assumption); (conv => whnf)))))
  refine Ob2.range rfl fun q7 H7 hq7 a7 g8 => ?_
  have b1 := g8.hblk b1
  have b2 := g8.hblk b2
  have b3 := g8.hblk b3
  have hg7 : Grow H H7 := g7.trans g8
  have hlen : H.length ≤ q7 := by have := g7.1; omega
  have ne1 : q1 ≠ q7 := by have := g6.1; omega
  have ne2 : q2 ≠ q7 := by have := g6.1; omega
  have ne3 : q5 ≠ q7 := by omega
  (try (conv => whnf)); (repeat ((fail_if_success (with_reducible refine And.intro ?_ ?_)); (fail_if_success (with_reducible refine Exists.intro ?_ ?_)); (first | (apply Ob.of; (first | with_reducible assumption | with_reducible exact ex20 _ _ | with_reducible exact ex21 _ _ | with_reducible exact ex30 _ _ _ | with_reducible exact ex31 _ _ _ | with_reducible exact ex32 _ _ _ | rfl | (exact ald rfl rfl (by assumption) rfl) | (exact ald_agg rfl rfl rfl (by assumption) rfl)); (conv => whnf)) | (apply bIf.yes; (first | assumption | rfl); (conv => whnf)) | (apply bIf.no; (first | assumption | rfl); (conv => whnf)) | ((with_reducible refine Ob.load (by with_unfolding_all assumption) ?_); (conv => whnf)) | (apply Grows.mk; (first | exact Grow.refl _ | assumption); (conv => whnf)))))
  refine SW.loop (α := Nat) (fun m => [(1, .int .i64 (at_ : Int)), (2, .pointer (some ⟨q1, 0, none⟩)), (5, .pointer (some ⟨q2, 0, none⟩)), (7, .pointer (some ⟨q5, 0, none⟩)), (30, .pointer (some ⟨q7, 0, none⟩))])
    (fun m X => m ≤ 4 ∧ PartsP (limsOf p c b) o m ∧ X[q7]? = some (.iter (fldB o.kind) m) ∧ hblk X q1 = some (chkL p ps cs b kv ov dv sv) ∧ hblk X q2 = hblk H7 q2 ∧ hblk X q5 = hblk H7 q5 ∧ Grow H X) (fun m => 4 - m)
    ⟨0, ⟨rfl, rfl, rfl, rfl, rfl, trivial⟩, by omega, fun i hi => by omega, a7, b1, rfl, rfl, hg7⟩ ?_
  rintro m X ⟨hm4, hP, hit, c1, c2, c3, gx⟩
  rw [b2] at c2
  rw [b3] at c3
  have b2' := b2
  have b3' := b3
  clear b1 b2 b3 a7 g8 hg7 g7
  refine bC_sound _ _ _ _ ?_
  by_cases hm : m < 4
  · have hdec := fldB_dec hk hm
    have hsz := fldB_size hk
    (try (conv => whnf)); (repeat ((fail_if_success (with_reducible refine And.intro ?_ ?_)); (fail_if_success (with_reducible refine Exists.intro ?_ ?_)); (first | (apply Ob.of; (first | with_reducible assumption | with_reducible exact ex20 _ _ | with_reducible exact ex21 _ _ | with_reducible exact ex30 _ _ _ | with_reducible exact ex31 _ _ _ | with_reducible exact ex32 _ _ _ | rfl | (exact ald rfl rfl (by assumption) rfl) | (exact ald_agg rfl rfl rfl (by assumption) rfl)); (conv => whnf)) | (apply bIf.yes; (first | assumption | rfl); (conv => whnf)) | (apply bIf.no; (first | assumption | rfl); (conv => whnf)) | ((with_reducible refine Ob.load (by with_unfolding_all assumption) ?_); (conv => whnf)) | (apply Grows.mk; (first | exact Grow.refl _ | assumption); (conv => whnf)))))
    refine Ob2.next hit (by omega) hdec fun X2 t1 t2 t3 => ?_
    have d1 := t2.hblk c1 ne1
    have d2 := t2.hblk c2 ne2
    have d3 := t2.hblk c3 ne3
    have gx2 : Grow H X2 := gx.but_new t2 (by omega)
    (try (conv => whnf)); (repeat ((fail_if_success (with_reducible refine And.intro ?_ ?_)); (fail_if_success (with_reducible refine Exists.intro ?_ ?_)); (first | (apply Ob.of; (first | with_reducible assumption | with_reducible exact ex20 _ _ | with_reducible exact ex21 _ _ | with_reducible exact ex30 _ _ _ | with_reducible exact ex31 _ _ _ | with_reducible exact ex32 _ _ _ | rfl | (exact ald rfl rfl (by assumption) rfl) | (exact ald_agg rfl rfl rfl (by assumption) rfl)); (conv => whnf)) | (apply bIf.yes; (first | assumption | rfl); (conv => whnf)) | (apply bIf.no; (first | assumption | rfl); (conv => whnf)) | ((with_reducible refine Ob.load (by with_unfolding_all assumption) ?_); (conv => whnf)) | (apply Grows.mk; (first | exact Grow.refl _ | assumption); (conv => whnf)))))
    have pa := part2_ax (sv := sv) (strR.grow hp gx2) (codeR.grow hcs gx2) (hb.grow gx2) hF hf
    have fin : partP (limsOf p c b) (fl o.kind m) (partN o m) → (m + 1 ≤ 4 ∧ PartsP (limsOf p c b) o (m + 1) ∧ X2[q7]? = some (.iter (fldB o.kind) (m + 1)) ∧ hblk X2 q1 = some (chkL p ps cs b kv ov dv sv) ∧ hblk X2 q2 = hblk H7 q2 ∧ hblk X2 q5 = hblk H7 q5 ∧ Grow H X2) ∧ 4 - (m + 1) < 4 - m :=
      fun h => ⟨⟨by omega, hP.next h, t1, d1, by rw [d2, b2'], by rw [d3, b3'], gx2⟩, by omega⟩
    have bad : ¬ partP (limsOf p c b) (fl o.kind m) (partN o m) → ((∃ t, Value.bool false = .bool t ∧ (t = true ↔ opP (limsOf p c b) L b.ops at_ o)) ∧ Grow H X2) :=
      fun h => ⟨⟨false, rfl, by simp only [Bool.false_eq_true, false_iff]; exact fun k => h (k.2.2.1 m hm)⟩, gx2⟩
    rcases (by omega : m = 0 ∨ m = 1 ∨ m = 2 ∨ m = 3) with rfl | rfl | rfl | rfl
    all_goals
      apply SW.drawG [(0, [], [36, 37, 38, 39], false), (1, [], [35, 37, 38, 39], false), (2, [], [35, 36], false), (3, [(37, 2)], [35, 36, 37], false), (4, [(37, 2), (38, 3)], [35, 36, 37, 38], false), (5, [(35, 0), (36, 1), (37, 2), (38, 3), (39, 4)], [35, 36, 37, 38, 39], true), (6, [(35, 0), (36, 1), (37, 2), (38, 3), (39, 4), (40, 5)], [35, 36, 37, 38, 39, 40], false)]
        [(35, 0), (36, 1), (37, 2), (38, 3), (39, 4), (40, 5), (41, 6)]
        [(1, _), (2, _), (5, _), (7, _), (8, _), (9, _), (30, _)] rfl (by kernel_rfl)
      case hF => exact ⟨rfl, rfl, rfl, rfl, rfl, rfl, rfl, trivial⟩
      (try (conv => whnf)); (repeat ((fail_if_success (with_reducible refine And.intro ?_ ?_)); (fail_if_success (with_reducible refine Exists.intro ?_ ?_)); (first | (apply Ob.of; (first | with_reducible assumption | with_reducible exact ex20 _ _ | with_reducible exact ex21 _ _ | with_reducible exact ex30 _ _ _ | with_reducible exact ex31 _ _ _ | with_reducible exact ex32 _ _ _ | rfl | (exact ald rfl rfl (by assumption) rfl) | (exact ald_agg rfl rfl rfl (by assumption) rfl)); (conv => whnf)) | (apply bIf.yes; (first | assumption | rfl); (conv => whnf)) | (apply bIf.no; (first | assumption | rfl); (conv => whnf)) | ((with_reducible refine Ob.load (by with_unfolding_all assumption) ?_); (conv => whnf)) | (apply Grows.mk; (first | exact Grow.refl _ | assumption); (conv => whnf)))))
      refine (pa _ _).mono ?_
      rintro _ X' ⟨⟨t, rfl, ht⟩, e⟩
      subst X'
      cases t with
      | true =>
        (try (conv => whnf)); (repeat ((fail_if_success (with_reducible refine And.intro ?_ ?_)); (fail_if_success (with_reducible refine Exists.intro ?_ ?_)); (first | (apply Ob.of; (first | with_reducible assumption | with_reducible exact ex20 _ _ | with_reducible exact ex21 _ _ | with_reducible exact ex30 _ _ _ | with_reducible exact ex31 _ _ _ | with_reducible exact ex32 _ _ _ | rfl | (exact ald rfl rfl (by assumption) rfl) | (exact ald_agg rfl rfl rfl (by assumption) rfl)); (conv => whnf)) | (apply bIf.yes; (first | assumption | rfl); (conv => whnf)) | (apply bIf.no; (first | assumption | rfl); (conv => whnf)) | ((with_reducible refine Ob.load (by with_unfolding_all assumption) ?_); (conv => whnf)) | (apply Grows.mk; (first | exact Grow.refl _ | assumption); (conv => whnf)))))
        exact ⟨_, ⟨rfl, rfl, rfl, rfl, rfl, trivial⟩, fin (ht.1 rfl)⟩
      | false =>
        (try (conv => whnf)); (repeat ((fail_if_success (with_reducible refine And.intro ?_ ?_)); (fail_if_success (with_reducible refine Exists.intro ?_ ?_)); (first | (apply Ob.of; (first | with_reducible assumption | with_reducible exact ex20 _ _ | with_reducible exact ex21 _ _ | with_reducible exact ex30 _ _ _ | with_reducible exact ex31 _ _ _ | with_reducible exact ex32 _ _ _ | rfl | (exact ald rfl rfl (by assumption) rfl) | (exact ald_agg rfl rfl rfl (by assumption) rfl)); (conv => whnf)) | (apply bIf.yes; (first | assumption | rfl); (conv => whnf)) | (apply bIf.no; (first | assumption | rfl); (conv => whnf)) | ((with_reducible refine Ob.load (by with_unfolding_all assumption) ?_); (conv => whnf)) | (apply Grows.mk; (first | exact Grow.refl _ | assumption); (conv => whnf)))))
        exact bad fun h => by simpa using ht.2 h
  · have hm4 : m = 4 := by omega
    subst hm4
    have hsz := fldB_size hk
    (try (conv => whnf)); (repeat ((fail_if_success (with_reducible refine And.intro ?_ ?_)); (fail_if_success (with_reducible refine Exists.intro ?_ ?_)); (first | (apply Ob.of; (first | with_reducible assumption | with_reducible exact ex20 _ _ | with_reducible exact ex21 _ _ | with_reducible exact ex30 _ _ _ | with_reducible exact ex31 _ _ _ | with_reducible exact ex32 _ _ _ | rfl | (exact ald rfl rfl (by assumption) rfl) | (exact ald_agg rfl rfl rfl (by assumption) rfl)); (conv => whnf)) | (apply bIf.yes; (first | assumption | rfl); (conv => whnf)) | (apply bIf.no; (first | assumption | rfl); (conv => whnf)) | ((with_reducible refine Ob.load (by with_unfolding_all assumption) ?_); (conv => whnf)) | (apply Grows.mk; (first | exact Grow.refl _ | assumption); (conv => whnf)))))
    refine Ob2.nextEnd hit (by omega) ?_
    (try (conv => whnf)); (repeat ((fail_if_success (with_reducible refine And.intro ?_ ?_)); (fail_if_success (with_reducible refine Exists.intro ?_ ?_)); (first | (apply Ob.of; (first | with_reducible assumption | with_reducible exact ex20 _ _ | with_reducible exact ex21 _ _ | with_reducible exact ex30 _ _ _ | with_reducible exact ex31 _ _ _ | with_reducible exact ex32 _ _ _ | rfl | (exact ald rfl rfl (by assumption) rfl) | (exact ald_agg rfl rfl rfl (by assumption) rfl)); (conv => whnf)) | (apply bIf.yes; (first | assumption | rfl); (conv => whnf)) | (apply bIf.no; (first | assumption | rfl); (conv => whnf)) | ((with_reducible refine Ob.load (by with_unfolding_all assumption) ?_); (conv => whnf)) | (apply Grows.mk; (first | exact Grow.refl _ | assumption); (conv => whnf)))))
    have cm := containsi_ax (intR.grow hm' gx) hml 52 (.pointer (some ⟨q1, 0, none⟩)) b.regs (op1_ax c1)
    have l1 : alen Try.prog 36 sv X = some (.int .i64 L.length) := hs.len rfl _
    have l2 : alen Try.prog 36 mv X = some (.int .i64 o.map.length) := hm'.len rfl _
    have hpc : (0 ≤ o.pc ∧ o.pc < L.length) → ∃ q d, aindexAddr Try.prog 36 sv (.int .i64 o.pc) = some q ∧ aload Try.prog 3 q X = some (.int .i64 d) ∧ L[o.pc.toNat]? = some d := fun h => by
      obtain ⟨j, hj⟩ : ∃ j : Nat, o.pc = (j : Int) := ⟨o.pc.toNat, by omega⟩
      obtain ⟨d, hd⟩ := get_lt (L := L) (m := j) (by omega)
      obtain ⟨q, k1, k2⟩ := ld_int hs hd
      exact ⟨q, d, by rw [hj]; exact k1, k2 X gx, by rw [hj, Int.toNat_natCast]; exact hd⟩
    have hja : jumps o.kind = true → ∃ q z, aindexAddr Try.prog 29 ov (.int .i64 o.a) = some (.pointer (some ⟨q, z, none⟩)) ∧ aload Try.prog 3 (.pointer (some ⟨q, z, none⟩)) X = some (.int .i64 (kindAt b.ops o.a)) := fun h => by
      have h1 := hP.jump h
      have h2 : (limsOf p c b).no = b.ops.length := rfl
      obtain ⟨j, hj⟩ : ∃ j : Nat, o.a = (j : Int) := ⟨o.a.toNat, by omega⟩
      obtain ⟨y, hy⟩ := get_lt (L := b.ops) (m := j) (by omega)
      obtain ⟨bq, _, _, _, k1, _, _, _, k2⟩ := ldx_op hb.ops hy
      refine ⟨_, _, by rw [hj]; exact k1, ?_⟩
      rw [(k2 X gx).2]
      unfold kindAt
      rw [hj, Int.toNat_natCast, List.getD_eq_getElem?_getD, hy]
      rfl
    have fin : ∀ t : Bool, (t = true ↔ PcP (limsOf p c b) L o ∧ JumpP b.ops at_ o) → ((∃ u, Value.bool t = .bool u ∧ (u = true ↔ opP (limsOf p c b) L b.ops at_ o)) ∧ Grow H X) := fun t h => ⟨⟨t, rfl, h.trans ⟨fun h => ⟨hk, hl, hP, h.1, h.2⟩, fun h => ⟨h.2.2.2.1, h.2.2.2.2⟩⟩⟩, gx⟩
    have hrg : (limsOf p c b).rg = b.regs := rfl
    unfold PcP JumpP at fin
    rw [hrg] at fin
    clear hcs hb hs hp hP hit hat a1 n1 n2 n3 hlen ne1 ne2 ne3
    by_cases h1 : 0 ≤ o.pc ∧ o.pc < L.length
    · obtain ⟨q, d, k1, k2, k3⟩ := hpc h1
      have e1 : (!decide (0 ≤ o.pc ∧ o.pc < (L.length : Int))) = false := by rw [decide_eq_true h1]; rfl
      rw [k3] at fin
      by_cases h2 : jumps o.kind = true
      · obtain ⟨q', z', k4, k5⟩ := hja h2
        have e2 : (!jumps o.kind) = false := by rw [h2]; rfl
        apply SW.drawG [(0, [], [44, 45, 46], false), (1, [(42, 0)], [42, 44, 45, 46], false), (2, [], [42, 43], false), (3, [(44, 2)], [42, 43, 44], false), (4, [(44, 2), (45, 3)], [42, 43, 44, 45], false), (5, [(42, 0), (43, 1), (44, 2), (45, 3), (46, 4)], [42, 43, 44, 45, 46], true), (6, [(42, 0), (43, 1), (44, 2), (45, 3), (46, 4), (47, 5)], [42, 43, 44, 45, 46, 47], false), (7, [(42, 0), (43, 1), (44, 2), (45, 3), (46, 4), (47, 5), (48, 6)], [42, 43, 44, 45, 46, 47, 48], false), (8, [(42, 0), (43, 1), (44, 2), (45, 3), (46, 4), (47, 5), (48, 6), (49, 7)], [42, 43, 44, 45, 46, 47, 48, 49, 52, 53, 56, 57, 58], false), (9, [(42, 0), (43, 1), (44, 2), (45, 3), (46, 4), (47, 5), (48, 6), (49, 7), (50, 8)], [42, 43, 44, 45, 46, 47, 48, 49, 50, 52, 53, 56, 57, 58], false), (10, [(42, 0), (43, 1), (44, 2), (45, 3), (46, 4), (47, 5), (48, 6), (49, 7)], [42, 43, 44, 45, 46, 47, 48, 49, 50, 51, 56, 57, 58], false), (11, [(42, 0), (43, 1), (44, 2), (45, 3), (46, 4), (47, 5), (48, 6), (49, 7), (52, 10)], [42, 43, 44, 45, 46, 47, 48, 49, 50, 51, 52, 56, 57, 58], false), (12, [(42, 0), (43, 1), (44, 2), (45, 3), (46, 4), (47, 5), (48, 6), (49, 7), (50, 8), (51, 9), (52, 10), (53, 11)], [42, 43, 44, 45, 46, 47, 48, 49, 50, 51, 52, 53, 56, 57, 58], false), (13, [(42, 0), (43, 1), (44, 2), (45, 3), (46, 4), (47, 5), (48, 6), (49, 7), (50, 8), (51, 9), (52, 10), (53, 11), (54, 12)], [42, 43, 44, 45, 46, 47, 48, 49, 50, 51, 52, 53, 54, 56, 57, 58], false), (14, [(42, 0), (43, 1), (44, 2), (45, 3), (46, 4), (47, 5), (48, 6), (49, 7)], [42, 43, 44, 45, 46, 47, 48, 49, 50, 51, 52, 53, 54, 55], false), (15, [(42, 0), (43, 1), (44, 2), (45, 3), (46, 4), (47, 5), (48, 6), (49, 7), (56, 14)], [42, 43, 44, 45, 46, 47, 48, 49, 50, 51, 52, 53, 54, 55, 56], false), (16, [(42, 0), (43, 1), (44, 2), (45, 3), (46, 4), (47, 5), (48, 6), (49, 7), (56, 14), (57, 15)], [42, 43, 44, 45, 46, 47, 48, 49, 50, 51, 52, 53, 54, 55, 56, 57], false), (17, [(42, 0), (43, 1), (44, 2), (45, 3), (46, 4), (47, 5), (48, 6), (49, 7), (50, 8), (51, 9), (52, 10), (53, 11), (54, 12), (55, 13), (56, 14), (57, 15), (58, 16)], [42, 43, 44, 45, 46, 47, 48, 49, 50, 51, 52, 53, 54, 55, 56, 57, 58], false), (18, [(42, 0), (43, 1), (44, 2), (45, 3), (46, 4), (47, 5), (48, 6), (49, 7), (50, 8), (51, 9), (52, 10), (53, 11), (54, 12), (55, 13), (56, 14), (57, 15), (58, 16), (59, 17)], [42, 43, 44, 45, 46, 47, 48, 49, 50, 51, 52, 53, 54, 55, 56, 57, 58, 59], false), (19, [(42, 0), (43, 1), (44, 2), (45, 3), (46, 4), (47, 5), (48, 6), (49, 7), (50, 8), (51, 9), (52, 10), (53, 11), (54, 12), (55, 13), (56, 14), (57, 15), (58, 16), (59, 17), (60, 18)], [42, 43, 44, 45, 46, 47, 48, 49, 50, 51, 52, 53, 54, 55, 56, 57, 58, 59, 60], false), (20, [(42, 0), (43, 1), (44, 2), (45, 3), (46, 4), (47, 5), (48, 6), (49, 7), (50, 8), (51, 9), (52, 10), (53, 11), (54, 12), (55, 13), (56, 14), (57, 15), (58, 16), (59, 17), (60, 18), (61, 19)], [42, 43, 44, 45, 46, 47, 48, 49, 50, 51, 52, 53, 54, 55, 56, 57, 58, 59, 60, 61, 64], false), (21, [(42, 0), (43, 1), (44, 2), (45, 3), (46, 4), (47, 5), (48, 6), (49, 7), (50, 8), (51, 9), (52, 10), (53, 11), (54, 12), (55, 13), (56, 14), (57, 15), (58, 16), (59, 17), (60, 18), (61, 19), (62, 20)], [42, 43, 44, 45, 46, 47, 48, 49, 50, 51, 52, 53, 54, 55, 56, 57, 58, 59, 60, 61, 62, 64], false), (22, [(42, 0), (43, 1), (44, 2), (45, 3), (46, 4), (47, 5), (48, 6), (49, 7), (50, 8), (51, 9), (52, 10), (53, 11), (54, 12), (55, 13), (56, 14), (57, 15), (58, 16), (59, 17), (60, 18), (61, 19)], [42, 43, 44, 45, 46, 47, 48, 49, 50, 51, 52, 53, 54, 55, 56, 57, 58, 59, 60, 61, 62, 63], false), (23, [(42, 0), (43, 1), (44, 2), (45, 3), (46, 4), (47, 5), (48, 6), (49, 7), (50, 8), (51, 9), (52, 10), (53, 11), (54, 12), (55, 13), (56, 14), (57, 15), (58, 16), (59, 17), (60, 18), (61, 19), (62, 20), (63, 21), (64, 22)], [42, 43, 44, 45, 46, 47, 48, 49, 50, 51, 52, 53, 54, 55, 56, 57, 58, 59, 60, 61, 62, 63, 64], true), (24, [(42, 0), (43, 1), (44, 2), (45, 3), (46, 4), (47, 5), (48, 6), (49, 7), (50, 8), (51, 9), (52, 10), (53, 11), (54, 12), (55, 13), (56, 14), (57, 15), (58, 16), (59, 17), (60, 18), (61, 19), (62, 20), (63, 21), (64, 22), (65, 23)], [42, 43, 44, 45, 46, 47, 48, 49, 50, 51, 52, 53, 54, 55, 56, 57, 58, 59, 60, 61, 62, 63, 64, 65], false)]
          [(42, 0), (43, 1), (44, 2), (45, 3), (46, 4), (47, 5), (48, 6), (49, 7), (50, 8), (51, 9), (52, 10), (53, 11), (54, 12), (55, 13), (56, 14), (57, 15), (58, 16), (59, 17), (60, 18), (61, 19), (62, 20), (63, 21), (64, 22), (65, 23), (66, 24)]
          [(1, _), (2, _), (5, _)] rfl (by kernel_rfl)
        case hF => exact ⟨rfl, rfl, rfl, trivial⟩
        (try (conv => whnf)); (repeat' ((fail_if_success (with_reducible refine And.intro ?_ ?_)); (fail_if_success (with_reducible refine Exists.intro ?_ ?_)); (first | ((with_reducible refine AX.id ?_); (first | (refine (irBelow_ax _ _ _).mono ?_; (rintro _ X ⟨rfl, eX⟩; subst X; (conv => whnf))) | (refine (cm).mono ?_; (rintro _ X ⟨⟨bb, rfl, hb⟩, eX⟩; subst X; cases bb <;> (conv => whnf))) | (refine (irGoes_ax _ _).mono ?_; (rintro _ X ⟨rfl, eX⟩; subst X; (conv => whnf))))) | (first | (apply Ob.of; (first | with_reducible assumption | with_reducible exact ex20 _ _ | with_reducible exact ex21 _ _ | with_reducible exact ex30 _ _ _ | with_reducible exact ex31 _ _ _ | with_reducible exact ex32 _ _ _ | rfl | (exact ald rfl rfl (by assumption) rfl) | (exact ald_agg rfl rfl rfl (by assumption) rfl)); (conv => whnf)) | (apply bIf.yes; (first | assumption | rfl); (conv => whnf)) | (apply bIf.no; (first | assumption | rfl); (conv => whnf)) | ((with_reducible refine Ob.load (by with_unfolding_all assumption) ?_); (conv => whnf)) | (apply Grows.mk; (first | exact Grow.refl _ | assumption); (conv => whnf))) | (apply bIf.of <;> intro hc <;> (conv => whnf)))))
        all_goals refine fin _ ?_
        all_goals clear fin cm gx c1 c2 c3 l1 l2 b2' b3' i1 i2 hr hcs' hm' ht hpc hja g1 b1
        all_goals (simp only [ba_ne_t, ba_ne_f, ba_eq_t, ba_eq_f, bne_iff_ne, bne_eq_false_iff_eq, decide_eq_true_eq, decide_eq_false_iff_not, beq_iff_eq, beq_eq_false_iff_ne, ne_eq, Bool.not_eq_true, Bool.not_eq_false, Bool.not_eq_true', Bool.not_eq_false'] at *)
        all_goals simp only [Bool.false_eq_true, false_iff, true_iff, Classical.not_not, Bool.not_false, Bool.not_true] at *
        all_goals grind
      · have e2 : (!jumps o.kind) = true := by simpa using h2
        apply SW.drawG [(0, [], [44, 45, 46], false), (1, [(42, 0)], [42, 44, 45, 46], false), (2, [], [42, 43], false), (3, [(44, 2)], [42, 43, 44], false), (4, [(44, 2), (45, 3)], [42, 43, 44, 45], false), (5, [(42, 0), (43, 1), (44, 2), (45, 3), (46, 4)], [42, 43, 44, 45, 46], true), (6, [(42, 0), (43, 1), (44, 2), (45, 3), (46, 4), (47, 5)], [42, 43, 44, 45, 46, 47], false), (7, [(42, 0), (43, 1), (44, 2), (45, 3), (46, 4), (47, 5), (48, 6)], [42, 43, 44, 45, 46, 47, 48], false), (8, [(42, 0), (43, 1), (44, 2), (45, 3), (46, 4), (47, 5), (48, 6), (49, 7)], [42, 43, 44, 45, 46, 47, 48, 49, 52, 53, 56, 57, 58], false), (9, [(42, 0), (43, 1), (44, 2), (45, 3), (46, 4), (47, 5), (48, 6), (49, 7), (50, 8)], [42, 43, 44, 45, 46, 47, 48, 49, 50, 52, 53, 56, 57, 58], false), (10, [(42, 0), (43, 1), (44, 2), (45, 3), (46, 4), (47, 5), (48, 6), (49, 7)], [42, 43, 44, 45, 46, 47, 48, 49, 50, 51, 56, 57, 58], false), (11, [(42, 0), (43, 1), (44, 2), (45, 3), (46, 4), (47, 5), (48, 6), (49, 7), (52, 10)], [42, 43, 44, 45, 46, 47, 48, 49, 50, 51, 52, 56, 57, 58], false), (12, [(42, 0), (43, 1), (44, 2), (45, 3), (46, 4), (47, 5), (48, 6), (49, 7), (50, 8), (51, 9), (52, 10), (53, 11)], [42, 43, 44, 45, 46, 47, 48, 49, 50, 51, 52, 53, 56, 57, 58], false), (13, [(42, 0), (43, 1), (44, 2), (45, 3), (46, 4), (47, 5), (48, 6), (49, 7), (50, 8), (51, 9), (52, 10), (53, 11), (54, 12)], [42, 43, 44, 45, 46, 47, 48, 49, 50, 51, 52, 53, 54, 56, 57, 58], false), (14, [(42, 0), (43, 1), (44, 2), (45, 3), (46, 4), (47, 5), (48, 6), (49, 7)], [42, 43, 44, 45, 46, 47, 48, 49, 50, 51, 52, 53, 54, 55], false), (15, [(42, 0), (43, 1), (44, 2), (45, 3), (46, 4), (47, 5), (48, 6), (49, 7), (56, 14)], [42, 43, 44, 45, 46, 47, 48, 49, 50, 51, 52, 53, 54, 55, 56], false), (16, [(42, 0), (43, 1), (44, 2), (45, 3), (46, 4), (47, 5), (48, 6), (49, 7), (56, 14), (57, 15)], [42, 43, 44, 45, 46, 47, 48, 49, 50, 51, 52, 53, 54, 55, 56, 57], false), (17, [(42, 0), (43, 1), (44, 2), (45, 3), (46, 4), (47, 5), (48, 6), (49, 7), (50, 8), (51, 9), (52, 10), (53, 11), (54, 12), (55, 13), (56, 14), (57, 15), (58, 16)], [42, 43, 44, 45, 46, 47, 48, 49, 50, 51, 52, 53, 54, 55, 56, 57, 58], false), (18, [(42, 0), (43, 1), (44, 2), (45, 3), (46, 4), (47, 5), (48, 6), (49, 7), (50, 8), (51, 9), (52, 10), (53, 11), (54, 12), (55, 13), (56, 14), (57, 15), (58, 16), (59, 17)], [42, 43, 44, 45, 46, 47, 48, 49, 50, 51, 52, 53, 54, 55, 56, 57, 58, 59], false), (19, [(42, 0), (43, 1), (44, 2), (45, 3), (46, 4), (47, 5), (48, 6), (49, 7), (50, 8), (51, 9), (52, 10), (53, 11), (54, 12), (55, 13), (56, 14), (57, 15), (58, 16), (59, 17), (60, 18)], [42, 43, 44, 45, 46, 47, 48, 49, 50, 51, 52, 53, 54, 55, 56, 57, 58, 59, 60], false), (20, [(42, 0), (43, 1), (44, 2), (45, 3), (46, 4), (47, 5), (48, 6), (49, 7), (50, 8), (51, 9), (52, 10), (53, 11), (54, 12), (55, 13), (56, 14), (57, 15), (58, 16), (59, 17), (60, 18), (61, 19)], [42, 43, 44, 45, 46, 47, 48, 49, 50, 51, 52, 53, 54, 55, 56, 57, 58, 59, 60, 61, 64], false), (21, [(42, 0), (43, 1), (44, 2), (45, 3), (46, 4), (47, 5), (48, 6), (49, 7), (50, 8), (51, 9), (52, 10), (53, 11), (54, 12), (55, 13), (56, 14), (57, 15), (58, 16), (59, 17), (60, 18), (61, 19), (62, 20)], [42, 43, 44, 45, 46, 47, 48, 49, 50, 51, 52, 53, 54, 55, 56, 57, 58, 59, 60, 61, 62, 64], false), (22, [(42, 0), (43, 1), (44, 2), (45, 3), (46, 4), (47, 5), (48, 6), (49, 7), (50, 8), (51, 9), (52, 10), (53, 11), (54, 12), (55, 13), (56, 14), (57, 15), (58, 16), (59, 17), (60, 18), (61, 19)], [42, 43, 44, 45, 46, 47, 48, 49, 50, 51, 52, 53, 54, 55, 56, 57, 58, 59, 60, 61, 62, 63], false), (23, [(42, 0), (43, 1), (44, 2), (45, 3), (46, 4), (47, 5), (48, 6), (49, 7), (50, 8), (51, 9), (52, 10), (53, 11), (54, 12), (55, 13), (56, 14), (57, 15), (58, 16), (59, 17), (60, 18), (61, 19), (62, 20), (63, 21), (64, 22)], [42, 43, 44, 45, 46, 47, 48, 49, 50, 51, 52, 53, 54, 55, 56, 57, 58, 59, 60, 61, 62, 63, 64], true), (24, [(42, 0), (43, 1), (44, 2), (45, 3), (46, 4), (47, 5), (48, 6), (49, 7), (50, 8), (51, 9), (52, 10), (53, 11), (54, 12), (55, 13), (56, 14), (57, 15), (58, 16), (59, 17), (60, 18), (61, 19), (62, 20), (63, 21), (64, 22), (65, 23)], [42, 43, 44, 45, 46, 47, 48, 49, 50, 51, 52, 53, 54, 55, 56, 57, 58, 59, 60, 61, 62, 63, 64, 65], false)]
          [(42, 0), (43, 1), (44, 2), (45, 3), (46, 4), (47, 5), (48, 6), (49, 7), (50, 8), (51, 9), (52, 10), (53, 11), (54, 12), (55, 13), (56, 14), (57, 15), (58, 16), (59, 17), (60, 18), (61, 19), (62, 20), (63, 21), (64, 22), (65, 23), (66, 24)]
          [(1, _), (2, _), (5, _)] rfl (by kernel_rfl)
        case hF => exact ⟨rfl, rfl, rfl, trivial⟩
        (try (conv => whnf)); (repeat' ((fail_if_success (with_reducible refine And.intro ?_ ?_)); (fail_if_success (with_reducible refine Exists.intro ?_ ?_)); (first | ((with_reducible refine AX.id ?_); (first | (refine (irBelow_ax _ _ _).mono ?_; (rintro _ X ⟨rfl, eX⟩; subst X; (conv => whnf))) | (refine (cm).mono ?_; (rintro _ X ⟨⟨bb, rfl, hb⟩, eX⟩; subst X; cases bb <;> (conv => whnf))) | (refine (irGoes_ax _ _).mono ?_; (rintro _ X ⟨rfl, eX⟩; subst X; (conv => whnf))))) | (first | (apply Ob.of; (first | with_reducible assumption | with_reducible exact ex20 _ _ | with_reducible exact ex21 _ _ | with_reducible exact ex30 _ _ _ | with_reducible exact ex31 _ _ _ | with_reducible exact ex32 _ _ _ | rfl | (exact ald rfl rfl (by assumption) rfl) | (exact ald_agg rfl rfl rfl (by assumption) rfl)); (conv => whnf)) | (apply bIf.yes; (first | assumption | rfl); (conv => whnf)) | (apply bIf.no; (first | assumption | rfl); (conv => whnf)) | ((with_reducible refine Ob.load (by with_unfolding_all assumption) ?_); (conv => whnf)) | (apply Grows.mk; (first | exact Grow.refl _ | assumption); (conv => whnf))) | (apply bIf.of <;> intro hc <;> (conv => whnf)))))
        all_goals refine fin _ ?_
        all_goals clear fin cm gx c1 c2 c3 l1 l2 b2' b3' i1 i2 hr hcs' hm' ht hpc hja g1 b1
        all_goals (simp only [ba_ne_t, ba_ne_f, ba_eq_t, ba_eq_f, bne_iff_ne, bne_eq_false_iff_eq, decide_eq_true_eq, decide_eq_false_iff_not, beq_iff_eq, beq_eq_false_iff_ne, ne_eq, Bool.not_eq_true, Bool.not_eq_false, Bool.not_eq_true', Bool.not_eq_false'] at *)
        all_goals simp only [Bool.false_eq_true, false_iff, true_iff, Classical.not_not, Bool.not_false, Bool.not_true] at *
        all_goals grind
    · have e1 : (!decide (0 ≤ o.pc ∧ o.pc < (L.length : Int))) = true := by rw [decide_eq_false h1]; rfl
      apply SW.drawG [(0, [], [44, 45, 46], false), (1, [(42, 0)], [42, 44, 45, 46], false), (2, [], [42, 43], false), (3, [(44, 2)], [42, 43, 44], false), (4, [(44, 2), (45, 3)], [42, 43, 44, 45], false), (5, [(42, 0), (43, 1), (44, 2), (45, 3), (46, 4)], [42, 43, 44, 45, 46], true), (6, [(42, 0), (43, 1), (44, 2), (45, 3), (46, 4), (47, 5)], [42, 43, 44, 45, 46, 47], false), (7, [(42, 0), (43, 1), (44, 2), (45, 3), (46, 4), (47, 5), (48, 6)], [42, 43, 44, 45, 46, 47, 48], false), (8, [(42, 0), (43, 1), (44, 2), (45, 3), (46, 4), (47, 5), (48, 6), (49, 7)], [42, 43, 44, 45, 46, 47, 48, 49, 52, 53, 56, 57, 58], false), (9, [(42, 0), (43, 1), (44, 2), (45, 3), (46, 4), (47, 5), (48, 6), (49, 7), (50, 8)], [42, 43, 44, 45, 46, 47, 48, 49, 50, 52, 53, 56, 57, 58], false), (10, [(42, 0), (43, 1), (44, 2), (45, 3), (46, 4), (47, 5), (48, 6), (49, 7)], [42, 43, 44, 45, 46, 47, 48, 49, 50, 51, 56, 57, 58], false), (11, [(42, 0), (43, 1), (44, 2), (45, 3), (46, 4), (47, 5), (48, 6), (49, 7), (52, 10)], [42, 43, 44, 45, 46, 47, 48, 49, 50, 51, 52, 56, 57, 58], false), (12, [(42, 0), (43, 1), (44, 2), (45, 3), (46, 4), (47, 5), (48, 6), (49, 7), (50, 8), (51, 9), (52, 10), (53, 11)], [42, 43, 44, 45, 46, 47, 48, 49, 50, 51, 52, 53, 56, 57, 58], false), (13, [(42, 0), (43, 1), (44, 2), (45, 3), (46, 4), (47, 5), (48, 6), (49, 7), (50, 8), (51, 9), (52, 10), (53, 11), (54, 12)], [42, 43, 44, 45, 46, 47, 48, 49, 50, 51, 52, 53, 54, 56, 57, 58], false), (14, [(42, 0), (43, 1), (44, 2), (45, 3), (46, 4), (47, 5), (48, 6), (49, 7)], [42, 43, 44, 45, 46, 47, 48, 49, 50, 51, 52, 53, 54, 55], false), (15, [(42, 0), (43, 1), (44, 2), (45, 3), (46, 4), (47, 5), (48, 6), (49, 7), (56, 14)], [42, 43, 44, 45, 46, 47, 48, 49, 50, 51, 52, 53, 54, 55, 56], false), (16, [(42, 0), (43, 1), (44, 2), (45, 3), (46, 4), (47, 5), (48, 6), (49, 7), (56, 14), (57, 15)], [42, 43, 44, 45, 46, 47, 48, 49, 50, 51, 52, 53, 54, 55, 56, 57], false), (17, [(42, 0), (43, 1), (44, 2), (45, 3), (46, 4), (47, 5), (48, 6), (49, 7), (50, 8), (51, 9), (52, 10), (53, 11), (54, 12), (55, 13), (56, 14), (57, 15), (58, 16)], [42, 43, 44, 45, 46, 47, 48, 49, 50, 51, 52, 53, 54, 55, 56, 57, 58], false), (18, [(42, 0), (43, 1), (44, 2), (45, 3), (46, 4), (47, 5), (48, 6), (49, 7), (50, 8), (51, 9), (52, 10), (53, 11), (54, 12), (55, 13), (56, 14), (57, 15), (58, 16), (59, 17)], [42, 43, 44, 45, 46, 47, 48, 49, 50, 51, 52, 53, 54, 55, 56, 57, 58, 59], false), (19, [(42, 0), (43, 1), (44, 2), (45, 3), (46, 4), (47, 5), (48, 6), (49, 7), (50, 8), (51, 9), (52, 10), (53, 11), (54, 12), (55, 13), (56, 14), (57, 15), (58, 16), (59, 17), (60, 18)], [42, 43, 44, 45, 46, 47, 48, 49, 50, 51, 52, 53, 54, 55, 56, 57, 58, 59, 60], false), (20, [(42, 0), (43, 1), (44, 2), (45, 3), (46, 4), (47, 5), (48, 6), (49, 7), (50, 8), (51, 9), (52, 10), (53, 11), (54, 12), (55, 13), (56, 14), (57, 15), (58, 16), (59, 17), (60, 18), (61, 19)], [42, 43, 44, 45, 46, 47, 48, 49, 50, 51, 52, 53, 54, 55, 56, 57, 58, 59, 60, 61, 64], false), (21, [(42, 0), (43, 1), (44, 2), (45, 3), (46, 4), (47, 5), (48, 6), (49, 7), (50, 8), (51, 9), (52, 10), (53, 11), (54, 12), (55, 13), (56, 14), (57, 15), (58, 16), (59, 17), (60, 18), (61, 19), (62, 20)], [42, 43, 44, 45, 46, 47, 48, 49, 50, 51, 52, 53, 54, 55, 56, 57, 58, 59, 60, 61, 62, 64], false), (22, [(42, 0), (43, 1), (44, 2), (45, 3), (46, 4), (47, 5), (48, 6), (49, 7), (50, 8), (51, 9), (52, 10), (53, 11), (54, 12), (55, 13), (56, 14), (57, 15), (58, 16), (59, 17), (60, 18), (61, 19)], [42, 43, 44, 45, 46, 47, 48, 49, 50, 51, 52, 53, 54, 55, 56, 57, 58, 59, 60, 61, 62, 63], false), (23, [(42, 0), (43, 1), (44, 2), (45, 3), (46, 4), (47, 5), (48, 6), (49, 7), (50, 8), (51, 9), (52, 10), (53, 11), (54, 12), (55, 13), (56, 14), (57, 15), (58, 16), (59, 17), (60, 18), (61, 19), (62, 20), (63, 21), (64, 22)], [42, 43, 44, 45, 46, 47, 48, 49, 50, 51, 52, 53, 54, 55, 56, 57, 58, 59, 60, 61, 62, 63, 64], true), (24, [(42, 0), (43, 1), (44, 2), (45, 3), (46, 4), (47, 5), (48, 6), (49, 7), (50, 8), (51, 9), (52, 10), (53, 11), (54, 12), (55, 13), (56, 14), (57, 15), (58, 16), (59, 17), (60, 18), (61, 19), (62, 20), (63, 21), (64, 22), (65, 23)], [42, 43, 44, 45, 46, 47, 48, 49, 50, 51, 52, 53, 54, 55, 56, 57, 58, 59, 60, 61, 62, 63, 64, 65], false)]
        [(42, 0), (43, 1), (44, 2), (45, 3), (46, 4), (47, 5), (48, 6), (49, 7), (50, 8), (51, 9), (52, 10), (53, 11), (54, 12), (55, 13), (56, 14), (57, 15), (58, 16), (59, 17), (60, 18), (61, 19), (62, 20), (63, 21), (64, 22), (65, 23), (66, 24)]
        [(1, _), (2, _), (5, _)] rfl (by kernel_rfl)
      case hF => exact ⟨rfl, rfl, rfl, trivial⟩
      (try (conv => whnf)); (repeat' ((fail_if_success (with_reducible refine And.intro ?_ ?_)); (fail_if_success (with_reducible refine Exists.intro ?_ ?_)); (first | ((with_reducible refine AX.id ?_); (first | (refine (irBelow_ax _ _ _).mono ?_; (rintro _ X ⟨rfl, eX⟩; subst X; (conv => whnf))) | (refine (cm).mono ?_; (rintro _ X ⟨⟨bb, rfl, hb⟩, eX⟩; subst X; cases bb <;> (conv => whnf))) | (refine (irGoes_ax _ _).mono ?_; (rintro _ X ⟨rfl, eX⟩; subst X; (conv => whnf))))) | (first | (apply Ob.of; (first | with_reducible assumption | with_reducible exact ex20 _ _ | with_reducible exact ex21 _ _ | with_reducible exact ex30 _ _ _ | with_reducible exact ex31 _ _ _ | with_reducible exact ex32 _ _ _ | rfl | (exact ald rfl rfl (by assumption) rfl) | (exact ald_agg rfl rfl rfl (by assumption) rfl)); (conv => whnf)) | (apply bIf.yes; (first | assumption | rfl); (conv => whnf)) | (apply bIf.no; (first | assumption | rfl); (conv => whnf)) | ((with_reducible refine Ob.load (by with_unfolding_all assumption) ?_); (conv => whnf)) | (apply Grows.mk; (first | exact Grow.refl _ | assumption); (conv => whnf))) | (apply bIf.of <;> intro hc <;> (conv => whnf)))))
      all_goals refine fin _ ?_
      all_goals clear fin cm gx c1 c2 c3 l1 l2 b2' b3' i1 i2 hr hcs' hm' ht hpc hja g1 b1
      all_goals (simp only [ba_ne_t, ba_ne_f, ba_eq_t, ba_eq_f, bne_iff_ne, bne_eq_false_iff_eq, decide_eq_true_eq, decide_eq_false_iff_not, beq_iff_eq, beq_eq_false_iff_ne, ne_eq, Bool.not_eq_true, Bool.not_eq_false, Bool.not_eq_true', Bool.not_eq_false'] at *)
      all_goals simp only [Bool.false_eq_true, false_iff, true_iff, Classical.not_not, Bool.not_false, Bool.not_true] at *
      all_goals grind
end Go.Proofs.Ytdlanbfbbopfhaa
/- Package ir: may a body be? -/
set_option linter.unusedVariables false
set_option linter.unusedSimpArgs false
set_option maxRecDepth 20000
set_option maxHeartbeats 8000000
namespace Go.Proofs.Ytdlanbfbbopfhaa
open Go Ax
def ValP (v : V) : Prop :=
  (v.1 ≠ 3 → v.2.2 = ⟨#[]⟩) ∧ (v.1 = 0 ∧ v.2.1 = 0 ∨ v.1 = 1 ∧ (v.2.1 = 0 ∨ v.2.1 = 1) ∨ v.1 = 2 ∧ -4611686018427387904 ≤ v.2.1 ∧ v.2.1 ≤ 4611686018427387903 ∨ v.1 = 3 ∧ v.2.1 = 0 ∧ v.2.2.size ≤ 256 ∨ v.1 = 4 ∧ 1 ≤ v.2.1 ∧ v.2.1 ≤ 9223372036854775807 ∨ v.1 = 5 ∧ 0 ≤ v.2.1 ∧ v.2.1 ≤ 9223372036854775807)
def ValsP (L : List V) : Prop := ∀ x ∈ L, ValP x
def DepP (d : Int × Int) : Prop := 1 ≤ d.1 ∧ 0 ≤ d.2
def DepsP (L : List (Int × Int)) : Prop := ∀ x ∈ L, DepP x
theorem valRight_ax (H : Heap) (v : V) (h0 : v.2.1 ≤ 9223372036854775807) : AX Try.prog 30 #[valV v] H (fun r H' => (∃ b, r = .bool b ∧ (b = true ↔ ValP v)) ∧ H' = H) := by
  refine AX.quiet ?_
  suffices hh : AX Try.prog 30 #[valV v] H (fun r H' => (∃ b, r = .bool b ∧ (b = true ↔ ValP v)) ∧ Grow H H') from hh.mono fun v _ ⟨⟨b, e, k⟩, g⟩ => ⟨e ▸ plain_bool _, ⟨b, e, k⟩, g⟩
  refine AX.body (n := 54) (rs := [.tmp 2]) Try.func30 rfl (by decide) rfl rfl (bC_sound _ _ _ _ ?_)
  (conv => whnf)
  refine Ob2.box rfl fun q1 H1 hq1 a1 g => ?_
  have b1 := hblk_of a1
  (try (conv => whnf)); (repeat' ((fail_if_success (with_reducible refine And.intro ?_ ?_)); (fail_if_success (with_reducible refine Exists.intro ?_ ?_)); (first | (first | (apply Ob.of; (first | with_reducible assumption | with_reducible exact ex20 _ _ | with_reducible exact ex21 _ _ | with_reducible exact ex30 _ _ _ | with_reducible exact ex31 _ _ _ | with_reducible exact ex32 _ _ _ | rfl | (exact ald rfl rfl (by assumption) rfl) | (exact ald_agg rfl rfl rfl (by assumption) rfl)); (conv => whnf)) | (apply bIf.yes; (first | assumption | rfl); (conv => whnf)) | (apply bIf.no; (first | assumption | rfl); (conv => whnf)) | ((with_reducible refine Ob.load (by with_unfolding_all assumption) ?_); (conv => whnf)) | (apply Grows.mk; (first | exact Grow.refl _ | assumption); (conv => whnf))) | (apply bIf.of <;> intro hc <;> (conv => whnf)))))
  all_goals refine ⟨⟨_, rfl, ?_⟩, g⟩
  all_goals clear b1 a1 g hq1
  all_goals unfold ValP
  all_goals ((try (simp only [ba_ne_t, ba_ne_f, ba_eq_t, ba_eq_f, bne_iff_ne, bne_eq_false_iff_eq, decide_eq_true_eq, decide_eq_false_iff_not, beq_iff_eq, beq_eq_false_iff_ne, ne_eq, Bool.not_eq_true, Bool.not_eq_false, Bool.not_eq_true', Bool.not_eq_false'] at *)); (try simp only [Bool.false_eq_true, false_iff, true_iff, Classical.not_not, Bool.not_false, Bool.not_true] at *))
  all_goals grind
theorem chkv1_ax (H : Heap) (v : V) (h0 : v.2.1 ≤ 9223372036854775807) : AX Try.prog 29 #[valV v] H (fun r H' => (∃ b, r = .bool b ∧ (b = true ↔ ¬ ValP v)) ∧ H' = H) := by
  refine AX.quiet ?_
  suffices hh : AX Try.prog 29 #[valV v] H (fun r H' => (∃ b, r = .bool b ∧ (b = true ↔ ¬ ValP v)) ∧ Grow H H') from hh.mono fun v _ ⟨⟨b, e, k⟩, g⟩ => ⟨e ▸ plain_bool _, ⟨b, e, k⟩, g⟩
  refine AX.body (n := 6) (rs := [.tmp 2]) Try.func29 rfl (by decide) rfl rfl (bC_sound _ _ _ _ ?_)
  (conv => whnf)
  refine Ob2.box rfl fun q1 H1 hq1 a1 g => ?_
  have b1 := hblk_of a1
  (try (conv => whnf)); (repeat' ((fail_if_success (with_reducible refine And.intro ?_ ?_)); (fail_if_success (with_reducible refine Exists.intro ?_ ?_)); (first | ((with_reducible refine AX.id ?_); (first | (refine (valRight_ax _ v h0).mono ?_; (rintro _ X ⟨⟨bb, rfl, hb⟩, eX⟩; subst X; cases bb <;> (conv => whnf))))) | (first | (apply Ob.of; (first | with_reducible assumption | with_reducible exact ex20 _ _ | with_reducible exact ex21 _ _ | with_reducible exact ex30 _ _ _ | with_reducible exact ex31 _ _ _ | with_reducible exact ex32 _ _ _ | rfl | (exact ald rfl rfl (by assumption) rfl) | (exact ald_agg rfl rfl rfl (by assumption) rfl)); (conv => whnf)) | (apply bIf.yes; (first | assumption | rfl); (conv => whnf)) | (apply bIf.no; (first | assumption | rfl); (conv => whnf)) | ((with_reducible refine Ob.load (by with_unfolding_all assumption) ?_); (conv => whnf)) | (apply Grows.mk; (first | exact Grow.refl _ | assumption); (conv => whnf))) | (apply bIf.of <;> intro hc <;> (conv => whnf)))))
  all_goals refine ⟨⟨_, rfl, ?_⟩, g⟩
  all_goals ((try (simp only [ba_ne_t, ba_ne_f, ba_eq_t, ba_eq_f, bne_iff_ne, bne_eq_false_iff_eq, decide_eq_true_eq, decide_eq_false_iff_not, beq_iff_eq, beq_eq_false_iff_ne, ne_eq, Bool.not_eq_true, Bool.not_eq_false, Bool.not_eq_true', Bool.not_eq_false'] at *)); (try simp only [Bool.false_eq_true, false_iff, true_iff, Classical.not_not, Bool.not_false, Bool.not_true] at *))
  all_goals simpa using hb
theorem chkd2_ax (H : Heap) (d : Int × Int) : AX Try.prog 32 #[.agg #[.int .i64 d.1, .int .i64 d.2]] H (fun r H' => (∃ b, r = .bool b ∧ (b = true ↔ ¬ DepP d)) ∧ H' = H) := by
  refine AX.quiet ?_
  suffices hh : AX Try.prog 32 #[.agg #[.int .i64 d.1, .int .i64 d.2]] H (fun r H' => (∃ b, r = .bool b ∧ (b = true ↔ ¬ DepP d)) ∧ Grow H H') from hh.mono fun v _ ⟨⟨b, e, k⟩, g⟩ => ⟨e ▸ plain_bool _, ⟨b, e, k⟩, g⟩
  refine AX.body (n := 11) (rs := [.tmp 2]) Try.func32 rfl (by decide) rfl rfl (bC_sound _ _ _ _ ?_)
  (conv => whnf)
  refine Ob2.box rfl fun q1 H1 hq1 a1 g => ?_
  have b1 := hblk_of a1
  (try (conv => whnf)); (repeat' ((fail_if_success (with_reducible refine And.intro ?_ ?_)); (fail_if_success (with_reducible refine Exists.intro ?_ ?_)); (first | (first | (apply Ob.of; (first | with_reducible assumption | with_reducible exact ex20 _ _ | with_reducible exact ex21 _ _ | with_reducible exact ex30 _ _ _ | with_reducible exact ex31 _ _ _ | with_reducible exact ex32 _ _ _ | rfl | (exact ald rfl rfl (by assumption) rfl) | (exact ald_agg rfl rfl rfl (by assumption) rfl)); (conv => whnf)) | (apply bIf.yes; (first | assumption | rfl); (conv => whnf)) | (apply bIf.no; (first | assumption | rfl); (conv => whnf)) | ((with_reducible refine Ob.load (by with_unfolding_all assumption) ?_); (conv => whnf)) | (apply Grows.mk; (first | exact Grow.refl _ | assumption); (conv => whnf))) | (apply bIf.of <;> intro hc <;> (conv => whnf)))))
  all_goals refine ⟨⟨_, rfl, ?_⟩, g⟩
  all_goals clear b1 a1 g hq1
  all_goals unfold DepP
  all_goals ((try (simp only [ba_ne_t, ba_ne_f, ba_eq_t, ba_eq_f, bne_iff_ne, bne_eq_false_iff_eq, decide_eq_true_eq, decide_eq_false_iff_not, beq_iff_eq, beq_eq_false_iff_ne, ne_eq, Bool.not_eq_true, Bool.not_eq_false, Bool.not_eq_true', Bool.not_eq_false'] at *)); (try simp only [Bool.false_eq_true, false_iff, true_iff, Classical.not_not, Bool.not_false, Bool.not_true] at *))
  all_goals omega
theorem indexv_ax {H : Heap} {u : Value} {L : List V} (hu : RL 3 valR H u L) (hL : L.length < 4294967296) (h0 : ∀ x ∈ L, x.2.1 ≤ 9223372036854775807) :
    AX Try.prog 44 #[u, fnV 29] H (fun v H' => (∃ i : Int, v = .int .i64 i ∧ (0 ≤ i ↔ ¬ ValsP L)) ∧ H' = H) := by
  refine AX.body (n := 19) (rs := [.tmp 4]) Try.func44 rfl (by decide) rfl rfl (bC_sound _ _ _ _ ?_)
  have l1 : alen Try.prog 28 u H = some (.int .i64 L.length) := hu.len rfl _
  (try (conv => whnf)); (repeat ((fail_if_success (with_reducible refine And.intro ?_ ?_)); (fail_if_success (with_reducible refine Exists.intro ?_ ?_)); (first | (apply Ob.of; (first | with_reducible assumption | with_reducible exact ex20 _ _ | with_reducible exact ex21 _ _ | with_reducible exact ex30 _ _ _ | with_reducible exact ex31 _ _ _ | with_reducible exact ex32 _ _ _ | rfl | (exact ald rfl rfl (by assumption) rfl) | (exact ald_agg rfl rfl rfl (by assumption) rfl)); (conv => whnf)) | (apply bIf.yes; (first | assumption | rfl); (conv => whnf)) | (apply bIf.no; (first | assumption | rfl); (conv => whnf)) | ((with_reducible refine Ob.load (by with_unfolding_all assumption) ?_); (conv => whnf)) | (apply Grows.mk; (first | exact Grow.refl _ | assumption); (conv => whnf)))))
  refine SW.loop (α := Nat) (fun k => [(0, u), (1, fnV 29), (7, .int .i64 L.length), (8, .int .i64 (k : Int))]) (fun k H' => k ≤ L.length ∧ (∀ (i : Nat) x, i < k → L[i]? = some x → ValP x) ∧ H' = H) (fun k => L.length - k) ⟨0, ⟨rfl, rfl, rfl, rfl, trivial⟩, by omega, fun i s h => by omega, rfl⟩ ?_
  rintro k X ⟨hm, ht, e⟩
  subst X
  refine bC_sound _ _ _ _ ?_
  by_cases hml : k < L.length
  · have d1 : decide ((k : Int) < (L.length : Int)) = true := decide_eq_true (by omega)
    obtain ⟨x, hx⟩ := get_lt hml
    obtain ⟨p, i1, i2⟩ := ldx_val hu hx
    have i3 := i2 H (.refl _)
    (try (conv => whnf)); (repeat ((fail_if_success (with_reducible refine And.intro ?_ ?_)); (fail_if_success (with_reducible refine Exists.intro ?_ ?_)); (first | (apply Ob.of; (first | with_reducible assumption | with_reducible exact ex20 _ _ | with_reducible exact ex21 _ _ | with_reducible exact ex30 _ _ _ | with_reducible exact ex31 _ _ _ | with_reducible exact ex32 _ _ _ | rfl | (exact ald rfl rfl (by assumption) rfl) | (exact ald_agg rfl rfl rfl (by assumption) rfl)); (conv => whnf)) | (apply bIf.yes; (first | assumption | rfl); (conv => whnf)) | (apply bIf.no; (first | assumption | rfl); (conv => whnf)) | ((with_reducible refine Ob.load (by with_unfolding_all assumption) ?_); (conv => whnf)) | (apply Grows.mk; (first | exact Grow.refl _ | assumption); (conv => whnf)))))
    refine (chkv1_ax H x (h0 x (List.mem_of_getElem? hx))).mono ?_
    rintro _ X ⟨⟨b, rfl, hb⟩, e⟩
    subst X
    cases b with
    | false =>
      have hp : ValP x := Classical.byContradiction fun h => by simpa using hb.2 h
      (try (conv => whnf)); (repeat ((fail_if_success (with_reducible refine And.intro ?_ ?_)); (fail_if_success (with_reducible refine Exists.intro ?_ ?_)); (first | (apply Ob.of; (first | with_reducible assumption | with_reducible exact ex20 _ _ | with_reducible exact ex21 _ _ | with_reducible exact ex30 _ _ _ | with_reducible exact ex31 _ _ _ | with_reducible exact ex32 _ _ _ | rfl | (exact ald rfl rfl (by assumption) rfl) | (exact ald_agg rfl rfl rfl (by assumption) rfl)); (conv => whnf)) | (apply bIf.yes; (first | assumption | rfl); (conv => whnf)) | (apply bIf.no; (first | assumption | rfl); (conv => whnf)) | ((with_reducible refine Ob.load (by with_unfolding_all assumption) ?_); (conv => whnf)) | (apply Grows.mk; (first | exact Grow.refl _ | assumption); (conv => whnf)))))
      refine ⟨k + 1, ⟨rfl, rfl, rfl, congrArg (fun z => some (Value.int .i64 z)) (w_succ (by omega)), trivial⟩, ⟨hml, fun i s hi hs => ?_, rfl⟩, by show L.length - (k + 1) < L.length - k; omega⟩
      by_cases him : i = k
      · subst him; rw [hx] at hs; simp only [Option.some.injEq] at hs; subst hs; exact hp
      · exact ht i s (by omega) hs
    | true =>
      have hp := hb.1 rfl
      (try (conv => whnf)); (repeat ((fail_if_success (with_reducible refine And.intro ?_ ?_)); (fail_if_success (with_reducible refine Exists.intro ?_ ?_)); (first | (apply Ob.of; (first | with_reducible assumption | with_reducible exact ex20 _ _ | with_reducible exact ex21 _ _ | with_reducible exact ex30 _ _ _ | with_reducible exact ex31 _ _ _ | with_reducible exact ex32 _ _ _ | rfl | (exact ald rfl rfl (by assumption) rfl) | (exact ald_agg rfl rfl rfl (by assumption) rfl)); (conv => whnf)) | (apply bIf.yes; (first | assumption | rfl); (conv => whnf)) | (apply bIf.no; (first | assumption | rfl); (conv => whnf)) | ((with_reducible refine Ob.load (by with_unfolding_all assumption) ?_); (conv => whnf)) | (apply Grows.mk; (first | exact Grow.refl _ | assumption); (conv => whnf)))))
      exact ⟨⟨k, rfl, fun _ h => hp (h x (List.mem_of_getElem? hx)), fun _ => by omega⟩, rfl⟩
  · have d1 : decide ((k : Int) < (L.length : Int)) = false := decide_eq_false (by omega)
    (try (conv => whnf)); (repeat ((fail_if_success (with_reducible refine And.intro ?_ ?_)); (fail_if_success (with_reducible refine Exists.intro ?_ ?_)); (first | (apply Ob.of; (first | with_reducible assumption | with_reducible exact ex20 _ _ | with_reducible exact ex21 _ _ | with_reducible exact ex30 _ _ _ | with_reducible exact ex31 _ _ _ | with_reducible exact ex32 _ _ _ | rfl | (exact ald rfl rfl (by assumption) rfl) | (exact ald_agg rfl rfl rfl (by assumption) rfl)); (conv => whnf)) | (apply bIf.yes; (first | assumption | rfl); (conv => whnf)) | (apply bIf.no; (first | assumption | rfl); (conv => whnf)) | ((with_reducible refine Ob.load (by with_unfolding_all assumption) ?_); (conv => whnf)) | (apply Grows.mk; (first | exact Grow.refl _ | assumption); (conv => whnf)))))
    refine ⟨⟨-1, rfl, fun h => by omega, fun h => absurd (fun x hx => ?_) h⟩, rfl⟩
    obtain ⟨i, hi, rfl⟩ := List.getElem_of_mem hx
    exact ht i L[i] (by omega) (List.getElem?_eq_getElem hi)
theorem containsv_ax {H : Heap} {u : Value} {L : List V} (hu : RL 3 valR H u L) (hL : L.length < 4294967296) (h0 : ∀ x ∈ L, x.2.1 ≤ 9223372036854775807) :
    AX Try.prog 28 #[u, fnV 29] H (fun v H' => (∃ b, v = .bool b ∧ (b = true ↔ ¬ ValsP L)) ∧ H' = H) := by
  refine AX.body (n := 9) (rs := [.tmp 4]) Try.func28 rfl (by decide) rfl rfl (bC_sound _ _ _ _ ?_)
  (try (conv => whnf)); (repeat ((fail_if_success (with_reducible refine And.intro ?_ ?_)); (fail_if_success (with_reducible refine Exists.intro ?_ ?_)); (first | (apply Ob.of; (first | with_reducible assumption | with_reducible exact ex20 _ _ | with_reducible exact ex21 _ _ | with_reducible exact ex30 _ _ _ | with_reducible exact ex31 _ _ _ | with_reducible exact ex32 _ _ _ | rfl | (exact ald rfl rfl (by assumption) rfl) | (exact ald_agg rfl rfl rfl (by assumption) rfl)); (conv => whnf)) | (apply bIf.yes; (first | assumption | rfl); (conv => whnf)) | (apply bIf.no; (first | assumption | rfl); (conv => whnf)) | ((with_reducible refine Ob.load (by with_unfolding_all assumption) ?_); (conv => whnf)) | (apply Grows.mk; (first | exact Grow.refl _ | assumption); (conv => whnf)))))
  refine (indexv_ax hu hL h0).mono ?_
  rintro _ X ⟨⟨i, rfl, hi⟩, e⟩
  subst X
  (try (conv => whnf)); (repeat ((fail_if_success (with_reducible refine And.intro ?_ ?_)); (fail_if_success (with_reducible refine Exists.intro ?_ ?_)); (first | (apply Ob.of; (first | with_reducible assumption | with_reducible exact ex20 _ _ | with_reducible exact ex21 _ _ | with_reducible exact ex30 _ _ _ | with_reducible exact ex31 _ _ _ | with_reducible exact ex32 _ _ _ | rfl | (exact ald rfl rfl (by assumption) rfl) | (exact ald_agg rfl rfl rfl (by assumption) rfl)); (conv => whnf)) | (apply bIf.yes; (first | assumption | rfl); (conv => whnf)) | (apply bIf.no; (first | assumption | rfl); (conv => whnf)) | ((with_reducible refine Ob.load (by with_unfolding_all assumption) ?_); (conv => whnf)) | (apply Grows.mk; (first | exact Grow.refl _ | assumption); (conv => whnf)))))
  exact ⟨⟨_, rfl, by rw [decide_eq_true_eq]; exact hi⟩, rfl⟩
theorem indexd_ax {H : Heap} {u : Value} {L : List (Int × Int)} (hu : RL 2 depR H u L) (hL : L.length < 4294967296) :
    AX Try.prog 45 #[u, fnV 32] H (fun v H' => (∃ i : Int, v = .int .i64 i ∧ (0 ≤ i ↔ ¬ DepsP L)) ∧ H' = H) := by
  refine AX.body (n := 19) (rs := [.tmp 4]) Try.func45 rfl (by decide) rfl rfl (bC_sound _ _ _ _ ?_)
  have l1 : alen Try.prog 30 u H = some (.int .i64 L.length) := hu.len rfl _
  (try (conv => whnf)); (repeat ((fail_if_success (with_reducible refine And.intro ?_ ?_)); (fail_if_success (with_reducible refine Exists.intro ?_ ?_)); (first | (apply Ob.of; (first | with_reducible assumption | with_reducible exact ex20 _ _ | with_reducible exact ex21 _ _ | with_reducible exact ex30 _ _ _ | with_reducible exact ex31 _ _ _ | with_reducible exact ex32 _ _ _ | rfl | (exact ald rfl rfl (by assumption) rfl) | (exact ald_agg rfl rfl rfl (by assumption) rfl)); (conv => whnf)) | (apply bIf.yes; (first | assumption | rfl); (conv => whnf)) | (apply bIf.no; (first | assumption | rfl); (conv => whnf)) | ((with_reducible refine Ob.load (by with_unfolding_all assumption) ?_); (conv => whnf)) | (apply Grows.mk; (first | exact Grow.refl _ | assumption); (conv => whnf)))))
  refine SW.loop (α := Nat) (fun k => [(0, u), (1, fnV 32), (7, .int .i64 L.length), (8, .int .i64 (k : Int))]) (fun k H' => k ≤ L.length ∧ (∀ (i : Nat) x, i < k → L[i]? = some x → DepP x) ∧ H' = H) (fun k => L.length - k) ⟨0, ⟨rfl, rfl, rfl, rfl, trivial⟩, by omega, fun i s h => by omega, rfl⟩ ?_
  rintro k X ⟨hm, ht, e⟩
  subst X
  refine bC_sound _ _ _ _ ?_
  by_cases hml : k < L.length
  · have d1 : decide ((k : Int) < (L.length : Int)) = true := decide_eq_true (by omega)
    obtain ⟨x, hx⟩ := get_lt hml
    obtain ⟨p, i1, i2⟩ := ldx_dep hu hx
    have i3 := (i2 H (.refl _)).1
    (try (conv => whnf)); (repeat ((fail_if_success (with_reducible refine And.intro ?_ ?_)); (fail_if_success (with_reducible refine Exists.intro ?_ ?_)); (first | (apply Ob.of; (first | with_reducible assumption | with_reducible exact ex20 _ _ | with_reducible exact ex21 _ _ | with_reducible exact ex30 _ _ _ | with_reducible exact ex31 _ _ _ | with_reducible exact ex32 _ _ _ | rfl | (exact ald rfl rfl (by assumption) rfl) | (exact ald_agg rfl rfl rfl (by assumption) rfl)); (conv => whnf)) | (apply bIf.yes; (first | assumption | rfl); (conv => whnf)) | (apply bIf.no; (first | assumption | rfl); (conv => whnf)) | ((with_reducible refine Ob.load (by with_unfolding_all assumption) ?_); (conv => whnf)) | (apply Grows.mk; (first | exact Grow.refl _ | assumption); (conv => whnf)))))
    refine (chkd2_ax H x).mono ?_
    rintro _ X ⟨⟨b, rfl, hb⟩, e⟩
    subst X
    cases b with
    | false =>
      have hp : DepP x := Classical.byContradiction fun h => by simpa using hb.2 h
      (try (conv => whnf)); (repeat ((fail_if_success (with_reducible refine And.intro ?_ ?_)); (fail_if_success (with_reducible refine Exists.intro ?_ ?_)); (first | (apply Ob.of; (first | with_reducible assumption | with_reducible exact ex20 _ _ | with_reducible exact ex21 _ _ | with_reducible exact ex30 _ _ _ | with_reducible exact ex31 _ _ _ | with_reducible exact ex32 _ _ _ | rfl | (exact ald rfl rfl (by assumption) rfl) | (exact ald_agg rfl rfl rfl (by assumption) rfl)); (conv => whnf)) | (apply bIf.yes; (first | assumption | rfl); (conv => whnf)) | (apply bIf.no; (first | assumption | rfl); (conv => whnf)) | ((with_reducible refine Ob.load (by with_unfolding_all assumption) ?_); (conv => whnf)) | (apply Grows.mk; (first | exact Grow.refl _ | assumption); (conv => whnf)))))
      refine ⟨k + 1, ⟨rfl, rfl, rfl, congrArg (fun z => some (Value.int .i64 z)) (w_succ (by omega)), trivial⟩, ⟨hml, fun i s hi hs => ?_, rfl⟩, by show L.length - (k + 1) < L.length - k; omega⟩
      by_cases him : i = k
      · subst him; rw [hx] at hs; simp only [Option.some.injEq] at hs; subst hs; exact hp
      · exact ht i s (by omega) hs
    | true =>
      have hp := hb.1 rfl
      (try (conv => whnf)); (repeat ((fail_if_success (with_reducible refine And.intro ?_ ?_)); (fail_if_success (with_reducible refine Exists.intro ?_ ?_)); (first | (apply Ob.of; (first | with_reducible assumption | with_reducible exact ex20 _ _ | with_reducible exact ex21 _ _ | with_reducible exact ex30 _ _ _ | with_reducible exact ex31 _ _ _ | with_reducible exact ex32 _ _ _ | rfl | (exact ald rfl rfl (by assumption) rfl) | (exact ald_agg rfl rfl rfl (by assumption) rfl)); (conv => whnf)) | (apply bIf.yes; (first | assumption | rfl); (conv => whnf)) | (apply bIf.no; (first | assumption | rfl); (conv => whnf)) | ((with_reducible refine Ob.load (by with_unfolding_all assumption) ?_); (conv => whnf)) | (apply Grows.mk; (first | exact Grow.refl _ | assumption); (conv => whnf)))))
      exact ⟨⟨k, rfl, fun _ h => hp (h x (List.mem_of_getElem? hx)), fun _ => by omega⟩, rfl⟩
  · have d1 : decide ((k : Int) < (L.length : Int)) = false := decide_eq_false (by omega)
    (try (conv => whnf)); (repeat ((fail_if_success (with_reducible refine And.intro ?_ ?_)); (fail_if_success (with_reducible refine Exists.intro ?_ ?_)); (first | (apply Ob.of; (first | with_reducible assumption | with_reducible exact ex20 _ _ | with_reducible exact ex21 _ _ | with_reducible exact ex30 _ _ _ | with_reducible exact ex31 _ _ _ | with_reducible exact ex32 _ _ _ | rfl | (exact ald rfl rfl (by assumption) rfl) | (exact ald_agg rfl rfl rfl (by assumption) rfl)); (conv => whnf)) | (apply bIf.yes; (first | assumption | rfl); (conv => whnf)) | (apply bIf.no; (first | assumption | rfl); (conv => whnf)) | ((with_reducible refine Ob.load (by with_unfolding_all assumption) ?_); (conv => whnf)) | (apply Grows.mk; (first | exact Grow.refl _ | assumption); (conv => whnf)))))
    refine ⟨⟨-1, rfl, fun h => by omega, fun h => absurd (fun x hx => ?_) h⟩, rfl⟩
    obtain ⟨i, hi, rfl⟩ := List.getElem_of_mem hx
    exact ht i L[i] (by omega) (List.getElem?_eq_getElem hi)
theorem containsd_ax {H : Heap} {u : Value} {L : List (Int × Int)} (hu : RL 2 depR H u L) (hL : L.length < 4294967296) :
    AX Try.prog 31 #[u, fnV 32] H (fun v H' => (∃ b, v = .bool b ∧ (b = true ↔ ¬ DepsP L)) ∧ H' = H) := by
  refine AX.body (n := 9) (rs := [.tmp 4]) Try.func31 rfl (by decide) rfl rfl (bC_sound _ _ _ _ ?_)
  (try (conv => whnf)); (repeat ((fail_if_success (with_reducible refine And.intro ?_ ?_)); (fail_if_success (with_reducible refine Exists.intro ?_ ?_)); (first | (apply Ob.of; (first | with_reducible assumption | with_reducible exact ex20 _ _ | with_reducible exact ex21 _ _ | with_reducible exact ex30 _ _ _ | with_reducible exact ex31 _ _ _ | with_reducible exact ex32 _ _ _ | rfl | (exact ald rfl rfl (by assumption) rfl) | (exact ald_agg rfl rfl rfl (by assumption) rfl)); (conv => whnf)) | (apply bIf.yes; (first | assumption | rfl); (conv => whnf)) | (apply bIf.no; (first | assumption | rfl); (conv => whnf)) | ((with_reducible refine Ob.load (by with_unfolding_all assumption) ?_); (conv => whnf)) | (apply Grows.mk; (first | exact Grow.refl _ | assumption); (conv => whnf)))))
  refine (indexd_ax hu hL).mono ?_
  rintro _ X ⟨⟨i, rfl, hi⟩, e⟩
  subst X
  (try (conv => whnf)); (repeat ((fail_if_success (with_reducible refine And.intro ?_ ?_)); (fail_if_success (with_reducible refine Exists.intro ?_ ?_)); (first | (apply Ob.of; (first | with_reducible assumption | with_reducible exact ex20 _ _ | with_reducible exact ex21 _ _ | with_reducible exact ex30 _ _ _ | with_reducible exact ex31 _ _ _ | with_reducible exact ex32 _ _ _ | rfl | (exact ald rfl rfl (by assumption) rfl) | (exact ald_agg rfl rfl rfl (by assumption) rfl)); (conv => whnf)) | (apply bIf.yes; (first | assumption | rfl); (conv => whnf)) | (apply bIf.no; (first | assumption | rfl); (conv => whnf)) | ((with_reducible refine Ob.load (by with_unfolding_all assumption) ?_); (conv => whnf)) | (apply Grows.mk; (first | exact Grow.refl _ | assumption); (conv => whnf)))))
  exact ⟨⟨_, rfl, by rw [decide_eq_true_eq]; exact hi⟩, rfl⟩
end Go.Proofs.Ytdlanbfbbopfhaa
/- Package ir: Check, whole. -/
set_option linter.unusedVariables false
set_option linter.unusedSimpArgs false
set_option maxRecDepth 20000
set_option maxHeartbeats 8000000
namespace Go.Proofs.Ytdlanbfbbopfhaa
open Go Ax
/-- A body's bounds. -/
def BLim (p : ProgT) (c : CodeT) (b : BodyX) : Prop := c.2.1 ≤ b.regs ∧ b.regs ≤ 88 ∧ b.consts.length ≤ 4000 ∧ 1 ≤ b.ops.length ∧ b.ops.length ≤ 16000 ∧ b.deps.length ≤ 200
def OpsP (p : ProgT) (c : CodeT) (b : BodyX) (L : List Int) (n : Nat) : Prop := ∀ i o, i < n → b.ops[i]? = some o → opP (limsOf p c b) L b.ops i o
def lastK (ops : List OpX) : Int := kindAt ops (ops.length - 1)
/-- May a body be? -/
def CheckB (p : ProgT) (b : BodyX) : Prop :=
  CheckP p ∧ 0 ≤ b.F ∧ ∃ c L, p.2.2[b.F.toNat]? = some c ∧ BLim p c b ∧ ValsP b.consts ∧ DepsP b.deps ∧ Closed c L ∧ OpsP p c b L b.ops.length ∧ (lastK b.ops = 17 ∨ lastK b.ops = 24)
def IrV (p : ProgT) (b : BodyX) (v : Value) : Prop := (v = .int .i64 0 ∧ CheckB p b) ∨ (v = .int .i64 16 ∧ ¬ CheckB p b)
theorem IrV.plain {p : ProgT} {b : BodyX} {v : Value} (h : IrV p b v) : plain v := by rcases h with ⟨rfl, _⟩ | ⟨rfl, _⟩ <;> exact plain_int _ _
/-- What a body's lists are at most. -/
structure SmallB (b : BodyX) : Prop where
  vals : ∀ x ∈ b.consts, x.2.1 ≤ 9223372036854775807
  con : b.consts.length < 4294967296
  ops : b.ops.length < 4294967296
  deps : b.deps.length < 4294967296
  op : ∀ o ∈ b.ops, o.regs.length < 4294967296 ∧ o.cases.length < 4294967296 ∧ o.map.length < 4294967296
theorem OpsP.next {p : ProgT} {c : CodeT} {b : BodyX} {L : List Int} {n : Nat} {o : OpX} (h : OpsP p c b L n) (hx : b.ops[n]? = some o) (k : opP (limsOf p c b) L b.ops n o) : OpsP p c b L (n + 1) := by
  intro i y hi hy
  by_cases e : i = n
  · subst e; rw [hx] at hy; simp only [Option.some.injEq] at hy; subst hy; exact k
  · exact h i y (by omega) hy
theorem irCheck_ax {H : Heap} {p : ProgT} {ps cs kv ov dv : Value} {b : BodyX} (hp : RL 1 strR H ps p.2.1) (hcs : RL 5 codeR H cs p.2.2) (hL : p.2.1.length < 4294967296) (hb : BodyIn H b kv ov dv) (hsm : SmallB b) :
    AX Try.prog 16 #[progV p ps cs, bodyV b kv ov dv] H (fun v H' => IrV p b v ∧ H' = H) := by
  refine AX.quiet ?_
  suffices hh : AX Try.prog 16 #[progV p ps cs, bodyV b kv ov dv] H (fun v H' => IrV p b v ∧ Grow H H') from hh.mono fun v _ ⟨e, g⟩ => ⟨e.plain, e, g⟩
  refine AX.body (n := 102) (rs := [.tmp 4]) Try.func16 rfl (by decide) rfl rfl (bC_sound _ _ _ _ ?_)
  (conv => whnf)
  refine Ob2.box rfl fun q1 H1 hq1 a1 g1 => ?_
  (conv => whnf)
  refine Ob2.box rfl fun q2 H2 hq2 a2 g2 => ?_
  have b1 := hblk_of (g2.at a1)
  have b2 := hblk_of a2
  have g := g1.trans g2
  have l2 : alen Try.prog 23 cs H2 = some (.int .i64 p.2.2.length) := hcs.len rfl _
  have l3 : alen Try.prog 28 kv H2 = some (.int .i64 b.consts.length) := hb.con.len rfl _
  have l4 : alen Try.prog 29 ov H2 = some (.int .i64 b.ops.length) := hb.ops.len rfl _
  have l5 : alen Try.prog 30 dv H2 = some (.int .i64 b.deps.length) := hb.deps.len rfl _
  clear a1 a2 g1
  (try (conv => whnf)); (repeat ((fail_if_success (with_reducible refine And.intro ?_ ?_)); (fail_if_success (with_reducible refine Exists.intro ?_ ?_)); (first | (apply Ob.of; (first | with_reducible assumption | with_reducible exact ex20 _ _ | with_reducible exact ex21 _ _ | with_reducible exact ex30 _ _ _ | with_reducible exact ex31 _ _ _ | with_reducible exact ex32 _ _ _ | rfl | (exact ald rfl rfl (by assumption) rfl) | (exact ald_agg rfl rfl rfl (by assumption) rfl)); (conv => whnf)) | (apply bIf.yes; (first | assumption | rfl); (conv => whnf)) | (apply bIf.no; (first | assumption | rfl); (conv => whnf)) | ((with_reducible refine Ob.load (by with_unfolding_all assumption) ?_); (conv => whnf)) | (apply Grows.mk; (first | exact Grow.refl _ | assumption); (conv => whnf)))))
  apply SW.drawG [(0, [], [], false), (1, [(8, 0)], [8], true), (2, [(8, 0), (9, 1)], [8, 9], false), (3, [(8, 0), (9, 1), (10, 2)], [8, 9, 10], false), (4, [(8, 0), (9, 1), (10, 2), (11, 3)], [8, 9, 10, 11, 14, 15, 16], false), (5, [(8, 0), (9, 1), (10, 2), (11, 3), (12, 4)], [8, 9, 10, 11, 12, 14, 15, 16], false), (6, [(8, 0), (9, 1), (10, 2), (11, 3)], [8, 9, 10, 11, 12, 13], false), (7, [(8, 0), (9, 1), (10, 2), (11, 3), (14, 6)], [8, 9, 10, 11, 12, 13, 14], false), (8, [(8, 0), (9, 1), (10, 2), (11, 3), (14, 6), (15, 7)], [8, 9, 10, 11, 12, 13, 14, 15], false), (9, [(8, 0), (9, 1), (10, 2), (11, 3), (12, 4), (13, 5), (14, 6), (15, 7), (16, 8)], [8, 9, 10, 11, 12, 13, 14, 15, 16], true), (10, [(8, 0), (9, 1), (10, 2), (11, 3), (12, 4), (13, 5), (14, 6), (15, 7), (16, 8), (17, 9)], [8, 9, 10, 11, 12, 13, 14, 15, 16, 17], false), (11, [(8, 0), (9, 1), (10, 2), (11, 3), (12, 4), (13, 5), (14, 6), (15, 7), (16, 8), (17, 9), (18, 10)], [8, 9, 10, 11, 12, 13, 14, 15, 16, 17, 18], false), (12, [(8, 0), (9, 1), (10, 2), (11, 3), (12, 4), (13, 5), (14, 6), (15, 7), (16, 8), (17, 9), (18, 10), (19, 11)], [8, 9, 10, 11, 12, 13, 14, 15, 16, 17, 18, 19], false), (13, [(8, 0), (9, 1), (10, 2), (11, 3), (12, 4), (13, 5), (14, 6), (15, 7), (16, 8), (17, 9), (18, 10), (19, 11), (20, 12)], [8, 9, 10, 11, 12, 13, 14, 15, 16, 17, 18, 19, 20, 23, 24, 25, 26, 27, 28, 29], false), (14, [(8, 0), (9, 1), (10, 2), (11, 3), (12, 4), (13, 5), (14, 6), (15, 7), (16, 8), (17, 9), (18, 10), (19, 11), (20, 12), (21, 13)], [8, 9, 10, 11, 12, 13, 14, 15, 16, 17, 18, 19, 20, 21, 23, 24, 25, 26, 27, 28, 29], false), (15, [(8, 0), (9, 1), (10, 2), (11, 3), (12, 4), (13, 5), (14, 6), (15, 7), (16, 8), (17, 9), (18, 10), (19, 11), (20, 12)], [8, 9, 10, 11, 12, 13, 14, 15, 16, 17, 18, 19, 20, 21, 22, 25, 26], false), (16, [(8, 0), (9, 1), (10, 2), (11, 3), (12, 4), (13, 5), (14, 6), (15, 7), (16, 8), (17, 9), (18, 10), (19, 11), (20, 12), (23, 15)], [8, 9, 10, 11, 12, 13, 14, 15, 16, 17, 18, 19, 20, 21, 22, 23, 25, 26], false), (17, [(8, 0), (9, 1), (10, 2), (11, 3), (12, 4), (13, 5), (14, 6), (15, 7), (16, 8), (17, 9), (18, 10), (19, 11), (20, 12)], [8, 9, 10, 11, 12, 13, 14, 15, 16, 17, 18, 19, 20, 21, 22, 23, 24], false), (18, [(8, 0), (9, 1), (10, 2), (11, 3), (12, 4), (13, 5), (14, 6), (15, 7), (16, 8), (17, 9), (18, 10), (19, 11), (20, 12), (25, 17)], [8, 9, 10, 11, 12, 13, 14, 15, 16, 17, 18, 19, 20, 21, 22, 23, 24, 25], false), (19, [(8, 0), (9, 1), (10, 2), (11, 3), (12, 4), (13, 5), (14, 6), (15, 7), (16, 8), (17, 9), (18, 10), (19, 11), (20, 12), (23, 15), (24, 16), (25, 17), (26, 18)], [8, 9, 10, 11, 12, 13, 14, 15, 16, 17, 18, 19, 20, 21, 22, 23, 24, 25, 26], false), (20, [(8, 0), (9, 1), (10, 2), (11, 3), (12, 4), (13, 5), (14, 6), (15, 7), (16, 8), (17, 9), (18, 10), (19, 11), (20, 12), (23, 15), (24, 16), (25, 17), (26, 18), (27, 19)], [8, 9, 10, 11, 12, 13, 14, 15, 16, 17, 18, 19, 20, 21, 22, 23, 24, 25, 26, 27], false), (21, [(8, 0), (9, 1), (10, 2), (11, 3), (12, 4), (13, 5), (14, 6), (15, 7), (16, 8), (17, 9), (18, 10), (19, 11), (20, 12), (23, 15), (24, 16), (25, 17), (26, 18), (27, 19), (28, 20)], [8, 9, 10, 11, 12, 13, 14, 15, 16, 17, 18, 19, 20, 21, 22, 23, 24, 25, 26, 27, 28], false), (22, [(8, 0), (9, 1), (10, 2), (11, 3), (12, 4), (13, 5), (14, 6), (15, 7), (16, 8), (17, 9), (18, 10), (19, 11), (20, 12), (21, 13), (22, 14), (23, 15), (24, 16), (25, 17), (26, 18), (27, 19), (28, 20), (29, 21)], [8, 9, 10, 11, 12, 13, 14, 15, 16, 17, 18, 19, 20, 21, 22, 23, 24, 25, 26, 27, 28, 29], false), (23, [(8, 0), (9, 1), (10, 2), (11, 3), (12, 4), (13, 5), (14, 6), (15, 7), (16, 8), (17, 9), (18, 10), (19, 11), (20, 12), (21, 13), (22, 14), (23, 15), (24, 16), (25, 17), (26, 18), (27, 19), (28, 20), (29, 21), (30, 22)], [8, 9, 10, 11, 12, 13, 14, 15, 16, 17, 18, 19, 20, 21, 22, 23, 24, 25, 26, 27, 28, 29, 30], false), (24, [(8, 0), (9, 1), (10, 2), (11, 3), (12, 4), (13, 5), (14, 6), (15, 7), (16, 8), (17, 9), (18, 10), (19, 11), (20, 12), (21, 13), (22, 14), (23, 15), (24, 16), (25, 17), (26, 18), (27, 19), (28, 20), (29, 21), (30, 22), (31, 23)], [8, 9, 10, 11, 12, 13, 14, 15, 16, 17, 18, 19, 20, 21, 22, 23, 24, 25, 26, 27, 28, 29, 30, 31], false), (25, [(8, 0), (9, 1), (10, 2), (11, 3), (12, 4), (13, 5), (14, 6), (15, 7), (16, 8), (17, 9), (18, 10), (19, 11), (20, 12), (21, 13), (22, 14), (23, 15), (24, 16), (25, 17), (26, 18), (27, 19), (28, 20), (29, 21), (30, 22), (31, 23), (32, 24)], [8, 9, 10, 11, 12, 13, 14, 15, 16, 17, 18, 19, 20, 21, 22, 23, 24, 25, 26, 27, 28, 29, 30, 31, 32], false), (26, [(8, 0), (9, 1), (10, 2), (11, 3), (12, 4), (13, 5), (14, 6), (15, 7), (16, 8), (17, 9), (18, 10), (19, 11), (20, 12), (21, 13), (22, 14), (23, 15), (24, 16), (25, 17), (26, 18), (27, 19), (28, 20), (29, 21), (30, 22), (31, 23), (32, 24), (33, 25)], [8, 9, 10, 11, 12, 13, 14, 15, 16, 17, 18, 19, 20, 21, 22, 23, 24, 25, 26, 27, 28, 29, 30, 31, 32, 33], false), (27, [(8, 0), (9, 1), (10, 2), (11, 3), (12, 4), (13, 5), (14, 6), (15, 7), (16, 8), (17, 9), (18, 10), (19, 11), (20, 12), (21, 13), (22, 14), (23, 15), (24, 16), (25, 17), (26, 18), (27, 19), (28, 20), (29, 21), (30, 22), (31, 23), (32, 24), (33, 25), (34, 26)], [8, 9, 10, 11, 12, 13, 14, 15, 16, 17, 18, 19, 20, 21, 22, 23, 24, 25, 26, 27, 28, 29, 30, 31, 32, 33, 34], false), (28, [(8, 0), (9, 1), (10, 2), (11, 3), (12, 4), (13, 5), (14, 6), (15, 7), (16, 8), (17, 9), (18, 10), (19, 11), (20, 12), (21, 13), (22, 14), (23, 15), (24, 16), (25, 17), (26, 18), (27, 19), (28, 20), (29, 21), (30, 22), (31, 23), (32, 24), (33, 25), (34, 26), (35, 27)], [8, 9, 10, 11, 12, 13, 14, 15, 16, 17, 18, 19, 20, 21, 22, 23, 24, 25, 26, 27, 28, 29, 30, 31, 32, 33, 34, 35], false), (29, [(8, 0), (9, 1), (10, 2), (11, 3), (12, 4), (13, 5), (14, 6), (15, 7), (16, 8), (17, 9), (18, 10), (19, 11), (20, 12), (21, 13), (22, 14), (23, 15), (24, 16), (25, 17), (26, 18), (27, 19), (28, 20), (29, 21), (30, 22), (31, 23), (32, 24), (33, 25), (34, 26), (35, 27), (36, 28)], [8, 9, 10, 11, 12, 13, 14, 15, 16, 17, 18, 19, 20, 21, 22, 23, 24, 25, 26, 27, 28, 29, 30, 31, 32, 33, 34, 35, 36], false), (30, [(8, 0), (9, 1), (10, 2), (11, 3), (12, 4), (13, 5), (14, 6), (15, 7), (16, 8), (17, 9), (18, 10), (19, 11), (20, 12), (21, 13), (22, 14), (23, 15), (24, 16), (25, 17), (26, 18), (27, 19), (28, 20), (29, 21), (30, 22), (31, 23), (32, 24), (33, 25), (34, 26), (35, 27), (36, 28), (37, 29)], [8, 9, 10, 11, 12, 13, 14, 15, 16, 17, 18, 19, 20, 21, 22, 23, 24, 25, 26, 27, 28, 29, 30, 31, 32, 33, 34, 35, 36, 37], false), (31, [(8, 0), (9, 1), (10, 2), (11, 3), (12, 4), (13, 5), (14, 6), (15, 7), (16, 8), (17, 9), (18, 10), (19, 11), (20, 12), (21, 13), (22, 14), (23, 15), (24, 16), (25, 17), (26, 18), (27, 19), (28, 20), (29, 21), (30, 22), (31, 23), (32, 24), (33, 25), (34, 26), (35, 27), (36, 28), (37, 29), (38, 30)], [8, 9, 10, 11, 12, 13, 14, 15, 16, 17, 18, 19, 20, 21, 22, 23, 24, 25, 26, 27, 28, 29, 30, 31, 32, 33, 34, 35, 36, 37, 38], false), (32, [(8, 0), (9, 1), (10, 2), (11, 3), (12, 4), (13, 5), (14, 6), (15, 7), (16, 8), (17, 9), (18, 10), (19, 11), (20, 12), (21, 13), (22, 14), (23, 15), (24, 16), (25, 17), (26, 18), (27, 19), (28, 20), (29, 21), (30, 22), (31, 23), (32, 24), (33, 25), (34, 26), (35, 27), (36, 28), (37, 29), (38, 30), (39, 31)], [8, 9, 10, 11, 12, 13, 14, 15, 16, 17, 18, 19, 20, 21, 22, 23, 24, 25, 26, 27, 28, 29, 30, 31, 32, 33, 34, 35, 36, 37, 38, 39], false), (33, [(8, 0), (9, 1), (10, 2), (11, 3), (12, 4), (13, 5), (14, 6), (15, 7), (16, 8), (17, 9), (18, 10), (19, 11), (20, 12), (21, 13), (22, 14), (23, 15), (24, 16), (25, 17), (26, 18), (27, 19), (28, 20), (29, 21), (30, 22), (31, 23), (32, 24), (33, 25), (34, 26), (35, 27), (36, 28), (37, 29), (38, 30), (39, 31), (40, 32)], [8, 9, 10, 11, 12, 13, 14, 15, 16, 17, 18, 19, 20, 21, 22, 23, 24, 25, 26, 27, 28, 29, 30, 31, 32, 33, 34, 35, 36, 37, 38, 39, 40], false), (34, [(8, 0), (9, 1), (10, 2), (11, 3), (12, 4), (13, 5), (14, 6), (15, 7), (16, 8), (17, 9), (18, 10), (19, 11), (20, 12), (21, 13), (22, 14), (23, 15), (24, 16), (25, 17), (26, 18), (27, 19), (28, 20), (29, 21), (30, 22), (31, 23), (32, 24), (33, 25), (34, 26), (35, 27), (36, 28), (37, 29), (38, 30), (39, 31), (40, 32), (41, 33)], [8, 9, 10, 11, 12, 13, 14, 15, 16, 17, 18, 19, 20, 21, 22, 23, 24, 25, 26, 27, 28, 29, 30, 31, 32, 33, 34, 35, 36, 37, 38, 39, 40, 41], false), (35, [(8, 0), (9, 1), (10, 2), (11, 3), (12, 4), (13, 5), (14, 6), (15, 7), (16, 8), (17, 9), (18, 10), (19, 11), (20, 12), (21, 13), (22, 14), (23, 15), (24, 16), (25, 17), (26, 18), (27, 19), (28, 20), (29, 21), (30, 22), (31, 23), (32, 24), (33, 25), (34, 26), (35, 27), (36, 28), (37, 29), (38, 30), (39, 31), (40, 32), (41, 33), (42, 34)], [8, 9, 10, 11, 12, 13, 14, 15, 16, 17, 18, 19, 20, 21, 22, 23, 24, 25, 26, 27, 28, 29, 30, 31, 32, 33, 34, 35, 36, 37, 38, 39, 40, 41, 42], false), (36, [(8, 0), (9, 1), (10, 2), (11, 3), (12, 4), (13, 5), (14, 6), (15, 7), (16, 8), (17, 9), (18, 10), (19, 11), (20, 12), (21, 13), (22, 14), (23, 15), (24, 16), (25, 17), (26, 18), (27, 19), (28, 20), (29, 21), (30, 22), (31, 23), (32, 24), (33, 25), (34, 26), (35, 27), (36, 28), (37, 29), (38, 30), (39, 31), (40, 32), (41, 33), (42, 34), (43, 35)], [8, 9, 10, 11, 12, 13, 14, 15, 16, 17, 18, 19, 20, 21, 22, 23, 24, 25, 26, 27, 28, 29, 30, 31, 32, 33, 34, 35, 36, 37, 38, 39, 40, 41, 42, 43], false), (37, [(8, 0), (9, 1), (10, 2), (11, 3), (12, 4), (13, 5), (14, 6), (15, 7), (16, 8), (17, 9), (18, 10), (19, 11), (20, 12), (21, 13), (22, 14), (23, 15), (24, 16), (25, 17), (26, 18), (27, 19), (28, 20), (29, 21), (30, 22), (31, 23), (32, 24), (33, 25), (34, 26), (35, 27), (36, 28), (37, 29), (38, 30), (39, 31), (40, 32), (41, 33), (42, 34), (43, 35), (44, 36)], [8, 9, 10, 11, 12, 13, 14, 15, 16, 17, 18, 19, 20, 21, 22, 23, 24, 25, 26, 27, 28, 29, 30, 31, 32, 33, 34, 35, 36, 37, 38, 39, 40, 41, 42, 43, 44], false), (38, [(8, 0), (9, 1), (10, 2), (11, 3), (12, 4), (13, 5), (14, 6), (15, 7), (16, 8), (17, 9), (18, 10), (19, 11), (20, 12), (21, 13), (22, 14), (23, 15), (24, 16), (25, 17), (26, 18), (27, 19), (28, 20), (29, 21), (30, 22), (31, 23), (32, 24), (33, 25), (34, 26), (35, 27), (36, 28), (37, 29), (38, 30), (39, 31), (40, 32), (41, 33), (42, 34), (43, 35), (44, 36), (45, 37)], [8, 9, 10, 11, 12, 13, 14, 15, 16, 17, 18, 19, 20, 21, 22, 23, 24, 25, 26, 27, 28, 29, 30, 31, 32, 33, 34, 35, 36, 37, 38, 39, 40, 41, 42, 43, 44, 45], false), (39, [(8, 0), (9, 1), (10, 2), (11, 3), (12, 4), (13, 5), (14, 6), (15, 7), (16, 8), (17, 9), (18, 10), (19, 11), (20, 12), (21, 13), (22, 14), (23, 15), (24, 16), (25, 17), (26, 18), (27, 19), (28, 20), (29, 21), (30, 22), (31, 23), (32, 24), (33, 25), (34, 26), (35, 27), (36, 28), (37, 29), (38, 30), (39, 31), (40, 32), (41, 33), (42, 34), (43, 35), (44, 36), (45, 37), (46, 38)], [8, 9, 10, 11, 12, 13, 14, 15, 16, 17, 18, 19, 20, 21, 22, 23, 24, 25, 26, 27, 28, 29, 30, 31, 32, 33, 34, 35, 36, 37, 38, 39, 40, 41, 42, 43, 44, 45, 46], false), (40, [(8, 0), (9, 1), (10, 2), (11, 3), (12, 4), (13, 5), (14, 6), (15, 7), (16, 8), (17, 9), (18, 10), (19, 11), (20, 12), (21, 13), (22, 14), (23, 15), (24, 16), (25, 17), (26, 18), (27, 19), (28, 20), (29, 21), (30, 22), (31, 23), (32, 24), (33, 25), (34, 26), (35, 27), (36, 28), (37, 29), (38, 30), (39, 31), (40, 32), (41, 33), (42, 34), (43, 35), (44, 36), (45, 37), (46, 38), (47, 39)], [8, 9, 10, 11, 12, 13, 14, 15, 16, 17, 18, 19, 20, 21, 22, 23, 24, 25, 26, 27, 28, 29, 30, 31, 32, 33, 34, 35, 36, 37, 38, 39, 40, 41, 42, 43, 44, 45, 46, 47], false), (41, [(8, 0), (9, 1), (10, 2), (11, 3), (12, 4), (13, 5), (14, 6), (15, 7), (16, 8), (17, 9), (18, 10), (19, 11), (20, 12), (21, 13), (22, 14), (23, 15), (24, 16), (25, 17), (26, 18), (27, 19), (28, 20), (29, 21), (30, 22), (31, 23), (32, 24), (33, 25), (34, 26), (35, 27), (36, 28), (37, 29), (38, 30), (39, 31), (40, 32), (41, 33), (42, 34), (43, 35), (44, 36), (45, 37), (46, 38), (47, 39), (48, 40)], [8, 9, 10, 11, 12, 13, 14, 15, 16, 17, 18, 19, 20, 21, 22, 23, 24, 25, 26, 27, 28, 29, 30, 31, 32, 33, 34, 35, 36, 37, 38, 39, 40, 41, 42, 43, 44, 45, 46, 47, 48], false), (42, [(8, 0), (9, 1), (10, 2), (11, 3), (12, 4), (13, 5), (14, 6), (15, 7), (16, 8), (17, 9), (18, 10), (19, 11), (20, 12), (21, 13), (22, 14), (23, 15), (24, 16), (25, 17), (26, 18), (27, 19), (28, 20), (29, 21), (30, 22), (31, 23), (32, 24), (33, 25), (34, 26), (35, 27), (36, 28), (37, 29), (38, 30), (39, 31), (40, 32), (41, 33), (42, 34), (43, 35), (44, 36), (45, 37), (46, 38), (47, 39), (48, 40), (49, 41)], [8, 9, 10, 11, 12, 13, 14, 15, 16, 17, 18, 19, 20, 21, 22, 23, 24, 25, 26, 27, 28, 29, 30, 31, 32, 33, 34, 35, 36, 37, 38, 39, 40, 41, 42, 43, 44, 45, 46, 47, 48, 49], false), (43, [(8, 0), (9, 1), (10, 2), (11, 3), (12, 4), (13, 5), (14, 6), (15, 7), (16, 8), (17, 9), (18, 10), (19, 11), (20, 12), (21, 13), (22, 14), (23, 15), (24, 16), (25, 17), (26, 18), (27, 19), (28, 20), (29, 21), (30, 22), (31, 23), (32, 24), (33, 25), (34, 26), (35, 27), (36, 28), (37, 29), (38, 30), (39, 31), (40, 32), (41, 33), (42, 34), (43, 35), (44, 36), (45, 37), (46, 38), (47, 39), (48, 40), (49, 41), (50, 42)], [8, 9, 10, 11, 12, 13, 14, 15, 16, 17, 18, 19, 20, 21, 22, 23, 24, 25, 26, 27, 28, 29, 30, 31, 32, 33, 34, 35, 36, 37, 38, 39, 40, 41, 42, 43, 44, 45, 46, 47, 48, 49, 50], false), (44, [(8, 0), (9, 1), (10, 2), (11, 3), (12, 4), (13, 5), (14, 6), (15, 7), (16, 8), (17, 9), (18, 10), (19, 11), (20, 12), (21, 13), (22, 14), (23, 15), (24, 16), (25, 17), (26, 18), (27, 19), (28, 20), (29, 21), (30, 22), (31, 23), (32, 24), (33, 25), (34, 26), (35, 27), (36, 28), (37, 29), (38, 30), (39, 31), (40, 32), (41, 33), (42, 34), (43, 35), (44, 36), (45, 37), (46, 38), (47, 39), (48, 40), (49, 41), (50, 42), (51, 43)], [8, 9, 10, 11, 12, 13, 14, 15, 16, 17, 18, 19, 20, 21, 22, 23, 24, 25, 26, 27, 28, 29, 30, 31, 32, 33, 34, 35, 36, 37, 38, 39, 40, 41, 42, 43, 44, 45, 46, 47, 48, 49, 50, 51], false), (45, [(8, 0), (9, 1), (10, 2), (11, 3), (12, 4), (13, 5), (14, 6), (15, 7), (16, 8), (17, 9), (18, 10), (19, 11), (20, 12), (21, 13), (22, 14), (23, 15), (24, 16), (25, 17), (26, 18), (27, 19), (28, 20), (29, 21), (30, 22), (31, 23), (32, 24), (33, 25), (34, 26), (35, 27), (36, 28), (37, 29), (38, 30), (39, 31), (40, 32), (41, 33), (42, 34), (43, 35), (44, 36), (45, 37), (46, 38), (47, 39), (48, 40), (49, 41), (50, 42), (51, 43), (52, 44)], [8, 9, 10, 11, 12, 13, 14, 15, 16, 17, 18, 19, 20, 21, 22, 23, 24, 25, 26, 27, 28, 29, 30, 31, 32, 33, 34, 35, 36, 37, 38, 39, 40, 41, 42, 43, 44, 45, 46, 47, 48, 49, 50, 51, 52], false), (46, [(8, 0), (9, 1), (10, 2), (11, 3), (12, 4), (13, 5), (14, 6), (15, 7), (16, 8), (17, 9), (18, 10), (19, 11), (20, 12), (21, 13), (22, 14), (23, 15), (24, 16), (25, 17), (26, 18), (27, 19), (28, 20), (29, 21), (30, 22), (31, 23), (32, 24), (33, 25), (34, 26), (35, 27), (36, 28), (37, 29), (38, 30), (39, 31), (40, 32), (41, 33), (42, 34), (43, 35), (44, 36), (45, 37), (46, 38), (47, 39), (48, 40), (49, 41), (50, 42), (51, 43), (52, 44), (53, 45)], [8, 9, 10, 11, 12, 13, 14, 15, 16, 17, 18, 19, 20, 21, 22, 23, 24, 25, 26, 27, 28, 29, 30, 31, 32, 33, 34, 35, 36, 37, 38, 39, 40, 41, 42, 43, 44, 45, 46, 47, 48, 49, 50, 51, 52, 53], false), (47, [(8, 0), (9, 1), (10, 2), (11, 3), (12, 4), (13, 5), (14, 6), (15, 7), (16, 8), (17, 9), (18, 10), (19, 11), (20, 12), (21, 13), (22, 14), (23, 15), (24, 16), (25, 17), (26, 18), (27, 19), (28, 20), (29, 21), (30, 22), (31, 23), (32, 24), (33, 25), (34, 26), (35, 27), (36, 28), (37, 29), (38, 30), (39, 31), (40, 32), (41, 33), (42, 34), (43, 35), (44, 36), (45, 37), (46, 38), (47, 39), (48, 40), (49, 41), (50, 42), (51, 43), (52, 44), (53, 45), (54, 46)], [8, 9, 10, 11, 12, 13, 14, 15, 16, 17, 18, 19, 20, 21, 22, 23, 24, 25, 26, 27, 28, 29, 30, 31, 32, 33, 34, 35, 36, 37, 38, 39, 40, 41, 42, 43, 44, 45, 46, 47, 48, 49, 50, 51, 52, 53, 54], false), (48, [(8, 0), (9, 1), (10, 2), (11, 3), (12, 4), (13, 5), (14, 6), (15, 7), (16, 8), (17, 9), (18, 10), (19, 11), (20, 12), (21, 13), (22, 14), (23, 15), (24, 16), (25, 17), (26, 18), (27, 19), (28, 20), (29, 21), (30, 22), (31, 23), (32, 24), (33, 25), (34, 26), (35, 27), (36, 28), (37, 29), (38, 30), (39, 31), (40, 32), (41, 33), (42, 34), (43, 35), (44, 36), (45, 37), (46, 38), (47, 39), (48, 40), (49, 41), (50, 42), (51, 43), (52, 44), (53, 45), (54, 46), (55, 47)], [8, 9, 10, 11, 12, 13, 14, 15, 16, 17, 18, 19, 20, 21, 22, 23, 24, 25, 26, 27, 28, 29, 30, 31, 32, 33, 34, 35, 36, 37, 38, 39, 40, 41, 42, 43, 44, 45, 46, 47, 48, 49, 50, 51, 52, 53, 54, 55], false), (49, [(8, 0), (9, 1), (10, 2), (11, 3), (12, 4), (13, 5), (14, 6), (15, 7), (16, 8), (17, 9), (18, 10), (19, 11), (20, 12), (21, 13), (22, 14), (23, 15), (24, 16), (25, 17), (26, 18), (27, 19), (28, 20), (29, 21), (30, 22), (31, 23), (32, 24), (33, 25), (34, 26), (35, 27), (36, 28), (37, 29), (38, 30), (39, 31), (40, 32), (41, 33), (42, 34), (43, 35), (44, 36), (45, 37), (46, 38), (47, 39), (48, 40), (49, 41), (50, 42), (51, 43), (52, 44), (53, 45), (54, 46), (55, 47), (56, 48)], [8, 9, 10, 11, 12, 13, 14, 15, 16, 17, 18, 19, 20, 21, 22, 23, 24, 25, 26, 27, 28, 29, 30, 31, 32, 33, 34, 35, 36, 37, 38, 39, 40, 41, 42, 43, 44, 45, 46, 47, 48, 49, 50, 51, 52, 53, 54, 55, 56], false), (50, [(8, 0), (9, 1), (10, 2), (11, 3), (12, 4), (13, 5), (14, 6), (15, 7), (16, 8), (17, 9), (18, 10), (19, 11), (20, 12), (21, 13), (22, 14), (23, 15), (24, 16), (25, 17), (26, 18), (27, 19), (28, 20), (29, 21), (30, 22), (31, 23), (32, 24), (33, 25), (34, 26), (35, 27), (36, 28), (37, 29), (38, 30), (39, 31), (40, 32), (41, 33), (42, 34), (43, 35), (44, 36), (45, 37), (46, 38), (47, 39), (48, 40), (49, 41), (50, 42), (51, 43), (52, 44), (53, 45), (54, 46), (55, 47), (56, 48), (57, 49)], [8, 9, 10, 11, 12, 13, 14, 15, 16, 17, 18, 19, 20, 21, 22, 23, 24, 25, 26, 27, 28, 29, 30, 31, 32, 33, 34, 35, 36, 37, 38, 39, 40, 41, 42, 43, 44, 45, 46, 47, 48, 49, 50, 51, 52, 53, 54, 55, 56, 57], false), (51, [(8, 0), (9, 1), (10, 2), (11, 3), (12, 4), (13, 5), (14, 6), (15, 7), (16, 8), (17, 9), (18, 10), (19, 11), (20, 12), (21, 13), (22, 14), (23, 15), (24, 16), (25, 17), (26, 18), (27, 19), (28, 20), (29, 21), (30, 22), (31, 23), (32, 24), (33, 25), (34, 26), (35, 27), (36, 28), (37, 29), (38, 30), (39, 31), (40, 32), (41, 33), (42, 34), (43, 35), (44, 36), (45, 37), (46, 38), (47, 39), (48, 40), (49, 41), (50, 42), (51, 43), (52, 44), (53, 45), (54, 46), (55, 47), (56, 48), (57, 49), (58, 50)], [8, 9, 10, 11, 12, 13, 14, 15, 16, 17, 18, 19, 20, 21, 22, 23, 24, 25, 26, 27, 28, 29, 30, 31, 32, 33, 34, 35, 36, 37, 38, 39, 40, 41, 42, 43, 44, 45, 46, 47, 48, 49, 50, 51, 52, 53, 54, 55, 56, 57, 58], false), (52, [(8, 0), (9, 1), (10, 2), (11, 3), (12, 4), (13, 5), (14, 6), (15, 7), (16, 8), (17, 9), (18, 10), (19, 11), (20, 12), (21, 13), (22, 14), (23, 15), (24, 16), (25, 17), (26, 18), (27, 19), (28, 20), (29, 21), (30, 22), (31, 23), (32, 24), (33, 25), (34, 26), (35, 27), (36, 28), (37, 29), (38, 30), (39, 31), (40, 32), (41, 33), (42, 34), (43, 35), (44, 36), (45, 37), (46, 38), (47, 39), (48, 40), (49, 41), (50, 42), (51, 43), (52, 44), (53, 45), (54, 46), (55, 47), (56, 48), (57, 49), (58, 50), (59, 51)], [8, 9, 10, 11, 12, 13, 14, 15, 16, 17, 18, 19, 20, 21, 22, 23, 24, 25, 26, 27, 28, 29, 30, 31, 32, 33, 34, 35, 36, 37, 38, 39, 40, 41, 42, 43, 44, 45, 46, 47, 48, 49, 50, 51, 52, 53, 54, 55, 56, 57, 58, 59], false)]
    [(8, 0), (9, 1), (10, 2), (11, 3), (12, 4), (13, 5), (14, 6), (15, 7), (16, 8), (17, 9), (18, 10), (19, 11), (20, 12), (21, 13), (22, 14), (23, 15), (24, 16), (25, 17), (26, 18), (27, 19), (28, 20), (29, 21), (30, 22), (31, 23), (32, 24), (33, 25), (34, 26), (35, 27), (36, 28), (37, 29), (38, 30), (39, 31), (40, 32), (41, 33), (42, 34), (43, 35), (44, 36), (45, 37), (46, 38), (47, 39), (48, 40), (49, 41), (50, 42), (51, 43), (52, 44), (53, 45), (54, 46), (55, 47), (56, 48), (57, 49), (58, 50), (59, 51), (60, 52)]
    [(2, _), (3, _), (4, _)] rfl (by kernel_rfl)
  case hF => exact ⟨rfl, rfl, rfl, trivial⟩
  (try (conv => whnf)); (repeat ((fail_if_success (with_reducible refine And.intro ?_ ?_)); (fail_if_success (with_reducible refine Exists.intro ?_ ?_)); (first | (apply Ob.of; (first | with_reducible assumption | with_reducible exact ex20 _ _ | with_reducible exact ex21 _ _ | with_reducible exact ex30 _ _ _ | with_reducible exact ex31 _ _ _ | with_reducible exact ex32 _ _ _ | rfl | (exact ald rfl rfl (by assumption) rfl) | (exact ald_agg rfl rfl rfl (by assumption) rfl)); (conv => whnf)) | (apply bIf.yes; (first | assumption | rfl); (conv => whnf)) | (apply bIf.no; (first | assumption | rfl); (conv => whnf)) | ((with_reducible refine Ob.load (by with_unfolding_all assumption) ?_); (conv => whnf)) | (apply Grows.mk; (first | exact Grow.refl _ | assumption); (conv => whnf)))))
  refine (check_ax (strR.grow hp g) (codeR.grow hcs g) hL).mono ?_
  rintro v X ⟨hv, e⟩
  subst X
  rcases hv with ⟨rfl, hv⟩ | ⟨rfl, hv⟩
  rotate_left
  · (try (conv => whnf)); (repeat ((fail_if_success (with_reducible refine And.intro ?_ ?_)); (fail_if_success (with_reducible refine Exists.intro ?_ ?_)); (first | (apply Ob.of; (first | with_reducible assumption | with_reducible exact ex20 _ _ | with_reducible exact ex21 _ _ | with_reducible exact ex30 _ _ _ | with_reducible exact ex31 _ _ _ | with_reducible exact ex32 _ _ _ | rfl | (exact ald rfl rfl (by assumption) rfl) | (exact ald_agg rfl rfl rfl (by assumption) rfl)); (conv => whnf)) | (apply bIf.yes; (first | assumption | rfl); (conv => whnf)) | (apply bIf.no; (first | assumption | rfl); (conv => whnf)) | ((with_reducible refine Ob.load (by with_unfolding_all assumption) ?_); (conv => whnf)) | (apply Grows.mk; (first | exact Grow.refl _ | assumption); (conv => whnf)))))
    exact ⟨.inr ⟨rfl, fun h => hv h.1⟩, g⟩
  by_cases hF : 0 ≤ b.F ∧ b.F < p.2.2.length
  rotate_left
  · have e1 : (!decide (0 ≤ b.F ∧ b.F < (p.2.2.length : Int))) = true := by rw [decide_eq_false hF]; rfl
    (try (conv => whnf)); (repeat' ((fail_if_success (with_reducible refine And.intro ?_ ?_)); (fail_if_success (with_reducible refine Exists.intro ?_ ?_)); (first | ((with_reducible refine AX.id ?_); (first | (refine (irBelow_ax _ _ _).mono ?_; (rintro _ X ⟨rfl, eX⟩; subst X; (conv => whnf))))) | (first | (apply Ob.of; (first | with_reducible assumption | with_reducible exact ex20 _ _ | with_reducible exact ex21 _ _ | with_reducible exact ex30 _ _ _ | with_reducible exact ex31 _ _ _ | with_reducible exact ex32 _ _ _ | rfl | (exact ald rfl rfl (by assumption) rfl) | (exact ald_agg rfl rfl rfl (by assumption) rfl)); (conv => whnf)) | (apply bIf.yes; (first | assumption | rfl); (conv => whnf)) | (apply bIf.no; (first | assumption | rfl); (conv => whnf)) | ((with_reducible refine Ob.load (by with_unfolding_all assumption) ?_); (conv => whnf)) | (apply Grows.mk; (first | exact Grow.refl _ | assumption); (conv => whnf))) | (apply bIf.of <;> intro hc <;> (conv => whnf)))))
    refine ⟨.inr ⟨rfl, fun h => hF ?_⟩, g⟩
    obtain ⟨_, h0, c, L, hc, _⟩ := h
    exact ⟨h0, by have := lt_of_get hc; omega⟩
  have e1 : (!decide (0 ≤ b.F ∧ b.F < (p.2.2.length : Int))) = false := by rw [decide_eq_true hF]; rfl
  obtain ⟨f, hf⟩ : ∃ f : Nat, b.F = (f : Int) := ⟨b.F.toNat, by omega⟩
  obtain ⟨c, hc⟩ := get_lt (L := p.2.2) (m := f) (by omega)
  obtain ⟨bq, i1, i2⟩ := ldx_code hcs hc
  have i3 := (i2 H2 g).1
  rw [← hf] at i1
  have hcf : p.2.2[b.F.toNat]? = some c := by rw [hf, Int.toNat_natCast]; exact hc
  have un : ∀ {c' : CodeT}, p.2.2[b.F.toNat]? = some c' → c' = c := fun h => by rw [hcf] at h; simp only [Option.some.injEq] at h; exact h.symm
  by_cases hlim : BLim p c b
  rotate_left
  · have bad : IrV p b (.int .i64 16) ∧ Grow H H2 := ⟨.inr ⟨rfl, fun ⟨_, _, c', L, h1, h2, _⟩ => hlim (by rw [← un h1]; exact h2)⟩, g⟩
    (try (conv => whnf)); (repeat' ((fail_if_success (with_reducible refine And.intro ?_ ?_)); (fail_if_success (with_reducible refine Exists.intro ?_ ?_)); (first | ((with_reducible refine AX.id ?_); (first | (refine (irBelow_ax _ _ _).mono ?_; (rintro _ X ⟨rfl, eX⟩; subst X; (conv => whnf))))) | (first | (apply Ob.of; (first | with_reducible assumption | with_reducible exact ex20 _ _ | with_reducible exact ex21 _ _ | with_reducible exact ex30 _ _ _ | with_reducible exact ex31 _ _ _ | with_reducible exact ex32 _ _ _ | rfl | (exact ald rfl rfl (by assumption) rfl) | (exact ald_agg rfl rfl rfl (by assumption) rfl)); (conv => whnf)) | (apply bIf.yes; (first | assumption | rfl); (conv => whnf)) | (apply bIf.no; (first | assumption | rfl); (conv => whnf)) | ((with_reducible refine Ob.load (by with_unfolding_all assumption) ?_); (conv => whnf)) | (apply Grows.mk; (first | exact Grow.refl _ | assumption); (conv => whnf))) | (apply bIf.of <;> intro hc <;> (conv => whnf)))))
    all_goals first
      | exact bad
      | (exfalso; refine hlim ?_; clear bad b1 b2 i1 i2 i3 l2 l3 l4 l5; unfold BLim; ((try (simp only [ba_ne_t, ba_ne_f, ba_eq_t, ba_eq_f, bne_iff_ne, bne_eq_false_iff_eq, decide_eq_true_eq, decide_eq_false_iff_not, beq_iff_eq, beq_eq_false_iff_ne, ne_eq, Bool.not_eq_true, Bool.not_eq_false, Bool.not_eq_true', Bool.not_eq_false'] at *)); (try simp only [Bool.false_eq_true, false_iff, true_iff, Classical.not_not, Bool.not_false, Bool.not_true] at *)); omega)
  have hlim' := hlim
  unfold BLim at hlim'
  have t1 : decide (b.regs < c.2.1) = false := decide_eq_false (by omega)
  have t2 : decide (b.regs > 88) = false := decide_eq_false (by omega)
  have t3 : decide ((b.consts.length : Int) > 4000) = false := decide_eq_false (by omega)
  have t4 : decide ((b.ops.length : Int) < 1) = false := decide_eq_false (by omega)
  have t5 : decide ((b.ops.length : Int) > 16000) = false := decide_eq_false (by omega)
  have t6 : decide ((b.deps.length : Int) > 200) = false := decide_eq_false (by omega)
  (try (conv => whnf)); (repeat' ((fail_if_success (with_reducible refine And.intro ?_ ?_)); (fail_if_success (with_reducible refine Exists.intro ?_ ?_)); (first | ((with_reducible refine AX.id ?_); (first | (refine (irBelow_ax _ _ _).mono ?_; (rintro _ X ⟨rfl, eX⟩; subst X; (conv => whnf))))) | (first | (apply Ob.of; (first | with_reducible assumption | with_reducible exact ex20 _ _ | with_reducible exact ex21 _ _ | with_reducible exact ex30 _ _ _ | with_reducible exact ex31 _ _ _ | with_reducible exact ex32 _ _ _ | rfl | (exact ald rfl rfl (by assumption) rfl) | (exact ald_agg rfl rfl rfl (by assumption) rfl)); (conv => whnf)) | (apply bIf.yes; (first | assumption | rfl); (conv => whnf)) | (apply bIf.no; (first | assumption | rfl); (conv => whnf)) | ((with_reducible refine Ob.load (by with_unfolding_all assumption) ?_); (conv => whnf)) | (apply Grows.mk; (first | exact Grow.refl _ | assumption); (conv => whnf))) | (apply bIf.of <;> intro hc <;> (conv => whnf)))))
  refine (containsv_ax (xval_grow hb.con g) hsm.con hsm.vals).mono ?_
  rintro _ X ⟨⟨t, rfl, ht⟩, e⟩
  subst X
  cases t with
  | true =>
    (try (conv => whnf)); (repeat ((fail_if_success (with_reducible refine And.intro ?_ ?_)); (fail_if_success (with_reducible refine Exists.intro ?_ ?_)); (first | (apply Ob.of; (first | with_reducible assumption | with_reducible exact ex20 _ _ | with_reducible exact ex21 _ _ | with_reducible exact ex30 _ _ _ | with_reducible exact ex31 _ _ _ | with_reducible exact ex32 _ _ _ | rfl | (exact ald rfl rfl (by assumption) rfl) | (exact ald_agg rfl rfl rfl (by assumption) rfl)); (conv => whnf)) | (apply bIf.yes; (first | assumption | rfl); (conv => whnf)) | (apply bIf.no; (first | assumption | rfl); (conv => whnf)) | ((with_reducible refine Ob.load (by with_unfolding_all assumption) ?_); (conv => whnf)) | (apply Grows.mk; (first | exact Grow.refl _ | assumption); (conv => whnf)))))
    exact ⟨.inr ⟨rfl, fun ⟨_, _, c', L, h1, h2, h3, _⟩ => ht.1 rfl h3⟩, g⟩
  | false =>
  have hVals : ValsP b.consts := Classical.byContradiction fun h => by simpa using ht.2 h
  (try (conv => whnf)); (repeat ((fail_if_success (with_reducible refine And.intro ?_ ?_)); (fail_if_success (with_reducible refine Exists.intro ?_ ?_)); (first | (apply Ob.of; (first | with_reducible assumption | with_reducible exact ex20 _ _ | with_reducible exact ex21 _ _ | with_reducible exact ex30 _ _ _ | with_reducible exact ex31 _ _ _ | with_reducible exact ex32 _ _ _ | rfl | (exact ald rfl rfl (by assumption) rfl) | (exact ald_agg rfl rfl rfl (by assumption) rfl)); (conv => whnf)) | (apply bIf.yes; (first | assumption | rfl); (conv => whnf)) | (apply bIf.no; (first | assumption | rfl); (conv => whnf)) | ((with_reducible refine Ob.load (by with_unfolding_all assumption) ?_); (conv => whnf)) | (apply Grows.mk; (first | exact Grow.refl _ | assumption); (conv => whnf)))))
  refine (containsd_ax (depR.grow hb.deps g) hsm.deps).mono ?_
  rintro _ X ⟨⟨t, rfl, ht⟩, e⟩
  subst X
  cases t with
  | true =>
    (try (conv => whnf)); (repeat ((fail_if_success (with_reducible refine And.intro ?_ ?_)); (fail_if_success (with_reducible refine Exists.intro ?_ ?_)); (first | (apply Ob.of; (first | with_reducible assumption | with_reducible exact ex20 _ _ | with_reducible exact ex21 _ _ | with_reducible exact ex30 _ _ _ | with_reducible exact ex31 _ _ _ | with_reducible exact ex32 _ _ _ | rfl | (exact ald rfl rfl (by assumption) rfl) | (exact ald_agg rfl rfl rfl (by assumption) rfl)); (conv => whnf)) | (apply bIf.yes; (first | assumption | rfl); (conv => whnf)) | (apply bIf.no; (first | assumption | rfl); (conv => whnf)) | ((with_reducible refine Ob.load (by with_unfolding_all assumption) ?_); (conv => whnf)) | (apply Grows.mk; (first | exact Grow.refl _ | assumption); (conv => whnf)))))
    exact ⟨.inr ⟨rfl, fun ⟨_, _, c', L, h1, h2, h3, h4, _⟩ => ht.1 rfl h4⟩, g⟩
  | false =>
  have hD : DepsP b.deps := Classical.byContradiction fun h => by simpa using ht.2 h
  (try (conv => whnf)); (repeat ((fail_if_success (with_reducible refine And.intro ?_ ?_)); (fail_if_success (with_reducible refine Exists.intro ?_ ?_)); (first | (apply Ob.of; (first | with_reducible assumption | with_reducible exact ex20 _ _ | with_reducible exact ex21 _ _ | with_reducible exact ex30 _ _ _ | with_reducible exact ex31 _ _ _ | with_reducible exact ex32 _ _ _ | rfl | (exact ald rfl rfl (by assumption) rfl) | (exact ald_agg rfl rfl rfl (by assumption) rfl)); (conv => whnf)) | (apply bIf.yes; (first | assumption | rfl); (conv => whnf)) | (apply bIf.no; (first | assumption | rfl); (conv => whnf)) | ((with_reducible refine Ob.load (by with_unfolding_all assumption) ?_); (conv => whnf)) | (apply Grows.mk; (first | exact Grow.refl _ | assumption); (conv => whnf)))))
  have p2 := strR.grow hp g
  have b1' := b1
  have b2' := b2
  have c2 := codeR.grow hcs g
  refine SW.sub (F := [(2, _), (3, _)]) ?_ (Sub.of ⟨rfl, rfl, trivial⟩)
  refine SW.drawP 8 (fun i F v K => match i with | 0 => v = progV p ps cs | 1 => v = bodyV b kv ov dv | 2 => v = progV p ps cs | 3 => v = .pointer (some ⟨q2, 0, none⟩) | 4 => v = .int .i64 b.F | 5 => ∃ L, DL p b.F L ∧ OwnR 1 3 intR K v L | 6 => v = chkV p ps cs b kv ov dv ((getF F 74).getD undef) | 7 => ∃ q, v = .pointer (some ⟨q, 0, none⟩) ∧ H2.length ≤ q ∧ K[q]? = some (.cells .var [.int .i64 0, .slice none 0 0, .slice none 0 0, .int .i64 0, .int .i64 0, .slice none 0 0, .slice none 0 0, .slice none 0 0, .slice none 0 0]) | _ => True) rfl (by kernel_rfl) ?_ ?_ ?_
  · intro i F v K K1 h g
    match i, h with
    | 0, h => exact h
    | 1, h => exact h
    | 2, h => exact h
    | 3, h => exact h
    | 4, h => exact h
    | 5, h => (obtain ⟨L, h1, h2⟩ := h; exact ⟨L, h1, h2.keep (fun b c _ hb => g.at hb) fun _ _ _ h => h⟩)
    | 6, h => exact h
    | 7, h => (obtain ⟨q, h1, h2, h3⟩ := h; exact ⟨q, h1, h2, g.at h3⟩)
    | i + 8, h => trivial
  · intro i oX V K hi hoX hg hT
    have b1 := hg.hblk b1
    have b2 := hg.hblk b2
    match i, hi, hoX, hT with
    | 0, hi, hoX, hT =>
      obtain rfl := Option.some.inj hoX
      rw [envOf_eq, show pairsOf _ _ 0 = [] from by kernel_rfl, show exOf _ _ 0 = [70, 71, 72, 73, 74, 5] from by kernel_rfl]
      (try simp only [valsOf])
      (try (conv => whnf)); (repeat ((fail_if_success (with_reducible refine And.intro ?_ ?_)); (fail_if_success (with_reducible refine Exists.intro ?_ ?_)); (first | (apply Ob.of; (first | with_reducible assumption | with_reducible exact ex20 _ _ | with_reducible exact ex21 _ _ | with_reducible exact ex30 _ _ _ | with_reducible exact ex31 _ _ _ | with_reducible exact ex32 _ _ _ | rfl | (exact ald rfl rfl (by assumption) rfl) | (exact ald_agg rfl rfl rfl (by assumption) rfl)); (conv => whnf)) | (apply bIf.yes; (first | assumption | rfl); (conv => whnf)) | (apply bIf.no; (first | assumption | rfl); (conv => whnf)) | ((with_reducible refine Ob.load (by with_unfolding_all assumption) ?_); (conv => whnf)) | (apply Grows.mk; (first | exact Grow.refl _ | assumption); (conv => whnf)))))
      exact ⟨.refl _, rfl⟩
    | 1, hi, hoX, hT =>
      obtain rfl := Option.some.inj hoX
      rw [envOf_eq, show pairsOf _ _ 1 = [] from by kernel_rfl, show exOf _ _ 1 = [69, 71, 72, 73, 74, 5] from by kernel_rfl]
      (try simp only [valsOf])
      (try (conv => whnf)); (repeat ((fail_if_success (with_reducible refine And.intro ?_ ?_)); (fail_if_success (with_reducible refine Exists.intro ?_ ?_)); (first | (apply Ob.of; (first | with_reducible assumption | with_reducible exact ex20 _ _ | with_reducible exact ex21 _ _ | with_reducible exact ex30 _ _ _ | with_reducible exact ex31 _ _ _ | with_reducible exact ex32 _ _ _ | rfl | (exact ald rfl rfl (by assumption) rfl) | (exact ald_agg rfl rfl rfl (by assumption) rfl)); (conv => whnf)) | (apply bIf.yes; (first | assumption | rfl); (conv => whnf)) | (apply bIf.no; (first | assumption | rfl); (conv => whnf)) | ((with_reducible refine Ob.load (by with_unfolding_all assumption) ?_); (conv => whnf)) | (apply Grows.mk; (first | exact Grow.refl _ | assumption); (conv => whnf)))))
      exact ⟨.refl _, rfl⟩
    | 2, hi, hoX, hT =>
      obtain rfl := Option.some.inj hoX
      rw [envOf_eq, show pairsOf _ _ 2 = [] from by kernel_rfl, show exOf _ _ 2 = [69, 70, 72, 73, 5] from by kernel_rfl]
      (try simp only [valsOf])
      (try (conv => whnf)); (repeat ((fail_if_success (with_reducible refine And.intro ?_ ?_)); (fail_if_success (with_reducible refine Exists.intro ?_ ?_)); (first | (apply Ob.of; (first | with_reducible assumption | with_reducible exact ex20 _ _ | with_reducible exact ex21 _ _ | with_reducible exact ex30 _ _ _ | with_reducible exact ex31 _ _ _ | with_reducible exact ex32 _ _ _ | rfl | (exact ald rfl rfl (by assumption) rfl) | (exact ald_agg rfl rfl rfl (by assumption) rfl)); (conv => whnf)) | (apply bIf.yes; (first | assumption | rfl); (conv => whnf)) | (apply bIf.no; (first | assumption | rfl); (conv => whnf)) | ((with_reducible refine Ob.load (by with_unfolding_all assumption) ?_); (conv => whnf)) | (apply Grows.mk; (first | exact Grow.refl _ | assumption); (conv => whnf)))))
      exact ⟨.refl _, rfl⟩
    | 3, hi, hoX, hT =>
      obtain rfl := Option.some.inj hoX
      rw [envOf_eq, show pairsOf _ _ 3 = [] from by kernel_rfl, show exOf _ _ 3 = [69, 70, 71, 5] from by kernel_rfl]
      (try simp only [valsOf])
      (try (conv => whnf)); (repeat ((fail_if_success (with_reducible refine And.intro ?_ ?_)); (fail_if_success (with_reducible refine Exists.intro ?_ ?_)); (first | (apply Ob.of; (first | with_reducible assumption | with_reducible exact ex20 _ _ | with_reducible exact ex21 _ _ | with_reducible exact ex30 _ _ _ | with_reducible exact ex31 _ _ _ | with_reducible exact ex32 _ _ _ | rfl | (exact ald rfl rfl (by assumption) rfl) | (exact ald_agg rfl rfl rfl (by assumption) rfl)); (conv => whnf)) | (apply bIf.yes; (first | assumption | rfl); (conv => whnf)) | (apply bIf.no; (first | assumption | rfl); (conv => whnf)) | ((with_reducible refine Ob.load (by with_unfolding_all assumption) ?_); (conv => whnf)) | (apply Grows.mk; (first | exact Grow.refl _ | assumption); (conv => whnf)))))
      exact ⟨.refl _, rfl⟩
    | 4, hi, hoX, hT =>
      obtain rfl := Option.some.inj hoX
      have e3 := hT 3 (by kernel_rfl)
      (conv at e3 => whnf)
      rw [envOf_eq, show pairsOf _ _ 4 = [(72, 3)] from by kernel_rfl, show exOf _ _ 4 = [69, 70, 71, 72, 5] from by kernel_rfl]
      (try simp only [valsOf, e3])
      (try (conv => whnf)); (repeat ((fail_if_success (with_reducible refine And.intro ?_ ?_)); (fail_if_success (with_reducible refine Exists.intro ?_ ?_)); (first | (apply Ob.of; (first | with_reducible assumption | with_reducible exact ex20 _ _ | with_reducible exact ex21 _ _ | with_reducible exact ex30 _ _ _ | with_reducible exact ex31 _ _ _ | with_reducible exact ex32 _ _ _ | rfl | (exact ald rfl rfl (by assumption) rfl) | (exact ald_agg rfl rfl rfl (by assumption) rfl)); (conv => whnf)) | (apply bIf.yes; (first | assumption | rfl); (conv => whnf)) | (apply bIf.no; (first | assumption | rfl); (conv => whnf)) | ((with_reducible refine Ob.load (by with_unfolding_all assumption) ?_); (conv => whnf)) | (apply Grows.mk; (first | exact Grow.refl _ | assumption); (conv => whnf)))))
      exact ⟨.refl _, rfl⟩
    | 5, hi, hoX, hT =>
      obtain rfl := Option.some.inj hoX
      have e2 := hT 2 (by kernel_rfl)
      (conv at e2 => whnf)
      have e3 := hT 3 (by kernel_rfl)
      (conv at e3 => whnf)
      have e4 := hT 4 (by kernel_rfl)
      (conv at e4 => whnf)
      rw [envOf_eq, show pairsOf _ _ 5 = [(71, 2), (72, 3), (73, 4)] from by kernel_rfl, show exOf _ _ 5 = [69, 70, 71, 72, 73, 5] from by kernel_rfl]
      (try simp only [valsOf, e2, e3, e4])
      (try (conv => whnf)); (repeat ((fail_if_success (with_reducible refine And.intro ?_ ?_)); (fail_if_success (with_reducible refine Exists.intro ?_ ?_)); (first | (apply Ob.of; (first | with_reducible assumption | with_reducible exact ex20 _ _ | with_reducible exact ex21 _ _ | with_reducible exact ex30 _ _ _ | with_reducible exact ex31 _ _ _ | with_reducible exact ex32 _ _ _ | rfl | (exact ald rfl rfl (by assumption) rfl) | (exact ald_agg rfl rfl rfl (by assumption) rfl)); (conv => whnf)) | (apply bIf.yes; (first | assumption | rfl); (conv => whnf)) | (apply bIf.no; (first | assumption | rfl); (conv => whnf)) | ((with_reducible refine Ob.load (by with_unfolding_all assumption) ?_); (conv => whnf)) | (apply Grows.mk; (first | exact Grow.refl _ | assumption); (conv => whnf)))))
      refine (DepthsO_ax (strR.grow p2 hg) (codeR.grow c2 hg) hL b.F).mono ?_
      rintro v K2 ⟨⟨L, h1, h2⟩, h3⟩
      (try (conv => whnf)); (repeat ((fail_if_success (with_reducible refine And.intro ?_ ?_)); (fail_if_success (with_reducible refine Exists.intro ?_ ?_)); (first | (apply Ob.of; (first | with_reducible assumption | with_reducible exact ex20 _ _ | with_reducible exact ex21 _ _ | with_reducible exact ex30 _ _ _ | with_reducible exact ex31 _ _ _ | with_reducible exact ex32 _ _ _ | rfl | (exact ald rfl rfl (by assumption) rfl) | (exact ald_agg rfl rfl rfl (by assumption) rfl)); (conv => whnf)) | (apply bIf.yes; (first | assumption | rfl); (conv => whnf)) | (apply bIf.no; (first | assumption | rfl); (conv => whnf)) | ((with_reducible refine Ob.load (by with_unfolding_all assumption) ?_); (conv => whnf)) | (apply Grows.mk; (first | exact Grow.refl _ | assumption); (conv => whnf)))))
      exact ⟨h3, L, h1, h2⟩
    | 6, hi, hoX, hT =>
      obtain rfl := Option.some.inj hoX
      have e0 := hT 0 (by kernel_rfl)
      (conv at e0 => whnf)
      have e1 := hT 1 (by kernel_rfl)
      (conv at e1 => whnf)
      have e2 := hT 2 (by kernel_rfl)
      (conv at e2 => whnf)
      have e3 := hT 3 (by kernel_rfl)
      (conv at e3 => whnf)
      have e4 := hT 4 (by kernel_rfl)
      (conv at e4 => whnf)
      have e5 := hT 5 (by kernel_rfl)
      (conv at e5 => whnf)
      rw [envOf_eq, show pairsOf _ _ 6 = [(69, 0), (70, 1), (71, 2), (72, 3), (73, 4), (74, 5)] from by kernel_rfl, show exOf _ _ 6 = [69, 70, 71, 72, 73, 74, 5] from by kernel_rfl]
      (try simp only [valsOf, e0, e1, e2, e3, e4])
      generalize V.getD 5 undef = sv at e5 ⊢
      obtain ⟨L, h1, h2⟩ := e5
      obtain ⟨y1, y2, y3, rfl⟩ := h2.form
      (try (conv => whnf)); (repeat ((fail_if_success (with_reducible refine And.intro ?_ ?_)); (fail_if_success (with_reducible refine Exists.intro ?_ ?_)); (first | (apply Ob.of; (first | with_reducible assumption | with_reducible exact ex20 _ _ | with_reducible exact ex21 _ _ | with_reducible exact ex30 _ _ _ | with_reducible exact ex31 _ _ _ | with_reducible exact ex32 _ _ _ | rfl | (exact ald rfl rfl (by assumption) rfl) | (exact ald_agg rfl rfl rfl (by assumption) rfl)); (conv => whnf)) | (apply bIf.yes; (first | assumption | rfl); (conv => whnf)) | (apply bIf.no; (first | assumption | rfl); (conv => whnf)) | ((with_reducible refine Ob.load (by with_unfolding_all assumption) ?_); (conv => whnf)) | (apply Grows.mk; (first | exact Grow.refl _ | assumption); (conv => whnf)))))
      exact ⟨.refl _, rfl⟩
    | 7, hi, hoX, hT =>
      obtain rfl := Option.some.inj hoX
      rw [envOf_eq, show pairsOf _ _ 7 = [] from by kernel_rfl, show exOf _ _ 7 = [69, 70, 71, 72, 73, 74, 75] from by kernel_rfl]
      (try simp only [valsOf])
      (conv => whnf)
      refine Ob2.alloc rfl fun q K2 hq a1 k1 => ?_
      (try (conv => whnf)); (repeat ((fail_if_success (with_reducible refine And.intro ?_ ?_)); (fail_if_success (with_reducible refine Exists.intro ?_ ?_)); (first | (apply Ob.of; (first | with_reducible assumption | with_reducible exact ex20 _ _ | with_reducible exact ex21 _ _ | with_reducible exact ex30 _ _ _ | with_reducible exact ex31 _ _ _ | with_reducible exact ex32 _ _ _ | rfl | (exact ald rfl rfl (by assumption) rfl) | (exact ald_agg rfl rfl rfl (by assumption) rfl)); (conv => whnf)) | (apply bIf.yes; (first | assumption | rfl); (conv => whnf)) | (apply bIf.no; (first | assumption | rfl); (conv => whnf)) | ((with_reducible refine Ob.load (by with_unfolding_all assumption) ?_); (conv => whnf)) | (apply Grows.mk; (first | exact Grow.refl _ | assumption); (conv => whnf)))))
      exact ⟨k1, q, rfl, by rw [hq]; exact hg.1, a1⟩
  intro oX V K hV hoX hg hT
  have b1 := hg.hblk b1
  have b2 := hg.hblk b2
  obtain rfl := Option.some.inj hoX
  have e0 := hT 0 (by decide)
  (conv at e0 => whnf)
  have e1 := hT 1 (by decide)
  (conv at e1 => whnf)
  have e2 := hT 2 (by decide)
  (conv at e2 => whnf)
  have e3 := hT 3 (by decide)
  (conv at e3 => whnf)
  have e4 := hT 4 (by decide)
  (conv at e4 => whnf)
  have e5 := hT 5 (by decide)
  rw [show pairsOf _ _ 5 = [(71, 2), (72, 3), (73, 4)] from by kernel_rfl] at e5
  (try simp only [valsOf] at e5)
  (conv at e5 => whnf)
  have e6 := hT 6 (by decide)
  rw [show pairsOf _ _ 6 = [(69, 0), (70, 1), (71, 2), (72, 3), (73, 4), (74, 5)] from by kernel_rfl] at e6
  (try simp only [valsOf] at e6)
  (conv at e6 => whnf)
  have e7 := hT 7 (by decide)
  rw [show pairsOf _ _ 7 = [] from by kernel_rfl] at e7
  (try simp only [valsOf] at e7)
  (conv at e7 => whnf)
  have es : ∀ v k, k ≠ 8 → (V.set 8 v).getD k undef = V.getD k undef := fun v k hk => by rw [getD_set (by omega), if_neg hk]
  have ec : ∀ v, (V.set 8 v).getD 8 undef = v := fun v => by rw [getD_set (by omega), if_pos rfl]
  rw [envOf_eq, show pairsOf _ _ 8 = [(69, 0), (70, 1), (71, 2), (72, 3), (73, 4), (74, 5), (75, 6), (5, 7)] from by kernel_rfl, show exOf _ _ 8 = [69, 70, 71, 72, 73, 74, 75, 5] from by kernel_rfl]
  (try simp only [valsOf, e0, e1, e2, e3, e4])
  obtain ⟨L, hDL, hO⟩ := e5
  obtain ⟨q5, e7, hq5, a5⟩ := e7
  replace e6 : V.getD 6 undef = chkV p ps cs b kv ov dv (V.getD 5 undef) := e6
  generalize V.getD 5 undef = sv at hO e6
  simp only [e6, e7]
  (conv => whnf)
  refine Ob.store rfl rfl rfl a5 rfl (by first | exact Nat.le_of_ble_eq_true rfl | simp) fun H3 s5 k5 m5 => ?_
  (try dsimp only)
  rw [endOf_eq, show endsOf _ = [(69, 0), (70, 1), (71, 2), (72, 3), (73, 4), (74, 5), (75, 6), (5, 7)] from by kernel_rfl]
  simp only [valsOf, ec, es _ 0 (by decide), es _ 1 (by decide), es _ 2 (by decide), es _ 3 (by decide), es _ 4 (by decide), es _ 5 (by decide), es _ 6 (by decide), es _ 7 (by decide)]
  simp only [e6, e7]
  have hO2 : OwnR 1 3 intR H3 sv L := hO.keep (fun b c _ hb => k5.at hb (by rintro rfl; rw [a5] at hb; simp at hb)) fun _ _ _ h => h
  have g3 : Grow H2 H3 := hg.but_new k5 hq5
  have b1 := k5.hblk b1 (by rintro rfl; have := lt_hblk b1'; omega)
  have b2 := k5.hblk b2 (by rintro rfl; have := lt_hblk b2'; omega)
  have b5 := hblk_of s5
  have g4 := g.trans g3
  have l4 : alen Try.prog 29 ov H3 = some (.int .i64 b.ops.length) := hb.ops.len rfl _
  have hCl : Closed c L := by
    rcases hDL with ⟨c', _, h1, _, h2⟩ | ⟨h1, _⟩
    · rw [← un h1]; exact h2
    · rcases h1 with h1 | h1 | h1
      · omega
      · omega
      · exact absurd hv h1
  have uL : ∀ {c' L'}, p.2.2[b.F.toNat]? = some c' → Closed c' L' → c' = c ∧ L' = L := fun h1 h2 => by
    have := un h1
    subst this
    exact ⟨rfl, h2.uniq hCl⟩
  obtain ⟨y1, y2, y3, rfl⟩ := hO2.form
  clear hT es e0 e1 e2 e3 e4 s5 k5 a5 hO hg
  (try (conv => whnf)); (repeat ((fail_if_success (with_reducible refine And.intro ?_ ?_)); (fail_if_success (with_reducible refine Exists.intro ?_ ?_)); (first | (apply Ob.of; (first | with_reducible assumption | with_reducible exact ex20 _ _ | with_reducible exact ex21 _ _ | with_reducible exact ex30 _ _ _ | with_reducible exact ex31 _ _ _ | with_reducible exact ex32 _ _ _ | rfl | (exact ald rfl rfl (by assumption) rfl) | (exact ald_agg rfl rfl rfl (by assumption) rfl)); (conv => whnf)) | (apply bIf.yes; (first | assumption | rfl); (conv => whnf)) | (apply bIf.no; (first | assumption | rfl); (conv => whnf)) | ((with_reducible refine Ob.load (by with_unfolding_all assumption) ?_); (conv => whnf)) | (apply Grows.mk; (first | exact Grow.refl _ | assumption); (conv => whnf)))))
  refine SW.loop (α := Nat) (fun m => [(2, .pointer (some ⟨q1, 0, none⟩)), (3, .pointer (some ⟨q2, 0, none⟩)), (5, .pointer (some ⟨q5, 0, none⟩)), (78, .int .i64 (b.ops.length : Int)), (79, .int .i64 (m : Int))]) (fun m X => m ≤ b.ops.length ∧ OpsP p c b L m ∧ X = H3) (fun m => b.ops.length - m) ⟨0, ⟨rfl, rfl, rfl, rfl, rfl, trivial⟩, by omega, fun i o hi => by omega, rfl⟩ ?_
  rintro m X ⟨hm, htm, e⟩
  subst X
  refine bC_sound _ _ _ _ ?_
  by_cases hml : m < b.ops.length
  · have d1 : decide ((m : Int) < (b.ops.length : Int)) = true := decide_eq_true (by omega)
    obtain ⟨o, ho⟩ := get_lt hml
    obtain ⟨o1, o2, o3⟩ := hsm.op o (List.mem_of_getElem? ho)
    (try (conv => whnf)); (repeat ((fail_if_success (with_reducible refine And.intro ?_ ?_)); (fail_if_success (with_reducible refine Exists.intro ?_ ?_)); (first | (apply Ob.of; (first | with_reducible assumption | with_reducible exact ex20 _ _ | with_reducible exact ex21 _ _ | with_reducible exact ex30 _ _ _ | with_reducible exact ex31 _ _ _ | with_reducible exact ex32 _ _ _ | rfl | (exact ald rfl rfl (by assumption) rfl) | (exact ald_agg rfl rfl rfl (by assumption) rfl)); (conv => whnf)) | (apply bIf.yes; (first | assumption | rfl); (conv => whnf)) | (apply bIf.no; (first | assumption | rfl); (conv => whnf)) | ((with_reducible refine Ob.load (by with_unfolding_all assumption) ?_); (conv => whnf)) | (apply Grows.mk; (first | exact Grow.refl _ | assumption); (conv => whnf)))))
    refine (op_ax (strR.grow hp g4) (codeR.grow hcs g4) (hb.grow g4) hO2.rl hf hc ho o1 o2 o3).mono ?_
    rintro _ X ⟨⟨t, rfl, hto⟩, e⟩
    subst X
    cases t with
    | true =>
      (try (conv => whnf)); (repeat ((fail_if_success (with_reducible refine And.intro ?_ ?_)); (fail_if_success (with_reducible refine Exists.intro ?_ ?_)); (first | (apply Ob.of; (first | with_reducible assumption | with_reducible exact ex20 _ _ | with_reducible exact ex21 _ _ | with_reducible exact ex30 _ _ _ | with_reducible exact ex31 _ _ _ | with_reducible exact ex32 _ _ _ | rfl | (exact ald rfl rfl (by assumption) rfl) | (exact ald_agg rfl rfl rfl (by assumption) rfl)); (conv => whnf)) | (apply bIf.yes; (first | assumption | rfl); (conv => whnf)) | (apply bIf.no; (first | assumption | rfl); (conv => whnf)) | ((with_reducible refine Ob.load (by with_unfolding_all assumption) ?_); (conv => whnf)) | (apply Grows.mk; (first | exact Grow.refl _ | assumption); (conv => whnf)))))
      exact ⟨m + 1, ⟨rfl, rfl, rfl, rfl, congrArg (fun z => some (Value.int .i64 z)) (w_succ (by omega)), trivial⟩, ⟨hml, htm.next ho (hto.1 rfl), rfl⟩, by show _ - (m + 1) < _ - m; omega⟩
    | false =>
      (try (conv => whnf)); (repeat ((fail_if_success (with_reducible refine And.intro ?_ ?_)); (fail_if_success (with_reducible refine Exists.intro ?_ ?_)); (first | (apply Ob.of; (first | with_reducible assumption | with_reducible exact ex20 _ _ | with_reducible exact ex21 _ _ | with_reducible exact ex30 _ _ _ | with_reducible exact ex31 _ _ _ | with_reducible exact ex32 _ _ _ | rfl | (exact ald rfl rfl (by assumption) rfl) | (exact ald_agg rfl rfl rfl (by assumption) rfl)); (conv => whnf)) | (apply bIf.yes; (first | assumption | rfl); (conv => whnf)) | (apply bIf.no; (first | assumption | rfl); (conv => whnf)) | ((with_reducible refine Ob.load (by with_unfolding_all assumption) ?_); (conv => whnf)) | (apply Grows.mk; (first | exact Grow.refl _ | assumption); (conv => whnf)))))
      refine ⟨.inr ⟨rfl, fun ⟨_, _, c', L', h1, h2, h3, h4, h5, h6, _⟩ => ?_⟩, g4⟩
      obtain ⟨rfl, rfl⟩ := uL h1 h5
      have := hto.2 (h6 m o hml ho)
      simp at this
  · have d1 : decide ((m : Int) < (b.ops.length : Int)) = false := decide_eq_false (by omega)
    have hme : m = b.ops.length := by omega
    rw [hme] at htm
    obtain ⟨o, ho⟩ := get_lt (L := b.ops) (m := b.ops.length - 1) (by omega)
    obtain ⟨bo, _, _, _, i1, _, _, _, i2⟩ := ldx_op hb.ops ho
    have i3 := (i2 H3 g4).2
    have w : IntKind.i64.wrap ((b.ops.length : Int) - 1) = ((b.ops.length - 1 : Nat) : Int) := by rw [wrap_i64 (by omega) (by omega)]; omega
    rw [← w] at i1
    have hlast : o.kind = lastK b.ops := by
      unfold lastK kindAt
      rw [show ((b.ops.length : Int) - 1).toNat = b.ops.length - 1 by omega, List.getD_eq_getElem?_getD, ho]
      rfl
    rw [hlast] at i3
    (try (conv => whnf)); (repeat' ((fail_if_success (with_reducible refine And.intro ?_ ?_)); (fail_if_success (with_reducible refine Exists.intro ?_ ?_)); (first | (first | (apply Ob.of; (first | with_reducible assumption | with_reducible exact ex20 _ _ | with_reducible exact ex21 _ _ | with_reducible exact ex30 _ _ _ | with_reducible exact ex31 _ _ _ | with_reducible exact ex32 _ _ _ | rfl | (exact ald rfl rfl (by assumption) rfl) | (exact ald_agg rfl rfl rfl (by assumption) rfl)); (conv => whnf)) | (apply bIf.yes; (first | assumption | rfl); (conv => whnf)) | (apply bIf.no; (first | assumption | rfl); (conv => whnf)) | ((with_reducible refine Ob.load (by with_unfolding_all assumption) ?_); (conv => whnf)) | (apply Grows.mk; (first | exact Grow.refl _ | assumption); (conv => whnf))) | (apply bIf.of <;> intro hc <;> (conv => whnf)))))
    all_goals clear i1 i3 b1 b2 b5 l4 d1 w
    all_goals ((try (simp only [ba_ne_t, ba_ne_f, ba_eq_t, ba_eq_f, bne_iff_ne, bne_eq_false_iff_eq, decide_eq_true_eq, decide_eq_false_iff_not, beq_iff_eq, beq_eq_false_iff_ne, ne_eq, Bool.not_eq_true, Bool.not_eq_false, Bool.not_eq_true', Bool.not_eq_false'] at *)); (try simp only [Bool.false_eq_true, false_iff, true_iff, Classical.not_not, Bool.not_false, Bool.not_true] at *))
    · refine ⟨.inr ⟨rfl, fun ⟨_, _, c', L', h1, h2, h3, h4, h5, h6, h7⟩ => ?_⟩, g4⟩
      omega
    · exact ⟨.inl ⟨rfl, hv, hF.1, c, L, hcf, hlim, hVals, hD, hCl, htm, by omega⟩, g4⟩
    · exact ⟨.inl ⟨rfl, hv, hF.1, c, L, hcf, hlim, hVals, hD, hCl, htm, by omega⟩, g4⟩
end Go.Proofs.Ytdlanbfbbopfhaa
