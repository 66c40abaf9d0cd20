/- The document of package ir: may an operation's parts, lists and values be? -/
import Derived.Test.YtfobbmllbbckkaaJIr1
set_option linter.unusedVariables false
set_option linter.unusedSimpArgs false
set_option maxRecDepth 20000
set_option maxHeartbeats 8000000
namespace Go.Proofs.Ytfobbmllbbckkaa
open Go Ax
/-- The parts of an operation that are no registers. -/
def noReg (t : Nat) : Bool := decide (t ≠ 82 ∧ t ≠ 114)
def OthP (m : Lims) (o : OpX) : Prop :=
  (1 ≤ o.kind ∧ o.kind ≤ 30) ∧ (noReg (fl o.kind 0) = true → partP m (fl o.kind 0) o.a) ∧ (noReg (fl o.kind 1) = true → partP m (fl o.kind 1) o.b) ∧ (noReg (fl o.kind 2) = true → partP m (fl o.kind 2) o.c) ∧ (noReg (fl o.kind 3) = true → partP m (fl o.kind 3) o.d)
structure LimOK (m : Lims) : Prop where
  gl : 0 ≤ m.gl ∧ m.gl ≤ 1000000
  st : 0 ≤ m.st ∧ m.st ≤ 1000000
  nc : 0 ≤ m.nc ∧ m.nc ≤ 4294967296
  np : 0 ≤ m.np ∧ m.np ≤ 4294967296
  no : 0 ≤ m.no ∧ m.no ≤ 4294967296
theorem others_ax {H : Heap} {p : ProgT} {ps cs kv ov dv rv cv mv : Value} {c : CodeT} {b : BodyX} {f : Nat} (o : OpX) (hp : RL 1 strR H ps p.2.1) (hcs : RL 5 codeR H cs p.2.2) (hb : BodyIn H b kv ov dv) (hF : b.F = (f : Int)) (hf : p.2.2[f]? = some c) (hm : LimOK (limsOf p c b))
    (hi : o.a ≤ 9223372036854775807 ∧ o.b ≤ 9223372036854775807 ∧ o.c ≤ 9223372036854775807 ∧ o.d ≤ 9223372036854775807) :
    AX Try.prog 32 #[progV p ps cs, bodyV b kv ov dv, opV o rv cv mv] H (fun v H' => (∃ t, v = .bool t ∧ (t = true ↔ OthP (limsOf p c b) o)) ∧ H' = H) := by
  refine AX.quiet ?_
  suffices hh : AX Try.prog 32 #[progV p ps cs, bodyV b kv ov dv, opV o rv cv mv] H (fun v H' => (∃ t, v = .bool t ∧ (t = true ↔ OthP (limsOf p c b) o)) ∧ Grow H H') from hh.mono fun v _ ⟨⟨b, e, k⟩, g⟩ => ⟨e ▸ plain_bool _, ⟨b, e, k⟩, g⟩
  refine AX.body (n := 297) (rs := [.tmp 6]) Try.func32 rfl (by decide) rfl rfl (bC_sound _ _ _ _ ?_)
  (conv => whnf)
  refine Ob2.box rfl fun q1 H1 hq1 a1 g1 => ?_
  (conv => whnf)
  refine Ob2.box rfl fun q2 H2 hq2 a2 g2 => ?_
  (conv => whnf)
  refine Ob2.box rfl fun q3 H3 hq3 a3 g3 => ?_
  have b1 := hblk_of (g3.at (g2.at a1))
  have b2 := hblk_of (g3.at a2)
  have b3 := hblk_of a3
  have g := (g1.trans g2).trans g3
  have l1 : alen Try.prog 22 ps H3 = some (.int .i64 p.2.1.length) := hp.len rfl _
  have l2 : alen Try.prog 26 kv H3 = some (.int .i64 b.consts.length) := hb.con.len rfl _
  have l3 : alen Try.prog 27 ov H3 = some (.int .i64 b.ops.length) := hb.ops.len rfl _
  obtain ⟨bq, i1, i2⟩ := ldx_code hcs hf
  have i3 := (i2 H3 g).2
  rw [← hF] at i1
  obtain ⟨⟨m1, m2⟩, ⟨m3, m4⟩, ⟨m5, m6⟩, ⟨m7, m8⟩, ⟨m9, m10⟩⟩ := hm
  dsimp only [limsOf] at m1 m2 m3 m4 m5 m6 m7 m8 m9 m10
  have w1 : IntKind.i64.wrap ((p.2.1.length : Int) - 1) = (p.2.1.length : Int) - 1 := wrap_i64 (by omega) (by omega)
  have w2 : IntKind.i64.wrap ((b.consts.length : Int) - 1) = (b.consts.length : Int) - 1 := wrap_i64 (by omega) (by omega)
  have w3 : IntKind.i64.wrap ((b.ops.length : Int) - 1) = (b.ops.length : Int) - 1 := wrap_i64 (by omega) (by omega)
  have w4 : IntKind.i64.wrap (p.1 - 1) = p.1 - 1 := wrap_i64 (by omega) (by omega)
  have w5 : IntKind.i64.wrap (c.2.2.1 - 1) = c.2.2.1 - 1 := wrap_i64 (by omega) (by omega)
  clear g1 g2 g3 a1 a2 a3 hp hcs hb i2
  (try (conv => whnf)); (repeat ((fail_if_success (with_reducible refine And.intro ?_ ?_)); (fail_if_success (with_reducible refine Exists.intro ?_ ?_)); (first | (apply Ob.of; (first | with_reducible assumption | with_reducible exact ex20 _ _ | with_reducible exact ex21 _ _ | with_reducible exact ex30 _ _ _ | with_reducible exact ex31 _ _ _ | with_reducible exact ex32 _ _ _ | rfl | (exact ald rfl rfl (by assumption) rfl) | (exact ald_agg rfl rfl rfl (by assumption) rfl)); (conv => whnf)) | (apply bIf.yes; (first | assumption | rfl); (conv => whnf)) | (apply bIf.no; (first | assumption | rfl); (conv => whnf)) | ((with_reducible refine Ob.load (by with_unfolding_all assumption) ?_); (conv => whnf)) | (apply Grows.mk; (first | exact Grow.refl _ | assumption); (conv => whnf)))))
  apply SW.drawG [(0, [], [16, 17, 18, 19, 20, 21, 22, 23, 24, 25, 26], false), (1, [(12, 0)], [12, 16, 17, 18, 19, 20, 21, 22, 23, 24, 25, 26], false), (2, [(12, 0), (13, 1)], [12, 13, 16, 17, 18, 19, 20, 21, 22, 23, 24, 25, 26], false), (3, [(12, 0), (13, 1), (14, 2)], [12, 13, 14, 16, 17, 18, 19, 20, 21, 22, 23, 24, 25, 26], false), (4, [], [12, 13, 14, 15, 19, 20, 21, 22, 23, 24, 25, 26, 7], false), (5, [(16, 4)], [12, 13, 14, 15, 16, 19, 20, 21, 22, 23, 24, 25, 26, 7], false), (6, [(16, 4), (17, 5)], [12, 13, 14, 15, 16, 17, 19, 20, 21, 22, 23, 24, 25, 26, 7], false), (7, [], [12, 13, 14, 15, 16, 17, 18, 21, 22, 7, 8], false), (8, [(19, 7)], [12, 13, 14, 15, 16, 17, 18, 19, 21, 22, 7, 8], false), (9, [], [12, 13, 14, 15, 16, 17, 18, 19, 20, 7, 8], false), (10, [(21, 9)], [12, 13, 14, 15, 16, 17, 18, 19, 20, 21, 7, 8], false), (11, [(19, 7), (20, 8), (21, 9), (22, 10)], [12, 13, 14, 15, 16, 17, 18, 19, 20, 21, 22, 7, 8], false), (12, [(19, 7), (20, 8), (21, 9), (22, 10), (23, 11)], [12, 13, 14, 15, 16, 17, 18, 19, 20, 21, 22, 23, 7, 8], false), (13, [(19, 7), (20, 8), (21, 9), (22, 10), (23, 11), (24, 12)], [12, 13, 14, 15, 16, 17, 18, 19, 20, 21, 22, 23, 24, 7, 8], false), (14, [(19, 7), (20, 8), (21, 9), (22, 10), (23, 11), (24, 12), (25, 13)], [12, 13, 14, 15, 16, 17, 18, 19, 20, 21, 22, 23, 24, 25, 7, 8], false), (15, [(12, 0), (13, 1), (14, 2), (15, 3)], [12, 13, 14, 15, 16, 17, 18, 19, 20, 21, 22, 23, 24, 25, 26], false), (16, [(12, 0), (13, 1), (14, 2), (15, 3), (16, 4), (17, 5), (18, 6), (7, 15)], [12, 13, 14, 15, 16, 17, 18, 19, 20, 21, 22, 23, 24, 25, 26, 7], false), (17, [(12, 0), (13, 1), (14, 2), (15, 3), (16, 4), (17, 5), (18, 6), (19, 7), (20, 8), (21, 9), (22, 10), (23, 11), (24, 12), (25, 13), (26, 14), (7, 15), (8, 16)], [12, 13, 14, 15, 16, 17, 18, 19, 20, 21, 22, 23, 24, 25, 26, 7, 8], false)]
    [(12, 0), (13, 1), (14, 2), (15, 3), (16, 4), (17, 5), (18, 6), (19, 7), (20, 8), (21, 9), (22, 10), (23, 11), (24, 12), (25, 13), (26, 14), (7, 15), (8, 16), (9, 17)]
    [(3, _), (4, _), (5, _)] rfl (by kernel_rfl)
  case hF => exact ⟨rfl, rfl, rfl, trivial⟩
  obtain ⟨k, oa, ob, oc, od, orr, oca, opc, om⟩ := o
  dsimp only at b3 hi
  by_cases h : 1 ≤ k ∧ k ≤ 30
  rotate_left
  · (try (conv => whnf)); (repeat' ((fail_if_success (with_reducible refine And.intro ?_ ?_)); (fail_if_success (with_reducible refine Exists.intro ?_ ?_)); (first | ((with_reducible refine AX.id ?_); (first | (refine (in_ax _ _ _ _).mono ?_; (rintro _ X ⟨rfl, eX⟩; subst X; (conv => whnf))))) | (first | (apply Ob.of; (first | with_reducible assumption | with_reducible exact ex20 _ _ | with_reducible exact ex21 _ _ | with_reducible exact ex30 _ _ _ | with_reducible exact ex31 _ _ _ | with_reducible exact ex32 _ _ _ | rfl | (exact ald rfl rfl (by assumption) rfl) | (exact ald_agg rfl rfl rfl (by assumption) rfl)); (conv => whnf)) | (apply bIf.yes; (first | assumption | rfl); (conv => whnf)) | (apply bIf.no; (first | assumption | rfl); (conv => whnf)) | ((with_reducible refine Ob.load (by with_unfolding_all assumption) ?_); (conv => whnf)) | (apply Grows.mk; (first | exact Grow.refl _ | assumption); (conv => whnf))) | (apply bIf.of <;> intro hc <;> (conv => whnf)))))
    all_goals first
      | (refine ⟨⟨false, rfl, ?_⟩, g⟩; simp only [Bool.false_eq_true, false_iff]; exact fun hh => h hh.1)
      | (exfalso; clear b1 b2 b3 l1 l2 l3 i1 i3 g; ((try (simp only [ba_ne_t, ba_ne_f, ba_eq_t, ba_eq_f, bne_iff_ne, bne_eq_false_iff_eq, decide_eq_true_eq, decide_eq_false_iff_not, beq_iff_eq, beq_eq_false_iff_ne, ne_eq, Bool.not_eq_true, Bool.not_eq_false, Bool.not_eq_true', Bool.not_eq_false'] at *)); (try simp only [Bool.false_eq_true, false_iff, true_iff, Classical.not_not, Bool.not_false, Bool.not_true] at *)); dsimp only [OpX.kind] at *; omega)
  · rcases thirty h.1 h.2 with rfl | rfl | rfl | rfl | rfl | rfl | rfl | rfl | rfl | rfl | rfl | rfl | rfl | rfl | rfl | rfl | rfl | rfl | rfl | rfl | rfl | rfl | rfl | rfl | rfl | rfl | rfl | rfl | rfl | rfl
    all_goals (try (conv => whnf)); (repeat' ((fail_if_success (with_reducible refine And.intro ?_ ?_)); (fail_if_success (with_reducible refine Exists.intro ?_ ?_)); (first | ((with_reducible refine AX.id ?_); (first | (refine (in_ax _ _ _ _).mono ?_; (rintro _ X ⟨rfl, eX⟩; subst X; (conv => whnf))))) | (first | (apply Ob.of; (first | with_reducible assumption | with_reducible exact ex20 _ _ | with_reducible exact ex21 _ _ | with_reducible exact ex30 _ _ _ | with_reducible exact ex31 _ _ _ | with_reducible exact ex32 _ _ _ | rfl | (exact ald rfl rfl (by assumption) rfl) | (exact ald_agg rfl rfl rfl (by assumption) rfl)); (conv => whnf)) | (apply bIf.yes; (first | assumption | rfl); (conv => whnf)) | (apply bIf.no; (first | assumption | rfl); (conv => whnf)) | ((with_reducible refine Ob.load (by with_unfolding_all assumption) ?_); (conv => whnf)) | (apply Grows.mk; (first | exact Grow.refl _ | assumption); (conv => whnf))) | (apply bIf.of <;> intro hc <;> (conv => whnf)))))
    all_goals refine ⟨⟨_, rfl, ?_⟩, g⟩
    all_goals clear b1 b2 b3 l1 l2 l3 i1 i3 g h
    all_goals ((try (simp only [ba_ne_t, ba_ne_f, ba_eq_t, ba_eq_f, bne_iff_ne, bne_eq_false_iff_eq, decide_eq_true_eq, decide_eq_false_iff_not, beq_iff_eq, beq_eq_false_iff_ne, ne_eq, Bool.not_eq_true, Bool.not_eq_false, Bool.not_eq_true', Bool.not_eq_false'] at *)); (try simp only [Bool.false_eq_true, false_iff, true_iff, Classical.not_not, Bool.not_false, Bool.not_true] at *))
    all_goals simp only [OthP, OpX.kind, OpX.a, OpX.b, OpX.c, OpX.d, fl, fldN, fldL, w1, w2, w3, w4, w5] at *
    all_goals simp [noReg, partP, limsOf] at *
    all_goals first | omega | grind
end Go.Proofs.Ytfobbmllbbckkaa
/- The document of package ir: may an operation's lists be, may values be? -/
set_option linter.unusedVariables false
set_option linter.unusedSimpArgs false
set_option maxRecDepth 20000
set_option maxHeartbeats 8000000
namespace Go.Proofs.Ytfobbmllbbckkaa
open Go Ax
def ListsR (o : OpX) : Prop :=
  leastP o.kind o.c ≤ o.regs.length ∧ (o.regs.length : Int) ≤ mostP o.kind o.c ∧ (o.kind ≠ 30 → o.cases.length = 0) ∧ (o.kind = 30 → 1 ≤ o.cases.length ∧ o.cases.length ≤ 4) ∧ CasesP o.cases
theorem ListsR.iff {m : Int} {o : OpX} : listsP m o ↔ ListsR o ∧ RegsP m o.regs := by
  constructor
  · rintro ⟨h1, h2, h3, h4, h5⟩
    refine ⟨⟨h1, h2, h4, fun h => ⟨(h5 h).1, (h5 h).2.1⟩, ?_⟩, h3⟩
    by_cases h : o.kind = 30
    · exact (h5 h).2.2
    · have := List.length_eq_zero_iff.1 (h4 h)
      rw [this]
      intro x hx
      simp at hx
  · rintro ⟨⟨h1, h2, h4, h5, h6⟩, h3⟩
    exact ⟨h1, h2, h3, h4, fun h => ⟨(h5 h).1, (h5 h).2, h6⟩⟩
theorem refLists_ax {H : Heap} {rv cv mv : Value} {o : OpX} (hr : RL 1 intR H rv o.regs) (hc : RL 3 caseR H cv o.cases) (hC : o.cases.length < 4294967296) :
    AX Try.prog 33 #[opV o rv cv mv] H (fun v H' => (∃ t, v = .bool t ∧ (t = true ↔ ListsR o)) ∧ H' = H) := by
  refine AX.quiet ?_
  suffices hh : AX Try.prog 33 #[opV o rv cv mv] H (fun v H' => (∃ t, v = .bool t ∧ (t = true ↔ ListsR o)) ∧ Grow H H') from hh.mono fun v _ ⟨⟨b, e, k⟩, g⟩ => ⟨e ▸ plain_bool _, ⟨b, e, k⟩, g⟩
  refine AX.body (n := 92) (rs := [.tmp 2]) Try.func33 rfl (by decide) rfl rfl (bC_sound _ _ _ _ ?_)
  (conv => whnf)
  refine Ob2.box rfl fun q1 H1 hq1 a1 g => ?_
  have b1 := hblk_of a1
  have l1 : alen Try.prog 38 rv H1 = some (.int .i64 o.regs.length) := hr.len rfl _
  have l2 : alen Try.prog 40 cv H1 = some (.int .i64 o.cases.length) := hc.len rfl _
  have hcs := hc
  clear hr hc a1
  (try (conv => whnf)); (repeat' ((fail_if_success (with_reducible refine And.intro ?_ ?_)); (fail_if_success (with_reducible refine Exists.intro ?_ ?_)); (first | ((with_reducible refine AX.id ?_); (first | (refine (rbuilt_ax _ _).mono ?_; (rintro _ X ⟨rfl, eX⟩; subst X; (conv => whnf))) | (refine (in_ax _ _ _ _).mono ?_; (rintro _ X ⟨rfl, eX⟩; subst X; (conv => whnf))))) | (first | (apply Ob.of; (first | with_reducible assumption | with_reducible exact ex20 _ _ | with_reducible exact ex21 _ _ | with_reducible exact ex30 _ _ _ | with_reducible exact ex31 _ _ _ | with_reducible exact ex32 _ _ _ | rfl | (exact ald rfl rfl (by assumption) rfl) | (exact ald_agg rfl rfl rfl (by assumption) rfl)); (conv => whnf)) | (apply bIf.yes; (first | assumption | rfl); (conv => whnf)) | (apply bIf.no; (first | assumption | rfl); (conv => whnf)) | ((with_reducible refine Ob.load (by with_unfolding_all assumption) ?_); (conv => whnf)) | (apply Grows.mk; (first | exact Grow.refl _ | assumption); (conv => whnf))) | (apply bIf.of <;> intro hc <;> (conv => whnf)))))
  all_goals first
    | (refine ⟨⟨false, rfl, ?_⟩, g⟩
       clear b1 l1 l2 hcs g
       ((try (simp only [ba_ne_t, ba_ne_f, ba_eq_t, ba_eq_f, bne_iff_ne, bne_eq_false_iff_eq, decide_eq_true_eq, decide_eq_false_iff_not, beq_iff_eq, beq_eq_false_iff_ne, ne_eq, Bool.not_eq_true, Bool.not_eq_false, Bool.not_eq_true', Bool.not_eq_false'] at *)); (try simp only [Bool.false_eq_true, false_iff, true_iff, Classical.not_not, Bool.not_false, Bool.not_true] at *))
       rintro ⟨h1, h2, h3, h4, h5⟩
       unfold leastP at h1
       unfold mostP at h2
       grind)
    | skip
  all_goals
    have hR : leastP o.kind o.c ≤ o.regs.length ∧ (o.regs.length : Int) ≤ mostP o.kind o.c ∧ (o.kind ≠ 30 → o.cases.length = 0) ∧ (o.kind = 30 → 1 ≤ o.cases.length ∧ o.cases.length ≤ 4) := by
      clear b1 l1 l2 hcs g
      ((try (simp only [ba_ne_t, ba_ne_f, ba_eq_t, ba_eq_f, bne_iff_ne, bne_eq_false_iff_eq, decide_eq_true_eq, decide_eq_false_iff_not, beq_iff_eq, beq_eq_false_iff_ne, ne_eq, Bool.not_eq_true, Bool.not_eq_false, Bool.not_eq_true', Bool.not_eq_false'] at *)); (try simp only [Bool.false_eq_true, false_iff, true_iff, Classical.not_not, Bool.not_false, Bool.not_true] at *))
      unfold leastP mostP
      grind
    refine SW.loop (α := Nat) (fun k => [(1, .pointer (some ⟨q1, 0, none⟩)), (7, .int .i64 (k : Int))]) (fun k H' => k ≤ o.cases.length ∧ (∀ (i : Nat) x, i < k → o.cases[i]? = some x → CaseP x) ∧ H' = H1) (fun k => o.cases.length - k) ⟨0, ⟨rfl, rfl, trivial⟩, by omega, fun i s h => by omega, rfl⟩ ?_
    rintro k X ⟨hk, ht, e⟩
    subst X
    refine bC_sound _ _ _ _ ?_
    by_cases hml : k < o.cases.length
    · have d1 : decide ((k : Int) < (o.cases.length : Int)) = true := decide_eq_true (by omega)
      obtain ⟨x, hx⟩ := get_lt hml
      obtain ⟨p, i1, i2⟩ := ldx_case hcs hx
      obtain ⟨_, i3, i4, i5⟩ := i2 H1 g
      (try (conv => whnf)); (repeat' ((fail_if_success (with_reducible refine And.intro ?_ ?_)); (fail_if_success (with_reducible refine Exists.intro ?_ ?_)); (first | ((with_reducible refine AX.id ?_); (first | (refine (in_ax _ _ _ _).mono ?_; (rintro _ X ⟨rfl, eX⟩; subst X; (conv => whnf))))) | (first | (apply Ob.of; (first | with_reducible assumption | with_reducible exact ex20 _ _ | with_reducible exact ex21 _ _ | with_reducible exact ex30 _ _ _ | with_reducible exact ex31 _ _ _ | with_reducible exact ex32 _ _ _ | rfl | (exact ald rfl rfl (by assumption) rfl) | (exact ald_agg rfl rfl rfl (by assumption) rfl)); (conv => whnf)) | (apply bIf.yes; (first | assumption | rfl); (conv => whnf)) | (apply bIf.no; (first | assumption | rfl); (conv => whnf)) | ((with_reducible refine Ob.load (by with_unfolding_all assumption) ?_); (conv => whnf)) | (apply Grows.mk; (first | exact Grow.refl _ | assumption); (conv => whnf))) | (apply bIf.of <;> intro hc <;> (conv => whnf)))))
      all_goals first
        | (refine ⟨⟨false, rfl, ?_⟩, g⟩
           simp only [Bool.false_eq_true, false_iff]
           intro h
           have := h.2.2.2.2 x (List.mem_of_getElem? hx)
           unfold CaseP at this
           clear b1 l1 l2 hcs g i1 i2 i3 i4 i5 ht hR
           ((try (simp only [ba_ne_t, ba_ne_f, ba_eq_t, ba_eq_f, bne_iff_ne, bne_eq_false_iff_eq, decide_eq_true_eq, decide_eq_false_iff_not, beq_iff_eq, beq_eq_false_iff_ne, ne_eq, Bool.not_eq_true, Bool.not_eq_false, Bool.not_eq_true', Bool.not_eq_false'] at *)); (try simp only [Bool.false_eq_true, false_iff, true_iff, Classical.not_not, Bool.not_false, Bool.not_true] at *))
           omega)
        | (refine ⟨k + 1, ⟨rfl, congrArg (fun z => some (Value.int .i64 z)) (w_succ (by omega)), trivial⟩, ⟨hml, fun i s hi hs => ?_, rfl⟩, by show o.cases.length - (k + 1) < o.cases.length - k; omega⟩
           by_cases him : i = k
           · subst him; rw [hx] at hs; simp only [Option.some.injEq] at hs; subst hs
             unfold CaseP
             clear b1 l1 l2 hcs g i1 i2 i3 i4 i5 ht hR
             ((try (simp only [ba_ne_t, ba_ne_f, ba_eq_t, ba_eq_f, bne_iff_ne, bne_eq_false_iff_eq, decide_eq_true_eq, decide_eq_false_iff_not, beq_iff_eq, beq_eq_false_iff_ne, ne_eq, Bool.not_eq_true, Bool.not_eq_false, Bool.not_eq_true', Bool.not_eq_false'] at *)); (try simp only [Bool.false_eq_true, false_iff, true_iff, Classical.not_not, Bool.not_false, Bool.not_true] at *))
             omega
           · exact ht i s (by omega) hs)
    · have d1 : decide ((k : Int) < (o.cases.length : Int)) = false := decide_eq_false (by omega)
      (try (conv => whnf)); (repeat ((fail_if_success (with_reducible refine And.intro ?_ ?_)); (fail_if_success (with_reducible refine Exists.intro ?_ ?_)); (first | (apply Ob.of; (first | with_reducible assumption | with_reducible exact ex20 _ _ | with_reducible exact ex21 _ _ | with_reducible exact ex30 _ _ _ | with_reducible exact ex31 _ _ _ | with_reducible exact ex32 _ _ _ | rfl | (exact ald rfl rfl (by assumption) rfl) | (exact ald_agg rfl rfl rfl (by assumption) rfl)); (conv => whnf)) | (apply bIf.yes; (first | assumption | rfl); (conv => whnf)) | (apply bIf.no; (first | assumption | rfl); (conv => whnf)) | ((with_reducible refine Ob.load (by with_unfolding_all assumption) ?_); (conv => whnf)) | (apply Grows.mk; (first | exact Grow.refl _ | assumption); (conv => whnf)))))
      refine ⟨⟨true, rfl, fun _ => ⟨hR.1, hR.2.1, hR.2.2.1, hR.2.2.2, fun x hx => ?_⟩, fun _ => rfl⟩, g⟩
      obtain ⟨i, hi, rfl⟩ := List.getElem_of_mem hx
      exact ht i o.cases[i] (by omega) (List.getElem?_eq_getElem hi)
theorem refRight_ax (H : Heap) (v : V) (h0 : v.2.1 ≤ 9223372036854775807) : AX Try.prog 29 #[valV v] H (fun r H' => (∃ b, r = .bool b ∧ (b = true ↔ ValP v)) ∧ H' = H) := by
  refine AX.quiet ?_
  suffices hh : AX Try.prog 29 #[valV v] H (fun r H' => (∃ b, r = .bool b ∧ (b = true ↔ ValP v)) ∧ Grow H H') from hh.mono fun v _ ⟨⟨b, e, k⟩, g⟩ => ⟨e ▸ plain_bool _, ⟨b, e, k⟩, g⟩
  refine AX.body (n := 43) (rs := [.tmp 2]) Try.func29 rfl (by decide) rfl rfl (bC_sound _ _ _ _ ?_)
  (conv => whnf)
  refine Ob2.box rfl fun q1 H1 hq1 a1 g => ?_
  have b1 := hblk_of a1
  (try (conv => whnf)); (repeat' ((fail_if_success (with_reducible refine And.intro ?_ ?_)); (fail_if_success (with_reducible refine Exists.intro ?_ ?_)); (first | (first | (apply Ob.of; (first | with_reducible assumption | with_reducible exact ex20 _ _ | with_reducible exact ex21 _ _ | with_reducible exact ex30 _ _ _ | with_reducible exact ex31 _ _ _ | with_reducible exact ex32 _ _ _ | rfl | (exact ald rfl rfl (by assumption) rfl) | (exact ald_agg rfl rfl rfl (by assumption) rfl)); (conv => whnf)) | (apply bIf.yes; (first | assumption | rfl); (conv => whnf)) | (apply bIf.no; (first | assumption | rfl); (conv => whnf)) | ((with_reducible refine Ob.load (by with_unfolding_all assumption) ?_); (conv => whnf)) | (apply Grows.mk; (first | exact Grow.refl _ | assumption); (conv => whnf))) | (apply bIf.of <;> intro hc <;> (conv => whnf)))))
  all_goals refine ⟨⟨_, rfl, ?_⟩, g⟩
  all_goals clear b1 a1 g hq1
  all_goals unfold ValP
  all_goals ((try (simp only [ba_ne_t, ba_ne_f, ba_eq_t, ba_eq_f, bne_iff_ne, bne_eq_false_iff_eq, decide_eq_true_eq, decide_eq_false_iff_not, beq_iff_eq, beq_eq_false_iff_ne, ne_eq, Bool.not_eq_true, Bool.not_eq_false, Bool.not_eq_true', Bool.not_eq_false'] at *)); (try simp only [Bool.false_eq_true, false_iff, true_iff, Classical.not_not, Bool.not_false, Bool.not_true] at *))
  all_goals grind
end Go.Proofs.Ytfobbmllbbckkaa
/- The document of package ir: what an operation must be, told in the document's way. -/
set_option linter.unusedVariables false
set_option linter.unusedSimpArgs false
set_option maxRecDepth 20000
set_option maxHeartbeats 8000000
namespace Go.Proofs.Ytfobbmllbbckkaa
open Go Ax
theorem fl_some {k : Int} (h : 1 ≤ k ∧ k ≤ 30) : fl k 3 ≠ 114 ∧ fl k 3 ≠ 82 ∧ fl k 1 ≠ 82 ∧ fl k 2 ≠ 82 := by
  rcases thirty h.1 h.2 with rfl | rfl | rfl | rfl | rfl | rfl | rfl | rfl | rfl | rfl | rfl | rfl | rfl | rfl | rfl | rfl | rfl | rfl | rfl | rfl | rfl | rfl | rfl | rfl | rfl | rfl | rfl | rfl | rfl | rfl <;> decide
theorem part_r {m : Lims} {t : Nat} {n : Int} (h : t = 114 ∨ t = 82) : partP m t n ↔ 0 ≤ n ∧ n < m.rg := by
  rcases h with rfl | rfl <;> simp [partP]
def RefP (m : Lims) (o : OpX) : Prop := OthP m o ∧ ListsR o ∧ RegsP m.rg (usesL o) ∧ defL o < m.rg ∧ ¬ defL o < -1 ∧ ¬ (defL o = -1 ∧ isW o.kind = true)
theorem regs_uses {m : Int} {o : OpX} : RegsP m (usesL o) ↔ (fl o.kind 0 = 114 → 0 ≤ o.a ∧ o.a < m) ∧ (fl o.kind 1 = 114 → 0 ≤ o.b ∧ o.b < m) ∧ (fl o.kind 2 = 114 → 0 ≤ o.c ∧ o.c < m) ∧ RegsP m o.regs := by
  have e : ∀ i, isR o.kind i = decide (fl o.kind i = 114) := fun i => by
    unfold isR
    by_cases h : fl o.kind i = 114
    · rw [h]; rfl
    · rw [decide_eq_false h]; cases hb : Nat.beq _ _ with | false => rfl | true => exact absurd (Nat.eq_of_beq_eq_true hb) h
  unfold RegsP usesL
  rw [e, e, e]
  simp only [decide_eq_true_eq, List.mem_append, List.nil_append]
  constructor
  · intro h
    exact ⟨fun h0 => h _ (.inl (.inl (.inl (by simp [h0])))), fun h0 => h _ (.inl (.inl (.inr (by simp [h0])))), fun h0 => h _ (.inl (.inr (by simp [h0]))), fun x hx => h x (.inr hx)⟩
  · rintro ⟨h0, h1, h2, h3⟩ x (((hx | hx) | hx) | hx)
    · by_cases h : fl o.kind 0 = 114
      · rw [if_pos h] at hx; simp at hx; subst hx; exact h0 h
      · rw [if_neg h] at hx; simp at hx
    · by_cases h : fl o.kind 1 = 114
      · rw [if_pos h] at hx; simp at hx; subst hx; exact h1 h
      · rw [if_neg h] at hx; simp at hx
    · by_cases h : fl o.kind 2 = 114
      · rw [if_pos h] at hx; simp at hx; subst hx; exact h2 h
      · rw [if_neg h] at hx; simp at hx
    · exact h3 x hx
theorem isW_eq (k : Int) : isW k = decide (fl k 0 = 82) := by
  unfold isW
  by_cases h : fl k 0 = 82
  · rw [h]; rfl
  · rw [decide_eq_false h]; cases hb : Nat.beq _ _ with | false => rfl | true => exact absurd (Nat.eq_of_beq_eq_true hb) h
theorem parts4 {m : Lims} {o : OpX} : PartsP m o 4 ↔ partP m (fl o.kind 0) o.a ∧ partP m (fl o.kind 1) o.b ∧ partP m (fl o.kind 2) o.c ∧ partP m (fl o.kind 3) o.d := by
  constructor
  · intro h; exact ⟨h 0 (by decide), h 1 (by decide), h 2 (by decide), h 3 (by decide)⟩
  · rintro ⟨h0, h1, h2, h3⟩ i hi
    match i, hi with
    | 0, _ => exact h0
    | 1, _ => exact h1
    | 2, _ => exact h2
    | 3, _ => exact h3
theorem refP_iff {m : Lims} {o : OpX} (h0 : 0 ≤ m.rg) : RefP m o ↔ (1 ≤ o.kind ∧ o.kind ≤ 30) ∧ listsP m.rg o ∧ PartsP m o 4 := by
  rw [parts4, ListsR.iff]
  unfold RefP OthP
  rw [regs_uses]
  have hn : ∀ t : Nat, noReg t = true ↔ t ≠ 114 ∧ t ≠ 82 := fun t => by unfold noReg; rw [decide_eq_true_eq]; omega
  rw [hn, hn, hn, hn]
  have hd : defL o = if fl o.kind 0 = 82 then o.a else -1 := by unfold defL; rw [isW_eq]; simp
  rw [hd, isW_eq, decide_eq_true_eq]
  constructor
  · rintro ⟨⟨hk, a0, a1, a2, a3⟩, hl, ⟨r0, r1, r2, r3⟩, d1, d2, d3⟩
    obtain ⟨f1, f2, f3, f4⟩ := fl_some hk
    refine ⟨hk, ⟨hl, r3⟩, ?_, ?_, ?_, a3 ⟨f1, f2⟩⟩
    · by_cases e : fl o.kind 0 = 114
      · exact (part_r (.inl e)).2 (r0 e)
      · by_cases e2 : fl o.kind 0 = 82
        · rw [if_pos e2] at d1 d2 d3
          exact (part_r (.inr e2)).2 ⟨by omega, d1⟩
        · exact a0 ⟨e, e2⟩
    · by_cases e : fl o.kind 1 = 114
      · exact (part_r (.inl e)).2 (r1 e)
      · exact a1 ⟨e, f3⟩
    · by_cases e : fl o.kind 2 = 114
      · exact (part_r (.inl e)).2 (r2 e)
      · exact a2 ⟨e, f4⟩
  · rintro ⟨hk, ⟨hl, r3⟩, p0, p1, p2, p3⟩
    refine ⟨⟨hk, fun _ => p0, fun _ => p1, fun _ => p2, fun _ => p3⟩, hl, ⟨fun e => (part_r (.inl e)).1 p0, fun e => (part_r (.inl e)).1 p1, fun e => (part_r (.inl e)).1 p2, r3⟩, ?_, ?_, ?_⟩
    · by_cases e : fl o.kind 0 = 82
      · rw [if_pos e]; exact ((part_r (.inr e)).1 p0).2
      · rw [if_neg e]; omega
    · by_cases e : fl o.kind 0 = 82
      · rw [if_pos e]; have := ((part_r (.inr e)).1 p0).1; omega
      · rw [if_neg e]; omega
    · rintro ⟨e1, e2⟩
      rw [if_pos e2] at e1
      have := ((part_r (.inr e2)).1 p0).1; omega
theorem opP_ref {m : Lims} {L : List Int} {ops : List OpX} {at_ : Int} {o : OpX} (h0 : 0 ≤ m.rg) : opP m L ops at_ o ↔ RefP m o ∧ PcP m L o ∧ JumpP ops at_ o := by
  rw [refP_iff h0]
  unfold opP
  constructor
  · rintro ⟨h1, h2, h3, h4, h5⟩; exact ⟨⟨h1, h2, h3⟩, h4, h5⟩
  · rintro ⟨⟨h1, h2, h3⟩, h4, h5⟩; exact ⟨h1, h2, h3, h4, h5⟩
end Go.Proofs.Ytfobbmllbbckkaa
/- The document of package ir: Check, whole. -/
set_option linter.unusedVariables false
set_option linter.unusedSimpArgs false
set_option maxRecDepth 20000
set_option maxHeartbeats 8000000
namespace Go.Proofs.Ytfobbmllbbckkaa
open Go Ax
/-- The numbers of a body's operations are Go's, and their lists are no longer than lists may be. -/
def IntB (b : BodyX) : Prop := ∀ o ∈ b.ops, (o.a ≤ 9223372036854775807 ∧ o.b ≤ 9223372036854775807 ∧ o.c ≤ 9223372036854775807 ∧ o.d ≤ 9223372036854775807) ∧ o.regs.length ≤ 100000
theorem RefP.rg {m : Lims} {o : OpX} (h : RefP m o) : 1 ≤ o.kind ∧ o.kind ≤ 30 := h.1.1
theorem OthP.jump {m : Lims} {o : OpX} (h : OthP m o) (k : jumps o.kind = true) : 0 ≤ o.a ∧ o.a < m.no := by
  have hk : o.kind = 17 ∨ o.kind = 18 ∨ o.kind = 19 := by simp only [jumps, decide_eq_true_eq] at k; omega
  have hf : fl o.kind 0 = 116 := by rcases hk with e | e | e <;> rw [e] <;> rfl
  have h0 := h.2.1
  rw [hf] at h0
  exact h0 rfl
theorem refCheck_ax {H : Heap} {p : ProgT} {ps cs kv ov dv : Value} {b : BodyX} (hp : RL 1 strR H ps p.2.1) (hcs : RL 5 codeR H cs p.2.2) (hL : p.2.1.length < 4294967296) (hbI : BodyIn H b kv ov dv) (hsm : SmallB b) (hib : IntB b) :
    AX Try.prog 10 #[progV p ps cs, bodyV b kv ov dv] H (fun v H' => IrV p b v ∧ H' = H) := by
  refine AX.quiet ?_
  suffices hh : AX Try.prog 10 #[progV p ps cs, bodyV b kv ov dv] H (fun v H' => IrV p b v ∧ Grow H H') from hh.mono fun v _ ⟨e, g⟩ => ⟨e.plain, e, g⟩
  refine AX.body (n := 208) (rs := [.tmp 4]) Try.func10 rfl (by decide) rfl rfl (bC_sound _ _ _ _ ?_)
  (conv => whnf)
  refine Ob2.box rfl fun q1 H1 hq1 a1 g1 => ?_
  (conv => whnf)
  refine Ob2.box rfl fun q2 H2 hq2 a2 g2 => ?_
  have b1 := hblk_of (g2.at a1)
  have b2 := hblk_of a2
  have g := g1.trans g2
  have l2 : alen Try.prog 23 cs H2 = some (.int .i64 p.2.2.length) := hcs.len rfl _
  have l3 : alen Try.prog 26 kv H2 = some (.int .i64 b.consts.length) := hbI.con.len rfl _
  have l4 : alen Try.prog 27 ov H2 = some (.int .i64 b.ops.length) := hbI.ops.len rfl _
  have l5 : alen Try.prog 28 dv H2 = some (.int .i64 b.deps.length) := hbI.deps.len rfl _
  clear a1 a2 g1
  (try (conv => whnf)); (repeat ((fail_if_success (with_reducible refine And.intro ?_ ?_)); (fail_if_success (with_reducible refine Exists.intro ?_ ?_)); (first | (apply Ob.of; (first | with_reducible assumption | with_reducible exact ex20 _ _ | with_reducible exact ex21 _ _ | with_reducible exact ex30 _ _ _ | with_reducible exact ex31 _ _ _ | with_reducible exact ex32 _ _ _ | rfl | (exact ald rfl rfl (by assumption) rfl) | (exact ald_agg rfl rfl rfl (by assumption) rfl)); (conv => whnf)) | (apply bIf.yes; (first | assumption | rfl); (conv => whnf)) | (apply bIf.no; (first | assumption | rfl); (conv => whnf)) | ((with_reducible refine Ob.load (by with_unfolding_all assumption) ?_); (conv => whnf)) | (apply Grows.mk; (first | exact Grow.refl _ | assumption); (conv => whnf)))))
  apply SW.drawG [(0, [], [], false), (1, [(12, 0)], [12], true), (2, [(12, 0), (13, 1)], [12, 13], false), (3, [(12, 0), (13, 1), (14, 2)], [12, 13, 14], false), (4, [(12, 0), (13, 1), (14, 2), (15, 3)], [12, 13, 14, 15, 18, 19, 20, 21], false), (5, [(12, 0), (13, 1), (14, 2), (15, 3), (16, 4)], [12, 13, 14, 15, 16, 18, 19, 20, 21], false), (6, [(12, 0), (13, 1), (14, 2), (15, 3)], [12, 13, 14, 15, 16, 17], false), (7, [(12, 0), (13, 1), (14, 2), (15, 3), (18, 6)], [12, 13, 14, 15, 16, 17, 18], false), (8, [(12, 0), (13, 1), (14, 2), (15, 3), (18, 6), (19, 7)], [12, 13, 14, 15, 16, 17, 18, 19], false), (9, [(12, 0), (13, 1), (14, 2), (15, 3), (18, 6), (19, 7), (20, 8)], [12, 13, 14, 15, 16, 17, 18, 19, 20], false), (10, [(12, 0), (13, 1), (14, 2), (15, 3), (16, 4), (17, 5), (18, 6), (19, 7), (20, 8), (21, 9)], [12, 13, 14, 15, 16, 17, 18, 19, 20, 21], true), (11, [(12, 0), (13, 1), (14, 2), (15, 3), (16, 4), (17, 5), (18, 6), (19, 7), (20, 8), (21, 9), (22, 10)], [12, 13, 14, 15, 16, 17, 18, 19, 20, 21, 22], false), (12, [(12, 0), (13, 1), (14, 2), (15, 3), (16, 4), (17, 5), (18, 6), (19, 7), (20, 8), (21, 9), (22, 10), (23, 11)], [12, 13, 14, 15, 16, 17, 18, 19, 20, 21, 22, 23], false), (13, [(12, 0), (13, 1), (14, 2), (15, 3), (16, 4), (17, 5), (18, 6), (19, 7), (20, 8), (21, 9), (22, 10), (23, 11), (24, 12)], [12, 13, 14, 15, 16, 17, 18, 19, 20, 21, 22, 23, 24], false), (14, [(12, 0), (13, 1), (14, 2), (15, 3), (16, 4), (17, 5), (18, 6), (19, 7), (20, 8), (21, 9), (22, 10), (23, 11), (24, 12), (25, 13)], [12, 13, 14, 15, 16, 17, 18, 19, 20, 21, 22, 23, 24, 25, 28, 29, 30, 31, 32, 33, 34], false), (15, [(12, 0), (13, 1), (14, 2), (15, 3), (16, 4), (17, 5), (18, 6), (19, 7), (20, 8), (21, 9), (22, 10), (23, 11), (24, 12), (25, 13), (26, 14)], [12, 13, 14, 15, 16, 17, 18, 19, 20, 21, 22, 23, 24, 25, 26, 28, 29, 30, 31, 32, 33, 34], false), (16, [(12, 0), (13, 1), (14, 2), (15, 3), (16, 4), (17, 5), (18, 6), (19, 7), (20, 8), (21, 9), (22, 10), (23, 11), (24, 12), (25, 13)], [12, 13, 14, 15, 16, 17, 18, 19, 20, 21, 22, 23, 24, 25, 26, 27, 30, 31], false), (17, [(12, 0), (13, 1), (14, 2), (15, 3), (16, 4), (17, 5), (18, 6), (19, 7), (20, 8), (21, 9), (22, 10), (23, 11), (24, 12), (25, 13), (28, 16)], [12, 13, 14, 15, 16, 17, 18, 19, 20, 21, 22, 23, 24, 25, 26, 27, 28, 30, 31], false), (18, [(12, 0), (13, 1), (14, 2), (15, 3), (16, 4), (17, 5), (18, 6), (19, 7), (20, 8), (21, 9), (22, 10), (23, 11), (24, 12), (25, 13)], [12, 13, 14, 15, 16, 17, 18, 19, 20, 21, 22, 23, 24, 25, 26, 27, 28, 29], false), (19, [(12, 0), (13, 1), (14, 2), (15, 3), (16, 4), (17, 5), (18, 6), (19, 7), (20, 8), (21, 9), (22, 10), (23, 11), (24, 12), (25, 13), (30, 18)], [12, 13, 14, 15, 16, 17, 18, 19, 20, 21, 22, 23, 24, 25, 26, 27, 28, 29, 30], false), (20, [(12, 0), (13, 1), (14, 2), (15, 3), (16, 4), (17, 5), (18, 6), (19, 7), (20, 8), (21, 9), (22, 10), (23, 11), (24, 12), (25, 13), (28, 16), (29, 17), (30, 18), (31, 19)], [12, 13, 14, 15, 16, 17, 18, 19, 20, 21, 22, 23, 24, 25, 26, 27, 28, 29, 30, 31], false), (21, [(12, 0), (13, 1), (14, 2), (15, 3), (16, 4), (17, 5), (18, 6), (19, 7), (20, 8), (21, 9), (22, 10), (23, 11), (24, 12), (25, 13), (28, 16), (29, 17), (30, 18), (31, 19), (32, 20)], [12, 13, 14, 15, 16, 17, 18, 19, 20, 21, 22, 23, 24, 25, 26, 27, 28, 29, 30, 31, 32], false), (22, [(12, 0), (13, 1), (14, 2), (15, 3), (16, 4), (17, 5), (18, 6), (19, 7), (20, 8), (21, 9), (22, 10), (23, 11), (24, 12), (25, 13), (28, 16), (29, 17), (30, 18), (31, 19), (32, 20), (33, 21)], [12, 13, 14, 15, 16, 17, 18, 19, 20, 21, 22, 23, 24, 25, 26, 27, 28, 29, 30, 31, 32, 33], false), (23, [(12, 0), (13, 1), (14, 2), (15, 3), (16, 4), (17, 5), (18, 6), (19, 7), (20, 8), (21, 9), (22, 10), (23, 11), (24, 12), (25, 13), (26, 14), (27, 15), (28, 16), (29, 17), (30, 18), (31, 19), (32, 20), (33, 21), (34, 22)], [12, 13, 14, 15, 16, 17, 18, 19, 20, 21, 22, 23, 24, 25, 26, 27, 28, 29, 30, 31, 32, 33, 34], true), (24, [(12, 0), (13, 1), (14, 2), (15, 3), (16, 4), (17, 5), (18, 6), (19, 7), (20, 8), (21, 9), (22, 10), (23, 11), (24, 12), (25, 13), (26, 14), (27, 15), (28, 16), (29, 17), (30, 18), (31, 19), (32, 20), (33, 21), (34, 22), (35, 23)], [12, 13, 14, 15, 16, 17, 18, 19, 20, 21, 22, 23, 24, 25, 26, 27, 28, 29, 30, 31, 32, 33, 34, 35], false), (25, [(12, 0), (13, 1), (14, 2), (15, 3), (16, 4), (17, 5), (18, 6), (19, 7), (20, 8), (21, 9), (22, 10), (23, 11), (24, 12), (25, 13), (26, 14), (27, 15), (28, 16), (29, 17), (30, 18), (31, 19), (32, 20), (33, 21), (34, 22), (35, 23), (36, 24)], [12, 13, 14, 15, 16, 17, 18, 19, 20, 21, 22, 23, 24, 25, 26, 27, 28, 29, 30, 31, 32, 33, 34, 35, 36], false), (26, [(12, 0), (13, 1), (14, 2), (15, 3), (16, 4), (17, 5), (18, 6), (19, 7), (20, 8), (21, 9), (22, 10), (23, 11), (24, 12), (25, 13), (26, 14), (27, 15), (28, 16), (29, 17), (30, 18), (31, 19), (32, 20), (33, 21), (34, 22), (35, 23), (36, 24), (37, 25)], [12, 13, 14, 15, 16, 17, 18, 19, 20, 21, 22, 23, 24, 25, 26, 27, 28, 29, 30, 31, 32, 33, 34, 35, 36, 37], false), (27, [(12, 0), (13, 1), (14, 2), (15, 3), (16, 4), (17, 5), (18, 6), (19, 7), (20, 8), (21, 9), (22, 10), (23, 11), (24, 12), (25, 13), (26, 14), (27, 15), (28, 16), (29, 17), (30, 18), (31, 19), (32, 20), (33, 21), (34, 22), (35, 23), (36, 24), (37, 25), (38, 26)], [12, 13, 14, 15, 16, 17, 18, 19, 20, 21, 22, 23, 24, 25, 26, 27, 28, 29, 30, 31, 32, 33, 34, 35, 36, 37, 38], false), (28, [(12, 0), (13, 1), (14, 2), (15, 3), (16, 4), (17, 5), (18, 6), (19, 7), (20, 8), (21, 9), (22, 10), (23, 11), (24, 12), (25, 13), (26, 14), (27, 15), (28, 16), (29, 17), (30, 18), (31, 19), (32, 20), (33, 21), (34, 22), (35, 23), (36, 24), (37, 25), (38, 26), (39, 27)], [12, 13, 14, 15, 16, 17, 18, 19, 20, 21, 22, 23, 24, 25, 26, 27, 28, 29, 30, 31, 32, 33, 34, 35, 36, 37, 38, 39], false), (29, [(12, 0), (13, 1), (14, 2), (15, 3), (16, 4), (17, 5), (18, 6), (19, 7), (20, 8), (21, 9), (22, 10), (23, 11), (24, 12), (25, 13), (26, 14), (27, 15), (28, 16), (29, 17), (30, 18), (31, 19), (32, 20), (33, 21), (34, 22), (35, 23), (36, 24), (37, 25), (38, 26), (39, 27), (40, 28)], [12, 13, 14, 15, 16, 17, 18, 19, 20, 21, 22, 23, 24, 25, 26, 27, 28, 29, 30, 31, 32, 33, 34, 35, 36, 37, 38, 39, 40], false), (30, [(12, 0), (13, 1), (14, 2), (15, 3), (16, 4), (17, 5), (18, 6), (19, 7), (20, 8), (21, 9), (22, 10), (23, 11), (24, 12), (25, 13), (26, 14), (27, 15), (28, 16), (29, 17), (30, 18), (31, 19), (32, 20), (33, 21), (34, 22), (35, 23), (36, 24), (37, 25), (38, 26), (39, 27), (40, 28), (41, 29)], [12, 13, 14, 15, 16, 17, 18, 19, 20, 21, 22, 23, 24, 25, 26, 27, 28, 29, 30, 31, 32, 33, 34, 35, 36, 37, 38, 39, 40, 41], false), (31, [(12, 0), (13, 1), (14, 2), (15, 3), (16, 4), (17, 5), (18, 6), (19, 7), (20, 8), (21, 9), (22, 10), (23, 11), (24, 12), (25, 13), (26, 14), (27, 15), (28, 16), (29, 17), (30, 18), (31, 19), (32, 20), (33, 21), (34, 22), (35, 23), (36, 24), (37, 25), (38, 26), (39, 27), (40, 28), (41, 29), (42, 30)], [12, 13, 14, 15, 16, 17, 18, 19, 20, 21, 22, 23, 24, 25, 26, 27, 28, 29, 30, 31, 32, 33, 34, 35, 36, 37, 38, 39, 40, 41, 42], false), (32, [(12, 0), (13, 1), (14, 2), (15, 3), (16, 4), (17, 5), (18, 6), (19, 7), (20, 8), (21, 9), (22, 10), (23, 11), (24, 12), (25, 13), (26, 14), (27, 15), (28, 16), (29, 17), (30, 18), (31, 19), (32, 20), (33, 21), (34, 22), (35, 23), (36, 24), (37, 25), (38, 26), (39, 27), (40, 28), (41, 29), (42, 30), (43, 31)], [12, 13, 14, 15, 16, 17, 18, 19, 20, 21, 22, 23, 24, 25, 26, 27, 28, 29, 30, 31, 32, 33, 34, 35, 36, 37, 38, 39, 40, 41, 42, 43], false), (33, [(12, 0), (13, 1), (14, 2), (15, 3), (16, 4), (17, 5), (18, 6), (19, 7), (20, 8), (21, 9), (22, 10), (23, 11), (24, 12), (25, 13), (26, 14), (27, 15), (28, 16), (29, 17), (30, 18), (31, 19), (32, 20), (33, 21), (34, 22), (35, 23), (36, 24), (37, 25), (38, 26), (39, 27), (40, 28), (41, 29), (42, 30), (43, 31), (44, 32)], [12, 13, 14, 15, 16, 17, 18, 19, 20, 21, 22, 23, 24, 25, 26, 27, 28, 29, 30, 31, 32, 33, 34, 35, 36, 37, 38, 39, 40, 41, 42, 43, 44], false), (34, [(12, 0), (13, 1), (14, 2), (15, 3), (16, 4), (17, 5), (18, 6), (19, 7), (20, 8), (21, 9), (22, 10), (23, 11), (24, 12), (25, 13), (26, 14), (27, 15), (28, 16), (29, 17), (30, 18), (31, 19), (32, 20), (33, 21), (34, 22), (35, 23), (36, 24), (37, 25), (38, 26), (39, 27), (40, 28), (41, 29), (42, 30), (43, 31), (44, 32), (45, 33)], [12, 13, 14, 15, 16, 17, 18, 19, 20, 21, 22, 23, 24, 25, 26, 27, 28, 29, 30, 31, 32, 33, 34, 35, 36, 37, 38, 39, 40, 41, 42, 43, 44, 45], false), (35, [(12, 0), (13, 1), (14, 2), (15, 3), (16, 4), (17, 5), (18, 6), (19, 7), (20, 8), (21, 9), (22, 10), (23, 11), (24, 12), (25, 13), (26, 14), (27, 15), (28, 16), (29, 17), (30, 18), (31, 19), (32, 20), (33, 21), (34, 22), (35, 23), (36, 24), (37, 25), (38, 26), (39, 27), (40, 28), (41, 29), (42, 30), (43, 31), (44, 32), (45, 33), (46, 34)], [12, 13, 14, 15, 16, 17, 18, 19, 20, 21, 22, 23, 24, 25, 26, 27, 28, 29, 30, 31, 32, 33, 34, 35, 36, 37, 38, 39, 40, 41, 42, 43, 44, 45, 46], false), (36, [(12, 0), (13, 1), (14, 2), (15, 3), (16, 4), (17, 5), (18, 6), (19, 7), (20, 8), (21, 9), (22, 10), (23, 11), (24, 12), (25, 13), (26, 14), (27, 15), (28, 16), (29, 17), (30, 18), (31, 19), (32, 20), (33, 21), (34, 22), (35, 23), (36, 24), (37, 25), (38, 26), (39, 27), (40, 28), (41, 29), (42, 30), (43, 31), (44, 32), (45, 33), (46, 34), (47, 35)], [12, 13, 14, 15, 16, 17, 18, 19, 20, 21, 22, 23, 24, 25, 26, 27, 28, 29, 30, 31, 32, 33, 34, 35, 36, 37, 38, 39, 40, 41, 42, 43, 44, 45, 46, 47], true), (37, [(12, 0), (13, 1), (14, 2), (15, 3), (16, 4), (17, 5), (18, 6), (19, 7), (20, 8), (21, 9), (22, 10), (23, 11), (24, 12), (25, 13), (26, 14), (27, 15), (28, 16), (29, 17), (30, 18), (31, 19), (32, 20), (33, 21), (34, 22), (35, 23), (36, 24), (37, 25), (38, 26), (39, 27), (40, 28), (41, 29), (42, 30), (43, 31), (44, 32), (45, 33), (46, 34), (47, 35), (48, 36)], [12, 13, 14, 15, 16, 17, 18, 19, 20, 21, 22, 23, 24, 25, 26, 27, 28, 29, 30, 31, 32, 33, 34, 35, 36, 37, 38, 39, 40, 41, 42, 43, 44, 45, 46, 47, 48], false), (38, [(12, 0), (13, 1), (14, 2), (15, 3), (16, 4), (17, 5), (18, 6), (19, 7), (20, 8), (21, 9), (22, 10), (23, 11), (24, 12), (25, 13), (26, 14), (27, 15), (28, 16), (29, 17), (30, 18), (31, 19), (32, 20), (33, 21), (34, 22), (35, 23), (36, 24), (37, 25), (38, 26), (39, 27), (40, 28), (41, 29), (42, 30), (43, 31), (44, 32), (45, 33), (46, 34), (47, 35), (48, 36), (49, 37)], [12, 13, 14, 15, 16, 17, 18, 19, 20, 21, 22, 23, 24, 25, 26, 27, 28, 29, 30, 31, 32, 33, 34, 35, 36, 37, 38, 39, 40, 41, 42, 43, 44, 45, 46, 47, 48, 49], false), (39, [(12, 0), (13, 1), (14, 2), (15, 3), (16, 4), (17, 5), (18, 6), (19, 7), (20, 8), (21, 9), (22, 10), (23, 11), (24, 12), (25, 13), (26, 14), (27, 15), (28, 16), (29, 17), (30, 18), (31, 19), (32, 20), (33, 21), (34, 22), (35, 23), (36, 24), (37, 25), (38, 26), (39, 27), (40, 28), (41, 29), (42, 30), (43, 31), (44, 32), (45, 33), (46, 34), (47, 35), (48, 36), (49, 37), (50, 38)], [12, 13, 14, 15, 16, 17, 18, 19, 20, 21, 22, 23, 24, 25, 26, 27, 28, 29, 30, 31, 32, 33, 34, 35, 36, 37, 38, 39, 40, 41, 42, 43, 44, 45, 46, 47, 48, 49, 50], false), (40, [(12, 0), (13, 1), (14, 2), (15, 3), (16, 4), (17, 5), (18, 6), (19, 7), (20, 8), (21, 9), (22, 10), (23, 11), (24, 12), (25, 13), (26, 14), (27, 15), (28, 16), (29, 17), (30, 18), (31, 19), (32, 20), (33, 21), (34, 22), (35, 23), (36, 24), (37, 25), (38, 26), (39, 27), (40, 28), (41, 29), (42, 30), (43, 31), (44, 32), (45, 33), (46, 34), (47, 35), (48, 36), (49, 37), (50, 38), (51, 39)], [12, 13, 14, 15, 16, 17, 18, 19, 20, 21, 22, 23, 24, 25, 26, 27, 28, 29, 30, 31, 32, 33, 34, 35, 36, 37, 38, 39, 40, 41, 42, 43, 44, 45, 46, 47, 48, 49, 50, 51], false), (41, [(12, 0), (13, 1), (14, 2), (15, 3), (16, 4), (17, 5), (18, 6), (19, 7), (20, 8), (21, 9), (22, 10), (23, 11), (24, 12), (25, 13), (26, 14), (27, 15), (28, 16), (29, 17), (30, 18), (31, 19), (32, 20), (33, 21), (34, 22), (35, 23), (36, 24), (37, 25), (38, 26), (39, 27), (40, 28), (41, 29), (42, 30), (43, 31), (44, 32), (45, 33), (46, 34), (47, 35), (48, 36), (49, 37), (50, 38), (51, 39), (52, 40)], [12, 13, 14, 15, 16, 17, 18, 19, 20, 21, 22, 23, 24, 25, 26, 27, 28, 29, 30, 31, 32, 33, 34, 35, 36, 37, 38, 39, 40, 41, 42, 43, 44, 45, 46, 47, 48, 49, 50, 51, 52], false), (42, [(12, 0), (13, 1), (14, 2), (15, 3), (16, 4), (17, 5), (18, 6), (19, 7), (20, 8), (21, 9), (22, 10), (23, 11), (24, 12), (25, 13), (26, 14), (27, 15), (28, 16), (29, 17), (30, 18), (31, 19), (32, 20), (33, 21), (34, 22), (35, 23), (36, 24), (37, 25), (38, 26), (39, 27), (40, 28), (41, 29), (42, 30), (43, 31), (44, 32), (45, 33), (46, 34), (47, 35), (48, 36), (49, 37), (50, 38), (51, 39), (52, 40), (53, 41)], [12, 13, 14, 15, 16, 17, 18, 19, 20, 21, 22, 23, 24, 25, 26, 27, 28, 29, 30, 31, 32, 33, 34, 35, 36, 37, 38, 39, 40, 41, 42, 43, 44, 45, 46, 47, 48, 49, 50, 51, 52, 53], false), (43, [(12, 0), (13, 1), (14, 2), (15, 3), (16, 4), (17, 5), (18, 6), (19, 7), (20, 8), (21, 9), (22, 10), (23, 11), (24, 12), (25, 13), (26, 14), (27, 15), (28, 16), (29, 17), (30, 18), (31, 19), (32, 20), (33, 21), (34, 22), (35, 23), (36, 24), (37, 25), (38, 26), (39, 27), (40, 28), (41, 29), (42, 30), (43, 31), (44, 32), (45, 33), (46, 34), (47, 35), (48, 36), (49, 37), (50, 38), (51, 39), (52, 40), (53, 41), (54, 42)], [12, 13, 14, 15, 16, 17, 18, 19, 20, 21, 22, 23, 24, 25, 26, 27, 28, 29, 30, 31, 32, 33, 34, 35, 36, 37, 38, 39, 40, 41, 42, 43, 44, 45, 46, 47, 48, 49, 50, 51, 52, 53, 54], false), (44, [(12, 0), (13, 1), (14, 2), (15, 3), (16, 4), (17, 5), (18, 6), (19, 7), (20, 8), (21, 9), (22, 10), (23, 11), (24, 12), (25, 13), (26, 14), (27, 15), (28, 16), (29, 17), (30, 18), (31, 19), (32, 20), (33, 21), (34, 22), (35, 23), (36, 24), (37, 25), (38, 26), (39, 27), (40, 28), (41, 29), (42, 30), (43, 31), (44, 32), (45, 33), (46, 34), (47, 35), (48, 36), (49, 37), (50, 38), (51, 39), (52, 40), (53, 41), (54, 42), (55, 43)], [12, 13, 14, 15, 16, 17, 18, 19, 20, 21, 22, 23, 24, 25, 26, 27, 28, 29, 30, 31, 32, 33, 34, 35, 36, 37, 38, 39, 40, 41, 42, 43, 44, 45, 46, 47, 48, 49, 50, 51, 52, 53, 54, 55], false)]
    [(12, 0), (13, 1), (14, 2), (15, 3), (16, 4), (17, 5), (18, 6), (19, 7), (20, 8), (21, 9), (22, 10), (23, 11), (24, 12), (25, 13), (26, 14), (27, 15), (28, 16), (29, 17), (30, 18), (31, 19), (32, 20), (33, 21), (34, 22), (35, 23), (36, 24), (37, 25), (38, 26), (39, 27), (40, 28), (41, 29), (42, 30), (43, 31), (44, 32), (45, 33), (46, 34), (47, 35), (48, 36), (49, 37), (50, 38), (51, 39), (52, 40), (53, 41), (54, 42), (55, 43), (56, 44)]
    [(2, _), (3, _), (4, _)] rfl (by kernel_rfl)
  case hF => exact ⟨rfl, rfl, rfl, trivial⟩
  (try (conv => whnf)); (repeat ((fail_if_success (with_reducible refine And.intro ?_ ?_)); (fail_if_success (with_reducible refine Exists.intro ?_ ?_)); (first | (apply Ob.of; (first | with_reducible assumption | with_reducible exact ex20 _ _ | with_reducible exact ex21 _ _ | with_reducible exact ex30 _ _ _ | with_reducible exact ex31 _ _ _ | with_reducible exact ex32 _ _ _ | rfl | (exact ald rfl rfl (by assumption) rfl) | (exact ald_agg rfl rfl rfl (by assumption) rfl)); (conv => whnf)) | (apply bIf.yes; (first | assumption | rfl); (conv => whnf)) | (apply bIf.no; (first | assumption | rfl); (conv => whnf)) | ((with_reducible refine Ob.load (by with_unfolding_all assumption) ?_); (conv => whnf)) | (apply Grows.mk; (first | exact Grow.refl _ | assumption); (conv => whnf)))))
  refine (rcheck_ax (strR.grow hp g) (codeR.grow hcs g) hL).mono ?_
  rintro v X ⟨hv, e⟩
  subst X
  rcases hv with ⟨rfl, hv⟩ | ⟨rfl, hv⟩
  rotate_left
  · (try (conv => whnf)); (repeat ((fail_if_success (with_reducible refine And.intro ?_ ?_)); (fail_if_success (with_reducible refine Exists.intro ?_ ?_)); (first | (apply Ob.of; (first | with_reducible assumption | with_reducible exact ex20 _ _ | with_reducible exact ex21 _ _ | with_reducible exact ex30 _ _ _ | with_reducible exact ex31 _ _ _ | with_reducible exact ex32 _ _ _ | rfl | (exact ald rfl rfl (by assumption) rfl) | (exact ald_agg rfl rfl rfl (by assumption) rfl)); (conv => whnf)) | (apply bIf.yes; (first | assumption | rfl); (conv => whnf)) | (apply bIf.no; (first | assumption | rfl); (conv => whnf)) | ((with_reducible refine Ob.load (by with_unfolding_all assumption) ?_); (conv => whnf)) | (apply Grows.mk; (first | exact Grow.refl _ | assumption); (conv => whnf)))))
    exact ⟨.inr ⟨rfl, fun h => hv h.1⟩, g⟩
  have hv' := hv
  obtain ⟨hg1, hg2, hg3, hg4, hg5, _, hr⟩ := hv'
  have w0 : IntKind.i64.wrap ((p.2.2.length : Int) - 1) = (p.2.2.length : Int) - 1 := wrap_i64 (by omega) (by omega)
  by_cases hF : 0 ≤ b.F ∧ b.F ≤ (p.2.2.length : Int) - 1
  rotate_left
  · have e1 : (!decide (0 ≤ b.F ∧ b.F ≤ IntKind.i64.wrap ((p.2.2.length : Int) - 1))) = true := by rw [w0, decide_eq_false hF]; rfl
    (try (conv => whnf)); (repeat' ((fail_if_success (with_reducible refine And.intro ?_ ?_)); (fail_if_success (with_reducible refine Exists.intro ?_ ?_)); (first | ((with_reducible refine AX.id ?_); (first | (refine (in_ax _ _ _ _).mono ?_; (rintro _ X ⟨rfl, eX⟩; subst X; (conv => whnf))))) | (first | (apply Ob.of; (first | with_reducible assumption | with_reducible exact ex20 _ _ | with_reducible exact ex21 _ _ | with_reducible exact ex30 _ _ _ | with_reducible exact ex31 _ _ _ | with_reducible exact ex32 _ _ _ | rfl | (exact ald rfl rfl (by assumption) rfl) | (exact ald_agg rfl rfl rfl (by assumption) rfl)); (conv => whnf)) | (apply bIf.yes; (first | assumption | rfl); (conv => whnf)) | (apply bIf.no; (first | assumption | rfl); (conv => whnf)) | ((with_reducible refine Ob.load (by with_unfolding_all assumption) ?_); (conv => whnf)) | (apply Grows.mk; (first | exact Grow.refl _ | assumption); (conv => whnf))) | (apply bIf.of <;> intro hc <;> (conv => whnf)))))
    refine ⟨.inr ⟨rfl, fun h => hF ?_⟩, g⟩
    obtain ⟨_, h0, c, L, hc, _⟩ := h
    exact ⟨h0, by have := lt_of_get hc; omega⟩
  have e1 : (!decide (0 ≤ b.F ∧ b.F ≤ IntKind.i64.wrap ((p.2.2.length : Int) - 1))) = false := by rw [w0, decide_eq_true hF]; rfl
  obtain ⟨f, hf⟩ : ∃ f : Nat, b.F = (f : Int) := ⟨b.F.toNat, by omega⟩
  obtain ⟨c, hc⟩ := get_lt (L := p.2.2) (m := f) (by omega)
  obtain ⟨bq, i1, i2⟩ := ldx_code hcs hc
  have i3 := (i2 H2 g).1
  rw [← hf] at i1
  have hcf : p.2.2[b.F.toNat]? = some c := by rw [hf, Int.toNat_natCast]; exact hc
  have un : ∀ {c' : CodeT}, p.2.2[b.F.toNat]? = some c' → c' = c := fun h => by rw [hcf] at h; simp only [Option.some.injEq] at h; exact h.symm
  by_cases hlim : BLim p c b
  rotate_left
  · have bad : IrV p b (.int .i64 16) ∧ Grow H H2 := ⟨.inr ⟨rfl, fun ⟨_, _, c', L, h1, h2, _⟩ => hlim (by rw [← un h1]; exact h2)⟩, g⟩
    (try (conv => whnf)); (repeat' ((fail_if_success (with_reducible refine And.intro ?_ ?_)); (fail_if_success (with_reducible refine Exists.intro ?_ ?_)); (first | ((with_reducible refine AX.id ?_); (first | (refine (in_ax _ _ _ _).mono ?_; (rintro _ X ⟨rfl, eX⟩; subst X; (conv => whnf))))) | (first | (apply Ob.of; (first | with_reducible assumption | with_reducible exact ex20 _ _ | with_reducible exact ex21 _ _ | with_reducible exact ex30 _ _ _ | with_reducible exact ex31 _ _ _ | with_reducible exact ex32 _ _ _ | rfl | (exact ald rfl rfl (by assumption) rfl) | (exact ald_agg rfl rfl rfl (by assumption) rfl)); (conv => whnf)) | (apply bIf.yes; (first | assumption | rfl); (conv => whnf)) | (apply bIf.no; (first | assumption | rfl); (conv => whnf)) | ((with_reducible refine Ob.load (by with_unfolding_all assumption) ?_); (conv => whnf)) | (apply Grows.mk; (first | exact Grow.refl _ | assumption); (conv => whnf))) | (apply bIf.of <;> intro hc <;> (conv => whnf)))))
    all_goals first
      | exact bad
      | (exfalso; refine hlim ?_; clear bad b1 b2 i1 i2 i3 l2 l3 l4 l5; unfold BLim; ((try (simp only [ba_ne_t, ba_ne_f, ba_eq_t, ba_eq_f, bne_iff_ne, bne_eq_false_iff_eq, decide_eq_true_eq, decide_eq_false_iff_not, beq_iff_eq, beq_eq_false_iff_ne, ne_eq, Bool.not_eq_true, Bool.not_eq_false, Bool.not_eq_true', Bool.not_eq_false'] at *)); (try simp only [Bool.false_eq_true, false_iff, true_iff, Classical.not_not, Bool.not_false, Bool.not_true] at *)); omega)
  have hlim' := hlim
  unfold BLim at hlim'
  have t1 : (!decide (c.2.1 ≤ b.regs ∧ b.regs ≤ 88)) = false := by rw [decide_eq_true (by omega)]; rfl
  have t3 : decide ((b.consts.length : Int) > 4000) = false := decide_eq_false (by omega)
  have t4 : (!decide (1 ≤ (b.ops.length : Int) ∧ (b.ops.length : Int) ≤ 16000)) = false := by rw [decide_eq_true (by omega)]; rfl
  have t6 : decide ((b.deps.length : Int) > 200) = false := decide_eq_false (by omega)
  (try (conv => whnf)); (repeat' ((fail_if_success (with_reducible refine And.intro ?_ ?_)); (fail_if_success (with_reducible refine Exists.intro ?_ ?_)); (first | ((with_reducible refine AX.id ?_); (first | (refine (in_ax _ _ _ _).mono ?_; (rintro _ X ⟨rfl, eX⟩; subst X; (conv => whnf))))) | (first | (apply Ob.of; (first | with_reducible assumption | with_reducible exact ex20 _ _ | with_reducible exact ex21 _ _ | with_reducible exact ex30 _ _ _ | with_reducible exact ex31 _ _ _ | with_reducible exact ex32 _ _ _ | rfl | (exact ald rfl rfl (by assumption) rfl) | (exact ald_agg rfl rfl rfl (by assumption) rfl)); (conv => whnf)) | (apply bIf.yes; (first | assumption | rfl); (conv => whnf)) | (apply bIf.no; (first | assumption | rfl); (conv => whnf)) | ((with_reducible refine Ob.load (by with_unfolding_all assumption) ?_); (conv => whnf)) | (apply Grows.mk; (first | exact Grow.refl _ | assumption); (conv => whnf))) | (apply bIf.of <;> intro hc <;> (conv => whnf)))))
  clear t1 t3 t4 t6 i1 i2 i3 e1
  refine SW.loop (α := Nat) (fun m => [(2, .pointer (some ⟨q1, 0, none⟩)), (3, .pointer (some ⟨q2, 0, none⟩)), (5, .int .i64 (m : Int))]) (fun m X => m ≤ b.consts.length ∧ (∀ (i : Nat) x, i < m → b.consts[i]? = some x → ValP x) ∧ X = H2) (fun m => b.consts.length - m) ⟨0, ⟨rfl, rfl, rfl, trivial⟩, by omega, fun i o hi => by omega, rfl⟩ ?_
  rintro m X ⟨hm, htm, e⟩
  subst X
  refine bC_sound _ _ _ _ ?_
  by_cases hml : m < b.consts.length
  · have d1 : decide ((m : Int) < (b.consts.length : Int)) = true := decide_eq_true (by omega)
    obtain ⟨x, hx⟩ := get_lt hml
    obtain ⟨bq, i1, i2⟩ := ldx_val hbI.con hx
    have i3 := i2 H2 g
    (try (conv => whnf)); (repeat ((fail_if_success (with_reducible refine And.intro ?_ ?_)); (fail_if_success (with_reducible refine Exists.intro ?_ ?_)); (first | (apply Ob.of; (first | with_reducible assumption | with_reducible exact ex20 _ _ | with_reducible exact ex21 _ _ | with_reducible exact ex30 _ _ _ | with_reducible exact ex31 _ _ _ | with_reducible exact ex32 _ _ _ | rfl | (exact ald rfl rfl (by assumption) rfl) | (exact ald_agg rfl rfl rfl (by assumption) rfl)); (conv => whnf)) | (apply bIf.yes; (first | assumption | rfl); (conv => whnf)) | (apply bIf.no; (first | assumption | rfl); (conv => whnf)) | ((with_reducible refine Ob.load (by with_unfolding_all assumption) ?_); (conv => whnf)) | (apply Grows.mk; (first | exact Grow.refl _ | assumption); (conv => whnf)))))
    refine (refRight_ax H2 x (hsm.vals x (List.mem_of_getElem? hx))).mono ?_
    rintro _ X ⟨⟨t, rfl, ht⟩, e⟩
    subst X
    cases t with
    | true =>
      (try (conv => whnf)); (repeat ((fail_if_success (with_reducible refine And.intro ?_ ?_)); (fail_if_success (with_reducible refine Exists.intro ?_ ?_)); (first | (apply Ob.of; (first | with_reducible assumption | with_reducible exact ex20 _ _ | with_reducible exact ex21 _ _ | with_reducible exact ex30 _ _ _ | with_reducible exact ex31 _ _ _ | with_reducible exact ex32 _ _ _ | rfl | (exact ald rfl rfl (by assumption) rfl) | (exact ald_agg rfl rfl rfl (by assumption) rfl)); (conv => whnf)) | (apply bIf.yes; (first | assumption | rfl); (conv => whnf)) | (apply bIf.no; (first | assumption | rfl); (conv => whnf)) | ((with_reducible refine Ob.load (by with_unfolding_all assumption) ?_); (conv => whnf)) | (apply Grows.mk; (first | exact Grow.refl _ | assumption); (conv => whnf)))))
      refine ⟨m + 1, ⟨rfl, rfl, congrArg (fun z => some (Value.int .i64 z)) (w_succ (by omega)), trivial⟩, ⟨hml, fun i s hi hs => ?_, rfl⟩, by show _ - (m + 1) < _ - m; omega⟩
      by_cases him : i = m
      · subst him; rw [hx] at hs; simp only [Option.some.injEq] at hs; subst hs; exact ht.1 rfl
      · exact htm i s (by omega) hs
    | false =>
      (try (conv => whnf)); (repeat ((fail_if_success (with_reducible refine And.intro ?_ ?_)); (fail_if_success (with_reducible refine Exists.intro ?_ ?_)); (first | (apply Ob.of; (first | with_reducible assumption | with_reducible exact ex20 _ _ | with_reducible exact ex21 _ _ | with_reducible exact ex30 _ _ _ | with_reducible exact ex31 _ _ _ | with_reducible exact ex32 _ _ _ | rfl | (exact ald rfl rfl (by assumption) rfl) | (exact ald_agg rfl rfl rfl (by assumption) rfl)); (conv => whnf)) | (apply bIf.yes; (first | assumption | rfl); (conv => whnf)) | (apply bIf.no; (first | assumption | rfl); (conv => whnf)) | ((with_reducible refine Ob.load (by with_unfolding_all assumption) ?_); (conv => whnf)) | (apply Grows.mk; (first | exact Grow.refl _ | assumption); (conv => whnf)))))
      exact ⟨.inr ⟨rfl, fun ⟨_, _, c', L, h1, h2, h3, _⟩ => by have := ht.2 (h3 x (List.mem_of_getElem? hx)); simp at this⟩, g⟩
  have d1 : decide ((m : Int) < (b.consts.length : Int)) = false := decide_eq_false (by omega)
  have hVals : ValsP b.consts := fun x hx => by
    obtain ⟨i, hi, rfl⟩ := List.getElem_of_mem hx
    exact htm i _ (by omega) (List.getElem?_eq_getElem hi)
  clear htm hml
  (try (conv => whnf)); (repeat ((fail_if_success (with_reducible refine And.intro ?_ ?_)); (fail_if_success (with_reducible refine Exists.intro ?_ ?_)); (first | (apply Ob.of; (first | with_reducible assumption | with_reducible exact ex20 _ _ | with_reducible exact ex21 _ _ | with_reducible exact ex30 _ _ _ | with_reducible exact ex31 _ _ _ | with_reducible exact ex32 _ _ _ | rfl | (exact ald rfl rfl (by assumption) rfl) | (exact ald_agg rfl rfl rfl (by assumption) rfl)); (conv => whnf)) | (apply bIf.yes; (first | assumption | rfl); (conv => whnf)) | (apply bIf.no; (first | assumption | rfl); (conv => whnf)) | ((with_reducible refine Ob.load (by with_unfolding_all assumption) ?_); (conv => whnf)) | (apply Grows.mk; (first | exact Grow.refl _ | assumption); (conv => whnf)))))
  refine SW.loop (α := Nat) (fun m => [(2, .pointer (some ⟨q1, 0, none⟩)), (3, .pointer (some ⟨q2, 0, none⟩)), (6, .int .i64 (m : Int))]) (fun m X => m ≤ b.deps.length ∧ (∀ (i : Nat) x, i < m → b.deps[i]? = some x → DepP x) ∧ X = H2) (fun m => b.deps.length - m) ⟨0, ⟨rfl, rfl, rfl, trivial⟩, by omega, fun i o hi => by omega, rfl⟩ ?_
  clear d1 hm m
  rintro m X ⟨hm, htm, e⟩
  subst X
  refine bC_sound _ _ _ _ ?_
  by_cases hml : m < b.deps.length
  · have d1 : decide ((m : Int) < (b.deps.length : Int)) = true := decide_eq_true (by omega)
    obtain ⟨x, hx⟩ := get_lt hml
    obtain ⟨bq, i1, i2⟩ := ldx_dep hbI.deps hx
    obtain ⟨_, i3, i4⟩ := i2 H2 g
    (try (conv => whnf)); (repeat' ((fail_if_success (with_reducible refine And.intro ?_ ?_)); (fail_if_success (with_reducible refine Exists.intro ?_ ?_)); (first | (first | (apply Ob.of; (first | with_reducible assumption | with_reducible exact ex20 _ _ | with_reducible exact ex21 _ _ | with_reducible exact ex30 _ _ _ | with_reducible exact ex31 _ _ _ | with_reducible exact ex32 _ _ _ | rfl | (exact ald rfl rfl (by assumption) rfl) | (exact ald_agg rfl rfl rfl (by assumption) rfl)); (conv => whnf)) | (apply bIf.yes; (first | assumption | rfl); (conv => whnf)) | (apply bIf.no; (first | assumption | rfl); (conv => whnf)) | ((with_reducible refine Ob.load (by with_unfolding_all assumption) ?_); (conv => whnf)) | (apply Grows.mk; (first | exact Grow.refl _ | assumption); (conv => whnf))) | (apply bIf.of <;> intro hc <;> (conv => whnf)))))
    all_goals first
      | (refine ⟨.inr ⟨rfl, fun ⟨_, _, c', L, h1, h2, h3, h4, _⟩ => ?_⟩, g⟩
         have := h4 x (List.mem_of_getElem? hx)
         unfold DepP at this
         clear i1 i2 i3 i4 b1 b2 l2 l3 l4 l5 d1 htm
         ((try (simp only [ba_ne_t, ba_ne_f, ba_eq_t, ba_eq_f, bne_iff_ne, bne_eq_false_iff_eq, decide_eq_true_eq, decide_eq_false_iff_not, beq_iff_eq, beq_eq_false_iff_ne, ne_eq, Bool.not_eq_true, Bool.not_eq_false, Bool.not_eq_true', Bool.not_eq_false'] at *)); (try simp only [Bool.false_eq_true, false_iff, true_iff, Classical.not_not, Bool.not_false, Bool.not_true] at *))
         omega)
      | (refine ⟨m + 1, ⟨rfl, rfl, congrArg (fun z => some (Value.int .i64 z)) (w_succ (by omega)), trivial⟩, ⟨hml, fun i s hi hs => ?_, rfl⟩, by show _ - (m + 1) < _ - m; omega⟩
         by_cases him : i = m
         · subst him; rw [hx] at hs; simp only [Option.some.injEq] at hs; subst hs
           unfold DepP
           clear i1 i2 i3 i4 b1 b2 l2 l3 l4 l5 d1 htm
           ((try (simp only [ba_ne_t, ba_ne_f, ba_eq_t, ba_eq_f, bne_iff_ne, bne_eq_false_iff_eq, decide_eq_true_eq, decide_eq_false_iff_not, beq_iff_eq, beq_eq_false_iff_ne, ne_eq, Bool.not_eq_true, Bool.not_eq_false, Bool.not_eq_true', Bool.not_eq_false'] at *)); (try simp only [Bool.false_eq_true, false_iff, true_iff, Classical.not_not, Bool.not_false, Bool.not_true] at *))
           omega
         · exact htm i s (by omega) hs)
  have d1 : decide ((m : Int) < (b.deps.length : Int)) = false := decide_eq_false (by omega)
  have hDeps : DepsP b.deps := fun x hx => by
    obtain ⟨i, hi, rfl⟩ := List.getElem_of_mem hx
    exact htm i _ (by omega) (List.getElem?_eq_getElem hi)
  clear htm hml
  (try (conv => whnf)); (repeat ((fail_if_success (with_reducible refine And.intro ?_ ?_)); (fail_if_success (with_reducible refine Exists.intro ?_ ?_)); (first | (apply Ob.of; (first | with_reducible assumption | with_reducible exact ex20 _ _ | with_reducible exact ex21 _ _ | with_reducible exact ex30 _ _ _ | with_reducible exact ex31 _ _ _ | with_reducible exact ex32 _ _ _ | rfl | (exact ald rfl rfl (by assumption) rfl) | (exact ald_agg rfl rfl rfl (by assumption) rfl)); (conv => whnf)) | (apply bIf.yes; (first | assumption | rfl); (conv => whnf)) | (apply bIf.no; (first | assumption | rfl); (conv => whnf)) | ((with_reducible refine Ob.load (by with_unfolding_all assumption) ?_); (conv => whnf)) | (apply Grows.mk; (first | exact Grow.refl _ | assumption); (conv => whnf)))))
  refine (rDepths_ax (strR.grow hp g) (codeR.grow hcs g) hL b.F).mono ?_
  rintro sv H3 ⟨⟨L, hDL, hsv⟩, g3⟩
  have g4 := g.trans g3
  have b1 := g3.hblk b1
  have b2 := g3.hblk b2
  have hCl : Closed c L := by
    rcases hDL with ⟨c', _, h1, _, h2⟩ | ⟨h1, _⟩
    · rw [← un h1]; exact h2
    · rcases h1 with h1 | h1 | h1
      · omega
      · omega
      · exact absurd hv h1
  have uL : ∀ {c' L'}, p.2.2[b.F.toNat]? = some c' → Closed c' L' → c' = c ∧ L' = L := fun h1 h2 => by
    have := un h1
    subst this
    exact ⟨rfl, h2.uniq hCl⟩
  have hRc := hr f c hc
  have hlm := hRc.1
  unfold Lim at hlm
  have hLok : LimOK (limsOf p c b) := ⟨⟨hg1, by show p.1 ≤ _; omega⟩, ⟨by show 0 ≤ c.2.2.1; omega, by show c.2.2.1 ≤ _; omega⟩, ⟨by show 0 ≤ (b.consts.length : Int); omega, by show (b.consts.length : Int) ≤ _; omega⟩, ⟨by show 0 ≤ (p.2.1.length : Int); omega, by show (p.2.1.length : Int) ≤ _; omega⟩, ⟨by show 0 ≤ (b.ops.length : Int); omega, by show (b.ops.length : Int) ≤ _; omega⟩⟩
  have hrg : (limsOf p c b).rg = b.regs := rfl
  have hno : (limsOf p c b).no = b.ops.length := rfl
  have hLlen : L.length = c.ins.length := hCl.inv.1
  (try (conv => whnf)); (repeat ((fail_if_success (with_reducible refine And.intro ?_ ?_)); (fail_if_success (with_reducible refine Exists.intro ?_ ?_)); (first | (apply Ob.of; (first | with_reducible assumption | with_reducible exact ex20 _ _ | with_reducible exact ex21 _ _ | with_reducible exact ex30 _ _ _ | with_reducible exact ex31 _ _ _ | with_reducible exact ex32 _ _ _ | rfl | (exact ald rfl rfl (by assumption) rfl) | (exact ald_agg rfl rfl rfl (by assumption) rfl)); (conv => whnf)) | (apply bIf.yes; (first | assumption | rfl); (conv => whnf)) | (apply bIf.no; (first | assumption | rfl); (conv => whnf)) | ((with_reducible refine Ob.load (by with_unfolding_all assumption) ?_); (conv => whnf)) | (apply Grows.mk; (first | exact Grow.refl _ | assumption); (conv => whnf)))))
  refine SW.loop (α := Nat) (fun m => [(2, .pointer (some ⟨q1, 0, none⟩)), (3, .pointer (some ⟨q2, 0, none⟩)), (7, sv), (8, .int .i64 (m : Int))]) (fun m X => m ≤ b.ops.length ∧ OpsP p c b L m ∧ Grow H3 X) (fun m => b.ops.length - m) ⟨0, ⟨rfl, rfl, rfl, rfl, trivial⟩, by omega, fun i o hi => by omega, .refl _⟩ ?_
  clear d1 hm m
  rintro m X ⟨hm, htm, gX⟩
  refine bC_sound _ _ _ _ ?_
  have b1 := gX.hblk b1
  have b2 := gX.hblk b2
  have g5 := g4.trans gX
  have l4 : alen Try.prog 27 ov X = some (.int .i64 b.ops.length) := hbI.ops.len rfl _
  by_cases hml : m < b.ops.length
  · have d1 : decide ((m : Int) < (b.ops.length : Int)) = true := decide_eq_true (by omega)
    obtain ⟨o, ho⟩ := get_lt hml
    obtain ⟨o1, o2, o3⟩ := hsm.op o (List.mem_of_getElem? ho)
    obtain ⟨o4, o5⟩ := hib o (List.mem_of_getElem? ho)
    obtain ⟨bo, rv, cv, mv, i1, jr, jc, jm, i2⟩ := ldx_op hbI.ops ho
    have i3 := (i2 X g5).1
    (try (conv => whnf)); (repeat ((fail_if_success (with_reducible refine And.intro ?_ ?_)); (fail_if_success (with_reducible refine Exists.intro ?_ ?_)); (first | (apply Ob.of; (first | with_reducible assumption | with_reducible exact ex20 _ _ | with_reducible exact ex21 _ _ | with_reducible exact ex30 _ _ _ | with_reducible exact ex31 _ _ _ | with_reducible exact ex32 _ _ _ | rfl | (exact ald rfl rfl (by assumption) rfl) | (exact ald_agg rfl rfl rfl (by assumption) rfl)); (conv => whnf)) | (apply bIf.yes; (first | assumption | rfl); (conv => whnf)) | (apply bIf.no; (first | assumption | rfl); (conv => whnf)) | ((with_reducible refine Ob.load (by with_unfolding_all assumption) ?_); (conv => whnf)) | (apply Grows.mk; (first | exact Grow.refl _ | assumption); (conv => whnf)))))
    refine Ob2.alloc rfl fun q4 X2 hq4 a4 k4 => ?_
    (try (conv => whnf)); (repeat ((fail_if_success (with_reducible refine And.intro ?_ ?_)); (fail_if_success (with_reducible refine Exists.intro ?_ ?_)); (first | (apply Ob.of; (first | with_reducible assumption | with_reducible exact ex20 _ _ | with_reducible exact ex21 _ _ | with_reducible exact ex30 _ _ _ | with_reducible exact ex31 _ _ _ | with_reducible exact ex32 _ _ _ | rfl | (exact ald rfl rfl (by assumption) rfl) | (exact ald_agg rfl rfl rfl (by assumption) rfl)); (conv => whnf)) | (apply bIf.yes; (first | assumption | rfl); (conv => whnf)) | (apply bIf.no; (first | assumption | rfl); (conv => whnf)) | ((with_reducible refine Ob.load (by with_unfolding_all assumption) ?_); (conv => whnf)) | (apply Grows.mk; (first | exact Grow.refl _ | assumption); (conv => whnf)))))
    refine Ob.store rfl rfl rfl a4 rfl (by first | exact Nat.le_of_ble_eq_true rfl | simp) fun X3 s4 k5 m5 => ?_
    have gX3 : Grow X X3 := k4.but_new k5 (by omega)
    have b1 := gX3.hblk b1
    have b2 := gX3.hblk b2
    have b4 := hblk_of s4
    have g6 := g5.trans gX3
    clear a4 s4 k5 k4 m5 i3 d1 l4 l2 l3 l5
    (try (conv => whnf)); (repeat ((fail_if_success (with_reducible refine And.intro ?_ ?_)); (fail_if_success (with_reducible refine Exists.intro ?_ ?_)); (first | (apply Ob.of; (first | with_reducible assumption | with_reducible exact ex20 _ _ | with_reducible exact ex21 _ _ | with_reducible exact ex30 _ _ _ | with_reducible exact ex31 _ _ _ | with_reducible exact ex32 _ _ _ | rfl | (exact ald rfl rfl (by assumption) rfl) | (exact ald_agg rfl rfl rfl (by assumption) rfl)); (conv => whnf)) | (apply bIf.yes; (first | assumption | rfl); (conv => whnf)) | (apply bIf.no; (first | assumption | rfl); (conv => whnf)) | ((with_reducible refine Ob.load (by with_unfolding_all assumption) ?_); (conv => whnf)) | (apply Grows.mk; (first | exact Grow.refl _ | assumption); (conv => whnf)))))
    refine (refDef_ax X3 o rv cv mv).mono ?_
    rintro _ X ⟨rfl, e⟩
    subst X
    (try (conv => whnf)); (repeat ((fail_if_success (with_reducible refine And.intro ?_ ?_)); (fail_if_success (with_reducible refine Exists.intro ?_ ?_)); (first | (apply Ob.of; (first | with_reducible assumption | with_reducible exact ex20 _ _ | with_reducible exact ex21 _ _ | with_reducible exact ex30 _ _ _ | with_reducible exact ex31 _ _ _ | with_reducible exact ex32 _ _ _ | rfl | (exact ald rfl rfl (by assumption) rfl) | (exact ald_agg rfl rfl rfl (by assumption) rfl)); (conv => whnf)) | (apply bIf.yes; (first | assumption | rfl); (conv => whnf)) | (apply bIf.no; (first | assumption | rfl); (conv => whnf)) | ((with_reducible refine Ob.load (by with_unfolding_all assumption) ?_); (conv => whnf)) | (apply Grows.mk; (first | exact Grow.refl _ | assumption); (conv => whnf)))))
    have ot := others_ax (rv := rv) (cv := cv) (mv := mv) o (strR.grow hp g6) (codeR.grow hcs g6) (hbI.grow g6) hf hc hLok o4
    have lt := refLists_ax (mv := mv) (intR.grow jr g6) (caseR.grow jc g6) o2
    have us := refUses_ax (cv := cv) (mv := mv) (intR.grow jr g6) o5
    have hrg0 : 0 ≤ (limsOf p c b).rg := by rw [hrg]; omega
    have bad : ∀ {Y}, ¬ opP (limsOf p c b) L b.ops m o → Grow H Y → IrV p b (.int .i64 16) ∧ Grow H Y := fun hn gY => ⟨.inr ⟨rfl, fun ⟨_, _, c', L', h1, h2, h3, h4, h5, h6, _⟩ => by
      obtain ⟨rfl, rfl⟩ := uL h1 h5
      exact hn (h6 m o hml ho)⟩, gY⟩
    have badR : ∀ {Y}, ¬ RefP (limsOf p c b) o → Grow H Y → IrV p b (.int .i64 16) ∧ Grow H Y := fun hn gY => bad (fun h => hn ((opP_ref hrg0).1 h).1) gY
    apply SW.drawG [(0, [], [113, 114], false), (1, [], [112, 114], false), (2, [], [112, 113], false), (3, [(112, 0), (113, 1), (114, 2)], [112, 113, 114], true), (4, [(112, 0), (113, 1), (114, 2), (115, 3)], [112, 113, 114, 115], false), (5, [(112, 0), (113, 1), (114, 2), (115, 3), (116, 4)], [112, 113, 114, 115, 116], false), (6, [(112, 0), (113, 1), (114, 2), (115, 3), (116, 4), (117, 5)], [112, 113, 114, 115, 116, 117], false), (7, [(112, 0), (113, 1), (114, 2), (115, 3), (116, 4), (117, 5), (118, 6)], [112, 113, 114, 115, 116, 117, 118], true), (8, [(112, 0), (113, 1), (114, 2), (115, 3), (116, 4), (117, 5), (118, 6), (119, 7)], [112, 113, 114, 115, 116, 117, 118, 119], false), (9, [(112, 0), (113, 1), (114, 2), (115, 3), (116, 4), (117, 5), (118, 6), (119, 7), (120, 8)], [112, 113, 114, 115, 116, 117, 118, 119, 120], false), (10, [(112, 0), (113, 1), (114, 2), (115, 3), (116, 4), (117, 5), (118, 6), (119, 7), (120, 8), (121, 9)], [112, 113, 114, 115, 116, 117, 118, 119, 120, 121], false), (11, [(112, 0), (113, 1), (114, 2), (115, 3), (116, 4), (117, 5), (118, 6), (119, 7), (120, 8), (121, 9), (122, 10)], [112, 113, 114, 115, 116, 117, 118, 119, 120, 121, 122, 125, 126], false), (13, [(112, 0), (113, 1), (114, 2), (115, 3), (116, 4), (117, 5), (118, 6), (119, 7), (120, 8), (121, 9), (122, 10)], [112, 113, 114, 115, 116, 117, 118, 119, 120, 121, 122, 123, 124], false), (14, [(112, 0), (113, 1), (114, 2), (115, 3), (116, 4), (117, 5), (118, 6), (119, 7), (120, 8), (121, 9), (122, 10), (125, 13)], [112, 113, 114, 115, 116, 117, 118, 119, 120, 121, 122, 123, 124, 125], false), (12, [(112, 0), (113, 1), (114, 2), (115, 3), (116, 4), (117, 5), (118, 6), (119, 7), (120, 8), (121, 9), (122, 10), (123, 11)], [112, 113, 114, 115, 116, 117, 118, 119, 120, 121, 122, 123, 125, 126], true), (15, [(112, 0), (113, 1), (114, 2), (115, 3), (116, 4), (117, 5), (118, 6), (119, 7), (120, 8), (121, 9), (122, 10), (123, 11), (124, 12), (125, 13), (126, 14)], [112, 113, 114, 115, 116, 117, 118, 119, 120, 121, 122, 123, 124, 125, 126], true), (16, [(112, 0), (113, 1), (114, 2), (115, 3), (116, 4), (117, 5), (118, 6), (119, 7), (120, 8), (121, 9), (122, 10), (123, 11), (124, 12), (125, 13), (126, 14), (127, 15)], [112, 113, 114, 115, 116, 117, 118, 119, 120, 121, 122, 123, 124, 125, 126, 127], false), (17, [(112, 0), (113, 1), (114, 2), (115, 3), (116, 4), (117, 5), (118, 6), (119, 7), (120, 8), (121, 9), (122, 10), (123, 11), (124, 12), (125, 13), (126, 14), (127, 15), (128, 16)], [112, 113, 114, 115, 116, 117, 118, 119, 120, 121, 122, 123, 124, 125, 126, 127, 128], false), (18, [(112, 0), (113, 1), (114, 2), (115, 3), (116, 4), (117, 5), (118, 6), (119, 7), (120, 8), (121, 9), (122, 10), (123, 11), (124, 12), (125, 13), (126, 14), (127, 15), (128, 16), (129, 17)], [112, 113, 114, 115, 116, 117, 118, 119, 120, 121, 122, 123, 124, 125, 126, 127, 128, 129], false), (19, [(112, 0), (113, 1), (114, 2), (115, 3), (116, 4), (117, 5), (118, 6), (119, 7), (120, 8), (121, 9), (122, 10), (123, 11), (124, 12), (125, 13), (126, 14), (127, 15), (128, 16), (129, 17), (130, 18)], [112, 113, 114, 115, 116, 117, 118, 119, 120, 121, 122, 123, 124, 125, 126, 127, 128, 129, 130, 132, 133], false), (20, [(112, 0), (113, 1), (114, 2), (115, 3), (116, 4), (117, 5), (118, 6), (119, 7), (120, 8), (121, 9), (122, 10), (123, 11), (124, 12), (125, 13), (126, 14), (127, 15), (128, 16), (129, 17), (130, 18)], [112, 113, 114, 115, 116, 117, 118, 119, 120, 121, 122, 123, 124, 125, 126, 127, 128, 129, 130, 131], false), (21, [(112, 0), (113, 1), (114, 2), (115, 3), (116, 4), (117, 5), (118, 6), (119, 7), (120, 8), (121, 9), (122, 10), (123, 11), (124, 12), (125, 13), (126, 14), (127, 15), (128, 16), (129, 17), (130, 18), (132, 20)], [112, 113, 114, 115, 116, 117, 118, 119, 120, 121, 122, 123, 124, 125, 126, 127, 128, 129, 130, 131, 132], false), (22, [(112, 0), (113, 1), (114, 2), (115, 3), (116, 4), (117, 5), (118, 6), (119, 7), (120, 8), (121, 9), (122, 10), (123, 11), (124, 12), (125, 13), (126, 14), (127, 15), (128, 16), (129, 17), (130, 18), (131, 19), (132, 20), (133, 21)], [112, 113, 114, 115, 116, 117, 118, 119, 120, 121, 122, 123, 124, 125, 126, 127, 128, 129, 130, 131, 132, 133], false), (23, [(112, 0), (113, 1), (114, 2), (115, 3), (116, 4), (117, 5), (118, 6), (119, 7), (120, 8), (121, 9), (122, 10), (123, 11), (124, 12), (125, 13), (126, 14), (127, 15), (128, 16), (129, 17), (130, 18), (131, 19), (132, 20), (133, 21), (134, 22)], [112, 113, 114, 115, 116, 117, 118, 119, 120, 121, 122, 123, 124, 125, 126, 127, 128, 129, 130, 131, 132, 133, 134], false), (24, [(112, 0), (113, 1), (114, 2), (115, 3), (116, 4), (117, 5), (118, 6), (119, 7), (120, 8), (121, 9), (122, 10), (123, 11), (124, 12), (125, 13), (126, 14), (127, 15), (128, 16), (129, 17), (130, 18), (131, 19), (132, 20), (133, 21), (134, 22), (135, 23)], [112, 113, 114, 115, 116, 117, 118, 119, 120, 121, 122, 123, 124, 125, 126, 127, 128, 129, 130, 131, 132, 133, 134, 135], false), (25, [(112, 0), (113, 1), (114, 2), (115, 3), (116, 4), (117, 5), (118, 6), (119, 7), (120, 8), (121, 9), (122, 10), (123, 11), (124, 12), (125, 13), (126, 14), (127, 15), (128, 16), (129, 17), (130, 18), (131, 19), (132, 20), (133, 21), (134, 22), (135, 23), (136, 24)], [112, 113, 114, 115, 116, 117, 118, 119, 120, 121, 122, 123, 124, 125, 126, 127, 128, 129, 130, 131, 132, 133, 134, 135, 136], false), (26, [(112, 0), (113, 1), (114, 2), (115, 3), (116, 4), (117, 5), (118, 6), (119, 7), (120, 8), (121, 9), (122, 10), (123, 11), (124, 12), (125, 13), (126, 14), (127, 15), (128, 16), (129, 17), (130, 18), (131, 19), (132, 20), (133, 21), (134, 22), (135, 23), (136, 24), (137, 25)], [112, 113, 114, 115, 116, 117, 118, 119, 120, 121, 122, 123, 124, 125, 126, 127, 128, 129, 130, 131, 132, 133, 134, 135, 136, 137], false), (27, [(112, 0), (113, 1), (114, 2), (115, 3), (116, 4), (117, 5), (118, 6), (119, 7), (120, 8), (121, 9), (122, 10), (123, 11), (124, 12), (125, 13), (126, 14), (127, 15), (128, 16), (129, 17), (130, 18), (131, 19), (132, 20), (133, 21), (134, 22), (135, 23), (136, 24), (137, 25), (138, 26)], [112, 113, 114, 115, 116, 117, 118, 119, 120, 121, 122, 123, 124, 125, 126, 127, 128, 129, 130, 131, 132, 133, 134, 135, 136, 137, 138], false), (28, [(112, 0), (113, 1), (114, 2), (115, 3), (116, 4), (117, 5), (118, 6), (119, 7), (120, 8), (121, 9), (122, 10), (123, 11), (124, 12), (125, 13), (126, 14), (127, 15), (128, 16), (129, 17), (130, 18), (131, 19), (132, 20), (133, 21), (134, 22), (135, 23), (136, 24), (137, 25), (138, 26), (139, 27)], [112, 113, 114, 115, 116, 117, 118, 119, 120, 121, 122, 123, 124, 125, 126, 127, 128, 129, 130, 131, 132, 133, 134, 135, 136, 137, 138, 139], false), (29, [(112, 0), (113, 1), (114, 2), (115, 3), (116, 4), (117, 5), (118, 6), (119, 7), (120, 8), (121, 9), (122, 10), (123, 11), (124, 12), (125, 13), (126, 14), (127, 15), (128, 16), (129, 17), (130, 18), (131, 19), (132, 20), (133, 21), (134, 22), (135, 23), (136, 24), (137, 25), (138, 26), (139, 27), (140, 28)], [112, 113, 114, 115, 116, 117, 118, 119, 120, 121, 122, 123, 124, 125, 126, 127, 128, 129, 130, 131, 132, 133, 134, 135, 136, 137, 138, 139, 140], false), (30, [(112, 0), (113, 1), (114, 2), (115, 3), (116, 4), (117, 5), (118, 6), (119, 7), (120, 8), (121, 9), (122, 10), (123, 11), (124, 12), (125, 13), (126, 14), (127, 15), (128, 16), (129, 17), (130, 18), (131, 19), (132, 20), (133, 21), (134, 22), (135, 23), (136, 24), (137, 25), (138, 26), (139, 27), (140, 28), (141, 29)], [112, 113, 114, 115, 116, 117, 118, 119, 120, 121, 122, 123, 124, 125, 126, 127, 128, 129, 130, 131, 132, 133, 134, 135, 136, 137, 138, 139, 140, 141], false), (31, [(112, 0), (113, 1), (114, 2), (115, 3), (116, 4), (117, 5), (118, 6), (119, 7), (120, 8), (121, 9), (122, 10), (123, 11), (124, 12), (125, 13), (126, 14), (127, 15), (128, 16), (129, 17), (130, 18), (131, 19), (132, 20), (133, 21), (134, 22), (135, 23), (136, 24), (137, 25), (138, 26), (139, 27), (140, 28), (141, 29), (142, 30)], [112, 113, 114, 115, 116, 117, 118, 119, 120, 121, 122, 123, 124, 125, 126, 127, 128, 129, 130, 131, 132, 133, 134, 135, 136, 137, 138, 139, 140, 141, 142], false), (32, [(112, 0), (113, 1), (114, 2), (115, 3), (116, 4), (117, 5), (118, 6), (119, 7), (120, 8), (121, 9), (122, 10), (123, 11), (124, 12), (125, 13), (126, 14), (127, 15), (128, 16), (129, 17), (130, 18), (131, 19), (132, 20), (133, 21), (134, 22), (135, 23), (136, 24), (137, 25), (138, 26), (139, 27), (140, 28), (141, 29), (142, 30), (143, 31)], [112, 113, 114, 115, 116, 117, 118, 119, 120, 121, 122, 123, 124, 125, 126, 127, 128, 129, 130, 131, 132, 133, 134, 135, 136, 137, 138, 139, 140, 141, 142, 143], false), (33, [(112, 0), (113, 1), (114, 2), (115, 3), (116, 4), (117, 5), (118, 6), (119, 7), (120, 8), (121, 9), (122, 10), (123, 11), (124, 12), (125, 13), (126, 14), (127, 15), (128, 16), (129, 17), (130, 18), (131, 19), (132, 20), (133, 21), (134, 22), (135, 23), (136, 24), (137, 25), (138, 26), (139, 27), (140, 28), (141, 29), (142, 30), (143, 31), (144, 32)], [112, 113, 114, 115, 116, 117, 118, 119, 120, 121, 122, 123, 124, 125, 126, 127, 128, 129, 130, 131, 132, 133, 134, 135, 136, 137, 138, 139, 140, 141, 142, 143, 144], true), (34, [(112, 0), (113, 1), (114, 2), (115, 3), (116, 4), (117, 5), (118, 6), (119, 7), (120, 8), (121, 9), (122, 10), (123, 11), (124, 12), (125, 13), (126, 14), (127, 15), (128, 16), (129, 17), (130, 18), (131, 19), (132, 20), (133, 21), (134, 22), (135, 23), (136, 24), (137, 25), (138, 26), (139, 27), (140, 28), (141, 29), (142, 30), (143, 31), (144, 32), (145, 33)], [112, 113, 114, 115, 116, 117, 118, 119, 120, 121, 122, 123, 124, 125, 126, 127, 128, 129, 130, 131, 132, 133, 134, 135, 136, 137, 138, 139, 140, 141, 142, 143, 144, 145], false), (35, [(112, 0), (113, 1), (114, 2), (115, 3), (116, 4), (117, 5), (118, 6), (119, 7), (120, 8), (121, 9), (122, 10), (123, 11), (124, 12), (125, 13), (126, 14), (127, 15), (128, 16), (129, 17), (130, 18), (131, 19), (132, 20), (133, 21), (134, 22), (135, 23), (136, 24), (137, 25), (138, 26), (139, 27), (140, 28), (141, 29), (142, 30), (143, 31), (144, 32), (145, 33), (146, 34)], [112, 113, 114, 115, 116, 117, 118, 119, 120, 121, 122, 123, 124, 125, 126, 127, 128, 129, 130, 131, 132, 133, 134, 135, 136, 137, 138, 139, 140, 141, 142, 143, 144, 145, 146], false)]
      [(112, 0), (113, 1), (114, 2), (115, 3), (116, 4), (117, 5), (118, 6), (119, 7), (120, 8), (121, 9), (122, 10), (123, 11), (124, 12), (125, 13), (126, 14), (127, 15), (128, 16), (129, 17), (130, 18), (131, 19), (132, 20), (133, 21), (134, 22), (135, 23), (136, 24), (137, 25), (138, 26), (139, 27), (140, 28), (141, 29), (142, 30), (143, 31), (144, 32), (145, 33), (146, 34), (147, 35)]
      [(2, _), (3, _), (7, _), (8, _), (9, _), (10, _)] rfl (by kernel_rfl)
    case hF => exact ⟨rfl, rfl, rfl, rfl, rfl, rfl, trivial⟩
    (try (conv => whnf)); (repeat' ((fail_if_success (with_reducible refine And.intro ?_ ?_)); (fail_if_success (with_reducible refine Exists.intro ?_ ?_)); (first | ((with_reducible refine AX.id ?_); (first | (refine (ot).mono ?_; (rintro _ X ⟨⟨bb, rfl, hb⟩, eX⟩; subst X; cases bb <;> (conv => whnf))) | (refine (lt).mono ?_; (rintro _ X ⟨⟨bb, rfl, hb⟩, eX⟩; subst X; cases bb <;> (conv => whnf))))) | (first | (apply Ob.of; (first | with_reducible assumption | with_reducible exact ex20 _ _ | with_reducible exact ex21 _ _ | with_reducible exact ex30 _ _ _ | with_reducible exact ex31 _ _ _ | with_reducible exact ex32 _ _ _ | rfl | (exact ald rfl rfl (by assumption) rfl) | (exact ald_agg rfl rfl rfl (by assumption) rfl)); (conv => whnf)) | (apply bIf.yes; (first | assumption | rfl); (conv => whnf)) | (apply bIf.no; (first | assumption | rfl); (conv => whnf)) | ((with_reducible refine Ob.load (by with_unfolding_all assumption) ?_); (conv => whnf)) | (apply Grows.mk; (first | exact Grow.refl _ | assumption); (conv => whnf))) | (apply bIf.of <;> intro hc <;> (conv => whnf)))))
    all_goals first
      | exact badR (fun h => by have := hb.2 h.1; simp at this) g6
      | exact badR (fun h => by have := hb.2 h.2.1; simp at this) g6
      | skip
    have hO : OthP (limsOf p c b) o := (show true = true ↔ OthP (limsOf p c b) o by assumption).1 rfl
    have hLi : ListsR o := (show true = true ↔ ListsR o by assumption).1 rfl
    refine us.mono ?_
    rintro u X4 ⟨hu, gu⟩
    have b1 := gu.hblk b1
    have b2 := gu.hblk b2
    have b4 := gu.hblk b4
    have g7 := g6.trans gu
    have gX4 := gX3.trans gu
    have hul : (usesL o).length < 4294967296 := by
      unfold usesL
      simp only [List.length_append, List.length_nil]
      have hh : ∀ (t : Bool) (x : Int), (if t then [x] else []).length ≤ 1 := fun t x => by cases t <;> simp
      have := hh (isR o.kind 0) o.a
      have := hh (isR o.kind 1) o.b
      have := hh (isR o.kind 2) o.c
      omega
    have rg := refRegs_ax hu hul b.regs (by omega) (by omega)
    have wr := refWrong_ax X4 o rv cv mv
    have l6 : alen Try.prog 38 sv X4 = some (.int .i64 L.length) := hsv.len rfl _
    have l7 : alen Try.prog 38 mv X4 = some (.int .i64 o.map.length) := jm.len rfl _
    clear ot lt us hb
    (try (conv => whnf)); (repeat' ((fail_if_success (with_reducible refine And.intro ?_ ?_)); (fail_if_success (with_reducible refine Exists.intro ?_ ?_)); (first | ((with_reducible refine AX.id ?_); (first | (refine (rg).mono ?_; (rintro _ X ⟨⟨bb, rfl, hb⟩, eX⟩; subst X; cases bb <;> (conv => whnf))) | (refine (wr).mono ?_; (rintro _ X ⟨rfl, eX⟩; subst X; (conv => whnf))))) | (first | (apply Ob.of; (first | with_reducible assumption | with_reducible exact ex20 _ _ | with_reducible exact ex21 _ _ | with_reducible exact ex30 _ _ _ | with_reducible exact ex31 _ _ _ | with_reducible exact ex32 _ _ _ | rfl | (exact ald rfl rfl (by assumption) rfl) | (exact ald_agg rfl rfl rfl (by assumption) rfl)); (conv => whnf)) | (apply bIf.yes; (first | assumption | rfl); (conv => whnf)) | (apply bIf.no; (first | assumption | rfl); (conv => whnf)) | ((with_reducible refine Ob.load (by with_unfolding_all assumption) ?_); (conv => whnf)) | (apply Grows.mk; (first | exact Grow.refl _ | assumption); (conv => whnf))) | (apply bIf.of <;> intro hc <;> (conv => whnf)))))
    all_goals first
      | (refine badR (fun h => ?_) g7
         obtain ⟨_, _, h3, h4, h5, h6⟩ := h
         clear b1 b2 b4 l6 l7 rg wr hu bad badR htm hbI hp hcs hsv jr jc jm i1 i2 g7 gX4 gu
         rw [hrg] at h3 h4
         ((try (simp only [ba_ne_t, ba_ne_f, ba_eq_t, ba_eq_f, bne_iff_ne, bne_eq_false_iff_eq, decide_eq_true_eq, decide_eq_false_iff_not, beq_iff_eq, beq_eq_false_iff_ne, ne_eq, Bool.not_eq_true, Bool.not_eq_false, Bool.not_eq_true', Bool.not_eq_false'] at *)); (try simp only [Bool.false_eq_true, false_iff, true_iff, Classical.not_not, Bool.not_false, Bool.not_true] at *))
         grind)
      | skip
    all_goals
      have hRP : RefP (limsOf p c b) o := by
        refine ⟨hO, hLi, ?_, ?_, ?_, ?_⟩
        all_goals (try rw [hrg])
        all_goals clear b1 b2 b4 l6 l7 rg wr hu bad badR htm hbI hp hcs hsv jr jc jm i1 i2 g7 gX4 gu
        all_goals ((try (simp only [ba_ne_t, ba_ne_f, ba_eq_t, ba_eq_f, bne_iff_ne, bne_eq_false_iff_eq, decide_eq_true_eq, decide_eq_false_iff_not, beq_iff_eq, beq_eq_false_iff_ne, ne_eq, Bool.not_eq_true, Bool.not_eq_false, Bool.not_eq_true', Bool.not_eq_false'] at *)); (try simp only [Bool.false_eq_true, false_iff, true_iff, Classical.not_not, Bool.not_false, Bool.not_true] at *))
        all_goals grind
    all_goals
      clear hc
      have rm := refRegs_ax (intR.grow jm g7) (by omega) b.regs (by omega) (by omega)
      have hpc : (0 ≤ o.pc ∧ o.pc ≤ (L.length : Int) - 1) → ∃ q d, aindexAddr Try.prog 38 sv (.int .i64 o.pc) = some q ∧ aload Try.prog 3 q X4 = some (.int .i64 d) ∧ L[o.pc.toNat]? = some d := fun h => by
        obtain ⟨j, hj⟩ : ∃ j : Nat, o.pc = (j : Int) := ⟨o.pc.toNat, by omega⟩
        obtain ⟨d, hd⟩ := get_lt (L := L) (m := j) (by omega)
        obtain ⟨q, k1, k2⟩ := ld_int hsv hd
        exact ⟨q, d, by rw [hj]; exact k1, k2 X4 (gX.trans gX4), by rw [hj, Int.toNat_natCast]; exact hd⟩
      have hja : jumps o.kind = true → ∃ q z, aindexAddr Try.prog 27 ov (.int .i64 o.a) = some (.pointer (some ⟨q, z, none⟩)) ∧ aload Try.prog 3 (.pointer (some ⟨q, z, none⟩)) X4 = some (.int .i64 (kindAt b.ops o.a)) := fun h => by
        have h1 := hO.jump h
        rw [hno] at h1
        obtain ⟨j, hj⟩ : ∃ j : Nat, o.a = (j : Int) := ⟨o.a.toNat, by omega⟩
        obtain ⟨y, hy⟩ := get_lt (L := b.ops) (m := j) (by omega)
        obtain ⟨bq, _, _, _, k1, _, _, _, k2⟩ := ldx_op hbI.ops hy
        refine ⟨_, _, by rw [hj]; exact k1, ?_⟩
        rw [(k2 X4 g7).2]
        unfold kindAt
        rw [hj, Int.toNat_natCast, List.getD_eq_getElem?_getD, hy]
        rfl
      have fin : PcP (limsOf p c b) L o ∧ JumpP b.ops m o → (m + 1 ≤ b.ops.length ∧ OpsP p c b L (m + 1) ∧ Grow H3 X4) ∧ b.ops.length - (m + 1) < b.ops.length - m := fun h => ⟨⟨hml, htm.next ho ((opP_ref hrg0).2 ⟨hRP, h.1, h.2⟩), gX.trans gX4⟩, by omega⟩
      have bad2 : ¬ (PcP (limsOf p c b) L o ∧ JumpP b.ops m o) → IrV p b (.int .i64 16) ∧ Grow H X4 := fun h => bad (fun k => h ((opP_ref hrg0).1 k).2) g7
      have wl : IntKind.i64.wrap ((L.length : Int) - 1) = (L.length : Int) - 1 := wrap_i64 (by omega) (by omega)
      have wm : IntKind.i64.wrap ((m : Int) + 1) = ((m + 1 : Nat) : Int) := w_succ (by omega)
      unfold PcP JumpP at fin bad2
      rw [hrg] at fin bad2
      clear bad badR rg wr hu hbI hp hcs hsv jr jc jm i1 i2
      by_cases h1 : 0 ≤ o.pc ∧ o.pc ≤ (L.length : Int) - 1
      · obtain ⟨q, d, k1, k2, k3⟩ := hpc h1
        have e1 : (!decide (0 ≤ o.pc ∧ o.pc ≤ IntKind.i64.wrap ((L.length : Int) - 1))) = false := by rw [wl, decide_eq_true h1]; rfl
        rw [k3] at fin bad2
        by_cases h2 : jumps o.kind = true
        · obtain ⟨q', z', k4, k5⟩ := hja h2
          have e2 : decide (17 ≤ o.kind ∧ o.kind ≤ 19) = true := h2
          apply SW.drawG [(0, [], [150, 151, 152], false), (1, [(148, 0)], [148, 150, 151, 152], false), (2, [], [148, 149], false), (3, [(150, 2)], [148, 149, 150], false), (4, [(150, 2), (151, 3)], [148, 149, 150, 151], false), (5, [(148, 0), (149, 1), (150, 2), (151, 3), (152, 4)], [148, 149, 150, 151, 152], true), (6, [(148, 0), (149, 1), (150, 2), (151, 3), (152, 4), (153, 5)], [148, 149, 150, 151, 152, 153], false), (7, [(148, 0), (149, 1), (150, 2), (151, 3), (152, 4), (153, 5), (154, 6)], [148, 149, 150, 151, 152, 153, 154], false), (8, [(148, 0), (149, 1), (150, 2), (151, 3), (152, 4), (153, 5), (154, 6), (155, 7)], [148, 149, 150, 151, 152, 153, 154, 155, 157, 158, 161, 162, 163], false), (9, [(148, 0), (149, 1), (150, 2), (151, 3), (152, 4), (153, 5), (154, 6), (155, 7)], [148, 149, 150, 151, 152, 153, 154, 155, 156, 161, 162, 163], false), (10, [(148, 0), (149, 1), (150, 2), (151, 3), (152, 4), (153, 5), (154, 6), (155, 7), (157, 9)], [148, 149, 150, 151, 152, 153, 154, 155, 156, 157, 161, 162, 163], false), (11, [(148, 0), (149, 1), (150, 2), (151, 3), (152, 4), (153, 5), (154, 6), (155, 7), (156, 8), (157, 9), (158, 10)], [148, 149, 150, 151, 152, 153, 154, 155, 156, 157, 158, 161, 162, 163], false), (12, [(148, 0), (149, 1), (150, 2), (151, 3), (152, 4), (153, 5), (154, 6), (155, 7), (156, 8), (157, 9), (158, 10), (159, 11)], [148, 149, 150, 151, 152, 153, 154, 155, 156, 157, 158, 159, 161, 162, 163], false), (13, [(148, 0), (149, 1), (150, 2), (151, 3), (152, 4), (153, 5), (154, 6), (155, 7)], [148, 149, 150, 151, 152, 153, 154, 155, 156, 157, 158, 159, 160], false), (14, [(148, 0), (149, 1), (150, 2), (151, 3), (152, 4), (153, 5), (154, 6), (155, 7), (161, 13)], [148, 149, 150, 151, 152, 153, 154, 155, 156, 157, 158, 159, 160, 161], false), (15, [(148, 0), (149, 1), (150, 2), (151, 3), (152, 4), (153, 5), (154, 6), (155, 7), (161, 13), (162, 14)], [148, 149, 150, 151, 152, 153, 154, 155, 156, 157, 158, 159, 160, 161, 162], false), (16, [(148, 0), (149, 1), (150, 2), (151, 3), (152, 4), (153, 5), (154, 6), (155, 7), (156, 8), (157, 9), (158, 10), (159, 11), (160, 12), (161, 13), (162, 14), (163, 15)], [148, 149, 150, 151, 152, 153, 154, 155, 156, 157, 158, 159, 160, 161, 162, 163], false), (17, [(148, 0), (149, 1), (150, 2), (151, 3), (152, 4), (153, 5), (154, 6), (155, 7), (156, 8), (157, 9), (158, 10), (159, 11), (160, 12), (161, 13), (162, 14), (163, 15), (164, 16)], [148, 149, 150, 151, 152, 153, 154, 155, 156, 157, 158, 159, 160, 161, 162, 163, 164], false), (18, [(148, 0), (149, 1), (150, 2), (151, 3), (152, 4), (153, 5), (154, 6), (155, 7), (156, 8), (157, 9), (158, 10), (159, 11), (160, 12), (161, 13), (162, 14), (163, 15), (164, 16), (165, 17)], [148, 149, 150, 151, 152, 153, 154, 155, 156, 157, 158, 159, 160, 161, 162, 163, 164, 165], false), (19, [(148, 0), (149, 1), (150, 2), (151, 3), (152, 4), (153, 5), (154, 6), (155, 7), (156, 8), (157, 9), (158, 10), (159, 11), (160, 12), (161, 13), (162, 14), (163, 15), (164, 16), (165, 17), (166, 18)], [148, 149, 150, 151, 152, 153, 154, 155, 156, 157, 158, 159, 160, 161, 162, 163, 164, 165, 166, 169, 170], false), (20, [(148, 0), (149, 1), (150, 2), (151, 3), (152, 4), (153, 5), (154, 6), (155, 7), (156, 8), (157, 9), (158, 10), (159, 11), (160, 12), (161, 13), (162, 14), (163, 15), (164, 16), (165, 17), (166, 18), (167, 19)], [148, 149, 150, 151, 152, 153, 154, 155, 156, 157, 158, 159, 160, 161, 162, 163, 164, 165, 166, 167, 169, 170], false), (21, [(148, 0), (149, 1), (150, 2), (151, 3), (152, 4), (153, 5), (154, 6), (155, 7), (156, 8), (157, 9), (158, 10), (159, 11), (160, 12), (161, 13), (162, 14), (163, 15), (164, 16), (165, 17), (166, 18)], [148, 149, 150, 151, 152, 153, 154, 155, 156, 157, 158, 159, 160, 161, 162, 163, 164, 165, 166, 167, 168], false), (22, [(148, 0), (149, 1), (150, 2), (151, 3), (152, 4), (153, 5), (154, 6), (155, 7), (156, 8), (157, 9), (158, 10), (159, 11), (160, 12), (161, 13), (162, 14), (163, 15), (164, 16), (165, 17), (166, 18), (169, 21)], [148, 149, 150, 151, 152, 153, 154, 155, 156, 157, 158, 159, 160, 161, 162, 163, 164, 165, 166, 167, 168, 169], false), (23, [(148, 0), (149, 1), (150, 2), (151, 3), (152, 4), (153, 5), (154, 6), (155, 7), (156, 8), (157, 9), (158, 10), (159, 11), (160, 12), (161, 13), (162, 14), (163, 15), (164, 16), (165, 17), (166, 18), (167, 19), (168, 20), (169, 21), (170, 22)], [148, 149, 150, 151, 152, 153, 154, 155, 156, 157, 158, 159, 160, 161, 162, 163, 164, 165, 166, 167, 168, 169, 170], true), (24, [(148, 0), (149, 1), (150, 2), (151, 3), (152, 4), (153, 5), (154, 6), (155, 7), (156, 8), (157, 9), (158, 10), (159, 11), (160, 12), (161, 13), (162, 14), (163, 15), (164, 16), (165, 17), (166, 18), (167, 19), (168, 20), (169, 21), (170, 22), (171, 23)], [148, 149, 150, 151, 152, 153, 154, 155, 156, 157, 158, 159, 160, 161, 162, 163, 164, 165, 166, 167, 168, 169, 170, 171], false), (25, [(148, 0), (149, 1), (150, 2), (151, 3), (152, 4), (153, 5), (154, 6), (155, 7), (156, 8), (157, 9), (158, 10), (159, 11), (160, 12), (161, 13), (162, 14), (163, 15), (164, 16), (165, 17), (166, 18), (167, 19), (168, 20), (169, 21), (170, 22), (171, 23), (172, 24)], [148, 149, 150, 151, 152, 153, 154, 155, 156, 157, 158, 159, 160, 161, 162, 163, 164, 165, 166, 167, 168, 169, 170, 171, 172], false)]
            [(148, 0), (149, 1), (150, 2), (151, 3), (152, 4), (153, 5), (154, 6), (155, 7), (156, 8), (157, 9), (158, 10), (159, 11), (160, 12), (161, 13), (162, 14), (163, 15), (164, 16), (165, 17), (166, 18), (167, 19), (168, 20), (169, 21), (170, 22), (171, 23), (172, 24), (173, 25)]
            [(2, _), (3, _), (7, _), (8, _), (9, _)] rfl (by kernel_rfl)
          case hF => exact ⟨rfl, rfl, rfl, rfl, rfl, trivial⟩
          (try (conv => whnf)); (repeat' ((fail_if_success (with_reducible refine And.intro ?_ ?_)); (fail_if_success (with_reducible refine Exists.intro ?_ ?_)); (first | ((with_reducible refine AX.id ?_); (first | (refine (in_ax _ _ _ _).mono ?_; (rintro _ X ⟨rfl, eX⟩; subst X; (conv => whnf))) | (refine (rm).mono ?_; (rintro _ X ⟨⟨bb, rfl, hb⟩, eX⟩; subst X; cases bb <;> (conv => whnf))))) | (first | (apply Ob.of; (first | with_reducible assumption | with_reducible exact ex20 _ _ | with_reducible exact ex21 _ _ | with_reducible exact ex30 _ _ _ | with_reducible exact ex31 _ _ _ | with_reducible exact ex32 _ _ _ | rfl | (exact ald rfl rfl (by assumption) rfl) | (exact ald_agg rfl rfl rfl (by assumption) rfl)); (conv => whnf)) | (apply bIf.yes; (first | assumption | rfl); (conv => whnf)) | (apply bIf.no; (first | assumption | rfl); (conv => whnf)) | ((with_reducible refine Ob.load (by with_unfolding_all assumption) ?_); (conv => whnf)) | (apply Grows.mk; (first | exact Grow.refl _ | assumption); (conv => whnf))) | (apply bIf.of <;> intro hc <;> (conv => whnf)))))
          all_goals first
            | (refine bad2 (fun h => ?_)
               clear fin bad2 rm hpc hja b1 b2 b4 l6 l7 hRP hO hLi htm g7 gX4 gX3 gu gX
               ((try (simp only [ba_ne_t, ba_ne_f, ba_eq_t, ba_eq_f, bne_iff_ne, bne_eq_false_iff_eq, decide_eq_true_eq, decide_eq_false_iff_not, beq_iff_eq, beq_eq_false_iff_ne, ne_eq, Bool.not_eq_true, Bool.not_eq_false, Bool.not_eq_true', Bool.not_eq_false'] at *)); (try simp only [Bool.false_eq_true, false_iff, true_iff, Classical.not_not, Bool.not_false, Bool.not_true] at *))
               grind)
            | (refine ⟨_, ⟨rfl, rfl, rfl, congrArg (fun z => some (Value.int .i64 z)) wm, trivial⟩, fin ?_⟩
               clear fin bad2 rm hpc hja b1 b2 b4 l6 l7 hRP hO hLi htm g7 gX4 gX3 gu gX
               ((try (simp only [ba_ne_t, ba_ne_f, ba_eq_t, ba_eq_f, bne_iff_ne, bne_eq_false_iff_eq, decide_eq_true_eq, decide_eq_false_iff_not, beq_iff_eq, beq_eq_false_iff_ne, ne_eq, Bool.not_eq_true, Bool.not_eq_false, Bool.not_eq_true', Bool.not_eq_false'] at *)); (try simp only [Bool.false_eq_true, false_iff, true_iff, Classical.not_not, Bool.not_false, Bool.not_true] at *))
               grind)
        · have e2 : decide (17 ≤ o.kind ∧ o.kind ≤ 19) = false := by simpa [jumps] using h2
          apply SW.drawG [(0, [], [150, 151, 152], false), (1, [(148, 0)], [148, 150, 151, 152], false), (2, [], [148, 149], false), (3, [(150, 2)], [148, 149, 150], false), (4, [(150, 2), (151, 3)], [148, 149, 150, 151], false), (5, [(148, 0), (149, 1), (150, 2), (151, 3), (152, 4)], [148, 149, 150, 151, 152], true), (6, [(148, 0), (149, 1), (150, 2), (151, 3), (152, 4), (153, 5)], [148, 149, 150, 151, 152, 153], false), (7, [(148, 0), (149, 1), (150, 2), (151, 3), (152, 4), (153, 5), (154, 6)], [148, 149, 150, 151, 152, 153, 154], false), (8, [(148, 0), (149, 1), (150, 2), (151, 3), (152, 4), (153, 5), (154, 6), (155, 7)], [148, 149, 150, 151, 152, 153, 154, 155, 157, 158, 161, 162, 163], false), (9, [(148, 0), (149, 1), (150, 2), (151, 3), (152, 4), (153, 5), (154, 6), (155, 7)], [148, 149, 150, 151, 152, 153, 154, 155, 156, 161, 162, 163], false), (10, [(148, 0), (149, 1), (150, 2), (151, 3), (152, 4), (153, 5), (154, 6), (155, 7), (157, 9)], [148, 149, 150, 151, 152, 153, 154, 155, 156, 157, 161, 162, 163], false), (11, [(148, 0), (149, 1), (150, 2), (151, 3), (152, 4), (153, 5), (154, 6), (155, 7), (156, 8), (157, 9), (158, 10)], [148, 149, 150, 151, 152, 153, 154, 155, 156, 157, 158, 161, 162, 163], false), (12, [(148, 0), (149, 1), (150, 2), (151, 3), (152, 4), (153, 5), (154, 6), (155, 7), (156, 8), (157, 9), (158, 10), (159, 11)], [148, 149, 150, 151, 152, 153, 154, 155, 156, 157, 158, 159, 161, 162, 163], false), (13, [(148, 0), (149, 1), (150, 2), (151, 3), (152, 4), (153, 5), (154, 6), (155, 7)], [148, 149, 150, 151, 152, 153, 154, 155, 156, 157, 158, 159, 160], false), (14, [(148, 0), (149, 1), (150, 2), (151, 3), (152, 4), (153, 5), (154, 6), (155, 7), (161, 13)], [148, 149, 150, 151, 152, 153, 154, 155, 156, 157, 158, 159, 160, 161], false), (15, [(148, 0), (149, 1), (150, 2), (151, 3), (152, 4), (153, 5), (154, 6), (155, 7), (161, 13), (162, 14)], [148, 149, 150, 151, 152, 153, 154, 155, 156, 157, 158, 159, 160, 161, 162], false), (16, [(148, 0), (149, 1), (150, 2), (151, 3), (152, 4), (153, 5), (154, 6), (155, 7), (156, 8), (157, 9), (158, 10), (159, 11), (160, 12), (161, 13), (162, 14), (163, 15)], [148, 149, 150, 151, 152, 153, 154, 155, 156, 157, 158, 159, 160, 161, 162, 163], false), (17, [(148, 0), (149, 1), (150, 2), (151, 3), (152, 4), (153, 5), (154, 6), (155, 7), (156, 8), (157, 9), (158, 10), (159, 11), (160, 12), (161, 13), (162, 14), (163, 15), (164, 16)], [148, 149, 150, 151, 152, 153, 154, 155, 156, 157, 158, 159, 160, 161, 162, 163, 164], false), (18, [(148, 0), (149, 1), (150, 2), (151, 3), (152, 4), (153, 5), (154, 6), (155, 7), (156, 8), (157, 9), (158, 10), (159, 11), (160, 12), (161, 13), (162, 14), (163, 15), (164, 16), (165, 17)], [148, 149, 150, 151, 152, 153, 154, 155, 156, 157, 158, 159, 160, 161, 162, 163, 164, 165], false), (19, [(148, 0), (149, 1), (150, 2), (151, 3), (152, 4), (153, 5), (154, 6), (155, 7), (156, 8), (157, 9), (158, 10), (159, 11), (160, 12), (161, 13), (162, 14), (163, 15), (164, 16), (165, 17), (166, 18)], [148, 149, 150, 151, 152, 153, 154, 155, 156, 157, 158, 159, 160, 161, 162, 163, 164, 165, 166, 169, 170], false), (20, [(148, 0), (149, 1), (150, 2), (151, 3), (152, 4), (153, 5), (154, 6), (155, 7), (156, 8), (157, 9), (158, 10), (159, 11), (160, 12), (161, 13), (162, 14), (163, 15), (164, 16), (165, 17), (166, 18), (167, 19)], [148, 149, 150, 151, 152, 153, 154, 155, 156, 157, 158, 159, 160, 161, 162, 163, 164, 165, 166, 167, 169, 170], false), (21, [(148, 0), (149, 1), (150, 2), (151, 3), (152, 4), (153, 5), (154, 6), (155, 7), (156, 8), (157, 9), (158, 10), (159, 11), (160, 12), (161, 13), (162, 14), (163, 15), (164, 16), (165, 17), (166, 18)], [148, 149, 150, 151, 152, 153, 154, 155, 156, 157, 158, 159, 160, 161, 162, 163, 164, 165, 166, 167, 168], false), (22, [(148, 0), (149, 1), (150, 2), (151, 3), (152, 4), (153, 5), (154, 6), (155, 7), (156, 8), (157, 9), (158, 10), (159, 11), (160, 12), (161, 13), (162, 14), (163, 15), (164, 16), (165, 17), (166, 18), (169, 21)], [148, 149, 150, 151, 152, 153, 154, 155, 156, 157, 158, 159, 160, 161, 162, 163, 164, 165, 166, 167, 168, 169], false), (23, [(148, 0), (149, 1), (150, 2), (151, 3), (152, 4), (153, 5), (154, 6), (155, 7), (156, 8), (157, 9), (158, 10), (159, 11), (160, 12), (161, 13), (162, 14), (163, 15), (164, 16), (165, 17), (166, 18), (167, 19), (168, 20), (169, 21), (170, 22)], [148, 149, 150, 151, 152, 153, 154, 155, 156, 157, 158, 159, 160, 161, 162, 163, 164, 165, 166, 167, 168, 169, 170], true), (24, [(148, 0), (149, 1), (150, 2), (151, 3), (152, 4), (153, 5), (154, 6), (155, 7), (156, 8), (157, 9), (158, 10), (159, 11), (160, 12), (161, 13), (162, 14), (163, 15), (164, 16), (165, 17), (166, 18), (167, 19), (168, 20), (169, 21), (170, 22), (171, 23)], [148, 149, 150, 151, 152, 153, 154, 155, 156, 157, 158, 159, 160, 161, 162, 163, 164, 165, 166, 167, 168, 169, 170, 171], false), (25, [(148, 0), (149, 1), (150, 2), (151, 3), (152, 4), (153, 5), (154, 6), (155, 7), (156, 8), (157, 9), (158, 10), (159, 11), (160, 12), (161, 13), (162, 14), (163, 15), (164, 16), (165, 17), (166, 18), (167, 19), (168, 20), (169, 21), (170, 22), (171, 23), (172, 24)], [148, 149, 150, 151, 152, 153, 154, 155, 156, 157, 158, 159, 160, 161, 162, 163, 164, 165, 166, 167, 168, 169, 170, 171, 172], false)]
            [(148, 0), (149, 1), (150, 2), (151, 3), (152, 4), (153, 5), (154, 6), (155, 7), (156, 8), (157, 9), (158, 10), (159, 11), (160, 12), (161, 13), (162, 14), (163, 15), (164, 16), (165, 17), (166, 18), (167, 19), (168, 20), (169, 21), (170, 22), (171, 23), (172, 24), (173, 25)]
            [(2, _), (3, _), (7, _), (8, _), (9, _)] rfl (by kernel_rfl)
          case hF => exact ⟨rfl, rfl, rfl, rfl, rfl, trivial⟩
          (try (conv => whnf)); (repeat' ((fail_if_success (with_reducible refine And.intro ?_ ?_)); (fail_if_success (with_reducible refine Exists.intro ?_ ?_)); (first | ((with_reducible refine AX.id ?_); (first | (refine (in_ax _ _ _ _).mono ?_; (rintro _ X ⟨rfl, eX⟩; subst X; (conv => whnf))) | (refine (rm).mono ?_; (rintro _ X ⟨⟨bb, rfl, hb⟩, eX⟩; subst X; cases bb <;> (conv => whnf))))) | (first | (apply Ob.of; (first | with_reducible assumption | with_reducible exact ex20 _ _ | with_reducible exact ex21 _ _ | with_reducible exact ex30 _ _ _ | with_reducible exact ex31 _ _ _ | with_reducible exact ex32 _ _ _ | rfl | (exact ald rfl rfl (by assumption) rfl) | (exact ald_agg rfl rfl rfl (by assumption) rfl)); (conv => whnf)) | (apply bIf.yes; (first | assumption | rfl); (conv => whnf)) | (apply bIf.no; (first | assumption | rfl); (conv => whnf)) | ((with_reducible refine Ob.load (by with_unfolding_all assumption) ?_); (conv => whnf)) | (apply Grows.mk; (first | exact Grow.refl _ | assumption); (conv => whnf))) | (apply bIf.of <;> intro hc <;> (conv => whnf)))))
          all_goals first
            | (refine bad2 (fun h => ?_)
               clear fin bad2 rm hpc hja b1 b2 b4 l6 l7 hRP hO hLi htm g7 gX4 gX3 gu gX
               ((try (simp only [ba_ne_t, ba_ne_f, ba_eq_t, ba_eq_f, bne_iff_ne, bne_eq_false_iff_eq, decide_eq_true_eq, decide_eq_false_iff_not, beq_iff_eq, beq_eq_false_iff_ne, ne_eq, Bool.not_eq_true, Bool.not_eq_false, Bool.not_eq_true', Bool.not_eq_false'] at *)); (try simp only [Bool.false_eq_true, false_iff, true_iff, Classical.not_not, Bool.not_false, Bool.not_true] at *))
               grind)
            | (refine ⟨_, ⟨rfl, rfl, rfl, congrArg (fun z => some (Value.int .i64 z)) wm, trivial⟩, fin ?_⟩
               clear fin bad2 rm hpc hja b1 b2 b4 l6 l7 hRP hO hLi htm g7 gX4 gX3 gu gX
               ((try (simp only [ba_ne_t, ba_ne_f, ba_eq_t, ba_eq_f, bne_iff_ne, bne_eq_false_iff_eq, decide_eq_true_eq, decide_eq_false_iff_not, beq_iff_eq, beq_eq_false_iff_ne, ne_eq, Bool.not_eq_true, Bool.not_eq_false, Bool.not_eq_true', Bool.not_eq_false'] at *)); (try simp only [Bool.false_eq_true, false_iff, true_iff, Classical.not_not, Bool.not_false, Bool.not_true] at *))
               grind)
      · have e1 : (!decide (0 ≤ o.pc ∧ o.pc ≤ IntKind.i64.wrap ((L.length : Int) - 1))) = true := by rw [wl, decide_eq_false h1]; rfl
        apply SW.drawG [(0, [], [150, 151, 152], false), (1, [(148, 0)], [148, 150, 151, 152], false), (2, [], [148, 149], false), (3, [(150, 2)], [148, 149, 150], false), (4, [(150, 2), (151, 3)], [148, 149, 150, 151], false), (5, [(148, 0), (149, 1), (150, 2), (151, 3), (152, 4)], [148, 149, 150, 151, 152], true), (6, [(148, 0), (149, 1), (150, 2), (151, 3), (152, 4), (153, 5)], [148, 149, 150, 151, 152, 153], false), (7, [(148, 0), (149, 1), (150, 2), (151, 3), (152, 4), (153, 5), (154, 6)], [148, 149, 150, 151, 152, 153, 154], false), (8, [(148, 0), (149, 1), (150, 2), (151, 3), (152, 4), (153, 5), (154, 6), (155, 7)], [148, 149, 150, 151, 152, 153, 154, 155, 157, 158, 161, 162, 163], false), (9, [(148, 0), (149, 1), (150, 2), (151, 3), (152, 4), (153, 5), (154, 6), (155, 7)], [148, 149, 150, 151, 152, 153, 154, 155, 156, 161, 162, 163], false), (10, [(148, 0), (149, 1), (150, 2), (151, 3), (152, 4), (153, 5), (154, 6), (155, 7), (157, 9)], [148, 149, 150, 151, 152, 153, 154, 155, 156, 157, 161, 162, 163], false), (11, [(148, 0), (149, 1), (150, 2), (151, 3), (152, 4), (153, 5), (154, 6), (155, 7), (156, 8), (157, 9), (158, 10)], [148, 149, 150, 151, 152, 153, 154, 155, 156, 157, 158, 161, 162, 163], false), (12, [(148, 0), (149, 1), (150, 2), (151, 3), (152, 4), (153, 5), (154, 6), (155, 7), (156, 8), (157, 9), (158, 10), (159, 11)], [148, 149, 150, 151, 152, 153, 154, 155, 156, 157, 158, 159, 161, 162, 163], false), (13, [(148, 0), (149, 1), (150, 2), (151, 3), (152, 4), (153, 5), (154, 6), (155, 7)], [148, 149, 150, 151, 152, 153, 154, 155, 156, 157, 158, 159, 160], false), (14, [(148, 0), (149, 1), (150, 2), (151, 3), (152, 4), (153, 5), (154, 6), (155, 7), (161, 13)], [148, 149, 150, 151, 152, 153, 154, 155, 156, 157, 158, 159, 160, 161], false), (15, [(148, 0), (149, 1), (150, 2), (151, 3), (152, 4), (153, 5), (154, 6), (155, 7), (161, 13), (162, 14)], [148, 149, 150, 151, 152, 153, 154, 155, 156, 157, 158, 159, 160, 161, 162], false), (16, [(148, 0), (149, 1), (150, 2), (151, 3), (152, 4), (153, 5), (154, 6), (155, 7), (156, 8), (157, 9), (158, 10), (159, 11), (160, 12), (161, 13), (162, 14), (163, 15)], [148, 149, 150, 151, 152, 153, 154, 155, 156, 157, 158, 159, 160, 161, 162, 163], false), (17, [(148, 0), (149, 1), (150, 2), (151, 3), (152, 4), (153, 5), (154, 6), (155, 7), (156, 8), (157, 9), (158, 10), (159, 11), (160, 12), (161, 13), (162, 14), (163, 15), (164, 16)], [148, 149, 150, 151, 152, 153, 154, 155, 156, 157, 158, 159, 160, 161, 162, 163, 164], false), (18, [(148, 0), (149, 1), (150, 2), (151, 3), (152, 4), (153, 5), (154, 6), (155, 7), (156, 8), (157, 9), (158, 10), (159, 11), (160, 12), (161, 13), (162, 14), (163, 15), (164, 16), (165, 17)], [148, 149, 150, 151, 152, 153, 154, 155, 156, 157, 158, 159, 160, 161, 162, 163, 164, 165], false), (19, [(148, 0), (149, 1), (150, 2), (151, 3), (152, 4), (153, 5), (154, 6), (155, 7), (156, 8), (157, 9), (158, 10), (159, 11), (160, 12), (161, 13), (162, 14), (163, 15), (164, 16), (165, 17), (166, 18)], [148, 149, 150, 151, 152, 153, 154, 155, 156, 157, 158, 159, 160, 161, 162, 163, 164, 165, 166, 169, 170], false), (20, [(148, 0), (149, 1), (150, 2), (151, 3), (152, 4), (153, 5), (154, 6), (155, 7), (156, 8), (157, 9), (158, 10), (159, 11), (160, 12), (161, 13), (162, 14), (163, 15), (164, 16), (165, 17), (166, 18), (167, 19)], [148, 149, 150, 151, 152, 153, 154, 155, 156, 157, 158, 159, 160, 161, 162, 163, 164, 165, 166, 167, 169, 170], false), (21, [(148, 0), (149, 1), (150, 2), (151, 3), (152, 4), (153, 5), (154, 6), (155, 7), (156, 8), (157, 9), (158, 10), (159, 11), (160, 12), (161, 13), (162, 14), (163, 15), (164, 16), (165, 17), (166, 18)], [148, 149, 150, 151, 152, 153, 154, 155, 156, 157, 158, 159, 160, 161, 162, 163, 164, 165, 166, 167, 168], false), (22, [(148, 0), (149, 1), (150, 2), (151, 3), (152, 4), (153, 5), (154, 6), (155, 7), (156, 8), (157, 9), (158, 10), (159, 11), (160, 12), (161, 13), (162, 14), (163, 15), (164, 16), (165, 17), (166, 18), (169, 21)], [148, 149, 150, 151, 152, 153, 154, 155, 156, 157, 158, 159, 160, 161, 162, 163, 164, 165, 166, 167, 168, 169], false), (23, [(148, 0), (149, 1), (150, 2), (151, 3), (152, 4), (153, 5), (154, 6), (155, 7), (156, 8), (157, 9), (158, 10), (159, 11), (160, 12), (161, 13), (162, 14), (163, 15), (164, 16), (165, 17), (166, 18), (167, 19), (168, 20), (169, 21), (170, 22)], [148, 149, 150, 151, 152, 153, 154, 155, 156, 157, 158, 159, 160, 161, 162, 163, 164, 165, 166, 167, 168, 169, 170], true), (24, [(148, 0), (149, 1), (150, 2), (151, 3), (152, 4), (153, 5), (154, 6), (155, 7), (156, 8), (157, 9), (158, 10), (159, 11), (160, 12), (161, 13), (162, 14), (163, 15), (164, 16), (165, 17), (166, 18), (167, 19), (168, 20), (169, 21), (170, 22), (171, 23)], [148, 149, 150, 151, 152, 153, 154, 155, 156, 157, 158, 159, 160, 161, 162, 163, 164, 165, 166, 167, 168, 169, 170, 171], false), (25, [(148, 0), (149, 1), (150, 2), (151, 3), (152, 4), (153, 5), (154, 6), (155, 7), (156, 8), (157, 9), (158, 10), (159, 11), (160, 12), (161, 13), (162, 14), (163, 15), (164, 16), (165, 17), (166, 18), (167, 19), (168, 20), (169, 21), (170, 22), (171, 23), (172, 24)], [148, 149, 150, 151, 152, 153, 154, 155, 156, 157, 158, 159, 160, 161, 162, 163, 164, 165, 166, 167, 168, 169, 170, 171, 172], false)]
          [(148, 0), (149, 1), (150, 2), (151, 3), (152, 4), (153, 5), (154, 6), (155, 7), (156, 8), (157, 9), (158, 10), (159, 11), (160, 12), (161, 13), (162, 14), (163, 15), (164, 16), (165, 17), (166, 18), (167, 19), (168, 20), (169, 21), (170, 22), (171, 23), (172, 24), (173, 25)]
          [(2, _), (3, _), (7, _), (8, _), (9, _)] rfl (by kernel_rfl)
        case hF => exact ⟨rfl, rfl, rfl, rfl, rfl, trivial⟩
        (try (conv => whnf)); (repeat' ((fail_if_success (with_reducible refine And.intro ?_ ?_)); (fail_if_success (with_reducible refine Exists.intro ?_ ?_)); (first | ((with_reducible refine AX.id ?_); (first | (refine (in_ax _ _ _ _).mono ?_; (rintro _ X ⟨rfl, eX⟩; subst X; (conv => whnf))) | (refine (rm).mono ?_; (rintro _ X ⟨⟨bb, rfl, hb⟩, eX⟩; subst X; cases bb <;> (conv => whnf))))) | (first | (apply Ob.of; (first | with_reducible assumption | with_reducible exact ex20 _ _ | with_reducible exact ex21 _ _ | with_reducible exact ex30 _ _ _ | with_reducible exact ex31 _ _ _ | with_reducible exact ex32 _ _ _ | rfl | (exact ald rfl rfl (by assumption) rfl) | (exact ald_agg rfl rfl rfl (by assumption) rfl)); (conv => whnf)) | (apply bIf.yes; (first | assumption | rfl); (conv => whnf)) | (apply bIf.no; (first | assumption | rfl); (conv => whnf)) | ((with_reducible refine Ob.load (by with_unfolding_all assumption) ?_); (conv => whnf)) | (apply Grows.mk; (first | exact Grow.refl _ | assumption); (conv => whnf))) | (apply bIf.of <;> intro hc <;> (conv => whnf)))))
        all_goals first
          | (refine bad2 (fun h => ?_)
             clear fin bad2 rm hpc hja b1 b2 b4 l6 l7 hRP hO hLi htm g7 gX4 gX3 gu gX
             ((try (simp only [ba_ne_t, ba_ne_f, ba_eq_t, ba_eq_f, bne_iff_ne, bne_eq_false_iff_eq, decide_eq_true_eq, decide_eq_false_iff_not, beq_iff_eq, beq_eq_false_iff_ne, ne_eq, Bool.not_eq_true, Bool.not_eq_false, Bool.not_eq_true', Bool.not_eq_false'] at *)); (try simp only [Bool.false_eq_true, false_iff, true_iff, Classical.not_not, Bool.not_false, Bool.not_true] at *))
             grind)
          | (refine ⟨_, ⟨rfl, rfl, rfl, congrArg (fun z => some (Value.int .i64 z)) wm, trivial⟩, fin ?_⟩
             clear fin bad2 rm hpc hja b1 b2 b4 l6 l7 hRP hO hLi htm g7 gX4 gX3 gu gX
             ((try (simp only [ba_ne_t, ba_ne_f, ba_eq_t, ba_eq_f, bne_iff_ne, bne_eq_false_iff_eq, decide_eq_true_eq, decide_eq_false_iff_not, beq_iff_eq, beq_eq_false_iff_ne, ne_eq, Bool.not_eq_true, Bool.not_eq_false, Bool.not_eq_true', Bool.not_eq_false'] at *)); (try simp only [Bool.false_eq_true, false_iff, true_iff, Classical.not_not, Bool.not_false, Bool.not_true] at *))
             grind)
  · have d1 : decide ((m : Int) < (b.ops.length : Int)) = false := decide_eq_false (by omega)
    have hme : m = b.ops.length := by omega
    rw [hme] at htm
    obtain ⟨o, ho⟩ := get_lt (L := b.ops) (m := b.ops.length - 1) (by omega)
    obtain ⟨bo, _, _, _, i1, _, _, _, i2⟩ := ldx_op hbI.ops ho
    have i3 := (i2 X g5).2
    have w : IntKind.i64.wrap ((b.ops.length : Int) - 1) = ((b.ops.length - 1 : Nat) : Int) := by rw [wrap_i64 (by omega) (by omega)]; omega
    rw [← w] at i1
    have hlast : o.kind = lastK b.ops := by
      unfold lastK kindAt
      rw [show ((b.ops.length : Int) - 1).toNat = b.ops.length - 1 by omega, List.getD_eq_getElem?_getD, ho]
      rfl
    rw [hlast] at i3
    (try (conv => whnf)); (repeat' ((fail_if_success (with_reducible refine And.intro ?_ ?_)); (fail_if_success (with_reducible refine Exists.intro ?_ ?_)); (first | (first | (apply Ob.of; (first | with_reducible assumption | with_reducible exact ex20 _ _ | with_reducible exact ex21 _ _ | with_reducible exact ex30 _ _ _ | with_reducible exact ex31 _ _ _ | with_reducible exact ex32 _ _ _ | rfl | (exact ald rfl rfl (by assumption) rfl) | (exact ald_agg rfl rfl rfl (by assumption) rfl)); (conv => whnf)) | (apply bIf.yes; (first | assumption | rfl); (conv => whnf)) | (apply bIf.no; (first | assumption | rfl); (conv => whnf)) | ((with_reducible refine Ob.load (by with_unfolding_all assumption) ?_); (conv => whnf)) | (apply Grows.mk; (first | exact Grow.refl _ | assumption); (conv => whnf))) | (apply bIf.of <;> intro hc <;> (conv => whnf)))))
    all_goals clear i1 i3 b1 b2 l4 d1 w
    all_goals ((try (simp only [ba_ne_t, ba_ne_f, ba_eq_t, ba_eq_f, bne_iff_ne, bne_eq_false_iff_eq, decide_eq_true_eq, decide_eq_false_iff_not, beq_iff_eq, beq_eq_false_iff_ne, ne_eq, Bool.not_eq_true, Bool.not_eq_false, Bool.not_eq_true', Bool.not_eq_false'] at *)); (try simp only [Bool.false_eq_true, false_iff, true_iff, Classical.not_not, Bool.not_false, Bool.not_true] at *))
    · refine ⟨.inr ⟨rfl, fun ⟨_, _, c', L', h1, h2, h3, h4, h5, h6, h7⟩ => ?_⟩, g5⟩
      omega
    · exact ⟨.inl ⟨rfl, hv, hF.1, c, L, hcf, hlim, hVals, hDeps, hCl, htm, by omega⟩, g5⟩
    · exact ⟨.inl ⟨rfl, hv, hF.1, c, L, hcf, hlim, hVals, hDeps, hCl, htm, by omega⟩, g5⟩
end Go.Proofs.Ytfobbmllbbckkaa
/- Package ir: what operations read and write, and what comes behind them. -/
set_option linter.unusedVariables false
set_option linter.unusedSimpArgs false
set_option maxRecDepth 20000
set_option maxHeartbeats 8000000
namespace Go.Proofs.Ytfobbmllbbckkaa
open Go Ax
def usesN (o : OpX) : Nat → List Int
  | 0 => []
  | m + 1 => usesN o m ++ if fl o.kind m = 114 then [partN o m] else []
theorem usesN_len (o : OpX) : ∀ m, (usesN o m).length ≤ m
  | 0 => by simp [usesN]
  | m + 1 => by
    have := usesN_len o m
    simp only [usesN, List.length_append]
    split <;> simp <;> omega
theorem isR_eq (k : Int) (i : Nat) : isR k i = decide (fl k i = 114) := by
  unfold isR
  by_cases h : fl k i = 114
  · rw [h]; rfl
  · rw [decide_eq_false h]; cases hb : Nat.beq _ _ with | false => rfl | true => exact absurd (Nat.eq_of_beq_eq_true hb) h
theorem usesN_all (o : OpX) (h : fl o.kind 3 ≠ 114) : usesN o 4 ++ o.regs = usesL o := by
  unfold usesL
  rw [isR_eq, isR_eq, isR_eq]
  simp only [usesN, if_neg h, List.append_nil, decide_eq_true_eq]
  rfl
theorem fl3 (k : Int) : fl k 3 ≠ 114 := by
  by_cases h : 1 ≤ k ∧ k ≤ 30
  · exact (fl_some h).1
  · rw [fl_no h]; decide
theorem irUses_ax {H : Heap} {o : OpX} {rv cv mv : Value} (hr : RL 1 intR H rv o.regs) (hL : o.regs.length ≤ 100000) :
    AX Try.prog 11 #[opV o rv cv mv] H (fun v H' => RL 1 intR H' v (usesL o) ∧ Grow H H') := by
  refine AX.body (n := 29) (rs := [.tmp 2]) Try.func11 rfl (by decide) rfl rfl (bC_sound _ _ _ _ ?_)
  (conv => whnf)
  refine Ob2.box rfl fun q1 H1 hq1 a1 g1 => ?_
  have b1 := hblk_of a1
  (try (conv => whnf)); (repeat ((fail_if_success (with_reducible refine And.intro ?_ ?_)); (fail_if_success (with_reducible refine Exists.intro ?_ ?_)); (first | (apply Ob.of; (first | with_reducible assumption | with_reducible exact ex20 _ _ | with_reducible exact ex21 _ _ | with_reducible exact ex30 _ _ _ | with_reducible exact ex31 _ _ _ | with_reducible exact ex32 _ _ _ | rfl | (exact ald rfl rfl (by assumption) rfl) | (exact ald_agg rfl rfl rfl (by assumption) rfl)); (conv => whnf)) | (apply bIf.yes; (first | assumption | rfl); (conv => whnf)) | (apply bIf.no; (first | assumption | rfl); (conv => whnf)) | ((with_reducible refine Ob.load (by with_unfolding_all assumption) ?_); (conv => whnf)) | (apply Grows.mk; (first | exact Grow.refl _ | assumption); (conv => whnf)))))
  refine (parts_ax H1 o rv cv mv).mono ?_
  rintro _ H2 ⟨rfl, g2⟩
  have b1 := g2.hblk b1
  (try (conv => whnf)); (repeat ((fail_if_success (with_reducible refine And.intro ?_ ?_)); (fail_if_success (with_reducible refine Exists.intro ?_ ?_)); (first | (apply Ob.of; (first | with_reducible assumption | with_reducible exact ex20 _ _ | with_reducible exact ex21 _ _ | with_reducible exact ex30 _ _ _ | with_reducible exact ex31 _ _ _ | with_reducible exact ex32 _ _ _ | rfl | (exact ald rfl rfl (by assumption) rfl) | (exact ald_agg rfl rfl rfl (by assumption) rfl)); (conv => whnf)) | (apply bIf.yes; (first | assumption | rfl); (conv => whnf)) | (apply bIf.no; (first | assumption | rfl); (conv => whnf)) | ((with_reducible refine Ob.load (by with_unfolding_all assumption) ?_); (conv => whnf)) | (apply Grows.mk; (first | exact Grow.refl _ | assumption); (conv => whnf)))))
  refine Ob2.alloc rfl fun q3 H3 hq3 a3 g3 => ?_
  have b1 := g3.hblk b1
  (try (conv => whnf)); (repeat ((fail_if_success (with_reducible refine And.intro ?_ ?_)); (fail_if_success (with_reducible refine Exists.intro ?_ ?_)); (first | (apply Ob.of; (first | with_reducible assumption | with_reducible exact ex20 _ _ | with_reducible exact ex21 _ _ | with_reducible exact ex30 _ _ _ | with_reducible exact ex31 _ _ _ | with_reducible exact ex32 _ _ _ | rfl | (exact ald rfl rfl (by assumption) rfl) | (exact ald_agg rfl rfl rfl (by assumption) rfl)); (conv => whnf)) | (apply bIf.yes; (first | assumption | rfl); (conv => whnf)) | (apply bIf.no; (first | assumption | rfl); (conv => whnf)) | ((with_reducible refine Ob.load (by with_unfolding_all assumption) ?_); (conv => whnf)) | (apply Grows.mk; (first | exact Grow.refl _ | assumption); (conv => whnf)))))
  refine Ob.store rfl rfl rfl a3 rfl (by first | exact Nat.le_of_ble_eq_true rfl | simp) fun H4 s4 k4 l4 => ?_
  have g4 : Grow H2 H4 := g3.but_new k4 (by omega)
  have n1 : q1 < H2.length := by have := g2.1; have := lt_at a1; omega
  have b1 := k4.hblk b1 (by omega)
  have b3 := hblk_of s4
  have n3 : q3 < H4.length := lt_hblk b3
  have gg : Grow H H4 := (g1.trans g2).trans g4
  clear s4 a3 g3 k4 l4
  (try (conv => whnf)); (repeat ((fail_if_success (with_reducible refine And.intro ?_ ?_)); (fail_if_success (with_reducible refine Exists.intro ?_ ?_)); (first | (apply Ob.of; (first | with_reducible assumption | with_reducible exact ex20 _ _ | with_reducible exact ex21 _ _ | with_reducible exact ex30 _ _ _ | with_reducible exact ex31 _ _ _ | with_reducible exact ex32 _ _ _ | rfl | (exact ald rfl rfl (by assumption) rfl) | (exact ald_agg rfl rfl rfl (by assumption) rfl)); (conv => whnf)) | (apply bIf.yes; (first | assumption | rfl); (conv => whnf)) | (apply bIf.no; (first | assumption | rfl); (conv => whnf)) | ((with_reducible refine Ob.load (by with_unfolding_all assumption) ?_); (conv => whnf)) | (apply Grows.mk; (first | exact Grow.refl _ | assumption); (conv => whnf)))))
  refine (fields_ax H4 o.kind).mono ?_
  rintro _ X ⟨rfl, e⟩
  subst X
  (try (conv => whnf)); (repeat ((fail_if_success (with_reducible refine And.intro ?_ ?_)); (fail_if_success (with_reducible refine Exists.intro ?_ ?_)); (first | (apply Ob.of; (first | with_reducible assumption | with_reducible exact ex20 _ _ | with_reducible exact ex21 _ _ | with_reducible exact ex30 _ _ _ | with_reducible exact ex31 _ _ _ | with_reducible exact ex32 _ _ _ | rfl | (exact ald rfl rfl (by assumption) rfl) | (exact ald_agg rfl rfl rfl (by assumption) rfl)); (conv => whnf)) | (apply bIf.yes; (first | assumption | rfl); (conv => whnf)) | (apply bIf.no; (first | assumption | rfl); (conv => whnf)) | ((with_reducible refine Ob.load (by with_unfolding_all assumption) ?_); (conv => whnf)) | (apply Grows.mk; (first | exact Grow.refl _ | assumption); (conv => whnf)))))
  refine Ob2.range rfl fun q5 H5 hq5 a5 g5 => ?_
  have b1 := g5.hblk b1
  have b3 := g5.hblk b3
  have g6 : Grow H H5 := gg.trans g5
  have n5 : q5 < H5.length := lt_at a5
  have h45 : H4.length ≤ H5.length := g5.1
  have h24 : H2.length ≤ H4.length := g4.1
  (try (conv => whnf)); (repeat ((fail_if_success (with_reducible refine And.intro ?_ ?_)); (fail_if_success (with_reducible refine Exists.intro ?_ ?_)); (first | (apply Ob.of; (first | with_reducible assumption | with_reducible exact ex20 _ _ | with_reducible exact ex21 _ _ | with_reducible exact ex30 _ _ _ | with_reducible exact ex31 _ _ _ | with_reducible exact ex32 _ _ _ | rfl | (exact ald rfl rfl (by assumption) rfl) | (exact ald_agg rfl rfl rfl (by assumption) rfl)); (conv => whnf)) | (apply bIf.yes; (first | assumption | rfl); (conv => whnf)) | (apply bIf.no; (first | assumption | rfl); (conv => whnf)) | ((with_reducible refine Ob.load (by with_unfolding_all assumption) ?_); (conv => whnf)) | (apply Grows.mk; (first | exact Grow.refl _ | assumption); (conv => whnf)))))
  refine SW.loop (α := Nat × Value) (fun y => [(1, .pointer (some ⟨q1, 0, none⟩)), (3, y.2), (4, .pointer (some ⟨q3, 0, none⟩)), (12, .pointer (some ⟨q5, 0, none⟩))])
    (fun y X => y.1 ≤ 4 ∧ (y.1 = 0 ∨ 1 ≤ o.kind ∧ o.kind ≤ 30) ∧ OwnR 1 3 intR X y.2 (usesN o y.1) ∧ (∀ b, blkIs y.2 b → H5.length ≤ b) ∧ X[q5]? = some (.iter (fldB o.kind) y.1) ∧ hblk X q1 = hblk H5 q1 ∧ hblk X q3 = hblk H5 q3 ∧ Grow H X ∧ H5.length ≤ X.length) (fun y => 4 - y.1)
    ⟨(0, .slice none 0 0), ⟨rfl, rfl, rfl, rfl, trivial⟩, by show 0 ≤ 4; omega, .inl rfl, .inl ⟨rfl, rfl⟩, fun b ⟨n, k, h⟩ => by simp at h, a5, rfl, rfl, g6, Nat.le_refl _⟩ ?_
  rintro ⟨m, sv⟩ X ⟨hm4, hmk, hO, hsv, hit, c1, c3, gx, hlx⟩
  dsimp only at hm4 hmk hO hsv hit ⊢
  rw [b1] at c1
  rw [b3] at c3
  have b1' := b1
  have b3' := b3
  clear b1 b3 a5 g5 g6 gg
  refine bC_sound _ _ _ _ ?_
  by_cases hm : m < 4 ∧ 1 ≤ o.kind ∧ o.kind ≤ 30
  · obtain ⟨hm, hk⟩ := hm
    have hdec := fldB_dec hk hm
    have hsz := fldB_size hk
    (try (conv => whnf)); (repeat ((fail_if_success (with_reducible refine And.intro ?_ ?_)); (fail_if_success (with_reducible refine Exists.intro ?_ ?_)); (first | (apply Ob.of; (first | with_reducible assumption | with_reducible exact ex20 _ _ | with_reducible exact ex21 _ _ | with_reducible exact ex30 _ _ _ | with_reducible exact ex31 _ _ _ | with_reducible exact ex32 _ _ _ | rfl | (exact ald rfl rfl (by assumption) rfl) | (exact ald_agg rfl rfl rfl (by assumption) rfl)); (conv => whnf)) | (apply bIf.yes; (first | assumption | rfl); (conv => whnf)) | (apply bIf.no; (first | assumption | rfl); (conv => whnf)) | ((with_reducible refine Ob.load (by with_unfolding_all assumption) ?_); (conv => whnf)) | (apply Grows.mk; (first | exact Grow.refl _ | assumption); (conv => whnf)))))
    refine Ob2.next hit (by omega) hdec fun X2 t1 t2 t3 => ?_
    have d1 := t2.hblk c1 (by omega)
    have d3 := t2.hblk c3 (by omega)
    have gx2 : Grow H X2 := gx.but_new t2 (by have := g4.1; have := g1.1; have := g2.1; omega)
    have hO2 : OwnR 1 3 intR X2 sv (usesN o m) := hO.keep (fun b c hb h => t2.at h (by have := hsv b hb; omega)) fun _ _ _ h => h
    obtain ⟨y1, y2, y3, rfl⟩ := hO2.form
    (try (conv => whnf)); (repeat ((fail_if_success (with_reducible refine And.intro ?_ ?_)); (fail_if_success (with_reducible refine Exists.intro ?_ ?_)); (first | (apply Ob.of; (first | with_reducible assumption | with_reducible exact ex20 _ _ | with_reducible exact ex21 _ _ | with_reducible exact ex30 _ _ _ | with_reducible exact ex31 _ _ _ | with_reducible exact ex32 _ _ _ | rfl | (exact ald rfl rfl (by assumption) rfl) | (exact ald_agg rfl rfl rfl (by assumption) rfl)); (conv => whnf)) | (apply bIf.yes; (first | assumption | rfl); (conv => whnf)) | (apply bIf.no; (first | assumption | rfl); (conv => whnf)) | ((with_reducible refine Ob.load (by with_unfolding_all assumption) ?_); (conv => whnf)) | (apply Grows.mk; (first | exact Grow.refl _ | assumption); (conv => whnf)))))
    by_cases hl : fl o.kind m = 114
    · have e1 : (((fl o.kind m : Nat) : Int) == 114) = true := by rw [hl]; rfl
      have hu : usesN o (m + 1) = usesN o m ++ [partN o m] := by simp only [usesN, if_pos hl]
      obtain ⟨i1, i2⟩ : aindexAddr Try.prog 71 (.pointer (some ⟨q3, 0, none⟩)) (.int .i64 (m : Int)) = some (.pointer (some ⟨q3, m, none⟩)) ∧ aload Try.prog 3 (.pointer (some ⟨q3, m, none⟩)) X2 = some (.int .i64 (partN o m)) := by
        rcases (by omega : m = 0 ∨ m = 1 ∨ m = 2 ∨ m = 3) with rfl | rfl | rfl | rfl <;> exact ⟨rfl, ald rfl rfl d3 rfl⟩
      (try (conv => whnf)); (repeat ((fail_if_success (with_reducible refine And.intro ?_ ?_)); (fail_if_success (with_reducible refine Exists.intro ?_ ?_)); (first | (apply Ob.of; (first | with_reducible assumption | with_reducible exact ex20 _ _ | with_reducible exact ex21 _ _ | with_reducible exact ex30 _ _ _ | with_reducible exact ex31 _ _ _ | with_reducible exact ex32 _ _ _ | rfl | (exact ald rfl rfl (by assumption) rfl) | (exact ald_agg rfl rfl rfl (by assumption) rfl)); (conv => whnf)) | (apply bIf.yes; (first | assumption | rfl); (conv => whnf)) | (apply bIf.no; (first | assumption | rfl); (conv => whnf)) | ((with_reducible refine Ob.load (by with_unfolding_all assumption) ?_); (conv => whnf)) | (apply Grows.mk; (first | exact Grow.refl _ | assumption); (conv => whnf)))))
      refine Ob2.lay (H := X2) (.cells (.row 3) [.int .i64 (partN o m)]) (.slice (some ⟨X2.length, 0, none⟩) 1 1) rfl fun X3 ad gd ld => ?_
      obtain ⟨sv', X4, ee, hO4, fx, hsv'⟩ := app1 (n := H5.length) (hO2.keep (fun b c _ hb => gd.at hb) fun _ _ _ h => h) hsv (by omega) (by have := usesN_len o m; omega) ad
      (try (conv => whnf)); (repeat ((fail_if_success (with_reducible refine And.intro ?_ ?_)); (fail_if_success (with_reducible refine Exists.intro ?_ ?_)); (first | (apply Ob.of; (first | with_reducible assumption | with_reducible exact ex20 _ _ | with_reducible exact ex21 _ _ | with_reducible exact ex30 _ _ _ | with_reducible exact ex31 _ _ _ | with_reducible exact ex32 _ _ _ | rfl | (exact ald rfl rfl (by assumption) rfl) | (exact ald_agg rfl rfl rfl (by assumption) rfl)); (conv => whnf)) | (apply bIf.yes; (first | assumption | rfl); (conv => whnf)) | (apply bIf.no; (first | assumption | rfl); (conv => whnf)) | ((with_reducible refine Ob.load (by with_unfolding_all assumption) ?_); (conv => whnf)) | (apply Grows.mk; (first | exact Grow.refl _ | assumption); (conv => whnf)))))
      refine Ob2.of ee ?_
      obtain ⟨y1, y2, y3, rfl⟩ := hO4.form
      (try (conv => whnf)); (repeat ((fail_if_success (with_reducible refine And.intro ?_ ?_)); (fail_if_success (with_reducible refine Exists.intro ?_ ?_)); (first | (apply Ob.of; (first | with_reducible assumption | with_reducible exact ex20 _ _ | with_reducible exact ex21 _ _ | with_reducible exact ex30 _ _ _ | with_reducible exact ex31 _ _ _ | with_reducible exact ex32 _ _ _ | rfl | (exact ald rfl rfl (by assumption) rfl) | (exact ald_agg rfl rfl rfl (by assumption) rfl)); (conv => whnf)) | (apply bIf.yes; (first | assumption | rfl); (conv => whnf)) | (apply bIf.no; (first | assumption | rfl); (conv => whnf)) | ((with_reducible refine Ob.load (by with_unfolding_all assumption) ?_); (conv => whnf)) | (apply Grows.mk; (first | exact Grow.refl _ | assumption); (conv => whnf)))))
      have hk4 : ∀ q : Nat, q < H5.length → ∀ c, hblk X2 q = some c → hblk X4 q = some c := fun q hq c hc => by
        obtain ⟨mm, hmm⟩ := hblk_some (gd.hblk hc)
        exact hblk_of (fx.2 q _ hmm (.inl hq))
      refine ⟨(m + 1, _), ⟨rfl, rfl, rfl, rfl, trivial⟩, ⟨hm, .inr hk, by rw [hu]; exact hO4, hsv', fx.2 q5 _ (gd.at t1) (.inl n5), ?_, ?_, fx.grow (gx2.trans gd) (by have := g4.1; have := g1.1; have := g2.1; omega), by have := fx.1; omega⟩, by show 4 - (m + 1) < 4 - m; omega⟩
      · rw [b1']; exact hk4 _ (by omega) _ d1
      · rw [b3']; exact hk4 _ (by omega) _ d3
    · have e1 : (((fl o.kind m : Nat) : Int) == 114) = false := by rw [beq_eq_false_iff_ne]; omega
      have hu : usesN o (m + 1) = usesN o m := by simp only [usesN, if_neg hl, List.append_nil]
      (try (conv => whnf)); (repeat ((fail_if_success (with_reducible refine And.intro ?_ ?_)); (fail_if_success (with_reducible refine Exists.intro ?_ ?_)); (first | (apply Ob.of; (first | with_reducible assumption | with_reducible exact ex20 _ _ | with_reducible exact ex21 _ _ | with_reducible exact ex30 _ _ _ | with_reducible exact ex31 _ _ _ | with_reducible exact ex32 _ _ _ | rfl | (exact ald rfl rfl (by assumption) rfl) | (exact ald_agg rfl rfl rfl (by assumption) rfl)); (conv => whnf)) | (apply bIf.yes; (first | assumption | rfl); (conv => whnf)) | (apply bIf.no; (first | assumption | rfl); (conv => whnf)) | ((with_reducible refine Ob.load (by with_unfolding_all assumption) ?_); (conv => whnf)) | (apply Grows.mk; (first | exact Grow.refl _ | assumption); (conv => whnf)))))
      exact ⟨(m + 1, _), ⟨rfl, rfl, rfl, rfl, trivial⟩, ⟨hm, .inr hk, by rw [hu]; exact hO2, hsv, t1, by rw [b1', d1], by rw [b3', d3], gx2, by omega⟩, by show 4 - (m + 1) < 4 - m; omega⟩
  · have hend : ¬ m < (fldB o.kind).size ∧ usesN o m ++ o.regs = usesL o := by
      by_cases hk : 1 ≤ o.kind ∧ o.kind ≤ 30
      · have : m = 4 := by omega
        subst this
        exact ⟨by rw [fldB_size hk]; omega, usesN_all o (fl3 _)⟩
      · have : m = 0 := by omega
        subst this
        refine ⟨by rw [fldB_no hk]; show ¬ 0 < 0; omega, ?_⟩
        unfold usesL
        rw [isR_eq, isR_eq, isR_eq, fl_no hk, fl_no hk, fl_no hk]
        rfl
    obtain ⟨hend, hU⟩ := hend
    (try (conv => whnf)); (repeat ((fail_if_success (with_reducible refine And.intro ?_ ?_)); (fail_if_success (with_reducible refine Exists.intro ?_ ?_)); (first | (apply Ob.of; (first | with_reducible assumption | with_reducible exact ex20 _ _ | with_reducible exact ex21 _ _ | with_reducible exact ex30 _ _ _ | with_reducible exact ex31 _ _ _ | with_reducible exact ex32 _ _ _ | rfl | (exact ald rfl rfl (by assumption) rfl) | (exact ald_agg rfl rfl rfl (by assumption) rfl)); (conv => whnf)) | (apply bIf.yes; (first | assumption | rfl); (conv => whnf)) | (apply bIf.no; (first | assumption | rfl); (conv => whnf)) | ((with_reducible refine Ob.load (by with_unfolding_all assumption) ?_); (conv => whnf)) | (apply Grows.mk; (first | exact Grow.refl _ | assumption); (conv => whnf)))))
    refine Ob2.nextEnd hit hend ?_
    obtain ⟨sv9, H9, e91, e92, e93, e94⟩ := OwnR.appendL (n := H5.length) rowI rowI hO (intR.grow hr gx) hsv hlx (by have := usesN_len o m; omega) (fun _ _ _ _ _ h => h)
    (try (conv => whnf)); (repeat ((fail_if_success (with_reducible refine And.intro ?_ ?_)); (fail_if_success (with_reducible refine Exists.intro ?_ ?_)); (first | (apply Ob.of; (first | with_reducible assumption | with_reducible exact ex20 _ _ | with_reducible exact ex21 _ _ | with_reducible exact ex30 _ _ _ | with_reducible exact ex31 _ _ _ | with_reducible exact ex32 _ _ _ | rfl | (exact ald rfl rfl (by assumption) rfl) | (exact ald_agg rfl rfl rfl (by assumption) rfl)); (conv => whnf)) | (apply bIf.yes; (first | assumption | rfl); (conv => whnf)) | (apply bIf.no; (first | assumption | rfl); (conv => whnf)) | ((with_reducible refine Ob.load (by with_unfolding_all assumption) ?_); (conv => whnf)) | (apply Grows.mk; (first | exact Grow.refl _ | assumption); (conv => whnf)))))
    refine Ob2.of e91 ?_
    obtain ⟨z1, z2, z3, rfl⟩ := e92.form
    (try (conv => whnf)); (repeat ((fail_if_success (with_reducible refine And.intro ?_ ?_)); (fail_if_success (with_reducible refine Exists.intro ?_ ?_)); (first | (apply Ob.of; (first | with_reducible assumption | with_reducible exact ex20 _ _ | with_reducible exact ex21 _ _ | with_reducible exact ex30 _ _ _ | with_reducible exact ex31 _ _ _ | with_reducible exact ex32 _ _ _ | rfl | (exact ald rfl rfl (by assumption) rfl) | (exact ald_agg rfl rfl rfl (by assumption) rfl)); (conv => whnf)) | (apply bIf.yes; (first | assumption | rfl); (conv => whnf)) | (apply bIf.no; (first | assumption | rfl); (conv => whnf)) | ((with_reducible refine Ob.load (by with_unfolding_all assumption) ?_); (conv => whnf)) | (apply Grows.mk; (first | exact Grow.refl _ | assumption); (conv => whnf)))))
    have := e92.rl
    rw [hU] at this
    exact ⟨this, e93.grow gx (by have := g4.1; have := g1.1; have := g2.1; omega)⟩
theorem hasR0_ax (H : Heap) (k : Int) : AX Try.prog 70 #[.string (fldB k), .string ⟨#[82]⟩] H (fun v H' => v = .bool (isW k) ∧ H' = H) := by
  refine AX.body (n := 18) (rs := [.tmp 4]) Try.func70 rfl (by decide) rfl rfl (bC_sound _ _ _ _ ?_)
  by_cases h : 1 ≤ k ∧ k ≤ 30
  · rcases thirty h.1 h.2 with rfl | rfl | rfl | rfl | rfl | rfl | rfl | rfl | rfl | rfl | rfl | rfl | rfl | rfl | rfl | rfl | rfl | rfl | rfl | rfl | rfl | rfl | rfl | rfl | rfl | rfl | rfl | rfl | rfl | rfl <;> ((try (conv => whnf)); (repeat ((fail_if_success (with_reducible refine And.intro ?_ ?_)); (fail_if_success (with_reducible refine Exists.intro ?_ ?_)); (first | (apply Ob.of; (first | with_reducible assumption | with_reducible exact ex20 _ _ | with_reducible exact ex21 _ _ | with_reducible exact ex30 _ _ _ | with_reducible exact ex31 _ _ _ | with_reducible exact ex32 _ _ _ | rfl | (exact ald rfl rfl (by assumption) rfl) | (exact ald_agg rfl rfl rfl (by assumption) rfl)); (conv => whnf)) | (apply bIf.yes; (first | assumption | rfl); (conv => whnf)) | (apply bIf.no; (first | assumption | rfl); (conv => whnf)) | ((with_reducible refine Ob.load (by with_unfolding_all assumption) ?_); (conv => whnf)) | (apply Grows.mk; (first | exact Grow.refl _ | assumption); (conv => whnf))))); exact ⟨rfl, rfl⟩)
  · rw [fldB_no h]
    unfold isW
    rw [fl_no h]
    (try (conv => whnf)); (repeat ((fail_if_success (with_reducible refine And.intro ?_ ?_)); (fail_if_success (with_reducible refine Exists.intro ?_ ?_)); (first | (apply Ob.of; (first | with_reducible assumption | with_reducible exact ex20 _ _ | with_reducible exact ex21 _ _ | with_reducible exact ex30 _ _ _ | with_reducible exact ex31 _ _ _ | with_reducible exact ex32 _ _ _ | rfl | (exact ald rfl rfl (by assumption) rfl) | (exact ald_agg rfl rfl rfl (by assumption) rfl)); (conv => whnf)) | (apply bIf.yes; (first | assumption | rfl); (conv => whnf)) | (apply bIf.no; (first | assumption | rfl); (conv => whnf)) | ((with_reducible refine Ob.load (by with_unfolding_all assumption) ?_); (conv => whnf)) | (apply Grows.mk; (first | exact Grow.refl _ | assumption); (conv => whnf)))))
    exact ⟨rfl, rfl⟩
theorem hasR_ax (H : Heap) (k : Int) : AX Try.prog 39 #[.string (fldB k), .string ⟨#[82]⟩] H (fun v H' => v = .bool (isW k) ∧ H' = H) := by
  refine AX.body (n := 8) (rs := [.tmp 4]) Try.func39 rfl (by decide) rfl rfl (bC_sound _ _ _ _ ?_)
  (try (conv => whnf)); (repeat' ((fail_if_success (with_reducible refine And.intro ?_ ?_)); (fail_if_success (with_reducible refine Exists.intro ?_ ?_)); (first | ((with_reducible refine AX.id ?_); (first | (refine (hasR0_ax _ _).mono ?_; (rintro _ X ⟨rfl, eX⟩; subst X; (conv => whnf))))) | (first | (apply Ob.of; (first | with_reducible assumption | with_reducible exact ex20 _ _ | with_reducible exact ex21 _ _ | with_reducible exact ex30 _ _ _ | with_reducible exact ex31 _ _ _ | with_reducible exact ex32 _ _ _ | rfl | (exact ald rfl rfl (by assumption) rfl) | (exact ald_agg rfl rfl rfl (by assumption) rfl)); (conv => whnf)) | (apply bIf.yes; (first | assumption | rfl); (conv => whnf)) | (apply bIf.no; (first | assumption | rfl); (conv => whnf)) | ((with_reducible refine Ob.load (by with_unfolding_all assumption) ?_); (conv => whnf)) | (apply Grows.mk; (first | exact Grow.refl _ | assumption); (conv => whnf))) | (apply bIf.of <;> intro hc <;> (conv => whnf)))))
  exact ⟨rfl, rfl⟩
theorem irDef_ax (H : Heap) (o : OpX) (rv cv mv : Value) : AX Try.prog 12 #[opV o rv cv mv] H (fun v H' => v = .int .i64 (defL o) ∧ H' = H) := by
  refine AX.quiet ?_
  suffices hh : AX Try.prog 12 #[opV o rv cv mv] H (fun v H' => v = .int .i64 (defL o) ∧ Grow H H') from hh.mono fun v _ ⟨e, g⟩ => ⟨e ▸ plain_int _ _, e, g⟩
  refine AX.body (n := 9) (rs := [.tmp 2]) Try.func12 rfl (by decide) rfl rfl (bC_sound _ _ _ _ ?_)
  (conv => whnf)
  refine Ob2.box rfl fun q1 H1 hq1 a1 g => ?_
  have b1 := hblk_of a1
  (try (conv => whnf)); (repeat' ((fail_if_success (with_reducible refine And.intro ?_ ?_)); (fail_if_success (with_reducible refine Exists.intro ?_ ?_)); (first | ((with_reducible refine AX.id ?_); (first | (refine (fields_ax _ _).mono ?_; (rintro _ X ⟨rfl, eX⟩; subst X; (conv => whnf))) | (refine (hasR_ax _ _).mono ?_; (rintro _ X ⟨rfl, eX⟩; subst X; (conv => whnf))))) | (first | (apply Ob.of; (first | with_reducible assumption | with_reducible exact ex20 _ _ | with_reducible exact ex21 _ _ | with_reducible exact ex30 _ _ _ | with_reducible exact ex31 _ _ _ | with_reducible exact ex32 _ _ _ | rfl | (exact ald rfl rfl (by assumption) rfl) | (exact ald_agg rfl rfl rfl (by assumption) rfl)); (conv => whnf)) | (apply bIf.yes; (first | assumption | rfl); (conv => whnf)) | (apply bIf.no; (first | assumption | rfl); (conv => whnf)) | ((with_reducible refine Ob.load (by with_unfolding_all assumption) ?_); (conv => whnf)) | (apply Grows.mk; (first | exact Grow.refl _ | assumption); (conv => whnf))) | (apply bIf.of <;> intro hc <;> (conv => whnf)))))
  all_goals refine ⟨congrArg (Value.int .i64) ?_, g⟩
  all_goals simp [defL, hc]
/-- What comes behind an operation. -/
def tgtL (o : OpX) (at_ : Int) : List Int := if o.kind = 24 then [] else if o.kind = 17 then [o.a] else if jumps o.kind = true then [at_ + 1, o.a] else [at_ + 1]
theorem row_one {H : Heap} (a : Int) : RL 1 intR (H ++ [.cells (.row 3) [.int .i64 a]]) (.slice (some ⟨H.length, 0, none⟩) 1 1) [a] := RL.own (g := Value.int .i64) (L := [a]) (fun _ _ => rfl) (at_push _ _)
theorem irTargets_ax {H : Heap} {b : BodyX} {kv ov dv : Value} (hb : BodyIn H b kv ov dv) (hL : b.ops.length < 4294967296) {at_ : Nat} {o : OpX} (ho : b.ops[at_]? = some o) :
    AX Try.prog 13 #[bodyV b kv ov dv, .int .i64 (at_ : Int)] H (fun v H' => RL 1 intR H' v (tgtL o at_) ∧ Grow H H') := by
  refine AX.body (n := 43) (rs := [.tmp 4]) Try.func13 rfl (by decide) rfl rfl (bC_sound _ _ _ _ ?_)
  (conv => whnf)
  refine Ob2.box rfl fun q1 H1 hq1 a1 g1 => ?_
  have b1 := hblk_of a1
  have l4 : alen Try.prog 27 ov H1 = some (.int .i64 b.ops.length) := hb.ops.len rfl _
  have hlt := lt_of_get ho
  have d0 : decide ((at_ : Int) < 0) = false := decide_eq_false (by omega)
  have d1 : decide ((at_ : Int) ≥ (b.ops.length : Int)) = false := decide_eq_false (by omega)
  obtain ⟨bo, rv, cv, mv, i1, jr, jc, jm, i2⟩ := ldx_op hb.ops ho
  have i3 := (i2 H1 g1).1
  have w : IntKind.i64.wrap ((at_ : Int) + 1) = (at_ : Int) + 1 := by rw [wrap_i64 (by omega) (by omega)]
  (try (conv => whnf)); (repeat ((fail_if_success (with_reducible refine And.intro ?_ ?_)); (fail_if_success (with_reducible refine Exists.intro ?_ ?_)); (first | (apply Ob.of; (first | with_reducible assumption | with_reducible exact ex20 _ _ | with_reducible exact ex21 _ _ | with_reducible exact ex30 _ _ _ | with_reducible exact ex31 _ _ _ | with_reducible exact ex32 _ _ _ | rfl | (exact ald rfl rfl (by assumption) rfl) | (exact ald_agg rfl rfl rfl (by assumption) rfl)); (conv => whnf)) | (apply bIf.yes; (first | assumption | rfl); (conv => whnf)) | (apply bIf.no; (first | assumption | rfl); (conv => whnf)) | ((with_reducible refine Ob.load (by with_unfolding_all assumption) ?_); (conv => whnf)) | (apply Grows.mk; (first | exact Grow.refl _ | assumption); (conv => whnf)))))
  refine Ob2.alloc rfl fun q2 H2 hq2 a2 g2 => ?_
  (try (conv => whnf)); (repeat ((fail_if_success (with_reducible refine And.intro ?_ ?_)); (fail_if_success (with_reducible refine Exists.intro ?_ ?_)); (first | (apply Ob.of; (first | with_reducible assumption | with_reducible exact ex20 _ _ | with_reducible exact ex21 _ _ | with_reducible exact ex30 _ _ _ | with_reducible exact ex31 _ _ _ | with_reducible exact ex32 _ _ _ | rfl | (exact ald rfl rfl (by assumption) rfl) | (exact ald_agg rfl rfl rfl (by assumption) rfl)); (conv => whnf)) | (apply bIf.yes; (first | assumption | rfl); (conv => whnf)) | (apply bIf.no; (first | assumption | rfl); (conv => whnf)) | ((with_reducible refine Ob.load (by with_unfolding_all assumption) ?_); (conv => whnf)) | (apply Grows.mk; (first | exact Grow.refl _ | assumption); (conv => whnf)))))
  refine Ob.store rfl rfl rfl a2 rfl (by first | exact Nat.le_of_ble_eq_true rfl | simp) fun H3 s3 k3 l3 => ?_
  have g3 : Grow H1 H3 := g2.but_new k3 (by omega)
  have b2 := hblk_of s3
  have g : Grow H H3 := g1.trans g3
  clear a1 a2 i1 i2 i3 l4 s3
  (try (conv => whnf)); (repeat' ((fail_if_success (with_reducible refine And.intro ?_ ?_)); (fail_if_success (with_reducible refine Exists.intro ?_ ?_)); (first | ((with_reducible refine AX.id ?_); (first | (refine (irGoes_ax _ _).mono ?_; (rintro _ X ⟨rfl, eX⟩; subst X; (conv => whnf))))) | (first | (apply Ob.of; (first | with_reducible assumption | with_reducible exact ex20 _ _ | with_reducible exact ex21 _ _ | with_reducible exact ex30 _ _ _ | with_reducible exact ex31 _ _ _ | with_reducible exact ex32 _ _ _ | rfl | (exact ald rfl rfl (by assumption) rfl) | (exact ald_agg rfl rfl rfl (by assumption) rfl)); (conv => whnf)) | (apply bIf.yes; (first | assumption | rfl); (conv => whnf)) | (apply bIf.no; (first | assumption | rfl); (conv => whnf)) | ((with_reducible refine Ob.load (by with_unfolding_all assumption) ?_); (conv => whnf)) | (apply Grows.mk; (first | exact Grow.refl _ | assumption); (conv => whnf))) | (apply bIf.of <;> intro hc <;> (conv => whnf)))))
  · have e : o.kind = 24 := by simpa using hc
    refine ⟨.inl ⟨rfl, ?_⟩, g⟩
    unfold tgtL; rw [if_pos e]
  all_goals
    refine Ob2.lay _ _ rfl fun H4 a4 g4 l4 => ?_
    (try (conv => whnf)); (repeat ((fail_if_success (with_reducible refine And.intro ?_ ?_)); (fail_if_success (with_reducible refine Exists.intro ?_ ?_)); (first | (apply Ob.of; (first | with_reducible assumption | with_reducible exact ex20 _ _ | with_reducible exact ex21 _ _ | with_reducible exact ex30 _ _ _ | with_reducible exact ex31 _ _ _ | with_reducible exact ex32 _ _ _ | rfl | (exact ald rfl rfl (by assumption) rfl) | (exact ald_agg rfl rfl rfl (by assumption) rfl)); (conv => whnf)) | (apply bIf.yes; (first | assumption | rfl); (conv => whnf)) | (apply bIf.no; (first | assumption | rfl); (conv => whnf)) | ((with_reducible refine Ob.load (by with_unfolding_all assumption) ?_); (conv => whnf)) | (apply Grows.mk; (first | exact Grow.refl _ | assumption); (conv => whnf)))))
  · rename_i h1
    have e1 : ¬ o.kind = 24 := by simpa using h1
    have e2 : o.kind = 17 := by simpa using hc
    have : tgtL o at_ = [o.a] := by unfold tgtL; rw [if_neg e1, if_pos e2]
    rw [this]
    exact ⟨RL.own (g := Value.int .i64) (L := [o.a]) (fun _ _ => rfl) a4, g.trans g4⟩
  · rename_i h1 h2
    have e1 : ¬ o.kind = 24 := by simpa using h1
    have e2 : ¬ o.kind = 17 := by simpa using h2
    have : tgtL o at_ = [(at_ : Int) + 1, o.a] := by unfold tgtL; rw [if_neg e1, if_neg e2, if_pos hc]
    rw [this]
    rw [w] at a4
    exact ⟨RL.own (g := Value.int .i64) (L := [(at_ : Int) + 1, o.a]) (fun _ _ => rfl) a4, g.trans g4⟩
  · rename_i h1 h2
    have e1 : ¬ o.kind = 24 := by simpa using h1
    have e2 : ¬ o.kind = 17 := by simpa using h2
    have : tgtL o at_ = [(at_ : Int) + 1] := by unfold tgtL; rw [if_neg e1, if_neg e2, if_neg (by simp [hc])]
    rw [this]
    rw [w] at a4
    exact ⟨RL.own (g := Value.int .i64) (L := [(at_ : Int) + 1]) (fun _ _ => rfl) a4, g.trans g4⟩
end Go.Proofs.Ytfobbmllbbckkaa
/- The statements of package ir: short bodies, bodies as plain data, and the small body. -/
set_option linter.unusedVariables false
set_option linter.unusedSimpArgs false
set_option maxRecDepth 20000
set_option maxHeartbeats 8000000
namespace Go.Proofs.Ytfobbmllbbckkaa
open Go Ax
structure FewB (b : BodyX) (n : Nat) : Prop where
  ops : b.ops.length ≤ n
  con : b.consts.length ≤ 200
  deps : b.deps.length ≤ 250
  op : ∀ o ∈ b.ops, o.regs.length ≤ 20 ∧ o.map.length ≤ 80 ∧ o.cases.length ≤ 20
theorem ldx_opL {H : Heap} {sv : Value} {L : List OpX} (h : RL 9 opxR H sv L) {i : Nat} {o : OpX} (hx : L[i]? = some o) :
    ∃ b rv cv mv, aindexAddr Try.prog 27 sv (.int .i64 (i : Int)) = some (.pointer (some ⟨b, i * 9, none⟩)) ∧ RL 1 intR H rv o.regs ∧ RL 3 caseR H cv o.cases ∧ RL 1 intR H mv o.map ∧
      ∀ H', Grow H H' → aload Try.prog 38 (.pointer (some ⟨b, i * 9 + 5, none⟩)) H' = some rv ∧ aload Try.prog 40 (.pointer (some ⟨b, i * 9 + 6, none⟩)) H' = some cv ∧ aload Try.prog 38 (.pointer (some ⟨b, i * 9 + 8, none⟩)) H' = some mv := by
  obtain ⟨b, c, l, h1, h2, h3, rv, cv, mv, rfl, h5, h6, h7⟩ := h.at (P := Try.prog) (t := 27) (e := 42) rfl rfl hx
  exact ⟨b, rv, cv, mv, h1, h5, h6, h7, fun H' g => ⟨ald rfl rfl (g.hblk h2) (slots_get (j := 5) h3 rfl), ald rfl rfl (g.hblk h2) (slots_get (j := 6) h3 rfl), ald rfl rfl (g.hblk h2) (slots_get (j := 8) h3 rfl)⟩⟩
theorem ldx_valS {H : Heap} {sv : Value} {L : List V} (h : RL 3 valR H sv L) {i : Nat} {x : V} (hx : L[i]? = some x) :
    ∃ b, aindexAddr Try.prog 26 sv (.int .i64 (i : Int)) = some (.pointer (some ⟨b, i * 3, none⟩)) ∧ ∀ H', Grow H H' → aload Try.prog 9 (.pointer (some ⟨b, i * 3 + 2, none⟩)) H' = some (.string x.2.2) := by
  obtain ⟨b, c, l, h1, h2, h3, rfl⟩ := h.at (P := Try.prog) (t := 26) (e := 51) rfl rfl hx
  exact ⟨b, h1, fun H' g => ald rfl rfl (g.hblk h2) (slots_get (j := 2) h3 rfl)⟩
theorem fewB_ax {H : Heap} {b : BodyX} {kv ov dv : Value} (hbI : BodyIn H b kv ov dv) (n : Nat) (hn : n ≤ 100000) :
    AX Try.prog 7 #[bodyV b kv ov dv, .int .i64 (n : Int)] H (fun v H' => (∃ t, v = .bool t ∧ (t = true → FewB b n)) ∧ H' = H) := by
  refine AX.quiet ?_
  suffices hh : AX Try.prog 7 #[bodyV b kv ov dv, .int .i64 (n : Int)] H (fun v H' => (∃ t, v = .bool t ∧ (t = true → FewB b n)) ∧ Grow H H') from hh.mono fun v _ ⟨⟨b, e, k⟩, g⟩ => ⟨e ▸ plain_bool _, ⟨b, e, k⟩, g⟩
  refine AX.body (n := 74) (rs := [.tmp 4]) Try.func7 rfl (by decide) rfl rfl (bC_sound _ _ _ _ ?_)
  (conv => whnf)
  refine Ob2.box rfl fun q1 H1 hq1 a1 g => ?_
  have b1 := hblk_of a1
  have l3 : alen Try.prog 26 kv H1 = some (.int .i64 b.consts.length) := hbI.con.len rfl _
  have l4 : alen Try.prog 27 ov H1 = some (.int .i64 b.ops.length) := hbI.ops.len rfl _
  have l5 : alen Try.prog 28 dv H1 = some (.int .i64 b.deps.length) := hbI.deps.len rfl _
  clear a1
  (try (conv => whnf)); (repeat' ((fail_if_success (with_reducible refine And.intro ?_ ?_)); (fail_if_success (with_reducible refine Exists.intro ?_ ?_)); (first | (first | (apply Ob.of; (first | with_reducible assumption | with_reducible exact ex20 _ _ | with_reducible exact ex21 _ _ | with_reducible exact ex30 _ _ _ | with_reducible exact ex31 _ _ _ | with_reducible exact ex32 _ _ _ | rfl | (exact ald rfl rfl (by assumption) rfl) | (exact ald_agg rfl rfl rfl (by assumption) rfl)); (conv => whnf)) | (apply bIf.yes; (first | assumption | rfl); (conv => whnf)) | (apply bIf.no; (first | assumption | rfl); (conv => whnf)) | ((with_reducible refine Ob.load (by with_unfolding_all assumption) ?_); (conv => whnf)) | (apply Grows.mk; (first | exact Grow.refl _ | assumption); (conv => whnf))) | (apply bIf.of <;> intro hc <;> (conv => whnf)))))
  all_goals first
    | exact ⟨⟨false, rfl, fun h => by simp at h⟩, g⟩
    | skip
  have hbs : b.ops.length ≤ n ∧ b.consts.length ≤ 200 ∧ b.deps.length ≤ 250 := by
    clear b1 l3 l4 l5 hbI
    ((try (simp only [ba_ne_t, ba_ne_f, ba_eq_t, ba_eq_f, bne_iff_ne, bne_eq_false_iff_eq, decide_eq_true_eq, decide_eq_false_iff_not, beq_iff_eq, beq_eq_false_iff_ne, ne_eq, Bool.not_eq_true, Bool.not_eq_false, Bool.not_eq_true', Bool.not_eq_false'] at *)); (try simp only [Bool.false_eq_true, false_iff, true_iff, Classical.not_not, Bool.not_false, Bool.not_true] at *))
    omega
  refine SW.loop (α := Nat) (fun m => [(2, .pointer (some ⟨q1, 0, none⟩)), (5, .int .i64 (m : Int))]) (fun m X => m ≤ b.ops.length ∧ (∀ (i : Nat) o, i < m → b.ops[i]? = some o → o.regs.length ≤ 20 ∧ o.map.length ≤ 80 ∧ o.cases.length ≤ 20) ∧ X = H1) (fun m => b.ops.length - m) ⟨0, ⟨rfl, rfl, trivial⟩, by omega, fun i o hi => by omega, rfl⟩ ?_
  rintro m X ⟨hm, htm, e⟩
  subst X
  refine bC_sound _ _ _ _ ?_
  by_cases hml : m < b.ops.length
  · have d1 : decide ((m : Int) < (b.ops.length : Int)) = true := decide_eq_true (by omega)
    obtain ⟨o, ho⟩ := get_lt hml
    obtain ⟨bq, rv, cv, mv, i1, jr, jc, jm, i2⟩ := ldx_opL hbI.ops ho
    obtain ⟨i3, i4, i5⟩ := i2 H1 g
    have m1 : alen Try.prog 38 rv H1 = some (.int .i64 o.regs.length) := jr.len rfl _
    have m2 : alen Try.prog 40 cv H1 = some (.int .i64 o.cases.length) := jc.len rfl _
    have m3 : alen Try.prog 38 mv H1 = some (.int .i64 o.map.length) := jm.len rfl _
    clear hc
    (try (conv => whnf)); (repeat' ((fail_if_success (with_reducible refine And.intro ?_ ?_)); (fail_if_success (with_reducible refine Exists.intro ?_ ?_)); (first | (first | (apply Ob.of; (first | with_reducible assumption | with_reducible exact ex20 _ _ | with_reducible exact ex21 _ _ | with_reducible exact ex30 _ _ _ | with_reducible exact ex31 _ _ _ | with_reducible exact ex32 _ _ _ | rfl | (exact ald rfl rfl (by assumption) rfl) | (exact ald_agg rfl rfl rfl (by assumption) rfl)); (conv => whnf)) | (apply bIf.yes; (first | assumption | rfl); (conv => whnf)) | (apply bIf.no; (first | assumption | rfl); (conv => whnf)) | ((with_reducible refine Ob.load (by with_unfolding_all assumption) ?_); (conv => whnf)) | (apply Grows.mk; (first | exact Grow.refl _ | assumption); (conv => whnf))) | (apply bIf.of <;> intro hc <;> (conv => whnf)))))
    all_goals first
      | exact ⟨⟨false, rfl, fun h => by simp at h⟩, g⟩
      | (refine ⟨m + 1, ⟨rfl, congrArg (fun z => some (Value.int .i64 z)) (w_succ (by omega)), trivial⟩, ⟨hml, fun i s hi hs => ?_, rfl⟩, by show _ - (m + 1) < _ - m; omega⟩
         by_cases him : i = m
         · subst him; rw [ho] at hs; simp only [Option.some.injEq] at hs; subst hs
           clear b1 l3 l4 l5 hbI i1 i2 i3 i4 i5 m1 m2 m3 d1 htm
           ((try (simp only [ba_ne_t, ba_ne_f, ba_eq_t, ba_eq_f, bne_iff_ne, bne_eq_false_iff_eq, decide_eq_true_eq, decide_eq_false_iff_not, beq_iff_eq, beq_eq_false_iff_ne, ne_eq, Bool.not_eq_true, Bool.not_eq_false, Bool.not_eq_true', Bool.not_eq_false'] at *)); (try simp only [Bool.false_eq_true, false_iff, true_iff, Classical.not_not, Bool.not_false, Bool.not_true] at *))
           omega
         · exact htm i s (by omega) hs)
  have d1 : decide ((m : Int) < (b.ops.length : Int)) = false := decide_eq_false (by omega)
  have hop : ∀ o ∈ b.ops, o.regs.length ≤ 20 ∧ o.map.length ≤ 80 ∧ o.cases.length ≤ 20 := fun x hx => by
    obtain ⟨i, hi, rfl⟩ := List.getElem_of_mem hx
    exact htm i _ (by omega) (List.getElem?_eq_getElem hi)
  clear htm hml hc
  (try (conv => whnf)); (repeat ((fail_if_success (with_reducible refine And.intro ?_ ?_)); (fail_if_success (with_reducible refine Exists.intro ?_ ?_)); (first | (apply Ob.of; (first | with_reducible assumption | with_reducible exact ex20 _ _ | with_reducible exact ex21 _ _ | with_reducible exact ex30 _ _ _ | with_reducible exact ex31 _ _ _ | with_reducible exact ex32 _ _ _ | rfl | (exact ald rfl rfl (by assumption) rfl) | (exact ald_agg rfl rfl rfl (by assumption) rfl)); (conv => whnf)) | (apply bIf.yes; (first | assumption | rfl); (conv => whnf)) | (apply bIf.no; (first | assumption | rfl); (conv => whnf)) | ((with_reducible refine Ob.load (by with_unfolding_all assumption) ?_); (conv => whnf)) | (apply Grows.mk; (first | exact Grow.refl _ | assumption); (conv => whnf)))))
  refine SW.loop (α := Nat) (fun m => [(2, .pointer (some ⟨q1, 0, none⟩)), (6, .int .i64 (m : Int))]) (fun m X => m ≤ b.consts.length ∧ X = H1) (fun m => b.consts.length - m) ⟨0, ⟨rfl, rfl, trivial⟩, by omega, rfl⟩ ?_
  clear d1 hm m
  rintro m X ⟨hm, e⟩
  subst X
  refine bC_sound _ _ _ _ ?_
  by_cases hml : m < b.consts.length
  · have d1 : decide ((m : Int) < (b.consts.length : Int)) = true := decide_eq_true (by omega)
    obtain ⟨x, hx⟩ := get_lt hml
    obtain ⟨bq, i1, i2⟩ := ldx_valS hbI.con hx
    have i3 := i2 H1 g
    (try (conv => whnf)); (repeat' ((fail_if_success (with_reducible refine And.intro ?_ ?_)); (fail_if_success (with_reducible refine Exists.intro ?_ ?_)); (first | (first | (apply Ob.of; (first | with_reducible assumption | with_reducible exact ex20 _ _ | with_reducible exact ex21 _ _ | with_reducible exact ex30 _ _ _ | with_reducible exact ex31 _ _ _ | with_reducible exact ex32 _ _ _ | rfl | (exact ald rfl rfl (by assumption) rfl) | (exact ald_agg rfl rfl rfl (by assumption) rfl)); (conv => whnf)) | (apply bIf.yes; (first | assumption | rfl); (conv => whnf)) | (apply bIf.no; (first | assumption | rfl); (conv => whnf)) | ((with_reducible refine Ob.load (by with_unfolding_all assumption) ?_); (conv => whnf)) | (apply Grows.mk; (first | exact Grow.refl _ | assumption); (conv => whnf))) | (apply bIf.of <;> intro hc <;> (conv => whnf)))))
    all_goals first
      | exact ⟨⟨false, rfl, fun h => by simp at h⟩, g⟩
      | exact ⟨m + 1, ⟨rfl, congrArg (fun z => some (Value.int .i64 z)) (w_succ (by omega)), trivial⟩, ⟨hml, rfl⟩, by show _ - (m + 1) < _ - m; omega⟩
  · have d1 : decide ((m : Int) < (b.consts.length : Int)) = false := decide_eq_false (by omega)
    (try (conv => whnf)); (repeat ((fail_if_success (with_reducible refine And.intro ?_ ?_)); (fail_if_success (with_reducible refine Exists.intro ?_ ?_)); (first | (apply Ob.of; (first | with_reducible assumption | with_reducible exact ex20 _ _ | with_reducible exact ex21 _ _ | with_reducible exact ex30 _ _ _ | with_reducible exact ex31 _ _ _ | with_reducible exact ex32 _ _ _ | rfl | (exact ald rfl rfl (by assumption) rfl) | (exact ald_agg rfl rfl rfl (by assumption) rfl)); (conv => whnf)) | (apply bIf.yes; (first | assumption | rfl); (conv => whnf)) | (apply bIf.no; (first | assumption | rfl); (conv => whnf)) | ((with_reducible refine Ob.load (by with_unfolding_all assumption) ?_); (conv => whnf)) | (apply Grows.mk; (first | exact Grow.refl _ | assumption); (conv => whnf)))))
    exact ⟨⟨true, rfl, fun _ => ⟨hbs.1, hbs.2.1, hbs.2.2, hop⟩⟩, g⟩
end Go.Proofs.Ytfobbmllbbckkaa
/- The statements of package ir: bodies as plain data, and the small body. -/
set_option linter.unusedVariables false
set_option linter.unusedSimpArgs false
set_option maxRecDepth 20000
set_option maxHeartbeats 8000000
namespace Go.Proofs.Ytfobbmllbbckkaa
open Go Ax
theorem val_of {H : Heap} {c : List Value} {x : V} (R : ty51.R H c x) : valR H c x := by
  obtain ⟨h1, h2, h3⟩ := R
  exact cons_of h1 (cons_of h2 h3)
theorem case_of {H : Heap} {c : List Value} {x : CaseT} (R : ty90.R H c x) : caseR H c x := by
  obtain ⟨h1, h2, h3⟩ := R
  exact cons_of h1 (cons_of h2 h3)
theorem dep_of {H : Heap} {c : List Value} {x : Int × Int} (R : ty60.R H c x) : depR H c x := by
  obtain ⟨h1, h2⟩ := R
  exact cons_of h1 h2
theorem op_of {H : Heap} {c : List Value} {x : OpX} (R : ty42.R H c x) : opxR H c x := by
  obtain ⟨h1, h2, h3, h4, h5, h6, h7, h8, h9⟩ := R
  obtain ⟨rv, k1, k2⟩ := RL.ofTy (f := intR) (fun l x h => h) h6
  obtain ⟨cv, k3, k4⟩ := RL.ofTy (f := caseR) (fun l x h => case_of h) h7
  obtain ⟨mv, k5, k6⟩ := RL.ofTy (f := intR) (fun l x h => h) h9
  exact ⟨rv, cv, mv, cons_of h1 (cons_of h2 (cons_of h3 (cons_of h4 (cons_of h5 (cons_of k1 (cons_of k3 (cons_of h8 k5))))))), k2, k4, k6⟩
theorem body_of {H : Heap} {c : List Value} {x : BodyX} (R : ty30.R H c x) : ∃ kv ov dv, argS c = bodyV x kv ov dv ∧ BodyIn H x kv ov dv := by
  obtain ⟨h1, h2, h3, h4, h5⟩ := R
  obtain ⟨kv, k1, k2⟩ := RL.ofTy (f := valR) (fun l x h => val_of h) h3
  obtain ⟨ov, k3, k4⟩ := RL.ofTy (f := opxR) (fun l x h => op_of h) h4
  obtain ⟨dv, k5, k6⟩ := RL.ofTy (f := depR) (fun l x h => dep_of h) h5
  have hc : c = [.int .i64 x.1, .int .i64 x.2.1, kv, ov, dv] := cons_of h1 (cons_of h2 (cons_of k1 (cons_of k3 k5)))
  exact ⟨kv, ov, dv, by rw [hc]; rfl, k2, k4, k6⟩
theorem ok_int {n : Int} (h : ty3.ok n) : -9223372036854775808 ≤ n ∧ n ≤ 9223372036854775807 := by
  have h : (Lit.int .i64 n).wf = true := h
  simp [Lit.wf] at h
  have e1 : IntKind.i64.min = -9223372036854775808 := rfl
  have e2 : IntKind.i64.max = 9223372036854775807 := rfl
  omega
theorem few_small {x : BodyX} {n : Nat} (o : ty30.ok x) (h : FewB x n) (hn : n ≤ 100000) : SmallB x ∧ IntB x := by
  obtain ⟨h1, h2, h3, h4, h5⟩ := o
  refine ⟨⟨fun v hv => ?_, by have := h.con; omega, by have := h.ops; omega, by have := h.deps; omega, fun o ho => by have := h.op o ho; omega⟩, fun o ho => ⟨?_, by have := h.op o ho; omega⟩⟩
  · obtain ⟨_, k2, _⟩ := h3.2 v hv
    exact (ok_int k2).2
  · obtain ⟨_, k2, k3, k4, k5, _⟩ := h4.2 o ho
    exact ⟨(ok_int k2).2, (ok_int k3).2, (ok_int k4).2, (ok_int k5).2⟩
def bW : BodyX := (0, 1, [(0, 0, ⟨#[]⟩)], [(2, 0, 0, 0, 0, [], [], 0, []), (24, 0, 0, 0, 0, [], [], 1, [0])], [])
theorem bW_ok : CheckB p1 bW := by
  obtain ⟨L, hL⟩ := (p1_ok.2.2.2.2.2.2 0 c1 rfl).2.2
  have l0 : L[0]? = some 0 := hL.inv.2
  have l1 : L[1]? = some 1 := hL.reach (Reach.step (c := c1) (i := 0) (d := 0) (x := (2, 0, 0)) (k := 0) (t := 1) .start rfl (by decide) (by decide) (by decide) (by decide) (by decide))
  have hl : L.length = 2 := hL.inv.1
  have dC : bW.consts = [(0, 0, ⟨#[]⟩)] := rfl
  have dO : bW.ops = [(2, 0, 0, 0, 0, [], [], 0, []), (24, 0, 0, 0, 0, [], [], 1, [0])] := rfl
  have dD : bW.deps = [] := rfl
  refine ⟨p1_ok, by decide, c1, L, rfl, ⟨by decide, by decide, by decide, by decide, by decide, by decide⟩, fun x hx => ?_, fun x hx => by rw [dD] at hx; simp at hx, hL, fun i o hi ho => ?_, .inr (by decide)⟩
  · rw [dC] at hx
    simp only [List.mem_singleton] at hx; subst hx; exact ⟨fun _ => rfl, .inl ⟨rfl, rfl⟩⟩
  · rw [dO] at ho hi ⊢
    match i, hi, ho with
    | 0, _, ho =>
      simp only [List.getElem?_cons_zero, Option.some.injEq] at ho; subst ho
      refine ⟨by decide, ⟨by decide, by decide, fun x hx => absurd hx List.not_mem_nil, fun _ => rfl, fun h => absurd h (by decide)⟩, parts4.2 ⟨by decide, by decide, by decide, by decide⟩, ⟨by decide, by show (0 : Int) < _; omega, l0, fun x hx => absurd hx List.not_mem_nil⟩, fun h => absurd h (by decide)⟩
    | 1, _, ho =>
      simp only [List.getElem?_cons_zero, List.getElem?_cons_succ, Option.some.injEq] at ho; subst ho
      refine ⟨by decide, ⟨by decide, by decide, fun x hx => absurd hx List.not_mem_nil, fun _ => rfl, fun h => absurd h (by decide)⟩, parts4.2 ⟨by decide, by decide, by decide, by decide⟩, ⟨by decide, by show (1 : Int) < _; omega, l1, fun x hx => ?_⟩, fun h => absurd h (by decide)⟩
      have hx : x ∈ [(0 : Int)] := hx
      simp only [List.mem_singleton] at hx; subst hx; decide
    | i + 2, hi, _ => simp only [List.length_cons, List.length_nil] at hi; omega
end Go.Proofs.Ytfobbmllbbckkaa
/- The statements of package ir: the small body that works. -/
set_option linter.unusedVariables false
set_option linter.unusedSimpArgs false
set_option maxRecDepth 20000
set_option maxHeartbeats 8000000
namespace Go.Proofs.Ytfobbmllbbckkaa
open Go Ax
theorem irWorks_ax (H : Heap) : AX Try.prog 8 #[] H (fun r H' => r = .bool true ∧ H' = H) := by
  refine AX.quiet ?_
  suffices hh : AX Try.prog 8 #[] H (fun v H' => v = .bool true ∧ Grow H H') from hh.mono fun v _ ⟨e, g⟩ => ⟨e ▸ plain_bool _, e, g⟩
  refine AX.body (n := 45) (rs := [.tmp 0]) Try.func8 rfl (by decide) rfl rfl (bC_sound _ _ _ _ ?_)
  (try (conv => whnf)); (repeat ((fail_if_success (with_reducible refine And.intro ?_ ?_)); (fail_if_success (with_reducible refine Exists.intro ?_ ?_)); (first | (apply Ob.of; (first | with_reducible assumption | with_reducible exact ex20 _ _ | with_reducible exact ex21 _ _ | with_reducible exact ex30 _ _ _ | with_reducible exact ex31 _ _ _ | with_reducible exact ex32 _ _ _ | rfl | (exact ald rfl rfl (by assumption) rfl) | (exact ald_agg rfl rfl rfl (by assumption) rfl)); (conv => whnf)) | (apply bIf.yes; (first | assumption | rfl); (conv => whnf)) | (apply bIf.no; (first | assumption | rfl); (conv => whnf)) | ((with_reducible refine Ob.load (by with_unfolding_all assumption) ?_); (conv => whnf)) | (apply Grows.mk; (first | exact Grow.refl _ | assumption); (conv => whnf)))))
  refine Ob2.lay (H := H) (.cells (.row 53) [.int .i64 2, .int .i64 0, .int .i64 0, .int .i64 32, .int .i64 0, .int .i64 0]) (.slice (some ⟨H.length, 0, none⟩) 2 3) rfl fun H1 a1 g1 l1 => ?_
  (try (conv => whnf)); (repeat ((fail_if_success (with_reducible refine And.intro ?_ ?_)); (fail_if_success (with_reducible refine Exists.intro ?_ ?_)); (first | (apply Ob.of; (first | with_reducible assumption | with_reducible exact ex20 _ _ | with_reducible exact ex21 _ _ | with_reducible exact ex30 _ _ _ | with_reducible exact ex31 _ _ _ | with_reducible exact ex32 _ _ _ | rfl | (exact ald rfl rfl (by assumption) rfl) | (exact ald_agg rfl rfl rfl (by assumption) rfl)); (conv => whnf)) | (apply bIf.yes; (first | assumption | rfl); (conv => whnf)) | (apply bIf.no; (first | assumption | rfl); (conv => whnf)) | ((with_reducible refine Ob.load (by with_unfolding_all assumption) ?_); (conv => whnf)) | (apply Grows.mk; (first | exact Grow.refl _ | assumption); (conv => whnf)))))
  refine Ob2.lay (H := H1) (.cells (.row 49) [.int .i64 0, .int .i64 0, .int .i64 0, .int .i64 1, .slice (some ⟨H.length, 0, none⟩) 2 3]) (.slice (some ⟨H1.length, 0, none⟩) 1 5) rfl fun H2 a2 g2 l2 => ?_
  (try (conv => whnf)); (repeat ((fail_if_success (with_reducible refine And.intro ?_ ?_)); (fail_if_success (with_reducible refine Exists.intro ?_ ?_)); (first | (apply Ob.of; (first | with_reducible assumption | with_reducible exact ex20 _ _ | with_reducible exact ex21 _ _ | with_reducible exact ex30 _ _ _ | with_reducible exact ex31 _ _ _ | with_reducible exact ex32 _ _ _ | rfl | (exact ald rfl rfl (by assumption) rfl) | (exact ald_agg rfl rfl rfl (by assumption) rfl)); (conv => whnf)) | (apply bIf.yes; (first | assumption | rfl); (conv => whnf)) | (apply bIf.no; (first | assumption | rfl); (conv => whnf)) | ((with_reducible refine Ob.load (by with_unfolding_all assumption) ?_); (conv => whnf)) | (apply Grows.mk; (first | exact Grow.refl _ | assumption); (conv => whnf)))))
  refine Ob2.alloc rfl fun q3 H3 hq3 a3 g3 => ?_
  (try (conv => whnf)); (repeat ((fail_if_success (with_reducible refine And.intro ?_ ?_)); (fail_if_success (with_reducible refine Exists.intro ?_ ?_)); (first | (apply Ob.of; (first | with_reducible assumption | with_reducible exact ex20 _ _ | with_reducible exact ex21 _ _ | with_reducible exact ex30 _ _ _ | with_reducible exact ex31 _ _ _ | with_reducible exact ex32 _ _ _ | rfl | (exact ald rfl rfl (by assumption) rfl) | (exact ald_agg rfl rfl rfl (by assumption) rfl)); (conv => whnf)) | (apply bIf.yes; (first | assumption | rfl); (conv => whnf)) | (apply bIf.no; (first | assumption | rfl); (conv => whnf)) | ((with_reducible refine Ob.load (by with_unfolding_all assumption) ?_); (conv => whnf)) | (apply Grows.mk; (first | exact Grow.refl _ | assumption); (conv => whnf)))))
  refine Ob.store rfl rfl rfl a3 rfl (by first | exact Nat.le_of_ble_eq_true rfl | simp) fun H4 s4 k4 l4 => ?_
  have g4 : Grow H2 H4 := g3.but_new k4 (by omega)
  (try (conv => whnf)); (repeat ((fail_if_success (with_reducible refine And.intro ?_ ?_)); (fail_if_success (with_reducible refine Exists.intro ?_ ?_)); (first | (apply Ob.of; (first | with_reducible assumption | with_reducible exact ex20 _ _ | with_reducible exact ex21 _ _ | with_reducible exact ex30 _ _ _ | with_reducible exact ex31 _ _ _ | with_reducible exact ex32 _ _ _ | rfl | (exact ald rfl rfl (by assumption) rfl) | (exact ald_agg rfl rfl rfl (by assumption) rfl)); (conv => whnf)) | (apply bIf.yes; (first | assumption | rfl); (conv => whnf)) | (apply bIf.no; (first | assumption | rfl); (conv => whnf)) | ((with_reducible refine Ob.load (by with_unfolding_all assumption) ?_); (conv => whnf)) | (apply Grows.mk; (first | exact Grow.refl _ | assumption); (conv => whnf)))))
  refine Ob2.lay (H := H4) (.cells (.row 51) [.int .i64 0, .int .i64 0, .string ⟨#[]⟩]) (.slice (some ⟨H4.length, 0, none⟩) 1 3) rfl fun H5 a5 g5 l5 => ?_
  (try (conv => whnf)); (repeat ((fail_if_success (with_reducible refine And.intro ?_ ?_)); (fail_if_success (with_reducible refine Exists.intro ?_ ?_)); (first | (apply Ob.of; (first | with_reducible assumption | with_reducible exact ex20 _ _ | with_reducible exact ex21 _ _ | with_reducible exact ex30 _ _ _ | with_reducible exact ex31 _ _ _ | with_reducible exact ex32 _ _ _ | rfl | (exact ald rfl rfl (by assumption) rfl) | (exact ald_agg rfl rfl rfl (by assumption) rfl)); (conv => whnf)) | (apply bIf.yes; (first | assumption | rfl); (conv => whnf)) | (apply bIf.no; (first | assumption | rfl); (conv => whnf)) | ((with_reducible refine Ob.load (by with_unfolding_all assumption) ?_); (conv => whnf)) | (apply Grows.mk; (first | exact Grow.refl _ | assumption); (conv => whnf)))))
  refine Ob2.lay (H := H5) (.cells (.row 3) [.int .i64 0]) (.slice (some ⟨H5.length, 0, none⟩) 1 1) rfl fun H6 a6 g6 l6 => ?_
  (try (conv => whnf)); (repeat ((fail_if_success (with_reducible refine And.intro ?_ ?_)); (fail_if_success (with_reducible refine Exists.intro ?_ ?_)); (first | (apply Ob.of; (first | with_reducible assumption | with_reducible exact ex20 _ _ | with_reducible exact ex21 _ _ | with_reducible exact ex30 _ _ _ | with_reducible exact ex31 _ _ _ | with_reducible exact ex32 _ _ _ | rfl | (exact ald rfl rfl (by assumption) rfl) | (exact ald_agg rfl rfl rfl (by assumption) rfl)); (conv => whnf)) | (apply bIf.yes; (first | assumption | rfl); (conv => whnf)) | (apply bIf.no; (first | assumption | rfl); (conv => whnf)) | ((with_reducible refine Ob.load (by with_unfolding_all assumption) ?_); (conv => whnf)) | (apply Grows.mk; (first | exact Grow.refl _ | assumption); (conv => whnf)))))
  refine Ob2.lay (H := H6) (.cells (.row 42) [.int .i64 2, .int .i64 0, .int .i64 0, .int .i64 0, .int .i64 0, .slice none 0 0, .slice none 0 0, .int .i64 0, .slice none 0 0, .int .i64 24, .int .i64 0, .int .i64 0, .int .i64 0, .int .i64 0, .slice none 0 0, .slice none 0 0, .int .i64 1, .slice (some ⟨H5.length, 0, none⟩) 1 1]) (.slice (some ⟨H6.length, 0, none⟩) 2 9) rfl fun H7 a7 g7 l7 => ?_
  (try (conv => whnf)); (repeat ((fail_if_success (with_reducible refine And.intro ?_ ?_)); (fail_if_success (with_reducible refine Exists.intro ?_ ?_)); (first | (apply Ob.of; (first | with_reducible assumption | with_reducible exact ex20 _ _ | with_reducible exact ex21 _ _ | with_reducible exact ex30 _ _ _ | with_reducible exact ex31 _ _ _ | with_reducible exact ex32 _ _ _ | rfl | (exact ald rfl rfl (by assumption) rfl) | (exact ald_agg rfl rfl rfl (by assumption) rfl)); (conv => whnf)) | (apply bIf.yes; (first | assumption | rfl); (conv => whnf)) | (apply bIf.no; (first | assumption | rfl); (conv => whnf)) | ((with_reducible refine Ob.load (by with_unfolding_all assumption) ?_); (conv => whnf)) | (apply Grows.mk; (first | exact Grow.refl _ | assumption); (conv => whnf)))))
  refine Ob2.alloc rfl fun q8 H8 hq8 a8 g8 => ?_
  (try (conv => whnf)); (repeat ((fail_if_success (with_reducible refine And.intro ?_ ?_)); (fail_if_success (with_reducible refine Exists.intro ?_ ?_)); (first | (apply Ob.of; (first | with_reducible assumption | with_reducible exact ex20 _ _ | with_reducible exact ex21 _ _ | with_reducible exact ex30 _ _ _ | with_reducible exact ex31 _ _ _ | with_reducible exact ex32 _ _ _ | rfl | (exact ald rfl rfl (by assumption) rfl) | (exact ald_agg rfl rfl rfl (by assumption) rfl)); (conv => whnf)) | (apply bIf.yes; (first | assumption | rfl); (conv => whnf)) | (apply bIf.no; (first | assumption | rfl); (conv => whnf)) | ((with_reducible refine Ob.load (by with_unfolding_all assumption) ?_); (conv => whnf)) | (apply Grows.mk; (first | exact Grow.refl _ | assumption); (conv => whnf)))))
  refine Ob.store rfl rfl rfl a8 rfl (by first | exact Nat.le_of_ble_eq_true rfl | simp) fun H9 s9 k9 l9 => ?_
  have g9 : Grow H7 H9 := g8.but_new k9 (by omega)
  have g49 : Grow H4 H9 := ((g5.trans g6).trans g7).trans g9
  have g : Grow H H9 := ((g1.trans g2).trans g4).trans g49
  have r1 : RL 3 insR H9 (.slice (some ⟨H.length, 0, none⟩) 2 3) c1.ins := .inr ⟨_, rfl, .inr ⟨_, _, g49.at (g4.at (g2.at a1)), fun i x hx => by
    match i, hx with
    | 0, hx => simp [c1, CodeT.ins] at hx; subst hx; exact ⟨_, rfl, rfl⟩
    | 1, hx => simp [c1, CodeT.ins] at hx; subst hx; exact ⟨_, rfl, rfl⟩
    | i + 2, hx => simp [c1, CodeT.ins] at hx⟩⟩
  have r3 : RL 5 codeR H9 (.slice (some ⟨H1.length, 0, none⟩) 1 5) p1.2.2 := .inr ⟨_, rfl, .inr ⟨_, _, g49.at (g4.at a2), fun i x hx => by
    match i, hx with
    | 0, hx => simp [p1] at hx; subst hx; exact ⟨_, rfl, _, rfl, r1⟩
    | i + 1, hx => simp [p1] at hx⟩⟩
  have rb : BodyIn H9 bW (.slice (some ⟨H4.length, 0, none⟩) 1 3) (.slice (some ⟨H6.length, 0, none⟩) 2 9) (.slice none 0 0) := by
    have m0 : RL 1 intR H9 (.slice (some ⟨H5.length, 0, none⟩) 1 1) [0] := RL.own (g := Value.int .i64) (L := [0]) (fun _ _ => rfl) (g9.at (g7.at a6))
    refine ⟨.inr ⟨_, rfl, .inr ⟨_, _, g9.at (g7.at (g6.at a5)), fun i x hx => ?_⟩⟩, .inr ⟨_, rfl, .inr ⟨_, _, g9.at a7, fun i x hx => ?_⟩⟩, .inl ⟨rfl, rfl⟩⟩
    · have hx : [((0 : Int), (0 : Int), (⟨#[]⟩ : ByteArray))][i]? = some x := hx
      match i, hx with
      | 0, hx => simp only [List.getElem?_cons_zero, Option.some.injEq] at hx; subst hx; exact ⟨_, rfl, rfl⟩
      | i + 1, hx => simp at hx
    · have hx : ([(2, 0, 0, 0, 0, [], [], 0, []), (24, 0, 0, 0, 0, [], [], 1, [0])] : List OpX)[i]? = some x := hx
      match i, hx with
      | 0, hx => simp only [List.getElem?_cons_zero, Option.some.injEq] at hx; subst hx; exact ⟨_, rfl, _, _, _, rfl, .inl ⟨rfl, rfl⟩, .inl ⟨rfl, rfl⟩, .inl ⟨rfl, rfl⟩⟩
      | 1, hx => simp only [List.getElem?_cons_zero, List.getElem?_cons_succ, Option.some.injEq] at hx; subst hx; exact ⟨_, rfl, _, _, _, rfl, .inl ⟨rfl, rfl⟩, .inl ⟨rfl, rfl⟩, m0⟩
      | i + 2, hx => simp at hx
  have sb : SmallB bW := by
    refine ⟨fun x hx => ?_, by decide, by decide, by decide, fun o ho => ?_⟩
    · have hx : x ∈ [((0 : Int), (0 : Int), (⟨#[]⟩ : ByteArray))] := hx
      simp only [List.mem_singleton] at hx; subst hx; decide
    · have ho : o ∈ ([(2, 0, 0, 0, 0, [], [], 0, []), (24, 0, 0, 0, 0, [], [], 1, [0])] : List OpX) := ho
      simp only [List.mem_cons, List.not_mem_nil, or_false] at ho
      rcases ho with rfl | rfl <;> decide
  have b1 := g49.hblk (hblk_of s4)
  have b2 := hblk_of s9
  clear s4 s9 a1 a2 a3 a5 a6 a7 a8 g1 g2 g3 g4 g5 g6 g7 g8 g9 k4 k9
  (try (conv => whnf)); (repeat ((fail_if_success (with_reducible refine And.intro ?_ ?_)); (fail_if_success (with_reducible refine Exists.intro ?_ ?_)); (first | (apply Ob.of; (first | with_reducible assumption | with_reducible exact ex20 _ _ | with_reducible exact ex21 _ _ | with_reducible exact ex30 _ _ _ | with_reducible exact ex31 _ _ _ | with_reducible exact ex32 _ _ _ | rfl | (exact ald rfl rfl (by assumption) rfl) | (exact ald_agg rfl rfl rfl (by assumption) rfl)); (conv => whnf)) | (apply bIf.yes; (first | assumption | rfl); (conv => whnf)) | (apply bIf.no; (first | assumption | rfl); (conv => whnf)) | ((with_reducible refine Ob.load (by with_unfolding_all assumption) ?_); (conv => whnf)) | (apply Grows.mk; (first | exact Grow.refl _ | assumption); (conv => whnf)))))
  refine (irUses_ax (o := (16, 0, 1, 2, 3, [], [], 0, [])) (.inl ⟨rfl, rfl⟩) (by decide)).mono ?_
  rintro u H10 ⟨hu, g10⟩
  have b1 := g10.hblk b1
  have b2 := g10.hblk b2
  have hu' : RL 1 intR H10 u [1, 2] := hu
  have lu : alen Try.prog 38 u H10 = some (.int .i64 2) := hu'.len rfl _
  obtain ⟨p0, i0, j0⟩ := ld_int hu' (i := 0) rfl
  obtain ⟨p1', i1, j1⟩ := ld_int hu' (i := 1) rfl
  have i0 : aindexAddr Try.prog 38 u (.int .i64 0) = some p0 := i0
  have i1 : aindexAddr Try.prog 38 u (.int .i64 1) = some p1' := i1
  have j0 := j0 H10 (.refl _)
  have j1 := j1 H10 (.refl _)
  clear hu
  (try (conv => whnf)); (repeat ((fail_if_success (with_reducible refine And.intro ?_ ?_)); (fail_if_success (with_reducible refine Exists.intro ?_ ?_)); (first | (apply Ob.of; (first | with_reducible assumption | with_reducible exact ex20 _ _ | with_reducible exact ex21 _ _ | with_reducible exact ex30 _ _ _ | with_reducible exact ex31 _ _ _ | with_reducible exact ex32 _ _ _ | rfl | (exact ald rfl rfl (by assumption) rfl) | (exact ald_agg rfl rfl rfl (by assumption) rfl)); (conv => whnf)) | (apply bIf.yes; (first | assumption | rfl); (conv => whnf)) | (apply bIf.no; (first | assumption | rfl); (conv => whnf)) | ((with_reducible refine Ob.load (by with_unfolding_all assumption) ?_); (conv => whnf)) | (apply Grows.mk; (first | exact Grow.refl _ | assumption); (conv => whnf)))))
  refine (irCheck_ax (p := p1) (b := bW) (.inl ⟨rfl, rfl⟩) (codeR.grow r3 g10) (by decide) (rb.grow g10) sb).mono ?_
  rintro v X ⟨hv, e⟩
  subst X
  rcases hv with ⟨rfl, _⟩ | ⟨_, h⟩
  rotate_left
  · exact absurd bW_ok h
  (try (conv => whnf)); (repeat ((fail_if_success (with_reducible refine And.intro ?_ ?_)); (fail_if_success (with_reducible refine Exists.intro ?_ ?_)); (first | (apply Ob.of; (first | with_reducible assumption | with_reducible exact ex20 _ _ | with_reducible exact ex21 _ _ | with_reducible exact ex30 _ _ _ | with_reducible exact ex31 _ _ _ | with_reducible exact ex32 _ _ _ | rfl | (exact ald rfl rfl (by assumption) rfl) | (exact ald_agg rfl rfl rfl (by assumption) rfl)); (conv => whnf)) | (apply bIf.yes; (first | assumption | rfl); (conv => whnf)) | (apply bIf.no; (first | assumption | rfl); (conv => whnf)) | ((with_reducible refine Ob.load (by with_unfolding_all assumption) ?_); (conv => whnf)) | (apply Grows.mk; (first | exact Grow.refl _ | assumption); (conv => whnf)))))
  refine (irDef_ax H10 (24, 0, 0, 0, 0, [], [], 0, []) _ _ _).mono ?_
  rintro v X ⟨rfl, e⟩
  subst X
  (try (conv => whnf)); (repeat ((fail_if_success (with_reducible refine And.intro ?_ ?_)); (fail_if_success (with_reducible refine Exists.intro ?_ ?_)); (first | (apply Ob.of; (first | with_reducible assumption | with_reducible exact ex20 _ _ | with_reducible exact ex21 _ _ | with_reducible exact ex30 _ _ _ | with_reducible exact ex31 _ _ _ | with_reducible exact ex32 _ _ _ | rfl | (exact ald rfl rfl (by assumption) rfl) | (exact ald_agg rfl rfl rfl (by assumption) rfl)); (conv => whnf)) | (apply bIf.yes; (first | assumption | rfl); (conv => whnf)) | (apply bIf.no; (first | assumption | rfl); (conv => whnf)) | ((with_reducible refine Ob.load (by with_unfolding_all assumption) ?_); (conv => whnf)) | (apply Grows.mk; (first | exact Grow.refl _ | assumption); (conv => whnf)))))
  exact ⟨rfl, g.trans g10⟩
end Go.Proofs.Ytfobbmllbbckkaa
