/- The law IrSafe told of abstract memory: it answers true for every program and every body. No condition. -/
import Derived.Test.YtfobbmllbbckkaaJIr2
set_option linter.unusedVariables false
set_option linter.unusedSimpArgs false
set_option maxRecDepth 20000
set_option maxHeartbeats 8000000
namespace Go.Proofs.Ytfobbmllbbckkaa
open Go Ax
theorem ldx_op8 {H : Heap} {sv : Value} {L : List OpX} (h : RL 9 opxR H sv L) {i : Nat} {o : OpX} (hx : L[i]? = some o) :
    ∃ b rv cv mv, aindexAddr Try.prog 27 sv (.int .i64 (i : Int)) = some (.pointer (some ⟨b, i * 9, none⟩)) ∧ RL 1 intR H rv o.regs ∧ RL 3 caseR H cv o.cases ∧ RL 1 intR H mv o.map ∧
      (∀ H', Grow H H' → aload Try.prog 42 (.pointer (some ⟨b, i * 9, none⟩)) H' = some (opV o rv cv mv) ∧ aload Try.prog 3 (.pointer (some ⟨b, i * 9, none⟩)) H' = some (.int .i64 o.kind)) ∧
      ∀ H', Grow H H' → aload Try.prog 38 (.pointer (some ⟨b, i * 9 + 8, none⟩)) H' = some mv := by
  obtain ⟨b, c, l, h1, h2, h3, rv, cv, mv, rfl, h5, h6, h7⟩ := h.at (P := Try.prog) (t := 27) (e := 42) rfl rfl hx
  exact ⟨b, rv, cv, mv, h1, h5, h6, h7, fun H' g => ⟨ald_agg rfl rfl rfl (g.hblk h2) h3, ald rfl rfl (g.hblk h2) (slots_get (j := 0) h3 rfl)⟩, fun H' g => ald rfl rfl (g.hblk h2) (slots_get (j := 8) h3 rfl)⟩
theorem regs_app {m : Int} {A B : List Int} (h : RegsP m A) (k : RegsP m B) : RegsP m (A ++ B) := fun x hx => by
  rcases List.mem_append.1 hx with hx | hx
  · exact h x hx
  · exact k x hx
/-- Where an operation of a body that may be goes. -/
theorem tgt_safe {p : ProgT} {c : CodeT} {b : BodyX} {L : List Int} {k : Nat} {o : OpX} (ho : b.ops[k]? = some o) (h : opP (limsOf p c b) L b.ops k o) (hl : lastK b.ops = 17 ∨ lastK b.ops = 24) {t : Int} (ht : t ∈ tgtL o k) :
    0 ≤ t ∧ t < b.ops.length ∧ (t ≤ k → kindAt b.ops t = 1) := by
  obtain ⟨hk, h1, h2, h3, h4⟩ := h
  have hlt := lt_of_get ho
  have hno : (limsOf p c b).no = b.ops.length := rfl
  have key : jumps o.kind = true → 0 ≤ o.a ∧ o.a < b.ops.length ∧ (o.a ≤ k → kindAt b.ops o.a = 1) := fun hj => by
    have := h2.jump hj
    rw [hno] at this
    refine ⟨this.1, this.2, fun hle => ?_⟩
    rcases h4 hj with h | h
    · omega
    · exact h
  have nxt : o.kind ≠ 24 → o.kind ≠ 17 → (k : Int) + 1 < b.ops.length := fun e1 e2 => by
    refine Decidable.byContradiction fun hn => ?_
    have : k = b.ops.length - 1 := by omega
    have hk' : lastK b.ops = o.kind := by
      unfold lastK kindAt
      rw [show ((b.ops.length : Int) - 1).toNat = k by omega, List.getD_eq_getElem?_getD, ho]
      rfl
    omega
  unfold tgtL at ht
  split at ht
  · simp at ht
  · rename_i e24
    split at ht
    · rename_i e17
      simp only [List.mem_singleton] at ht
      subst ht
      exact key (by simp [jumps, e17])
    · rename_i e17
      have hn := nxt e24 e17
      split at ht
      · rename_i hj
        simp only [List.mem_cons, List.not_mem_nil, or_false] at ht
        rcases ht with rfl | rfl
        · exact ⟨by omega, hn, fun h => by omega⟩
        · exact key hj
      · simp only [List.mem_singleton] at ht
        subst ht
        exact ⟨by omega, hn, fun h => by omega⟩
theorem irSafeL_ax {H : Heap} {x0 : ProgT} {x1 : BodyX} {ps cs kv ov dv : Value} (hp : RL 1 strR H ps x0.2.1) (hcs : RL 5 codeR H cs x0.2.2) (hbI : BodyIn H x1 kv ov dv) (o1 : ty30.ok x1) :
    AX Try.prog 4 #[progV x0 ps cs, bodyV x1 kv ov dv] H fun v _ => v = .bool true := by
  refine AX.body (n := 121) (rs := [.tmp 4]) Try.func4 rfl (by decide) rfl rfl (bC_sound _ _ _ _ ?_)
  (conv => whnf)
  refine Ob2.box rfl fun q1 H1 hq1 a1 g1 => ?_
  (conv => whnf)
  refine Ob2.box rfl fun q2 H2 hq2 a2 g2 => ?_
  have b1 := hblk_of (g2.at a1)
  have b2 := hblk_of a2
  have g := g1.trans g2
  replace hp := strR.grow hp g
  replace hcs := codeR.grow hcs g
  replace hbI := hbI.grow g
  clear a1 a2 g1 g2
  (try (conv => whnf)); (repeat ((fail_if_success (with_reducible refine And.intro ?_ ?_)); (fail_if_success (with_reducible refine Exists.intro ?_ ?_)); (first | (apply Ob.of; (first | with_reducible assumption | with_reducible exact ex20 _ _ | with_reducible exact ex21 _ _ | with_reducible exact ex30 _ _ _ | with_reducible exact ex31 _ _ _ | with_reducible exact ex32 _ _ _ | rfl | (exact ald rfl rfl (by assumption) rfl) | (exact ald_agg rfl rfl rfl (by assumption) rfl)); (conv => whnf)) | (apply bIf.yes; (first | assumption | rfl); (conv => whnf)) | (apply bIf.no; (first | assumption | rfl); (conv => whnf)) | ((with_reducible refine Ob.load (by with_unfolding_all assumption) ?_); (conv => whnf)) | (apply Grows.mk; (first | exact Grow.refl _ | assumption); (conv => whnf)))))
  refine (fewN_ax 300 (by decide) hp hcs).mono ?_
  rintro _ X ⟨⟨b, rfl, hf⟩, e⟩
  subst X
  cases b with
  | false =>
    (try (conv => whnf)); (repeat ((fail_if_success (with_reducible refine And.intro ?_ ?_)); (fail_if_success (with_reducible refine Exists.intro ?_ ?_)); (first | (apply Ob.of; (first | with_reducible assumption | with_reducible exact ex20 _ _ | with_reducible exact ex21 _ _ | with_reducible exact ex30 _ _ _ | with_reducible exact ex31 _ _ _ | with_reducible exact ex32 _ _ _ | rfl | (exact ald rfl rfl (by assumption) rfl) | (exact ald_agg rfl rfl rfl (by assumption) rfl)); (conv => whnf)) | (apply bIf.yes; (first | assumption | rfl); (conv => whnf)) | (apply bIf.no; (first | assumption | rfl); (conv => whnf)) | ((with_reducible refine Ob.load (by with_unfolding_all assumption) ?_); (conv => whnf)) | (apply Grows.mk; (first | exact Grow.refl _ | assumption); (conv => whnf)))))
    refine (irWorks_ax H2).mono ?_
    rintro _ X ⟨rfl, e⟩
    (try (conv => whnf)); (repeat ((fail_if_success (with_reducible refine And.intro ?_ ?_)); (fail_if_success (with_reducible refine Exists.intro ?_ ?_)); (first | (apply Ob.of; (first | with_reducible assumption | with_reducible exact ex20 _ _ | with_reducible exact ex21 _ _ | with_reducible exact ex30 _ _ _ | with_reducible exact ex31 _ _ _ | with_reducible exact ex32 _ _ _ | rfl | (exact ald rfl rfl (by assumption) rfl) | (exact ald_agg rfl rfl rfl (by assumption) rfl)); (conv => whnf)) | (apply bIf.yes; (first | assumption | rfl); (conv => whnf)) | (apply bIf.no; (first | assumption | rfl); (conv => whnf)) | ((with_reducible refine Ob.load (by with_unfolding_all assumption) ?_); (conv => whnf)) | (apply Grows.mk; (first | exact Grow.refl _ | assumption); (conv => whnf)))))
    rfl
  | true =>
  have hf := hf rfl
  (try (conv => whnf)); (repeat ((fail_if_success (with_reducible refine And.intro ?_ ?_)); (fail_if_success (with_reducible refine Exists.intro ?_ ?_)); (first | (apply Ob.of; (first | with_reducible assumption | with_reducible exact ex20 _ _ | with_reducible exact ex21 _ _ | with_reducible exact ex30 _ _ _ | with_reducible exact ex31 _ _ _ | with_reducible exact ex32 _ _ _ | rfl | (exact ald rfl rfl (by assumption) rfl) | (exact ald_agg rfl rfl rfl (by assumption) rfl)); (conv => whnf)) | (apply bIf.yes; (first | assumption | rfl); (conv => whnf)) | (apply bIf.no; (first | assumption | rfl); (conv => whnf)) | ((with_reducible refine Ob.load (by with_unfolding_all assumption) ?_); (conv => whnf)) | (apply Grows.mk; (first | exact Grow.refl _ | assumption); (conv => whnf)))))
  refine (fewB_ax hbI 300 (by decide)).mono ?_
  rintro _ X ⟨⟨b, rfl, hf2⟩, e⟩
  subst X
  cases b with
  | false =>
    (try (conv => whnf)); (repeat ((fail_if_success (with_reducible refine And.intro ?_ ?_)); (fail_if_success (with_reducible refine Exists.intro ?_ ?_)); (first | (apply Ob.of; (first | with_reducible assumption | with_reducible exact ex20 _ _ | with_reducible exact ex21 _ _ | with_reducible exact ex30 _ _ _ | with_reducible exact ex31 _ _ _ | with_reducible exact ex32 _ _ _ | rfl | (exact ald rfl rfl (by assumption) rfl) | (exact ald_agg rfl rfl rfl (by assumption) rfl)); (conv => whnf)) | (apply bIf.yes; (first | assumption | rfl); (conv => whnf)) | (apply bIf.no; (first | assumption | rfl); (conv => whnf)) | ((with_reducible refine Ob.load (by with_unfolding_all assumption) ?_); (conv => whnf)) | (apply Grows.mk; (first | exact Grow.refl _ | assumption); (conv => whnf)))))
    refine (irWorks_ax H2).mono ?_
    rintro _ X ⟨rfl, e⟩
    (try (conv => whnf)); (repeat ((fail_if_success (with_reducible refine And.intro ?_ ?_)); (fail_if_success (with_reducible refine Exists.intro ?_ ?_)); (first | (apply Ob.of; (first | with_reducible assumption | with_reducible exact ex20 _ _ | with_reducible exact ex21 _ _ | with_reducible exact ex30 _ _ _ | with_reducible exact ex31 _ _ _ | with_reducible exact ex32 _ _ _ | rfl | (exact ald rfl rfl (by assumption) rfl) | (exact ald_agg rfl rfl rfl (by assumption) rfl)); (conv => whnf)) | (apply bIf.yes; (first | assumption | rfl); (conv => whnf)) | (apply bIf.no; (first | assumption | rfl); (conv => whnf)) | ((with_reducible refine Ob.load (by with_unfolding_all assumption) ?_); (conv => whnf)) | (apply Grows.mk; (first | exact Grow.refl _ | assumption); (conv => whnf)))))
    rfl
  | true =>
  have hf2 := hf2 rfl
  obtain ⟨sm, ib⟩ := few_small o1 hf2 (by decide)
  (try (conv => whnf)); (repeat ((fail_if_success (with_reducible refine And.intro ?_ ?_)); (fail_if_success (with_reducible refine Exists.intro ?_ ?_)); (first | (apply Ob.of; (first | with_reducible assumption | with_reducible exact ex20 _ _ | with_reducible exact ex21 _ _ | with_reducible exact ex30 _ _ _ | with_reducible exact ex31 _ _ _ | with_reducible exact ex32 _ _ _ | rfl | (exact ald rfl rfl (by assumption) rfl) | (exact ald_agg rfl rfl rfl (by assumption) rfl)); (conv => whnf)) | (apply bIf.yes; (first | assumption | rfl); (conv => whnf)) | (apply bIf.no; (first | assumption | rfl); (conv => whnf)) | ((with_reducible refine Ob.load (by with_unfolding_all assumption) ?_); (conv => whnf)) | (apply Grows.mk; (first | exact Grow.refl _ | assumption); (conv => whnf)))))
  refine (irCheck_ax hp hcs hf.small.1 hbI sm).mono ?_
  rintro v X ⟨hv, e⟩
  subst X
  rcases hv with ⟨rfl, hv⟩ | ⟨rfl, hv⟩
  rotate_left
  · (try (conv => whnf)); (repeat ((fail_if_success (with_reducible refine And.intro ?_ ?_)); (fail_if_success (with_reducible refine Exists.intro ?_ ?_)); (first | (apply Ob.of; (first | with_reducible assumption | with_reducible exact ex20 _ _ | with_reducible exact ex21 _ _ | with_reducible exact ex30 _ _ _ | with_reducible exact ex31 _ _ _ | with_reducible exact ex32 _ _ _ | rfl | (exact ald rfl rfl (by assumption) rfl) | (exact ald_agg rfl rfl rfl (by assumption) rfl)); (conv => whnf)) | (apply bIf.yes; (first | assumption | rfl); (conv => whnf)) | (apply bIf.no; (first | assumption | rfl); (conv => whnf)) | ((with_reducible refine Ob.load (by with_unfolding_all assumption) ?_); (conv => whnf)) | (apply Grows.mk; (first | exact Grow.refl _ | assumption); (conv => whnf)))))
    refine (irWorks_ax H2).mono ?_
    rintro _ X ⟨rfl, e⟩
    (try (conv => whnf)); (repeat ((fail_if_success (with_reducible refine And.intro ?_ ?_)); (fail_if_success (with_reducible refine Exists.intro ?_ ?_)); (first | (apply Ob.of; (first | with_reducible assumption | with_reducible exact ex20 _ _ | with_reducible exact ex21 _ _ | with_reducible exact ex30 _ _ _ | with_reducible exact ex31 _ _ _ | with_reducible exact ex32 _ _ _ | rfl | (exact ald rfl rfl (by assumption) rfl) | (exact ald_agg rfl rfl rfl (by assumption) rfl)); (conv => whnf)) | (apply bIf.yes; (first | assumption | rfl); (conv => whnf)) | (apply bIf.no; (first | assumption | rfl); (conv => whnf)) | ((with_reducible refine Ob.load (by with_unfolding_all assumption) ?_); (conv => whnf)) | (apply Grows.mk; (first | exact Grow.refl _ | assumption); (conv => whnf)))))
    rfl
  obtain ⟨hP, hF0, c, L, hc, hlim, hVals, hDeps, hCl, hOps, hLast⟩ := hv
  have hl0 := hlim
  unfold BLim at hl0
  have hRi : RightP x0 x1.F c := by
    have := hP.2.2.2.2.2.2 x1.F.toNat c hc
    rwa [Int.toNat_of_nonneg hF0] at this
  have hlm := hRi.1
  unfold Lim at hlm
  have hrg : (limsOf x0 c x1).rg = x1.regs := rfl
  (try (conv => whnf)); (repeat ((fail_if_success (with_reducible refine And.intro ?_ ?_)); (fail_if_success (with_reducible refine Exists.intro ?_ ?_)); (first | (apply Ob.of; (first | with_reducible assumption | with_reducible exact ex20 _ _ | with_reducible exact ex21 _ _ | with_reducible exact ex30 _ _ _ | with_reducible exact ex31 _ _ _ | with_reducible exact ex32 _ _ _ | rfl | (exact ald rfl rfl (by assumption) rfl) | (exact ald_agg rfl rfl rfl (by assumption) rfl)); (conv => whnf)) | (apply bIf.yes; (first | assumption | rfl); (conv => whnf)) | (apply bIf.no; (first | assumption | rfl); (conv => whnf)) | ((with_reducible refine Ob.load (by with_unfolding_all assumption) ?_); (conv => whnf)) | (apply Grows.mk; (first | exact Grow.refl _ | assumption); (conv => whnf)))))
  refine SW.loop (α := Nat) (fun m => [(2, .pointer (some ⟨q1, 0, none⟩)), (3, .pointer (some ⟨q2, 0, none⟩)), (5, .int .i64 (m : Int))]) (fun m X => m ≤ x1.ops.length ∧ Grow H2 X) (fun m => x1.ops.length - m) ⟨0, ⟨rfl, rfl, rfl, trivial⟩, by omega, .refl _⟩ ?_
  rintro m X ⟨hm, gX⟩
  refine bC_sound _ _ _ _ ?_
  have b1 := gX.hblk b1
  have b2 := gX.hblk b2
  have l4 : alen Try.prog 27 ov X = some (.int .i64 x1.ops.length) := hbI.ops.len rfl _
  by_cases hml : m < x1.ops.length
  rotate_left
  · have d1 : decide ((m : Int) < (x1.ops.length : Int)) = false := decide_eq_false (by omega)
    (try (conv => whnf)); (repeat ((fail_if_success (with_reducible refine And.intro ?_ ?_)); (fail_if_success (with_reducible refine Exists.intro ?_ ?_)); (first | (apply Ob.of; (first | with_reducible assumption | with_reducible exact ex20 _ _ | with_reducible exact ex21 _ _ | with_reducible exact ex30 _ _ _ | with_reducible exact ex31 _ _ _ | with_reducible exact ex32 _ _ _ | rfl | (exact ald rfl rfl (by assumption) rfl) | (exact ald_agg rfl rfl rfl (by assumption) rfl)); (conv => whnf)) | (apply bIf.yes; (first | assumption | rfl); (conv => whnf)) | (apply bIf.no; (first | assumption | rfl); (conv => whnf)) | ((with_reducible refine Ob.load (by with_unfolding_all assumption) ?_); (conv => whnf)) | (apply Grows.mk; (first | exact Grow.refl _ | assumption); (conv => whnf)))))
    refine (irWorks_ax X).mono ?_
    rintro _ X ⟨rfl, e⟩
    (try (conv => whnf)); (repeat ((fail_if_success (with_reducible refine And.intro ?_ ?_)); (fail_if_success (with_reducible refine Exists.intro ?_ ?_)); (first | (apply Ob.of; (first | with_reducible assumption | with_reducible exact ex20 _ _ | with_reducible exact ex21 _ _ | with_reducible exact ex30 _ _ _ | with_reducible exact ex31 _ _ _ | with_reducible exact ex32 _ _ _ | rfl | (exact ald rfl rfl (by assumption) rfl) | (exact ald_agg rfl rfl rfl (by assumption) rfl)); (conv => whnf)) | (apply bIf.yes; (first | assumption | rfl); (conv => whnf)) | (apply bIf.no; (first | assumption | rfl); (conv => whnf)) | ((with_reducible refine Ob.load (by with_unfolding_all assumption) ?_); (conv => whnf)) | (apply Grows.mk; (first | exact Grow.refl _ | assumption); (conv => whnf)))))
    rfl
  have d1 : decide ((m : Int) < (x1.ops.length : Int)) = true := decide_eq_true (by omega)
  obtain ⟨o, ho⟩ := get_lt hml
  have hoP := hOps m o hml ho
  have hRef := ((opP_ref (by rw [hrg]; omega)).1 hoP).1
  have hPc := ((opP_ref (by rw [hrg]; omega)).1 hoP).2.1
  obtain ⟨f1, f2, f3⟩ := hf2.op o (List.mem_of_getElem? ho)
  obtain ⟨bo, rv, cv, mv, i1, jr, jc, jm, i2, jm8⟩ := ldx_op8 hbI.ops ho
  have hul : (usesL o).length ≤ 23 := by
    unfold usesL
    simp only [List.length_append, List.length_nil]
    have hh : ∀ (t : Bool) (x : Int), (if t then [x] else []).length ≤ 1 := fun t x => by cases t <;> simp
    have := hh (isR o.kind 0) o.a
    have := hh (isR o.kind 1) o.b
    have := hh (isR o.kind 2) o.c
    omega
  (try (conv => whnf)); (repeat ((fail_if_success (with_reducible refine And.intro ?_ ?_)); (fail_if_success (with_reducible refine Exists.intro ?_ ?_)); (first | (apply Ob.of; (first | with_reducible assumption | with_reducible exact ex20 _ _ | with_reducible exact ex21 _ _ | with_reducible exact ex30 _ _ _ | with_reducible exact ex31 _ _ _ | with_reducible exact ex32 _ _ _ | rfl | (exact ald rfl rfl (by assumption) rfl) | (exact ald_agg rfl rfl rfl (by assumption) rfl)); (conv => whnf)) | (apply bIf.yes; (first | assumption | rfl); (conv => whnf)) | (apply bIf.no; (first | assumption | rfl); (conv => whnf)) | ((with_reducible refine Ob.load (by with_unfolding_all assumption) ?_); (conv => whnf)) | (apply Grows.mk; (first | exact Grow.refl _ | assumption); (conv => whnf)))))
  refine SW.sub (F := [(2, _), (3, _), (5, _)]) ?_ (Sub.of ⟨rfl, rfl, rfl, trivial⟩)
  have mono : ∀ (i : Nat) (F : Fr) (v : Value) (K K1 : Heap), (fun i F v K => match i with | 0 => OwnR 1 3 intR K v [] ∧ (∀ b, blkIs v b → X.length ≤ b) | 1 => v = .pointer (some ⟨q2, 3, none⟩) | 2 => v = ov | 3 => v = .int .i64 (m : Int) | 4 => v = .pointer (some ⟨bo, m * 9, none⟩) | 5 => v = opV o rv cv mv | 6 => RL 1 intR K v (usesL o) | 7 => OwnR 1 3 intR K v (usesL o) ∧ (∀ b, blkIs v b → X.length ≤ b) | 8 => v = .pointer (some ⟨q2, 3, none⟩) | 9 => v = ov | 10 => v = .int .i64 (m : Int) | 11 => v = .pointer (some ⟨bo, m * 9, none⟩) | 12 => v = .pointer (some ⟨bo, m * 9 + 8, none⟩) | 13 => v = mv | 14 => OwnR 1 3 intR K v (usesL o ++ o.map) ∧ (∀ b, blkIs v b → X.length ≤ b) | _ => True) i F v K → Grow K K1 → (fun i F v K => match i with | 0 => OwnR 1 3 intR K v [] ∧ (∀ b, blkIs v b → X.length ≤ b) | 1 => v = .pointer (some ⟨q2, 3, none⟩) | 2 => v = ov | 3 => v = .int .i64 (m : Int) | 4 => v = .pointer (some ⟨bo, m * 9, none⟩) | 5 => v = opV o rv cv mv | 6 => RL 1 intR K v (usesL o) | 7 => OwnR 1 3 intR K v (usesL o) ∧ (∀ b, blkIs v b → X.length ≤ b) | 8 => v = .pointer (some ⟨q2, 3, none⟩) | 9 => v = ov | 10 => v = .int .i64 (m : Int) | 11 => v = .pointer (some ⟨bo, m * 9, none⟩) | 12 => v = .pointer (some ⟨bo, m * 9 + 8, none⟩) | 13 => v = mv | 14 => OwnR 1 3 intR K v (usesL o ++ o.map) ∧ (∀ b, blkIs v b → X.length ≤ b) | _ => True) i F v K1 := by
    intro i F v K K1 h g
    match i, h with
    | 0, h => exact ⟨h.1.keep (fun b c _ hb => g.at hb) fun _ _ _ h => h, h.2⟩
    | 1, h => exact h
    | 2, h => exact h
    | 3, h => exact h
    | 4, h => exact h
    | 5, h => exact h
    | 6, h => exact intR.grow h g
    | 7, h => exact ⟨h.1.keep (fun b c _ hb => g.at hb) fun _ _ _ h => h, h.2⟩
    | 8, h => exact h
    | 9, h => exact h
    | 10, h => exact h
    | 11, h => exact h
    | 12, h => exact h
    | 13, h => exact h
    | 14, h => exact ⟨h.1.keep (fun b c _ hb => g.at hb) fun _ _ _ h => h, h.2⟩
    | i + 15, h => trivial
  refine SW.drawD 15 (fun i F v K => match i with | 0 => OwnR 1 3 intR K v [] ∧ (∀ b, blkIs v b → X.length ≤ b) | 1 => v = .pointer (some ⟨q2, 3, none⟩) | 2 => v = ov | 3 => v = .int .i64 (m : Int) | 4 => v = .pointer (some ⟨bo, m * 9, none⟩) | 5 => v = opV o rv cv mv | 6 => RL 1 intR K v (usesL o) | 7 => OwnR 1 3 intR K v (usesL o) ∧ (∀ b, blkIs v b → X.length ≤ b) | 8 => v = .pointer (some ⟨q2, 3, none⟩) | 9 => v = ov | 10 => v = .int .i64 (m : Int) | 11 => v = .pointer (some ⟨bo, m * 9, none⟩) | 12 => v = .pointer (some ⟨bo, m * 9 + 8, none⟩) | 13 => v = mv | 14 => OwnR 1 3 intR K v (usesL o ++ o.map) ∧ (∀ b, blkIs v b → X.length ≤ b) | _ => True) (fun i k => (Nat.beq i 7 && (Nat.beq k 0 || Nat.beq k 6)) || (Nat.beq i 14 && (Nat.beq k 0 || Nat.beq k 6 || Nat.beq k 7))) rfl (by kernel_rfl) ?_ ?_
  · intro i oX V K hi hoX hg hT
    have b1 := hg.hblk b1
    have b2 := hg.hblk b2
    have i3 := (i2 K (gX.trans hg)).1
    have i4 := jm8 K (gX.trans hg)
    match i, hi, hoX, hT with
    | 0, hi, hoX, hT =>
      obtain rfl := Option.some.inj hoX
      rw [envOf_eq, show pairsOf _ _ 0 = [] from by kernel_rfl, show exOf _ _ 0 = [33, 34, 35, 36, 37, 38, 40, 41, 42, 43, 44, 45] from by kernel_rfl]
      (try simp only [valsOf])
      (conv => whnf)
      refine Ob2.lay (.cells (.row 3) []) (.slice (some ⟨K.length, 0, none⟩) 0 1) rfl fun K2 ak k l => ?_
      (try (conv => whnf)); (repeat ((fail_if_success (with_reducible refine And.intro ?_ ?_)); (fail_if_success (with_reducible refine Exists.intro ?_ ?_)); (first | (apply Ob.of; (first | with_reducible assumption | with_reducible exact ex20 _ _ | with_reducible exact ex21 _ _ | with_reducible exact ex30 _ _ _ | with_reducible exact ex31 _ _ _ | with_reducible exact ex32 _ _ _ | rfl | (exact ald rfl rfl (by assumption) rfl) | (exact ald_agg rfl rfl rfl (by assumption) rfl)); (conv => whnf)) | (apply bIf.yes; (first | assumption | rfl); (conv => whnf)) | (apply bIf.no; (first | assumption | rfl); (conv => whnf)) | ((with_reducible refine Ob.load (by with_unfolding_all assumption) ?_); (conv => whnf)) | (apply Grows.mk; (first | exact Grow.refl _ | assumption); (conv => whnf)))))
      refine ⟨hg.trans k, ⟨.inr ⟨_, [], rfl, ak, rfl, fun i x hx => by simp at hx⟩, fun b ⟨_, _, e⟩ => ?_⟩, fun k' F v _ h => mono k' F v K K2 h k⟩
      simp only [Value.slice.injEq, Option.some.injEq, Addr.mk.injEq] at e
      have := hg.1
      omega
    | 1, hi, hoX, hT =>
      obtain rfl := Option.some.inj hoX
      rw [envOf_eq, show pairsOf _ _ 1 = [] from by kernel_rfl, show exOf _ _ 1 = [32, 35, 40, 41, 42, 43, 44, 45] from by kernel_rfl]
      (try simp only [valsOf])
      (try (conv => whnf)); (repeat ((fail_if_success (with_reducible refine And.intro ?_ ?_)); (fail_if_success (with_reducible refine Exists.intro ?_ ?_)); (first | (apply Ob.of; (first | with_reducible assumption | with_reducible exact ex20 _ _ | with_reducible exact ex21 _ _ | with_reducible exact ex30 _ _ _ | with_reducible exact ex31 _ _ _ | with_reducible exact ex32 _ _ _ | rfl | (exact ald rfl rfl (by assumption) rfl) | (exact ald_agg rfl rfl rfl (by assumption) rfl)); (conv => whnf)) | (apply bIf.yes; (first | assumption | rfl); (conv => whnf)) | (apply bIf.no; (first | assumption | rfl); (conv => whnf)) | ((with_reducible refine Ob.load (by with_unfolding_all assumption) ?_); (conv => whnf)) | (apply Grows.mk; (first | exact Grow.refl _ | assumption); (conv => whnf)))))
      exact ⟨hg, rfl, fun _ _ _ _ h => h⟩
    | 2, hi, hoX, hT =>
      obtain rfl := Option.some.inj hoX
      have e1 := hT 1 (by kernel_rfl)
      (conv at e1 => whnf)
      rw [envOf_eq, show pairsOf _ _ 2 = [(33, 1)] from by kernel_rfl, show exOf _ _ 2 = [32, 33, 35, 40, 41, 42, 43, 44, 45] from by kernel_rfl]
      (try simp only [valsOf, e1])
      (try (conv => whnf)); (repeat ((fail_if_success (with_reducible refine And.intro ?_ ?_)); (fail_if_success (with_reducible refine Exists.intro ?_ ?_)); (first | (apply Ob.of; (first | with_reducible assumption | with_reducible exact ex20 _ _ | with_reducible exact ex21 _ _ | with_reducible exact ex30 _ _ _ | with_reducible exact ex31 _ _ _ | with_reducible exact ex32 _ _ _ | rfl | (exact ald rfl rfl (by assumption) rfl) | (exact ald_agg rfl rfl rfl (by assumption) rfl)); (conv => whnf)) | (apply bIf.yes; (first | assumption | rfl); (conv => whnf)) | (apply bIf.no; (first | assumption | rfl); (conv => whnf)) | ((with_reducible refine Ob.load (by with_unfolding_all assumption) ?_); (conv => whnf)) | (apply Grows.mk; (first | exact Grow.refl _ | assumption); (conv => whnf)))))
      exact ⟨hg, rfl, fun _ _ _ _ h => h⟩
    | 3, hi, hoX, hT =>
      obtain rfl := Option.some.inj hoX
      rw [envOf_eq, show pairsOf _ _ 3 = [] from by kernel_rfl, show exOf _ _ 3 = [32, 33, 34, 40, 41, 42, 43, 44, 45] from by kernel_rfl]
      (try simp only [valsOf])
      (try (conv => whnf)); (repeat ((fail_if_success (with_reducible refine And.intro ?_ ?_)); (fail_if_success (with_reducible refine Exists.intro ?_ ?_)); (first | (apply Ob.of; (first | with_reducible assumption | with_reducible exact ex20 _ _ | with_reducible exact ex21 _ _ | with_reducible exact ex30 _ _ _ | with_reducible exact ex31 _ _ _ | with_reducible exact ex32 _ _ _ | rfl | (exact ald rfl rfl (by assumption) rfl) | (exact ald_agg rfl rfl rfl (by assumption) rfl)); (conv => whnf)) | (apply bIf.yes; (first | assumption | rfl); (conv => whnf)) | (apply bIf.no; (first | assumption | rfl); (conv => whnf)) | ((with_reducible refine Ob.load (by with_unfolding_all assumption) ?_); (conv => whnf)) | (apply Grows.mk; (first | exact Grow.refl _ | assumption); (conv => whnf)))))
      exact ⟨hg, rfl, fun _ _ _ _ h => h⟩
    | 4, hi, hoX, hT =>
      obtain rfl := Option.some.inj hoX
      have e1 := hT 1 (by kernel_rfl)
      (conv at e1 => whnf)
      have e2 := hT 2 (by kernel_rfl)
      (conv at e2 => whnf)
      have e3 := hT 3 (by kernel_rfl)
      (conv at e3 => whnf)
      rw [envOf_eq, show pairsOf _ _ 4 = [(33, 1), (34, 2), (35, 3)] from by kernel_rfl, show exOf _ _ 4 = [32, 33, 34, 35, 40, 41, 42, 43, 44, 45] from by kernel_rfl]
      (try simp only [valsOf, e1, e2, e3])
      (try (conv => whnf)); (repeat ((fail_if_success (with_reducible refine And.intro ?_ ?_)); (fail_if_success (with_reducible refine Exists.intro ?_ ?_)); (first | (apply Ob.of; (first | with_reducible assumption | with_reducible exact ex20 _ _ | with_reducible exact ex21 _ _ | with_reducible exact ex30 _ _ _ | with_reducible exact ex31 _ _ _ | with_reducible exact ex32 _ _ _ | rfl | (exact ald rfl rfl (by assumption) rfl) | (exact ald_agg rfl rfl rfl (by assumption) rfl)); (conv => whnf)) | (apply bIf.yes; (first | assumption | rfl); (conv => whnf)) | (apply bIf.no; (first | assumption | rfl); (conv => whnf)) | ((with_reducible refine Ob.load (by with_unfolding_all assumption) ?_); (conv => whnf)) | (apply Grows.mk; (first | exact Grow.refl _ | assumption); (conv => whnf)))))
      exact ⟨hg, rfl, fun _ _ _ _ h => h⟩
    | 5, hi, hoX, hT =>
      obtain rfl := Option.some.inj hoX
      have e1 := hT 1 (by kernel_rfl)
      (conv at e1 => whnf)
      have e2 := hT 2 (by kernel_rfl)
      (conv at e2 => whnf)
      have e3 := hT 3 (by kernel_rfl)
      (conv at e3 => whnf)
      have e4 := hT 4 (by kernel_rfl)
      (conv at e4 => whnf)
      rw [envOf_eq, show pairsOf _ _ 5 = [(33, 1), (34, 2), (35, 3), (36, 4)] from by kernel_rfl, show exOf _ _ 5 = [32, 33, 34, 35, 36, 40, 41, 42, 43, 44, 45] from by kernel_rfl]
      (try simp only [valsOf, e1, e2, e3, e4])
      (try (conv => whnf)); (repeat ((fail_if_success (with_reducible refine And.intro ?_ ?_)); (fail_if_success (with_reducible refine Exists.intro ?_ ?_)); (first | (apply Ob.of; (first | with_reducible assumption | with_reducible exact ex20 _ _ | with_reducible exact ex21 _ _ | with_reducible exact ex30 _ _ _ | with_reducible exact ex31 _ _ _ | with_reducible exact ex32 _ _ _ | rfl | (exact ald rfl rfl (by assumption) rfl) | (exact ald_agg rfl rfl rfl (by assumption) rfl)); (conv => whnf)) | (apply bIf.yes; (first | assumption | rfl); (conv => whnf)) | (apply bIf.no; (first | assumption | rfl); (conv => whnf)) | ((with_reducible refine Ob.load (by with_unfolding_all assumption) ?_); (conv => whnf)) | (apply Grows.mk; (first | exact Grow.refl _ | assumption); (conv => whnf)))))
      exact ⟨hg, rfl, fun _ _ _ _ h => h⟩
    | 6, hi, hoX, hT =>
      obtain rfl := Option.some.inj hoX
      have e1 := hT 1 (by kernel_rfl)
      (conv at e1 => whnf)
      have e2 := hT 2 (by kernel_rfl)
      (conv at e2 => whnf)
      have e3 := hT 3 (by kernel_rfl)
      (conv at e3 => whnf)
      have e4 := hT 4 (by kernel_rfl)
      (conv at e4 => whnf)
      have e5 := hT 5 (by kernel_rfl)
      (conv at e5 => whnf)
      rw [envOf_eq, show pairsOf _ _ 6 = [(33, 1), (34, 2), (35, 3), (36, 4), (37, 5)] from by kernel_rfl, show exOf _ _ 6 = [32, 33, 34, 35, 36, 37, 40, 41, 42, 43, 44, 45] from by kernel_rfl]
      (try simp only [valsOf, e1, e2, e3, e4, e5])
      (try (conv => whnf)); (repeat ((fail_if_success (with_reducible refine And.intro ?_ ?_)); (fail_if_success (with_reducible refine Exists.intro ?_ ?_)); (first | (apply Ob.of; (first | with_reducible assumption | with_reducible exact ex20 _ _ | with_reducible exact ex21 _ _ | with_reducible exact ex30 _ _ _ | with_reducible exact ex31 _ _ _ | with_reducible exact ex32 _ _ _ | rfl | (exact ald rfl rfl (by assumption) rfl) | (exact ald_agg rfl rfl rfl (by assumption) rfl)); (conv => whnf)) | (apply bIf.yes; (first | assumption | rfl); (conv => whnf)) | (apply bIf.no; (first | assumption | rfl); (conv => whnf)) | ((with_reducible refine Ob.load (by with_unfolding_all assumption) ?_); (conv => whnf)) | (apply Grows.mk; (first | exact Grow.refl _ | assumption); (conv => whnf)))))
      refine (irUses_ax (intR.grow jr (gX.trans hg)) (by omega)).mono ?_
      rintro u K2 ⟨hu, gu⟩
      (try (conv => whnf)); (repeat ((fail_if_success (with_reducible refine And.intro ?_ ?_)); (fail_if_success (with_reducible refine Exists.intro ?_ ?_)); (first | (apply Ob.of; (first | with_reducible assumption | with_reducible exact ex20 _ _ | with_reducible exact ex21 _ _ | with_reducible exact ex30 _ _ _ | with_reducible exact ex31 _ _ _ | with_reducible exact ex32 _ _ _ | rfl | (exact ald rfl rfl (by assumption) rfl) | (exact ald_agg rfl rfl rfl (by assumption) rfl)); (conv => whnf)) | (apply bIf.yes; (first | assumption | rfl); (conv => whnf)) | (apply bIf.no; (first | assumption | rfl); (conv => whnf)) | ((with_reducible refine Ob.load (by with_unfolding_all assumption) ?_); (conv => whnf)) | (apply Grows.mk; (first | exact Grow.refl _ | assumption); (conv => whnf)))))
      exact ⟨hg.trans gu, hu, fun k' F v _ h => mono k' F v K K2 h gu⟩
    | 7, hi, hoX, hT =>
      obtain rfl := Option.some.inj hoX
      have e0 := hT 0 (by kernel_rfl)
      (conv at e0 => whnf)
      have e1 := hT 1 (by kernel_rfl)
      (conv at e1 => whnf)
      have e2 := hT 2 (by kernel_rfl)
      (conv at e2 => whnf)
      have e3 := hT 3 (by kernel_rfl)
      (conv at e3 => whnf)
      have e4 := hT 4 (by kernel_rfl)
      (conv at e4 => whnf)
      have e5 := hT 5 (by kernel_rfl)
      (conv at e5 => whnf)
      have e6 := hT 6 (by kernel_rfl)
      (conv at e6 => whnf)
      rw [envOf_eq, show pairsOf _ _ 7 = [(32, 0), (33, 1), (34, 2), (35, 3), (36, 4), (37, 5), (38, 6)] from by kernel_rfl, show exOf _ _ 7 = [32, 33, 34, 35, 36, 37, 38, 40, 41, 42, 43, 44, 45] from by kernel_rfl]
      (try simp only [valsOf, e1, e2, e3, e4, e5])
      generalize V.getD 0 undef = v0 at e0 ⊢
      generalize V.getD 6 undef = v6 at e6 ⊢
      obtain ⟨sv9, K2, e91, e92, e93, e94⟩ := OwnR.appendL (n := X.length) rowI rowI e0.1 e6 e0.2 hg.1 (by rw [List.length_nil]; omega) (fun _ _ _ _ _ h => h)
      (try (conv => whnf)); (repeat ((fail_if_success (with_reducible refine And.intro ?_ ?_)); (fail_if_success (with_reducible refine Exists.intro ?_ ?_)); (first | (apply Ob.of; (first | with_reducible assumption | with_reducible exact ex20 _ _ | with_reducible exact ex21 _ _ | with_reducible exact ex30 _ _ _ | with_reducible exact ex31 _ _ _ | with_reducible exact ex32 _ _ _ | rfl | (exact ald rfl rfl (by assumption) rfl) | (exact ald_agg rfl rfl rfl (by assumption) rfl)); (conv => whnf)) | (apply bIf.yes; (first | assumption | rfl); (conv => whnf)) | (apply bIf.no; (first | assumption | rfl); (conv => whnf)) | ((with_reducible refine Ob.load (by with_unfolding_all assumption) ?_); (conv => whnf)) | (apply Grows.mk; (first | exact Grow.refl _ | assumption); (conv => whnf)))))
      refine Ob2.of e91 ?_
      (try (conv => whnf)); (repeat ((fail_if_success (with_reducible refine And.intro ?_ ?_)); (fail_if_success (with_reducible refine Exists.intro ?_ ?_)); (first | (apply Ob.of; (first | with_reducible assumption | with_reducible exact ex20 _ _ | with_reducible exact ex21 _ _ | with_reducible exact ex30 _ _ _ | with_reducible exact ex31 _ _ _ | with_reducible exact ex32 _ _ _ | rfl | (exact ald rfl rfl (by assumption) rfl) | (exact ald_agg rfl rfl rfl (by assumption) rfl)); (conv => whnf)) | (apply bIf.yes; (first | assumption | rfl); (conv => whnf)) | (apply bIf.no; (first | assumption | rfl); (conv => whnf)) | ((with_reducible refine Ob.load (by with_unfolding_all assumption) ?_); (conv => whnf)) | (apply Grows.mk; (first | exact Grow.refl _ | assumption); (conv => whnf)))))
      exact ⟨e93.grow hg (Nat.le_refl _), ⟨by simpa using e92, e94⟩, (fun k1 F1 v1 hk1 h1 => match k1, hk1, h1 with | 0, hk1, _ => absurd hk1 (by rw [show keepD _ _ 7 0 = false from by kernel_rfl]; exact Bool.false_ne_true) | 1, _, h1 => h1 | 2, _, h1 => h1 | 3, _, h1 => h1 | 4, _, h1 => h1 | 5, _, h1 => h1 | 6, hk1, _ => absurd hk1 (by rw [show keepD _ _ 7 6 = false from by kernel_rfl]; exact Bool.false_ne_true) | 7, hk1, _ => absurd hk1 (by rw [show keepD _ _ 7 7 = false from by kernel_rfl]; exact Bool.false_ne_true) | 8, _, h1 => h1 | 9, _, h1 => h1 | 10, _, h1 => h1 | 11, _, h1 => h1 | 12, _, h1 => h1 | 13, _, h1 => h1 | 14, hk1, _ => absurd hk1 (by rw [show keepD _ _ 7 14 = false from by kernel_rfl]; exact Bool.false_ne_true) | k1 + 15, _, h1 => h1)⟩
    | 8, hi, hoX, hT =>
      obtain rfl := Option.some.inj hoX
      rw [envOf_eq, show pairsOf _ _ 8 = [] from by kernel_rfl, show exOf _ _ 8 = [32, 33, 34, 35, 36, 37, 38, 39, 42] from by kernel_rfl]
      (try simp only [valsOf])
      (try (conv => whnf)); (repeat ((fail_if_success (with_reducible refine And.intro ?_ ?_)); (fail_if_success (with_reducible refine Exists.intro ?_ ?_)); (first | (apply Ob.of; (first | with_reducible assumption | with_reducible exact ex20 _ _ | with_reducible exact ex21 _ _ | with_reducible exact ex30 _ _ _ | with_reducible exact ex31 _ _ _ | with_reducible exact ex32 _ _ _ | rfl | (exact ald rfl rfl (by assumption) rfl) | (exact ald_agg rfl rfl rfl (by assumption) rfl)); (conv => whnf)) | (apply bIf.yes; (first | assumption | rfl); (conv => whnf)) | (apply bIf.no; (first | assumption | rfl); (conv => whnf)) | ((with_reducible refine Ob.load (by with_unfolding_all assumption) ?_); (conv => whnf)) | (apply Grows.mk; (first | exact Grow.refl _ | assumption); (conv => whnf)))))
      exact ⟨hg, rfl, fun _ _ _ _ h => h⟩
    | 9, hi, hoX, hT =>
      obtain rfl := Option.some.inj hoX
      have e8 := hT 8 (by kernel_rfl)
      (conv at e8 => whnf)
      rw [envOf_eq, show pairsOf _ _ 9 = [(40, 8)] from by kernel_rfl, show exOf _ _ 9 = [32, 33, 34, 35, 36, 37, 38, 39, 40, 42] from by kernel_rfl]
      (try simp only [valsOf, e8])
      (try (conv => whnf)); (repeat ((fail_if_success (with_reducible refine And.intro ?_ ?_)); (fail_if_success (with_reducible refine Exists.intro ?_ ?_)); (first | (apply Ob.of; (first | with_reducible assumption | with_reducible exact ex20 _ _ | with_reducible exact ex21 _ _ | with_reducible exact ex30 _ _ _ | with_reducible exact ex31 _ _ _ | with_reducible exact ex32 _ _ _ | rfl | (exact ald rfl rfl (by assumption) rfl) | (exact ald_agg rfl rfl rfl (by assumption) rfl)); (conv => whnf)) | (apply bIf.yes; (first | assumption | rfl); (conv => whnf)) | (apply bIf.no; (first | assumption | rfl); (conv => whnf)) | ((with_reducible refine Ob.load (by with_unfolding_all assumption) ?_); (conv => whnf)) | (apply Grows.mk; (first | exact Grow.refl _ | assumption); (conv => whnf)))))
      exact ⟨hg, rfl, fun _ _ _ _ h => h⟩
    | 10, hi, hoX, hT =>
      obtain rfl := Option.some.inj hoX
      rw [envOf_eq, show pairsOf _ _ 10 = [] from by kernel_rfl, show exOf _ _ 10 = [32, 33, 34, 35, 36, 37, 38, 39, 40, 41] from by kernel_rfl]
      (try simp only [valsOf])
      (try (conv => whnf)); (repeat ((fail_if_success (with_reducible refine And.intro ?_ ?_)); (fail_if_success (with_reducible refine Exists.intro ?_ ?_)); (first | (apply Ob.of; (first | with_reducible assumption | with_reducible exact ex20 _ _ | with_reducible exact ex21 _ _ | with_reducible exact ex30 _ _ _ | with_reducible exact ex31 _ _ _ | with_reducible exact ex32 _ _ _ | rfl | (exact ald rfl rfl (by assumption) rfl) | (exact ald_agg rfl rfl rfl (by assumption) rfl)); (conv => whnf)) | (apply bIf.yes; (first | assumption | rfl); (conv => whnf)) | (apply bIf.no; (first | assumption | rfl); (conv => whnf)) | ((with_reducible refine Ob.load (by with_unfolding_all assumption) ?_); (conv => whnf)) | (apply Grows.mk; (first | exact Grow.refl _ | assumption); (conv => whnf)))))
      exact ⟨hg, rfl, fun _ _ _ _ h => h⟩
    | 11, hi, hoX, hT =>
      obtain rfl := Option.some.inj hoX
      have e8 := hT 8 (by kernel_rfl)
      (conv at e8 => whnf)
      have e9 := hT 9 (by kernel_rfl)
      (conv at e9 => whnf)
      have e10 := hT 10 (by kernel_rfl)
      (conv at e10 => whnf)
      rw [envOf_eq, show pairsOf _ _ 11 = [(40, 8), (41, 9), (42, 10)] from by kernel_rfl, show exOf _ _ 11 = [32, 33, 34, 35, 36, 37, 38, 39, 40, 41, 42] from by kernel_rfl]
      (try simp only [valsOf, e8, e9, e10])
      (try (conv => whnf)); (repeat ((fail_if_success (with_reducible refine And.intro ?_ ?_)); (fail_if_success (with_reducible refine Exists.intro ?_ ?_)); (first | (apply Ob.of; (first | with_reducible assumption | with_reducible exact ex20 _ _ | with_reducible exact ex21 _ _ | with_reducible exact ex30 _ _ _ | with_reducible exact ex31 _ _ _ | with_reducible exact ex32 _ _ _ | rfl | (exact ald rfl rfl (by assumption) rfl) | (exact ald_agg rfl rfl rfl (by assumption) rfl)); (conv => whnf)) | (apply bIf.yes; (first | assumption | rfl); (conv => whnf)) | (apply bIf.no; (first | assumption | rfl); (conv => whnf)) | ((with_reducible refine Ob.load (by with_unfolding_all assumption) ?_); (conv => whnf)) | (apply Grows.mk; (first | exact Grow.refl _ | assumption); (conv => whnf)))))
      exact ⟨hg, rfl, fun _ _ _ _ h => h⟩
    | 12, hi, hoX, hT =>
      obtain rfl := Option.some.inj hoX
      have e8 := hT 8 (by kernel_rfl)
      (conv at e8 => whnf)
      have e9 := hT 9 (by kernel_rfl)
      (conv at e9 => whnf)
      have e10 := hT 10 (by kernel_rfl)
      (conv at e10 => whnf)
      have e11 := hT 11 (by kernel_rfl)
      (conv at e11 => whnf)
      rw [envOf_eq, show pairsOf _ _ 12 = [(40, 8), (41, 9), (42, 10), (43, 11)] from by kernel_rfl, show exOf _ _ 12 = [32, 33, 34, 35, 36, 37, 38, 39, 40, 41, 42, 43] from by kernel_rfl]
      (try simp only [valsOf, e8, e9, e10, e11])
      (try (conv => whnf)); (repeat ((fail_if_success (with_reducible refine And.intro ?_ ?_)); (fail_if_success (with_reducible refine Exists.intro ?_ ?_)); (first | (apply Ob.of; (first | with_reducible assumption | with_reducible exact ex20 _ _ | with_reducible exact ex21 _ _ | with_reducible exact ex30 _ _ _ | with_reducible exact ex31 _ _ _ | with_reducible exact ex32 _ _ _ | rfl | (exact ald rfl rfl (by assumption) rfl) | (exact ald_agg rfl rfl rfl (by assumption) rfl)); (conv => whnf)) | (apply bIf.yes; (first | assumption | rfl); (conv => whnf)) | (apply bIf.no; (first | assumption | rfl); (conv => whnf)) | ((with_reducible refine Ob.load (by with_unfolding_all assumption) ?_); (conv => whnf)) | (apply Grows.mk; (first | exact Grow.refl _ | assumption); (conv => whnf)))))
      exact ⟨hg, rfl, fun _ _ _ _ h => h⟩
    | 13, hi, hoX, hT =>
      obtain rfl := Option.some.inj hoX
      have e8 := hT 8 (by kernel_rfl)
      (conv at e8 => whnf)
      have e9 := hT 9 (by kernel_rfl)
      (conv at e9 => whnf)
      have e10 := hT 10 (by kernel_rfl)
      (conv at e10 => whnf)
      have e11 := hT 11 (by kernel_rfl)
      (conv at e11 => whnf)
      have e12 := hT 12 (by kernel_rfl)
      (conv at e12 => whnf)
      rw [envOf_eq, show pairsOf _ _ 13 = [(40, 8), (41, 9), (42, 10), (43, 11), (44, 12)] from by kernel_rfl, show exOf _ _ 13 = [32, 33, 34, 35, 36, 37, 38, 39, 40, 41, 42, 43, 44] from by kernel_rfl]
      (try simp only [valsOf, e8, e9, e10, e11, e12])
      (try (conv => whnf)); (repeat ((fail_if_success (with_reducible refine And.intro ?_ ?_)); (fail_if_success (with_reducible refine Exists.intro ?_ ?_)); (first | (apply Ob.of; (first | with_reducible assumption | with_reducible exact ex20 _ _ | with_reducible exact ex21 _ _ | with_reducible exact ex30 _ _ _ | with_reducible exact ex31 _ _ _ | with_reducible exact ex32 _ _ _ | rfl | (exact ald rfl rfl (by assumption) rfl) | (exact ald_agg rfl rfl rfl (by assumption) rfl)); (conv => whnf)) | (apply bIf.yes; (first | assumption | rfl); (conv => whnf)) | (apply bIf.no; (first | assumption | rfl); (conv => whnf)) | ((with_reducible refine Ob.load (by with_unfolding_all assumption) ?_); (conv => whnf)) | (apply Grows.mk; (first | exact Grow.refl _ | assumption); (conv => whnf)))))
      exact ⟨hg, rfl, fun _ _ _ _ h => h⟩
    | 14, hi, hoX, hT =>
      obtain rfl := Option.some.inj hoX
      have e1 := hT 1 (by kernel_rfl)
      (conv at e1 => whnf)
      have e2 := hT 2 (by kernel_rfl)
      (conv at e2 => whnf)
      have e3 := hT 3 (by kernel_rfl)
      (conv at e3 => whnf)
      have e4 := hT 4 (by kernel_rfl)
      (conv at e4 => whnf)
      have e5 := hT 5 (by kernel_rfl)
      (conv at e5 => whnf)
      have e7 := hT 7 (by kernel_rfl)
      (conv at e7 => whnf)
      have e8 := hT 8 (by kernel_rfl)
      (conv at e8 => whnf)
      have e9 := hT 9 (by kernel_rfl)
      (conv at e9 => whnf)
      have e10 := hT 10 (by kernel_rfl)
      (conv at e10 => whnf)
      have e11 := hT 11 (by kernel_rfl)
      (conv at e11 => whnf)
      have e12 := hT 12 (by kernel_rfl)
      (conv at e12 => whnf)
      have e13 := hT 13 (by kernel_rfl)
      (conv at e13 => whnf)
      rw [envOf_eq, show pairsOf _ _ 14 = [(32, 0), (33, 1), (34, 2), (35, 3), (36, 4), (37, 5), (38, 6), (39, 7), (40, 8), (41, 9), (42, 10), (43, 11), (44, 12), (45, 13)] from by kernel_rfl, show exOf _ _ 14 = [32, 33, 34, 35, 36, 37, 38, 39, 40, 41, 42, 43, 44, 45] from by kernel_rfl]
      (try simp only [valsOf, e1, e2, e3, e4, e5, e8, e9, e10, e11, e12, e13])
      generalize V.getD 7 undef = v7 at e7 ⊢
      obtain ⟨sv9, K2, e91, e92, e93, e94⟩ := OwnR.appendL (n := X.length) rowI rowI e7.1 (intR.grow jm (gX.trans hg)) e7.2 hg.1 (by omega) (fun _ _ _ _ _ h => h)
      (try (conv => whnf)); (repeat ((fail_if_success (with_reducible refine And.intro ?_ ?_)); (fail_if_success (with_reducible refine Exists.intro ?_ ?_)); (first | (apply Ob.of; (first | with_reducible assumption | with_reducible exact ex20 _ _ | with_reducible exact ex21 _ _ | with_reducible exact ex30 _ _ _ | with_reducible exact ex31 _ _ _ | with_reducible exact ex32 _ _ _ | rfl | (exact ald rfl rfl (by assumption) rfl) | (exact ald_agg rfl rfl rfl (by assumption) rfl)); (conv => whnf)) | (apply bIf.yes; (first | assumption | rfl); (conv => whnf)) | (apply bIf.no; (first | assumption | rfl); (conv => whnf)) | ((with_reducible refine Ob.load (by with_unfolding_all assumption) ?_); (conv => whnf)) | (apply Grows.mk; (first | exact Grow.refl _ | assumption); (conv => whnf)))))
      refine Ob2.of e91 ?_
      (try (conv => whnf)); (repeat ((fail_if_success (with_reducible refine And.intro ?_ ?_)); (fail_if_success (with_reducible refine Exists.intro ?_ ?_)); (first | (apply Ob.of; (first | with_reducible assumption | with_reducible exact ex20 _ _ | with_reducible exact ex21 _ _ | with_reducible exact ex30 _ _ _ | with_reducible exact ex31 _ _ _ | with_reducible exact ex32 _ _ _ | rfl | (exact ald rfl rfl (by assumption) rfl) | (exact ald_agg rfl rfl rfl (by assumption) rfl)); (conv => whnf)) | (apply bIf.yes; (first | assumption | rfl); (conv => whnf)) | (apply bIf.no; (first | assumption | rfl); (conv => whnf)) | ((with_reducible refine Ob.load (by with_unfolding_all assumption) ?_); (conv => whnf)) | (apply Grows.mk; (first | exact Grow.refl _ | assumption); (conv => whnf)))))
      exact ⟨e93.grow hg (Nat.le_refl _), ⟨e92, e94⟩, (fun k1 F1 v1 hk1 h1 => match k1, hk1, h1 with | 0, hk1, _ => absurd hk1 (by rw [show keepD _ _ 14 0 = false from by kernel_rfl]; exact Bool.false_ne_true) | 1, _, h1 => h1 | 2, _, h1 => h1 | 3, _, h1 => h1 | 4, _, h1 => h1 | 5, _, h1 => h1 | 6, hk1, _ => absurd hk1 (by rw [show keepD _ _ 14 6 = false from by kernel_rfl]; exact Bool.false_ne_true) | 7, hk1, _ => absurd hk1 (by rw [show keepD _ _ 14 7 = false from by kernel_rfl]; exact Bool.false_ne_true) | 8, _, h1 => h1 | 9, _, h1 => h1 | 10, _, h1 => h1 | 11, _, h1 => h1 | 12, _, h1 => h1 | 13, _, h1 => h1 | 14, hk1, _ => absurd hk1 (by rw [show keepD _ _ 14 14 = false from by kernel_rfl]; exact Bool.false_ne_true) | k1 + 15, _, h1 => h1)⟩
  intro oX V K hV hoX hg hT
  have b1 := hg.hblk b1
  have b2 := hg.hblk b2
  have i3 := (i2 K (gX.trans hg)).1
  have i4 := jm8 K (gX.trans hg)
  obtain rfl := Option.some.inj hoX
  have e1 := hT 1 (by decide) (by decide)
  (conv at e1 => whnf)
  have e2 := hT 2 (by decide) (by decide)
  (conv at e2 => whnf)
  have e3 := hT 3 (by decide) (by decide)
  (conv at e3 => whnf)
  have e4 := hT 4 (by decide) (by decide)
  (conv at e4 => whnf)
  have e5 := hT 5 (by decide) (by decide)
  (conv at e5 => whnf)
  have e8 := hT 8 (by decide) (by decide)
  (conv at e8 => whnf)
  have e9 := hT 9 (by decide) (by decide)
  (conv at e9 => whnf)
  have e10 := hT 10 (by decide) (by decide)
  (conv at e10 => whnf)
  have e11 := hT 11 (by decide) (by decide)
  (conv at e11 => whnf)
  have e12 := hT 12 (by decide) (by decide)
  (conv at e12 => whnf)
  have e13 := hT 13 (by decide) (by decide)
  (conv at e13 => whnf)
  have e14 := hT 14 (by decide) (by decide)
  try rw [show pairsOf _ _ 14 = [(32, 0), (33, 1), (34, 2), (35, 3), (36, 4), (37, 5), (38, 6), (39, 7), (40, 8), (41, 9), (42, 10), (43, 11), (44, 12), (45, 13)] from by kernel_rfl] at e14
  (try simp only [valsOf] at e14)
  (conv at e14 => whnf)
  have es : ∀ v k, k ≠ 15 → (V.set 15 v).getD k undef = V.getD k undef := fun v k hk => by rw [getD_set (by omega), if_neg hk]
  have ec : ∀ v, (V.set 15 v).getD 15 undef = v := fun v => by rw [getD_set (by omega), if_pos rfl]
  rw [envOf_eq, show pairsOf _ _ 15 = [(32, 0), (33, 1), (34, 2), (35, 3), (36, 4), (37, 5), (38, 6), (39, 7), (40, 8), (41, 9), (42, 10), (43, 11), (44, 12), (45, 13), (46, 14)] from by kernel_rfl, show exOf _ _ 15 = [32, 33, 34, 35, 36, 37, 38, 39, 40, 41, 42, 43, 44, 45, 46] from by kernel_rfl]
  (try simp only [valsOf, e1, e2, e3, e4, e5, e8, e9, e10, e11, e12, e13])
  generalize V.getD 14 undef = lv at e14 ⊢
  obtain ⟨y1, y2, y3, rfl⟩ := e14.1.form
  (conv => whnf)
  (try dsimp only)
  rw [endOf_eq, show endsOf _ = [(32, 0), (33, 1), (34, 2), (35, 3), (36, 4), (37, 5), (38, 6), (39, 7), (40, 8), (41, 9), (42, 10), (43, 11), (44, 12), (45, 13), (46, 14), (6, 15)] from by kernel_rfl]
  simp only [valsOf, ec, es _ 0 (by decide), es _ 1 (by decide), es _ 2 (by decide), es _ 3 (by decide), es _ 4 (by decide), es _ 5 (by decide), es _ 6 (by decide), es _ 7 (by decide), es _ 8 (by decide), es _ 9 (by decide), es _ 10 (by decide), es _ 11 (by decide), es _ 12 (by decide), es _ 13 (by decide), es _ 14 (by decide)]
  have hLx : RegsP x1.regs (usesL o ++ o.map) := regs_app (by have := hRef.2.2.1; rwa [hrg] at this) (by have := hPc.2.2.2; rwa [hrg] at this)
  have hLl : (usesL o ++ o.map).length < 1000 := by rw [List.length_append]; omega
  obtain ⟨eO, _⟩ := e14
  have rlv := eO.rl
  clear eO hT es ec e1 e2 e3 e4 e5 e8 e9 e10 e11 e12 e13
  generalize Value.slice y1 y2 y3 = lv at rlv ⊢
  generalize usesL o ++ o.map = Lx at hLx hLl rlv
  have gK := gX.trans hg
  have l6 : alen Try.prog 38 lv K = some (.int .i64 Lx.length) := rlv.len rfl _
  (try (conv => whnf)); (repeat ((fail_if_success (with_reducible refine And.intro ?_ ?_)); (fail_if_success (with_reducible refine Exists.intro ?_ ?_)); (first | (apply Ob.of; (first | with_reducible assumption | with_reducible exact ex20 _ _ | with_reducible exact ex21 _ _ | with_reducible exact ex30 _ _ _ | with_reducible exact ex31 _ _ _ | with_reducible exact ex32 _ _ _ | rfl | (exact ald rfl rfl (by assumption) rfl) | (exact ald_agg rfl rfl rfl (by assumption) rfl)); (conv => whnf)) | (apply bIf.yes; (first | assumption | rfl); (conv => whnf)) | (apply bIf.no; (first | assumption | rfl); (conv => whnf)) | ((with_reducible refine Ob.load (by with_unfolding_all assumption) ?_); (conv => whnf)) | (apply Grows.mk; (first | exact Grow.refl _ | assumption); (conv => whnf)))))
  refine SW.loop (α := Nat) (fun j => [(2, .pointer (some ⟨q1, 0, none⟩)), (3, .pointer (some ⟨q2, 0, none⟩)), (5, .int .i64 (m : Int)), (6, lv), (7, .int .i64 (j : Int))]) (fun j Y => j ≤ Lx.length ∧ Y = K) (fun j => Lx.length - j) ⟨0, ⟨rfl, rfl, rfl, rfl, rfl, trivial⟩, by omega, rfl⟩ ?_
  rintro j Y ⟨hj, e⟩
  subst Y
  refine bC_sound _ _ _ _ ?_
  by_cases hjl : j < Lx.length
  · have d2 : decide ((j : Int) < (Lx.length : Int)) = true := decide_eq_true (by omega)
    obtain ⟨z, hz⟩ := get_lt hjl
    obtain ⟨q, k1, k2⟩ := ld_int rlv hz
    have k3 := k2 K (.refl _)
    have hzr := hLx z (List.mem_of_getElem? hz)
    have e1 : decide (z < 0) = false := decide_eq_false (by omega)
    have e2 : decide (z ≥ x1.regs) = false := decide_eq_false (by omega)
    (try (conv => whnf)); (repeat ((fail_if_success (with_reducible refine And.intro ?_ ?_)); (fail_if_success (with_reducible refine Exists.intro ?_ ?_)); (first | (apply Ob.of; (first | with_reducible assumption | with_reducible exact ex20 _ _ | with_reducible exact ex21 _ _ | with_reducible exact ex30 _ _ _ | with_reducible exact ex31 _ _ _ | with_reducible exact ex32 _ _ _ | rfl | (exact ald rfl rfl (by assumption) rfl) | (exact ald_agg rfl rfl rfl (by assumption) rfl)); (conv => whnf)) | (apply bIf.yes; (first | assumption | rfl); (conv => whnf)) | (apply bIf.no; (first | assumption | rfl); (conv => whnf)) | ((with_reducible refine Ob.load (by with_unfolding_all assumption) ?_); (conv => whnf)) | (apply Grows.mk; (first | exact Grow.refl _ | assumption); (conv => whnf)))))
    apply SW.drawG [(0, [], [54], false), (1, [], [53], false), (2, [(53, 0), (54, 1)], [53, 54], false), (3, [(53, 0), (54, 1), (55, 2)], [53, 54, 55], false), (4, [(53, 0), (54, 1), (55, 2), (56, 3)], [53, 54, 55, 56], false), (5, [(53, 0), (54, 1), (55, 2), (56, 3), (57, 4)], [53, 54, 55, 56, 57], false), (6, [(53, 0), (54, 1), (55, 2), (56, 3), (57, 4), (58, 5)], [53, 54, 55, 56, 57, 58, 60, 63, 64], false), (7, [(53, 0), (54, 1), (55, 2), (56, 3), (57, 4), (58, 5)], [53, 54, 55, 56, 57, 58, 59, 63, 64], false), (8, [(53, 0), (54, 1), (55, 2), (56, 3), (57, 4), (58, 5), (59, 6), (60, 7)], [53, 54, 55, 56, 57, 58, 59, 60, 63, 64], false), (9, [(53, 0), (54, 1), (55, 2), (56, 3), (57, 4), (58, 5), (59, 6), (60, 7), (61, 8)], [53, 54, 55, 56, 57, 58, 59, 60, 61, 63, 64], false), (10, [(53, 0), (54, 1), (55, 2), (56, 3), (57, 4), (58, 5)], [53, 54, 55, 56, 57, 58, 59, 60, 61, 62], false), (11, [(53, 0), (54, 1), (55, 2), (56, 3), (57, 4), (58, 5), (63, 10)], [53, 54, 55, 56, 57, 58, 59, 60, 61, 62, 63], false), (12, [(53, 0), (54, 1), (55, 2), (56, 3), (57, 4), (58, 5), (59, 6), (60, 7), (61, 8), (62, 9), (63, 10), (64, 11)], [53, 54, 55, 56, 57, 58, 59, 60, 61, 62, 63, 64], false), (13, [(53, 0), (54, 1), (55, 2), (56, 3), (57, 4), (58, 5), (59, 6), (60, 7), (61, 8), (62, 9), (63, 10), (64, 11), (65, 12)], [53, 54, 55, 56, 57, 58, 59, 60, 61, 62, 63, 64, 65], false)]
      [(53, 0), (54, 1), (55, 2), (56, 3), (57, 4), (58, 5), (59, 6), (60, 7), (61, 8), (62, 9), (63, 10), (64, 11), (65, 12), (66, 13)]
      [(2, _), (3, _), (5, _), (6, _), (7, _)] rfl (by kernel_rfl)
    case hF => exact ⟨rfl, rfl, rfl, rfl, rfl, trivial⟩
    (try (conv => whnf)); (repeat ((fail_if_success (with_reducible refine And.intro ?_ ?_)); (fail_if_success (with_reducible refine Exists.intro ?_ ?_)); (first | (apply Ob.of; (first | with_reducible assumption | with_reducible exact ex20 _ _ | with_reducible exact ex21 _ _ | with_reducible exact ex30 _ _ _ | with_reducible exact ex31 _ _ _ | with_reducible exact ex32 _ _ _ | rfl | (exact ald rfl rfl (by assumption) rfl) | (exact ald_agg rfl rfl rfl (by assumption) rfl)); (conv => whnf)) | (apply bIf.yes; (first | assumption | rfl); (conv => whnf)) | (apply bIf.no; (first | assumption | rfl); (conv => whnf)) | ((with_reducible refine Ob.load (by with_unfolding_all assumption) ?_); (conv => whnf)) | (apply Grows.mk; (first | exact Grow.refl _ | assumption); (conv => whnf)))))
    exact ⟨j + 1, ⟨rfl, rfl, rfl, rfl, congrArg (fun z => some (Value.int .i64 z)) (w_succ (by omega)), trivial⟩, ⟨hjl, rfl⟩, by show _ - (j + 1) < _ - j; omega⟩
  have d2 : decide ((j : Int) < (Lx.length : Int)) = false := decide_eq_false (by omega)
  have i3 := (i2 K gK).1
  (try (conv => whnf)); (repeat ((fail_if_success (with_reducible refine And.intro ?_ ?_)); (fail_if_success (with_reducible refine Exists.intro ?_ ?_)); (first | (apply Ob.of; (first | with_reducible assumption | with_reducible exact ex20 _ _ | with_reducible exact ex21 _ _ | with_reducible exact ex30 _ _ _ | with_reducible exact ex31 _ _ _ | with_reducible exact ex32 _ _ _ | rfl | (exact ald rfl rfl (by assumption) rfl) | (exact ald_agg rfl rfl rfl (by assumption) rfl)); (conv => whnf)) | (apply bIf.yes; (first | assumption | rfl); (conv => whnf)) | (apply bIf.no; (first | assumption | rfl); (conv => whnf)) | ((with_reducible refine Ob.load (by with_unfolding_all assumption) ?_); (conv => whnf)) | (apply Grows.mk; (first | exact Grow.refl _ | assumption); (conv => whnf)))))
  apply SW.drawG [(0, [], [69, 73, 74], false), (1, [(67, 0)], [67, 69, 73, 74], false), (2, [], [67, 68, 73, 74], false), (3, [(67, 0), (68, 1), (69, 2)], [67, 68, 69, 73, 74], false), (4, [(67, 0), (68, 1), (69, 2), (70, 3)], [67, 68, 69, 70, 73, 74], false), (6, [], [67, 68, 69, 70, 71, 72], false), (7, [(73, 6)], [67, 68, 69, 70, 71, 72, 73], false), (5, [(67, 0), (68, 1), (69, 2), (70, 3), (71, 4)], [67, 68, 69, 70, 71, 73, 74], true), (8, [(67, 0), (68, 1), (69, 2), (70, 3), (71, 4), (72, 5), (73, 6), (74, 7)], [67, 68, 69, 70, 71, 72, 73, 74], false)]
    [(67, 0), (68, 1), (69, 2), (70, 3), (71, 4), (72, 5), (73, 6), (74, 7), (75, 8)]
    [(2, _), (3, _), (5, _)] rfl (by kernel_rfl)
  case hF => exact ⟨rfl, rfl, rfl, trivial⟩
  (try (conv => whnf)); (repeat ((fail_if_success (with_reducible refine And.intro ?_ ?_)); (fail_if_success (with_reducible refine Exists.intro ?_ ?_)); (first | (apply Ob.of; (first | with_reducible assumption | with_reducible exact ex20 _ _ | with_reducible exact ex21 _ _ | with_reducible exact ex30 _ _ _ | with_reducible exact ex31 _ _ _ | with_reducible exact ex32 _ _ _ | rfl | (exact ald rfl rfl (by assumption) rfl) | (exact ald_agg rfl rfl rfl (by assumption) rfl)); (conv => whnf)) | (apply bIf.yes; (first | assumption | rfl); (conv => whnf)) | (apply bIf.no; (first | assumption | rfl); (conv => whnf)) | ((with_reducible refine Ob.load (by with_unfolding_all assumption) ?_); (conv => whnf)) | (apply Grows.mk; (first | exact Grow.refl _ | assumption); (conv => whnf)))))
  refine (irDef_ax K o rv cv mv).mono ?_
  rintro _ X5 ⟨rfl, e⟩
  subst X5
  have hDf : decide (defL o ≥ x1.regs) = false := decide_eq_false (by have := hRef.2.2.2.1; rw [hrg] at this; omega)
  (try (conv => whnf)); (repeat ((fail_if_success (with_reducible refine And.intro ?_ ?_)); (fail_if_success (with_reducible refine Exists.intro ?_ ?_)); (first | (apply Ob.of; (first | with_reducible assumption | with_reducible exact ex20 _ _ | with_reducible exact ex21 _ _ | with_reducible exact ex30 _ _ _ | with_reducible exact ex31 _ _ _ | with_reducible exact ex32 _ _ _ | rfl | (exact ald rfl rfl (by assumption) rfl) | (exact ald_agg rfl rfl rfl (by assumption) rfl)); (conv => whnf)) | (apply bIf.yes; (first | assumption | rfl); (conv => whnf)) | (apply bIf.no; (first | assumption | rfl); (conv => whnf)) | ((with_reducible refine Ob.load (by with_unfolding_all assumption) ?_); (conv => whnf)) | (apply Grows.mk; (first | exact Grow.refl _ | assumption); (conv => whnf)))))
  refine (irTargets_ax (hbI.grow gK) sm.ops ho).mono ?_
  rintro u X6 ⟨hu, gu⟩
  have b1 := gu.hblk b1
  have b2 := gu.hblk b2
  have gX6 := gK.trans gu
  have l7 : alen Try.prog 38 u X6 = some (.int .i64 (tgtL o m).length) := hu.len rfl _
  have l8 : alen Try.prog 27 ov X6 = some (.int .i64 x1.ops.length) := hbI.ops.len rfl _
  have htl : (tgtL o m).length ≤ 2 := by unfold tgtL; split; simp; split; simp; split <;> simp
  (try (conv => whnf)); (repeat ((fail_if_success (with_reducible refine And.intro ?_ ?_)); (fail_if_success (with_reducible refine Exists.intro ?_ ?_)); (first | (apply Ob.of; (first | with_reducible assumption | with_reducible exact ex20 _ _ | with_reducible exact ex21 _ _ | with_reducible exact ex30 _ _ _ | with_reducible exact ex31 _ _ _ | with_reducible exact ex32 _ _ _ | rfl | (exact ald rfl rfl (by assumption) rfl) | (exact ald_agg rfl rfl rfl (by assumption) rfl)); (conv => whnf)) | (apply bIf.yes; (first | assumption | rfl); (conv => whnf)) | (apply bIf.no; (first | assumption | rfl); (conv => whnf)) | ((with_reducible refine Ob.load (by with_unfolding_all assumption) ?_); (conv => whnf)) | (apply Grows.mk; (first | exact Grow.refl _ | assumption); (conv => whnf)))))
  refine SW.loop (α := Nat) (fun j => [(2, .pointer (some ⟨q1, 0, none⟩)), (3, .pointer (some ⟨q2, 0, none⟩)), (5, .int .i64 (m : Int)), (8, u), (9, .int .i64 (j : Int))]) (fun j Y => j ≤ (tgtL o m).length ∧ Y = X6) (fun j => (tgtL o m).length - j) ⟨0, ⟨rfl, rfl, rfl, rfl, rfl, trivial⟩, by omega, rfl⟩ ?_
  clear d2 hjl hj j
  rintro j Y ⟨hj, e⟩
  subst Y
  refine bC_sound _ _ _ _ ?_
  by_cases hjl : j < (tgtL o m).length
  · have d2 : decide ((j : Int) < ((tgtL o m).length : Int)) = true := decide_eq_true (by omega)
    obtain ⟨z, hz⟩ := get_lt hjl
    obtain ⟨q, k1, k2⟩ := ld_int hu hz
    have k3 := k2 X6 (.refl _)
    obtain ⟨z0, z1, z2⟩ := tgt_safe ho hoP hLast (List.mem_of_getElem? hz)
    have e1 : decide (z < 0) = false := decide_eq_false (by omega)
    have e2 : decide (z ≥ (x1.ops.length : Int)) = false := decide_eq_false (by omega)
    obtain ⟨jz, hjz⟩ : ∃ jz : Nat, z = (jz : Int) := ⟨z.toNat, by omega⟩
    obtain ⟨y, hy⟩ := get_lt (L := x1.ops) (m := jz) (by omega)
    obtain ⟨bq, _, _, _, n1, _, _, _, n2⟩ := ldx_op hbI.ops hy
    have n3 := (n2 X6 gX6).2
    rw [← hjz] at n1
    have hyk : y.kind = kindAt x1.ops z := by
      unfold kindAt
      rw [hjz, Int.toNat_natCast, List.getD_eq_getElem?_getD, hy]
      rfl
    rw [hyk] at n3
    (try (conv => whnf)); (repeat ((fail_if_success (with_reducible refine And.intro ?_ ?_)); (fail_if_success (with_reducible refine Exists.intro ?_ ?_)); (first | (apply Ob.of; (first | with_reducible assumption | with_reducible exact ex20 _ _ | with_reducible exact ex21 _ _ | with_reducible exact ex30 _ _ _ | with_reducible exact ex31 _ _ _ | with_reducible exact ex32 _ _ _ | rfl | (exact ald rfl rfl (by assumption) rfl) | (exact ald_agg rfl rfl rfl (by assumption) rfl)); (conv => whnf)) | (apply bIf.yes; (first | assumption | rfl); (conv => whnf)) | (apply bIf.no; (first | assumption | rfl); (conv => whnf)) | ((with_reducible refine Ob.load (by with_unfolding_all assumption) ?_); (conv => whnf)) | (apply Grows.mk; (first | exact Grow.refl _ | assumption); (conv => whnf)))))
    apply SW.drawG [(0, [], [86], false), (1, [], [85], false), (2, [(85, 0), (86, 1)], [85, 86], false), (3, [(85, 0), (86, 1), (87, 2)], [85, 86, 87], false), (4, [(85, 0), (86, 1), (87, 2), (88, 3)], [85, 86, 87, 88], false), (5, [(85, 0), (86, 1), (87, 2), (88, 3), (89, 4)], [85, 86, 87, 88, 89], false), (6, [(85, 0), (86, 1), (87, 2), (88, 3), (89, 4), (90, 5)], [85, 86, 87, 88, 89, 90, 92, 95, 96, 97], false), (7, [(85, 0), (86, 1), (87, 2), (88, 3), (89, 4), (90, 5)], [85, 86, 87, 88, 89, 90, 91, 95, 96, 97], false), (8, [(85, 0), (86, 1), (87, 2), (88, 3), (89, 4), (90, 5), (91, 6), (92, 7)], [85, 86, 87, 88, 89, 90, 91, 92, 95, 96, 97], false), (9, [(85, 0), (86, 1), (87, 2), (88, 3), (89, 4), (90, 5), (91, 6), (92, 7), (93, 8)], [85, 86, 87, 88, 89, 90, 91, 92, 93, 95, 96, 97], false), (10, [(85, 0), (86, 1), (87, 2), (88, 3), (89, 4), (90, 5)], [85, 86, 87, 88, 89, 90, 91, 92, 93, 94], false), (11, [(85, 0), (86, 1), (87, 2), (88, 3), (89, 4), (90, 5), (95, 10)], [85, 86, 87, 88, 89, 90, 91, 92, 93, 94, 95], false), (12, [(85, 0), (86, 1), (87, 2), (88, 3), (89, 4), (90, 5), (95, 10), (96, 11)], [85, 86, 87, 88, 89, 90, 91, 92, 93, 94, 95, 96], false), (13, [(85, 0), (86, 1), (87, 2), (88, 3), (89, 4), (90, 5), (91, 6), (92, 7), (93, 8), (94, 9), (95, 10), (96, 11), (97, 12)], [85, 86, 87, 88, 89, 90, 91, 92, 93, 94, 95, 96, 97], false), (14, [(85, 0), (86, 1), (87, 2), (88, 3), (89, 4), (90, 5), (91, 6), (92, 7), (93, 8), (94, 9), (95, 10), (96, 11), (97, 12), (98, 13)], [85, 86, 87, 88, 89, 90, 91, 92, 93, 94, 95, 96, 97, 98], false), (15, [(85, 0), (86, 1), (87, 2), (88, 3), (89, 4), (90, 5), (91, 6), (92, 7), (93, 8), (94, 9), (95, 10), (96, 11), (97, 12), (98, 13), (99, 14)], [85, 86, 87, 88, 89, 90, 91, 92, 93, 94, 95, 96, 97, 98, 99], false), (16, [(85, 0), (86, 1), (87, 2), (88, 3), (89, 4), (90, 5), (91, 6), (92, 7), (93, 8), (94, 9), (95, 10), (96, 11), (97, 12), (98, 13), (99, 14), (100, 15)], [85, 86, 87, 88, 89, 90, 91, 92, 93, 94, 95, 96, 97, 98, 99, 100, 102, 105], false), (17, [(85, 0), (86, 1), (87, 2), (88, 3), (89, 4), (90, 5), (91, 6), (92, 7), (93, 8), (94, 9), (95, 10), (96, 11), (97, 12), (98, 13), (99, 14), (100, 15)], [85, 86, 87, 88, 89, 90, 91, 92, 93, 94, 95, 96, 97, 98, 99, 100, 101, 105], false), (18, [(85, 0), (86, 1), (87, 2), (88, 3), (89, 4), (90, 5), (91, 6), (92, 7), (93, 8), (94, 9), (95, 10), (96, 11), (97, 12), (98, 13), (99, 14), (100, 15), (101, 16), (102, 17)], [85, 86, 87, 88, 89, 90, 91, 92, 93, 94, 95, 96, 97, 98, 99, 100, 101, 102, 105], false), (19, [(85, 0), (86, 1), (87, 2), (88, 3), (89, 4), (90, 5), (91, 6), (92, 7), (93, 8), (94, 9), (95, 10), (96, 11), (97, 12), (98, 13), (99, 14), (100, 15), (101, 16), (102, 17), (103, 18)], [85, 86, 87, 88, 89, 90, 91, 92, 93, 94, 95, 96, 97, 98, 99, 100, 101, 102, 103, 105], false), (20, [(85, 0), (86, 1), (87, 2), (88, 3), (89, 4), (90, 5), (91, 6), (92, 7), (93, 8), (94, 9), (95, 10), (96, 11), (97, 12), (98, 13), (99, 14), (100, 15)], [85, 86, 87, 88, 89, 90, 91, 92, 93, 94, 95, 96, 97, 98, 99, 100, 101, 102, 103, 104], false), (21, [(85, 0), (86, 1), (87, 2), (88, 3), (89, 4), (90, 5), (91, 6), (92, 7), (93, 8), (94, 9), (95, 10), (96, 11), (97, 12), (98, 13), (99, 14), (100, 15), (101, 16), (102, 17), (103, 18), (104, 19), (105, 20)], [85, 86, 87, 88, 89, 90, 91, 92, 93, 94, 95, 96, 97, 98, 99, 100, 101, 102, 103, 104, 105], false), (22, [(85, 0), (86, 1), (87, 2), (88, 3), (89, 4), (90, 5), (91, 6), (92, 7), (93, 8), (94, 9), (95, 10), (96, 11), (97, 12), (98, 13), (99, 14), (100, 15), (101, 16), (102, 17), (103, 18), (104, 19), (105, 20), (106, 21)], [85, 86, 87, 88, 89, 90, 91, 92, 93, 94, 95, 96, 97, 98, 99, 100, 101, 102, 103, 104, 105, 106], false), (23, [(85, 0), (86, 1), (87, 2), (88, 3), (89, 4), (90, 5), (91, 6), (92, 7), (93, 8), (94, 9), (95, 10), (96, 11), (97, 12), (98, 13), (99, 14), (100, 15), (101, 16), (102, 17), (103, 18), (104, 19), (105, 20), (106, 21), (107, 22)], [85, 86, 87, 88, 89, 90, 91, 92, 93, 94, 95, 96, 97, 98, 99, 100, 101, 102, 103, 104, 105, 106, 107, 110, 111, 112, 113], false), (24, [(85, 0), (86, 1), (87, 2), (88, 3), (89, 4), (90, 5), (91, 6), (92, 7), (93, 8), (94, 9), (95, 10), (96, 11), (97, 12), (98, 13), (99, 14), (100, 15), (101, 16), (102, 17), (103, 18), (104, 19), (105, 20), (106, 21), (107, 22), (108, 23)], [85, 86, 87, 88, 89, 90, 91, 92, 93, 94, 95, 96, 97, 98, 99, 100, 101, 102, 103, 104, 105, 106, 107, 108, 110, 111, 112, 113], false), (25, [(85, 0), (86, 1), (87, 2), (88, 3), (89, 4), (90, 5), (91, 6), (92, 7), (93, 8), (94, 9), (95, 10), (96, 11), (97, 12), (98, 13), (99, 14), (100, 15), (101, 16), (102, 17), (103, 18), (104, 19), (105, 20), (106, 21), (107, 22)], [85, 86, 87, 88, 89, 90, 91, 92, 93, 94, 95, 96, 97, 98, 99, 100, 101, 102, 103, 104, 105, 106, 107, 108, 109, 111], false), (26, [(85, 0), (86, 1), (87, 2), (88, 3), (89, 4), (90, 5), (91, 6), (92, 7), (93, 8), (94, 9), (95, 10), (96, 11), (97, 12), (98, 13), (99, 14), (100, 15), (101, 16), (102, 17), (103, 18), (104, 19), (105, 20), (106, 21), (107, 22)], [85, 86, 87, 88, 89, 90, 91, 92, 93, 94, 95, 96, 97, 98, 99, 100, 101, 102, 103, 104, 105, 106, 107, 108, 109, 110], false), (27, [(85, 0), (86, 1), (87, 2), (88, 3), (89, 4), (90, 5), (91, 6), (92, 7), (93, 8), (94, 9), (95, 10), (96, 11), (97, 12), (98, 13), (99, 14), (100, 15), (101, 16), (102, 17), (103, 18), (104, 19), (105, 20), (106, 21), (107, 22), (110, 25), (111, 26)], [85, 86, 87, 88, 89, 90, 91, 92, 93, 94, 95, 96, 97, 98, 99, 100, 101, 102, 103, 104, 105, 106, 107, 108, 109, 110, 111], false), (28, [(85, 0), (86, 1), (87, 2), (88, 3), (89, 4), (90, 5), (91, 6), (92, 7), (93, 8), (94, 9), (95, 10), (96, 11), (97, 12), (98, 13), (99, 14), (100, 15), (101, 16), (102, 17), (103, 18), (104, 19), (105, 20), (106, 21), (107, 22), (110, 25), (111, 26), (112, 27)], [85, 86, 87, 88, 89, 90, 91, 92, 93, 94, 95, 96, 97, 98, 99, 100, 101, 102, 103, 104, 105, 106, 107, 108, 109, 110, 111, 112], false), (29, [(85, 0), (86, 1), (87, 2), (88, 3), (89, 4), (90, 5), (91, 6), (92, 7), (93, 8), (94, 9), (95, 10), (96, 11), (97, 12), (98, 13), (99, 14), (100, 15), (101, 16), (102, 17), (103, 18), (104, 19), (105, 20), (106, 21), (107, 22), (108, 23), (109, 24), (110, 25), (111, 26), (112, 27), (113, 28)], [85, 86, 87, 88, 89, 90, 91, 92, 93, 94, 95, 96, 97, 98, 99, 100, 101, 102, 103, 104, 105, 106, 107, 108, 109, 110, 111, 112, 113], false), (30, [(85, 0), (86, 1), (87, 2), (88, 3), (89, 4), (90, 5), (91, 6), (92, 7), (93, 8), (94, 9), (95, 10), (96, 11), (97, 12), (98, 13), (99, 14), (100, 15), (101, 16), (102, 17), (103, 18), (104, 19), (105, 20), (106, 21), (107, 22), (108, 23), (109, 24), (110, 25), (111, 26), (112, 27), (113, 28), (114, 29)], [85, 86, 87, 88, 89, 90, 91, 92, 93, 94, 95, 96, 97, 98, 99, 100, 101, 102, 103, 104, 105, 106, 107, 108, 109, 110, 111, 112, 113, 114], false), (31, [(85, 0), (86, 1), (87, 2), (88, 3), (89, 4), (90, 5), (91, 6), (92, 7), (93, 8), (94, 9), (95, 10), (96, 11), (97, 12), (98, 13), (99, 14), (100, 15), (101, 16), (102, 17), (103, 18), (104, 19), (105, 20), (106, 21), (107, 22), (108, 23), (109, 24), (110, 25), (111, 26), (112, 27), (113, 28), (114, 29), (115, 30)], [85, 86, 87, 88, 89, 90, 91, 92, 93, 94, 95, 96, 97, 98, 99, 100, 101, 102, 103, 104, 105, 106, 107, 108, 109, 110, 111, 112, 113, 114, 115], false), (32, [(85, 0), (86, 1), (87, 2), (88, 3), (89, 4), (90, 5), (91, 6), (92, 7), (93, 8), (94, 9), (95, 10), (96, 11), (97, 12), (98, 13), (99, 14), (100, 15), (101, 16), (102, 17), (103, 18), (104, 19), (105, 20), (106, 21), (107, 22), (108, 23), (109, 24), (110, 25), (111, 26), (112, 27), (113, 28), (114, 29), (115, 30), (116, 31)], [85, 86, 87, 88, 89, 90, 91, 92, 93, 94, 95, 96, 97, 98, 99, 100, 101, 102, 103, 104, 105, 106, 107, 108, 109, 110, 111, 112, 113, 114, 115, 116], false), (33, [(85, 0), (86, 1), (87, 2), (88, 3), (89, 4), (90, 5), (91, 6), (92, 7), (93, 8), (94, 9), (95, 10), (96, 11), (97, 12), (98, 13), (99, 14), (100, 15), (101, 16), (102, 17), (103, 18), (104, 19), (105, 20), (106, 21), (107, 22), (108, 23), (109, 24), (110, 25), (111, 26), (112, 27), (113, 28), (114, 29), (115, 30), (116, 31), (117, 32)], [85, 86, 87, 88, 89, 90, 91, 92, 93, 94, 95, 96, 97, 98, 99, 100, 101, 102, 103, 104, 105, 106, 107, 108, 109, 110, 111, 112, 113, 114, 115, 116, 117], false), (34, [(85, 0), (86, 1), (87, 2), (88, 3), (89, 4), (90, 5), (91, 6), (92, 7), (93, 8), (94, 9), (95, 10), (96, 11), (97, 12), (98, 13), (99, 14), (100, 15), (101, 16), (102, 17), (103, 18), (104, 19), (105, 20), (106, 21), (107, 22), (108, 23), (109, 24), (110, 25), (111, 26), (112, 27), (113, 28), (114, 29), (115, 30), (116, 31), (117, 32), (118, 33)], [85, 86, 87, 88, 89, 90, 91, 92, 93, 94, 95, 96, 97, 98, 99, 100, 101, 102, 103, 104, 105, 106, 107, 108, 109, 110, 111, 112, 113, 114, 115, 116, 117, 118], false)]
      [(85, 0), (86, 1), (87, 2), (88, 3), (89, 4), (90, 5), (91, 6), (92, 7), (93, 8), (94, 9), (95, 10), (96, 11), (97, 12), (98, 13), (99, 14), (100, 15), (101, 16), (102, 17), (103, 18), (104, 19), (105, 20), (106, 21), (107, 22), (108, 23), (109, 24), (110, 25), (111, 26), (112, 27), (113, 28), (114, 29), (115, 30), (116, 31), (117, 32), (118, 33), (119, 34)]
      [(2, _), (3, _), (5, _), (8, _), (9, _)] rfl (by kernel_rfl)
    case hF => exact ⟨rfl, rfl, rfl, rfl, rfl, trivial⟩
    (try (conv => whnf)); (repeat' ((fail_if_success (with_reducible refine And.intro ?_ ?_)); (fail_if_success (with_reducible refine Exists.intro ?_ ?_)); (first | (first | (apply Ob.of; (first | with_reducible assumption | with_reducible exact ex20 _ _ | with_reducible exact ex21 _ _ | with_reducible exact ex30 _ _ _ | with_reducible exact ex31 _ _ _ | with_reducible exact ex32 _ _ _ | rfl | (exact ald rfl rfl (by assumption) rfl) | (exact ald_agg rfl rfl rfl (by assumption) rfl)); (conv => whnf)) | (apply bIf.yes; (first | assumption | rfl); (conv => whnf)) | (apply bIf.no; (first | assumption | rfl); (conv => whnf)) | ((with_reducible refine Ob.load (by with_unfolding_all assumption) ?_); (conv => whnf)) | (apply Grows.mk; (first | exact Grow.refl _ | assumption); (conv => whnf))) | (apply bIf.of <;> intro hc <;> (conv => whnf)))))
    all_goals first
      | exact ⟨j + 1, ⟨rfl, rfl, rfl, rfl, congrArg (fun z => some (Value.int .i64 z)) (w_succ (by omega)), trivial⟩, ⟨hjl, rfl⟩, by show _ - (j + 1) < _ - j; omega⟩
      | (exfalso
         clear k1 k2 k3 n1 n2 n3 l7 l8 b1 b2 i1 i2 i3 jr jc jm jm8 hu d2
         ((try (simp only [ba_ne_t, ba_ne_f, ba_eq_t, ba_eq_f, bne_iff_ne, bne_eq_false_iff_eq, decide_eq_true_eq, decide_eq_false_iff_not, beq_iff_eq, beq_eq_false_iff_ne, ne_eq, Bool.not_eq_true, Bool.not_eq_false, Bool.not_eq_true', Bool.not_eq_false'] at *)); (try simp only [Bool.false_eq_true, false_iff, true_iff, Classical.not_not, Bool.not_false, Bool.not_true] at *))
         omega)
  · have d2 : decide ((j : Int) < ((tgtL o m).length : Int)) = false := decide_eq_false (by omega)
    (try (conv => whnf)); (repeat ((fail_if_success (with_reducible refine And.intro ?_ ?_)); (fail_if_success (with_reducible refine Exists.intro ?_ ?_)); (first | (apply Ob.of; (first | with_reducible assumption | with_reducible exact ex20 _ _ | with_reducible exact ex21 _ _ | with_reducible exact ex30 _ _ _ | with_reducible exact ex31 _ _ _ | with_reducible exact ex32 _ _ _ | rfl | (exact ald rfl rfl (by assumption) rfl) | (exact ald_agg rfl rfl rfl (by assumption) rfl)); (conv => whnf)) | (apply bIf.yes; (first | assumption | rfl); (conv => whnf)) | (apply bIf.no; (first | assumption | rfl); (conv => whnf)) | ((with_reducible refine Ob.load (by with_unfolding_all assumption) ?_); (conv => whnf)) | (apply Grows.mk; (first | exact Grow.refl _ | assumption); (conv => whnf)))))
    exact ⟨m + 1, ⟨rfl, rfl, congrArg (fun z => some (Value.int .i64 z)) (w_succ (by omega)), trivial⟩, ⟨hml, gX.trans (hg.trans gu)⟩, by show _ - (m + 1) < _ - m; omega⟩
theorem IrSafe_ax (H : Heap) (c0 : List Value) (x0 : (Int) × (List (ByteArray)) × (List ((Int) × (Int) × (Int) × (Int) × (List ((Int) × (Int) × (Int)))))) (c1 : List Value) (x1 : (Int) × (Int) × (List ((Int) × (Int) × (ByteArray))) × (List ((Int) × (Int) × (Int) × (Int) × (Int) × (List (Int)) × (List ((Int) × (Int) × (Int))) × (Int) × (List (Int)))) × (List ((Int) × (Int)))) (hn : NoOwn H) (R0 : ty25.R H c0 x0) (o0 : ty25.ok x0) (R1 : ty30.R H c1 x1) (o1 : ty30.ok x1) :
    AX Try.prog 4 #[argS c0, argS c1] H fun v _ => v = .bool true := by
  obtain ⟨ps, cs, e0, hp, hcs⟩ := prog_of R0
  obtain ⟨kv, ov, dv, e1, hbI⟩ := body_of R1
  rw [e0, e1]
  exact irSafeL_ax hp hcs hbI o1
end Go.Proofs.Ytfobbmllbbckkaa
