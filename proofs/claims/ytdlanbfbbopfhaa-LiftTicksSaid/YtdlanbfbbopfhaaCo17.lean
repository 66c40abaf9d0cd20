/- The document of package code: may a code be? -/
import Derived.Test.YtdlanbfbbopfhaaCo16
set_option linter.unusedVariables false
set_option linter.unusedSimpArgs false
set_option maxRecDepth 20000
set_option maxHeartbeats 8000000
namespace Go.Proofs.Ytdlanbfbbopfhaa
open Go Ax
theorem rright_ax {H : Heap} {p : ProgT} {ps cs : Value} (hp : RL 1 strR H ps p.2.1) (hcs : RL 5 codeR H cs p.2.2) {f : Nat} {c : CodeT} (hf : p.2.2[f]? = some c) (k1 : p.2.1.length < 4294967296) (k2 : p.2.2.length < 4294967296) (k4 : 0 ≤ p.1 ∧ p.1 ≤ 24) :
    AX Try.prog 24 #[progV p ps cs, .int .i64 (f : Int)] H (fun v H' => (∃ b, v = .bool b ∧ (b = true ↔ RightP p f c)) ∧ H' = H) := by
  refine AX.quiet ?_
  suffices hh : AX Try.prog 24 #[progV p ps cs, .int .i64 (f : Int)] H (fun v H' => (∃ b, v = .bool b ∧ (b = true ↔ RightP p f c)) ∧ Grow H H') from hh.mono fun v _ ⟨⟨b, e, k⟩, g⟩ => ⟨e ▸ plain_bool _, ⟨b, e, k⟩, g⟩
  refine AX.body (n := 161) (rs := [.tmp 4]) Try.func24 rfl (by decide) rfl rfl (bC_sound _ _ _ _ ?_)
  (conv => whnf)
  refine Ob2.box rfl fun q1 H1 hq1 a1 g1 => ?_
  have b1 := hblk_of a1
  obtain ⟨q, sv, i1, hs, i2⟩ := ld_code hcs hf
  have i3 := i2 H1 g1
  (try (conv => whnf)); (repeat ((fail_if_success (with_reducible refine And.intro ?_ ?_)); (fail_if_success (with_reducible refine Exists.intro ?_ ?_)); (first | (apply Ob.of; (first | with_reducible assumption | with_reducible exact ex20 _ _ | with_reducible exact ex21 _ _ | with_reducible exact ex30 _ _ _ | with_reducible exact ex31 _ _ _ | with_reducible exact ex32 _ _ _ | rfl | (exact ald rfl rfl (by assumption) rfl) | (exact ald_agg rfl rfl rfl (by assumption) rfl)); (conv => whnf)) | (apply bIf.yes; (first | assumption | rfl); (conv => whnf)) | (apply bIf.no; (first | assumption | rfl); (conv => whnf)) | ((with_reducible refine Ob.load (by with_unfolding_all assumption) ?_); (conv => whnf)) | (apply Grows.mk; (first | exact Grow.refl _ | assumption); (conv => whnf)))))
  refine Ob2.alloc rfl fun q2 H2 hq2 a2 g2 => ?_
  (try (conv => whnf)); (repeat ((fail_if_success (with_reducible refine And.intro ?_ ?_)); (fail_if_success (with_reducible refine Exists.intro ?_ ?_)); (first | (apply Ob.of; (first | with_reducible assumption | with_reducible exact ex20 _ _ | with_reducible exact ex21 _ _ | with_reducible exact ex30 _ _ _ | with_reducible exact ex31 _ _ _ | with_reducible exact ex32 _ _ _ | rfl | (exact ald rfl rfl (by assumption) rfl) | (exact ald_agg rfl rfl rfl (by assumption) rfl)); (conv => whnf)) | (apply bIf.yes; (first | assumption | rfl); (conv => whnf)) | (apply bIf.no; (first | assumption | rfl); (conv => whnf)) | ((with_reducible refine Ob.load (by with_unfolding_all assumption) ?_); (conv => whnf)) | (apply Grows.mk; (first | exact Grow.refl _ | assumption); (conv => whnf)))))
  refine Ob.store rfl rfl rfl a2 rfl (by first | exact Nat.le_of_ble_eq_true rfl | simp) fun H3 s1 s2 s3 => ?_
  have g3 : Grow H1 H3 := g2.but_new s2 (by omega)
  have b3 := g3.hblk b1
  have b4 := hblk_of s1
  have g : Grow H H3 := g1.trans g3
  have l1 : alen Try.prog 47 sv H3 = some (.int .i64 c.ins.length) := hs.len rfl _
  clear a1 a2 s1 s2 g2 i3
  (try (conv => whnf)); (repeat' ((fail_if_success (with_reducible refine And.intro ?_ ?_)); (fail_if_success (with_reducible refine Exists.intro ?_ ?_)); (first | (first | (apply Ob.of; (first | with_reducible assumption | with_reducible exact ex20 _ _ | with_reducible exact ex21 _ _ | with_reducible exact ex30 _ _ _ | with_reducible exact ex31 _ _ _ | with_reducible exact ex32 _ _ _ | rfl | (exact ald rfl rfl (by assumption) rfl) | (exact ald_agg rfl rfl rfl (by assumption) rfl)); (conv => whnf)) | (apply bIf.yes; (first | assumption | rfl); (conv => whnf)) | (apply bIf.no; (first | assumption | rfl); (conv => whnf)) | ((with_reducible refine Ob.load (by with_unfolding_all assumption) ?_); (conv => whnf)) | (apply Grows.mk; (first | exact Grow.refl _ | assumption); (conv => whnf))) | (apply bIf.of <;> intro hc <;> (conv => whnf)))))
  rotate_right
  rotate_left
  all_goals first
    | (refine ⟨⟨false, rfl, fun h => by simp at h, fun h => ?_⟩, g⟩
       exfalso
       obtain ⟨⟨h1, h2, h3, h4, h5, h6, h7, h8, h9, h10, h11⟩, _⟩ := h
       clear b3 b4 l1 i1 i2 hs b1
       (simp only [ba_ne_t, ba_ne_f, ba_eq_t, ba_eq_f, bne_iff_ne, bne_eq_false_iff_eq, decide_eq_true_eq, decide_eq_false_iff_not, beq_iff_eq, beq_eq_false_iff_ne, ne_eq, Bool.not_eq_true, Bool.not_eq_false, Bool.not_eq_true', Bool.not_eq_false'] at *)
       omega)
    | skip
  all_goals
    have hl : Lim f c := by
      clear b3 b4 l1 i1 i2 hs b1
      unfold Lim
      (simp only [ba_ne_t, ba_ne_f, ba_eq_t, ba_eq_f, bne_iff_ne, bne_eq_false_iff_eq, decide_eq_true_eq, decide_eq_false_iff_not, beq_iff_eq, beq_eq_false_iff_ne, ne_eq, Bool.not_eq_true, Bool.not_eq_false, Bool.not_eq_true', Bool.not_eq_false'] at *)
      omega
    have hl' := hl
    unfold Lim at hl'
    (try (conv => whnf)); (repeat ((fail_if_success (with_reducible refine And.intro ?_ ?_)); (fail_if_success (with_reducible refine Exists.intro ?_ ?_)); (first | (apply Ob.of; (first | with_reducible assumption | with_reducible exact ex20 _ _ | with_reducible exact ex21 _ _ | with_reducible exact ex30 _ _ _ | with_reducible exact ex31 _ _ _ | with_reducible exact ex32 _ _ _ | rfl | (exact ald rfl rfl (by assumption) rfl) | (exact ald_agg rfl rfl rfl (by assumption) rfl)); (conv => whnf)) | (apply bIf.yes; (first | assumption | rfl); (conv => whnf)) | (apply bIf.no; (first | assumption | rfl); (conv => whnf)) | ((with_reducible refine Ob.load (by with_unfolding_all assumption) ?_); (conv => whnf)) | (apply Grows.mk; (first | exact Grow.refl _ | assumption); (conv => whnf)))))
    refine SW.loop (α := Nat) (fun m => [(2, .pointer (some ⟨q1, 0, none⟩)), (5, .pointer (some ⟨q2, 0, none⟩)), (6, .int .i64 (m : Int))]) (fun m H' => m ≤ c.ins.length ∧ AllIns p c m ∧ Grow H3 H') (fun m => c.ins.length - m) ⟨0, ⟨rfl, rfl, rfl, trivial⟩, by omega, fun i x hi => by omega, .refl _⟩ ?_
    rintro m H4 ⟨hm, ht, g4⟩
    refine bC_sound _ _ _ _ ?_
    have b5 := g4.hblk b3
    have b6 := g4.hblk b4
    have l4 : alen Try.prog 47 sv H4 = some (.int .i64 c.ins.length) := hs.len rfl _
    by_cases hml : m < c.ins.length
    · have d1 : decide ((m : Int) < (c.ins.length : Int)) = true := decide_eq_true (by omega)
      obtain ⟨x, hx⟩ := get_lt hml
      obtain ⟨bi, i4, i5⟩ := ld_ins hs hx
      have i6 := i5 H4 (g.trans g4)
      clear hc
      (try (conv => whnf)); (repeat ((fail_if_success (with_reducible refine And.intro ?_ ?_)); (fail_if_success (with_reducible refine Exists.intro ?_ ?_)); (first | (apply Ob.of; (first | with_reducible assumption | with_reducible exact ex20 _ _ | with_reducible exact ex21 _ _ | with_reducible exact ex30 _ _ _ | with_reducible exact ex31 _ _ _ | with_reducible exact ex32 _ _ _ | rfl | (exact ald rfl rfl (by assumption) rfl) | (exact ald_agg rfl rfl rfl (by assumption) rfl)); (conv => whnf)) | (apply bIf.yes; (first | assumption | rfl); (conv => whnf)) | (apply bIf.no; (first | assumption | rfl); (conv => whnf)) | ((with_reducible refine Ob.load (by with_unfolding_all assumption) ?_); (conv => whnf)) | (apply Grows.mk; (first | exact Grow.refl _ | assumption); (conv => whnf)))))
      refine Ob2.alloc rfl fun q3 H5 hq3 a3 g5 => ?_
      (try (conv => whnf)); (repeat ((fail_if_success (with_reducible refine And.intro ?_ ?_)); (fail_if_success (with_reducible refine Exists.intro ?_ ?_)); (first | (apply Ob.of; (first | with_reducible assumption | with_reducible exact ex20 _ _ | with_reducible exact ex21 _ _ | with_reducible exact ex30 _ _ _ | with_reducible exact ex31 _ _ _ | with_reducible exact ex32 _ _ _ | rfl | (exact ald rfl rfl (by assumption) rfl) | (exact ald_agg rfl rfl rfl (by assumption) rfl)); (conv => whnf)) | (apply bIf.yes; (first | assumption | rfl); (conv => whnf)) | (apply bIf.no; (first | assumption | rfl); (conv => whnf)) | ((with_reducible refine Ob.load (by with_unfolding_all assumption) ?_); (conv => whnf)) | (apply Grows.mk; (first | exact Grow.refl _ | assumption); (conv => whnf)))))
      refine Ob.store rfl rfl rfl a3 rfl (by first | exact Nat.le_of_ble_eq_true rfl | simp) fun H6 t1 t2 t3 => ?_
      have g6 : Grow H4 H6 := g5.but_new t2 (by omega)
      have gg : Grow H H6 := (g.trans g4).trans g6
      have c1 := g6.hblk b5
      have c2 := g6.hblk b6
      have c3 := hblk_of t1
      have e1 := strR.grow hp gg
      have e2 := codeR.grow hcs gg
      have e3 := insR.grow hs gg
      clear a3 t1 t2 g5 i6 b5 b6 b3 b4
      have fin : insP p c m x → ∃ y : Nat, Has [(2, .pointer (some ⟨q1, 0, none⟩)), (5, .pointer (some ⟨q2, 0, none⟩)), (6, .int .i64 (IntKind.i64.wrap ((m : Int) + 1)))] [(2, .pointer (some ⟨q1, 0, none⟩)), (5, .pointer (some ⟨q2, 0, none⟩)), (6, .int .i64 (y : Int))] ∧ (y ≤ c.ins.length ∧ AllIns p c y ∧ Grow H3 H6) ∧ c.ins.length - y < c.ins.length - m := fun hi =>
        ⟨m + 1, ⟨rfl, rfl, congrArg (fun z => some (Value.int .i64 z)) (w_succ (by omega)), trivial⟩, ⟨hml, all_next ht hx hi, g4.trans g6⟩, by omega⟩
      have bad : ¬ insP p c m x → ((∃ b, Value.bool false = .bool b ∧ (b = true ↔ RightP p f c)) ∧ Grow H H6) := fun hi => ⟨⟨false, rfl, fun h => by simp at h, fun h => absurd (h.2.1 m x hml hx) hi⟩, gg⟩
      have ra := fun op a b => rarg_ax e1 e2 e3 op a b k1 k2 (by omega) k4 (by omega)
      obtain ⟨op, a, b⟩ := x
      by_cases hsit : op = 13 ∨ op = 14 ∨ op = 15 ∨ op = 27
      · have hst : sit op = true := decide_eq_true hsit
        have hgo : gos op = false := by unfold gos; exact decide_eq_false (by omega)
        have hin : insP p c m (op, a, b) ↔ argP p.2.1.length p.2.2.length p.1 c.2.1 c.ins.length op a ∧ 0 ≤ b ∧ b < c.2.2.1 := by
          unfold insP; simp [hst, hgo]
        clear hst hgo
        by_cases hin' : insP p c m (op, a, b)
        · have ha := decide_eq_true (hin.1 hin').1
          have hb1 : decide (b < 0) = false := decide_eq_false (by have := (hin.1 hin').2; omega)
          have hb2 : decide (b ≥ c.2.2.1) = false := decide_eq_false (by have := (hin.1 hin').2; omega)
          replace fin := fin hin'
          clear hin hin' bad hl' hx hl ht i4 i5
          rcases hsit with rfl | rfl | rfl | rfl
          all_goals (try (conv => whnf)); (repeat ((fail_if_success (with_reducible refine And.intro ?_ ?_)); (fail_if_success (with_reducible refine Exists.intro ?_ ?_)); (first | (apply Ob.of; (first | with_reducible assumption | with_reducible exact ex20 _ _ | with_reducible exact ex21 _ _ | with_reducible exact ex30 _ _ _ | with_reducible exact ex31 _ _ _ | with_reducible exact ex32 _ _ _ | rfl | (exact ald rfl rfl (by assumption) rfl) | (exact ald_agg rfl rfl rfl (by assumption) rfl)); (conv => whnf)) | (apply bIf.yes; (first | assumption | rfl); (conv => whnf)) | (apply bIf.no; (first | assumption | rfl); (conv => whnf)) | ((with_reducible refine Ob.load (by with_unfolding_all assumption) ?_); (conv => whnf)) | (apply Grows.mk; (first | exact Grow.refl _ | assumption); (conv => whnf)))))
          all_goals refine (ra _ _ _).mono ?_
          all_goals
            rintro _ X ⟨rfl, eX⟩
            subst X
            rw [ha]
            (try (conv => whnf)); (repeat ((fail_if_success (with_reducible refine And.intro ?_ ?_)); (fail_if_success (with_reducible refine Exists.intro ?_ ?_)); (first | (apply Ob.of; (first | with_reducible assumption | with_reducible exact ex20 _ _ | with_reducible exact ex21 _ _ | with_reducible exact ex30 _ _ _ | with_reducible exact ex31 _ _ _ | with_reducible exact ex32 _ _ _ | rfl | (exact ald rfl rfl (by assumption) rfl) | (exact ald_agg rfl rfl rfl (by assumption) rfl)); (conv => whnf)) | (apply bIf.yes; (first | assumption | rfl); (conv => whnf)) | (apply bIf.no; (first | assumption | rfl); (conv => whnf)) | ((with_reducible refine Ob.load (by with_unfolding_all assumption) ?_); (conv => whnf)) | (apply Grows.mk; (first | exact Grow.refl _ | assumption); (conv => whnf)))))
            refine (rgoes_ax _ _).mono ?_
            rintro _ X ⟨rfl, eX⟩
            subst X
            (try (conv => whnf)); (repeat ((fail_if_success (with_reducible refine And.intro ?_ ?_)); (fail_if_success (with_reducible refine Exists.intro ?_ ?_)); (first | (apply Ob.of; (first | with_reducible assumption | with_reducible exact ex20 _ _ | with_reducible exact ex21 _ _ | with_reducible exact ex30 _ _ _ | with_reducible exact ex31 _ _ _ | with_reducible exact ex32 _ _ _ | rfl | (exact ald rfl rfl (by assumption) rfl) | (exact ald_agg rfl rfl rfl (by assumption) rfl)); (conv => whnf)) | (apply bIf.yes; (first | assumption | rfl); (conv => whnf)) | (apply bIf.no; (first | assumption | rfl); (conv => whnf)) | ((with_reducible refine Ob.load (by with_unfolding_all assumption) ?_); (conv => whnf)) | (apply Grows.mk; (first | exact Grow.refl _ | assumption); (conv => whnf)))))
            exact fin
        · replace bad := bad hin'
          rcases hsit with rfl | rfl | rfl | rfl
          all_goals (try (conv => whnf)); (repeat' ((fail_if_success (with_reducible refine And.intro ?_ ?_)); (fail_if_success (with_reducible refine Exists.intro ?_ ?_)); (first | ((with_reducible refine AX.id ?_); (first | (refine (ra _ _ _).mono ?_; (rintro _ X ⟨rfl, eX⟩; subst X; (conv => whnf))))) | (first | (apply Ob.of; (first | with_reducible assumption | with_reducible exact ex20 _ _ | with_reducible exact ex21 _ _ | with_reducible exact ex30 _ _ _ | with_reducible exact ex31 _ _ _ | with_reducible exact ex32 _ _ _ | rfl | (exact ald rfl rfl (by assumption) rfl) | (exact ald_agg rfl rfl rfl (by assumption) rfl)); (conv => whnf)) | (apply bIf.yes; (first | assumption | rfl); (conv => whnf)) | (apply bIf.no; (first | assumption | rfl); (conv => whnf)) | ((with_reducible refine Ob.load (by with_unfolding_all assumption) ?_); (conv => whnf)) | (apply Grows.mk; (first | exact Grow.refl _ | assumption); (conv => whnf))) | (apply bIf.of <;> intro hc <;> (conv => whnf)))))
          all_goals first | exact bad | (exfalso; refine hin' (hin.2 ?_); clear hin hin' bad hl' hx hl ht i4 i5 c1 c2 c3 e1 e2 e3 l4 ra fin; (simp only [ba_ne_t, ba_ne_f, ba_eq_t, ba_eq_f, bne_iff_ne, bne_eq_false_iff_eq, decide_eq_true_eq, decide_eq_false_iff_not, beq_iff_eq, beq_eq_false_iff_ne, ne_eq, Bool.not_eq_true, Bool.not_eq_false, Bool.not_eq_true', Bool.not_eq_false'] at *); refine ⟨by assumption, by omega, by omega⟩)
      · have hst : sit op = false := decide_eq_false hsit
        have e13 : (op == 13) = false := by rw [beq_eq_false_iff_ne]; omega
        have e14 : (op == 14) = false := by rw [beq_eq_false_iff_ne]; omega
        have e15 : (op == 15) = false := by rw [beq_eq_false_iff_ne]; omega
        have e27 : (op == 27) = false := by rw [beq_eq_false_iff_ne]; omega
        have hin : insP p c m (op, a, b) ↔ argP p.2.1.length p.2.2.length p.1 c.2.1 c.ins.length op a ∧ b = 0 ∧ (gos op = true → (m : Int) < a ∨ opAt c.ins a = 1) := by
          unfold insP; simp [hst]
        by_cases hA : argP p.2.1.length p.2.2.length p.1 c.2.1 c.ins.length op a ∧ gos op = true
        · obtain ⟨k1', k2'⟩ := arg_goes hA.1 hA.2
          obtain ⟨j, rfl⟩ : ∃ j : Nat, a = (j : Int) := ⟨a.toNat, by omega⟩
          obtain ⟨y, hy⟩ : ∃ y, c.ins[j]? = some y := get_lt (by omega)
          obtain ⟨b', j1, j2⟩ := ld_ins hs hy
          have j3 := ld_op hs hy j1 H6 gg
          have ho : opAt c.ins (j : Int) = y.1 := by unfold opAt; rw [Int.toNat_natCast, hy]
          rw [ho] at hin
          (try (conv => whnf)); (repeat' ((fail_if_success (with_reducible refine And.intro ?_ ?_)); (fail_if_success (with_reducible refine Exists.intro ?_ ?_)); (first | ((with_reducible refine AX.id ?_); (first | (refine (ra _ _ _).mono ?_; (rintro _ X ⟨rfl, eX⟩; subst X; (conv => whnf))) | (refine (rgoes_ax _ _).mono ?_; (rintro _ X ⟨rfl, eX⟩; subst X; (conv => whnf))))) | (first | (apply Ob.of; (first | with_reducible assumption | with_reducible exact ex20 _ _ | with_reducible exact ex21 _ _ | with_reducible exact ex30 _ _ _ | with_reducible exact ex31 _ _ _ | with_reducible exact ex32 _ _ _ | rfl | (exact ald rfl rfl (by assumption) rfl) | (exact ald_agg rfl rfl rfl (by assumption) rfl)); (conv => whnf)) | (apply bIf.yes; (first | assumption | rfl); (conv => whnf)) | (apply bIf.no; (first | assumption | rfl); (conv => whnf)) | ((with_reducible refine Ob.load (by with_unfolding_all assumption) ?_); (conv => whnf)) | (apply Grows.mk; (first | exact Grow.refl _ | assumption); (conv => whnf))) | (apply bIf.of <;> intro hc <;> (conv => whnf)))))
          all_goals first
            | (refine bad fun hi => ?_; replace hi := hin.1 hi; clear hin bad fin hl' hx hl ht i4 i5 c1 c2 c3 e1 e2 e3 l4 ra j1 j2 j3 hy ho hs hp hcs; grind)
            | (refine fin (hin.2 ?_); clear hin bad fin hl' hx hl ht i4 i5 c1 c2 c3 e1 e2 e3 l4 ra j1 j2 j3 hy ho hs hp hcs; grind)
        · (try (conv => whnf)); (repeat' ((fail_if_success (with_reducible refine And.intro ?_ ?_)); (fail_if_success (with_reducible refine Exists.intro ?_ ?_)); (first | ((with_reducible refine AX.id ?_); (first | (refine (ra _ _ _).mono ?_; (rintro _ X ⟨rfl, eX⟩; subst X; (conv => whnf))) | (refine (rgoes_ax _ _).mono ?_; (rintro _ X ⟨rfl, eX⟩; subst X; (conv => whnf))))) | (first | (apply Ob.of; (first | with_reducible assumption | with_reducible exact ex20 _ _ | with_reducible exact ex21 _ _ | with_reducible exact ex30 _ _ _ | with_reducible exact ex31 _ _ _ | with_reducible exact ex32 _ _ _ | rfl | (exact ald rfl rfl (by assumption) rfl) | (exact ald_agg rfl rfl rfl (by assumption) rfl)); (conv => whnf)) | (apply bIf.yes; (first | assumption | rfl); (conv => whnf)) | (apply bIf.no; (first | assumption | rfl); (conv => whnf)) | ((with_reducible refine Ob.load (by with_unfolding_all assumption) ?_); (conv => whnf)) | (apply Grows.mk; (first | exact Grow.refl _ | assumption); (conv => whnf))) | (apply bIf.of <;> intro hc <;> (conv => whnf)))))
          all_goals first
            | (exfalso; clear hin bad fin hl' hx hl ht i4 i5 c1 c2 c3 e1 e2 e3 l4 ra hs hp hcs; grind)
            | (refine bad fun hi => ?_; replace hi := hin.1 hi; clear hin bad fin hl' hx hl ht i4 i5 c1 c2 c3 e1 e2 e3 l4 ra hs hp hcs; grind)
            | (refine fin (hin.2 ?_); clear hin bad fin hl' hx hl ht i4 i5 c1 c2 c3 e1 e2 e3 l4 ra hs hp hcs; grind)
    · have d1 : decide ((m : Int) < (c.ins.length : Int)) = false := decide_eq_false (by omega)
      have hme : m = c.ins.length := by omega
      rw [hme] at ht
      (try (conv => whnf)); (repeat ((fail_if_success (with_reducible refine And.intro ?_ ?_)); (fail_if_success (with_reducible refine Exists.intro ?_ ?_)); (first | (apply Ob.of; (first | with_reducible assumption | with_reducible exact ex20 _ _ | with_reducible exact ex21 _ _ | with_reducible exact ex30 _ _ _ | with_reducible exact ex31 _ _ _ | with_reducible exact ex32 _ _ _ | rfl | (exact ald rfl rfl (by assumption) rfl) | (exact ald_agg rfl rfl rfl (by assumption) rfl)); (conv => whnf)) | (apply bIf.yes; (first | assumption | rfl); (conv => whnf)) | (apply bIf.no; (first | assumption | rfl); (conv => whnf)) | ((with_reducible refine Ob.load (by with_unfolding_all assumption) ?_); (conv => whnf)) | (apply Grows.mk; (first | exact Grow.refl _ | assumption); (conv => whnf)))))
      refine (rdepths_ax (insR.grow hs (g.trans g4)) (aims_of hl ht)).mono ?_
      rintro v H5 ⟨r, hr, hv, g5⟩
      obtain ⟨sv', rfl⟩ := hv.ok
      (try (conv => whnf)); (repeat ((fail_if_success (with_reducible refine And.intro ?_ ?_)); (fail_if_success (with_reducible refine Exists.intro ?_ ?_)); (first | (apply Ob.of; (first | with_reducible assumption | with_reducible exact ex20 _ _ | with_reducible exact ex21 _ _ | with_reducible exact ex30 _ _ _ | with_reducible exact ex31 _ _ _ | with_reducible exact ex32 _ _ _ | rfl | (exact ald rfl rfl (by assumption) rfl) | (exact ald_agg rfl rfl rfl (by assumption) rfl)); (conv => whnf)) | (apply bIf.yes; (first | assumption | rfl); (conv => whnf)) | (apply bIf.no; (first | assumption | rfl); (conv => whnf)) | ((with_reducible refine Ob.load (by with_unfolding_all assumption) ?_); (conv => whnf)) | (apply Grows.mk; (first | exact Grow.refl _ | assumption); (conv => whnf)))))
      exact ⟨⟨r.isSome, rfl, right_of hl ht hr⟩, (g.trans g4).trans g5⟩
end Go.Proofs.Ytdlanbfbbopfhaa
