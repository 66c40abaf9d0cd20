import Derived.Test.YtdlanbfbbopfhaaLiC
/- The reference of ir: two bodies compared. -/
set_option linter.unusedVariables false
set_option linter.unusedSimpArgs false
set_option maxRecDepth 20000
set_option maxHeartbeats 8000000
namespace Go.Proofs.Ytdlanbfbbopfhaa
open Go Ax
theorem ite_ind {α : Type} {P : α → Prop} {c : Prop} [Decidable c] {a b : α} (ha : P a) (hb : P b) : P (if c then a else b) := by split <;> assumption
theorem one_regs (x : Ins) (t : Int) : (oneL x t).regs.length ≤ 8 := by
  have h := (eff_le x.1 x.2.1).2.1
  have hp : (took t (pops x)).length ≤ 8 := by unfold took pops; simp; omega
  show (fun o : OpT => o.regs.length ≤ 8) (oneL x t)
  unfold oneL
  repeat (refine ite_ind (P := fun o : OpT => o.regs.length ≤ 8) (by first | exact Nat.zero_le _ | exact hp) ?_)
  exact hp
theorem run_regs {pool : List ByteArray} {c : CodeT} {L : List Int} (hl : ∀ (i : Nat) (d : Int), L[i]? = some d → d ≤ 64) : ∀ (n : Nat) (o : OpT), o ∈ (runL pool c L n).ops → o.regs.length ≤ 64 ∧ o.map.length ≤ 64 := by
  intro n
  induction n with
  | zero => intro o ho; simp [runL] at ho
  | succ n ih =>
    intro o ho
    unfold runL at ho
    split at ho
    · rename_i x d hx hd
      have hd64 := hl n d hd
      have hm : (mapL c.2.1 d).length ≤ 64 := by unfold mapL; simp; omega
      unfold stepL at ho
      split at ho
      · exact ih o ho
      · unfold instrL at ho
        split at ho
        · exact ih o ho
        · split at ho
          · rename_i v hv
            simp only [putL_, List.mem_append, List.mem_singleton] at ho
            rcases ho with ho | rfl
            · exact ih o ho
            · exact ⟨by simp, hm⟩
          · rename_i h31 hcn
            simp only [putL_, List.mem_append, List.mem_singleton] at ho
            rcases ho with ho | rfl
            · exact ih o ho
            · exact ⟨by have := one_regs x (c.2.1 + d); show (oneL x (c.2.1 + d)).regs.length ≤ 64; omega, hm⟩
    · exact ih o ho
theorem body_regs {pool : List ByteArray} {c : CodeT} {L : List Int} (hl : ∀ (i : Nat) (d : Int), L[i]? = some d → d ≤ 64) (o : OpT) (ho : o ∈ (bodyL pool c L).ops) : o.regs.length ≤ 64 ∧ o.map.length ≤ 64 := by
  unfold bodyL at ho
  simp only [List.mem_map] at ho
  obtain ⟨o', ho', rfl⟩ := ho
  have := run_regs hl _ o' ho'
  unfold patch1
  split <;> exact this
abbrev opW (o : OpT) (rv mv : Value) : Value := .agg #[.int .i64 o.kind, .int .i64 o.a, .int .i64 o.b, .int .i64 o.c, .int .i64 o.d, rv, .slice none 0 0, .int .i64 o.pc, mv]
theorem ld_opB {pb : Nat} {H : Heap} {sv : Value} {L : List OpT} (h : RL 9 (opR pb) H sv L) {i : Nat} {x : OpT} (hx : L[i]? = some x) :
    ∃ q rv mv, aindexAddr Try.prog 29 sv (.int .i64 (i : Int)) = some q ∧ RL 1 intR H rv x.regs ∧ RL 1 intR H mv x.map ∧ ∀ H', Grow H H' → aload Try.prog 44 q H' = some (opW x rv mv) := by
  obtain ⟨q, l, h1, ⟨rv, mv, rfl, h3, h4⟩, h5⟩ := h.ldA (P := Try.prog) (t := 29) (e := 44) rfl rfl rfl rfl hx
  exact ⟨q, rv, mv, h1, h3.1.rl, h4.1.rl, h5⟩
theorem BodyR.grow {H H' : Heap} {v : Value} {F R : Int} {s : LS} (h : BodyR H v F R s) (g : Grow H H') : BodyR H' v F R s := by
  obtain ⟨cv, ov, pb, h1, h2, h3⟩ := h
  exact ⟨cv, ov, pb, h1, valR_grow h2 g, RL.grow (H := H) (H' := H') (fun _ _ h => h.keep fun q c hq _ => g.at hq) h3 g⟩
theorem SameB_ax {H : Heap} {u v : Value} {F R : Int} {s : LS} (hu : BodyR H u F R s) (hv : BodyR H v F R s) (h1 : s.ops.length ≤ 100000) (h2 : s.consts.length ≤ 100000) (h3 : ∀ o ∈ s.ops, o.regs.length ≤ 64 ∧ o.map.length ≤ 64) :
    AX Try.prog 11 #[u, v] H (fun r H' => r = .bool true ∧ H' = H) := by
  refine AX.quiet ?_
  suffices hh : AX Try.prog 11 #[u, v] H (fun r H' => r = .bool true ∧ Grow H H') from hh.mono fun v _ ⟨e, g⟩ => ⟨e ▸ plain_bool _, e, g⟩
  obtain ⟨uc, uo, pu, rfl, u1, u2⟩ := hu
  obtain ⟨vc, vo, pv, rfl, v1, v2⟩ := hv
  obtain ⟨ea, en, ek, rfl⟩ : ∃ a n k, uc = .slice a n k := by rcases u1 with ⟨h, _⟩ | ⟨b, h, _⟩ <;> exact ⟨_, _, _, h⟩
  obtain ⟨fa, fn, fk, rfl⟩ : ∃ a n k, vc = .slice a n k := by rcases v1 with ⟨h, _⟩ | ⟨b, h, _⟩ <;> exact ⟨_, _, _, h⟩
  obtain ⟨ga, gn, gk, rfl⟩ : ∃ a n k, uo = .slice a n k := by rcases u2 with ⟨h, _⟩ | ⟨b, h, _⟩ <;> exact ⟨_, _, _, h⟩
  obtain ⟨ja, jn, jk, rfl⟩ : ∃ a n k, vo = .slice a n k := by rcases v2 with ⟨h, _⟩ | ⟨b, h, _⟩ <;> exact ⟨_, _, _, h⟩
  refine AX.body (n := 166) (rs := [.tmp 4]) Try.func11 rfl (by decide) rfl rfl (bC_sound _ _ _ _ ?_)
  (conv => whnf)
  refine Ob2.box rfl fun q1 H1 hq1 n1 g1 => ?_
  (conv => whnf)
  refine Ob2.box rfl fun q2 H2 hq2 n2 g2 => ?_
  have b1 := hblk_of (g2.at n1)
  have b2 := hblk_of n2
  have g := g1.trans g2
  have lo : ∀ X, alen Try.prog 29 (.slice ga gn gk) X = some (.int .i64 s.ops.length) := fun X => u2.len rfl _
  have lo' : ∀ X, alen Try.prog 29 (.slice ja jn jk) X = some (.int .i64 s.ops.length) := fun X => v2.len rfl _
  have lo2 := lo H2
  have lo2' := lo' H2
  have eF : (F != F) = false := bne_self_eq_false F
  have eR : (R != R) = false := bne_self_eq_false R
  have eL : ((s.ops.length : Int) != (s.ops.length : Int)) = false := bne_self_eq_false _
  (try (conv => whnf)); (repeat ((fail_if_success (with_reducible refine And.intro ?_ ?_)); (fail_if_success (with_reducible refine Exists.intro ?_ ?_)); (first | (apply Ob.of; (first | with_reducible assumption | with_reducible exact ex20 _ _ | with_reducible exact ex21 _ _ | with_reducible exact ex30 _ _ _ | with_reducible exact ex31 _ _ _ | with_reducible exact ex32 _ _ _ | rfl | (exact ald rfl rfl (by assumption) rfl) | (exact ald_agg rfl rfl rfl (by assumption) rfl)); (conv => whnf)) | (apply bIf.yes; (first | assumption | rfl); (conv => whnf)) | (apply bIf.no; (first | assumption | rfl); (conv => whnf)) | ((with_reducible refine Ob.load (by with_unfolding_all assumption) ?_); (conv => whnf)) | (apply Grows.mk; (first | exact Grow.refl _ | assumption); (conv => whnf)))))
  refine (SameList_ax (valR_grow u1 g) (valR_grow v1 g) (by omega)).mono ?_
  rintro _ X ⟨⟨b, rfl, hb⟩, e⟩
  subst X
  obtain rfl : b = true := hb.2 rfl
  (try (conv => whnf)); (repeat ((fail_if_success (with_reducible refine And.intro ?_ ?_)); (fail_if_success (with_reducible refine Exists.intro ?_ ?_)); (first | (apply Ob.of; (first | with_reducible assumption | with_reducible exact ex20 _ _ | with_reducible exact ex21 _ _ | with_reducible exact ex30 _ _ _ | with_reducible exact ex31 _ _ _ | with_reducible exact ex32 _ _ _ | rfl | (exact ald rfl rfl (by assumption) rfl) | (exact ald_agg rfl rfl rfl (by assumption) rfl)); (conv => whnf)) | (apply bIf.yes; (first | assumption | rfl); (conv => whnf)) | (apply bIf.no; (first | assumption | rfl); (conv => whnf)) | ((with_reducible refine Ob.load (by with_unfolding_all assumption) ?_); (conv => whnf)) | (apply Grows.mk; (first | exact Grow.refl _ | assumption); (conv => whnf)))))
  refine SW.loop (α := Nat) (fun m => [(2, .pointer (some ⟨q1, 0, none⟩)), (3, .pointer (some ⟨q2, 0, none⟩)), (5, .int .i64 (m : Int))]) (fun m X => m ≤ s.ops.length ∧ Grow H2 X) (fun m => s.ops.length - m) ⟨0, ⟨rfl, rfl, rfl, trivial⟩, by omega, .refl _⟩ ?_
  rintro m H3 ⟨hm, g3⟩
  refine bC_sound _ _ _ _ ?_
  have c1 := g3.hblk b1
  have c2 := g3.hblk b2
  have gg := g.trans g3
  have lo3 := lo H3
  by_cases hml : m < s.ops.length
  · have d1 : decide ((m : Int) < (s.ops.length : Int)) = true := decide_eq_true (by omega)
    obtain ⟨o, ho⟩ := get_lt hml
    obtain ⟨x, rx, mx, i1, ir, im, i2⟩ := ld_opB u2 ho
    obtain ⟨y, ry, my, j1, jr, jm, j2⟩ := ld_opB v2 ho
    have hreg := h3 o (List.mem_of_getElem? ho)
    have e1 : (o.kind != o.kind) = false := bne_self_eq_false _
    have e2 : (o.a != o.a) = false := bne_self_eq_false _
    have e3 : (o.b != o.b) = false := bne_self_eq_false _
    have e4 : (o.c != o.c) = false := bne_self_eq_false _
    have e5 : (o.d != o.d) = false := bne_self_eq_false _
    have e6 : (o.pc != o.pc) = false := bne_self_eq_false _
    (try (conv => whnf)); (repeat ((fail_if_success (with_reducible refine And.intro ?_ ?_)); (fail_if_success (with_reducible refine Exists.intro ?_ ?_)); (first | (apply Ob.of; (first | with_reducible assumption | with_reducible exact ex20 _ _ | with_reducible exact ex21 _ _ | with_reducible exact ex30 _ _ _ | with_reducible exact ex31 _ _ _ | with_reducible exact ex32 _ _ _ | rfl | (exact ald rfl rfl (by assumption) rfl) | (exact ald_agg rfl rfl rfl (by assumption) rfl)); (conv => whnf)) | (apply bIf.yes; (first | assumption | rfl); (conv => whnf)) | (apply bIf.no; (first | assumption | rfl); (conv => whnf)) | ((with_reducible refine Ob.load (by with_unfolding_all assumption) ?_); (conv => whnf)) | (apply Grows.mk; (first | exact Grow.refl _ | assumption); (conv => whnf)))))
    refine SW.sub (F := [(2, _), (3, _), (5, _)]) ?_ (Sub.of ⟨rfl, rfl, rfl, trivial⟩)
    refine SW.drawS (R2 10 [.pointer (some ⟨q1, 3, none⟩), .slice ga gn gk, .int .i64 (m : Int), x, opW o rx mx, .pointer (some ⟨q2, 3, none⟩), .slice ja jn jk, .int .i64 (m : Int), y, opW o ry my] H3 [.int .i64 0, .int .i64 0, .int .i64 0, .int .i64 0, .int .i64 0, .slice none 0 0, .slice none 0 0, .int .i64 0, .slice none 0 0] [.int .i64 0, .int .i64 0, .int .i64 0, .int .i64 0, .int .i64 0, .slice none 0 0, .slice none 0 0, .int .i64 0, .slice none 0 0] [.int .i64 o.kind, .int .i64 o.a, .int .i64 o.b, .int .i64 o.c, .int .i64 o.d, rx, .slice none 0 0, .int .i64 o.pc, mx] [.int .i64 o.kind, .int .i64 o.a, .int .i64 o.b, .int .i64 o.c, .int .i64 o.d, ry, .slice none 0 0, .int .i64 o.pc, my]) rfl (by kernel_rfl) (R2.init ..) ?_ ?_
    · intro i o L V K ho hl hah hbh hR
      have hk := hR.grow
      have c1 := hk.hblk c1
      have c2 := hk.hblk c2
      have i3 := i2 K (gg.trans hk)
      have j3 := j2 K (gg.trans hk)
      match i, ho, hl, hah, hbh with
      | 0, ho, hl, hah, hbh =>
        obtain rfl := Option.some.inj ho
        rw [envOf_eq, show pairsOf _ _ 0 = [] from by kernel_rfl, show exOf _ _ 0 = [57, 60, 61, 62, 63, 64, 6, 7] from by kernel_rfl]
        try simp only [valsOf]
        (try (conv => whnf)); (repeat ((fail_if_success (with_reducible refine And.intro ?_ ?_)); (fail_if_success (with_reducible refine Exists.intro ?_ ?_)); (first | (apply Ob.of; (first | with_reducible assumption | with_reducible exact ex20 _ _ | with_reducible exact ex21 _ _ | with_reducible exact ex30 _ _ _ | with_reducible exact ex31 _ _ _ | with_reducible exact ex32 _ _ _ | rfl | (exact ald rfl rfl (by assumption) rfl) | (exact ald_agg rfl rfl rfl (by assumption) rfl)); (conv => whnf)) | (apply bIf.yes; (first | assumption | rfl); (conv => whnf)) | (apply bIf.no; (first | assumption | rfl); (conv => whnf)) | ((with_reducible refine Ob.load (by with_unfolding_all assumption) ?_); (conv => whnf)) | (apply Grows.mk; (first | exact Grow.refl _ | assumption); (conv => whnf)))))
        exact hR.float hl (by decide) rfl
      | 1, ho, hl, hah, hbh =>
        obtain rfl := Option.some.inj ho
        have e0 : V.getD 0 undef = .pointer (some ⟨q1, 3, none⟩) := hR.val 0 (by decide) (hah 0 (by kernel_rfl))
        rw [envOf_eq, show pairsOf _ _ 1 = [(55, 0)] from by kernel_rfl, show exOf _ _ 1 = [55, 57, 60, 61, 62, 63, 64, 6, 7] from by kernel_rfl]
        try simp only [valsOf, e0]
        (try (conv => whnf)); (repeat ((fail_if_success (with_reducible refine And.intro ?_ ?_)); (fail_if_success (with_reducible refine Exists.intro ?_ ?_)); (first | (apply Ob.of; (first | with_reducible assumption | with_reducible exact ex20 _ _ | with_reducible exact ex21 _ _ | with_reducible exact ex30 _ _ _ | with_reducible exact ex31 _ _ _ | with_reducible exact ex32 _ _ _ | rfl | (exact ald rfl rfl (by assumption) rfl) | (exact ald_agg rfl rfl rfl (by assumption) rfl)); (conv => whnf)) | (apply bIf.yes; (first | assumption | rfl); (conv => whnf)) | (apply bIf.no; (first | assumption | rfl); (conv => whnf)) | ((with_reducible refine Ob.load (by with_unfolding_all assumption) ?_); (conv => whnf)) | (apply Grows.mk; (first | exact Grow.refl _ | assumption); (conv => whnf)))))
        exact hR.float hl (by decide) rfl
      | 2, ho, hl, hah, hbh =>
        obtain rfl := Option.some.inj ho
        rw [envOf_eq, show pairsOf _ _ 2 = [] from by kernel_rfl, show exOf _ _ 2 = [55, 56, 60, 61, 62, 63, 64, 6, 7] from by kernel_rfl]
        try simp only [valsOf]
        (try (conv => whnf)); (repeat ((fail_if_success (with_reducible refine And.intro ?_ ?_)); (fail_if_success (with_reducible refine Exists.intro ?_ ?_)); (first | (apply Ob.of; (first | with_reducible assumption | with_reducible exact ex20 _ _ | with_reducible exact ex21 _ _ | with_reducible exact ex30 _ _ _ | with_reducible exact ex31 _ _ _ | with_reducible exact ex32 _ _ _ | rfl | (exact ald rfl rfl (by assumption) rfl) | (exact ald_agg rfl rfl rfl (by assumption) rfl)); (conv => whnf)) | (apply bIf.yes; (first | assumption | rfl); (conv => whnf)) | (apply bIf.no; (first | assumption | rfl); (conv => whnf)) | ((with_reducible refine Ob.load (by with_unfolding_all assumption) ?_); (conv => whnf)) | (apply Grows.mk; (first | exact Grow.refl _ | assumption); (conv => whnf)))))
        exact hR.float hl (by decide) rfl
      | 3, ho, hl, hah, hbh =>
        obtain rfl := Option.some.inj ho
        have e0 : V.getD 0 undef = .pointer (some ⟨q1, 3, none⟩) := hR.val 0 (by decide) (hah 0 (by kernel_rfl))
        have e1 : V.getD 1 undef = .slice ga gn gk := hR.val 1 (by decide) (hah 1 (by kernel_rfl))
        have e2 : V.getD 2 undef = .int .i64 (m : Int) := hR.val 2 (by decide) (hah 2 (by kernel_rfl))
        rw [envOf_eq, show pairsOf _ _ 3 = [(55, 0), (56, 1), (57, 2)] from by kernel_rfl, show exOf _ _ 3 = [55, 56, 57, 60, 61, 62, 63, 64, 6, 7] from by kernel_rfl]
        try simp only [valsOf, e0, e1, e2]
        (try (conv => whnf)); (repeat ((fail_if_success (with_reducible refine And.intro ?_ ?_)); (fail_if_success (with_reducible refine Exists.intro ?_ ?_)); (first | (apply Ob.of; (first | with_reducible assumption | with_reducible exact ex20 _ _ | with_reducible exact ex21 _ _ | with_reducible exact ex30 _ _ _ | with_reducible exact ex31 _ _ _ | with_reducible exact ex32 _ _ _ | rfl | (exact ald rfl rfl (by assumption) rfl) | (exact ald_agg rfl rfl rfl (by assumption) rfl)); (conv => whnf)) | (apply bIf.yes; (first | assumption | rfl); (conv => whnf)) | (apply bIf.no; (first | assumption | rfl); (conv => whnf)) | ((with_reducible refine Ob.load (by with_unfolding_all assumption) ?_); (conv => whnf)) | (apply Grows.mk; (first | exact Grow.refl _ | assumption); (conv => whnf)))))
        exact hR.float hl (by decide) rfl
      | 4, ho, hl, hah, hbh =>
        obtain rfl := Option.some.inj ho
        have e0 : V.getD 0 undef = .pointer (some ⟨q1, 3, none⟩) := hR.val 0 (by decide) (hah 0 (by kernel_rfl))
        have e1 : V.getD 1 undef = .slice ga gn gk := hR.val 1 (by decide) (hah 1 (by kernel_rfl))
        have e2 : V.getD 2 undef = .int .i64 (m : Int) := hR.val 2 (by decide) (hah 2 (by kernel_rfl))
        have e3 : V.getD 3 undef = x := hR.val 3 (by decide) (hah 3 (by kernel_rfl))
        rw [envOf_eq, show pairsOf _ _ 4 = [(55, 0), (56, 1), (57, 2), (58, 3)] from by kernel_rfl, show exOf _ _ 4 = [55, 56, 57, 58, 60, 61, 62, 63, 64, 6, 7] from by kernel_rfl]
        try simp only [valsOf, e0, e1, e2, e3]
        (try (conv => whnf)); (repeat ((fail_if_success (with_reducible refine And.intro ?_ ?_)); (fail_if_success (with_reducible refine Exists.intro ?_ ?_)); (first | (apply Ob.of; (first | with_reducible assumption | with_reducible exact ex20 _ _ | with_reducible exact ex21 _ _ | with_reducible exact ex30 _ _ _ | with_reducible exact ex31 _ _ _ | with_reducible exact ex32 _ _ _ | rfl | (exact ald rfl rfl (by assumption) rfl) | (exact ald_agg rfl rfl rfl (by assumption) rfl)); (conv => whnf)) | (apply bIf.yes; (first | assumption | rfl); (conv => whnf)) | (apply bIf.no; (first | assumption | rfl); (conv => whnf)) | ((with_reducible refine Ob.load (by with_unfolding_all assumption) ?_); (conv => whnf)) | (apply Grows.mk; (first | exact Grow.refl _ | assumption); (conv => whnf)))))
        exact hR.float hl (by decide) rfl
      | 5, ho, hl, hah, hbh =>
        obtain rfl := Option.some.inj ho
        rw [envOf_eq, show pairsOf _ _ 5 = [] from by kernel_rfl, show exOf _ _ 5 = [55, 56, 57, 58, 59, 62, 6, 7] from by kernel_rfl]
        try simp only [valsOf]
        (try (conv => whnf)); (repeat ((fail_if_success (with_reducible refine And.intro ?_ ?_)); (fail_if_success (with_reducible refine Exists.intro ?_ ?_)); (first | (apply Ob.of; (first | with_reducible assumption | with_reducible exact ex20 _ _ | with_reducible exact ex21 _ _ | with_reducible exact ex30 _ _ _ | with_reducible exact ex31 _ _ _ | with_reducible exact ex32 _ _ _ | rfl | (exact ald rfl rfl (by assumption) rfl) | (exact ald_agg rfl rfl rfl (by assumption) rfl)); (conv => whnf)) | (apply bIf.yes; (first | assumption | rfl); (conv => whnf)) | (apply bIf.no; (first | assumption | rfl); (conv => whnf)) | ((with_reducible refine Ob.load (by with_unfolding_all assumption) ?_); (conv => whnf)) | (apply Grows.mk; (first | exact Grow.refl _ | assumption); (conv => whnf)))))
        exact hR.float hl (by decide) rfl
      | 6, ho, hl, hah, hbh =>
        obtain rfl := Option.some.inj ho
        have e5 : V.getD 5 undef = .pointer (some ⟨q2, 3, none⟩) := hR.val 5 (by decide) (hah 5 (by kernel_rfl))
        rw [envOf_eq, show pairsOf _ _ 6 = [(60, 5)] from by kernel_rfl, show exOf _ _ 6 = [55, 56, 57, 58, 59, 60, 62, 6, 7] from by kernel_rfl]
        try simp only [valsOf, e5]
        (try (conv => whnf)); (repeat ((fail_if_success (with_reducible refine And.intro ?_ ?_)); (fail_if_success (with_reducible refine Exists.intro ?_ ?_)); (first | (apply Ob.of; (first | with_reducible assumption | with_reducible exact ex20 _ _ | with_reducible exact ex21 _ _ | with_reducible exact ex30 _ _ _ | with_reducible exact ex31 _ _ _ | with_reducible exact ex32 _ _ _ | rfl | (exact ald rfl rfl (by assumption) rfl) | (exact ald_agg rfl rfl rfl (by assumption) rfl)); (conv => whnf)) | (apply bIf.yes; (first | assumption | rfl); (conv => whnf)) | (apply bIf.no; (first | assumption | rfl); (conv => whnf)) | ((with_reducible refine Ob.load (by with_unfolding_all assumption) ?_); (conv => whnf)) | (apply Grows.mk; (first | exact Grow.refl _ | assumption); (conv => whnf)))))
        exact hR.float hl (by decide) rfl
      | 7, ho, hl, hah, hbh =>
        obtain rfl := Option.some.inj ho
        rw [envOf_eq, show pairsOf _ _ 7 = [] from by kernel_rfl, show exOf _ _ 7 = [55, 56, 57, 58, 59, 60, 61, 6, 7] from by kernel_rfl]
        try simp only [valsOf]
        (try (conv => whnf)); (repeat ((fail_if_success (with_reducible refine And.intro ?_ ?_)); (fail_if_success (with_reducible refine Exists.intro ?_ ?_)); (first | (apply Ob.of; (first | with_reducible assumption | with_reducible exact ex20 _ _ | with_reducible exact ex21 _ _ | with_reducible exact ex30 _ _ _ | with_reducible exact ex31 _ _ _ | with_reducible exact ex32 _ _ _ | rfl | (exact ald rfl rfl (by assumption) rfl) | (exact ald_agg rfl rfl rfl (by assumption) rfl)); (conv => whnf)) | (apply bIf.yes; (first | assumption | rfl); (conv => whnf)) | (apply bIf.no; (first | assumption | rfl); (conv => whnf)) | ((with_reducible refine Ob.load (by with_unfolding_all assumption) ?_); (conv => whnf)) | (apply Grows.mk; (first | exact Grow.refl _ | assumption); (conv => whnf)))))
        exact hR.float hl (by decide) rfl
      | 8, ho, hl, hah, hbh =>
        obtain rfl := Option.some.inj ho
        have e5 : V.getD 5 undef = .pointer (some ⟨q2, 3, none⟩) := hR.val 5 (by decide) (hah 5 (by kernel_rfl))
        have e6 : V.getD 6 undef = .slice ja jn jk := hR.val 6 (by decide) (hah 6 (by kernel_rfl))
        have e7 : V.getD 7 undef = .int .i64 (m : Int) := hR.val 7 (by decide) (hah 7 (by kernel_rfl))
        rw [envOf_eq, show pairsOf _ _ 8 = [(60, 5), (61, 6), (62, 7)] from by kernel_rfl, show exOf _ _ 8 = [55, 56, 57, 58, 59, 60, 61, 62, 6, 7] from by kernel_rfl]
        try simp only [valsOf, e5, e6, e7]
        (try (conv => whnf)); (repeat ((fail_if_success (with_reducible refine And.intro ?_ ?_)); (fail_if_success (with_reducible refine Exists.intro ?_ ?_)); (first | (apply Ob.of; (first | with_reducible assumption | with_reducible exact ex20 _ _ | with_reducible exact ex21 _ _ | with_reducible exact ex30 _ _ _ | with_reducible exact ex31 _ _ _ | with_reducible exact ex32 _ _ _ | rfl | (exact ald rfl rfl (by assumption) rfl) | (exact ald_agg rfl rfl rfl (by assumption) rfl)); (conv => whnf)) | (apply bIf.yes; (first | assumption | rfl); (conv => whnf)) | (apply bIf.no; (first | assumption | rfl); (conv => whnf)) | ((with_reducible refine Ob.load (by with_unfolding_all assumption) ?_); (conv => whnf)) | (apply Grows.mk; (first | exact Grow.refl _ | assumption); (conv => whnf)))))
        exact hR.float hl (by decide) rfl
      | 9, ho, hl, hah, hbh =>
        obtain rfl := Option.some.inj ho
        have e5 : V.getD 5 undef = .pointer (some ⟨q2, 3, none⟩) := hR.val 5 (by decide) (hah 5 (by kernel_rfl))
        have e6 : V.getD 6 undef = .slice ja jn jk := hR.val 6 (by decide) (hah 6 (by kernel_rfl))
        have e7 : V.getD 7 undef = .int .i64 (m : Int) := hR.val 7 (by decide) (hah 7 (by kernel_rfl))
        have e8 : V.getD 8 undef = y := hR.val 8 (by decide) (hah 8 (by kernel_rfl))
        rw [envOf_eq, show pairsOf _ _ 9 = [(60, 5), (61, 6), (62, 7), (63, 8)] from by kernel_rfl, show exOf _ _ 9 = [55, 56, 57, 58, 59, 60, 61, 62, 63, 6, 7] from by kernel_rfl]
        try simp only [valsOf, e5, e6, e7, e8]
        (try (conv => whnf)); (repeat ((fail_if_success (with_reducible refine And.intro ?_ ?_)); (fail_if_success (with_reducible refine Exists.intro ?_ ?_)); (first | (apply Ob.of; (first | with_reducible assumption | with_reducible exact ex20 _ _ | with_reducible exact ex21 _ _ | with_reducible exact ex30 _ _ _ | with_reducible exact ex31 _ _ _ | with_reducible exact ex32 _ _ _ | rfl | (exact ald rfl rfl (by assumption) rfl) | (exact ald_agg rfl rfl rfl (by assumption) rfl)); (conv => whnf)) | (apply bIf.yes; (first | assumption | rfl); (conv => whnf)) | (apply bIf.no; (first | assumption | rfl); (conv => whnf)) | ((with_reducible refine Ob.load (by with_unfolding_all assumption) ?_); (conv => whnf)) | (apply Grows.mk; (first | exact Grow.refl _ | assumption); (conv => whnf)))))
        exact hR.float hl (by decide) rfl
      | 10, ho, hl, hah, hbh =>
        obtain rfl := Option.some.inj ho
        rw [envOf_eq, show pairsOf _ _ 10 = [] from by kernel_rfl, show exOf _ _ 10 = [55, 56, 57, 58, 59, 60, 61, 62, 63, 64, 7] from by kernel_rfl]
        try simp only [valsOf]
        (conv => whnf)
        exact Ob2.of (b := K ++ [.cells .var [.int .i64 0, .int .i64 0, .int .i64 0, .int .i64 0, .int .i64 0, .slice none 0 0, .slice none 0 0, .int .i64 0, .slice none 0 0]]) rfl (hR.allocA rfl hl (hbh 12 (by decide) (by kernel_rfl)))
      | 11, ho, hl, hah, hbh =>
        obtain rfl := Option.some.inj ho
        rw [envOf_eq, show pairsOf _ _ 11 = [] from by kernel_rfl, show exOf _ _ 11 = [55, 56, 57, 58, 59, 60, 61, 62, 63, 64, 6] from by kernel_rfl]
        try simp only [valsOf]
        (conv => whnf)
        exact Ob2.of (b := K ++ [.cells .var [.int .i64 0, .int .i64 0, .int .i64 0, .int .i64 0, .int .i64 0, .slice none 0 0, .slice none 0 0, .int .i64 0, .slice none 0 0]]) rfl (hR.allocB rfl hl (hbh 13 (by decide) (by kernel_rfl)))
      | 12, ho, hl, hah, hbh =>
        obtain rfl := Option.some.inj ho
        have e0 : V.getD 0 undef = .pointer (some ⟨q1, 3, none⟩) := hR.val 0 (by decide) (hah 0 (by kernel_rfl))
        have e1 : V.getD 1 undef = .slice ga gn gk := hR.val 1 (by decide) (hah 1 (by kernel_rfl))
        have e2 : V.getD 2 undef = .int .i64 (m : Int) := hR.val 2 (by decide) (hah 2 (by kernel_rfl))
        have e3 : V.getD 3 undef = x := hR.val 3 (by decide) (hah 3 (by kernel_rfl))
        have e4 : V.getD 4 undef = opW o rx mx := hR.val 4 (by decide) (hah 4 (by kernel_rfl))
        obtain ⟨a, a1, a2, a3⟩ := hR.fst (hah 10 (by kernel_rfl))
        obtain ⟨b, b1, b2, b3⟩ := hR.snd (hah 11 (by kernel_rfl))
        rw [envOf_eq, show pairsOf _ _ 12 = [(55, 0), (56, 1), (57, 2), (58, 3), (59, 4), (6, 10), (7, 11)] from by kernel_rfl, show exOf _ _ 12 = [55, 56, 57, 58, 59, 60, 61, 62, 63, 64, 6, 7] from by kernel_rfl]
        have b2 : V.getD 11 undef = .pointer (some ⟨b, 0, none⟩) := b2
        try simp only [valsOf, e0, e1, e2, e3, e4, a2, b2]
        rw [if_neg (by simp [hl])] at a3
        (conv => whnf)
        exact Ob.store rfl rfl rfl a3 rfl (by first | exact Nat.le_of_ble_eq_true rfl | simp) fun K1 k1 k2 k3 => hR.storeA rfl hl (hah 10 (by kernel_rfl)) a2 k1 k2
      | 13, ho, hl, hah, hbh =>
        obtain rfl := Option.some.inj ho
        have e0 : V.getD 0 undef = .pointer (some ⟨q1, 3, none⟩) := hR.val 0 (by decide) (hah 0 (by kernel_rfl))
        have e1 : V.getD 1 undef = .slice ga gn gk := hR.val 1 (by decide) (hah 1 (by kernel_rfl))
        have e2 : V.getD 2 undef = .int .i64 (m : Int) := hR.val 2 (by decide) (hah 2 (by kernel_rfl))
        have e3 : V.getD 3 undef = x := hR.val 3 (by decide) (hah 3 (by kernel_rfl))
        have e4 : V.getD 4 undef = opW o rx mx := hR.val 4 (by decide) (hah 4 (by kernel_rfl))
        have e5 : V.getD 5 undef = .pointer (some ⟨q2, 3, none⟩) := hR.val 5 (by decide) (hah 5 (by kernel_rfl))
        have e6 : V.getD 6 undef = .slice ja jn jk := hR.val 6 (by decide) (hah 6 (by kernel_rfl))
        have e7 : V.getD 7 undef = .int .i64 (m : Int) := hR.val 7 (by decide) (hah 7 (by kernel_rfl))
        have e8 : V.getD 8 undef = y := hR.val 8 (by decide) (hah 8 (by kernel_rfl))
        have e9 : V.getD 9 undef = opW o ry my := hR.val 9 (by decide) (hah 9 (by kernel_rfl))
        obtain ⟨a, a1, a2, a3⟩ := hR.fst (hah 10 (by kernel_rfl))
        obtain ⟨b, b1, b2, b3⟩ := hR.snd (hah 11 (by kernel_rfl))
        rw [envOf_eq, show pairsOf _ _ 13 = [(55, 0), (56, 1), (57, 2), (58, 3), (59, 4), (60, 5), (61, 6), (62, 7), (63, 8), (64, 9), (6, 10), (7, 11)] from by kernel_rfl, show exOf _ _ 13 = [55, 56, 57, 58, 59, 60, 61, 62, 63, 64, 6, 7] from by kernel_rfl]
        have b2 : V.getD 11 undef = .pointer (some ⟨b, 0, none⟩) := b2
        try simp only [valsOf, e0, e1, e2, e3, e4, e5, e6, e7, e8, e9, a2, b2]
        rw [if_neg (by simp [hl])] at b3
        (conv => whnf)
        exact Ob.store rfl rfl rfl b3 rfl (by first | exact Nat.le_of_ble_eq_true rfl | simp) fun K1 k1 k2 k3 => hR.storeB rfl hl (hah 11 (by kernel_rfl)) b2 k1 k2
      | i + 14, ho, hl, hah, hbh => exact absurd ho (by simp)
    intro V K hR
    have hk := hR.grow
    obtain ⟨pa, a1, a2, a3⟩ := hR.fst rfl
    obtain ⟨pb, b1, b2, b3⟩ := hR.snd rfl
    have a2 : V.getD 10 undef = .pointer (some ⟨pa, 0, none⟩) := a2
    have b2 : V.getD 11 undef = .pointer (some ⟨pb, 0, none⟩) := b2
    have hne : V.getD 10 undef ≠ V.getD 11 undef := hR.ne rfl rfl
    rw [endOf_eq, show endsOf _ = [(55, 0), (56, 1), (57, 2), (58, 3), (59, 4), (60, 5), (61, 6), (62, 7), (63, 8), (64, 9), (6, 10), (7, 11)] from by kernel_rfl]
    simp only [valsOf, a2, b2]
    rw [a2, b2] at hne
    have a3 : K[pa]? = some (.cells .var [.int .i64 o.kind, .int .i64 o.a, .int .i64 o.b, .int .i64 o.c, .int .i64 o.d, rx, .slice none 0 0, .int .i64 o.pc, mx]) := a3
    have b3 : K[pb]? = some (.cells .var [.int .i64 o.kind, .int .i64 o.a, .int .i64 o.b, .int .i64 o.c, .int .i64 o.d, ry, .slice none 0 0, .int .i64 o.pc, my]) := b3
    clear hR
    have ha' := hblk_of a3
    have hb' := hblk_of b3
    have gk := gg.trans hk
    (try (conv => whnf)); (repeat ((fail_if_success (with_reducible refine And.intro ?_ ?_)); (fail_if_success (with_reducible refine Exists.intro ?_ ?_)); (first | (apply Ob.of; (first | with_reducible assumption | with_reducible exact ex20 _ _ | with_reducible exact ex21 _ _ | with_reducible exact ex30 _ _ _ | with_reducible exact ex31 _ _ _ | with_reducible exact ex32 _ _ _ | rfl | (exact ald rfl rfl (by assumption) rfl) | (exact ald_agg rfl rfl rfl (by assumption) rfl)); (conv => whnf)) | (apply bIf.yes; (first | assumption | rfl); (conv => whnf)) | (apply bIf.no; (first | assumption | rfl); (conv => whnf)) | ((with_reducible refine Ob.load (by with_unfolding_all assumption) ?_); (conv => whnf)) | (apply Grows.mk; (first | exact Grow.refl _ | assumption); (conv => whnf)))))
    refine (numbersR_ax (intR.grow ir gk) (intR.grow jr gk) (by omega)).mono ?_
    rintro _ X ⟨rfl, e⟩
    subst X
    rw [decide_eq_true rfl]
    (try (conv => whnf)); (repeat ((fail_if_success (with_reducible refine And.intro ?_ ?_)); (fail_if_success (with_reducible refine Exists.intro ?_ ?_)); (first | (apply Ob.of; (first | with_reducible assumption | with_reducible exact ex20 _ _ | with_reducible exact ex21 _ _ | with_reducible exact ex30 _ _ _ | with_reducible exact ex31 _ _ _ | with_reducible exact ex32 _ _ _ | rfl | (exact ald rfl rfl (by assumption) rfl) | (exact ald_agg rfl rfl rfl (by assumption) rfl)); (conv => whnf)) | (apply bIf.yes; (first | assumption | rfl); (conv => whnf)) | (apply bIf.no; (first | assumption | rfl); (conv => whnf)) | ((with_reducible refine Ob.load (by with_unfolding_all assumption) ?_); (conv => whnf)) | (apply Grows.mk; (first | exact Grow.refl _ | assumption); (conv => whnf)))))
    refine (numbersR_ax (intR.grow im gk) (intR.grow jm gk) (by omega)).mono ?_
    rintro _ X ⟨rfl, e⟩
    subst X
    rw [decide_eq_true rfl]
    (try (conv => whnf)); (repeat ((fail_if_success (with_reducible refine And.intro ?_ ?_)); (fail_if_success (with_reducible refine Exists.intro ?_ ?_)); (first | (apply Ob.of; (first | with_reducible assumption | with_reducible exact ex20 _ _ | with_reducible exact ex21 _ _ | with_reducible exact ex30 _ _ _ | with_reducible exact ex31 _ _ _ | with_reducible exact ex32 _ _ _ | rfl | (exact ald rfl rfl (by assumption) rfl) | (exact ald_agg rfl rfl rfl (by assumption) rfl)); (conv => whnf)) | (apply bIf.yes; (first | assumption | rfl); (conv => whnf)) | (apply bIf.no; (first | assumption | rfl); (conv => whnf)) | ((with_reducible refine Ob.load (by with_unfolding_all assumption) ?_); (conv => whnf)) | (apply Grows.mk; (first | exact Grow.refl _ | assumption); (conv => whnf)))))
    refine SW.loop (α := Unit) (fun _ => [(2, .pointer (some ⟨q1, 0, none⟩)), (3, .pointer (some ⟨q2, 0, none⟩)), (5, .int .i64 (m : Int)), (6, .pointer (some ⟨pa, 0, none⟩)), (7, .pointer (some ⟨pb, 0, none⟩)), (8, .int .i64 0)]) (fun _ X => Grow K X) (fun _ => 0) ⟨(), ⟨rfl, rfl, rfl, rfl, rfl, rfl, trivial⟩, .refl _⟩ ?_
    rintro _ H4 g4
    refine bC_sound _ _ _ _ ?_
    have k1 := g4.hblk ha'
    have k2 := g4.hblk hb'
    (try (conv => whnf)); (repeat ((fail_if_success (with_reducible refine And.intro ?_ ?_)); (fail_if_success (with_reducible refine Exists.intro ?_ ?_)); (first | (apply Ob.of; (first | with_reducible assumption | with_reducible exact ex20 _ _ | with_reducible exact ex21 _ _ | with_reducible exact ex30 _ _ _ | with_reducible exact ex31 _ _ _ | with_reducible exact ex32 _ _ _ | rfl | (exact ald rfl rfl (by assumption) rfl) | (exact ald_agg rfl rfl rfl (by assumption) rfl)); (conv => whnf)) | (apply bIf.yes; (first | assumption | rfl); (conv => whnf)) | (apply bIf.no; (first | assumption | rfl); (conv => whnf)) | ((with_reducible refine Ob.load (by with_unfolding_all assumption) ?_); (conv => whnf)) | (apply Grows.mk; (first | exact Grow.refl _ | assumption); (conv => whnf)))))
    exact ⟨m + 1, ⟨rfl, rfl, congrArg (fun z => some (Value.int .i64 z)) (w_succ (by omega)), trivial⟩, ⟨hml, (g3.trans hk).trans g4⟩, by show s.ops.length - (m + 1) < s.ops.length - m; omega⟩
  have d1 : decide ((m : Int) < (s.ops.length : Int)) = false := decide_eq_false (by omega)
  (try (conv => whnf)); (repeat ((fail_if_success (with_reducible refine And.intro ?_ ?_)); (fail_if_success (with_reducible refine Exists.intro ?_ ?_)); (first | (apply Ob.of; (first | with_reducible assumption | with_reducible exact ex20 _ _ | with_reducible exact ex21 _ _ | with_reducible exact ex30 _ _ _ | with_reducible exact ex31 _ _ _ | with_reducible exact ex32 _ _ _ | rfl | (exact ald rfl rfl (by assumption) rfl) | (exact ald_agg rfl rfl rfl (by assumption) rfl)); (conv => whnf)) | (apply bIf.yes; (first | assumption | rfl); (conv => whnf)) | (apply bIf.no; (first | assumption | rfl); (conv => whnf)) | ((with_reducible refine Ob.load (by with_unfolding_all assumption) ?_); (conv => whnf)) | (apply Grows.mk; (first | exact Grow.refl _ | assumption); (conv => whnf)))))
  refine SW.loop (α := Unit) (fun m => [(2, .pointer (some ⟨q1, 0, none⟩)), (3, .pointer (some ⟨q2, 0, none⟩)), (9, .int .i64 0)]) (fun m X => Grow H2 X) (fun m => 0) ⟨(), ⟨rfl, rfl, rfl, trivial⟩, g3⟩ ?_
  rintro _ H4 g4
  refine bC_sound _ _ _ _ ?_
  have c1 := g4.hblk b1
  have c2 := g4.hblk b2
  (try (conv => whnf)); (repeat ((fail_if_success (with_reducible refine And.intro ?_ ?_)); (fail_if_success (with_reducible refine Exists.intro ?_ ?_)); (first | (apply Ob.of; (first | with_reducible assumption | with_reducible exact ex20 _ _ | with_reducible exact ex21 _ _ | with_reducible exact ex30 _ _ _ | with_reducible exact ex31 _ _ _ | with_reducible exact ex32 _ _ _ | rfl | (exact ald rfl rfl (by assumption) rfl) | (exact ald_agg rfl rfl rfl (by assumption) rfl)); (conv => whnf)) | (apply bIf.yes; (first | assumption | rfl); (conv => whnf)) | (apply bIf.no; (first | assumption | rfl); (conv => whnf)) | ((with_reducible refine Ob.load (by with_unfolding_all assumption) ?_); (conv => whnf)) | (apply Grows.mk; (first | exact Grow.refl _ | assumption); (conv => whnf)))))
  exact ⟨rfl, g.trans g4⟩
theorem places_len {pool : List ByteArray} {c : CodeT} {L : List Int} (h : Closed c L) : (bodyL pool c L).places.length = c.ins.length :=
  (run_len (pool := pool) (c := c) (L := L) c.ins.length (Nat.le_refl _) (by rw [h.inv.len]; exact Nat.le_refl _)).1
theorem LiftS.small {p : ProgT} {f F R e : Int} {s : LS} (h : LiftS p f F R s e) (hf : FewP p) : s.places.length < 4294967296 ∧ s.ops.length ≤ 400 ∧ s.consts.length ≤ 400 := by
  rcases h with ⟨c, L, h0, h1, h2, rfl, rfl, rfl, rfl⟩ | ⟨h0, rfl, rfl, rfl, rfl⟩
  · have := hf.2.2 c (List.mem_of_getElem? h1)
    have hr := run_len (pool := p.2.1) (c := c) (L := L) c.ins.length (Nat.le_refl _) (by rw [h2.inv.len]; exact Nat.le_refl _)
    rw [places_len h2]
    have ho : (bodyL p.2.1 c L).ops.length = (runL p.2.1 c L c.ins.length).ops.length := List.length_map ..
    have hc : (bodyL p.2.1 c L).consts = (runL p.2.1 c L c.ins.length).consts := rfl
    rw [ho, hc]
    have := hr.2
    omega
  · simp
theorem LiftS.regs {p : ProgT} {f F R e : Int} {s : LS} (h : LiftS p f F R s e) : ∀ o ∈ s.ops, o.regs.length ≤ 64 ∧ o.map.length ≤ 64 := by
  rcases h with ⟨c, L, h0, h1, h2, rfl, rfl, rfl, rfl⟩ | ⟨h0, rfl, rfl, rfl, rfl⟩
  · have hr := h0.2.2.2.2.2.2.2.2 _ c h1
    have hlim := hr.1
    unfold Lim at hlim
    have hll := h2.inv.len
    refine body_regs fun i d hd => ?_
    by_cases hd0 : d < 0
    · omega
    obtain ⟨x, hx⟩ := get_lt (L := c.ins) (m := i) (by have := lt_of_get hd; omega)
    have hfi := h2.fine i d x hd (by omega) hx
    have hdeep := (aims_right hr).2.2.2.1
    omega
  · intro o ho
    simp at ho
end Go.Proofs.Ytdlanbfbbopfhaa
/- Ticks: the sum over a body's operations is the sum over the instructions that are come to. -/
set_option linter.unusedVariables false
set_option linter.unusedSimpArgs false
set_option maxRecDepth 20000
set_option maxHeartbeats 8000000
namespace Go.Proofs.Ytdlanbfbbopfhaa
open Go Ax
def addO (n : Int) (o : OpT) : Int := if o.kind = 1 then IntKind.i64.wrap (n + o.a) else n
def sumO (l : List OpT) : Int := l.foldl addO 0
def sumI (c : CodeT) (L : List Int) : Nat → Int
  | 0 => 0
  | n + 1 => match c.ins[n]?, L[n]? with | some x, some d => if 0 ≤ d ∧ x.1 = 1 then IntKind.i64.wrap (sumI c L n + x.2.1) else sumI c L n | _, _ => sumI c L n
theorem one_kind (x : Ins) (t : Int) : (x.1 = 1 → (oneL x t).kind = 1 ∧ (oneL x t).a = x.2.1) ∧ (x.1 ≠ 1 → (oneL x t).kind ≠ 1) := by
  refine ⟨fun h => by unfold oneL; dsimp only; rw [if_pos h]; exact ⟨rfl, rfl⟩, fun h => ?_⟩
  show (fun o : OpT => o.kind ≠ 1) (oneL x t)
  unfold oneL
  rw [if_neg h]
  repeat (refine ite_ind (P := fun o : OpT => o.kind ≠ 1) (by simp) ?_)
  simp
theorem sumO_push (l : List OpT) (o : OpT) : sumO (l ++ [o]) = addO (sumO l) o := by unfold sumO; rw [List.foldl_append]; rfl
theorem sum_run {pool : List ByteArray} {c : CodeT} {L : List Int} : ∀ n : Nat, sumO (runL pool c L n).ops = sumI c L n := by
  intro n
  induction n with
  | zero => rfl
  | succ n ih =>
    unfold runL sumI
    cases hx : c.ins[n]? with
    | none => exact ih
    | some x =>
      cases hd : L[n]? with
      | none => exact ih
      | some d =>
        dsimp only
        unfold stepL
        by_cases hd0 : d < 0
        · rw [if_pos hd0, if_neg (by omega)]
          exact ih
        · rw [if_neg hd0]
          unfold instrL
          by_cases h31 : x.1 = 31
          · rw [if_pos h31, if_neg (by omega)]
            exact ih
          · rw [if_neg h31]
            split
            · rename_i v hv
              have hne : x.1 ≠ 1 := by intro e; simp [constL, e] at hv
              rw [if_neg (by omega)]
              show sumO ((runL pool c L n).ops ++ [_]) = _
              rw [sumO_push, ih]
              rfl
            · show sumO ((runL pool c L n).ops ++ [_]) = _
              rw [sumO_push, ih]
              obtain ⟨k1, k2⟩ := one_kind x (c.2.1 + d)
              by_cases h1 : x.1 = 1
              · rw [if_pos ⟨by omega, h1⟩]
                obtain ⟨k3, k4⟩ := k1 h1
                unfold addO
                rw [if_pos k3]
                show IntKind.i64.wrap (_ + (oneL x (c.2.1 + d)).a) = _
                rw [k4]
              · rw [if_neg (by omega)]
                unfold addO
                rw [if_neg (k2 h1)]
theorem addO_patch (n : Int) (P : List Int) (o : OpT) : addO n (patch1 P o) = addO n o := by
  unfold patch1
  split
  · rename_i h
    have := of_decide_eq_true h
    unfold addO
    dsimp only
    rw [if_neg (by omega), if_neg (by omega)]
  · rfl
theorem sum_patch (P : List Int) : ∀ (l : List OpT) (n : Int), (l.map (patch1 P)).foldl addO n = l.foldl addO n := by
  intro l
  induction l with
  | nil => intro n; rfl
  | cons o l ih => intro n; rw [List.map_cons, List.foldl_cons, List.foldl_cons, addO_patch, ih]
theorem sum_body {pool : List ByteArray} {c : CodeT} {L : List Int} : sumO (bodyL pool c L).ops = sumI c L c.ins.length := by
  unfold bodyL
  show sumO (((runL pool c L c.ins.length).ops).map _) = _
  unfold sumO
  rw [sum_patch]
  exact sum_run _
theorem sumO_take {l : List OpT} {m : Nat} {o : OpT} (h : l[m]? = some o) : sumO (l.take (m + 1)) = addO (sumO (l.take m)) o := by
  rw [List.take_add_one, h, ← sumO_push]
  rfl
theorem ld_opF {pb : Nat} {H : Heap} {sv : Value} {L : List OpT} (h : RL 9 (opR pb) H sv L) {i : Nat} {x : OpT} (hx : L[i]? = some x) :
    ∃ b, aindexAddr Try.prog 29 sv (.int .i64 (i : Int)) = some (.pointer (some ⟨b, i * 9, none⟩)) ∧ ∀ H', Grow H H' → aload Try.prog 3 (.pointer (some ⟨b, i * 9, none⟩)) H' = some (.int .i64 x.kind) ∧ aload Try.prog 3 (.pointer (some ⟨b, i * 9 + 1, none⟩)) H' = some (.int .i64 x.a) := by
  obtain ⟨b, c, l, h1, h2, h3, rv, mv, rfl, _, _⟩ := h.at (P := Try.prog) (t := 29) (e := 44) rfl rfl hx
  exact ⟨b, h1, fun H' g => ⟨ald rfl rfl (g.hblk h2) (slots_get (j := 0) h3 rfl), ald rfl rfl (g.hblk h2) (slots_get (j := 1) h3 rfl)⟩⟩
theorem ld_insF {H : Heap} {sv : Value} {L : List Ins} (h : RL 3 insR H sv L) {i : Nat} {x : Ins} (hx : L[i]? = some x) :
    ∃ b, aindexAddr Try.prog 47 sv (.int .i64 (i : Int)) = some (.pointer (some ⟨b, i * 3, none⟩)) ∧ ∀ H', Grow H H' → aload Try.prog 3 (.pointer (some ⟨b, i * 3, none⟩)) H' = some (.int .i64 x.1) ∧ aload Try.prog 3 (.pointer (some ⟨b, i * 3 + 1, none⟩)) H' = some (.int .i64 x.2.1) := by
  obtain ⟨b, c, l, h1, h2, h3, h4⟩ := h.at (P := Try.prog) (t := 47) (e := 46) rfl rfl hx
  have h5 : l = [.int .i64 x.1, .int .i64 x.2.1, .int .i64 x.2.2] := h4
  subst h5
  exact ⟨b, h1, fun H' g => ⟨ald rfl rfl (g.hblk h2) (slots_get (j := 0) h3 rfl), ald rfl rfl (g.hblk h2) (slots_get (j := 1) h3 rfl)⟩⟩
end Go.Proofs.Ytdlanbfbbopfhaa
