/- The law LiftMay told of abstract memory: it answers true for every program. No condition. -/
import Derived.Test.YtdlanbfbbopfhaaJLi4
set_option linter.unusedVariables false
set_option linter.unusedSimpArgs false
set_option maxRecDepth 20000
set_option maxHeartbeats 8000000
namespace Go.Proofs.Ytdlanbfbbopfhaa
open Go Ax
theorem body_in {H : Heap} {cv ov : Value} {pb : Nat} {F R : Int} {s : LS} (hc : RL 3 valR H cv s.consts) (ho : RL 9 (opR pb) H ov s.ops) : BodyIn H (bodyX F R s) cv ov (.slice none 0 0) := by
  refine ⟨hc, ?_, .inl ⟨rfl, rfl⟩⟩
  have key : ∀ l o, opR pb H l o → opxR H l (toX o) := fun l o h => by
    obtain ⟨rv, mv, h1, h2, h3⟩ := h
    exact ⟨rv, .slice none 0 0, mv, h1, h2.1.rl, .inl ⟨rfl, rfl⟩, h3.1.rl⟩
  show RL 9 opxR H ov (s.ops.map toX)
  rcases ho with ⟨h1, h2⟩ | ⟨b, h1, h2 | ⟨m, c, h2, h3⟩⟩
  · exact .inl ⟨h1, by rw [h2]; rfl⟩
  · exact .inr ⟨b, by rw [h1, List.length_map], .inl (by rw [h2]; rfl)⟩
  · refine .inr ⟨b, by rw [h1, List.length_map], .inr ⟨m, c, h2, fun i x hx => ?_⟩⟩
    rw [List.getElem?_map, Option.map_eq_some_iff] at hx
    obtain ⟨o, ho, rfl⟩ := hx
    obtain ⟨l, k1, k2⟩ := h3 i o ho
    exact ⟨l, k1, key l o k2⟩
theorem ld_opPc {pb : Nat} {H : Heap} {sv : Value} {L : List OpT} (h : RL 9 (opR pb) H sv L) {i : Nat} {x : OpT} (hx : L[i]? = some x) :
    ∃ b, aindexAddr Try.prog 29 sv (.int .i64 (i : Int)) = some (.pointer (some ⟨b, i * 9, none⟩)) ∧ ∀ H', Grow H H' → aload Try.prog 3 (.pointer (some ⟨b, i * 9 + 7, none⟩)) H' = some (.int .i64 x.pc) := by
  obtain ⟨b, c, l, h1, h2, h3, rv, mv, rfl, _⟩ := h.at (P := Try.prog) (t := 29) (e := 44) rfl rfl hx
  exact ⟨b, h1, fun H' g => ald rfl rfl (g.hblk h2) (slots_get (j := 7) h3 rfl)⟩
theorem LiftMay_ax (H : Heap) (c0 : List Value) (x0 : (Int) × (List (ByteArray)) × (List ((Int) × (Int) × (Int) × (Int) × (List ((Int) × (Int) × (Int)))))) (hn : NoOwn H) (R0 : ty25.R H c0 x0) (o0 : ty25.ok x0) :
    AX Try.prog 6 #[argS c0] H fun v _ => v = .bool true := by
  obtain ⟨ps, cs, e0, hp, hcs⟩ := prog_of R0
  rw [e0]
  show AX Try.prog 6 #[progV x0 ps cs] H fun v _ => v = .bool true
  refine AX.body (n := 72) (rs := [.tmp 2]) Try.func6 rfl (by decide) rfl rfl (bC_sound _ _ _ _ ?_)
  (conv => whnf)
  refine Ob2.box rfl fun q1 H1 hq1 a1 g1 => ?_
  have b1 := hblk_of a1
  have lp : ∀ X, Grow H1 X → aload Try.prog 25 (.pointer (some ⟨q1, 0, none⟩)) X = some (progV x0 ps cs) := fun X g => ald_agg rfl rfl rfl (g.hblk b1) rfl
  have lp1 := lp H1 (.refl _)
  (try (conv => whnf)); (repeat ((fail_if_success (with_reducible refine And.intro ?_ ?_)); (fail_if_success (with_reducible refine Exists.intro ?_ ?_)); (first | (apply Ob.of; (first | with_reducible assumption | with_reducible exact ex20 _ _ | with_reducible exact ex21 _ _ | with_reducible exact ex30 _ _ _ | with_reducible exact ex31 _ _ _ | with_reducible exact ex32 _ _ _ | rfl | (exact ald rfl rfl (by assumption) rfl) | (exact ald_agg rfl rfl rfl (by assumption) rfl)); (conv => whnf)) | (apply bIf.yes; (first | assumption | rfl); (conv => whnf)) | (apply bIf.no; (first | assumption | rfl); (conv => whnf)) | ((with_reducible refine Ob.load (by with_unfolding_all assumption) ?_); (conv => whnf)) | (apply Grows.mk; (first | exact Grow.refl _ | assumption); (conv => whnf)))))
  refine (few_ax (strR.grow hp g1) (codeR.grow hcs g1)).mono ?_
  rintro _ X ⟨⟨b, rfl, hf⟩, e⟩
  subst X
  cases b with
  | false =>
    (try (conv => whnf)); (repeat ((fail_if_success (with_reducible refine And.intro ?_ ?_)); (fail_if_success (with_reducible refine Exists.intro ?_ ?_)); (first | (apply Ob.of; (first | with_reducible assumption | with_reducible exact ex20 _ _ | with_reducible exact ex21 _ _ | with_reducible exact ex30 _ _ _ | with_reducible exact ex31 _ _ _ | with_reducible exact ex32 _ _ _ | rfl | (exact ald rfl rfl (by assumption) rfl) | (exact ald_agg rfl rfl rfl (by assumption) rfl)); (conv => whnf)) | (apply bIf.yes; (first | assumption | rfl); (conv => whnf)) | (apply bIf.no; (first | assumption | rfl); (conv => whnf)) | ((with_reducible refine Ob.load (by with_unfolding_all assumption) ?_); (conv => whnf)) | (apply Grows.mk; (first | exact Grow.refl _ | assumption); (conv => whnf)))))
    refine (worksL_ax H1).mono ?_
    rintro _ X rfl
    (try (conv => whnf)); (repeat ((fail_if_success (with_reducible refine And.intro ?_ ?_)); (fail_if_success (with_reducible refine Exists.intro ?_ ?_)); (first | (apply Ob.of; (first | with_reducible assumption | with_reducible exact ex20 _ _ | with_reducible exact ex21 _ _ | with_reducible exact ex30 _ _ _ | with_reducible exact ex31 _ _ _ | with_reducible exact ex32 _ _ _ | rfl | (exact ald rfl rfl (by assumption) rfl) | (exact ald_agg rfl rfl rfl (by assumption) rfl)); (conv => whnf)) | (apply bIf.yes; (first | assumption | rfl); (conv => whnf)) | (apply bIf.no; (first | assumption | rfl); (conv => whnf)) | ((with_reducible refine Ob.load (by with_unfolding_all assumption) ?_); (conv => whnf)) | (apply Grows.mk; (first | exact Grow.refl _ | assumption); (conv => whnf)))))
    rfl
  | true =>
    have hf := hf rfl
    have hL := hf.small.1
    (try (conv => whnf)); (repeat ((fail_if_success (with_reducible refine And.intro ?_ ?_)); (fail_if_success (with_reducible refine Exists.intro ?_ ?_)); (first | (apply Ob.of; (first | with_reducible assumption | with_reducible exact ex20 _ _ | with_reducible exact ex21 _ _ | with_reducible exact ex30 _ _ _ | with_reducible exact ex31 _ _ _ | with_reducible exact ex32 _ _ _ | rfl | (exact ald rfl rfl (by assumption) rfl) | (exact ald_agg rfl rfl rfl (by assumption) rfl)); (conv => whnf)) | (apply bIf.yes; (first | assumption | rfl); (conv => whnf)) | (apply bIf.no; (first | assumption | rfl); (conv => whnf)) | ((with_reducible refine Ob.load (by with_unfolding_all assumption) ?_); (conv => whnf)) | (apply Grows.mk; (first | exact Grow.refl _ | assumption); (conv => whnf)))))
    refine (rcheck_ax (strR.grow hp g1) (codeR.grow hcs g1) hL).mono ?_
    rintro v X ⟨hv, e⟩
    subst X
    rcases hv with ⟨rfl, hck⟩ | ⟨rfl, hv⟩
    rotate_left
    · (try (conv => whnf)); (repeat ((fail_if_success (with_reducible refine And.intro ?_ ?_)); (fail_if_success (with_reducible refine Exists.intro ?_ ?_)); (first | (apply Ob.of; (first | with_reducible assumption | with_reducible exact ex20 _ _ | with_reducible exact ex21 _ _ | with_reducible exact ex30 _ _ _ | with_reducible exact ex31 _ _ _ | with_reducible exact ex32 _ _ _ | rfl | (exact ald rfl rfl (by assumption) rfl) | (exact ald_agg rfl rfl rfl (by assumption) rfl)); (conv => whnf)) | (apply bIf.yes; (first | assumption | rfl); (conv => whnf)) | (apply bIf.no; (first | assumption | rfl); (conv => whnf)) | ((with_reducible refine Ob.load (by with_unfolding_all assumption) ?_); (conv => whnf)) | (apply Grows.mk; (first | exact Grow.refl _ | assumption); (conv => whnf)))))
      refine (worksL_ax H1).mono ?_
      rintro _ X rfl
      (try (conv => whnf)); (repeat ((fail_if_success (with_reducible refine And.intro ?_ ?_)); (fail_if_success (with_reducible refine Exists.intro ?_ ?_)); (first | (apply Ob.of; (first | with_reducible assumption | with_reducible exact ex20 _ _ | with_reducible exact ex21 _ _ | with_reducible exact ex30 _ _ _ | with_reducible exact ex31 _ _ _ | with_reducible exact ex32 _ _ _ | rfl | (exact ald rfl rfl (by assumption) rfl) | (exact ald_agg rfl rfl rfl (by assumption) rfl)); (conv => whnf)) | (apply bIf.yes; (first | assumption | rfl); (conv => whnf)) | (apply bIf.no; (first | assumption | rfl); (conv => whnf)) | ((with_reducible refine Ob.load (by with_unfolding_all assumption) ?_); (conv => whnf)) | (apply Grows.mk; (first | exact Grow.refl _ | assumption); (conv => whnf)))))
      rfl
    (try (conv => whnf)); (repeat ((fail_if_success (with_reducible refine And.intro ?_ ?_)); (fail_if_success (with_reducible refine Exists.intro ?_ ?_)); (first | (apply Ob.of; (first | with_reducible assumption | with_reducible exact ex20 _ _ | with_reducible exact ex21 _ _ | with_reducible exact ex30 _ _ _ | with_reducible exact ex31 _ _ _ | with_reducible exact ex32 _ _ _ | rfl | (exact ald rfl rfl (by assumption) rfl) | (exact ald_agg rfl rfl rfl (by assumption) rfl)); (conv => whnf)) | (apply bIf.yes; (first | assumption | rfl); (conv => whnf)) | (apply bIf.no; (first | assumption | rfl); (conv => whnf)) | ((with_reducible refine Ob.load (by with_unfolding_all assumption) ?_); (conv => whnf)) | (apply Grows.mk; (first | exact Grow.refl _ | assumption); (conv => whnf)))))
    refine SW.loop (α := Nat) (fun m => [(1, .pointer (some ⟨q1, 0, none⟩)), (3, .int .i64 (m : Int))]) (fun m H' => m ≤ x0.2.2.length ∧ Grow H1 H') (fun m => x0.2.2.length - m) ⟨0, ⟨rfl, rfl, trivial⟩, by omega, .refl _⟩ ?_
    rintro m H2 ⟨hm, g2⟩
    refine bC_sound _ _ _ _ ?_
    have b2 := g2.hblk b1
    have g12 := g1.trans g2
    have lp2 := lp H2 g2
    have l2 : alen Try.prog 23 cs H2 = some (.int .i64 x0.2.2.length) := hcs.len rfl _
    by_cases hml : m < x0.2.2.length
    rotate_left
    · have d2 : decide ((m : Int) < (x0.2.2.length : Int)) = false := decide_eq_false (by omega)
      (try (conv => whnf)); (repeat ((fail_if_success (with_reducible refine And.intro ?_ ?_)); (fail_if_success (with_reducible refine Exists.intro ?_ ?_)); (first | (apply Ob.of; (first | with_reducible assumption | with_reducible exact ex20 _ _ | with_reducible exact ex21 _ _ | with_reducible exact ex30 _ _ _ | with_reducible exact ex31 _ _ _ | with_reducible exact ex32 _ _ _ | rfl | (exact ald rfl rfl (by assumption) rfl) | (exact ald_agg rfl rfl rfl (by assumption) rfl)); (conv => whnf)) | (apply bIf.yes; (first | assumption | rfl); (conv => whnf)) | (apply bIf.no; (first | assumption | rfl); (conv => whnf)) | ((with_reducible refine Ob.load (by with_unfolding_all assumption) ?_); (conv => whnf)) | (apply Grows.mk; (first | exact Grow.refl _ | assumption); (conv => whnf)))))
      refine (worksL_ax H2).mono ?_
      rintro _ X rfl
      (try (conv => whnf)); (repeat ((fail_if_success (with_reducible refine And.intro ?_ ?_)); (fail_if_success (with_reducible refine Exists.intro ?_ ?_)); (first | (apply Ob.of; (first | with_reducible assumption | with_reducible exact ex20 _ _ | with_reducible exact ex21 _ _ | with_reducible exact ex30 _ _ _ | with_reducible exact ex31 _ _ _ | with_reducible exact ex32 _ _ _ | rfl | (exact ald rfl rfl (by assumption) rfl) | (exact ald_agg rfl rfl rfl (by assumption) rfl)); (conv => whnf)) | (apply bIf.yes; (first | assumption | rfl); (conv => whnf)) | (apply bIf.no; (first | assumption | rfl); (conv => whnf)) | ((with_reducible refine Ob.load (by with_unfolding_all assumption) ?_); (conv => whnf)) | (apply Grows.mk; (first | exact Grow.refl _ | assumption); (conv => whnf)))))
      rfl
    have d2 : decide ((m : Int) < (x0.2.2.length : Int)) = true := decide_eq_true (by omega)
    (try (conv => whnf)); (repeat ((fail_if_success (with_reducible refine And.intro ?_ ?_)); (fail_if_success (with_reducible refine Exists.intro ?_ ?_)); (first | (apply Ob.of; (first | with_reducible assumption | with_reducible exact ex20 _ _ | with_reducible exact ex21 _ _ | with_reducible exact ex30 _ _ _ | with_reducible exact ex31 _ _ _ | with_reducible exact ex32 _ _ _ | rfl | (exact ald rfl rfl (by assumption) rfl) | (exact ald_agg rfl rfl rfl (by assumption) rfl)); (conv => whnf)) | (apply bIf.yes; (first | assumption | rfl); (conv => whnf)) | (apply bIf.no; (first | assumption | rfl); (conv => whnf)) | ((with_reducible refine Ob.load (by with_unfolding_all assumption) ?_); (conv => whnf)) | (apply Grows.mk; (first | exact Grow.refl _ | assumption); (conv => whnf)))))
    refine (Lift_ax (strR.grow hp g12) (codeR.grow hcs g12) hL _).mono ?_
    rintro _ H3 ⟨⟨bv, F, R, s, e, rfl, ⟨cv, ov, pb, rfl, hc, ho⟩, hs⟩, g3⟩
    have hsm := hs.small hf
    rcases hs with ⟨c, L, hfit, hci, hcl, rfl, rfl, rfl, rfl⟩ | ⟨hfit, _⟩
    rotate_left
    · exact absurd ⟨by omega, by omega, hck⟩ hfit
    rw [Int.toNat_natCast] at hci
    obtain ⟨ca, cn, ck, rfl⟩ : ∃ a n k, cv = .slice a n k := by rcases hc with ⟨h, _⟩ | ⟨b, h, _⟩ <;> exact ⟨_, _, _, h⟩
    obtain ⟨oa, on, ok, rfl⟩ : ∃ a n k, ov = .slice a n k := by rcases ho with ⟨h, _⟩ | ⟨b, h, _⟩ <;> exact ⟨_, _, _, h⟩
    have hmay := body_may hck hci hcl
    have hvals : ValsP (bodyL x0.2.1 c L).consts := by obtain ⟨_, _, _, _, _, _, hv, _⟩ := hmay; exact hv
    have hregs := LiftS.regs (.inl ⟨c, L, hfit, by rw [Int.toNat_natCast]; exact hci, hcl, rfl, rfl, rfl, rfl⟩ : LiftS x0 (m : Int) (m : Int) (c.2.1 + c.2.2.2.1) (bodyL x0.2.1 c L) 0)
    have hsB : SmallB (bodyX (m : Int) (c.2.1 + c.2.2.2.1) (bodyL x0.2.1 c L)) := by
      refine ⟨fun v hv => ?_, by show (bodyL x0.2.1 c L).consts.length < _; omega, by show ((bodyL x0.2.1 c L).ops.map toX).length < _; rw [List.length_map]; omega, by show 0 < 4294967296; decide, fun o ho => ?_⟩
      · have := hvals v hv
        unfold ValP at this
        omega
      · obtain ⟨o1, h1, rfl⟩ := List.mem_map.1 ho
        have := hregs o1 h1
        exact ⟨by show o1.regs.length < _; omega, by show 0 < _; decide, by show o1.map.length < _; omega⟩
    (try (conv => whnf)); (repeat ((fail_if_success (with_reducible refine And.intro ?_ ?_)); (fail_if_success (with_reducible refine Exists.intro ?_ ?_)); (first | (apply Ob.of; (first | with_reducible assumption | with_reducible exact ex20 _ _ | with_reducible exact ex21 _ _ | with_reducible exact ex30 _ _ _ | with_reducible exact ex31 _ _ _ | with_reducible exact ex32 _ _ _ | rfl | (exact ald rfl rfl (by assumption) rfl) | (exact ald_agg rfl rfl rfl (by assumption) rfl)); (conv => whnf)) | (apply bIf.yes; (first | assumption | rfl); (conv => whnf)) | (apply bIf.no; (first | assumption | rfl); (conv => whnf)) | ((with_reducible refine Ob.load (by with_unfolding_all assumption) ?_); (conv => whnf)) | (apply Grows.mk; (first | exact Grow.refl _ | assumption); (conv => whnf)))))
    refine Ob2.alloc rfl fun q4 H4 hq4 a4 g4 => ?_
    (try (conv => whnf)); (repeat ((fail_if_success (with_reducible refine And.intro ?_ ?_)); (fail_if_success (with_reducible refine Exists.intro ?_ ?_)); (first | (apply Ob.of; (first | with_reducible assumption | with_reducible exact ex20 _ _ | with_reducible exact ex21 _ _ | with_reducible exact ex30 _ _ _ | with_reducible exact ex31 _ _ _ | with_reducible exact ex32 _ _ _ | rfl | (exact ald rfl rfl (by assumption) rfl) | (exact ald_agg rfl rfl rfl (by assumption) rfl)); (conv => whnf)) | (apply bIf.yes; (first | assumption | rfl); (conv => whnf)) | (apply bIf.no; (first | assumption | rfl); (conv => whnf)) | ((with_reducible refine Ob.load (by with_unfolding_all assumption) ?_); (conv => whnf)) | (apply Grows.mk; (first | exact Grow.refl _ | assumption); (conv => whnf)))))
    refine Ob.store rfl rfl rfl a4 rfl (by first | exact Nat.le_of_ble_eq_true rfl | simp) fun H5 s5 k5 l5 => ?_
    have g35 : Grow H3 H5 := g4.but_new k5 (by omega)
    have g25 := g3.trans g35
    have g15 := g12.trans g25
    have lp5 := lp H5 (g2.trans g25)
    have b5 := hblk_of s5
    have lb5 : aload Try.prog 32 (.pointer (some ⟨q4, 0, none⟩)) H5 = some (bodyV (bodyX (m : Int) (c.2.1 + c.2.2.2.1) (bodyL x0.2.1 c L)) (.slice ca cn ck) (.slice oa on ok) (.slice none 0 0)) := ald_agg rfl rfl rfl b5 rfl
    (try (conv => whnf)); (repeat ((fail_if_success (with_reducible refine And.intro ?_ ?_)); (fail_if_success (with_reducible refine Exists.intro ?_ ?_)); (first | (apply Ob.of; (first | with_reducible assumption | with_reducible exact ex20 _ _ | with_reducible exact ex21 _ _ | with_reducible exact ex30 _ _ _ | with_reducible exact ex31 _ _ _ | with_reducible exact ex32 _ _ _ | rfl | (exact ald rfl rfl (by assumption) rfl) | (exact ald_agg rfl rfl rfl (by assumption) rfl)); (conv => whnf)) | (apply bIf.yes; (first | assumption | rfl); (conv => whnf)) | (apply bIf.no; (first | assumption | rfl); (conv => whnf)) | ((with_reducible refine Ob.load (by with_unfolding_all assumption) ?_); (conv => whnf)) | (apply Grows.mk; (first | exact Grow.refl _ | assumption); (conv => whnf)))))
    refine (irCheck_ax (strR.grow hp g15) (codeR.grow hcs g15) hL ((body_in hc ho).grow g35) hsB).mono ?_
    rintro _ X ⟨hv, e⟩
    subst X
    rcases hv with ⟨rfl, _⟩ | ⟨rfl, hbad⟩
    rotate_left
    · exact absurd hmay hbad
    have dm : (!((m : Int) == (m : Int))) = false := by simp
    (try (conv => whnf)); (repeat ((fail_if_success (with_reducible refine And.intro ?_ ?_)); (fail_if_success (with_reducible refine Exists.intro ?_ ?_)); (first | (apply Ob.of; (first | with_reducible assumption | with_reducible exact ex20 _ _ | with_reducible exact ex21 _ _ | with_reducible exact ex30 _ _ _ | with_reducible exact ex31 _ _ _ | with_reducible exact ex32 _ _ _ | rfl | (exact ald rfl rfl (by assumption) rfl) | (exact ald_agg rfl rfl rfl (by assumption) rfl)); (conv => whnf)) | (apply bIf.yes; (first | assumption | rfl); (conv => whnf)) | (apply bIf.no; (first | assumption | rfl); (conv => whnf)) | ((with_reducible refine Ob.load (by with_unfolding_all assumption) ?_); (conv => whnf)) | (apply Grows.mk; (first | exact Grow.refl _ | assumption); (conv => whnf)))))
    have lo : ∀ X, alen Try.prog 29 (.slice oa on ok) X = some (.int .i64 (bodyL x0.2.1 c L).ops.length) := fun X => ho.len rfl _
    refine SW.loop (α := Nat × Int) (fun y => [(1, .pointer (some ⟨q1, 0, none⟩)), (3, .int .i64 (m : Int)), (4, .pointer (some ⟨q4, 0, none⟩)), (6, .int .i64 y.2), (7, .int .i64 (y.1 : Int))])
      (fun y X => X = H5 ∧ y.1 ≤ (bodyL x0.2.1 c L).ops.length ∧ ∀ o, (bodyL x0.2.1 c L).ops[y.1]? = some o → y.2 < o.pc) (fun y => (bodyL x0.2.1 c L).ops.length - y.1)
      ⟨(0, -1), ⟨rfl, rfl, rfl, rfl, rfl, trivial⟩, rfl, by show 0 ≤ _; omega, fun o ho => by have := body_pc0 hcl ho; show -1 < _; omega⟩ ?_
    rintro ⟨k, last⟩ X ⟨e, hk, hlast⟩
    subst X
    dsimp only at hk hlast ⊢
    refine bC_sound _ _ _ _ ?_
    have lo5 := lo H5
    by_cases hkl : k < (bodyL x0.2.1 c L).ops.length
    · have d5 : decide ((k : Int) < ((bodyL x0.2.1 c L).ops.length : Int)) = true := decide_eq_true (by omega)
      obtain ⟨o, hoo⟩ := get_lt hkl
      obtain ⟨b, i1, i2⟩ := ld_opPc ho hoo
      have i3 := i2 H5 g35
      have wk : IntKind.i64.wrap ((k : Int) + 1) = ((k + 1 : Nat) : Int) := w_succ (by omega)
      have d6 : decide (o.pc ≤ last) = false := decide_eq_false (by have := hlast o hoo; omega)
      (try (conv => whnf)); (repeat ((fail_if_success (with_reducible refine And.intro ?_ ?_)); (fail_if_success (with_reducible refine Exists.intro ?_ ?_)); (first | (apply Ob.of; (first | with_reducible assumption | with_reducible exact ex20 _ _ | with_reducible exact ex21 _ _ | with_reducible exact ex30 _ _ _ | with_reducible exact ex31 _ _ _ | with_reducible exact ex32 _ _ _ | rfl | (exact ald rfl rfl (by assumption) rfl) | (exact ald_agg rfl rfl rfl (by assumption) rfl)); (conv => whnf)) | (apply bIf.yes; (first | assumption | rfl); (conv => whnf)) | (apply bIf.no; (first | assumption | rfl); (conv => whnf)) | ((with_reducible refine Ob.load (by with_unfolding_all assumption) ?_); (conv => whnf)) | (apply Grows.mk; (first | exact Grow.refl _ | assumption); (conv => whnf)))))
      exact ⟨(k + 1, o.pc), ⟨rfl, rfl, rfl, rfl, congrArg (fun z => some (Value.int .i64 z)) wk, trivial⟩, ⟨rfl, hkl, fun o' ho' => body_pc hcl hoo ho' (by omega)⟩, by show (bodyL x0.2.1 c L).ops.length - (k + 1) < (bodyL x0.2.1 c L).ops.length - k; omega⟩
    have d5 : decide ((k : Int) < ((bodyL x0.2.1 c L).ops.length : Int)) = false := decide_eq_false (by omega)
    (try (conv => whnf)); (repeat ((fail_if_success (with_reducible refine And.intro ?_ ?_)); (fail_if_success (with_reducible refine Exists.intro ?_ ?_)); (first | (apply Ob.of; (first | with_reducible assumption | with_reducible exact ex20 _ _ | with_reducible exact ex21 _ _ | with_reducible exact ex30 _ _ _ | with_reducible exact ex31 _ _ _ | with_reducible exact ex32 _ _ _ | rfl | (exact ald rfl rfl (by assumption) rfl) | (exact ald_agg rfl rfl rfl (by assumption) rfl)); (conv => whnf)) | (apply bIf.yes; (first | assumption | rfl); (conv => whnf)) | (apply bIf.no; (first | assumption | rfl); (conv => whnf)) | ((with_reducible refine Ob.load (by with_unfolding_all assumption) ?_); (conv => whnf)) | (apply Grows.mk; (first | exact Grow.refl _ | assumption); (conv => whnf)))))
    exact ⟨m + 1, ⟨rfl, congrArg (fun z => some (Value.int .i64 z)) (w_succ (by have := hf.1; omega)), trivial⟩, ⟨hml, g2.trans g25⟩, by show x0.2.2.length - (m + 1) < x0.2.2.length - m; omega⟩
end Go.Proofs.Ytdlanbfbbopfhaa
