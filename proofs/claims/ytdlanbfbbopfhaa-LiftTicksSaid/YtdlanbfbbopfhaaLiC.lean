import Derived.Test.YtdlanbfbbopfhaaLiB
/- The reference of lift, whole. (Printed by mk12.py.) -/
set_option linter.unusedVariables false
set_option linter.unusedSimpArgs false
set_option maxRecDepth 20000
set_option maxHeartbeats 8000000
namespace Go.Proofs.Ytdlanbfbbopfhaa
open Go Ax
theorem set_next {l : List Int} {k n : Nat} {v : Int} (h : l.length = n) (hk : n < k) : (l ++ List.replicate (k - n) 0).set n v = l ++ [v] ++ List.replicate (k - (n + 1)) 0 := by
  subst h
  rw [List.set_append_right _ _ (Nat.le_refl _), Nat.sub_self]
  obtain ⟨m, hm⟩ : ∃ m, k - l.length = m + 1 := ⟨k - l.length - 1, by omega⟩
  rw [hm, show k - (l.length + 1) = m by omega, List.replicate_succ, List.set_cons_zero]
  simp
theorem set_again {l r : List Int} {n : Nat} {a v : Int} (h : l.length = n) : (l ++ [a] ++ r).set n v = l ++ [v] ++ r := by
  subst h
  simp
theorem constL_no {pool : List ByteArray} {x : Ins} (h : constL pool x = Option.none) : x.1 ≠ 2 ∧ x.1 ≠ 3 ∧ x.1 ≠ 4 ∧ x.1 ≠ 5 ∧ x.1 ≠ 7 := by
  refine ⟨fun e => ?_, fun e => ?_, fun e => ?_, fun e => ?_, fun e => ?_⟩ <;> simp [constL, e] at h
theorem But.ofR {p n : Nat} {e : TypeId} {A B C : Heap} (h : But p A B) (k : FrR n e B C) (hn : A.length ≤ n) : But p A C :=
  ⟨Nat.le_trans h.1 k.1, fun b hb hne => by
    obtain ⟨X, hX⟩ : ∃ X, A[b]? = some X := ⟨_, List.getElem?_eq_getElem hb⟩
    rw [hX]
    exact k.2 b X (h.at hX hne) (.inl (by omega))⟩
theorem FrX.ofO {n0 q8 pb b : Nat} {c : List Value} {A B : Heap} (h : But b A B) (h0 : n0 ≤ b) (hb : A[b]? = some (.cells (.row 44) c)) : FrX n0 q8 pb A B :=
  ⟨h.1, fun q X hq hx => h.at hq (by
    rintro rfl
    rcases hx with hx | hx
    · omega
    · rw [hb] at hq
      simp only [Option.some.injEq] at hq
      exact hx.2.2.1 c hq.symm)⟩
theorem patch_next {s : LS} {m : Nat} {o : OpT} (hm : m < s.ops.length) (ho : s.ops[m]? = some o) :
    ((s.ops.take m).map (patch1 s.places) ++ s.ops.drop m).length = s.ops.length ∧ ((s.ops.take m).map (patch1 s.places) ++ s.ops.drop m)[m]? = some o ∧
      ((s.ops.take m).map (patch1 s.places) ++ s.ops.drop m).set m (patch1 s.places o) = (s.ops.take (m + 1)).map (patch1 s.places) ++ s.ops.drop (m + 1) := by
  refine ⟨by simp; omega, ?_, ?_⟩
  · rw [List.getElem?_append_right (by simp; omega)]
    simp [Nat.min_eq_left (Nat.le_of_lt hm), ho]
  · apply List.ext_getElem?
    intro i
    rcases Nat.lt_trichotomy i m with hi | hi | hi
    · rw [List.getElem?_set_ne (by omega), List.getElem?_append_left (by simp; omega), List.getElem?_append_left (by simp; omega)]
      simp [hi, show i < m + 1 by omega]
    · subst hi
      rw [List.getElem?_set_self (by simp; omega), List.getElem?_append_left (by simp; omega)]
      simp [ho]
    · rw [List.getElem?_set_ne (by omega), List.getElem?_append_right (by simp; omega), List.getElem?_append_right (by simp; omega)]
      simp only [List.length_map, List.length_take, List.getElem?_drop]
      congr 1
      omega
theorem RR.pls {n0 q8 pb : Nat} {F R : Int} {A : Heap} {s s' : LS} {pl : List Int} {cv ov : Value} (h : RR n0 q8 pb F R A s pl cv ov) (h1 : s'.consts = s.consts) (h2 : s'.ops = s.ops) : RR n0 q8 pb F R A s' pl cv ov :=
  ⟨h.blk, h1 ▸ h.con, h.con0, h2 ▸ h.ops, h.ops0, h.pla⟩
def RefR (p : ProgT) (f : Int) (H' : Heap) (v : Value) : Prop := ∃ bv pv F R s e, v = .tuple #[bv, pv, .int .i64 e] ∧ BodyR H' bv F R s ∧ RL 1 intR H' pv s.places ∧ LiftS p f F R s e
theorem RefR.no {p : ProgT} {f : Int} {H' : Heap} {v : Value} (h : ¬ Fit p f) (hv : v = .tuple #[.agg #[.int .i64 0, .int .i64 0, .slice none 0 0, .slice none 0 0, .slice none 0 0], .slice none 0 0, .int .i64 16]) : RefR p f H' v :=
  ⟨_, _, 0, 0, ⟨[], [], []⟩, 16, hv, ⟨.slice none 0 0, .slice none 0 0, 0, rfl, .inl ⟨rfl, rfl⟩, .inl ⟨rfl, rfl⟩⟩, .inl ⟨rfl, rfl⟩, .inr ⟨h, rfl, rfl, rfl, rfl⟩⟩
theorem refLift_ax {H : Heap} {p : ProgT} {ps cs : Value} (hp : RL 1 strR H ps p.2.1) (hcs : RL 5 codeR H cs p.2.2) (hL : p.2.1.length < 4294967296) (f : Int) :
    AX Try.prog 10 #[progV p ps cs, .int .i64 f] H (fun v H' => RefR p f H' v ∧ Grow H H') := by
  refine AX.body (n := 174) (rs := [.cell 4 32, .tmp 5, .tmp 6]) Try.func10 rfl (by decide) rfl rfl (bC_sound _ _ _ _ ?_)
  (conv => whnf)
  refine Ob2.box rfl fun q2 H1 hq2 a2 g1 => ?_
  (conv => whnf)
  refine Ob2.alloc rfl fun q4 H2 hq4 a4 g2 => ?_
  have b2 := hblk_of (g2.at a2)
  have g12 := g1.trans g2
  have l2 : alen Try.prog 23 cs H2 = some (.int .i64 p.2.2.length) := hcs.len rfl _
  have lp : ∀ X, Grow H2 X → aload Try.prog 25 (.pointer (some ⟨q2, 0, none⟩)) X = some (progV p ps cs) := fun X g => ald_agg rfl rfl rfl (g.hblk b2) rfl
  have lp2 := lp H2 (.refl _)
  by_cases h0 : f < 0
  · have d0 : decide (f < 0) = true := decide_eq_true h0
    (try (conv => whnf)); (repeat ((fail_if_success (with_reducible refine And.intro ?_ ?_)); (fail_if_success (with_reducible refine Exists.intro ?_ ?_)); (first | (apply Ob.of; (first | with_reducible assumption | with_reducible exact ex20 _ _ | with_reducible exact ex21 _ _ | with_reducible exact ex30 _ _ _ | with_reducible exact ex31 _ _ _ | with_reducible exact ex32 _ _ _ | rfl | (exact ald rfl rfl (by assumption) rfl) | (exact ald_agg rfl rfl rfl (by assumption) rfl)); (conv => whnf)) | (apply bIf.yes; (first | assumption | rfl); (conv => whnf)) | (apply bIf.no; (first | assumption | rfl); (conv => whnf)) | ((with_reducible refine Ob.load (by with_unfolding_all assumption) ?_); (conv => whnf)) | (apply Grows.mk; (first | exact Grow.refl _ | assumption); (conv => whnf)))))
    refine Ob.store rfl rfl rfl a4 rfl (by first | exact Nat.le_of_ble_eq_true rfl | simp) fun H3 s3 k3 l3 => ?_
    have b3 := hblk_of s3
    (try (conv => whnf)); (repeat ((fail_if_success (with_reducible refine And.intro ?_ ?_)); (fail_if_success (with_reducible refine Exists.intro ?_ ?_)); (first | (apply Ob.of; (first | with_reducible assumption | with_reducible exact ex20 _ _ | with_reducible exact ex21 _ _ | with_reducible exact ex30 _ _ _ | with_reducible exact ex31 _ _ _ | with_reducible exact ex32 _ _ _ | rfl | (exact ald rfl rfl (by assumption) rfl) | (exact ald_agg rfl rfl rfl (by assumption) rfl)); (conv => whnf)) | (apply bIf.yes; (first | assumption | rfl); (conv => whnf)) | (apply bIf.no; (first | assumption | rfl); (conv => whnf)) | ((with_reducible refine Ob.load (by with_unfolding_all assumption) ?_); (conv => whnf)) | (apply Grows.mk; (first | exact Grow.refl _ | assumption); (conv => whnf)))))
    exact ⟨RefR.no (fun h => by have := h.1; omega) rfl, g1.trans (g2.but_new k3 (by omega))⟩
  have d0 : decide (f < 0) = false := decide_eq_false h0
  by_cases h1 : (p.2.2.length : Int) ≤ f
  · have d1 : decide (f ≥ (p.2.2.length : Int)) = true := decide_eq_true h1
    (try (conv => whnf)); (repeat ((fail_if_success (with_reducible refine And.intro ?_ ?_)); (fail_if_success (with_reducible refine Exists.intro ?_ ?_)); (first | (apply Ob.of; (first | with_reducible assumption | with_reducible exact ex20 _ _ | with_reducible exact ex21 _ _ | with_reducible exact ex30 _ _ _ | with_reducible exact ex31 _ _ _ | with_reducible exact ex32 _ _ _ | rfl | (exact ald rfl rfl (by assumption) rfl) | (exact ald_agg rfl rfl rfl (by assumption) rfl)); (conv => whnf)) | (apply bIf.yes; (first | assumption | rfl); (conv => whnf)) | (apply bIf.no; (first | assumption | rfl); (conv => whnf)) | ((with_reducible refine Ob.load (by with_unfolding_all assumption) ?_); (conv => whnf)) | (apply Grows.mk; (first | exact Grow.refl _ | assumption); (conv => whnf)))))
    refine Ob.store rfl rfl rfl a4 rfl (by first | exact Nat.le_of_ble_eq_true rfl | simp) fun H3 s3 k3 l3 => ?_
    have b3 := hblk_of s3
    (try (conv => whnf)); (repeat ((fail_if_success (with_reducible refine And.intro ?_ ?_)); (fail_if_success (with_reducible refine Exists.intro ?_ ?_)); (first | (apply Ob.of; (first | with_reducible assumption | with_reducible exact ex20 _ _ | with_reducible exact ex21 _ _ | with_reducible exact ex30 _ _ _ | with_reducible exact ex31 _ _ _ | with_reducible exact ex32 _ _ _ | rfl | (exact ald rfl rfl (by assumption) rfl) | (exact ald_agg rfl rfl rfl (by assumption) rfl)); (conv => whnf)) | (apply bIf.yes; (first | assumption | rfl); (conv => whnf)) | (apply bIf.no; (first | assumption | rfl); (conv => whnf)) | ((with_reducible refine Ob.load (by with_unfolding_all assumption) ?_); (conv => whnf)) | (apply Grows.mk; (first | exact Grow.refl _ | assumption); (conv => whnf)))))
    exact ⟨RefR.no (fun h => by have := h.2.1; omega) rfl, g1.trans (g2.but_new k3 (by omega))⟩
  have d1 : decide (f ≥ (p.2.2.length : Int)) = false := decide_eq_false h1
  obtain ⟨i, rfl⟩ : ∃ i : Nat, f = (i : Int) := ⟨f.toNat, by omega⟩
  (try (conv => whnf)); (repeat ((fail_if_success (with_reducible refine And.intro ?_ ?_)); (fail_if_success (with_reducible refine Exists.intro ?_ ?_)); (first | (apply Ob.of; (first | with_reducible assumption | with_reducible exact ex20 _ _ | with_reducible exact ex21 _ _ | with_reducible exact ex30 _ _ _ | with_reducible exact ex31 _ _ _ | with_reducible exact ex32 _ _ _ | rfl | (exact ald rfl rfl (by assumption) rfl) | (exact ald_agg rfl rfl rfl (by assumption) rfl)); (conv => whnf)) | (apply bIf.yes; (first | assumption | rfl); (conv => whnf)) | (apply bIf.no; (first | assumption | rfl); (conv => whnf)) | ((with_reducible refine Ob.load (by with_unfolding_all assumption) ?_); (conv => whnf)) | (apply Grows.mk; (first | exact Grow.refl _ | assumption); (conv => whnf)))))
  refine (rcheck_ax (strR.grow hp g12) (codeR.grow hcs g12) hL).mono ?_
  rintro v X ⟨hv, e⟩
  subst X
  rcases hv with ⟨rfl, hck⟩ | ⟨rfl, hv⟩
  rotate_left
  · (try (conv => whnf)); (repeat ((fail_if_success (with_reducible refine And.intro ?_ ?_)); (fail_if_success (with_reducible refine Exists.intro ?_ ?_)); (first | (apply Ob.of; (first | with_reducible assumption | with_reducible exact ex20 _ _ | with_reducible exact ex21 _ _ | with_reducible exact ex30 _ _ _ | with_reducible exact ex31 _ _ _ | with_reducible exact ex32 _ _ _ | rfl | (exact ald rfl rfl (by assumption) rfl) | (exact ald_agg rfl rfl rfl (by assumption) rfl)); (conv => whnf)) | (apply bIf.yes; (first | assumption | rfl); (conv => whnf)) | (apply bIf.no; (first | assumption | rfl); (conv => whnf)) | ((with_reducible refine Ob.load (by with_unfolding_all assumption) ?_); (conv => whnf)) | (apply Grows.mk; (first | exact Grow.refl _ | assumption); (conv => whnf)))))
    refine Ob.store rfl rfl rfl a4 rfl (by first | exact Nat.le_of_ble_eq_true rfl | simp) fun H3 s3 k3 l3 => ?_
    have b3 := hblk_of s3
    (try (conv => whnf)); (repeat ((fail_if_success (with_reducible refine And.intro ?_ ?_)); (fail_if_success (with_reducible refine Exists.intro ?_ ?_)); (first | (apply Ob.of; (first | with_reducible assumption | with_reducible exact ex20 _ _ | with_reducible exact ex21 _ _ | with_reducible exact ex30 _ _ _ | with_reducible exact ex31 _ _ _ | with_reducible exact ex32 _ _ _ | rfl | (exact ald rfl rfl (by assumption) rfl) | (exact ald_agg rfl rfl rfl (by assumption) rfl)); (conv => whnf)) | (apply bIf.yes; (first | assumption | rfl); (conv => whnf)) | (apply bIf.no; (first | assumption | rfl); (conv => whnf)) | ((with_reducible refine Ob.load (by with_unfolding_all assumption) ?_); (conv => whnf)) | (apply Grows.mk; (first | exact Grow.refl _ | assumption); (conv => whnf)))))
    exact ⟨RefR.no (fun h => hv h.2.2) rfl, g1.trans (g2.but_new k3 (by omega))⟩
  obtain ⟨c, hc⟩ := get_lt (L := p.2.2) (m := i) (by omega)
  have hr := hck.2.2.2.2.2.2 i c hc
  have ha := aims_right hr
  have hlim := hr.1
  unfold Lim at hlim
  obtain ⟨q, sv, i1, hs, i2⟩ := ld_code hcs hc
  have i3 := i2 H2 g12
  (try (conv => whnf)); (repeat ((fail_if_success (with_reducible refine And.intro ?_ ?_)); (fail_if_success (with_reducible refine Exists.intro ?_ ?_)); (first | (apply Ob.of; (first | with_reducible assumption | with_reducible exact ex20 _ _ | with_reducible exact ex21 _ _ | with_reducible exact ex30 _ _ _ | with_reducible exact ex31 _ _ _ | with_reducible exact ex32 _ _ _ | rfl | (exact ald rfl rfl (by assumption) rfl) | (exact ald_agg rfl rfl rfl (by assumption) rfl)); (conv => whnf)) | (apply bIf.yes; (first | assumption | rfl); (conv => whnf)) | (apply bIf.no; (first | assumption | rfl); (conv => whnf)) | ((with_reducible refine Ob.load (by with_unfolding_all assumption) ?_); (conv => whnf)) | (apply Grows.mk; (first | exact Grow.refl _ | assumption); (conv => whnf)))))
  refine Ob2.alloc rfl fun q7 H3 hq7 a7 g3 => ?_
  (try (conv => whnf)); (repeat ((fail_if_success (with_reducible refine And.intro ?_ ?_)); (fail_if_success (with_reducible refine Exists.intro ?_ ?_)); (first | (apply Ob.of; (first | with_reducible assumption | with_reducible exact ex20 _ _ | with_reducible exact ex21 _ _ | with_reducible exact ex30 _ _ _ | with_reducible exact ex31 _ _ _ | with_reducible exact ex32 _ _ _ | rfl | (exact ald rfl rfl (by assumption) rfl) | (exact ald_agg rfl rfl rfl (by assumption) rfl)); (conv => whnf)) | (apply bIf.yes; (first | assumption | rfl); (conv => whnf)) | (apply bIf.no; (first | assumption | rfl); (conv => whnf)) | ((with_reducible refine Ob.load (by with_unfolding_all assumption) ?_); (conv => whnf)) | (apply Grows.mk; (first | exact Grow.refl _ | assumption); (conv => whnf)))))
  refine Ob.store rfl rfl rfl a7 rfl (by first | exact Nat.le_of_ble_eq_true rfl | simp) fun H4 s7 k4 l4 => ?_
  have g4 : Grow H2 H4 := g3.but_new k4 (by omega)
  have b7 := hblk_of s7
  have hw : IntKind.i64.wrap (c.2.1 + c.2.2.2.1) = c.2.1 + c.2.2.2.1 := by rw [wrap_i64 (by omega) (by omega)]
  (try (conv => whnf)); (repeat ((fail_if_success (with_reducible refine And.intro ?_ ?_)); (fail_if_success (with_reducible refine Exists.intro ?_ ?_)); (first | (apply Ob.of; (first | with_reducible assumption | with_reducible exact ex20 _ _ | with_reducible exact ex21 _ _ | with_reducible exact ex30 _ _ _ | with_reducible exact ex31 _ _ _ | with_reducible exact ex32 _ _ _ | rfl | (exact ald rfl rfl (by assumption) rfl) | (exact ald_agg rfl rfl rfl (by assumption) rfl)); (conv => whnf)) | (apply bIf.yes; (first | assumption | rfl); (conv => whnf)) | (apply bIf.no; (first | assumption | rfl); (conv => whnf)) | ((with_reducible refine Ob.load (by with_unfolding_all assumption) ?_); (conv => whnf)) | (apply Grows.mk; (first | exact Grow.refl _ | assumption); (conv => whnf)))))
  rw [hw]
  refine Ob2.alloc rfl fun q8 H5 hq8 a8 g5 => ?_
  (try (conv => whnf)); (repeat ((fail_if_success (with_reducible refine And.intro ?_ ?_)); (fail_if_success (with_reducible refine Exists.intro ?_ ?_)); (first | (apply Ob.of; (first | with_reducible assumption | with_reducible exact ex20 _ _ | with_reducible exact ex21 _ _ | with_reducible exact ex30 _ _ _ | with_reducible exact ex31 _ _ _ | with_reducible exact ex32 _ _ _ | rfl | (exact ald rfl rfl (by assumption) rfl) | (exact ald_agg rfl rfl rfl (by assumption) rfl)); (conv => whnf)) | (apply bIf.yes; (first | assumption | rfl); (conv => whnf)) | (apply bIf.no; (first | assumption | rfl); (conv => whnf)) | ((with_reducible refine Ob.load (by with_unfolding_all assumption) ?_); (conv => whnf)) | (apply Grows.mk; (first | exact Grow.refl _ | assumption); (conv => whnf)))))
  refine Ob.store rfl rfl rfl a8 rfl (by first | exact Nat.le_of_ble_eq_true rfl | simp) fun H6 s8 k6 l6 => ?_
  have g6 : Grow H4 H6 := g5.but_new k6 (by omega)
  have g26 := g4.trans g6
  have lp6 := lp H6 g26
  (try (conv => whnf)); (repeat ((fail_if_success (with_reducible refine And.intro ?_ ?_)); (fail_if_success (with_reducible refine Exists.intro ?_ ?_)); (first | (apply Ob.of; (first | with_reducible assumption | with_reducible exact ex20 _ _ | with_reducible exact ex21 _ _ | with_reducible exact ex30 _ _ _ | with_reducible exact ex31 _ _ _ | with_reducible exact ex32 _ _ _ | rfl | (exact ald rfl rfl (by assumption) rfl) | (exact ald_agg rfl rfl rfl (by assumption) rfl)); (conv => whnf)) | (apply bIf.yes; (first | assumption | rfl); (conv => whnf)) | (apply bIf.no; (first | assumption | rfl); (conv => whnf)) | ((with_reducible refine Ob.load (by with_unfolding_all assumption) ?_); (conv => whnf)) | (apply Grows.mk; (first | exact Grow.refl _ | assumption); (conv => whnf)))))
  refine (rDepthsOwn_ax (strR.grow hp (g12.trans g26)) (codeR.grow hcs (g12.trans g26)) hL hc hck).mono ?_
  rintro _ H7 ⟨⟨L, qd, hcl, rfl, hod⟩, g7⟩
  have g07 := (g12.trans g26).trans g7
  have b7 := (g6.trans g7).hblk b7
  have hli : ∀ H', alen Try.prog 47 sv H' = some (.int .i64 c.ins.length) := fun H' => hs.len rfl _
  have hl7 := hli H7
  have hn1 : 1 ≤ c.ins.length ∧ c.ins.length ≤ 4000 := by omega
  have hLl : L.length = c.ins.length := hcl.inv.len
  (try (conv => whnf)); (repeat ((fail_if_success (with_reducible refine And.intro ?_ ?_)); (fail_if_success (with_reducible refine Exists.intro ?_ ?_)); (first | (apply Ob.of; (first | with_reducible assumption | with_reducible exact ex20 _ _ | with_reducible exact ex21 _ _ | with_reducible exact ex30 _ _ _ | with_reducible exact ex31 _ _ _ | with_reducible exact ex32 _ _ _ | rfl | (exact ald rfl rfl (by assumption) rfl) | (exact ald_agg rfl rfl rfl (by assumption) rfl)); (conv => whnf)) | (apply bIf.yes; (first | assumption | rfl); (conv => whnf)) | (apply bIf.no; (first | assumption | rfl); (conv => whnf)) | ((with_reducible refine Ob.load (by with_unfolding_all assumption) ?_); (conv => whnf)) | (apply Grows.mk; (first | exact Grow.refl _ | assumption); (conv => whnf)))))
  refine Ob2.of (make_slice rfl rfl rfl rfl (by decide) rfl (by omega) (by omega) (by show 8 * (c.ins.length : Int) ≤ _; omega)) ?_
  rw [zeros_one, Int.toNat_natCast]
  have g8 : Grow H7 (H7 ++ [Blk.cells (.row 3) (List.replicate c.ins.length (.int .i64 0))]) := .push _ _
  have o8 : OwnI (H7 ++ [Blk.cells (.row 3) (List.replicate c.ins.length (.int .i64 0))]) H7.length (List.replicate c.ins.length 0) := by
    unfold OwnI; rw [List.map_replicate]; exact at_push _ _
  revert g8 o8
  generalize H7 ++ [Blk.cells (.row 3) (List.replicate c.ins.length (.int .i64 0))] = H8
  generalize hpb : H7.length = pb
  intro g8 o8
  have g08 := g07.trans g8
  have hn0 : H.length ≤ q8 := by have := g12.1; have := g4.1; omega
  have hn1' : H.length ≤ pb := by have := g07.1; omega
  have ne82 : q2 ≠ q8 := by have := g2.1; have := g4.1; have := lt_at a2; omega
  have ne84 : q4 ≠ q8 := by have := lt_at a4; have := g4.1; omega
  have ne87 : q7 ≠ q8 := by have := lt_at s7; omega
  have l67 := g7.1
  have l66 := k6.1
  have nep2 : q2 ≠ pb := by have := lt_at (g2.at a2); have := g26.1; omega
  have nep4 : q4 ≠ pb := by have := lt_at a4; have := g26.1; omega
  have nep7 : q7 ≠ pb := by have := lt_at (g6.at s7); omega
  have nedp : qd ≠ pb := by have := lt_at hod; omega
  have ned8 : qd ≠ q8 := by
    rintro rfl
    have h := g7.at s8
    unfold OwnI at hod
    rw [hod] at h
    simp at h
  have r8 : RR H.length q8 pb (i : Int) (c.2.1 + c.2.2.2.1) H8 (runL p.2.1 c L 0) ((runL p.2.1 c L 0).places ++ List.replicate (c.ins.length - 0) 0) (.slice none 0 0) (.slice none 0 0) :=
    ⟨(g7.trans g8).at s8, .inl ⟨rfl, rfl⟩, fun b hb => by obtain ⟨n, k, hb⟩ := hb; simp at hb, .inl ⟨rfl, rfl⟩, fun b hb => by obtain ⟨n, k, hb⟩ := hb; simp at hb, o8⟩
  have x2 := (g26.trans (g7.trans g8)).at (g2.at a2)
  have x4 := (g26.trans (g7.trans g8)).at a4
  have x7 := (g6.trans (g7.trans g8)).at s7
  have xd : OwnI H8 qd L := g8.at hod
  obtain ⟨sa, sn, sk, rfl⟩ : ∃ a n k, sv = .slice a n k := by rcases hs with ⟨h, _⟩ | ⟨b, h, _⟩ <;> exact ⟨_, _, _, h⟩
  obtain ⟨pa, pn, pk, rfl⟩ : ∃ a n k, ps = .slice a n k := by rcases hp with ⟨h, _⟩ | ⟨b, h, _⟩ <;> exact ⟨_, _, _, h⟩
  obtain ⟨ca, cn, ck, rfl⟩ : ∃ a n k, cs = .slice a n k := by rcases hcs with ⟨h, _⟩ | ⟨b, h, _⟩ <;> exact ⟨_, _, _, h⟩
  clear hpb l67 l66 i3 b2 a8 s8 k6 k4 a7 hl7 b7 lp2 lp6 lp
  (try (conv => whnf)); (repeat ((fail_if_success (with_reducible refine And.intro ?_ ?_)); (fail_if_success (with_reducible refine Exists.intro ?_ ?_)); (first | (apply Ob.of; (first | with_reducible assumption | with_reducible exact ex20 _ _ | with_reducible exact ex21 _ _ | with_reducible exact ex30 _ _ _ | with_reducible exact ex31 _ _ _ | with_reducible exact ex32 _ _ _ | rfl | (exact ald rfl rfl (by assumption) rfl) | (exact ald_agg rfl rfl rfl (by assumption) rfl)); (conv => whnf)) | (apply bIf.yes; (first | assumption | rfl); (conv => whnf)) | (apply bIf.no; (first | assumption | rfl); (conv => whnf)) | ((with_reducible refine Ob.load (by with_unfolding_all assumption) ?_); (conv => whnf)) | (apply Grows.mk; (first | exact Grow.refl _ | assumption); (conv => whnf)))))
  refine SW.loop (α := Nat) (fun n => [(1, .int .i64 (i : Int)), (2, .pointer (some ⟨q2, 0, none⟩)), (4, .pointer (some ⟨q4, 0, none⟩)), (7, .pointer (some ⟨q7, 0, none⟩)), (8, .pointer (some ⟨q8, 0, none⟩)), (9, rowV qd L.length), (10, rowV pb c.ins.length), (11, .int .i64 (n : Int))])
    (fun n X => n ≤ c.ins.length ∧ (∃ cv ov, RR H.length q8 pb (i : Int) (c.2.1 + c.2.2.2.1) X (runL p.2.1 c L n) ((runL p.2.1 c L n).places ++ List.replicate (c.ins.length - n) 0) cv ov) ∧ FrX H.length q8 pb H8 X) (fun n => c.ins.length - n)
    ⟨0, ⟨rfl, rfl, rfl, rfl, rfl, rfl, rfl, rfl, trivial⟩, by omega, ⟨_, _, r8⟩, .refl _ _ _ _⟩ ?_
  clear r8
  rintro n X1 ⟨hn, ⟨cv, ov, hR⟩, fX⟩
  refine bC_sound _ _ _ _ ?_
  have hrl := run_len (pool := p.2.1) (c := c) (L := L) n hn (by omega)
  have gX : Grow H X1 := fX.grow g08 (Nat.le_refl _)
  have y2 := hblk_of (fX.var x2 ne82 nep2)
  have y7 := hblk_of (fX.var x7 ne87 nep7)
  have y8 := hblk_of hR.blk
  have y4 := fX.var x4 ne84 nep4
  have yd := fX.own xd ned8 nedp
  have hl1 := hli X1
  obtain ⟨va, vn, vk, rfl⟩ := hR.con.form
  obtain ⟨wa, wm, wk, rfl⟩ := hR.ops.form
  by_cases hnl : n < c.ins.length
  rotate_left
  · have d2 : decide ((n : Int) < (c.ins.length : Int)) = false := decide_eq_false (by omega)
    have hne : n = c.ins.length := by omega
    subst hne
    have hjmp := run_jumps (pool := p.2.1) (L := L) hr c.ins.length
    have hops := hrl.2.1
    have hlo : alen Try.prog 29 (.slice wa wm wk) X1 = some (.int .i64 (runL p.2.1 c L c.ins.length).ops.length) := hR.ops.rl.len rfl _
    rw [Nat.sub_self, List.replicate_zero, List.append_nil] at hR
    have hbody : bodyL p.2.1 c L = { runL p.2.1 c L c.ins.length with ops := (runL p.2.1 c L c.ins.length).ops.map (patch1 (runL p.2.1 c L c.ins.length).places) } := rfl
    generalize runL p.2.1 c L c.ins.length = s at hrl hjmp hops hlo hR hbody
    (try (conv => whnf)); (repeat ((fail_if_success (with_reducible refine And.intro ?_ ?_)); (fail_if_success (with_reducible refine Exists.intro ?_ ?_)); (first | (apply Ob.of; (first | with_reducible assumption | with_reducible exact ex20 _ _ | with_reducible exact ex21 _ _ | with_reducible exact ex30 _ _ _ | with_reducible exact ex31 _ _ _ | with_reducible exact ex32 _ _ _ | rfl | (exact ald rfl rfl (by assumption) rfl) | (exact ald_agg rfl rfl rfl (by assumption) rfl)); (conv => whnf)) | (apply bIf.yes; (first | assumption | rfl); (conv => whnf)) | (apply bIf.no; (first | assumption | rfl); (conv => whnf)) | ((with_reducible refine Ob.load (by with_unfolding_all assumption) ?_); (conv => whnf)) | (apply Grows.mk; (first | exact Grow.refl _ | assumption); (conv => whnf)))))
    refine SW.loop (α := Nat) (fun m => [(2, .pointer (some ⟨q2, 0, none⟩)), (4, .pointer (some ⟨q4, 0, none⟩)), (7, .pointer (some ⟨q7, 0, none⟩)), (8, .pointer (some ⟨q8, 0, none⟩)), (10, rowV pb c.ins.length), (20, .int .i64 (m : Int))])
      (fun m X => m ≤ s.ops.length ∧ RR H.length q8 pb (i : Int) (c.2.1 + c.2.2.2.1) X { s with ops := (s.ops.take m).map (patch1 s.places) ++ s.ops.drop m } s.places (.slice va vn vk) (.slice wa wm wk) ∧ FrX H.length q8 pb X1 X) (fun m => s.ops.length - m)
      ⟨0, ⟨rfl, rfl, rfl, rfl, rfl, rfl, trivial⟩, by omega, by simpa using hR, .refl _ _ _ _⟩ ?_
    clear hR hlo
    rintro m X2 ⟨hm, hR, fX2⟩
    refine bC_sound _ _ _ _ ?_
    have y8 := hblk_of hR.blk
    have hlo : alen Try.prog 29 (.slice wa wm wk) X2 = some (.int .i64 ((s.ops.take m).map (patch1 s.places) ++ s.ops.drop m).length) := hR.ops.rl.len rfl _
    have hl2 : ((s.ops.take m).map (patch1 s.places) ++ s.ops.drop m).length = s.ops.length := by simp; omega
    rw [hl2] at hlo
    by_cases hml : m < s.ops.length
    rotate_left
    · have d2 : decide ((m : Int) < (s.ops.length : Int)) = false := decide_eq_false (by omega)
      have hme : m = s.ops.length := by omega
      subst hme
      rw [List.take_of_length_le (Nat.le_refl _), List.drop_of_length_le (Nat.le_refl _), List.append_nil, ← hbody] at hR
      have x42 := fX2.var y4 ne84 nep4
      (try (conv => whnf)); (repeat ((fail_if_success (with_reducible refine And.intro ?_ ?_)); (fail_if_success (with_reducible refine Exists.intro ?_ ?_)); (first | (apply Ob.of; (first | with_reducible assumption | with_reducible exact ex20 _ _ | with_reducible exact ex21 _ _ | with_reducible exact ex30 _ _ _ | with_reducible exact ex31 _ _ _ | with_reducible exact ex32 _ _ _ | rfl | (exact ald rfl rfl (by assumption) rfl) | (exact ald_agg rfl rfl rfl (by assumption) rfl)); (conv => whnf)) | (apply bIf.yes; (first | assumption | rfl); (conv => whnf)) | (apply bIf.no; (first | assumption | rfl); (conv => whnf)) | ((with_reducible refine Ob.load (by with_unfolding_all assumption) ?_); (conv => whnf)) | (apply Grows.mk; (first | exact Grow.refl _ | assumption); (conv => whnf)))))
      refine Ob.store rfl rfl rfl x42 rfl (by first | exact Nat.le_of_ble_eq_true rfl | simp) fun X3 s3 k3 l3 => ?_
      have y43 := hblk_of s3
      have hR3 := hR.but k3 x42 ne84
      have gX3 : Grow H X3 := (fX2.grow gX (Nat.le_refl _)).but_new k3 (by have := g1.1; omega)
      (try (conv => whnf)); (repeat ((fail_if_success (with_reducible refine And.intro ?_ ?_)); (fail_if_success (with_reducible refine Exists.intro ?_ ?_)); (first | (apply Ob.of; (first | with_reducible assumption | with_reducible exact ex20 _ _ | with_reducible exact ex21 _ _ | with_reducible exact ex30 _ _ _ | with_reducible exact ex31 _ _ _ | with_reducible exact ex32 _ _ _ | rfl | (exact ald rfl rfl (by assumption) rfl) | (exact ald_agg rfl rfl rfl (by assumption) rfl)); (conv => whnf)) | (apply bIf.yes; (first | assumption | rfl); (conv => whnf)) | (apply bIf.no; (first | assumption | rfl); (conv => whnf)) | ((with_reducible refine Ob.load (by with_unfolding_all assumption) ?_); (conv => whnf)) | (apply Grows.mk; (first | exact Grow.refl _ | assumption); (conv => whnf)))))
      refine ⟨⟨_, _, (i : Int), c.2.1 + c.2.2.2.1, bodyL p.2.1 c L, 0, rfl, ⟨_, _, pb, rfl, hR3.con.rl, hR3.ops.rl⟩, ?_, .inl ⟨c, L, ⟨by omega, by omega, hck⟩, by rw [Int.toNat_natCast]; exact hc, hcl, rfl, rfl, rfl, rfl⟩⟩, gX3⟩
      have hpl : (bodyL p.2.1 c L).places = s.places := by rw [hbody]
      rw [hpl]
      have := dep_row hR3.pla
      rwa [hrl.1] at this
    have d2 : decide ((m : Int) < (s.ops.length : Int)) = true := decide_eq_true (by omega)
    obtain ⟨o, ho⟩ := get_lt hml
    obtain ⟨_, hL2, hnext⟩ := patch_next hml ho
    have wm1 : IntKind.i64.wrap ((m : Int) + 1) = ((m + 1 : Nat) : Int) := w_succ (by omega)
    have hops2 : OwnR 9 44 (opR pb) X2 (.slice wa wm wk) ((s.ops.take m).map (patch1 s.places) ++ s.ops.drop m) := hR.ops
    rcases hops2 with ⟨_, h⟩ | ⟨b, c', hov, hb, hcl', h4⟩
    · rw [h] at hL2; simp at hL2
    obtain ⟨lw, k1, rv, mv, rfl, hrv, hmv⟩ := h4 m o hL2
    have ix : aindexAddr Try.prog 29 (.slice wa wm wk) (.int .i64 (m : Int)) = some (.pointer (some ⟨b, m * 9, none⟩)) := by
      rw [hov]
      have := idx_slice (P := Try.prog) (t := 29) (b := b) (off := 0) (len := ((s.ops.take m).map (patch1 s.places) ++ s.ops.drop m).length) (es := 9) (kd := .i64) (n := (m : Int)) rfl (k := 9) rfl (by omega) (by omega)
      simpa using this
    have lk0 : aload Try.prog 3 (.pointer (some ⟨b, m * 9, none⟩)) X2 = some (.int .i64 o.kind) := ald rfl rfl (hblk_of hb) (slots_get (j := 0) k1 rfl)
    have lk0' : aload Try.prog 3 (.pointer (some ⟨b, m * 9 + 0, none⟩)) X2 = some (.int .i64 o.kind) := lk0
    have lk1 : aload Try.prog 3 (.pointer (some ⟨b, m * 9 + 1, none⟩)) X2 = some (.int .i64 o.a) := ald rfl rfl (hblk_of hb) (slots_get (j := 1) k1 rfl)
    have hsame : patch1 s.places o = o → RR H.length q8 pb (i : Int) (c.2.1 + c.2.2.2.1) X2 { s with ops := (s.ops.take (m + 1)).map (patch1 s.places) ++ s.ops.drop (m + 1) } s.places (.slice va vn vk) (.slice wa wm wk) := fun hp1 => by
      rw [hp1, set_same hL2] at hnext
      rw [hnext] at hR
      exact hR
    by_cases h17 : 17 ≤ o.kind
    rotate_left
    · have d17 : decide (o.kind ≥ 17) = false := decide_eq_false h17
      have hp1 : patch1 s.places o = o := by unfold patch1; rw [if_neg (by simp [isJump]; omega)]
      (try (conv => whnf)); (repeat ((fail_if_success (with_reducible refine And.intro ?_ ?_)); (fail_if_success (with_reducible refine Exists.intro ?_ ?_)); (first | (apply Ob.of; (first | with_reducible assumption | with_reducible exact ex20 _ _ | with_reducible exact ex21 _ _ | with_reducible exact ex30 _ _ _ | with_reducible exact ex31 _ _ _ | with_reducible exact ex32 _ _ _ | rfl | (exact ald rfl rfl (by assumption) rfl) | (exact ald_agg rfl rfl rfl (by assumption) rfl)); (conv => whnf)) | (apply bIf.yes; (first | assumption | rfl); (conv => whnf)) | (apply bIf.no; (first | assumption | rfl); (conv => whnf)) | ((with_reducible refine Ob.load (by with_unfolding_all assumption) ?_); (conv => whnf)) | (apply Grows.mk; (first | exact Grow.refl _ | assumption); (conv => whnf)))))
      exact ⟨m + 1, ⟨rfl, rfl, rfl, rfl, rfl, congrArg (fun z => some (Value.int .i64 z)) wm1, trivial⟩, ⟨hml, hsame hp1, fX2⟩, by show s.ops.length - (m + 1) < s.ops.length - m; omega⟩
    have d17 : decide (o.kind ≥ 17) = true := decide_eq_true h17
    by_cases h19 : o.kind ≤ 19
    rotate_left
    · have d19 : decide (o.kind ≤ 19) = false := decide_eq_false h19
      have hp1 : patch1 s.places o = o := by unfold patch1; rw [if_neg (by simp [isJump]; omega)]
      (try (conv => whnf)); (repeat ((fail_if_success (with_reducible refine And.intro ?_ ?_)); (fail_if_success (with_reducible refine Exists.intro ?_ ?_)); (first | (apply Ob.of; (first | with_reducible assumption | with_reducible exact ex20 _ _ | with_reducible exact ex21 _ _ | with_reducible exact ex30 _ _ _ | with_reducible exact ex31 _ _ _ | with_reducible exact ex32 _ _ _ | rfl | (exact ald rfl rfl (by assumption) rfl) | (exact ald_agg rfl rfl rfl (by assumption) rfl)); (conv => whnf)) | (apply bIf.yes; (first | assumption | rfl); (conv => whnf)) | (apply bIf.no; (first | assumption | rfl); (conv => whnf)) | ((with_reducible refine Ob.load (by with_unfolding_all assumption) ?_); (conv => whnf)) | (apply Grows.mk; (first | exact Grow.refl _ | assumption); (conv => whnf)))))
      exact ⟨m + 1, ⟨rfl, rfl, rfl, rfl, rfl, congrArg (fun z => some (Value.int .i64 z)) wm1, trivial⟩, ⟨hml, hsame hp1, fX2⟩, by show s.ops.length - (m + 1) < s.ops.length - m; omega⟩
    have d19 : decide (o.kind ≤ 19) = true := decide_eq_true h19
    have hj : isJump o.kind = true := decide_eq_true ⟨h17, h19⟩
    obtain ⟨hj0, hj1⟩ := hjmp o (List.mem_of_getElem? ho) hj
    obtain ⟨j, hja⟩ : ∃ j : Nat, o.a = (j : Int) := ⟨o.a.toNat, by omega⟩
    obtain ⟨v, hv⟩ := get_lt (L := s.places) (m := j) (by have := hrl.1; omega)
    have hp1 : patch1 s.places o = { o with a := v } := by
      unfold patch1
      rw [if_pos hj, hja, Int.toNat_natCast, List.getD_eq_getElem?_getD, hv]; rfl
    rw [hp1] at hnext
    have z1 : aindexAddr Try.prog 36 (rowV pb c.ins.length) (.int .i64 o.a) = some (.pointer (some ⟨pb, j, none⟩)) := by rw [hja]; exact own_idx (by omega)
    have z2 := own_ld hR.pla hv
    have hbl : m * 9 + 1 + 1 ≤ c'.length := by rw [hcl', hl2]; omega
    (try (conv => whnf)); (repeat ((fail_if_success (with_reducible refine And.intro ?_ ?_)); (fail_if_success (with_reducible refine Exists.intro ?_ ?_)); (first | (apply Ob.of; (first | with_reducible assumption | with_reducible exact ex20 _ _ | with_reducible exact ex21 _ _ | with_reducible exact ex30 _ _ _ | with_reducible exact ex31 _ _ _ | with_reducible exact ex32 _ _ _ | rfl | (exact ald rfl rfl (by assumption) rfl) | (exact ald_agg rfl rfl rfl (by assumption) rfl)); (conv => whnf)) | (apply bIf.yes; (first | assumption | rfl); (conv => whnf)) | (apply bIf.no; (first | assumption | rfl); (conv => whnf)) | ((with_reducible refine Ob.load (by with_unfolding_all assumption) ?_); (conv => whnf)) | (apply Grows.mk; (first | exact Grow.refl _ | assumption); (conv => whnf)))))
    apply SW.drawH [(0, [], [160, 161, 162, 163, 164, 165, 166, 167, 168, 169], false), (1, [(158, 0)], [158, 160, 161, 162, 163, 164, 165, 166, 167, 168, 169], false), (2, [], [158, 159, 161, 162, 163, 164, 165, 166, 167, 168, 169], false), (3, [], [158, 159, 160, 162, 163, 164, 165, 166, 167], false), (4, [], [158, 159, 160, 161, 164], false), (5, [(162, 4)], [158, 159, 160, 161, 162, 164], false), (6, [], [158, 159, 160, 161, 162, 163], false), (7, [(162, 4), (163, 5), (164, 6)], [158, 159, 160, 161, 162, 163, 164], false), (8, [(162, 4), (163, 5), (164, 6), (165, 7)], [158, 159, 160, 161, 162, 163, 164, 165], false), (9, [(162, 4), (163, 5), (164, 6), (165, 7), (166, 8)], [158, 159, 160, 161, 162, 163, 164, 165, 166], false), (10, [(161, 3), (162, 4), (163, 5), (164, 6), (165, 7), (166, 8), (167, 9)], [158, 159, 160, 161, 162, 163, 164, 165, 166, 167], false), (11, [(161, 3), (162, 4), (163, 5), (164, 6), (165, 7), (166, 8), (167, 9), (168, 10)], [158, 159, 160, 161, 162, 163, 164, 165, 166, 167, 168], false), (12, [(158, 0), (159, 1), (160, 2), (161, 3), (162, 4), (163, 5), (164, 6), (165, 7), (166, 8), (167, 9), (168, 10), (169, 11)], [158, 159, 160, 161, 162, 163, 164, 165, 166, 167, 168, 169], false), (13, [(158, 0), (159, 1), (160, 2), (161, 3), (162, 4), (163, 5), (164, 6), (165, 7), (166, 8), (167, 9), (168, 10), (169, 11), (170, 12)], [158, 159, 160, 161, 162, 163, 164, 165, 166, 167, 168, 169, 170], false), (14, [(158, 0), (159, 1), (160, 2), (161, 3), (162, 4), (163, 5), (164, 6), (165, 7), (166, 8), (167, 9), (168, 10), (169, 11), (170, 12), (171, 13)], [158, 159, 160, 161, 162, 163, 164, 165, 166, 167, 168, 169, 170, 171], true)]
      [(158, 0), (159, 1), (160, 2), (161, 3), (162, 4), (163, 5), (164, 6), (165, 7), (166, 8), (167, 9), (168, 10), (169, 11), (170, 12), (171, 13)] []
      [(2, _), (4, _), (7, _), (8, _), (10, _), (20, _)] rfl (by kernel_rfl)
    case hF => exact ⟨rfl, rfl, rfl, rfl, rfl, rfl, trivial⟩
    (try (conv => whnf)); (repeat ((fail_if_success (with_reducible refine And.intro ?_ ?_)); (fail_if_success (with_reducible refine Exists.intro ?_ ?_)); (first | (apply Ob.of; (first | with_reducible assumption | with_reducible exact ex20 _ _ | with_reducible exact ex21 _ _ | with_reducible exact ex30 _ _ _ | with_reducible exact ex31 _ _ _ | with_reducible exact ex32 _ _ _ | rfl | (exact ald rfl rfl (by assumption) rfl) | (exact ald_agg rfl rfl rfl (by assumption) rfl)); (conv => whnf)) | (apply bIf.yes; (first | assumption | rfl); (conv => whnf)) | (apply bIf.no; (first | assumption | rfl); (conv => whnf)) | ((with_reducible refine Ob.load (by with_unfolding_all assumption) ?_); (conv => whnf)) | (apply Grows.mk; (first | exact Grow.refl _ | assumption); (conv => whnf)))))
    refine Ob.store (vs := [.int .i64 v]) rfl rfl rfl hb rfl hbl fun X5 s5 k5 l5 => ?_
    have hb0 : H.length ≤ b := hR.ops0 b ⟨_, _, hov⟩
    have ne5 : ∀ (q : Nat) (Y : Blk), X2[q]? = some Y → NotRow 44 Y → q ≠ b := by
      rintro q Y hY hN rfl
      rw [hb] at hY
      simp only [Option.some.injEq] at hY
      exact hN _ hY.symm
    (try (conv => whnf)); (repeat ((fail_if_success (with_reducible refine And.intro ?_ ?_)); (fail_if_success (with_reducible refine Exists.intro ?_ ?_)); (first | (apply Ob.of; (first | with_reducible assumption | with_reducible exact ex20 _ _ | with_reducible exact ex21 _ _ | with_reducible exact ex30 _ _ _ | with_reducible exact ex31 _ _ _ | with_reducible exact ex32 _ _ _ | rfl | (exact ald rfl rfl (by assumption) rfl) | (exact ald_agg rfl rfl rfl (by assumption) rfl)); (conv => whnf)) | (apply bIf.yes; (first | assumption | rfl); (conv => whnf)) | (apply bIf.no; (first | assumption | rfl); (conv => whnf)) | ((with_reducible refine Ob.load (by with_unfolding_all assumption) ?_); (conv => whnf)) | (apply Grows.mk; (first | exact Grow.refl _ | assumption); (conv => whnf)))))
    refine ⟨m + 1, ⟨rfl, rfl, rfl, rfl, rfl, congrArg (fun z => some (Value.int .i64 z)) wm1, trivial⟩, ⟨hml, ?_, fX2.trans (.ofO k5 hb0 hb)⟩, by show s.ops.length - (m + 1) < s.ops.length - m; omega⟩
    refine ⟨k5.at hR.blk (ne5 _ _ hR.blk fun c h => by simp at h), hR.con.keep (fun q c _ hc => k5.at hc (ne5 _ _ hc (notRow_row (by decide)))) fun _ _ _ h => h, hR.con0, ?_, hR.ops0, k5.at hR.pla (ne5 _ _ hR.pla (notRow_row (by decide)))⟩
    show OwnR 9 44 (opR pb) X5 (.slice wa wm wk) ((s.ops.take (m + 1)).map (patch1 s.places) ++ s.ops.drop (m + 1))
    rw [← hnext, hov]
    have ik : IntKeep pb X2 X5 := fun q c hc _ => k5.at hc (ne5 _ _ hc (notRow_row (by decide)))
    exact OwnR.put1 (A := X2) (i := m) (j := 1) hcl' h4 s5 hL2 k1 (by decide) ⟨rv, mv, rfl, hrv.keep ik, hmv.keep ik⟩ fun _ _ h => h.keep ik
  have d2 : decide ((n : Int) < (c.ins.length : Int)) = true := decide_eq_true (by omega)
  obtain ⟨x, hx⟩ := get_lt hnl
  obtain ⟨bi, j1, j2⟩ := ld_ins hs hx
  have j3 := j2 X1 gX
  obtain ⟨d, hd⟩ := get_lt (L := L) (m := n) (by omega)
  have wn : IntKind.i64.wrap ((n : Int) + 1) = ((n + 1 : Nat) : Int) := w_succ (by omega)
  (try (conv => whnf)); (repeat ((fail_if_success (with_reducible refine And.intro ?_ ?_)); (fail_if_success (with_reducible refine Exists.intro ?_ ?_)); (first | (apply Ob.of; (first | with_reducible assumption | with_reducible exact ex20 _ _ | with_reducible exact ex21 _ _ | with_reducible exact ex30 _ _ _ | with_reducible exact ex31 _ _ _ | with_reducible exact ex32 _ _ _ | rfl | (exact ald rfl rfl (by assumption) rfl) | (exact ald_agg rfl rfl rfl (by assumption) rfl)); (conv => whnf)) | (apply bIf.yes; (first | assumption | rfl); (conv => whnf)) | (apply bIf.no; (first | assumption | rfl); (conv => whnf)) | ((with_reducible refine Ob.load (by with_unfolding_all assumption) ?_); (conv => whnf)) | (apply Grows.mk; (first | exact Grow.refl _ | assumption); (conv => whnf)))))
  refine Ob2.alloc rfl fun q12 X2 hq12 a12 e2 => ?_
  (try (conv => whnf)); (repeat ((fail_if_success (with_reducible refine And.intro ?_ ?_)); (fail_if_success (with_reducible refine Exists.intro ?_ ?_)); (first | (apply Ob.of; (first | with_reducible assumption | with_reducible exact ex20 _ _ | with_reducible exact ex21 _ _ | with_reducible exact ex30 _ _ _ | with_reducible exact ex31 _ _ _ | with_reducible exact ex32 _ _ _ | rfl | (exact ald rfl rfl (by assumption) rfl) | (exact ald_agg rfl rfl rfl (by assumption) rfl)); (conv => whnf)) | (apply bIf.yes; (first | assumption | rfl); (conv => whnf)) | (apply bIf.no; (first | assumption | rfl); (conv => whnf)) | ((with_reducible refine Ob.load (by with_unfolding_all assumption) ?_); (conv => whnf)) | (apply Grows.mk; (first | exact Grow.refl _ | assumption); (conv => whnf)))))
  refine Ob.store rfl rfl rfl a12 rfl (by first | exact Nat.le_of_ble_eq_true rfl | simp) fun X3 s12 k12 l12 => ?_
  have e13 : Grow X1 X3 := e2.but_new k12 (by omega)
  have hR3 := hR.grow e13
  have hl12 : X1.length ≤ q12 := by omega
  have hpbl : pb < X1.length := lt_at hR.pla
  have hq8l : q8 < X1.length := lt_at hR.blk
  have hpl : ((runL p.2.1 c L n).places ++ List.replicate (c.ins.length - n) 0).length = c.ins.length := by simp [hrl.1]; omega
  have ix : aindexAddr Try.prog 36 (rowV pb c.ins.length) (.int .i64 (n : Int)) = some (.pointer (some ⟨pb, n, none⟩)) := own_idx hnl
  (try (conv => whnf)); (repeat ((fail_if_success (with_reducible refine And.intro ?_ ?_)); (fail_if_success (with_reducible refine Exists.intro ?_ ?_)); (first | (apply Ob.of; (first | with_reducible assumption | with_reducible exact ex20 _ _ | with_reducible exact ex21 _ _ | with_reducible exact ex30 _ _ _ | with_reducible exact ex31 _ _ _ | with_reducible exact ex32 _ _ _ | rfl | (exact ald rfl rfl (by assumption) rfl) | (exact ald_agg rfl rfl rfl (by assumption) rfl)); (conv => whnf)) | (apply bIf.yes; (first | assumption | rfl); (conv => whnf)) | (apply bIf.no; (first | assumption | rfl); (conv => whnf)) | ((with_reducible refine Ob.load (by with_unfolding_all assumption) ?_); (conv => whnf)) | (apply Grows.mk; (first | exact Grow.refl _ | assumption); (conv => whnf)))))
  refine Ob.storeI hR3.pla (by omega) fun X4 o13 k13 l13 => ?_
  rw [set_next hrl.1 hnl] at o13
  have hR4 := (hR3.pl k13 o13).pls (s' := { runL p.2.1 c L n with places := (runL p.2.1 c L n).places ++ [-1] }) rfl rfl
  have f14 : FrX H.length q8 pb X1 X4 := (FrX.of e13).trans (.ofp k13 hn1')
  have s12' := k13.at s12 (by omega)
  have c12 := hblk_of s12'
  have ixd : aindexAddr Try.prog 36 (rowV qd L.length) (.int .i64 (n : Int)) = some (.pointer (some ⟨qd, n, none⟩)) := own_idx (by omega)
  have ydl := own_ld (f14.own yd ned8 nedp) hd
  have hrp : (runL p.2.1 c L (n + 1)) = stepL p.2.1 c.2.1 (runL p.2.1 c L n) n x d := by rw [runL, hx, hd]
  by_cases hd0 : d < 0
  · have d3 : decide (d < 0) = true := decide_eq_true hd0
    (try (conv => whnf)); (repeat ((fail_if_success (with_reducible refine And.intro ?_ ?_)); (fail_if_success (with_reducible refine Exists.intro ?_ ?_)); (first | (apply Ob.of; (first | with_reducible assumption | with_reducible exact ex20 _ _ | with_reducible exact ex21 _ _ | with_reducible exact ex30 _ _ _ | with_reducible exact ex31 _ _ _ | with_reducible exact ex32 _ _ _ | rfl | (exact ald rfl rfl (by assumption) rfl) | (exact ald_agg rfl rfl rfl (by assumption) rfl)); (conv => whnf)) | (apply bIf.yes; (first | assumption | rfl); (conv => whnf)) | (apply bIf.no; (first | assumption | rfl); (conv => whnf)) | ((with_reducible refine Ob.load (by with_unfolding_all assumption) ?_); (conv => whnf)) | (apply Grows.mk; (first | exact Grow.refl _ | assumption); (conv => whnf)))))
    refine ⟨n + 1, ⟨rfl, rfl, rfl, rfl, rfl, rfl, rfl, congrArg (fun z => some (Value.int .i64 z)) wn, trivial⟩, ⟨hnl, ⟨.slice va vn vk, .slice wa wm wk, ?_⟩, fX.trans f14⟩, by show c.ins.length - (n + 1) < c.ins.length - n; omega⟩
    have : runL p.2.1 c L (n + 1) = { runL p.2.1 c L n with places := (runL p.2.1 c L n).places ++ [-1] } := by rw [hrp]; unfold stepL; rw [if_pos hd0]
    show RR _ _ _ _ _ _ (runL p.2.1 c L (n + 1)) ((runL p.2.1 c L (n + 1)).places ++ List.replicate (c.ins.length - (n + 1)) 0) _ _
    rw [this]
    exact hR4
  have d3 : decide (d < 0) = false := decide_eq_false hd0
  have hfi := hcl.fine n d x hd (by omega) hx
  have hins := hr.2.1 n x hnl hx
  have hdeep := ha.2.2.2.1
  have lo : alen Try.prog 29 (.slice wa wm wk) X4 = some (.int .i64 (runL p.2.1 c L n).ops.length) := hR4.ops.rl.len rfl _
  have y84 := hblk_of hR4.blk
  (try (conv => whnf)); (repeat ((fail_if_success (with_reducible refine And.intro ?_ ?_)); (fail_if_success (with_reducible refine Exists.intro ?_ ?_)); (first | (apply Ob.of; (first | with_reducible assumption | with_reducible exact ex20 _ _ | with_reducible exact ex21 _ _ | with_reducible exact ex30 _ _ _ | with_reducible exact ex31 _ _ _ | with_reducible exact ex32 _ _ _ | rfl | (exact ald rfl rfl (by assumption) rfl) | (exact ald_agg rfl rfl rfl (by assumption) rfl)); (conv => whnf)) | (apply bIf.yes; (first | assumption | rfl); (conv => whnf)) | (apply bIf.no; (first | assumption | rfl); (conv => whnf)) | ((with_reducible refine Ob.load (by with_unfolding_all assumption) ?_); (conv => whnf)) | (apply Grows.mk; (first | exact Grow.refl _ | assumption); (conv => whnf)))))
  refine Ob.storeI hR4.pla (by simp [hrl.1]) fun X5 o5 k5 l5 => ?_
  rw [set_again hrl.1] at o5
  have hR5 := (hR4.pl k5 o5).pls (s' := { runL p.2.1 c L n with places := (runL p.2.1 c L n).places ++ [((runL p.2.1 c L n).ops.length : Int)] }) rfl rfl
  have f15 : FrX H.length q8 pb X1 X5 := f14.trans (.ofp k5 hn1')
  have s12'' := k5.at s12' (by omega)
  have c12' := hblk_of s12''
  have hrp2 : runL p.2.1 c L (n + 1) = instrL p.2.1 x { runL p.2.1 c L n with places := (runL p.2.1 c L n).places ++ [((runL p.2.1 c L n).ops.length : Int)] } c.2.1 (n : Int) d := by rw [hrp]; unfold stepL; rw [if_neg hd0]
  clear hrp
  by_cases h31 : x.1 = 31
  · have e31 : (x.1 == 31) = true := beq_iff_eq.2 h31
    (try (conv => whnf)); (repeat ((fail_if_success (with_reducible refine And.intro ?_ ?_)); (fail_if_success (with_reducible refine Exists.intro ?_ ?_)); (first | (apply Ob.of; (first | with_reducible assumption | with_reducible exact ex20 _ _ | with_reducible exact ex21 _ _ | with_reducible exact ex30 _ _ _ | with_reducible exact ex31 _ _ _ | with_reducible exact ex32 _ _ _ | rfl | (exact ald rfl rfl (by assumption) rfl) | (exact ald_agg rfl rfl rfl (by assumption) rfl)); (conv => whnf)) | (apply bIf.yes; (first | assumption | rfl); (conv => whnf)) | (apply bIf.no; (first | assumption | rfl); (conv => whnf)) | ((with_reducible refine Ob.load (by with_unfolding_all assumption) ?_); (conv => whnf)) | (apply Grows.mk; (first | exact Grow.refl _ | assumption); (conv => whnf)))))
    refine ⟨n + 1, ⟨rfl, rfl, rfl, rfl, rfl, rfl, rfl, congrArg (fun z => some (Value.int .i64 z)) wn, trivial⟩, ⟨hnl, ⟨.slice va vn vk, .slice wa wm wk, ?_⟩, fX.trans f15⟩, by show c.ins.length - (n + 1) < c.ins.length - n; omega⟩
    show RR _ _ _ _ _ _ (runL p.2.1 c L (n + 1)) ((runL p.2.1 c L (n + 1)).places ++ List.replicate (c.ins.length - (n + 1)) 0) _ _
    unfold instrL at hrp2
    rw [if_pos h31] at hrp2
    rw [hrp2]
    exact hR5
  have e31 : (x.1 == 31) = false := beq_eq_false_iff_ne.2 h31
  have wt : IntKind.i64.wrap (c.2.1 + d) = c.2.1 + d := by rw [wrap_i64 (by omega) (by omega)]
  have y75 := hblk_of (f15.var (fX.var x7 ne87 nep7) ne87 nep7)
  have yd5 := own_ld (f15.own yd ned8 nedp) hd
  (try (conv => whnf)); (repeat ((fail_if_success (with_reducible refine And.intro ?_ ?_)); (fail_if_success (with_reducible refine Exists.intro ?_ ?_)); (first | (apply Ob.of; (first | with_reducible assumption | with_reducible exact ex20 _ _ | with_reducible exact ex21 _ _ | with_reducible exact ex30 _ _ _ | with_reducible exact ex31 _ _ _ | with_reducible exact ex32 _ _ _ | rfl | (exact ald rfl rfl (by assumption) rfl) | (exact ald_agg rfl rfl rfl (by assumption) rfl)); (conv => whnf)) | (apply bIf.yes; (first | assumption | rfl); (conv => whnf)) | (apply bIf.no; (first | assumption | rfl); (conv => whnf)) | ((with_reducible refine Ob.load (by with_unfolding_all assumption) ?_); (conv => whnf)) | (apply Grows.mk; (first | exact Grow.refl _ | assumption); (conv => whnf)))))
  apply SW.drawG [(0, [], [86, 87, 88, 89], false), (1, [(84, 0)], [84, 86, 87, 88, 89], false), (2, [], [84, 85, 87], false), (3, [], [84, 85, 86], false), (4, [(86, 2), (87, 3)], [84, 85, 86, 87], false), (5, [(86, 2), (87, 3), (88, 4)], [84, 85, 86, 87, 88], false), (6, [(84, 0), (85, 1), (86, 2), (87, 3), (88, 4), (89, 5)], [84, 85, 86, 87, 88, 89], false), (7, [(84, 0), (85, 1), (86, 2), (87, 3), (88, 4), (89, 5), (90, 6)], [84, 85, 86, 87, 88, 89, 90], false)]
    [(84, 0), (85, 1), (86, 2), (87, 3), (88, 4), (89, 5), (90, 6), (13, 7)]
    [(1, _), (2, _), (4, _), (7, _), (8, _), (9, _), (10, _), (11, _), (12, _)] rfl (by kernel_rfl)
  case hF => exact ⟨rfl, rfl, rfl, rfl, rfl, rfl, rfl, rfl, rfl, trivial⟩
  (try (conv => whnf)); (repeat ((fail_if_success (with_reducible refine And.intro ?_ ?_)); (fail_if_success (with_reducible refine Exists.intro ?_ ?_)); (first | (apply Ob.of; (first | with_reducible assumption | with_reducible exact ex20 _ _ | with_reducible exact ex21 _ _ | with_reducible exact ex30 _ _ _ | with_reducible exact ex31 _ _ _ | with_reducible exact ex32 _ _ _ | rfl | (exact ald rfl rfl (by assumption) rfl) | (exact ald_agg rfl rfl rfl (by assumption) rfl)); (conv => whnf)) | (apply bIf.yes; (first | assumption | rfl); (conv => whnf)) | (apply bIf.no; (first | assumption | rfl); (conv => whnf)) | ((with_reducible refine Ob.load (by with_unfolding_all assumption) ?_); (conv => whnf)) | (apply Grows.mk; (first | exact Grow.refl _ | assumption); (conv => whnf)))))
  rw [wt]
  refine Ob2.alloc rfl fun q14 X6 hq14 a14 e6 => ?_
  (try (conv => whnf)); (repeat ((fail_if_success (with_reducible refine And.intro ?_ ?_)); (fail_if_success (with_reducible refine Exists.intro ?_ ?_)); (first | (apply Ob.of; (first | with_reducible assumption | with_reducible exact ex20 _ _ | with_reducible exact ex21 _ _ | with_reducible exact ex30 _ _ _ | with_reducible exact ex31 _ _ _ | with_reducible exact ex32 _ _ _ | rfl | (exact ald rfl rfl (by assumption) rfl) | (exact ald_agg rfl rfl rfl (by assumption) rfl)); (conv => whnf)) | (apply bIf.yes; (first | assumption | rfl); (conv => whnf)) | (apply bIf.no; (first | assumption | rfl); (conv => whnf)) | ((with_reducible refine Ob.load (by with_unfolding_all assumption) ?_); (conv => whnf)) | (apply Grows.mk; (first | exact Grow.refl _ | assumption); (conv => whnf)))))
  refine Ob.store rfl rfl rfl a14 rfl (by first | exact Nat.le_of_ble_eq_true rfl | simp) fun X7 s14 k7 l7 => ?_
  have e57 : Grow X5 X7 := e6.but_new k7 (by omega)
  have f17 : FrX H.length q8 pb X1 X7 := f15.trans (.of e57)
  have c12'' := hblk_of (e57.at s12'')
  have y27 : aload Try.prog 25 (.pointer (some ⟨q2, 0, none⟩)) X7 = some (progV p (.slice pa pn pk) (.slice ca cn ck)) := ald_agg rfl rfl rfl (hblk_of (f17.var (fX.var x2 ne82 nep2) ne82 nep2)) rfl
  have y127 : aload Try.prog 46 (.pointer (some ⟨q12, 0, none⟩)) X7 = some (insV x.1 x.2.1 x.2.2) := ald_agg rfl rfl rfl c12'' rfl
  have g07' : Grow H X7 := f17.grow gX (Nat.le_refl _)
  have hR7 := hR5.grow e57
  (try (conv => whnf)); (repeat ((fail_if_success (with_reducible refine And.intro ?_ ?_)); (fail_if_success (with_reducible refine Exists.intro ?_ ?_)); (first | (apply Ob.of; (first | with_reducible assumption | with_reducible exact ex20 _ _ | with_reducible exact ex21 _ _ | with_reducible exact ex30 _ _ _ | with_reducible exact ex31 _ _ _ | with_reducible exact ex32 _ _ _ | rfl | (exact ald rfl rfl (by assumption) rfl) | (exact ald_agg rfl rfl rfl (by assumption) rfl)); (conv => whnf)) | (apply bIf.yes; (first | assumption | rfl); (conv => whnf)) | (apply bIf.no; (first | assumption | rfl); (conv => whnf)) | ((with_reducible refine Ob.load (by with_unfolding_all assumption) ?_); (conv => whnf)) | (apply Grows.mk; (first | exact Grow.refl _ | assumption); (conv => whnf)))))
  refine (value_ax (strR.grow hp g07') x.1 x.2.1 x.2.2 (fun e => by have := hins.1; unfold argP at this; omega)).mono ?_
  rintro _ X8 ⟨⟨w, bb, rfl, hw8⟩, e8⟩
  have hR8 := hR7.grow e8
  (try (conv => whnf)); (repeat ((fail_if_success (with_reducible refine And.intro ?_ ?_)); (fail_if_success (with_reducible refine Exists.intro ?_ ?_)); (first | (apply Ob.of; (first | with_reducible assumption | with_reducible exact ex20 _ _ | with_reducible exact ex21 _ _ | with_reducible exact ex30 _ _ _ | with_reducible exact ex31 _ _ _ | with_reducible exact ex32 _ _ _ | rfl | (exact ald rfl rfl (by assumption) rfl) | (exact ald_agg rfl rfl rfl (by assumption) rfl)); (conv => whnf)) | (apply bIf.yes; (first | assumption | rfl); (conv => whnf)) | (apply bIf.no; (first | assumption | rfl); (conv => whnf)) | ((with_reducible refine Ob.load (by with_unfolding_all assumption) ?_); (conv => whnf)) | (apply Grows.mk; (first | exact Grow.refl _ | assumption); (conv => whnf)))))
  refine Ob2.alloc rfl fun q15 X9 hq15 a15 e9 => ?_
  (try (conv => whnf)); (repeat ((fail_if_success (with_reducible refine And.intro ?_ ?_)); (fail_if_success (with_reducible refine Exists.intro ?_ ?_)); (first | (apply Ob.of; (first | with_reducible assumption | with_reducible exact ex20 _ _ | with_reducible exact ex21 _ _ | with_reducible exact ex30 _ _ _ | with_reducible exact ex31 _ _ _ | with_reducible exact ex32 _ _ _ | rfl | (exact ald rfl rfl (by assumption) rfl) | (exact ald_agg rfl rfl rfl (by assumption) rfl)); (conv => whnf)) | (apply bIf.yes; (first | assumption | rfl); (conv => whnf)) | (apply bIf.no; (first | assumption | rfl); (conv => whnf)) | ((with_reducible refine Ob.load (by with_unfolding_all assumption) ?_); (conv => whnf)) | (apply Grows.mk; (first | exact Grow.refl _ | assumption); (conv => whnf)))))
  refine Ob.store rfl rfl rfl a15 rfl (by first | exact Nat.le_of_ble_eq_true rfl | simp) fun X10 s15 k10 l10 => ?_
  have e70 : Grow X7 X10 := e8.trans (e9.but_new k10 (by omega))
  have hR10 := hR7.grow e70
  have f10 : FrX H.length q8 pb X1 X10 := f17.trans (.of e70)
  have s14' := e70.at s14
  have hq14l : X1.length ≤ q14 := by have := f15.1; omega
  have hk15 := lt_at s15
  have l010 : H.length ≤ X10.length := by have := gX.1; have := f10.1; omega
  have y810 := hblk_of hR10.blk
  rcases hw8 with ⟨hcon, rfl⟩ | ⟨hcon, rfl⟩
  · have lv15 : aload Try.prog 54 (.pointer (some ⟨q15, 0, none⟩)) X10 = some (valV w) := ald_agg rfl rfl rfl (hblk_of s15) rfl
    (try (conv => whnf)); (repeat ((fail_if_success (with_reducible refine And.intro ?_ ?_)); (fail_if_success (with_reducible refine Exists.intro ?_ ?_)); (first | (apply Ob.of; (first | with_reducible assumption | with_reducible exact ex20 _ _ | with_reducible exact ex21 _ _ | with_reducible exact ex30 _ _ _ | with_reducible exact ex31 _ _ _ | with_reducible exact ex32 _ _ _ | rfl | (exact ald rfl rfl (by assumption) rfl) | (exact ald_agg rfl rfl rfl (by assumption) rfl)); (conv => whnf)) | (apply bIf.yes; (first | assumption | rfl); (conv => whnf)) | (apply bIf.no; (first | assumption | rfl); (conv => whnf)) | ((with_reducible refine Ob.load (by with_unfolding_all assumption) ?_); (conv => whnf)) | (apply Grows.mk; (first | exact Grow.refl _ | assumption); (conv => whnf)))))
    refine (number_ax hR10.con hR10.con0 l010 (by have := hrl.2.2; show (runL p.2.1 c L n).consts.length ≤ _; omega) w).mono ?_
    rintro _ X11 ⟨⟨lv', rfl, con', con0'⟩, f11⟩
    obtain ⟨za, zn, zk, rfl⟩ := con'.form
    have b11 := f11.2 q8 _ hR10.blk (.inr fun c h => by simp at h)
    have s141 := f11.2 q14 _ s14' (.inr fun c h => by simp at h)
    (try (conv => whnf)); (repeat ((fail_if_success (with_reducible refine And.intro ?_ ?_)); (fail_if_success (with_reducible refine Exists.intro ?_ ?_)); (first | (apply Ob.of; (first | with_reducible assumption | with_reducible exact ex20 _ _ | with_reducible exact ex21 _ _ | with_reducible exact ex30 _ _ _ | with_reducible exact ex31 _ _ _ | with_reducible exact ex32 _ _ _ | rfl | (exact ald rfl rfl (by assumption) rfl) | (exact ald_agg rfl rfl rfl (by assumption) rfl)); (conv => whnf)) | (apply bIf.yes; (first | assumption | rfl); (conv => whnf)) | (apply bIf.no; (first | assumption | rfl); (conv => whnf)) | ((with_reducible refine Ob.load (by with_unfolding_all assumption) ?_); (conv => whnf)) | (apply Grows.mk; (first | exact Grow.refl _ | assumption); (conv => whnf)))))
    refine Ob.store rfl rfl rfl b11 rfl (by first | exact Nat.le_of_ble_eq_true rfl | simp) fun X12 s16 k16 l16 => ?_
    have hR12 : RR H.length q8 pb (i : Int) (c.2.1 + c.2.2.2.1) X12 { runL p.2.1 c L n with places := (runL p.2.1 c L n).places ++ [((runL p.2.1 c L n).ops.length : Int)], consts := addV (runL p.2.1 c L n).consts w } _ _ _ :=
      RR.set b11 k16 s16 con' con0' (hR10.ops.keepR f11 (by decide) fun _ _ _ h => h.keep (IntKeep.of f11 (by decide))) hR10.ops0 (f11.2 pb _ hR10.pla (.inr (notRow_row (by decide))))
    have f12 : FrX H.length q8 pb X1 X12 := (f10.trans (.ofR f11 (.inr rfl))).trans (.of8 k16 hn0)
    have s142 := k16.at s141 (by omega)
    (try (conv => whnf)); (repeat ((fail_if_success (with_reducible refine And.intro ?_ ?_)); (fail_if_success (with_reducible refine Exists.intro ?_ ?_)); (first | (apply Ob.of; (first | with_reducible assumption | with_reducible exact ex20 _ _ | with_reducible exact ex21 _ _ | with_reducible exact ex30 _ _ _ | with_reducible exact ex31 _ _ _ | with_reducible exact ex32 _ _ _ | rfl | (exact ald rfl rfl (by assumption) rfl) | (exact ald_agg rfl rfl rfl (by assumption) rfl)); (conv => whnf)) | (apply bIf.yes; (first | assumption | rfl); (conv => whnf)) | (apply bIf.no; (first | assumption | rfl); (conv => whnf)) | ((with_reducible refine Ob.load (by with_unfolding_all assumption) ?_); (conv => whnf)) | (apply Grows.mk; (first | exact Grow.refl _ | assumption); (conv => whnf)))))
    refine Ob.store rfl rfl rfl s142 rfl (by first | exact Nat.le_of_ble_eq_true rfl | simp) fun X13 s17 k17 l17 => ?_
    have hR13 := hR12.but k17 s142 (by omega)
    have f13 : FrX H.length q8 pb X1 X13 := f12.but_new k17 hq14l
    have hrg : OwnR 1 3 intR X13 (.slice none 0 0) [] := .inl ⟨rfl, rfl⟩
    have hrg0 : ∀ b, blkIs (.slice none 0 0) b → X1.length ≤ b := fun b hb => by obtain ⟨n, k, hb⟩ := hb; simp at hb
    have hfin : ∀ ops, ops = (runL p.2.1 c L n).ops ++ [(⟨2, c.2.1 + d, (idV (runL p.2.1 c L n).consts w : Int), 0, 0, [], (n : Int), mapL c.2.1 d⟩ : OpT)] → runL p.2.1 c L (n + 1) = { runL p.2.1 c L n with places := (runL p.2.1 c L n).places ++ [((runL p.2.1 c L n).ops.length : Int)], consts := addV (runL p.2.1 c L n).consts w, ops := ops } := by
      rintro _ rfl
      rw [hrp2]
      unfold instrL
      rw [if_neg h31, hcon]
      rfl
    (try (conv => whnf)); (repeat ((fail_if_success (with_reducible refine And.intro ?_ ?_)); (fail_if_success (with_reducible refine Exists.intro ?_ ?_)); (first | (apply Ob.of; (first | with_reducible assumption | with_reducible exact ex20 _ _ | with_reducible exact ex21 _ _ | with_reducible exact ex30 _ _ _ | with_reducible exact ex31 _ _ _ | with_reducible exact ex32 _ _ _ | rfl | (exact ald rfl rfl (by assumption) rfl) | (exact ald_agg rfl rfl rfl (by assumption) rfl)); (conv => whnf)) | (apply bIf.yes; (first | assumption | rfl); (conv => whnf)) | (apply bIf.no; (first | assumption | rfl); (conv => whnf)) | ((with_reducible refine Ob.load (by with_unfolding_all assumption) ?_); (conv => whnf)) | (apply Grows.mk; (first | exact Grow.refl _ | assumption); (conv => whnf)))))
    refine Ob.store rfl rfl rfl s17 rfl (by first | exact Nat.le_of_ble_eq_true rfl | simp) fun X14 s18 k18 l18 => ?_
    have hR14 := hR13.but k18 s17 (by omega)
    have f14 : FrX H.length q8 pb X1 X14 := f13.but_new k18 hq14l
    have hrg : OwnR 1 3 intR X14 (.slice none 0 0) [] := hrg.keep (fun b c' _ hc' => k18.at hc' (by rintro rfl; rw [s17] at hc'; simp at hc')) fun _ _ _ h => h
    have y714 := hblk_of (f14.var (fX.var x7 ne87 nep7) ne87 nep7)
    (try (conv => whnf)); (repeat ((fail_if_success (with_reducible refine And.intro ?_ ?_)); (fail_if_success (with_reducible refine Exists.intro ?_ ?_)); (first | (apply Ob.of; (first | with_reducible assumption | with_reducible exact ex20 _ _ | with_reducible exact ex21 _ _ | with_reducible exact ex30 _ _ _ | with_reducible exact ex31 _ _ _ | with_reducible exact ex32 _ _ _ | rfl | (exact ald rfl rfl (by assumption) rfl) | (exact ald_agg rfl rfl rfl (by assumption) rfl)); (conv => whnf)) | (apply bIf.yes; (first | assumption | rfl); (conv => whnf)) | (apply bIf.no; (first | assumption | rfl); (conv => whnf)) | ((with_reducible refine Ob.load (by with_unfolding_all assumption) ?_); (conv => whnf)) | (apply Grows.mk; (first | exact Grow.refl _ | assumption); (conv => whnf)))))
    refine SW.loop (α := Nat × Value) (fun y => [(1, .int .i64 (i : Int)), (2, .pointer (some ⟨q2, 0, none⟩)), (4, .pointer (some ⟨q4, 0, none⟩)), (7, .pointer (some ⟨q7, 0, none⟩)), (8, .pointer (some ⟨q8, 0, none⟩)), (9, rowV qd L.length), (10, rowV pb c.ins.length), (11, .int .i64 (n : Int)), (13, .int .i64 (c.2.1 + d)), (14, .pointer (some ⟨q14, 0, none⟩)), (19, .int .i64 (c.2.1 + (y.1 : Int)))])
      (fun y X => y.1 ≤ d.toNat ∧ But q14 X14 X ∧ X[q14]? = some (.cells .var [.int .i64 2, .int .i64 (c.2.1 + d), .int .i64 (idV (runL p.2.1 c L n).consts w : Int), .int .i64 0, .int .i64 0, (.slice none 0 0), .slice none 0 0, .int .i64 (n : Int), y.2]) ∧ OwnR 1 3 intR X y.2 (mapN c.2.1 y.1) ∧ ∀ b, blkIs y.2 b → X14.length ≤ b) (fun y => d.toNat - y.1)
      ⟨(0, .slice none 0 0), ⟨rfl, rfl, rfl, rfl, rfl, rfl, rfl, rfl, rfl, rfl, congrArg (fun z => some (Value.int .i64 z)) (by simp), trivial⟩, Nat.zero_le _, .refl _ _, s18, .inl ⟨rfl, rfl⟩, fun b hb => by obtain ⟨n, k, hb⟩ := hb; simp at hb⟩ ?_
    rintro ⟨j, mv⟩ X15 ⟨hj, t1, x14, om, m0⟩
    dsimp only at hj t1 x14 om m0 ⊢
    refine bC_sound _ _ _ _ ?_
    have y14 := hblk_of x14
    obtain ⟨ua, un, uk, rfl⟩ := om.form
    have hk14 := lt_at s18
    by_cases hjd : j < d.toNat
    · have d5 : decide (c.2.1 + (j : Int) < c.2.1 + d) = true := decide_eq_true (by omega)
      have w2 : IntKind.i64.wrap (c.2.1 + (j : Int) + 1) = c.2.1 + ((j + 1 : Nat) : Int) := by rw [wrap_i64 (by omega) (by omega)]; omega
      (try (conv => whnf)); (repeat ((fail_if_success (with_reducible refine And.intro ?_ ?_)); (fail_if_success (with_reducible refine Exists.intro ?_ ?_)); (first | (apply Ob.of; (first | with_reducible assumption | with_reducible exact ex20 _ _ | with_reducible exact ex21 _ _ | with_reducible exact ex30 _ _ _ | with_reducible exact ex31 _ _ _ | with_reducible exact ex32 _ _ _ | rfl | (exact ald rfl rfl (by assumption) rfl) | (exact ald_agg rfl rfl rfl (by assumption) rfl)); (conv => whnf)) | (apply bIf.yes; (first | assumption | rfl); (conv => whnf)) | (apply bIf.no; (first | assumption | rfl); (conv => whnf)) | ((with_reducible refine Ob.load (by with_unfolding_all assumption) ?_); (conv => whnf)) | (apply Grows.mk; (first | exact Grow.refl _ | assumption); (conv => whnf)))))
      refine Ob2.lay (H := X15) (.cells (.row 3) [.int .i64 (c.2.1 + (j : Int))]) (.slice (some ⟨X15.length, 0, none⟩) 1 1) rfl fun X16 z2 t2 l2 => ?_
      obtain ⟨X17, ap, o3, t3, _⟩ := OwnR.append (n := X14.length) (x := c.2.1 + (j : Int)) rowI rowI (om.keep (fun b c _ h => t2.at h) fun _ _ _ h => h) z2 rfl rfl m0 (by have := t1.1; have := t2.1; omega) (by simp [mapN]; omega) (fun _ _ _ _ _ h => h)
      have t17 : But q14 X14 X17 := But.ofR (t1.grow t2) t3 (Nat.le_refl _)
      (try (conv => whnf)); (repeat ((fail_if_success (with_reducible refine And.intro ?_ ?_)); (fail_if_success (with_reducible refine Exists.intro ?_ ?_)); (first | (apply Ob.of; (first | with_reducible assumption | with_reducible exact ex20 _ _ | with_reducible exact ex21 _ _ | with_reducible exact ex30 _ _ _ | with_reducible exact ex31 _ _ _ | with_reducible exact ex32 _ _ _ | rfl | (exact ald rfl rfl (by assumption) rfl) | (exact ald_agg rfl rfl rfl (by assumption) rfl)); (conv => whnf)) | (apply bIf.yes; (first | assumption | rfl); (conv => whnf)) | (apply bIf.no; (first | assumption | rfl); (conv => whnf)) | ((with_reducible refine Ob.load (by with_unfolding_all assumption) ?_); (conv => whnf)) | (apply Grows.mk; (first | exact Grow.refl _ | assumption); (conv => whnf)))))
      refine Ob2.of ap ?_
      have x147 := t3.2 q14 _ (t2.at x14) (.inr fun c he => by simp at he)
      have y147 := hblk_of x147
      (try (conv => whnf)); (repeat ((fail_if_success (with_reducible refine And.intro ?_ ?_)); (fail_if_success (with_reducible refine Exists.intro ?_ ?_)); (first | (apply Ob.of; (first | with_reducible assumption | with_reducible exact ex20 _ _ | with_reducible exact ex21 _ _ | with_reducible exact ex30 _ _ _ | with_reducible exact ex31 _ _ _ | with_reducible exact ex32 _ _ _ | rfl | (exact ald rfl rfl (by assumption) rfl) | (exact ald_agg rfl rfl rfl (by assumption) rfl)); (conv => whnf)) | (apply bIf.yes; (first | assumption | rfl); (conv => whnf)) | (apply bIf.no; (first | assumption | rfl); (conv => whnf)) | ((with_reducible refine Ob.load (by with_unfolding_all assumption) ?_); (conv => whnf)) | (apply Grows.mk; (first | exact Grow.refl _ | assumption); (conv => whnf)))))
      refine Ob.store rfl rfl rfl x147 rfl (by first | exact Nat.le_of_ble_eq_true rfl | simp) fun X18 s6 k6 l6 => ?_
      (try (conv => whnf)); (repeat ((fail_if_success (with_reducible refine And.intro ?_ ?_)); (fail_if_success (with_reducible refine Exists.intro ?_ ?_)); (first | (apply Ob.of; (first | with_reducible assumption | with_reducible exact ex20 _ _ | with_reducible exact ex21 _ _ | with_reducible exact ex30 _ _ _ | with_reducible exact ex31 _ _ _ | with_reducible exact ex32 _ _ _ | rfl | (exact ald rfl rfl (by assumption) rfl) | (exact ald_agg rfl rfl rfl (by assumption) rfl)); (conv => whnf)) | (apply bIf.yes; (first | assumption | rfl); (conv => whnf)) | (apply bIf.no; (first | assumption | rfl); (conv => whnf)) | ((with_reducible refine Ob.load (by with_unfolding_all assumption) ?_); (conv => whnf)) | (apply Grows.mk; (first | exact Grow.refl _ | assumption); (conv => whnf)))))
      refine ⟨(j + 1, .slice (some ⟨X16.length, 0, none⟩) ((mapN c.2.1 j).length + 1) 1), ⟨rfl, rfl, rfl, rfl, rfl, rfl, rfl, rfl, rfl, rfl, congrArg (fun z => some (Value.int .i64 z)) w2, trivial⟩, ⟨by show j + 1 ≤ _; omega, t17.trans k6, s6, ?_, fun b hb => ?_⟩, by show d.toNat - (j + 1) < d.toNat - j; omega⟩
      · show OwnR _ _ _ _ _ (mapN c.2.1 (j + 1))
        rw [mapN_succ]
        exact o3.keep (fun q c _ hc => k6.at hc (by rintro rfl; rw [x147] at hc; simp at hc)) fun _ _ _ h => h
      · obtain ⟨n, k, hb⟩ := hb
        simp only [Value.slice.injEq, Option.some.injEq, Addr.mk.injEq, and_true] at hb
        have := t1.1; have := t2.1
        omega
    have d5 : decide (c.2.1 + (j : Int) < c.2.1 + d) = false := decide_eq_false (by omega)
    have hje : j = d.toNat := by omega
    subst hje
    have ne14 : ∀ (b : Nat) (e : TypeId) (c' : List Value), X14[b]? = some (.cells (.row e) c') → b ≠ q14 := by
      rintro b e c' hb rfl
      rw [s18] at hb
      simp at hb
    have hR15 : RR H.length q8 pb (i : Int) (c.2.1 + c.2.2.2.1) X15 { runL p.2.1 c L n with places := (runL p.2.1 c L n).places ++ [((runL p.2.1 c L n).ops.length : Int)], consts := addV (runL p.2.1 c L n).consts w } _ (.slice za zn zk) _ := hR14.but t1 s18 (by omega)
    have f15 : FrX H.length q8 pb X1 X15 := f14.but_new t1 hq14l
    have y815 := hblk_of hR15.blk
    have lv14 : aload Try.prog 44 (.pointer (some ⟨q14, 0, none⟩)) X15 = some (.agg #[.int .i64 2, .int .i64 (c.2.1 + d), .int .i64 (idV (runL p.2.1 c L n).consts w : Int), .int .i64 0, .int .i64 0, (.slice none 0 0), .slice none 0 0, .int .i64 (n : Int), .slice ua un uk]) := ald_agg rfl rfl rfl y14 rfl
    have hri : IntRow pb X15 (.slice none 0 0) [] := ⟨hrg.keep (fun b c' _ hc' => t1.at hc' (ne14 _ _ _ hc')) fun _ _ _ h => h, fun b hb => by have := hrg0 b hb; omega⟩
    have hmi : IntRow pb X15 (.slice ua un uk) (mapN c.2.1 d.toNat) := ⟨om, fun b hb => by have := m0 b hb; have := f14.1; omega⟩
    (try (conv => whnf)); (repeat ((fail_if_success (with_reducible refine And.intro ?_ ?_)); (fail_if_success (with_reducible refine Exists.intro ?_ ?_)); (first | (apply Ob.of; (first | with_reducible assumption | with_reducible exact ex20 _ _ | with_reducible exact ex21 _ _ | with_reducible exact ex30 _ _ _ | with_reducible exact ex31 _ _ _ | with_reducible exact ex32 _ _ _ | rfl | (exact ald rfl rfl (by assumption) rfl) | (exact ald_agg rfl rfl rfl (by assumption) rfl)); (conv => whnf)) | (apply bIf.yes; (first | assumption | rfl); (conv => whnf)) | (apply bIf.no; (first | assumption | rfl); (conv => whnf)) | ((with_reducible refine Ob.load (by with_unfolding_all assumption) ?_); (conv => whnf)) | (apply Grows.mk; (first | exact Grow.refl _ | assumption); (conv => whnf)))))
    refine Ob2.lay (H := X15) (.cells (.row 44) [.int .i64 2, .int .i64 (c.2.1 + d), .int .i64 (idV (runL p.2.1 c L n).consts w : Int), .int .i64 0, .int .i64 0, (.slice none 0 0), .slice none 0 0, .int .i64 (n : Int), .slice ua un uk]) (.slice (some ⟨X15.length, 0, none⟩) 1 9) rfl fun X16 z2 t2 l2 => ?_
    have hR16 := hR15.grow t2
    obtain ⟨X17, ap, o3, t3, _⟩ := OwnR.append (n := H.length) (x := (⟨2, (c.2.1 + d), (idV (runL p.2.1 c L n).consts w : Int), 0, 0, [], (n : Int), mapN c.2.1 d.toNat⟩ : OpT)) rowO rowO hR16.ops z2 rfl ⟨_, .slice ua un uk, rfl, hri.keep fun q c hq _ => t2.at hq, hmi.keep fun q c hq _ => t2.at hq⟩ hR16.ops0 (by have := gX.1; have := f15.1; have := t2.1; omega) (by have := hrl.2.1; show (runL p.2.1 c L n).ops.length ≤ _; omega) (fun A B hF l x hx => hx.keep (IntKeep.of hF (by decide)))
    have bl17 := t3.2 q8 _ hR16.blk (.inr fun c he => by simp at he)
    have y817 := hblk_of bl17
    (try (conv => whnf)); (repeat ((fail_if_success (with_reducible refine And.intro ?_ ?_)); (fail_if_success (with_reducible refine Exists.intro ?_ ?_)); (first | (apply Ob.of; (first | with_reducible assumption | with_reducible exact ex20 _ _ | with_reducible exact ex21 _ _ | with_reducible exact ex30 _ _ _ | with_reducible exact ex31 _ _ _ | with_reducible exact ex32 _ _ _ | rfl | (exact ald rfl rfl (by assumption) rfl) | (exact ald_agg rfl rfl rfl (by assumption) rfl)); (conv => whnf)) | (apply bIf.yes; (first | assumption | rfl); (conv => whnf)) | (apply bIf.no; (first | assumption | rfl); (conv => whnf)) | ((with_reducible refine Ob.load (by with_unfolding_all assumption) ?_); (conv => whnf)) | (apply Grows.mk; (first | exact Grow.refl _ | assumption); (conv => whnf)))))
    refine Ob2.of ap ?_
    (try (conv => whnf)); (repeat ((fail_if_success (with_reducible refine And.intro ?_ ?_)); (fail_if_success (with_reducible refine Exists.intro ?_ ?_)); (first | (apply Ob.of; (first | with_reducible assumption | with_reducible exact ex20 _ _ | with_reducible exact ex21 _ _ | with_reducible exact ex30 _ _ _ | with_reducible exact ex31 _ _ _ | with_reducible exact ex32 _ _ _ | rfl | (exact ald rfl rfl (by assumption) rfl) | (exact ald_agg rfl rfl rfl (by assumption) rfl)); (conv => whnf)) | (apply bIf.yes; (first | assumption | rfl); (conv => whnf)) | (apply bIf.no; (first | assumption | rfl); (conv => whnf)) | ((with_reducible refine Ob.load (by with_unfolding_all assumption) ?_); (conv => whnf)) | (apply Grows.mk; (first | exact Grow.refl _ | assumption); (conv => whnf)))))
    refine Ob.store rfl rfl rfl bl17 rfl (by first | exact Nat.le_of_ble_eq_true rfl | simp) fun X18 s19 k19 l19 => ?_
    have f18 : FrX H.length q8 pb X1 X18 := ((f15.trans (.of t2)).trans (.ofR t3 (.inl rfl))).trans (.of8 k19 hn0)
    (try (conv => whnf)); (repeat ((fail_if_success (with_reducible refine And.intro ?_ ?_)); (fail_if_success (with_reducible refine Exists.intro ?_ ?_)); (first | (apply Ob.of; (first | with_reducible assumption | with_reducible exact ex20 _ _ | with_reducible exact ex21 _ _ | with_reducible exact ex30 _ _ _ | with_reducible exact ex31 _ _ _ | with_reducible exact ex32 _ _ _ | rfl | (exact ald rfl rfl (by assumption) rfl) | (exact ald_agg rfl rfl rfl (by assumption) rfl)); (conv => whnf)) | (apply bIf.yes; (first | assumption | rfl); (conv => whnf)) | (apply bIf.no; (first | assumption | rfl); (conv => whnf)) | ((with_reducible refine Ob.load (by with_unfolding_all assumption) ?_); (conv => whnf)) | (apply Grows.mk; (first | exact Grow.refl _ | assumption); (conv => whnf)))))
    refine ⟨n + 1, ⟨rfl, rfl, rfl, rfl, rfl, rfl, rfl, congrArg (fun z => some (Value.int .i64 z)) wn, trivial⟩, ⟨hnl, ⟨(.slice za zn zk), .slice (some ⟨X16.length, 0, none⟩) ((runL p.2.1 c L n).ops.length + 1) 9, ?_⟩, fX.trans f18⟩, by show c.ins.length - (n + 1) < c.ins.length - n; omega⟩
    show RR _ _ _ _ _ _ (runL p.2.1 c L (n + 1)) ((runL p.2.1 c L (n + 1)).places ++ List.replicate (c.ins.length - (n + 1)) 0) _ _
    rw [hfin _ rfl]
    exact RR.set bl17 k19 s19 (hR16.con.keepR t3 (by decide) fun _ _ _ h => h) hR16.con0 o3 (fun b hb => by
      obtain ⟨n, k, hb⟩ := hb
      simp only [Value.slice.injEq, Option.some.injEq, Addr.mk.injEq, and_true] at hb
      have := gX.1; have := f15.1; have := t2.1
      omega) (t3.2 pb _ hR16.pla (.inr (notRow_row (by decide))))
  · have hno := constL_no hcon
    have y127 : aload Try.prog 46 (.pointer (some ⟨q12, 0, none⟩)) X10 = some (insV x.1 x.2.1 x.2.2) := ald_agg rfl rfl rfl (e70.hblk c12'') rfl
    (try (conv => whnf)); (repeat ((fail_if_success (with_reducible refine And.intro ?_ ?_)); (fail_if_success (with_reducible refine Exists.intro ?_ ?_)); (first | (apply Ob.of; (first | with_reducible assumption | with_reducible exact ex20 _ _ | with_reducible exact ex21 _ _ | with_reducible exact ex30 _ _ _ | with_reducible exact ex31 _ _ _ | with_reducible exact ex32 _ _ _ | rfl | (exact ald rfl rfl (by assumption) rfl) | (exact ald_agg rfl rfl rfl (by assumption) rfl)); (conv => whnf)) | (apply bIf.yes; (first | assumption | rfl); (conv => whnf)) | (apply bIf.no; (first | assumption | rfl); (conv => whnf)) | ((with_reducible refine Ob.load (by with_unfolding_all assumption) ?_); (conv => whnf)) | (apply Grows.mk; (first | exact Grow.refl _ | assumption); (conv => whnf)))))
    refine (One_ax (op := x.1) (t := c.2.1 + d) ⟨by omega, by omega⟩ x.2.1 x.2.2 (by have := hins.1; unfold argP at this; omega)).mono ?_
    rintro _ X11 ⟨⟨rv, rfl, hrg, hrg0⟩, e11⟩
    obtain ⟨o, ho⟩ : ∃ o, o = oneL (x.1, x.2.1, x.2.2) (c.2.1 + d) := ⟨_, rfl⟩
    rw [← ho] at hrg ⊢
    have s141 := e11.at s14'
    obtain ⟨ra, rn, rk, rfl⟩ := hrg.form
    (try (conv => whnf)); (repeat ((fail_if_success (with_reducible refine And.intro ?_ ?_)); (fail_if_success (with_reducible refine Exists.intro ?_ ?_)); (first | (apply Ob.of; (first | with_reducible assumption | with_reducible exact ex20 _ _ | with_reducible exact ex21 _ _ | with_reducible exact ex30 _ _ _ | with_reducible exact ex31 _ _ _ | with_reducible exact ex32 _ _ _ | rfl | (exact ald rfl rfl (by assumption) rfl) | (exact ald_agg rfl rfl rfl (by assumption) rfl)); (conv => whnf)) | (apply bIf.yes; (first | assumption | rfl); (conv => whnf)) | (apply bIf.no; (first | assumption | rfl); (conv => whnf)) | ((with_reducible refine Ob.load (by with_unfolding_all assumption) ?_); (conv => whnf)) | (apply Grows.mk; (first | exact Grow.refl _ | assumption); (conv => whnf)))))
    refine Ob.store rfl rfl rfl s141 rfl (by first | exact Nat.le_of_ble_eq_true rfl | simp) fun X13 s17 k17 l17 => ?_
    have hR13 := (hR10.grow e11).but k17 s141 (by omega)
    have f13 : FrX H.length q8 pb X1 X13 := (f10.trans (.of e11)).but_new k17 hq14l
    have hrg : OwnR 1 3 intR X13 (.slice ra rn rk) o.regs := hrg.keep (fun b c' _ hc' => k17.at hc' (by rintro rfl; rw [s141] at hc'; simp at hc')) fun _ _ _ h => h
    have hrg0 : ∀ b, blkIs (.slice ra rn rk) b → X1.length ≤ b := fun b hb => by have := hrg0 b hb; have := f10.1; omega
    have hfin : ∀ ops, ops = (runL p.2.1 c L n).ops ++ [({ o with pc := (n : Int), map := mapL c.2.1 d } : OpT)] → runL p.2.1 c L (n + 1) = { runL p.2.1 c L n with places := (runL p.2.1 c L n).places ++ [((runL p.2.1 c L n).ops.length : Int)], ops := ops } := by
      rintro _ rfl
      rw [hrp2, ho]
      unfold instrL
      rw [if_neg h31, hcon]
      rfl
    (try (conv => whnf)); (repeat ((fail_if_success (with_reducible refine And.intro ?_ ?_)); (fail_if_success (with_reducible refine Exists.intro ?_ ?_)); (first | (apply Ob.of; (first | with_reducible assumption | with_reducible exact ex20 _ _ | with_reducible exact ex21 _ _ | with_reducible exact ex30 _ _ _ | with_reducible exact ex31 _ _ _ | with_reducible exact ex32 _ _ _ | rfl | (exact ald rfl rfl (by assumption) rfl) | (exact ald_agg rfl rfl rfl (by assumption) rfl)); (conv => whnf)) | (apply bIf.yes; (first | assumption | rfl); (conv => whnf)) | (apply bIf.no; (first | assumption | rfl); (conv => whnf)) | ((with_reducible refine Ob.load (by with_unfolding_all assumption) ?_); (conv => whnf)) | (apply Grows.mk; (first | exact Grow.refl _ | assumption); (conv => whnf)))))
    refine Ob.store rfl rfl rfl s17 rfl (by first | exact Nat.le_of_ble_eq_true rfl | simp) fun X14 s18 k18 l18 => ?_
    have hR14 := hR13.but k18 s17 (by omega)
    have f14 : FrX H.length q8 pb X1 X14 := f13.but_new k18 hq14l
    have hrg : OwnR 1 3 intR X14 (.slice ra rn rk) o.regs := hrg.keep (fun b c' _ hc' => k18.at hc' (by rintro rfl; rw [s17] at hc'; simp at hc')) fun _ _ _ h => h
    have y714 := hblk_of (f14.var (fX.var x7 ne87 nep7) ne87 nep7)
    (try (conv => whnf)); (repeat ((fail_if_success (with_reducible refine And.intro ?_ ?_)); (fail_if_success (with_reducible refine Exists.intro ?_ ?_)); (first | (apply Ob.of; (first | with_reducible assumption | with_reducible exact ex20 _ _ | with_reducible exact ex21 _ _ | with_reducible exact ex30 _ _ _ | with_reducible exact ex31 _ _ _ | with_reducible exact ex32 _ _ _ | rfl | (exact ald rfl rfl (by assumption) rfl) | (exact ald_agg rfl rfl rfl (by assumption) rfl)); (conv => whnf)) | (apply bIf.yes; (first | assumption | rfl); (conv => whnf)) | (apply bIf.no; (first | assumption | rfl); (conv => whnf)) | ((with_reducible refine Ob.load (by with_unfolding_all assumption) ?_); (conv => whnf)) | (apply Grows.mk; (first | exact Grow.refl _ | assumption); (conv => whnf)))))
    refine SW.loop (α := Nat × Value) (fun y => [(1, .int .i64 (i : Int)), (2, .pointer (some ⟨q2, 0, none⟩)), (4, .pointer (some ⟨q4, 0, none⟩)), (7, .pointer (some ⟨q7, 0, none⟩)), (8, .pointer (some ⟨q8, 0, none⟩)), (9, rowV qd L.length), (10, rowV pb c.ins.length), (11, .int .i64 (n : Int)), (13, .int .i64 (c.2.1 + d)), (14, .pointer (some ⟨q14, 0, none⟩)), (19, .int .i64 (c.2.1 + (y.1 : Int)))])
      (fun y X => y.1 ≤ d.toNat ∧ But q14 X14 X ∧ X[q14]? = some (.cells .var [.int .i64 o.kind, .int .i64 o.a, .int .i64 o.b, .int .i64 o.c, .int .i64 o.d, (.slice ra rn rk), .slice none 0 0, .int .i64 (n : Int), y.2]) ∧ OwnR 1 3 intR X y.2 (mapN c.2.1 y.1) ∧ ∀ b, blkIs y.2 b → X14.length ≤ b) (fun y => d.toNat - y.1)
      ⟨(0, .slice none 0 0), ⟨rfl, rfl, rfl, rfl, rfl, rfl, rfl, rfl, rfl, rfl, congrArg (fun z => some (Value.int .i64 z)) (by simp), trivial⟩, Nat.zero_le _, .refl _ _, s18, .inl ⟨rfl, rfl⟩, fun b hb => by obtain ⟨n, k, hb⟩ := hb; simp at hb⟩ ?_
    rintro ⟨j, mv⟩ X15 ⟨hj, t1, x14, om, m0⟩
    dsimp only at hj t1 x14 om m0 ⊢
    refine bC_sound _ _ _ _ ?_
    have y14 := hblk_of x14
    obtain ⟨ua, un, uk, rfl⟩ := om.form
    have hk14 := lt_at s18
    by_cases hjd : j < d.toNat
    · have d5 : decide (c.2.1 + (j : Int) < c.2.1 + d) = true := decide_eq_true (by omega)
      have w2 : IntKind.i64.wrap (c.2.1 + (j : Int) + 1) = c.2.1 + ((j + 1 : Nat) : Int) := by rw [wrap_i64 (by omega) (by omega)]; omega
      (try (conv => whnf)); (repeat ((fail_if_success (with_reducible refine And.intro ?_ ?_)); (fail_if_success (with_reducible refine Exists.intro ?_ ?_)); (first | (apply Ob.of; (first | with_reducible assumption | with_reducible exact ex20 _ _ | with_reducible exact ex21 _ _ | with_reducible exact ex30 _ _ _ | with_reducible exact ex31 _ _ _ | with_reducible exact ex32 _ _ _ | rfl | (exact ald rfl rfl (by assumption) rfl) | (exact ald_agg rfl rfl rfl (by assumption) rfl)); (conv => whnf)) | (apply bIf.yes; (first | assumption | rfl); (conv => whnf)) | (apply bIf.no; (first | assumption | rfl); (conv => whnf)) | ((with_reducible refine Ob.load (by with_unfolding_all assumption) ?_); (conv => whnf)) | (apply Grows.mk; (first | exact Grow.refl _ | assumption); (conv => whnf)))))
      refine Ob2.lay (H := X15) (.cells (.row 3) [.int .i64 (c.2.1 + (j : Int))]) (.slice (some ⟨X15.length, 0, none⟩) 1 1) rfl fun X16 z2 t2 l2 => ?_
      obtain ⟨X17, ap, o3, t3, _⟩ := OwnR.append (n := X14.length) (x := c.2.1 + (j : Int)) rowI rowI (om.keep (fun b c _ h => t2.at h) fun _ _ _ h => h) z2 rfl rfl m0 (by have := t1.1; have := t2.1; omega) (by simp [mapN]; omega) (fun _ _ _ _ _ h => h)
      have t17 : But q14 X14 X17 := But.ofR (t1.grow t2) t3 (Nat.le_refl _)
      (try (conv => whnf)); (repeat ((fail_if_success (with_reducible refine And.intro ?_ ?_)); (fail_if_success (with_reducible refine Exists.intro ?_ ?_)); (first | (apply Ob.of; (first | with_reducible assumption | with_reducible exact ex20 _ _ | with_reducible exact ex21 _ _ | with_reducible exact ex30 _ _ _ | with_reducible exact ex31 _ _ _ | with_reducible exact ex32 _ _ _ | rfl | (exact ald rfl rfl (by assumption) rfl) | (exact ald_agg rfl rfl rfl (by assumption) rfl)); (conv => whnf)) | (apply bIf.yes; (first | assumption | rfl); (conv => whnf)) | (apply bIf.no; (first | assumption | rfl); (conv => whnf)) | ((with_reducible refine Ob.load (by with_unfolding_all assumption) ?_); (conv => whnf)) | (apply Grows.mk; (first | exact Grow.refl _ | assumption); (conv => whnf)))))
      refine Ob2.of ap ?_
      have x147 := t3.2 q14 _ (t2.at x14) (.inr fun c he => by simp at he)
      have y147 := hblk_of x147
      (try (conv => whnf)); (repeat ((fail_if_success (with_reducible refine And.intro ?_ ?_)); (fail_if_success (with_reducible refine Exists.intro ?_ ?_)); (first | (apply Ob.of; (first | with_reducible assumption | with_reducible exact ex20 _ _ | with_reducible exact ex21 _ _ | with_reducible exact ex30 _ _ _ | with_reducible exact ex31 _ _ _ | with_reducible exact ex32 _ _ _ | rfl | (exact ald rfl rfl (by assumption) rfl) | (exact ald_agg rfl rfl rfl (by assumption) rfl)); (conv => whnf)) | (apply bIf.yes; (first | assumption | rfl); (conv => whnf)) | (apply bIf.no; (first | assumption | rfl); (conv => whnf)) | ((with_reducible refine Ob.load (by with_unfolding_all assumption) ?_); (conv => whnf)) | (apply Grows.mk; (first | exact Grow.refl _ | assumption); (conv => whnf)))))
      refine Ob.store rfl rfl rfl x147 rfl (by first | exact Nat.le_of_ble_eq_true rfl | simp) fun X18 s6 k6 l6 => ?_
      (try (conv => whnf)); (repeat ((fail_if_success (with_reducible refine And.intro ?_ ?_)); (fail_if_success (with_reducible refine Exists.intro ?_ ?_)); (first | (apply Ob.of; (first | with_reducible assumption | with_reducible exact ex20 _ _ | with_reducible exact ex21 _ _ | with_reducible exact ex30 _ _ _ | with_reducible exact ex31 _ _ _ | with_reducible exact ex32 _ _ _ | rfl | (exact ald rfl rfl (by assumption) rfl) | (exact ald_agg rfl rfl rfl (by assumption) rfl)); (conv => whnf)) | (apply bIf.yes; (first | assumption | rfl); (conv => whnf)) | (apply bIf.no; (first | assumption | rfl); (conv => whnf)) | ((with_reducible refine Ob.load (by with_unfolding_all assumption) ?_); (conv => whnf)) | (apply Grows.mk; (first | exact Grow.refl _ | assumption); (conv => whnf)))))
      refine ⟨(j + 1, .slice (some ⟨X16.length, 0, none⟩) ((mapN c.2.1 j).length + 1) 1), ⟨rfl, rfl, rfl, rfl, rfl, rfl, rfl, rfl, rfl, rfl, congrArg (fun z => some (Value.int .i64 z)) w2, trivial⟩, ⟨by show j + 1 ≤ _; omega, t17.trans k6, s6, ?_, fun b hb => ?_⟩, by show d.toNat - (j + 1) < d.toNat - j; omega⟩
      · show OwnR _ _ _ _ _ (mapN c.2.1 (j + 1))
        rw [mapN_succ]
        exact o3.keep (fun q c _ hc => k6.at hc (by rintro rfl; rw [x147] at hc; simp at hc)) fun _ _ _ h => h
      · obtain ⟨n, k, hb⟩ := hb
        simp only [Value.slice.injEq, Option.some.injEq, Addr.mk.injEq, and_true] at hb
        have := t1.1; have := t2.1
        omega
    have d5 : decide (c.2.1 + (j : Int) < c.2.1 + d) = false := decide_eq_false (by omega)
    have hje : j = d.toNat := by omega
    subst hje
    have ne14 : ∀ (b : Nat) (e : TypeId) (c' : List Value), X14[b]? = some (.cells (.row e) c') → b ≠ q14 := by
      rintro b e c' hb rfl
      rw [s18] at hb
      simp at hb
    have hR15 : RR H.length q8 pb (i : Int) (c.2.1 + c.2.2.2.1) X15 { runL p.2.1 c L n with places := (runL p.2.1 c L n).places ++ [((runL p.2.1 c L n).ops.length : Int)] } _ (.slice va vn vk) _ := hR14.but t1 s18 (by omega)
    have f15 : FrX H.length q8 pb X1 X15 := f14.but_new t1 hq14l
    have y815 := hblk_of hR15.blk
    have lv14 : aload Try.prog 44 (.pointer (some ⟨q14, 0, none⟩)) X15 = some (.agg #[.int .i64 o.kind, .int .i64 o.a, .int .i64 o.b, .int .i64 o.c, .int .i64 o.d, (.slice ra rn rk), .slice none 0 0, .int .i64 (n : Int), .slice ua un uk]) := ald_agg rfl rfl rfl y14 rfl
    have hri : IntRow pb X15 (.slice ra rn rk) o.regs := ⟨hrg.keep (fun b c' _ hc' => t1.at hc' (ne14 _ _ _ hc')) fun _ _ _ h => h, fun b hb => by have := hrg0 b hb; omega⟩
    have hmi : IntRow pb X15 (.slice ua un uk) (mapN c.2.1 d.toNat) := ⟨om, fun b hb => by have := m0 b hb; have := f14.1; omega⟩
    (try (conv => whnf)); (repeat ((fail_if_success (with_reducible refine And.intro ?_ ?_)); (fail_if_success (with_reducible refine Exists.intro ?_ ?_)); (first | (apply Ob.of; (first | with_reducible assumption | with_reducible exact ex20 _ _ | with_reducible exact ex21 _ _ | with_reducible exact ex30 _ _ _ | with_reducible exact ex31 _ _ _ | with_reducible exact ex32 _ _ _ | rfl | (exact ald rfl rfl (by assumption) rfl) | (exact ald_agg rfl rfl rfl (by assumption) rfl)); (conv => whnf)) | (apply bIf.yes; (first | assumption | rfl); (conv => whnf)) | (apply bIf.no; (first | assumption | rfl); (conv => whnf)) | ((with_reducible refine Ob.load (by with_unfolding_all assumption) ?_); (conv => whnf)) | (apply Grows.mk; (first | exact Grow.refl _ | assumption); (conv => whnf)))))
    refine Ob2.lay (H := X15) (.cells (.row 44) [.int .i64 o.kind, .int .i64 o.a, .int .i64 o.b, .int .i64 o.c, .int .i64 o.d, (.slice ra rn rk), .slice none 0 0, .int .i64 (n : Int), .slice ua un uk]) (.slice (some ⟨X15.length, 0, none⟩) 1 9) rfl fun X16 z2 t2 l2 => ?_
    have hR16 := hR15.grow t2
    obtain ⟨X17, ap, o3, t3, _⟩ := OwnR.append (n := H.length) (x := (⟨o.kind, o.a, o.b, o.c, o.d, o.regs, (n : Int), mapN c.2.1 d.toNat⟩ : OpT)) rowO rowO hR16.ops z2 rfl ⟨_, .slice ua un uk, rfl, hri.keep fun q c hq _ => t2.at hq, hmi.keep fun q c hq _ => t2.at hq⟩ hR16.ops0 (by have := gX.1; have := f15.1; have := t2.1; omega) (by have := hrl.2.1; show (runL p.2.1 c L n).ops.length ≤ _; omega) (fun A B hF l x hx => hx.keep (IntKeep.of hF (by decide)))
    have bl17 := t3.2 q8 _ hR16.blk (.inr fun c he => by simp at he)
    have y817 := hblk_of bl17
    (try (conv => whnf)); (repeat ((fail_if_success (with_reducible refine And.intro ?_ ?_)); (fail_if_success (with_reducible refine Exists.intro ?_ ?_)); (first | (apply Ob.of; (first | with_reducible assumption | with_reducible exact ex20 _ _ | with_reducible exact ex21 _ _ | with_reducible exact ex30 _ _ _ | with_reducible exact ex31 _ _ _ | with_reducible exact ex32 _ _ _ | rfl | (exact ald rfl rfl (by assumption) rfl) | (exact ald_agg rfl rfl rfl (by assumption) rfl)); (conv => whnf)) | (apply bIf.yes; (first | assumption | rfl); (conv => whnf)) | (apply bIf.no; (first | assumption | rfl); (conv => whnf)) | ((with_reducible refine Ob.load (by with_unfolding_all assumption) ?_); (conv => whnf)) | (apply Grows.mk; (first | exact Grow.refl _ | assumption); (conv => whnf)))))
    refine Ob2.of ap ?_
    (try (conv => whnf)); (repeat ((fail_if_success (with_reducible refine And.intro ?_ ?_)); (fail_if_success (with_reducible refine Exists.intro ?_ ?_)); (first | (apply Ob.of; (first | with_reducible assumption | with_reducible exact ex20 _ _ | with_reducible exact ex21 _ _ | with_reducible exact ex30 _ _ _ | with_reducible exact ex31 _ _ _ | with_reducible exact ex32 _ _ _ | rfl | (exact ald rfl rfl (by assumption) rfl) | (exact ald_agg rfl rfl rfl (by assumption) rfl)); (conv => whnf)) | (apply bIf.yes; (first | assumption | rfl); (conv => whnf)) | (apply bIf.no; (first | assumption | rfl); (conv => whnf)) | ((with_reducible refine Ob.load (by with_unfolding_all assumption) ?_); (conv => whnf)) | (apply Grows.mk; (first | exact Grow.refl _ | assumption); (conv => whnf)))))
    refine Ob.store rfl rfl rfl bl17 rfl (by first | exact Nat.le_of_ble_eq_true rfl | simp) fun X18 s19 k19 l19 => ?_
    have f18 : FrX H.length q8 pb X1 X18 := ((f15.trans (.of t2)).trans (.ofR t3 (.inl rfl))).trans (.of8 k19 hn0)
    (try (conv => whnf)); (repeat ((fail_if_success (with_reducible refine And.intro ?_ ?_)); (fail_if_success (with_reducible refine Exists.intro ?_ ?_)); (first | (apply Ob.of; (first | with_reducible assumption | with_reducible exact ex20 _ _ | with_reducible exact ex21 _ _ | with_reducible exact ex30 _ _ _ | with_reducible exact ex31 _ _ _ | with_reducible exact ex32 _ _ _ | rfl | (exact ald rfl rfl (by assumption) rfl) | (exact ald_agg rfl rfl rfl (by assumption) rfl)); (conv => whnf)) | (apply bIf.yes; (first | assumption | rfl); (conv => whnf)) | (apply bIf.no; (first | assumption | rfl); (conv => whnf)) | ((with_reducible refine Ob.load (by with_unfolding_all assumption) ?_); (conv => whnf)) | (apply Grows.mk; (first | exact Grow.refl _ | assumption); (conv => whnf)))))
    refine ⟨n + 1, ⟨rfl, rfl, rfl, rfl, rfl, rfl, rfl, congrArg (fun z => some (Value.int .i64 z)) wn, trivial⟩, ⟨hnl, ⟨(.slice va vn vk), .slice (some ⟨X16.length, 0, none⟩) ((runL p.2.1 c L n).ops.length + 1) 9, ?_⟩, fX.trans f18⟩, by show c.ins.length - (n + 1) < c.ins.length - n; omega⟩
    show RR _ _ _ _ _ _ (runL p.2.1 c L (n + 1)) ((runL p.2.1 c L (n + 1)).places ++ List.replicate (c.ins.length - (n + 1)) 0) _ _
    rw [hfin _ rfl]
    exact RR.set bl17 k19 s19 (hR16.con.keepR t3 (by decide) fun _ _ _ h => h) hR16.con0 o3 (fun b hb => by
      obtain ⟨n, k, hb⟩ := hb
      simp only [Value.slice.injEq, Option.some.injEq, Addr.mk.injEq, and_true] at hb
      have := gX.1; have := f15.1; have := t2.1
      omega) (t3.2 pb _ hR16.pla (.inr (notRow_row (by decide))))
end Go.Proofs.Ytdlanbfbbopfhaa
