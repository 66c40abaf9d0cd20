/- Package scope: low, plain, number. -/
import Derived.Test.YtmdjepfpgmignaaJTr2
set_option linter.unusedVariables false
set_option linter.unusedSimpArgs false
set_option maxRecDepth 20000
set_option maxHeartbeats 8000000
namespace Go.Proofs.Ytmdjepfpgmignaa
open Go Ax
/-- Is a tree no higher than so many? -/
theorem slow_ax (x : Tr) : ∀ {H : Heap} {l : List Value}, NodeR H l x → ∀ most : Int, -4294967296 ≤ most → most ≤ 4294967296 →
    AX Try.prog 22 #[.agg l.toArray, .int .i64 most] H (fun v H' => (∃ b, v = .bool b ∧ (b = true ↔ (x.high : Int) ≤ most)) ∧ H' = H) := by
  induction x using Tr.ind with
  | h x ih =>
  intro H l R most m0 m1
  obtain ⟨ow, sn, sk, rfl, rn, rk⟩ := R.inv
  refine AX.quiet ?_
  suffices hh : AX Try.prog 22 #[.agg (nodeV x sn sk).toArray, .int .i64 most] H (fun v H' => (∃ b, v = .bool b ∧ (b = true ↔ (x.high : Int) ≤ most)) ∧ Grow H H') from hh.mono fun v _ ⟨⟨b, e, k⟩, g⟩ => ⟨e ▸ plain_bool _, ⟨b, e, k⟩, g⟩
  have hxe := x.high_eq
  refine AX.body (n := 14) (rs := [.tmp 4]) Try.func22 rfl (by decide) rfl rfl (bC_sound _ _ _ _ ?_)
  (conv => whnf)
  refine Ob2.box rfl fun p H1 hp a1 g1 => ?_
  refine run ?_
  refine Ob2.box rfl fun q H2 hq a2 g2 => ?_
  have b1 := hblk_of (g2.at a1)
  have b2 := hblk_of a2
  have g3 := g1.trans g2
  by_cases hm : 0 < most
  · have d1 : decide (most > 0) = true := decide_eq_true (by omega)
    refine run ?_
    refine (containsN1 (NodeR.grows rk g3) ow.2.2.2 30 (.pointer (some ⟨q, 0, none⟩)) (fun k => (k.high : Int) ≤ most - 1) (fun k hk yl ry => ?_)).mono ?_
    · obtain ⟨-, yn, yk, rfl, -, -⟩ := ry.inv
      refine AX.quiet ?_
      suffices hh : AX Try.prog 30 #[.agg (nodeV k yn yk).toArray, .pointer (some ⟨q, 0, none⟩)] H2 (fun v H' => (∃ b, v = .bool b ∧ (b = true ↔ ¬ (k.high : Int) ≤ most - 1)) ∧ Grow H2 H') from hh.mono fun v _ ⟨⟨b, e, k⟩, g⟩ => ⟨e ▸ plain_bool _, ⟨b, e, k⟩, g⟩
      refine AX.body (n := 9) (rs := [.tmp 3]) Try.func30 rfl (by decide) rfl rfl (bC_sound _ _ _ _ ?_)
      (conv => whnf)
      refine Ob2.box rfl fun r H3 hr a3 g4 => ?_
      have c1 := hblk_of a3
      have c2 := g4.hblk b2
      have w : IntKind.i64.wrap (most - 1) = most - 1 := by rw [wrap_i64 (by omega) (by omega)]
      have hcall := ih k hk (ry.grow g4) (most - 1) (by omega) (by omega)
      rw [← w] at hcall
      refine run ?_
      refine hcall.mono ?_
      rw [w]
      rintro _ X ⟨⟨b, rfl, hb⟩, e⟩
      subst X
      cases b with
      | true =>
        refine run ?_
        exact ⟨⟨false, rfl, by simp [hb.1 rfl]⟩, g4⟩
      | false =>
        refine run ?_
        exact ⟨⟨true, rfl, by simp only [true_iff]; intro h; exact absurd (hb.2 h) (by simp)⟩, g4⟩
    · rintro _ X ⟨⟨b, rfl, hb⟩, e⟩
      subst X
      have hle : (∀ k ∈ x.kids, (k.high : Int) ≤ most - 1) ↔ (x.high : Int) ≤ most := by
        have h1 := highs_le (ks := x.kids) (n := (most - 1).toNat)
        constructor
        · intro h
          have := h1.2 fun k hk => by have := h k hk; omega
          omega
        · intro h k hk
          have := h1.1 (by omega) k hk
          omega
      rw [hle] at hb
      cases b with
      | true =>
        refine run ?_
        exact ⟨⟨false, rfl, by simp [hb.1 rfl]⟩, g3⟩
      | false =>
        refine run ?_
        exact ⟨⟨true, rfl, by simp only [true_iff]; exact Classical.byContradiction fun h => absurd (hb.2 h) (by simp)⟩, g3⟩
  · have d1 : decide (most > 0) = false := decide_eq_false (by omega)
    refine run ?_
    exact ⟨⟨false, rfl, by simp only [Bool.false_eq_true, false_iff]; omega⟩, g3⟩
/-- Has a node just some fields? -/
def PlainP (x : Tr) (o n s m : Bool) : Prop := (o = false → x.op = 0) ∧ (n = false → x.num = 0) ∧ (s = false → x.str = ⟨#[]⟩) ∧ (m = false → x.names.length = 0)
theorem plain_ax {H : Heap} {l : List Value} {x : Tr} (R : NodeR H l x) (o n s m : Bool) :
    AX Try.prog 41 #[.agg l.toArray, .bool o, .bool n, .bool s, .bool m] H (fun v H' => (∃ b, v = .bool b ∧ (b = true ↔ PlainP x o n s m)) ∧ H' = H) := by
  obtain ⟨ow, sn, sk, rfl, rn, -⟩ := R.inv
  refine AX.quiet ?_
  suffices hh : AX Try.prog 41 #[.agg (nodeV x sn sk).toArray, .bool o, .bool n, .bool s, .bool m] H (fun v H' => (∃ b, v = .bool b ∧ (b = true ↔ PlainP x o n s m)) ∧ Grow H H') from hh.mono fun v _ ⟨⟨b, e, k⟩, g⟩ => ⟨e ▸ plain_bool _, ⟨b, e, k⟩, g⟩
  cases o <;> cases n <;> cases s <;> cases m <;> (
    refine AX.body (n := 42) (rs := [.tmp 10]) Try.func41 rfl (by decide) rfl rfl (bC_sound _ _ _ _ ?_)
    (conv => whnf)
    refine Ob2.box rfl fun q H1 hq a1 g1 => ?_
    have b1 := hblk_of a1
    have l1 : alen Try.prog 27 sn H1 = some (.int .i64 x.names.length) := rn.len rfl _
    (try (conv => whnf)); (repeat' ((fail_if_success (with_reducible refine And.intro ?_ ?_)); (fail_if_success (with_reducible refine Exists.intro ?_ ?_)); (first | (refine step0 ?_) | (apply bIf.of <;> intro hc <;> (conv => whnf)))))
    all_goals refine ⟨⟨_, rfl, ?_⟩, g1⟩
    all_goals clear b1 a1 g1 l1
    all_goals unfold PlainP
    all_goals (simp only [ba_ne_t, ba_ne_f, ba_eq_t, ba_eq_f, bne_iff_ne, bne_eq_false_iff_eq, decide_eq_true_eq, decide_eq_false_iff_not, beq_iff_eq, beq_eq_false_iff_ne, ne_eq, Bool.not_eq_true, Bool.not_eq_false, Bool.not_eq_true', Bool.not_eq_false'] at *)
    all_goals grind)
/-- Has a node a number alone, below another one? -/
def NumP (x : Tr) (most : Int) : Prop := PlainP x false true false false ∧ 0 ≤ x.num ∧ x.num < most ∧ x.kids.length = 0
theorem number_ax {H : Heap} {l : List Value} {x : Tr} (R : NodeR H l x) (most : Int) :
    AX Try.prog 56 #[.agg l.toArray, .int .i64 most] H (fun v H' => (∃ b, v = .bool b ∧ (b = true ↔ NumP x most)) ∧ H' = H) := by
  obtain ⟨ow, sn, sk, rfl, rn, rk⟩ := R.inv
  refine AX.quiet ?_
  suffices hh : AX Try.prog 56 #[.agg (nodeV x sn sk).toArray, .int .i64 most] H (fun v H' => (∃ b, v = .bool b ∧ (b = true ↔ NumP x most)) ∧ Grow H H') from hh.mono fun v _ ⟨⟨b, e, k⟩, g⟩ => ⟨e ▸ plain_bool _, ⟨b, e, k⟩, g⟩
  refine AX.body (n := 24) (rs := [.tmp 4]) Try.func56 rfl (by decide) rfl rfl (bC_sound _ _ _ _ ?_)
  (conv => whnf)
  refine Ob2.box rfl fun q H1 hq a1 g1 => ?_
  have b1 := hblk_of a1
  have R1 := R.grow g1
  have l2 : alen Try.prog 45 sk H1 = some (.int .i64 x.kids.length) := rk.len rfl _
  (try (conv => whnf)); (repeat' ((fail_if_success (with_reducible refine And.intro ?_ ?_)); (fail_if_success (with_reducible refine Exists.intro ?_ ?_)); (first | ((with_reducible refine AX.id ?_); (first | (refine (plain_ax R1 _ _ _ _).mono ?_; (rintro _ X ⟨⟨bb, rfl, hb⟩, eX⟩; subst X; cases bb <;> (conv => whnf))))) | (refine step0 ?_) | (apply bIf.of <;> intro hc <;> (conv => whnf)))))
  all_goals refine ⟨⟨_, rfl, ?_⟩, g1⟩
  all_goals clear b1 a1 g1 l2 R1 R rn rk
  all_goals unfold NumP
  all_goals try ((simp only [ba_ne_t, ba_ne_f, ba_eq_t, ba_eq_f, bne_iff_ne, bne_eq_false_iff_eq, decide_eq_true_eq, decide_eq_false_iff_not, beq_iff_eq, beq_eq_false_iff_ne, ne_eq, Bool.not_eq_true, Bool.not_eq_false, Bool.not_eq_true', Bool.not_eq_false'] at *))
  all_goals grind
end Go.Proofs.Ytmdjepfpgmignaa
