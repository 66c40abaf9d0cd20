/- The law PolicyPicks, told of abstract memory: whatever the input, it answers true. No condition. -/
import Derived.Test.YtdceiblihamfmaaTy
import Derived.Test.YtdceiblihamfmaaPol7
set_option linter.unusedVariables false
set_option linter.unusedSimpArgs false
namespace Go.Proofs.Ytdceiblihamfmaa
open Go Ax
def okP (fns : Int) (x : Int × Int) : Prop :=
  ((x.1 = 2 ∨ x.1 = 3 ∨ x.1 = 4 ∨ x.1 = 5) ∧ 0 ≤ x.2 ∧ x.2 < fns ∧ x.2 < 32) ∨ (x.1 = 1 ∧ 1 ≤ x.2 ∧ x.2 ≤ 1048576) ∨ (x.2 = 0 ∧ (x.1 = 0 ∨ x.1 = 6))
theorem nV_ok (fns after : Int) (L : List (Int × Int)) : okP fns (nV (clampF fns) after L) := by
  cases L with
  | nil => exact .inr (.inr ⟨rfl, .inl rfl⟩)
  | cons x L =>
    simp only [nV, nxO]
    split
    · exact .inr (.inl ⟨rfl, (nAft_in _).1, (nAft_in _).2⟩)
    · split
      · exact .inr (.inr ⟨rfl, .inr rfl⟩)
      · split
        · rename_i h
          obtain ⟨hk, hf⟩ := h
          have h1 := Int.tmod_lt_of_pos x.2 hf
          have h2 : -clampF fns < x.2.tmod (clampF fns) := by
            have := Int.neg_tmod x.2 (clampF fns)
            have h3 := Int.tmod_lt_of_pos (-x.2) hf
            omega
          have h4 := Int.tmod_nonneg (clampF fns) (a := x.2.tmod (clampF fns) + clampF fns) (by omega)
          have h5 := Int.tmod_lt_of_pos (x.2.tmod (clampF fns) + clampF fns) hf
          have h6 : clampF fns ≤ fns ∧ clampF fns ≤ 32 := by
            revert hf
            unfold clampF
            split <;> split <;> omega
          exact .inl ⟨hk, h4, by show _ < fns; omega, by show _ < (32 : Int); omega⟩
        · exact .inr (.inr ⟨rfl, .inl rfl⟩)
theorem PolicyPicks_ax (H : Heap) (c0 : List Value) (x0 : List ((Int) × (Int))) (c1 : List Value) (x1 : Int) (hn : NoOwn H) (R0 : ty22.R H c0 x0) (o0 : ty22.ok x0) (R1 : ty3.R H c1 x1) (o1 : ty3.ok x1) :
    AX Try.prog 4 #[arg1 c0, arg1 c1] H fun v _ => v = .bool true := by
  obtain rfl : c1 = [.int .i64 x1] := R1
  obtain ⟨sv, hsv, hp, hlen⟩ := picks_of R0
  rw [hsv]
  show AX Try.prog 4 #[sv, .int .i64 x1] H _
  refine AX.body (n := 72) (rs := [.tmp 4]) Try.func4 rfl (by decide) rfl rfl (bC_sound _ _ _ _ ?_)
  (conv => whnf)
  refine Ob.of (hlen H) ?_
  (try (conv => whnf)); repeat (first | (refine Ob.of (by first | rfl | (exact ald rfl rfl (by assumption) rfl) | (exact ald_agg rfl rfl rfl (by assumption) rfl)) ?_; (conv => whnf)) | (refine bIf.yes (by first | assumption | rfl) ?_; (conv => whnf)) | (refine bIf.no (by first | assumption | rfl) ?_; (conv => whnf)))
  by_cases hl : (x0.length : Int) > 500
  · have hd : decide ((x0.length : Int) > 500) = true := decide_eq_true hl
    refine bIf.yes hd ?_
    (try (conv => whnf)); repeat (first | (refine Ob.of (by first | rfl | (exact ald rfl rfl (by assumption) rfl) | (exact ald_agg rfl rfl rfl (by assumption) rfl)) ?_; (conv => whnf)) | (refine bIf.yes (by first | assumption | rfl) ?_; (conv => whnf)) | (refine bIf.no (by first | assumption | rfl) ?_; (conv => whnf)))
    refine (works_ax H).mono ?_
    rintro _ H1 ⟨rfl, _⟩
    (try (conv => whnf)); repeat (first | (refine Ob.of (by first | rfl | (exact ald rfl rfl (by assumption) rfl) | (exact ald_agg rfl rfl rfl (by assumption) rfl)) ?_; (conv => whnf)) | (refine bIf.yes (by first | assumption | rfl) ?_; (conv => whnf)) | (refine bIf.no (by first | assumption | rfl) ?_; (conv => whnf)))
    try rfl
  have hd : decide ((x0.length : Int) > 500) = false := decide_eq_false hl
  refine bIf.no hd ?_
  (try (conv => whnf)); repeat (first | (refine Ob.of (by first | rfl | (exact ald rfl rfl (by assumption) rfl) | (exact ald_agg rfl rfl rfl (by assumption) rfl)) ?_; (conv => whnf)) | (refine bIf.yes (by first | assumption | rfl) ?_; (conv => whnf)) | (refine bIf.no (by first | assumption | rfl) ?_; (conv => whnf)))
  refine (new_ax hp x1).mono ?_
  rintro _ H1 ⟨g1, p, rfl, hlp, n1⟩
  (try (conv => whnf)); repeat (first | (refine Ob.of (by first | rfl | (exact ald rfl rfl (by assumption) rfl) | (exact ald_agg rfl rfl rfl (by assumption) rfl)) ?_; (conv => whnf)) | (refine bIf.yes (by first | assumption | rfl) ?_; (conv => whnf)) | (refine bIf.no (by first | assumption | rfl) ?_; (conv => whnf)))
  refine SW.loop (α := List (Int × Int) × Int × List Int × Nat) (fun x => [(0, sv), (1, .int .i64 x1), (5, ptr p), (6, .int .i64 x.2.2.2)])
    (fun x H => Pol H p x.1 (clampF x1) x.2.1 x.2.2.1 ∧ 1 ≤ x.2.1 ∧ x.2.1 ≤ 1048576) (fun x => x0.length - x.2.2.2)
    ⟨(x0.take 400, 8, List.replicate 32 0, 0), ⟨rfl, rfl, rfl, rfl, trivial⟩, n1, by show (1 : Int) ≤ 8; decide, by show (8 : Int) ≤ 1048576; decide⟩ ?_
  rintro ⟨L, after, cs, k⟩ H2 ⟨n2, a1, a2⟩
  refine bC_sound _ _ _ _ ?_
  dsimp only at n2 a1 a2
  have hne : after ≠ 0 := by omega
  (conv => whnf)
  refine Ob.of (hlen H2) ?_
  (try (conv => whnf)); repeat (first | (refine Ob.of (by first | rfl | (exact ald rfl rfl (by assumption) rfl) | (exact ald_agg rfl rfl rfl (by assumption) rfl)) ?_; (conv => whnf)) | (refine bIf.yes (by first | assumption | rfl) ?_; (conv => whnf)) | (refine bIf.no (by first | assumption | rfl) ?_; (conv => whnf)))
  by_cases hk : (k : Int) < x0.length
  · have hd2 : decide ((k : Int) < x0.length) = true := decide_eq_true hk
    refine bIf.yes hd2 ?_
    have hw : IntKind.i64.wrap ((k : Int) + 1) = ((k + 1 : Nat) : Int) := by rw [wrap_i64 (by omega) (by omega)]; omega
    (try (conv => whnf)); repeat (first | (refine Ob.of (by first | rfl | (exact ald rfl rfl (by assumption) rfl) | (exact ald_agg rfl rfl rfl (by assumption) rfl)) ?_; (conv => whnf)) | (refine bIf.yes (by first | assumption | rfl) ?_; (conv => whnf)) | (refine bIf.no (by first | assumption | rfl) ?_; (conv => whnf)))
    refine (call_ax n2 hne 0).mono ?_
    rintro v H3 ⟨hv, n3, b3⟩
    have ho := nV_ok x1 after L
    revert hv ho
    generalize nV (clampF x1) after L = z
    obtain ⟨a, b⟩ := z
    intro hv ho
    subst hv
    (try (conv => whnf)); repeat (first | (refine Ob.of (by first | rfl | (exact ald rfl rfl (by assumption) rfl) | (exact ald_agg rfl rfl rfl (by assumption) rfl)) ?_; (conv => whnf)) | (refine bIf.yes (by first | assumption | rfl) ?_; (conv => whnf)) | (refine bIf.no (by first | assumption | rfl) ?_; (conv => whnf)))
    refine Ob2.alloc rfl fun q4 H4 hq4 l1 l2 => ?_
    (try (conv => whnf)); repeat (first | (refine Ob.of (by first | rfl | (exact ald rfl rfl (by assumption) rfl) | (exact ald_agg rfl rfl rfl (by assumption) rfl)) ?_; (conv => whnf)) | (refine bIf.yes (by first | assumption | rfl) ?_; (conv => whnf)) | (refine bIf.no (by first | assumption | rfl) ?_; (conv => whnf)))
    refine Ob.store rfl rfl rfl l1 rfl (by first | exact Nat.le_of_ble_eq_true rfl | simp) fun H5 m1 m2 m3 => ?_
    have g5 : Grow H3 H5 := l2.but_new m2 (by omega)
    have n5 := n3.grow g5
    have hx := hblk_of m1
    have fin : ∀ fr, Has fr [(0, sv), (1, .int .i64 x1), (5, ptr p), (6, .int .i64 (IntKind.i64.wrap ((k : Int) + 1)))] → ∃ y : List (Int × Int) × Int × List Int × Nat, Has fr [(0, sv), (1, .int .i64 x1), (5, ptr p), (6, .int .i64 y.2.2.2)] ∧ (Pol H5 p y.1 (clampF x1) y.2.1 y.2.2.1 ∧ 1 ≤ y.2.1 ∧ y.2.1 ≤ 1048576) ∧ x0.length - y.2.2.2 < x0.length - k := by
      intro fr h
      rw [hw] at h
      exact ⟨(L.tail, nA after L, bump (clampF x1) cs 0, k + 1), h, ⟨n5, (nA_in a1 a2 L).1, (nA_in a1 a2 L).2⟩, by show x0.length - (k + 1) < _; omega⟩
    rcases ho with ⟨ha, h1, h2, h3⟩ | ⟨ha, h1, h2⟩ | ⟨hb, ha⟩
    · have t1 : decide (b < 0) = false := decide_eq_false (by omega)
      have t2 : decide (b ≥ x1) = false := decide_eq_false (by omega)
      have t3 : decide (b ≥ 32) = false := decide_eq_false (by omega)
      rcases ha with rfl | rfl | rfl | rfl
      all_goals
        (try (conv => whnf)); repeat (first | (refine Ob.of (by first | rfl | (exact ald rfl rfl (by assumption) rfl) | (exact ald_agg rfl rfl rfl (by assumption) rfl)) ?_; (conv => whnf)) | (refine bIf.yes (by first | assumption | rfl) ?_; (conv => whnf)) | (refine bIf.no (by first | assumption | rfl) ?_; (conv => whnf)))
        exact fin _ ⟨rfl, rfl, rfl, rfl, trivial⟩
    · have t1 : decide (b < 1) = false := decide_eq_false (by omega)
      have t2 : decide (b > 1048576) = false := decide_eq_false (by omega)
      obtain rfl : a = 1 := ha
      (try (conv => whnf)); repeat (first | (refine Ob.of (by first | rfl | (exact ald rfl rfl (by assumption) rfl) | (exact ald_agg rfl rfl rfl (by assumption) rfl)) ?_; (conv => whnf)) | (refine bIf.yes (by first | assumption | rfl) ?_; (conv => whnf)) | (refine bIf.no (by first | assumption | rfl) ?_; (conv => whnf)))
      exact fin _ ⟨rfl, rfl, rfl, rfl, trivial⟩
    · obtain rfl : b = 0 := hb
      rcases ha with rfl | rfl
      all_goals
        (try (conv => whnf)); repeat (first | (refine Ob.of (by first | rfl | (exact ald rfl rfl (by assumption) rfl) | (exact ald_agg rfl rfl rfl (by assumption) rfl)) ?_; (conv => whnf)) | (refine bIf.yes (by first | assumption | rfl) ?_; (conv => whnf)) | (refine bIf.no (by first | assumption | rfl) ?_; (conv => whnf)))
        exact fin _ ⟨rfl, rfl, rfl, rfl, trivial⟩
  · have hd2 : decide ((k : Int) < x0.length) = false := decide_eq_false hk
    refine bIf.no hd2 ?_
    (try (conv => whnf)); repeat (first | (refine Ob.of (by first | rfl | (exact ald rfl rfl (by assumption) rfl) | (exact ald_agg rfl rfl rfl (by assumption) rfl)) ?_; (conv => whnf)) | (refine bIf.yes (by first | assumption | rfl) ?_; (conv => whnf)) | (refine bIf.no (by first | assumption | rfl) ?_; (conv => whnf)))
    refine (works_ax H2).mono ?_
    rintro _ H6 ⟨rfl, _⟩
    (try (conv => whnf)); repeat (first | (refine Ob.of (by first | rfl | (exact ald rfl rfl (by assumption) rfl) | (exact ald_agg rfl rfl rfl (by assumption) rfl)) ?_; (conv => whnf)) | (refine bIf.yes (by first | assumption | rfl) ?_; (conv => whnf)) | (refine bIf.no (by first | assumption | rfl) ?_; (conv => whnf)))
    try rfl
end Go.Proofs.Ytdceiblihamfmaa
