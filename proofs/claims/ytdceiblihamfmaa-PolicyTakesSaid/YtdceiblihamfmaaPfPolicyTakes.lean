/- The law PolicyTakes, told of abstract memory: whatever the input, it answers true. No condition. -/
import Derived.Test.YtdceiblihamfmaaTy
import Derived.Test.YtdceiblihamfmaaPol7
set_option linter.unusedVariables false
set_option linter.unusedSimpArgs false
namespace Go.Proofs.Ytdceiblihamfmaa
open Go Ax
theorem PolicyTakes_ax (H : Heap) (c0 : List Value) (x0 : List ((Int) × (Int))) (c1 : List Value) (x1 : Int) (c2 : List Value) (x2 : Int) (hn : NoOwn H) (R0 : ty22.R H c0 x0) (o0 : ty22.ok x0) (R1 : ty3.R H c1 x1) (o1 : ty3.ok x1) (R2 : ty3.R H c2 x2) (o2 : ty3.ok x2) :
    AX Try.prog 3 #[arg1 c0, arg1 c1, arg1 c2] H fun v _ => v = .bool true := by
  obtain rfl : c1 = [.int .i64 x1] := R1
  obtain rfl : c2 = [.int .i64 x2] := R2
  obtain ⟨sv, hsv, hp, hlen⟩ := picks_of R0
  rw [hsv]
  show AX Try.prog 3 #[sv, .int .i64 x1, .int .i64 x2] H _
  refine AX.body (n := 66) (rs := [.tmp 6]) Try.func3 rfl (by decide) rfl rfl (bC_sound _ _ _ _ ?_)
  (conv => whnf)
  refine Ob.of (hlen H) ?_
  (try (conv => whnf)); repeat (first | (refine Ob.of (by first | rfl | (exact ald rfl rfl (by assumption) rfl) | (exact ald_agg rfl rfl rfl (by assumption) rfl)) ?_; (conv => whnf)) | (refine bIf.yes (by first | assumption | rfl) ?_; (conv => whnf)) | (refine bIf.no (by first | assumption | rfl) ?_; (conv => whnf)))
  by_cases hl : (x0.length : Int) > 500
  · have hd : decide ((x0.length : Int) > 500) = true := by simp only [hl, decide_true]
    refine bIf.yes hd ?_
    (try (conv => whnf)); repeat (first | (refine Ob.of (by first | rfl | (exact ald rfl rfl (by assumption) rfl) | (exact ald_agg rfl rfl rfl (by assumption) rfl)) ?_; (conv => whnf)) | (refine bIf.yes (by first | assumption | rfl) ?_; (conv => whnf)) | (refine bIf.no (by first | assumption | rfl) ?_; (conv => whnf)))
    refine (works_ax H).mono ?_
    rintro _ H1 ⟨rfl, _⟩
    (try (conv => whnf)); repeat (first | (refine Ob.of (by first | rfl | (exact ald rfl rfl (by assumption) rfl) | (exact ald_agg rfl rfl rfl (by assumption) rfl)) ?_; (conv => whnf)) | (refine bIf.yes (by first | assumption | rfl) ?_; (conv => whnf)) | (refine bIf.no (by first | assumption | rfl) ?_; (conv => whnf)))
    try rfl
  have hd : decide ((x0.length : Int) > 500) = false := decide_eq_false hl
  refine bIf.no hd ?_
  (try (conv => whnf)); repeat (first | (refine Ob.of (by first | rfl | (exact ald rfl rfl (by assumption) rfl) | (exact ald_agg rfl rfl rfl (by assumption) rfl)) ?_; (conv => whnf)) | (refine bIf.yes (by first | assumption | rfl) ?_; (conv => whnf)) | (refine bIf.no (by first | assumption | rfl) ?_; (conv => whnf)))
  refine (new_ax hp x1).mono ?_
  rintro _ H1 ⟨g1, p, rfl, hlp, n1⟩
  (conv => whnf)
  refine Ob.of (hlen H1) ?_
  (try (conv => whnf)); repeat (first | (refine Ob.of (by first | rfl | (exact ald rfl rfl (by assumption) rfl) | (exact ald_agg rfl rfl rfl (by assumption) rfl)) ?_; (conv => whnf)) | (refine bIf.yes (by first | assumption | rfl) ?_; (conv => whnf)) | (refine bIf.no (by first | assumption | rfl) ?_; (conv => whnf)))
  have hc : (if (400 : Int) < x0.length then 400 else (x0.length : Int)) = ((x0.take 400).length : Int) := by
    rw [List.length_take]; split <;> omega
  refine SW.loop (α := List (Int × Int) × Int × List Int) (fun x => [(2, .int .i64 x2), (7, ptr p), (8, .int .i64 x.1.length)])
    (fun x H => Pol H p x.1 (clampF x1) x.2.1 x.2.2 ∧ 1 ≤ x.2.1 ∧ x.2.1 ≤ 1048576 ∧ x.1.length ≤ 400) (fun x => x.1.length)
    ⟨(x0.take 400, 8, List.replicate 32 0), ⟨rfl, rfl, congrArg (fun z => some (Value.int .i64 z)) hc, trivial⟩, n1, by show (1 : Int) ≤ 8; decide, by show (8 : Int) ≤ 1048576; decide, by rw [List.length_take]; omega⟩ ?_
  rintro ⟨L, after, cs⟩ H2 ⟨n2, a1, a2, a3⟩
  refine bC_sound _ _ _ _ ?_
  dsimp only at n2 a1 a2 a3
  have hne : after ≠ 0 := by omega
  (try (conv => whnf)); repeat (first | (refine Ob.of (by first | rfl | (exact ald rfl rfl (by assumption) rfl) | (exact ald_agg rfl rfl rfl (by assumption) rfl)) ?_; (conv => whnf)) | (refine bIf.yes (by first | assumption | rfl) ?_; (conv => whnf)) | (refine bIf.no (by first | assumption | rfl) ?_; (conv => whnf)))
  cases L with
  | nil =>
    (try (conv => whnf)); repeat (first | (refine Ob.of (by first | rfl | (exact ald rfl rfl (by assumption) rfl) | (exact ald_agg rfl rfl rfl (by assumption) rfl)) ?_; (conv => whnf)) | (refine bIf.yes (by first | assumption | rfl) ?_; (conv => whnf)) | (refine bIf.no (by first | assumption | rfl) ?_; (conv => whnf)))
    refine (after_ax n2).mono ?_
    rintro _ X ⟨rfl, e⟩
    subst X
    (try (conv => whnf)); repeat (first | (refine Ob.of (by first | rfl | (exact ald rfl rfl (by assumption) rfl) | (exact ald_agg rfl rfl rfl (by assumption) rfl)) ?_; (conv => whnf)) | (refine bIf.yes (by first | assumption | rfl) ?_; (conv => whnf)) | (refine bIf.no (by first | assumption | rfl) ?_; (conv => whnf)))
    refine (call_ax n2 hne x2).mono ?_
    rintro v H3 ⟨hv, n3, b3⟩
    have hv' : v = .tuple #[pickV (0, 0), .bool (decide (0 ≤ x2 ∧ x2 < clampF x1) && decide (cnt (clampF x1) (bump (clampF x1) cs x2) x2 ≥ nA after []))] := hv
    clear hv; subst hv'
    replace n3 : Pol H3 p [] (clampF x1) after (bump (clampF x1) cs x2) := n3
    (try (conv => whnf)); repeat (first | (refine Ob.of (by first | rfl | (exact ald rfl rfl (by assumption) rfl) | (exact ald_agg rfl rfl rfl (by assumption) rfl)) ?_; (conv => whnf)) | (refine bIf.yes (by first | assumption | rfl) ?_; (conv => whnf)) | (refine bIf.no (by first | assumption | rfl) ?_; (conv => whnf)))
    refine Ob2.alloc rfl fun q4 H4 hq4 l1 l2 => ?_
    (try (conv => whnf)); repeat (first | (refine Ob.of (by first | rfl | (exact ald rfl rfl (by assumption) rfl) | (exact ald_agg rfl rfl rfl (by assumption) rfl)) ?_; (conv => whnf)) | (refine bIf.yes (by first | assumption | rfl) ?_; (conv => whnf)) | (refine bIf.no (by first | assumption | rfl) ?_; (conv => whnf)))
    refine Ob.store rfl rfl rfl l1 rfl (by first | exact Nat.le_of_ble_eq_true rfl | simp) fun H5 m1 m2 m3 => ?_
    have g5 : Grow H3 H5 := l2.but_new m2 (by omega)
    have n5 := n3.grow g5
    have hx := hblk_of m1
    (try (conv => whnf)); repeat (first | (refine Ob.of (by first | rfl | (exact ald rfl rfl (by assumption) rfl) | (exact ald_agg rfl rfl rfl (by assumption) rfl)) ?_; (conv => whnf)) | (refine bIf.yes (by first | assumption | rfl) ?_; (conv => whnf)) | (refine bIf.no (by first | assumption | rfl) ?_; (conv => whnf)))
    refine (left_ax n5).mono ?_
    rintro _ X ⟨rfl, e⟩
    subst X
    (try (conv => whnf)); repeat (first | (refine Ob.of (by first | rfl | (exact ald rfl rfl (by assumption) rfl) | (exact ald_agg rfl rfl rfl (by assumption) rfl)) ?_; (conv => whnf)) | (refine bIf.yes (by first | assumption | rfl) ?_; (conv => whnf)) | (refine bIf.no (by first | assumption | rfl) ?_; (conv => whnf)))
    refine Ob.of (pick_eq (0, 0) (0, 0)) ?_
    (try (conv => whnf)); repeat (first | (refine Ob.of (by first | rfl | (exact ald rfl rfl (by assumption) rfl) | (exact ald_agg rfl rfl rfl (by assumption) rfl)) ?_; (conv => whnf)) | (refine bIf.yes (by first | assumption | rfl) ?_; (conv => whnf)) | (refine bIf.no (by first | assumption | rfl) ?_; (conv => whnf)))
    have t1 : (after == after) = true := by simp
    have t2 : decide (after ≥ 1) = true := decide_eq_true a1
    have t3 : decide (after ≤ 1048576) = true := decide_eq_true a2
    refine (after_ax n5).mono ?_
    rintro _ X ⟨rfl, e⟩
    subst X
    (try (conv => whnf)); repeat (first | (refine Ob.of (by first | rfl | (exact ald rfl rfl (by assumption) rfl) | (exact ald_agg rfl rfl rfl (by assumption) rfl)) ?_; (conv => whnf)) | (refine bIf.yes (by first | assumption | rfl) ?_; (conv => whnf)) | (refine bIf.no (by first | assumption | rfl) ?_; (conv => whnf)))
    refine (works_ax H5).mono ?_
    rintro _ H6 ⟨rfl, _⟩
    (try (conv => whnf)); repeat (first | (refine Ob.of (by first | rfl | (exact ald rfl rfl (by assumption) rfl) | (exact ald_agg rfl rfl rfl (by assumption) rfl)) ?_; (conv => whnf)) | (refine bIf.yes (by first | assumption | rfl) ?_; (conv => whnf)) | (refine bIf.no (by first | assumption | rfl) ?_; (conv => whnf)))
    try rfl
  | cons y L =>
    have hw : IntKind.i64.wrap (((y :: L).length : Int) - 1) = (L.length : Int) := by
      simp only [List.length_cons] at a3 ⊢
      rw [wrap_i64 (by omega) (by omega)]; omega
    (try (conv => whnf)); repeat (first | (refine Ob.of (by first | rfl | (exact ald rfl rfl (by assumption) rfl) | (exact ald_agg rfl rfl rfl (by assumption) rfl)) ?_; (conv => whnf)) | (refine bIf.yes (by first | assumption | rfl) ?_; (conv => whnf)) | (refine bIf.no (by first | assumption | rfl) ?_; (conv => whnf)))
    refine bIf.yes (decide_eq_true (show ((y :: L).length : Int) > 0 by simp only [List.length_cons]; omega)) ?_
    (try (conv => whnf)); repeat (first | (refine Ob.of (by first | rfl | (exact ald rfl rfl (by assumption) rfl) | (exact ald_agg rfl rfl rfl (by assumption) rfl)) ?_; (conv => whnf)) | (refine bIf.yes (by first | assumption | rfl) ?_; (conv => whnf)) | (refine bIf.no (by first | assumption | rfl) ?_; (conv => whnf)))
    refine (left_ax n2).mono ?_
    rintro _ X ⟨rfl, e⟩
    subst X
    (try (conv => whnf)); repeat (first | (refine Ob.of (by first | rfl | (exact ald rfl rfl (by assumption) rfl) | (exact ald_agg rfl rfl rfl (by assumption) rfl)) ?_; (conv => whnf)) | (refine bIf.yes (by first | assumption | rfl) ?_; (conv => whnf)) | (refine bIf.no (by first | assumption | rfl) ?_; (conv => whnf)))
    refine bIf.no (by simp) ?_
    (try (conv => whnf)); repeat (first | (refine Ob.of (by first | rfl | (exact ald rfl rfl (by assumption) rfl) | (exact ald_agg rfl rfl rfl (by assumption) rfl)) ?_; (conv => whnf)) | (refine bIf.yes (by first | assumption | rfl) ?_; (conv => whnf)) | (refine bIf.no (by first | assumption | rfl) ?_; (conv => whnf)))
    refine (call_ax n2 hne x2).mono ?_
    rintro _ H3 ⟨rfl, n3, b3⟩
    (try (conv => whnf)); repeat (first | (refine Ob.of (by first | rfl | (exact ald rfl rfl (by assumption) rfl) | (exact ald_agg rfl rfl rfl (by assumption) rfl)) ?_; (conv => whnf)) | (refine bIf.yes (by first | assumption | rfl) ?_; (conv => whnf)) | (refine bIf.no (by first | assumption | rfl) ?_; (conv => whnf)))
    refine ⟨(L, nA after (y :: L), bump (clampF x1) cs x2), ⟨rfl, rfl, congrArg (fun z => some (Value.int .i64 z)) hw, trivial⟩, ⟨n3, (nA_in a1 a2 (y :: L)).1, (nA_in a1 a2 (y :: L)).2, by simp at a3 ⊢; omega⟩, by simp⟩
end Go.Proofs.Ytdceiblihamfmaa
