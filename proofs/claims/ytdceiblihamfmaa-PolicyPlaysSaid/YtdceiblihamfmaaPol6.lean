/- A policy: the one example that every law asks for. -/
import Derived.Test.YtdceiblihamfmaaPol5
set_option linter.unusedVariables false
set_option linter.unusedSimpArgs false
namespace Go.Proofs.Ytdceiblihamfmaa
open Go Ax
theorem works_ax (H : Heap) : AX Try.prog 7 #[] H (fun v H' => v = .bool true ∧ Grow H H') := by
  refine AX.body (n := 44) (rs := [.tmp 0]) Try.func7 rfl (by decide) rfl rfl (bC_sound _ _ _ _ ?_)
  (try (conv => whnf)); repeat (first | (refine Ob.of (by first | rfl | (exact ald rfl rfl (by assumption) rfl) | (exact ald_agg rfl rfl rfl (by assumption) rfl)) ?_; (conv => whnf)) | (refine bIf.yes (by first | assumption | rfl) ?_; (conv => whnf)) | (refine bIf.no (by first | assumption | rfl) ?_; (conv => whnf)))
  refine Ob2.of (a := .slice (some ⟨H.length, 0, none⟩) 1 2) (b := H ++ [.cells (.row 28) [.int .i64 1, .int .i64 2]]) (by rfl) ?_
  (try (conv => whnf)); repeat (first | (refine Ob.of (by first | rfl | (exact ald rfl rfl (by assumption) rfl) | (exact ald_agg rfl rfl rfl (by assumption) rfl)) ?_; (conv => whnf)) | (refine bIf.yes (by first | assumption | rfl) ?_; (conv => whnf)) | (refine bIf.no (by first | assumption | rfl) ?_; (conv => whnf)))
  have hp : Pk (H ++ [.cells (.row 28) [.int .i64 1, .int .i64 2]]) (.slice (some ⟨H.length, 0, none⟩) 1 2) [(1, 2)] := by
    refine .inr ⟨H.length, 0, rfl, .inr ⟨_, _, at_push _ _, rfl, fun i x hx => ?_⟩⟩
    match i, hx with
    | 0, hx => simp only [List.getElem?_cons_zero, Option.some.injEq] at hx; subst hx; exact ⟨rfl, rfl⟩
  refine (new_ax hp 3).mono ?_
  rintro _ H1 ⟨g1, p, rfl, hlp, n1⟩
  have e1 : List.take 400 [((1 : Int), (2 : Int))] = [(1, 2)] := rfl
  have e2 : clampF 3 = 3 := by decide
  rw [e1, e2] at n1
  (try (conv => whnf)); repeat (first | (refine Ob.of (by first | rfl | (exact ald rfl rfl (by assumption) rfl) | (exact ald_agg rfl rfl rfl (by assumption) rfl)) ?_; (conv => whnf)) | (refine bIf.yes (by first | assumption | rfl) ?_; (conv => whnf)) | (refine bIf.no (by first | assumption | rfl) ?_; (conv => whnf)))
  refine (call_ax n1 (by decide) 1).mono ?_
  rintro v H2 ⟨hv, n2, b2⟩
  have e3 : nV 3 8 [((1 : Int), (2 : Int))] = (1, 2) := by decide
  have e4 : nA 8 [((1 : Int), (2 : Int))] = 2 := by decide
  have e5 : cnt 3 (bump 3 (List.replicate 32 0) 1) 1 = 1 := by decide
  rw [e4] at n2
  rw [e3, e4, e5, show (decide ((0 : Int) ≤ 1 ∧ (1 : Int) < 3) && decide ((1 : Int) ≥ 2)) = false from rfl] at hv
  subst hv
  (try (conv => whnf)); repeat (first | (refine Ob.of (by first | rfl | (exact ald rfl rfl (by assumption) rfl) | (exact ald_agg rfl rfl rfl (by assumption) rfl)) ?_; (conv => whnf)) | (refine bIf.yes (by first | assumption | rfl) ?_; (conv => whnf)) | (refine bIf.no (by first | assumption | rfl) ?_; (conv => whnf)))
  have hp' : H.length ≤ p := by simp at hlp; omega
  have gh : Grow H H2 := ((Grow.push H _).trans g1).but_new b2 hp'
  refine Ob2.alloc rfl fun q2 H3 hq2 k1 k2 => ?_
  (try (conv => whnf)); repeat (first | (refine Ob.of (by first | rfl | (exact ald rfl rfl (by assumption) rfl) | (exact ald_agg rfl rfl rfl (by assumption) rfl)) ?_; (conv => whnf)) | (refine bIf.yes (by first | assumption | rfl) ?_; (conv => whnf)) | (refine bIf.no (by first | assumption | rfl) ?_; (conv => whnf)))
  refine Ob.store rfl rfl rfl k1 rfl (by first | exact Nat.le_of_ble_eq_true rfl | simp) fun H4 m1 m2 m3 => ?_
  have g4 : Grow H2 H4 := k2.but_new m2 (by omega)
  (try (conv => whnf)); repeat (first | (refine Ob.of (by first | rfl | (exact ald rfl rfl (by assumption) rfl) | (exact ald_agg rfl rfl rfl (by assumption) rfl)) ?_; (conv => whnf)) | (refine bIf.yes (by first | assumption | rfl) ?_; (conv => whnf)) | (refine bIf.no (by first | assumption | rfl) ?_; (conv => whnf)))
  refine (call_ax (n2.grow g4) (by decide) 1).mono ?_
  rintro v H5 ⟨hv, n3, b3⟩
  have e6 : nA 2 [] = 2 := rfl
  have e7 : cnt 3 (bump 3 (bump 3 (List.replicate 32 0) 1) 1) 1 = 2 := by decide
  replace n3 : Pol H5 p [] 3 2 (bump 3 (bump 3 (List.replicate 32 0) 1) 1) := n3
  have hl5 := b3.1
  rw [show List.tail [((1 : Int), (2 : Int))] = [] from rfl, e6, e7, show nV 3 2 [] = (0, 0) from rfl, show (decide ((0 : Int) ≤ 1 ∧ (1 : Int) < 3) && decide ((2 : Int) ≥ 2)) = true from rfl] at hv
  subst hv
  (try (conv => whnf)); repeat (first | (refine Ob.of (by first | rfl | (exact ald rfl rfl (by assumption) rfl) | (exact ald_agg rfl rfl rfl (by assumption) rfl)) ?_; (conv => whnf)) | (refine bIf.yes (by first | assumption | rfl) ?_; (conv => whnf)) | (refine bIf.no (by first | assumption | rfl) ?_; (conv => whnf)))
  refine Ob2.alloc rfl fun q4 H6 hq4 l1 l2 => ?_
  (try (conv => whnf)); repeat (first | (refine Ob.of (by first | rfl | (exact ald rfl rfl (by assumption) rfl) | (exact ald_agg rfl rfl rfl (by assumption) rfl)) ?_; (conv => whnf)) | (refine bIf.yes (by first | assumption | rfl) ?_; (conv => whnf)) | (refine bIf.no (by first | assumption | rfl) ?_; (conv => whnf)))
  refine Ob.store rfl rfl rfl l1 rfl (by first | exact Nat.le_of_ble_eq_true rfl | simp) fun H7 o1 o2 o3 => ?_
  have g7 : Grow H5 H7 := l2.but_new o2 (by omega)
  have n7 := n3.grow g7
  obtain ⟨svp, hpp, _⟩ := n2
  have hltp := lt_at hpp
  have hx := hblk_of (g7.at (b3.at m1 (by omega)))
  have gg : Grow H H7 := (((gh.trans g4).but_new b3 hp').trans g7)
  (try (conv => whnf)); repeat (first | (refine Ob.of (by first | rfl | (exact ald rfl rfl (by assumption) rfl) | (exact ald_agg rfl rfl rfl (by assumption) rfl)) ?_; (conv => whnf)) | (refine bIf.yes (by first | assumption | rfl) ?_; (conv => whnf)) | (refine bIf.no (by first | assumption | rfl) ?_; (conv => whnf)))
  refine (left_ax n7).mono ?_
  rintro _ X ⟨rfl, e⟩
  subst X
  (try (conv => whnf)); repeat (first | (refine Ob.of (by first | rfl | (exact ald rfl rfl (by assumption) rfl) | (exact ald_agg rfl rfl rfl (by assumption) rfl)) ?_; (conv => whnf)) | (refine bIf.yes (by first | assumption | rfl) ?_; (conv => whnf)) | (refine bIf.no (by first | assumption | rfl) ?_; (conv => whnf)))
  refine (count_ax n7 1).mono ?_
  rintro _ X ⟨rfl, e⟩
  subst X
  rw [e7]
  (try (conv => whnf)); repeat (first | (refine Ob.of (by first | rfl | (exact ald rfl rfl (by assumption) rfl) | (exact ald_agg rfl rfl rfl (by assumption) rfl)) ?_; (conv => whnf)) | (refine bIf.yes (by first | assumption | rfl) ?_; (conv => whnf)) | (refine bIf.no (by first | assumption | rfl) ?_; (conv => whnf)))
  refine (after_ax n7).mono ?_
  rintro _ X ⟨rfl, e⟩
  subst X
  (try (conv => whnf)); repeat (first | (refine Ob.of (by first | rfl | (exact ald rfl rfl (by assumption) rfl) | (exact ald_agg rfl rfl rfl (by assumption) rfl)) ?_; (conv => whnf)) | (refine bIf.yes (by first | assumption | rfl) ?_; (conv => whnf)) | (refine bIf.no (by first | assumption | rfl) ?_; (conv => whnf)))
  exact ⟨rfl, gg⟩
end Go.Proofs.Ytdceiblihamfmaa
