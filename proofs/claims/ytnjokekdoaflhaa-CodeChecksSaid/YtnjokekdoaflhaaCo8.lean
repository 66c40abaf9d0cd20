/- Package slices: are two lists alike? -/
import Derived.Test.YtnjokekdoaflhaaCo7
set_option linter.unusedVariables false
set_option linter.unusedSimpArgs false
set_option maxRecDepth 20000
set_option maxHeartbeats 8000000
namespace Go.Proofs.Ytnjokekdoaflhaa
open Go Ax
/-- A string of a list of strings. -/
theorem ld_str {H : Heap} {sv : Value} {L : List ByteArray} (h : RL 1 strR H sv L) {i : Nat} {x : ByteArray} (hx : L[i]? = some x) :
    ∃ q, aindexAddr Try.prog 34 sv (.int .i64 (i : Int)) = some q ∧ ∀ H', Grow H H' → aload Try.prog 9 q H' = some (.string x) :=
  h.ld1 (fun _ _ _ h => h) rfl rfl rfl rfl hx
theorem eqs_ax {H : Heap} {u v : Value} {L M : List ByteArray} (hu : RL 1 strR H u L) (hv : RL 1 strR H v M) (hL : L.length < 4294967296) :
    AX Try.prog 30 #[u, v] H (fun r H' => r = .bool (decide (L = M)) ∧ H' = H) := by
  refine AX.body (n := 26) (rs := [.tmp 4]) Try.func30 rfl (by decide) rfl rfl (bC_sound _ _ _ _ ?_)
  have l1 : alen Try.prog 34 u H = some (.int .i64 L.length) := hu.len rfl _
  have l2 : alen Try.prog 34 v H = some (.int .i64 M.length) := hv.len rfl _
  (try (conv => whnf)); (repeat' ((fail_if_success (with_reducible refine And.intro ?_ ?_)); (fail_if_success (with_reducible refine Exists.intro ?_ ?_)); (first | (first | (apply Ob.of; (first | with_reducible assumption | with_reducible exact ex20 _ _ | with_reducible exact ex21 _ _ | with_reducible exact ex30 _ _ _ | with_reducible exact ex31 _ _ _ | with_reducible exact ex32 _ _ _ | rfl | (exact ald rfl rfl (by assumption) rfl) | (exact ald_agg rfl rfl rfl (by assumption) rfl)); (conv => whnf)) | (apply bIf.yes; (first | assumption | rfl); (conv => whnf)) | (apply bIf.no; (first | assumption | rfl); (conv => whnf)) | ((with_reducible refine Ob.load (by with_unfolding_all assumption) ?_); (conv => whnf)) | (apply Grows.mk; (first | exact Grow.refl _ | assumption); (conv => whnf))) | (apply bIf.of <;> intro hc <;> (conv => whnf)))))
  · refine ⟨congrArg Value.bool (decide_eq_false fun h => ?_).symm, rfl⟩
    subst h
    simp at hc
  have hlen : L.length = M.length := by (simp only [ba_ne_t, ba_ne_f, ba_eq_t, ba_eq_f, bne_iff_ne, bne_eq_false_iff_eq, decide_eq_true_eq, decide_eq_false_iff_not, beq_iff_eq, beq_eq_false_iff_ne, ne_eq, Bool.not_eq_true, Bool.not_eq_false, Bool.not_eq_true', Bool.not_eq_false'] at *); omega
  refine SW.loop (α := Nat) (fun m => [(0, u), (1, v), (12, .int .i64 L.length), (13, .int .i64 (m : Int))]) (fun m H' => m ≤ L.length ∧ L.take m = M.take m ∧ H' = H) (fun m => L.length - m) ⟨0, ⟨rfl, rfl, rfl, rfl, trivial⟩, by omega, rfl, rfl⟩ ?_
  rintro m X ⟨hm, ht, e⟩
  subst X
  refine bC_sound _ _ _ _ ?_
  by_cases hml : m < L.length
  · have d1 : decide ((m : Int) < (L.length : Int)) = true := decide_eq_true (by omega)
    obtain ⟨x, hx⟩ : ∃ x, L[m]? = some x := ⟨_, List.getElem?_eq_getElem hml⟩
    obtain ⟨y, hy⟩ : ∃ y, M[m]? = some y := ⟨_, List.getElem?_eq_getElem (by omega)⟩
    obtain ⟨p, i1, i2⟩ := ld_str hu hx
    obtain ⟨q, j1, j2⟩ := ld_str hv hy
    have i3 := i2 H (.refl _)
    have j3 := j2 H (.refl _)
    (try (conv => whnf)); (repeat ((fail_if_success (with_reducible refine And.intro ?_ ?_)); (fail_if_success (with_reducible refine Exists.intro ?_ ?_)); (first | (apply Ob.of; (first | with_reducible assumption | with_reducible exact ex20 _ _ | with_reducible exact ex21 _ _ | with_reducible exact ex30 _ _ _ | with_reducible exact ex31 _ _ _ | with_reducible exact ex32 _ _ _ | rfl | (exact ald rfl rfl (by assumption) rfl) | (exact ald_agg rfl rfl rfl (by assumption) rfl)); (conv => whnf)) | (apply bIf.yes; (first | assumption | rfl); (conv => whnf)) | (apply bIf.no; (first | assumption | rfl); (conv => whnf)) | ((with_reducible refine Ob.load (by with_unfolding_all assumption) ?_); (conv => whnf)) | (apply Grows.mk; (first | exact Grow.refl _ | assumption); (conv => whnf)))))
    apply SW.drawG [(0, [], [17, 20, 21, 22, 23], false), (1, [], [16, 20, 21, 22, 23], false), (2, [(16, 0), (17, 1)], [16, 17, 20, 21, 22, 23], false), (3, [(16, 0), (17, 1), (18, 2)], [16, 17, 18, 20, 21, 22, 23], false), (4, [], [16, 17, 18, 19, 21], false), (5, [], [16, 17, 18, 19, 20], false), (6, [(20, 4), (21, 5)], [16, 17, 18, 19, 20, 21], false), (7, [(20, 4), (21, 5), (22, 6)], [16, 17, 18, 19, 20, 21, 22], false), (8, [(16, 0), (17, 1), (18, 2), (19, 3), (20, 4), (21, 5), (22, 6), (23, 7)], [16, 17, 18, 19, 20, 21, 22, 23], false)]
      [(16, 0), (17, 1), (18, 2), (19, 3), (20, 4), (21, 5), (22, 6), (23, 7), (24, 8)]
      [(0, _), (1, _), (5, _), (12, _), (13, _)] rfl (by kernel_rfl)
    case hF => exact ⟨rfl, rfl, rfl, rfl, rfl, trivial⟩
    (try (conv => whnf)); (repeat' ((fail_if_success (with_reducible refine And.intro ?_ ?_)); (fail_if_success (with_reducible refine Exists.intro ?_ ?_)); (first | (first | (apply Ob.of; (first | with_reducible assumption | with_reducible exact ex20 _ _ | with_reducible exact ex21 _ _ | with_reducible exact ex30 _ _ _ | with_reducible exact ex31 _ _ _ | with_reducible exact ex32 _ _ _ | rfl | (exact ald rfl rfl (by assumption) rfl) | (exact ald_agg rfl rfl rfl (by assumption) rfl)); (conv => whnf)) | (apply bIf.yes; (first | assumption | rfl); (conv => whnf)) | (apply bIf.no; (first | assumption | rfl); (conv => whnf)) | ((with_reducible refine Ob.load (by with_unfolding_all assumption) ?_); (conv => whnf)) | (apply Grows.mk; (first | exact Grow.refl _ | assumption); (conv => whnf))) | (apply bIf.of <;> intro hc <;> (conv => whnf)))))
    · refine ⟨congrArg Value.bool (decide_eq_false fun h => ?_).symm, rfl⟩
      subst h
      rw [hx] at hy
      simp only [Option.some.injEq] at hy
      (simp only [ba_ne_t, ba_ne_f, ba_eq_t, ba_eq_f, bne_iff_ne, bne_eq_false_iff_eq, decide_eq_true_eq, decide_eq_false_iff_not, beq_iff_eq, beq_eq_false_iff_ne, ne_eq, Bool.not_eq_true, Bool.not_eq_false, Bool.not_eq_true', Bool.not_eq_false'] at *); contradiction
    · have hxy : x = y := ba_ne_f.1 hc
      subst hxy
      exact ⟨m + 1, ⟨rfl, rfl, rfl, congrArg (fun z => some (Value.int .i64 z)) (w_succ (by omega)), trivial⟩, ⟨hml, take_next ht hx hy, rfl⟩, by show L.length - (m + 1) < L.length - m; omega⟩
  · have d1 : decide ((m : Int) < (L.length : Int)) = false := decide_eq_false (by omega)
    have hLM : L = M := by rwa [List.take_of_length_le (by omega), List.take_of_length_le (by omega)] at ht
    rw [decide_eq_true hLM]
    (try (conv => whnf)); (repeat ((fail_if_success (with_reducible refine And.intro ?_ ?_)); (fail_if_success (with_reducible refine Exists.intro ?_ ?_)); (first | (apply Ob.of; (first | with_reducible assumption | with_reducible exact ex20 _ _ | with_reducible exact ex21 _ _ | with_reducible exact ex30 _ _ _ | with_reducible exact ex31 _ _ _ | with_reducible exact ex32 _ _ _ | rfl | (exact ald rfl rfl (by assumption) rfl) | (exact ald_agg rfl rfl rfl (by assumption) rfl)); (conv => whnf)) | (apply bIf.yes; (first | assumption | rfl); (conv => whnf)) | (apply bIf.no; (first | assumption | rfl); (conv => whnf)) | ((with_reducible refine Ob.load (by with_unfolding_all assumption) ?_); (conv => whnf)) | (apply Grows.mk; (first | exact Grow.refl _ | assumption); (conv => whnf)))))
    exact ⟨rfl, rfl⟩
end Go.Proofs.Ytnjokekdoaflhaa
