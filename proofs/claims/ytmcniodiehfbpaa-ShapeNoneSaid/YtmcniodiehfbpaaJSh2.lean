/- Package shape's laws: an act on a forest. -/
import Derived.Test.YtmcniodiehfbpaaJTy1
set_option linter.unusedVariables false
set_option linter.unusedSimpArgs false
set_option maxRecDepth 20000
set_option maxHeartbeats 4000000
namespace Go.Proofs.Ytmcniodiehfbpaa
open Go Ax
abbrev Act := Int × Int × Int × Bool
abbrev actV (a : Act) : Value := .agg #[.int .i64 a.1, .int .i64 a.2.1, .int .i64 a.2.2.1, .bool a.2.2.2]
def ok64 (x : Int) : Prop := -9223372036854775808 ≤ x ∧ x ≤ 9223372036854775807
theorem ok64_wrap (n : Int) : ok64 (IntKind.i64.wrap n) := by
  show -9223372036854775808 ≤ (if (true && decide (n % 18446744073709551616 ≥ 9223372036854775808)) = true then n % 18446744073709551616 - 18446744073709551616 else n % 18446744073709551616) ∧ (if (true && decide (n % 18446744073709551616 ≥ 9223372036854775808)) = true then n % 18446744073709551616 - 18446744073709551616 else n % 18446744073709551616) ≤ 9223372036854775807
  by_cases h : n % 18446744073709551616 ≥ 9223372036854775808
  · rw [if_pos (by simpa using h)]; omega
  · rw [if_neg (by simpa using h)]; omega
theorem arg_ax {H : Heap} (a : Act) (n : Nat) (ha : ok64 a.2.1) (hn : n ≤ 150) :
    AX Try.prog 20 #[actV a, .int .i64 (n : Int)] H (fun v H' => (∃ id, v = .int .i64 id ∧ ok64 id) ∧ H' = H) := by
  refine AX.quiet ?_
  suffices hh : AX Try.prog 20 #[actV a, .int .i64 (n : Int)] H (fun v H' => (∃ id, v = .int .i64 id ∧ ok64 id) ∧ Grow H H') from hh.mono fun v _ ⟨⟨id, e, h⟩, g⟩ => ⟨e ▸ plain_int _ _, ⟨id, e, h⟩, g⟩
  obtain ⟨d, x, y, o⟩ := a
  refine AX.body (n := 28) (rs := [.tmp 4]) Try.func20 rfl (by decide) rfl rfl (bC_sound _ _ _ _ ?_)
  (conv => whnf)
  refine Ob2.box rfl fun q1 H1 hq1 a1 g1 => ?_
  have b1 := hblk_of a1
  cases o with
  | false =>
    (try (conv => whnf)); (repeat ((fail_if_success (with_reducible refine And.intro ?_ ?_)); (fail_if_success (with_reducible refine Exists.intro ?_ ?_)); (first | (apply Ob.of; (first | with_reducible assumption | with_reducible exact ex20 _ _ | with_reducible exact ex21 _ _ | with_reducible exact ex30 _ _ _ | with_reducible exact ex31 _ _ _ | with_reducible exact ex32 _ _ _ | rfl | (exact ald rfl rfl (by assumption) rfl) | (exact ald_agg rfl rfl rfl (by assumption) rfl)); (conv => whnf)) | (apply bIf.yes; (first | assumption | rfl); (conv => whnf)) | (apply bIf.no; (first | assumption | rfl); (conv => whnf)) | ((with_reducible refine Ob.load (by with_unfolding_all assumption) ?_); (conv => whnf)) | (apply Grows.mk; (first | exact Grow.refl _ | assumption); (conv => whnf)))))
    exact ⟨⟨x, rfl, ha⟩, g1⟩
  | true =>
    by_cases hn0 : n = 0
    · have d1 : ((n : Int) == 0) = true := by simpa using hn0
      (try (conv => whnf)); (repeat ((fail_if_success (with_reducible refine And.intro ?_ ?_)); (fail_if_success (with_reducible refine Exists.intro ?_ ?_)); (first | (apply Ob.of; (first | with_reducible assumption | with_reducible exact ex20 _ _ | with_reducible exact ex21 _ _ | with_reducible exact ex30 _ _ _ | with_reducible exact ex31 _ _ _ | with_reducible exact ex32 _ _ _ | rfl | (exact ald rfl rfl (by assumption) rfl) | (exact ald_agg rfl rfl rfl (by assumption) rfl)); (conv => whnf)) | (apply bIf.yes; (first | assumption | rfl); (conv => whnf)) | (apply bIf.no; (first | assumption | rfl); (conv => whnf)) | ((with_reducible refine Ob.load (by with_unfolding_all assumption) ?_); (conv => whnf)) | (apply Grows.mk; (first | exact Grow.refl _ | assumption); (conv => whnf)))))
      exact ⟨⟨x, rfl, ha⟩, g1⟩
    · have d1 : ((n : Int) == 0) = false := by simpa using hn0
      by_cases hd : d = 0
      · have d2 : (d == 0) = true := by simpa using hd
        (try (conv => whnf)); (repeat ((fail_if_success (with_reducible refine And.intro ?_ ?_)); (fail_if_success (with_reducible refine Exists.intro ?_ ?_)); (first | (apply Ob.of; (first | with_reducible assumption | with_reducible exact ex20 _ _ | with_reducible exact ex21 _ _ | with_reducible exact ex30 _ _ _ | with_reducible exact ex31 _ _ _ | with_reducible exact ex32 _ _ _ | rfl | (exact ald rfl rfl (by assumption) rfl) | (exact ald_agg rfl rfl rfl (by assumption) rfl)); (conv => whnf)) | (apply bIf.yes; (first | assumption | rfl); (conv => whnf)) | (apply bIf.no; (first | assumption | rfl); (conv => whnf)) | ((with_reducible refine Ob.load (by with_unfolding_all assumption) ?_); (conv => whnf)) | (apply Grows.mk; (first | exact Grow.refl _ | assumption); (conv => whnf)))))
        exact ⟨⟨x, rfl, ha⟩, g1⟩
      · have d2 : (d == 0) = false := by simpa using hd
        (try (conv => whnf)); (repeat ((fail_if_success (with_reducible refine And.intro ?_ ?_)); (fail_if_success (with_reducible refine Exists.intro ?_ ?_)); (first | (apply Ob.of; (first | with_reducible assumption | with_reducible exact ex20 _ _ | with_reducible exact ex21 _ _ | with_reducible exact ex30 _ _ _ | with_reducible exact ex31 _ _ _ | with_reducible exact ex32 _ _ _ | rfl | (exact ald rfl rfl (by assumption) rfl) | (exact ald_agg rfl rfl rfl (by assumption) rfl)); (conv => whnf)) | (apply bIf.yes; (first | assumption | rfl); (conv => whnf)) | (apply bIf.no; (first | assumption | rfl); (conv => whnf)) | ((with_reducible refine Ob.load (by with_unfolding_all assumption) ?_); (conv => whnf)) | (apply Grows.mk; (first | exact Grow.refl _ | assumption); (conv => whnf)))))
        refine Ob.of (rem_ok (by omega)) ?_
        (try (conv => whnf)); (repeat ((fail_if_success (with_reducible refine And.intro ?_ ?_)); (fail_if_success (with_reducible refine Exists.intro ?_ ?_)); (first | (apply Ob.of; (first | with_reducible assumption | with_reducible exact ex20 _ _ | with_reducible exact ex21 _ _ | with_reducible exact ex30 _ _ _ | with_reducible exact ex31 _ _ _ | with_reducible exact ex32 _ _ _ | rfl | (exact ald rfl rfl (by assumption) rfl) | (exact ald_agg rfl rfl rfl (by assumption) rfl)); (conv => whnf)) | (apply bIf.yes; (first | assumption | rfl); (conv => whnf)) | (apply bIf.no; (first | assumption | rfl); (conv => whnf)) | ((with_reducible refine Ob.load (by with_unfolding_all assumption) ?_); (conv => whnf)) | (apply Grows.mk; (first | exact Grow.refl _ | assumption); (conv => whnf)))))
        refine Ob.of (rem_ok (by omega)) ?_
        (try (conv => whnf)); (repeat ((fail_if_success (with_reducible refine And.intro ?_ ?_)); (fail_if_success (with_reducible refine Exists.intro ?_ ?_)); (first | (apply Ob.of; (first | with_reducible assumption | with_reducible exact ex20 _ _ | with_reducible exact ex21 _ _ | with_reducible exact ex30 _ _ _ | with_reducible exact ex31 _ _ _ | with_reducible exact ex32 _ _ _ | rfl | (exact ald rfl rfl (by assumption) rfl) | (exact ald_agg rfl rfl rfl (by assumption) rfl)); (conv => whnf)) | (apply bIf.yes; (first | assumption | rfl); (conv => whnf)) | (apply bIf.no; (first | assumption | rfl); (conv => whnf)) | ((with_reducible refine Ob.load (by with_unfolding_all assumption) ?_); (conv => whnf)) | (apply Grows.mk; (first | exact Grow.refl _ | assumption); (conv => whnf)))))
        exact ⟨⟨_, rfl, ok64_wrap _⟩, g1⟩
theorem act_ax {H : Heap} {fb most rb : Nat} {G : Fo} {av : Value} {S : List SX} (h : FoR H fb G most av rb S) (a : Act) (h1 : ok64 a.2.1) (h2 : ok64 a.2.2.1) :
    AX Try.prog 8 #[.pointer (some ⟨fb, 0, none⟩), actV a] H (fun _ H' => ∃ G' av' S', Pre G G' ∧ FoR H' fb G' most av' rb S' ∧ FrF fb H H') := by
  obtain ⟨d, x, y, o⟩ := a
  refine AX.body (n := 28) (rs := []) Try.func8 rfl (by decide) rfl rfl (bC_sound _ _ _ _ ?_)
  (conv => whnf)
  refine Ob2.box rfl fun q1 H1 hq1 a1 g1 => ?_
  have b1 := hblk_of a1
  have f1 := h.grow g1
  have hG : G.length ≤ 150 := by have := h.room.few; have := h.room.most; omega
  (try (conv => whnf)); (repeat ((fail_if_success (with_reducible refine And.intro ?_ ?_)); (fail_if_success (with_reducible refine Exists.intro ?_ ?_)); (first | (apply Ob.of; (first | with_reducible assumption | with_reducible exact ex20 _ _ | with_reducible exact ex21 _ _ | with_reducible exact ex30 _ _ _ | with_reducible exact ex31 _ _ _ | with_reducible exact ex32 _ _ _ | rfl | (exact ald rfl rfl (by assumption) rfl) | (exact ald_agg rfl rfl rfl (by assumption) rfl)); (conv => whnf)) | (apply bIf.yes; (first | assumption | rfl); (conv => whnf)) | (apply bIf.no; (first | assumption | rfl); (conv => whnf)) | ((with_reducible refine Ob.load (by with_unfolding_all assumption) ?_); (conv => whnf)) | (apply Grows.mk; (first | exact Grow.refl _ | assumption); (conv => whnf)))))
  apply SW.drawH [(0, [], [6, 7], false), (1, [], [5], false), (2, [(6, 1)], [5, 6], true), (3, [(5, 0), (6, 1), (7, 2)], [5, 6, 7], true), (4, [(5, 0), (6, 1), (7, 2), (8, 3)], [5, 6, 7, 8], false)]
    [(5, 0), (6, 1), (7, 2), (8, 3), (4, 4)] [2]
    [(0, _), (3, _)] rfl (by kernel_rfl)
  case hF => exact ⟨rfl, rfl, trivial⟩
  (try (conv => whnf)); (repeat ((fail_if_success (with_reducible refine And.intro ?_ ?_)); (fail_if_success (with_reducible refine Exists.intro ?_ ?_)); (first | (apply Ob.of; (first | with_reducible assumption | with_reducible exact ex20 _ _ | with_reducible exact ex21 _ _ | with_reducible exact ex30 _ _ _ | with_reducible exact ex31 _ _ _ | with_reducible exact ex32 _ _ _ | rfl | (exact ald rfl rfl (by assumption) rfl) | (exact ald_agg rfl rfl rfl (by assumption) rfl)); (conv => whnf)) | (apply bIf.yes; (first | assumption | rfl); (conv => whnf)) | (apply bIf.no; (first | assumption | rfl); (conv => whnf)) | ((with_reducible refine Ob.load (by with_unfolding_all assumption) ?_); (conv => whnf)) | (apply Grows.mk; (first | exact Grow.refl _ | assumption); (conv => whnf)))))
  refine (Len_ax f1).mono ?_
  rintro _ X ⟨rfl, e⟩
  subst X
  (try (conv => whnf)); (repeat ((fail_if_success (with_reducible refine And.intro ?_ ?_)); (fail_if_success (with_reducible refine Exists.intro ?_ ?_)); (first | (apply Ob.of; (first | with_reducible assumption | with_reducible exact ex20 _ _ | with_reducible exact ex21 _ _ | with_reducible exact ex30 _ _ _ | with_reducible exact ex31 _ _ _ | with_reducible exact ex32 _ _ _ | rfl | (exact ald rfl rfl (by assumption) rfl) | (exact ald_agg rfl rfl rfl (by assumption) rfl)); (conv => whnf)) | (apply bIf.yes; (first | assumption | rfl); (conv => whnf)) | (apply bIf.no; (first | assumption | rfl); (conv => whnf)) | ((with_reducible refine Ob.load (by with_unfolding_all assumption) ?_); (conv => whnf)) | (apply Grows.mk; (first | exact Grow.refl _ | assumption); (conv => whnf)))))
  refine (arg_ax (H := H1) (d, x, y, o) G.length h1 hG).mono ?_
  rintro _ X ⟨⟨id, rfl, k1, k2⟩, e⟩
  subst X
  (try (conv => whnf)); (repeat ((fail_if_success (with_reducible refine And.intro ?_ ?_)); (fail_if_success (with_reducible refine Exists.intro ?_ ?_)); (first | (apply Ob.of; (first | with_reducible assumption | with_reducible exact ex20 _ _ | with_reducible exact ex21 _ _ | with_reducible exact ex30 _ _ _ | with_reducible exact ex31 _ _ _ | with_reducible exact ex32 _ _ _ | rfl | (exact ald rfl rfl (by assumption) rfl) | (exact ald_agg rfl rfl rfl (by assumption) rfl)); (conv => whnf)) | (apply bIf.yes; (first | assumption | rfl); (conv => whnf)) | (apply bIf.no; (first | assumption | rfl); (conv => whnf)) | ((with_reducible refine Ob.load (by with_unfolding_all assumption) ?_); (conv => whnf)) | (apply Grows.mk; (first | exact Grow.refl _ | assumption); (conv => whnf)))))
  obtain ⟨y1, y2⟩ := h2
  by_cases hd0 : d = 0
  · have d1 : (d == 0) = true := by simpa using hd0
    (try (conv => whnf)); (repeat ((fail_if_success (with_reducible refine And.intro ?_ ?_)); (fail_if_success (with_reducible refine Exists.intro ?_ ?_)); (first | (apply Ob.of; (first | with_reducible assumption | with_reducible exact ex20 _ _ | with_reducible exact ex21 _ _ | with_reducible exact ex30 _ _ _ | with_reducible exact ex31 _ _ _ | with_reducible exact ex32 _ _ _ | rfl | (exact ald rfl rfl (by assumption) rfl) | (exact ald_agg rfl rfl rfl (by assumption) rfl)); (conv => whnf)) | (apply bIf.yes; (first | assumption | rfl); (conv => whnf)) | (apply bIf.no; (first | assumption | rfl); (conv => whnf)) | ((with_reducible refine Ob.load (by with_unfolding_all assumption) ?_); (conv => whnf)) | (apply Grows.mk; (first | exact Grow.refl _ | assumption); (conv => whnf)))))
    refine (Root_ax f1 id).mono ?_
    rintro _ H2 ⟨rfl, ⟨av2, S2, f2⟩, fr⟩
    (try (conv => whnf)); (repeat ((fail_if_success (with_reducible refine And.intro ?_ ?_)); (fail_if_success (with_reducible refine Exists.intro ?_ ?_)); (first | (apply Ob.of; (first | with_reducible assumption | with_reducible exact ex20 _ _ | with_reducible exact ex21 _ _ | with_reducible exact ex30 _ _ _ | with_reducible exact ex31 _ _ _ | with_reducible exact ex32 _ _ _ | rfl | (exact ald rfl rfl (by assumption) rfl) | (exact ald_agg rfl rfl rfl (by assumption) rfl)); (conv => whnf)) | (apply bIf.yes; (first | assumption | rfl); (conv => whnf)) | (apply bIf.no; (first | assumption | rfl); (conv => whnf)) | ((with_reducible refine Ob.load (by with_unfolding_all assumption) ?_); (conv => whnf)) | (apply Grows.mk; (first | exact Grow.refl _ | assumption); (conv => whnf)))))
    exact ⟨_, _, _, (rootF_ok f1.room id).2.1, f2, (FrF.of g1).trans fr⟩
  · have d1 : (d == 0) = false := by simpa using hd0
    by_cases hd1 : d = 1
    · have d2 : (d == 1) = true := by simpa using hd1
      (try (conv => whnf)); (repeat ((fail_if_success (with_reducible refine And.intro ?_ ?_)); (fail_if_success (with_reducible refine Exists.intro ?_ ?_)); (first | (apply Ob.of; (first | with_reducible assumption | with_reducible exact ex20 _ _ | with_reducible exact ex21 _ _ | with_reducible exact ex30 _ _ _ | with_reducible exact ex31 _ _ _ | with_reducible exact ex32 _ _ _ | rfl | (exact ald rfl rfl (by assumption) rfl) | (exact ald_agg rfl rfl rfl (by assumption) rfl)); (conv => whnf)) | (apply bIf.yes; (first | assumption | rfl); (conv => whnf)) | (apply bIf.no; (first | assumption | rfl); (conv => whnf)) | ((with_reducible refine Ob.load (by with_unfolding_all assumption) ?_); (conv => whnf)) | (apply Grows.mk; (first | exact Grow.refl _ | assumption); (conv => whnf)))))
      refine (Add_ax f1 id y k1).mono ?_
      rintro _ H2 ⟨rfl, ⟨av2, S2, f2⟩, fr⟩
      (try (conv => whnf)); (repeat ((fail_if_success (with_reducible refine And.intro ?_ ?_)); (fail_if_success (with_reducible refine Exists.intro ?_ ?_)); (first | (apply Ob.of; (first | with_reducible assumption | with_reducible exact ex20 _ _ | with_reducible exact ex21 _ _ | with_reducible exact ex30 _ _ _ | with_reducible exact ex31 _ _ _ | with_reducible exact ex32 _ _ _ | rfl | (exact ald rfl rfl (by assumption) rfl) | (exact ald_agg rfl rfl rfl (by assumption) rfl)); (conv => whnf)) | (apply bIf.yes; (first | assumption | rfl); (conv => whnf)) | (apply bIf.no; (first | assumption | rfl); (conv => whnf)) | ((with_reducible refine Ob.load (by with_unfolding_all assumption) ?_); (conv => whnf)) | (apply Grows.mk; (first | exact Grow.refl _ | assumption); (conv => whnf)))))
      exact ⟨_, _, _, (addF_ok f1.room id y).2.1, f2, (FrF.of g1).trans fr⟩
    · have d2 : (d == 1) = false := by simpa using hd1
      (try (conv => whnf)); (repeat ((fail_if_success (with_reducible refine And.intro ?_ ?_)); (fail_if_success (with_reducible refine Exists.intro ?_ ?_)); (first | (apply Ob.of; (first | with_reducible assumption | with_reducible exact ex20 _ _ | with_reducible exact ex21 _ _ | with_reducible exact ex30 _ _ _ | with_reducible exact ex31 _ _ _ | with_reducible exact ex32 _ _ _ | rfl | (exact ald rfl rfl (by assumption) rfl) | (exact ald_agg rfl rfl rfl (by assumption) rfl)); (conv => whnf)) | (apply bIf.yes; (first | assumption | rfl); (conv => whnf)) | (apply bIf.no; (first | assumption | rfl); (conv => whnf)) | ((with_reducible refine Ob.load (by with_unfolding_all assumption) ?_); (conv => whnf)) | (apply Grows.mk; (first | exact Grow.refl _ | assumption); (conv => whnf)))))
      refine (Move_ax f1 id y k1).mono ?_
      rintro _ H2 ⟨rfl, ⟨av2, S2, f2⟩, fr⟩
      (try (conv => whnf)); (repeat ((fail_if_success (with_reducible refine And.intro ?_ ?_)); (fail_if_success (with_reducible refine Exists.intro ?_ ?_)); (first | (apply Ob.of; (first | with_reducible assumption | with_reducible exact ex20 _ _ | with_reducible exact ex21 _ _ | with_reducible exact ex30 _ _ _ | with_reducible exact ex31 _ _ _ | with_reducible exact ex32 _ _ _ | rfl | (exact ald rfl rfl (by assumption) rfl) | (exact ald_agg rfl rfl rfl (by assumption) rfl)); (conv => whnf)) | (apply bIf.yes; (first | assumption | rfl); (conv => whnf)) | (apply bIf.no; (first | assumption | rfl); (conv => whnf)) | ((with_reducible refine Ob.load (by with_unfolding_all assumption) ?_); (conv => whnf)) | (apply Grows.mk; (first | exact Grow.refl _ | assumption); (conv => whnf)))))
      exact ⟨_, _, _, (moveF_ok f1.room id y).2.1, f2, (FrF.of g1).trans fr⟩
end Go.Proofs.Ytmcniodiehfbpaa
/- Package shape's laws: lists of acts; what a forest is. -/
set_option linter.unusedVariables false
set_option linter.unusedSimpArgs false
set_option maxRecDepth 20000
set_option maxHeartbeats 4000000
namespace Go.Proofs.Ytmcniodiehfbpaa
open Go Ax
abbrev actL (a : Act) : List Value := [.int .i64 a.1, .int .i64 a.2.1, .int .i64 a.2.2.1, .bool a.2.2.2]
def ActL (H : Heap) (sv : Value) (L : List Act) : Prop :=
  (sv = .slice none 0 0 ∧ L = []) ∨ ∃ b, sv = .slice (some ⟨b, 0, none⟩) L.length 4 ∧ (L = [] ∨ ∃ c, H[b]? = some (.cells .ro c) ∧ ∀ (i : Nat) x, L[i]? = some x → slotsOf c (i * 4) 4 = some (actL x))
theorem ok3 {n : Int} (h : ty3.ok n) : ok64 n := by
  have h : (Lit.int .i64 n).wf = true := h
  have h := h
  simp [Lit.wf] at h
  exact h
theorem ok5 {n : Int} (h : ty5.ok n) : 0 ≤ n ∧ n ≤ 255 := by
  have h : (Lit.int .u8 n).wf = true := h
  simp [Lit.wf] at h
  exact h
theorem okActs {L : List Act} (h : ty22.ok L) : ∀ (i : Nat) (x : Act), L[i]? = some x → ok64 x.2.1 ∧ ok64 x.2.2.1 := fun i x hx => by
  obtain ⟨_, k2, k3, _⟩ := h.2 x (List.mem_of_getElem? hx)
  exact ⟨ok3 k2, ok3 k3⟩
theorem acts_of {H : Heap} {c0 : List Value} {x0 : List Act} (R : ty22.R H c0 x0) : ∃ sv, arg1 c0 = sv ∧ ActL H sv x0 := by
  rcases R with ⟨rfl, rfl⟩ | ⟨b, rfl, h⟩
  · exact ⟨_, rfl, .inl ⟨rfl, rfl⟩⟩
  · refine ⟨_, rfl, .inr ⟨b, rfl, ?_⟩⟩
    rcases h with h | ⟨c, h1, h2, h3⟩
    · exact .inl h
    · refine .inr ⟨c, h1, fun i x hx => ?_⟩
      have hl := lt_of_get hx
      have k := h3 i x hx
      obtain ⟨k1, k2, k3, k4⟩ := k
      have e : (c.drop (i * 4)).take 4 = actL x := cons_of k1 (cons_of k2 (cons_of k3 k4))
      have hl2 : c.length = x0.length * 4 := h2
      rw [slots_of (by have := Nat.mul_le_mul_right 4 (show i + 1 ≤ x0.length from hl); omega), e]
theorem ActL.len {H : Heap} {sv : Value} {L : List Act} (h : ActL H sv L) (X : Heap) : alen Try.prog 22 sv X = some (.int .i64 L.length) := by
  rcases h with ⟨rfl, rfl⟩ | ⟨b, rfl, _⟩ <;> rfl
theorem ActL.ld {H : Heap} {sv : Value} {L : List Act} (h : ActL H sv L) {i : Nat} {x : Act} (hx : L[i]? = some x) :
    ∃ q, aindexAddr Try.prog 22 sv (.int .i64 (i : Int)) = some q ∧ aload Try.prog 27 q H = some (actV x) := by
  have hl := lt_of_get hx
  rcases h with ⟨rfl, rfl⟩ | ⟨b, rfl, rfl | ⟨c, h1, h2⟩⟩
  · simp at hx
  · simp at hx
  · refine ⟨_, idx_slice (k := 4) rfl rfl (by omega) (by omega), ?_⟩
    exact ald_agg rfl rfl rfl (hblk_of h1) (by rw [Nat.zero_add, Int.toNat_natCast]; exact h2 i x hx)
theorem ActL.frF {H H' : Heap} {fb : Nat} {G : Fo} {most : Nat} {av : Value} {rb : Nat} {S : List SX} (h : FoR H fb G most av rb S) {v : Value} {L : List Act} (o : ActL H v L) (g : FrF fb H H') : ActL H' v L := by
  rcases o with o | ⟨b, h1, h2 | ⟨c, h2, h3⟩⟩
  · exact .inl o
  · exact .inr ⟨b, h1, .inl h2⟩
  · refine .inr ⟨b, h1, .inr ⟨c, g.2 b _ h2 fun e => ?_, h3⟩⟩
    rcases e with e | ⟨c', e⟩ | ⟨es, e⟩
    · rw [e, h.blk] at h2; simp at h2
    · simp at e
    · simp at e
theorem ActL.grow {H H' : Heap} {v : Value} {L : List Act} (o : ActL H v L) (g : Grow H H') : ActL H' v L := by
  rcases o with o | ⟨b, h1, h2 | ⟨c, h2, h3⟩⟩
  · exact .inl o
  · exact .inr ⟨b, h1, .inl h2⟩
  · exact .inr ⟨b, h1, .inr ⟨c, g.at h2, h3⟩⟩
end Go.Proofs.Ytmcniodiehfbpaa
/- Package shape: forests that are not there, and such as no call made. -/
set_option linter.unusedVariables false
set_option linter.unusedSimpArgs false
set_option maxRecDepth 20000
set_option maxHeartbeats 4000000
namespace Go.Proofs.Ytmcniodiehfbpaa
open Go Ax
def NoF (H : Heap) (p : Option Addr) : Prop := p = none ∨ ∃ fb, p = some ⟨fb, 0, none⟩ ∧ H[fb]? = some (.cells .var [.slice none 0 0, .map none, .int .i64 0])
theorem NoF.grow {H H' : Heap} {p : Option Addr} (h : NoF H p) (g : Grow H H') : NoF H' p := by
  rcases h with h | ⟨fb, h1, h2⟩
  · exact .inl h
  · exact .inr ⟨fb, h1, g.at h2⟩
theorem find_no {H : Heap} {p : Option Addr} (h : NoF H p) (id : Int) (hi : -9223372036854775808 ≤ id) : AX Try.prog 21 #[.pointer p, .int .i64 id] H (fun v H' => v = .pointer none ∧ H' = H) := by
  rcases h with rfl | ⟨fb, rfl, hb⟩
  · refine AX.body (n := 27) (rs := [.tmp 4]) Try.func21 rfl (by decide) rfl rfl (bC_sound _ _ _ _ ?_)
    (try (conv => whnf)); (repeat ((fail_if_success (with_reducible refine And.intro ?_ ?_)); (fail_if_success (with_reducible refine Exists.intro ?_ ?_)); (first | (apply Ob.of; (first | with_reducible assumption | with_reducible exact ex20 _ _ | with_reducible exact ex21 _ _ | with_reducible exact ex30 _ _ _ | with_reducible exact ex31 _ _ _ | with_reducible exact ex32 _ _ _ | rfl | (exact ald rfl rfl (by assumption) rfl) | (exact ald_agg rfl rfl rfl (by assumption) rfl)); (conv => whnf)) | (apply bIf.yes; (first | assumption | rfl); (conv => whnf)) | (apply bIf.no; (first | assumption | rfl); (conv => whnf)) | ((with_reducible refine Ob.load (by with_unfolding_all assumption) ?_); (conv => whnf)) | (apply Grows.mk; (first | exact Grow.refl _ | assumption); (conv => whnf)))))
    exact ⟨rfl, rfl⟩
  · refine (find0 (S := []) hb (.inl ⟨rfl, rfl⟩) (by simp) id hi).mono ?_
    rintro v X ⟨hv, e⟩
    rcases hv with ⟨_, rfl⟩ | ⟨h, _⟩
    · exact ⟨rfl, e⟩
    · simp at h; omega
theorem up1_no {q a b : Nat} {p : Option Addr} {id : Int} {H : Heap} (hid : -9223372036854775808 ≤ id) (h : NoF H p) (ha : hblk H a = some [.pointer p]) (hb : hblk H b = some [.int .i64 id]) :
    AX Try.prog 25 #[.func (.yield q) #[] #[], .pointer (some ⟨a, 0, none⟩), .pointer (some ⟨b, 0, none⟩)] H (fun _ Y => Y = H) := by
  refine AX.body (n := 29) (rs := []) Try.func25 rfl (by decide) rfl rfl (bC_sound _ _ _ _ ?_)
  (try (conv => whnf)); (repeat ((fail_if_success (with_reducible refine And.intro ?_ ?_)); (fail_if_success (with_reducible refine Exists.intro ?_ ?_)); (first | (apply Ob.of; (first | with_reducible assumption | with_reducible exact ex20 _ _ | with_reducible exact ex21 _ _ | with_reducible exact ex30 _ _ _ | with_reducible exact ex31 _ _ _ | with_reducible exact ex32 _ _ _ | rfl | (exact ald rfl rfl (by assumption) rfl) | (exact ald_agg rfl rfl rfl (by assumption) rfl)); (conv => whnf)) | (apply bIf.yes; (first | assumption | rfl); (conv => whnf)) | (apply bIf.no; (first | assumption | rfl); (conv => whnf)) | ((with_reducible refine Ob.load (by with_unfolding_all assumption) ?_); (conv => whnf)) | (apply Grows.mk; (first | exact Grow.refl _ | assumption); (conv => whnf)))))
  refine (find_no h id hid).mono ?_
  rintro v X ⟨rfl, e⟩
  subst X
  (try (conv => whnf)); (repeat ((fail_if_success (with_reducible refine And.intro ?_ ?_)); (fail_if_success (with_reducible refine Exists.intro ?_ ?_)); (first | (apply Ob.of; (first | with_reducible assumption | with_reducible exact ex20 _ _ | with_reducible exact ex21 _ _ | with_reducible exact ex30 _ _ _ | with_reducible exact ex31 _ _ _ | with_reducible exact ex32 _ _ _ | rfl | (exact ald rfl rfl (by assumption) rfl) | (exact ald_agg rfl rfl rfl (by assumption) rfl)); (conv => whnf)) | (apply bIf.yes; (first | assumption | rfl); (conv => whnf)) | (apply bIf.no; (first | assumption | rfl); (conv => whnf)) | ((with_reducible refine Ob.load (by with_unfolding_all assumption) ?_); (conv => whnf)) | (apply Grows.mk; (first | exact Grow.refl _ | assumption); (conv => whnf)))))
  refine SW.loop (α := Unit) (fun _ => [(0, .func (.yield q) #[] #[]), (1, .pointer (some ⟨a, 0, none⟩)), (4, .pointer none)]) (fun _ X => X = H) (fun _ => 0) ⟨(), ⟨rfl, rfl, rfl, trivial⟩, rfl⟩ ?_
  rintro _ X rfl
  refine bC_sound _ _ _ _ ?_
  (try (conv => whnf)); (repeat ((fail_if_success (with_reducible refine And.intro ?_ ?_)); (fail_if_success (with_reducible refine Exists.intro ?_ ?_)); (first | (apply Ob.of; (first | with_reducible assumption | with_reducible exact ex20 _ _ | with_reducible exact ex21 _ _ | with_reducible exact ex30 _ _ _ | with_reducible exact ex31 _ _ _ | with_reducible exact ex32 _ _ _ | rfl | (exact ald rfl rfl (by assumption) rfl) | (exact ald_agg rfl rfl rfl (by assumption) rfl)); (conv => whnf)) | (apply bIf.yes; (first | assumption | rfl); (conv => whnf)) | (apply bIf.no; (first | assumption | rfl); (conv => whnf)) | ((with_reducible refine Ob.load (by with_unfolding_all assumption) ?_); (conv => whnf)) | (apply Grows.mk; (first | exact Grow.refl _ | assumption); (conv => whnf)))))
theorem Slot_no {H : Heap} {p : Option Addr} (h : NoF H p) (id name : Int) (hid : -9223372036854775808 ≤ id) :
    AX Try.prog 15 #[.pointer p, .int .i64 id, .int .i64 name] H (fun v H' => v = .int .i64 (-1) ∧ H' = H) := by
  refine AX.quiet ?_
  suffices hh : AX Try.prog 15 #[.pointer p, .int .i64 id, .int .i64 name] H (fun v H' => v = .int .i64 (-1) ∧ Grow H H') from hh.mono fun v _ ⟨e, g⟩ => ⟨e ▸ plain_int _ _, e, g⟩
  refine AX.bodyD (n := 19) (rs := [.cell 6 3]) Try.func15 rfl (by decide) rfl rfl (dC_sound _ _ _ _ _ ?_)
  (conv => whnf)
  refine Ob2.box rfl fun q1 H1 hq1 a1 g1 => ?_
  (try (conv => whnf)); (repeat ((fail_if_success (with_reducible refine And.intro ?_ ?_)); (fail_if_success (with_reducible refine Exists.intro ?_ ?_)); (first | (apply Ob.of; (first | with_reducible assumption | with_reducible exact ex20 _ _ | with_reducible exact ex21 _ _ | with_reducible exact ex30 _ _ _ | with_reducible exact ex31 _ _ _ | with_reducible exact ex32 _ _ _ | rfl | (exact ald rfl rfl (by assumption) rfl) | (exact ald_agg rfl rfl rfl (by assumption) rfl)); (conv => whnf)) | (apply bIf.yes; (first | assumption | rfl); (conv => whnf)) | (apply bIf.no; (first | assumption | rfl); (conv => whnf)) | ((with_reducible refine Ob.load (by with_unfolding_all assumption) ?_); (conv => whnf)) | (apply Grows.mk; (first | exact Grow.refl _ | assumption); (conv => whnf)))))
  refine Ob2.alloc rfl fun q2 H2 hq2 a2 g2 => ?_
  (try (conv => whnf)); (repeat ((fail_if_success (with_reducible refine And.intro ?_ ?_)); (fail_if_success (with_reducible refine Exists.intro ?_ ?_)); (first | (apply Ob.of; (first | with_reducible assumption | with_reducible exact ex20 _ _ | with_reducible exact ex21 _ _ | with_reducible exact ex30 _ _ _ | with_reducible exact ex31 _ _ _ | with_reducible exact ex32 _ _ _ | rfl | (exact ald rfl rfl (by assumption) rfl) | (exact ald_agg rfl rfl rfl (by assumption) rfl)); (conv => whnf)) | (apply bIf.yes; (first | assumption | rfl); (conv => whnf)) | (apply bIf.no; (first | assumption | rfl); (conv => whnf)) | ((with_reducible refine Ob.load (by with_unfolding_all assumption) ?_); (conv => whnf)) | (apply Grows.mk; (first | exact Grow.refl _ | assumption); (conv => whnf)))))
  refine (up_ax H2 _ id).mono ?_
  rintro _ H3 ⟨a, b, rfl, g3, ha, hb⟩
  have c2 := g3.at a2
  have g := (g1.trans g2).trans g3
  (try (conv => whnf)); (repeat ((fail_if_success (with_reducible refine And.intro ?_ ?_)); (fail_if_success (with_reducible refine Exists.intro ?_ ?_)); (first | (apply Ob.of; (first | with_reducible assumption | with_reducible exact ex20 _ _ | with_reducible exact ex21 _ _ | with_reducible exact ex30 _ _ _ | with_reducible exact ex31 _ _ _ | with_reducible exact ex32 _ _ _ | rfl | (exact ald rfl rfl (by assumption) rfl) | (exact ald_agg rfl rfl rfl (by assumption) rfl)); (conv => whnf)) | (apply bIf.yes; (first | assumption | rfl); (conv => whnf)) | (apply bIf.no; (first | assumption | rfl); (conv => whnf)) | ((with_reducible refine Ob.load (by with_unfolding_all assumption) ?_); (conv => whnf)) | (apply Grows.mk; (first | exact Grow.refl _ | assumption); (conv => whnf)))))
  have no3 := h.grow g
  have hq2 : q2 < H3.length := lt_at c2
  have hHl : H.length ≤ q2 := by have := g1.1; omega
  refine SD.rangeFunc (gf := 25) (cap := #[.pointer (some ⟨a, 0, none⟩), .pointer (some ⟨b, 0, none⟩)]) rfl ?_
  generalize hR : Blk.lrec 19 _ LoopState.ready none #[11] _ _ = R
  have gg : Grow H3 (H3 ++ [.defd] ++ [R]) := (Grow.push _ _).trans (.push _ _)
  refine (up1_no (q := H3.length + 1) hid (no3.grow gg) (hblk_of (gg.at ha)) (hblk_of (gg.at hb))).mono ?_
  rintro _ Y rfl
  subst hR
  refine ⟨.ready, none, by simp, by simp, ?_⟩
  (conv => whnf)
  generalize hV : List.set _ (H3.length + 1) Blk.dead = V
  have k2 : V[q2]? = some (.cells .var [.int .i64 0]) := by rw [← hV]; exact set_at (gg.at c2) (by omega)
  have gV : Grow H V := by rw [← hV]; exact FoR.grow_set (g.trans gg) (by omega)
  have kd : V[H3.length]? = some .defd := by rw [← hV]; exact set_at (by simp) (by omega)
  (try (conv => whnf)); (repeat ((fail_if_success (with_reducible refine And.intro ?_ ?_)); (fail_if_success (with_reducible refine Exists.intro ?_ ?_)); (first | (apply Ob.of; (first | with_reducible assumption | with_reducible exact ex20 _ _ | with_reducible exact ex21 _ _ | with_reducible exact ex30 _ _ _ | with_reducible exact ex31 _ _ _ | with_reducible exact ex32 _ _ _ | rfl | (exact ald rfl rfl (by assumption) rfl) | (exact ald_agg rfl rfl rfl (by assumption) rfl)); (conv => whnf)) | (apply bIf.yes; (first | assumption | rfl); (conv => whnf)) | (apply bIf.no; (first | assumption | rfl); (conv => whnf)) | ((with_reducible refine Ob.load (by with_unfolding_all assumption) ?_); (conv => whnf)) | (apply Grows.mk; (first | exact Grow.refl _ | assumption); (conv => whnf)))))
  refine Ob.store rfl rfl rfl k2 rfl (by first | exact Nat.le_of_ble_eq_true rfl | simp) fun Z s3 s4 s5 => ?_
  (try (conv => whnf)); (repeat ((fail_if_success (with_reducible refine And.intro ?_ ?_)); (fail_if_success (with_reducible refine Exists.intro ?_ ?_)); (first | (apply Ob.of; (first | with_reducible assumption | with_reducible exact ex20 _ _ | with_reducible exact ex21 _ _ | with_reducible exact ex30 _ _ _ | with_reducible exact ex31 _ _ _ | with_reducible exact ex32 _ _ _ | rfl | (exact ald rfl rfl (by assumption) rfl) | (exact ald_agg rfl rfl rfl (by assumption) rfl)); (conv => whnf)) | (apply bIf.yes; (first | assumption | rfl); (conv => whnf)) | (apply bIf.no; (first | assumption | rfl); (conv => whnf)) | ((with_reducible refine Ob.load (by with_unfolding_all assumption) ?_); (conv => whnf)) | (apply Grows.mk; (first | exact Grow.refl _ | assumption); (conv => whnf)))))
  have zd : Z[H3.length]? = some .defd := by rw [s4.2 _ (lt_at kd) (by omega)]; exact kd
  have z2 : (Z.set H3.length .dead)[q2]? = some (.cells .var [.int .i64 (-1)]) := set_at s3 (by omega)
  have zg : Grow H (Z.set H3.length .dead) := FoR.grow_set ⟨by have := gV.1; omega, fun p hp => by rw [s4.2 p (by have := gV.1; omega) (by omega)]; exact gV.2 p hp⟩ (by omega)
  refine ⟨by simp, by intro q hq; simp at hq; subst hq; exact zd, ?_⟩
  (conv => whnf)
  refine Ob.of (ald rfl rfl (hblk_of z2) rfl) ?_
  (conv => whnf)
  exact ⟨rfl, zg⟩
theorem Names_no {H : Heap} {p : Option Addr} (h : NoF H p) (id : Int) (hid : -9223372036854775808 ≤ id) :
    AX Try.prog 14 #[.pointer p, .int .i64 id] H (fun v H' => v = .slice none 0 0 ∧ Grow H H') := by
  refine AX.bodyD (n := 19) (rs := [.tmp 4]) Try.func14 rfl (by decide) rfl rfl (dC_sound _ _ _ _ _ ?_)
  (conv => whnf)
  (try (conv => whnf)); (repeat ((fail_if_success (with_reducible refine And.intro ?_ ?_)); (fail_if_success (with_reducible refine Exists.intro ?_ ?_)); (first | (apply Ob.of; (first | with_reducible assumption | with_reducible exact ex20 _ _ | with_reducible exact ex21 _ _ | with_reducible exact ex30 _ _ _ | with_reducible exact ex31 _ _ _ | with_reducible exact ex32 _ _ _ | rfl | (exact ald rfl rfl (by assumption) rfl) | (exact ald_agg rfl rfl rfl (by assumption) rfl)); (conv => whnf)) | (apply bIf.yes; (first | assumption | rfl); (conv => whnf)) | (apply bIf.no; (first | assumption | rfl); (conv => whnf)) | ((with_reducible refine Ob.load (by with_unfolding_all assumption) ?_); (conv => whnf)) | (apply Grows.mk; (first | exact Grow.refl _ | assumption); (conv => whnf)))))
  refine Ob2.alloc rfl fun q2 H2 hq2 a2 g2 => ?_
  (try (conv => whnf)); (repeat ((fail_if_success (with_reducible refine And.intro ?_ ?_)); (fail_if_success (with_reducible refine Exists.intro ?_ ?_)); (first | (apply Ob.of; (first | with_reducible assumption | with_reducible exact ex20 _ _ | with_reducible exact ex21 _ _ | with_reducible exact ex30 _ _ _ | with_reducible exact ex31 _ _ _ | with_reducible exact ex32 _ _ _ | rfl | (exact ald rfl rfl (by assumption) rfl) | (exact ald_agg rfl rfl rfl (by assumption) rfl)); (conv => whnf)) | (apply bIf.yes; (first | assumption | rfl); (conv => whnf)) | (apply bIf.no; (first | assumption | rfl); (conv => whnf)) | ((with_reducible refine Ob.load (by with_unfolding_all assumption) ?_); (conv => whnf)) | (apply Grows.mk; (first | exact Grow.refl _ | assumption); (conv => whnf)))))
  refine (up_ax H2 _ id).mono ?_
  rintro _ H3 ⟨a, b, rfl, g3, ha, hb⟩
  have c2 := g3.at a2
  have g := g2.trans g3
  (try (conv => whnf)); (repeat ((fail_if_success (with_reducible refine And.intro ?_ ?_)); (fail_if_success (with_reducible refine Exists.intro ?_ ?_)); (first | (apply Ob.of; (first | with_reducible assumption | with_reducible exact ex20 _ _ | with_reducible exact ex21 _ _ | with_reducible exact ex30 _ _ _ | with_reducible exact ex31 _ _ _ | with_reducible exact ex32 _ _ _ | rfl | (exact ald rfl rfl (by assumption) rfl) | (exact ald_agg rfl rfl rfl (by assumption) rfl)); (conv => whnf)) | (apply bIf.yes; (first | assumption | rfl); (conv => whnf)) | (apply bIf.no; (first | assumption | rfl); (conv => whnf)) | ((with_reducible refine Ob.load (by with_unfolding_all assumption) ?_); (conv => whnf)) | (apply Grows.mk; (first | exact Grow.refl _ | assumption); (conv => whnf)))))
  have no3 := h.grow g
  have hq2 : q2 < H3.length := lt_at c2
  have hHl : H.length ≤ q2 := by omega
  refine SD.rangeFunc (gf := 25) (cap := #[.pointer (some ⟨a, 0, none⟩), .pointer (some ⟨b, 0, none⟩)]) rfl ?_
  generalize hR : Blk.lrec 19 _ LoopState.ready none #[10] _ _ = R
  have gg : Grow H3 (H3 ++ [.defd] ++ [R]) := (Grow.push _ _).trans (.push _ _)
  refine (up1_no (q := H3.length + 1) hid (no3.grow gg) (hblk_of (gg.at ha)) (hblk_of (gg.at hb))).mono ?_
  rintro _ Y rfl
  subst hR
  refine ⟨.ready, none, by simp, by simp, ?_⟩
  (conv => whnf)
  generalize hV : List.set _ (H3.length + 1) Blk.dead = V
  have k2 : hblk V q2 = some [.slice none 0 0] := hblk_of (by rw [← hV]; exact set_at (gg.at c2) (by omega))
  have gV : Grow H V := by rw [← hV]; exact FoR.grow_set (g.trans gg) (by omega)
  have kd : V[H3.length]? = some .defd := by rw [← hV]; exact set_at (by simp) (by omega)
  (try (conv => whnf)); (repeat ((fail_if_success (with_reducible refine And.intro ?_ ?_)); (fail_if_success (with_reducible refine Exists.intro ?_ ?_)); (first | (apply Ob.of; (first | with_reducible assumption | with_reducible exact ex20 _ _ | with_reducible exact ex21 _ _ | with_reducible exact ex30 _ _ _ | with_reducible exact ex31 _ _ _ | with_reducible exact ex32 _ _ _ | rfl | (exact ald rfl rfl (by assumption) rfl) | (exact ald_agg rfl rfl rfl (by assumption) rfl)); (conv => whnf)) | (apply bIf.yes; (first | assumption | rfl); (conv => whnf)) | (apply bIf.no; (first | assumption | rfl); (conv => whnf)) | ((with_reducible refine Ob.load (by with_unfolding_all assumption) ?_); (conv => whnf)) | (apply Grows.mk; (first | exact Grow.refl _ | assumption); (conv => whnf)))))
  refine (Reverse_ax (H := V) (v := .slice none 0 0) (L := []) (.inl ⟨rfl, rfl⟩) (by simp)).mono ?_
  rintro _ Z ⟨_, z1, z2⟩
  have zz : ∀ q, Z[q]? = V[q]? := fun q => z2 q fun hb => by obtain ⟨n, k, hb⟩ := hb; simp at hb
  have k3 : hblk Z q2 = some [.slice none 0 0] := by unfold hblk at k2 ⊢; rw [zz q2]; exact k2
  (try (conv => whnf)); (repeat ((fail_if_success (with_reducible refine And.intro ?_ ?_)); (fail_if_success (with_reducible refine Exists.intro ?_ ?_)); (first | (apply Ob.of; (first | with_reducible assumption | with_reducible exact ex20 _ _ | with_reducible exact ex21 _ _ | with_reducible exact ex30 _ _ _ | with_reducible exact ex31 _ _ _ | with_reducible exact ex32 _ _ _ | rfl | (exact ald rfl rfl (by assumption) rfl) | (exact ald_agg rfl rfl rfl (by assumption) rfl)); (conv => whnf)) | (apply bIf.yes; (first | assumption | rfl); (conv => whnf)) | (apply bIf.no; (first | assumption | rfl); (conv => whnf)) | ((with_reducible refine Ob.load (by with_unfolding_all assumption) ?_); (conv => whnf)) | (apply Grows.mk; (first | exact Grow.refl _ | assumption); (conv => whnf)))))
  refine ⟨by simp, by intro q hq; simp at hq; subst hq; rw [zz]; exact kd, ?_⟩
  (conv => whnf)
  exact ⟨rfl, FoR.grow_set ⟨by rw [z1]; exact gV.1, fun p hp => by rw [zz p]; exact gV.2 p hp⟩ (by omega)⟩
theorem Root_no {H : Heap} {p : Option Addr} (h : NoF H p) (id : Int) : AX Try.prog 17 #[.pointer p, .int .i64 id] H (fun v H' => v = .int .i64 0 ∧ H' = H) := by
  rcases h with rfl | ⟨fb, rfl, hb⟩
  · refine AX.body (n := 44) (rs := [.tmp 4]) Try.func17 rfl (by decide) rfl rfl (bC_sound _ _ _ _ ?_)
    (try (conv => whnf)); (repeat ((fail_if_success (with_reducible refine And.intro ?_ ?_)); (fail_if_success (with_reducible refine Exists.intro ?_ ?_)); (first | (apply Ob.of; (first | with_reducible assumption | with_reducible exact ex20 _ _ | with_reducible exact ex21 _ _ | with_reducible exact ex30 _ _ _ | with_reducible exact ex31 _ _ _ | with_reducible exact ex32 _ _ _ | rfl | (exact ald rfl rfl (by assumption) rfl) | (exact ald_agg rfl rfl rfl (by assumption) rfl)); (conv => whnf)) | (apply bIf.yes; (first | assumption | rfl); (conv => whnf)) | (apply bIf.no; (first | assumption | rfl); (conv => whnf)) | ((with_reducible refine Ob.load (by with_unfolding_all assumption) ?_); (conv => whnf)) | (apply Grows.mk; (first | exact Grow.refl _ | assumption); (conv => whnf)))))
    exact ⟨rfl, rfl⟩
  · have hb := hblk_of hb
    refine AX.body (n := 44) (rs := [.tmp 4]) Try.func17 rfl (by decide) rfl rfl (bC_sound _ _ _ _ ?_)
    (try (conv => whnf)); (repeat ((fail_if_success (with_reducible refine And.intro ?_ ?_)); (fail_if_success (with_reducible refine Exists.intro ?_ ?_)); (first | (apply Ob.of; (first | with_reducible assumption | with_reducible exact ex20 _ _ | with_reducible exact ex21 _ _ | with_reducible exact ex30 _ _ _ | with_reducible exact ex31 _ _ _ | with_reducible exact ex32 _ _ _ | rfl | (exact ald rfl rfl (by assumption) rfl) | (exact ald_agg rfl rfl rfl (by assumption) rfl)); (conv => whnf)) | (apply bIf.yes; (first | assumption | rfl); (conv => whnf)) | (apply bIf.no; (first | assumption | rfl); (conv => whnf)) | ((with_reducible refine Ob.load (by with_unfolding_all assumption) ?_); (conv => whnf)) | (apply Grows.mk; (first | exact Grow.refl _ | assumption); (conv => whnf)))))
    exact ⟨rfl, rfl⟩
theorem Len_no {H : Heap} {p : Option Addr} (h : NoF H p) : AX Try.prog 9 #[.pointer p] H (fun v H' => v = .int .i64 0 ∧ H' = H) := by
  rcases h with rfl | ⟨fb, rfl, hb⟩
  · refine AX.body (n := 10) (rs := [.tmp 2]) Try.func9 rfl (by decide) rfl rfl (bC_sound _ _ _ _ ?_)
    (try (conv => whnf)); (repeat ((fail_if_success (with_reducible refine And.intro ?_ ?_)); (fail_if_success (with_reducible refine Exists.intro ?_ ?_)); (first | (apply Ob.of; (first | with_reducible assumption | with_reducible exact ex20 _ _ | with_reducible exact ex21 _ _ | with_reducible exact ex30 _ _ _ | with_reducible exact ex31 _ _ _ | with_reducible exact ex32 _ _ _ | rfl | (exact ald rfl rfl (by assumption) rfl) | (exact ald_agg rfl rfl rfl (by assumption) rfl)); (conv => whnf)) | (apply bIf.yes; (first | assumption | rfl); (conv => whnf)) | (apply bIf.no; (first | assumption | rfl); (conv => whnf)) | ((with_reducible refine Ob.load (by with_unfolding_all assumption) ?_); (conv => whnf)) | (apply Grows.mk; (first | exact Grow.refl _ | assumption); (conv => whnf)))))
    exact ⟨rfl, rfl⟩
  · have hb := hblk_of hb
    refine AX.body (n := 10) (rs := [.tmp 2]) Try.func9 rfl (by decide) rfl rfl (bC_sound _ _ _ _ ?_)
    (try (conv => whnf)); (repeat ((fail_if_success (with_reducible refine And.intro ?_ ?_)); (fail_if_success (with_reducible refine Exists.intro ?_ ?_)); (first | (apply Ob.of; (first | with_reducible assumption | with_reducible exact ex20 _ _ | with_reducible exact ex21 _ _ | with_reducible exact ex30 _ _ _ | with_reducible exact ex31 _ _ _ | with_reducible exact ex32 _ _ _ | rfl | (exact ald rfl rfl (by assumption) rfl) | (exact ald_agg rfl rfl rfl (by assumption) rfl)); (conv => whnf)) | (apply bIf.yes; (first | assumption | rfl); (conv => whnf)) | (apply bIf.no; (first | assumption | rfl); (conv => whnf)) | ((with_reducible refine Ob.load (by with_unfolding_all assumption) ?_); (conv => whnf)) | (apply Grows.mk; (first | exact Grow.refl _ | assumption); (conv => whnf)))))
    exact ⟨rfl, rfl⟩
theorem Add_no {H : Heap} {p : Option Addr} (h : NoF H p) (id name : Int) (hid : -9223372036854775808 ≤ id) : AX Try.prog 18 #[.pointer p, .int .i64 id, .int .i64 name] H (fun v H' => v = .int .i64 0 ∧ H' = H) := by
  refine AX.body (n := 76) (rs := [.tmp 6]) Try.func18 rfl (by decide) rfl rfl (bC_sound _ _ _ _ ?_)
  (try (conv => whnf)); (repeat ((fail_if_success (with_reducible refine And.intro ?_ ?_)); (fail_if_success (with_reducible refine Exists.intro ?_ ?_)); (first | (apply Ob.of; (first | with_reducible assumption | with_reducible exact ex20 _ _ | with_reducible exact ex21 _ _ | with_reducible exact ex30 _ _ _ | with_reducible exact ex31 _ _ _ | with_reducible exact ex32 _ _ _ | rfl | (exact ald rfl rfl (by assumption) rfl) | (exact ald_agg rfl rfl rfl (by assumption) rfl)); (conv => whnf)) | (apply bIf.yes; (first | assumption | rfl); (conv => whnf)) | (apply bIf.no; (first | assumption | rfl); (conv => whnf)) | ((with_reducible refine Ob.load (by with_unfolding_all assumption) ?_); (conv => whnf)) | (apply Grows.mk; (first | exact Grow.refl _ | assumption); (conv => whnf)))))
  refine (find_no h id hid).mono ?_
  rintro v X ⟨rfl, e⟩
  subst X
  (try (conv => whnf)); (repeat ((fail_if_success (with_reducible refine And.intro ?_ ?_)); (fail_if_success (with_reducible refine Exists.intro ?_ ?_)); (first | (apply Ob.of; (first | with_reducible assumption | with_reducible exact ex20 _ _ | with_reducible exact ex21 _ _ | with_reducible exact ex30 _ _ _ | with_reducible exact ex31 _ _ _ | with_reducible exact ex32 _ _ _ | rfl | (exact ald rfl rfl (by assumption) rfl) | (exact ald_agg rfl rfl rfl (by assumption) rfl)); (conv => whnf)) | (apply bIf.yes; (first | assumption | rfl); (conv => whnf)) | (apply bIf.no; (first | assumption | rfl); (conv => whnf)) | ((with_reducible refine Ob.load (by with_unfolding_all assumption) ?_); (conv => whnf)) | (apply Grows.mk; (first | exact Grow.refl _ | assumption); (conv => whnf)))))
  exact ⟨rfl, rfl⟩
theorem Move_no {H : Heap} {p : Option Addr} (h : NoF H p) (id name : Int) (hid : -9223372036854775808 ≤ id) : AX Try.prog 11 #[.pointer p, .int .i64 id, .int .i64 name] H (fun v H' => v = .int .i64 0 ∧ H' = H) := by
  refine AX.body (n := 31) (rs := [.tmp 6]) Try.func11 rfl (by decide) rfl rfl (bC_sound _ _ _ _ ?_)
  (try (conv => whnf)); (repeat ((fail_if_success (with_reducible refine And.intro ?_ ?_)); (fail_if_success (with_reducible refine Exists.intro ?_ ?_)); (first | (apply Ob.of; (first | with_reducible assumption | with_reducible exact ex20 _ _ | with_reducible exact ex21 _ _ | with_reducible exact ex30 _ _ _ | with_reducible exact ex31 _ _ _ | with_reducible exact ex32 _ _ _ | rfl | (exact ald rfl rfl (by assumption) rfl) | (exact ald_agg rfl rfl rfl (by assumption) rfl)); (conv => whnf)) | (apply bIf.yes; (first | assumption | rfl); (conv => whnf)) | (apply bIf.no; (first | assumption | rfl); (conv => whnf)) | ((with_reducible refine Ob.load (by with_unfolding_all assumption) ?_); (conv => whnf)) | (apply Grows.mk; (first | exact Grow.refl _ | assumption); (conv => whnf)))))
  refine (find_no h id hid).mono ?_
  rintro v X ⟨rfl, e⟩
  subst X
  (try (conv => whnf)); (repeat ((fail_if_success (with_reducible refine And.intro ?_ ?_)); (fail_if_success (with_reducible refine Exists.intro ?_ ?_)); (first | (apply Ob.of; (first | with_reducible assumption | with_reducible exact ex20 _ _ | with_reducible exact ex21 _ _ | with_reducible exact ex30 _ _ _ | with_reducible exact ex31 _ _ _ | with_reducible exact ex32 _ _ _ | rfl | (exact ald rfl rfl (by assumption) rfl) | (exact ald_agg rfl rfl rfl (by assumption) rfl)); (conv => whnf)) | (apply bIf.yes; (first | assumption | rfl); (conv => whnf)) | (apply bIf.no; (first | assumption | rfl); (conv => whnf)) | ((with_reducible refine Ob.load (by with_unfolding_all assumption) ?_); (conv => whnf)) | (apply Grows.mk; (first | exact Grow.refl _ | assumption); (conv => whnf)))))
  exact ⟨rfl, rfl⟩
theorem Proto_no {H : Heap} {p : Option Addr} (h : NoF H p) (id : Int) (hid : -9223372036854775808 ≤ id) : AX Try.prog 12 #[.pointer p, .int .i64 id] H (fun v H' => v = .tuple #[.int .i64 0, .bool false] ∧ H' = H) := by
  refine AX.body (n := 16) (rs := [.tmp 4, .tmp 5]) Try.func12 rfl (by decide) rfl rfl (bC_sound _ _ _ _ ?_)
  (try (conv => whnf)); (repeat ((fail_if_success (with_reducible refine And.intro ?_ ?_)); (fail_if_success (with_reducible refine Exists.intro ?_ ?_)); (first | (apply Ob.of; (first | with_reducible assumption | with_reducible exact ex20 _ _ | with_reducible exact ex21 _ _ | with_reducible exact ex30 _ _ _ | with_reducible exact ex31 _ _ _ | with_reducible exact ex32 _ _ _ | rfl | (exact ald rfl rfl (by assumption) rfl) | (exact ald_agg rfl rfl rfl (by assumption) rfl)); (conv => whnf)) | (apply bIf.yes; (first | assumption | rfl); (conv => whnf)) | (apply bIf.no; (first | assumption | rfl); (conv => whnf)) | ((with_reducible refine Ob.load (by with_unfolding_all assumption) ?_); (conv => whnf)) | (apply Grows.mk; (first | exact Grow.refl _ | assumption); (conv => whnf)))))
  refine (find_no h id hid).mono ?_
  rintro v X ⟨rfl, e⟩
  subst X
  (try (conv => whnf)); (repeat ((fail_if_success (with_reducible refine And.intro ?_ ?_)); (fail_if_success (with_reducible refine Exists.intro ?_ ?_)); (first | (apply Ob.of; (first | with_reducible assumption | with_reducible exact ex20 _ _ | with_reducible exact ex21 _ _ | with_reducible exact ex30 _ _ _ | with_reducible exact ex31 _ _ _ | with_reducible exact ex32 _ _ _ | rfl | (exact ald rfl rfl (by assumption) rfl) | (exact ald_agg rfl rfl rfl (by assumption) rfl)); (conv => whnf)) | (apply bIf.yes; (first | assumption | rfl); (conv => whnf)) | (apply bIf.no; (first | assumption | rfl); (conv => whnf)) | ((with_reducible refine Ob.load (by with_unfolding_all assumption) ?_); (conv => whnf)) | (apply Grows.mk; (first | exact Grow.refl _ | assumption); (conv => whnf)))))
  exact ⟨rfl, rfl⟩
theorem Parent_no {H : Heap} {p : Option Addr} (h : NoF H p) (id : Int) (hid : -9223372036854775808 ≤ id) : AX Try.prog 16 #[.pointer p, .int .i64 id] H (fun v H' => v = .int .i64 0 ∧ H' = H) := by
  refine AX.body (n := 15) (rs := [.tmp 4]) Try.func16 rfl (by decide) rfl rfl (bC_sound _ _ _ _ ?_)
  (try (conv => whnf)); (repeat ((fail_if_success (with_reducible refine And.intro ?_ ?_)); (fail_if_success (with_reducible refine Exists.intro ?_ ?_)); (first | (apply Ob.of; (first | with_reducible assumption | with_reducible exact ex20 _ _ | with_reducible exact ex21 _ _ | with_reducible exact ex30 _ _ _ | with_reducible exact ex31 _ _ _ | with_reducible exact ex32 _ _ _ | rfl | (exact ald rfl rfl (by assumption) rfl) | (exact ald_agg rfl rfl rfl (by assumption) rfl)); (conv => whnf)) | (apply bIf.yes; (first | assumption | rfl); (conv => whnf)) | (apply bIf.no; (first | assumption | rfl); (conv => whnf)) | ((with_reducible refine Ob.load (by with_unfolding_all assumption) ?_); (conv => whnf)) | (apply Grows.mk; (first | exact Grow.refl _ | assumption); (conv => whnf)))))
  refine (find_no h id hid).mono ?_
  rintro v X ⟨rfl, e⟩
  subst X
  (try (conv => whnf)); (repeat ((fail_if_success (with_reducible refine And.intro ?_ ?_)); (fail_if_success (with_reducible refine Exists.intro ?_ ?_)); (first | (apply Ob.of; (first | with_reducible assumption | with_reducible exact ex20 _ _ | with_reducible exact ex21 _ _ | with_reducible exact ex30 _ _ _ | with_reducible exact ex31 _ _ _ | with_reducible exact ex32 _ _ _ | rfl | (exact ald rfl rfl (by assumption) rfl) | (exact ald_agg rfl rfl rfl (by assumption) rfl)); (conv => whnf)) | (apply bIf.yes; (first | assumption | rfl); (conv => whnf)) | (apply bIf.no; (first | assumption | rfl); (conv => whnf)) | ((with_reducible refine Ob.load (by with_unfolding_all assumption) ?_); (conv => whnf)) | (apply Grows.mk; (first | exact Grow.refl _ | assumption); (conv => whnf)))))
  exact ⟨rfl, rfl⟩
theorem Size_no {H : Heap} {p : Option Addr} (h : NoF H p) (id : Int) (hid : -9223372036854775808 ≤ id) : AX Try.prog 19 #[.pointer p, .int .i64 id] H (fun v H' => v = .int .i64 0 ∧ H' = H) := by
  refine AX.body (n := 15) (rs := [.tmp 4]) Try.func19 rfl (by decide) rfl rfl (bC_sound _ _ _ _ ?_)
  (try (conv => whnf)); (repeat ((fail_if_success (with_reducible refine And.intro ?_ ?_)); (fail_if_success (with_reducible refine Exists.intro ?_ ?_)); (first | (apply Ob.of; (first | with_reducible assumption | with_reducible exact ex20 _ _ | with_reducible exact ex21 _ _ | with_reducible exact ex30 _ _ _ | with_reducible exact ex31 _ _ _ | with_reducible exact ex32 _ _ _ | rfl | (exact ald rfl rfl (by assumption) rfl) | (exact ald_agg rfl rfl rfl (by assumption) rfl)); (conv => whnf)) | (apply bIf.yes; (first | assumption | rfl); (conv => whnf)) | (apply bIf.no; (first | assumption | rfl); (conv => whnf)) | ((with_reducible refine Ob.load (by with_unfolding_all assumption) ?_); (conv => whnf)) | (apply Grows.mk; (first | exact Grow.refl _ | assumption); (conv => whnf)))))
  refine (find_no h id hid).mono ?_
  rintro v X ⟨rfl, e⟩
  subst X
  (try (conv => whnf)); (repeat ((fail_if_success (with_reducible refine And.intro ?_ ?_)); (fail_if_success (with_reducible refine Exists.intro ?_ ?_)); (first | (apply Ob.of; (first | with_reducible assumption | with_reducible exact ex20 _ _ | with_reducible exact ex21 _ _ | with_reducible exact ex30 _ _ _ | with_reducible exact ex31 _ _ _ | with_reducible exact ex32 _ _ _ | rfl | (exact ald rfl rfl (by assumption) rfl) | (exact ald_agg rfl rfl rfl (by assumption) rfl)); (conv => whnf)) | (apply bIf.yes; (first | assumption | rfl); (conv => whnf)) | (apply bIf.no; (first | assumption | rfl); (conv => whnf)) | ((with_reducible refine Ob.load (by with_unfolding_all assumption) ?_); (conv => whnf)) | (apply Grows.mk; (first | exact Grow.refl _ | assumption); (conv => whnf)))))
  exact ⟨rfl, rfl⟩
end Go.Proofs.Ytmcniodiehfbpaa
