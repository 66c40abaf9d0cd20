/- Package shape's laws: an act on a forest. -/
import Derived.Test.YtmcniodiehfbpaaJTy1
set_option linter.unusedVariables false
set_option linter.unusedSimpArgs false
set_option maxRecDepth 20000
set_option maxHeartbeats 4000000
namespace Go.Proofs.Ytmcniodiehfbpaa
open Go Ax
abbrev Act := Int × Int × Int × Bool
abbrev actV (a : Act) : Value := .agg #[.int .i64 a.1, .int .i64 a.2.1, .int .i64 a.2.2.1, .bool a.2.2.2]
def ok64 (x : Int) : Prop := -9223372036854775808 ≤ x ∧ x ≤ 9223372036854775807
theorem ok64_wrap (n : Int) : ok64 (IntKind.i64.wrap n) := by
  show -9223372036854775808 ≤ (if (true && decide (n % 18446744073709551616 ≥ 9223372036854775808)) = true then n % 18446744073709551616 - 18446744073709551616 else n % 18446744073709551616) ∧ (if (true && decide (n % 18446744073709551616 ≥ 9223372036854775808)) = true then n % 18446744073709551616 - 18446744073709551616 else n % 18446744073709551616) ≤ 9223372036854775807
  by_cases h : n % 18446744073709551616 ≥ 9223372036854775808
  · rw [if_pos (by simpa using h)]; omega
  · rw [if_neg (by simpa using h)]; omega
theorem arg_ax {H : Heap} (a : Act) (n : Nat) (ha : ok64 a.2.1) (hn : n ≤ 150) :
    AX Try.prog 20 #[actV a, .int .i64 (n : Int)] H (fun v H' => (∃ id, v = .int .i64 id ∧ ok64 id) ∧ H' = H) := by
  refine AX.quiet ?_
  suffices hh : AX Try.prog 20 #[actV a, .int .i64 (n : Int)] H (fun v H' => (∃ id, v = .int .i64 id ∧ ok64 id) ∧ Grow H H') from hh.mono fun v _ ⟨⟨id, e, h⟩, g⟩ => ⟨e ▸ plain_int _ _, ⟨id, e, h⟩, g⟩
  obtain ⟨d, x, y, o⟩ := a
  refine AX.body (n := 28) (rs := [.tmp 4]) Try.func20 rfl (by decide) rfl rfl (bC_sound _ _ _ _ ?_)
  (conv => whnf)
  refine Ob2.box rfl fun q1 H1 hq1 a1 g1 => ?_
  have b1 := hblk_of a1
  cases o with
  | false =>
    (try (conv => whnf)); (repeat ((fail_if_success (with_reducible refine And.intro ?_ ?_)); (fail_if_success (with_reducible refine Exists.intro ?_ ?_)); (first | (apply Ob.of; (first | with_reducible assumption | with_reducible exact ex20 _ _ | with_reducible exact ex21 _ _ | with_reducible exact ex30 _ _ _ | with_reducible exact ex31 _ _ _ | with_reducible exact ex32 _ _ _ | rfl | (exact ald rfl rfl (by assumption) rfl) | (exact ald_agg rfl rfl rfl (by assumption) rfl)); (conv => whnf)) | (apply bIf.yes; (first | assumption | rfl); (conv => whnf)) | (apply bIf.no; (first | assumption | rfl); (conv => whnf)) | ((with_reducible refine Ob.load (by with_unfolding_all assumption) ?_); (conv => whnf)) | (apply Grows.mk; (first | exact Grow.refl _ | assumption); (conv => whnf)))))
    exact ⟨⟨x, rfl, ha⟩, g1⟩
  | true =>
    by_cases hn0 : n = 0
    · have d1 : ((n : Int) == 0) = true := by simpa using hn0
      (try (conv => whnf)); (repeat ((fail_if_success (with_reducible refine And.intro ?_ ?_)); (fail_if_success (with_reducible refine Exists.intro ?_ ?_)); (first | (apply Ob.of; (first | with_reducible assumption | with_reducible exact ex20 _ _ | with_reducible exact ex21 _ _ | with_reducible exact ex30 _ _ _ | with_reducible exact ex31 _ _ _ | with_reducible exact ex32 _ _ _ | rfl | (exact ald rfl rfl (by assumption) rfl) | (exact ald_agg rfl rfl rfl (by assumption) rfl)); (conv => whnf)) | (apply bIf.yes; (first | assumption | rfl); (conv => whnf)) | (apply bIf.no; (first | assumption | rfl); (conv => whnf)) | ((with_reducible refine Ob.load (by with_unfolding_all assumption) ?_); (conv => whnf)) | (apply Grows.mk; (first | exact Grow.refl _ | assumption); (conv => whnf)))))
      exact ⟨⟨x, rfl, ha⟩, g1⟩
    · have d1 : ((n : Int) == 0) = false := by simpa using hn0
      by_cases hd : d = 0
      · have d2 : (d == 0) = true := by simpa using hd
        (try (conv => whnf)); (repeat ((fail_if_success (with_reducible refine And.intro ?_ ?_)); (fail_if_success (with_reducible refine Exists.intro ?_ ?_)); (first | (apply Ob.of; (first | with_reducible assumption | with_reducible exact ex20 _ _ | with_reducible exact ex21 _ _ | with_reducible exact ex30 _ _ _ | with_reducible exact ex31 _ _ _ | with_reducible exact ex32 _ _ _ | rfl | (exact ald rfl rfl (by assumption) rfl) | (exact ald_agg rfl rfl rfl (by assumption) rfl)); (conv => whnf)) | (apply bIf.yes; (first | assumption | rfl); (conv => whnf)) | (apply bIf.no; (first | assumption | rfl); (conv => whnf)) | ((with_reducible refine Ob.load (by with_unfolding_all assumption) ?_); (conv => whnf)) | (apply Grows.mk; (first | exact Grow.refl _ | assumption); (conv => whnf)))))
        exact ⟨⟨x, rfl, ha⟩, g1⟩
      · have d2 : (d == 0) = false := by simpa using hd
        (try (conv => whnf)); (repeat ((fail_if_success (with_reducible refine And.intro ?_ ?_)); (fail_if_success (with_reducible refine Exists.intro ?_ ?_)); (first | (apply Ob.of; (first | with_reducible assumption | with_reducible exact ex20 _ _ | with_reducible exact ex21 _ _ | with_reducible exact ex30 _ _ _ | with_reducible exact ex31 _ _ _ | with_reducible exact ex32 _ _ _ | rfl | (exact ald rfl rfl (by assumption) rfl) | (exact ald_agg rfl rfl rfl (by assumption) rfl)); (conv => whnf)) | (apply bIf.yes; (first | assumption | rfl); (conv => whnf)) | (apply bIf.no; (first | assumption | rfl); (conv => whnf)) | ((with_reducible refine Ob.load (by with_unfolding_all assumption) ?_); (conv => whnf)) | (apply Grows.mk; (first | exact Grow.refl _ | assumption); (conv => whnf)))))
        refine Ob.of (rem_ok (by omega)) ?_
        (try (conv => whnf)); (repeat ((fail_if_success (with_reducible refine And.intro ?_ ?_)); (fail_if_success (with_reducible refine Exists.intro ?_ ?_)); (first | (apply Ob.of; (first | with_reducible assumption | with_reducible exact ex20 _ _ | with_reducible exact ex21 _ _ | with_reducible exact ex30 _ _ _ | with_reducible exact ex31 _ _ _ | with_reducible exact ex32 _ _ _ | rfl | (exact ald rfl rfl (by assumption) rfl) | (exact ald_agg rfl rfl rfl (by assumption) rfl)); (conv => whnf)) | (apply bIf.yes; (first | assumption | rfl); (conv => whnf)) | (apply bIf.no; (first | assumption | rfl); (conv => whnf)) | ((with_reducible refine Ob.load (by with_unfolding_all assumption) ?_); (conv => whnf)) | (apply Grows.mk; (first | exact Grow.refl _ | assumption); (conv => whnf)))))
        refine Ob.of (rem_ok (by omega)) ?_
        (try (conv => whnf)); (repeat ((fail_if_success (with_reducible refine And.intro ?_ ?_)); (fail_if_success (with_reducible refine Exists.intro ?_ ?_)); (first | (apply Ob.of; (first | with_reducible assumption | with_reducible exact ex20 _ _ | with_reducible exact ex21 _ _ | with_reducible exact ex30 _ _ _ | with_reducible exact ex31 _ _ _ | with_reducible exact ex32 _ _ _ | rfl | (exact ald rfl rfl (by assumption) rfl) | (exact ald_agg rfl rfl rfl (by assumption) rfl)); (conv => whnf)) | (apply bIf.yes; (first | assumption | rfl); (conv => whnf)) | (apply bIf.no; (first | assumption | rfl); (conv => whnf)) | ((with_reducible refine Ob.load (by with_unfolding_all assumption) ?_); (conv => whnf)) | (apply Grows.mk; (first | exact Grow.refl _ | assumption); (conv => whnf)))))
        exact ⟨⟨_, rfl, ok64_wrap _⟩, g1⟩
theorem act_ax {H : Heap} {fb most rb : Nat} {G : Fo} {av : Value} {S : List SX} (h : FoR H fb G most av rb S) (a : Act) (h1 : ok64 a.2.1) (h2 : ok64 a.2.2.1) :
    AX Try.prog 8 #[.pointer (some ⟨fb, 0, none⟩), actV a] H (fun _ H' => ∃ G' av' S', Pre G G' ∧ FoR H' fb G' most av' rb S' ∧ FrF fb H H') := by
  obtain ⟨d, x, y, o⟩ := a
  refine AX.body (n := 28) (rs := []) Try.func8 rfl (by decide) rfl rfl (bC_sound _ _ _ _ ?_)
  (conv => whnf)
  refine Ob2.box rfl fun q1 H1 hq1 a1 g1 => ?_
  have b1 := hblk_of a1
  have f1 := h.grow g1
  have hG : G.length ≤ 150 := by have := h.room.few; have := h.room.most; omega
  (try (conv => whnf)); (repeat ((fail_if_success (with_reducible refine And.intro ?_ ?_)); (fail_if_success (with_reducible refine Exists.intro ?_ ?_)); (first | (apply Ob.of; (first | with_reducible assumption | with_reducible exact ex20 _ _ | with_reducible exact ex21 _ _ | with_reducible exact ex30 _ _ _ | with_reducible exact ex31 _ _ _ | with_reducible exact ex32 _ _ _ | rfl | (exact ald rfl rfl (by assumption) rfl) | (exact ald_agg rfl rfl rfl (by assumption) rfl)); (conv => whnf)) | (apply bIf.yes; (first | assumption | rfl); (conv => whnf)) | (apply bIf.no; (first | assumption | rfl); (conv => whnf)) | ((with_reducible refine Ob.load (by with_unfolding_all assumption) ?_); (conv => whnf)) | (apply Grows.mk; (first | exact Grow.refl _ | assumption); (conv => whnf)))))
  apply SW.drawH [(0, [], [6, 7], false), (1, [], [5], false), (2, [(6, 1)], [5, 6], true), (3, [(5, 0), (6, 1), (7, 2)], [5, 6, 7], true), (4, [(5, 0), (6, 1), (7, 2), (8, 3)], [5, 6, 7, 8], false)]
    [(5, 0), (6, 1), (7, 2), (8, 3), (4, 4)] [2]
    [(0, _), (3, _)] rfl (by kernel_rfl)
  case hF => exact ⟨rfl, rfl, trivial⟩
  (try (conv => whnf)); (repeat ((fail_if_success (with_reducible refine And.intro ?_ ?_)); (fail_if_success (with_reducible refine Exists.intro ?_ ?_)); (first | (apply Ob.of; (first | with_reducible assumption | with_reducible exact ex20 _ _ | with_reducible exact ex21 _ _ | with_reducible exact ex30 _ _ _ | with_reducible exact ex31 _ _ _ | with_reducible exact ex32 _ _ _ | rfl | (exact ald rfl rfl (by assumption) rfl) | (exact ald_agg rfl rfl rfl (by assumption) rfl)); (conv => whnf)) | (apply bIf.yes; (first | assumption | rfl); (conv => whnf)) | (apply bIf.no; (first | assumption | rfl); (conv => whnf)) | ((with_reducible refine Ob.load (by with_unfolding_all assumption) ?_); (conv => whnf)) | (apply Grows.mk; (first | exact Grow.refl _ | assumption); (conv => whnf)))))
  refine (Len_ax f1).mono ?_
  rintro _ X ⟨rfl, e⟩
  subst X
  (try (conv => whnf)); (repeat ((fail_if_success (with_reducible refine And.intro ?_ ?_)); (fail_if_success (with_reducible refine Exists.intro ?_ ?_)); (first | (apply Ob.of; (first | with_reducible assumption | with_reducible exact ex20 _ _ | with_reducible exact ex21 _ _ | with_reducible exact ex30 _ _ _ | with_reducible exact ex31 _ _ _ | with_reducible exact ex32 _ _ _ | rfl | (exact ald rfl rfl (by assumption) rfl) | (exact ald_agg rfl rfl rfl (by assumption) rfl)); (conv => whnf)) | (apply bIf.yes; (first | assumption | rfl); (conv => whnf)) | (apply bIf.no; (first | assumption | rfl); (conv => whnf)) | ((with_reducible refine Ob.load (by with_unfolding_all assumption) ?_); (conv => whnf)) | (apply Grows.mk; (first | exact Grow.refl _ | assumption); (conv => whnf)))))
  refine (arg_ax (H := H1) (d, x, y, o) G.length h1 hG).mono ?_
  rintro _ X ⟨⟨id, rfl, k1, k2⟩, e⟩
  subst X
  (try (conv => whnf)); (repeat ((fail_if_success (with_reducible refine And.intro ?_ ?_)); (fail_if_success (with_reducible refine Exists.intro ?_ ?_)); (first | (apply Ob.of; (first | with_reducible assumption | with_reducible exact ex20 _ _ | with_reducible exact ex21 _ _ | with_reducible exact ex30 _ _ _ | with_reducible exact ex31 _ _ _ | with_reducible exact ex32 _ _ _ | rfl | (exact ald rfl rfl (by assumption) rfl) | (exact ald_agg rfl rfl rfl (by assumption) rfl)); (conv => whnf)) | (apply bIf.yes; (first | assumption | rfl); (conv => whnf)) | (apply bIf.no; (first | assumption | rfl); (conv => whnf)) | ((with_reducible refine Ob.load (by with_unfolding_all assumption) ?_); (conv => whnf)) | (apply Grows.mk; (first | exact Grow.refl _ | assumption); (conv => whnf)))))
  obtain ⟨y1, y2⟩ := h2
  by_cases hd0 : d = 0
  · have d1 : (d == 0) = true := by simpa using hd0
    (try (conv => whnf)); (repeat ((fail_if_success (with_reducible refine And.intro ?_ ?_)); (fail_if_success (with_reducible refine Exists.intro ?_ ?_)); (first | (apply Ob.of; (first | with_reducible assumption | with_reducible exact ex20 _ _ | with_reducible exact ex21 _ _ | with_reducible exact ex30 _ _ _ | with_reducible exact ex31 _ _ _ | with_reducible exact ex32 _ _ _ | rfl | (exact ald rfl rfl (by assumption) rfl) | (exact ald_agg rfl rfl rfl (by assumption) rfl)); (conv => whnf)) | (apply bIf.yes; (first | assumption | rfl); (conv => whnf)) | (apply bIf.no; (first | assumption | rfl); (conv => whnf)) | ((with_reducible refine Ob.load (by with_unfolding_all assumption) ?_); (conv => whnf)) | (apply Grows.mk; (first | exact Grow.refl _ | assumption); (conv => whnf)))))
    refine (Root_ax f1 id).mono ?_
    rintro _ H2 ⟨rfl, ⟨av2, S2, f2⟩, fr⟩
    (try (conv => whnf)); (repeat ((fail_if_success (with_reducible refine And.intro ?_ ?_)); (fail_if_success (with_reducible refine Exists.intro ?_ ?_)); (first | (apply Ob.of; (first | with_reducible assumption | with_reducible exact ex20 _ _ | with_reducible exact ex21 _ _ | with_reducible exact ex30 _ _ _ | with_reducible exact ex31 _ _ _ | with_reducible exact ex32 _ _ _ | rfl | (exact ald rfl rfl (by assumption) rfl) | (exact ald_agg rfl rfl rfl (by assumption) rfl)); (conv => whnf)) | (apply bIf.yes; (first | assumption | rfl); (conv => whnf)) | (apply bIf.no; (first | assumption | rfl); (conv => whnf)) | ((with_reducible refine Ob.load (by with_unfolding_all assumption) ?_); (conv => whnf)) | (apply Grows.mk; (first | exact Grow.refl _ | assumption); (conv => whnf)))))
    exact ⟨_, _, _, (rootF_ok f1.room id).2.1, f2, (FrF.of g1).trans fr⟩
  · have d1 : (d == 0) = false := by simpa using hd0
    by_cases hd1 : d = 1
    · have d2 : (d == 1) = true := by simpa using hd1
      (try (conv => whnf)); (repeat ((fail_if_success (with_reducible refine And.intro ?_ ?_)); (fail_if_success (with_reducible refine Exists.intro ?_ ?_)); (first | (apply Ob.of; (first | with_reducible assumption | with_reducible exact ex20 _ _ | with_reducible exact ex21 _ _ | with_reducible exact ex30 _ _ _ | with_reducible exact ex31 _ _ _ | with_reducible exact ex32 _ _ _ | rfl | (exact ald rfl rfl (by assumption) rfl) | (exact ald_agg rfl rfl rfl (by assumption) rfl)); (conv => whnf)) | (apply bIf.yes; (first | assumption | rfl); (conv => whnf)) | (apply bIf.no; (first | assumption | rfl); (conv => whnf)) | ((with_reducible refine Ob.load (by with_unfolding_all assumption) ?_); (conv => whnf)) | (apply Grows.mk; (first | exact Grow.refl _ | assumption); (conv => whnf)))))
      refine (Add_ax f1 id y k1).mono ?_
      rintro _ H2 ⟨rfl, ⟨av2, S2, f2⟩, fr⟩
      (try (conv => whnf)); (repeat ((fail_if_success (with_reducible refine And.intro ?_ ?_)); (fail_if_success (with_reducible refine Exists.intro ?_ ?_)); (first | (apply Ob.of; (first | with_reducible assumption | with_reducible exact ex20 _ _ | with_reducible exact ex21 _ _ | with_reducible exact ex30 _ _ _ | with_reducible exact ex31 _ _ _ | with_reducible exact ex32 _ _ _ | rfl | (exact ald rfl rfl (by assumption) rfl) | (exact ald_agg rfl rfl rfl (by assumption) rfl)); (conv => whnf)) | (apply bIf.yes; (first | assumption | rfl); (conv => whnf)) | (apply bIf.no; (first | assumption | rfl); (conv => whnf)) | ((with_reducible refine Ob.load (by with_unfolding_all assumption) ?_); (conv => whnf)) | (apply Grows.mk; (first | exact Grow.refl _ | assumption); (conv => whnf)))))
      exact ⟨_, _, _, (addF_ok f1.room id y).2.1, f2, (FrF.of g1).trans fr⟩
    · have d2 : (d == 1) = false := by simpa using hd1
      (try (conv => whnf)); (repeat ((fail_if_success (with_reducible refine And.intro ?_ ?_)); (fail_if_success (with_reducible refine Exists.intro ?_ ?_)); (first | (apply Ob.of; (first | with_reducible assumption | with_reducible exact ex20 _ _ | with_reducible exact ex21 _ _ | with_reducible exact ex30 _ _ _ | with_reducible exact ex31 _ _ _ | with_reducible exact ex32 _ _ _ | rfl | (exact ald rfl rfl (by assumption) rfl) | (exact ald_agg rfl rfl rfl (by assumption) rfl)); (conv => whnf)) | (apply bIf.yes; (first | assumption | rfl); (conv => whnf)) | (apply bIf.no; (first | assumption | rfl); (conv => whnf)) | ((with_reducible refine Ob.load (by with_unfolding_all assumption) ?_); (conv => whnf)) | (apply Grows.mk; (first | exact Grow.refl _ | assumption); (conv => whnf)))))
      refine (Move_ax f1 id y k1).mono ?_
      rintro _ H2 ⟨rfl, ⟨av2, S2, f2⟩, fr⟩
      (try (conv => whnf)); (repeat ((fail_if_success (with_reducible refine And.intro ?_ ?_)); (fail_if_success (with_reducible refine Exists.intro ?_ ?_)); (first | (apply Ob.of; (first | with_reducible assumption | with_reducible exact ex20 _ _ | with_reducible exact ex21 _ _ | with_reducible exact ex30 _ _ _ | with_reducible exact ex31 _ _ _ | with_reducible exact ex32 _ _ _ | rfl | (exact ald rfl rfl (by assumption) rfl) | (exact ald_agg rfl rfl rfl (by assumption) rfl)); (conv => whnf)) | (apply bIf.yes; (first | assumption | rfl); (conv => whnf)) | (apply bIf.no; (first | assumption | rfl); (conv => whnf)) | ((with_reducible refine Ob.load (by with_unfolding_all assumption) ?_); (conv => whnf)) | (apply Grows.mk; (first | exact Grow.refl _ | assumption); (conv => whnf)))))
      exact ⟨_, _, _, (moveF_ok f1.room id y).2.1, f2, (FrF.of g1).trans fr⟩
end Go.Proofs.Ytmcniodiehfbpaa
/- Package shape's laws: lists of acts; what a forest is. -/
set_option linter.unusedVariables false
set_option linter.unusedSimpArgs false
set_option maxRecDepth 20000
set_option maxHeartbeats 4000000
namespace Go.Proofs.Ytmcniodiehfbpaa
open Go Ax
abbrev actL (a : Act) : List Value := [.int .i64 a.1, .int .i64 a.2.1, .int .i64 a.2.2.1, .bool a.2.2.2]
def ActL (H : Heap) (sv : Value) (L : List Act) : Prop :=
  (sv = .slice none 0 0 ∧ L = []) ∨ ∃ b, sv = .slice (some ⟨b, 0, none⟩) L.length 4 ∧ (L = [] ∨ ∃ c, H[b]? = some (.cells .ro c) ∧ ∀ (i : Nat) x, L[i]? = some x → slotsOf c (i * 4) 4 = some (actL x))
theorem ok3 {n : Int} (h : ty3.ok n) : ok64 n := by
  have h : (Lit.int .i64 n).wf = true := h
  have h := h
  simp [Lit.wf] at h
  exact h
theorem ok5 {n : Int} (h : ty5.ok n) : 0 ≤ n ∧ n ≤ 255 := by
  have h : (Lit.int .u8 n).wf = true := h
  simp [Lit.wf] at h
  exact h
theorem okActs {L : List Act} (h : ty22.ok L) : ∀ (i : Nat) (x : Act), L[i]? = some x → ok64 x.2.1 ∧ ok64 x.2.2.1 := fun i x hx => by
  obtain ⟨_, k2, k3, _⟩ := h.2 x (List.mem_of_getElem? hx)
  exact ⟨ok3 k2, ok3 k3⟩
theorem acts_of {H : Heap} {c0 : List Value} {x0 : List Act} (R : ty22.R H c0 x0) : ∃ sv, arg1 c0 = sv ∧ ActL H sv x0 := by
  rcases R with ⟨rfl, rfl⟩ | ⟨b, rfl, h⟩
  · exact ⟨_, rfl, .inl ⟨rfl, rfl⟩⟩
  · refine ⟨_, rfl, .inr ⟨b, rfl, ?_⟩⟩
    rcases h with h | ⟨c, h1, h2, h3⟩
    · exact .inl h
    · refine .inr ⟨c, h1, fun i x hx => ?_⟩
      have hl := lt_of_get hx
      have k := h3 i x hx
      obtain ⟨k1, k2, k3, k4⟩ := k
      have e : (c.drop (i * 4)).take 4 = actL x := cons_of k1 (cons_of k2 (cons_of k3 k4))
      have hl2 : c.length = x0.length * 4 := h2
      rw [slots_of (by have := Nat.mul_le_mul_right 4 (show i + 1 ≤ x0.length from hl); omega), e]
theorem ActL.len {H : Heap} {sv : Value} {L : List Act} (h : ActL H sv L) (X : Heap) : alen Try.prog 22 sv X = some (.int .i64 L.length) := by
  rcases h with ⟨rfl, rfl⟩ | ⟨b, rfl, _⟩ <;> rfl
theorem ActL.ld {H : Heap} {sv : Value} {L : List Act} (h : ActL H sv L) {i : Nat} {x : Act} (hx : L[i]? = some x) :
    ∃ q, aindexAddr Try.prog 22 sv (.int .i64 (i : Int)) = some q ∧ aload Try.prog 27 q H = some (actV x) := by
  have hl := lt_of_get hx
  rcases h with ⟨rfl, rfl⟩ | ⟨b, rfl, rfl | ⟨c, h1, h2⟩⟩
  · simp at hx
  · simp at hx
  · refine ⟨_, idx_slice (k := 4) rfl rfl (by omega) (by omega), ?_⟩
    exact ald_agg rfl rfl rfl (hblk_of h1) (by rw [Nat.zero_add, Int.toNat_natCast]; exact h2 i x hx)
theorem ActL.frF {H H' : Heap} {fb : Nat} {G : Fo} {most : Nat} {av : Value} {rb : Nat} {S : List SX} (h : FoR H fb G most av rb S) {v : Value} {L : List Act} (o : ActL H v L) (g : FrF fb H H') : ActL H' v L := by
  rcases o with o | ⟨b, h1, h2 | ⟨c, h2, h3⟩⟩
  · exact .inl o
  · exact .inr ⟨b, h1, .inl h2⟩
  · refine .inr ⟨b, h1, .inr ⟨c, g.2 b _ h2 fun e => ?_, h3⟩⟩
    rcases e with e | ⟨c', e⟩ | ⟨es, e⟩
    · rw [e, h.blk] at h2; simp at h2
    · simp at e
    · simp at e
theorem ActL.grow {H H' : Heap} {v : Value} {L : List Act} (o : ActL H v L) (g : Grow H H') : ActL H' v L := by
  rcases o with o | ⟨b, h1, h2 | ⟨c, h2, h3⟩⟩
  · exact .inl o
  · exact .inr ⟨b, h1, .inl h2⟩
  · exact .inr ⟨b, h1, .inr ⟨c, g.at h2, h3⟩⟩
end Go.Proofs.Ytmcniodiehfbpaa
