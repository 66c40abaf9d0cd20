/- Package code and its document: may a program be, and its depths. -/
import Derived.Test.YtdlanbfbbopfhaaJCo2
set_option linter.unusedVariables false
set_option linter.unusedSimpArgs false
set_option maxRecDepth 20000
set_option maxHeartbeats 8000000
namespace Go.Proofs.Ytdlanbfbbopfhaa
open Go Ax
abbrev fnV (f : Nat) : Value := .func (.func f) #[] #[]
theorem chk1_ax (H : Heap) (s : ByteArray) : AX Try.prog 42 #[.string s] H (fun v H' => v = .bool (decide ((s.size : Int) > 256)) ∧ H' = H) := by
  refine AX.body (n := 6) (rs := [.tmp 2]) Try.func42 rfl (by decide) rfl rfl (bC_sound _ _ _ _ ?_)
  (try (conv => whnf)); (repeat ((fail_if_success (with_reducible refine And.intro ?_ ?_)); (fail_if_success (with_reducible refine Exists.intro ?_ ?_)); (first | (apply Ob.of; (first | with_reducible assumption | with_reducible exact ex20 _ _ | with_reducible exact ex21 _ _ | with_reducible exact ex30 _ _ _ | with_reducible exact ex31 _ _ _ | with_reducible exact ex32 _ _ _ | rfl | (exact ald rfl rfl (by assumption) rfl) | (exact ald_agg rfl rfl rfl (by assumption) rfl)); (conv => whnf)) | (apply bIf.yes; (first | assumption | rfl); (conv => whnf)) | (apply bIf.no; (first | assumption | rfl); (conv => whnf)) | ((with_reducible refine Ob.load (by with_unfolding_all assumption) ?_); (conv => whnf)) | (apply Grows.mk; (first | exact Grow.refl _ | assumption); (conv => whnf)))))
  exact ⟨rfl, rfl⟩
theorem indexf_ax {H : Heap} {u : Value} {L : List ByteArray} (hu : RL 1 strR H u L) (hL : L.length < 4294967296) :
    AX Try.prog 60 #[u, fnV 42] H (fun v H' => (∃ i : Int, v = .int .i64 i ∧ (0 ≤ i ↔ ∃ s ∈ L, 256 < s.size)) ∧ H' = H) := by
  refine AX.body (n := 19) (rs := [.tmp 4]) Try.func60 rfl (by decide) rfl rfl (bC_sound _ _ _ _ ?_)
  have l1 : alen Try.prog 22 u H = some (.int .i64 L.length) := hu.len rfl _
  (try (conv => whnf)); (repeat ((fail_if_success (with_reducible refine And.intro ?_ ?_)); (fail_if_success (with_reducible refine Exists.intro ?_ ?_)); (first | (apply Ob.of; (first | with_reducible assumption | with_reducible exact ex20 _ _ | with_reducible exact ex21 _ _ | with_reducible exact ex30 _ _ _ | with_reducible exact ex31 _ _ _ | with_reducible exact ex32 _ _ _ | rfl | (exact ald rfl rfl (by assumption) rfl) | (exact ald_agg rfl rfl rfl (by assumption) rfl)); (conv => whnf)) | (apply bIf.yes; (first | assumption | rfl); (conv => whnf)) | (apply bIf.no; (first | assumption | rfl); (conv => whnf)) | ((with_reducible refine Ob.load (by with_unfolding_all assumption) ?_); (conv => whnf)) | (apply Grows.mk; (first | exact Grow.refl _ | assumption); (conv => whnf)))))
  refine SW.loop (α := Nat) (fun m => [(0, u), (1, fnV 42), (7, .int .i64 L.length), (8, .int .i64 (m : Int))]) (fun m H' => m ≤ L.length ∧ (∀ (i : Nat) s, i < m → L[i]? = some s → s.size ≤ 256) ∧ H' = H) (fun m => L.length - m) ⟨0, ⟨rfl, rfl, rfl, rfl, trivial⟩, by omega, fun i s h => by omega, rfl⟩ ?_
  rintro m X ⟨hm, ht, e⟩
  subst X
  refine bC_sound _ _ _ _ ?_
  by_cases hml : m < L.length
  · have d1 : decide ((m : Int) < (L.length : Int)) = true := decide_eq_true (by omega)
    obtain ⟨x, hx⟩ := get_lt hml
    obtain ⟨p, i1, i2⟩ := ld_str hu hx
    have i3 := i2 H (.refl _)
    (try (conv => whnf)); (repeat ((fail_if_success (with_reducible refine And.intro ?_ ?_)); (fail_if_success (with_reducible refine Exists.intro ?_ ?_)); (first | (apply Ob.of; (first | with_reducible assumption | with_reducible exact ex20 _ _ | with_reducible exact ex21 _ _ | with_reducible exact ex30 _ _ _ | with_reducible exact ex31 _ _ _ | with_reducible exact ex32 _ _ _ | rfl | (exact ald rfl rfl (by assumption) rfl) | (exact ald_agg rfl rfl rfl (by assumption) rfl)); (conv => whnf)) | (apply bIf.yes; (first | assumption | rfl); (conv => whnf)) | (apply bIf.no; (first | assumption | rfl); (conv => whnf)) | ((with_reducible refine Ob.load (by with_unfolding_all assumption) ?_); (conv => whnf)) | (apply Grows.mk; (first | exact Grow.refl _ | assumption); (conv => whnf)))))
    refine (chk1_ax H x).mono ?_
    rintro _ X ⟨rfl, e⟩
    subst X
    (try (conv => whnf)); (repeat' ((fail_if_success (with_reducible refine And.intro ?_ ?_)); (fail_if_success (with_reducible refine Exists.intro ?_ ?_)); (first | (first | (apply Ob.of; (first | with_reducible assumption | with_reducible exact ex20 _ _ | with_reducible exact ex21 _ _ | with_reducible exact ex30 _ _ _ | with_reducible exact ex31 _ _ _ | with_reducible exact ex32 _ _ _ | rfl | (exact ald rfl rfl (by assumption) rfl) | (exact ald_agg rfl rfl rfl (by assumption) rfl)); (conv => whnf)) | (apply bIf.yes; (first | assumption | rfl); (conv => whnf)) | (apply bIf.no; (first | assumption | rfl); (conv => whnf)) | ((with_reducible refine Ob.load (by with_unfolding_all assumption) ?_); (conv => whnf)) | (apply Grows.mk; (first | exact Grow.refl _ | assumption); (conv => whnf))) | (apply bIf.of <;> intro hc <;> (conv => whnf)))))
    · exact ⟨⟨m, rfl, fun _ => ⟨x, List.mem_of_getElem? hx, by (simp only [ba_ne_t, ba_ne_f, ba_eq_t, ba_eq_f, bne_iff_ne, bne_eq_false_iff_eq, decide_eq_true_eq, decide_eq_false_iff_not, beq_iff_eq, beq_eq_false_iff_ne, ne_eq, Bool.not_eq_true, Bool.not_eq_false, Bool.not_eq_true', Bool.not_eq_false'] at *); omega⟩, fun _ => by omega⟩, rfl⟩
    · refine ⟨m + 1, ⟨rfl, rfl, rfl, congrArg (fun z => some (Value.int .i64 z)) (w_succ (by omega)), trivial⟩, ⟨hml, fun i s hi hs => ?_, rfl⟩, by show L.length - (m + 1) < L.length - m; omega⟩
      by_cases him : i = m
      · subst him; rw [hx] at hs; simp only [Option.some.injEq] at hs; subst hs; (simp only [ba_ne_t, ba_ne_f, ba_eq_t, ba_eq_f, bne_iff_ne, bne_eq_false_iff_eq, decide_eq_true_eq, decide_eq_false_iff_not, beq_iff_eq, beq_eq_false_iff_ne, ne_eq, Bool.not_eq_true, Bool.not_eq_false, Bool.not_eq_true', Bool.not_eq_false'] at *); omega
      · exact ht i s (by omega) hs
  · have d1 : decide ((m : Int) < (L.length : Int)) = false := decide_eq_false (by omega)
    (try (conv => whnf)); (repeat ((fail_if_success (with_reducible refine And.intro ?_ ?_)); (fail_if_success (with_reducible refine Exists.intro ?_ ?_)); (first | (apply Ob.of; (first | with_reducible assumption | with_reducible exact ex20 _ _ | with_reducible exact ex21 _ _ | with_reducible exact ex30 _ _ _ | with_reducible exact ex31 _ _ _ | with_reducible exact ex32 _ _ _ | rfl | (exact ald rfl rfl (by assumption) rfl) | (exact ald_agg rfl rfl rfl (by assumption) rfl)); (conv => whnf)) | (apply bIf.yes; (first | assumption | rfl); (conv => whnf)) | (apply bIf.no; (first | assumption | rfl); (conv => whnf)) | ((with_reducible refine Ob.load (by with_unfolding_all assumption) ?_); (conv => whnf)) | (apply Grows.mk; (first | exact Grow.refl _ | assumption); (conv => whnf)))))
    refine ⟨⟨-1, rfl, fun h => by omega, fun ⟨s, hs, h⟩ => ?_⟩, rfl⟩
    obtain ⟨i, hi, rfl⟩ := List.getElem_of_mem hs
    have := ht i L[i] (by omega) (List.getElem?_eq_getElem hi)
    omega
theorem containsf_ax {H : Heap} {u : Value} {L : List ByteArray} (hu : RL 1 strR H u L) (hL : L.length < 4294967296) :
    AX Try.prog 41 #[u, fnV 42] H (fun v H' => (∃ b, v = .bool b ∧ (b = true ↔ ∃ s ∈ L, 256 < s.size)) ∧ H' = H) := by
  refine AX.body (n := 9) (rs := [.tmp 4]) Try.func41 rfl (by decide) rfl rfl (bC_sound _ _ _ _ ?_)
  (try (conv => whnf)); (repeat ((fail_if_success (with_reducible refine And.intro ?_ ?_)); (fail_if_success (with_reducible refine Exists.intro ?_ ?_)); (first | (apply Ob.of; (first | with_reducible assumption | with_reducible exact ex20 _ _ | with_reducible exact ex21 _ _ | with_reducible exact ex30 _ _ _ | with_reducible exact ex31 _ _ _ | with_reducible exact ex32 _ _ _ | rfl | (exact ald rfl rfl (by assumption) rfl) | (exact ald_agg rfl rfl rfl (by assumption) rfl)); (conv => whnf)) | (apply bIf.yes; (first | assumption | rfl); (conv => whnf)) | (apply bIf.no; (first | assumption | rfl); (conv => whnf)) | ((with_reducible refine Ob.load (by with_unfolding_all assumption) ?_); (conv => whnf)) | (apply Grows.mk; (first | exact Grow.refl _ | assumption); (conv => whnf)))))
  refine (indexf_ax hu hL).mono ?_
  rintro _ X ⟨⟨i, rfl, hi⟩, e⟩
  subst X
  (try (conv => whnf)); (repeat ((fail_if_success (with_reducible refine And.intro ?_ ?_)); (fail_if_success (with_reducible refine Exists.intro ?_ ?_)); (first | (apply Ob.of; (first | with_reducible assumption | with_reducible exact ex20 _ _ | with_reducible exact ex21 _ _ | with_reducible exact ex30 _ _ _ | with_reducible exact ex31 _ _ _ | with_reducible exact ex32 _ _ _ | rfl | (exact ald rfl rfl (by assumption) rfl) | (exact ald_agg rfl rfl rfl (by assumption) rfl)); (conv => whnf)) | (apply bIf.yes; (first | assumption | rfl); (conv => whnf)) | (apply bIf.no; (first | assumption | rfl); (conv => whnf)) | ((with_reducible refine Ob.load (by with_unfolding_all assumption) ?_); (conv => whnf)) | (apply Grows.mk; (first | exact Grow.refl _ | assumption); (conv => whnf)))))
  exact ⟨⟨_, rfl, by rw [decide_eq_true_eq]; exact hi⟩, rfl⟩
def CheckP (p : ProgT) : Prop := 0 ≤ p.1 ∧ p.1 ≤ 24 ∧ 1 ≤ p.2.2.length ∧ p.2.2.length ≤ 32 ∧ p.2.1.length ≤ 120 ∧ (∀ s ∈ p.2.1, s.size ≤ 256) ∧ ∀ (f : Nat) c, p.2.2[f]? = some c → RightP p f c
def ChkV (p : ProgT) (v : Value) : Prop := (v = .int .i64 0 ∧ CheckP p) ∨ (v = .int .i64 16 ∧ ¬ CheckP p)
theorem ChkV.plain {p : ProgT} {v : Value} (h : ChkV p v) : plain v := by rcases h with ⟨rfl, _⟩ | ⟨rfl, _⟩ <;> exact plain_int _ _
theorem check_ax {H : Heap} {p : ProgT} {ps cs : Value} (hp : RL 1 strR H ps p.2.1) (hcs : RL 5 codeR H cs p.2.2) (hL : p.2.1.length < 4294967296) :
    AX Try.prog 26 #[progV p ps cs] H (fun v H' => ChkV p v ∧ H' = H) := by
  refine AX.quiet ?_
  suffices hh : AX Try.prog 26 #[progV p ps cs] H (fun v H' => ChkV p v ∧ Grow H H') from hh.mono fun v _ ⟨e, g⟩ => ⟨e.plain, e, g⟩
  refine AX.body (n := 46) (rs := [.tmp 2]) Try.func26 rfl (by decide) rfl rfl (bC_sound _ _ _ _ ?_)
  (conv => whnf)
  refine Ob2.box rfl fun q1 H1 hq1 a1 g1 => ?_
  have b1 := hblk_of a1
  have l1 : alen Try.prog 22 ps H1 = some (.int .i64 p.2.1.length) := hp.len rfl _
  have l2 : alen Try.prog 23 cs H1 = some (.int .i64 p.2.2.length) := hcs.len rfl _
  clear a1
  (try (conv => whnf)); (repeat' ((fail_if_success (with_reducible refine And.intro ?_ ?_)); (fail_if_success (with_reducible refine Exists.intro ?_ ?_)); (first | (first | (apply Ob.of; (first | with_reducible assumption | with_reducible exact ex20 _ _ | with_reducible exact ex21 _ _ | with_reducible exact ex30 _ _ _ | with_reducible exact ex31 _ _ _ | with_reducible exact ex32 _ _ _ | rfl | (exact ald rfl rfl (by assumption) rfl) | (exact ald_agg rfl rfl rfl (by assumption) rfl)); (conv => whnf)) | (apply bIf.yes; (first | assumption | rfl); (conv => whnf)) | (apply bIf.no; (first | assumption | rfl); (conv => whnf)) | ((with_reducible refine Ob.load (by with_unfolding_all assumption) ?_); (conv => whnf)) | (apply Grows.mk; (first | exact Grow.refl _ | assumption); (conv => whnf))) | (apply bIf.of <;> intro hc <;> (conv => whnf)))))
  rotate_right
  all_goals first
    | (refine ⟨.inr ⟨rfl, fun h => ?_⟩, g1⟩
       obtain ⟨h1, h2, h3, h4, h5, h6, h7⟩ := h
       clear l1 l2 b1 hp hcs h6 h7
       (simp only [ba_ne_t, ba_ne_f, ba_eq_t, ba_eq_f, bne_iff_ne, bne_eq_false_iff_eq, decide_eq_true_eq, decide_eq_false_iff_not, beq_iff_eq, beq_eq_false_iff_ne, ne_eq, Bool.not_eq_true, Bool.not_eq_false, Bool.not_eq_true', Bool.not_eq_false'] at *)
       omega)
    | skip
  have hbs : 0 ≤ p.1 ∧ p.1 ≤ 24 ∧ 1 ≤ p.2.2.length ∧ p.2.2.length ≤ 32 ∧ p.2.1.length ≤ 120 := by
    clear l1 l2 b1 hp hcs
    (simp only [ba_ne_t, ba_ne_f, ba_eq_t, ba_eq_f, bne_iff_ne, bne_eq_false_iff_eq, decide_eq_true_eq, decide_eq_false_iff_not, beq_iff_eq, beq_eq_false_iff_ne, ne_eq, Bool.not_eq_true, Bool.not_eq_false, Bool.not_eq_true', Bool.not_eq_false'] at *)
    omega
  refine (containsf_ax (strR.grow hp g1) hL).mono ?_
  rintro _ X ⟨⟨bb, rfl, hb⟩, e⟩
  subst X
  cases bb with
  | true =>
    (try (conv => whnf)); (repeat ((fail_if_success (with_reducible refine And.intro ?_ ?_)); (fail_if_success (with_reducible refine Exists.intro ?_ ?_)); (first | (apply Ob.of; (first | with_reducible assumption | with_reducible exact ex20 _ _ | with_reducible exact ex21 _ _ | with_reducible exact ex30 _ _ _ | with_reducible exact ex31 _ _ _ | with_reducible exact ex32 _ _ _ | rfl | (exact ald rfl rfl (by assumption) rfl) | (exact ald_agg rfl rfl rfl (by assumption) rfl)); (conv => whnf)) | (apply bIf.yes; (first | assumption | rfl); (conv => whnf)) | (apply bIf.no; (first | assumption | rfl); (conv => whnf)) | ((with_reducible refine Ob.load (by with_unfolding_all assumption) ?_); (conv => whnf)) | (apply Grows.mk; (first | exact Grow.refl _ | assumption); (conv => whnf)))))
    obtain ⟨s, hs, h⟩ := hb.1 rfl
    exact ⟨.inr ⟨rfl, fun h' => by have := h'.2.2.2.2.2.1 s hs; omega⟩, g1⟩
  | false =>
    have hst : ∀ s ∈ p.2.1, s.size ≤ 256 := fun s hs => by
      by_cases h : 256 < s.size
      · have := hb.2 ⟨s, hs, h⟩; simp at this
      · omega
    (try (conv => whnf)); (repeat ((fail_if_success (with_reducible refine And.intro ?_ ?_)); (fail_if_success (with_reducible refine Exists.intro ?_ ?_)); (first | (apply Ob.of; (first | with_reducible assumption | with_reducible exact ex20 _ _ | with_reducible exact ex21 _ _ | with_reducible exact ex30 _ _ _ | with_reducible exact ex31 _ _ _ | with_reducible exact ex32 _ _ _ | rfl | (exact ald rfl rfl (by assumption) rfl) | (exact ald_agg rfl rfl rfl (by assumption) rfl)); (conv => whnf)) | (apply bIf.yes; (first | assumption | rfl); (conv => whnf)) | (apply bIf.no; (first | assumption | rfl); (conv => whnf)) | ((with_reducible refine Ob.load (by with_unfolding_all assumption) ?_); (conv => whnf)) | (apply Grows.mk; (first | exact Grow.refl _ | assumption); (conv => whnf)))))
    refine SW.loop (α := Nat) (fun m => [(1, .pointer (some ⟨q1, 0, none⟩)), (37, .int .i64 (p.2.2.length : Int)), (38, .int .i64 (m : Int))]) (fun m H' => m ≤ p.2.2.length ∧ (∀ (f : Nat) c, f < m → p.2.2[f]? = some c → RightP p f c) ∧ H' = H1) (fun m => p.2.2.length - m) ⟨0, ⟨rfl, rfl, rfl, trivial⟩, by omega, fun i x hi => by omega, rfl⟩ ?_
    rintro m X ⟨hm, ht, e⟩
    subst X
    refine bC_sound _ _ _ _ ?_
    by_cases hml : m < p.2.2.length
    · have d1 : decide ((m : Int) < (p.2.2.length : Int)) = true := decide_eq_true (by omega)
      obtain ⟨x, hx⟩ := get_lt hml
      (try (conv => whnf)); (repeat ((fail_if_success (with_reducible refine And.intro ?_ ?_)); (fail_if_success (with_reducible refine Exists.intro ?_ ?_)); (first | (apply Ob.of; (first | with_reducible assumption | with_reducible exact ex20 _ _ | with_reducible exact ex21 _ _ | with_reducible exact ex30 _ _ _ | with_reducible exact ex31 _ _ _ | with_reducible exact ex32 _ _ _ | rfl | (exact ald rfl rfl (by assumption) rfl) | (exact ald_agg rfl rfl rfl (by assumption) rfl)); (conv => whnf)) | (apply bIf.yes; (first | assumption | rfl); (conv => whnf)) | (apply bIf.no; (first | assumption | rfl); (conv => whnf)) | ((with_reducible refine Ob.load (by with_unfolding_all assumption) ?_); (conv => whnf)) | (apply Grows.mk; (first | exact Grow.refl _ | assumption); (conv => whnf)))))
      refine (right_ax (strR.grow hp g1) (codeR.grow hcs g1) hx).mono ?_
      rintro _ X ⟨⟨b, rfl, hb⟩, e⟩
      subst X
      cases b with
      | true =>
        (try (conv => whnf)); (repeat ((fail_if_success (with_reducible refine And.intro ?_ ?_)); (fail_if_success (with_reducible refine Exists.intro ?_ ?_)); (first | (apply Ob.of; (first | with_reducible assumption | with_reducible exact ex20 _ _ | with_reducible exact ex21 _ _ | with_reducible exact ex30 _ _ _ | with_reducible exact ex31 _ _ _ | with_reducible exact ex32 _ _ _ | rfl | (exact ald rfl rfl (by assumption) rfl) | (exact ald_agg rfl rfl rfl (by assumption) rfl)); (conv => whnf)) | (apply bIf.yes; (first | assumption | rfl); (conv => whnf)) | (apply bIf.no; (first | assumption | rfl); (conv => whnf)) | ((with_reducible refine Ob.load (by with_unfolding_all assumption) ?_); (conv => whnf)) | (apply Grows.mk; (first | exact Grow.refl _ | assumption); (conv => whnf)))))
        refine ⟨m + 1, ⟨rfl, rfl, congrArg (fun z => some (Value.int .i64 z)) (w_succ (by omega)), trivial⟩, ⟨hml, fun f c hf hcc => ?_, rfl⟩, by show _ - (m + 1) < _ - m; omega⟩
        by_cases hfm : f = m
        · subst hfm; rw [hx] at hcc; simp only [Option.some.injEq] at hcc; subst hcc; exact hb.1 rfl
        · exact ht f c (by omega) hcc
      | false =>
        (try (conv => whnf)); (repeat ((fail_if_success (with_reducible refine And.intro ?_ ?_)); (fail_if_success (with_reducible refine Exists.intro ?_ ?_)); (first | (apply Ob.of; (first | with_reducible assumption | with_reducible exact ex20 _ _ | with_reducible exact ex21 _ _ | with_reducible exact ex30 _ _ _ | with_reducible exact ex31 _ _ _ | with_reducible exact ex32 _ _ _ | rfl | (exact ald rfl rfl (by assumption) rfl) | (exact ald_agg rfl rfl rfl (by assumption) rfl)); (conv => whnf)) | (apply bIf.yes; (first | assumption | rfl); (conv => whnf)) | (apply bIf.no; (first | assumption | rfl); (conv => whnf)) | ((with_reducible refine Ob.load (by with_unfolding_all assumption) ?_); (conv => whnf)) | (apply Grows.mk; (first | exact Grow.refl _ | assumption); (conv => whnf)))))
        exact ⟨.inr ⟨rfl, fun h => by have := hb.2 (h.2.2.2.2.2.2 m x hx); simp at this⟩, g1⟩
    · have d1 : decide ((m : Int) < (p.2.2.length : Int)) = false := decide_eq_false (by omega)
      (try (conv => whnf)); (repeat ((fail_if_success (with_reducible refine And.intro ?_ ?_)); (fail_if_success (with_reducible refine Exists.intro ?_ ?_)); (first | (apply Ob.of; (first | with_reducible assumption | with_reducible exact ex20 _ _ | with_reducible exact ex21 _ _ | with_reducible exact ex30 _ _ _ | with_reducible exact ex31 _ _ _ | with_reducible exact ex32 _ _ _ | rfl | (exact ald rfl rfl (by assumption) rfl) | (exact ald_agg rfl rfl rfl (by assumption) rfl)); (conv => whnf)) | (apply bIf.yes; (first | assumption | rfl); (conv => whnf)) | (apply bIf.no; (first | assumption | rfl); (conv => whnf)) | ((with_reducible refine Ob.load (by with_unfolding_all assumption) ?_); (conv => whnf)) | (apply Grows.mk; (first | exact Grow.refl _ | assumption); (conv => whnf)))))
      exact ⟨.inl ⟨rfl, hbs.1, hbs.2.1, hbs.2.2.1, hbs.2.2.2.1, hbs.2.2.2.2, hst, fun f c hf => ht f c (by have := lt_of_get hf; omega) hf⟩, g1⟩
theorem rcheck_ax {H : Heap} {p : ProgT} {ps cs : Value} (hp : RL 1 strR H ps p.2.1) (hcs : RL 5 codeR H cs p.2.2) (hL : p.2.1.length < 4294967296) :
    AX Try.prog 12 #[progV p ps cs] H (fun v H' => ChkV p v ∧ H' = H) := by
  refine AX.quiet ?_
  suffices hh : AX Try.prog 12 #[progV p ps cs] H (fun v H' => ChkV p v ∧ Grow H H') from hh.mono fun v _ ⟨e, g⟩ => ⟨e.plain, e, g⟩
  refine AX.body (n := 56) (rs := [.tmp 2]) Try.func12 rfl (by decide) rfl rfl (bC_sound _ _ _ _ ?_)
  (conv => whnf)
  refine Ob2.box rfl fun q1 H1 hq1 a1 g1 => ?_
  have b1 := hblk_of a1
  have l1 : alen Try.prog 22 ps H1 = some (.int .i64 p.2.1.length) := hp.len rfl _
  have l2 : alen Try.prog 23 cs H1 = some (.int .i64 p.2.2.length) := hcs.len rfl _
  clear a1
  (try (conv => whnf)); (repeat' ((fail_if_success (with_reducible refine And.intro ?_ ?_)); (fail_if_success (with_reducible refine Exists.intro ?_ ?_)); (first | (first | (apply Ob.of; (first | with_reducible assumption | with_reducible exact ex20 _ _ | with_reducible exact ex21 _ _ | with_reducible exact ex30 _ _ _ | with_reducible exact ex31 _ _ _ | with_reducible exact ex32 _ _ _ | rfl | (exact ald rfl rfl (by assumption) rfl) | (exact ald_agg rfl rfl rfl (by assumption) rfl)); (conv => whnf)) | (apply bIf.yes; (first | assumption | rfl); (conv => whnf)) | (apply bIf.no; (first | assumption | rfl); (conv => whnf)) | ((with_reducible refine Ob.load (by with_unfolding_all assumption) ?_); (conv => whnf)) | (apply Grows.mk; (first | exact Grow.refl _ | assumption); (conv => whnf))) | (apply bIf.of <;> intro hc <;> (conv => whnf)))))
  rotate_right
  all_goals first
    | (refine ⟨.inr ⟨rfl, fun h => ?_⟩, g1⟩
       obtain ⟨h1, h2, h3, h4, h5, h6, h7⟩ := h
       clear l1 l2 b1 hp hcs h6 h7
       (simp only [ba_ne_t, ba_ne_f, ba_eq_t, ba_eq_f, bne_iff_ne, bne_eq_false_iff_eq, decide_eq_true_eq, decide_eq_false_iff_not, beq_iff_eq, beq_eq_false_iff_ne, ne_eq, Bool.not_eq_true, Bool.not_eq_false, Bool.not_eq_true', Bool.not_eq_false'] at *)
       omega)
    | skip
  have hbs : 0 ≤ p.1 ∧ p.1 ≤ 24 ∧ 1 ≤ p.2.2.length ∧ p.2.2.length ≤ 32 ∧ p.2.1.length ≤ 120 := by
    clear l1 l2 b1 hp hcs
    (simp only [ba_ne_t, ba_ne_f, ba_eq_t, ba_eq_f, bne_iff_ne, bne_eq_false_iff_eq, decide_eq_true_eq, decide_eq_false_iff_not, beq_iff_eq, beq_eq_false_iff_ne, ne_eq, Bool.not_eq_true, Bool.not_eq_false, Bool.not_eq_true', Bool.not_eq_false'] at *)
    omega
  clear hc
  refine SW.loop (α := Nat) (fun m => [(1, .pointer (some ⟨q1, 0, none⟩)), (3, .int .i64 (m : Int))]) (fun m H' => m ≤ p.2.1.length ∧ (∀ (i : Nat) s, i < m → p.2.1[i]? = some s → s.size ≤ 256) ∧ H' = H1) (fun m => p.2.1.length - m) ⟨0, ⟨rfl, rfl, trivial⟩, by omega, fun i x hi => by omega, rfl⟩ ?_
  rintro m X ⟨hm, ht, e⟩
  subst X
  refine bC_sound _ _ _ _ ?_
  by_cases hml : m < p.2.1.length
  · have d1 : decide ((m : Int) < (p.2.1.length : Int)) = true := decide_eq_true (by omega)
    obtain ⟨x, hx⟩ := get_lt hml
    obtain ⟨u, i1, i2⟩ := ld_str hp hx
    have i3 := i2 H1 g1
    (try (conv => whnf)); (repeat' ((fail_if_success (with_reducible refine And.intro ?_ ?_)); (fail_if_success (with_reducible refine Exists.intro ?_ ?_)); (first | (first | (apply Ob.of; (first | with_reducible assumption | with_reducible exact ex20 _ _ | with_reducible exact ex21 _ _ | with_reducible exact ex30 _ _ _ | with_reducible exact ex31 _ _ _ | with_reducible exact ex32 _ _ _ | rfl | (exact ald rfl rfl (by assumption) rfl) | (exact ald_agg rfl rfl rfl (by assumption) rfl)); (conv => whnf)) | (apply bIf.yes; (first | assumption | rfl); (conv => whnf)) | (apply bIf.no; (first | assumption | rfl); (conv => whnf)) | ((with_reducible refine Ob.load (by with_unfolding_all assumption) ?_); (conv => whnf)) | (apply Grows.mk; (first | exact Grow.refl _ | assumption); (conv => whnf))) | (apply bIf.of <;> intro hc <;> (conv => whnf)))))
    · exact ⟨.inr ⟨rfl, fun h => by have := h.2.2.2.2.2.1 x (List.mem_of_getElem? hx); (simp only [ba_ne_t, ba_ne_f, ba_eq_t, ba_eq_f, bne_iff_ne, bne_eq_false_iff_eq, decide_eq_true_eq, decide_eq_false_iff_not, beq_iff_eq, beq_eq_false_iff_ne, ne_eq, Bool.not_eq_true, Bool.not_eq_false, Bool.not_eq_true', Bool.not_eq_false'] at *); omega⟩, g1⟩
    · refine ⟨m + 1, ⟨rfl, congrArg (fun z => some (Value.int .i64 z)) (w_succ (by omega)), trivial⟩, ⟨hml, fun i s hi hs => ?_, rfl⟩, by show _ - (m + 1) < _ - m; omega⟩
      by_cases him : i = m
      · subst him; rw [hx] at hs; simp only [Option.some.injEq] at hs; subst hs; clear ht l1 l2; (simp only [ba_ne_t, ba_ne_f, ba_eq_t, ba_eq_f, bne_iff_ne, bne_eq_false_iff_eq, decide_eq_true_eq, decide_eq_false_iff_not, beq_iff_eq, beq_eq_false_iff_ne, ne_eq, Bool.not_eq_true, Bool.not_eq_false, Bool.not_eq_true', Bool.not_eq_false'] at *); omega
      · exact ht i s (by omega) hs
  have d1 : decide ((m : Int) < (p.2.1.length : Int)) = false := decide_eq_false (by omega)
  have hst : ∀ s ∈ p.2.1, s.size ≤ 256 := fun s hs => by
    obtain ⟨i, hi, rfl⟩ := List.getElem_of_mem hs
    exact ht i _ (by omega) (List.getElem?_eq_getElem hi)
  clear hml ht
  (try (conv => whnf)); (repeat ((fail_if_success (with_reducible refine And.intro ?_ ?_)); (fail_if_success (with_reducible refine Exists.intro ?_ ?_)); (first | (apply Ob.of; (first | with_reducible assumption | with_reducible exact ex20 _ _ | with_reducible exact ex21 _ _ | with_reducible exact ex30 _ _ _ | with_reducible exact ex31 _ _ _ | with_reducible exact ex32 _ _ _ | rfl | (exact ald rfl rfl (by assumption) rfl) | (exact ald_agg rfl rfl rfl (by assumption) rfl)); (conv => whnf)) | (apply bIf.yes; (first | assumption | rfl); (conv => whnf)) | (apply bIf.no; (first | assumption | rfl); (conv => whnf)) | ((with_reducible refine Ob.load (by with_unfolding_all assumption) ?_); (conv => whnf)) | (apply Grows.mk; (first | exact Grow.refl _ | assumption); (conv => whnf)))))
  refine SW.loop (α := Nat) (fun m => [(1, .pointer (some ⟨q1, 0, none⟩)), (4, .int .i64 (m : Int))]) (fun m H' => m ≤ p.2.2.length ∧ (∀ (f : Nat) c, f < m → p.2.2[f]? = some c → RightP p f c) ∧ H' = H1) (fun m => p.2.2.length - m) ⟨0, ⟨rfl, rfl, trivial⟩, by omega, fun i x hi => by omega, rfl⟩ ?_
  clear d1 hm m
  rintro m X ⟨hm, ht, e⟩
  subst X
  refine bC_sound _ _ _ _ ?_
  by_cases hml : m < p.2.2.length
  · have d1 : decide ((m : Int) < (p.2.2.length : Int)) = true := decide_eq_true (by omega)
    obtain ⟨x, hx⟩ := get_lt hml
    (try (conv => whnf)); (repeat ((fail_if_success (with_reducible refine And.intro ?_ ?_)); (fail_if_success (with_reducible refine Exists.intro ?_ ?_)); (first | (apply Ob.of; (first | with_reducible assumption | with_reducible exact ex20 _ _ | with_reducible exact ex21 _ _ | with_reducible exact ex30 _ _ _ | with_reducible exact ex31 _ _ _ | with_reducible exact ex32 _ _ _ | rfl | (exact ald rfl rfl (by assumption) rfl) | (exact ald_agg rfl rfl rfl (by assumption) rfl)); (conv => whnf)) | (apply bIf.yes; (first | assumption | rfl); (conv => whnf)) | (apply bIf.no; (first | assumption | rfl); (conv => whnf)) | ((with_reducible refine Ob.load (by with_unfolding_all assumption) ?_); (conv => whnf)) | (apply Grows.mk; (first | exact Grow.refl _ | assumption); (conv => whnf)))))
    refine (rright_ax (strR.grow hp g1) (codeR.grow hcs g1) hx hL (by omega) ⟨hbs.1, hbs.2.1⟩).mono ?_
    rintro _ X ⟨⟨b, rfl, hb⟩, e⟩
    subst X
    cases b with
    | true =>
      (try (conv => whnf)); (repeat ((fail_if_success (with_reducible refine And.intro ?_ ?_)); (fail_if_success (with_reducible refine Exists.intro ?_ ?_)); (first | (apply Ob.of; (first | with_reducible assumption | with_reducible exact ex20 _ _ | with_reducible exact ex21 _ _ | with_reducible exact ex30 _ _ _ | with_reducible exact ex31 _ _ _ | with_reducible exact ex32 _ _ _ | rfl | (exact ald rfl rfl (by assumption) rfl) | (exact ald_agg rfl rfl rfl (by assumption) rfl)); (conv => whnf)) | (apply bIf.yes; (first | assumption | rfl); (conv => whnf)) | (apply bIf.no; (first | assumption | rfl); (conv => whnf)) | ((with_reducible refine Ob.load (by with_unfolding_all assumption) ?_); (conv => whnf)) | (apply Grows.mk; (first | exact Grow.refl _ | assumption); (conv => whnf)))))
      refine ⟨m + 1, ⟨rfl, congrArg (fun z => some (Value.int .i64 z)) (w_succ (by omega)), trivial⟩, ⟨hml, fun f c hf hcc => ?_, rfl⟩, by show _ - (m + 1) < _ - m; omega⟩
      by_cases hfm : f = m
      · subst hfm; rw [hx] at hcc; simp only [Option.some.injEq] at hcc; subst hcc; exact hb.1 rfl
      · exact ht f c (by omega) hcc
    | false =>
      (try (conv => whnf)); (repeat ((fail_if_success (with_reducible refine And.intro ?_ ?_)); (fail_if_success (with_reducible refine Exists.intro ?_ ?_)); (first | (apply Ob.of; (first | with_reducible assumption | with_reducible exact ex20 _ _ | with_reducible exact ex21 _ _ | with_reducible exact ex30 _ _ _ | with_reducible exact ex31 _ _ _ | with_reducible exact ex32 _ _ _ | rfl | (exact ald rfl rfl (by assumption) rfl) | (exact ald_agg rfl rfl rfl (by assumption) rfl)); (conv => whnf)) | (apply bIf.yes; (first | assumption | rfl); (conv => whnf)) | (apply bIf.no; (first | assumption | rfl); (conv => whnf)) | ((with_reducible refine Ob.load (by with_unfolding_all assumption) ?_); (conv => whnf)) | (apply Grows.mk; (first | exact Grow.refl _ | assumption); (conv => whnf)))))
      exact ⟨.inr ⟨rfl, fun h => by have := hb.2 (h.2.2.2.2.2.2 m x hx); simp at this⟩, g1⟩
  · have d1 : decide ((m : Int) < (p.2.2.length : Int)) = false := decide_eq_false (by omega)
    (try (conv => whnf)); (repeat ((fail_if_success (with_reducible refine And.intro ?_ ?_)); (fail_if_success (with_reducible refine Exists.intro ?_ ?_)); (first | (apply Ob.of; (first | with_reducible assumption | with_reducible exact ex20 _ _ | with_reducible exact ex21 _ _ | with_reducible exact ex30 _ _ _ | with_reducible exact ex31 _ _ _ | with_reducible exact ex32 _ _ _ | rfl | (exact ald rfl rfl (by assumption) rfl) | (exact ald_agg rfl rfl rfl (by assumption) rfl)); (conv => whnf)) | (apply bIf.yes; (first | assumption | rfl); (conv => whnf)) | (apply bIf.no; (first | assumption | rfl); (conv => whnf)) | ((with_reducible refine Ob.load (by with_unfolding_all assumption) ?_); (conv => whnf)) | (apply Grows.mk; (first | exact Grow.refl _ | assumption); (conv => whnf)))))
    exact ⟨.inl ⟨rfl, hbs.1, hbs.2.1, hbs.2.2.1, hbs.2.2.2.1, hbs.2.2.2.2, hst, fun f c hf => ht f c (by have := lt_of_get hf; omega) hf⟩, g1⟩
end Go.Proofs.Ytdlanbfbbopfhaa
/- The statements of package code: lists of numbers compared, and the two small programs. -/
set_option linter.unusedVariables false
set_option linter.unusedSimpArgs false
set_option maxRecDepth 20000
set_option maxHeartbeats 8000000
namespace Go.Proofs.Ytdlanbfbbopfhaa
open Go Ax
theorem ld_int {H : Heap} {sv : Value} {L : List Int} (h : RL 1 intR H sv L) {i : Nat} {x : Int} (hx : L[i]? = some x) :
    ∃ q, aindexAddr Try.prog 36 sv (.int .i64 (i : Int)) = some q ∧ ∀ H', Grow H H' → aload Try.prog 3 q H' = some (.int .i64 x) :=
  h.ld1 (fun _ _ _ h => h) rfl rfl rfl rfl hx
def c1 : CodeT := (0, 0, 0, 1, [(2, 0, 0), (32, 0, 0)])
def c2 : CodeT := (0, 0, 0, 1, [(31, 0, 0), (2, 0, 0), (32, 0, 0)])
def p1 : ProgT := (0, [], [c1])
def p2 : ProgT := (0, [], [c2])
theorem p1_ok : CheckP p1 := by
  refine ⟨by decide, by decide, by decide, by decide, by decide, fun s hs => by simp [p1] at hs, fun f c hc => ?_⟩
  have : f = 0 ∧ c = c1 := by
    cases f with
    | zero => simp [p1] at hc; exact ⟨rfl, hc.symm⟩
    | succ f => simp [p1] at hc
  obtain ⟨rfl, rfl⟩ := this
  have key : ∀ (i : Nat) (x : Ins), c1.ins[i]? = some x → i = 0 ∧ x = (2, 0, 0) ∨ i = 1 ∧ x = (32, 0, 0) := by
    intro i x hx
    match i, hx with
    | 0, hx => simp [c1, CodeT.ins] at hx; exact .inl ⟨rfl, hx.symm⟩
    | 1, hx => simp [c1, CodeT.ins] at hx; exact .inr ⟨rfl, hx.symm⟩
    | i + 2, hx => simp [c1, CodeT.ins] at hx
  refine ⟨by unfold Lim; simp [c1, CodeT.ins], fun i x hi hx => ?_, [0, 1], ⟨rfl, rfl, fun i d hd => ?_⟩, fun i d x hd h0 hx => ?_⟩
  · rcases key i x hx with ⟨rfl, rfl⟩ | ⟨rfl, rfl⟩ <;> decide
  · match i, hd with
    | 0, hd => simp at hd; subst hd; exact .inr ⟨by decide, .start⟩
    | 1, hd =>
      simp at hd; subst hd
      have := Reach.step (c := c1) (i := 0) (d := 0) (x := (2, 0, 0)) (k := 0) (t := 1) .start rfl (by decide) (by decide) (by decide) (by decide) (by decide)
      exact .inr ⟨by decide, this⟩
    | i + 2, hd => simp at hd
  · rcases key i x hx with ⟨rfl, rfl⟩ | ⟨rfl, rfl⟩
    · simp at hd
      subst hd
      refine ⟨by decide, by decide, fun k t ht => ?_⟩
      match k, ht with
      | 0, ht =>
        have : t = 1 := by have h : (tgt c1.ins ((0 : Nat) : Int))[0]? = some 1 := by decide
                           rw [h] at ht; simpa using ht.symm
        subst this
        decide
      | k + 1, ht =>
        have h : (tgt c1.ins ((0 : Nat) : Int)).length = 1 := by decide
        rw [List.getElem?_eq_none (by omega)] at ht
        simp at ht
    · simp at hd
      subst hd
      refine ⟨by decide, by decide, fun k t ht => ?_⟩
      have h : (tgt c1.ins ((1 : Nat) : Int)).length = 0 := by decide
      rw [List.getElem?_eq_none (by omega)] at ht
      simp at ht
theorem p2_no : ¬ CheckP p2 := fun h => by
  obtain ⟨L, hL⟩ := (h.2.2.2.2.2.2 0 c2 rfl).2.2
  exact hL.good (.inl ⟨0, 0, (31, 0, 0), .start, rfl, .inl (by decide)⟩)
end Go.Proofs.Ytdlanbfbbopfhaa
/- The statements of package code: few instructions, and the depths of a program's code. -/
set_option linter.unusedVariables false
set_option linter.unusedSimpArgs false
set_option maxRecDepth 20000
set_option maxHeartbeats 8000000
namespace Go.Proofs.Ytdlanbfbbopfhaa
open Go Ax
theorem slots_get {c l : List Value} {o n j : Nat} {v : Value} (h : slotsOf c o n = some l) (hv : l[j]? = some v) : c[o + j]? = some v := by
  unfold slotsOf at h
  split at h
  · simp only [Option.some.injEq] at h
    subst h
    rw [List.getElem?_take] at hv
    split at hv
    · rwa [List.getElem?_drop] at hv
    · simp at hv
  · simp at h
theorem ld_codeF {H : Heap} {sv : Value} {L : List CodeT} (h : RL 5 codeR H sv L) {i : Nat} {x : CodeT} (hx : L[i]? = some x) :
    ∃ b u, aindexAddr Try.prog 23 sv (.int .i64 (i : Int)) = some (.pointer (some ⟨b, i * 5, none⟩)) ∧ RL 3 insR H u x.ins ∧ ∀ H', Grow H H' → aload Try.prog 47 (.pointer (some ⟨b, i * 5 + 4, none⟩)) H' = some u := by
  obtain ⟨b, c, l, h1, h2, h3, u, rfl, h4⟩ := h.at (P := Try.prog) (t := 23) (e := 49) rfl rfl hx
  exact ⟨b, u, h1, h4, fun H' g => ald rfl rfl (g.hblk h2) (slots_get (j := 4) h3 rfl)⟩
def FewP (p : ProgT) : Prop := p.2.2.length ≤ 40 ∧ p.2.1.length ≤ 130 ∧ ∀ c ∈ p.2.2, c.ins.length ≤ 400
theorem FewP.small {p : ProgT} (h : FewP p) : Small p := ⟨by have := h.2.1; omega, by have := h.1; omega, fun c hc => by have := h.2.2 c hc; omega⟩
theorem fewN_ax {H : Heap} (n0 : Nat) (hn0 : n0 ≤ 400) {p : ProgT} {ps cs : Value} (hp : RL 1 strR H ps p.2.1) (hcs : RL 5 codeR H cs p.2.2) :
    AX Try.prog 7 #[progV p ps cs, .int .i64 (n0 : Int)] H (fun v H' => (∃ b, v = .bool b ∧ (b = true → FewP p)) ∧ H' = H) := by
  refine AX.quiet ?_
  suffices hh : AX Try.prog 7 #[progV p ps cs, .int .i64 (n0 : Int)] H (fun v H' => (∃ b, v = .bool b ∧ (b = true → FewP p)) ∧ Grow H H') from hh.mono fun v _ ⟨⟨b, e, k⟩, g⟩ => ⟨e ▸ plain_bool _, ⟨b, e, k⟩, g⟩
  refine AX.body (n := 45) (rs := [.tmp 4]) Try.func7 rfl (by decide) rfl rfl (bC_sound _ _ _ _ ?_)
  (conv => whnf)
  refine Ob2.box rfl fun q1 H1 hq1 a1 g1 => ?_
  have b1 := hblk_of a1
  have l1 : alen Try.prog 22 ps H1 = some (.int .i64 p.2.1.length) := hp.len rfl _
  have l2 : alen Try.prog 23 cs H1 = some (.int .i64 p.2.2.length) := hcs.len rfl _
  (try (conv => whnf)); (repeat' ((fail_if_success (with_reducible refine And.intro ?_ ?_)); (fail_if_success (with_reducible refine Exists.intro ?_ ?_)); (first | (first | (apply Ob.of; (first | with_reducible assumption | with_reducible exact ex20 _ _ | with_reducible exact ex21 _ _ | with_reducible exact ex30 _ _ _ | with_reducible exact ex31 _ _ _ | with_reducible exact ex32 _ _ _ | rfl | (exact ald rfl rfl (by assumption) rfl) | (exact ald_agg rfl rfl rfl (by assumption) rfl)); (conv => whnf)) | (apply bIf.yes; (first | assumption | rfl); (conv => whnf)) | (apply bIf.no; (first | assumption | rfl); (conv => whnf)) | ((with_reducible refine Ob.load (by with_unfolding_all assumption) ?_); (conv => whnf)) | (apply Grows.mk; (first | exact Grow.refl _ | assumption); (conv => whnf))) | (apply bIf.of <;> intro hc <;> (conv => whnf)))))
  · exact ⟨⟨false, rfl, fun h => by simp at h⟩, g1⟩
  · exact ⟨⟨false, rfl, fun h => by simp at h⟩, g1⟩
  have hb : p.2.2.length ≤ 40 ∧ p.2.1.length ≤ 130 := by clear l1 l2 b1 a1 hp hcs; (simp only [ba_ne_t, ba_ne_f, ba_eq_t, ba_eq_f, bne_iff_ne, bne_eq_false_iff_eq, decide_eq_true_eq, decide_eq_false_iff_not, beq_iff_eq, beq_eq_false_iff_ne, ne_eq, Bool.not_eq_true, Bool.not_eq_false, Bool.not_eq_true', Bool.not_eq_false'] at *); omega
  refine SW.loop (α := Nat × Nat) (fun y => [(1, .int .i64 (y.2 : Int)), (2, .pointer (some ⟨q1, 0, none⟩)), (5, .int .i64 (y.1 : Int))]) (fun y H' => y.1 ≤ p.2.2.length ∧ y.2 ≤ 400 ∧ (∀ (i : Nat) c, i < y.1 → p.2.2[i]? = some c → c.ins.length ≤ 400) ∧ H' = H1) (fun y => p.2.2.length - y.1) ⟨(0, n0), ⟨rfl, rfl, rfl, trivial⟩, by show 0 ≤ _; omega, by show n0 ≤ 400; omega, fun i x hi => by dsimp only at hi; omega, rfl⟩ ?_
  rintro ⟨m, n⟩ X ⟨hm, hn, ht, e⟩
  subst X
  dsimp only at hm hn ht ⊢
  refine bC_sound _ _ _ _ ?_
  have d0 : decide ((n : Int) ≥ 0) = true := decide_eq_true (by omega)
  by_cases hml : m < p.2.2.length
  · have d1 : decide ((m : Int) < (p.2.2.length : Int)) = true := decide_eq_true (by omega)
    obtain ⟨c, hx⟩ := get_lt hml
    obtain ⟨b, u, i1, i2, i3⟩ := ld_codeF hcs hx
    have i4 := i3 H1 g1
    have l3 : alen Try.prog 47 u H1 = some (.int .i64 c.ins.length) := i2.len rfl _
    by_cases hcl : n < c.ins.length
    · have d2 : decide ((c.ins.length : Int) > (n : Int)) = true := decide_eq_true (by omega)
      (try (conv => whnf)); (repeat ((fail_if_success (with_reducible refine And.intro ?_ ?_)); (fail_if_success (with_reducible refine Exists.intro ?_ ?_)); (first | (apply Ob.of; (first | with_reducible assumption | with_reducible exact ex20 _ _ | with_reducible exact ex21 _ _ | with_reducible exact ex30 _ _ _ | with_reducible exact ex31 _ _ _ | with_reducible exact ex32 _ _ _ | rfl | (exact ald rfl rfl (by assumption) rfl) | (exact ald_agg rfl rfl rfl (by assumption) rfl)); (conv => whnf)) | (apply bIf.yes; (first | assumption | rfl); (conv => whnf)) | (apply bIf.no; (first | assumption | rfl); (conv => whnf)) | ((with_reducible refine Ob.load (by with_unfolding_all assumption) ?_); (conv => whnf)) | (apply Grows.mk; (first | exact Grow.refl _ | assumption); (conv => whnf)))))
      exact ⟨⟨false, rfl, fun h => by simp at h⟩, g1⟩
    · have d2 : decide ((c.ins.length : Int) > (n : Int)) = false := decide_eq_false (by omega)
      have w : IntKind.i64.wrap ((n : Int) - (c.ins.length : Int)) = ((n - c.ins.length : Nat) : Int) := by rw [wrap_i64 (by omega) (by omega)]; omega
      (try (conv => whnf)); (repeat ((fail_if_success (with_reducible refine And.intro ?_ ?_)); (fail_if_success (with_reducible refine Exists.intro ?_ ?_)); (first | (apply Ob.of; (first | with_reducible assumption | with_reducible exact ex20 _ _ | with_reducible exact ex21 _ _ | with_reducible exact ex30 _ _ _ | with_reducible exact ex31 _ _ _ | with_reducible exact ex32 _ _ _ | rfl | (exact ald rfl rfl (by assumption) rfl) | (exact ald_agg rfl rfl rfl (by assumption) rfl)); (conv => whnf)) | (apply bIf.yes; (first | assumption | rfl); (conv => whnf)) | (apply bIf.no; (first | assumption | rfl); (conv => whnf)) | ((with_reducible refine Ob.load (by with_unfolding_all assumption) ?_); (conv => whnf)) | (apply Grows.mk; (first | exact Grow.refl _ | assumption); (conv => whnf)))))
      refine ⟨(m + 1, n - c.ins.length), ⟨congrArg (fun z => some (Value.int .i64 z)) w, rfl, congrArg (fun z => some (Value.int .i64 z)) (w_succ (by omega)), trivial⟩, ⟨hml, by show n - _ ≤ _; omega, fun i d hi hd => ?_, rfl⟩, by show _ - (m + 1) < _ - m; omega⟩
      by_cases him : i = m
      · subst him; rw [hx] at hd; simp only [Option.some.injEq] at hd; subst hd; omega
      · exact ht i d (by dsimp only at hi; omega) hd
  · have d1 : decide ((m : Int) < (p.2.2.length : Int)) = false := decide_eq_false (by omega)
    (try (conv => whnf)); (repeat ((fail_if_success (with_reducible refine And.intro ?_ ?_)); (fail_if_success (with_reducible refine Exists.intro ?_ ?_)); (first | (apply Ob.of; (first | with_reducible assumption | with_reducible exact ex20 _ _ | with_reducible exact ex21 _ _ | with_reducible exact ex30 _ _ _ | with_reducible exact ex31 _ _ _ | with_reducible exact ex32 _ _ _ | rfl | (exact ald rfl rfl (by assumption) rfl) | (exact ald_agg rfl rfl rfl (by assumption) rfl)); (conv => whnf)) | (apply bIf.yes; (first | assumption | rfl); (conv => whnf)) | (apply bIf.no; (first | assumption | rfl); (conv => whnf)) | ((with_reducible refine Ob.load (by with_unfolding_all assumption) ?_); (conv => whnf)) | (apply Grows.mk; (first | exact Grow.refl _ | assumption); (conv => whnf)))))
    refine ⟨⟨true, rfl, fun _ => ⟨hb.1, hb.2, fun c hcc => ?_⟩⟩, g1⟩
    obtain ⟨i, hi, rfl⟩ := List.getElem_of_mem hcc
    exact ht i _ (by omega) (List.getElem?_eq_getElem hi)
theorem few_ax {H : Heap} {p : ProgT} {ps cs : Value} (hp : RL 1 strR H ps p.2.1) (hcs : RL 5 codeR H cs p.2.2) :
    AX Try.prog 7 #[progV p ps cs, .int .i64 400] H (fun v H' => (∃ b, v = .bool b ∧ (b = true → FewP p)) ∧ H' = H) :=
  fewN_ax 400 (by decide) hp hcs
/-- The depths of a program's code; none where there are none. -/
def DL (p : ProgT) (f : Int) (L : List Int) : Prop := (∃ c, 0 ≤ f ∧ p.2.2[f.toNat]? = some c ∧ CheckP p ∧ Closed c L) ∨ ((f < 0 ∨ (p.2.2.length : Int) ≤ f ∨ ¬ CheckP p) ∧ L = [])
theorem DL.uniq {p : ProgT} {f : Int} {L M : List Int} (h : DL p f L) (k : DL p f M) : L = M := by
  rcases h with ⟨c, h0, h1, h2, h3⟩ | ⟨h0, rfl⟩
  · rcases k with ⟨d, k0, k1, k2, k3⟩ | ⟨k0, rfl⟩
    · rw [h1] at k1
      simp only [Option.some.injEq] at k1
      subst k1
      exact h3.uniq k3
    · have := lt_of_get h1
      rcases k0 with k0 | k0 | k0
      · omega
      · omega
      · exact absurd h2 k0
  · rcases k with ⟨d, k0, k1, k2, k3⟩ | ⟨k0, rfl⟩
    · have := lt_of_get k1
      rcases h0 with h0 | h0 | h0
      · omega
      · omega
      · exact absurd k2 h0
    · rfl
theorem aims_right {p : ProgT} {f : Int} {c : CodeT} (h : RightP p f c) : Aims c := aims_of h.1 h.2.1
theorem dep_row {H : Heap} {q : Nat} {L : List Int} (h : OwnI H q L) : RL 1 intR H (rowV q L.length) L := RL.own (g := Value.int .i64) (fun _ _ => rfl) h
theorem dep_own {H : Heap} {q : Nat} {L : List Int} (h : OwnI H q L) : OwnR 1 3 intR H (rowV q L.length) L := by
  refine .inr ⟨q, _, rfl, h, by simp, fun i x hx => ⟨[.int .i64 x], ?_, rfl⟩⟩
  have hl := lt_of_get hx
  rw [slots_of (by simp; omega)]
  congr 1
  apply List.ext_getElem?
  intro j
  rw [List.getElem?_take, List.getElem?_drop]
  cases j with
  | zero => simp [hx]
  | succ j => simp
theorem DepthsO_ax {H : Heap} {p : ProgT} {ps cs : Value} (hp : RL 1 strR H ps p.2.1) (hcs : RL 5 codeR H cs p.2.2) (hL : p.2.1.length < 4294967296) (f : Int) :
    AX Try.prog 33 #[progV p ps cs, .int .i64 f] H (fun v H' => (∃ L, DL p f L ∧ OwnR 1 3 intR H' v L) ∧ Grow H H') := by
  refine AX.body (n := 31) (rs := [.tmp 4]) Try.func33 rfl (by decide) rfl rfl (bC_sound _ _ _ _ ?_)
  (conv => whnf)
  refine Ob2.box rfl fun q1 H1 hq1 a1 g1 => ?_
  have b1 := hblk_of a1
  have l2 : alen Try.prog 23 cs H1 = some (.int .i64 p.2.2.length) := hcs.len rfl _
  by_cases h0 : f < 0
  · have d0 : decide (f < 0) = true := decide_eq_true h0
    (try (conv => whnf)); (repeat ((fail_if_success (with_reducible refine And.intro ?_ ?_)); (fail_if_success (with_reducible refine Exists.intro ?_ ?_)); (first | (apply Ob.of; (first | with_reducible assumption | with_reducible exact ex20 _ _ | with_reducible exact ex21 _ _ | with_reducible exact ex30 _ _ _ | with_reducible exact ex31 _ _ _ | with_reducible exact ex32 _ _ _ | rfl | (exact ald rfl rfl (by assumption) rfl) | (exact ald_agg rfl rfl rfl (by assumption) rfl)); (conv => whnf)) | (apply bIf.yes; (first | assumption | rfl); (conv => whnf)) | (apply bIf.no; (first | assumption | rfl); (conv => whnf)) | ((with_reducible refine Ob.load (by with_unfolding_all assumption) ?_); (conv => whnf)) | (apply Grows.mk; (first | exact Grow.refl _ | assumption); (conv => whnf)))))
    exact ⟨⟨[], .inr ⟨.inl h0, rfl⟩, .inl ⟨rfl, rfl⟩⟩, g1⟩
  have d0 : decide (f < 0) = false := decide_eq_false h0
  by_cases h1 : (p.2.2.length : Int) ≤ f
  · have d1 : decide (f ≥ (p.2.2.length : Int)) = true := decide_eq_true h1
    (try (conv => whnf)); (repeat ((fail_if_success (with_reducible refine And.intro ?_ ?_)); (fail_if_success (with_reducible refine Exists.intro ?_ ?_)); (first | (apply Ob.of; (first | with_reducible assumption | with_reducible exact ex20 _ _ | with_reducible exact ex21 _ _ | with_reducible exact ex30 _ _ _ | with_reducible exact ex31 _ _ _ | with_reducible exact ex32 _ _ _ | rfl | (exact ald rfl rfl (by assumption) rfl) | (exact ald_agg rfl rfl rfl (by assumption) rfl)); (conv => whnf)) | (apply bIf.yes; (first | assumption | rfl); (conv => whnf)) | (apply bIf.no; (first | assumption | rfl); (conv => whnf)) | ((with_reducible refine Ob.load (by with_unfolding_all assumption) ?_); (conv => whnf)) | (apply Grows.mk; (first | exact Grow.refl _ | assumption); (conv => whnf)))))
    exact ⟨⟨[], .inr ⟨.inr (.inl h1), rfl⟩, .inl ⟨rfl, rfl⟩⟩, g1⟩
  have d1 : decide (f ≥ (p.2.2.length : Int)) = false := decide_eq_false h1
  obtain ⟨i, rfl⟩ : ∃ i : Nat, f = (i : Int) := ⟨f.toNat, by omega⟩
  (try (conv => whnf)); (repeat ((fail_if_success (with_reducible refine And.intro ?_ ?_)); (fail_if_success (with_reducible refine Exists.intro ?_ ?_)); (first | (apply Ob.of; (first | with_reducible assumption | with_reducible exact ex20 _ _ | with_reducible exact ex21 _ _ | with_reducible exact ex30 _ _ _ | with_reducible exact ex31 _ _ _ | with_reducible exact ex32 _ _ _ | rfl | (exact ald rfl rfl (by assumption) rfl) | (exact ald_agg rfl rfl rfl (by assumption) rfl)); (conv => whnf)) | (apply bIf.yes; (first | assumption | rfl); (conv => whnf)) | (apply bIf.no; (first | assumption | rfl); (conv => whnf)) | ((with_reducible refine Ob.load (by with_unfolding_all assumption) ?_); (conv => whnf)) | (apply Grows.mk; (first | exact Grow.refl _ | assumption); (conv => whnf)))))
  refine (check_ax (strR.grow hp g1) (codeR.grow hcs g1) hL).mono ?_
  rintro v X ⟨hv, e⟩
  subst X
  rcases hv with ⟨rfl, hv⟩ | ⟨rfl, hv⟩
  · obtain ⟨c, hc⟩ := get_lt (L := p.2.2) (m := i) (by omega)
    have hr := hv.2.2.2.2.2.2 i c hc
    obtain ⟨q, sv, i1, hs, i2⟩ := ld_code hcs hc
    have i3 := i2 H1 g1
    (try (conv => whnf)); (repeat ((fail_if_success (with_reducible refine And.intro ?_ ?_)); (fail_if_success (with_reducible refine Exists.intro ?_ ?_)); (first | (apply Ob.of; (first | with_reducible assumption | with_reducible exact ex20 _ _ | with_reducible exact ex21 _ _ | with_reducible exact ex30 _ _ _ | with_reducible exact ex31 _ _ _ | with_reducible exact ex32 _ _ _ | rfl | (exact ald rfl rfl (by assumption) rfl) | (exact ald_agg rfl rfl rfl (by assumption) rfl)); (conv => whnf)) | (apply bIf.yes; (first | assumption | rfl); (conv => whnf)) | (apply bIf.no; (first | assumption | rfl); (conv => whnf)) | ((with_reducible refine Ob.load (by with_unfolding_all assumption) ?_); (conv => whnf)) | (apply Grows.mk; (first | exact Grow.refl _ | assumption); (conv => whnf)))))
    refine (depths_ax (insR.grow hs g1) (aims_right hr)).mono ?_
    rintro v H2 ⟨r, hr2, hv2, g2⟩
    cases r with
    | none => obtain ⟨L, hL2⟩ := hr.2.2; exact absurd hr2 hL2.good
    | some L =>
      obtain ⟨q2, rfl, ho⟩ := hv2
      (try (conv => whnf)); (repeat ((fail_if_success (with_reducible refine And.intro ?_ ?_)); (fail_if_success (with_reducible refine Exists.intro ?_ ?_)); (first | (apply Ob.of; (first | with_reducible assumption | with_reducible exact ex20 _ _ | with_reducible exact ex21 _ _ | with_reducible exact ex30 _ _ _ | with_reducible exact ex31 _ _ _ | with_reducible exact ex32 _ _ _ | rfl | (exact ald rfl rfl (by assumption) rfl) | (exact ald_agg rfl rfl rfl (by assumption) rfl)); (conv => whnf)) | (apply bIf.yes; (first | assumption | rfl); (conv => whnf)) | (apply bIf.no; (first | assumption | rfl); (conv => whnf)) | ((with_reducible refine Ob.load (by with_unfolding_all assumption) ?_); (conv => whnf)) | (apply Grows.mk; (first | exact Grow.refl _ | assumption); (conv => whnf)))))
      exact ⟨⟨L, .inl ⟨c, by omega, by rw [Int.toNat_natCast]; exact hc, hv, hr2⟩, dep_own ho⟩, g1.trans g2⟩
  · (try (conv => whnf)); (repeat ((fail_if_success (with_reducible refine And.intro ?_ ?_)); (fail_if_success (with_reducible refine Exists.intro ?_ ?_)); (first | (apply Ob.of; (first | with_reducible assumption | with_reducible exact ex20 _ _ | with_reducible exact ex21 _ _ | with_reducible exact ex30 _ _ _ | with_reducible exact ex31 _ _ _ | with_reducible exact ex32 _ _ _ | rfl | (exact ald rfl rfl (by assumption) rfl) | (exact ald_agg rfl rfl rfl (by assumption) rfl)); (conv => whnf)) | (apply bIf.yes; (first | assumption | rfl); (conv => whnf)) | (apply bIf.no; (first | assumption | rfl); (conv => whnf)) | ((with_reducible refine Ob.load (by with_unfolding_all assumption) ?_); (conv => whnf)) | (apply Grows.mk; (first | exact Grow.refl _ | assumption); (conv => whnf)))))
    exact ⟨⟨[], .inr ⟨.inr (.inr hv), rfl⟩, .inl ⟨rfl, rfl⟩⟩, g1⟩
theorem Depths_ax {H : Heap} {p : ProgT} {ps cs : Value} (hp : RL 1 strR H ps p.2.1) (hcs : RL 5 codeR H cs p.2.2) (hL : p.2.1.length < 4294967296) (f : Int) :
    AX Try.prog 33 #[progV p ps cs, .int .i64 f] H (fun v H' => (∃ L, DL p f L ∧ RL 1 intR H' v L) ∧ Grow H H') :=
  (DepthsO_ax hp hcs hL f).mono fun v H' ⟨⟨L, h, k⟩, g⟩ => ⟨⟨L, h, k.rl⟩, g⟩
theorem rDepths_ax {H : Heap} {p : ProgT} {ps cs : Value} (hp : RL 1 strR H ps p.2.1) (hcs : RL 5 codeR H cs p.2.2) (hL : p.2.1.length < 4294967296) (f : Int) :
    AX Try.prog 13 #[progV p ps cs, .int .i64 f] H (fun v H' => (∃ L, DL p f L ∧ RL 1 intR H' v L) ∧ Grow H H') := by
  refine AX.body (n := 31) (rs := [.tmp 4]) Try.func13 rfl (by decide) rfl rfl (bC_sound _ _ _ _ ?_)
  (conv => whnf)
  refine Ob2.box rfl fun q1 H1 hq1 a1 g1 => ?_
  have b1 := hblk_of a1
  have l2 : alen Try.prog 23 cs H1 = some (.int .i64 p.2.2.length) := hcs.len rfl _
  by_cases h0 : f < 0
  · have d0 : decide (f < 0) = true := decide_eq_true h0
    (try (conv => whnf)); (repeat ((fail_if_success (with_reducible refine And.intro ?_ ?_)); (fail_if_success (with_reducible refine Exists.intro ?_ ?_)); (first | (apply Ob.of; (first | with_reducible assumption | with_reducible exact ex20 _ _ | with_reducible exact ex21 _ _ | with_reducible exact ex30 _ _ _ | with_reducible exact ex31 _ _ _ | with_reducible exact ex32 _ _ _ | rfl | (exact ald rfl rfl (by assumption) rfl) | (exact ald_agg rfl rfl rfl (by assumption) rfl)); (conv => whnf)) | (apply bIf.yes; (first | assumption | rfl); (conv => whnf)) | (apply bIf.no; (first | assumption | rfl); (conv => whnf)) | ((with_reducible refine Ob.load (by with_unfolding_all assumption) ?_); (conv => whnf)) | (apply Grows.mk; (first | exact Grow.refl _ | assumption); (conv => whnf)))))
    exact ⟨⟨[], .inr ⟨.inl h0, rfl⟩, .inl ⟨rfl, rfl⟩⟩, g1⟩
  have d0 : decide (f < 0) = false := decide_eq_false h0
  by_cases h1 : (p.2.2.length : Int) ≤ f
  · have d1 : decide (f ≥ (p.2.2.length : Int)) = true := decide_eq_true h1
    (try (conv => whnf)); (repeat ((fail_if_success (with_reducible refine And.intro ?_ ?_)); (fail_if_success (with_reducible refine Exists.intro ?_ ?_)); (first | (apply Ob.of; (first | with_reducible assumption | with_reducible exact ex20 _ _ | with_reducible exact ex21 _ _ | with_reducible exact ex30 _ _ _ | with_reducible exact ex31 _ _ _ | with_reducible exact ex32 _ _ _ | rfl | (exact ald rfl rfl (by assumption) rfl) | (exact ald_agg rfl rfl rfl (by assumption) rfl)); (conv => whnf)) | (apply bIf.yes; (first | assumption | rfl); (conv => whnf)) | (apply bIf.no; (first | assumption | rfl); (conv => whnf)) | ((with_reducible refine Ob.load (by with_unfolding_all assumption) ?_); (conv => whnf)) | (apply Grows.mk; (first | exact Grow.refl _ | assumption); (conv => whnf)))))
    exact ⟨⟨[], .inr ⟨.inr (.inl h1), rfl⟩, .inl ⟨rfl, rfl⟩⟩, g1⟩
  have d1 : decide (f ≥ (p.2.2.length : Int)) = false := decide_eq_false h1
  obtain ⟨i, rfl⟩ : ∃ i : Nat, f = (i : Int) := ⟨f.toNat, by omega⟩
  (try (conv => whnf)); (repeat ((fail_if_success (with_reducible refine And.intro ?_ ?_)); (fail_if_success (with_reducible refine Exists.intro ?_ ?_)); (first | (apply Ob.of; (first | with_reducible assumption | with_reducible exact ex20 _ _ | with_reducible exact ex21 _ _ | with_reducible exact ex30 _ _ _ | with_reducible exact ex31 _ _ _ | with_reducible exact ex32 _ _ _ | rfl | (exact ald rfl rfl (by assumption) rfl) | (exact ald_agg rfl rfl rfl (by assumption) rfl)); (conv => whnf)) | (apply bIf.yes; (first | assumption | rfl); (conv => whnf)) | (apply bIf.no; (first | assumption | rfl); (conv => whnf)) | ((with_reducible refine Ob.load (by with_unfolding_all assumption) ?_); (conv => whnf)) | (apply Grows.mk; (first | exact Grow.refl _ | assumption); (conv => whnf)))))
  refine (rcheck_ax (strR.grow hp g1) (codeR.grow hcs g1) hL).mono ?_
  rintro v X ⟨hv, e⟩
  subst X
  rcases hv with ⟨rfl, hv⟩ | ⟨rfl, hv⟩
  · obtain ⟨c, hc⟩ := get_lt (L := p.2.2) (m := i) (by omega)
    have hr := hv.2.2.2.2.2.2 i c hc
    obtain ⟨q, sv, i1, hs, i2⟩ := ld_code hcs hc
    have i3 := i2 H1 g1
    (try (conv => whnf)); (repeat ((fail_if_success (with_reducible refine And.intro ?_ ?_)); (fail_if_success (with_reducible refine Exists.intro ?_ ?_)); (first | (apply Ob.of; (first | with_reducible assumption | with_reducible exact ex20 _ _ | with_reducible exact ex21 _ _ | with_reducible exact ex30 _ _ _ | with_reducible exact ex31 _ _ _ | with_reducible exact ex32 _ _ _ | rfl | (exact ald rfl rfl (by assumption) rfl) | (exact ald_agg rfl rfl rfl (by assumption) rfl)); (conv => whnf)) | (apply bIf.yes; (first | assumption | rfl); (conv => whnf)) | (apply bIf.no; (first | assumption | rfl); (conv => whnf)) | ((with_reducible refine Ob.load (by with_unfolding_all assumption) ?_); (conv => whnf)) | (apply Grows.mk; (first | exact Grow.refl _ | assumption); (conv => whnf)))))
    refine (rdepths_ax (insR.grow hs g1) (aims_right hr)).mono ?_
    rintro v H2 ⟨r, hr2, hv2, g2⟩
    cases r with
    | none => obtain ⟨L, hL2⟩ := hr.2.2; exact absurd hr2 hL2.good
    | some L =>
      obtain ⟨q2, rfl, ho⟩ := hv2
      (try (conv => whnf)); (repeat ((fail_if_success (with_reducible refine And.intro ?_ ?_)); (fail_if_success (with_reducible refine Exists.intro ?_ ?_)); (first | (apply Ob.of; (first | with_reducible assumption | with_reducible exact ex20 _ _ | with_reducible exact ex21 _ _ | with_reducible exact ex30 _ _ _ | with_reducible exact ex31 _ _ _ | with_reducible exact ex32 _ _ _ | rfl | (exact ald rfl rfl (by assumption) rfl) | (exact ald_agg rfl rfl rfl (by assumption) rfl)); (conv => whnf)) | (apply bIf.yes; (first | assumption | rfl); (conv => whnf)) | (apply bIf.no; (first | assumption | rfl); (conv => whnf)) | ((with_reducible refine Ob.load (by with_unfolding_all assumption) ?_); (conv => whnf)) | (apply Grows.mk; (first | exact Grow.refl _ | assumption); (conv => whnf)))))
      exact ⟨⟨L, .inl ⟨c, by omega, by rw [Int.toNat_natCast]; exact hc, hv, hr2⟩, dep_row ho⟩, g1.trans g2⟩
  · (try (conv => whnf)); (repeat ((fail_if_success (with_reducible refine And.intro ?_ ?_)); (fail_if_success (with_reducible refine Exists.intro ?_ ?_)); (first | (apply Ob.of; (first | with_reducible assumption | with_reducible exact ex20 _ _ | with_reducible exact ex21 _ _ | with_reducible exact ex30 _ _ _ | with_reducible exact ex31 _ _ _ | with_reducible exact ex32 _ _ _ | rfl | (exact ald rfl rfl (by assumption) rfl) | (exact ald_agg rfl rfl rfl (by assumption) rfl)); (conv => whnf)) | (apply bIf.yes; (first | assumption | rfl); (conv => whnf)) | (apply bIf.no; (first | assumption | rfl); (conv => whnf)) | ((with_reducible refine Ob.load (by with_unfolding_all assumption) ?_); (conv => whnf)) | (apply Grows.mk; (first | exact Grow.refl _ | assumption); (conv => whnf)))))
    exact ⟨⟨[], .inr ⟨.inr (.inr hv), rfl⟩, .inl ⟨rfl, rfl⟩⟩, g1⟩
end Go.Proofs.Ytdlanbfbbopfhaa
