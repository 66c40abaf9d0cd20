/- The statements of package code: few instructions, and the depths of a program's code. -/
import Derived.Test.YtdlanbfbbopfhaaCo19
set_option linter.unusedVariables false
set_option linter.unusedSimpArgs false
set_option maxRecDepth 20000
set_option maxHeartbeats 8000000
namespace Go.Proofs.Ytdlanbfbbopfhaa
open Go Ax
theorem slots_get {c l : List Value} {o n j : Nat} {v : Value} (h : slotsOf c o n = some l) (hv : l[j]? = some v) : c[o + j]? = some v := by
  unfold slotsOf at h
  split at h
  · simp only [Option.some.injEq] at h
    subst h
    rw [List.getElem?_take] at hv
    split at hv
    · rwa [List.getElem?_drop] at hv
    · simp at hv
  · simp at h
theorem ld_codeF {H : Heap} {sv : Value} {L : List CodeT} (h : RL 5 codeR H sv L) {i : Nat} {x : CodeT} (hx : L[i]? = some x) :
    ∃ b u, aindexAddr Try.prog 23 sv (.int .i64 (i : Int)) = some (.pointer (some ⟨b, i * 5, none⟩)) ∧ RL 3 insR H u x.ins ∧ ∀ H', Grow H H' → aload Try.prog 47 (.pointer (some ⟨b, i * 5 + 4, none⟩)) H' = some u := by
  obtain ⟨b, c, l, h1, h2, h3, u, rfl, h4⟩ := h.at (P := Try.prog) (t := 23) (e := 49) rfl rfl hx
  exact ⟨b, u, h1, h4, fun H' g => ald rfl rfl (g.hblk h2) (slots_get (j := 4) h3 rfl)⟩
def FewP (p : ProgT) : Prop := p.2.2.length ≤ 40 ∧ p.2.1.length ≤ 130 ∧ ∀ c ∈ p.2.2, c.ins.length ≤ 400
theorem FewP.small {p : ProgT} (h : FewP p) : Small p := ⟨by have := h.2.1; omega, by have := h.1; omega, fun c hc => by have := h.2.2 c hc; omega⟩
theorem few_ax {H : Heap} {p : ProgT} {ps cs : Value} (hp : RL 1 strR H ps p.2.1) (hcs : RL 5 codeR H cs p.2.2) :
    AX Try.prog 7 #[progV p ps cs, .int .i64 400] H (fun v H' => (∃ b, v = .bool b ∧ (b = true → FewP p)) ∧ H' = H) := by
  refine AX.quiet ?_
  suffices hh : AX Try.prog 7 #[progV p ps cs, .int .i64 400] H (fun v H' => (∃ b, v = .bool b ∧ (b = true → FewP p)) ∧ Grow H H') from hh.mono fun v _ ⟨⟨b, e, k⟩, g⟩ => ⟨e ▸ plain_bool _, ⟨b, e, k⟩, g⟩
  refine AX.body (n := 45) (rs := [.tmp 4]) Try.func7 rfl (by decide) rfl rfl (bC_sound _ _ _ _ ?_)
  (conv => whnf)
  refine Ob2.box rfl fun q1 H1 hq1 a1 g1 => ?_
  have b1 := hblk_of a1
  have l1 : alen Try.prog 22 ps H1 = some (.int .i64 p.2.1.length) := hp.len rfl _
  have l2 : alen Try.prog 23 cs H1 = some (.int .i64 p.2.2.length) := hcs.len rfl _
  (try (conv => whnf)); (repeat' ((fail_if_success (with_reducible refine And.intro ?_ ?_)); (fail_if_success (with_reducible refine Exists.intro ?_ ?_)); (first | (first | (apply Ob.of; (first | with_reducible assumption | with_reducible exact ex20 _ _ | with_reducible exact ex21 _ _ | with_reducible exact ex30 _ _ _ | with_reducible exact ex31 _ _ _ | with_reducible exact ex32 _ _ _ | rfl | (exact ald rfl rfl (by assumption) rfl) | (exact ald_agg rfl rfl rfl (by assumption) rfl)); (conv => whnf)) | (apply bIf.yes; (first | assumption | rfl); (conv => whnf)) | (apply bIf.no; (first | assumption | rfl); (conv => whnf)) | ((with_reducible refine Ob.load (by with_unfolding_all assumption) ?_); (conv => whnf)) | (apply Grows.mk; (first | exact Grow.refl _ | assumption); (conv => whnf))) | (apply bIf.of <;> intro hc <;> (conv => whnf)))))
  · exact ⟨⟨false, rfl, fun h => by simp at h⟩, g1⟩
  · exact ⟨⟨false, rfl, fun h => by simp at h⟩, g1⟩
  have hb : p.2.2.length ≤ 40 ∧ p.2.1.length ≤ 130 := by clear l1 l2 b1 a1 hp hcs; (simp only [ba_ne_t, ba_ne_f, ba_eq_t, ba_eq_f, bne_iff_ne, bne_eq_false_iff_eq, decide_eq_true_eq, decide_eq_false_iff_not, beq_iff_eq, beq_eq_false_iff_ne, ne_eq, Bool.not_eq_true, Bool.not_eq_false, Bool.not_eq_true', Bool.not_eq_false'] at *); omega
  refine SW.loop (α := Nat × Nat) (fun y => [(1, .int .i64 (y.2 : Int)), (2, .pointer (some ⟨q1, 0, none⟩)), (5, .int .i64 (y.1 : Int))]) (fun y H' => y.1 ≤ p.2.2.length ∧ y.2 ≤ 400 ∧ (∀ (i : Nat) c, i < y.1 → p.2.2[i]? = some c → c.ins.length ≤ 400) ∧ H' = H1) (fun y => p.2.2.length - y.1) ⟨(0, 400), ⟨rfl, rfl, rfl, trivial⟩, by show 0 ≤ _; omega, by show 400 ≤ 400; omega, fun i x hi => by dsimp only at hi; omega, rfl⟩ ?_
  rintro ⟨m, n⟩ X ⟨hm, hn, ht, e⟩
  subst X
  dsimp only at hm hn ht ⊢
  refine bC_sound _ _ _ _ ?_
  have d0 : decide ((n : Int) ≥ 0) = true := decide_eq_true (by omega)
  by_cases hml : m < p.2.2.length
  · have d1 : decide ((m : Int) < (p.2.2.length : Int)) = true := decide_eq_true (by omega)
    obtain ⟨c, hx⟩ := get_lt hml
    obtain ⟨b, u, i1, i2, i3⟩ := ld_codeF hcs hx
    have i4 := i3 H1 g1
    have l3 : alen Try.prog 47 u H1 = some (.int .i64 c.ins.length) := i2.len rfl _
    by_cases hcl : n < c.ins.length
    · have d2 : decide ((c.ins.length : Int) > (n : Int)) = true := decide_eq_true (by omega)
      (try (conv => whnf)); (repeat ((fail_if_success (with_reducible refine And.intro ?_ ?_)); (fail_if_success (with_reducible refine Exists.intro ?_ ?_)); (first | (apply Ob.of; (first | with_reducible assumption | with_reducible exact ex20 _ _ | with_reducible exact ex21 _ _ | with_reducible exact ex30 _ _ _ | with_reducible exact ex31 _ _ _ | with_reducible exact ex32 _ _ _ | rfl | (exact ald rfl rfl (by assumption) rfl) | (exact ald_agg rfl rfl rfl (by assumption) rfl)); (conv => whnf)) | (apply bIf.yes; (first | assumption | rfl); (conv => whnf)) | (apply bIf.no; (first | assumption | rfl); (conv => whnf)) | ((with_reducible refine Ob.load (by with_unfolding_all assumption) ?_); (conv => whnf)) | (apply Grows.mk; (first | exact Grow.refl _ | assumption); (conv => whnf)))))
      exact ⟨⟨false, rfl, fun h => by simp at h⟩, g1⟩
    · have d2 : decide ((c.ins.length : Int) > (n : Int)) = false := decide_eq_false (by omega)
      have w : IntKind.i64.wrap ((n : Int) - (c.ins.length : Int)) = ((n - c.ins.length : Nat) : Int) := by rw [wrap_i64 (by omega) (by omega)]; omega
      (try (conv => whnf)); (repeat ((fail_if_success (with_reducible refine And.intro ?_ ?_)); (fail_if_success (with_reducible refine Exists.intro ?_ ?_)); (first | (apply Ob.of; (first | with_reducible assumption | with_reducible exact ex20 _ _ | with_reducible exact ex21 _ _ | with_reducible exact ex30 _ _ _ | with_reducible exact ex31 _ _ _ | with_reducible exact ex32 _ _ _ | rfl | (exact ald rfl rfl (by assumption) rfl) | (exact ald_agg rfl rfl rfl (by assumption) rfl)); (conv => whnf)) | (apply bIf.yes; (first | assumption | rfl); (conv => whnf)) | (apply bIf.no; (first | assumption | rfl); (conv => whnf)) | ((with_reducible refine Ob.load (by with_unfolding_all assumption) ?_); (conv => whnf)) | (apply Grows.mk; (first | exact Grow.refl _ | assumption); (conv => whnf)))))
      refine ⟨(m + 1, n - c.ins.length), ⟨congrArg (fun z => some (Value.int .i64 z)) w, rfl, congrArg (fun z => some (Value.int .i64 z)) (w_succ (by omega)), trivial⟩, ⟨hml, by show n - _ ≤ _; omega, fun i d hi hd => ?_, rfl⟩, by show _ - (m + 1) < _ - m; omega⟩
      by_cases him : i = m
      · subst him; rw [hx] at hd; simp only [Option.some.injEq] at hd; subst hd; omega
      · exact ht i d (by dsimp only at hi; omega) hd
  · have d1 : decide ((m : Int) < (p.2.2.length : Int)) = false := decide_eq_false (by omega)
    (try (conv => whnf)); (repeat ((fail_if_success (with_reducible refine And.intro ?_ ?_)); (fail_if_success (with_reducible refine Exists.intro ?_ ?_)); (first | (apply Ob.of; (first | with_reducible assumption | with_reducible exact ex20 _ _ | with_reducible exact ex21 _ _ | with_reducible exact ex30 _ _ _ | with_reducible exact ex31 _ _ _ | with_reducible exact ex32 _ _ _ | rfl | (exact ald rfl rfl (by assumption) rfl) | (exact ald_agg rfl rfl rfl (by assumption) rfl)); (conv => whnf)) | (apply bIf.yes; (first | assumption | rfl); (conv => whnf)) | (apply bIf.no; (first | assumption | rfl); (conv => whnf)) | ((with_reducible refine Ob.load (by with_unfolding_all assumption) ?_); (conv => whnf)) | (apply Grows.mk; (first | exact Grow.refl _ | assumption); (conv => whnf)))))
    refine ⟨⟨true, rfl, fun _ => ⟨hb.1, hb.2, fun c hcc => ?_⟩⟩, g1⟩
    obtain ⟨i, hi, rfl⟩ := List.getElem_of_mem hcc
    exact ht i _ (by omega) (List.getElem?_eq_getElem hi)
/-- The depths of a program's code; none where there are none. -/
def DL (p : ProgT) (f : Int) (L : List Int) : Prop := (∃ c, 0 ≤ f ∧ p.2.2[f.toNat]? = some c ∧ CheckP p ∧ Closed c L) ∨ ((f < 0 ∨ (p.2.2.length : Int) ≤ f ∨ ¬ CheckP p) ∧ L = [])
theorem DL.uniq {p : ProgT} {f : Int} {L M : List Int} (h : DL p f L) (k : DL p f M) : L = M := by
  rcases h with ⟨c, h0, h1, h2, h3⟩ | ⟨h0, rfl⟩
  · rcases k with ⟨d, k0, k1, k2, k3⟩ | ⟨k0, rfl⟩
    · rw [h1] at k1
      simp only [Option.some.injEq] at k1
      subst k1
      exact h3.uniq k3
    · have := lt_of_get h1
      rcases k0 with k0 | k0 | k0
      · omega
      · omega
      · exact absurd h2 k0
  · rcases k with ⟨d, k0, k1, k2, k3⟩ | ⟨k0, rfl⟩
    · have := lt_of_get k1
      rcases h0 with h0 | h0 | h0
      · omega
      · omega
      · exact absurd k2 h0
    · rfl
theorem aims_right {p : ProgT} {f : Int} {c : CodeT} (h : RightP p f c) : Aims c := aims_of h.1 h.2.1
theorem dep_row {H : Heap} {q : Nat} {L : List Int} (h : OwnI H q L) : RL 1 intR H (rowV q L.length) L := RL.own (g := Value.int .i64) (fun _ _ => rfl) h
theorem Depths_ax {H : Heap} {p : ProgT} {ps cs : Value} (hp : RL 1 strR H ps p.2.1) (hcs : RL 5 codeR H cs p.2.2) (hL : p.2.1.length < 4294967296) (f : Int) :
    AX Try.prog 33 #[progV p ps cs, .int .i64 f] H (fun v H' => (∃ L, DL p f L ∧ RL 1 intR H' v L) ∧ Grow H H') := by
  refine AX.body (n := 31) (rs := [.tmp 4]) Try.func33 rfl (by decide) rfl rfl (bC_sound _ _ _ _ ?_)
  (conv => whnf)
  refine Ob2.box rfl fun q1 H1 hq1 a1 g1 => ?_
  have b1 := hblk_of a1
  have l2 : alen Try.prog 23 cs H1 = some (.int .i64 p.2.2.length) := hcs.len rfl _
  by_cases h0 : f < 0
  · have d0 : decide (f < 0) = true := decide_eq_true h0
    (try (conv => whnf)); (repeat ((fail_if_success (with_reducible refine And.intro ?_ ?_)); (fail_if_success (with_reducible refine Exists.intro ?_ ?_)); (first | (apply Ob.of; (first | with_reducible assumption | with_reducible exact ex20 _ _ | with_reducible exact ex21 _ _ | with_reducible exact ex30 _ _ _ | with_reducible exact ex31 _ _ _ | with_reducible exact ex32 _ _ _ | rfl | (exact ald rfl rfl (by assumption) rfl) | (exact ald_agg rfl rfl rfl (by assumption) rfl)); (conv => whnf)) | (apply bIf.yes; (first | assumption | rfl); (conv => whnf)) | (apply bIf.no; (first | assumption | rfl); (conv => whnf)) | ((with_reducible refine Ob.load (by with_unfolding_all assumption) ?_); (conv => whnf)) | (apply Grows.mk; (first | exact Grow.refl _ | assumption); (conv => whnf)))))
    exact ⟨⟨[], .inr ⟨.inl h0, rfl⟩, .inl ⟨rfl, rfl⟩⟩, g1⟩
  have d0 : decide (f < 0) = false := decide_eq_false h0
  by_cases h1 : (p.2.2.length : Int) ≤ f
  · have d1 : decide (f ≥ (p.2.2.length : Int)) = true := decide_eq_true h1
    (try (conv => whnf)); (repeat ((fail_if_success (with_reducible refine And.intro ?_ ?_)); (fail_if_success (with_reducible refine Exists.intro ?_ ?_)); (first | (apply Ob.of; (first | with_reducible assumption | with_reducible exact ex20 _ _ | with_reducible exact ex21 _ _ | with_reducible exact ex30 _ _ _ | with_reducible exact ex31 _ _ _ | with_reducible exact ex32 _ _ _ | rfl | (exact ald rfl rfl (by assumption) rfl) | (exact ald_agg rfl rfl rfl (by assumption) rfl)); (conv => whnf)) | (apply bIf.yes; (first | assumption | rfl); (conv => whnf)) | (apply bIf.no; (first | assumption | rfl); (conv => whnf)) | ((with_reducible refine Ob.load (by with_unfolding_all assumption) ?_); (conv => whnf)) | (apply Grows.mk; (first | exact Grow.refl _ | assumption); (conv => whnf)))))
    exact ⟨⟨[], .inr ⟨.inr (.inl h1), rfl⟩, .inl ⟨rfl, rfl⟩⟩, g1⟩
  have d1 : decide (f ≥ (p.2.2.length : Int)) = false := decide_eq_false h1
  obtain ⟨i, rfl⟩ : ∃ i : Nat, f = (i : Int) := ⟨f.toNat, by omega⟩
  (try (conv => whnf)); (repeat ((fail_if_success (with_reducible refine And.intro ?_ ?_)); (fail_if_success (with_reducible refine Exists.intro ?_ ?_)); (first | (apply Ob.of; (first | with_reducible assumption | with_reducible exact ex20 _ _ | with_reducible exact ex21 _ _ | with_reducible exact ex30 _ _ _ | with_reducible exact ex31 _ _ _ | with_reducible exact ex32 _ _ _ | rfl | (exact ald rfl rfl (by assumption) rfl) | (exact ald_agg rfl rfl rfl (by assumption) rfl)); (conv => whnf)) | (apply bIf.yes; (first | assumption | rfl); (conv => whnf)) | (apply bIf.no; (first | assumption | rfl); (conv => whnf)) | ((with_reducible refine Ob.load (by with_unfolding_all assumption) ?_); (conv => whnf)) | (apply Grows.mk; (first | exact Grow.refl _ | assumption); (conv => whnf)))))
  refine (check_ax (strR.grow hp g1) (codeR.grow hcs g1) hL).mono ?_
  rintro v X ⟨hv, e⟩
  subst X
  rcases hv with ⟨rfl, hv⟩ | ⟨rfl, hv⟩
  · obtain ⟨c, hc⟩ := get_lt (L := p.2.2) (m := i) (by omega)
    have hr := hv.2.2.2.2.2.2 i c hc
    obtain ⟨q, sv, i1, hs, i2⟩ := ld_code hcs hc
    have i3 := i2 H1 g1
    (try (conv => whnf)); (repeat ((fail_if_success (with_reducible refine And.intro ?_ ?_)); (fail_if_success (with_reducible refine Exists.intro ?_ ?_)); (first | (apply Ob.of; (first | with_reducible assumption | with_reducible exact ex20 _ _ | with_reducible exact ex21 _ _ | with_reducible exact ex30 _ _ _ | with_reducible exact ex31 _ _ _ | with_reducible exact ex32 _ _ _ | rfl | (exact ald rfl rfl (by assumption) rfl) | (exact ald_agg rfl rfl rfl (by assumption) rfl)); (conv => whnf)) | (apply bIf.yes; (first | assumption | rfl); (conv => whnf)) | (apply bIf.no; (first | assumption | rfl); (conv => whnf)) | ((with_reducible refine Ob.load (by with_unfolding_all assumption) ?_); (conv => whnf)) | (apply Grows.mk; (first | exact Grow.refl _ | assumption); (conv => whnf)))))
    refine (depths_ax (insR.grow hs g1) (aims_right hr)).mono ?_
    rintro v H2 ⟨r, hr2, hv2, g2⟩
    cases r with
    | none => obtain ⟨L, hL2⟩ := hr.2.2; exact absurd hr2 hL2.good
    | some L =>
      obtain ⟨q2, rfl, ho⟩ := hv2
      (try (conv => whnf)); (repeat ((fail_if_success (with_reducible refine And.intro ?_ ?_)); (fail_if_success (with_reducible refine Exists.intro ?_ ?_)); (first | (apply Ob.of; (first | with_reducible assumption | with_reducible exact ex20 _ _ | with_reducible exact ex21 _ _ | with_reducible exact ex30 _ _ _ | with_reducible exact ex31 _ _ _ | with_reducible exact ex32 _ _ _ | rfl | (exact ald rfl rfl (by assumption) rfl) | (exact ald_agg rfl rfl rfl (by assumption) rfl)); (conv => whnf)) | (apply bIf.yes; (first | assumption | rfl); (conv => whnf)) | (apply bIf.no; (first | assumption | rfl); (conv => whnf)) | ((with_reducible refine Ob.load (by with_unfolding_all assumption) ?_); (conv => whnf)) | (apply Grows.mk; (first | exact Grow.refl _ | assumption); (conv => whnf)))))
      exact ⟨⟨L, .inl ⟨c, by omega, by rw [Int.toNat_natCast]; exact hc, hv, hr2⟩, dep_row ho⟩, g1.trans g2⟩
  · (try (conv => whnf)); (repeat ((fail_if_success (with_reducible refine And.intro ?_ ?_)); (fail_if_success (with_reducible refine Exists.intro ?_ ?_)); (first | (apply Ob.of; (first | with_reducible assumption | with_reducible exact ex20 _ _ | with_reducible exact ex21 _ _ | with_reducible exact ex30 _ _ _ | with_reducible exact ex31 _ _ _ | with_reducible exact ex32 _ _ _ | rfl | (exact ald rfl rfl (by assumption) rfl) | (exact ald_agg rfl rfl rfl (by assumption) rfl)); (conv => whnf)) | (apply bIf.yes; (first | assumption | rfl); (conv => whnf)) | (apply bIf.no; (first | assumption | rfl); (conv => whnf)) | ((with_reducible refine Ob.load (by with_unfolding_all assumption) ?_); (conv => whnf)) | (apply Grows.mk; (first | exact Grow.refl _ | assumption); (conv => whnf)))))
    exact ⟨⟨[], .inr ⟨.inr (.inr hv), rfl⟩, .inl ⟨rfl, rfl⟩⟩, g1⟩
theorem rDepths_ax {H : Heap} {p : ProgT} {ps cs : Value} (hp : RL 1 strR H ps p.2.1) (hcs : RL 5 codeR H cs p.2.2) (hL : p.2.1.length < 4294967296) (f : Int) :
    AX Try.prog 13 #[progV p ps cs, .int .i64 f] H (fun v H' => (∃ L, DL p f L ∧ RL 1 intR H' v L) ∧ Grow H H') := by
  refine AX.body (n := 31) (rs := [.tmp 4]) Try.func13 rfl (by decide) rfl rfl (bC_sound _ _ _ _ ?_)
  (conv => whnf)
  refine Ob2.box rfl fun q1 H1 hq1 a1 g1 => ?_
  have b1 := hblk_of a1
  have l2 : alen Try.prog 23 cs H1 = some (.int .i64 p.2.2.length) := hcs.len rfl _
  by_cases h0 : f < 0
  · have d0 : decide (f < 0) = true := decide_eq_true h0
    (try (conv => whnf)); (repeat ((fail_if_success (with_reducible refine And.intro ?_ ?_)); (fail_if_success (with_reducible refine Exists.intro ?_ ?_)); (first | (apply Ob.of; (first | with_reducible assumption | with_reducible exact ex20 _ _ | with_reducible exact ex21 _ _ | with_reducible exact ex30 _ _ _ | with_reducible exact ex31 _ _ _ | with_reducible exact ex32 _ _ _ | rfl | (exact ald rfl rfl (by assumption) rfl) | (exact ald_agg rfl rfl rfl (by assumption) rfl)); (conv => whnf)) | (apply bIf.yes; (first | assumption | rfl); (conv => whnf)) | (apply bIf.no; (first | assumption | rfl); (conv => whnf)) | ((with_reducible refine Ob.load (by with_unfolding_all assumption) ?_); (conv => whnf)) | (apply Grows.mk; (first | exact Grow.refl _ | assumption); (conv => whnf)))))
    exact ⟨⟨[], .inr ⟨.inl h0, rfl⟩, .inl ⟨rfl, rfl⟩⟩, g1⟩
  have d0 : decide (f < 0) = false := decide_eq_false h0
  by_cases h1 : (p.2.2.length : Int) ≤ f
  · have d1 : decide (f ≥ (p.2.2.length : Int)) = true := decide_eq_true h1
    (try (conv => whnf)); (repeat ((fail_if_success (with_reducible refine And.intro ?_ ?_)); (fail_if_success (with_reducible refine Exists.intro ?_ ?_)); (first | (apply Ob.of; (first | with_reducible assumption | with_reducible exact ex20 _ _ | with_reducible exact ex21 _ _ | with_reducible exact ex30 _ _ _ | with_reducible exact ex31 _ _ _ | with_reducible exact ex32 _ _ _ | rfl | (exact ald rfl rfl (by assumption) rfl) | (exact ald_agg rfl rfl rfl (by assumption) rfl)); (conv => whnf)) | (apply bIf.yes; (first | assumption | rfl); (conv => whnf)) | (apply bIf.no; (first | assumption | rfl); (conv => whnf)) | ((with_reducible refine Ob.load (by with_unfolding_all assumption) ?_); (conv => whnf)) | (apply Grows.mk; (first | exact Grow.refl _ | assumption); (conv => whnf)))))
    exact ⟨⟨[], .inr ⟨.inr (.inl h1), rfl⟩, .inl ⟨rfl, rfl⟩⟩, g1⟩
  have d1 : decide (f ≥ (p.2.2.length : Int)) = false := decide_eq_false h1
  obtain ⟨i, rfl⟩ : ∃ i : Nat, f = (i : Int) := ⟨f.toNat, by omega⟩
  (try (conv => whnf)); (repeat ((fail_if_success (with_reducible refine And.intro ?_ ?_)); (fail_if_success (with_reducible refine Exists.intro ?_ ?_)); (first | (apply Ob.of; (first | with_reducible assumption | with_reducible exact ex20 _ _ | with_reducible exact ex21 _ _ | with_reducible exact ex30 _ _ _ | with_reducible exact ex31 _ _ _ | with_reducible exact ex32 _ _ _ | rfl | (exact ald rfl rfl (by assumption) rfl) | (exact ald_agg rfl rfl rfl (by assumption) rfl)); (conv => whnf)) | (apply bIf.yes; (first | assumption | rfl); (conv => whnf)) | (apply bIf.no; (first | assumption | rfl); (conv => whnf)) | ((with_reducible refine Ob.load (by with_unfolding_all assumption) ?_); (conv => whnf)) | (apply Grows.mk; (first | exact Grow.refl _ | assumption); (conv => whnf)))))
  refine (rcheck_ax (strR.grow hp g1) (codeR.grow hcs g1) hL).mono ?_
  rintro v X ⟨hv, e⟩
  subst X
  rcases hv with ⟨rfl, hv⟩ | ⟨rfl, hv⟩
  · obtain ⟨c, hc⟩ := get_lt (L := p.2.2) (m := i) (by omega)
    have hr := hv.2.2.2.2.2.2 i c hc
    obtain ⟨q, sv, i1, hs, i2⟩ := ld_code hcs hc
    have i3 := i2 H1 g1
    (try (conv => whnf)); (repeat ((fail_if_success (with_reducible refine And.intro ?_ ?_)); (fail_if_success (with_reducible refine Exists.intro ?_ ?_)); (first | (apply Ob.of; (first | with_reducible assumption | with_reducible exact ex20 _ _ | with_reducible exact ex21 _ _ | with_reducible exact ex30 _ _ _ | with_reducible exact ex31 _ _ _ | with_reducible exact ex32 _ _ _ | rfl | (exact ald rfl rfl (by assumption) rfl) | (exact ald_agg rfl rfl rfl (by assumption) rfl)); (conv => whnf)) | (apply bIf.yes; (first | assumption | rfl); (conv => whnf)) | (apply bIf.no; (first | assumption | rfl); (conv => whnf)) | ((with_reducible refine Ob.load (by with_unfolding_all assumption) ?_); (conv => whnf)) | (apply Grows.mk; (first | exact Grow.refl _ | assumption); (conv => whnf)))))
    refine (rdepths_ax (insR.grow hs g1) (aims_right hr)).mono ?_
    rintro v H2 ⟨r, hr2, hv2, g2⟩
    cases r with
    | none => obtain ⟨L, hL2⟩ := hr.2.2; exact absurd hr2 hL2.good
    | some L =>
      obtain ⟨q2, rfl, ho⟩ := hv2
      (try (conv => whnf)); (repeat ((fail_if_success (with_reducible refine And.intro ?_ ?_)); (fail_if_success (with_reducible refine Exists.intro ?_ ?_)); (first | (apply Ob.of; (first | with_reducible assumption | with_reducible exact ex20 _ _ | with_reducible exact ex21 _ _ | with_reducible exact ex30 _ _ _ | with_reducible exact ex31 _ _ _ | with_reducible exact ex32 _ _ _ | rfl | (exact ald rfl rfl (by assumption) rfl) | (exact ald_agg rfl rfl rfl (by assumption) rfl)); (conv => whnf)) | (apply bIf.yes; (first | assumption | rfl); (conv => whnf)) | (apply bIf.no; (first | assumption | rfl); (conv => whnf)) | ((with_reducible refine Ob.load (by with_unfolding_all assumption) ?_); (conv => whnf)) | (apply Grows.mk; (first | exact Grow.refl _ | assumption); (conv => whnf)))))
      exact ⟨⟨L, .inl ⟨c, by omega, by rw [Int.toNat_natCast]; exact hc, hv, hr2⟩, dep_row ho⟩, g1.trans g2⟩
  · (try (conv => whnf)); (repeat ((fail_if_success (with_reducible refine And.intro ?_ ?_)); (fail_if_success (with_reducible refine Exists.intro ?_ ?_)); (first | (apply Ob.of; (first | with_reducible assumption | with_reducible exact ex20 _ _ | with_reducible exact ex21 _ _ | with_reducible exact ex30 _ _ _ | with_reducible exact ex31 _ _ _ | with_reducible exact ex32 _ _ _ | rfl | (exact ald rfl rfl (by assumption) rfl) | (exact ald_agg rfl rfl rfl (by assumption) rfl)); (conv => whnf)) | (apply bIf.yes; (first | assumption | rfl); (conv => whnf)) | (apply bIf.no; (first | assumption | rfl); (conv => whnf)) | ((with_reducible refine Ob.load (by with_unfolding_all assumption) ?_); (conv => whnf)) | (apply Grows.mk; (first | exact Grow.refl _ | assumption); (conv => whnf)))))
    exact ⟨⟨[], .inr ⟨.inr (.inr hv), rfl⟩, .inl ⟨rfl, rfl⟩⟩, g1⟩
end Go.Proofs.Ytdlanbfbbopfhaa
