/- Package code and its document: may a code be? -/
import Derived.Test.YtdlanbfbbopfhaaCo15
set_option linter.unusedVariables false
set_option linter.unusedSimpArgs false
set_option maxRecDepth 20000
set_option maxHeartbeats 8000000
namespace Go.Proofs.Ytdlanbfbbopfhaa
open Go Ax
def Lim (f : Int) (c : CodeT) : Prop := 0 ≤ c.1 ∧ c.1 ≤ 6 ∧ c.1 ≤ c.2.1 ∧ c.2.1 ≤ 24 ∧ 0 ≤ c.2.2.1 ∧ c.2.2.1 ≤ 4000 ∧ 0 ≤ c.2.2.2.1 ∧ c.2.2.2.1 ≤ 64 ∧ 1 ≤ c.ins.length ∧ c.ins.length ≤ 4000 ∧ (f = 0 → c.2.1 ≤ 0)
def AllIns (p : ProgT) (c : CodeT) (n : Nat) : Prop := ∀ (i : Nat) (x : Ins), i < n → c.ins[i]? = some x → insP p c i x
def RightP (p : ProgT) (f : Int) (c : CodeT) : Prop := Lim f c ∧ AllIns p c c.ins.length ∧ ∃ L, Closed c L
theorem aims_of {p : ProgT} {f : Int} {c : CodeT} (h : Lim f c) (k : AllIns p c c.ins.length) : Aims c := by
  obtain ⟨h1, h2, h3, h4, h5, h6, h7, h8, h9, h10, h11⟩ := h
  refine ⟨h10, by omega, h7, h8, fun i x hx hg => ?_⟩
  exact arg_goes (k i x (lt_of_get hx) hx).1 hg
theorem right_of {p : ProgT} {f : Int} {c : CodeT} {r : Option (List Int)} (h : Lim f c) (k : AllIns p c c.ins.length) (d : DS c r) : r.isSome = true ↔ RightP p f c := by
  cases r with
  | none => exact ⟨fun h => by simp at h, fun ⟨_, _, L, hL⟩ => absurd d hL.good⟩
  | some L => exact ⟨fun _ => ⟨h, k, L, d⟩, fun _ => rfl⟩
theorem DV.ok {H : Heap} {v : Value} {r : Option (List Int)} (h : DV H v r) : ∃ sv, v = .tuple #[sv, .bool r.isSome] := by
  cases r with
  | none => exact ⟨_, h⟩
  | some L => obtain ⟨q, h, _⟩ := h; exact ⟨_, h⟩
theorem all_next {p : ProgT} {c : CodeT} {m : Nat} {x : Ins} (h : AllIns p c m) (hx : c.ins[m]? = some x) (hp : insP p c m x) : AllIns p c (m + 1) := by
  intro i y hi hy
  by_cases him : i = m
  · subst him; rw [hx] at hy; simp only [Option.some.injEq] at hy; subst hy; exact hp
  · exact h i y (by omega) hy
theorem right_ax {H : Heap} {p : ProgT} {ps cs : Value} (hp : RL 1 strR H ps p.2.1) (hcs : RL 5 codeR H cs p.2.2) {f : Nat} {c : CodeT} (hf : p.2.2[f]? = some c) :
    AX Try.prog 43 #[progV p ps cs, .int .i64 (f : Int)] H (fun v H' => (∃ b, v = .bool b ∧ (b = true ↔ RightP p f c)) ∧ H' = H) := by
  refine AX.quiet ?_
  suffices hh : AX Try.prog 43 #[progV p ps cs, .int .i64 (f : Int)] H (fun v H' => (∃ b, v = .bool b ∧ (b = true ↔ RightP p f c)) ∧ Grow H H') from hh.mono fun v _ ⟨⟨b, e, k⟩, g⟩ => ⟨e ▸ plain_bool _, ⟨b, e, k⟩, g⟩
  refine AX.body (n := 93) (rs := [.tmp 4]) Try.func43 rfl (by decide) rfl rfl (bC_sound _ _ _ _ ?_)
  (conv => whnf)
  refine Ob2.box rfl fun q1 H1 hq1 a1 g1 => ?_
  have b1 := hblk_of a1
  obtain ⟨q, sv, i1, hs, i2⟩ := ld_code hcs hf
  have i3 := i2 H1 g1
  (try (conv => whnf)); (repeat ((fail_if_success (with_reducible refine And.intro ?_ ?_)); (fail_if_success (with_reducible refine Exists.intro ?_ ?_)); (first | (apply Ob.of; (first | with_reducible assumption | with_reducible exact ex20 _ _ | with_reducible exact ex21 _ _ | with_reducible exact ex30 _ _ _ | with_reducible exact ex31 _ _ _ | with_reducible exact ex32 _ _ _ | rfl | (exact ald rfl rfl (by assumption) rfl) | (exact ald_agg rfl rfl rfl (by assumption) rfl)); (conv => whnf)) | (apply bIf.yes; (first | assumption | rfl); (conv => whnf)) | (apply bIf.no; (first | assumption | rfl); (conv => whnf)) | ((with_reducible refine Ob.load (by with_unfolding_all assumption) ?_); (conv => whnf)) | (apply Grows.mk; (first | exact Grow.refl _ | assumption); (conv => whnf)))))
  refine Ob2.alloc rfl fun q2 H2 hq2 a2 g2 => ?_
  (try (conv => whnf)); (repeat ((fail_if_success (with_reducible refine And.intro ?_ ?_)); (fail_if_success (with_reducible refine Exists.intro ?_ ?_)); (first | (apply Ob.of; (first | with_reducible assumption | with_reducible exact ex20 _ _ | with_reducible exact ex21 _ _ | with_reducible exact ex30 _ _ _ | with_reducible exact ex31 _ _ _ | with_reducible exact ex32 _ _ _ | rfl | (exact ald rfl rfl (by assumption) rfl) | (exact ald_agg rfl rfl rfl (by assumption) rfl)); (conv => whnf)) | (apply bIf.yes; (first | assumption | rfl); (conv => whnf)) | (apply bIf.no; (first | assumption | rfl); (conv => whnf)) | ((with_reducible refine Ob.load (by with_unfolding_all assumption) ?_); (conv => whnf)) | (apply Grows.mk; (first | exact Grow.refl _ | assumption); (conv => whnf)))))
  refine Ob.store rfl rfl rfl a2 rfl (by first | exact Nat.le_of_ble_eq_true rfl | simp) fun H3 s1 s2 s3 => ?_
  have g3 : Grow H1 H3 := g2.but_new s2 (by omega)
  have b3 := g3.hblk b1
  have b4 := hblk_of s1
  have g : Grow H H3 := g1.trans g3
  have l1 : alen Try.prog 47 sv H3 = some (.int .i64 c.ins.length) := hs.len rfl _
  clear a1 a2 s1 s2 g2 i3
  (try (conv => whnf)); (repeat' ((fail_if_success (with_reducible refine And.intro ?_ ?_)); (fail_if_success (with_reducible refine Exists.intro ?_ ?_)); (first | (first | (apply Ob.of; (first | with_reducible assumption | with_reducible exact ex20 _ _ | with_reducible exact ex21 _ _ | with_reducible exact ex30 _ _ _ | with_reducible exact ex31 _ _ _ | with_reducible exact ex32 _ _ _ | rfl | (exact ald rfl rfl (by assumption) rfl) | (exact ald_agg rfl rfl rfl (by assumption) rfl)); (conv => whnf)) | (apply bIf.yes; (first | assumption | rfl); (conv => whnf)) | (apply bIf.no; (first | assumption | rfl); (conv => whnf)) | ((with_reducible refine Ob.load (by with_unfolding_all assumption) ?_); (conv => whnf)) | (apply Grows.mk; (first | exact Grow.refl _ | assumption); (conv => whnf))) | (apply bIf.of <;> intro hc <;> (conv => whnf)))))
  rotate_right
  rotate_left
  all_goals first
    | (refine ⟨⟨false, rfl, fun h => by simp at h, fun h => ?_⟩, g⟩
       exfalso
       obtain ⟨⟨h1, h2, h3, h4, h5, h6, h7, h8, h9, h10, h11⟩, _⟩ := h
       clear b3 b4 l1 i1 i2 hs b1
       (simp only [ba_ne_t, ba_ne_f, ba_eq_t, ba_eq_f, bne_iff_ne, bne_eq_false_iff_eq, decide_eq_true_eq, decide_eq_false_iff_not, beq_iff_eq, beq_eq_false_iff_ne, ne_eq, Bool.not_eq_true, Bool.not_eq_false, Bool.not_eq_true', Bool.not_eq_false'] at *)
       omega)
    | skip
  all_goals
    have hl : Lim f c := by
      clear b3 b4 l1 i1 i2 hs b1
      unfold Lim
      (simp only [ba_ne_t, ba_ne_f, ba_eq_t, ba_eq_f, bne_iff_ne, bne_eq_false_iff_eq, decide_eq_true_eq, decide_eq_false_iff_not, beq_iff_eq, beq_eq_false_iff_ne, ne_eq, Bool.not_eq_true, Bool.not_eq_false, Bool.not_eq_true', Bool.not_eq_false'] at *)
      omega
    refine SW.loop (α := Nat) (fun m => [(2, .pointer (some ⟨q1, 0, none⟩)), (5, .pointer (some ⟨q2, 0, none⟩)), (77, .int .i64 (c.ins.length : Int)), (78, .int .i64 (m : Int))]) (fun m H' => m ≤ c.ins.length ∧ AllIns p c m ∧ H' = H3) (fun m => c.ins.length - m) ⟨0, ⟨rfl, rfl, rfl, rfl, trivial⟩, by omega, fun i x hi => by omega, rfl⟩ ?_
    rintro m X ⟨hm, ht, e⟩
    subst X
    refine bC_sound _ _ _ _ ?_
    by_cases hml : m < c.ins.length
    · have d1 : decide ((m : Int) < (c.ins.length : Int)) = true := decide_eq_true (by omega)
      obtain ⟨x, hx⟩ := get_lt hml
      (try (conv => whnf)); (repeat ((fail_if_success (with_reducible refine And.intro ?_ ?_)); (fail_if_success (with_reducible refine Exists.intro ?_ ?_)); (first | (apply Ob.of; (first | with_reducible assumption | with_reducible exact ex20 _ _ | with_reducible exact ex21 _ _ | with_reducible exact ex30 _ _ _ | with_reducible exact ex31 _ _ _ | with_reducible exact ex32 _ _ _ | rfl | (exact ald rfl rfl (by assumption) rfl) | (exact ald_agg rfl rfl rfl (by assumption) rfl)); (conv => whnf)) | (apply bIf.yes; (first | assumption | rfl); (conv => whnf)) | (apply bIf.no; (first | assumption | rfl); (conv => whnf)) | ((with_reducible refine Ob.load (by with_unfolding_all assumption) ?_); (conv => whnf)) | (apply Grows.mk; (first | exact Grow.refl _ | assumption); (conv => whnf)))))
      refine (instr_ax (strR.grow hp g) (codeR.grow hcs g) (insR.grow hs g) hx).mono ?_
      rintro _ X ⟨rfl, e⟩
      subst X
      by_cases hi : insP p c m x
      · rw [decide_eq_true hi]
        (try (conv => whnf)); (repeat ((fail_if_success (with_reducible refine And.intro ?_ ?_)); (fail_if_success (with_reducible refine Exists.intro ?_ ?_)); (first | (apply Ob.of; (first | with_reducible assumption | with_reducible exact ex20 _ _ | with_reducible exact ex21 _ _ | with_reducible exact ex30 _ _ _ | with_reducible exact ex31 _ _ _ | with_reducible exact ex32 _ _ _ | rfl | (exact ald rfl rfl (by assumption) rfl) | (exact ald_agg rfl rfl rfl (by assumption) rfl)); (conv => whnf)) | (apply bIf.yes; (first | assumption | rfl); (conv => whnf)) | (apply bIf.no; (first | assumption | rfl); (conv => whnf)) | ((with_reducible refine Ob.load (by with_unfolding_all assumption) ?_); (conv => whnf)) | (apply Grows.mk; (first | exact Grow.refl _ | assumption); (conv => whnf)))))
        exact ⟨m + 1, ⟨rfl, rfl, rfl, congrArg (fun z => some (Value.int .i64 z)) (w_succ (by have := hl; unfold Lim at this; omega)), trivial⟩, ⟨hml, all_next ht hx hi, rfl⟩, by show c.ins.length - (m + 1) < c.ins.length - m; omega⟩
      · rw [decide_eq_false hi]
        (try (conv => whnf)); (repeat ((fail_if_success (with_reducible refine And.intro ?_ ?_)); (fail_if_success (with_reducible refine Exists.intro ?_ ?_)); (first | (apply Ob.of; (first | with_reducible assumption | with_reducible exact ex20 _ _ | with_reducible exact ex21 _ _ | with_reducible exact ex30 _ _ _ | with_reducible exact ex31 _ _ _ | with_reducible exact ex32 _ _ _ | rfl | (exact ald rfl rfl (by assumption) rfl) | (exact ald_agg rfl rfl rfl (by assumption) rfl)); (conv => whnf)) | (apply bIf.yes; (first | assumption | rfl); (conv => whnf)) | (apply bIf.no; (first | assumption | rfl); (conv => whnf)) | ((with_reducible refine Ob.load (by with_unfolding_all assumption) ?_); (conv => whnf)) | (apply Grows.mk; (first | exact Grow.refl _ | assumption); (conv => whnf)))))
        exact ⟨⟨false, rfl, fun h => by simp at h, fun h => absurd (h.2.1 m x hml hx) hi⟩, g⟩
    · have d1 : decide ((m : Int) < (c.ins.length : Int)) = false := decide_eq_false (by omega)
      have hme : m = c.ins.length := by omega
      rw [hme] at ht
      (try (conv => whnf)); (repeat ((fail_if_success (with_reducible refine And.intro ?_ ?_)); (fail_if_success (with_reducible refine Exists.intro ?_ ?_)); (first | (apply Ob.of; (first | with_reducible assumption | with_reducible exact ex20 _ _ | with_reducible exact ex21 _ _ | with_reducible exact ex30 _ _ _ | with_reducible exact ex31 _ _ _ | with_reducible exact ex32 _ _ _ | rfl | (exact ald rfl rfl (by assumption) rfl) | (exact ald_agg rfl rfl rfl (by assumption) rfl)); (conv => whnf)) | (apply bIf.yes; (first | assumption | rfl); (conv => whnf)) | (apply bIf.no; (first | assumption | rfl); (conv => whnf)) | ((with_reducible refine Ob.load (by with_unfolding_all assumption) ?_); (conv => whnf)) | (apply Grows.mk; (first | exact Grow.refl _ | assumption); (conv => whnf)))))
      refine (depths_ax (insR.grow hs g) (aims_of hl ht)).mono ?_
      rintro v H5 ⟨r, hr, hv, g5⟩
      obtain ⟨sv', rfl⟩ := hv.ok
      (try (conv => whnf)); (repeat ((fail_if_success (with_reducible refine And.intro ?_ ?_)); (fail_if_success (with_reducible refine Exists.intro ?_ ?_)); (first | (apply Ob.of; (first | with_reducible assumption | with_reducible exact ex20 _ _ | with_reducible exact ex21 _ _ | with_reducible exact ex30 _ _ _ | with_reducible exact ex31 _ _ _ | with_reducible exact ex32 _ _ _ | rfl | (exact ald rfl rfl (by assumption) rfl) | (exact ald_agg rfl rfl rfl (by assumption) rfl)); (conv => whnf)) | (apply bIf.yes; (first | assumption | rfl); (conv => whnf)) | (apply bIf.no; (first | assumption | rfl); (conv => whnf)) | ((with_reducible refine Ob.load (by with_unfolding_all assumption) ?_); (conv => whnf)) | (apply Grows.mk; (first | exact Grow.refl _ | assumption); (conv => whnf)))))
      exact ⟨⟨r.isSome, rfl, right_of hl ht hr⟩, g.trans g5⟩
end Go.Proofs.Ytdlanbfbbopfhaa
