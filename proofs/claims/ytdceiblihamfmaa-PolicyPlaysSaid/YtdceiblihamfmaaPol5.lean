/- A policy: a new one. -/
import Derived.Test.YtdceiblihamfmaaPol4
set_option linter.unusedVariables false
set_option linter.unusedSimpArgs false
namespace Go.Proofs.Ytdceiblihamfmaa
open Go Ax
theorem clone_nil (H : Heap) : AX Try.prog 18 #[.slice none 0 0] H (fun v H' => v = .slice none 0 0 ∧ H' = H) := by
  refine AX.body (n := 8) (rs := [.tmp 2]) Try.func18 rfl (by decide) rfl rfl (bC_sound _ _ _ _ ?_)
  (try (conv => whnf)); repeat (first | (refine Ob.of (by first | rfl | (exact ald rfl rfl (by assumption) rfl) | (exact ald_agg rfl rfl rfl (by assumption) rfl)) ?_; (conv => whnf)) | (refine bIf.yes (by first | assumption | rfl) ?_; (conv => whnf)) | (refine bIf.no (by first | assumption | rfl) ?_; (conv => whnf)))
  exact ⟨rfl, rfl⟩
theorem clone_ax {H : Heap} {b off len : Nat} {m : Ax.Mode} {c l : List Value} (hb : len ≠ 0 → H[b]? = some (.cells m c)) (hs : len ≠ 0 → slotsOf c off (len * 2) = some l) (hl : len ≤ 400) :
    AX Try.prog 18 #[.slice (some ⟨b, off, none⟩) len 2] H (fun v H' => Grow H H' ∧ ∃ q, v = .slice (some ⟨q, 0, none⟩) len 2 ∧ (len ≠ 0 → H'[q]? = some (.cells (.row 28) l))) := by
  refine AX.body (n := 8) (rs := [.tmp 2]) Try.func18 rfl (by decide) rfl rfl (bC_sound _ _ _ _ ?_)
  (try (conv => whnf)); repeat (first | (refine Ob.of (by first | rfl | (exact ald rfl rfl (by assumption) rfl) | (exact ald_agg rfl rfl rfl (by assumption) rfl)) ?_; (conv => whnf)) | (refine bIf.yes (by first | assumption | rfl) ?_; (conv => whnf)) | (refine bIf.no (by first | assumption | rfl) ?_; (conv => whnf)))
  refine Ob2.of (by rfl) ?_
  (conv => whnf)
  by_cases h0 : len = 0
  · subst h0
    refine Ob2.of (append_zero rfl rfl (k := 2) rfl rfl rfl (by decide) rfl rfl rfl (src_zero rfl) (.inr ⟨_, _, rfl⟩)) ?_
    (try (conv => whnf)); repeat (first | (refine Ob.of (by first | rfl | (exact ald rfl rfl (by assumption) rfl) | (exact ald_agg rfl rfl rfl (by assumption) rfl)) ?_; (conv => whnf)) | (refine bIf.yes (by first | assumption | rfl) ?_; (conv => whnf)) | (refine bIf.no (by first | assumption | rfl) ?_; (conv => whnf)))
    exact ⟨.push _ _, _, rfl, fun h => absurd rfl h⟩
  · have h1 : (H ++ [Blk.cells (.row 28) []])[b]? = some (.cells m c) := (Grow.push H _).at (hb h0)
    have ha : aappend Try.prog 22 22 (.slice (some ⟨H.length, 0, none⟩) 0 2) (.slice (some ⟨b, off, none⟩) len 2) (H ++ [.cells (.row 28) []]) = some (.slice (some ⟨H.length + 1, 0, none⟩) len 2, H ++ [.dead] ++ [.cells (.row 28) l]) := by
      rw [append_row (b := H.length) (m := 0) (k := 2) (old := []) rfl rfl rfl rfl rfl (by decide) rfl rfl rfl (src_some h0 (hblk_of h1) (hs h0)) h0 (at_push _ _) rfl (show (0 + len) * 16 ≤ _ by omega) (by simp only [maxLen]; omega)]
      simp
    refine Ob2.of ha ?_
    (try (conv => whnf)); repeat (first | (refine Ob.of (by first | rfl | (exact ald rfl rfl (by assumption) rfl) | (exact ald_agg rfl rfl rfl (by assumption) rfl)) ?_; (conv => whnf)) | (refine bIf.yes (by first | assumption | rfl) ?_; (conv => whnf)) | (refine bIf.no (by first | assumption | rfl) ?_; (conv => whnf)))
    refine ⟨by rw [List.append_assoc]; exact .push _ _, _, rfl, fun _ => ?_⟩
    simp
theorem PkC.len {c : List Value} {off : Nat} {L : List (Int × Int)} (h : PkC c off L) (h0 : L ≠ []) : off + L.length * 2 ≤ c.length := by
  have hl : 0 < L.length := List.length_pos_iff.2 h0
  obtain ⟨_, h2⟩ := h (L.length - 1) (L[L.length - 1]'(by omega)) (List.getElem?_eq_getElem _)
  have := (List.getElem?_eq_some_iff.1 h2).1
  omega
theorem PkC.cut {c l : List Value} {off n : Nat} {L : List (Int × Int)} (h : PkC c off L) (hs : slotsOf c off (n * 2) = some l) : PkC l 0 (L.take n) := by
  intro i x hx
  have hi : i < n ∧ L[i]? = some x := by
    rw [List.getElem?_take] at hx
    split at hx
    · exact ⟨by assumption, hx⟩
    · simp at hx
  obtain ⟨h1, h2⟩ := h i x hi.2
  unfold slotsOf at hs
  split at hs
  · simp only [Option.some.injEq] at hs
    subst hs
    rw [List.getElem?_take_of_lt (by omega), List.getElem?_take_of_lt (by omega), List.getElem?_drop, List.getElem?_drop]
    rw [show off + (0 + i * 2) = off + i * 2 by omega, show off + (0 + i * 2 + 1) = off + i * 2 + 1 by omega]
    exact ⟨h1, h2⟩
  · simp at hs
def clampF (fns : Int) : Int := if (if (32 : Int) < fns then 32 else fns) > 0 then (if (32 : Int) < fns then 32 else fns) else 0
theorem clampF_in (fns : Int) : 0 ≤ clampF fns ∧ clampF fns ≤ 32 := by
  unfold clampF
  split <;> split <;> omega
def cut400 (n : Int) : Int := if (400 : Int) < n then 400 else n
theorem new_ax {H : Heap} {sv : Value} {L : List (Int × Int)} (h : Pk H sv L) (fns : Int) :
    AX Try.prog 8 #[sv, .int .i64 fns] H (fun v H' => Grow H H' ∧ ∃ p, v = ptr p ∧ H.length ≤ p ∧ Pol H' p (L.take 400) (clampF fns) 8 (List.replicate 32 0)) := by
  obtain ⟨f0, f1⟩ := clampF_in fns
  refine AX.body (n := 16) (rs := [.tmp 4]) Try.func8 rfl (by decide) rfl rfl (bC_sound _ _ _ _ ?_)
  rcases h with ⟨rfl, rfl⟩ | ⟨b, off, rfl, h⟩
  · (try (conv => whnf)); repeat (first | (refine Ob.of (by first | rfl | (exact ald rfl rfl (by assumption) rfl) | (exact ald_agg rfl rfl rfl (by assumption) rfl)) ?_; (conv => whnf)) | (refine bIf.yes (by first | assumption | rfl) ?_; (conv => whnf)) | (refine bIf.no (by first | assumption | rfl) ?_; (conv => whnf)))
    refine (clone_nil H).mono ?_
    rintro _ X ⟨rfl, e⟩
    subst X
    (try (conv => whnf)); repeat (first | (refine Ob.of (by first | rfl | (exact ald rfl rfl (by assumption) rfl) | (exact ald_agg rfl rfl rfl (by assumption) rfl)) ?_; (conv => whnf)) | (refine bIf.yes (by first | assumption | rfl) ?_; (conv => whnf)) | (refine bIf.no (by first | assumption | rfl) ?_; (conv => whnf)))
    refine Ob2.box rfl fun q H1 hq k1 k2 => ?_
    (try (conv => whnf)); repeat (first | (refine Ob.of (by first | rfl | (exact ald rfl rfl (by assumption) rfl) | (exact ald_agg rfl rfl rfl (by assumption) rfl)) ?_; (conv => whnf)) | (refine bIf.yes (by first | assumption | rfl) ?_; (conv => whnf)) | (refine bIf.no (by first | assumption | rfl) ?_; (conv => whnf)))
    exact ⟨k2, q, rfl, by omega, _, k1, by simp, f0, f1, .inl ⟨rfl, rfl⟩⟩
  · (try (conv => whnf)); repeat (first | (refine Ob.of (by first | rfl | (exact ald rfl rfl (by assumption) rfl) | (exact ald_agg rfl rfl rfl (by assumption) rfl)) ?_; (conv => whnf)) | (refine bIf.yes (by first | assumption | rfl) ?_; (conv => whnf)) | (refine bIf.no (by first | assumption | rfl) ?_; (conv => whnf)))
    have hn : 0 ≤ cut400 L.length ∧ cut400 L.length ≤ L.length ∧ cut400 L.length ≤ 400 := by unfold cut400; split <;> omega
    refine Ob.of (slice_hi (k := 2) (n := cut400 L.length) rfl rfl hn.1 hn.2.1) ?_
    have hlen : (L.take 400).length = (cut400 L.length).toNat := by simp only [List.length_take, cut400]; split <;> omega
    have hall : ∃ m c l, ((cut400 L.length).toNat ≠ 0 → H[b]? = some (.cells m c)) ∧ ((cut400 L.length).toNat ≠ 0 → slotsOf c off ((cut400 L.length).toNat * 2) = some l) ∧ ((cut400 L.length).toNat ≠ 0 → PkC l 0 (L.take 400)) := by
      rcases h with rfl | ⟨m, c, h1, h2, h3⟩
      · exact ⟨.ro, [], [], fun h => absurd rfl h, fun h => absurd rfl h, fun h => absurd rfl h⟩
      · by_cases h0 : L = []
        · subst h0; exact ⟨.ro, [], [], fun h => absurd rfl h, fun h => absurd rfl h, fun h => absurd rfl h⟩
        · have hle := h3.len h0
          have hs := slots_of (c := c) (off := off) (n := (cut400 L.length).toNat * 2) (by omega)
          refine ⟨m, c, _, fun _ => h1, fun _ => hs, fun _ => ?_⟩
          have := h3.cut hs
          have e : L.take (cut400 L.length).toNat = L.take 400 := List.take_eq_take_iff.2 (by rw [← hlen, List.length_take]; omega)
          rwa [e] at this
    obtain ⟨m, c, l, a1, a2, a3⟩ := hall
    (conv => whnf)
    refine (clone_ax a1 a2 (by omega)).mono ?_
    rintro _ H1 ⟨g1, q1, rfl, g2⟩
    (try (conv => whnf)); repeat (first | (refine Ob.of (by first | rfl | (exact ald rfl rfl (by assumption) rfl) | (exact ald_agg rfl rfl rfl (by assumption) rfl)) ?_; (conv => whnf)) | (refine bIf.yes (by first | assumption | rfl) ?_; (conv => whnf)) | (refine bIf.no (by first | assumption | rfl) ?_; (conv => whnf)))
    refine Ob2.box rfl fun q H2 hq k1 k2 => ?_
    (try (conv => whnf)); repeat (first | (refine Ob.of (by first | rfl | (exact ald rfl rfl (by assumption) rfl) | (exact ald_agg rfl rfl rfl (by assumption) rfl)) ?_; (conv => whnf)) | (refine bIf.yes (by first | assumption | rfl) ?_; (conv => whnf)) | (refine bIf.no (by first | assumption | rfl) ?_; (conv => whnf)))
    refine ⟨g1.trans k2, q, rfl, by have := g1.1; omega, _, k1, by simp, f0, f1, .inr ⟨q1, 0, by rw [hlen], ?_⟩⟩
    by_cases h0 : (cut400 L.length).toNat = 0
    · exact .inl (List.length_eq_zero_iff.1 (by omega))
    · exact .inr ⟨_, l, k2.at (g2 h0), rfl, a3 h0⟩
end Go.Proofs.Ytdceiblihamfmaa
