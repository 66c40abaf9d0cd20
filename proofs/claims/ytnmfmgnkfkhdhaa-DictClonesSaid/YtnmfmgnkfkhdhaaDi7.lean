/- A dict in abstract memory: the holes are taken out. -/
import Derived.Test.YtnmfmgnkfkhdhaaDi6
set_option linter.unusedVariables false
set_option linter.unusedSimpArgs false
set_option maxRecDepth 20000
set_option maxHeartbeats 1000000
namespace Go.Proofs.Ytnmfmgnkfkhdhaa
open Go Ax
abbrev hole : Value := .func (.func 29) #[] #[]
theorem hole_ax (H : Heap) (x : Option (ByteArray × V)) : AX Try.prog 29 #[.agg (cellP x).toArray] H (fun v H' => v = .bool x.isNone ∧ H' = H) := by
  refine AX.quiet ?_
  refine AX.body (n := 6) (rs := [.tmp 2]) Try.func29 rfl (by decide) rfl rfl (bC_sound _ _ _ _ ?_)
  cases x with
  | none =>
    (conv => whnf)
    refine Ob2.box rfl fun q H1 hq k1 k2 => ?_
    have hb := hblk_of k1
    (try (conv => whnf)); (repeat (first | (refine Ob.of (by first | with_reducible assumption | with_reducible exact ex20 _ _ | with_reducible exact ex21 _ _ | with_reducible exact ex30 _ _ _ | with_reducible exact ex31 _ _ _ | with_reducible exact ex32 _ _ _ | rfl | (exact ald rfl rfl (by assumption) rfl) | (exact ald_agg rfl rfl rfl (by assumption) rfl)) ?_; (conv => whnf)) | (refine bIf.yes (by first | assumption | rfl) ?_; (conv => whnf)) | (refine bIf.no (by first | assumption | rfl) ?_; (conv => whnf))))
    exact ⟨plain_bool _, rfl, k2⟩
  | some x =>
    (conv => whnf)
    refine Ob2.box rfl fun q H1 hq k1 k2 => ?_
    have hb := hblk_of k1
    (try (conv => whnf)); (repeat (first | (refine Ob.of (by first | with_reducible assumption | with_reducible exact ex20 _ _ | with_reducible exact ex21 _ _ | with_reducible exact ex30 _ _ _ | with_reducible exact ex31 _ _ _ | with_reducible exact ex32 _ _ _ | rfl | (exact ald rfl rfl (by assumption) rfl) | (exact ald_agg rfl rfl rfl (by assumption) rfl)) ?_; (conv => whnf)) | (refine bIf.yes (by first | assumption | rfl) ?_; (conv => whnf)) | (refine bIf.no (by first | assumption | rfl) ?_; (conv => whnf))))
    exact ⟨plain_bool _, rfl, k2⟩
theorem take_some {ps : Places} : ∀ (i : Nat), i ≤ ps.length → (∀ k, k < i → ∃ y, ps[k]? = some (some y)) → ps.take i = (full (ps.take i)).map some := by
  intro i
  induction i with
  | zero => intro _ _; simp
  | succ i ih =>
    intro hi h
    obtain ⟨y, hy⟩ := h i (by omega)
    rw [full_step hy, List.map_append, ← ih (by omega) fun k hk => h k (by omega), List.take_add_one, hy]
    rfl
theorem find_ax {H : Heap} {b : Nat} {ps : Places} {rest : List Value} (hb0 : H[b]? = some (.cells (.row 56) (cellsP ps ++ rest))) (hlen : ps.length ≤ 1000000) :
    AX Try.prog 31 #[.slice (some ⟨b, 0, none⟩) ps.length 5, hole] H (fun v H' => H' = H ∧ ((v = .int .i64 (-1) ∧ ∀ k, k < ps.length → ∃ y, ps[k]? = some (some y)) ∨ ∃ i : Nat, v = .int .i64 (i : Int) ∧ ps[i]? = some none ∧ ∀ k, k < i → ∃ y, ps[k]? = some (some y))) := by
  have hb := hblk_of hb0
  refine AX.body (n := 19) (rs := [.tmp 4]) Try.func31 rfl (by decide) rfl rfl (bC_sound _ _ _ _ ?_)
  (try (conv => whnf)); (repeat (first | (refine Ob.of (by first | with_reducible assumption | with_reducible exact ex20 _ _ | with_reducible exact ex21 _ _ | with_reducible exact ex30 _ _ _ | with_reducible exact ex31 _ _ _ | with_reducible exact ex32 _ _ _ | rfl | (exact ald rfl rfl (by assumption) rfl) | (exact ald_agg rfl rfl rfl (by assumption) rfl)) ?_; (conv => whnf)) | (refine bIf.yes (by first | assumption | rfl) ?_; (conv => whnf)) | (refine bIf.no (by first | assumption | rfl) ?_; (conv => whnf))))
  refine SW.loop (α := Nat) (fun i => [(0, .slice (some ⟨b, 0, none⟩) ps.length 5), (1, hole), (7, .int .i64 (ps.length : Int)), (8, .int .i64 (i : Int))]) (fun i H1 => H1 = H ∧ i ≤ ps.length ∧ ∀ k, k < i → ∃ y, ps[k]? = some (some y)) (fun i => ps.length - i)
    ⟨0, ⟨rfl, rfl, rfl, rfl, trivial⟩, rfl, Nat.zero_le _, fun k hk => by omega⟩ ?_
  rintro i H1 ⟨rfl, hi, hall⟩
  refine bC_sound _ _ _ _ ?_
  have w1 : IntKind.i64.wrap ((i : Int) + 1) = ((i + 1 : Nat) : Int) := wrap_nat (by omega)
  by_cases hil : i < ps.length
  · have d1 : decide ((i : Int) < (ps.length : Int)) = true := decide_eq_true (by omega)
    obtain ⟨x, hx⟩ : ∃ x, ps[i]? = some x := ⟨_, List.getElem?_eq_getElem hil⟩
    have ix := idxP (b := b) hil
    (try (conv => whnf)); (repeat (first | (refine Ob.of (by first | with_reducible assumption | with_reducible exact ex20 _ _ | with_reducible exact ex21 _ _ | with_reducible exact ex30 _ _ _ | with_reducible exact ex31 _ _ _ | with_reducible exact ex32 _ _ _ | rfl | (exact ald rfl rfl (by assumption) rfl) | (exact ald_agg rfl rfl rfl (by assumption) rfl)) ?_; (conv => whnf)) | (refine bIf.yes (by first | assumption | rfl) ?_; (conv => whnf)) | (refine bIf.no (by first | assumption | rfl) ?_; (conv => whnf))))
    refine Ob.of (ald_agg rfl rfl rfl hb (cells_slots hx)) ?_
    (try (conv => whnf)); (repeat (first | (refine Ob.of (by first | with_reducible assumption | with_reducible exact ex20 _ _ | with_reducible exact ex21 _ _ | with_reducible exact ex30 _ _ _ | with_reducible exact ex31 _ _ _ | with_reducible exact ex32 _ _ _ | rfl | (exact ald rfl rfl (by assumption) rfl) | (exact ald_agg rfl rfl rfl (by assumption) rfl)) ?_; (conv => whnf)) | (refine bIf.yes (by first | assumption | rfl) ?_; (conv => whnf)) | (refine bIf.no (by first | assumption | rfl) ?_; (conv => whnf))))
    refine (hole_ax H1 x).mono ?_
    rintro _ X ⟨rfl, e⟩
    subst X
    cases x with
    | none =>
      (try (conv => whnf)); (repeat (first | (refine Ob.of (by first | with_reducible assumption | with_reducible exact ex20 _ _ | with_reducible exact ex21 _ _ | with_reducible exact ex30 _ _ _ | with_reducible exact ex31 _ _ _ | with_reducible exact ex32 _ _ _ | rfl | (exact ald rfl rfl (by assumption) rfl) | (exact ald_agg rfl rfl rfl (by assumption) rfl)) ?_; (conv => whnf)) | (refine bIf.yes (by first | assumption | rfl) ?_; (conv => whnf)) | (refine bIf.no (by first | assumption | rfl) ?_; (conv => whnf))))
      exact ⟨rfl, .inr ⟨i, rfl, hx, hall⟩⟩
    | some y =>
      (try (conv => whnf)); (repeat (first | (refine Ob.of (by first | with_reducible assumption | with_reducible exact ex20 _ _ | with_reducible exact ex21 _ _ | with_reducible exact ex30 _ _ _ | with_reducible exact ex31 _ _ _ | with_reducible exact ex32 _ _ _ | rfl | (exact ald rfl rfl (by assumption) rfl) | (exact ald_agg rfl rfl rfl (by assumption) rfl)) ?_; (conv => whnf)) | (refine bIf.yes (by first | assumption | rfl) ?_; (conv => whnf)) | (refine bIf.no (by first | assumption | rfl) ?_; (conv => whnf))))
      exact ⟨i + 1, ⟨rfl, rfl, rfl, congrArg (fun z => some (Value.int .i64 z)) w1, trivial⟩, ⟨rfl, hil, fun k hk => by
        by_cases hki : k = i
        · subst hki; exact ⟨y, hx⟩
        · exact hall k (by omega)⟩, by show ps.length - (i + 1) < ps.length - i; omega⟩
  · have d1 : decide ((i : Int) < (ps.length : Int)) = false := decide_eq_false (by omega)
    (try (conv => whnf)); (repeat (first | (refine Ob.of (by first | with_reducible assumption | with_reducible exact ex20 _ _ | with_reducible exact ex21 _ _ | with_reducible exact ex30 _ _ _ | with_reducible exact ex31 _ _ _ | with_reducible exact ex32 _ _ _ | rfl | (exact ald rfl rfl (by assumption) rfl) | (exact ald_agg rfl rfl rfl (by assumption) rfl)) ?_; (conv => whnf)) | (refine bIf.yes (by first | assumption | rfl) ?_; (conv => whnf)) | (refine bIf.no (by first | assumption | rfl) ?_; (conv => whnf))))
    exact ⟨rfl, .inl ⟨rfl, fun k hk => hall k (by omega)⟩⟩
theorem zeros_place (n : Nat) : (zerosL (cellP none) n).length = n * 5 := by rw [zerosL_length, cellP_len]
theorem clear_ex {H : Heap} {b i n : Nat} {qs : Places} {rest : List Value} (hb0 : H[b]? = some (.cells (.row 56) (cellsP qs ++ rest))) (hn : qs.length = n) (hi : i ≤ n) :
    ∃ H2 rest', aclear Try.prog 49 (.slice (some ⟨b, i * 5, none⟩) (n - i) 5) H = some H2 ∧ H2[b]? = some (.cells (.row 56) (cellsP (qs.take i) ++ rest')) ∧ But b H H2 := by
  have hsp : cellsP qs = cellsP (qs.take i) ++ cellsP (qs.drop i) := by
    conv => lhs; rw [← List.take_append_drop i qs]
    simp only [cellsP, List.flatMap_append]
  by_cases h0 : n - i = 0
  · refine ⟨H, cellsP (qs.drop i) ++ rest, ?_, by rw [← List.append_assoc, ← hsp]; exact hb0, .refl _ _⟩
    simp [aclear, show sliceElem Try.prog 49 = some 56 from rfl, show tzero Try.prog 56 = some (cellP none) from rfl, h0]
  · obtain ⟨c, hc⟩ : ∃ c, c = putL (cellsP qs ++ rest) (i * 5) (zerosL (cellP none) (n - i)) := ⟨_, rfl⟩
    have hcl : c.length = (cellsP qs ++ rest).length := by rw [hc, putL_length]
    have hlq := cellsP_len qs
    have ht : c.take (i * 5) = cellsP (qs.take i) := by
      apply List.ext_getElem?
      intro q
      rw [List.getElem?_take]
      have hlt := cellsP_len (qs.take i)
      rw [List.length_take] at hlt
      split
      · rename_i hq
        rw [hc, putL_get, if_neg (by omega), hsp, List.append_assoc, List.getElem?_append_left (by omega)]
      · rename_i hq
        rw [List.getElem?_eq_none (by omega)]
    refine ⟨H.set b (.cells (.row 56) c), c.drop (i * 5), ?_, ?_, .set _ _⟩
    · have hle : i * 5 + (zerosL (cellP none) (n - i)).length ≤ (cellsP qs ++ rest).length := by rw [zeros_place, List.length_append, hlq]; omega
      simp only [aclear, show sliceElem Try.prog 49 = some 56 from rfl, show tzero Try.prog 56 = some (cellP none) from rfl, Option.bind_some, if_neg h0, hput, hb0]
      rw [if_pos ⟨rfl, hle⟩, hc]
    · rw [at_set hb0, ← ht, List.take_append_drop]
end Go.Proofs.Ytnmfmgnkfkhdhaa
