/- The document's dict in abstract memory: its methods. -/
import Derived.Test.YtnmfmgnkfkhdhaaDi11
set_option linter.unusedVariables false
set_option linter.unusedSimpArgs false
set_option maxRecDepth 20000
set_option maxHeartbeats 2000000
namespace Go.Proofs.Ytnmfmgnkfkhdhaa
open Go Ax
theorem idxS {L : List ByteArray} {b i : Nat} (h : i < L.length) : aindexAddr Try.prog 26 (.slice (some ⟨b, 0, none⟩) L.length 1) (.int .i64 (i : Int)) = some (.pointer (some ⟨b, i, none⟩)) := by
  rw [idx_slice (off := 0) (k := 1) rfl rfl (by omega) (by omega)]; simp
theorem idxV {L : List V} {b i : Nat} (h : i < L.length) : aindexAddr Try.prog 27 (.slice (some ⟨b, 0, none⟩) L.length 3) (.int .i64 (i : Int)) = some (.pointer (some ⟨b, i * 3, none⟩)) := by
  rw [idx_slice (off := 0) (k := 3) rfl rfl (by omega) (by omega)]; simp
/-- A string of a slice of strings. -/
theorem Strs.at {H : Heap} {v : Value} {L : List ByteArray} (h : Strs H v L) {i : Nat} {s : ByteArray} (hs : L[i]? = some s) : ∃ p, aindexAddr Try.prog 26 v (.int .i64 (i : Int)) = some p ∧ aload Try.prog 9 p H = some (.string s) := by
  have hl := (List.getElem?_eq_some_iff.1 hs).1
  rcases h with ⟨rfl, rfl⟩ | ⟨g, rfl, h2, h3⟩
  · simp at hs
  · exact ⟨_, idxS hl, ald rfl rfl (hblk_of h3) (by simp [hs])⟩
theorem Vals.at {H : Heap} {v : Value} {L : List V} (h : Vals H v L) {i : Nat} {x : V} (hs : L[i]? = some x) : ∃ p, aindexAddr Try.prog 27 v (.int .i64 (i : Int)) = some p ∧ aload Try.prog 32 p H = some (valV x) := by
  have hl := (List.getElem?_eq_some_iff.1 hs).1
  rcases h with ⟨rfl, rfl⟩ | ⟨g, rfl, h2, h3⟩
  · simp at hs
  · exact ⟨_, idxV hl, ald_agg rfl rfl rfl (hblk_of h3) (vals_slots hs)⟩
theorem Vals.len {H : Heap} {v : Value} {L : List V} (h : Vals H v L) (H' : Heap) : alen Try.prog 27 v H' = some (.int .i64 (L.length : Int)) := by rcases h with ⟨rfl, rfl⟩ | ⟨g, rfl, _⟩ <;> rfl
def atI (L : List (ByteArray × V)) (n : ByteArray) : Int := match idxOf L n with | some j => j | none => -1
theorem idx_first {L : List (ByteArray × V)} {n : ByteArray} {v : V} {k : Nat} (h : L[k]? = some (n, v)) (hb : ∀ j, j < k → ∀ u, L[j]? ≠ some (n, u)) : idxOf L n = some k := by
  obtain ⟨hl, he⟩ := List.getElem?_eq_some_iff.1 h
  rw [idxOf, List.findIdx?_eq_some_iff_getElem]
  refine ⟨hl, by rw [he]; simp, fun j hj => ?_⟩
  rw [Bool.not_eq_true, decide_eq_false]
  intro e
  refine hb j hj L[j].2 ?_
  rw [List.getElem?_eq_getElem (by omega), ← e]
theorem at_ax {H : Heap} {q : Nat} {L : List (ByteArray × V)} (h : RD H q L) (hlen : L.length ≤ 1000000) (n : ByteArray) :
    AX Try.prog 27 #[ptr q, .string n] H (fun v H' => v = .int .i64 (atI L n) ∧ H' = H) := by
  obtain ⟨nv, vv, h1, h2, h3⟩ := h
  have hb := hblk_of h1
  have hl := h2.len H
  rw [List.length_map] at hl
  refine AX.body (n := 25) (rs := [.tmp 4]) Try.func27 rfl (by decide) rfl rfl (bC_sound _ _ _ _ ?_)
  (try (conv => whnf)); (repeat (first | (refine Ob.of (by first | with_reducible assumption | with_reducible exact ex20 _ _ | with_reducible exact ex21 _ _ | with_reducible exact ex30 _ _ _ | with_reducible exact ex31 _ _ _ | with_reducible exact ex32 _ _ _ | rfl | (exact ald rfl rfl (by assumption) rfl) | (exact ald_agg rfl rfl rfl (by assumption) rfl)) ?_; (conv => whnf)) | (refine bIf.yes (by first | assumption | rfl) ?_; (conv => whnf)) | (refine bIf.no (by first | assumption | rfl) ?_; (conv => whnf))))
  refine SW.loop (α := Nat) (fun k => [(0, ptr q), (1, .string n), (5, .int .i64 (k : Int))]) (fun k H1 => H1 = H ∧ k ≤ L.length ∧ ∀ j, j < k → ∀ u, L[j]? ≠ some (n, u)) (fun k => L.length - k)
    ⟨0, ⟨rfl, rfl, rfl, trivial⟩, rfl, Nat.zero_le _, fun j hj => by omega⟩ ?_
  rintro k H1 ⟨rfl, hk, hbef⟩
  refine bC_sound _ _ _ _ ?_
  have w1 : IntKind.i64.wrap ((k : Int) + 1) = ((k + 1 : Nat) : Int) := wrap_nat (by omega)
  by_cases hkl : k < L.length
  · have d1 : decide ((k : Int) < (L.length : Int)) = true := decide_eq_true (by omega)
    obtain ⟨⟨m, v⟩, hx⟩ : ∃ x, L[k]? = some x := ⟨_, List.getElem?_eq_getElem hkl⟩
    obtain ⟨pp, i1, i2⟩ := h2.at (i := k) (s := m) (by simp [hx])
    by_cases hm : m = n
    · have d2 : (m == n) = true := by rw [ba_beq]; exact decide_eq_true hm
      (try (conv => whnf)); (repeat (first | (refine Ob.of (by first | with_reducible assumption | with_reducible exact ex20 _ _ | with_reducible exact ex21 _ _ | with_reducible exact ex30 _ _ _ | with_reducible exact ex31 _ _ _ | with_reducible exact ex32 _ _ _ | rfl | (exact ald rfl rfl (by assumption) rfl) | (exact ald_agg rfl rfl rfl (by assumption) rfl)) ?_; (conv => whnf)) | (refine bIf.yes (by first | assumption | rfl) ?_; (conv => whnf)) | (refine bIf.no (by first | assumption | rfl) ?_; (conv => whnf))))
      subst hm
      rw [show atI L m = (k : Int) from by rw [atI, idx_first hx hbef]]
      exact ⟨rfl, rfl⟩
    · have d2 : (m == n) = false := by rw [ba_beq]; exact decide_eq_false hm
      (try (conv => whnf)); (repeat (first | (refine Ob.of (by first | with_reducible assumption | with_reducible exact ex20 _ _ | with_reducible exact ex21 _ _ | with_reducible exact ex30 _ _ _ | with_reducible exact ex31 _ _ _ | with_reducible exact ex32 _ _ _ | rfl | (exact ald rfl rfl (by assumption) rfl) | (exact ald_agg rfl rfl rfl (by assumption) rfl)) ?_; (conv => whnf)) | (refine bIf.yes (by first | assumption | rfl) ?_; (conv => whnf)) | (refine bIf.no (by first | assumption | rfl) ?_; (conv => whnf))))
      exact ⟨k + 1, ⟨rfl, rfl, congrArg (fun z => some (Value.int .i64 z)) w1, trivial⟩, ⟨rfl, hkl, fun j hj u => by
        by_cases hjk : j = k
        · subst hjk; rw [hx]; simp [hm]
        · exact hbef j (by omega) u⟩, by show L.length - (k + 1) < L.length - k; omega⟩
  · have d1 : decide ((k : Int) < (L.length : Int)) = false := decide_eq_false (by omega)
    (try (conv => whnf)); (repeat (first | (refine Ob.of (by first | with_reducible assumption | with_reducible exact ex20 _ _ | with_reducible exact ex21 _ _ | with_reducible exact ex30 _ _ _ | with_reducible exact ex31 _ _ _ | with_reducible exact ex32 _ _ _ | rfl | (exact ald rfl rfl (by assumption) rfl) | (exact ald_agg rfl rfl rfl (by assumption) rfl)) ?_; (conv => whnf)) | (refine bIf.yes (by first | assumption | rfl) ?_; (conv => whnf)) | (refine bIf.no (by first | assumption | rfl) ?_; (conv => whnf))))
    rw [show atI L n = -1 from by
      rw [atI, idx_none]
      intro v hv
      obtain ⟨j, hj⟩ := List.mem_iff_getElem?.1 hv
      exact hbef j (by have := (List.getElem?_eq_some_iff.1 hj).1; omega) v hj]
    exact ⟨rfl, rfl⟩
theorem idx_at {L : List (ByteArray × V)} {n : ByteArray} {j : Nat} (h : idxOf L n = some j) : ∃ v, L[j]? = some (n, v) := by
  rw [idxOf, List.findIdx?_eq_some_iff_getElem] at h
  obtain ⟨hl, he, _⟩ := h
  simp only [decide_eq_true_eq] at he
  exact ⟨L[j].2, by rw [List.getElem?_eq_getElem hl, ← he]⟩
theorem rget_ax {H : Heap} {q : Nat} {L : List (ByteArray × V)} (h : RD H q L) (hlen : L.length ≤ 1000000) (n : ByteArray) :
    AX Try.prog 21 #[ptr q, .string n] H (fun r H' => r = getV L n ∧ H' = H) := by
  refine AX.quiet ?_
  suffices hh : AX Try.prog 21 #[ptr q, .string n] H (fun r H' => r = getV L n ∧ Grow H H') from hh.mono fun v _ ⟨e, g⟩ => ⟨e ▸ plain_getV _ _, e, g⟩
  refine AX.body (n := 20) (rs := [.cell 4 32, .tmp 5]) Try.func21 rfl (by decide) rfl rfl (bC_sound _ _ _ _ ?_)
  (conv => whnf)
  refine Ob2.alloc rfl fun t H1 ht k1 k2 => ?_
  have h1' := h.grow k2
  (try (conv => whnf)); (repeat (first | (refine Ob.of (by first | with_reducible assumption | with_reducible exact ex20 _ _ | with_reducible exact ex21 _ _ | with_reducible exact ex30 _ _ _ | with_reducible exact ex31 _ _ _ | with_reducible exact ex32 _ _ _ | rfl | (exact ald rfl rfl (by assumption) rfl) | (exact ald_agg rfl rfl rfl (by assumption) rfl)) ?_; (conv => whnf)) | (refine bIf.yes (by first | assumption | rfl) ?_; (conv => whnf)) | (refine bIf.no (by first | assumption | rfl) ?_; (conv => whnf))))
  refine (at_ax h1' hlen n).mono ?_
  rintro _ X ⟨rfl, e⟩
  subst X
  obtain ⟨nv, vv, h1, h2, h3⟩ := h1'
  have hb := hblk_of h1
  cases hi : idxOf L n with
  | none =>
    have ha : atI L n = -1 := by rw [atI, hi]
    have d1 : decide (atI L n < 0) = true := decide_eq_true (by omega)
    have hg : getV L n = .tuple #[valV zeroV, .bool false] := by unfold getV; rw [get_of_idx, hi]; rfl
    rw [hg]
    (try (conv => whnf)); (repeat (first | (refine Ob.of (by first | with_reducible assumption | with_reducible exact ex20 _ _ | with_reducible exact ex21 _ _ | with_reducible exact ex30 _ _ _ | with_reducible exact ex31 _ _ _ | with_reducible exact ex32 _ _ _ | rfl | (exact ald rfl rfl (by assumption) rfl) | (exact ald_agg rfl rfl rfl (by assumption) rfl)) ?_; (conv => whnf)) | (refine bIf.yes (by first | assumption | rfl) ?_; (conv => whnf)) | (refine bIf.no (by first | assumption | rfl) ?_; (conv => whnf))))
    refine Ob.store rfl rfl rfl k1 rfl (by first | exact Nat.le_of_ble_eq_true rfl | simp) fun H2 m1 m2 m3 => ?_
    have hq2 := hblk_of m1
    (try (conv => whnf)); (repeat (first | (refine Ob.of (by first | with_reducible assumption | with_reducible exact ex20 _ _ | with_reducible exact ex21 _ _ | with_reducible exact ex30 _ _ _ | with_reducible exact ex31 _ _ _ | with_reducible exact ex32 _ _ _ | rfl | (exact ald rfl rfl (by assumption) rfl) | (exact ald_agg rfl rfl rfl (by assumption) rfl)) ?_; (conv => whnf)) | (refine bIf.yes (by first | assumption | rfl) ?_; (conv => whnf)) | (refine bIf.no (by first | assumption | rfl) ?_; (conv => whnf))))
    exact ⟨rfl, k2.but_new m2 (by omega)⟩
  | some j =>
    obtain ⟨v, hv⟩ := idx_at hi
    have ha : atI L n = (j : Int) := by rw [atI, hi]
    rw [ha]
    have d1 : decide ((j : Int) < 0) = false := decide_eq_false (by omega)
    have hg : getV L n = .tuple #[valV v, .bool true] := by unfold getV; rw [get_of_idx, hi]; simp [hv]
    rw [hg]
    obtain ⟨pp, i1, i2⟩ := h3.at (i := j) (x := v) (by simp [hv])
    (try (conv => whnf)); (repeat (first | (refine Ob.of (by first | with_reducible assumption | with_reducible exact ex20 _ _ | with_reducible exact ex21 _ _ | with_reducible exact ex30 _ _ _ | with_reducible exact ex31 _ _ _ | with_reducible exact ex32 _ _ _ | rfl | (exact ald rfl rfl (by assumption) rfl) | (exact ald_agg rfl rfl rfl (by assumption) rfl)) ?_; (conv => whnf)) | (refine bIf.yes (by first | assumption | rfl) ?_; (conv => whnf)) | (refine bIf.no (by first | assumption | rfl) ?_; (conv => whnf))))
    refine Ob.store rfl rfl rfl k1 rfl (by first | exact Nat.le_of_ble_eq_true rfl | simp) fun H2 m1 m2 m3 => ?_
    have hq2 := hblk_of m1
    (try (conv => whnf)); (repeat (first | (refine Ob.of (by first | with_reducible assumption | with_reducible exact ex20 _ _ | with_reducible exact ex21 _ _ | with_reducible exact ex30 _ _ _ | with_reducible exact ex31 _ _ _ | with_reducible exact ex32 _ _ _ | rfl | (exact ald rfl rfl (by assumption) rfl) | (exact ald_agg rfl rfl rfl (by assumption) rfl)) ?_; (conv => whnf)) | (refine bIf.yes (by first | assumption | rfl) ?_; (conv => whnf)) | (refine bIf.no (by first | assumption | rfl) ?_; (conv => whnf))))
    exact ⟨rfl, k2.but_new m2 (by omega)⟩
theorem rkey_ax {H : Heap} {q : Nat} {L : List (ByteArray × V)} (h : RD H q L) (i : Int) : AX Try.prog 22 #[ptr q, .int .i64 i] H (fun v H' => v = keyV L i ∧ H' = H) := by
  obtain ⟨nv, vv, h1, h2, h3⟩ := h
  have hb := hblk_of h1
  have hl := h2.len H
  rw [List.length_map] at hl
  refine AX.body (n := 24) (rs := [.tmp 4, .tmp 5]) Try.func22 rfl (by decide) rfl rfl (bC_sound _ _ _ _ ?_)
  by_cases h0 : 0 ≤ i
  · obtain ⟨k, rfl⟩ : ∃ k : Nat, i = (k : Int) := ⟨i.toNat, by omega⟩
    have d1 : decide ((k : Int) < 0) = false := decide_eq_false (by omega)
    rw [show keyV L (k : Int) = (match L[k]? with | some x => .tuple #[.string x.1, .bool true] | none => .tuple #[.string .empty, .bool false]) from if_pos h0]
    cases hx : L[k]? with
    | none =>
      have d2 : decide ((k : Int) ≥ (L.length : Int)) = true := decide_eq_true (by have := List.getElem?_eq_none_iff.1 hx; omega)
      (try (conv => whnf)); (repeat (first | (refine Ob.of (by first | with_reducible assumption | with_reducible exact ex20 _ _ | with_reducible exact ex21 _ _ | with_reducible exact ex30 _ _ _ | with_reducible exact ex31 _ _ _ | with_reducible exact ex32 _ _ _ | rfl | (exact ald rfl rfl (by assumption) rfl) | (exact ald_agg rfl rfl rfl (by assumption) rfl)) ?_; (conv => whnf)) | (refine bIf.yes (by first | assumption | rfl) ?_; (conv => whnf)) | (refine bIf.no (by first | assumption | rfl) ?_; (conv => whnf))))
      exact ⟨rfl, rfl⟩
    | some x =>
      have d2 : decide ((k : Int) ≥ (L.length : Int)) = false := decide_eq_false (by have := (List.getElem?_eq_some_iff.1 hx).1; omega)
      obtain ⟨pp, i1, i2⟩ := h2.at (i := k) (s := x.1) (by simp [hx])
      (try (conv => whnf)); (repeat (first | (refine Ob.of (by first | with_reducible assumption | with_reducible exact ex20 _ _ | with_reducible exact ex21 _ _ | with_reducible exact ex30 _ _ _ | with_reducible exact ex31 _ _ _ | with_reducible exact ex32 _ _ _ | rfl | (exact ald rfl rfl (by assumption) rfl) | (exact ald_agg rfl rfl rfl (by assumption) rfl)) ?_; (conv => whnf)) | (refine bIf.yes (by first | assumption | rfl) ?_; (conv => whnf)) | (refine bIf.no (by first | assumption | rfl) ?_; (conv => whnf))))
      exact ⟨rfl, rfl⟩
  · rw [show keyV L i = .tuple #[.string .empty, .bool false] from if_neg h0]
    have d1 : decide (i < 0) = true := decide_eq_true (by omega)
    (try (conv => whnf)); (repeat (first | (refine Ob.of (by first | with_reducible assumption | with_reducible exact ex20 _ _ | with_reducible exact ex21 _ _ | with_reducible exact ex30 _ _ _ | with_reducible exact ex31 _ _ _ | with_reducible exact ex32 _ _ _ | rfl | (exact ald rfl rfl (by assumption) rfl) | (exact ald_agg rfl rfl rfl (by assumption) rfl)) ?_; (conv => whnf)) | (refine bIf.yes (by first | assumption | rfl) ?_; (conv => whnf)) | (refine bIf.no (by first | assumption | rfl) ?_; (conv => whnf))))
    exact ⟨rfl, rfl⟩
end Go.Proofs.Ytnmfmgnkfkhdhaa
