/- A dict in abstract memory: the names, and the name of one of a number. -/
import Derived.Test.YtnmfmgnkfkhdhaaDi5
set_option linter.unusedVariables false
set_option linter.unusedSimpArgs false
set_option maxRecDepth 20000
set_option maxHeartbeats 1000000
namespace Go.Proofs.Ytnmfmgnkfkhdhaa
open Go Ax
theorem wrap_nat {k : Nat} (h : k ≤ 140737488355327) : IntKind.i64.wrap ((k : Int) + 1) = ((k + 1 : Nat) : Int) := by rw [wrap_i64 (by omega) (by omega)]; omega
/-- Strings in a row of one's own. -/
def Strs (H : Heap) (v : Value) (L : List ByteArray) : Prop :=
  (v = .slice none 0 0 ∧ L = []) ∨ ∃ g, v = .slice (some ⟨g, 0, none⟩) L.length 1 ∧ L ≠ [] ∧ H[g]? = some (.cells (.row 9) (L.map .string))
theorem Strs.grow {H H' : Heap} {v : Value} {L : List ByteArray} (h : Strs H v L) (k : Grow H H') : Strs H' v L := by
  rcases h with h | ⟨g, h1, h2, h3⟩
  · exact .inl h
  · exact .inr ⟨g, h1, h2, k.at h3⟩
theorem Strs.cells {H : Heap} {v : Value} {L : List ByteArray} (h : Strs H v L) : vcells v = some [v] := by rcases h with ⟨rfl, _⟩ | ⟨g, rfl, _⟩ <;> rfl
theorem Strs.len {H : Heap} {v : Value} {L : List ByteArray} (h : Strs H v L) (H' : Heap) : alen Try.prog 26 v H' = some (.int .i64 (L.length : Int)) := by rcases h with ⟨rfl, rfl⟩ | ⟨g, rfl, _⟩ <;> rfl
theorem app_str {H : Heap} {v : Value} {L : List ByteArray} (s : ByteArray) (h : Strs H v L) (hl : L.length ≤ 1000000) :
    ∃ q H1 v' H2, abuildSlice Try.prog 26 1 [(0, .string s)] H = some (.slice (some ⟨q, 0, none⟩) 1 1, H1) ∧ Grow H H1 ∧ aappend Try.prog 26 26 v (.slice (some ⟨q, 0, none⟩) 1 1) H1 = some (v', H2) ∧ Strs H2 v' (L ++ [s]) ∧ H.length ≤ H2.length ∧
      (∀ (k : Nat) (B : Blk), H[k]? = some B → (∀ c, B ≠ .cells (.row 9) c) → H2[k]? = some B) ∧ (∀ (k : Nat) (B : Blk), H[k]? = some B → (∀ g n e, v = .slice (some ⟨g, 0, none⟩) n e → k ≠ g) → H2[k]? = some B) ∧ ∀ g n e, v' = .slice (some ⟨g, 0, none⟩) n e → H.length ≤ g := by
  have hq : (H ++ [Blk.cells (.row 9) [.string s]])[H.length]? = some (.cells (.row 9) [.string s]) := at_push _ _
  have hsrc : asrc 1 (.slice (some ⟨H.length, 0, none⟩) 1 1) (H ++ [Blk.cells (.row 9) [.string s]]) = some (1, [.string s]) := src_some (by decide) (hblk_of hq) rfl
  have g := Grow.push H [Blk.cells (.row 9) [.string s]]
  rcases h with ⟨rfl, rfl⟩ | ⟨b, rfl, h2, h3⟩
  · exact ⟨_, _, _, _, rfl, g, append_nil (k := 1) (e := 9) (zs := [.string .empty]) rfl rfl rfl rfl rfl (by decide) rfl rfl rfl hsrc (by decide) (by decide) (by decide), .inr ⟨_, rfl, by simp, at_push _ _⟩, by simp, fun k B hk _ => (Grow.push _ _).at (g.at hk), fun k B hk _ => (Grow.push _ _).at (g.at hk), fun g n e hv => by cases hv; simp⟩
  · have hb := g.at h3
    have ho : slotsOf (L.map Value.string) 0 (L.length * 1) = some (L.map Value.string) := by
      rw [slots_of (by simp), List.drop_zero, List.take_of_length_le (by simp)]
    have key : ∀ (k : Nat) (B : Blk), H[k]? = some B → k ≠ b → (((H ++ [Blk.cells (.row 9) [.string s]]).set b .dead) ++ [Blk.cells (.row 9) (L.map Value.string ++ [.string s])])[k]? = some B := by
      intro k B hk hn
      have := g.at hk
      rw [List.getElem?_append_left (by rw [List.length_set]; exact lt_at this), List.getElem?_set_ne (Ne.symm hn)]
      exact this
    refine ⟨_, _, _, _, rfl, g, append_row (k := 1) (e := 9) (zs := [.string .empty]) rfl rfl rfl rfl rfl (by decide) rfl rfl rfl hsrc (by decide) hb ho (show (L.length + 1) * 16 ≤ _ by omega) (by simp only [maxLen]; omega), .inr ⟨(H ++ [Blk.cells (.row 9) [.string s]]).length, by simp, by simp, ?_⟩, by simp; omega, fun k B hk hn => ?_, fun k B hk hn => ?_, fun g n e hv => by cases hv; simp⟩
    · rw [List.getElem?_append_right (by simp)]
      simp
    · exact key k B hk (by rintro rfl; rw [h3] at hk; simp only [Option.some.injEq] at hk; exact hn _ hk.symm)
    · exact key k B hk (hn b _ _ rfl)
theorem full_step {ps : Places} {i : Nat} {x : Option (ByteArray × V)} (h : ps[i]? = some x) : full (ps.take (i + 1)) = full (ps.take i) ++ x.toList := by
  rw [List.take_add_one, h, full, List.filterMap_append]
  cases x <;> rfl
theorem full_drop {ps : Places} {i : Nat} {x : Option (ByteArray × V)} (h : ps[i]? = some x) : full (ps.drop i) = x.toList ++ full (ps.drop (i + 1)) := by
  have hl := (List.getElem?_eq_some_iff.1 h).1
  have he := (List.getElem?_eq_some_iff.1 h).2
  rw [List.drop_eq_getElem_cons hl, he]
  cases x <;> rfl
theorem names_ax {H : Heap} {p : Nat} {ps : Places} (h : DR H p ps) (hlen : ps.length ≤ 1000000) :
    AX Try.prog 17 #[ptr p] H (fun v H' => Strs H' v ((full ps).map Prod.fst) ∧ Grow H H') := by
  have hh := h
  obtain ⟨mb, sv, em, g1, g2, g3, g4⟩ := hh
  have hb := hblk_of g1
  have hl2 : ∀ H', alen Try.prog 49 sv H' = some (.int .i64 (ps.length : Int)) := by
    rcases g4 with ⟨rfl, rfl⟩ | ⟨b, rest, rfl, _⟩ <;> intro H' <;> rfl
  have hl3 := hl2 H
  refine AX.body (n := 26) (rs := [.tmp 2]) Try.func17 rfl (by decide) rfl rfl (bC_sound _ _ _ _ ?_)
  (try (conv => whnf)); (repeat (first | (refine Ob.of (by first | with_reducible assumption | with_reducible exact ex20 _ _ | with_reducible exact ex21 _ _ | with_reducible exact ex30 _ _ _ | with_reducible exact ex31 _ _ _ | with_reducible exact ex32 _ _ _ | rfl | (exact ald rfl rfl (by assumption) rfl) | (exact ald_agg rfl rfl rfl (by assumption) rfl)) ?_; (conv => whnf)) | (refine bIf.yes (by first | assumption | rfl) ?_; (conv => whnf)) | (refine bIf.no (by first | assumption | rfl) ?_; (conv => whnf))))
  refine (dead_ax h).mono ?_
  rintro _ X ⟨rfl, e⟩
  subst X
  (try (conv => whnf)); (repeat (first | (refine Ob.of (by first | with_reducible assumption | with_reducible exact ex20 _ _ | with_reducible exact ex21 _ _ | with_reducible exact ex30 _ _ _ | with_reducible exact ex31 _ _ _ | with_reducible exact ex32 _ _ _ | rfl | (exact ald rfl rfl (by assumption) rfl) | (exact ald_agg rfl rfl rfl (by assumption) rfl)) ?_; (conv => whnf)) | (refine bIf.yes (by first | assumption | rfl) ?_; (conv => whnf)) | (refine bIf.no (by first | assumption | rfl) ?_; (conv => whnf))))
  refine SW.loop (α := Nat × Value) (fun x => [(3, x.2), (11, sv), (12, .int .i64 (ps.length : Int)), (13, .int .i64 (x.1 : Int))])
    (fun x H1 => Grow H H1 ∧ Strs H1 x.2 ((full (ps.take x.1)).map Prod.fst) ∧ x.1 ≤ ps.length ∧ ∀ g n e, x.2 = .slice (some ⟨g, 0, none⟩) n e → H.length ≤ g) (fun x => ps.length - x.1)
    ⟨(0, .slice none 0 0), ⟨rfl, rfl, rfl, rfl, trivial⟩, .refl _, .inl ⟨rfl, rfl⟩, Nat.zero_le _, fun g n e h => by cases h⟩ ?_
  rintro ⟨i, v⟩ H1 ⟨a1, a2, a3, a4⟩
  simp only at a2 a3 a4
  refine bC_sound _ _ _ _ ?_
  have w1 : IntKind.i64.wrap ((i : Int) + 1) = ((i + 1 : Nat) : Int) := wrap_nat (by omega)
  by_cases hi : i < ps.length
  · have d1 : decide ((i : Int) < (ps.length : Int)) = true := decide_eq_true (by omega)
    obtain ⟨x, hx⟩ : ∃ x, ps[i]? = some x := ⟨_, List.getElem?_eq_getElem hi⟩
    rcases g4 with ⟨rfl, rfl⟩ | ⟨b, rest, rfl, g5⟩
    · simp at hi
    have ix := idxP (b := b) hi
    have hb5 := hblk_of (a1.at g5)
    (try (conv => whnf)); (repeat (first | (refine Ob.of (by first | with_reducible assumption | with_reducible exact ex20 _ _ | with_reducible exact ex21 _ _ | with_reducible exact ex30 _ _ _ | with_reducible exact ex31 _ _ _ | with_reducible exact ex32 _ _ _ | rfl | (exact ald rfl rfl (by assumption) rfl) | (exact ald_agg rfl rfl rfl (by assumption) rfl)) ?_; (conv => whnf)) | (refine bIf.yes (by first | assumption | rfl) ?_; (conv => whnf)) | (refine bIf.no (by first | assumption | rfl) ?_; (conv => whnf))))
    refine Ob.of (ald_agg rfl rfl rfl hb5 (cells_slots hx)) ?_
    (try (conv => whnf)); (repeat (first | (refine Ob.of (by first | with_reducible assumption | with_reducible exact ex20 _ _ | with_reducible exact ex21 _ _ | with_reducible exact ex30 _ _ _ | with_reducible exact ex31 _ _ _ | with_reducible exact ex32 _ _ _ | rfl | (exact ald rfl rfl (by assumption) rfl) | (exact ald_agg rfl rfl rfl (by assumption) rfl)) ?_; (conv => whnf)) | (refine bIf.yes (by first | assumption | rfl) ?_; (conv => whnf)) | (refine bIf.no (by first | assumption | rfl) ?_; (conv => whnf))))
    refine Ob2.alloc rfl fun q H2 hq k1 k2 => ?_
    (try (conv => whnf)); (repeat (first | (refine Ob.of (by first | with_reducible assumption | with_reducible exact ex20 _ _ | with_reducible exact ex21 _ _ | with_reducible exact ex30 _ _ _ | with_reducible exact ex31 _ _ _ | with_reducible exact ex32 _ _ _ | rfl | (exact ald rfl rfl (by assumption) rfl) | (exact ald_agg rfl rfl rfl (by assumption) rfl)) ?_; (conv => whnf)) | (refine bIf.yes (by first | assumption | rfl) ?_; (conv => whnf)) | (refine bIf.no (by first | assumption | rfl) ?_; (conv => whnf))))
    cases x with
    | none =>
      refine Ob.store rfl rfl rfl k1 rfl (by first | exact Nat.le_of_ble_eq_true rfl | simp) fun H3 m1 m2 m3 => ?_
      have hq3 := hblk_of m1
      have gg : Grow H1 H3 := k2.but_new m2 (by omega)
      (try (conv => whnf)); (repeat (first | (refine Ob.of (by first | with_reducible assumption | with_reducible exact ex20 _ _ | with_reducible exact ex21 _ _ | with_reducible exact ex30 _ _ _ | with_reducible exact ex31 _ _ _ | with_reducible exact ex32 _ _ _ | rfl | (exact ald rfl rfl (by assumption) rfl) | (exact ald_agg rfl rfl rfl (by assumption) rfl)) ?_; (conv => whnf)) | (refine bIf.yes (by first | assumption | rfl) ?_; (conv => whnf)) | (refine bIf.no (by first | assumption | rfl) ?_; (conv => whnf))))
      exact ⟨(i + 1, v), ⟨rfl, rfl, rfl, congrArg (fun z => some (Value.int .i64 z)) w1, trivial⟩, ⟨a1.trans gg, by show Strs H3 v _; rw [full_step hx]; simpa using a2.grow gg, hi, a4⟩, by show ps.length - (i + 1) < ps.length - i; omega⟩
    | some x =>
      refine Ob.store rfl rfl rfl k1 rfl (by first | exact Nat.le_of_ble_eq_true rfl | simp) fun H3 m1 m2 m3 => ?_
      have hq3 := hblk_of m1
      have gg : Grow H1 H3 := k2.but_new m2 (by omega)
      have hfl : ((full (ps.take i)).map Prod.fst).length ≤ 1000000 := by
        rw [List.length_map]
        have h1 : (full (ps.take i)).length ≤ (ps.take i).length := List.length_filterMap_le _ _
        rw [List.length_take] at h1
        omega
      obtain ⟨q2, H4, v', H5, e1, e1g, e2, b1, b2, b3, b4, b5⟩ := app_str x.1 (a2.grow gg) hfl
      have a1' := a1.trans gg
      (try (conv => whnf)); (repeat (first | (refine Ob.of (by first | with_reducible assumption | with_reducible exact ex20 _ _ | with_reducible exact ex21 _ _ | with_reducible exact ex30 _ _ _ | with_reducible exact ex31 _ _ _ | with_reducible exact ex32 _ _ _ | rfl | (exact ald rfl rfl (by assumption) rfl) | (exact ald_agg rfl rfl rfl (by assumption) rfl)) ?_; (conv => whnf)) | (refine bIf.yes (by first | assumption | rfl) ?_; (conv => whnf)) | (refine bIf.no (by first | assumption | rfl) ?_; (conv => whnf))))
      refine Ob2.of e1 ?_
      (try (conv => whnf)); (repeat (first | (refine Ob.of (by first | with_reducible assumption | with_reducible exact ex20 _ _ | with_reducible exact ex21 _ _ | with_reducible exact ex30 _ _ _ | with_reducible exact ex31 _ _ _ | with_reducible exact ex32 _ _ _ | rfl | (exact ald rfl rfl (by assumption) rfl) | (exact ald_agg rfl rfl rfl (by assumption) rfl)) ?_; (conv => whnf)) | (refine bIf.yes (by first | assumption | rfl) ?_; (conv => whnf)) | (refine bIf.no (by first | assumption | rfl) ?_; (conv => whnf))))
      refine Ob2.of e2 ?_
      (try (conv => whnf)); (repeat (first | (refine Ob.of (by first | with_reducible assumption | with_reducible exact ex20 _ _ | with_reducible exact ex21 _ _ | with_reducible exact ex30 _ _ _ | with_reducible exact ex31 _ _ _ | with_reducible exact ex32 _ _ _ | rfl | (exact ald rfl rfl (by assumption) rfl) | (exact ald_agg rfl rfl rfl (by assumption) rfl)) ?_; (conv => whnf)) | (refine bIf.yes (by first | assumption | rfl) ?_; (conv => whnf)) | (refine bIf.no (by first | assumption | rfl) ?_; (conv => whnf))))
      refine ⟨(i + 1, v'), ⟨rfl, rfl, rfl, congrArg (fun z => some (Value.int .i64 z)) w1, trivial⟩, ⟨⟨Nat.le_trans a1'.1 b2, fun k hk => ?_⟩, by show Strs H5 v' _; rw [full_step hx]; simpa using b1, hi, fun g n e hv => ?_⟩, by show ps.length - (i + 1) < ps.length - i; omega⟩
      · have hk' : H[k]? = some (H[k]'hk) := List.getElem?_eq_getElem hk
        rw [hk']
        exact b4 k _ (a1'.at hk') fun g n e hv => by have := a4 g n e hv; omega
      · have h1 := b5 g n e hv
        have h2 := a1'.1
        omega
  · have d1 : decide ((i : Int) < (ps.length : Int)) = false := decide_eq_false (by omega)
    have hall : ps.take i = ps := List.take_of_length_le (by omega)
    rw [hall] at a2
    (try (conv => whnf)); (repeat (first | (refine Ob.of (by first | with_reducible assumption | with_reducible exact ex20 _ _ | with_reducible exact ex21 _ _ | with_reducible exact ex30 _ _ _ | with_reducible exact ex31 _ _ _ | with_reducible exact ex32 _ _ _ | rfl | (exact ald rfl rfl (by assumption) rfl) | (exact ald_agg rfl rfl rfl (by assumption) rfl)) ?_; (conv => whnf)) | (refine bIf.yes (by first | assumption | rfl) ?_; (conv => whnf)) | (refine bIf.no (by first | assumption | rfl) ?_; (conv => whnf))))
    exact ⟨a2, a1⟩
theorem names_dead (H : Heap) {v : Value} (h : AX Try.prog 23 #[v] H (fun v H' => v = .bool true ∧ H' = H)) : AX Try.prog 17 #[v] H (fun v H' => v = .slice none 0 0 ∧ H' = H) := by
  refine AX.body (n := 26) (rs := [.tmp 2]) Try.func17 rfl (by decide) rfl rfl (bC_sound _ _ _ _ ?_)
  (try (conv => whnf)); (repeat (first | (refine Ob.of (by first | with_reducible assumption | with_reducible exact ex20 _ _ | with_reducible exact ex21 _ _ | with_reducible exact ex30 _ _ _ | with_reducible exact ex31 _ _ _ | with_reducible exact ex32 _ _ _ | rfl | (exact ald rfl rfl (by assumption) rfl) | (exact ald_agg rfl rfl rfl (by assumption) rfl)) ?_; (conv => whnf)) | (refine bIf.yes (by first | assumption | rfl) ?_; (conv => whnf)) | (refine bIf.no (by first | assumption | rfl) ?_; (conv => whnf))))
  refine h.mono ?_
  rintro _ X ⟨rfl, e⟩
  subst X
  (try (conv => whnf)); (repeat (first | (refine Ob.of (by first | with_reducible assumption | with_reducible exact ex20 _ _ | with_reducible exact ex21 _ _ | with_reducible exact ex30 _ _ _ | with_reducible exact ex31 _ _ _ | with_reducible exact ex32 _ _ _ | rfl | (exact ald rfl rfl (by assumption) rfl) | (exact ald_agg rfl rfl rfl (by assumption) rfl)) ?_; (conv => whnf)) | (refine bIf.yes (by first | assumption | rfl) ?_; (conv => whnf)) | (refine bIf.no (by first | assumption | rfl) ?_; (conv => whnf))))
  exact ⟨rfl, rfl⟩
theorem clone_dead (H : Heap) {v : Value} (h : AX Try.prog 23 #[v] H (fun v H' => v = .bool true ∧ H' = H)) : AX Try.prog 18 #[v] H (fun v H' => v = .pointer none ∧ H' = H) := by
  refine AX.body (n := 17) (rs := [.tmp 2]) Try.func18 rfl (by decide) rfl rfl (bC_sound _ _ _ _ ?_)
  (try (conv => whnf)); (repeat (first | (refine Ob.of (by first | with_reducible assumption | with_reducible exact ex20 _ _ | with_reducible exact ex21 _ _ | with_reducible exact ex30 _ _ _ | with_reducible exact ex31 _ _ _ | with_reducible exact ex32 _ _ _ | rfl | (exact ald rfl rfl (by assumption) rfl) | (exact ald_agg rfl rfl rfl (by assumption) rfl)) ?_; (conv => whnf)) | (refine bIf.yes (by first | assumption | rfl) ?_; (conv => whnf)) | (refine bIf.no (by first | assumption | rfl) ?_; (conv => whnf))))
  refine h.mono ?_
  rintro _ X ⟨rfl, e⟩
  subst X
  (try (conv => whnf)); (repeat (first | (refine Ob.of (by first | with_reducible assumption | with_reducible exact ex20 _ _ | with_reducible exact ex21 _ _ | with_reducible exact ex30 _ _ _ | with_reducible exact ex31 _ _ _ | with_reducible exact ex32 _ _ _ | rfl | (exact ald rfl rfl (by assumption) rfl) | (exact ald_agg rfl rfl rfl (by assumption) rfl)) ?_; (conv => whnf)) | (refine bIf.yes (by first | assumption | rfl) ?_; (conv => whnf)) | (refine bIf.no (by first | assumption | rfl) ?_; (conv => whnf))))
  exact ⟨rfl, rfl⟩
theorem delete_dead (H : Heap) {v : Value} (n : ByteArray) (h : AX Try.prog 23 #[v] H (fun v H' => v = .bool true ∧ H' = H)) : AX Try.prog 16 #[v, .string n] H (fun v H' => v = .bool false ∧ H' = H) := by
  refine AX.body (n := 34) (rs := [.tmp 4]) Try.func16 rfl (by decide) rfl rfl (bC_sound _ _ _ _ ?_)
  (try (conv => whnf)); (repeat (first | (refine Ob.of (by first | with_reducible assumption | with_reducible exact ex20 _ _ | with_reducible exact ex21 _ _ | with_reducible exact ex30 _ _ _ | with_reducible exact ex31 _ _ _ | with_reducible exact ex32 _ _ _ | rfl | (exact ald rfl rfl (by assumption) rfl) | (exact ald_agg rfl rfl rfl (by assumption) rfl)) ?_; (conv => whnf)) | (refine bIf.yes (by first | assumption | rfl) ?_; (conv => whnf)) | (refine bIf.no (by first | assumption | rfl) ?_; (conv => whnf))))
  refine h.mono ?_
  rintro _ X ⟨rfl, e⟩
  subst X
  (try (conv => whnf)); (repeat (first | (refine Ob.of (by first | with_reducible assumption | with_reducible exact ex20 _ _ | with_reducible exact ex21 _ _ | with_reducible exact ex30 _ _ _ | with_reducible exact ex31 _ _ _ | with_reducible exact ex32 _ _ _ | rfl | (exact ald rfl rfl (by assumption) rfl) | (exact ald_agg rfl rfl rfl (by assumption) rfl)) ?_; (conv => whnf)) | (refine bIf.yes (by first | assumption | rfl) ?_; (conv => whnf)) | (refine bIf.no (by first | assumption | rfl) ?_; (conv => whnf))))
  exact ⟨rfl, rfl⟩
theorem key_dead (H : Heap) {v : Value} (i : Int) (h : AX Try.prog 23 #[v] H (fun v H' => v = .bool true ∧ H' = H)) : AX Try.prog 14 #[v, .int .i64 i] H (fun v H' => v = .tuple #[.string .empty, .bool false] ∧ H' = H) := by
  refine AX.body (n := 42) (rs := [.tmp 4, .tmp 5]) Try.func14 rfl (by decide) rfl rfl (bC_sound _ _ _ _ ?_)
  (try (conv => whnf)); (repeat (first | (refine Ob.of (by first | with_reducible assumption | with_reducible exact ex20 _ _ | with_reducible exact ex21 _ _ | with_reducible exact ex30 _ _ _ | with_reducible exact ex31 _ _ _ | with_reducible exact ex32 _ _ _ | rfl | (exact ald rfl rfl (by assumption) rfl) | (exact ald_agg rfl rfl rfl (by assumption) rfl)) ?_; (conv => whnf)) | (refine bIf.yes (by first | assumption | rfl) ?_; (conv => whnf)) | (refine bIf.no (by first | assumption | rfl) ?_; (conv => whnf))))
  refine h.mono ?_
  rintro _ X ⟨rfl, e⟩
  subst X
  (try (conv => whnf)); (repeat (first | (refine Ob.of (by first | with_reducible assumption | with_reducible exact ex20 _ _ | with_reducible exact ex21 _ _ | with_reducible exact ex30 _ _ _ | with_reducible exact ex31 _ _ _ | with_reducible exact ex32 _ _ _ | rfl | (exact ald rfl rfl (by assumption) rfl) | (exact ald_agg rfl rfl rfl (by assumption) rfl)) ?_; (conv => whnf)) | (refine bIf.yes (by first | assumption | rfl) ?_; (conv => whnf)) | (refine bIf.no (by first | assumption | rfl) ?_; (conv => whnf))))
  exact ⟨rfl, rfl⟩
theorem key_out {H : Heap} {p : Nat} {ps : Places} (h : DR H p ps) {i : Int} (hi : i < 0 ∨ i ≥ ((full ps).length : Int)) :
    AX Try.prog 14 #[ptr p, .int .i64 i] H (fun v H' => v = .tuple #[.string .empty, .bool false] ∧ H' = H) := by
  have hh := h
  obtain ⟨mb, sv, em, g1, g2, g3, g4⟩ := hh
  have hb := hblk_of g1
  have hl : alen Try.prog 48 (.map (some mb)) H = some (.int .i64 ((full ps).length : Int)) := by
    show (hmap H mb).map _ = _
    rw [hmap_of g2]
    simp [g3.len]
  refine AX.body (n := 42) (rs := [.tmp 4, .tmp 5]) Try.func14 rfl (by decide) rfl rfl (bC_sound _ _ _ _ ?_)
  (try (conv => whnf)); (repeat (first | (refine Ob.of (by first | with_reducible assumption | with_reducible exact ex20 _ _ | with_reducible exact ex21 _ _ | with_reducible exact ex30 _ _ _ | with_reducible exact ex31 _ _ _ | with_reducible exact ex32 _ _ _ | rfl | (exact ald rfl rfl (by assumption) rfl) | (exact ald_agg rfl rfl rfl (by assumption) rfl)) ?_; (conv => whnf)) | (refine bIf.yes (by first | assumption | rfl) ?_; (conv => whnf)) | (refine bIf.no (by first | assumption | rfl) ?_; (conv => whnf))))
  refine (dead_ax h).mono ?_
  rintro _ X ⟨rfl, e⟩
  subst X
  by_cases h0 : i < 0
  · have d1 : decide (i < 0) = true := decide_eq_true h0
    (try (conv => whnf)); (repeat (first | (refine Ob.of (by first | with_reducible assumption | with_reducible exact ex20 _ _ | with_reducible exact ex21 _ _ | with_reducible exact ex30 _ _ _ | with_reducible exact ex31 _ _ _ | with_reducible exact ex32 _ _ _ | rfl | (exact ald rfl rfl (by assumption) rfl) | (exact ald_agg rfl rfl rfl (by assumption) rfl)) ?_; (conv => whnf)) | (refine bIf.yes (by first | assumption | rfl) ?_; (conv => whnf)) | (refine bIf.no (by first | assumption | rfl) ?_; (conv => whnf))))
    exact ⟨rfl, rfl⟩
  · have d1 : decide (i < 0) = false := decide_eq_false h0
    have d2 : decide (i ≥ ((full ps).length : Int)) = true := decide_eq_true (by omega)
    (try (conv => whnf)); (repeat (first | (refine Ob.of (by first | with_reducible assumption | with_reducible exact ex20 _ _ | with_reducible exact ex21 _ _ | with_reducible exact ex30 _ _ _ | with_reducible exact ex31 _ _ _ | with_reducible exact ex32 _ _ _ | rfl | (exact ald rfl rfl (by assumption) rfl) | (exact ald_agg rfl rfl rfl (by assumption) rfl)) ?_; (conv => whnf)) | (refine bIf.yes (by first | assumption | rfl) ?_; (conv => whnf)) | (refine bIf.no (by first | assumption | rfl) ?_; (conv => whnf))))
    exact ⟨rfl, rfl⟩
theorem key_in {H : Heap} {p : Nat} {ps : Places} (h : DR H p ps) (hlen : ps.length ≤ 1000000) {i : Nat} {x : ByteArray × V} (hx : (full ps)[i]? = some x) :
    AX Try.prog 14 #[ptr p, .int .i64 (i : Int)] H (fun v H' => v = .tuple #[.string x.1, .bool true] ∧ H' = H) := by
  refine AX.quiet ?_
  suffices hh : AX Try.prog 14 #[ptr p, .int .i64 (i : Int)] H (fun v H' => v = .tuple #[.string x.1, .bool true] ∧ Grow H H') from hh.mono fun v _ ⟨e, g⟩ => ⟨e ▸ plain_tuple (vs := [_, _]) (fun y hy => by
    simp only [List.mem_cons, List.not_mem_nil, or_false] at hy
    rcases hy with rfl | rfl
    · exact plain_str _
    · exact plain_bool _), e, g⟩
  have hh := h
  obtain ⟨mb, sv, em, g1, g2, g3, g4⟩ := hh
  have hb := hblk_of g1
  have hl : alen Try.prog 48 (.map (some mb)) H = some (.int .i64 ((full ps).length : Int)) := by
    show (hmap H mb).map _ = _
    rw [hmap_of g2]
    simp [g3.len]
  have hl2 : ∀ H', alen Try.prog 49 sv H' = some (.int .i64 (ps.length : Int)) := by
    rcases g4 with ⟨rfl, rfl⟩ | ⟨b, rest, rfl, _⟩ <;> intro H' <;> rfl
  have hl3 := hl2 H
  have hil := (List.getElem?_eq_some_iff.1 hx).1
  have d1 : decide ((i : Int) < 0) = false := decide_eq_false (by omega)
  have d2 : decide ((i : Int) ≥ ((full ps).length : Int)) = false := decide_eq_false (by omega)
  refine AX.body (n := 42) (rs := [.tmp 4, .tmp 5]) Try.func14 rfl (by decide) rfl rfl (bC_sound _ _ _ _ ?_)
  (try (conv => whnf)); (repeat (first | (refine Ob.of (by first | with_reducible assumption | with_reducible exact ex20 _ _ | with_reducible exact ex21 _ _ | with_reducible exact ex30 _ _ _ | with_reducible exact ex31 _ _ _ | with_reducible exact ex32 _ _ _ | rfl | (exact ald rfl rfl (by assumption) rfl) | (exact ald_agg rfl rfl rfl (by assumption) rfl)) ?_; (conv => whnf)) | (refine bIf.yes (by first | assumption | rfl) ?_; (conv => whnf)) | (refine bIf.no (by first | assumption | rfl) ?_; (conv => whnf))))
  refine (dead_ax h).mono ?_
  rintro _ X ⟨rfl, e⟩
  subst X
  (try (conv => whnf)); (repeat (first | (refine Ob.of (by first | with_reducible assumption | with_reducible exact ex20 _ _ | with_reducible exact ex21 _ _ | with_reducible exact ex30 _ _ _ | with_reducible exact ex31 _ _ _ | with_reducible exact ex32 _ _ _ | rfl | (exact ald rfl rfl (by assumption) rfl) | (exact ald_agg rfl rfl rfl (by assumption) rfl)) ?_; (conv => whnf)) | (refine bIf.yes (by first | assumption | rfl) ?_; (conv => whnf)) | (refine bIf.no (by first | assumption | rfl) ?_; (conv => whnf))))
  refine SW.loop (α := Nat × Nat) (fun y => [(1, .int .i64 (y.2 : Int)), (26, sv), (27, .int .i64 (ps.length : Int)), (28, .int .i64 (y.1 : Int))])
    (fun y H1 => Grow H H1 ∧ (full (ps.drop y.1))[y.2]? = some x ∧ y.1 ≤ ps.length ∧ y.2 ≤ i) (fun y => ps.length - y.1)
    ⟨(0, i), ⟨rfl, rfl, rfl, rfl, trivial⟩, .refl _, hx, Nat.zero_le _, Nat.le_refl _⟩ ?_
  rintro ⟨k, m⟩ H1 ⟨a1, a2, a3, a4⟩
  simp only at a2 a3 a4
  refine bC_sound _ _ _ _ ?_
  have w1 : IntKind.i64.wrap ((k : Int) + 1) = ((k + 1 : Nat) : Int) := wrap_nat (by omega)
  by_cases hk : k < ps.length
  · have d3 : decide ((k : Int) < (ps.length : Int)) = true := decide_eq_true (by omega)
    obtain ⟨y, hy⟩ : ∃ y, ps[k]? = some y := ⟨_, List.getElem?_eq_getElem hk⟩
    rcases g4 with ⟨rfl, rfl⟩ | ⟨b, rest, rfl, g5⟩
    · simp at hk
    have ix := idxP (b := b) hk
    have hb5 := hblk_of (a1.at g5)
    have hfd := full_drop hy
    (try (conv => whnf)); (repeat (first | (refine Ob.of (by first | with_reducible assumption | with_reducible exact ex20 _ _ | with_reducible exact ex21 _ _ | with_reducible exact ex30 _ _ _ | with_reducible exact ex31 _ _ _ | with_reducible exact ex32 _ _ _ | rfl | (exact ald rfl rfl (by assumption) rfl) | (exact ald_agg rfl rfl rfl (by assumption) rfl)) ?_; (conv => whnf)) | (refine bIf.yes (by first | assumption | rfl) ?_; (conv => whnf)) | (refine bIf.no (by first | assumption | rfl) ?_; (conv => whnf))))
    refine Ob.of (ald_agg rfl rfl rfl hb5 (cells_slots hy)) ?_
    (try (conv => whnf)); (repeat (first | (refine Ob.of (by first | with_reducible assumption | with_reducible exact ex20 _ _ | with_reducible exact ex21 _ _ | with_reducible exact ex30 _ _ _ | with_reducible exact ex31 _ _ _ | with_reducible exact ex32 _ _ _ | rfl | (exact ald rfl rfl (by assumption) rfl) | (exact ald_agg rfl rfl rfl (by assumption) rfl)) ?_; (conv => whnf)) | (refine bIf.yes (by first | assumption | rfl) ?_; (conv => whnf)) | (refine bIf.no (by first | assumption | rfl) ?_; (conv => whnf))))
    refine Ob2.alloc rfl fun q H2 hq k1 k2 => ?_
    (try (conv => whnf)); (repeat (first | (refine Ob.of (by first | with_reducible assumption | with_reducible exact ex20 _ _ | with_reducible exact ex21 _ _ | with_reducible exact ex30 _ _ _ | with_reducible exact ex31 _ _ _ | with_reducible exact ex32 _ _ _ | rfl | (exact ald rfl rfl (by assumption) rfl) | (exact ald_agg rfl rfl rfl (by assumption) rfl)) ?_; (conv => whnf)) | (refine bIf.yes (by first | assumption | rfl) ?_; (conv => whnf)) | (refine bIf.no (by first | assumption | rfl) ?_; (conv => whnf))))
    cases y with
    | none =>
      refine Ob.store rfl rfl rfl k1 rfl (by first | exact Nat.le_of_ble_eq_true rfl | simp) fun H3 m1 m2 m3 => ?_
      have hq3 := hblk_of m1
      have gg : Grow H1 H3 := k2.but_new m2 (by omega)
      (try (conv => whnf)); (repeat (first | (refine Ob.of (by first | with_reducible assumption | with_reducible exact ex20 _ _ | with_reducible exact ex21 _ _ | with_reducible exact ex30 _ _ _ | with_reducible exact ex31 _ _ _ | with_reducible exact ex32 _ _ _ | rfl | (exact ald rfl rfl (by assumption) rfl) | (exact ald_agg rfl rfl rfl (by assumption) rfl)) ?_; (conv => whnf)) | (refine bIf.yes (by first | assumption | rfl) ?_; (conv => whnf)) | (refine bIf.no (by first | assumption | rfl) ?_; (conv => whnf))))
      exact ⟨(k + 1, m), ⟨rfl, rfl, rfl, congrArg (fun z => some (Value.int .i64 z)) w1, trivial⟩, ⟨a1.trans gg, by rw [hfd] at a2; simpa using a2, hk, a4⟩, by show ps.length - (k + 1) < ps.length - k; omega⟩
    | some y =>
      refine Ob.store rfl rfl rfl k1 rfl (by first | exact Nat.le_of_ble_eq_true rfl | simp) fun H3 m1 m2 m3 => ?_
      have hq3 := hblk_of m1
      have gg : Grow H1 H3 := k2.but_new m2 (by omega)
      rw [hfd] at a2
      cases m with
      | zero =>
        have hyx : y = x := by simpa using a2
        subst hyx
        (try (conv => whnf)); (repeat (first | (refine Ob.of (by first | with_reducible assumption | with_reducible exact ex20 _ _ | with_reducible exact ex21 _ _ | with_reducible exact ex30 _ _ _ | with_reducible exact ex31 _ _ _ | with_reducible exact ex32 _ _ _ | rfl | (exact ald rfl rfl (by assumption) rfl) | (exact ald_agg rfl rfl rfl (by assumption) rfl)) ?_; (conv => whnf)) | (refine bIf.yes (by first | assumption | rfl) ?_; (conv => whnf)) | (refine bIf.no (by first | assumption | rfl) ?_; (conv => whnf))))
        exact ⟨rfl, a1.trans gg⟩
      | succ m =>
        have hbl := (List.getElem?_eq_some_iff.1 a2).1
        have d4 : (((m + 1 : Nat) : Int) == 0) = false := by rw [beq_eq_false_iff_ne]; omega
        have wm : IntKind.i64.wrap (((m + 1 : Nat) : Int) - 1) = (m : Int) := by
          have hil2 : i ≤ 1000000 := by
            have h1 : (full ps).length ≤ ps.length := List.length_filterMap_le _ _
            omega
          rw [wrap_i64 (by omega) (by omega)]; omega
        (try (conv => whnf)); (repeat (first | (refine Ob.of (by first | with_reducible assumption | with_reducible exact ex20 _ _ | with_reducible exact ex21 _ _ | with_reducible exact ex30 _ _ _ | with_reducible exact ex31 _ _ _ | with_reducible exact ex32 _ _ _ | rfl | (exact ald rfl rfl (by assumption) rfl) | (exact ald_agg rfl rfl rfl (by assumption) rfl)) ?_; (conv => whnf)) | (refine bIf.yes (by first | assumption | rfl) ?_; (conv => whnf)) | (refine bIf.no (by first | assumption | rfl) ?_; (conv => whnf))))
        exact ⟨(k + 1, m), ⟨congrArg (fun z => some (Value.int .i64 z)) wm, rfl, rfl, congrArg (fun z => some (Value.int .i64 z)) w1, trivial⟩, ⟨a1.trans gg, by simpa using a2, hk, by show m ≤ i; omega⟩, by show ps.length - (k + 1) < ps.length - k; omega⟩
  · exfalso
    rw [List.drop_eq_nil_of_le (by omega)] at a2
    simp at a2
end Go.Proofs.Ytnmfmgnkfkhdhaa
