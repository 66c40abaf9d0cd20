/- A dict in abstract memory: what it is, and its smaller methods. -/
import Derived.Test.YtnmfmgnkfkhdhaaDi1
set_option linter.unusedVariables false
set_option linter.unusedSimpArgs false
set_option maxRecDepth 20000
namespace Go.Proofs.Ytnmfmgnkfkhdhaa
open Go Ax
abbrev Places := List (Option (ByteArray × V))
def PlS (H : Heap) (sv : Value) (ps : Places) : Prop :=
  (sv = .slice none 0 0 ∧ ps = []) ∨ ∃ b rest, sv = .slice (some ⟨b, 0, none⟩) ps.length 5 ∧ H[b]? = some (.cells (.row 56) (cellsP ps ++ rest))
structure EmOK (em : List (ByteArray × Nat)) (ps : Places) : Prop where
  nodup : (em.map Prod.fst).Nodup
  to : ∀ (n : ByteArray) (i : Nat), (n, i) ∈ em → ∃ v, ps[i]? = some (some (n, v))
  of : ∀ (n : ByteArray) (i : Nat) (v : V), ps[i]? = some (some (n, v)) → (n, i) ∈ em
  len : em.length = (ps.filterMap id).length
  uniq : ((ps.filterMap id).map Prod.fst).Nodup
def DR (H : Heap) (p : Nat) (ps : Places) : Prop :=
  ∃ mb sv em, H[p]? = some (.cells .var [.map (some mb), sv]) ∧ H[mb]? = some (.map true (ents em)) ∧ EmOK em ps ∧ PlS H sv ps
/-- What a dict's calls leave: all but the dict, maps, and rows of places. -/
def keepD : Blk → Bool
  | .cells (.row e) _ => !Nat.beq e 56
  | .map _ _ => false
  | _ => true
def FrD (p : Nat) (H H' : Heap) : Prop := H.length ≤ H'.length ∧ ∀ (k : Nat) (B : Blk), H[k]? = some B → k ≠ p → keepD B = true → H'[k]? = some B
theorem FrD.refl (p : Nat) (H : Heap) : FrD p H H := ⟨Nat.le_refl _, fun _ _ h _ _ => h⟩
theorem FrD.trans {p : Nat} {A B C : Heap} (h : FrD p A B) (k : FrD p B C) : FrD p A C := ⟨Nat.le_trans h.1 k.1, fun i b hb hp hk => k.2 i b (h.2 i b hb hp hk) hp hk⟩
theorem FrD.grow {p : Nat} {A B C : Heap} (h : FrD p A B) (k : Grow B C) : FrD p A C := ⟨Nat.le_trans h.1 k.1, fun i b hb hp hk => k.at (h.2 i b hb hp hk)⟩
theorem FrD.but {p q : Nat} {A B C : Heap} (h : FrD p A B) (k : But q B C) (hq : A.length ≤ q ∨ q = p) : FrD p A C :=
  ⟨Nat.le_trans h.1 k.1, fun i b hb hp hk => k.at (h.2 i b hb hp hk) (by have := lt_at hb; rintro rfl; rcases hq with hq | hq <;> omega)⟩
theorem FrD.kill {p q : Nat} {A B : Heap} {X : Blk} (h : FrD p A B) {Y : Blk} (hY : B[q]? = some Y) (hn : keepD Y = false) : FrD p A (B.set q X) :=
  ⟨by simpa using h.1, fun i b hb hp hk => by
    have := h.2 i b hb hp hk
    rw [List.getElem?_set_ne (by rintro rfl; rw [hY] at this; simp only [Option.some.injEq] at this; subst this; rw [hn] at hk; cases hk)]
    exact this⟩
theorem PlS.keep {H H' : Heap} {sv : Value} {ps : Places} (h : PlS H sv ps) (k : ∀ (b : Nat) (c : List Value), H[b]? = some (.cells (.row 56) c) → H'[b]? = some (.cells (.row 56) c)) : PlS H' sv ps := by
  rcases h with h | ⟨b, rest, h1, h2⟩
  · exact .inl h
  · exact .inr ⟨b, rest, h1, k _ _ h2⟩
theorem DR.keep {H H' : Heap} {p : Nat} {ps : Places} (h : DR H p ps) (hp : ∀ (B : Blk), H[p]? = some B → H'[p]? = some B) (hm : ∀ (b : Nat) (es : List (Value × Value)), H[b]? = some (.map true es) → H'[b]? = some (.map true es))
    (k : ∀ (b : Nat) (c : List Value), H[b]? = some (.cells (.row 56) c) → H'[b]? = some (.cells (.row 56) c)) : DR H' p ps := by
  obtain ⟨mb, sv, em, h1, h2, h3, h4⟩ := h
  exact ⟨mb, sv, em, hp _ h1, hm _ _ h2, h3, h4.keep k⟩
theorem DR.grow {H H' : Heap} {p : Nat} {ps : Places} (h : DR H p ps) (k : Grow H H') : DR H' p ps := h.keep (fun _ h => k.at h) (fun _ _ h => k.at h) fun _ _ h => k.at h
theorem DR.but {H H' : Heap} {p q : Nat} {ps : Places} (h : DR H p ps) (k : But q H H') (hne : q ≠ p) {c : List Value} (hq : H[q]? = some (.cells .var c)) : DR H' p ps :=
  h.keep (fun _ h => k.at h (Ne.symm hne)) (fun b _ h => k.at h (by rintro rfl; rw [hq] at h; cases h)) fun b _ h => k.at h (by rintro rfl; rw [hq] at h; simp at h)
theorem DR.lt {H : Heap} {p : Nat} {ps : Places} (h : DR H p ps) : p < H.length := by obtain ⟨mb, sv, em, h1, _⟩ := h; exact lt_at h1
theorem EmOK.nil : EmOK [] [] := ⟨by simp, by simp, by simp, rfl, by simp⟩
theorem EmOK.not {em : List (ByteArray × Nat)} {ps : Places} (h : EmOK em ps) {n : ByteArray} (hn : ∀ (i : Nat) (v : V), ps[i]? ≠ some (some (n, v))) : n ∉ em.map Prod.fst := by
  intro hm
  obtain ⟨⟨m, i⟩, h1, rfl⟩ := List.mem_map.1 hm
  obtain ⟨v, hv⟩ := h.to _ _ h1
  exact hn i v hv
theorem EmOK.at {em : List (ByteArray × Nat)} {ps : Places} (h : EmOK em ps) {n : ByteArray} {i : Nat} {v : V} (hn : ps[i]? = some (some (n, v))) : ∃ j : Nat, em[j]? = some (n, i) := List.mem_iff_getElem?.1 (h.of n i v hn)
theorem new_ax (H : Heap) : AX Try.prog 7 #[] H (fun v H' => ∃ p, v = ptr p ∧ H.length ≤ p ∧ DR H' p [] ∧ Grow H H') := by
  refine AX.body (n := 4) (rs := [.tmp 0]) Try.func7 rfl (by decide) rfl rfl (bC_sound _ _ _ _ ?_)
  (try (conv => whnf)); (repeat (first | (refine Ob.of (by first | with_reducible assumption | with_reducible exact ex20 _ _ | with_reducible exact ex21 _ _ | with_reducible exact ex30 _ _ _ | with_reducible exact ex31 _ _ _ | with_reducible exact ex32 _ _ _ | rfl | (exact ald rfl rfl (by assumption) rfl) | (exact ald_agg rfl rfl rfl (by assumption) rfl)) ?_; (conv => whnf)) | (refine bIf.yes (by first | assumption | rfl) ?_; (conv => whnf)) | (refine bIf.no (by first | assumption | rfl) ?_; (conv => whnf))))
  refine Ob2.of (a := .map (some H.length)) (b := H ++ [.map true []]) rfl ?_
  (try (conv => whnf)); (repeat (first | (refine Ob.of (by first | with_reducible assumption | with_reducible exact ex20 _ _ | with_reducible exact ex21 _ _ | with_reducible exact ex30 _ _ _ | with_reducible exact ex31 _ _ _ | with_reducible exact ex32 _ _ _ | rfl | (exact ald rfl rfl (by assumption) rfl) | (exact ald_agg rfl rfl rfl (by assumption) rfl)) ?_; (conv => whnf)) | (refine bIf.yes (by first | assumption | rfl) ?_; (conv => whnf)) | (refine bIf.no (by first | assumption | rfl) ?_; (conv => whnf))))
  refine Ob2.box rfl fun q H1 hq k1 k2 => ?_
  (try (conv => whnf)); (repeat (first | (refine Ob.of (by first | with_reducible assumption | with_reducible exact ex20 _ _ | with_reducible exact ex21 _ _ | with_reducible exact ex30 _ _ _ | with_reducible exact ex31 _ _ _ | with_reducible exact ex32 _ _ _ | rfl | (exact ald rfl rfl (by assumption) rfl) | (exact ald_agg rfl rfl rfl (by assumption) rfl)) ?_; (conv => whnf)) | (refine bIf.yes (by first | assumption | rfl) ?_; (conv => whnf)) | (refine bIf.no (by first | assumption | rfl) ?_; (conv => whnf))))
  have g : Grow H H1 := (Grow.push H _).trans k2
  exact ⟨q, rfl, by rw [hq]; simp, ⟨H.length, .slice none 0 0, [], k1, k2.at (at_push _ _), .nil, .inl ⟨rfl, rfl⟩⟩, g⟩
theorem dead_nil (H : Heap) : AX Try.prog 23 #[.pointer none] H (fun v H' => v = .bool true ∧ H' = H) := by
  refine AX.body (n := 12) (rs := [.tmp 2]) Try.func23 rfl (by decide) rfl rfl (bC_sound _ _ _ _ ?_)
  (try (conv => whnf)); (repeat (first | (refine Ob.of (by first | with_reducible assumption | with_reducible exact ex20 _ _ | with_reducible exact ex21 _ _ | with_reducible exact ex30 _ _ _ | with_reducible exact ex31 _ _ _ | with_reducible exact ex32 _ _ _ | rfl | (exact ald rfl rfl (by assumption) rfl) | (exact ald_agg rfl rfl rfl (by assumption) rfl)) ?_; (conv => whnf)) | (refine bIf.yes (by first | assumption | rfl) ?_; (conv => whnf)) | (refine bIf.no (by first | assumption | rfl) ?_; (conv => whnf))))
  exact ⟨rfl, rfl⟩
theorem dead_zero {H : Heap} {p : Nat} {sv : Value} (h : H[p]? = some (.cells .var [.map none, sv])) : AX Try.prog 23 #[ptr p] H (fun v H' => v = .bool true ∧ H' = H) := by
  have hb := hblk_of h
  refine AX.body (n := 12) (rs := [.tmp 2]) Try.func23 rfl (by decide) rfl rfl (bC_sound _ _ _ _ ?_)
  (try (conv => whnf)); (repeat (first | (refine Ob.of (by first | with_reducible assumption | with_reducible exact ex20 _ _ | with_reducible exact ex21 _ _ | with_reducible exact ex30 _ _ _ | with_reducible exact ex31 _ _ _ | with_reducible exact ex32 _ _ _ | rfl | (exact ald rfl rfl (by assumption) rfl) | (exact ald_agg rfl rfl rfl (by assumption) rfl)) ?_; (conv => whnf)) | (refine bIf.yes (by first | assumption | rfl) ?_; (conv => whnf)) | (refine bIf.no (by first | assumption | rfl) ?_; (conv => whnf))))
  exact ⟨rfl, rfl⟩
theorem dead_ax {H : Heap} {p : Nat} {ps : Places} (h : DR H p ps) : AX Try.prog 23 #[ptr p] H (fun v H' => v = .bool false ∧ H' = H) := by
  obtain ⟨mb, sv, em, h1, h2, h3, h4⟩ := h
  have hb := hblk_of h1
  refine AX.body (n := 12) (rs := [.tmp 2]) Try.func23 rfl (by decide) rfl rfl (bC_sound _ _ _ _ ?_)
  (try (conv => whnf)); (repeat (first | (refine Ob.of (by first | with_reducible assumption | with_reducible exact ex20 _ _ | with_reducible exact ex21 _ _ | with_reducible exact ex30 _ _ _ | with_reducible exact ex31 _ _ _ | with_reducible exact ex32 _ _ _ | rfl | (exact ald rfl rfl (by assumption) rfl) | (exact ald_agg rfl rfl rfl (by assumption) rfl)) ?_; (conv => whnf)) | (refine bIf.yes (by first | assumption | rfl) ?_; (conv => whnf)) | (refine bIf.no (by first | assumption | rfl) ?_; (conv => whnf))))
  exact ⟨rfl, rfl⟩
theorem len_ax {H : Heap} {p : Nat} {ps : Places} (h : DR H p ps) : AX Try.prog 12 #[ptr p] H (fun v H' => v = .int .i64 ((ps.filterMap id).length : Int) ∧ H' = H) := by
  have hh := h
  obtain ⟨mb, sv, em, h1, h2, h3, h4⟩ := hh
  have hb := hblk_of h1
  have hl : alen Try.prog 48 (.map (some mb)) H = some (.int .i64 ((ps.filterMap id).length : Int)) := by
    show (hmap H mb).map _ = _
    rw [hmap_of h2]
    simp [h3.len]
  refine AX.body (n := 10) (rs := [.tmp 2]) Try.func12 rfl (by decide) rfl rfl (bC_sound _ _ _ _ ?_)
  (try (conv => whnf)); (repeat (first | (refine Ob.of (by first | with_reducible assumption | with_reducible exact ex20 _ _ | with_reducible exact ex21 _ _ | with_reducible exact ex30 _ _ _ | with_reducible exact ex31 _ _ _ | with_reducible exact ex32 _ _ _ | rfl | (exact ald rfl rfl (by assumption) rfl) | (exact ald_agg rfl rfl rfl (by assumption) rfl)) ?_; (conv => whnf)) | (refine bIf.yes (by first | assumption | rfl) ?_; (conv => whnf)) | (refine bIf.no (by first | assumption | rfl) ?_; (conv => whnf))))
  refine (dead_ax h).mono ?_
  rintro _ X ⟨rfl, e⟩
  subst X
  (try (conv => whnf)); (repeat (first | (refine Ob.of (by first | with_reducible assumption | with_reducible exact ex20 _ _ | with_reducible exact ex21 _ _ | with_reducible exact ex30 _ _ _ | with_reducible exact ex31 _ _ _ | with_reducible exact ex32 _ _ _ | rfl | (exact ald rfl rfl (by assumption) rfl) | (exact ald_agg rfl rfl rfl (by assumption) rfl)) ?_; (conv => whnf)) | (refine bIf.yes (by first | assumption | rfl) ?_; (conv => whnf)) | (refine bIf.no (by first | assumption | rfl) ?_; (conv => whnf))))
  exact ⟨rfl, rfl⟩
theorem len_dead (H : Heap) {v : Value} (h : AX Try.prog 23 #[v] H (fun v H' => v = .bool true ∧ H' = H)) : AX Try.prog 12 #[v] H (fun v H' => v = .int .i64 0 ∧ H' = H) := by
  refine AX.body (n := 10) (rs := [.tmp 2]) Try.func12 rfl (by decide) rfl rfl (bC_sound _ _ _ _ ?_)
  (try (conv => whnf)); (repeat (first | (refine Ob.of (by first | with_reducible assumption | with_reducible exact ex20 _ _ | with_reducible exact ex21 _ _ | with_reducible exact ex30 _ _ _ | with_reducible exact ex31 _ _ _ | with_reducible exact ex32 _ _ _ | rfl | (exact ald rfl rfl (by assumption) rfl) | (exact ald_agg rfl rfl rfl (by assumption) rfl)) ?_; (conv => whnf)) | (refine bIf.yes (by first | assumption | rfl) ?_; (conv => whnf)) | (refine bIf.no (by first | assumption | rfl) ?_; (conv => whnf))))
  refine h.mono ?_
  rintro _ X ⟨rfl, e⟩
  subst X
  (try (conv => whnf)); (repeat (first | (refine Ob.of (by first | with_reducible assumption | with_reducible exact ex20 _ _ | with_reducible exact ex21 _ _ | with_reducible exact ex30 _ _ _ | with_reducible exact ex31 _ _ _ | with_reducible exact ex32 _ _ _ | rfl | (exact ald rfl rfl (by assumption) rfl) | (exact ald_agg rfl rfl rfl (by assumption) rfl)) ?_; (conv => whnf)) | (refine bIf.yes (by first | assumption | rfl) ?_; (conv => whnf)) | (refine bIf.no (by first | assumption | rfl) ?_; (conv => whnf))))
  exact ⟨rfl, rfl⟩
theorem idxP {ps : Places} {b i : Nat} (h : i < ps.length) : aindexAddr Try.prog 49 (.slice (some ⟨b, 0, none⟩) ps.length 5) (.int .i64 (i : Int)) = some (.pointer (some ⟨b, i * 5, none⟩)) := by
  rw [idx_slice (off := 0) (k := 5) rfl rfl (by omega) (by omega)]
  simp
end Go.Proofs.Ytnmfmgnkfkhdhaa
