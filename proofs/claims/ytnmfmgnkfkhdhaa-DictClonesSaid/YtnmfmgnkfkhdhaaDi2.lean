/- A dict in abstract memory: what it is, and its smaller methods. -/
import Derived.Test.YtnmfmgnkfkhdhaaDi1
set_option linter.unusedVariables false
set_option linter.unusedSimpArgs false
set_option maxRecDepth 20000
namespace Go.Proofs.Ytnmfmgnkfkhdhaa
open Go Ax
abbrev Places := List (Option (ByteArray × V))
def PlS (H : Heap) (sv : Value) (ps : Places) : Prop :=
  (sv = .slice none 0 0 ∧ ps = []) ∨ ∃ b rest, sv = .slice (some ⟨b, 0, none⟩) ps.length 5 ∧ H[b]? = some (.cells (.row 56) (cellsP ps ++ rest))
structure EmOK (em : List (ByteArray × Nat)) (ps : Places) : Prop where
  nodup : (em.map Prod.fst).Nodup
  to : ∀ (n : ByteArray) (i : Nat), (n, i) ∈ em → ∃ v, ps[i]? = some (some (n, v))
  of : ∀ (n : ByteArray) (i : Nat) (v : V), ps[i]? = some (some (n, v)) → (n, i) ∈ em
  len : em.length = (ps.filterMap id).length
  uniq : ((ps.filterMap id).map Prod.fst).Nodup
def DR (H : Heap) (p : Nat) (ps : Places) : Prop :=
  ∃ mb sv em, H[p]? = some (.cells .var [.map (some mb), sv]) ∧ H[mb]? = some (.map true (ents em)) ∧ EmOK em ps ∧ PlS H sv ps
/-- What a dict's calls leave: all but the dict, maps, and rows of places. -/
def keepD : Blk → Bool
  | .cells (.row e) _ => !Nat.beq e 56
  | .map _ _ => false
  | _ => true
/-- The blocks that a dict has beside its own. -/
def Foot (H : Heap) (p k : Nat) : Prop := ∃ mb sv, H[p]? = some (.cells .var [.map (some mb), sv]) ∧ (k = mb ∨ ∃ n e, sv = .slice (some ⟨k, 0, none⟩) n e)
/-- Some blocks may have changed. -/
def FrS (S : Nat → Prop) (H H' : Heap) : Prop := H.length ≤ H'.length ∧ ∀ (k : Nat) (B : Blk), H[k]? = some B → ¬ S k → H'[k]? = some B
theorem FrS.refl (S : Nat → Prop) (H : Heap) : FrS S H H := ⟨Nat.le_refl _, fun _ _ h _ => h⟩
theorem FrS.trans {S : Nat → Prop} {A B C : Heap} (h : FrS S A B) (k : FrS S B C) : FrS S A C := ⟨Nat.le_trans h.1 k.1, fun i b hb hi => k.2 i b (h.2 i b hb hi) hi⟩
theorem FrS.grow {S : Nat → Prop} {A B C : Heap} (h : FrS S A B) (k : Grow B C) : FrS S A C := ⟨Nat.le_trans h.1 k.1, fun i b hb hi => k.at (h.2 i b hb hi)⟩
theorem FrS.but {S : Nat → Prop} {q : Nat} {A B C : Heap} (h : FrS S A B) (k : But q B C) (hq : A.length ≤ q ∨ S q) : FrS S A C :=
  ⟨Nat.le_trans h.1 k.1, fun i b hb hi => k.at (h.2 i b hb hi) (by have := lt_at hb; rintro rfl; rcases hq with hq | hq; omega; exact hi hq)⟩
theorem FrS.set {S : Nat → Prop} {q : Nat} {A B : Heap} {X : Blk} (h : FrS S A B) (hq : S q) : FrS S A (B.set q X) := h.but (.set _ _) (.inr hq)
def FrD (p : Nat) (H H' : Heap) : Prop := H.length ≤ H'.length ∧ (∀ (k : Nat) (B : Blk), H[k]? = some B → k ≠ p → ¬ Foot H p k → H'[k]? = some B) ∧ ∀ k, k < H.length → Foot H' p k → Foot H p k
theorem FrD.refl (p : Nat) (H : Heap) : FrD p H H := ⟨Nat.le_refl _, fun _ _ h _ _ => h, fun _ _ h => h⟩
theorem FrD.trans {p : Nat} {A B C : Heap} (h : FrD p A B) (k : FrD p B C) : FrD p A C :=
  ⟨Nat.le_trans h.1 k.1, fun i b hb hp hn => k.2.1 i b (h.2.1 i b hb hp hn) hp fun hf => hn (h.2.2 i (lt_at hb) hf), fun i hi hf => h.2.2 i hi (k.2.2 i (Nat.lt_of_lt_of_le hi h.1) hf)⟩
theorem FrD.of {p mb : Nat} {sv sv' : Value} {H H' : Heap} (g : H[p]? = some (.cells .var [.map (some mb), sv])) (f : FrS (fun k => k = p ∨ Foot H p k) H H') (g' : H'[p]? = some (.cells .var [.map (some mb), sv']))
    (hv : ∀ (k n e : Nat), sv' = .slice (some ⟨k, 0, none⟩) n e → k < H.length → ∃ n e, sv = .slice (some ⟨k, 0, none⟩) n e) : FrD p H H' := by
  refine ⟨f.1, fun k B hk hp hn => f.2 k B hk fun hs => hs.elim hp hn, fun k hk hf => ?_⟩
  · obtain ⟨mb2, sv2, h1, h2⟩ := hf
    rw [g'] at h1
    simp only [Option.some.injEq, Blk.cells.injEq, List.cons.injEq, Value.map.injEq, and_true, true_and] at h1
    obtain ⟨rfl, rfl⟩ := h1
    rcases h2 with rfl | ⟨n, e, h2⟩
    · exact ⟨_, _, g, .inl rfl⟩
    · exact ⟨_, _, g, .inr (hv k n e h2 hk)⟩
theorem FrD.begin {p : Nat} {H K H' : Heap} (g : Grow H K) (hp : p < H.length) (f : FrD p K H') : FrD p H H' := by
  have e := g.2 p hp
  refine ⟨Nat.le_trans g.1 f.1, fun k B hk hkp hn => f.2.1 k B (g.at hk) hkp fun ⟨mb, sv, h1, h2⟩ => hn ⟨mb, sv, by rw [← e]; exact h1, h2⟩, fun k hk hf => ?_⟩
  obtain ⟨mb, sv, h1, h2⟩ := f.2.2 k (Nat.lt_of_lt_of_le hk g.1) hf
  exact ⟨mb, sv, by rw [← e]; exact h1, h2⟩
theorem PlS.keep {H H' : Heap} {sv : Value} {ps : Places} (h : PlS H sv ps) (k : ∀ (b : Nat) (c : List Value), H[b]? = some (.cells (.row 56) c) → H'[b]? = some (.cells (.row 56) c)) : PlS H' sv ps := by
  rcases h with h | ⟨b, rest, h1, h2⟩
  · exact .inl h
  · exact .inr ⟨b, rest, h1, k _ _ h2⟩
theorem DR.keep {H H' : Heap} {p : Nat} {ps : Places} (h : DR H p ps) (hp : ∀ (B : Blk), H[p]? = some B → H'[p]? = some B) (hm : ∀ (b : Nat) (es : List (Value × Value)), H[b]? = some (.map true es) → H'[b]? = some (.map true es))
    (k : ∀ (b : Nat) (c : List Value), H[b]? = some (.cells (.row 56) c) → H'[b]? = some (.cells (.row 56) c)) : DR H' p ps := by
  obtain ⟨mb, sv, em, h1, h2, h3, h4⟩ := h
  exact ⟨mb, sv, em, hp _ h1, hm _ _ h2, h3, h4.keep k⟩
theorem DR.grow {H H' : Heap} {p : Nat} {ps : Places} (h : DR H p ps) (k : Grow H H') : DR H' p ps := h.keep (fun _ h => k.at h) (fun _ _ h => k.at h) fun _ _ h => k.at h
theorem DR.but {H H' : Heap} {p q : Nat} {ps : Places} (h : DR H p ps) (k : But q H H') (hne : q ≠ p) {c : List Value} (hq : H[q]? = some (.cells .var c)) : DR H' p ps :=
  h.keep (fun _ h => k.at h (Ne.symm hne)) (fun b _ h => k.at h (by rintro rfl; rw [hq] at h; cases h)) fun b _ h => k.at h (by rintro rfl; rw [hq] at h; simp at h)
theorem DR.lt {H : Heap} {p : Nat} {ps : Places} (h : DR H p ps) : p < H.length := by obtain ⟨mb, sv, em, h1, _⟩ := h; exact lt_at h1
theorem EmOK.nil : EmOK [] [] := ⟨by simp, by simp, by simp, rfl, by simp⟩
theorem EmOK.not {em : List (ByteArray × Nat)} {ps : Places} (h : EmOK em ps) {n : ByteArray} (hn : ∀ (i : Nat) (v : V), ps[i]? ≠ some (some (n, v))) : n ∉ em.map Prod.fst := by
  intro hm
  obtain ⟨⟨m, i⟩, h1, rfl⟩ := List.mem_map.1 hm
  obtain ⟨v, hv⟩ := h.to _ _ h1
  exact hn i v hv
theorem EmOK.at {em : List (ByteArray × Nat)} {ps : Places} (h : EmOK em ps) {n : ByteArray} {i : Nat} {v : V} (hn : ps[i]? = some (some (n, v))) : ∃ j : Nat, em[j]? = some (n, i) := List.mem_iff_getElem?.1 (h.of n i v hn)
theorem new_ax (H : Heap) : AX Try.prog 7 #[] H (fun v H' => ∃ p, v = ptr p ∧ H.length ≤ p ∧ DR H' p [] ∧ Grow H H') := by
  refine AX.body (n := 4) (rs := [.tmp 0]) Try.func7 rfl (by decide) rfl rfl (bC_sound _ _ _ _ ?_)
  (try (conv => whnf)); (repeat (first | (refine Ob.of (by first | with_reducible assumption | with_reducible exact ex20 _ _ | with_reducible exact ex21 _ _ | with_reducible exact ex30 _ _ _ | with_reducible exact ex31 _ _ _ | with_reducible exact ex32 _ _ _ | rfl | (exact ald rfl rfl (by assumption) rfl) | (exact ald_agg rfl rfl rfl (by assumption) rfl)) ?_; (conv => whnf)) | (refine bIf.yes (by first | assumption | rfl) ?_; (conv => whnf)) | (refine bIf.no (by first | assumption | rfl) ?_; (conv => whnf))))
  refine Ob2.of (a := .map (some H.length)) (b := H ++ [.map true []]) rfl ?_
  (try (conv => whnf)); (repeat (first | (refine Ob.of (by first | with_reducible assumption | with_reducible exact ex20 _ _ | with_reducible exact ex21 _ _ | with_reducible exact ex30 _ _ _ | with_reducible exact ex31 _ _ _ | with_reducible exact ex32 _ _ _ | rfl | (exact ald rfl rfl (by assumption) rfl) | (exact ald_agg rfl rfl rfl (by assumption) rfl)) ?_; (conv => whnf)) | (refine bIf.yes (by first | assumption | rfl) ?_; (conv => whnf)) | (refine bIf.no (by first | assumption | rfl) ?_; (conv => whnf))))
  refine Ob2.box rfl fun q H1 hq k1 k2 => ?_
  (try (conv => whnf)); (repeat (first | (refine Ob.of (by first | with_reducible assumption | with_reducible exact ex20 _ _ | with_reducible exact ex21 _ _ | with_reducible exact ex30 _ _ _ | with_reducible exact ex31 _ _ _ | with_reducible exact ex32 _ _ _ | rfl | (exact ald rfl rfl (by assumption) rfl) | (exact ald_agg rfl rfl rfl (by assumption) rfl)) ?_; (conv => whnf)) | (refine bIf.yes (by first | assumption | rfl) ?_; (conv => whnf)) | (refine bIf.no (by first | assumption | rfl) ?_; (conv => whnf))))
  have g : Grow H H1 := (Grow.push H _).trans k2
  exact ⟨q, rfl, by rw [hq]; simp, ⟨H.length, .slice none 0 0, [], k1, k2.at (at_push _ _), .nil, .inl ⟨rfl, rfl⟩⟩, g⟩
theorem dead_nil (H : Heap) : AX Try.prog 23 #[.pointer none] H (fun v H' => v = .bool true ∧ H' = H) := by
  refine AX.body (n := 12) (rs := [.tmp 2]) Try.func23 rfl (by decide) rfl rfl (bC_sound _ _ _ _ ?_)
  (try (conv => whnf)); (repeat (first | (refine Ob.of (by first | with_reducible assumption | with_reducible exact ex20 _ _ | with_reducible exact ex21 _ _ | with_reducible exact ex30 _ _ _ | with_reducible exact ex31 _ _ _ | with_reducible exact ex32 _ _ _ | rfl | (exact ald rfl rfl (by assumption) rfl) | (exact ald_agg rfl rfl rfl (by assumption) rfl)) ?_; (conv => whnf)) | (refine bIf.yes (by first | assumption | rfl) ?_; (conv => whnf)) | (refine bIf.no (by first | assumption | rfl) ?_; (conv => whnf))))
  exact ⟨rfl, rfl⟩
theorem dead_zero {H : Heap} {p : Nat} {sv : Value} (h : H[p]? = some (.cells .var [.map none, sv])) : AX Try.prog 23 #[ptr p] H (fun v H' => v = .bool true ∧ H' = H) := by
  have hb := hblk_of h
  refine AX.body (n := 12) (rs := [.tmp 2]) Try.func23 rfl (by decide) rfl rfl (bC_sound _ _ _ _ ?_)
  (try (conv => whnf)); (repeat (first | (refine Ob.of (by first | with_reducible assumption | with_reducible exact ex20 _ _ | with_reducible exact ex21 _ _ | with_reducible exact ex30 _ _ _ | with_reducible exact ex31 _ _ _ | with_reducible exact ex32 _ _ _ | rfl | (exact ald rfl rfl (by assumption) rfl) | (exact ald_agg rfl rfl rfl (by assumption) rfl)) ?_; (conv => whnf)) | (refine bIf.yes (by first | assumption | rfl) ?_; (conv => whnf)) | (refine bIf.no (by first | assumption | rfl) ?_; (conv => whnf))))
  exact ⟨rfl, rfl⟩
theorem dead_ax {H : Heap} {p : Nat} {ps : Places} (h : DR H p ps) : AX Try.prog 23 #[ptr p] H (fun v H' => v = .bool false ∧ H' = H) := by
  obtain ⟨mb, sv, em, h1, h2, h3, h4⟩ := h
  have hb := hblk_of h1
  refine AX.body (n := 12) (rs := [.tmp 2]) Try.func23 rfl (by decide) rfl rfl (bC_sound _ _ _ _ ?_)
  (try (conv => whnf)); (repeat (first | (refine Ob.of (by first | with_reducible assumption | with_reducible exact ex20 _ _ | with_reducible exact ex21 _ _ | with_reducible exact ex30 _ _ _ | with_reducible exact ex31 _ _ _ | with_reducible exact ex32 _ _ _ | rfl | (exact ald rfl rfl (by assumption) rfl) | (exact ald_agg rfl rfl rfl (by assumption) rfl)) ?_; (conv => whnf)) | (refine bIf.yes (by first | assumption | rfl) ?_; (conv => whnf)) | (refine bIf.no (by first | assumption | rfl) ?_; (conv => whnf))))
  exact ⟨rfl, rfl⟩
theorem len_ax {H : Heap} {p : Nat} {ps : Places} (h : DR H p ps) : AX Try.prog 12 #[ptr p] H (fun v H' => v = .int .i64 ((ps.filterMap id).length : Int) ∧ H' = H) := by
  have hh := h
  obtain ⟨mb, sv, em, h1, h2, h3, h4⟩ := hh
  have hb := hblk_of h1
  have hl : alen Try.prog 48 (.map (some mb)) H = some (.int .i64 ((ps.filterMap id).length : Int)) := by
    show (hmap H mb).map _ = _
    rw [hmap_of h2]
    simp [h3.len]
  refine AX.body (n := 10) (rs := [.tmp 2]) Try.func12 rfl (by decide) rfl rfl (bC_sound _ _ _ _ ?_)
  (try (conv => whnf)); (repeat (first | (refine Ob.of (by first | with_reducible assumption | with_reducible exact ex20 _ _ | with_reducible exact ex21 _ _ | with_reducible exact ex30 _ _ _ | with_reducible exact ex31 _ _ _ | with_reducible exact ex32 _ _ _ | rfl | (exact ald rfl rfl (by assumption) rfl) | (exact ald_agg rfl rfl rfl (by assumption) rfl)) ?_; (conv => whnf)) | (refine bIf.yes (by first | assumption | rfl) ?_; (conv => whnf)) | (refine bIf.no (by first | assumption | rfl) ?_; (conv => whnf))))
  refine (dead_ax h).mono ?_
  rintro _ X ⟨rfl, e⟩
  subst X
  (try (conv => whnf)); (repeat (first | (refine Ob.of (by first | with_reducible assumption | with_reducible exact ex20 _ _ | with_reducible exact ex21 _ _ | with_reducible exact ex30 _ _ _ | with_reducible exact ex31 _ _ _ | with_reducible exact ex32 _ _ _ | rfl | (exact ald rfl rfl (by assumption) rfl) | (exact ald_agg rfl rfl rfl (by assumption) rfl)) ?_; (conv => whnf)) | (refine bIf.yes (by first | assumption | rfl) ?_; (conv => whnf)) | (refine bIf.no (by first | assumption | rfl) ?_; (conv => whnf))))
  exact ⟨rfl, rfl⟩
theorem len_dead (H : Heap) {v : Value} (h : AX Try.prog 23 #[v] H (fun v H' => v = .bool true ∧ H' = H)) : AX Try.prog 12 #[v] H (fun v H' => v = .int .i64 0 ∧ H' = H) := by
  refine AX.body (n := 10) (rs := [.tmp 2]) Try.func12 rfl (by decide) rfl rfl (bC_sound _ _ _ _ ?_)
  (try (conv => whnf)); (repeat (first | (refine Ob.of (by first | with_reducible assumption | with_reducible exact ex20 _ _ | with_reducible exact ex21 _ _ | with_reducible exact ex30 _ _ _ | with_reducible exact ex31 _ _ _ | with_reducible exact ex32 _ _ _ | rfl | (exact ald rfl rfl (by assumption) rfl) | (exact ald_agg rfl rfl rfl (by assumption) rfl)) ?_; (conv => whnf)) | (refine bIf.yes (by first | assumption | rfl) ?_; (conv => whnf)) | (refine bIf.no (by first | assumption | rfl) ?_; (conv => whnf))))
  refine h.mono ?_
  rintro _ X ⟨rfl, e⟩
  subst X
  (try (conv => whnf)); (repeat (first | (refine Ob.of (by first | with_reducible assumption | with_reducible exact ex20 _ _ | with_reducible exact ex21 _ _ | with_reducible exact ex30 _ _ _ | with_reducible exact ex31 _ _ _ | with_reducible exact ex32 _ _ _ | rfl | (exact ald rfl rfl (by assumption) rfl) | (exact ald_agg rfl rfl rfl (by assumption) rfl)) ?_; (conv => whnf)) | (refine bIf.yes (by first | assumption | rfl) ?_; (conv => whnf)) | (refine bIf.no (by first | assumption | rfl) ?_; (conv => whnf))))
  exact ⟨rfl, rfl⟩
theorem idxP {ps : Places} {b i : Nat} (h : i < ps.length) : aindexAddr Try.prog 49 (.slice (some ⟨b, 0, none⟩) ps.length 5) (.int .i64 (i : Int)) = some (.pointer (some ⟨b, i * 5, none⟩)) := by
  rw [idx_slice (off := 0) (k := 5) rfl rfl (by omega) (by omega)]
  simp
/-- What a dict's calls leave: all but the dict, maps, and rows of places. -/
theorem DR.keepF {H H' : Heap} {p : Nat} {ps : Places} (h : DR H p ps) (f : FrD p H H') {k : Nat} {B : Blk} (hk : H[k]? = some B) (hp : k ≠ p) (hB : keepD B = true) : H'[k]? = some B := by
  refine f.2.1 k B hk hp fun ⟨mb', sv', h1, h2⟩ => ?_
  obtain ⟨mb, sv, em, g1, g2, g3, g4⟩ := h
  rw [g1] at h1
  simp only [Option.some.injEq, Blk.cells.injEq, List.cons.injEq, Value.map.injEq, and_true, true_and] at h1
  obtain ⟨rfl, rfl⟩ := h1
  rcases h2 with rfl | ⟨n, e, h2⟩
  · rw [g2] at hk
    simp only [Option.some.injEq] at hk
    subst hk
    cases hB
  · rcases g4 with ⟨rfl, _⟩ | ⟨b, rest, rfl, g5⟩
    · cases h2
    · cases h2
      rw [g5] at hk
      simp only [Option.some.injEq] at hk
      subst hk
      simp [keepD] at hB
end Go.Proofs.Ytnmfmgnkfkhdhaa
