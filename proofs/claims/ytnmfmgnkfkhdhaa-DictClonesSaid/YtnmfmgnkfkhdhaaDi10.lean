/- A dict in abstract memory: a name is let go. -/
import Derived.Test.YtnmfmgnkfkhdhaaDi9
set_option linter.unusedVariables false
set_option linter.unusedSimpArgs false
set_option maxRecDepth 20000
set_option maxHeartbeats 1000000
namespace Go.Proofs.Ytnmfmgnkfkhdhaa
open Go Ax
theorem delete_none {H : Heap} {p : Nat} {ps : Places} (h : DR H p ps) {n : ByteArray} (hn : ∀ (i : Nat) (v : V), ps[i]? ≠ some (some (n, v))) :
    AX Try.prog 16 #[ptr p, .string n] H (fun v H' => v = .bool false ∧ H' = H) := by
  have hh := h
  obtain ⟨mb, sv, em, g1, g2, g3, g4⟩ := hh
  have hb := hblk_of g1
  have hl := look_none g2 (g3.not hn)
  refine AX.body (n := 34) (rs := [.tmp 4]) Try.func16 rfl (by decide) rfl rfl (bC_sound _ _ _ _ ?_)
  (try (conv => whnf)); (repeat (first | (refine Ob.of (by first | with_reducible assumption | with_reducible exact ex20 _ _ | with_reducible exact ex21 _ _ | with_reducible exact ex30 _ _ _ | with_reducible exact ex31 _ _ _ | with_reducible exact ex32 _ _ _ | rfl | (exact ald rfl rfl (by assumption) rfl) | (exact ald_agg rfl rfl rfl (by assumption) rfl)) ?_; (conv => whnf)) | (refine bIf.yes (by first | assumption | rfl) ?_; (conv => whnf)) | (refine bIf.no (by first | assumption | rfl) ?_; (conv => whnf))))
  refine (dead_ax h).mono ?_
  rintro _ X ⟨rfl, e⟩
  subst X
  (try (conv => whnf)); (repeat (first | (refine Ob.of (by first | with_reducible assumption | with_reducible exact ex20 _ _ | with_reducible exact ex21 _ _ | with_reducible exact ex30 _ _ _ | with_reducible exact ex31 _ _ _ | with_reducible exact ex32 _ _ _ | rfl | (exact ald rfl rfl (by assumption) rfl) | (exact ald_agg rfl rfl rfl (by assumption) rfl)) ?_; (conv => whnf)) | (refine bIf.yes (by first | assumption | rfl) ?_; (conv => whnf)) | (refine bIf.no (by first | assumption | rfl) ?_; (conv => whnf))))
  exact ⟨rfl, rfl⟩
theorem delete_some {H : Heap} {p : Nat} {ps : Places} (h : DR H p ps) (hlen : ps.length ≤ 1000000) {n : ByteArray} {i : Nat} {v : V} (hi : ps[i]? = some (some (n, v))) :
    AX Try.prog 16 #[ptr p, .string n] H (fun r H' => r = .bool true ∧ DR H' p (pressS (ps.set i none)) ∧ FrD p H H') := by
  have hh := h
  obtain ⟨mb, sv, em, g1, g2, g3, g4⟩ := hh
  have hb := hblk_of g1
  obtain ⟨j, hj⟩ := g3.at hi
  have hl := look_some g2 g3.nodup hj
  have hil := (List.getElem?_eq_some_iff.1 hi).1
  rcases g4 with ⟨rfl, rfl⟩ | ⟨b, rest, rfl, g5⟩
  · simp at hi
  have ix := idxP (b := b) hil
  have hpb : p ≠ b := by rintro rfl; rw [g1] at g5; simp at g5
  have hmb : mb ≠ b := by rintro rfl; rw [g2] at g5; simp at g5
  have hmp : mb ≠ p := by rintro rfl; rw [g1] at g2; cases g2
  obtain ⟨H1, hH1⟩ : ∃ H1, H1 = H.set mb (.map true (ents (em.eraseIdx j))) := ⟨_, rfl⟩
  have hd := del_some g2 g3.nodup hj
  rw [← hH1] at hd
  have c1 : H1[p]? = some (.cells .var [.map (some mb), .slice (some ⟨b, 0, none⟩) ps.length 5]) := by rw [hH1, List.getElem?_set_ne hmp]; exact g1
  have c2 : H1[mb]? = some (.map true (ents (em.eraseIdx j))) := by rw [hH1]; exact at_set g2
  have c3 : H1[b]? = some (.cells (.row 56) (cellsP ps ++ rest)) := by rw [hH1, List.getElem?_set_ne hmb]; exact g5
  have c4 : H1.length = H.length := by rw [hH1]; simp
  have hb1 := hblk_of c1
  obtain ⟨H2, hst, s1, s2, s3⟩ := store_ex (P := Try.prog) (t := 56) (off := i * 5) (v := .agg (cellP none).toArray) rfl rfl rfl c3 rfl (by rw [List.length_append, cellsP_len]; show i * 5 + 5 ≤ _; omega)
  rw [show (cellP none).toArray.toList = cellP none from rfl, cells_put none hil] at s1
  have d : DR H2 p (ps.set i none) := ⟨mb, _, em.eraseIdx j, s2.at c1 hpb, s2.at c2 hmb, g3.erase hi hj, .inr ⟨b, rest, by rw [List.length_set], s1⟩⟩
  have f1 : FrS (fun k => k = p ∨ Foot H p k) H H1 := by rw [hH1]; exact (FrS.refl _ _).set (.inr ⟨_, _, g1, .inl rfl⟩)
  have f : FrD p H H2 := FrD.of g1 (f1.but s2 (.inr (.inr ⟨_, _, g1, .inr ⟨_, _, rfl⟩⟩))) (s2.at c1 hpb) fun k n e h _ => ⟨n, e, h⟩
  refine AX.body (n := 34) (rs := [.tmp 4]) Try.func16 rfl (by decide) rfl rfl (bC_sound _ _ _ _ ?_)
  (try (conv => whnf)); (repeat (first | (refine Ob.of (by first | with_reducible assumption | with_reducible exact ex20 _ _ | with_reducible exact ex21 _ _ | with_reducible exact ex30 _ _ _ | with_reducible exact ex31 _ _ _ | with_reducible exact ex32 _ _ _ | rfl | (exact ald rfl rfl (by assumption) rfl) | (exact ald_agg rfl rfl rfl (by assumption) rfl)) ?_; (conv => whnf)) | (refine bIf.yes (by first | assumption | rfl) ?_; (conv => whnf)) | (refine bIf.no (by first | assumption | rfl) ?_; (conv => whnf))))
  refine (dead_ax h).mono ?_
  rintro _ X ⟨rfl, e⟩
  subst X
  (try (conv => whnf)); (repeat (first | (refine Ob.of (by first | with_reducible assumption | with_reducible exact ex20 _ _ | with_reducible exact ex21 _ _ | with_reducible exact ex30 _ _ _ | with_reducible exact ex31 _ _ _ | with_reducible exact ex32 _ _ _ | rfl | (exact ald rfl rfl (by assumption) rfl) | (exact ald_agg rfl rfl rfl (by assumption) rfl)) ?_; (conv => whnf)) | (refine bIf.yes (by first | assumption | rfl) ?_; (conv => whnf)) | (refine bIf.no (by first | assumption | rfl) ?_; (conv => whnf))))
  refine Ob.of hst ?_
  (try (conv => whnf)); (repeat (first | (refine Ob.of (by first | with_reducible assumption | with_reducible exact ex20 _ _ | with_reducible exact ex21 _ _ | with_reducible exact ex30 _ _ _ | with_reducible exact ex31 _ _ _ | with_reducible exact ex32 _ _ _ | rfl | (exact ald rfl rfl (by assumption) rfl) | (exact ald_agg rfl rfl rfl (by assumption) rfl)) ?_; (conv => whnf)) | (refine bIf.yes (by first | assumption | rfl) ?_; (conv => whnf)) | (refine bIf.no (by first | assumption | rfl) ?_; (conv => whnf))))
  refine (press_ax d (by rw [List.length_set]; exact hlen)).mono ?_
  rintro _ H3 ⟨d3, f3⟩
  (try (conv => whnf)); (repeat (first | (refine Ob.of (by first | with_reducible assumption | with_reducible exact ex20 _ _ | with_reducible exact ex21 _ _ | with_reducible exact ex30 _ _ _ | with_reducible exact ex31 _ _ _ | with_reducible exact ex32 _ _ _ | rfl | (exact ald rfl rfl (by assumption) rfl) | (exact ald_agg rfl rfl rfl (by assumption) rfl)) ?_; (conv => whnf)) | (refine bIf.yes (by first | assumption | rfl) ?_; (conv => whnf)) | (refine bIf.no (by first | assumption | rfl) ?_; (conv => whnf))))
  exact ⟨rfl, d3, f.trans f3⟩
/-! What is in a dict, as a list. -/
def idxOf (L : List (ByteArray × V)) (n : ByteArray) : Option Nat := L.findIdx? fun x => decide (x.1 = n)
def getL (L : List (ByteArray × V)) (n : ByteArray) : Option V := (L.find? fun x => decide (x.1 = n)).map Prod.snd
def setL (L : List (ByteArray × V)) (n : ByteArray) (v : V) : List (ByteArray × V) := match idxOf L n with | some j => L.set j (n, v) | none => L ++ [(n, v)]
def delL (L : List (ByteArray × V)) (n : ByteArray) : List (ByteArray × V) := match idxOf L n with | some j => L.eraseIdx j | none => L
theorem idx_none {L : List (ByteArray × V)} {n : ByteArray} (h : ∀ v, (n, v) ∉ L) : idxOf L n = none := by
  rw [idxOf, List.findIdx?_eq_none_iff]
  intro x hx
  rw [decide_eq_false]
  rintro rfl
  exact h x.2 hx
theorem idx_some {L : List (ByteArray × V)} {n : ByteArray} {v : V} {j : Nat} (hu : (L.map Prod.fst).Nodup) (h : L[j]? = some (n, v)) : idxOf L n = some j := by
  obtain ⟨hl, he⟩ := List.getElem?_eq_some_iff.1 h
  rw [idxOf, List.findIdx?_eq_some_iff_getElem]
  refine ⟨hl, by rw [he]; simp, fun k hk => ?_⟩
  rw [Bool.not_eq_true, decide_eq_false]
  intro e
  have a1 : (L.map Prod.fst)[k]? = some n := by rw [List.getElem?_map, List.getElem?_eq_getElem (by omega)]; simp [e]
  have a2 : (L.map Prod.fst)[j]? = some n := by simp [h]
  have := (List.getElem?_inj (List.getElem?_eq_some_iff.1 a1).1 hu).1 (a1.trans a2.symm)
  omega
theorem get_of_idx {L : List (ByteArray × V)} {n : ByteArray} : getL L n = (idxOf L n).bind fun j => (L[j]?).map Prod.snd := by
  unfold getL idxOf
  induction L with
  | nil => rfl
  | cons x L ih =>
    rw [List.find?_cons, List.findIdx?_cons]
    by_cases h : x.1 = n
    · simp [h]
    · simp only [decide_eq_false h, Bool.false_eq_true, if_false]
      rw [ih]
      cases List.findIdx? (fun x => decide (x.1 = n)) L <;> simp
/-- A dict that has L, its places at most so many. -/
def Has9 (H : Heap) (p : Nat) (L : List (ByteArray × V)) (N : Nat) : Prop := ∃ ps, DR H p ps ∧ full ps = L ∧ ps.length ≤ N
theorem DR.uniq {H : Heap} {p : Nat} {ps : Places} (h : DR H p ps) : ((full ps).map Prod.fst).Nodup := by obtain ⟨mb, sv, em, h1, h2, h3, h4⟩ := h; exact h3.uniq
theorem Has9.uniq {H : Heap} {p : Nat} {L : List (ByteArray × V)} {N : Nat} (h : Has9 H p L N) : (L.map Prod.fst).Nodup := by obtain ⟨ps, h1, rfl, _⟩ := h; exact h1.uniq
theorem at_of_full {ps : Places} {i : Nat} {x : ByteArray × V} (h : ps[i]? = some (some x)) : (full ps)[(full (ps.take i)).length]? = some x := by
  rw [full_at h, List.getElem?_append_right (Nat.le_refl _)]; simp
theorem set9 {H : Heap} {p : Nat} {L : List (ByteArray × V)} {N : Nat} (h : Has9 H p L N) (hN : N ≤ 1000000) (n : ByteArray) (v : V) :
    AX Try.prog 13 #[ptr p, .string n, valV v] H (fun r H' => r = .bool (idxOf L n).isNone ∧ Has9 H' p (setL L n v) (N + 1) ∧ FrD p H H') := by
  obtain ⟨ps, h1, rfl, h2⟩ := h
  by_cases hx : ∃ (i : Nat) (u : V), ps[i]? = some (some (n, u))
  · obtain ⟨i, u, hi⟩ := hx
    have hl := (List.getElem?_eq_some_iff.1 hi).1
    have hix := idx_some h1.uniq (at_of_full hi)
    refine (set_old h1 hi v).mono ?_
    rintro r H' ⟨rfl, d, f⟩
    refine ⟨by rw [hix]; rfl, ⟨_, d, ?_, by rw [List.length_set]; omega⟩, f⟩
    rw [full_set _ hl, setL, hix]
    show _ = (full ps).set _ _
    rw [full_at hi, List.set_append_right _ _ (Nat.le_refl _)]
    simp
  · have hn : ∀ (i : Nat) (u : V), ps[i]? ≠ some (some (n, u)) := fun i u hi => hx ⟨i, u, hi⟩
    have hix : idxOf (full ps) n = none := idx_none fun u hu => by obtain ⟨i, hi⟩ := mem_full.1 hu; exact hn i u hi
    refine (set_new h1 hn v (by omega)).mono ?_
    rintro r H' ⟨rfl, d, f⟩
    refine ⟨by rw [hix]; rfl, ⟨_, d, ?_, by rw [List.length_append]; simp; omega⟩, f⟩
    rw [setL, hix, full, List.filterMap_append]
    rfl
theorem delete9 {H : Heap} {p : Nat} {L : List (ByteArray × V)} {N : Nat} (h : Has9 H p L N) (hN : N ≤ 1000000) (n : ByteArray) :
    AX Try.prog 16 #[ptr p, .string n] H (fun r H' => r = .bool (idxOf L n).isSome ∧ Has9 H' p (delL L n) N ∧ FrD p H H') := by
  obtain ⟨ps, h1, rfl, h2⟩ := h
  by_cases hx : ∃ (i : Nat) (u : V), ps[i]? = some (some (n, u))
  · obtain ⟨i, u, hi⟩ := hx
    have hl := (List.getElem?_eq_some_iff.1 hi).1
    have hix := idx_some h1.uniq (at_of_full hi)
    refine (delete_some h1 (by omega) hi).mono ?_
    rintro r H' ⟨rfl, d, f⟩
    refine ⟨by rw [hix]; rfl, ⟨_, d, ?_, by have := press_len (ps.set i none); rw [List.length_set] at this; omega⟩, f⟩
    rw [full_press, full_set _ hl, delL, hix]
    show _ = (full ps).eraseIdx _
    rw [full_at hi, List.eraseIdx_append_of_length_le (Nat.le_refl _)]
    simp
  · have hn : ∀ (i : Nat) (u : V), ps[i]? ≠ some (some (n, u)) := fun i u hi => hx ⟨i, u, hi⟩
    have hix : idxOf (full ps) n = none := idx_none fun u hu => by obtain ⟨i, hi⟩ := mem_full.1 hu; exact hn i u hi
    refine (delete_none h1 hn).mono ?_
    rintro r H' ⟨rfl, e⟩
    subst e
    refine ⟨by rw [hix]; rfl, ⟨_, h1, ?_, h2⟩, .refl _ _⟩
    rw [delL, hix]
abbrev getV (L : List (ByteArray × V)) (n : ByteArray) : Value := .tuple #[valV ((getL L n).getD zeroV), .bool (idxOf L n).isSome]
theorem get9 {H : Heap} {p : Nat} {L : List (ByteArray × V)} {N : Nat} (h : Has9 H p L N) (n : ByteArray) :
    AX Try.prog 15 #[ptr p, .string n] H (fun r H' => r = getV L n ∧ H' = H) := by
  obtain ⟨ps, h1, rfl, h2⟩ := h
  by_cases hx : ∃ (i : Nat) (u : V), ps[i]? = some (some (n, u))
  · obtain ⟨i, u, hi⟩ := hx
    have ha := at_of_full hi
    have hix := idx_some h1.uniq ha
    refine (get_some h1 hi).mono ?_
    rintro r H' ⟨rfl, e⟩
    refine ⟨?_, e⟩
    have hg : getL (full ps) n = some u := by rw [get_of_idx, hix]; simp [ha]
    unfold getV
    rw [hg, hix]
    rfl
  · have hn : ∀ (i : Nat) (u : V), ps[i]? ≠ some (some (n, u)) := fun i u hi => hx ⟨i, u, hi⟩
    have hix : idxOf (full ps) n = none := idx_none fun u hu => by obtain ⟨i, hi⟩ := mem_full.1 hu; exact hn i u hi
    refine (get_none h1 hn).mono ?_
    rintro r H' ⟨rfl, e⟩
    refine ⟨?_, e⟩
    have hg : getL (full ps) n = none := by rw [get_of_idx, hix]; rfl
    unfold getV
    rw [hg, hix]
    rfl
theorem len9 {H : Heap} {p : Nat} {L : List (ByteArray × V)} {N : Nat} (h : Has9 H p L N) : AX Try.prog 12 #[ptr p] H (fun v H' => v = .int .i64 (L.length : Int) ∧ H' = H) := by
  obtain ⟨ps, h1, rfl, h2⟩ := h
  exact len_ax h1
theorem names9 {H : Heap} {p : Nat} {L : List (ByteArray × V)} {N : Nat} (h : Has9 H p L N) (hN : N ≤ 1000000) : AX Try.prog 17 #[ptr p] H (fun v H' => Strs H' v (L.map Prod.fst) ∧ Grow H H') := by
  obtain ⟨ps, h1, rfl, h2⟩ := h
  exact names_ax h1 (by omega)
abbrev keyV (L : List (ByteArray × V)) (i : Int) : Value :=
  if 0 ≤ i then (match L[i.toNat]? with | some x => .tuple #[.string x.1, .bool true] | none => .tuple #[.string .empty, .bool false]) else .tuple #[.string .empty, .bool false]
theorem key9 {H : Heap} {p : Nat} {L : List (ByteArray × V)} {N : Nat} (h : Has9 H p L N) (hN : N ≤ 1000000) (i : Int) : AX Try.prog 14 #[ptr p, .int .i64 i] H (fun v H' => v = keyV L i ∧ H' = H) := by
  obtain ⟨ps, h1, rfl, h2⟩ := h
  by_cases h0 : 0 ≤ i
  · obtain ⟨k, rfl⟩ : ∃ k : Nat, i = (k : Int) := ⟨i.toNat, by omega⟩
    rw [show keyV (full ps) (k : Int) = (match (full ps)[k]? with | some x => .tuple #[.string x.1, .bool true] | none => .tuple #[.string .empty, .bool false]) from if_pos h0]
    cases hx : (full ps)[k]? with
    | none => exact key_out h1 (.inr (by have := List.getElem?_eq_none_iff.1 hx; omega))
    | some x => exact key_in h1 (by omega) hx
  · rw [show keyV (full ps) i = .tuple #[.string .empty, .bool false] from if_neg h0]
    exact key_out h1 (.inl (by omega))
theorem Has9.keep {H H' : Heap} {p : Nat} {L : List (ByteArray × V)} {N : Nat} (h : Has9 H p L N) (hp : ∀ (B : Blk), H[p]? = some B → H'[p]? = some B) (hm : ∀ (b : Nat) (es : List (Value × Value)), H[b]? = some (.map true es) → H'[b]? = some (.map true es))
    (k : ∀ (b : Nat) (c : List Value), H[b]? = some (.cells (.row 56) c) → H'[b]? = some (.cells (.row 56) c)) : Has9 H' p L N := by
  obtain ⟨ps, h1, h2, h3⟩ := h
  exact ⟨ps, h1.keep hp hm k, h2, h3⟩
theorem Has9.grow {H H' : Heap} {p : Nat} {L : List (ByteArray × V)} {N : Nat} (h : Has9 H p L N) (k : Grow H H') : Has9 H' p L N := by
  obtain ⟨ps, h1, h2, h3⟩ := h
  exact ⟨ps, h1.grow k, h2, h3⟩
theorem Has9.more {H : Heap} {p : Nat} {L : List (ByteArray × V)} {N M : Nat} (h : Has9 H p L N) (k : N ≤ M) : Has9 H p L M := by
  obtain ⟨ps, h1, h2, h3⟩ := h
  exact ⟨ps, h1, h2, Nat.le_trans h3 k⟩
theorem Has9.lt {H : Heap} {p : Nat} {L : List (ByteArray × V)} {N : Nat} (h : Has9 H p L N) : p < H.length := by obtain ⟨ps, h1, _⟩ := h; exact h1.lt
end Go.Proofs.Ytnmfmgnkfkhdhaa
