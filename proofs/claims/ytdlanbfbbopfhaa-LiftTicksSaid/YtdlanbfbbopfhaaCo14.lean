/- Package code: the depths of a code's stack. -/
import Derived.Test.YtdlanbfbbopfhaaCo13
set_option linter.unusedVariables false
set_option linter.unusedSimpArgs false
set_option maxRecDepth 20000
set_option maxHeartbeats 8000000
namespace Go.Proofs.Ytdlanbfbbopfhaa
open Go Ax
/-- All blocks but two stay. -/
def But2 (p r : Nat) (A B : Heap) : Prop := A.length ≤ B.length ∧ ∀ k, k < A.length → k ≠ p → k ≠ r → B[k]? = A[k]?
theorem But2.refl (p r : Nat) (A : Heap) : But2 p r A A := ⟨Nat.le_refl _, fun _ _ _ _ => rfl⟩
theorem But2.step {p r x : Nat} {A B C : Heap} (h : But2 p r A B) (k : But x B C) (hx : x = p ∨ x = r ∨ A.length ≤ x) : But2 p r A C :=
  ⟨Nat.le_trans h.1 k.1, fun i hi h1 h2 => (k.2 i (Nat.lt_of_lt_of_le hi h.1) (by omega)).trans (h.2 i hi h1 h2)⟩
theorem But2.grow {p r : Nat} {A0 A B : Heap} (g : Grow A0 A) (h : But2 p r A B) (hp : A0.length ≤ p) (hr : A0.length ≤ r) : Grow A0 B :=
  ⟨Nat.le_trans g.1 h.1, fun i hi => (h.2 i (Nat.lt_of_lt_of_le hi g.1) (by omega) (by omega)).trans (g.2 i hi)⟩
theorem But2.at {p r : Nat} {A B : Heap} (h : But2 p r A B) {k : Nat} {X : Blk} (hk : A[k]? = some X) (h1 : k ≠ p) (h2 : k ≠ r) : B[k]? = some X := (h.2 k (lt_at hk) h1 h2).trans hk
theorem own_idx {q n i : Nat} (h : i < n) : aindexAddr Try.prog 36 (.slice (some ⟨q, 0, none⟩) n 1) (.int .i64 (i : Int)) = some (.pointer (some ⟨q, i, none⟩)) := by
  have := idx_slice (P := Try.prog) (t := 36) (b := q) (off := 0) (len := n) (es := 1) (kd := .i64) (n := (i : Int)) rfl (k := 1) rfl (by omega) (by omega)
  simpa using this
theorem own_ld {H : Heap} {q i : Nat} {L : List Int} {d : Int} (h : OwnI H q L) (hi : L[i]? = some d) : aload Try.prog 3 (.pointer (some ⟨q, i, none⟩)) H = some (.int .i64 d) :=
  ald rfl rfl (hblk_of h) (by simp [hi])
theorem putL_set {L : List Int} {i : Nat} {d : Int} : putL (L.map (Value.int .i64)) i [.int .i64 d] = (L.set i d).map (Value.int .i64) := by
  rw [List.map_set]; rfl
theorem Ob.storeI {H : Heap} {q i : Nat} {L : List Int} {d : Int} {K : Heap → Prop} (h : OwnI H q L) (hi : i < L.length) (k : ∀ H', OwnI H' q (L.set i d) → But q H H' → H'.length = H.length → K H') :
    Ob (astore Try.prog 3 (.pointer (some ⟨q, i, none⟩)) (.int .i64 d) H) K := by
  refine Ob.store (vs := [.int .i64 d]) rfl rfl rfl h rfl (by simp; omega) fun H' h1 h2 h3 => k H' ?_ h2 h3
  unfold OwnI
  rw [h1, putL_set]
/-- What is still to be done. -/
def TodoR (H : Heap) (b : Nat) (T : List Nat) : Prop := ∃ c, H[b]? = some (.cells (.row 3) c) ∧ slotsOf c 0 T.length = some (T.map fun i => .int .i64 (i : Int))
theorem TodoR.last {H : Heap} {b i : Nat} {T : List Nat} (h : TodoR H b (T ++ [i])) : TodoR H b T ∧ aload Try.prog 3 (.pointer (some ⟨b, T.length, none⟩)) H = some (.int .i64 (i : Int)) := by
  obtain ⟨c, h1, h2⟩ := h
  unfold slotsOf at h2
  split at h2
  · rename_i hle
    simp only [List.length_append, List.length_singleton, List.drop_zero, Nat.zero_add, Option.some.injEq, List.map_append, List.map_cons, List.map_nil] at h2 hle
    refine ⟨⟨c, h1, ?_⟩, ald rfl rfl (hblk_of h1) ?_⟩
    · rw [slots_of (by omega)]
      have := congrArg (List.take T.length) h2
      rw [List.take_take, Nat.min_eq_left (by omega), List.take_left' (by simp)] at this
      rw [List.drop_zero, this]
    · have := congrArg (·[T.length]?) h2
      simpa [List.getElem?_take] using this
  · simp at h2
theorem todo_append {H : Heap} {b b2 i : Nat} {T : List Nat} (h : TodoR H b T) (h2 : H[b2]? = some (.cells (.row 3) [.int .i64 (i : Int)])) (hl : T.length ≤ 100000) :
    ∃ H', aappend Try.prog 36 36 (.slice (some ⟨b, 0, none⟩) T.length 1) (.slice (some ⟨b2, 0, none⟩) 1 1) H = some (.slice (some ⟨H.length, 0, none⟩) (T ++ [i]).length 1, H') ∧ TodoR H' H.length (T ++ [i]) ∧ But b H H' := by
  obtain ⟨c, h1, h3⟩ := h
  have hsrc : asrc 1 (.slice (some ⟨b2, 0, none⟩) 1 1) H = some (1, [.int .i64 (i : Int)]) := src_some (off := 0) (by decide) (hblk_of h2) rfl
  rw [show (T ++ [i]).length = T.length + 1 by simp]
  refine ⟨_, append_row (P := Try.prog) (t := 36) (tx := 36) (b := b) (off := 0) (m := T.length) (n := 1) (k := 1) rfl rfl rfl rfl rfl (by decide) rfl rfl rfl hsrc (by decide) h1 (by simpa using h3) (by show (T.length + 1) * 8 ≤ _; omega) (by show T.length + 1 ≤ _; unfold maxLen; omega), ⟨(T.map fun i : Nat => Value.int .i64 (i : Int)) ++ [.int .i64 (i : Int)], ?_, ?_⟩, (But.set H .dead).trans (.push _ _)⟩
  · rw [List.getElem?_append_right (by simp), List.length_set, Nat.sub_self]; rfl
  · rw [slots_of (by simp), List.drop_zero, List.take_of_length_le (by simp), List.map_append]; rfl
abbrev rowV (q n : Nat) : Value := .slice (some ⟨q, 0, none⟩) n 1
def DV (H : Heap) (v : Value) : Option (List Int) → Prop
  | none => v = .tuple #[.slice none 0 0, .bool false]
  | some L => ∃ q, v = .tuple #[rowV q L.length, .bool true] ∧ OwnI H q L
abbrev DSt := Nat × Nat × List Int × List Nat
structure DI (c : CodeT) (H1 : Heap) (q b : Nat) (L : List Int) (T : List Nat) (H : Heap) : Prop where
  grow : Grow H1 H
  q0 : H1.length ≤ q
  b0 : H1.length ≤ b
  ne : q ≠ b
  own : OwnI H q L
  todo : TodoR H b T
  inv : Inv c L
  bound : 2 * cnt L + T.length ≤ 10000
  mem : ∀ i ∈ T, ∃ d, L[i]? = some d ∧ 0 ≤ d
  fine : ∀ i, i ∉ T → Fine c L i
theorem depths_ax {H : Heap} {c : CodeT} {sv : Value} (hs : RL 3 insR H sv c.ins) (ha : Aims c) :
    AX Try.prog 46 #[codeV c sv] H (fun v H' => ∃ r, DS c r ∧ DV H' v r ∧ Grow H H') := by
  have hn := ha.1
  have hn0 := ha.2.1
  refine AX.body (n := 132) (rs := [.tmp 2, .tmp 3]) Try.func46 rfl (by decide) rfl rfl (bC_sound _ _ _ _ ?_)
  (conv => whnf)
  refine Ob2.box rfl fun q1 H1 hq1 a1 g1 => ?_
  have b1 := hblk_of a1
  have hl1 : q1 < H1.length := lt_at a1
  (try (conv => whnf)); (repeat ((fail_if_success (with_reducible refine And.intro ?_ ?_)); (fail_if_success (with_reducible refine Exists.intro ?_ ?_)); (first | (apply Ob.of; (first | with_reducible assumption | with_reducible exact ex20 _ _ | with_reducible exact ex21 _ _ | with_reducible exact ex30 _ _ _ | with_reducible exact ex31 _ _ _ | with_reducible exact ex32 _ _ _ | rfl | (exact ald rfl rfl (by assumption) rfl) | (exact ald_agg rfl rfl rfl (by assumption) rfl)); (conv => whnf)) | (apply bIf.yes; (first | assumption | rfl); (conv => whnf)) | (apply bIf.no; (first | assumption | rfl); (conv => whnf)) | ((with_reducible refine Ob.load (by with_unfolding_all assumption) ?_); (conv => whnf)) | (apply Grows.mk; (first | exact Grow.refl _ | assumption); (conv => whnf)))))
  refine SW.scopeC (α := DSt) 0 _ (fun x => [(1, .pointer (some ⟨q1, 0, none⟩)), (4, rowV x.1 c.ins.length), (5, rowV x.2.1 x.2.2.2.length)]) (fun x H' => DI c H1 x.1 x.2.1 x.2.2.1 x.2.2.2 H') (fun x => 2 * cnt x.2.2.1 + x.2.2.2.length) rfl ?_ ?_
  · have hlen : ∀ H', alen Try.prog 47 sv H' = some (.int .i64 c.ins.length) := fun H' => hs.len rfl _
    (try (conv => whnf)); (repeat ((fail_if_success (with_reducible refine And.intro ?_ ?_)); (fail_if_success (with_reducible refine Exists.intro ?_ ?_)); (first | (apply Ob.of; (first | with_reducible assumption | with_reducible exact ex20 _ _ | with_reducible exact ex21 _ _ | with_reducible exact ex30 _ _ _ | with_reducible exact ex31 _ _ _ | with_reducible exact ex32 _ _ _ | rfl | (exact ald rfl rfl (by assumption) rfl) | (exact ald_agg rfl rfl rfl (by assumption) rfl)); (conv => whnf)) | (apply bIf.yes; (first | assumption | rfl); (conv => whnf)) | (apply bIf.no; (first | assumption | rfl); (conv => whnf)) | ((with_reducible refine Ob.load (by with_unfolding_all assumption) ?_); (conv => whnf)) | (apply Grows.mk; (first | exact Grow.refl _ | assumption); (conv => whnf)))))
    refine Ob2.of (a := rowV H1.length 1) (b := H1 ++ [Blk.cells (.row 3) [.int .i64 (-1)]]) rfl ?_
    have b2 : hblk (H1 ++ [Blk.cells (.row 3) [.int .i64 (-1)]]) H1.length = some [.int .i64 (-1)] := hblk_of (at_push _ _)
    have g2 : Grow H1 (H1 ++ [Blk.cells (.row 3) [.int .i64 (-1)]]) := .push _ _
    have hl2 : (H1 ++ [Blk.cells (.row 3) [.int .i64 (-1)]]).length = H1.length + 1 := by simp
    revert b2 g2 hl2
    generalize H1 ++ [Blk.cells (.row 3) [.int .i64 (-1)]] = H2
    intro b2 g2 hl2
    have b1 := g2.hblk b1
    have hlen2 := hlen H2
    (try (conv => whnf)); (repeat ((fail_if_success (with_reducible refine And.intro ?_ ?_)); (fail_if_success (with_reducible refine Exists.intro ?_ ?_)); (first | (apply Ob.of; (first | with_reducible assumption | with_reducible exact ex20 _ _ | with_reducible exact ex21 _ _ | with_reducible exact ex30 _ _ _ | with_reducible exact ex31 _ _ _ | with_reducible exact ex32 _ _ _ | rfl | (exact ald rfl rfl (by assumption) rfl) | (exact ald_agg rfl rfl rfl (by assumption) rfl)); (conv => whnf)) | (apply bIf.yes; (first | assumption | rfl); (conv => whnf)) | (apply bIf.no; (first | assumption | rfl); (conv => whnf)) | ((with_reducible refine Ob.load (by with_unfolding_all assumption) ?_); (conv => whnf)) | (apply Grows.mk; (first | exact Grow.refl _ | assumption); (conv => whnf)))))
    refine (repeat_ax H2 b2 c.ins.length hn0 (by omega)).mono ?_
    rintro _ H3 ⟨q, rfl, hq, ho, g3⟩
    have i0 : aindexAddr Try.prog 36 (rowV q c.ins.length) (.int .i64 0) = some (.pointer (some ⟨q, 0, none⟩)) := own_idx hn0
    (try (conv => whnf)); (repeat ((fail_if_success (with_reducible refine And.intro ?_ ?_)); (fail_if_success (with_reducible refine Exists.intro ?_ ?_)); (first | (apply Ob.of; (first | with_reducible assumption | with_reducible exact ex20 _ _ | with_reducible exact ex21 _ _ | with_reducible exact ex30 _ _ _ | with_reducible exact ex31 _ _ _ | with_reducible exact ex32 _ _ _ | rfl | (exact ald rfl rfl (by assumption) rfl) | (exact ald_agg rfl rfl rfl (by assumption) rfl)); (conv => whnf)) | (apply bIf.yes; (first | assumption | rfl); (conv => whnf)) | (apply bIf.no; (first | assumption | rfl); (conv => whnf)) | ((with_reducible refine Ob.load (by with_unfolding_all assumption) ?_); (conv => whnf)) | (apply Grows.mk; (first | exact Grow.refl _ | assumption); (conv => whnf)))))
    refine Ob.storeI ho (by simpa using hn0) fun H4 ho4 k4 l4 => ?_
    (try (conv => whnf)); (repeat ((fail_if_success (with_reducible refine And.intro ?_ ?_)); (fail_if_success (with_reducible refine Exists.intro ?_ ?_)); (first | (apply Ob.of; (first | with_reducible assumption | with_reducible exact ex20 _ _ | with_reducible exact ex21 _ _ | with_reducible exact ex30 _ _ _ | with_reducible exact ex31 _ _ _ | with_reducible exact ex32 _ _ _ | rfl | (exact ald rfl rfl (by assumption) rfl) | (exact ald_agg rfl rfl rfl (by assumption) rfl)); (conv => whnf)) | (apply bIf.yes; (first | assumption | rfl); (conv => whnf)) | (apply bIf.no; (first | assumption | rfl); (conv => whnf)) | ((with_reducible refine Ob.load (by with_unfolding_all assumption) ?_); (conv => whnf)) | (apply Grows.mk; (first | exact Grow.refl _ | assumption); (conv => whnf)))))
    refine Ob2.of (a := rowV H4.length 1) (b := H4 ++ [Blk.cells (.row 3) [.int .i64 0]]) rfl ?_
    (try (conv => whnf)); (repeat ((fail_if_success (with_reducible refine And.intro ?_ ?_)); (fail_if_success (with_reducible refine Exists.intro ?_ ?_)); (first | (apply Ob.of; (first | with_reducible assumption | with_reducible exact ex20 _ _ | with_reducible exact ex21 _ _ | with_reducible exact ex30 _ _ _ | with_reducible exact ex31 _ _ _ | with_reducible exact ex32 _ _ _ | rfl | (exact ald rfl rfl (by assumption) rfl) | (exact ald_agg rfl rfl rfl (by assumption) rfl)); (conv => whnf)) | (apply bIf.yes; (first | assumption | rfl); (conv => whnf)) | (apply bIf.no; (first | assumption | rfl); (conv => whnf)) | ((with_reducible refine Ob.load (by with_unfolding_all assumption) ?_); (conv => whnf)) | (apply Grows.mk; (first | exact Grow.refl _ | assumption); (conv => whnf)))))
    have hgr : Grow H1 (H4 ++ [Blk.cells (.row 3) [.int .i64 0]]) := ((g2.trans g3).but_new k4 (by omega)).trans (.push _ _)
    have hq4 : q < H4.length := lt_at ho4
    have hrep : ∀ (i : Nat) (d : Int), ((List.replicate c.ins.length (-1 : Int)).set 0 0)[i]? = some d → i = 0 ∧ d = 0 ∨ d = -1 := by
      intro i d h
      cases i with
      | zero => rw [List.getElem?_set_self (by simpa using hn0)] at h; simp at h; omega
      | succ i => rw [List.getElem?_set_ne (by omega), List.getElem?_replicate] at h; split at h <;> simp at h; omega
    refine ⟨(q, H4.length, (List.replicate c.ins.length (-1)).set 0 0, [0]), ⟨rfl, rfl, rfl, trivial⟩, hgr, by show _ ≤ q; omega, by show _ ≤ H4.length; omega, by show q ≠ H4.length; omega, ?_, ⟨_, at_push _ _, rfl⟩, ⟨by simp, ?_, ?_⟩, ?_, ?_, ?_⟩
    · unfold OwnI; rw [List.getElem?_append_left hq4]; exact ho4
    · exact List.getElem?_set_self (by simpa using hn0)
    · intro i d h
      rcases hrep i d h with ⟨rfl, rfl⟩ | rfl
      · exact .inr ⟨by omega, .start⟩
      · exact .inl rfl
    · have := List.countP_le_length (p := fun d : Int => d == -1) (l := (List.replicate c.ins.length (-1 : Int)).set 0 0)
      simp only [List.length_set, List.length_replicate] at this
      show 2 * cnt ((List.replicate c.ins.length (-1 : Int)).set 0 0) + 1 ≤ _
      unfold cnt
      omega
    · intro i hi
      simp only [List.mem_singleton] at hi
      subst hi
      exact ⟨0, List.getElem?_set_self (by simpa using hn0), by omega⟩
    · intro i hi d x h1 h2 h3
      rcases hrep i d h1 with ⟨rfl, rfl⟩ | rfl
      · exact absurd (List.mem_singleton.2 rfl) hi
      · omega
  · rintro ⟨q, b, L, T⟩ H2 hI
    dsimp only at hI ⊢
    refine bC_sound _ _ _ _ ?_
    have b2 := hI.grow.hblk b1
    have gH := g1.trans hI.grow
    rcases List.eq_nil_or_concat T with rfl | ⟨T, i0, rfl⟩
    · (try (conv => whnf)); (repeat ((fail_if_success (with_reducible refine And.intro ?_ ?_)); (fail_if_success (with_reducible refine Exists.intro ?_ ?_)); (first | (apply Ob.of; (first | with_reducible assumption | with_reducible exact ex20 _ _ | with_reducible exact ex21 _ _ | with_reducible exact ex30 _ _ _ | with_reducible exact ex31 _ _ _ | with_reducible exact ex32 _ _ _ | rfl | (exact ald rfl rfl (by assumption) rfl) | (exact ald_agg rfl rfl rfl (by assumption) rfl)); (conv => whnf)) | (apply bIf.yes; (first | assumption | rfl); (conv => whnf)) | (apply bIf.no; (first | assumption | rfl); (conv => whnf)) | ((with_reducible refine Ob.load (by with_unfolding_all assumption) ?_); (conv => whnf)) | (apply Grows.mk; (first | exact Grow.refl _ | assumption); (conv => whnf)))))
      exact ⟨some L, ⟨hI.inv, fun i => hI.fine i (by simp)⟩, ⟨q, by rw [hI.inv.len]; rfl, hI.own⟩, gH⟩
    rw [List.concat_eq_append] at hI
    simp only [List.concat_eq_append]
    have tl : (T ++ [i0]).length = T.length + 1 := by simp
    have hb := hI.bound
    rw [tl] at hb ⊢
    have t1 : (((T.length + 1 : Nat) : Int) == 0) = false := by rw [beq_eq_false_iff_ne]; omega
    have w1 : IntKind.i64.wrap (((T.length + 1 : Nat) : Int) - 1) = (T.length : Int) := by rw [wrap_i64 (by omega) (by omega)]; omega
    obtain ⟨ht1, ht2⟩ := hI.todo.last
    obtain ⟨d, hd, hd0⟩ := hI.mem i0 (by simp)
    have hi0 : i0 < c.ins.length := by rw [← hI.inv.len]; exact lt_of_get hd
    obtain ⟨x, hx⟩ := get_lt hi0
    have hr : Reach c i0 d := by
      rcases hI.inv.val i0 d hd with h | h
      · omega
      · exact h.2
    have i1 : aindexAddr Try.prog 36 (rowV b (T.length + 1)) (.int .i64 (IntKind.i64.wrap (((T.length + 1 : Nat) : Int) - 1))) = some (.pointer (some ⟨b, T.length, none⟩)) := by rw [w1]; exact own_idx (by omega)
    have s1 : aslice Try.prog 36 (rowV b (T.length + 1)) none (some (.int .i64 (IntKind.i64.wrap (((T.length + 1 : Nat) : Int) - 1)))) none = some (rowV b T.length) := by
      rw [w1]
      have := slice_hi (P := Try.prog) (t := 36) (b := b) (off := 0) (len := T.length + 1) (kd := .i64) (n := (T.length : Int)) rfl (k := 1) rfl (by omega) (by omega)
      rwa [Int.toNat_natCast] at this
    obtain ⟨bi, i2, i3⟩ := ld_ins hs hx
    have i4 := i3 H2 gH
    (try (conv => whnf)); (repeat ((fail_if_success (with_reducible refine And.intro ?_ ?_)); (fail_if_success (with_reducible refine Exists.intro ?_ ?_)); (first | (apply Ob.of; (first | with_reducible assumption | with_reducible exact ex20 _ _ | with_reducible exact ex21 _ _ | with_reducible exact ex30 _ _ _ | with_reducible exact ex31 _ _ _ | with_reducible exact ex32 _ _ _ | rfl | (exact ald rfl rfl (by assumption) rfl) | (exact ald_agg rfl rfl rfl (by assumption) rfl)); (conv => whnf)) | (apply bIf.yes; (first | assumption | rfl); (conv => whnf)) | (apply bIf.no; (first | assumption | rfl); (conv => whnf)) | ((with_reducible refine Ob.load (by with_unfolding_all assumption) ?_); (conv => whnf)) | (apply Grows.mk; (first | exact Grow.refl _ | assumption); (conv => whnf)))))
    refine Ob2.alloc rfl fun q7 H3 hq7 a7 g7 => ?_
    (try (conv => whnf)); (repeat ((fail_if_success (with_reducible refine And.intro ?_ ?_)); (fail_if_success (with_reducible refine Exists.intro ?_ ?_)); (first | (apply Ob.of; (first | with_reducible assumption | with_reducible exact ex20 _ _ | with_reducible exact ex21 _ _ | with_reducible exact ex30 _ _ _ | with_reducible exact ex31 _ _ _ | with_reducible exact ex32 _ _ _ | rfl | (exact ald rfl rfl (by assumption) rfl) | (exact ald_agg rfl rfl rfl (by assumption) rfl)); (conv => whnf)) | (apply bIf.yes; (first | assumption | rfl); (conv => whnf)) | (apply bIf.no; (first | assumption | rfl); (conv => whnf)) | ((with_reducible refine Ob.load (by with_unfolding_all assumption) ?_); (conv => whnf)) | (apply Grows.mk; (first | exact Grow.refl _ | assumption); (conv => whnf)))))
    refine Ob.store rfl rfl rfl a7 rfl (by first | exact Nat.le_of_ble_eq_true rfl | simp) fun H4 s4 k4 l4 => ?_
    have g4 : Grow H2 H4 := g7.but_new k4 (by omega)
    have b7 := hblk_of s4
    have b4 := g4.hblk b2
    have ho4 : OwnI H4 q L := g4.at hI.own
    (try (conv => whnf)); (repeat ((fail_if_success (with_reducible refine And.intro ?_ ?_)); (fail_if_success (with_reducible refine Exists.intro ?_ ?_)); (first | (apply Ob.of; (first | with_reducible assumption | with_reducible exact ex20 _ _ | with_reducible exact ex21 _ _ | with_reducible exact ex30 _ _ _ | with_reducible exact ex31 _ _ _ | with_reducible exact ex32 _ _ _ | rfl | (exact ald rfl rfl (by assumption) rfl) | (exact ald_agg rfl rfl rfl (by assumption) rfl)); (conv => whnf)) | (apply bIf.yes; (first | assumption | rfl); (conv => whnf)) | (apply bIf.no; (first | assumption | rfl); (conv => whnf)) | ((with_reducible refine Ob.load (by with_unfolding_all assumption) ?_); (conv => whnf)) | (apply Grows.mk; (first | exact Grow.refl _ | assumption); (conv => whnf)))))
    refine (effect_ax _ _ _ _).mono ?_
    rintro _ X ⟨rfl, e⟩
    subst X
    have hqi : aindexAddr Try.prog 36 (rowV q c.ins.length) (.int .i64 (i0 : Int)) = some (.pointer (some ⟨q, i0, none⟩)) := own_idx hi0
    have hql := own_ld ho4 hd
    have hpp := pops_le x
    have hpu := pushes_le x
    change 0 ≤ (eff x.1 x.2.1).1 ∧ (eff x.1 x.2.1).1 ≤ 8 at hpp
    change 0 ≤ (eff x.1 x.2.1).2 ∧ (eff x.1 x.2.1).2 ≤ 2 at hpu
    (try (conv => whnf)); (repeat ((fail_if_success (with_reducible refine And.intro ?_ ?_)); (fail_if_success (with_reducible refine Exists.intro ?_ ?_)); (first | (apply Ob.of; (first | with_reducible assumption | with_reducible exact ex20 _ _ | with_reducible exact ex21 _ _ | with_reducible exact ex30 _ _ _ | with_reducible exact ex31 _ _ _ | with_reducible exact ex32 _ _ _ | rfl | (exact ald rfl rfl (by assumption) rfl) | (exact ald_agg rfl rfl rfl (by assumption) rfl)); (conv => whnf)) | (apply bIf.yes; (first | assumption | rfl); (conv => whnf)) | (apply bIf.no; (first | assumption | rfl); (conv => whnf)) | ((with_reducible refine Ob.load (by with_unfolding_all assumption) ?_); (conv => whnf)) | (apply Grows.mk; (first | exact Grow.refl _ | assumption); (conv => whnf)))))
    apply SW.drawG [(0, [], [47, 50], false), (1, [], [46, 50], false), (2, [(46, 0), (47, 1)], [46, 47, 50], false), (3, [(46, 0), (47, 1), (48, 2)], [46, 47, 48, 50], false), (4, [], [46, 47, 48, 49], false), (5, [(46, 0), (47, 1), (48, 2), (49, 3), (50, 4)], [46, 47, 48, 49, 50], false), (6, [(46, 0), (47, 1), (48, 2), (49, 3), (50, 4), (51, 5)], [46, 47, 48, 49, 50, 51], false), (7, [(46, 0), (47, 1), (48, 2), (49, 3), (50, 4), (51, 5), (52, 6)], [46, 47, 48, 49, 50, 51, 52, 54, 57, 58], false), (8, [(46, 0), (47, 1), (48, 2), (49, 3), (50, 4), (51, 5), (52, 6)], [46, 47, 48, 49, 50, 51, 52, 53, 57, 58], false), (9, [(46, 0), (47, 1), (48, 2), (49, 3), (50, 4), (51, 5), (52, 6), (53, 7), (54, 8)], [46, 47, 48, 49, 50, 51, 52, 53, 54, 57, 58], false), (10, [(46, 0), (47, 1), (48, 2), (49, 3), (50, 4), (51, 5), (52, 6), (53, 7), (54, 8), (55, 9)], [46, 47, 48, 49, 50, 51, 52, 53, 54, 55, 57, 58], false), (11, [(46, 0), (47, 1), (48, 2), (49, 3), (50, 4), (51, 5), (52, 6)], [46, 47, 48, 49, 50, 51, 52, 53, 54, 55, 56], false), (12, [(46, 0), (47, 1), (48, 2), (49, 3), (50, 4), (51, 5), (52, 6), (57, 11)], [46, 47, 48, 49, 50, 51, 52, 53, 54, 55, 56, 57], false), (13, [(46, 0), (47, 1), (48, 2), (49, 3), (50, 4), (51, 5), (52, 6), (53, 7), (54, 8), (55, 9), (56, 10), (57, 11), (58, 12)], [46, 47, 48, 49, 50, 51, 52, 53, 54, 55, 56, 57, 58], false), (14, [(46, 0), (47, 1), (48, 2), (49, 3), (50, 4), (51, 5), (52, 6), (53, 7), (54, 8), (55, 9), (56, 10), (57, 11), (58, 12), (59, 13)], [46, 47, 48, 49, 50, 51, 52, 53, 54, 55, 56, 57, 58, 59], false)]
      [(46, 0), (47, 1), (48, 2), (49, 3), (50, 4), (51, 5), (52, 6), (53, 7), (54, 8), (55, 9), (56, 10), (57, 11), (58, 12), (59, 13), (60, 14)]
      [(1, _), (4, _), (5, _), (6, _), (7, _), (8, _), (9, _)] rfl (by kernel_rfl)
    case hF => exact ⟨rfl, rfl, rfl, rfl, rfl, rfl, rfl, trivial⟩
    (try (conv => whnf)); (repeat' ((fail_if_success (with_reducible refine And.intro ?_ ?_)); (fail_if_success (with_reducible refine Exists.intro ?_ ?_)); (first | (first | (apply Ob.of; (first | with_reducible assumption | with_reducible exact ex20 _ _ | with_reducible exact ex21 _ _ | with_reducible exact ex30 _ _ _ | with_reducible exact ex31 _ _ _ | with_reducible exact ex32 _ _ _ | rfl | (exact ald rfl rfl (by assumption) rfl) | (exact ald_agg rfl rfl rfl (by assumption) rfl)); (conv => whnf)) | (apply bIf.yes; (first | assumption | rfl); (conv => whnf)) | (apply bIf.no; (first | assumption | rfl); (conv => whnf)) | ((with_reducible refine Ob.load (by with_unfolding_all assumption) ?_); (conv => whnf)) | (apply Grows.mk; (first | exact Grow.refl _ | assumption); (conv => whnf))) | (apply bIf.of <;> intro hc <;> (conv => whnf)))))
    · exact ⟨none, .inl ⟨i0, d, x, hr, hx, .inl (of_decide_eq_true hc)⟩, rfl, gH.trans g4⟩
    · exact ⟨none, .inl ⟨i0, d, x, hr, hx, .inr (.inl (of_decide_eq_true hc))⟩, rfl, gH.trans g4⟩
    have hdd : d ≤ c.deep := by have := of_decide_eq_false hc; show d ≤ c.2.2.2.1; omega
    clear hc
    have hpd : pops x ≤ d := by have := of_decide_eq_false hc; unfold pops; omega
    clear hc hql ht2 i4 b2 i1 s1 a7 s4
    refine (targets_ax (insR.grow hs (gH.trans g4)) (i0 : Int)).mono ?_
    rintro tv H5 ⟨hT, g5⟩
    have b5 := g5.hblk b4
    have b75 := g5.hblk b7
    have ho5 : OwnI H5 q L := g5.at ho4
    have ht5 : TodoR H5 b T := by obtain ⟨cc, e1, e2⟩ := ht1; exact ⟨cc, g5.at (g4.at e1), e2⟩
    have hq2 : q < H4.length := lt_at ho4
    have hb2 : b < H4.length := by obtain ⟨cc, e1, e2⟩ := ht1; exact lt_at (g4.at e1)
    have hl4 : H2.length ≤ H4.length := g4.1
    have hl5 : H4.length ≤ H5.length := g5.1
    have hTl := tgt_len ha i0
    have n0 := hT.len H5
    (try (conv => whnf)); (repeat ((fail_if_success (with_reducible refine And.intro ?_ ?_)); (fail_if_success (with_reducible refine Exists.intro ?_ ?_)); (first | (apply Ob.of; (first | with_reducible assumption | with_reducible exact ex20 _ _ | with_reducible exact ex21 _ _ | with_reducible exact ex30 _ _ _ | with_reducible exact ex31 _ _ _ | with_reducible exact ex32 _ _ _ | rfl | (exact ald rfl rfl (by assumption) rfl) | (exact ald_agg rfl rfl rfl (by assumption) rfl)); (conv => whnf)) | (apply bIf.yes; (first | assumption | rfl); (conv => whnf)) | (apply bIf.no; (first | assumption | rfl); (conv => whnf)) | ((with_reducible refine Ob.load (by with_unfolding_all assumption) ?_); (conv => whnf)) | (apply Grows.mk; (first | exact Grow.refl _ | assumption); (conv => whnf)))))
    refine SW.loop (α := DSt) (fun y => [(1, .pointer (some ⟨q1, 0, none⟩)), (4, rowV q c.ins.length), (5, rowV y.2.1 y.2.2.2.length), (6, .int .i64 (i0 : Int)), (7, .pointer (some ⟨q7, 0, none⟩)), (8, .int .i64 (eff x.1 x.2.1).1), (9, .int .i64 (eff x.1 x.2.1).2), (63, tv), (64, .int .i64 ((tgt c.ins (i0 : Int)).length : Int)), (65, .int .i64 (y.1 : Int))])
      (fun y H' => y.1 ≤ (tgt c.ins (i0 : Int)).length ∧ But2 q b H5 H' ∧ OwnI H' q y.2.2.1 ∧ TodoR H' y.2.1 y.2.2.2 ∧ (y.2.1 = b ∨ H5.length ≤ y.2.1) ∧ Inv c y.2.2.1 ∧ y.2.2.1[i0]? = some d ∧ (∀ i ∈ y.2.2.2, ∃ d, y.2.2.1[i]? = some d ∧ 0 ≤ d) ∧ (∀ i, i ≠ i0 → i ∉ y.2.2.2 → Fine c y.2.2.1 i) ∧
        (∀ (k : Nat) (t : Int), k < y.1 → (tgt c.ins (i0 : Int))[k]? = some t → t < c.ins.length ∧ nd x d k ≤ c.deep ∧ y.2.2.1[t.toNat]? = some (nd x d k)) ∧ 2 * cnt y.2.2.1 + y.2.2.2.length ≤ 2 * cnt L + T.length)
      (fun y => (tgt c.ins (i0 : Int)).length - y.1) ⟨(0, b, L, T), ⟨rfl, rfl, rfl, rfl, rfl, rfl, rfl, rfl, rfl, rfl, trivial⟩, by omega, .refl _ _ _, ho5, ht5, .inl rfl, hI.inv, hd, fun i hi => hI.mem i (by simp [hi]), fun i hi hn => hI.fine i (by simp [hi, hn]), fun k t hk => by simp at hk, Nat.le_refl _⟩ ?_
    rintro ⟨j, b', L', T'⟩ H6 ⟨hj, k2, ho6, ht6, hbb, hv, hdi, hm, hf, hdone, hcnt⟩
    dsimp only at hj k2 ho6 ht6 hbb hv hdi hm hf hdone hcnt ⊢
    refine bC_sound _ _ _ _ ?_
    have hbq : b' ≠ q := by
      have := hI.ne
      rcases hbb with h | h
      · omega
      · omega
    by_cases hjl : j < (tgt c.ins (i0 : Int)).length
    · have dj : decide ((j : Int) < ((tgt c.ins (i0 : Int)).length : Int)) = true := decide_eq_true (by omega)
      obtain ⟨t, ht⟩ := get_lt hjl
      obtain ⟨pb, p1, p2, p3, p4⟩ := hT.at ht
      have p5 := p4 H6 (k2.2 pb p2 (by omega) (by omega))
      have hne1 := hI.q0
      have hne2 := hI.b0
      have b6 : hblk H6 q1 = _ := hblk_of (k2.at (g5.at (g4.at (hI.grow.at a1))) (by omega) (by omega))
      have b76 : hblk H6 q7 = some [.int .i64 x.1, .int .i64 x.2.1, .int .i64 x.2.2] := by
        obtain ⟨m, hm7⟩ := hblk_some b75
        have hq2' := hq2
        have : q < H2.length := lt_at hI.own
        have : b < H2.length := by obtain ⟨cc, e1, e2⟩ := ht1; exact lt_at e1
        exact hblk_of (k2.at hm7 (by omega) (by omega))
      have hql6 := own_ld ho6 hdi
      have gH6 : Grow H1 H6 := k2.grow ((hI.grow.trans g4).trans g5) hne1 hne2
      have hlen6 : alen Try.prog 47 sv H6 = some (.int .i64 c.ins.length) := hs.len rfl _
      obtain ⟨tn, htn⟩ : ∃ tn : Nat, t = (tn : Int) := ⟨t.toNat, by have := (tgt_nonneg ha ht).1; omega⟩
      subst htn
      have hnd := nd_le (k := j) hpd
      have hw : IntKind.i64.wrap (IntKind.i64.wrap (d - (eff x.1 x.2.1).1) + (eff x.1 x.2.1).2) = d - pops x + pushes x := by
        have := ha.2.2.2.1
        rw [wrap_i64 (n := d - (eff x.1 x.2.1).1) (by omega) (by omega), wrap_i64 (by omega) (by omega)]; rfl
      have hw1 : IntKind.i64.wrap (d - pops x + pushes x + 1) = d - pops x + pushes x + 1 := by
        have := ha.2.2.2.1
        have := pops_le x
        have := pushes_le x
        rw [wrap_i64 (by omega) (by omega)]
      by_cases htl : tn < c.ins.length
      · have dt : decide ((tn : Int) ≥ (c.ins.length : Int)) = false := decide_eq_false (by omega)
        obtain ⟨e, he⟩ := get_lt (L := L') (m := tn) (by rw [hv.len]; exact htl)
        have hti : aindexAddr Try.prog 36 (rowV q c.ins.length) (.int .i64 (tn : Int)) = some (.pointer (some ⟨q, tn, none⟩)) := own_idx htl
        have htl6 := own_ld ho6 he
        have hre : 0 ≤ e → Reach c tn e := fun h => by
          rcases hv.val tn e he with h1 | h1
          · omega
          · exact h1.2
        have rnd : nd x d j ≤ c.deep → Reach c tn (nd x d j) := fun h => by
          have := Reach.step hr hx hpd hdd ht (by omega) h
          rwa [Int.toNat_natCast] at this
        have hcase : (decide ((j : Int) > 0) = false ∧ nd x d j = d - pops x + pushes x) ∨ (decide ((j : Int) > 0) = true ∧ (x.1 == 24) = true ∧ nd x d j = d - pops x + pushes x + 1) ∨ (decide ((j : Int) > 0) = true ∧ (x.1 == 24) = false ∧ (x.1 == 25) = true ∧ nd x d j = d - pops x + pushes x + 1) ∨
            (decide ((j : Int) > 0) = true ∧ (x.1 == 24) = false ∧ (x.1 == 25) = false ∧ nd x d j = d - pops x + pushes x) := by
          unfold nd
          simp only [decide_eq_true_eq, decide_eq_false_iff_not, beq_iff_eq, beq_eq_false_iff_ne]
          by_cases h0 : j = 0
          · left; rw [if_neg (by omega)]; omega
          · right
            by_cases h24 : x.1 = 24
            · left; rw [if_pos (by omega)]; omega
            · right
              by_cases h25 : x.1 = 25
              · left; rw [if_pos (by omega)]; omega
              · right; rw [if_neg (by omega)]; omega
        rcases hcase with ⟨z1, z2⟩ | ⟨z1, z3, z2⟩ | ⟨z1, z3, z4, z2⟩ | ⟨z1, z3, z4, z2⟩
        all_goals (try (conv => whnf)); (repeat ((fail_if_success (with_reducible refine And.intro ?_ ?_)); (fail_if_success (with_reducible refine Exists.intro ?_ ?_)); (first | (apply Ob.of; (first | with_reducible assumption | with_reducible exact ex20 _ _ | with_reducible exact ex21 _ _ | with_reducible exact ex30 _ _ _ | with_reducible exact ex31 _ _ _ | with_reducible exact ex32 _ _ _ | rfl | (exact ald rfl rfl (by assumption) rfl) | (exact ald_agg rfl rfl rfl (by assumption) rfl)); (conv => whnf)) | (apply bIf.yes; (first | assumption | rfl); (conv => whnf)) | (apply bIf.no; (first | assumption | rfl); (conv => whnf)) | ((with_reducible refine Ob.load (by with_unfolding_all assumption) ?_); (conv => whnf)) | (apply Grows.mk; (first | exact Grow.refl _ | assumption); (conv => whnf)))))
        all_goals rw [hw]
        all_goals try rw [hw1]
        all_goals rw [← z2]
        all_goals ((try (conv => whnf)); (repeat' ((fail_if_success (with_reducible refine And.intro ?_ ?_)); (fail_if_success (with_reducible refine Exists.intro ?_ ?_)); (first | (first | (apply Ob.of; (first | with_reducible assumption | with_reducible exact ex20 _ _ | with_reducible exact ex21 _ _ | with_reducible exact ex30 _ _ _ | with_reducible exact ex31 _ _ _ | with_reducible exact ex32 _ _ _ | rfl | (exact ald rfl rfl (by assumption) rfl) | (exact ald_agg rfl rfl rfl (by assumption) rfl)); (conv => whnf)) | (apply bIf.yes; (first | assumption | rfl); (conv => whnf)) | (apply bIf.no; (first | assumption | rfl); (conv => whnf)) | ((with_reducible refine Ob.load (by with_unfolding_all assumption) ?_); (conv => whnf)) | (apply Grows.mk; (first | exact Grow.refl _ | assumption); (conv => whnf))) | (apply bIf.of <;> intro hc <;> (conv => whnf))))))
        all_goals first
          | (refine ⟨none, .inl ⟨i0, d, x, hr, hx, .inr (.inr ⟨j, _, ht, .inr ?_⟩)⟩, rfl, g1.trans gH6⟩; exact of_decide_eq_true hc)
          | (refine ⟨none, .inr ⟨tn, e, nd x d j, hre ?_, rnd ?_, ?_⟩, rfl, g1.trans gH6⟩ <;> ((simp only [ba_ne_t, ba_ne_f, ba_eq_t, ba_eq_f, bne_iff_ne, bne_eq_false_iff_eq, decide_eq_true_eq, decide_eq_false_iff_not, beq_iff_eq, beq_eq_false_iff_ne, ne_eq, Bool.not_eq_true, Bool.not_eq_false, Bool.not_eq_true', Bool.not_eq_false'] at *); show _; first | assumption | (simp only [CodeT.deep] at *; omega)))
          | (exfalso; clear b6 b76 hql6 htl6 hti p5 hlen6 hT p3 p4 n0 b5 b75 ho5 ht5 ho6 ht6; (simp only [ba_ne_t, ba_ne_f, ba_eq_t, ba_eq_f, bne_iff_ne, bne_eq_false_iff_eq, decide_eq_true_eq, decide_eq_false_iff_not, beq_iff_eq, beq_eq_false_iff_ne, ne_eq, Bool.not_eq_true, Bool.not_eq_false, Bool.not_eq_true', Bool.not_eq_false'] at *); omega)
          | skip
        all_goals have hnd1 : nd x d j ≤ c.deep := by clear b6 b76 hql6 htl6 hti p5 hlen6 hT p3 p4 n0 b5 b75 ho5 ht5 ho6 ht6; (simp only [ba_ne_t, ba_ne_f, ba_eq_t, ba_eq_f, bne_iff_ne, bne_eq_false_iff_eq, decide_eq_true_eq, decide_eq_false_iff_not, beq_iff_eq, beq_eq_false_iff_ne, ne_eq, Bool.not_eq_true, Bool.not_eq_false, Bool.not_eq_true', Bool.not_eq_false'] at *); simp only [CodeT.deep] at *; omega
        all_goals rcases Int.lt_or_le e 0 with he0 | he0
        all_goals first
          | (exfalso; clear b6 b76 hql6 htl6 hti p5 hlen6 hT p3 p4 n0 b5 b75 ho5 ht5 ho6 ht6; (simp only [ba_ne_t, ba_ne_f, ba_eq_t, ba_eq_f, bne_iff_ne, bne_eq_false_iff_eq, decide_eq_true_eq, decide_eq_false_iff_not, beq_iff_eq, beq_eq_false_iff_ne, ne_eq, Bool.not_eq_true, Bool.not_eq_false, Bool.not_eq_true', Bool.not_eq_false'] at *); omega)
          | skip
        all_goals first
          | (have he2 : e = nd x d j := by clear b6 b76 hql6 htl6 hti p5 hlen6 hT p3 p4 n0 b5 b75 ho5 ht5 ho6 ht6; (simp only [ba_ne_t, ba_ne_f, ba_eq_t, ba_eq_f, bne_iff_ne, bne_eq_false_iff_eq, decide_eq_true_eq, decide_eq_false_iff_not, beq_iff_eq, beq_eq_false_iff_ne, ne_eq, Bool.not_eq_true, Bool.not_eq_false, Bool.not_eq_true', Bool.not_eq_false'] at *); omega
             refine ⟨(j + 1, b', L', T'), ⟨rfl, rfl, rfl, rfl, rfl, rfl, rfl, rfl, rfl, congrArg (fun z => some (Value.int .i64 z)) (w_succ (by omega)), trivial⟩, ⟨by show j + 1 ≤ _; omega, k2, ho6, ht6, hbb, hv, hdi, hm, hf, ?_, hcnt⟩, by show _ - (j + 1) < _ - j; omega⟩
             intro k t' hk ht'
             by_cases hkj : k = j
             · subst hkj
               rw [ht] at ht'
               simp only [Option.some.injEq] at ht'
               subst ht'
               refine ⟨by omega, hnd1, ?_⟩
               rw [Int.toNat_natCast, he, he2]
             · exact hdone k t' (by omega) ht')
          | skip
        all_goals
          have he1 : L'[tn]? = some (-1) := by
            rcases hv.val tn e he with h1 | h1
            · rw [he, h1]
            · omega
          refine Ob.storeI ho6 (by rw [hv.len]; exact htl) fun H7 o7 k7 l7 => ?_
          (try (conv => whnf)); (repeat ((fail_if_success (with_reducible refine And.intro ?_ ?_)); (fail_if_success (with_reducible refine Exists.intro ?_ ?_)); (first | (apply Ob.of; (first | with_reducible assumption | with_reducible exact ex20 _ _ | with_reducible exact ex21 _ _ | with_reducible exact ex30 _ _ _ | with_reducible exact ex31 _ _ _ | with_reducible exact ex32 _ _ _ | rfl | (exact ald rfl rfl (by assumption) rfl) | (exact ald_agg rfl rfl rfl (by assumption) rfl)); (conv => whnf)) | (apply bIf.yes; (first | assumption | rfl); (conv => whnf)) | (apply bIf.no; (first | assumption | rfl); (conv => whnf)) | ((with_reducible refine Ob.load (by with_unfolding_all assumption) ?_); (conv => whnf)) | (apply Grows.mk; (first | exact Grow.refl _ | assumption); (conv => whnf)))))
          refine Ob2.of (a := rowV H7.length 1) (b := H7 ++ [Blk.cells (.row 3) [.int .i64 (tn : Int)]]) rfl ?_
          have td7 : TodoR (H7 ++ [Blk.cells (.row 3) [.int .i64 (tn : Int)]]) b' T' := by
            obtain ⟨cc, e1, e2⟩ := ht6
            exact ⟨cc, (Grow.push _ _).at (k7.at e1 hbq), e2⟩
          have o8 : OwnI (H7 ++ [Blk.cells (.row 3) [.int .i64 (tn : Int)]]) q (L'.set tn (nd x d j)) := (Grow.push _ _).at o7
          obtain ⟨H9, ap, td9, bt9⟩ := todo_append td7 (at_push _ _) (by omega)
          have k9 : But2 q b H5 H9 := ((k2.step k7 (.inl rfl)).step (But.push (p := q) H7 _) (.inl rfl)).step bt9 (by omega)
          have hl6 : H5.length ≤ H6.length := k2.1
          have c9 := cnt_set he1 hnd.1
          (try (conv => whnf)); (repeat ((fail_if_success (with_reducible refine And.intro ?_ ?_)); (fail_if_success (with_reducible refine Exists.intro ?_ ?_)); (first | (apply Ob.of; (first | with_reducible assumption | with_reducible exact ex20 _ _ | with_reducible exact ex21 _ _ | with_reducible exact ex30 _ _ _ | with_reducible exact ex31 _ _ _ | with_reducible exact ex32 _ _ _ | rfl | (exact ald rfl rfl (by assumption) rfl) | (exact ald_agg rfl rfl rfl (by assumption) rfl)); (conv => whnf)) | (apply bIf.yes; (first | assumption | rfl); (conv => whnf)) | (apply bIf.no; (first | assumption | rfl); (conv => whnf)) | ((with_reducible refine Ob.load (by with_unfolding_all assumption) ?_); (conv => whnf)) | (apply Grows.mk; (first | exact Grow.refl _ | assumption); (conv => whnf)))))
          refine Ob2.of ap ?_
          (try (conv => whnf)); (repeat ((fail_if_success (with_reducible refine And.intro ?_ ?_)); (fail_if_success (with_reducible refine Exists.intro ?_ ?_)); (first | (apply Ob.of; (first | with_reducible assumption | with_reducible exact ex20 _ _ | with_reducible exact ex21 _ _ | with_reducible exact ex30 _ _ _ | with_reducible exact ex31 _ _ _ | with_reducible exact ex32 _ _ _ | rfl | (exact ald rfl rfl (by assumption) rfl) | (exact ald_agg rfl rfl rfl (by assumption) rfl)); (conv => whnf)) | (apply bIf.yes; (first | assumption | rfl); (conv => whnf)) | (apply bIf.no; (first | assumption | rfl); (conv => whnf)) | ((with_reducible refine Ob.load (by with_unfolding_all assumption) ?_); (conv => whnf)) | (apply Grows.mk; (first | exact Grow.refl _ | assumption); (conv => whnf)))))
          refine ⟨(j + 1, (H7 ++ [Blk.cells (.row 3) [.int .i64 (tn : Int)]]).length, L'.set tn (nd x d j), T' ++ [tn]), ⟨rfl, rfl, rfl, rfl, rfl, rfl, rfl, rfl, rfl, congrArg (fun z => some (Value.int .i64 z)) (w_succ (by omega)), trivial⟩,
            ⟨by show j + 1 ≤ _; omega, k9, bt9.at o8 (fun h => hbq h.symm), td9, ?_, hv.mark he1 (rnd hnd1), ?_, ?_, ?_, ?_, ?_⟩, by show _ - (j + 1) < _ - j; omega⟩
          · right; simp only [List.length_append, List.length_singleton]; omega
          · rw [List.getElem?_set_ne]; exact hdi
            intro h; subst h; rw [hdi] at he1; simp only [Option.some.injEq] at he1; omega
          · intro i hi
            rcases List.mem_append.1 hi with hi | hi
            · obtain ⟨d', e1, e2⟩ := hm i hi
              refine ⟨d', ?_, e2⟩
              rw [List.getElem?_set_ne]; exact e1
              intro h; subst h; rw [e1] at he1; simp only [Option.some.injEq] at he1; omega
            · simp only [List.mem_singleton] at hi
              subst hi
              exact ⟨_, List.getElem?_set_self (lt_of_get he1), hnd.1⟩
          · intro i hi1 hi2
            simp only [List.mem_append, List.mem_singleton, not_or] at hi2
            exact (hf i hi1 hi2.1).mark' he1 hi2.2 ha
          · intro k t' hk ht'
            by_cases hkj : k = j
            · subst hkj
              rw [ht] at ht'
              simp only [Option.some.injEq] at ht'
              subst ht'
              refine ⟨by omega, hnd1, ?_⟩
              rw [Int.toNat_natCast]
              exact List.getElem?_set_self (lt_of_get he1)
            · obtain ⟨e1, e2, e3⟩ := hdone k t' (by omega) ht'
              refine ⟨e1, e2, ?_⟩
              rw [List.getElem?_set_ne]; exact e3
              intro h; subst h; rw [e3] at he1; simp only [Option.some.injEq] at he1
              have := (nd_le (k := k) hpd).1
              omega
          · show 2 * cnt (L'.set tn (nd x d j)) + (T' ++ [tn]).length ≤ _
            simp only [List.length_append, List.length_singleton]
            omega
      · have dt : decide ((tn : Int) ≥ (c.ins.length : Int)) = true := decide_eq_true (by omega)
        (try (conv => whnf)); (repeat' ((fail_if_success (with_reducible refine And.intro ?_ ?_)); (fail_if_success (with_reducible refine Exists.intro ?_ ?_)); (first | (first | (apply Ob.of; (first | with_reducible assumption | with_reducible exact ex20 _ _ | with_reducible exact ex21 _ _ | with_reducible exact ex30 _ _ _ | with_reducible exact ex31 _ _ _ | with_reducible exact ex32 _ _ _ | rfl | (exact ald rfl rfl (by assumption) rfl) | (exact ald_agg rfl rfl rfl (by assumption) rfl)); (conv => whnf)) | (apply bIf.yes; (first | assumption | rfl); (conv => whnf)) | (apply bIf.no; (first | assumption | rfl); (conv => whnf)) | ((with_reducible refine Ob.load (by with_unfolding_all assumption) ?_); (conv => whnf)) | (apply Grows.mk; (first | exact Grow.refl _ | assumption); (conv => whnf))) | (apply bIf.of <;> intro hc <;> (conv => whnf)))))
        all_goals exact ⟨none, .inl ⟨i0, d, x, hr, hx, .inr (.inr ⟨j, _, ht, .inl (by omega)⟩)⟩, rfl, g1.trans gH6⟩
    · have dj : decide ((j : Int) < ((tgt c.ins (i0 : Int)).length : Int)) = false := decide_eq_false (by omega)
      (try (conv => whnf)); (repeat ((fail_if_success (with_reducible refine And.intro ?_ ?_)); (fail_if_success (with_reducible refine Exists.intro ?_ ?_)); (first | (apply Ob.of; (first | with_reducible assumption | with_reducible exact ex20 _ _ | with_reducible exact ex21 _ _ | with_reducible exact ex30 _ _ _ | with_reducible exact ex31 _ _ _ | with_reducible exact ex32 _ _ _ | rfl | (exact ald rfl rfl (by assumption) rfl) | (exact ald_agg rfl rfl rfl (by assumption) rfl)); (conv => whnf)) | (apply bIf.yes; (first | assumption | rfl); (conv => whnf)) | (apply bIf.no; (first | assumption | rfl); (conv => whnf)) | ((with_reducible refine Ob.load (by with_unfolding_all assumption) ?_); (conv => whnf)) | (apply Grows.mk; (first | exact Grow.refl _ | assumption); (conv => whnf)))))
      refine ⟨(q, b', L', T'), rfl, ⟨rfl, rfl, rfl, trivial⟩, ⟨k2.grow ((hI.grow.trans g4).trans g5) hI.q0 hI.b0, hI.q0, ?_, fun h => hbq h.symm, ho6, ht6, hv, ?_, hm, fun i hi => ?_⟩, ?_⟩
      · have := hI.b0
        have := hI.grow.1
        show H1.length ≤ b'
        omega
      · show 2 * cnt L' + T'.length ≤ 10000
        omega
      · by_cases hi0' : i = i0
        · subst hi0'
          intro d' x' h1 h2 h3
          rw [hdi] at h1
          simp only [Option.some.injEq] at h1
          rw [hx] at h3
          simp only [Option.some.injEq] at h3
          subst h1 h3
          exact ⟨hpd, hdd, fun k t ht => hdone k t (by have := lt_of_get ht; omega) ht⟩
        · exact hf i hi0' hi
      · show 2 * cnt L' + T'.length < 2 * cnt L + (T.length + 1)
        omega
end Go.Proofs.Ytdlanbfbbopfhaa
