/- The document's dict in abstract memory: set, and deleted. -/
import Derived.Test.YtnmfmgnkfkhdhaaDi12
set_option linter.unusedVariables false
set_option linter.unusedSimpArgs false
set_option maxRecDepth 20000
set_option maxHeartbeats 2000000
namespace Go.Proofs.Ytnmfmgnkfkhdhaa
open Go Ax
theorem rset_ax {H : Heap} {q : Nat} {L : List (ByteArray × V)} (h : RD H q L) (hlen : L.length ≤ 1000000) (n : ByteArray) (v : V) :
    AX Try.prog 19 #[ptr q, .string n, valV v] H (fun r H' => r = .bool (idxOf L n).isNone ∧ RD H' q (setL L n v) ∧ FrR q H H') := by
  refine AX.body (n := 40) (rs := [.tmp 6]) Try.func19 rfl (by decide) rfl rfl (bC_sound _ _ _ _ ?_)
  (conv => whnf)
  refine Ob2.box rfl fun t H1 ht k1 k2 => ?_
  have hql := h.lt
  have h1' := h.grow k2
  (try (conv => whnf)); (repeat (first | (refine Ob.of (by first | with_reducible assumption | with_reducible exact ex20 _ _ | with_reducible exact ex21 _ _ | with_reducible exact ex30 _ _ _ | with_reducible exact ex31 _ _ _ | with_reducible exact ex32 _ _ _ | rfl | (exact ald rfl rfl (by assumption) rfl) | (exact ald_agg rfl rfl rfl (by assumption) rfl)) ?_; (conv => whnf)) | (refine bIf.yes (by first | assumption | rfl) ?_; (conv => whnf)) | (refine bIf.no (by first | assumption | rfl) ?_; (conv => whnf))))
  refine (at_ax h1' hlen n).mono ?_
  rintro _ X ⟨rfl, e⟩
  subst X
  obtain ⟨nv, vv, h1, h2, h3⟩ := h1'
  have hb := hblk_of h1
  have hqt : q ≠ t := by omega
  cases hi : idxOf L n with
  | some j =>
    obtain ⟨u, hu⟩ := idx_at hi
    have ha : atI L n = (j : Int) := by rw [atI, hi]
    rw [ha]
    have d1 : decide ((j : Int) ≥ 0) = true := decide_eq_true (by omega)
    have hjl := (List.getElem?_eq_some_iff.1 hu).1
    rcases h3 with ⟨rfl, h30⟩ | ⟨g, rfl, h30, h31⟩
    · have := congrArg List.length h30; simp at this; rw [this] at hjl; simp at hjl
    have ix : aindexAddr Try.prog 27 (.slice (some ⟨g, 0, none⟩) (L.map Prod.snd).length 3) (.int .i64 (j : Int)) = some (.pointer (some ⟨g, j * 3, none⟩)) := idxV (by simpa using hjl)
    obtain ⟨H2, hst, s1, s2, s3⟩ := store_ex (P := Try.prog) (t := 32) (off := j * 3) (v := valV v) rfl rfl rfl h31 rfl (by rw [valsC_len]; simp; omega)
    rw [show (#[Value.int .i64 v.1, Value.int .i64 v.2.1, Value.string v.2.2] : Array Value).toList = valC v from rfl, vals_put v (by simpa using hjl)] at s1
    have L1 : aload Try.prog 32 (.pointer (some ⟨t, 0, none⟩)) H1 = some (valV v) := ald_agg rfl rfl rfl (hblk_of k1) rfl
    have hqg : q ≠ g := by rintro rfl; rw [h1] at h31; simp at h31
    (try (conv => whnf)); (repeat (first | (refine Ob.of (by first | with_reducible assumption | with_reducible exact ex20 _ _ | with_reducible exact ex21 _ _ | with_reducible exact ex30 _ _ _ | with_reducible exact ex31 _ _ _ | with_reducible exact ex32 _ _ _ | rfl | (exact ald rfl rfl (by assumption) rfl) | (exact ald_agg rfl rfl rfl (by assumption) rfl)) ?_; (conv => whnf)) | (refine bIf.yes (by first | assumption | rfl) ?_; (conv => whnf)) | (refine bIf.no (by first | assumption | rfl) ?_; (conv => whnf))))
    apply SW.draw2 [([], [17, 18], 0, 0, false), ([(13, 0)], [13, 17, 18], 0, 0, false), ([(13, 0), (14, 1)], [13, 14, 17, 18], 0, 0, false), ([(13, 0), (14, 1), (15, 2)], [13, 14, 15, 17, 18], 0, 0, false), ([], [13, 14, 15, 16, 18], 0, 0, false), ([], [13, 14, 15, 16, 17], 0, 0, false), ([(13, 0), (14, 1), (15, 2), (16, 3), (17, 4), (18, 5)], [13, 14, 15, 16, 17, 18], 0, 0, false), ([(13, 0), (14, 1), (15, 2), (16, 3), (17, 4), (18, 5), (19, 6)], [13, 14, 15, 16, 17, 18, 19], 0, 0, true)]
      [(13, 0), (14, 1), (15, 2), (16, 3), (17, 4), (18, 5), (19, 6)] 1
      [(0, _), (1, _), (5, _), (7, _)] [_, _, _, _, _, _, _, _] [H1, H2] rfl (by kernel_rfl)
    case hF => exact ⟨rfl, rfl, rfl, rfl, trivial⟩
    case h0 => rfl
    case steps =>
      (try (conv => whnf)); repeat' (first | ((with_reducible refine Ob.of ix ?_); (conv => whnf)) | ((with_reducible refine Ob.of L1 ?_); (conv => whnf)) | ((with_reducible refine Ob2.of ix ?_); (conv => whnf)) | ((with_reducible refine Ob2.of L1 ?_); (conv => whnf)) | (refine And.intro ?_ ?_ <;> (conv => whnf)) | exact Leaf.mk rfl rfl | exact True.intro | (refine Ob.of hst ?_; (conv => whnf)) | (refine Ob.of rfl ?_; (conv => whnf)) | (refine Ob2.of (by rfl) ?_; (conv => whnf)) | (first | (refine Ob.of (by first | with_reducible assumption | with_reducible exact ex20 _ _ | with_reducible exact ex21 _ _ | with_reducible exact ex30 _ _ _ | with_reducible exact ex31 _ _ _ | with_reducible exact ex32 _ _ _ | rfl | (exact ald rfl rfl (by assumption) rfl) | (exact ald_agg rfl rfl rfl (by assumption) rfl)) ?_; (conv => whnf)) | (refine bIf.yes (by first | assumption | rfl) ?_; (conv => whnf)) | (refine bIf.no (by first | assumption | rfl) ?_; (conv => whnf))))
    (try (conv => whnf)); (repeat (first | (refine Ob.of (by first | with_reducible assumption | with_reducible exact ex20 _ _ | with_reducible exact ex21 _ _ | with_reducible exact ex30 _ _ _ | with_reducible exact ex31 _ _ _ | with_reducible exact ex32 _ _ _ | rfl | (exact ald rfl rfl (by assumption) rfl) | (exact ald_agg rfl rfl rfl (by assumption) rfl)) ?_; (conv => whnf)) | (refine bIf.yes (by first | assumption | rfl) ?_; (conv => whnf)) | (refine bIf.no (by first | assumption | rfl) ?_; (conv => whnf))))
    have hs : setL L n v = L.set j (n, v) := by rw [setL, hi]
    rw [hs]
    have e1 : (L.set j (n, v)).map Prod.fst = L.map Prod.fst := by
      apply List.ext_getElem?
      intro l
      rw [List.getElem?_map, List.getElem?_map]
      by_cases hl : l = j
      · subst hl; rw [List.getElem?_set_self hjl, hu]; rfl
      · rw [List.getElem?_set_ne (fun e => hl e.symm)]
    have e2 : (L.set j (n, v)).map Prod.snd = (L.map Prod.snd).set j v := by rw [List.map_set]
    refine ⟨rfl, ⟨nv, _, s2.at h1 hqg, ?_, ?_⟩, ?_⟩
    · rw [e1]
      exact h2.keep fun b c hbc => s2.at hbc (by rintro rfl; rw [h31] at hbc; simp at hbc)
    · rw [e2]
      exact .inr ⟨g, by simp, by intro h0; have := congrArg List.length h0; simp at this; rw [this] at hjl; simp at hjl, s1⟩
    · exact FrR.begin k2 hql (FrR.of h1 ((FrS.refl _ _).but s2 (.inr (.inr ⟨_, _, h1, .inr ⟨_, _, rfl⟩⟩))) (s2.at h1 hqg) (fun k n e h _ => ⟨_, _, h1, .inl ⟨n, e, h⟩⟩) fun k n e h _ => ⟨_, _, h1, .inr ⟨n, e, h⟩⟩)
  | none =>
    have ha : atI L n = -1 := by rw [atI, hi]
    rw [ha]
    have d1 : decide ((-1 : Int) ≥ 0) = false := by decide
    have hs : setL L n v = L ++ [(n, v)] := by rw [setL, hi]
    rw [hs]
    obtain ⟨q2, H2, nv', H3, e1, e1g, e2, m1, m2, m3, m4, m5⟩ := app_str n h2 (by simpa using hlen)
    have c1 := m3 q _ h1 (by simp)
    have c2 := m3 t _ k1 (by simp)
    have hb2 := hblk_of (e1g.at h1)
    have hb3 := hblk_of c1
    (try (conv => whnf)); (repeat (first | (refine Ob.of (by first | with_reducible assumption | with_reducible exact ex20 _ _ | with_reducible exact ex21 _ _ | with_reducible exact ex30 _ _ _ | with_reducible exact ex31 _ _ _ | with_reducible exact ex32 _ _ _ | rfl | (exact ald rfl rfl (by assumption) rfl) | (exact ald_agg rfl rfl rfl (by assumption) rfl)) ?_; (conv => whnf)) | (refine bIf.yes (by first | assumption | rfl) ?_; (conv => whnf)) | (refine bIf.no (by first | assumption | rfl) ?_; (conv => whnf))))
    refine Ob2.of e1 ?_
    (try (conv => whnf)); (repeat (first | (refine Ob.of (by first | with_reducible assumption | with_reducible exact ex20 _ _ | with_reducible exact ex21 _ _ | with_reducible exact ex30 _ _ _ | with_reducible exact ex31 _ _ _ | with_reducible exact ex32 _ _ _ | rfl | (exact ald rfl rfl (by assumption) rfl) | (exact ald_agg rfl rfl rfl (by assumption) rfl)) ?_; (conv => whnf)) | (refine bIf.yes (by first | assumption | rfl) ?_; (conv => whnf)) | (refine bIf.no (by first | assumption | rfl) ?_; (conv => whnf))))
    refine Ob2.of e2 ?_
    (try (conv => whnf)); (repeat (first | (refine Ob.of (by first | with_reducible assumption | with_reducible exact ex20 _ _ | with_reducible exact ex21 _ _ | with_reducible exact ex30 _ _ _ | with_reducible exact ex31 _ _ _ | with_reducible exact ex32 _ _ _ | rfl | (exact ald rfl rfl (by assumption) rfl) | (exact ald_agg rfl rfl rfl (by assumption) rfl)) ?_; (conv => whnf)) | (refine bIf.yes (by first | assumption | rfl) ?_; (conv => whnf)) | (refine bIf.no (by first | assumption | rfl) ?_; (conv => whnf))))
    refine Ob.store m1.cells rfl rfl c1 rfl (by first | exact Nat.le_of_ble_eq_true rfl | simp) fun H4 s1 s2 s3 => ?_
    have v4 : Vals H4 vv (L.map Prod.snd) := h3.keep fun b c hbc => s2.at (m3 b _ hbc (by simp)) (by rintro rfl; rw [h1] at hbc; simp at hbc)
    have c4 := s2.at c2 (fun e => hqt e.symm)
    have hb4 := hblk_of s1
    obtain ⟨q5, H5, vv', H6, e5, e5g, e6, n1, n2, n3, n4, n5⟩ := app_val v v4 (by simpa using hlen)
    have d6 := n3 q _ s1 (by simp)
    have d7 := n3 t _ c4 (by simp)
    have hb5 := hblk_of (e5g.at s1)
    have hb6 := hblk_of d6
    have L4 : aload Try.prog 32 (.pointer (some ⟨t, 0, none⟩)) H4 = some (valV v) := ald_agg rfl rfl rfl (hblk_of c4) rfl
    have L5 : aload Try.prog 32 (.pointer (some ⟨t, 0, none⟩)) H5 = some (valV v) := ald_agg rfl rfl rfl (hblk_of (e5g.at c4)) rfl
    have L6 : aload Try.prog 32 (.pointer (some ⟨t, 0, none⟩)) H6 = some (valV v) := ald_agg rfl rfl rfl (hblk_of d7) rfl
    obtain ⟨H7, hst, t1, t2, t3⟩ := store_ex (P := Try.prog) (t := 27) (off := 0 + 1) (v := vv') n1.cells rfl rfl d6 rfl (by show 0 + 1 + 1 ≤ 2; omega)
    (try (conv => whnf)); (repeat (first | (refine Ob.of (by first | with_reducible assumption | with_reducible exact ex20 _ _ | with_reducible exact ex21 _ _ | with_reducible exact ex30 _ _ _ | with_reducible exact ex31 _ _ _ | with_reducible exact ex32 _ _ _ | rfl | (exact ald rfl rfl (by assumption) rfl) | (exact ald_agg rfl rfl rfl (by assumption) rfl)) ?_; (conv => whnf)) | (refine bIf.yes (by first | assumption | rfl) ?_; (conv => whnf)) | (refine bIf.no (by first | assumption | rfl) ?_; (conv => whnf))))
    apply SW.draw2 [([], [31, 32, 33, 34, 35, 36, 37], 0, 2, false), ([], [30, 35, 36], 0, 1, false), ([(31, 1)], [30, 31, 35, 36], 0, 1, false), ([(31, 1), (32, 2)], [30, 31, 32, 35, 36], 0, 1, false), ([(31, 1), (32, 2), (33, 3)], [30, 31, 32, 33, 35, 36], 0, 1, false), ([], [30, 31, 32, 33, 34], 0, 0, false), ([(35, 5)], [30, 31, 32, 33, 34, 35], 0, 0, true), ([(31, 1), (32, 2), (33, 3), (34, 4), (35, 5), (36, 6)], [30, 31, 32, 33, 34, 35, 36], 1, 0, true), ([(30, 0), (31, 1), (32, 2), (33, 3), (34, 4), (35, 5), (36, 6), (37, 7)], [30, 31, 32, 33, 34, 35, 36, 37], 2, 0, false), ([(30, 0), (31, 1), (32, 2), (33, 3), (34, 4), (35, 5), (36, 6), (37, 7), (38, 8)], [30, 31, 32, 33, 34, 35, 36, 37, 38], 2, 0, false), ([(30, 0), (31, 1), (32, 2), (33, 3), (34, 4), (35, 5), (36, 6), (37, 7), (38, 8), (39, 9)], [30, 31, 32, 33, 34, 35, 36, 37, 38, 39], 2, 0, true)]
      [(30, 0), (31, 1), (32, 2), (33, 3), (34, 4), (35, 5), (36, 6), (37, 7), (38, 8), (39, 9)] 3
      [(0, _), (1, _), (5, _)] [_, _, _, _, _, _, _, _, _, _, _] [H4, H5, H6, H7] rfl (by kernel_rfl)
    case hF => exact ⟨rfl, rfl, rfl, trivial⟩
    case h0 => rfl
    case steps =>
      (try (conv => whnf)); repeat' (first | ((with_reducible refine Ob.of L4 ?_); (conv => whnf)) | ((with_reducible refine Ob.of L5 ?_); (conv => whnf)) | ((with_reducible refine Ob.of L6 ?_); (conv => whnf)) | ((with_reducible refine Ob.of e5 ?_); (conv => whnf)) | ((with_reducible refine Ob.of e6 ?_); (conv => whnf)) | ((with_reducible refine Ob2.of L4 ?_); (conv => whnf)) | ((with_reducible refine Ob2.of L5 ?_); (conv => whnf)) | ((with_reducible refine Ob2.of L6 ?_); (conv => whnf)) | ((with_reducible refine Ob2.of e5 ?_); (conv => whnf)) | ((with_reducible refine Ob2.of e6 ?_); (conv => whnf)) | (refine And.intro ?_ ?_ <;> (conv => whnf)) | exact Leaf.mk rfl rfl | exact True.intro | (refine Ob2.of e5 ?_; (conv => whnf)) | (refine Ob2.of e6 ?_; (conv => whnf)) | (refine Ob.of hst ?_; (conv => whnf)) | (refine Ob.of rfl ?_; (conv => whnf)) | (refine Ob2.of (by rfl) ?_; (conv => whnf)) | (first | (refine Ob.of (by first | with_reducible assumption | with_reducible exact ex20 _ _ | with_reducible exact ex21 _ _ | with_reducible exact ex30 _ _ _ | with_reducible exact ex31 _ _ _ | with_reducible exact ex32 _ _ _ | rfl | (exact ald rfl rfl (by assumption) rfl) | (exact ald_agg rfl rfl rfl (by assumption) rfl)) ?_; (conv => whnf)) | (refine bIf.yes (by first | assumption | rfl) ?_; (conv => whnf)) | (refine bIf.no (by first | assumption | rfl) ?_; (conv => whnf))))
    (try (conv => whnf)); (repeat (first | (refine Ob.of (by first | with_reducible assumption | with_reducible exact ex20 _ _ | with_reducible exact ex21 _ _ | with_reducible exact ex30 _ _ _ | with_reducible exact ex31 _ _ _ | with_reducible exact ex32 _ _ _ | rfl | (exact ald rfl rfl (by assumption) rfl) | (exact ald_agg rfl rfl rfl (by assumption) rfl)) ?_; (conv => whnf)) | (refine bIf.yes (by first | assumption | rfl) ?_; (conv => whnf)) | (refine bIf.no (by first | assumption | rfl) ?_; (conv => whnf))))
    refine ⟨rfl, ⟨nv', vv', t1, ?_, ?_⟩, ?_⟩
    · rw [List.map_append]
      exact m1.keep fun b c hbc => t2.at (n3 b _ (s2.at hbc (by rintro rfl; rw [c1] at hbc; simp at hbc)) (by simp)) (by rintro rfl; rw [c1] at hbc; simp at hbc)
    · rw [List.map_append]
      exact n1.keep fun b c hbc => t2.at hbc (by rintro rfl; rw [d6] at hbc; simp at hbc)
    · refine FrR.begin k2 hql (FrR.of h1 ⟨by have := s2.1; have := t2.1; omega, fun k B hk hks => ?_⟩ t1 (fun k n e h hlt => absurd (m5 k n e h) (by omega)) fun k n e h hlt => absurd (n5 k n e h) (by have := s2.1; omega))
      have hkq : k ≠ q := fun e => hks (.inl e)
      refine t2.at (n4 k B (s2.at (m4 k B hk fun g m e hv => ?_) hkq) fun g m e hv => ?_) hkq
      · rintro rfl; exact hks (.inr ⟨_, _, h1, .inl ⟨_, _, hv⟩⟩)
      · rintro rfl; exact hks (.inr ⟨_, _, h1, .inr ⟨_, _, hv⟩⟩)
theorem del_step {L : List (ByteArray × V)} {n : ByteArray} {k : Nat} {x : ByteArray × V} (h : L[k]? = some x) (o : Option Nat) :
    (match o with | some j => (L.take (k + 1)).eraseIdx j | none => L.take (k + 1)) = (match o with | some j => (L.take k).eraseIdx j | none => L.take k) ++ (if o = some k then [] else [x]) := by
  have hl := (List.getElem?_eq_some_iff.1 h).1
  have ht : (L.take k).length = k := by rw [List.length_take]; omega
  rw [List.take_add_one, h]
  cases o with
  | none => rfl
  | some j =>
    simp only [Option.some.injEq, Option.toList_some]
    by_cases hjk : j = k
    · subst hjk
      rw [if_pos rfl, List.eraseIdx_append_of_length_le (by omega), ht, Nat.sub_self, List.append_nil, List.eraseIdx_of_length_le (l := L.take j) (by omega)]
      simp
    · rw [if_neg hjk]
      by_cases hlt : j < k
      · rw [List.eraseIdx_append_of_lt_length (by omega)]
      · rw [List.eraseIdx_of_length_le (l := L.take k) (by omega), List.eraseIdx_of_length_le (by rw [List.length_append, ht]; simp; omega)]
theorem rdelete_ax {H : Heap} {q : Nat} {L : List (ByteArray × V)} (h : RD H q L) (hlen : L.length ≤ 1000000) (n : ByteArray) :
    AX Try.prog 20 #[ptr q, .string n] H (fun r H' => r = .bool (idxOf L n).isSome ∧ RD H' q (delL L n) ∧ FrR q H H') := by
  refine AX.body (n := 54) (rs := [.tmp 4]) Try.func20 rfl (by decide) rfl rfl (bC_sound _ _ _ _ ?_)
  (try (conv => whnf)); (repeat (first | (refine Ob.of (by first | with_reducible assumption | with_reducible exact ex20 _ _ | with_reducible exact ex21 _ _ | with_reducible exact ex30 _ _ _ | with_reducible exact ex31 _ _ _ | with_reducible exact ex32 _ _ _ | rfl | (exact ald rfl rfl (by assumption) rfl) | (exact ald_agg rfl rfl rfl (by assumption) rfl)) ?_; (conv => whnf)) | (refine bIf.yes (by first | assumption | rfl) ?_; (conv => whnf)) | (refine bIf.no (by first | assumption | rfl) ?_; (conv => whnf))))
  refine (at_ax h hlen n).mono ?_
  rintro _ X ⟨rfl, e⟩
  subst X
  obtain ⟨nv, vv, h1, h2, h3⟩ := h
  have hql := lt_at h1
  have hl2 := h2.len
  (try (conv => whnf)); (repeat (first | (refine Ob.of (by first | with_reducible assumption | with_reducible exact ex20 _ _ | with_reducible exact ex21 _ _ | with_reducible exact ex30 _ _ _ | with_reducible exact ex31 _ _ _ | with_reducible exact ex32 _ _ _ | rfl | (exact ald rfl rfl (by assumption) rfl) | (exact ald_agg rfl rfl rfl (by assumption) rfl)) ?_; (conv => whnf)) | (refine bIf.yes (by first | assumption | rfl) ?_; (conv => whnf)) | (refine bIf.no (by first | assumption | rfl) ?_; (conv => whnf))))
  refine SW.loop (α := Nat × Value × Value) (fun x => [(0, ptr q), (5, .int .i64 (atI L n)), (6, x.2.1), (7, x.2.2), (8, .int .i64 (x.1 : Int))])
    (fun x H1 => x.1 ≤ L.length ∧ Strs H1 x.2.1 ((match idxOf L n with | some j => (L.take x.1).eraseIdx j | none => L.take x.1).map Prod.fst) ∧ Vals H1 x.2.2 ((match idxOf L n with | some j => (L.take x.1).eraseIdx j | none => L.take x.1).map Prod.snd) ∧ Grow H H1 ∧ (∀ g m e, x.2.1 = .slice (some ⟨g, 0, none⟩) m e → H.length ≤ g) ∧ (∀ g m e, x.2.2 = .slice (some ⟨g, 0, none⟩) m e → H.length ≤ g)) (fun x => L.length - x.1)
    ⟨(0, .slice none 0 0, .slice none 0 0), ⟨rfl, rfl, rfl, rfl, rfl, trivial⟩, Nat.zero_le _, .inl ⟨rfl, by cases idxOf L n <;> simp⟩, .inl ⟨rfl, by cases idxOf L n <;> simp⟩, .refl _, (by intro g m e hv; cases hv), (by intro g m e hv; cases hv)⟩ ?_
  rintro ⟨k, nw, vw⟩ H1 ⟨a1, a2, a3, a4, a5, a6⟩
  simp only at a1 a2 a3 a5 a6
  refine bC_sound _ _ _ _ ?_
  have w1 : IntKind.i64.wrap ((k : Int) + 1) = ((k + 1 : Nat) : Int) := wrap_nat (by omega)
  have c1 := a4.at h1
  have hb := hblk_of c1
  have hl := hl2 H1
  rw [List.length_map] at hl
  by_cases hk : k < L.length
  · have d1 : decide ((k : Int) < (L.length : Int)) = true := decide_eq_true (by omega)
    obtain ⟨x, hx⟩ : ∃ x, L[k]? = some x := ⟨_, List.getElem?_eq_getElem hk⟩
    have hst := del_step (n := n) hx (idxOf L n)
    by_cases hat : idxOf L n = some k
    · have d2 : ((k : Int) != atI L n) = false := by rw [atI, hat]; simp
      rw [if_pos hat, List.append_nil] at hst
      (try (conv => whnf)); (repeat (first | (refine Ob.of (by first | with_reducible assumption | with_reducible exact ex20 _ _ | with_reducible exact ex21 _ _ | with_reducible exact ex30 _ _ _ | with_reducible exact ex31 _ _ _ | with_reducible exact ex32 _ _ _ | rfl | (exact ald rfl rfl (by assumption) rfl) | (exact ald_agg rfl rfl rfl (by assumption) rfl)) ?_; (conv => whnf)) | (refine bIf.yes (by first | assumption | rfl) ?_; (conv => whnf)) | (refine bIf.no (by first | assumption | rfl) ?_; (conv => whnf))))
      exact ⟨(k + 1, nw, vw), ⟨rfl, rfl, rfl, rfl, congrArg (fun z => some (Value.int .i64 z)) w1, trivial⟩, ⟨hk, by show Strs H1 nw _; rw [hst]; exact a2, by show Vals H1 vw _; rw [hst]; exact a3, a4, a5, a6⟩, by show L.length - (k + 1) < L.length - k; omega⟩
    · have d2 : ((k : Int) != atI L n) = true := by
        rw [atI]
        cases hi : idxOf L n with
        | none => show ((k : Int) != -1) = true; rw [bne_iff_ne]; omega
        | some j =>
          simp only [bne_iff_ne, ne_eq]
          intro e
          apply hat
          rw [hi]
          congr 1
          omega
      rw [if_neg hat] at hst
      have hz : ∀ {β : Type} (f : ByteArray × V → β), ((match idxOf L n with | some j => (L.take k).eraseIdx j | none => L.take k).map f).length ≤ 1000000 := by
        intro β f
        rw [List.length_map]
        have : (L.take k).length ≤ k := by rw [List.length_take]; omega
        cases idxOf L n with
        | none => show (L.take k).length ≤ _; omega
        | some j => show ((L.take k).eraseIdx j).length ≤ _; have := List.length_eraseIdx_le (L.take k) j; omega
      obtain ⟨p1, i1, i2⟩ := (h2.grow a4).at (i := k) (s := x.1) (by simp [hx])
      obtain ⟨q2, H2, nw', H3, e1, e1g, e2, m1, m2, m3, m4, m5⟩ := app_str x.1 a2 (hz _)
      have c3 := m3 q _ c1 (by simp)
      have hb2 := hblk_of (e1g.at c1)
      have hb3 := hblk_of c3
      have gH3 : Grow H H3 := ⟨by have := a4.1; omega, fun k' hk' => by
        have hk2 : H[k']? = some (H[k']'hk') := List.getElem?_eq_getElem hk'
        rw [hk2]
        exact m4 k' _ (a4.at hk2) fun g m e hv => by have := a5 g m e hv; omega⟩
      have v3 : Vals H3 vw _ := a3.keep fun b c hbc => m3 b _ hbc (by simp)
      obtain ⟨p2, i3, i4⟩ := (h3.grow gH3).at (i := k) (x := x.2) (by simp [hx])
      obtain ⟨q4, H4, vw', H5, e3, e3g, e4, n1, n2, n3, n4, n5⟩ := app_val x.2 v3 (hz _)
      have gH5 : Grow H H5 := ⟨by have := gH3.1; omega, fun k' hk' => by
        have hk2 : H[k']? = some (H[k']'hk') := List.getElem?_eq_getElem hk'
        rw [hk2]
        exact n4 k' _ (gH3.at hk2) fun g m e hv => by have := a6 g m e hv; omega⟩
      (try (conv => whnf)); (repeat (first | (refine Ob.of (by first | with_reducible assumption | with_reducible exact ex20 _ _ | with_reducible exact ex21 _ _ | with_reducible exact ex30 _ _ _ | with_reducible exact ex31 _ _ _ | with_reducible exact ex32 _ _ _ | rfl | (exact ald rfl rfl (by assumption) rfl) | (exact ald_agg rfl rfl rfl (by assumption) rfl)) ?_; (conv => whnf)) | (refine bIf.yes (by first | assumption | rfl) ?_; (conv => whnf)) | (refine bIf.no (by first | assumption | rfl) ?_; (conv => whnf))))
      refine Ob2.of e1 ?_
      (try (conv => whnf)); (repeat (first | (refine Ob.of (by first | with_reducible assumption | with_reducible exact ex20 _ _ | with_reducible exact ex21 _ _ | with_reducible exact ex30 _ _ _ | with_reducible exact ex31 _ _ _ | with_reducible exact ex32 _ _ _ | rfl | (exact ald rfl rfl (by assumption) rfl) | (exact ald_agg rfl rfl rfl (by assumption) rfl)) ?_; (conv => whnf)) | (refine bIf.yes (by first | assumption | rfl) ?_; (conv => whnf)) | (refine bIf.no (by first | assumption | rfl) ?_; (conv => whnf))))
      refine Ob2.of e2 ?_
      (try (conv => whnf)); (repeat (first | (refine Ob.of (by first | with_reducible assumption | with_reducible exact ex20 _ _ | with_reducible exact ex21 _ _ | with_reducible exact ex30 _ _ _ | with_reducible exact ex31 _ _ _ | with_reducible exact ex32 _ _ _ | rfl | (exact ald rfl rfl (by assumption) rfl) | (exact ald_agg rfl rfl rfl (by assumption) rfl)) ?_; (conv => whnf)) | (refine bIf.yes (by first | assumption | rfl) ?_; (conv => whnf)) | (refine bIf.no (by first | assumption | rfl) ?_; (conv => whnf))))
      refine Ob2.of e3 ?_
      (try (conv => whnf)); (repeat (first | (refine Ob.of (by first | with_reducible assumption | with_reducible exact ex20 _ _ | with_reducible exact ex21 _ _ | with_reducible exact ex30 _ _ _ | with_reducible exact ex31 _ _ _ | with_reducible exact ex32 _ _ _ | rfl | (exact ald rfl rfl (by assumption) rfl) | (exact ald_agg rfl rfl rfl (by assumption) rfl)) ?_; (conv => whnf)) | (refine bIf.yes (by first | assumption | rfl) ?_; (conv => whnf)) | (refine bIf.no (by first | assumption | rfl) ?_; (conv => whnf))))
      refine Ob2.of e4 ?_
      (try (conv => whnf)); (repeat (first | (refine Ob.of (by first | with_reducible assumption | with_reducible exact ex20 _ _ | with_reducible exact ex21 _ _ | with_reducible exact ex30 _ _ _ | with_reducible exact ex31 _ _ _ | with_reducible exact ex32 _ _ _ | rfl | (exact ald rfl rfl (by assumption) rfl) | (exact ald_agg rfl rfl rfl (by assumption) rfl)) ?_; (conv => whnf)) | (refine bIf.yes (by first | assumption | rfl) ?_; (conv => whnf)) | (refine bIf.no (by first | assumption | rfl) ?_; (conv => whnf))))
      refine ⟨(k + 1, nw', vw'), ⟨rfl, rfl, rfl, rfl, congrArg (fun z => some (Value.int .i64 z)) w1, trivial⟩, ⟨hk, ?_, ?_, gH5, ?_, ?_⟩, by show L.length - (k + 1) < L.length - k; omega⟩
      · show Strs H5 nw' _
        rw [hst, List.map_append]
        exact m1.keep fun b c hbc => n3 b _ hbc (by simp)
      · show Vals H5 vw' _
        rw [hst, List.map_append]
        exact n1
      · intro g m e hv; have := m5 g m e hv; have := a4.1; omega
      · intro g m e hv; have := n5 g m e hv; have := gH3.1; omega
  · have d1 : decide ((k : Int) < (L.length : Int)) = false := decide_eq_false (by omega)
    have hall : L.take k = L := List.take_of_length_le (by omega)
    rw [hall] at a2 a3
    have hd : (match idxOf L n with | some j => L.eraseIdx j | none => L) = delL L n := by unfold delL; rfl
    rw [hd] at a2 a3
    (try (conv => whnf)); (repeat (first | (refine Ob.of (by first | with_reducible assumption | with_reducible exact ex20 _ _ | with_reducible exact ex21 _ _ | with_reducible exact ex30 _ _ _ | with_reducible exact ex31 _ _ _ | with_reducible exact ex32 _ _ _ | rfl | (exact ald rfl rfl (by assumption) rfl) | (exact ald_agg rfl rfl rfl (by assumption) rfl)) ?_; (conv => whnf)) | (refine bIf.yes (by first | assumption | rfl) ?_; (conv => whnf)) | (refine bIf.no (by first | assumption | rfl) ?_; (conv => whnf))))
    refine Ob.store a2.cells rfl rfl c1 rfl (by first | exact Nat.le_of_ble_eq_true rfl | simp) fun H2 s1 s2 s3 => ?_
    have hb2 := hblk_of s1
    (try (conv => whnf)); (repeat (first | (refine Ob.of (by first | with_reducible assumption | with_reducible exact ex20 _ _ | with_reducible exact ex21 _ _ | with_reducible exact ex30 _ _ _ | with_reducible exact ex31 _ _ _ | with_reducible exact ex32 _ _ _ | rfl | (exact ald rfl rfl (by assumption) rfl) | (exact ald_agg rfl rfl rfl (by assumption) rfl)) ?_; (conv => whnf)) | (refine bIf.yes (by first | assumption | rfl) ?_; (conv => whnf)) | (refine bIf.no (by first | assumption | rfl) ?_; (conv => whnf))))
    refine Ob.store a3.cells rfl rfl s1 rfl (by first | exact Nat.le_of_ble_eq_true rfl | simp) fun H3 t1 t2 t3 => ?_
    (try (conv => whnf)); (repeat (first | (refine Ob.of (by first | with_reducible assumption | with_reducible exact ex20 _ _ | with_reducible exact ex21 _ _ | with_reducible exact ex30 _ _ _ | with_reducible exact ex31 _ _ _ | with_reducible exact ex32 _ _ _ | rfl | (exact ald rfl rfl (by assumption) rfl) | (exact ald_agg rfl rfl rfl (by assumption) rfl)) ?_; (conv => whnf)) | (refine bIf.yes (by first | assumption | rfl) ?_; (conv => whnf)) | (refine bIf.no (by first | assumption | rfl) ?_; (conv => whnf))))
    have hr : decide (atI L n ≥ 0) = (idxOf L n).isSome := by
      rw [atI]
      cases idxOf L n with
      | none => rfl
      | some j => simp
    rw [hr]
    refine ⟨rfl, ⟨nw, vw, t1, a2.keep fun b c hbc => t2.at (s2.at hbc ?_) ?_, a3.keep fun b c hbc => t2.at (s2.at hbc ?_) ?_⟩, FrR.of h1 ⟨by have := a4.1; omega, fun k' B hk' hks => t2.at (s2.at (a4.at hk') fun e => hks (.inl e)) fun e => hks (.inl e)⟩ t1 (fun k n e h hlt => absurd (a5 k n e h) (by omega)) fun k n e h hlt => absurd (a6 k n e h) (by omega)⟩
    all_goals (rintro rfl; rw [c1] at hbc; simp at hbc)
end Go.Proofs.Ytnmfmgnkfkhdhaa
