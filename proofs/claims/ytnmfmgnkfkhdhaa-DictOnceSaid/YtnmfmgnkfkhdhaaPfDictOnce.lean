/- The law DictOnce, told of abstract memory: whatever the input, it answers true. No condition. -/
import Derived.Test.YtnmfmgnkfkhdhaaDi18
set_option linter.unusedVariables false
set_option linter.unusedSimpArgs false
set_option maxRecDepth 20000
set_option maxHeartbeats 4000000
namespace Go.Proofs.Ytnmfmgnkfkhdhaa
open Go Ax
theorem get_set {L : List (ByteArray × V)} (hu : (L.map Prod.fst).Nodup) (n : ByteArray) (v : V) : getL (setL L n v) n = some v ∧ (idxOf (setL L n v) n).isSome = true := by
  rw [get_of_idx]
  unfold setL
  cases hi : idxOf L n with
  | some j =>
    obtain ⟨u, hj⟩ := idx_at hi
    have hl := (List.getElem?_eq_some_iff.1 hj).1
    have hs : (L.set j (n, v))[j]? = some (n, v) := List.getElem?_set_self hl
    have hu2 : ((L.set j (n, v)).map Prod.fst).Nodup := by
      have e : (L.set j (n, v)).map Prod.fst = L.map Prod.fst := by
        apply List.ext_getElem?
        intro l
        rw [List.getElem?_map, List.getElem?_map]
        by_cases h : l = j
        · subst h; rw [hs, hj]; rfl
        · rw [List.getElem?_set_ne (fun e => h e.symm)]
      rw [e]; exact hu
    rw [idx_some hu2 hs]
    simp [hs]
  | none =>
    have hs : (L ++ [(n, v)])[L.length]? = some (n, v) := by simp
    have hix : idxOf (L ++ [(n, v)]) n = some L.length := by
      refine idx_first hs fun j hj u hu2 => ?_
      rw [List.getElem?_append_left hj] at hu2
      rw [idxOf, List.findIdx?_eq_none_iff] at hi
      have := hi _ (List.mem_of_getElem? hu2)
      simp at this
    rw [hix]
    simp [hs]
theorem get_del {L : List (ByteArray × V)} (hu : (L.map Prod.fst).Nodup) (n : ByteArray) : (idxOf (delL L n) n).isSome = false := by
  unfold delL
  cases hi : idxOf L n with
  | none => rw [hi]; rfl
  | some j =>
    obtain ⟨u, hj⟩ := idx_at hi
    have : idxOf (L.eraseIdx j) n = none := by
      refine idx_none fun v hv => ?_
      obtain ⟨l, hne, hl⟩ := List.mem_eraseIdx_iff_getElem?.1 hv
      have a1 : (L.map Prod.fst)[l]? = some n := by simp [hl]
      have a2 : (L.map Prod.fst)[j]? = some n := by simp [hj]
      exact hne ((List.getElem?_inj (List.getElem?_eq_some_iff.1 a1).1 hu).1 (a1.trans a2.symm))
    rw [this]; rfl
theorem set_len (L : List (ByteArray × V)) (n : ByteArray) (v : V) : (setL L n v).length = L.length + (if (idxOf L n).isNone = true then 1 else 0) := by
  unfold setL; cases idxOf L n <;> simp
theorem del_len {L : List (ByteArray × V)} {n : ByteArray} (h : (idxOf L n).isSome = true) : (delL L n).length + 1 = L.length := by
  unfold delL
  cases hi : idxOf L n with
  | none => rw [hi] at h; cases h
  | some j =>
    obtain ⟨u, hj⟩ := idx_at hi
    have hl := (List.getElem?_eq_some_iff.1 hj).1
    show (L.eraseIdx j).length + 1 = _
    rw [List.length_eraseIdx, if_pos hl]; omega
theorem del_len0 {L : List (ByteArray × V)} {n : ByteArray} (h : (idxOf L n).isSome = false) : delL L n = L := by
  unfold delL
  cases hi : idxOf L n with
  | none => rfl
  | some j => rw [hi] at h; cases h
/-- What is left: blocks of acts, and the like. -/
theorem Acts.d {H H' : Heap} {p : Nat} {sv : Value} {L : List ActT} (h : Acts H sv L) (k : FrD p H H') (hp : ∃ c, H[p]? = some (.cells .var c)) : Acts H' sv L := by
  obtain ⟨c1, hp⟩ := hp
  exact h.keep fun b c hb => k.2 b _ hb (by rintro rfl; rw [hp] at hb; simp at hb) rfl
theorem Acts.fld {H : Heap} {sv : Value} {L : List ActT} (h : Acts H sv L) {i : Nat} {x : ActT} (hx : L[i]? = some x) : ∃ b, aindexAddr Try.prog 22 sv (.int .i64 (i : Int)) = some (.pointer (some ⟨b, i * 5, none⟩)) ∧ aload Try.prog 3 (.pointer (some ⟨b, i * 5 + 0, none⟩)) H = some (.int .i64 x.1) ∧
    aload Try.prog 9 (.pointer (some ⟨b, i * 5 + 1, none⟩)) H = some (.string x.2.1) ∧ aload Try.prog 32 (.pointer (some ⟨b, i * 5 + 2, none⟩)) H = some (valV x.2.2) ∧ aload Try.prog 34 (.pointer (some ⟨b, i * 5, none⟩)) H = some (actV x.1 x.2.1 x.2.2) := by
  obtain ⟨b, h1, c, h2, h3⟩ := h.at hx
  have h3' := h3
  have hle : i * 5 + 5 ≤ c.length := by
    unfold slotsOf at h3
    split at h3
    · assumption
    · cases h3
  rw [slots_of hle] at h3
  have h4 : ∀ j, j < 5 → c[i * 5 + j]? = (actC x)[j]? := by
    intro j hj
    have := congrArg (fun o => o.map fun l : List Value => l[j]?) h3
    simp only [Option.map_some, Option.some.injEq] at this
    rw [← this, List.getElem?_take, if_pos hj, List.getElem?_drop]
  refine ⟨b, h1, ald rfl rfl h2 (h4 0 (by decide)), ald rfl rfl h2 (h4 1 (by decide)), ald_agg (n := 3) rfl rfl rfl h2 ?_, ald_agg rfl rfl rfl h2 h3'⟩
  rw [slots_of (by omega)]
  congr 1
  apply List.ext_getElem?
  intro j
  rw [List.getElem?_take]
  split
  · rename_i hj
    rw [List.getElem?_drop, show i * 5 + 2 + j = i * 5 + (2 + j) by omega, h4 _ (by omega)]
    match j, hj with
    | 0, _ => rfl
    | 1, _ => rfl
    | 2, _ => rfl
  · rename_i hj; rw [List.getElem?_eq_none (by simp; omega)]
theorem DictOnce_ax (H : Heap) (c0 : List Value) (x0 : List ((Int) × (ByteArray) × ((Int) × (Int) × (ByteArray)))) (hn : NoOwn H) (R0 : ty22.R H c0 x0) (o0 : ty22.ok x0) :
    AX Try.prog 4 #[arg1 c0] H fun v _ => v = .bool true := by
  obtain ⟨sv, hsv, hacts, hlen⟩ := acts_of R0
  rw [hsv]
  refine AX.body (n := 151) (rs := [.tmp 2]) Try.func4 rfl (by decide) rfl rfl (bC_sound _ _ _ _ ?_)
  (try (conv => whnf)); (repeat (first | (refine Ob.of (by first | with_reducible assumption | with_reducible exact ex20 _ _ | with_reducible exact ex21 _ _ | with_reducible exact ex30 _ _ _ | with_reducible exact ex31 _ _ _ | with_reducible exact ex32 _ _ _ | rfl | (exact ald rfl rfl (by assumption) rfl) | (exact ald_agg rfl rfl rfl (by assumption) rfl)) ?_; (conv => whnf)) | (refine bIf.yes (by first | assumption | rfl) ?_; (conv => whnf)) | (refine bIf.no (by first | assumption | rfl) ?_; (conv => whnf))))
  refine (new_ax H).mono ?_
  rintro _ H1 ⟨p, rfl, hp, d, g1⟩
  have hd : Has9 H1 p [] 0 := ⟨[], d, rfl, Nat.le_refl _⟩
  (try (conv => whnf)); (repeat (first | (refine Ob.of (by first | with_reducible assumption | with_reducible exact ex20 _ _ | with_reducible exact ex21 _ _ | with_reducible exact ex30 _ _ _ | with_reducible exact ex31 _ _ _ | with_reducible exact ex32 _ _ _ | rfl | (exact ald rfl rfl (by assumption) rfl) | (exact ald_agg rfl rfl rfl (by assumption) rfl)) ?_; (conv => whnf)) | (refine bIf.yes (by first | assumption | rfl) ?_; (conv => whnf)) | (refine bIf.no (by first | assumption | rfl) ?_; (conv => whnf))))
  refine SW.loop (α := Nat × List (ByteArray × V)) (fun x => [(0, sv), (3, ptr p), (4, .int .i64 (x.2.length : Int)), (5, .int .i64 (x.1 : Int))]) (fun x H3 => x.1 ≤ 80 ∧ Has9 H3 p x.2 x.1 ∧ Acts H3 sv x0) (fun x => 80 - x.1)
    ⟨(0, []), ⟨rfl, rfl, rfl, rfl, trivial⟩, Nat.zero_le _, hd, hacts.g g1⟩ ?_
  rintro ⟨k, L⟩ H3 ⟨a1, a2, a4⟩
  simp only at a1 a2
  refine bC_sound _ _ _ _ ?_
  have w1 : IntKind.i64.wrap ((k : Int) + 1) = ((k + 1 : Nat) : Int) := wrap_nat (by omega)
  have hl3 := hlen H3
  have hLl := a2.len
  have hu := a2.uniq
  have fin : ∀ (H' : Heap) (M : List (ByteArray × V)) (z : Int), z = (M.length : Int) → Has9 H' p M (k + 1) → Acts H' sv x0 → k < 80 →
      ∃ y : Nat × List (ByteArray × V), Has [(0, sv), (3, ptr p), (4, Value.int .i64 z), (5, Value.int .i64 (IntKind.i64.wrap ((k : Int) + 1)))] [(0, sv), (3, ptr p), (4, .int .i64 (y.2.length : Int)), (5, .int .i64 (y.1 : Int))] ∧ (y.1 ≤ 80 ∧ Has9 H' p y.2 y.1 ∧ Acts H' sv x0) ∧ 80 - y.1 < 80 - k := by
    intro H' M z hz h1 h2 h3
    exact ⟨(k + 1, M), ⟨rfl, rfl, congrArg (fun z => some (Value.int .i64 z)) hz, congrArg (fun z => some (Value.int .i64 z)) w1, trivial⟩, ⟨by show k + 1 ≤ 80; omega, h1, h2⟩, by show 80 - (k + 1) < 80 - k; omega⟩
  by_cases hk : k < x0.length ∧ k < 80
  · have d1 : decide ((k : Int) < (x0.length : Int)) = true := decide_eq_true (by omega)
    have d2 : decide ((k : Int) < 80) = true := decide_eq_true (by omega)
    obtain ⟨⟨dd, n, v⟩, hx⟩ : ∃ x, x0[k]? = some x := ⟨_, List.getElem?_eq_getElem hk.1⟩
    obtain ⟨b, i1, i2, i3, i4, i5⟩ := a4.fld hx
    (try (conv => whnf)); (repeat (first | (refine Ob.of (by first | with_reducible assumption | with_reducible exact ex20 _ _ | with_reducible exact ex21 _ _ | with_reducible exact ex30 _ _ _ | with_reducible exact ex31 _ _ _ | with_reducible exact ex32 _ _ _ | rfl | (exact ald rfl rfl (by assumption) rfl) | (exact ald_agg rfl rfl rfl (by assumption) rfl)) ?_; (conv => whnf)) | (refine bIf.yes (by first | assumption | rfl) ?_; (conv => whnf)) | (refine bIf.no (by first | assumption | rfl) ?_; (conv => whnf))))
    refine (long_ax H3 dd n v).mono ?_
    rintro _ X ⟨rfl, e⟩
    subst X
    cases hlong : (decide ((n.size : Int) > 300) || decide ((v.2.2.size : Int) > 300)) with
    | true =>
      (try (conv => whnf)); (repeat (first | (refine Ob.of (by first | with_reducible assumption | with_reducible exact ex20 _ _ | with_reducible exact ex21 _ _ | with_reducible exact ex30 _ _ _ | with_reducible exact ex31 _ _ _ | with_reducible exact ex32 _ _ _ | rfl | (exact ald rfl rfl (by assumption) rfl) | (exact ald_agg rfl rfl rfl (by assumption) rfl)) ?_; (conv => whnf)) | (refine bIf.yes (by first | assumption | rfl) ?_; (conv => whnf)) | (refine bIf.no (by first | assumption | rfl) ?_; (conv => whnf))))
      refine (works_ax H3).mono ?_
      rintro _ X ⟨rfl, e⟩
      (try (conv => whnf)); (repeat (first | (refine Ob.of (by first | with_reducible assumption | with_reducible exact ex20 _ _ | with_reducible exact ex21 _ _ | with_reducible exact ex30 _ _ _ | with_reducible exact ex31 _ _ _ | with_reducible exact ex32 _ _ _ | rfl | (exact ald rfl rfl (by assumption) rfl) | (exact ald_agg rfl rfl rfl (by assumption) rfl)) ?_; (conv => whnf)) | (refine bIf.yes (by first | assumption | rfl) ?_; (conv => whnf)) | (refine bIf.no (by first | assumption | rfl) ?_; (conv => whnf))))
      rfl
    | false =>
      (try (conv => whnf)); (repeat (first | (refine Ob.of (by first | with_reducible assumption | with_reducible exact ex20 _ _ | with_reducible exact ex21 _ _ | with_reducible exact ex30 _ _ _ | with_reducible exact ex31 _ _ _ | with_reducible exact ex32 _ _ _ | rfl | (exact ald rfl rfl (by assumption) rfl) | (exact ald_agg rfl rfl rfl (by assumption) rfl)) ?_; (conv => whnf)) | (refine bIf.yes (by first | assumption | rfl) ?_; (conv => whnf)) | (refine bIf.no (by first | assumption | rfl) ?_; (conv => whnf))))
      refine (len9 a2).mono ?_
      rintro _ X ⟨rfl, e⟩
      subst X
      (try (conv => whnf)); (repeat (first | (refine Ob.of (by first | with_reducible assumption | with_reducible exact ex20 _ _ | with_reducible exact ex21 _ _ | with_reducible exact ex30 _ _ _ | with_reducible exact ex31 _ _ _ | with_reducible exact ex32 _ _ _ | rfl | (exact ald rfl rfl (by assumption) rfl) | (exact ald_agg rfl rfl rfl (by assumption) rfl)) ?_; (conv => whnf)) | (refine bIf.yes (by first | assumption | rfl) ?_; (conv => whnf)) | (refine bIf.no (by first | assumption | rfl) ?_; (conv => whnf))))
      refine Ob.of i2 ?_
      by_cases h0 : dd = 0
      · have e0 : (dd == 0) = true := by rw [beq_iff_eq]; exact h0
        (try (conv => whnf)); (repeat (first | (refine Ob.of (by first | with_reducible assumption | with_reducible exact ex20 _ _ | with_reducible exact ex21 _ _ | with_reducible exact ex30 _ _ _ | with_reducible exact ex31 _ _ _ | with_reducible exact ex32 _ _ _ | rfl | (exact ald rfl rfl (by assumption) rfl) | (exact ald_agg rfl rfl rfl (by assumption) rfl)) ?_; (conv => whnf)) | (refine bIf.yes (by first | assumption | rfl) ?_; (conv => whnf)) | (refine bIf.no (by first | assumption | rfl) ?_; (conv => whnf))))
        apply SW.draw4 [([], [43, 44, 45, 46, 47, 48, 49, 50, 51, 52], 0, 0, false), ([], [42, 44, 48, 49, 50, 51, 52], 0, 0, false), ([], [42, 43, 48, 49, 50, 51, 52], 0, 0, false), ([(43, 1), (44, 2)], [42, 43, 44, 48, 49, 50, 51, 52], 0, 0, false), ([(43, 1), (44, 2), (45, 3)], [42, 43, 44, 45, 48, 49, 50, 51, 52], 0, 0, false), ([(43, 1), (44, 2), (45, 3), (46, 4)], [42, 43, 44, 45, 46, 48, 49, 50, 51, 52], 0, 0, false), ([], [42, 43, 44, 45, 46, 47, 49], 0, 0, false), ([], [42, 43, 44, 45, 46, 47, 48], 0, 0, false), ([(48, 6), (49, 7)], [42, 43, 44, 45, 46, 47, 48, 49], 0, 0, false), ([(48, 6), (49, 7), (50, 8)], [42, 43, 44, 45, 46, 47, 48, 49, 50], 0, 0, false), ([(48, 6), (49, 7), (50, 8), (51, 9)], [42, 43, 44, 45, 46, 47, 48, 49, 50, 51], 0, 0, false), ([(42, 0), (43, 1), (44, 2), (45, 3), (46, 4), (47, 5), (48, 6), (49, 7), (50, 8), (51, 9), (52, 10)], [42, 43, 44, 45, 46, 47, 48, 49, 50, 51, 52], 0, 0, true)]
          [(42, 0), (43, 1), (44, 2), (45, 3), (46, 4), (47, 5), (48, 6), (49, 7), (50, 8), (51, 9), (52, 10), (53, 11)] 1
          [(0, _), (3, _), (4, _), (5, _), (6, _)] [_, _, _, _, _, _, _, _, _, _, _, _] [fun K => K = H3, fun K => Has9 K p (setL L n v) (k + 1) ∧ FrD p H3 K] rfl (by kernel_rfl)
        case hF => exact ⟨rfl, rfl, rfl, rfl, rfl, trivial⟩
        case h0 => exact rfl
        case steps =>
          (try (conv => whnf)); repeat' (first | ((with_reducible refine Ob.of i1 ?_); (conv => whnf)) | (intro K hK; rw [show K = H3 from hK]; (conv => whnf)) | (intro K hK; obtain ⟨x1, x2⟩ : Has9 K p (setL L n v) (k + 1) ∧ FrD p H3 K := hK; (conv => whnf)) | (refine Ob.of i3 ?_; (conv => whnf)) | (refine Ob.of i4 ?_; (conv => whnf)) | (refine (set9 a2 (by omega) n v).mono ?_; rintro _ X ⟨rfl, z1, z2⟩; exact LeafM.mk rfl ⟨z1, z2⟩) | (refine And.intro ?_ ?_ <;> (conv => whnf)) | exact Leaf.mk rfl rfl | exact True.intro | (refine Ob.of rfl ?_; (conv => whnf)) | (refine Ob2.of (by rfl) ?_; (conv => whnf)) | (first | (refine Ob.of (by first | with_reducible assumption | with_reducible exact ex20 _ _ | with_reducible exact ex21 _ _ | with_reducible exact ex30 _ _ _ | with_reducible exact ex31 _ _ _ | with_reducible exact ex32 _ _ _ | rfl | (exact ald rfl rfl (by assumption) rfl) | (exact ald_agg rfl rfl rfl (by assumption) rfl)) ?_; (conv => whnf)) | (refine bIf.yes (by first | assumption | rfl) ?_; (conv => whnf)) | (refine bIf.no (by first | assumption | rfl) ?_; (conv => whnf))))
        rintro H4 ⟨x1, x2⟩
        have a5 := a4.d x2 a2.var
        obtain ⟨b', j1, j2, j3, j4, j5⟩ := a5.fld hx
        obtain ⟨gs1, gs2⟩ := get_set hu n v
        have hgv : getV (setL L n v) n = .tuple #[valV v, .bool true] := by unfold getV; rw [gs1, gs2]; rfl
        have LE : abin Try.prog .neq 32 (valV v) (valV v) = some (.bool false) := by rw [val_neq, vEq_self]; rfl
        cases hi : (idxOf L n).isNone with
        | true =>
          have hsl : setL L n v = L ++ [(n, v)] := by
            unfold setL
            cases hix : idxOf L n with
            | none => rfl
            | some j => rw [hix] at hi; cases hi
          have wl : IntKind.i64.wrap ((L.length : Int) + 1) = ((setL L n v).length : Int) := by rw [hsl, wrap_nat (by omega)]; simp
          have hkv : keyV (setL L n v) (L.length : Int) = .tuple #[.string n, .bool true] := by
            show (if _ then _ else _) = _
            rw [if_pos (by omega), hsl]
            simp
          have t1 : (n != n) = false := by show (!(n == n)) = false; rw [ba_beq]; simp
          (try (conv => whnf)); (repeat (first | (refine Ob.of (by first | with_reducible assumption | with_reducible exact ex20 _ _ | with_reducible exact ex21 _ _ | with_reducible exact ex30 _ _ _ | with_reducible exact ex31 _ _ _ | with_reducible exact ex32 _ _ _ | rfl | (exact ald rfl rfl (by assumption) rfl) | (exact ald_agg rfl rfl rfl (by assumption) rfl)) ?_; (conv => whnf)) | (refine bIf.yes (by first | assumption | rfl) ?_; (conv => whnf)) | (refine bIf.no (by first | assumption | rfl) ?_; (conv => whnf))))
          refine (key9 x1 (by omega) (L.length : Int)).mono ?_
          rintro rv X ⟨hrv, e⟩
          subst X
          rw [hkv] at hrv
          subst hrv
          (try (conv => whnf)); (repeat (first | (refine Ob.of (by first | with_reducible assumption | with_reducible exact ex20 _ _ | with_reducible exact ex21 _ _ | with_reducible exact ex30 _ _ _ | with_reducible exact ex31 _ _ _ | with_reducible exact ex32 _ _ _ | rfl | (exact ald rfl rfl (by assumption) rfl) | (exact ald_agg rfl rfl rfl (by assumption) rfl)) ?_; (conv => whnf)) | (refine bIf.yes (by first | assumption | rfl) ?_; (conv => whnf)) | (refine bIf.no (by first | assumption | rfl) ?_; (conv => whnf))))
          refine Ob.of j3 ?_
          (try (conv => whnf)); (repeat (first | (refine Ob.of (by first | with_reducible assumption | with_reducible exact ex20 _ _ | with_reducible exact ex21 _ _ | with_reducible exact ex30 _ _ _ | with_reducible exact ex31 _ _ _ | with_reducible exact ex32 _ _ _ | rfl | (exact ald rfl rfl (by assumption) rfl) | (exact ald_agg rfl rfl rfl (by assumption) rfl)) ?_; (conv => whnf)) | (refine bIf.yes (by first | assumption | rfl) ?_; (conv => whnf)) | (refine bIf.no (by first | assumption | rfl) ?_; (conv => whnf))))
          refine Ob.of j3 ?_
          (try (conv => whnf)); (repeat (first | (refine Ob.of (by first | with_reducible assumption | with_reducible exact ex20 _ _ | with_reducible exact ex21 _ _ | with_reducible exact ex30 _ _ _ | with_reducible exact ex31 _ _ _ | with_reducible exact ex32 _ _ _ | rfl | (exact ald rfl rfl (by assumption) rfl) | (exact ald_agg rfl rfl rfl (by assumption) rfl)) ?_; (conv => whnf)) | (refine bIf.yes (by first | assumption | rfl) ?_; (conv => whnf)) | (refine bIf.no (by first | assumption | rfl) ?_; (conv => whnf))))
          refine (get9 x1 n).mono ?_
          rintro rv X ⟨hrv, e⟩
          subst X
          rw [hgv] at hrv
          subst hrv
          (try (conv => whnf)); (repeat (first | (refine Ob.of (by first | with_reducible assumption | with_reducible exact ex20 _ _ | with_reducible exact ex21 _ _ | with_reducible exact ex30 _ _ _ | with_reducible exact ex31 _ _ _ | with_reducible exact ex32 _ _ _ | rfl | (exact ald rfl rfl (by assumption) rfl) | (exact ald_agg rfl rfl rfl (by assumption) rfl)) ?_; (conv => whnf)) | (refine bIf.yes (by first | assumption | rfl) ?_; (conv => whnf)) | (refine bIf.no (by first | assumption | rfl) ?_; (conv => whnf))))
          refine Ob2.alloc rfl fun q H5 hq m1 m2 => ?_
          (try (conv => whnf)); (repeat (first | (refine Ob.of (by first | with_reducible assumption | with_reducible exact ex20 _ _ | with_reducible exact ex21 _ _ | with_reducible exact ex30 _ _ _ | with_reducible exact ex31 _ _ _ | with_reducible exact ex32 _ _ _ | rfl | (exact ald rfl rfl (by assumption) rfl) | (exact ald_agg rfl rfl rfl (by assumption) rfl)) ?_; (conv => whnf)) | (refine bIf.yes (by first | assumption | rfl) ?_; (conv => whnf)) | (refine bIf.no (by first | assumption | rfl) ?_; (conv => whnf))))
          refine Ob.store rfl rfl rfl m1 rfl (by first | exact Nat.le_of_ble_eq_true rfl | simp) fun H6 s1 s2 s3 => ?_
          have g6 : Grow H4 H6 := m2.but_new s2 (by omega)
          obtain ⟨b6, l1, l2, l3, l4, l5⟩ := (a5.g g6).fld hx
          have LA : aload Try.prog 32 (.pointer (some ⟨q, 0, none⟩)) H6 = some (valV v) := ald_agg rfl rfl rfl (hblk_of s1) rfl
          (try (conv => whnf)); (repeat (first | (refine Ob.of (by first | with_reducible assumption | with_reducible exact ex20 _ _ | with_reducible exact ex21 _ _ | with_reducible exact ex30 _ _ _ | with_reducible exact ex31 _ _ _ | with_reducible exact ex32 _ _ _ | rfl | (exact ald rfl rfl (by assumption) rfl) | (exact ald_agg rfl rfl rfl (by assumption) rfl)) ?_; (conv => whnf)) | (refine bIf.yes (by first | assumption | rfl) ?_; (conv => whnf)) | (refine bIf.no (by first | assumption | rfl) ?_; (conv => whnf))))
          apply SW.draw2 [([], [], 0, 0, false), ([(83, 0)], [83], 0, 0, false), ([(83, 0), (84, 1)], [83, 84], 0, 0, false), ([(83, 0), (84, 1), (85, 2)], [83, 84, 85, 87, 88, 89, 90, 91], 0, 0, false), ([(83, 0), (84, 1), (85, 2)], [83, 84, 85, 86, 88], 0, 0, false), ([(83, 0), (84, 1), (85, 2)], [83, 84, 85, 86, 87], 0, 0, false), ([(83, 0), (84, 1), (85, 2), (87, 4), (88, 5)], [83, 84, 85, 86, 87, 88], 0, 0, false), ([(83, 0), (84, 1), (85, 2), (87, 4), (88, 5), (89, 6)], [83, 84, 85, 86, 87, 88, 89], 0, 0, false), ([(83, 0), (84, 1), (85, 2), (87, 4), (88, 5), (89, 6), (90, 7)], [83, 84, 85, 86, 87, 88, 89, 90], 0, 0, false), ([(83, 0), (84, 1), (85, 2), (86, 3), (87, 4), (88, 5), (89, 6), (90, 7), (91, 8)], [83, 84, 85, 86, 87, 88, 89, 90, 91], 0, 0, false), ([(83, 0), (84, 1), (85, 2), (86, 3), (87, 4), (88, 5), (89, 6), (90, 7), (91, 8), (92, 9)], [83, 84, 85, 86, 87, 88, 89, 90, 91, 92], 0, 0, false)]
            [(83, 0), (84, 1), (85, 2), (86, 3), (87, 4), (88, 5), (89, 6), (90, 7), (91, 8), (92, 9), (93, 10)] 0
            [(0, _), (3, _), (4, _), (5, _), (9, _), (10, _)] [_, _, _, _, _, _, _, _, _, _, _] [H6] rfl (by kernel_rfl)
          case hF => exact ⟨rfl, rfl, rfl, rfl, rfl, rfl, trivial⟩
          case h0 => rfl
          case steps =>
            (try (conv => whnf)); repeat' (first | ((with_reducible refine Ob.of LA ?_); (conv => whnf)) | ((with_reducible refine Ob.of l1 ?_); (conv => whnf)) | ((with_reducible refine Ob.of LE ?_); (conv => whnf)) | ((with_reducible refine Ob2.of LA ?_); (conv => whnf)) | ((with_reducible refine Ob2.of l1 ?_); (conv => whnf)) | ((with_reducible refine Ob2.of LE ?_); (conv => whnf)) | (refine And.intro ?_ ?_ <;> (conv => whnf)) | exact Leaf.mk rfl rfl | exact True.intro | (refine Ob.of l4 ?_; (conv => whnf)) | (refine Ob.of rfl ?_; (conv => whnf)) | (refine Ob2.of (by rfl) ?_; (conv => whnf)) | (first | (refine Ob.of (by first | with_reducible assumption | with_reducible exact ex20 _ _ | with_reducible exact ex21 _ _ | with_reducible exact ex30 _ _ _ | with_reducible exact ex31 _ _ _ | with_reducible exact ex32 _ _ _ | rfl | (exact ald rfl rfl (by assumption) rfl) | (exact ald_agg rfl rfl rfl (by assumption) rfl)) ?_; (conv => whnf)) | (refine bIf.yes (by first | assumption | rfl) ?_; (conv => whnf)) | (refine bIf.no (by first | assumption | rfl) ?_; (conv => whnf))))
          (try (conv => whnf)); (repeat (first | (refine Ob.of (by first | with_reducible assumption | with_reducible exact ex20 _ _ | with_reducible exact ex21 _ _ | with_reducible exact ex30 _ _ _ | with_reducible exact ex31 _ _ _ | with_reducible exact ex32 _ _ _ | rfl | (exact ald rfl rfl (by assumption) rfl) | (exact ald_agg rfl rfl rfl (by assumption) rfl)) ?_; (conv => whnf)) | (refine bIf.yes (by first | assumption | rfl) ?_; (conv => whnf)) | (refine bIf.no (by first | assumption | rfl) ?_; (conv => whnf))))
          obtain ⟨y, ⟨y1, y2, y3, y4, _⟩, y5⟩ := fin H6 (setL L n v) _ wl (x1.grow g6) (a5.g g6) hk.2
          exact ⟨y, ⟨y1, y2, y3, y4, trivial⟩, y5⟩
        | false =>
          have wl : (L.length : Int) = ((setL L n v).length : Int) := by rw [set_len, hi]; simp
          (try (conv => whnf)); (repeat (first | (refine Ob.of (by first | with_reducible assumption | with_reducible exact ex20 _ _ | with_reducible exact ex21 _ _ | with_reducible exact ex30 _ _ _ | with_reducible exact ex31 _ _ _ | with_reducible exact ex32 _ _ _ | rfl | (exact ald rfl rfl (by assumption) rfl) | (exact ald_agg rfl rfl rfl (by assumption) rfl)) ?_; (conv => whnf)) | (refine bIf.yes (by first | assumption | rfl) ?_; (conv => whnf)) | (refine bIf.no (by first | assumption | rfl) ?_; (conv => whnf))))
          refine Ob.of j3 ?_
          (try (conv => whnf)); (repeat (first | (refine Ob.of (by first | with_reducible assumption | with_reducible exact ex20 _ _ | with_reducible exact ex21 _ _ | with_reducible exact ex30 _ _ _ | with_reducible exact ex31 _ _ _ | with_reducible exact ex32 _ _ _ | rfl | (exact ald rfl rfl (by assumption) rfl) | (exact ald_agg rfl rfl rfl (by assumption) rfl)) ?_; (conv => whnf)) | (refine bIf.yes (by first | assumption | rfl) ?_; (conv => whnf)) | (refine bIf.no (by first | assumption | rfl) ?_; (conv => whnf))))
          refine (get9 x1 n).mono ?_
          rintro rv X ⟨hrv, e⟩
          subst X
          rw [hgv] at hrv
          subst hrv
          (try (conv => whnf)); (repeat (first | (refine Ob.of (by first | with_reducible assumption | with_reducible exact ex20 _ _ | with_reducible exact ex21 _ _ | with_reducible exact ex30 _ _ _ | with_reducible exact ex31 _ _ _ | with_reducible exact ex32 _ _ _ | rfl | (exact ald rfl rfl (by assumption) rfl) | (exact ald_agg rfl rfl rfl (by assumption) rfl)) ?_; (conv => whnf)) | (refine bIf.yes (by first | assumption | rfl) ?_; (conv => whnf)) | (refine bIf.no (by first | assumption | rfl) ?_; (conv => whnf))))
          refine Ob2.alloc rfl fun q H5 hq m1 m2 => ?_
          (try (conv => whnf)); (repeat (first | (refine Ob.of (by first | with_reducible assumption | with_reducible exact ex20 _ _ | with_reducible exact ex21 _ _ | with_reducible exact ex30 _ _ _ | with_reducible exact ex31 _ _ _ | with_reducible exact ex32 _ _ _ | rfl | (exact ald rfl rfl (by assumption) rfl) | (exact ald_agg rfl rfl rfl (by assumption) rfl)) ?_; (conv => whnf)) | (refine bIf.yes (by first | assumption | rfl) ?_; (conv => whnf)) | (refine bIf.no (by first | assumption | rfl) ?_; (conv => whnf))))
          refine Ob.store rfl rfl rfl m1 rfl (by first | exact Nat.le_of_ble_eq_true rfl | simp) fun H6 s1 s2 s3 => ?_
          have g6 : Grow H4 H6 := m2.but_new s2 (by omega)
          obtain ⟨b6, l1, l2, l3, l4, l5⟩ := (a5.g g6).fld hx
          have LA : aload Try.prog 32 (.pointer (some ⟨q, 0, none⟩)) H6 = some (valV v) := ald_agg rfl rfl rfl (hblk_of s1) rfl
          (try (conv => whnf)); (repeat (first | (refine Ob.of (by first | with_reducible assumption | with_reducible exact ex20 _ _ | with_reducible exact ex21 _ _ | with_reducible exact ex30 _ _ _ | with_reducible exact ex31 _ _ _ | with_reducible exact ex32 _ _ _ | rfl | (exact ald rfl rfl (by assumption) rfl) | (exact ald_agg rfl rfl rfl (by assumption) rfl)) ?_; (conv => whnf)) | (refine bIf.yes (by first | assumption | rfl) ?_; (conv => whnf)) | (refine bIf.no (by first | assumption | rfl) ?_; (conv => whnf))))
          apply SW.draw2 [([], [], 0, 0, false), ([(83, 0)], [83], 0, 0, false), ([(83, 0), (84, 1)], [83, 84], 0, 0, false), ([(83, 0), (84, 1), (85, 2)], [83, 84, 85, 87, 88, 89, 90, 91], 0, 0, false), ([(83, 0), (84, 1), (85, 2)], [83, 84, 85, 86, 88], 0, 0, false), ([(83, 0), (84, 1), (85, 2)], [83, 84, 85, 86, 87], 0, 0, false), ([(83, 0), (84, 1), (85, 2), (87, 4), (88, 5)], [83, 84, 85, 86, 87, 88], 0, 0, false), ([(83, 0), (84, 1), (85, 2), (87, 4), (88, 5), (89, 6)], [83, 84, 85, 86, 87, 88, 89], 0, 0, false), ([(83, 0), (84, 1), (85, 2), (87, 4), (88, 5), (89, 6), (90, 7)], [83, 84, 85, 86, 87, 88, 89, 90], 0, 0, false), ([(83, 0), (84, 1), (85, 2), (86, 3), (87, 4), (88, 5), (89, 6), (90, 7), (91, 8)], [83, 84, 85, 86, 87, 88, 89, 90, 91], 0, 0, false), ([(83, 0), (84, 1), (85, 2), (86, 3), (87, 4), (88, 5), (89, 6), (90, 7), (91, 8), (92, 9)], [83, 84, 85, 86, 87, 88, 89, 90, 91, 92], 0, 0, false)]
            [(83, 0), (84, 1), (85, 2), (86, 3), (87, 4), (88, 5), (89, 6), (90, 7), (91, 8), (92, 9), (93, 10)] 0
            [(0, _), (3, _), (4, _), (5, _), (9, _), (10, _)] [_, _, _, _, _, _, _, _, _, _, _] [H6] rfl (by kernel_rfl)
          case hF => exact ⟨rfl, rfl, rfl, rfl, rfl, rfl, trivial⟩
          case h0 => rfl
          case steps =>
            (try (conv => whnf)); repeat' (first | ((with_reducible refine Ob.of LA ?_); (conv => whnf)) | ((with_reducible refine Ob.of l1 ?_); (conv => whnf)) | ((with_reducible refine Ob.of LE ?_); (conv => whnf)) | ((with_reducible refine Ob2.of LA ?_); (conv => whnf)) | ((with_reducible refine Ob2.of l1 ?_); (conv => whnf)) | ((with_reducible refine Ob2.of LE ?_); (conv => whnf)) | (refine And.intro ?_ ?_ <;> (conv => whnf)) | exact Leaf.mk rfl rfl | exact True.intro | (refine Ob.of l4 ?_; (conv => whnf)) | (refine Ob.of rfl ?_; (conv => whnf)) | (refine Ob2.of (by rfl) ?_; (conv => whnf)) | (first | (refine Ob.of (by first | with_reducible assumption | with_reducible exact ex20 _ _ | with_reducible exact ex21 _ _ | with_reducible exact ex30 _ _ _ | with_reducible exact ex31 _ _ _ | with_reducible exact ex32 _ _ _ | rfl | (exact ald rfl rfl (by assumption) rfl) | (exact ald_agg rfl rfl rfl (by assumption) rfl)) ?_; (conv => whnf)) | (refine bIf.yes (by first | assumption | rfl) ?_; (conv => whnf)) | (refine bIf.no (by first | assumption | rfl) ?_; (conv => whnf))))
          (try (conv => whnf)); (repeat (first | (refine Ob.of (by first | with_reducible assumption | with_reducible exact ex20 _ _ | with_reducible exact ex21 _ _ | with_reducible exact ex30 _ _ _ | with_reducible exact ex31 _ _ _ | with_reducible exact ex32 _ _ _ | rfl | (exact ald rfl rfl (by assumption) rfl) | (exact ald_agg rfl rfl rfl (by assumption) rfl)) ?_; (conv => whnf)) | (refine bIf.yes (by first | assumption | rfl) ?_; (conv => whnf)) | (refine bIf.no (by first | assumption | rfl) ?_; (conv => whnf))))
          obtain ⟨y, ⟨y1, y2, y3, y4, _⟩, y5⟩ := fin H6 (setL L n v) _ wl (x1.grow g6) (a5.g g6) hk.2
          exact ⟨y, ⟨y1, y2, y3, y4, trivial⟩, y5⟩
      have e0 : (dd == 0) = false := by rw [beq_eq_false_iff_ne]; exact h0
      by_cases h1 : dd = 1
      · have e1 : (dd == 1) = true := by rw [beq_iff_eq]; exact h1
        (try (conv => whnf)); (repeat (first | (refine Ob.of (by first | with_reducible assumption | with_reducible exact ex20 _ _ | with_reducible exact ex21 _ _ | with_reducible exact ex30 _ _ _ | with_reducible exact ex31 _ _ _ | with_reducible exact ex32 _ _ _ | rfl | (exact ald rfl rfl (by assumption) rfl) | (exact ald_agg rfl rfl rfl (by assumption) rfl)) ?_; (conv => whnf)) | (refine bIf.yes (by first | assumption | rfl) ?_; (conv => whnf)) | (refine bIf.no (by first | assumption | rfl) ?_; (conv => whnf))))
        refine Ob.of i3 ?_
        (try (conv => whnf)); (repeat (first | (refine Ob.of (by first | with_reducible assumption | with_reducible exact ex20 _ _ | with_reducible exact ex21 _ _ | with_reducible exact ex30 _ _ _ | with_reducible exact ex31 _ _ _ | with_reducible exact ex32 _ _ _ | rfl | (exact ald rfl rfl (by assumption) rfl) | (exact ald_agg rfl rfl rfl (by assumption) rfl)) ?_; (conv => whnf)) | (refine bIf.yes (by first | assumption | rfl) ?_; (conv => whnf)) | (refine bIf.no (by first | assumption | rfl) ?_; (conv => whnf))))
        refine (delete9 a2 (by omega) n).mono ?_
        rintro _ H4 ⟨rfl, x1, x2⟩
        have a5 := a4.d x2 a2.var
        obtain ⟨b', j1, j2, j3, j4, j5⟩ := a5.fld hx
        have gd := get_del hu n
        have hgv : getV (delL L n) n = .tuple #[valV zeroV, .bool false] := by
          unfold getV
          rw [gd]
          cases hix : idxOf (delL L n) n with
          | none => rw [get_of_idx, hix]; rfl
          | some j => rw [hix] at gd; cases gd
        have key : ∀ z : Int, z = ((delL L n).length : Int) → ∀ (H' : Heap), Grow H4 H' → ∃ y : Nat × List (ByteArray × V), Has [(0, sv), (3, ptr p), (4, Value.int .i64 z), (5, Value.int .i64 (IntKind.i64.wrap ((k : Int) + 1)))] [(0, sv), (3, ptr p), (4, .int .i64 (y.2.length : Int)), (5, .int .i64 (y.1 : Int))] ∧ (y.1 ≤ 80 ∧ Has9 H' p y.2 y.1 ∧ Acts H' sv x0) ∧ 80 - y.1 < 80 - k :=
          fun z hz H' g => fin H' (delL L n) z hz ((x1.grow g).more (by omega)) (a5.g g) hk.2
        cases hi : (idxOf L n).isSome with
        | true =>
          have wl : IntKind.i64.wrap ((L.length : Int) - 1) = ((delL L n).length : Int) := by
            have := del_len hi
            rw [wrap_i64 (by omega) (by omega)]; omega
          (try (conv => whnf)); (repeat (first | (refine Ob.of (by first | with_reducible assumption | with_reducible exact ex20 _ _ | with_reducible exact ex21 _ _ | with_reducible exact ex30 _ _ _ | with_reducible exact ex31 _ _ _ | with_reducible exact ex32 _ _ _ | rfl | (exact ald rfl rfl (by assumption) rfl) | (exact ald_agg rfl rfl rfl (by assumption) rfl)) ?_; (conv => whnf)) | (refine bIf.yes (by first | assumption | rfl) ?_; (conv => whnf)) | (refine bIf.no (by first | assumption | rfl) ?_; (conv => whnf))))
          refine Ob.of j3 ?_
          (try (conv => whnf)); (repeat (first | (refine Ob.of (by first | with_reducible assumption | with_reducible exact ex20 _ _ | with_reducible exact ex21 _ _ | with_reducible exact ex30 _ _ _ | with_reducible exact ex31 _ _ _ | with_reducible exact ex32 _ _ _ | rfl | (exact ald rfl rfl (by assumption) rfl) | (exact ald_agg rfl rfl rfl (by assumption) rfl)) ?_; (conv => whnf)) | (refine bIf.yes (by first | assumption | rfl) ?_; (conv => whnf)) | (refine bIf.no (by first | assumption | rfl) ?_; (conv => whnf))))
          refine (get9 x1 n).mono ?_
          rintro rv X ⟨hrv, e⟩
          subst X
          rw [hgv] at hrv
          subst hrv
          (try (conv => whnf)); (repeat (first | (refine Ob.of (by first | with_reducible assumption | with_reducible exact ex20 _ _ | with_reducible exact ex21 _ _ | with_reducible exact ex30 _ _ _ | with_reducible exact ex31 _ _ _ | with_reducible exact ex32 _ _ _ | rfl | (exact ald rfl rfl (by assumption) rfl) | (exact ald_agg rfl rfl rfl (by assumption) rfl)) ?_; (conv => whnf)) | (refine bIf.yes (by first | assumption | rfl) ?_; (conv => whnf)) | (refine bIf.no (by first | assumption | rfl) ?_; (conv => whnf))))
          refine Ob2.alloc rfl fun q H5 hq m1 m2 => ?_
          (try (conv => whnf)); (repeat (first | (refine Ob.of (by first | with_reducible assumption | with_reducible exact ex20 _ _ | with_reducible exact ex21 _ _ | with_reducible exact ex30 _ _ _ | with_reducible exact ex31 _ _ _ | with_reducible exact ex32 _ _ _ | rfl | (exact ald rfl rfl (by assumption) rfl) | (exact ald_agg rfl rfl rfl (by assumption) rfl)) ?_; (conv => whnf)) | (refine bIf.yes (by first | assumption | rfl) ?_; (conv => whnf)) | (refine bIf.no (by first | assumption | rfl) ?_; (conv => whnf))))
          refine Ob.store rfl rfl rfl m1 rfl (by first | exact Nat.le_of_ble_eq_true rfl | simp) fun H6 s1 s2 s3 => ?_
          have g6 : Grow H4 H6 := m2.but_new s2 (by omega)
          (try (conv => whnf)); (repeat (first | (refine Ob.of (by first | with_reducible assumption | with_reducible exact ex20 _ _ | with_reducible exact ex21 _ _ | with_reducible exact ex30 _ _ _ | with_reducible exact ex31 _ _ _ | with_reducible exact ex32 _ _ _ | rfl | (exact ald rfl rfl (by assumption) rfl) | (exact ald_agg rfl rfl rfl (by assumption) rfl)) ?_; (conv => whnf)) | (refine bIf.yes (by first | assumption | rfl) ?_; (conv => whnf)) | (refine bIf.no (by first | assumption | rfl) ?_; (conv => whnf))))
          obtain ⟨y, ⟨y1, y2, y3, y4, _⟩, y5⟩ := key _ wl H6 g6
          exact ⟨y, ⟨y1, y2, y3, y4, trivial⟩, y5⟩
        | false =>
          have wl : (L.length : Int) = ((delL L n).length : Int) := by rw [del_len0 hi]
          (try (conv => whnf)); (repeat (first | (refine Ob.of (by first | with_reducible assumption | with_reducible exact ex20 _ _ | with_reducible exact ex21 _ _ | with_reducible exact ex30 _ _ _ | with_reducible exact ex31 _ _ _ | with_reducible exact ex32 _ _ _ | rfl | (exact ald rfl rfl (by assumption) rfl) | (exact ald_agg rfl rfl rfl (by assumption) rfl)) ?_; (conv => whnf)) | (refine bIf.yes (by first | assumption | rfl) ?_; (conv => whnf)) | (refine bIf.no (by first | assumption | rfl) ?_; (conv => whnf))))
          refine Ob.of j3 ?_
          (try (conv => whnf)); (repeat (first | (refine Ob.of (by first | with_reducible assumption | with_reducible exact ex20 _ _ | with_reducible exact ex21 _ _ | with_reducible exact ex30 _ _ _ | with_reducible exact ex31 _ _ _ | with_reducible exact ex32 _ _ _ | rfl | (exact ald rfl rfl (by assumption) rfl) | (exact ald_agg rfl rfl rfl (by assumption) rfl)) ?_; (conv => whnf)) | (refine bIf.yes (by first | assumption | rfl) ?_; (conv => whnf)) | (refine bIf.no (by first | assumption | rfl) ?_; (conv => whnf))))
          refine (get9 x1 n).mono ?_
          rintro rv X ⟨hrv, e⟩
          subst X
          rw [hgv] at hrv
          subst hrv
          (try (conv => whnf)); (repeat (first | (refine Ob.of (by first | with_reducible assumption | with_reducible exact ex20 _ _ | with_reducible exact ex21 _ _ | with_reducible exact ex30 _ _ _ | with_reducible exact ex31 _ _ _ | with_reducible exact ex32 _ _ _ | rfl | (exact ald rfl rfl (by assumption) rfl) | (exact ald_agg rfl rfl rfl (by assumption) rfl)) ?_; (conv => whnf)) | (refine bIf.yes (by first | assumption | rfl) ?_; (conv => whnf)) | (refine bIf.no (by first | assumption | rfl) ?_; (conv => whnf))))
          refine Ob2.alloc rfl fun q H5 hq m1 m2 => ?_
          (try (conv => whnf)); (repeat (first | (refine Ob.of (by first | with_reducible assumption | with_reducible exact ex20 _ _ | with_reducible exact ex21 _ _ | with_reducible exact ex30 _ _ _ | with_reducible exact ex31 _ _ _ | with_reducible exact ex32 _ _ _ | rfl | (exact ald rfl rfl (by assumption) rfl) | (exact ald_agg rfl rfl rfl (by assumption) rfl)) ?_; (conv => whnf)) | (refine bIf.yes (by first | assumption | rfl) ?_; (conv => whnf)) | (refine bIf.no (by first | assumption | rfl) ?_; (conv => whnf))))
          refine Ob.store rfl rfl rfl m1 rfl (by first | exact Nat.le_of_ble_eq_true rfl | simp) fun H6 s1 s2 s3 => ?_
          have g6 : Grow H4 H6 := m2.but_new s2 (by omega)
          (try (conv => whnf)); (repeat (first | (refine Ob.of (by first | with_reducible assumption | with_reducible exact ex20 _ _ | with_reducible exact ex21 _ _ | with_reducible exact ex30 _ _ _ | with_reducible exact ex31 _ _ _ | with_reducible exact ex32 _ _ _ | rfl | (exact ald rfl rfl (by assumption) rfl) | (exact ald_agg rfl rfl rfl (by assumption) rfl)) ?_; (conv => whnf)) | (refine bIf.yes (by first | assumption | rfl) ?_; (conv => whnf)) | (refine bIf.no (by first | assumption | rfl) ?_; (conv => whnf))))
          obtain ⟨y, ⟨y1, y2, y3, y4, _⟩, y5⟩ := key _ wl H6 g6
          exact ⟨y, ⟨y1, y2, y3, y4, trivial⟩, y5⟩
      have e1 : (dd == 1) = false := by rw [beq_eq_false_iff_ne]; exact h1
      (try (conv => whnf)); (repeat (first | (refine Ob.of (by first | with_reducible assumption | with_reducible exact ex20 _ _ | with_reducible exact ex21 _ _ | with_reducible exact ex30 _ _ _ | with_reducible exact ex31 _ _ _ | with_reducible exact ex32 _ _ _ | rfl | (exact ald rfl rfl (by assumption) rfl) | (exact ald_agg rfl rfl rfl (by assumption) rfl)) ?_; (conv => whnf)) | (refine bIf.yes (by first | assumption | rfl) ?_; (conv => whnf)) | (refine bIf.no (by first | assumption | rfl) ?_; (conv => whnf))))
      obtain ⟨y, ⟨y1, y2, y3, y4, _⟩, y5⟩ := fin H3 L _ rfl (a2.more (by omega)) a4 hk.2
      exact ⟨y, ⟨y1, y2, y3, y4, trivial⟩, y5⟩
  · have tail : ∀ (lv : Value) (H4 : Heap), Strs H4 lv (L.map Prod.fst) → Has9 H4 p L k → True := fun _ _ _ _ => trivial
    by_cases hk1 : k < x0.length
    · have d1 : decide ((k : Int) < (x0.length : Int)) = true := decide_eq_true (by omega)
      have d2 : decide ((k : Int) < 80) = false := decide_eq_false (by omega)
      (try (conv => whnf)); (repeat (first | (refine Ob.of (by first | with_reducible assumption | with_reducible exact ex20 _ _ | with_reducible exact ex21 _ _ | with_reducible exact ex30 _ _ _ | with_reducible exact ex31 _ _ _ | with_reducible exact ex32 _ _ _ | rfl | (exact ald rfl rfl (by assumption) rfl) | (exact ald_agg rfl rfl rfl (by assumption) rfl)) ?_; (conv => whnf)) | (refine bIf.yes (by first | assumption | rfl) ?_; (conv => whnf)) | (refine bIf.no (by first | assumption | rfl) ?_; (conv => whnf))))
      refine (names9 a2 (by omega)).mono ?_
      rintro lv H4 ⟨hl, g4⟩
      have ll : ∀ H', alen Try.prog 26 lv H' = some (.int .i64 (L.length : Int)) := fun H' => by have := hl.len H'; rwa [List.length_map] at this
      (try (conv => whnf)); (repeat (first | (refine Ob.of (by first | with_reducible assumption | with_reducible exact ex20 _ _ | with_reducible exact ex21 _ _ | with_reducible exact ex30 _ _ _ | with_reducible exact ex31 _ _ _ | with_reducible exact ex32 _ _ _ | rfl | (exact ald rfl rfl (by assumption) rfl) | (exact ald_agg rfl rfl rfl (by assumption) rfl)) ?_; (conv => whnf)) | (refine bIf.yes (by first | assumption | rfl) ?_; (conv => whnf)) | (refine bIf.no (by first | assumption | rfl) ?_; (conv => whnf))))
      refine SW.loop (α := Nat) (fun i => [(3, ptr p), (4, .int .i64 (L.length : Int)), (13, lv), (14, .int .i64 (i : Int))]) (fun i H5 => i ≤ L.length ∧ Grow H4 H5) (fun i => L.length - i) ⟨0, ⟨rfl, rfl, rfl, rfl, trivial⟩, Nat.zero_le _, .refl _⟩ ?_
      rintro i H5 ⟨b1, b2⟩
      refine bC_sound _ _ _ _ ?_
      have wi : IntKind.i64.wrap ((i : Int) + 1) = ((i + 1 : Nat) : Int) := wrap_nat (by omega)
      have ll5 := ll H5
      by_cases hi : i < L.length
      · have d3 : decide ((i : Int) < (L.length : Int)) = true := decide_eq_true (by omega)
        obtain ⟨xi, hxi⟩ : ∃ x, L[i]? = some x := ⟨_, List.getElem?_eq_getElem hi⟩
        (try (conv => whnf)); (repeat (first | (refine Ob.of (by first | with_reducible assumption | with_reducible exact ex20 _ _ | with_reducible exact ex21 _ _ | with_reducible exact ex30 _ _ _ | with_reducible exact ex31 _ _ _ | with_reducible exact ex32 _ _ _ | rfl | (exact ald rfl rfl (by assumption) rfl) | (exact ald_agg rfl rfl rfl (by assumption) rfl)) ?_; (conv => whnf)) | (refine bIf.yes (by first | assumption | rfl) ?_; (conv => whnf)) | (refine bIf.no (by first | assumption | rfl) ?_; (conv => whnf))))
        refine SW.loop (α := Nat) (fun j => [(3, ptr p), (4, .int .i64 (L.length : Int)), (13, lv), (14, .int .i64 (i : Int)), (15, .int .i64 (j : Int))]) (fun j H6 => j ≤ i ∧ Grow H4 H6) (fun j => i - j) ⟨0, ⟨rfl, rfl, rfl, rfl, rfl, trivial⟩, Nat.zero_le _, b2⟩ ?_
        rintro j H6 ⟨c1, c2⟩
        refine bC_sound _ _ _ _ ?_
        have wj : IntKind.i64.wrap ((j : Int) + 1) = ((j + 1 : Nat) : Int) := wrap_nat (by omega)
        by_cases hj : j < i
        · have d4 : decide ((j : Int) < (i : Int)) = true := decide_eq_true (by omega)
          obtain ⟨xj, hxj⟩ : ∃ x, L[j]? = some x := ⟨_, List.getElem?_eq_getElem (by omega)⟩
          obtain ⟨p1, n1, n2⟩ := (hl.grow c2).at (i := i) (s := xi.1) (by simp [hxi])
          obtain ⟨p2, n3, n4⟩ := (hl.grow c2).at (i := j) (s := xj.1) (by simp [hxj])
          have tn : (xj.1 == xi.1) = false := by
            rw [ba_beq, decide_eq_false]
            intro e
            have a1' : (L.map Prod.fst)[i]? = some xi.1 := by simp [hxi]
            have a2' : (L.map Prod.fst)[j]? = some xi.1 := by simp [hxj, e]
            have := (List.getElem?_inj (List.getElem?_eq_some_iff.1 a1').1 hu).1 (a1'.trans a2'.symm)
            omega
          (try (conv => whnf)); (repeat (first | (refine Ob.of (by first | with_reducible assumption | with_reducible exact ex20 _ _ | with_reducible exact ex21 _ _ | with_reducible exact ex30 _ _ _ | with_reducible exact ex31 _ _ _ | with_reducible exact ex32 _ _ _ | rfl | (exact ald rfl rfl (by assumption) rfl) | (exact ald_agg rfl rfl rfl (by assumption) rfl)) ?_; (conv => whnf)) | (refine bIf.yes (by first | assumption | rfl) ?_; (conv => whnf)) | (refine bIf.no (by first | assumption | rfl) ?_; (conv => whnf))))
          apply SW.draw2 [([], [130, 133, 134, 135, 136], 0, 0, false), ([], [129, 133, 134, 135, 136], 0, 0, false), ([(129, 0), (130, 1)], [129, 130, 133, 134, 135, 136], 0, 0, false), ([(129, 0), (130, 1), (131, 2)], [129, 130, 131, 133, 134, 135, 136], 0, 0, false), ([], [129, 130, 131, 132, 134], 0, 0, false), ([], [129, 130, 131, 132, 133], 0, 0, false), ([(133, 4), (134, 5)], [129, 130, 131, 132, 133, 134], 0, 0, false), ([(133, 4), (134, 5), (135, 6)], [129, 130, 131, 132, 133, 134, 135], 0, 0, false), ([(129, 0), (130, 1), (131, 2), (132, 3), (133, 4), (134, 5), (135, 6), (136, 7)], [129, 130, 131, 132, 133, 134, 135, 136], 0, 0, false)]
            [(129, 0), (130, 1), (131, 2), (132, 3), (133, 4), (134, 5), (135, 6), (136, 7), (137, 8)] 0
            [(3, _), (4, _), (13, _), (14, _), (15, _)] [_, _, _, _, _, _, _, _, _] [H6] rfl (by kernel_rfl)
          case hF => exact ⟨rfl, rfl, rfl, rfl, rfl, trivial⟩
          case h0 => rfl
          case steps =>
            (try (conv => whnf)); repeat' (first | ((with_reducible refine Ob.of n1 ?_); (conv => whnf)) | ((with_reducible refine Ob.of n2 ?_); (conv => whnf)) | ((with_reducible refine Ob.of n3 ?_); (conv => whnf)) | ((with_reducible refine Ob.of n4 ?_); (conv => whnf)) | ((with_reducible refine Ob2.of n1 ?_); (conv => whnf)) | ((with_reducible refine Ob2.of n2 ?_); (conv => whnf)) | ((with_reducible refine Ob2.of n3 ?_); (conv => whnf)) | ((with_reducible refine Ob2.of n4 ?_); (conv => whnf)) | (refine And.intro ?_ ?_ <;> (conv => whnf)) | exact Leaf.mk rfl rfl | exact True.intro | (refine Ob.of rfl ?_; (conv => whnf)) | (refine Ob2.of (by rfl) ?_; (conv => whnf)) | (first | (refine Ob.of (by first | with_reducible assumption | with_reducible exact ex20 _ _ | with_reducible exact ex21 _ _ | with_reducible exact ex30 _ _ _ | with_reducible exact ex31 _ _ _ | with_reducible exact ex32 _ _ _ | rfl | (exact ald rfl rfl (by assumption) rfl) | (exact ald_agg rfl rfl rfl (by assumption) rfl)) ?_; (conv => whnf)) | (refine bIf.yes (by first | assumption | rfl) ?_; (conv => whnf)) | (refine bIf.no (by first | assumption | rfl) ?_; (conv => whnf))))
          (try (conv => whnf)); (repeat (first | (refine Ob.of (by first | with_reducible assumption | with_reducible exact ex20 _ _ | with_reducible exact ex21 _ _ | with_reducible exact ex30 _ _ _ | with_reducible exact ex31 _ _ _ | with_reducible exact ex32 _ _ _ | rfl | (exact ald rfl rfl (by assumption) rfl) | (exact ald_agg rfl rfl rfl (by assumption) rfl)) ?_; (conv => whnf)) | (refine bIf.yes (by first | assumption | rfl) ?_; (conv => whnf)) | (refine bIf.no (by first | assumption | rfl) ?_; (conv => whnf))))
          exact ⟨j + 1, ⟨rfl, rfl, rfl, rfl, congrArg (fun z => some (Value.int .i64 z)) wj, trivial⟩, ⟨by omega, c2⟩, by show i - (j + 1) < i - j; omega⟩
        · have d4 : decide ((j : Int) < (i : Int)) = false := decide_eq_false (by omega)
          (try (conv => whnf)); (repeat (first | (refine Ob.of (by first | with_reducible assumption | with_reducible exact ex20 _ _ | with_reducible exact ex21 _ _ | with_reducible exact ex30 _ _ _ | with_reducible exact ex31 _ _ _ | with_reducible exact ex32 _ _ _ | rfl | (exact ald rfl rfl (by assumption) rfl) | (exact ald_agg rfl rfl rfl (by assumption) rfl)) ?_; (conv => whnf)) | (refine bIf.yes (by first | assumption | rfl) ?_; (conv => whnf)) | (refine bIf.no (by first | assumption | rfl) ?_; (conv => whnf))))
          exact ⟨i + 1, ⟨rfl, rfl, rfl, congrArg (fun z => some (Value.int .i64 z)) wi, trivial⟩, ⟨by omega, c2⟩, by show L.length - (i + 1) < L.length - i; omega⟩
      · have d3 : decide ((i : Int) < (L.length : Int)) = false := decide_eq_false (by omega)
        have te : ((L.length : Int) == (L.length : Int)) = true := by simp
        (try (conv => whnf)); (repeat (first | (refine Ob.of (by first | with_reducible assumption | with_reducible exact ex20 _ _ | with_reducible exact ex21 _ _ | with_reducible exact ex30 _ _ _ | with_reducible exact ex31 _ _ _ | with_reducible exact ex32 _ _ _ | rfl | (exact ald rfl rfl (by assumption) rfl) | (exact ald_agg rfl rfl rfl (by assumption) rfl)) ?_; (conv => whnf)) | (refine bIf.yes (by first | assumption | rfl) ?_; (conv => whnf)) | (refine bIf.no (by first | assumption | rfl) ?_; (conv => whnf))))
        refine (len9 ((a2.grow g4).grow b2)).mono ?_
        rintro _ X ⟨rfl, e⟩
        subst X
        (try (conv => whnf)); (repeat (first | (refine Ob.of (by first | with_reducible assumption | with_reducible exact ex20 _ _ | with_reducible exact ex21 _ _ | with_reducible exact ex30 _ _ _ | with_reducible exact ex31 _ _ _ | with_reducible exact ex32 _ _ _ | rfl | (exact ald rfl rfl (by assumption) rfl) | (exact ald_agg rfl rfl rfl (by assumption) rfl)) ?_; (conv => whnf)) | (refine bIf.yes (by first | assumption | rfl) ?_; (conv => whnf)) | (refine bIf.no (by first | assumption | rfl) ?_; (conv => whnf))))
        refine (works_ax H5).mono ?_
        rintro _ X ⟨rfl, e⟩
        (try (conv => whnf)); (repeat (first | (refine Ob.of (by first | with_reducible assumption | with_reducible exact ex20 _ _ | with_reducible exact ex21 _ _ | with_reducible exact ex30 _ _ _ | with_reducible exact ex31 _ _ _ | with_reducible exact ex32 _ _ _ | rfl | (exact ald rfl rfl (by assumption) rfl) | (exact ald_agg rfl rfl rfl (by assumption) rfl)) ?_; (conv => whnf)) | (refine bIf.yes (by first | assumption | rfl) ?_; (conv => whnf)) | (refine bIf.no (by first | assumption | rfl) ?_; (conv => whnf))))
        rfl
    · have d1 : decide ((k : Int) < (x0.length : Int)) = false := decide_eq_false (by omega)
      (try (conv => whnf)); (repeat (first | (refine Ob.of (by first | with_reducible assumption | with_reducible exact ex20 _ _ | with_reducible exact ex21 _ _ | with_reducible exact ex30 _ _ _ | with_reducible exact ex31 _ _ _ | with_reducible exact ex32 _ _ _ | rfl | (exact ald rfl rfl (by assumption) rfl) | (exact ald_agg rfl rfl rfl (by assumption) rfl)) ?_; (conv => whnf)) | (refine bIf.yes (by first | assumption | rfl) ?_; (conv => whnf)) | (refine bIf.no (by first | assumption | rfl) ?_; (conv => whnf))))
      refine (names9 a2 (by omega)).mono ?_
      rintro lv H4 ⟨hl, g4⟩
      have ll : ∀ H', alen Try.prog 26 lv H' = some (.int .i64 (L.length : Int)) := fun H' => by have := hl.len H'; rwa [List.length_map] at this
      (try (conv => whnf)); (repeat (first | (refine Ob.of (by first | with_reducible assumption | with_reducible exact ex20 _ _ | with_reducible exact ex21 _ _ | with_reducible exact ex30 _ _ _ | with_reducible exact ex31 _ _ _ | with_reducible exact ex32 _ _ _ | rfl | (exact ald rfl rfl (by assumption) rfl) | (exact ald_agg rfl rfl rfl (by assumption) rfl)) ?_; (conv => whnf)) | (refine bIf.yes (by first | assumption | rfl) ?_; (conv => whnf)) | (refine bIf.no (by first | assumption | rfl) ?_; (conv => whnf))))
      refine SW.loop (α := Nat) (fun i => [(3, ptr p), (4, .int .i64 (L.length : Int)), (13, lv), (14, .int .i64 (i : Int))]) (fun i H5 => i ≤ L.length ∧ Grow H4 H5) (fun i => L.length - i) ⟨0, ⟨rfl, rfl, rfl, rfl, trivial⟩, Nat.zero_le _, .refl _⟩ ?_
      rintro i H5 ⟨b1, b2⟩
      refine bC_sound _ _ _ _ ?_
      have wi : IntKind.i64.wrap ((i : Int) + 1) = ((i + 1 : Nat) : Int) := wrap_nat (by omega)
      have ll5 := ll H5
      by_cases hi : i < L.length
      · have d3 : decide ((i : Int) < (L.length : Int)) = true := decide_eq_true (by omega)
        obtain ⟨xi, hxi⟩ : ∃ x, L[i]? = some x := ⟨_, List.getElem?_eq_getElem hi⟩
        (try (conv => whnf)); (repeat (first | (refine Ob.of (by first | with_reducible assumption | with_reducible exact ex20 _ _ | with_reducible exact ex21 _ _ | with_reducible exact ex30 _ _ _ | with_reducible exact ex31 _ _ _ | with_reducible exact ex32 _ _ _ | rfl | (exact ald rfl rfl (by assumption) rfl) | (exact ald_agg rfl rfl rfl (by assumption) rfl)) ?_; (conv => whnf)) | (refine bIf.yes (by first | assumption | rfl) ?_; (conv => whnf)) | (refine bIf.no (by first | assumption | rfl) ?_; (conv => whnf))))
        refine SW.loop (α := Nat) (fun j => [(3, ptr p), (4, .int .i64 (L.length : Int)), (13, lv), (14, .int .i64 (i : Int)), (15, .int .i64 (j : Int))]) (fun j H6 => j ≤ i ∧ Grow H4 H6) (fun j => i - j) ⟨0, ⟨rfl, rfl, rfl, rfl, rfl, trivial⟩, Nat.zero_le _, b2⟩ ?_
        rintro j H6 ⟨c1, c2⟩
        refine bC_sound _ _ _ _ ?_
        have wj : IntKind.i64.wrap ((j : Int) + 1) = ((j + 1 : Nat) : Int) := wrap_nat (by omega)
        by_cases hj : j < i
        · have d4 : decide ((j : Int) < (i : Int)) = true := decide_eq_true (by omega)
          obtain ⟨xj, hxj⟩ : ∃ x, L[j]? = some x := ⟨_, List.getElem?_eq_getElem (by omega)⟩
          obtain ⟨p1, n1, n2⟩ := (hl.grow c2).at (i := i) (s := xi.1) (by simp [hxi])
          obtain ⟨p2, n3, n4⟩ := (hl.grow c2).at (i := j) (s := xj.1) (by simp [hxj])
          have tn : (xj.1 == xi.1) = false := by
            rw [ba_beq, decide_eq_false]
            intro e
            have a1' : (L.map Prod.fst)[i]? = some xi.1 := by simp [hxi]
            have a2' : (L.map Prod.fst)[j]? = some xi.1 := by simp [hxj, e]
            have := (List.getElem?_inj (List.getElem?_eq_some_iff.1 a1').1 hu).1 (a1'.trans a2'.symm)
            omega
          (try (conv => whnf)); (repeat (first | (refine Ob.of (by first | with_reducible assumption | with_reducible exact ex20 _ _ | with_reducible exact ex21 _ _ | with_reducible exact ex30 _ _ _ | with_reducible exact ex31 _ _ _ | with_reducible exact ex32 _ _ _ | rfl | (exact ald rfl rfl (by assumption) rfl) | (exact ald_agg rfl rfl rfl (by assumption) rfl)) ?_; (conv => whnf)) | (refine bIf.yes (by first | assumption | rfl) ?_; (conv => whnf)) | (refine bIf.no (by first | assumption | rfl) ?_; (conv => whnf))))
          apply SW.draw2 [([], [130, 133, 134, 135, 136], 0, 0, false), ([], [129, 133, 134, 135, 136], 0, 0, false), ([(129, 0), (130, 1)], [129, 130, 133, 134, 135, 136], 0, 0, false), ([(129, 0), (130, 1), (131, 2)], [129, 130, 131, 133, 134, 135, 136], 0, 0, false), ([], [129, 130, 131, 132, 134], 0, 0, false), ([], [129, 130, 131, 132, 133], 0, 0, false), ([(133, 4), (134, 5)], [129, 130, 131, 132, 133, 134], 0, 0, false), ([(133, 4), (134, 5), (135, 6)], [129, 130, 131, 132, 133, 134, 135], 0, 0, false), ([(129, 0), (130, 1), (131, 2), (132, 3), (133, 4), (134, 5), (135, 6), (136, 7)], [129, 130, 131, 132, 133, 134, 135, 136], 0, 0, false)]
            [(129, 0), (130, 1), (131, 2), (132, 3), (133, 4), (134, 5), (135, 6), (136, 7), (137, 8)] 0
            [(3, _), (4, _), (13, _), (14, _), (15, _)] [_, _, _, _, _, _, _, _, _] [H6] rfl (by kernel_rfl)
          case hF => exact ⟨rfl, rfl, rfl, rfl, rfl, trivial⟩
          case h0 => rfl
          case steps =>
            (try (conv => whnf)); repeat' (first | ((with_reducible refine Ob.of n1 ?_); (conv => whnf)) | ((with_reducible refine Ob.of n2 ?_); (conv => whnf)) | ((with_reducible refine Ob.of n3 ?_); (conv => whnf)) | ((with_reducible refine Ob.of n4 ?_); (conv => whnf)) | ((with_reducible refine Ob2.of n1 ?_); (conv => whnf)) | ((with_reducible refine Ob2.of n2 ?_); (conv => whnf)) | ((with_reducible refine Ob2.of n3 ?_); (conv => whnf)) | ((with_reducible refine Ob2.of n4 ?_); (conv => whnf)) | (refine And.intro ?_ ?_ <;> (conv => whnf)) | exact Leaf.mk rfl rfl | exact True.intro | (refine Ob.of rfl ?_; (conv => whnf)) | (refine Ob2.of (by rfl) ?_; (conv => whnf)) | (first | (refine Ob.of (by first | with_reducible assumption | with_reducible exact ex20 _ _ | with_reducible exact ex21 _ _ | with_reducible exact ex30 _ _ _ | with_reducible exact ex31 _ _ _ | with_reducible exact ex32 _ _ _ | rfl | (exact ald rfl rfl (by assumption) rfl) | (exact ald_agg rfl rfl rfl (by assumption) rfl)) ?_; (conv => whnf)) | (refine bIf.yes (by first | assumption | rfl) ?_; (conv => whnf)) | (refine bIf.no (by first | assumption | rfl) ?_; (conv => whnf))))
          (try (conv => whnf)); (repeat (first | (refine Ob.of (by first | with_reducible assumption | with_reducible exact ex20 _ _ | with_reducible exact ex21 _ _ | with_reducible exact ex30 _ _ _ | with_reducible exact ex31 _ _ _ | with_reducible exact ex32 _ _ _ | rfl | (exact ald rfl rfl (by assumption) rfl) | (exact ald_agg rfl rfl rfl (by assumption) rfl)) ?_; (conv => whnf)) | (refine bIf.yes (by first | assumption | rfl) ?_; (conv => whnf)) | (refine bIf.no (by first | assumption | rfl) ?_; (conv => whnf))))
          exact ⟨j + 1, ⟨rfl, rfl, rfl, rfl, congrArg (fun z => some (Value.int .i64 z)) wj, trivial⟩, ⟨by omega, c2⟩, by show i - (j + 1) < i - j; omega⟩
        · have d4 : decide ((j : Int) < (i : Int)) = false := decide_eq_false (by omega)
          (try (conv => whnf)); (repeat (first | (refine Ob.of (by first | with_reducible assumption | with_reducible exact ex20 _ _ | with_reducible exact ex21 _ _ | with_reducible exact ex30 _ _ _ | with_reducible exact ex31 _ _ _ | with_reducible exact ex32 _ _ _ | rfl | (exact ald rfl rfl (by assumption) rfl) | (exact ald_agg rfl rfl rfl (by assumption) rfl)) ?_; (conv => whnf)) | (refine bIf.yes (by first | assumption | rfl) ?_; (conv => whnf)) | (refine bIf.no (by first | assumption | rfl) ?_; (conv => whnf))))
          exact ⟨i + 1, ⟨rfl, rfl, rfl, congrArg (fun z => some (Value.int .i64 z)) wi, trivial⟩, ⟨by omega, c2⟩, by show L.length - (i + 1) < L.length - i; omega⟩
      · have d3 : decide ((i : Int) < (L.length : Int)) = false := decide_eq_false (by omega)
        have te : ((L.length : Int) == (L.length : Int)) = true := by simp
        (try (conv => whnf)); (repeat (first | (refine Ob.of (by first | with_reducible assumption | with_reducible exact ex20 _ _ | with_reducible exact ex21 _ _ | with_reducible exact ex30 _ _ _ | with_reducible exact ex31 _ _ _ | with_reducible exact ex32 _ _ _ | rfl | (exact ald rfl rfl (by assumption) rfl) | (exact ald_agg rfl rfl rfl (by assumption) rfl)) ?_; (conv => whnf)) | (refine bIf.yes (by first | assumption | rfl) ?_; (conv => whnf)) | (refine bIf.no (by first | assumption | rfl) ?_; (conv => whnf))))
        refine (len9 ((a2.grow g4).grow b2)).mono ?_
        rintro _ X ⟨rfl, e⟩
        subst X
        (try (conv => whnf)); (repeat (first | (refine Ob.of (by first | with_reducible assumption | with_reducible exact ex20 _ _ | with_reducible exact ex21 _ _ | with_reducible exact ex30 _ _ _ | with_reducible exact ex31 _ _ _ | with_reducible exact ex32 _ _ _ | rfl | (exact ald rfl rfl (by assumption) rfl) | (exact ald_agg rfl rfl rfl (by assumption) rfl)) ?_; (conv => whnf)) | (refine bIf.yes (by first | assumption | rfl) ?_; (conv => whnf)) | (refine bIf.no (by first | assumption | rfl) ?_; (conv => whnf))))
        refine (works_ax H5).mono ?_
        rintro _ X ⟨rfl, e⟩
        (try (conv => whnf)); (repeat (first | (refine Ob.of (by first | with_reducible assumption | with_reducible exact ex20 _ _ | with_reducible exact ex21 _ _ | with_reducible exact ex30 _ _ _ | with_reducible exact ex31 _ _ _ | with_reducible exact ex32 _ _ _ | rfl | (exact ald rfl rfl (by assumption) rfl) | (exact ald_agg rfl rfl rfl (by assumption) rfl)) ?_; (conv => whnf)) | (refine bIf.yes (by first | assumption | rfl) ?_; (conv => whnf)) | (refine bIf.no (by first | assumption | rfl) ?_; (conv => whnf))))
        rfl
end Go.Proofs.Ytnmfmgnkfkhdhaa
