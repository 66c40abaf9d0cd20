/- Builders: a call leaves all blocks but the builder's own and rows of bytes. -/
import Derived.Test.YtmglmjbjgfbdjaaProg
import Derived.Test.YtmglmjbjgfbdjaaJBu1
set_option linter.unusedVariables false
set_option linter.unusedSimpArgs false
set_option maxRecDepth 20000
set_option maxHeartbeats 8000000
namespace Go.Proofs.Ytmglmjbjgfbdjaa
open Go Ax
/-- No row of bytes. -/
def NoB (X : Blk) : Prop := ∀ c, X ≠ .cells (.row 5) c
/-- All but the builder in block b, and rows of bytes, stays. -/
def FrW (b : Nat) (H H' : Heap) : Prop := H.length ≤ H'.length ∧ ∀ j X, H[j]? = some X → j ≠ b → NoB X → H'[j]? = some X
theorem FrW.refl (b : Nat) (H : Heap) : FrW b H H := ⟨Nat.le_refl _, fun _ _ h _ _ => h⟩
theorem FrW.trans {b : Nat} {A B C : Heap} (h : FrW b A B) (k : FrW b B C) : FrW b A C := ⟨Nat.le_trans h.1 k.1, fun j X hx hj hn => k.2 j X (h.2 j X hx hj hn) hj hn⟩
theorem FrW.of {b : Nat} {A B : Heap} (h : Grow A B) : FrW b A B := ⟨h.1, fun j X hx _ _ => h.at hx⟩
theorem FrW.but {b : Nat} {A B : Heap} (h : But b A B) : FrW b A B := ⟨h.1, fun j X hx hj _ => h.at hx hj⟩
theorem appF_buf {B : Nat} {H : Heap} {v x : Value} {bs xs : List UInt8} {tx : TypeId} {d : TypeDesc} (h : Buf B H v bs) (hB : B ≤ H.length) (hsrc : asrc 1 x H = some (xs.length, u8s xs)) (hx : srcOk x 1 = true)
    (hd : Try.prog.underlying tx = some d) (hn : noInt d = true) (hl : bs.length + xs.length ≤ 140737488355327) :
    ∃ v' H', aappend Try.prog 41 tx v x H = some (v', H') ∧ Buf B H' v' (bs ++ xs) ∧ Keep B H H' ∧ (∀ k, k < H.length → NoRow H k → H'[k]? = H[k]?) ∧ ∀ b, FrW b H H' := by
  cases xs with
  | nil =>
    refine ⟨v, H, ?_, by simpa using h, .refl _ _, fun _ _ _ => rfl, fun b => .refl b H⟩
    rcases h with ⟨rfl, _⟩ | ⟨g, _, rfl, _⟩
    · exact append_zero (t := 41) (k := 1) (e := 5) (zs := [.int .u8 0]) rfl rfl rfl hd hn (by decide) hx rfl rfl hsrc (.inl ⟨rfl, rfl, rfl⟩)
    · exact append_zero (t := 41) (k := 1) (e := 5) (zs := [.int .u8 0]) rfl rfl rfl hd hn (by decide) hx rfl rfl hsrc (.inr ⟨_, _, rfl⟩)
  | cons y ys =>
    rcases h with ⟨rfl, rfl⟩ | ⟨g, h1, rfl, h3, h4⟩
    · refine ⟨_, _, append_nil (k := 1) (e := 5) (zs := [.int .u8 0]) rfl rfl rfl hd hn (by decide) hx rfl rfl hsrc (by simp) ?_ ?_, .inr ⟨_, hB, rfl, by simp, at_push _ _⟩, (Grow.push _ _).keep hB, fun k hk _ => (Grow.push _ _).2 k hk, fun b => .of (Grow.push _ _)⟩
      · simp at hl; show (ys.length + 1) * 1 ≤ _; omega
      · simp at hl; simp only [maxLen, List.length_cons]; omega
    · have ho : slotsOf (u8s bs) 0 (bs.length * 1) = some (u8s bs) := by rw [slots_of (by simp [u8s_length])]; rw [List.drop_zero, List.take_of_length_le (by simp [u8s_length])]
      have hgl := lt_at h4
      refine ⟨_, _, append_row (k := 1) (e := 5) (zs := [.int .u8 0]) rfl rfl rfl hd hn (by decide) hx rfl rfl hsrc (by simp) h4 ho ?_ ?_, .inr ⟨H.length, hB, by simp, by simp, ?_⟩, ⟨by simp, fun k hk => ?_⟩, fun k hk hk' => ?_, fun b => ⟨by simp, fun j X hX _ hN => ?_⟩⟩
      · show (bs.length + (y :: ys).length) * 1 ≤ _; omega
      · simp only [maxLen]; omega
      · rw [List.getElem?_append_right (by simp)]; simp [u8s_append]
      · rw [List.getElem?_append_left (by simp; omega), List.getElem?_set_ne (by omega)]
      · rw [List.getElem?_append_left (by simp; omega), List.getElem?_set_ne (fun e => by subst e; exact hk' _ _ h4)]
      · have hj := lt_at hX
        have hne : g ≠ j := fun e => by subst e; rw [h4] at hX; exact hN _ (Option.some.inj hX).symm
        rw [List.getElem?_append_left (by simp; omega), List.getElem?_set_ne hne]
        exact hX
theorem writeStringF_ax {B : Nat} {H : Heap} {b : Nat} {T : TypeId} {rest : List Value} {bs : List UInt8} (h : Bld B H b T rest bs) (hT : OkB T) (s : ByteArray) (hl : bs.length + s.data.toList.length ≤ 140737488355327) :
    AX Try.prog 27 #[ptr b, .string s] H (fun v H' => v = .tuple #[.int .i64 s.size, .nilIface] ∧ Bld B H' b T rest (bs ++ s.data.toList) ∧ Keep B H H' ∧ FrW b H H') := by
  obtain ⟨h1, h2, a, v, h3, h4, h5⟩ := h
  refine AX.body (n := 19) (rs := [.tmp 4, .tmp 5]) Try.func27 rfl (by decide) rfl rfl (bC_sound _ _ _ _ ?_)
  refine run ?_
  refine (check_ax h3 h4 hT).mono ?_
  rintro _ H1 ⟨k1, k2⟩
  have hb1 := hblk_of k1
  have f1 := h5.but k2 (.of h3 rfl)
  have hl1 := k2.1
  refine run ?_
  obtain ⟨v', H3, e, m1, m2, m3, m4⟩ := appF_buf (tx := 9) f1 (Nat.le_trans h2 hl1) (src_str s H1) rfl rfl rfl hl
  refine Ob2.of e ?_
  have k3 := (m3 b (lt_at k1) (.of k1 rfl)).trans k1
  have hb3 := hblk_of k3
  refine run ?_
  refine Ob.store m1.cells rfl rfl k3 rfl (by first | exact Nat.le_of_ble_eq_true rfl | simp) fun H4 s1 s2 s3 => ?_
  refine run ?_
  have hg := (k2.keep h2 h1).trans m2
  exact ⟨rfl, ⟨h1, by have := hg.1; omega, ptr b, v', s1, .inr rfl, m1.but s2 (.of k3 rfl)⟩, hg.trans (s2.keep (Nat.le_trans h2 hg.1) h1), ((FrW.but k2).trans (m4 b)).trans (.but s2)⟩
end Go.Proofs.Ytmglmjbjgfbdjaa
/- Trees that are few: the document's left, Few. -/
set_option linter.unusedVariables false
set_option linter.unusedSimpArgs false
set_option maxRecDepth 20000
set_option maxHeartbeats 8000000
namespace Go.Proofs.Ytmglmjbjgfbdjaa
open Go Ax
mutual
def Tr.left : Tr → Int → Int → Int
  | .mk _ _ _ s ns ks _, most, high => if high = 0 ∨ 600 < s.size ∨ 60 < ns.length ∨ ¬ (∀ n ∈ ns, n.size ≤ 100) then -1 else leftL ks (most - 1) (high - 1)
def leftL : List Tr → Int → Int → Int
  | [], most, _ => most
  | k :: ks, most, high => if most < 0 then most else leftL ks (k.left most high) high
end
theorem Tr.left_eq (x : Tr) (most high : Int) : x.left most high = if high = 0 ∨ 600 < x.str.size ∨ 60 < x.names.length ∨ ¬ (∀ n ∈ x.names, n.size ≤ 100) then -1 else leftL x.kids (most - 1) (high - 1) := by
  cases x; rw [Tr.left]; rfl
theorem leftL_neg {ks : List Tr} {m h : Int} (hm : m < 0) : leftL ks m h = m := by
  cases ks with
  | nil => rfl
  | cons k ks => rw [leftL, if_pos hm]
theorem leftL_le : ∀ (ks : List Tr), (∀ k ∈ ks, ∀ m h : Int, 0 ≤ m → -1 ≤ k.left m h ∧ k.left m h ≤ m - 1) → ∀ m h : Int, -1 ≤ m → -1 ≤ leftL ks m h ∧ leftL ks m h ≤ m
  | [], _, m, h, hm => ⟨hm, Int.le_refl _⟩
  | k :: ks, hk, m, h, hm => by
    rw [leftL]
    split
    · omega
    · have h1 := hk k (List.mem_cons_self ..) m h (by omega)
      have h2 := leftL_le ks (fun k h => hk k (List.mem_cons_of_mem _ h)) (k.left m h) h (by omega)
      omega
theorem Tr.left_le (x : Tr) : ∀ m h : Int, 0 ≤ m → -1 ≤ x.left m h ∧ x.left m h ≤ m - 1 := by
  induction x using Tr.ind with
  | h x ih =>
    intro m h hm
    rw [Tr.left_eq]
    split
    · omega
    · have := leftL_le x.kids ih (m - 1) (h - 1) (by omega)
      omega
theorem leftL_get {L : List Tr} {m : Int} {i : Nat} {x : Tr} {h : Int} (hx : L[i]? = some x) (hm : 0 ≤ m) : leftL (L.drop i) m h = leftL (L.drop (i + 1)) (x.left m h) h := by
  obtain ⟨hi, rfl⟩ := List.getElem?_eq_some_iff.1 hx
  rw [List.drop_eq_getElem_cons hi, leftL, if_neg (by omega)]
theorem ld_node {H : Heap} {sv : Value} {L : List Tr} (h : RLo 7 NodeR H sv L) {i : Nat} {x : Tr} (hx : L[i]? = some x) :
    ∃ q l, aindexAddr Try.prog 23 sv (.int .i64 (i : Int)) = some q ∧ NodeR H l x ∧ ∀ H', Grow H H' → aload Try.prog 25 q H' = some (.agg l.toArray) := h.ldA rfl rfl rfl rfl hx
theorem ld_strT {H : Heap} {sv : Value} {L : List ByteArray} (h : RL 1 strR H sv L) {i : Nat} {x : ByteArray} (hx : L[i]? = some x) :
    ∃ q, aindexAddr Try.prog 22 sv (.int .i64 (i : Int)) = some q ∧ ∀ H', Grow H H' → aload Try.prog 9 q H' = some (.string x) := h.ld1 (g := .string) (fun _ _ _ h => h) rfl rfl rfl rfl hx
theorem left_ax (x : Tr) : ∀ {H : Heap} {l : List Value}, NodeR H l x → ∀ (most high : Int), 0 ≤ most → most < 4294967296 → 0 ≤ high → high < 4294967296 →
    AX Try.prog 12 #[.agg l.toArray, .int .i64 most, .int .i64 high] H (fun v H' => v = .int .i64 (x.left most high) ∧ H' = H) := by
  induction x using Tr.ind with
  | h x ih =>
  intro H l R most high m0 m1 h0 h1
  obtain ⟨ow, sn, sk, rfl, rn, rk⟩ := R.inv
  refine AX.quiet ?_
  suffices hh : AX Try.prog 12 #[.agg (nodeV x sn sk).toArray, .int .i64 most, .int .i64 high] H (fun v H' => v = .int .i64 (x.left most high) ∧ Grow H H') from hh.mono fun v _ ⟨e, g⟩ => ⟨e ▸ plain_int _ _, e, g⟩
  refine AX.body (n := 60) (rs := [.tmp 6]) Try.func12 rfl (by decide) rfl rfl (bC_sound _ _ _ _ ?_)
  (conv => whnf)
  refine Ob2.box rfl fun q H1 hq a1 g1 => ?_
  have b1 := hblk_of a1
  have l1 : alen Try.prog 22 sn H1 = some (.int .i64 x.names.length) := rn.len rfl _
  have l2 : alen Try.prog 23 sk H1 = some (.int .i64 x.kids.length) := rk.len rfl _
  by_cases ca : high = 0
  · have he : x.left most high = -1 := by rw [Tr.left_eq, if_pos (.inl ca)]
    rw [he]
    subst ca
    refine run ?_
    exact ⟨rfl, g1⟩
  have c1 : (high == 0) = false := by rw [beq_eq_false_iff_ne]; omega
  by_cases cb : 600 < x.str.size
  · have he : x.left most high = -1 := by rw [Tr.left_eq, if_pos (.inr (.inl cb))]
    rw [he]
    have c2 : decide ((x.str.size : Int) > 600) = true := decide_eq_true (by omega)
    refine run ?_
    exact ⟨rfl, g1⟩
  have c2 : decide ((x.str.size : Int) > 600) = false := decide_eq_false (by omega)
  by_cases cc : 60 < x.names.length
  · have he : x.left most high = -1 := by rw [Tr.left_eq, if_pos (.inr (.inr (.inl cc)))]
    rw [he]
    have c3 : decide ((x.names.length : Int) > 60) = true := decide_eq_true (by omega)
    refine run ?_
    exact ⟨rfl, g1⟩
  have c3 : decide ((x.names.length : Int) > 60) = false := decide_eq_false (by omega)
  refine run ?_
  refine SW.loop (α := Nat) (fun k => [(1, .int .i64 most), (2, .int .i64 high), (3, .pointer (some ⟨q, 0, none⟩)), (7, .int .i64 (k : Int))]) (fun k H' => k ≤ x.names.length ∧ (∀ (i : Nat) s, i < k → x.names[i]? = some s → s.size ≤ 100) ∧ H' = H1) (fun k => x.names.length - k) ⟨0, ⟨rfl, rfl, rfl, rfl, trivial⟩, ⟨by omega, fun i s hi => by omega, rfl⟩⟩ ?_
  rintro k X ⟨hm, ht, e⟩
  subst X
  refine bC_sound _ _ _ _ ?_
  by_cases hml : k < x.names.length
  · have d1 : decide ((k : Int) < (x.names.length : Int)) = true := decide_eq_true (by omega)
    obtain ⟨s, hx⟩ := get_lt hml
    obtain ⟨p, i1, i2⟩ := ld_strT rn hx
    have i3 := i2 H1 g1
    by_cases hs : 100 < s.size
    · have d2 : decide ((s.size : Int) > 100) = true := decide_eq_true (by omega)
      refine run ?_
      have he : x.left most high = -1 := by
        rw [Tr.left_eq, if_pos (.inr (.inr (.inr fun h => by have := h s (List.mem_of_getElem? hx); omega)))]
      rw [he]
      exact ⟨rfl, g1⟩
    · have d2 : decide ((s.size : Int) > 100) = false := decide_eq_false (by omega)
      refine run ?_
      refine ⟨k + 1, ⟨rfl, rfl, rfl, congrArg (fun z => some (Value.int .i64 z)) (w_succ (by omega)), trivial⟩, ⟨hml, fun i t hi hd => ?_, rfl⟩, by show _ - (k + 1) < _ - k; omega⟩
      by_cases him : i = k
      · subst him; rw [hx] at hd; simp only [Option.some.injEq] at hd; subst hd; omega
      · exact ht i t (by omega) hd
  · have d1 : decide ((k : Int) < (x.names.length : Int)) = false := decide_eq_false (by omega)
    have he : x.left most high = leftL x.kids (most - 1) (high - 1) := by
      rw [Tr.left_eq, if_neg]
      rintro (h | h | h | h)
      · omega
      · omega
      · omega
      · refine h fun n hn => ?_
        obtain ⟨i, hi, rfl⟩ := List.getElem_of_mem hn
        exact ht i _ (by omega) (List.getElem?_eq_getElem hi)
    have w1 : IntKind.i64.wrap (most - 1) = most - 1 := by rw [wrap_i64 (by omega) (by omega)]
    refine run ?_
    have hkl := ow.2.2.2
    simp only [maxLen] at hkl
    refine SW.loop (α := Nat × Int) (fun y => [(1, .int .i64 y.2), (2, .int .i64 high), (3, .pointer (some ⟨q, 0, none⟩)), (8, .int .i64 (y.1 : Int))]) (fun y H' => y.1 ≤ x.kids.length ∧ -1 ≤ y.2 ∧ y.2 < most ∧ leftL (x.kids.drop y.1) y.2 (high - 1) = leftL x.kids (most - 1) (high - 1) ∧ H' = H1) (fun y => x.kids.length - y.1) ⟨(0, most - 1), ⟨congrArg (fun z => some (Value.int .i64 z)) w1, rfl, rfl, rfl, trivial⟩, by show 0 ≤ _; omega, by show -1 ≤ most - 1; omega, by show most - 1 < most; omega, rfl, rfl⟩ ?_
    rintro ⟨j, n⟩ X ⟨hj, hn, hn2, hl, e⟩
    subst X
    dsimp only at hj hn hn2 hl ⊢
    refine bC_sound _ _ _ _ ?_
    by_cases hjl : j < x.kids.length
    · have d3 : decide ((j : Int) < (x.kids.length : Int)) = true := decide_eq_true (by omega)
      by_cases hneg : n < 0
      · have d4 : decide (n ≥ 0) = false := decide_eq_false (by omega)
        refine run ?_
        rw [he, ← hl, leftL_neg hneg]
        exact ⟨rfl, g1⟩
      · have d4 : decide (n ≥ 0) = true := decide_eq_true (by omega)
        obtain ⟨y, hy⟩ := get_lt hjl
        obtain ⟨p, yl, i1, i2, i3⟩ := ld_node rk hy
        have i4 := i3 H1 g1
        have w2 : IntKind.i64.wrap (high - 1) = high - 1 := by rw [wrap_i64 (by omega) (by omega)]
        have hle := y.left_le n (high - 1) (by omega)
        have hcall := ih y (List.mem_of_getElem? hy) (i2.grow g1) n (high - 1) (by omega) (by omega) (by omega) (by omega)
        rw [← w2] at hcall
        refine run ?_
        refine hcall.mono ?_
        rintro _ X ⟨rfl, e⟩
        subst X
        rw [w2]
        refine run ?_
        refine ⟨(j + 1, y.left n (high - 1)), ⟨rfl, rfl, rfl, congrArg (fun z => some (Value.int .i64 z)) (w_succ (by omega)), trivial⟩, ⟨hjl, hle.1, by show y.left _ _ < _; omega, ?_, rfl⟩, by show _ - (j + 1) < _ - j; omega⟩
        rw [← hl, leftL_get hy (by omega)]
    · have d3 : decide ((j : Int) < (x.kids.length : Int)) = false := decide_eq_false (by omega)
      refine run ?_
      have : x.kids.drop j = [] := List.drop_eq_nil_of_le (by omega)
      rw [this, leftL] at hl
      rw [he, ← hl]
      exact ⟨rfl, g1⟩
end Go.Proofs.Ytmglmjbjgfbdjaa
/- The tree's writer: put. -/
set_option linter.unusedVariables false
set_option linter.unusedSimpArgs false
set_option maxRecDepth 20000
set_option maxHeartbeats 8000000
namespace Go.Proofs.Ytmglmjbjgfbdjaa
open Go Ax
def catL : List ByteArray → List UInt8
  | [] => []
  | s :: L => s.data.toList ++ catL L
theorem catL_take {L : List ByteArray} {k : Nat} {s : ByteArray} (h : L[k]? = some s) : catL (L.take (k + 1)) = catL (L.take k) ++ s.data.toList := by
  induction L generalizing k with
  | nil => simp at h
  | cons a L ih =>
    cases k with
    | zero => simp only [List.getElem?_cons_zero, Option.some.injEq] at h; subst h; simp [catL]
    | succ k => rw [List.getElem?_cons_succ] at h; rw [List.take_succ_cons, catL, ih h, List.take_succ_cons, catL, List.append_assoc]
theorem catL_take_le (L : List ByteArray) (k : Nat) : (catL (L.take k)).length ≤ (catL L).length := by
  induction L generalizing k with
  | nil => simp [catL]
  | cons a L ih =>
    cases k with
    | zero => simp [catL]
    | succ k => rw [List.take_succ_cons, catL, catL, List.length_append, List.length_append]; have := ih k; omega
theorem okB_writer : OkB 45 := ⟨by decide, by kernel_rfl⟩
theorem put_ax {B : Nat} {H : Heap} {b : Nat} {T : TypeId} {rest : List Value} {bs : List UInt8} (h : Bld B H b T rest bs) (hT : OkB T) {u : Value} {L : List ByteArray} (hst : ∀ H', FrW b H H' → RL 1 strR H' u L) (hL : L.length ≤ maxLen) (hl : bs.length + (catL L).length ≤ 140737488355327) :
    AX Try.prog 17 #[ptr b, u] H (fun v H' => Bld B H' b T rest (bs ++ catL L) ∧ Keep B H H' ∧ FrW b H H') := by
  simp only [maxLen] at hL
  refine AX.body (n := 18) (rs := []) Try.func17 rfl (by decide) rfl rfl (bC_sound _ _ _ _ ?_)
  have l1 : alen Try.prog 22 u H = some (.int .i64 L.length) := (hst H (.refl _ _)).len rfl _
  refine run ?_
  refine SW.loop (α := Nat) (fun k => [(0, ptr b), (6, u), (7, .int .i64 L.length), (8, .int .i64 (k : Int))]) (fun k H' => k ≤ L.length ∧ Bld B H' b T rest (bs ++ catL (L.take k)) ∧ Keep B H H' ∧ FrW b H H') (fun k => L.length - k) ⟨0, ⟨rfl, rfl, rfl, rfl, trivial⟩, by omega, by simpa [catL] using h, .refl _ _, .refl _ _⟩ ?_
  rintro k X ⟨hm, hB, hK, hF⟩
  refine bC_sound _ _ _ _ ?_
  by_cases hml : k < L.length
  · have d1 : decide ((k : Int) < (L.length : Int)) = true := decide_eq_true (by omega)
    obtain ⟨s, hx⟩ := get_lt hml
    obtain ⟨p, i1, i2⟩ := ld_strT (hst X hF) hx
    have i3 := i2 X (.refl _)
    have ht := catL_take hx
    have hle := catL_take_le L (k + 1)
    rw [ht, List.length_append] at hle
    refine run ?_
    refine (writeStringF_ax hB hT s (by rw [List.length_append]; omega)).mono ?_
    rintro _ X' ⟨rfl, f1, f2, f3⟩
    rw [List.append_assoc, ← ht] at f1
    refine run ?_
    exact ⟨k + 1, ⟨rfl, rfl, rfl, congrArg (fun z => some (Value.int .i64 z)) (w_succ (by omega)), trivial⟩, ⟨hml, f1, hK.trans f2, hF.trans f3⟩, by show L.length - (k + 1) < L.length - k; omega⟩
  · have d1 : decide ((k : Int) < (L.length : Int)) = false := decide_eq_false (by omega)
    refine run ?_
    rw [List.take_of_length_le (by omega)] at hB
    exact ⟨hB, hK, hF⟩
end Go.Proofs.Ytmglmjbjgfbdjaa
/- Package slices: does a list hold one of which something is true? -/
set_option linter.unusedVariables false
set_option linter.unusedSimpArgs false
set_option maxRecDepth 20000
set_option maxHeartbeats 8000000
namespace Go.Proofs.Ytmglmjbjgfbdjaa
open Go Ax
theorem indexN0 {H : Heap} {u : Value} {L : List Tr} (hu : RLo 7 NodeR H u L) (hL : L.length ≤ maxLen) (g : Nat) (P : Tr → Prop)
    (hg : ∀ x ∈ L, ∀ l, NodeR H l x → AX Try.prog g #[.agg l.toArray] H (fun v H' => (∃ b, v = .bool b ∧ (b = true ↔ ¬ P x)) ∧ H' = H)) :
    AX Try.prog 54 #[u, .func (.func g) #[] #[]] H (fun v H' => (∃ i : Int, v = .int .i64 i ∧ (0 ≤ i ↔ ¬ ∀ x ∈ L, P x)) ∧ H' = H) := by
  simp only [maxLen] at hL
  refine AX.body (n := 19) (rs := [.tmp 4]) Try.func54 rfl (by decide) rfl rfl (bC_sound _ _ _ _ ?_)
  have l1 : alen Try.prog 23 u H = some (.int .i64 L.length) := hu.len rfl _
  refine run ?_
  refine SW.loop (α := Nat) (fun k => [(0, u), (1, .func (.func g) #[] #[]), (7, .int .i64 L.length), (8, .int .i64 (k : Int))]) (fun k H' => k ≤ L.length ∧ (∀ (i : Nat) x, i < k → L[i]? = some x → P x) ∧ H' = H) (fun k => L.length - k) ⟨0, ⟨rfl, rfl, rfl, rfl, trivial⟩, by omega, fun i s h => by omega, rfl⟩ ?_
  rintro k X ⟨hm, ht, e⟩
  subst X
  refine bC_sound _ _ _ _ ?_
  by_cases hml : k < L.length
  · have d1 : decide ((k : Int) < (L.length : Int)) = true := decide_eq_true (by omega)
    obtain ⟨x, hx⟩ := get_lt hml
    obtain ⟨p, xl, i1, i4, i2⟩ := ld_node hu hx
    obtain ⟨-, xn, xk, rfl, -, -⟩ := i4.inv
    have i3 := i2 H (.refl _)
    refine run ?_
    refine (hg x (List.mem_of_getElem? hx) _ i4).mono ?_
    rintro _ X ⟨⟨b, rfl, hb⟩, e⟩
    subst X
    cases b with
    | false =>
      have hp : P x := Classical.byContradiction fun h => by simpa using hb.2 h
      refine run ?_
      refine ⟨k + 1, ⟨rfl, rfl, rfl, congrArg (fun z => some (Value.int .i64 z)) (w_succ (by omega)), trivial⟩, ⟨hml, fun i s hi hs => ?_, rfl⟩, by show L.length - (k + 1) < L.length - k; omega⟩
      by_cases him : i = k
      · subst him; rw [hx] at hs; simp only [Option.some.injEq] at hs; subst hs; exact hp
      · exact ht i s (by omega) hs
    | true =>
      have hp := hb.1 rfl
      refine run ?_
      exact ⟨⟨k, rfl, fun _ h => hp (h x (List.mem_of_getElem? hx)), fun _ => by omega⟩, rfl⟩
  · have d1 : decide ((k : Int) < (L.length : Int)) = false := decide_eq_false (by omega)
    refine run ?_
    refine ⟨⟨-1, rfl, fun h => by omega, fun h => absurd (fun x hx => ?_) h⟩, rfl⟩
    obtain ⟨i, hi, rfl⟩ := List.getElem_of_mem hx
    exact ht i L[i] (by omega) (List.getElem?_eq_getElem hi)
theorem containsN0 {H : Heap} {u : Value} {L : List Tr} (hu : RLo 7 NodeR H u L) (hL : L.length ≤ maxLen) (g : Nat) (P : Tr → Prop)
    (hg : ∀ x ∈ L, ∀ l, NodeR H l x → AX Try.prog g #[.agg l.toArray] H (fun v H' => (∃ b, v = .bool b ∧ (b = true ↔ ¬ P x)) ∧ H' = H)) :
    AX Try.prog 34 #[u, .func (.func g) #[] #[]] H (fun v H' => (∃ b, v = .bool b ∧ (b = true ↔ ¬ ∀ x ∈ L, P x)) ∧ H' = H) := by
  refine AX.body (n := 9) (rs := [.tmp 4]) Try.func34 rfl (by decide) rfl rfl (bC_sound _ _ _ _ ?_)
  refine run ?_
  refine (indexN0 hu hL g P hg).mono ?_
  rintro _ X ⟨⟨i, rfl, hi⟩, e⟩
  subst X
  refine run ?_
  exact ⟨⟨_, rfl, by rw [decide_eq_true_eq]; exact hi⟩, rfl⟩
theorem indexN1 {H : Heap} {u : Value} {L : List Tr} (hu : RLo 7 NodeR H u L) (hL : L.length ≤ maxLen) (g : Nat) (cap : Value) (P : Tr → Prop)
    (hg : ∀ x ∈ L, ∀ l, NodeR H l x → AX Try.prog g #[.agg l.toArray, cap] H (fun v H' => (∃ b, v = .bool b ∧ (b = true ↔ ¬ P x)) ∧ H' = H)) :
    AX Try.prog 54 #[u, .func (.func g) #[] #[cap]] H (fun v H' => (∃ i : Int, v = .int .i64 i ∧ (0 ≤ i ↔ ¬ ∀ x ∈ L, P x)) ∧ H' = H) := by
  simp only [maxLen] at hL
  refine AX.body (n := 19) (rs := [.tmp 4]) Try.func54 rfl (by decide) rfl rfl (bC_sound _ _ _ _ ?_)
  have l1 : alen Try.prog 23 u H = some (.int .i64 L.length) := hu.len rfl _
  refine run ?_
  refine SW.loop (α := Nat) (fun k => [(0, u), (1, .func (.func g) #[] #[cap]), (7, .int .i64 L.length), (8, .int .i64 (k : Int))]) (fun k H' => k ≤ L.length ∧ (∀ (i : Nat) x, i < k → L[i]? = some x → P x) ∧ H' = H) (fun k => L.length - k) ⟨0, ⟨rfl, rfl, rfl, rfl, trivial⟩, by omega, fun i s h => by omega, rfl⟩ ?_
  rintro k X ⟨hm, ht, e⟩
  subst X
  refine bC_sound _ _ _ _ ?_
  by_cases hml : k < L.length
  · have d1 : decide ((k : Int) < (L.length : Int)) = true := decide_eq_true (by omega)
    obtain ⟨x, hx⟩ := get_lt hml
    obtain ⟨p, xl, i1, i4, i2⟩ := ld_node hu hx
    obtain ⟨-, xn, xk, rfl, -, -⟩ := i4.inv
    have i3 := i2 H (.refl _)
    refine run ?_
    refine (hg x (List.mem_of_getElem? hx) _ i4).mono ?_
    rintro _ X ⟨⟨b, rfl, hb⟩, e⟩
    subst X
    cases b with
    | false =>
      have hp : P x := Classical.byContradiction fun h => by simpa using hb.2 h
      refine run ?_
      refine ⟨k + 1, ⟨rfl, rfl, rfl, congrArg (fun z => some (Value.int .i64 z)) (w_succ (by omega)), trivial⟩, ⟨hml, fun i s hi hs => ?_, rfl⟩, by show L.length - (k + 1) < L.length - k; omega⟩
      by_cases him : i = k
      · subst him; rw [hx] at hs; simp only [Option.some.injEq] at hs; subst hs; exact hp
      · exact ht i s (by omega) hs
    | true =>
      have hp := hb.1 rfl
      refine run ?_
      exact ⟨⟨k, rfl, fun _ h => hp (h x (List.mem_of_getElem? hx)), fun _ => by omega⟩, rfl⟩
  · have d1 : decide ((k : Int) < (L.length : Int)) = false := decide_eq_false (by omega)
    refine run ?_
    refine ⟨⟨-1, rfl, fun h => by omega, fun h => absurd (fun x hx => ?_) h⟩, rfl⟩
    obtain ⟨i, hi, rfl⟩ := List.getElem_of_mem hx
    exact ht i L[i] (by omega) (List.getElem?_eq_getElem hi)
theorem containsN1 {H : Heap} {u : Value} {L : List Tr} (hu : RLo 7 NodeR H u L) (hL : L.length ≤ maxLen) (g : Nat) (cap : Value) (P : Tr → Prop)
    (hg : ∀ x ∈ L, ∀ l, NodeR H l x → AX Try.prog g #[.agg l.toArray, cap] H (fun v H' => (∃ b, v = .bool b ∧ (b = true ↔ ¬ P x)) ∧ H' = H)) :
    AX Try.prog 34 #[u, .func (.func g) #[] #[cap]] H (fun v H' => (∃ b, v = .bool b ∧ (b = true ↔ ¬ ∀ x ∈ L, P x)) ∧ H' = H) := by
  refine AX.body (n := 9) (rs := [.tmp 4]) Try.func34 rfl (by decide) rfl rfl (bC_sound _ _ _ _ ?_)
  refine run ?_
  refine (indexN1 hu hL g cap P hg).mono ?_
  rintro _ X ⟨⟨i, rfl, hi⟩, e⟩
  subst X
  refine run ?_
  exact ⟨⟨_, rfl, by rw [decide_eq_true_eq]; exact hi⟩, rfl⟩
theorem indexS1 {H : Heap} {u : Value} {L : List ByteArray} (hu : RL 1 strR H u L) (hL : L.length ≤ maxLen) (g : Nat) (cap : Value) (P : ByteArray → Prop)
    (hg : ∀ x ∈ L, AX Try.prog g #[.string x, cap] H (fun v H' => (∃ b, v = .bool b ∧ (b = true ↔ ¬ P x)) ∧ H' = H)) :
    AX Try.prog 87 #[u, .func (.func g) #[] #[cap]] H (fun v H' => (∃ i : Int, v = .int .i64 i ∧ (0 ≤ i ↔ ¬ ∀ x ∈ L, P x)) ∧ H' = H) := by
  simp only [maxLen] at hL
  refine AX.body (n := 19) (rs := [.tmp 4]) Try.func87 rfl (by decide) rfl rfl (bC_sound _ _ _ _ ?_)
  have l1 : alen Try.prog 22 u H = some (.int .i64 L.length) := hu.len rfl _
  refine run ?_
  refine SW.loop (α := Nat) (fun k => [(0, u), (1, .func (.func g) #[] #[cap]), (7, .int .i64 L.length), (8, .int .i64 (k : Int))]) (fun k H' => k ≤ L.length ∧ (∀ (i : Nat) x, i < k → L[i]? = some x → P x) ∧ H' = H) (fun k => L.length - k) ⟨0, ⟨rfl, rfl, rfl, rfl, trivial⟩, by omega, fun i s h => by omega, rfl⟩ ?_
  rintro k X ⟨hm, ht, e⟩
  subst X
  refine bC_sound _ _ _ _ ?_
  by_cases hml : k < L.length
  · have d1 : decide ((k : Int) < (L.length : Int)) = true := decide_eq_true (by omega)
    obtain ⟨x, hx⟩ := get_lt hml
    obtain ⟨p, i1, i2⟩ := ld_strT hu hx
    have i3 := i2 H (.refl _)
    refine run ?_
    refine (hg x (List.mem_of_getElem? hx)).mono ?_
    rintro _ X ⟨⟨b, rfl, hb⟩, e⟩
    subst X
    cases b with
    | false =>
      have hp : P x := Classical.byContradiction fun h => by simpa using hb.2 h
      refine run ?_
      refine ⟨k + 1, ⟨rfl, rfl, rfl, congrArg (fun z => some (Value.int .i64 z)) (w_succ (by omega)), trivial⟩, ⟨hml, fun i s hi hs => ?_, rfl⟩, by show L.length - (k + 1) < L.length - k; omega⟩
      by_cases him : i = k
      · subst him; rw [hx] at hs; simp only [Option.some.injEq] at hs; subst hs; exact hp
      · exact ht i s (by omega) hs
    | true =>
      have hp := hb.1 rfl
      refine run ?_
      exact ⟨⟨k, rfl, fun _ h => hp (h x (List.mem_of_getElem? hx)), fun _ => by omega⟩, rfl⟩
  · have d1 : decide ((k : Int) < (L.length : Int)) = false := decide_eq_false (by omega)
    refine run ?_
    refine ⟨⟨-1, rfl, fun h => by omega, fun h => absurd (fun x hx => ?_) h⟩, rfl⟩
    obtain ⟨i, hi, rfl⟩ := List.getElem_of_mem hx
    exact ht i L[i] (by omega) (List.getElem?_eq_getElem hi)
theorem containsS1 {H : Heap} {u : Value} {L : List ByteArray} (hu : RL 1 strR H u L) (hL : L.length ≤ maxLen) (g : Nat) (cap : Value) (P : ByteArray → Prop)
    (hg : ∀ x ∈ L, AX Try.prog g #[.string x, cap] H (fun v H' => (∃ b, v = .bool b ∧ (b = true ↔ ¬ P x)) ∧ H' = H)) :
    AX Try.prog 85 #[u, .func (.func g) #[] #[cap]] H (fun v H' => (∃ b, v = .bool b ∧ (b = true ↔ ¬ ∀ x ∈ L, P x)) ∧ H' = H) := by
  refine AX.body (n := 9) (rs := [.tmp 4]) Try.func85 rfl (by decide) rfl rfl (bC_sound _ _ _ _ ?_)
  refine run ?_
  refine (indexS1 hu hL g cap P hg).mono ?_
  rintro _ X ⟨⟨i, rfl, hi⟩, e⟩
  subst X
  refine run ?_
  exact ⟨⟨_, rfl, by rw [decide_eq_true_eq]; exact hi⟩, rfl⟩
end Go.Proofs.Ytmglmjbjgfbdjaa
/- How high trees are; low; tidy trees. -/
set_option linter.unusedVariables false
set_option linter.unusedSimpArgs false
set_option maxRecDepth 20000
set_option maxHeartbeats 8000000
namespace Go.Proofs.Ytmglmjbjgfbdjaa
open Go Ax
mutual
def Tr.high : Tr → Nat
  | .mk _ _ _ _ _ ks _ => highs ks + 1
def highs : List Tr → Nat
  | [] => 0
  | k :: ks => max k.high (highs ks)
end
theorem Tr.high_eq (x : Tr) : x.high = highs x.kids + 1 := by cases x; rw [Tr.high]; rfl
theorem highs_le : ∀ {ks : List Tr} {n : Nat}, highs ks ≤ n ↔ ∀ k ∈ ks, k.high ≤ n
  | [], n => by simp [highs]
  | k :: ks, n => by rw [highs, Nat.max_le, highs_le]; simp
theorem highs_take {L : List Tr} {m : Nat} {x : Tr} (hx : L[m]? = some x) : highs (L.take (m + 1)) = max (highs (L.take m)) x.high := by
  have h1 : ∀ n, highs (L.take (m + 1)) ≤ n ↔ max (highs (L.take m)) x.high ≤ n := by
    intro n
    rw [highs_le, Nat.max_le, highs_le]
    have : L.take (m + 1) = L.take m ++ [x] := by rw [List.take_add_one, hx]; rfl
    rw [this]
    simp only [List.mem_append, List.mem_singleton]
    exact ⟨fun h => ⟨fun k hk => h k (.inl hk), h x (.inr rfl)⟩, fun h k hk => hk.elim (h.1 k) fun e => e ▸ h.2⟩
  exact Nat.le_antisymm ((h1 _).2 (Nat.le_refl _)) ((h1 _).1 (Nat.le_refl _))
theorem highs_take_le (L : List Tr) (m : Nat) : highs (L.take m) ≤ highs L := highs_le.2 fun k hk => (highs_le.1 (Nat.le_refl _)) k (List.mem_of_mem_take hk)
/-- Strings, names and parts are few and short, all down a tree. -/
inductive Tidy : Tr → Prop
  | mk {x : Tr} (h1 : x.str.size ≤ 600) (h2 : x.names.length ≤ 60) (h3 : ∀ n ∈ x.names, n.size ≤ 100) (h4 : x.kids.length ≤ 300) (h5 : ∀ k ∈ x.kids, Tidy k) : Tidy x
theorem Tidy.str {x : Tr} : Tidy x → x.str.size ≤ 600 | .mk h _ _ _ _ => h
theorem Tidy.names {x : Tr} : Tidy x → x.names.length ≤ 60 | .mk _ h _ _ _ => h
theorem Tidy.name {x : Tr} : Tidy x → ∀ n ∈ x.names, n.size ≤ 100 | .mk _ _ h _ _ => h
theorem Tidy.kids {x : Tr} : Tidy x → x.kids.length ≤ 300 | .mk _ _ _ h _ => h
theorem Tidy.kid {x : Tr} : Tidy x → ∀ k ∈ x.kids, Tidy k | .mk _ _ _ _ h => h
theorem leftL_tidy : ∀ (ks : List Tr), (∀ k ∈ ks, ∀ m h : Int, 0 ≤ m → m ≤ 300 → 0 ≤ h → 0 ≤ k.left m h → Tidy k ∧ (k.high : Int) ≤ h ∧ k.left m h ≤ m - 1) → ∀ m h : Int, m ≤ 300 → 0 ≤ h → 0 ≤ leftL ks m h → (∀ k ∈ ks, Tidy k) ∧ ((highs ks : Nat) : Int) ≤ h ∧ leftL ks m h + ks.length ≤ m
  | [], _, m, h, hm, hh, hl => by
    rw [leftL] at hl ⊢
    refine ⟨fun k hk => by simp at hk, by simp [highs]; omega, by simp⟩
  | k :: ks, hk, m, h, hm, hh, hl => by
    rw [leftL] at hl ⊢
    split at hl
    · omega
    · rename_i hm0
      rw [if_neg hm0]
      have hk0 : 0 ≤ k.left m h := by
        by_cases hc : k.left m h < 0
        · rw [leftL_neg hc] at hl; omega
        · omega
      obtain ⟨a1, a2, a3⟩ := hk k (List.mem_cons_self ..) m h (by omega) hm hh hk0
      obtain ⟨b1, b2, b3⟩ := leftL_tidy ks (fun k h => hk k (List.mem_cons_of_mem _ h)) (k.left m h) h (by omega) hh hl
      refine ⟨fun y hy => ?_, ?_, ?_⟩
      · rcases List.mem_cons.1 hy with rfl | hy
        · exact a1
        · exact b1 y hy
      · rw [highs]
        have := Nat.max_le (a := k.high) (b := highs ks) (c := h.toNat)
        omega
      · simp only [List.length_cons]; omega
theorem Tr.left_tidy (x : Tr) : ∀ m h : Int, 0 ≤ m → m ≤ 300 → 0 ≤ h → 0 ≤ x.left m h → Tidy x ∧ (x.high : Int) ≤ h ∧ x.left m h ≤ m - 1 := by
  induction x using Tr.ind with
  | h x ih =>
    intro m h hm hm3 hh hl
    have hle := (x.left_le m h hm).2
    rw [Tr.left_eq] at hl
    split at hl
    · omega
    · rename_i hc
      have hc1 : ¬ h = 0 := fun e => hc (.inl e)
      have hc2 : ¬ 600 < x.str.size := fun e => hc (.inr (.inl e))
      have hc3 : ¬ 60 < x.names.length := fun e => hc (.inr (.inr (.inl e)))
      have hc4 : ∀ n ∈ x.names, n.size ≤ 100 := Classical.byContradiction fun e => hc (.inr (.inr (.inr e)))
      obtain ⟨a1, a2, a3⟩ := leftL_tidy x.kids ih (m - 1) (h - 1) (by omega) (by omega) hl
      refine ⟨.mk (by omega) (by omega) hc4 (by omega) a1, ?_, hle⟩
      rw [Tr.high_eq]
      omega
/-- Few nodes. -/
def FewT (x : Tr) : Prop := Tidy x ∧ x.high ≤ 40
theorem few_of {x : Tr} (h : 0 ≤ x.left 300 40) : FewT x := by
  obtain ⟨h1, h2, -⟩ := x.left_tidy 300 40 (by omega) (by omega) (by omega) h
  exact ⟨h1, by omega⟩
theorem few06_ax {H : Heap} {l : List Value} {x : Tr} (R : NodeR H l x) : AX Try.prog 6 #[.agg l.toArray, .int .i64 300] H (fun v H' => (∃ b, v = .bool b ∧ (b = true → FewT x)) ∧ H' = H) := by
  obtain ⟨ow, sn, sk, rfl, -, -⟩ := R.inv
  refine AX.quiet ?_
  suffices hh : AX Try.prog 6 #[.agg (nodeV x sn sk).toArray, .int .i64 300] H (fun v H' => (∃ b, v = .bool b ∧ (b = true → FewT x)) ∧ Grow H H') from hh.mono fun v _ ⟨⟨b, e, k⟩, g⟩ => ⟨e ▸ plain_bool _, ⟨b, e, k⟩, g⟩
  refine AX.body (n := 9) (rs := [.tmp 4]) Try.func6 rfl (by decide) rfl rfl (bC_sound _ _ _ _ ?_)
  (conv => whnf)
  refine Ob2.box rfl fun q H1 hq a1 g1 => ?_
  have b1 := hblk_of a1
  refine run ?_
  refine (left_ax x (R.grow g1) 300 40 (by omega) (by omega) (by omega) (by omega)).mono ?_
  rintro _ X ⟨rfl, e⟩
  subst X
  refine run ?_
  exact ⟨⟨_, rfl, fun h => few_of (by simpa using h)⟩, g1⟩
/-- The document's height. -/
theorem refHigh_ax (x : Tr) : ∀ {H : Heap} {l : List Value}, NodeR H l x → x.high ≤ 40 →
    AX Try.prog 31 #[.agg l.toArray] H (fun v H' => v = .int .i64 (x.high : Int) ∧ H' = H) := by
  induction x using Tr.ind with
  | h x ih =>
  intro H l R hh
  obtain ⟨ow, sn, sk, rfl, rn, rk⟩ := R.inv
  refine AX.quiet ?_
  suffices hh : AX Try.prog 31 #[.agg (nodeV x sn sk).toArray] H (fun v H' => v = .int .i64 (x.high : Int) ∧ Grow H H') from hh.mono fun v _ ⟨e, g⟩ => ⟨e ▸ plain_int _ _, e, g⟩
  refine AX.body (n := 25) (rs := [.tmp 2]) Try.func31 rfl (by decide) rfl rfl (bC_sound _ _ _ _ ?_)
  (conv => whnf)
  refine Ob2.box rfl fun q H1 hq a1 g1 => ?_
  have b1 := hblk_of a1
  have l2 : alen Try.prog 23 sk H1 = some (.int .i64 x.kids.length) := rk.len rfl _
  have hk := ow.2.2.2
  simp only [maxLen] at hk
  have hxe := x.high_eq
  refine run ?_
  refine SW.loop (α := Nat) (fun k => [(1, .pointer (some ⟨q, 0, none⟩)), (3, .int .i64 ((highs (x.kids.take k) : Nat) : Int)), (4, .int .i64 (k : Int))]) (fun k H' => k ≤ x.kids.length ∧ H' = H1) (fun k => x.kids.length - k) ⟨0, ⟨rfl, rfl, rfl, trivial⟩, by omega, rfl⟩ ?_
  rintro k X ⟨hm, e⟩
  subst X
  refine bC_sound _ _ _ _ ?_
  by_cases hml : k < x.kids.length
  · have d1 : decide ((k : Int) < (x.kids.length : Int)) = true := decide_eq_true (by omega)
    obtain ⟨y, hy⟩ := get_lt hml
    obtain ⟨p, yl, i1, i2, i3⟩ := ld_node rk hy
    have i4 := i3 H1 g1
    have hyh : y.high ≤ 40 := by
      have := highs_le.1 (Nat.le_refl _) y (List.mem_of_getElem? hy)
      omega
    have ht := highs_take hy
    refine run ?_
    refine (ih y (List.mem_of_getElem? hy) (i2.grow g1) hyh).mono ?_
    rintro _ X ⟨rfl, e⟩
    subst X
    by_cases hgt : highs (x.kids.take k) < y.high
    · have d2 : decide ((y.high : Int) > ((highs (x.kids.take k) : Nat) : Int)) = true := decide_eq_true (by omega)
      refine run ?_
      refine ⟨k + 1, ⟨rfl, congrArg (fun z => some (Value.int .i64 z)) ?_, congrArg (fun z => some (Value.int .i64 z)) (w_succ (by omega)), trivial⟩, ⟨hml, rfl⟩, by show x.kids.length - (k + 1) < x.kids.length - k; omega⟩
      rw [ht, Nat.max_eq_right (by omega)]
    · have d2 : decide ((y.high : Int) > ((highs (x.kids.take k) : Nat) : Int)) = false := decide_eq_false (by omega)
      refine run ?_
      refine ⟨k + 1, ⟨rfl, congrArg (fun z => some (Value.int .i64 z)) ?_, congrArg (fun z => some (Value.int .i64 z)) (w_succ (by omega)), trivial⟩, ⟨hml, rfl⟩, by show x.kids.length - (k + 1) < x.kids.length - k; omega⟩
      rw [ht, Nat.max_eq_left (by omega)]
  · have d1 : decide ((k : Int) < (x.kids.length : Int)) = false := decide_eq_false (by omega)
    refine run ?_
    rw [List.take_of_length_le (by omega), show IntKind.i64.wrap (((highs x.kids : Nat) : Int) + 1) = ((x.high : Nat) : Int) from by rw [wrap_i64 (by omega) (by omega)]; omega]
    exact ⟨rfl, g1⟩
/-- Is a tree no higher than so many? -/
theorem low_ax (x : Tr) : ∀ {H : Heap} {l : List Value}, NodeR H l x → ∀ most : Int, -4294967296 ≤ most → most ≤ 4294967296 →
    AX Try.prog 25 #[.agg l.toArray, .int .i64 most] H (fun v H' => (∃ b, v = .bool b ∧ (b = true ↔ (x.high : Int) ≤ most)) ∧ H' = H) := by
  induction x using Tr.ind with
  | h x ih =>
  intro H l R most m0 m1
  obtain ⟨ow, sn, sk, rfl, rn, rk⟩ := R.inv
  refine AX.quiet ?_
  suffices hh : AX Try.prog 25 #[.agg (nodeV x sn sk).toArray, .int .i64 most] H (fun v H' => (∃ b, v = .bool b ∧ (b = true ↔ (x.high : Int) ≤ most)) ∧ Grow H H') from hh.mono fun v _ ⟨⟨b, e, k⟩, g⟩ => ⟨e ▸ plain_bool _, ⟨b, e, k⟩, g⟩
  have hxe := x.high_eq
  refine AX.body (n := 14) (rs := [.tmp 4]) Try.func25 rfl (by decide) rfl rfl (bC_sound _ _ _ _ ?_)
  (conv => whnf)
  refine Ob2.box rfl fun p H1 hp a1 g1 => ?_
  refine run ?_
  refine Ob2.box rfl fun q H2 hq a2 g2 => ?_
  have b1 := hblk_of (g2.at a1)
  have b2 := hblk_of a2
  have g3 := g1.trans g2
  by_cases hm : 0 < most
  · have d1 : decide (most > 0) = true := decide_eq_true (by omega)
    refine run ?_
    refine (containsN1 (NodeR.grows rk g3) ow.2.2.2 35 (.pointer (some ⟨q, 0, none⟩)) (fun k => (k.high : Int) ≤ most - 1) (fun k hk yl ry => ?_)).mono ?_
    · obtain ⟨-, yn, yk, rfl, -, -⟩ := ry.inv
      refine AX.quiet ?_
      suffices hh : AX Try.prog 35 #[.agg (nodeV k yn yk).toArray, .pointer (some ⟨q, 0, none⟩)] H2 (fun v H' => (∃ b, v = .bool b ∧ (b = true ↔ ¬ (k.high : Int) ≤ most - 1)) ∧ Grow H2 H') from hh.mono fun v _ ⟨⟨b, e, k⟩, g⟩ => ⟨e ▸ plain_bool _, ⟨b, e, k⟩, g⟩
      refine AX.body (n := 9) (rs := [.tmp 3]) Try.func35 rfl (by decide) rfl rfl (bC_sound _ _ _ _ ?_)
      (conv => whnf)
      refine Ob2.box rfl fun r H3 hr a3 g4 => ?_
      have c1 := hblk_of a3
      have c2 := g4.hblk b2
      have w : IntKind.i64.wrap (most - 1) = most - 1 := by rw [wrap_i64 (by omega) (by omega)]
      have hcall := ih k hk (ry.grow g4) (most - 1) (by omega) (by omega)
      rw [← w] at hcall
      refine run ?_
      refine hcall.mono ?_
      rw [w]
      rintro _ X ⟨⟨b, rfl, hb⟩, e⟩
      subst X
      cases b with
      | true =>
        refine run ?_
        exact ⟨⟨false, rfl, by simp [hb.1 rfl]⟩, g4⟩
      | false =>
        refine run ?_
        exact ⟨⟨true, rfl, by simp only [true_iff]; intro h; exact absurd (hb.2 h) (by simp)⟩, g4⟩
    · rintro _ X ⟨⟨b, rfl, hb⟩, e⟩
      subst X
      have hle : (∀ k ∈ x.kids, (k.high : Int) ≤ most - 1) ↔ (x.high : Int) ≤ most := by
        have h1 := highs_le (ks := x.kids) (n := (most - 1).toNat)
        constructor
        · intro h
          have := h1.2 fun k hk => by have := h k hk; omega
          omega
        · intro h k hk
          have := h1.1 (by omega) k hk
          omega
      rw [hle] at hb
      cases b with
      | true =>
        refine run ?_
        exact ⟨⟨false, rfl, by simp [hb.1 rfl]⟩, g3⟩
      | false =>
        refine run ?_
        exact ⟨⟨true, rfl, by simp only [true_iff]; exact Classical.byContradiction fun h => absurd (hb.2 h) (by simp)⟩, g3⟩
  · have d1 : decide (most > 0) = false := decide_eq_false (by omega)
    refine run ?_
    exact ⟨⟨false, rfl, by simp only [Bool.false_eq_true, false_iff]; omega⟩, g3⟩
end Go.Proofs.Ytmglmjbjgfbdjaa
/- Signs, ranks, bare nodes. -/
set_option linter.unusedVariables false
set_option linter.unusedSimpArgs false
set_option maxRecDepth 20000
set_option maxHeartbeats 8000000
namespace Go.Proofs.Ytmglmjbjgfbdjaa
open Go Ax
def signT (a : Int) : ByteArray :=
  if a = 1 then ⟨#[43]⟩ else if a = 2 then ⟨#[45]⟩ else if a = 3 then ⟨#[42]⟩ else if a = 4 then ⟨#[47]⟩ else if a = 5 then ⟨#[37]⟩ else if a = 6 then ⟨#[60]⟩ else if a = 7 then ⟨#[60, 61]⟩ else
  if a = 8 then ⟨#[62]⟩ else if a = 9 then ⟨#[62, 61]⟩ else if a = 10 then ⟨#[61, 61]⟩ else if a = 11 then ⟨#[33, 61]⟩ else ⟨#[]⟩
theorem eleven {a : Int} (h1 : 1 ≤ a) (h7 : a ≤ 11) : a = 1 ∨ a = 2 ∨ a = 3 ∨ a = 4 ∨ a = 5 ∨ a = 6 ∨ a = 7 ∨ a = 8 ∨ a = 9 ∨ a = 10 ∨ a = 11 := by omega
theorem signT_out {a : Int} (h : ¬ (1 ≤ a ∧ a ≤ 11)) : signT a = ⟨#[]⟩ := by
  unfold signT
  rw [if_neg (by omega), if_neg (by omega), if_neg (by omega), if_neg (by omega), if_neg (by omega), if_neg (by omega), if_neg (by omega), if_neg (by omega), if_neg (by omega), if_neg (by omega), if_neg (by omega)]
theorem sign_ax (H : Heap) (a : Int) : AX Try.prog 46 #[.int .i64 a] H (fun v H' => v = .string (signT a) ∧ H' = H) := by
  refine AX.quiet ?_
  suffices hh : AX Try.prog 46 #[.int .i64 a] H (fun v H' => v = .string (signT a) ∧ Grow H H') from hh.mono fun v _ ⟨e, g⟩ => ⟨e ▸ plain_str _, e, g⟩
  refine AX.body (n := 14) (rs := [.tmp 2]) Try.func46 rfl (by decide) rfl rfl (bC_sound _ _ _ _ ?_)
  refine run ?_
  refine Ob2.alloc rfl fun q1 H1 hq1 a1 k1 => ?_
  refine run ?_
  refine Ob.store rfl rfl rfl a1 rfl (by first | exact Nat.le_of_ble_eq_true rfl | simp) fun H2 b1 b2 b3 => ?_
  have g2 : Grow H H2 := k1.but_new b2 (by omega)
  have e1 := hblk_of b1
  by_cases h : 1 ≤ a ∧ a ≤ 11
  · rcases eleven h.1 h.2 with rfl | rfl | rfl | rfl | rfl | rfl | rfl | rfl | rfl | rfl | rfl <;> (refine run ?_; exact ⟨rfl, g2⟩)
  · rw [signT_out h]
    by_cases h1 : a < 1
    · have d1 : decide (a < 1) = true := decide_eq_true h1
      refine run ?_
      exact ⟨rfl, g2⟩
    · have d1 : decide (a < 1) = false := decide_eq_false h1
      have d2 : decide (a ≥ 12) = true := decide_eq_true (by omega)
      refine run ?_
      exact ⟨rfl, g2⟩
theorem rsign_ax (H : Heap) (a : Int) : AX Try.prog 64 #[.int .i64 a] H (fun v H' => v = .string (signT a) ∧ H' = H) := by
  refine AX.alone (args := [.int .i64 a]) (fun v hv => by simp only [List.mem_singleton] at hv; subst hv; exact plain_int _ _) ?_
  suffices hh : AX Try.prog 64 [.int .i64 a].toArray [] (fun v _ => v = .string (signT a)) from hh.mono fun v _ e => ⟨e ▸ plain_str _, e⟩
  refine AX.body (n := 16) (rs := [.tmp 2]) Try.func64 rfl (by decide) rfl rfl (bC_sound _ _ _ _ ?_)
  refine run ?_
  refine Ob2.of (a := .slice (some ⟨0, 0, none⟩) 11 1) (b := [.cells (.row 9) [.string (signT 1), .string (signT 2), .string (signT 3), .string (signT 4), .string (signT 5), .string (signT 6), .string (signT 7), .string (signT 8), .string (signT 9), .string (signT 10), .string (signT 11)]]) rfl ?_
  by_cases h : 1 ≤ a ∧ a ≤ 11
  · rcases eleven h.1 h.2 with rfl | rfl | rfl | rfl | rfl | rfl | rfl | rfl | rfl | rfl | rfl <;> (refine run ?_; rfl)
  · rw [signT_out h]
    by_cases h1 : a < 1
    · have d1 : decide (a < 1) = true := decide_eq_true h1
      refine run ?_
      rfl
    · have d1 : decide (a < 1) = false := decide_eq_false h1
      have d2 : decide (a > 11) = true := decide_eq_true (by omega)
      refine run ?_
      rfl
/-- How tight a sign is. -/
def rankP (k op : Int) : Int := if k = 12 then 1 else if k = 11 then 2 else if k = 10 then (if 10 ≤ op then 3 else if 6 ≤ op then 4 else if 3 ≤ op then 6 else 5) else if k = 9 then 7 else if 13 ≤ k ∧ k ≤ 16 then 8 else if 1 ≤ k ∧ k ≤ 20 then 9 else 0
theorem rank_ax {H : Heap} {l : List Value} {x : Tr} (R : NodeR H l x) : AX Try.prog 44 #[.agg l.toArray] H (fun v H' => v = .int .i64 (rankP x.kind x.op) ∧ H' = H) := by
  obtain ⟨ow, sn, sk, rfl, -, -⟩ := R.inv
  refine AX.quiet ?_
  suffices hh : AX Try.prog 44 #[.agg (nodeV x sn sk).toArray] H (fun v H' => v = .int .i64 (rankP x.kind x.op) ∧ Grow H H') from hh.mono fun v _ ⟨e, g⟩ => ⟨e ▸ plain_int _ _, e, g⟩
  refine AX.body (n := 38) (rs := [.tmp 2]) Try.func44 rfl (by decide) rfl rfl (bC_sound _ _ _ _ ?_)
  (conv => whnf)
  refine Ob2.box rfl fun q H1 hq a1 g1 => ?_
  have b1 := hblk_of a1
  (try (conv => whnf)); (repeat' ((fail_if_success (with_reducible refine And.intro ?_ ?_)); (fail_if_success (with_reducible refine Exists.intro ?_ ?_)); (first | (refine step0 ?_) | (apply bIf.of <;> intro hc <;> (conv => whnf)))))
  all_goals refine ⟨congrArg (Value.int .i64) (?_ : _ = rankP x.kind x.op), g1⟩
  all_goals clear b1 a1 g1
  all_goals unfold rankP
  all_goals (simp only [ba_ne_t, ba_ne_f, ba_eq_t, ba_eq_f, bne_iff_ne, bne_eq_false_iff_eq, decide_eq_true_eq, decide_eq_false_iff_not, beq_iff_eq, beq_eq_false_iff_ne, ne_eq, Bool.not_eq_true, Bool.not_eq_false, Bool.not_eq_true', Bool.not_eq_false'] at *)
  all_goals (repeat' split) <;> omega
theorem rrank_ax {H : Heap} {l : List Value} {x : Tr} (R : NodeR H l x) : AX Try.prog 50 #[.agg l.toArray] H (fun v H' => v = .int .i64 (rankP x.kind x.op) ∧ H' = H) := by
  obtain ⟨ow, sn, sk, rfl, -, -⟩ := R.inv
  refine AX.quiet ?_
  suffices hh : AX Try.prog 50 #[.agg (nodeV x sn sk).toArray] H (fun v H' => v = .int .i64 (rankP x.kind x.op) ∧ Grow H H') from hh.mono fun v _ ⟨e, g⟩ => ⟨e ▸ plain_int _ _, e, g⟩
  refine AX.body (n := 64) (rs := [.tmp 2]) Try.func50 rfl (by decide) rfl rfl (bC_sound _ _ _ _ ?_)
  (conv => whnf)
  refine Ob2.box rfl fun q H1 hq a1 g1 => ?_
  have b1 := hblk_of a1
  (try (conv => whnf)); (repeat' ((fail_if_success (with_reducible refine And.intro ?_ ?_)); (fail_if_success (with_reducible refine Exists.intro ?_ ?_)); (first | (refine step0 ?_) | (apply bIf.of <;> intro hc <;> (conv => whnf)))))
  all_goals refine ⟨congrArg (Value.int .i64) (?_ : _ = rankP x.kind x.op), g1⟩
  all_goals clear b1 a1 g1
  all_goals unfold rankP
  all_goals (simp only [ba_ne_t, ba_ne_f, ba_eq_t, ba_eq_f, bne_iff_ne, bne_eq_false_iff_eq, decide_eq_true_eq, decide_eq_false_iff_not, beq_iff_eq, beq_eq_false_iff_ne, ne_eq, Bool.not_eq_true, Bool.not_eq_false, Bool.not_eq_true', Bool.not_eq_false'] at *)
  all_goals (repeat' split) <;> omega
/-- Has a node none of some fields? -/
def BareP (x : Tr) (o n s m : Bool) : Prop := (o = true → x.op = 0) ∧ (n = true → x.num = 0) ∧ (s = true → x.str = ⟨#[]⟩) ∧ (m = true → x.names.length = 0)
theorem bare_ax {H : Heap} {l : List Value} {x : Tr} (R : NodeR H l x) (o n s m : Bool) :
    AX Try.prog 36 #[.agg l.toArray, .bool o, .bool n, .bool s, .bool m] H (fun v H' => (∃ b, v = .bool b ∧ (b = true ↔ BareP x o n s m)) ∧ H' = H) := by
  obtain ⟨ow, sn, sk, rfl, rn, -⟩ := R.inv
  refine AX.quiet ?_
  suffices hh : AX Try.prog 36 #[.agg (nodeV x sn sk).toArray, .bool o, .bool n, .bool s, .bool m] H (fun v H' => (∃ b, v = .bool b ∧ (b = true ↔ BareP x o n s m)) ∧ Grow H H') from hh.mono fun v _ ⟨⟨b, e, k⟩, g⟩ => ⟨e ▸ plain_bool _, ⟨b, e, k⟩, g⟩
  cases o <;> cases n <;> cases s <;> cases m <;> (
    refine AX.body (n := 46) (rs := [.tmp 10]) Try.func36 rfl (by decide) rfl rfl (bC_sound _ _ _ _ ?_)
    (conv => whnf)
    refine Ob2.box rfl fun q H1 hq a1 g1 => ?_
    have b1 := hblk_of a1
    have l1 : alen Try.prog 22 sn H1 = some (.int .i64 x.names.length) := rn.len rfl _
    (try (conv => whnf)); (repeat' ((fail_if_success (with_reducible refine And.intro ?_ ?_)); (fail_if_success (with_reducible refine Exists.intro ?_ ?_)); (first | (refine step0 ?_) | (apply bIf.of <;> intro hc <;> (conv => whnf)))))
    all_goals refine ⟨⟨_, rfl, ?_⟩, g1⟩
    all_goals clear b1 a1 g1 l1
    all_goals unfold BareP
    all_goals (simp only [ba_ne_t, ba_ne_f, ba_eq_t, ba_eq_f, bne_iff_ne, bne_eq_false_iff_eq, decide_eq_true_eq, decide_eq_false_iff_not, beq_iff_eq, beq_eq_false_iff_ne, ne_eq, Bool.not_eq_true, Bool.not_eq_false, Bool.not_eq_true', Bool.not_eq_false'] at *)
    all_goals grind)
end Go.Proofs.Ytmglmjbjgfbdjaa
