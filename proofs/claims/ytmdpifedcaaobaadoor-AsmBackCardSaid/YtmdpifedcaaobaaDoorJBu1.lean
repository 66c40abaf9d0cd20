/- A string builder in abstract memory: what its methods do. -/
import Derived.Test.YtmdpifedcaaobaaDoorProg
import Derived.Test.YtmdpifedcaaobaaDoorJCo2
set_option linter.unusedVariables false
set_option linter.unusedSimpArgs false
set_option maxRecDepth 20000
namespace Go.Proofs.YtmdpifedcaaobaaDoor
open Go Ax
abbrev ptr (p : Nat) : Value := .pointer (some ⟨p, 0, none⟩)
abbrev u8 (x : UInt8) : Value := .int .u8 (x.toNat : Int)
def u8s (l : List UInt8) : List Value := l.map u8
theorem u8s_append (a b : List UInt8) : u8s (a ++ b) = u8s a ++ u8s b := by simp [u8s]
theorem u8s_length (a : List UInt8) : (u8s a).length = a.length := by simp [u8s]
theorem u8s_back : ∀ l : List UInt8, aint8s (u8s l) = some l
  | [] => rfl
  | x :: l => by
    have := u8s_back l
    simp only [u8s, List.map_cons] at this ⊢
    simp [aint8s, this]
/-- Below B all is as it was. -/
def Keep (B : Nat) (H H' : Heap) : Prop := H.length ≤ H'.length ∧ ∀ k, k < B → H'[k]? = H[k]?
theorem Keep.refl (B : Nat) (H : Heap) : Keep B H H := ⟨Nat.le_refl _, fun _ _ => rfl⟩
theorem Keep.trans {B : Nat} {H K L : Heap} (h : Keep B H K) (k : Keep B K L) : Keep B H L := ⟨Nat.le_trans h.1 k.1, fun i hi => (k.2 i hi).trans (h.2 i hi)⟩
theorem Keep.grow {H H' : Heap} (h : Keep H.length H H') : Grow H H' := h
theorem Ax.Grow.keep {H H' : Heap} (h : Grow H H') {B : Nat} (hB : B ≤ H.length) : Keep B H H' := ⟨h.1, fun k hk => h.2 k (by omega)⟩
theorem Ax.But.keep {b : Nat} {H H' : Heap} (h : But b H H') {B : Nat} (hB : B ≤ H.length) (hb : B ≤ b) : Keep B H H' := ⟨h.1, fun k hk => h.2 k (by omega) (by omega)⟩
/-- A slice of bytes of one's own, from block B on. -/
def Buf (B : Nat) (H : Heap) (v : Value) (bs : List UInt8) : Prop :=
  (v = .slice none 0 0 ∧ bs = []) ∨ ∃ g, B ≤ g ∧ v = .slice (some ⟨g, 0, none⟩) bs.length 1 ∧ bs ≠ [] ∧ H[g]? = some (.cells (.row 5) (u8s bs))
def NoRow (H : Heap) (k : Nat) : Prop := ∀ e c, H[k]? ≠ some (.cells (.row e) c)
theorem NoRow.of {H : Heap} {k : Nat} {m : Ax.Mode} {c : List Value} (h : H[k]? = some (.cells m c)) (hm : aVar m = true) : NoRow H k := by
  intro e c' h'
  rw [h] at h'
  simp only [Option.some.injEq, Blk.cells.injEq] at h'
  obtain ⟨rfl, _⟩ := h'
  simp [aVar] at hm
theorem Buf.but {B b : Nat} {H H' : Heap} {v : Value} {bs : List UInt8} (h : Buf B H v bs) (k : But b H H') (hb : NoRow H b) : Buf B H' v bs := by
  rcases h with h | ⟨g, h1, h2, h3, h4⟩
  · exact .inl h
  · exact .inr ⟨g, h1, h2, h3, k.at h4 fun e => by subst e; exact hb _ _ h4⟩
theorem Buf.grow {B : Nat} {H H' : Heap} {v : Value} {bs : List UInt8} (h : Buf B H v bs) (k : Grow H H') : Buf B H' v bs := by
  rcases h with h | ⟨g, h1, h2, h3, h4⟩
  · exact .inl h
  · exact .inr ⟨g, h1, h2, h3, k.at h4⟩
/-- Bytes more. -/
theorem app_buf {B : Nat} {H : Heap} {v x : Value} {bs xs : List UInt8} {tx : TypeId} {d : TypeDesc} (h : Buf B H v bs) (hB : B ≤ H.length) (hsrc : asrc 1 x H = some (xs.length, u8s xs)) (hx : srcOk x 1 = true)
    (hd : Tryd.prog.underlying tx = some d) (hn : noInt d = true) (hl : bs.length + xs.length ≤ 140737488355327) :
    ∃ v' H', aappend Tryd.prog 48 tx v x H = some (v', H') ∧ Buf B H' v' (bs ++ xs) ∧ Keep B H H' ∧ ∀ k, k < H.length → NoRow H k → H'[k]? = H[k]? := by
  cases xs with
  | nil =>
    refine ⟨v, H, ?_, by simpa using h, .refl _ _, fun _ _ _ => rfl⟩
    rcases h with ⟨rfl, _⟩ | ⟨g, _, rfl, _⟩
    · exact append_zero (t := 48) (k := 1) (e := 5) (zs := [.int .u8 0]) rfl rfl rfl hd hn (by decide) hx rfl rfl hsrc (.inl ⟨rfl, rfl, rfl⟩)
    · exact append_zero (t := 48) (k := 1) (e := 5) (zs := [.int .u8 0]) rfl rfl rfl hd hn (by decide) hx rfl rfl hsrc (.inr ⟨_, _, rfl⟩)
  | cons y ys =>
    rcases h with ⟨rfl, rfl⟩ | ⟨g, h1, rfl, h3, h4⟩
    · refine ⟨_, _, append_nil (k := 1) (e := 5) (zs := [.int .u8 0]) rfl rfl rfl hd hn (by decide) hx rfl rfl hsrc (by simp) ?_ ?_, .inr ⟨_, hB, rfl, by simp, at_push _ _⟩, (Grow.push _ _).keep hB, fun k hk _ => (Grow.push _ _).2 k hk⟩
      · simp at hl; show (ys.length + 1) * 1 ≤ _; omega
      · simp at hl; simp only [maxLen, List.length_cons]; omega
    · have ho : slotsOf (u8s bs) 0 (bs.length * 1) = some (u8s bs) := by rw [slots_of (by simp [u8s_length])]; rw [List.drop_zero, List.take_of_length_le (by simp [u8s_length])]
      have hgl := lt_at h4
      refine ⟨_, _, append_row (k := 1) (e := 5) (zs := [.int .u8 0]) rfl rfl rfl hd hn (by decide) hx rfl rfl hsrc (by simp) h4 ho ?_ ?_, .inr ⟨H.length, hB, by simp, by simp, ?_⟩, ⟨by simp, fun k hk => ?_⟩, fun k hk hk' => ?_⟩
      · show (bs.length + (y :: ys).length) * 1 ≤ _; omega
      · simp only [maxLen]; omega
      · rw [List.getElem?_append_right (by simp)]; simp [u8s_append]
      · rw [List.getElem?_append_left (by simp; omega), List.getElem?_set_ne (by omega)]
      · rw [List.getElem?_append_left (by simp; omega), List.getElem?_set_ne (fun e => by subst e; exact hk' _ _ h4)]
/-- A slice of one byte. -/
theorem Ax.Ob2.byte {n : Int} {H : Heap} {K : Value → Heap → Prop} (k : ∀ q H', q = H.length → H'[q]? = some (.cells (.row 5) [.int .u8 n]) → Grow H H' → K (.slice (some ⟨q, 0, none⟩) 1 1) H') :
    Ob2 (abuildSlice Tryd.prog 48 1 [(0, .int .u8 n)] H) K :=
  .of (a := .slice (some ⟨H.length, 0, none⟩) 1 1) (b := H ++ [.cells (.row 5) [.int .u8 n]]) rfl (k _ _ rfl (at_push _ _) (.push _ _))
theorem src_byte {q : Nat} {H : Heap} {x : UInt8} (h : H[q]? = some (.cells (.row 5) [u8 x])) : asrc 1 (.slice (some ⟨q, 0, none⟩) 1 1) H = some ([x].length, u8s [x]) := src_some (by decide) (hblk_of h) rfl
theorem src_str (s : ByteArray) (H : Heap) : asrc 1 (.string s) H = some (s.data.toList.length, u8s s.data.toList) := rfl
/-- A builder, in a block with more. -/
def Bld (B : Nat) (H : Heap) (b : Nat) (T : TypeId) (rest : List Value) (bs : List UInt8) : Prop :=
  B ≤ b ∧ B ≤ H.length ∧ ∃ a v, H[b]? = some (.cells (.one T) (a :: v :: rest)) ∧ (a = .pointer none ∨ a = ptr b) ∧ Buf B H v bs
def OkB (T : TypeId) : Prop := Tryd.prog.cellsOf T ≠ 0 ∧ liesAt Tryd.prog Tryd.prog.depth T 1 0 50 1 = true
theorem conv_to {P : Program} {s d t T b off : Nat} {j : TypeInfo} {H : Heap} {c : List Value} (hs : P.underlying s = some (.pointer t)) (hd : P.underlying d = some .unsafePointer) (hj : P.info? t = some j) (h0 : j.size ≠ 0) (hb : H[b]? = some (.cells (.one T) c)) (hlt : off < P.cellsOf T) :
    aconvert P s d (.pointer (some ⟨b, off, none⟩)) H = some (.pointer (some ⟨b, off, none⟩)) := by simp [aconvert, hs, hd, hj, h0, hb, hlt]
theorem conv_from {P : Program} {s d u T b off : Nat} {j : TypeInfo} {H : Heap} {c : List Value} (hs : P.underlying s = some .unsafePointer) (hd : P.underlying d = some (.pointer u)) (hj : P.info? u = some j) (hb : H[b]? = some (.cells (.one T) c)) (h0 : P.cellsOf T ≠ 0) (hl : liesAt P P.depth T 1 off u 1 = true) :
    aconvert P s d (.pointer (some ⟨b, off, none⟩)) H = some (.pointer (some ⟨b, off, none⟩)) := by simp [aconvert, hs, hd, hj, h0, hb, hl]
theorem bcheck_ax {H : Heap} {b : Nat} {T : TypeId} {a : Value} {rest : List Value} (hb : H[b]? = some (.cells (.one T) (a :: rest))) (ha : a = .pointer none ∨ a = ptr b) (hT : OkB T) :
    AX Tryd.prog 49 #[ptr b] H (fun v H' => H'[b]? = some (.cells (.one T) (ptr b :: rest)) ∧ But b H H') := by
  have hh := hblk_of hb
  refine AX.body (n := 20) (rs := []) Tryd.func49 rfl (by decide) rfl rfl (bC_sound _ _ _ _ ?_)
  rcases ha with rfl | rfl
  · refine run ?_
    refine Ob.of (conv_to (t := 50) rfl rfl rfl (by decide) hb (Nat.pos_of_ne_zero hT.1)) ?_
    refine run ?_
    refine Ob.of (conv_from (u := 50) rfl rfl rfl hb hT.1 hT.2) ?_
    refine run ?_
    refine Ob.store rfl rfl rfl hb rfl (by first | exact Nat.le_of_ble_eq_true rfl | simp) fun H' s1 s2 s3 => ?_
    refine run ?_
    exact ⟨s1, s2⟩
  · refine run ?_
    have e : abin Tryd.prog .neq 47 (ptr b) (ptr b) = some (.bool false) := by simp [abin, show Tryd.prog.underlying 47 = some (.pointer 50) from rfl, show Tryd.prog.info? 50 = some _ from rfl, neg?]
    refine Ob.of e ?_
    refine run ?_
    exact ⟨hb, .refl _ _⟩
end Go.Proofs.YtmdpifedcaaobaaDoor
/- A string builder in abstract memory: a byte written, a string written, the string that it holds. -/
set_option linter.unusedVariables false
set_option linter.unusedSimpArgs false
set_option maxRecDepth 20000
namespace Go.Proofs.YtmdpifedcaaobaaDoor
open Go Ax
theorem Buf.cells {B : Nat} {H : Heap} {v : Value} {bs : List UInt8} (h : Buf B H v bs) : vcells v = some [v] := by
  rcases h with ⟨rfl, _⟩ | ⟨g, _, rfl, _⟩ <;> rfl
theorem writeByte_ax {B : Nat} {H : Heap} {b : Nat} {T : TypeId} {rest : List Value} {bs : List UInt8} (h : Bld B H b T rest bs) (hT : OkB T) (hl : bs.length + 1 ≤ 140737488355327) (x : UInt8) :
    AX Tryd.prog 31 #[ptr b, u8 x] H (fun v H' => v = .nilIface ∧ Bld B H' b T rest (bs ++ [x]) ∧ Keep B H H') := by
  obtain ⟨h1, h2, a, v, h3, h4, h5⟩ := h
  refine AX.body (n := 17) (rs := [.tmp 4]) Tryd.func31 rfl (by decide) rfl rfl (bC_sound _ _ _ _ ?_)
  refine run ?_
  refine (bcheck_ax h3 h4 hT).mono ?_
  rintro _ H1 ⟨k1, k2⟩
  have hb1 := hblk_of k1
  have f1 := h5.but k2 (.of h3 rfl)
  have hl1 := k2.1
  refine run ?_
  refine Ob2.byte fun q H2 hq l1 l2 => ?_
  have k1' := l2.at k1
  obtain ⟨v', H3, e, m1, m2, m3⟩ := app_buf (tx := 48) (f1.grow l2) (Nat.le_trans h2 (Nat.le_trans hl1 l2.1)) (src_byte l1) rfl rfl rfl hl
  (conv => whnf)
  refine Ob2.of e ?_
  have k3 := (m3 b (lt_at k1') (.of k1' rfl)).trans k1'
  have hb3 := hblk_of k3
  refine run ?_
  refine Ob.store m1.cells rfl rfl k3 rfl (by first | exact Nat.le_of_ble_eq_true rfl | simp) fun H4 s1 s2 s3 => ?_
  refine run ?_
  have hg := (k2.keep h2 h1).trans ((l2.keep (Nat.le_trans h2 hl1)).trans m2)
  exact ⟨rfl, ⟨h1, by have := hg.1; omega, ptr b, v', s1, .inr rfl, m1.but s2 (.of k3 rfl)⟩, hg.trans (s2.keep (Nat.le_trans h2 hg.1) h1)⟩
theorem writeString_ax {B : Nat} {H : Heap} {b : Nat} {T : TypeId} {rest : List Value} {bs : List UInt8} (h : Bld B H b T rest bs) (hT : OkB T) (s : ByteArray) (hl : bs.length + s.data.toList.length ≤ 140737488355327) :
    AX Tryd.prog 30 #[ptr b, .string s] H (fun v H' => v = .tuple #[.int .i64 s.size, .nilIface] ∧ Bld B H' b T rest (bs ++ s.data.toList) ∧ Keep B H H') := by
  obtain ⟨h1, h2, a, v, h3, h4, h5⟩ := h
  refine AX.body (n := 19) (rs := [.tmp 4, .tmp 5]) Tryd.func30 rfl (by decide) rfl rfl (bC_sound _ _ _ _ ?_)
  refine run ?_
  refine (bcheck_ax h3 h4 hT).mono ?_
  rintro _ H1 ⟨k1, k2⟩
  have hb1 := hblk_of k1
  have f1 := h5.but k2 (.of h3 rfl)
  have hl1 := k2.1
  refine run ?_
  obtain ⟨v', H3, e, m1, m2, m3⟩ := app_buf (tx := 9) f1 (Nat.le_trans h2 hl1) (src_str s H1) rfl rfl rfl hl
  refine Ob2.of e ?_
  have k3 := (m3 b (lt_at k1) (.of k1 rfl)).trans k1
  have hb3 := hblk_of k3
  refine run ?_
  refine Ob.store m1.cells rfl rfl k3 rfl (by first | exact Nat.le_of_ble_eq_true rfl | simp) fun H4 s1 s2 s3 => ?_
  refine run ?_
  have hg := (k2.keep h2 h1).trans m2
  exact ⟨rfl, ⟨h1, by have := hg.1; omega, ptr b, v', s1, .inr rfl, m1.but s2 (.of k3 rfl)⟩, hg.trans (s2.keep (Nat.le_trans h2 hg.1) h1)⟩
theorem sdata {bs : List UInt8} (h : bs ≠ []) (g : Nat) : asliceData (.slice (some ⟨g, 0, none⟩) bs.length 1) = some (ptr g) := by cases bs with | nil => exact absurd rfl h | cons x l => rfl
theorem string_nil {H : Heap} {b : Nat} {T : TypeId} {a : Value} {rest : List Value} (h3 : H[b]? = some (.cells (.one T) (a :: .slice none 0 0 :: rest))) :
    AX Tryd.prog 21 #[ptr b] H (fun v H' => v = .string .empty ∧ H' = H) := by
  have hb := hblk_of h3
  refine AX.body (n := 14) (rs := [.tmp 2]) Tryd.func21 rfl (by decide) rfl rfl (bC_sound _ _ _ _ ?_)
  refine run ?_
  have hu : aunsafeString Tryd.prog 78 (.pointer none) (.int .i64 0) H = some (.string .empty, H) := rfl
  apply SW.draw2 [([], [8, 9, 10, 11, 12], 0, 0, false), ([(3, 0)], [3, 8, 9, 10, 11, 12], 0, 0, false), ([(3, 0), (4, 1)], [3, 4, 8, 9, 10, 11, 12], 0, 0, false), ([(3, 0), (4, 1), (5, 2)], [3, 4, 5, 8, 9, 10, 11, 12], 0, 0, false), ([(3, 0), (4, 1), (5, 2), (6, 3)], [3, 4, 5, 6, 8, 9, 10, 11, 12], 0, 0, false), ([], [3, 4, 5, 6, 7], 0, 0, false), ([(8, 5)], [3, 4, 5, 6, 7, 8], 0, 0, false), ([(8, 5), (9, 6)], [3, 4, 5, 6, 7, 8, 9], 0, 0, false), ([(8, 5), (9, 6), (10, 7)], [3, 4, 5, 6, 7, 8, 9, 10], 0, 0, false), ([(8, 5), (9, 6), (10, 7), (11, 8)], [3, 4, 5, 6, 7, 8, 9, 10, 11], 0, 0, false), ([(3, 0), (4, 1), (5, 2), (6, 3), (7, 4), (8, 5), (9, 6), (10, 7), (11, 8), (12, 9)], [3, 4, 5, 6, 7, 8, 9, 10, 11, 12], 0, 0, true), ([(3, 0), (4, 1), (5, 2), (6, 3), (7, 4), (8, 5), (9, 6), (10, 7), (11, 8), (12, 9), (13, 10)], [3, 4, 5, 6, 7, 8, 9, 10, 11, 12, 13], 1, 0, false)]
    [(3, 0), (4, 1), (5, 2), (6, 3), (7, 4), (8, 5), (9, 6), (10, 7), (11, 8), (12, 9), (13, 10), (2, 11)] 1
    [(0, _)] [_, _, _, _, _, _, _, _, _, _, _, _] [H, H] rfl (by kernel_rfl)
  case hF => exact ⟨rfl, trivial⟩
  case h0 => rfl
  case steps =>
    (try (conv => whnf)); repeat' (first | ((with_reducible refine Ob.of hu ?_); (conv => whnf)) | ((with_reducible refine Ob2.of hu ?_); (conv => whnf)) | (refine And.intro ?_ ?_ <;> (conv => whnf)) | exact Leaf.mk rfl rfl | exact True.intro | (refine Ob.of rfl ?_; (conv => whnf)) | (refine Ob2.of (by rfl) ?_; (conv => whnf)) | (refine step1 ?_))
  refine run ?_
  exact ⟨rfl, rfl⟩
theorem string_some {H : Heap} {b g : Nat} {T : TypeId} {a : Value} {rest : List Value} {bs : List UInt8} (h3 : H[b]? = some (.cells (.one T) (a :: .slice (some ⟨g, 0, none⟩) bs.length 1 :: rest))) (g3 : bs ≠ []) (g4 : H[g]? = some (.cells (.row 5) (u8s bs))) (hl : bs.length ≤ 140737488355327) :
    AX Tryd.prog 21 #[ptr b] H (fun v H' => v = .string ⟨bs.toArray⟩ ∧ H' = H.set g .dead) := by
  have hb := hblk_of h3
  refine AX.body (n := 14) (rs := [.tmp 2]) Tryd.func21 rfl (by decide) rfl rfl (bC_sound _ _ _ _ ?_)
  refine run ?_
  have hs := sdata g3 g
  have hu : aunsafeString Tryd.prog 78 (ptr g) (.int .i64 bs.length) H = some (.string ⟨bs.toArray⟩, H.set g .dead) := by
    have h0 : bs.length ≠ 0 := by simpa using g3
    have h7 : slotsOf (u8s bs) 0 bs.length = some (u8s bs) := by rw [slots_of (by simp [u8s_length])]; rw [List.drop_zero, List.take_of_length_le (by simp [u8s_length])]
    simp only [aunsafeString, g4, show Tryd.prog.underlying 78 = some (.pointer 5) from rfl]
    rw [if_pos ⟨trivial, by rfl, by omega, by omega⟩]
    simp [h7, u8s_back]
  apply SW.draw2 [([], [8, 9, 10, 11, 12], 0, 0, false), ([(3, 0)], [3, 8, 9, 10, 11, 12], 0, 0, false), ([(3, 0), (4, 1)], [3, 4, 8, 9, 10, 11, 12], 0, 0, false), ([(3, 0), (4, 1), (5, 2)], [3, 4, 5, 8, 9, 10, 11, 12], 0, 0, false), ([(3, 0), (4, 1), (5, 2), (6, 3)], [3, 4, 5, 6, 8, 9, 10, 11, 12], 0, 0, false), ([], [3, 4, 5, 6, 7], 0, 0, false), ([(8, 5)], [3, 4, 5, 6, 7, 8], 0, 0, false), ([(8, 5), (9, 6)], [3, 4, 5, 6, 7, 8, 9], 0, 0, false), ([(8, 5), (9, 6), (10, 7)], [3, 4, 5, 6, 7, 8, 9, 10], 0, 0, false), ([(8, 5), (9, 6), (10, 7), (11, 8)], [3, 4, 5, 6, 7, 8, 9, 10, 11], 0, 0, false), ([(3, 0), (4, 1), (5, 2), (6, 3), (7, 4), (8, 5), (9, 6), (10, 7), (11, 8), (12, 9)], [3, 4, 5, 6, 7, 8, 9, 10, 11, 12], 0, 0, true), ([(3, 0), (4, 1), (5, 2), (6, 3), (7, 4), (8, 5), (9, 6), (10, 7), (11, 8), (12, 9), (13, 10)], [3, 4, 5, 6, 7, 8, 9, 10, 11, 12, 13], 1, 0, false)]
    [(3, 0), (4, 1), (5, 2), (6, 3), (7, 4), (8, 5), (9, 6), (10, 7), (11, 8), (12, 9), (13, 10), (2, 11)] 1
    [(0, _)] [_, _, _, _, _, _, _, _, _, _, _, _] [H, H.set g .dead] rfl (by kernel_rfl)
  case hF => exact ⟨rfl, trivial⟩
  case h0 => rfl
  case steps =>
    (try (conv => whnf)); repeat' (first | ((with_reducible refine Ob.of hu ?_); (conv => whnf)) | ((with_reducible refine Ob.of hs ?_); (conv => whnf)) | ((with_reducible refine Ob2.of hu ?_); (conv => whnf)) | ((with_reducible refine Ob2.of hs ?_); (conv => whnf)) | (refine And.intro ?_ ?_ <;> (conv => whnf)) | exact Leaf.mk rfl rfl | exact True.intro | (refine Ob.of rfl ?_; (conv => whnf)) | (refine Ob2.of (by rfl) ?_; (conv => whnf)) | (refine step1 ?_))
  refine run ?_
  exact ⟨rfl, rfl⟩
theorem string_ax {B : Nat} {H : Heap} {b : Nat} {T : TypeId} {rest : List Value} {bs : List UInt8} (h : Bld B H b T rest bs) (hl : bs.length ≤ 140737488355327) :
    AX Tryd.prog 21 #[ptr b] H (fun v H' => v = .string ⟨bs.toArray⟩ ∧ Keep B H H') := by
  obtain ⟨h1, h2, a, v, h3, h4, h5⟩ := h
  rcases h5 with ⟨rfl, rfl⟩ | ⟨g, g1, rfl, g3, g4⟩
  · exact (string_nil h3).mono fun v H' ⟨e1, e2⟩ => ⟨e1, by subst e2; exact .refl _ _⟩
  · exact (string_some h3 g3 g4 hl).mono fun v H' ⟨e1, e2⟩ => ⟨e1, by subst e2; exact ⟨by simp, fun k hk => by rw [List.getElem?_set_ne (by omega)]⟩⟩
theorem okB_self : OkB 50 := ⟨by decide, by kernel_rfl⟩
end Go.Proofs.YtmdpifedcaaobaaDoor
