/- A string builder in abstract memory: what its methods do. -/
import Derived.Test.YtffgdcmiacooaaaAx17
import Derived.Test.YtffgdcmiacooaaaProg
set_option linter.unusedVariables false
set_option linter.unusedSimpArgs false
set_option maxRecDepth 20000
namespace Go.Proofs.Ytffgdcmiacooaaa
open Go Ax
abbrev ptr (p : Nat) : Value := .pointer (some ⟨p, 0, none⟩)
abbrev u8 (x : UInt8) : Value := .int .u8 (x.toNat : Int)
def u8s (l : List UInt8) : List Value := l.map u8
theorem u8s_append (a b : List UInt8) : u8s (a ++ b) = u8s a ++ u8s b := by simp [u8s]
theorem u8s_length (a : List UInt8) : (u8s a).length = a.length := by simp [u8s]
theorem u8s_back : ∀ l : List UInt8, aint8s (u8s l) = some l
  | [] => rfl
  | x :: l => by
    have := u8s_back l
    simp only [u8s, List.map_cons] at this ⊢
    simp [aint8s, this]
/-- Below B all is as it was. -/
def Keep (B : Nat) (H H' : Heap) : Prop := H.length ≤ H'.length ∧ ∀ k, k < B → H'[k]? = H[k]?
theorem Keep.refl (B : Nat) (H : Heap) : Keep B H H := ⟨Nat.le_refl _, fun _ _ => rfl⟩
theorem Keep.trans {B : Nat} {H K L : Heap} (h : Keep B H K) (k : Keep B K L) : Keep B H L := ⟨Nat.le_trans h.1 k.1, fun i hi => (k.2 i hi).trans (h.2 i hi)⟩
theorem Keep.grow {H H' : Heap} (h : Keep H.length H H') : Grow H H' := h
theorem Ax.Grow.keep {H H' : Heap} (h : Grow H H') {B : Nat} (hB : B ≤ H.length) : Keep B H H' := ⟨h.1, fun k hk => h.2 k (by omega)⟩
theorem Ax.But.keep {b : Nat} {H H' : Heap} (h : But b H H') {B : Nat} (hB : B ≤ H.length) (hb : B ≤ b) : Keep B H H' := ⟨h.1, fun k hk => h.2 k (by omega) (by omega)⟩
/-- A slice of bytes of one's own, from block B on. -/
def Buf (B : Nat) (H : Heap) (v : Value) (bs : List UInt8) : Prop :=
  (v = .slice none 0 0 ∧ bs = []) ∨ ∃ g, B ≤ g ∧ v = .slice (some ⟨g, 0, none⟩) bs.length 1 ∧ bs ≠ [] ∧ H[g]? = some (.cells (.row 5) (u8s bs))
def NoRow (H : Heap) (k : Nat) : Prop := ∀ e c, H[k]? ≠ some (.cells (.row e) c)
theorem NoRow.of {H : Heap} {k : Nat} {m : Ax.Mode} {c : List Value} (h : H[k]? = some (.cells m c)) (hm : aVar m = true) : NoRow H k := by
  intro e c' h'
  rw [h] at h'
  simp only [Option.some.injEq, Blk.cells.injEq] at h'
  obtain ⟨rfl, _⟩ := h'
  simp [aVar] at hm
theorem Buf.but {B b : Nat} {H H' : Heap} {v : Value} {bs : List UInt8} (h : Buf B H v bs) (k : But b H H') (hb : NoRow H b) : Buf B H' v bs := by
  rcases h with h | ⟨g, h1, h2, h3, h4⟩
  · exact .inl h
  · exact .inr ⟨g, h1, h2, h3, k.at h4 fun e => by subst e; exact hb _ _ h4⟩
theorem Buf.grow {B : Nat} {H H' : Heap} {v : Value} {bs : List UInt8} (h : Buf B H v bs) (k : Grow H H') : Buf B H' v bs := by
  rcases h with h | ⟨g, h1, h2, h3, h4⟩
  · exact .inl h
  · exact .inr ⟨g, h1, h2, h3, k.at h4⟩
/-- Bytes more. -/
theorem app_buf {B : Nat} {H : Heap} {v x : Value} {bs xs : List UInt8} {tx : TypeId} {d : TypeDesc} (h : Buf B H v bs) (hB : B ≤ H.length) (hsrc : asrc 1 x H = some (xs.length, u8s xs)) (hx : srcOk x 1 = true)
    (hd : Try.prog.underlying tx = some d) (hn : noInt d = true) (hl : bs.length + xs.length ≤ 140737488355327) :
    ∃ v' H', aappend Try.prog 33 tx v x H = some (v', H') ∧ Buf B H' v' (bs ++ xs) ∧ Keep B H H' ∧ ∀ k, k < H.length → NoRow H k → H'[k]? = H[k]? := by
  cases xs with
  | nil =>
    refine ⟨v, H, ?_, by simpa using h, .refl _ _, fun _ _ _ => rfl⟩
    rcases h with ⟨rfl, _⟩ | ⟨g, _, rfl, _⟩
    · exact append_zero (t := 33) (k := 1) (e := 5) (zs := [.int .u8 0]) rfl rfl rfl hd hn (by decide) hx rfl rfl hsrc (.inl ⟨rfl, rfl, rfl⟩)
    · exact append_zero (t := 33) (k := 1) (e := 5) (zs := [.int .u8 0]) rfl rfl rfl hd hn (by decide) hx rfl rfl hsrc (.inr ⟨_, _, rfl⟩)
  | cons y ys =>
    rcases h with ⟨rfl, rfl⟩ | ⟨g, h1, rfl, h3, h4⟩
    · refine ⟨_, _, append_nil (k := 1) (e := 5) (zs := [.int .u8 0]) rfl rfl rfl hd hn (by decide) hx rfl rfl hsrc (by simp) ?_ ?_, .inr ⟨_, hB, rfl, by simp, at_push _ _⟩, (Grow.push _ _).keep hB, fun k hk _ => (Grow.push _ _).2 k hk⟩
      · simp at hl; show (ys.length + 1) * 1 ≤ _; omega
      · simp at hl; simp only [maxLen, List.length_cons]; omega
    · have ho : slotsOf (u8s bs) 0 (bs.length * 1) = some (u8s bs) := by rw [slots_of (by simp [u8s_length])]; rw [List.drop_zero, List.take_of_length_le (by simp [u8s_length])]
      have hgl := lt_at h4
      refine ⟨_, _, append_row (k := 1) (e := 5) (zs := [.int .u8 0]) rfl rfl rfl hd hn (by decide) hx rfl rfl hsrc (by simp) h4 ho ?_ ?_, .inr ⟨H.length, hB, by simp, by simp, ?_⟩, ⟨by simp, fun k hk => ?_⟩, fun k hk hk' => ?_⟩
      · show (bs.length + (y :: ys).length) * 1 ≤ _; omega
      · simp only [maxLen]; omega
      · rw [List.getElem?_append_right (by simp)]; simp [u8s_append]
      · rw [List.getElem?_append_left (by simp; omega), List.getElem?_set_ne (by omega)]
      · rw [List.getElem?_append_left (by simp; omega), List.getElem?_set_ne (fun e => by subst e; exact hk' _ _ h4)]
/-- A slice of one byte. -/
theorem Ax.Ob2.byte {n : Int} {H : Heap} {K : Value → Heap → Prop} (k : ∀ q H', q = H.length → H'[q]? = some (.cells (.row 5) [.int .u8 n]) → Grow H H' → K (.slice (some ⟨q, 0, none⟩) 1 1) H') :
    Ob2 (abuildSlice Try.prog 33 1 [(0, .int .u8 n)] H) K :=
  .of (a := .slice (some ⟨H.length, 0, none⟩) 1 1) (b := H ++ [.cells (.row 5) [.int .u8 n]]) rfl (k _ _ rfl (at_push _ _) (.push _ _))
theorem src_byte {q : Nat} {H : Heap} {x : UInt8} (h : H[q]? = some (.cells (.row 5) [u8 x])) : asrc 1 (.slice (some ⟨q, 0, none⟩) 1 1) H = some ([x].length, u8s [x]) := src_some (by decide) (hblk_of h) rfl
theorem src_str (s : ByteArray) (H : Heap) : asrc 1 (.string s) H = some (s.data.toList.length, u8s s.data.toList) := rfl
/-- A builder, in a block with more. -/
def Bld (B : Nat) (H : Heap) (b : Nat) (T : TypeId) (rest : List Value) (bs : List UInt8) : Prop :=
  B ≤ b ∧ B ≤ H.length ∧ ∃ a v, H[b]? = some (.cells (.one T) (a :: v :: rest)) ∧ (a = .pointer none ∨ a = ptr b) ∧ Buf B H v bs
def OkB (T : TypeId) : Prop := Try.prog.cellsOf T ≠ 0 ∧ liesAt Try.prog Try.prog.depth T 1 0 35 1 = true
theorem conv_to {P : Program} {s d t T b off : Nat} {j : TypeInfo} {H : Heap} {c : List Value} (hs : P.underlying s = some (.pointer t)) (hd : P.underlying d = some .unsafePointer) (hj : P.info? t = some j) (h0 : j.size ≠ 0) (hb : H[b]? = some (.cells (.one T) c)) (hlt : off < P.cellsOf T) :
    aconvert P s d (.pointer (some ⟨b, off, none⟩)) H = some (.pointer (some ⟨b, off, none⟩)) := by simp [aconvert, hs, hd, hj, h0, hb, hlt]
theorem conv_from {P : Program} {s d u T b off : Nat} {j : TypeInfo} {H : Heap} {c : List Value} (hs : P.underlying s = some .unsafePointer) (hd : P.underlying d = some (.pointer u)) (hj : P.info? u = some j) (hb : H[b]? = some (.cells (.one T) c)) (h0 : P.cellsOf T ≠ 0) (hl : liesAt P P.depth T 1 off u 1 = true) :
    aconvert P s d (.pointer (some ⟨b, off, none⟩)) H = some (.pointer (some ⟨b, off, none⟩)) := by simp [aconvert, hs, hd, hj, h0, hb, hl]
theorem check_ax {H : Heap} {b : Nat} {T : TypeId} {a : Value} {rest : List Value} (hb : H[b]? = some (.cells (.one T) (a :: rest))) (ha : a = .pointer none ∨ a = ptr b) (hT : OkB T) :
    AX Try.prog 23 #[ptr b] H (fun v H' => H'[b]? = some (.cells (.one T) (ptr b :: rest)) ∧ But b H H') := by
  have hh := hblk_of hb
  refine AX.body (n := 20) (rs := []) Try.func23 rfl (by decide) rfl rfl (bC_sound _ _ _ _ ?_)
  rcases ha with rfl | rfl
  · (try (conv => whnf)); repeat (first | (refine Ob.of (by first | rfl | (exact ald rfl rfl (by assumption) rfl) | (exact ald_agg rfl rfl rfl (by assumption) rfl)) ?_; (conv => whnf)) | (refine bIf.yes (by first | assumption | rfl) ?_; (conv => whnf)) | (refine bIf.no (by first | assumption | rfl) ?_; (conv => whnf)))
    refine Ob.of (conv_to (t := 35) rfl rfl rfl (by decide) hb (Nat.pos_of_ne_zero hT.1)) ?_
    (try (conv => whnf)); repeat (first | (refine Ob.of (by first | rfl | (exact ald rfl rfl (by assumption) rfl) | (exact ald_agg rfl rfl rfl (by assumption) rfl)) ?_; (conv => whnf)) | (refine bIf.yes (by first | assumption | rfl) ?_; (conv => whnf)) | (refine bIf.no (by first | assumption | rfl) ?_; (conv => whnf)))
    refine Ob.of (conv_from (u := 35) rfl rfl rfl hb hT.1 hT.2) ?_
    (try (conv => whnf)); repeat (first | (refine Ob.of (by first | rfl | (exact ald rfl rfl (by assumption) rfl) | (exact ald_agg rfl rfl rfl (by assumption) rfl)) ?_; (conv => whnf)) | (refine bIf.yes (by first | assumption | rfl) ?_; (conv => whnf)) | (refine bIf.no (by first | assumption | rfl) ?_; (conv => whnf)))
    refine Ob.store rfl rfl rfl hb rfl (by first | exact Nat.le_of_ble_eq_true rfl | simp) fun H' s1 s2 s3 => ?_
    (try (conv => whnf)); repeat (first | (refine Ob.of (by first | rfl | (exact ald rfl rfl (by assumption) rfl) | (exact ald_agg rfl rfl rfl (by assumption) rfl)) ?_; (conv => whnf)) | (refine bIf.yes (by first | assumption | rfl) ?_; (conv => whnf)) | (refine bIf.no (by first | assumption | rfl) ?_; (conv => whnf)))
    exact ⟨s1, s2⟩
  · (try (conv => whnf)); repeat (first | (refine Ob.of (by first | rfl | (exact ald rfl rfl (by assumption) rfl) | (exact ald_agg rfl rfl rfl (by assumption) rfl)) ?_; (conv => whnf)) | (refine bIf.yes (by first | assumption | rfl) ?_; (conv => whnf)) | (refine bIf.no (by first | assumption | rfl) ?_; (conv => whnf)))
    have e : abin Try.prog .neq 32 (ptr b) (ptr b) = some (.bool false) := by simp [abin, show Try.prog.underlying 32 = some (.pointer 35) from rfl, show Try.prog.info? 35 = some _ from rfl, neg?]
    refine Ob.of e ?_
    (try (conv => whnf)); repeat (first | (refine Ob.of (by first | rfl | (exact ald rfl rfl (by assumption) rfl) | (exact ald_agg rfl rfl rfl (by assumption) rfl)) ?_; (conv => whnf)) | (refine bIf.yes (by first | assumption | rfl) ?_; (conv => whnf)) | (refine bIf.no (by first | assumption | rfl) ?_; (conv => whnf)))
    exact ⟨hb, .refl _ _⟩
end Go.Proofs.Ytffgdcmiacooaaa
