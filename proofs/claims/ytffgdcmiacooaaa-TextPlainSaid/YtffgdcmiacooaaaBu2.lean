/- A string builder in abstract memory: a byte written, a string written, the string that it holds. -/
import Derived.Test.YtffgdcmiacooaaaBu1
set_option linter.unusedVariables false
set_option linter.unusedSimpArgs false
set_option maxRecDepth 20000
namespace Go.Proofs.Ytffgdcmiacooaaa
open Go Ax
theorem Buf.cells {B : Nat} {H : Heap} {v : Value} {bs : List UInt8} (h : Buf B H v bs) : vcells v = some [v] := by
  rcases h with ⟨rfl, _⟩ | ⟨g, _, rfl, _⟩ <;> rfl
theorem writeByte_ax {B : Nat} {H : Heap} {b : Nat} {T : TypeId} {rest : List Value} {bs : List UInt8} (h : Bld B H b T rest bs) (hT : OkB T) (hl : bs.length + 1 ≤ 140737488355327) (x : UInt8) :
    AX Try.prog 17 #[ptr b, u8 x] H (fun v H' => v = .nilIface ∧ Bld B H' b T rest (bs ++ [x]) ∧ Keep B H H') := by
  obtain ⟨h1, h2, a, v, h3, h4, h5⟩ := h
  refine AX.body (n := 17) (rs := [.tmp 4]) Try.func17 rfl (by decide) rfl rfl (bC_sound _ _ _ _ ?_)
  (try (conv => whnf)); (repeat (first | (refine Ob.of (by first | rfl | (exact ald rfl rfl (by assumption) rfl) | (exact ald_agg rfl rfl rfl (by assumption) rfl)) ?_; (conv => whnf)) | (refine bIf.yes (by first | assumption | rfl) ?_; (conv => whnf)) | (refine bIf.no (by first | assumption | rfl) ?_; (conv => whnf))))
  refine (check_ax h3 h4 hT).mono ?_
  rintro _ H1 ⟨k1, k2⟩
  have hb1 := hblk_of k1
  have f1 := h5.but k2 (.of h3 rfl)
  have hl1 := k2.1
  (try (conv => whnf)); (repeat (first | (refine Ob.of (by first | rfl | (exact ald rfl rfl (by assumption) rfl) | (exact ald_agg rfl rfl rfl (by assumption) rfl)) ?_; (conv => whnf)) | (refine bIf.yes (by first | assumption | rfl) ?_; (conv => whnf)) | (refine bIf.no (by first | assumption | rfl) ?_; (conv => whnf))))
  refine Ob2.byte fun q H2 hq l1 l2 => ?_
  have k1' := l2.at k1
  obtain ⟨v', H3, e, m1, m2, m3⟩ := app_buf (tx := 33) (f1.grow l2) (Nat.le_trans h2 (Nat.le_trans hl1 l2.1)) (src_byte l1) rfl rfl rfl hl
  (conv => whnf)
  refine Ob2.of e ?_
  have k3 := (m3 b (lt_at k1') (.of k1' rfl)).trans k1'
  have hb3 := hblk_of k3
  (try (conv => whnf)); (repeat (first | (refine Ob.of (by first | rfl | (exact ald rfl rfl (by assumption) rfl) | (exact ald_agg rfl rfl rfl (by assumption) rfl)) ?_; (conv => whnf)) | (refine bIf.yes (by first | assumption | rfl) ?_; (conv => whnf)) | (refine bIf.no (by first | assumption | rfl) ?_; (conv => whnf))))
  refine Ob.store m1.cells rfl rfl k3 rfl (by first | exact Nat.le_of_ble_eq_true rfl | simp) fun H4 s1 s2 s3 => ?_
  (try (conv => whnf)); (repeat (first | (refine Ob.of (by first | rfl | (exact ald rfl rfl (by assumption) rfl) | (exact ald_agg rfl rfl rfl (by assumption) rfl)) ?_; (conv => whnf)) | (refine bIf.yes (by first | assumption | rfl) ?_; (conv => whnf)) | (refine bIf.no (by first | assumption | rfl) ?_; (conv => whnf))))
  have hg := (k2.keep h2 h1).trans ((l2.keep (Nat.le_trans h2 hl1)).trans m2)
  exact ⟨rfl, ⟨h1, by have := hg.1; omega, ptr b, v', s1, .inr rfl, m1.but s2 (.of k3 rfl)⟩, hg.trans (s2.keep (Nat.le_trans h2 hg.1) h1)⟩
theorem writeString_ax {B : Nat} {H : Heap} {b : Nat} {T : TypeId} {rest : List Value} {bs : List UInt8} (h : Bld B H b T rest bs) (hT : OkB T) (s : ByteArray) (hl : bs.length + s.data.toList.length ≤ 140737488355327) :
    AX Try.prog 21 #[ptr b, .string s] H (fun v H' => v = .tuple #[.int .i64 s.size, .nilIface] ∧ Bld B H' b T rest (bs ++ s.data.toList) ∧ Keep B H H') := by
  obtain ⟨h1, h2, a, v, h3, h4, h5⟩ := h
  refine AX.body (n := 19) (rs := [.tmp 4, .tmp 5]) Try.func21 rfl (by decide) rfl rfl (bC_sound _ _ _ _ ?_)
  (try (conv => whnf)); (repeat (first | (refine Ob.of (by first | rfl | (exact ald rfl rfl (by assumption) rfl) | (exact ald_agg rfl rfl rfl (by assumption) rfl)) ?_; (conv => whnf)) | (refine bIf.yes (by first | assumption | rfl) ?_; (conv => whnf)) | (refine bIf.no (by first | assumption | rfl) ?_; (conv => whnf))))
  refine (check_ax h3 h4 hT).mono ?_
  rintro _ H1 ⟨k1, k2⟩
  have hb1 := hblk_of k1
  have f1 := h5.but k2 (.of h3 rfl)
  have hl1 := k2.1
  (try (conv => whnf)); (repeat (first | (refine Ob.of (by first | rfl | (exact ald rfl rfl (by assumption) rfl) | (exact ald_agg rfl rfl rfl (by assumption) rfl)) ?_; (conv => whnf)) | (refine bIf.yes (by first | assumption | rfl) ?_; (conv => whnf)) | (refine bIf.no (by first | assumption | rfl) ?_; (conv => whnf))))
  obtain ⟨v', H3, e, m1, m2, m3⟩ := app_buf (tx := 9) f1 (Nat.le_trans h2 hl1) (src_str s H1) rfl rfl rfl hl
  refine Ob2.of e ?_
  have k3 := (m3 b (lt_at k1) (.of k1 rfl)).trans k1
  have hb3 := hblk_of k3
  (try (conv => whnf)); (repeat (first | (refine Ob.of (by first | rfl | (exact ald rfl rfl (by assumption) rfl) | (exact ald_agg rfl rfl rfl (by assumption) rfl)) ?_; (conv => whnf)) | (refine bIf.yes (by first | assumption | rfl) ?_; (conv => whnf)) | (refine bIf.no (by first | assumption | rfl) ?_; (conv => whnf))))
  refine Ob.store m1.cells rfl rfl k3 rfl (by first | exact Nat.le_of_ble_eq_true rfl | simp) fun H4 s1 s2 s3 => ?_
  (try (conv => whnf)); (repeat (first | (refine Ob.of (by first | rfl | (exact ald rfl rfl (by assumption) rfl) | (exact ald_agg rfl rfl rfl (by assumption) rfl)) ?_; (conv => whnf)) | (refine bIf.yes (by first | assumption | rfl) ?_; (conv => whnf)) | (refine bIf.no (by first | assumption | rfl) ?_; (conv => whnf))))
  have hg := (k2.keep h2 h1).trans m2
  exact ⟨rfl, ⟨h1, by have := hg.1; omega, ptr b, v', s1, .inr rfl, m1.but s2 (.of k3 rfl)⟩, hg.trans (s2.keep (Nat.le_trans h2 hg.1) h1)⟩
theorem sdata {bs : List UInt8} (h : bs ≠ []) (g : Nat) : asliceData (.slice (some ⟨g, 0, none⟩) bs.length 1) = some (ptr g) := by cases bs with | nil => exact absurd rfl h | cons x l => rfl
theorem string_nil {H : Heap} {b : Nat} {T : TypeId} {a : Value} {rest : List Value} (h3 : H[b]? = some (.cells (.one T) (a :: .slice none 0 0 :: rest))) :
    AX Try.prog 15 #[ptr b] H (fun v H' => v = .string .empty ∧ H' = H) := by
  have hb := hblk_of h3
  refine AX.body (n := 14) (rs := [.tmp 2]) Try.func15 rfl (by decide) rfl rfl (bC_sound _ _ _ _ ?_)
  (try (conv => whnf)); (repeat (first | (refine Ob.of (by first | rfl | (exact ald rfl rfl (by assumption) rfl) | (exact ald_agg rfl rfl rfl (by assumption) rfl)) ?_; (conv => whnf)) | (refine bIf.yes (by first | assumption | rfl) ?_; (conv => whnf)) | (refine bIf.no (by first | assumption | rfl) ?_; (conv => whnf))))
  have hu : aunsafeString Try.prog 49 (.pointer none) (.int .i64 0) H = some (.string .empty, H) := rfl
  apply SW.draw2 [([], [8, 9, 10, 11, 12], 0, 0, false), ([(3, 0)], [3, 8, 9, 10, 11, 12], 0, 0, false), ([(3, 0), (4, 1)], [3, 4, 8, 9, 10, 11, 12], 0, 0, false), ([(3, 0), (4, 1), (5, 2)], [3, 4, 5, 8, 9, 10, 11, 12], 0, 0, false), ([(3, 0), (4, 1), (5, 2), (6, 3)], [3, 4, 5, 6, 8, 9, 10, 11, 12], 0, 0, false), ([], [3, 4, 5, 6, 7], 0, 0, false), ([(8, 5)], [3, 4, 5, 6, 7, 8], 0, 0, false), ([(8, 5), (9, 6)], [3, 4, 5, 6, 7, 8, 9], 0, 0, false), ([(8, 5), (9, 6), (10, 7)], [3, 4, 5, 6, 7, 8, 9, 10], 0, 0, false), ([(8, 5), (9, 6), (10, 7), (11, 8)], [3, 4, 5, 6, 7, 8, 9, 10, 11], 0, 0, false), ([(3, 0), (4, 1), (5, 2), (6, 3), (7, 4), (8, 5), (9, 6), (10, 7), (11, 8), (12, 9)], [3, 4, 5, 6, 7, 8, 9, 10, 11, 12], 0, 0, true), ([(3, 0), (4, 1), (5, 2), (6, 3), (7, 4), (8, 5), (9, 6), (10, 7), (11, 8), (12, 9), (13, 10)], [3, 4, 5, 6, 7, 8, 9, 10, 11, 12, 13], 1, 0, false)]
    [(3, 0), (4, 1), (5, 2), (6, 3), (7, 4), (8, 5), (9, 6), (10, 7), (11, 8), (12, 9), (13, 10), (2, 11)] 1
    [(0, _)] [_, _, _, _, _, _, _, _, _, _, _, _] [H, H] rfl (by kernel_rfl)
  case hF => exact ⟨rfl, trivial⟩
  case h0 => rfl
  case steps =>
    (try (conv => whnf)); repeat' (first | ((with_reducible refine Ob.of hu ?_); (conv => whnf)) | ((with_reducible refine Ob2.of hu ?_); (conv => whnf)) | (refine And.intro ?_ ?_ <;> (conv => whnf)) | exact Leaf.mk rfl rfl | exact True.intro | (refine Ob.of rfl ?_; (conv => whnf)) | (refine Ob2.of (by rfl) ?_; (conv => whnf)) | (first | (refine Ob.of (by first | rfl | (exact ald rfl rfl (by assumption) rfl) | (exact ald_agg rfl rfl rfl (by assumption) rfl)) ?_; (conv => whnf)) | (refine bIf.yes (by first | assumption | rfl) ?_; (conv => whnf)) | (refine bIf.no (by first | assumption | rfl) ?_; (conv => whnf))))
  (try (conv => whnf)); (repeat (first | (refine Ob.of (by first | rfl | (exact ald rfl rfl (by assumption) rfl) | (exact ald_agg rfl rfl rfl (by assumption) rfl)) ?_; (conv => whnf)) | (refine bIf.yes (by first | assumption | rfl) ?_; (conv => whnf)) | (refine bIf.no (by first | assumption | rfl) ?_; (conv => whnf))))
  exact ⟨rfl, rfl⟩
theorem string_some {H : Heap} {b g : Nat} {T : TypeId} {a : Value} {rest : List Value} {bs : List UInt8} (h3 : H[b]? = some (.cells (.one T) (a :: .slice (some ⟨g, 0, none⟩) bs.length 1 :: rest))) (g3 : bs ≠ []) (g4 : H[g]? = some (.cells (.row 5) (u8s bs))) (hl : bs.length ≤ 140737488355327) :
    AX Try.prog 15 #[ptr b] H (fun v H' => v = .string ⟨bs.toArray⟩ ∧ H' = H.set g .dead) := by
  have hb := hblk_of h3
  refine AX.body (n := 14) (rs := [.tmp 2]) Try.func15 rfl (by decide) rfl rfl (bC_sound _ _ _ _ ?_)
  (try (conv => whnf)); (repeat (first | (refine Ob.of (by first | rfl | (exact ald rfl rfl (by assumption) rfl) | (exact ald_agg rfl rfl rfl (by assumption) rfl)) ?_; (conv => whnf)) | (refine bIf.yes (by first | assumption | rfl) ?_; (conv => whnf)) | (refine bIf.no (by first | assumption | rfl) ?_; (conv => whnf))))
  have hs := sdata g3 g
  have hu : aunsafeString Try.prog 49 (ptr g) (.int .i64 bs.length) H = some (.string ⟨bs.toArray⟩, H.set g .dead) := by
    have h0 : bs.length ≠ 0 := by simpa using g3
    have h7 : slotsOf (u8s bs) 0 bs.length = some (u8s bs) := by rw [slots_of (by simp [u8s_length])]; rw [List.drop_zero, List.take_of_length_le (by simp [u8s_length])]
    simp only [aunsafeString, g4, show Try.prog.underlying 49 = some (.pointer 5) from rfl]
    rw [if_pos ⟨trivial, by rfl, by omega, by omega⟩]
    simp [h7, u8s_back]
  apply SW.draw2 [([], [8, 9, 10, 11, 12], 0, 0, false), ([(3, 0)], [3, 8, 9, 10, 11, 12], 0, 0, false), ([(3, 0), (4, 1)], [3, 4, 8, 9, 10, 11, 12], 0, 0, false), ([(3, 0), (4, 1), (5, 2)], [3, 4, 5, 8, 9, 10, 11, 12], 0, 0, false), ([(3, 0), (4, 1), (5, 2), (6, 3)], [3, 4, 5, 6, 8, 9, 10, 11, 12], 0, 0, false), ([], [3, 4, 5, 6, 7], 0, 0, false), ([(8, 5)], [3, 4, 5, 6, 7, 8], 0, 0, false), ([(8, 5), (9, 6)], [3, 4, 5, 6, 7, 8, 9], 0, 0, false), ([(8, 5), (9, 6), (10, 7)], [3, 4, 5, 6, 7, 8, 9, 10], 0, 0, false), ([(8, 5), (9, 6), (10, 7), (11, 8)], [3, 4, 5, 6, 7, 8, 9, 10, 11], 0, 0, false), ([(3, 0), (4, 1), (5, 2), (6, 3), (7, 4), (8, 5), (9, 6), (10, 7), (11, 8), (12, 9)], [3, 4, 5, 6, 7, 8, 9, 10, 11, 12], 0, 0, true), ([(3, 0), (4, 1), (5, 2), (6, 3), (7, 4), (8, 5), (9, 6), (10, 7), (11, 8), (12, 9), (13, 10)], [3, 4, 5, 6, 7, 8, 9, 10, 11, 12, 13], 1, 0, false)]
    [(3, 0), (4, 1), (5, 2), (6, 3), (7, 4), (8, 5), (9, 6), (10, 7), (11, 8), (12, 9), (13, 10), (2, 11)] 1
    [(0, _)] [_, _, _, _, _, _, _, _, _, _, _, _] [H, H.set g .dead] rfl (by kernel_rfl)
  case hF => exact ⟨rfl, trivial⟩
  case h0 => rfl
  case steps =>
    (try (conv => whnf)); repeat' (first | ((with_reducible refine Ob.of hu ?_); (conv => whnf)) | ((with_reducible refine Ob.of hs ?_); (conv => whnf)) | ((with_reducible refine Ob2.of hu ?_); (conv => whnf)) | ((with_reducible refine Ob2.of hs ?_); (conv => whnf)) | (refine And.intro ?_ ?_ <;> (conv => whnf)) | exact Leaf.mk rfl rfl | exact True.intro | (refine Ob.of rfl ?_; (conv => whnf)) | (refine Ob2.of (by rfl) ?_; (conv => whnf)) | (first | (refine Ob.of (by first | rfl | (exact ald rfl rfl (by assumption) rfl) | (exact ald_agg rfl rfl rfl (by assumption) rfl)) ?_; (conv => whnf)) | (refine bIf.yes (by first | assumption | rfl) ?_; (conv => whnf)) | (refine bIf.no (by first | assumption | rfl) ?_; (conv => whnf))))
  (try (conv => whnf)); (repeat (first | (refine Ob.of (by first | rfl | (exact ald rfl rfl (by assumption) rfl) | (exact ald_agg rfl rfl rfl (by assumption) rfl)) ?_; (conv => whnf)) | (refine bIf.yes (by first | assumption | rfl) ?_; (conv => whnf)) | (refine bIf.no (by first | assumption | rfl) ?_; (conv => whnf))))
  exact ⟨rfl, rfl⟩
theorem string_ax {B : Nat} {H : Heap} {b : Nat} {T : TypeId} {rest : List Value} {bs : List UInt8} (h : Bld B H b T rest bs) (hl : bs.length ≤ 140737488355327) :
    AX Try.prog 15 #[ptr b] H (fun v H' => v = .string ⟨bs.toArray⟩ ∧ Keep B H H') := by
  obtain ⟨h1, h2, a, v, h3, h4, h5⟩ := h
  rcases h5 with ⟨rfl, rfl⟩ | ⟨g, g1, rfl, g3, g4⟩
  · exact (string_nil h3).mono fun v H' ⟨e1, e2⟩ => ⟨e1, by subst e2; exact .refl _ _⟩
  · exact (string_some h3 g3 g4 hl).mono fun v H' ⟨e1, e2⟩ => ⟨e1, by subst e2; exact ⟨by simp, fun k hk => by rw [List.getElem?_set_ne (by omega)]⟩⟩
theorem okB_self : OkB 35 := ⟨by decide, by kernel_rfl⟩
end Go.Proofs.Ytffgdcmiacooaaa
