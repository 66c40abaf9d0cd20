/- Package slices: a list of one number over and over. -/
import Derived.Test.YtdlanbfbbopfhaaCo11
set_option linter.unusedVariables false
set_option linter.unusedSimpArgs false
set_option maxRecDepth 20000
set_option maxHeartbeats 8000000
namespace Go.Proofs.Ytdlanbfbbopfhaa
open Go Ax
theorem and32 {n : Nat} (hn : n < 4294967296) : ((BitVec.ofInt IntKind.u64.bits (n : Int) &&& BitVec.ofInt IntKind.u64.bits 4294967295).toNat : Int) = n := by
  show ((BitVec.ofInt 64 (n : Int) &&& BitVec.ofInt 64 4294967295).toNat : Int) = n
  have e : BitVec.ofInt 64 4294967295 = BitVec.ofNat 64 4294967295 := rfl
  have e2 : BitVec.ofInt 64 (n : Int) = BitVec.ofNat 64 n := BitVec.ofInt_natCast ..
  rw [e, e2, BitVec.toNat_and, BitVec.toNat_ofNat, BitVec.toNat_ofNat, Nat.mod_eq_of_lt (by omega : n < 2 ^ 64), show 4294967295 % 2 ^ 64 = 2 ^ 32 - 1 from rfl, Nat.and_two_pow_sub_one_eq_mod, Nat.mod_eq_of_lt (by omega)]
theorem fdiv32 {n : Int} (h0 : 0 ≤ n) (hn : n < 4294967296) : n.fdiv (2 ^ min (Int.toNat 32) IntKind.u64.bits) = 0 := by
  show n.fdiv 4294967296 = 0
  rw [Int.fdiv_eq_ediv_of_nonneg _ (by omega)]
  omega
theorem wu64 {n : Int} (h0 : 0 ≤ n) (h1 : n ≤ 18446744073709551615) : IntKind.u64.wrap n = n := IntWalk.u64_in _ ⟨h0, h1⟩
theorem mul64_ax (H : Heap) (n : Nat) (hn : n < 4294967296) : AX Try.prog 78 #[.int .u64 1, .int .u64 (n : Int)] H (fun v H' => v = .tuple #[.int .u64 0, .int .u64 (n : Int)] ∧ H' = H) := by
  refine AX.body (n := 51) (rs := [.tmp 4, .tmp 5]) Try.func78 rfl (by decide) rfl rfl (bC_sound _ _ _ _ ?_)
  (try (conv => whnf)); (repeat' ((fail_if_success (with_reducible refine And.intro ?_ ?_)); (fail_if_success (with_reducible refine Exists.intro ?_ ?_)); (first | (first | (apply Ob.of; (first | with_reducible assumption | with_reducible exact ex20 _ _ | with_reducible exact ex21 _ _ | with_reducible exact ex30 _ _ _ | with_reducible exact ex31 _ _ _ | with_reducible exact ex32 _ _ _ | rfl | (exact ald rfl rfl (by assumption) rfl) | (exact ald_agg rfl rfl rfl (by assumption) rfl)); (conv => whnf)) | (apply bIf.yes; (first | assumption | rfl); (conv => whnf)) | (apply bIf.no; (first | assumption | rfl); (conv => whnf)) | ((with_reducible refine Ob.load (by with_unfolding_all assumption) ?_); (conv => whnf)) | (apply Grows.mk; (first | exact Grow.refl _ | assumption); (conv => whnf))) | (apply bIf.of <;> intro hc <;> (conv => whnf)))))
  refine ⟨?_, rfl⟩
  have a1 := and32 hn
  have a2 : ((BitVec.ofInt IntKind.u64.bits 1 &&& BitVec.ofInt IntKind.u64.bits 4294967295).toNat : Int) = 1 := and32 (n := 1) (by omega)
  have f1 : Int.fdiv 1 (2 ^ min (Int.toNat 32) IntKind.u64.bits) = 0 := fdiv32 (by omega) (by omega)
  have f2 : (n : Int).fdiv (2 ^ min (Int.toNat 32) IntKind.u64.bits) = 0 := fdiv32 (by omega) (by omega)
  have w1 : IntKind.u64.wrap (n : Int) = n := wu64 (by omega) (by omega)
  have w2 : IntKind.u64.wrap 0 = 0 := wu64 (by omega) (by omega)
  have w3 : IntKind.u64.wrap 1 = 1 := wu64 (by omega) (by omega)
  have f3 : Int.fdiv 0 (2 ^ min (Int.toNat 32) IntKind.u64.bits) = 0 := fdiv32 (by omega) (by omega)
  have a3 : ((BitVec.ofInt IntKind.u64.bits 0 &&& BitVec.ofInt IntKind.u64.bits 4294967295).toNat : Int) = 0 := and32 (n := 0) (by omega)
  show Value.tuple _ = _
  simp only [a1, a2, f1, f2, f3, w1, w2, w3, a3, Int.zero_mul, Int.one_mul, Int.mul_zero, Int.zero_add, Int.add_zero]
theorem mul_ax (H : Heap) (n : Nat) (hn : n < 4294967296) : AX Try.prog 75 #[.int .u64 1, .int .u64 (n : Int)] H (fun v H' => v = .tuple #[.int .u64 0, .int .u64 (n : Int)] ∧ H' = H) := by
  refine AX.body (n := 30) (rs := [.tmp 4, .tmp 5]) Try.func75 rfl (by decide) rfl rfl (bC_sound _ _ _ _ ?_)
  (try (conv => whnf)); (repeat' ((fail_if_success (with_reducible refine And.intro ?_ ?_)); (fail_if_success (with_reducible refine Exists.intro ?_ ?_)); (first | ((with_reducible refine AX.id ?_); (first | (refine (mul64_ax _ n hn).mono ?_; (rintro _ X ⟨rfl, eX⟩; subst X; (conv => whnf))))) | (first | (apply Ob.of; (first | with_reducible assumption | with_reducible exact ex20 _ _ | with_reducible exact ex21 _ _ | with_reducible exact ex30 _ _ _ | with_reducible exact ex31 _ _ _ | with_reducible exact ex32 _ _ _ | rfl | (exact ald rfl rfl (by assumption) rfl) | (exact ald_agg rfl rfl rfl (by assumption) rfl)); (conv => whnf)) | (apply bIf.yes; (first | assumption | rfl); (conv => whnf)) | (apply bIf.no; (first | assumption | rfl); (conv => whnf)) | ((with_reducible refine Ob.load (by with_unfolding_all assumption) ?_); (conv => whnf)) | (apply Grows.mk; (first | exact Grow.refl _ | assumption); (conv => whnf))) | (apply bIf.of <;> intro hc <;> (conv => whnf)))))
  exact ⟨rfl, rfl⟩
/-- A list of one number over and over; it is one's own. -/
def OwnI (H : Heap) (b : Nat) (L : List Int) : Prop := H[b]? = some (.cells (.row 3) (L.map (.int .i64)))
def rowN (v z : Value) (k n : Nat) : List Value := List.replicate k v ++ List.replicate (n - k) z
theorem rowN_len (v z : Value) {k n : Nat} (h : k ≤ n) : (rowN v z k n).length = n := by simp [rowN]; omega
theorem rowN_get (v z : Value) {k n i : Nat} (h : k ≤ n) (hi : i < n) : (rowN v z k n)[i]? = some (if i < k then v else z) := by
  unfold rowN
  by_cases h1 : i < k
  · rw [List.getElem?_append_left (by simpa using h1), if_pos h1]; simp [h1]
  · rw [List.getElem?_append_right (by simp; omega), if_neg h1, List.length_replicate, List.getElem?_replicate, if_pos (by omega)]
theorem rowN_put (v z : Value) {k m n : Nat} (h : k + m ≤ n) : putL (rowN v z k n) k (List.replicate m v) = rowN v z (k + m) n := by
  apply List.ext_getElem?
  intro i
  rw [putL_get, rowN_len v z (by omega), List.length_replicate]
  by_cases hi : i < n
  · rw [rowN_get v z h hi, rowN_get v z (by omega) hi]
    by_cases h1 : k ≤ i ∧ i < k + m ∧ i < n
    · rw [if_pos h1, if_pos (by omega), List.getElem?_replicate, if_pos (by omega)]
    · rw [if_neg h1]
      congr 1
      by_cases h2 : i < k
      · rw [if_pos h2, if_pos (by omega)]
      · rw [if_neg h2, if_neg (by omega)]
  · rw [if_neg (by omega), List.getElem?_eq_none (by rw [rowN_len v z (by omega)]; omega), List.getElem?_eq_none (by rw [rowN_len v z (by omega)]; omega)]
theorem copy_row {H : Heap} {q k n : Nat} {v z : Value} {m : Ax.Mode} (hm : m.own = true) (hb : H[q]? = some (.cells m (rowN v z k n))) (h1 : 1 ≤ k) (h2 : k < n) :
    acopy Try.prog 36 (.slice (some ⟨q, 0 + k * 1, none⟩) (n - k) 1) (.slice (some ⟨q, 0, none⟩) k 1) H = some (.int .i64 ((min k (n - k) : Nat) : Int), H.set q (.cells m (rowN v z (k + min k (n - k)) n))) := by
  have hs : sliceElem Try.prog 36 = some 3 := rfl
  have ht : tsize Try.prog 3 = some 1 := rfl
  have hl := rowN_len v z (show k ≤ n by omega)
  have hsl : slotsOf (rowN v z k n) 0 (min k (n - k) * 1) = some (List.replicate (min k (n - k)) v) := by
    rw [slots_of (by omega)]
    congr 1
    apply List.ext_getElem?
    intro i
    rw [List.getElem?_take, List.drop_zero]
    by_cases hi : i < min k (n - k) * 1
    · rw [if_pos hi, rowN_get v z (by omega) (by omega), if_pos (by omega), List.getElem?_replicate, if_pos (by omega)]
    · rw [if_neg hi, List.getElem?_replicate, if_neg (by omega)]
  have hp : hput H q (0 + k * 1) (List.replicate (min k (n - k)) v) = some (H.set q (.cells m (rowN v z (k + min k (n - k)) n))) := by
    unfold hput
    rw [hb]
    simp only
    rw [if_pos ⟨hm, by rw [List.length_replicate, hl]; omega⟩, show 0 + k * 1 = k by omega, rowN_put v z (by omega)]
  unfold acopy
  simp only [hs, ht, Option.bind_some, if_neg (show ¬ min k (n - k) = 0 by omega), and_self, if_true, hblk_of hb, hsl, hp, Option.map_some]
theorem repeat_ax (H : Heap) {b : Nat} {x : Int} (hb : hblk H b = some [.int .i64 x]) (n : Nat) (h1 : 1 ≤ n) (hn : n < 65536) :
    AX Try.prog 62 #[.slice (some ⟨b, 0, none⟩) 1 1, .int .i64 (n : Int)] H (fun v H' => ∃ q, v = .slice (some ⟨q, 0, none⟩) n 1 ∧ H.length ≤ q ∧ OwnI H' q (List.replicate n x) ∧ Grow H H') := by
  refine AX.body (n := 48) (rs := [.tmp 4]) Try.func62 rfl (by decide) rfl rfl (bC_sound _ _ _ _ ?_)
  have d1 : decide ((n : Int) < 0) = false := decide_eq_false (by omega)
  have w1 : IntKind.u64.wrap (n : Int) = n := wu64 (by omega) (by omega)
  have w3 : IntKind.u64.wrap ((1 : Nat) : Int) = 1 := wu64 (by omega) (by omega)
  have w2 : IntKind.i64.wrap (n : Int) = n := wrap_i64 (by omega) (by omega)
  (try (conv => whnf)); (repeat ((fail_if_success (with_reducible refine And.intro ?_ ?_)); (fail_if_success (with_reducible refine Exists.intro ?_ ?_)); (first | (apply Ob.of; (first | with_reducible assumption | with_reducible exact ex20 _ _ | with_reducible exact ex21 _ _ | with_reducible exact ex30 _ _ _ | with_reducible exact ex31 _ _ _ | with_reducible exact ex32 _ _ _ | rfl | (exact ald rfl rfl (by assumption) rfl) | (exact ald_agg rfl rfl rfl (by assumption) rfl)); (conv => whnf)) | (apply bIf.yes; (first | assumption | rfl); (conv => whnf)) | (apply bIf.no; (first | assumption | rfl); (conv => whnf)) | ((with_reducible refine Ob.load (by with_unfolding_all assumption) ?_); (conv => whnf)) | (apply Grows.mk; (first | exact Grow.refl _ | assumption); (conv => whnf)))))
  rw [w1, w3]
  refine (mul_ax H n (by omega)).mono ?_
  rintro _ X ⟨rfl, e⟩
  subst X
  have d2 : decide ((n : Int) > 9223372036854775807) = false := decide_eq_false (by omega)
  (try (conv => whnf)); (repeat ((fail_if_success (with_reducible refine And.intro ?_ ?_)); (fail_if_success (with_reducible refine Exists.intro ?_ ?_)); (first | (apply Ob.of; (first | with_reducible assumption | with_reducible exact ex20 _ _ | with_reducible exact ex21 _ _ | with_reducible exact ex30 _ _ _ | with_reducible exact ex31 _ _ _ | with_reducible exact ex32 _ _ _ | rfl | (exact ald rfl rfl (by assumption) rfl) | (exact ald_agg rfl rfl rfl (by assumption) rfl)); (conv => whnf)) | (apply bIf.yes; (first | assumption | rfl); (conv => whnf)) | (apply bIf.no; (first | assumption | rfl); (conv => whnf)) | ((with_reducible refine Ob.load (by with_unfolding_all assumption) ?_); (conv => whnf)) | (apply Grows.mk; (first | exact Grow.refl _ | assumption); (conv => whnf)))))
  rw [w2]
  refine Ob2.of (make_slice rfl rfl rfl rfl (by decide) rfl (by omega) (by omega) (by show 8 * (n : Int) ≤ _; omega)) ?_
  rw [zeros_one, Int.toNat_natCast]
  have g1 : Grow H (H ++ [.cells (.row 3) (List.replicate n (.int .i64 0))]) := .push _ _
  have hb1 := g1.hblk hb
  have a1 : (H ++ [.cells (.row 3) (List.replicate n (.int .i64 0))])[H.length]? = some (.cells (.row 3) (List.replicate n (.int .i64 0))) := at_push _ _
  revert g1 hb1 a1
  generalize H ++ [.cells (.row 3) (List.replicate n (.int .i64 0))] = H1
  intro g1 hb1 a1
  (try (conv => whnf)); (repeat ((fail_if_success (with_reducible refine And.intro ?_ ?_)); (fail_if_success (with_reducible refine Exists.intro ?_ ?_)); (first | (apply Ob.of; (first | with_reducible assumption | with_reducible exact ex20 _ _ | with_reducible exact ex21 _ _ | with_reducible exact ex30 _ _ _ | with_reducible exact ex31 _ _ _ | with_reducible exact ex32 _ _ _ | rfl | (exact ald rfl rfl (by assumption) rfl) | (exact ald_agg rfl rfl rfl (by assumption) rfl)); (conv => whnf)) | (apply bIf.yes; (first | assumption | rfl); (conv => whnf)) | (apply bIf.no; (first | assumption | rfl); (conv => whnf)) | ((with_reducible refine Ob.load (by with_unfolding_all assumption) ?_); (conv => whnf)) | (apply Grows.mk; (first | exact Grow.refl _ | assumption); (conv => whnf)))))
  have hc : acopy Try.prog 36 (.slice (some ⟨H.length, 0, none⟩) n 1) (.slice (some ⟨b, 0, none⟩) 1 1) H1 = some (.int .i64 1, H1.set H.length (.cells (.row 3) (rowN (.int .i64 x) (.int .i64 0) 1 n))) := by
    have hs : sliceElem Try.prog 36 = some 3 := rfl
    have ht : tsize Try.prog 3 = some 1 := rfl
    have hm : min 1 n = 1 := by omega
    have hp : hput H1 H.length 0 [.int .i64 x] = some (H1.set H.length (.cells (.row 3) (rowN (.int .i64 x) (.int .i64 0) 1 n))) := by
      unfold hput
      rw [a1]
      simp only
      rw [if_pos ⟨rfl, by simp; omega⟩]
      have := rowN_put (.int .i64 x) (.int .i64 0) (k := 0) (m := 1) (n := n) (by omega)
      simp only [rowN, List.replicate_zero, List.nil_append, Nat.sub_zero, Nat.zero_add, List.replicate_one] at this
      rw [this]; rfl
    unfold acopy
    simp only [hs, ht, Option.bind_some, hm, if_neg (show ¬ (1 = 0) by omega), and_self, if_true, hb1]
    simp [slotsOf, hp]
  refine Ob2.of hc ?_
  have hlt : H.length < H1.length := lt_at a1
  have g2 : Grow H (H1.set H.length (.cells (.row 3) (rowN (.int .i64 x) (.int .i64 0) 1 n))) := g1.set (by omega) _
  have a2 : (H1.set H.length (.cells (.row 3) (rowN (.int .i64 x) (.int .i64 0) 1 n)))[H.length]? = some (.cells (.row 3) (rowN (.int .i64 x) (.int .i64 0) 1 n)) := at_set a1
  revert g2 a2
  generalize H1.set H.length (.cells (.row 3) (rowN (.int .i64 x) (.int .i64 0) 1 n)) = H2
  intro g2 a2
  (try (conv => whnf)); (repeat ((fail_if_success (with_reducible refine And.intro ?_ ?_)); (fail_if_success (with_reducible refine Exists.intro ?_ ?_)); (first | (apply Ob.of; (first | with_reducible assumption | with_reducible exact ex20 _ _ | with_reducible exact ex21 _ _ | with_reducible exact ex30 _ _ _ | with_reducible exact ex31 _ _ _ | with_reducible exact ex32 _ _ _ | rfl | (exact ald rfl rfl (by assumption) rfl) | (exact ald_agg rfl rfl rfl (by assumption) rfl)); (conv => whnf)) | (apply bIf.yes; (first | assumption | rfl); (conv => whnf)) | (apply bIf.no; (first | assumption | rfl); (conv => whnf)) | ((with_reducible refine Ob.load (by with_unfolding_all assumption) ?_); (conv => whnf)) | (apply Grows.mk; (first | exact Grow.refl _ | assumption); (conv => whnf)))))
  refine SW.loop (α := Nat) (fun k => [(7, .slice (some ⟨H.length, 0, none⟩) n 1), (8, .int .i64 (k : Int))]) (fun k H' => 1 ≤ k ∧ k ≤ n ∧ Grow H H' ∧ H'[H.length]? = some (.cells (.row 3) (rowN (.int .i64 x) (.int .i64 0) k n))) (fun k => n - k) ⟨1, ⟨rfl, rfl, trivial⟩, by omega, by omega, g2, a2⟩ ?_
  rintro k H3 ⟨k1, k2, g3, a3⟩
  refine bC_sound _ _ _ _ ?_
  by_cases hk : k < n
  · have d3 : decide ((k : Int) < (n : Int)) = true := decide_eq_true (by omega)
    (try (conv => whnf)); (repeat ((fail_if_success (with_reducible refine And.intro ?_ ?_)); (fail_if_success (with_reducible refine Exists.intro ?_ ?_)); (first | (apply Ob.of; (first | with_reducible assumption | with_reducible exact ex20 _ _ | with_reducible exact ex21 _ _ | with_reducible exact ex30 _ _ _ | with_reducible exact ex31 _ _ _ | with_reducible exact ex32 _ _ _ | rfl | (exact ald rfl rfl (by assumption) rfl) | (exact ald_agg rfl rfl rfl (by assumption) rfl)); (conv => whnf)) | (apply bIf.yes; (first | assumption | rfl); (conv => whnf)) | (apply bIf.no; (first | assumption | rfl); (conv => whnf)) | ((with_reducible refine Ob.load (by with_unfolding_all assumption) ?_); (conv => whnf)) | (apply Grows.mk; (first | exact Grow.refl _ | assumption); (conv => whnf)))))
    have s1 : aslice Try.prog 36 (.slice (some ⟨H.length, 0, none⟩) n 1) (some (.int .i64 (k : Int))) none none = some (.slice (some ⟨H.length, 0 + k * 1, none⟩) (n - k) 1) := by
      have := slice_lo (P := Try.prog) (t := 36) (b := H.length) (off := 0) (len := n) (kd := .i64) (n := (k : Int)) rfl (k := 1) rfl (by omega) (by omega)
      rwa [Int.toNat_natCast] at this
    have s2 : aslice Try.prog 36 (.slice (some ⟨H.length, 0, none⟩) n 1) none (some (.int .i64 (k : Int))) none = some (.slice (some ⟨H.length, 0, none⟩) k 1) := by
      have := slice_hi (P := Try.prog) (t := 36) (b := H.length) (off := 0) (len := n) (kd := .i64) (n := (k : Int)) rfl (k := 1) rfl (by omega) (by omega)
      rwa [Int.toNat_natCast] at this
    have s3 := copy_row rfl a3 k1 hk
    apply SW.draw2 [([], [39, 40, 41, 42, 43, 44, 45], 0, 1, false), ([], [38, 40, 42, 43, 44], 0, 0, false), ([], [38, 39, 42, 43, 44], 0, 0, false), ([(39, 1), (40, 2)], [38, 39, 40, 42, 43, 44], 0, 0, false), ([], [38, 39, 40, 41, 43], 0, 0, false), ([], [38, 39, 40, 41, 42], 0, 0, false), ([(42, 4), (43, 5)], [38, 39, 40, 41, 42, 43], 0, 0, false), ([(39, 1), (40, 2), (41, 3), (42, 4), (43, 5), (44, 6)], [38, 39, 40, 41, 42, 43, 44], 0, 0, true), ([(38, 0), (39, 1), (40, 2), (41, 3), (42, 4), (43, 5), (44, 6), (45, 7)], [38, 39, 40, 41, 42, 43, 44, 45], 1, 0, false), ([(38, 0), (39, 1), (40, 2), (41, 3), (42, 4), (43, 5), (44, 6), (45, 7), (46, 8)], [38, 39, 40, 41, 42, 43, 44, 45, 46], 1, 0, false)]
      [(38, 0), (39, 1), (40, 2), (41, 3), (42, 4), (43, 5), (44, 6), (45, 7), (46, 8), (8, 9)] 1
      [(7, _), (8, _)] [_, _, _, _, _, _, _, _, _, _] [H3, H3.set H.length (.cells (.row 3) (rowN (.int .i64 x) (.int .i64 0) (k + min k (n - k)) n))] rfl (by kernel_rfl)
    case hF => exact ⟨rfl, rfl, trivial⟩
    case h0 => rfl
    case steps =>
      (try (conv => whnf)); repeat' (first | ((with_reducible refine Ob.of s1 ?_); (conv => whnf)) | ((with_reducible refine Ob.of s2 ?_); (conv => whnf)) | ((with_reducible refine Ob.of s3 ?_); (conv => whnf)) | ((with_reducible refine Ob2.of s1 ?_); (conv => whnf)) | ((with_reducible refine Ob2.of s2 ?_); (conv => whnf)) | ((with_reducible refine Ob2.of s3 ?_); (conv => whnf)) | (refine And.intro ?_ ?_ <;> (conv => whnf)) | exact Leaf.mk rfl rfl | exact True.intro | (refine Ob.of rfl ?_; (conv => whnf)) | (refine Ob2.of (by rfl) ?_; (conv => whnf)) | ((fail_if_success (with_reducible refine And.intro ?_ ?_)); (fail_if_success (with_reducible refine Exists.intro ?_ ?_)); (first | (apply Ob.of; (first | with_reducible assumption | with_reducible exact ex20 _ _ | with_reducible exact ex21 _ _ | with_reducible exact ex30 _ _ _ | with_reducible exact ex31 _ _ _ | with_reducible exact ex32 _ _ _ | rfl | (exact ald rfl rfl (by assumption) rfl) | (exact ald_agg rfl rfl rfl (by assumption) rfl)); (conv => whnf)) | (apply bIf.yes; (first | assumption | rfl); (conv => whnf)) | (apply bIf.no; (first | assumption | rfl); (conv => whnf)) | ((with_reducible refine Ob.load (by with_unfolding_all assumption) ?_); (conv => whnf)) | (apply Grows.mk; (first | exact Grow.refl _ | assumption); (conv => whnf)))))
    (try (conv => whnf)); (repeat ((fail_if_success (with_reducible refine And.intro ?_ ?_)); (fail_if_success (with_reducible refine Exists.intro ?_ ?_)); (first | (apply Ob.of; (first | with_reducible assumption | with_reducible exact ex20 _ _ | with_reducible exact ex21 _ _ | with_reducible exact ex30 _ _ _ | with_reducible exact ex31 _ _ _ | with_reducible exact ex32 _ _ _ | rfl | (exact ald rfl rfl (by assumption) rfl) | (exact ald_agg rfl rfl rfl (by assumption) rfl)); (conv => whnf)) | (apply bIf.yes; (first | assumption | rfl); (conv => whnf)) | (apply bIf.no; (first | assumption | rfl); (conv => whnf)) | ((with_reducible refine Ob.load (by with_unfolding_all assumption) ?_); (conv => whnf)) | (apply Grows.mk; (first | exact Grow.refl _ | assumption); (conv => whnf)))))
    have w : IntKind.i64.wrap ((k : Int) + ((min k (n - k) : Nat) : Int)) = ((k + min k (n - k) : Nat) : Int) := by rw [wrap_i64 (by omega) (by omega)]; omega
    exact ⟨k + min k (n - k), ⟨rfl, congrArg (fun z => some (Value.int .i64 z)) w, trivial⟩, ⟨by show 1 ≤ _; omega, by show _ ≤ n; omega, g3.set (by omega) _, at_set a3⟩, by show n - (k + min k (n - k)) < n - k; omega⟩
  · have d3 : decide ((k : Int) < (n : Int)) = false := decide_eq_false (by omega)
    have : k = n := by omega
    subst this
    (try (conv => whnf)); (repeat ((fail_if_success (with_reducible refine And.intro ?_ ?_)); (fail_if_success (with_reducible refine Exists.intro ?_ ?_)); (first | (apply Ob.of; (first | with_reducible assumption | with_reducible exact ex20 _ _ | with_reducible exact ex21 _ _ | with_reducible exact ex30 _ _ _ | with_reducible exact ex31 _ _ _ | with_reducible exact ex32 _ _ _ | rfl | (exact ald rfl rfl (by assumption) rfl) | (exact ald_agg rfl rfl rfl (by assumption) rfl)); (conv => whnf)) | (apply bIf.yes; (first | assumption | rfl); (conv => whnf)) | (apply bIf.no; (first | assumption | rfl); (conv => whnf)) | ((with_reducible refine Ob.load (by with_unfolding_all assumption) ?_); (conv => whnf)) | (apply Grows.mk; (first | exact Grow.refl _ | assumption); (conv => whnf)))))
    refine ⟨H.length, rfl, Nat.le_refl _, ?_, g3⟩
    unfold OwnI
    rw [a3, List.map_replicate]
    simp [rowN]
end Go.Proofs.Ytdlanbfbbopfhaa
