/- The law TextPlain, told of abstract memory: whatever the input, it answers true. No condition. -/
import Derived.Test.YtffgdcmiacooaaaTy
import Derived.Test.YtffgdcmiacooaaaTx7
import Derived.Test.YtffgdcmiacooaaaTx10
set_option linter.unusedVariables false
set_option linter.unusedSimpArgs false
set_option maxRecDepth 20000
namespace Go.Proofs.Ytffgdcmiacooaaa
open Go Ax
theorem slice_str {s : ByteArray} {n : Int} (h0 : 0 ≤ n) (h1 : n ≤ (s.size : Int)) : aslice Try.prog 9 (.string s) none (some (.int .i64 n)) none = some (.string (s.extract 0 n.toNat)) := by
  simp [aslice, show Try.prog.underlying 9 = some .string from rfl, natIn, h0, h1]
theorem ext_data (s : ByteArray) (n : Nat) : (s.extract 0 n).data.toList = s.data.toList.take n := by
  simp [ByteArray.data_extract, List.extract]
theorem quoteS_len' (L : List UInt8) : (quoteS L).length ≤ 4 * L.length + 2 := by
  have := flat_len L L.length
  rw [List.take_length] at this
  simp only [quoteS, List.length_append, List.length_cons, List.length_nil]
  omega
/-- What is taken is not longer than the text. -/
theorem tk_len : ∀ (f : Nat) (L acc : List UInt8) (k : Nat) (x : List UInt8) (n : Nat), tkF f L k acc = (x, n, 0) → x.length + k ≤ acc.length + n := by
  intro f
  induction f with
  | zero => intro L acc k x n h; simp [tkF] at h
  | succ f ih =>
    intro L acc k x n h
    rcases tk_cases h with ⟨hc, rfl, rfl, _⟩ | ⟨c, hc, h34, hp, h0⟩ | ⟨hc, h1, h0⟩ | ⟨_, h1, _⟩
    · omega
    · have := ih L _ _ x n h0; simp at this; omega
    · have := ih L _ _ x n h0
      obtain ⟨p1, p2, p3⟩ := escS_pos L (k + 1)
      have := p3 h1
      simp at *
      omega
    · exact absurd h1 (by decide)
theorem take_len {L x : List UInt8} {n : Nat} (h : takeS L = (x, n, 0)) : x.length ≤ L.length := by
  obtain ⟨_, h2, _⟩ := take_good h
  unfold takeS at h
  cases hc : L[0]? with
  | none => simp [hc] at h
  | some c =>
    simp only [hc] at h
    split at h
    · have := tk_len _ L [] 1 x n h; simp at this; omega
    · simp at h
theorem TextPlain_ax (H : Heap) (c0 : List Value) (x0 : ByteArray) (hn : NoOwn H) (R0 : ty9.R H c0 x0) (o0 : ty9.ok x0) :
    AX Try.prog 6 #[arg1 c0] H fun v _ => v = .bool true := by
  obtain rfl : c0 = [.string x0] := R0
  show AX Try.prog 6 #[.string x0] H _
  have hsl : x0.data.toList.length = x0.size := by simp
  refine AX.body (n := 124) (rs := [.tmp 2]) Try.func6 rfl (by decide) rfl rfl (bC_sound _ _ _ _ ?_)
  by_cases hl : x0.size ≤ 1000
  rotate_left
  · have d1 : decide ((x0.size : Int) > 1000) = true := decide_eq_true (by omega)
    (try (conv => whnf)); (repeat (first | (refine Ob.of (by first | with_reducible assumption | rfl | (exact ald rfl rfl (by assumption) rfl) | (exact ald_agg rfl rfl rfl (by assumption) rfl)) ?_; (conv => whnf)) | (refine bIf.yes (by first | assumption | rfl) ?_; (conv => whnf)) | (refine bIf.no (by first | assumption | rfl) ?_; (conv => whnf))))
    refine (works_ax H).mono ?_
    rintro _ X ⟨rfl, e⟩
    (try (conv => whnf)); (repeat (first | (refine Ob.of (by first | with_reducible assumption | rfl | (exact ald rfl rfl (by assumption) rfl) | (exact ald_agg rfl rfl rfl (by assumption) rfl)) ?_; (conv => whnf)) | (refine bIf.yes (by first | assumption | rfl) ?_; (conv => whnf)) | (refine bIf.no (by first | assumption | rfl) ?_; (conv => whnf))))
    rfl
  have d1 : decide ((x0.size : Int) > 1000) = false := decide_eq_false (by omega)
  (try (conv => whnf)); (repeat (first | (refine Ob.of (by first | with_reducible assumption | rfl | (exact ald rfl rfl (by assumption) rfl) | (exact ald_agg rfl rfl rfl (by assumption) rfl)) ?_; (conv => whnf)) | (refine bIf.yes (by first | assumption | rfl) ?_; (conv => whnf)) | (refine bIf.no (by first | assumption | rfl) ?_; (conv => whnf))))
  refine (quote_ax H (s := x0) (by omega)).mono ?_
  rintro _ X ⟨rfl, e⟩
  subst X
  obtain ⟨q, hq⟩ : ∃ q : ByteArray, q = ⟨(quoteS x0.data.toList).toArray⟩ := ⟨_, rfl⟩
  have hqd : q.data.toList = quoteS x0.data.toList := by rw [hq]
  have hql := quoteS_len' x0.data.toList
  have hqz : q.size = (quoteS x0.data.toList).length := by rw [hq]; simp [ByteArray.size]
  rw [← hq]
  (try (conv => whnf)); (repeat (first | (refine Ob.of (by first | with_reducible assumption | rfl | (exact ald rfl rfl (by assumption) rfl) | (exact ald_agg rfl rfl rfl (by assumption) rfl)) ?_; (conv => whnf)) | (refine bIf.yes (by first | assumption | rfl) ?_; (conv => whnf)) | (refine bIf.no (by first | assumption | rfl) ?_; (conv => whnf))))
  refine SW.loop (α := Nat) (fun i => [(0, .string x0), (3, .string q), (4, .int .i64 (i : Int))]) (fun i _ => i ≤ q.size) (fun i => q.size - i) ⟨0, ⟨rfl, rfl, rfl, trivial⟩, Nat.zero_le _⟩ ?_
  intro i H3 hi
  refine bC_sound _ _ _ _ ?_
  have w1 : IntKind.i64.wrap ((i : Int) + 1) = ((i + 1 : Nat) : Int) := wrap_nat (by omega)
  cases hc : q.data.toList[i]? with
  | some c =>
    have hlt := str_lt hc
    have d2 : decide ((i : Int) < (q.size : Int)) = true := decide_eq_true (by omega)
    have ix := aix hc
    have hin := quote_in (L := x0.data.toList) (c := c) (by rw [← hqd]; exact List.mem_of_getElem? hc)
    have d3 : decide ((c.toNat : Int) < 32) = false := decide_eq_false (by omega)
    have d4 : decide ((c.toNat : Int) > 126) = false := decide_eq_false (by omega)
    (try (conv => whnf)); (repeat (first | (refine Ob.of (by first | with_reducible assumption | rfl | (exact ald rfl rfl (by assumption) rfl) | (exact ald_agg rfl rfl rfl (by assumption) rfl)) ?_; (conv => whnf)) | (refine bIf.yes (by first | assumption | rfl) ?_; (conv => whnf)) | (refine bIf.no (by first | assumption | rfl) ?_; (conv => whnf))))
    exact ⟨i + 1, ⟨rfl, rfl, congrArg (fun z => some (Value.int .i64 z)) w1, trivial⟩, hlt, by show q.size - (i + 1) < q.size - i; omega⟩
  | none =>
    have hge := str_ge hc
    have d2 : decide ((i : Int) < (q.size : Int)) = false := decide_eq_false (by omega)
    (try (conv => whnf)); (repeat (first | (refine Ob.of (by first | with_reducible assumption | rfl | (exact ald rfl rfl (by assumption) rfl) | (exact ald_agg rfl rfl rfl (by assumption) rfl)) ?_; (conv => whnf)) | (refine bIf.yes (by first | assumption | rfl) ?_; (conv => whnf)) | (refine bIf.no (by first | assumption | rfl) ?_; (conv => whnf))))
    refine (take_ax H3 (s := x0) (by omega)).mono ?_
    rintro v X ⟨hv, e⟩
    subst X
    obtain ⟨x, n, er, hR⟩ : ∃ x n, ∃ er, takeS x0.data.toList = (x, n, er) := ⟨_, _, _, rfl⟩
    rw [hR] at hv
    subst hv
    by_cases he : er = 0
    rotate_left
    · obtain ⟨rfl, hnl, rfl⟩ := take_bad hR he
      have d5 : decide ((n : Int) ≤ (x0.size : Int)) = true := decide_eq_true (by omega)
      (try (conv => whnf)); (repeat (first | (refine Ob.of (by first | with_reducible assumption | rfl | (exact ald rfl rfl (by assumption) rfl) | (exact ald_agg rfl rfl rfl (by assumption) rfl)) ?_; (conv => whnf)) | (refine bIf.yes (by first | assumption | rfl) ?_; (conv => whnf)) | (refine bIf.no (by first | assumption | rfl) ?_; (conv => whnf))))
      refine (works_ax H3).mono ?_
      rintro _ X ⟨rfl, e⟩
      (try (conv => whnf)); (repeat (first | (refine Ob.of (by first | with_reducible assumption | rfl | (exact ald rfl rfl (by assumption) rfl) | (exact ald_agg rfl rfl rfl (by assumption) rfl)) ?_; (conv => whnf)) | (refine bIf.yes (by first | assumption | rfl) ?_; (conv => whnf)) | (refine bIf.no (by first | assumption | rfl) ?_; (conv => whnf))))
      rfl
    subst he
    obtain ⟨g1, g2, g3, g4⟩ := take_good hR
    have hxl := take_len hR
    have d5 : decide ((n : Int) < 1) = false := decide_eq_false (by omega)
    have d6 : decide ((n : Int) > (x0.size : Int)) = false := decide_eq_false (by omega)
    have wn : IntKind.i64.wrap ((n : Int) - 1) = ((n - 1 : Nat) : Int) := by rw [wrap_i64 (by omega) (by omega)]; omega
    have s1 := slice_str (s := x0) (n := (n : Int)) (by omega) (by omega)
    have s2 : aslice Try.prog 9 (.string x0) none (some (.int .i64 (IntKind.i64.wrap ((n : Int) - 1)))) none = some (.string (x0.extract 0 (n - 1))) := by
      rw [wn]
      have := slice_str (s := x0) (n := ((n - 1 : Nat) : Int)) (by omega) (by omega)
      simpa using this
    (try (conv => whnf)); (repeat (first | (refine Ob.of (by first | with_reducible assumption | rfl | (exact ald rfl rfl (by assumption) rfl) | (exact ald_agg rfl rfl rfl (by assumption) rfl)) ?_; (conv => whnf)) | (refine bIf.yes (by first | assumption | rfl) ?_; (conv => whnf)) | (refine bIf.no (by first | assumption | rfl) ?_; (conv => whnf))))
    refine Ob.of s1 ?_
    (try (conv => whnf)); (repeat (first | (refine Ob.of (by first | with_reducible assumption | rfl | (exact ald rfl rfl (by assumption) rfl) | (exact ald_agg rfl rfl rfl (by assumption) rfl)) ?_; (conv => whnf)) | (refine bIf.yes (by first | assumption | rfl) ?_; (conv => whnf)) | (refine bIf.no (by first | assumption | rfl) ?_; (conv => whnf))))
    refine (take_ax H3 (s := x0.extract 0 ((n : Int).toNat)) (by rw [ByteArray.size_extract]; omega)).mono ?_
    rintro v X ⟨hv, e⟩
    subst X
    rw [ext_data, Int.toNat_natCast, g3] at hv
    subst hv
    (try (conv => whnf)); (repeat (first | (refine Ob.of (by first | with_reducible assumption | rfl | (exact ald rfl rfl (by assumption) rfl) | (exact ald_agg rfl rfl rfl (by assumption) rfl)) ?_; (conv => whnf)) | (refine bIf.yes (by first | assumption | rfl) ?_; (conv => whnf)) | (refine bIf.no (by first | assumption | rfl) ?_; (conv => whnf))))
    refine (take_ax H3 (s := x0.extract 0 (n - 1)) (by rw [ByteArray.size_extract]; omega)).mono ?_
    rintro v X ⟨hv, e⟩
    subst X
    rw [ext_data, g4] at hv
    subst hv
    have hxz : (⟨x.toArray⟩ : ByteArray).size = x.length := by simp [ByteArray.size]
    have hxq := quoteS_len' x
    (try (conv => whnf)); (repeat (first | (refine Ob.of (by first | with_reducible assumption | rfl | (exact ald rfl rfl (by assumption) rfl) | (exact ald_agg rfl rfl rfl (by assumption) rfl)) ?_; (conv => whnf)) | (refine bIf.yes (by first | assumption | rfl) ?_; (conv => whnf)) | (refine bIf.no (by first | assumption | rfl) ?_; (conv => whnf))))
    refine (quote_ax H3 (s := ⟨x.toArray⟩) (by rw [hxz]; omega)).mono ?_
    rintro v X ⟨hv, e⟩
    subst X
    replace hv : v = .string ⟨(quoteS x).toArray⟩ := hv
    subst hv
    have hqq : (⟨(quoteS x).toArray⟩ : ByteArray).size = (quoteS x).length := by simp [ByteArray.size]
    (try (conv => whnf)); (repeat (first | (refine Ob.of (by first | with_reducible assumption | rfl | (exact ald rfl rfl (by assumption) rfl) | (exact ald_agg rfl rfl rfl (by assumption) rfl)) ?_; (conv => whnf)) | (refine bIf.yes (by first | assumption | rfl) ?_; (conv => whnf)) | (refine bIf.no (by first | assumption | rfl) ?_; (conv => whnf))))
    refine (take_ax H3 (s := ⟨(quoteS x).toArray⟩) (by rw [hqq]; omega)).mono ?_
    rintro v X ⟨hv, e⟩
    subst X
    have hb := back x []
    rw [List.append_nil] at hb
    replace hv : v = takeV (takeS (quoteS x)) := hv
    rw [hb] at hv
    subst hv
    have b1 : ((⟨x.toArray⟩ : ByteArray) == ⟨x.toArray⟩) = true := by rw [ba_beq]; exact decide_eq_true rfl
    have b2 : ((n : Int) == (n : Int)) = true := by simp
    have b3 : (((n - 1 : Nat) : Int) == IntKind.i64.wrap ((n : Int) - 1)) = true := by rw [wn]; simp
    (try (conv => whnf)); (repeat (first | (refine Ob.of (by first | with_reducible assumption | rfl | (exact ald rfl rfl (by assumption) rfl) | (exact ald_agg rfl rfl rfl (by assumption) rfl)) ?_; (conv => whnf)) | (refine bIf.yes (by first | assumption | rfl) ?_; (conv => whnf)) | (refine bIf.no (by first | assumption | rfl) ?_; (conv => whnf))))
    refine (works_ax H3).mono ?_
    rintro _ X ⟨rfl, e⟩
    (try (conv => whnf)); (repeat (first | (refine Ob.of (by first | with_reducible assumption | rfl | (exact ald rfl rfl (by assumption) rfl) | (exact ald_agg rfl rfl rfl (by assumption) rfl)) ?_; (conv => whnf)) | (refine bIf.yes (by first | assumption | rfl) ?_; (conv => whnf)) | (refine bIf.no (by first | assumption | rfl) ?_; (conv => whnf))))
    rfl
end Go.Proofs.Ytffgdcmiacooaaa
