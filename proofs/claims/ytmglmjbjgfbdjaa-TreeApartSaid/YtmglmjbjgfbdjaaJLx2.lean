/- Package lex: bytes, keys and signs. -/
import Derived.Test.YtmglmjbjgfbdjaaJTy1
set_option linter.unusedVariables false
set_option linter.unusedSimpArgs false
set_option maxRecDepth 20000
set_option maxHeartbeats 4000000
namespace Go.Proofs.Ytmglmjbjgfbdjaa
open Go Ax
theorem digitB_eq (x : Int) : digitB x = (decide (x ≥ 48) && decide (x ≤ 57)) := by
  unfold digitB
  by_cases h1 : x ≥ 48
  · by_cases h2 : x ≤ 57
    · simp [h1, h2]
    · simp [h1, h2]; omega
  · simp [h1]
    try omega
theorem lxIsKey_ax (H : Heap) (s : ByteArray) : AX Try.prog 79 #[.string s] H (fun v H' => v = .bool (keyS s.data.toList) ∧ H' = H) := by
  refine AX.body (n := 24) (rs := [.tmp 2]) Try.func79 rfl (by decide) rfl rfl (bC_sound _ _ _ _ ?_)
  (try (conv => whnf)); (repeat' ((fail_if_success (with_reducible refine And.intro ?_ ?_)); (fail_if_success (with_reducible refine Exists.intro ?_ ?_)); (first | (refine step0 ?_) | (apply bIf.of <;> intro hc <;> (conv => whnf)))))
  all_goals
    refine ⟨congrArg Value.bool (Eq.symm ?_), rfl⟩
    simp only [ba_list, decide_eq_true_eq, decide_eq_false_iff_not] at *
    simp_all [keyS, keysL]
instance : LawfulBEq ByteArray where
  eq_of_beq {a b} h := by rw [ba_beq] at h; exact of_decide_eq_true h
  rfl {a} := by rw [ba_beq]; exact decide_eq_true rfl
theorem slots_gt {c l : List Value} {o n j : Nat} {x : Value} (h : slotsOf c o n = some l) (hx : l[j]? = some x) : c[o + j]? = some x := by
  unfold slotsOf at h
  split at h
  · simp only [Option.some.injEq] at h
    subst h
    rw [List.getElem?_take] at hx
    split at hx
    · rw [List.getElem?_drop] at hx; exact hx
    · simp at hx
  · simp at h
theorem str_at2 {H : Heap} {v : Value} {L : List ByteArray} (h : RL 1 strR H v L) {i : Nat} {x : ByteArray} (hx : L[i]? = some x) :
    ∃ p, aindexAddr Try.prog 22 v (.int .i64 (i : Int)) = some p ∧ ∀ H', Grow H H' → aload Try.prog 9 p H' = some (.string x) := by
  obtain ⟨b, c, l, h1, h2, h3, h4⟩ := h.at (P := Try.prog) (t := 22) (e := 9) rfl rfl hx
  have h4 : l = [.string x] := h4
  subst h4
  exact ⟨_, h1, fun H' g => ald rfl rfl (g.hblk h2) (slots_gt (j := 0) h3 rfl)⟩
theorem has_ax {H : Heap} {v : Value} {L : List ByteArray} (h : RL 1 strR H v L) (hL : L.length ≤ 1000000) (s : ByteArray) : AX Try.prog 83 #[v, .string s] H (fun r H' => r = .bool (decide (s ∈ L)) ∧ H' = H) := by
  have la := h.len (P := Try.prog) (t := 22) (e := 9) rfl H
  refine AX.body (n := 18) (rs := [.tmp 4]) Try.func83 rfl (by decide) rfl rfl (bC_sound _ _ _ _ ?_)
  refine run ?_
  refine SW.loop (α := Nat) (fun i => [(0, v), (1, .string s), (5, .int .i64 (i : Int))]) (fun i X => X = H ∧ i ≤ L.length ∧ s ∉ L.take i) (fun i => L.length - i) ⟨0, ⟨rfl, rfl, rfl, trivial⟩, rfl, Nat.zero_le _, by simp⟩ ?_
  rintro i X ⟨rfl, hi, ht⟩
  refine bC_sound _ _ _ _ ?_
  by_cases hil : i < L.length
  · have d2 : decide ((i : Int) < (L.length : Int)) = true := decide_eq_true (by omega)
    obtain ⟨x, hx⟩ := get_lt (L := L) (m := i) hil
    obtain ⟨p, p1, p2⟩ := str_at2 h hx
    have p3 := p2 X (.refl _)
    by_cases hxn : x = s
    · have d3 : (x == s) = true := by rw [ba_beq]; exact decide_eq_true hxn
      refine run ?_
      exact ⟨by rw [decide_eq_true (by rw [← hxn]; exact List.mem_of_getElem? hx)]; rfl, rfl⟩
    · have d3 : (x == s) = false := by rw [ba_beq]; exact decide_eq_false hxn
      have w1 := w_succ (k := i) (by omega)
      refine run ?_
      refine ⟨i + 1, ⟨rfl, rfl, congrArg (fun z => some (Value.int .i64 z)) w1, trivial⟩, ⟨rfl, by omega, ?_⟩, by show L.length - (i + 1) < L.length - i; omega⟩
      rw [List.take_add_one, hx]
      simp only [Option.toList_some, List.mem_append, List.mem_singleton, not_or]
      exact ⟨ht, fun e => hxn e.symm⟩
  · have d2 : decide ((i : Int) < (L.length : Int)) = false := decide_eq_false (by omega)
    refine run ?_
    rw [List.take_of_length_le (by omega)] at ht
    exact ⟨by rw [decide_eq_false ht]; rfl, rfl⟩
theorem keys_ax (H : Heap) : AX Try.prog 84 #[] H (fun v H' => RL 1 strR H' v (keysL.map bstr) ∧ Grow H H') := by
  refine AX.body (n := 2) (rs := [.tmp 0]) Try.func84 rfl (by decide) rfl rfl (bC_sound _ _ _ _ ?_)
  refine run ?_
  refine Ob2.lay (H := H) (.cells (.row 9) ((keysL.map bstr).map Value.string)) (.slice (some ⟨H.length, 0, none⟩) 19 1) rfl fun H1 a1 g1 l1 => ?_
  refine run ?_
  exact ⟨RL.own (L := keysL.map bstr) (g := Value.string) (fun _ _ => rfl) a1, g1⟩
theorem mem_bstr {s : ByteArray} {L : List Bs} : s ∈ L.map bstr ↔ s.data.toList ∈ L := by
  rw [List.mem_map]
  constructor
  · rintro ⟨l, h, rfl⟩; exact h
  · intro h; exact ⟨_, h, bstr_data s⟩
theorem rxIsKey_ax (H : Heap) (s : ByteArray) : AX Try.prog 75 #[.string s] H (fun v H' => v = .bool (keyS s.data.toList) ∧ H' = H) := by
  refine AX.quiet ?_
  suffices hh : AX Try.prog 75 #[.string s] H (fun v H' => v = .bool (keyS s.data.toList) ∧ Grow H H') from hh.mono fun v _ ⟨e, g⟩ => ⟨e ▸ plain_bool _, e, g⟩
  refine AX.body (n := 6) (rs := [.tmp 2]) Try.func75 rfl (by decide) rfl rfl (bC_sound _ _ _ _ ?_)
  refine run ?_
  refine (keys_ax H).mono ?_
  rintro v X ⟨hv, g⟩
  refine run ?_
  refine (has_ax hv (by decide) s).mono ?_
  rintro _ Y ⟨rfl, e⟩
  subst Y
  refine run ?_
  exact ⟨congrArg Value.bool (by unfold keyS; rw [decide_eq_decide]; exact mem_bstr), g⟩
def signB : ByteArray := bstr [40, 41, 123, 125, 91, 93, 44, 59, 58, 46, 43, 45, 42, 47, 37, 60, 62, 61, 33]
theorem index_sign : ∀ n : Fin 256, decide (indexB signB (n.val : Int) ≥ 0) = decide ([UInt8.ofNat n.val] ∈ oneCL) := by decide +kernel
theorem index_of (c : UInt8) : decide (indexB signB (c.toNat : Int) ≥ 0) = decide ([c] ∈ oneCL) := by
  have := index_sign ⟨c.toNat, c.toNat_lt⟩
  simpa using this
theorem slice_hi2 {s : ByteArray} {n : Int} (h0 : 0 ≤ n) (h1 : n ≤ (s.size : Int)) : aslice Try.prog 9 (.string s) none (some (.int .i64 n)) none = some (.string (s.extract 0 n.toNat)) := by
  simp [aslice, show Try.prog.underlying 9 = some .string from rfl, natIn, h0, h1]
theorem slice_lo2 {s : ByteArray} {n : Int} (h0 : 0 ≤ n) (h1 : n ≤ (s.size : Int)) : aslice Try.prog 9 (.string s) (some (.int .i64 n)) none none = some (.string (s.extract n.toNat s.size)) := by
  simp [aslice, show Try.prog.underlying 9 = some .string from rfl, natIn, h0, h1]
theorem slice_two2 {s : ByteArray} {n m : Int} (h0 : 0 ≤ n) (h1 : n ≤ m) (h2 : m ≤ (s.size : Int)) : aslice Try.prog 9 (.string s) (some (.int .i64 n)) (some (.int .i64 m)) none = some (.string (s.extract n.toNat m.toNat)) := by
  have e : ((m.toNat : Nat) : Int) = m := by omega
  simp [aslice, show Try.prog.underlying 9 = some .string from rfl, natIn, h0, h1, h2, e, show 0 ≤ m by omega]
end Go.Proofs.Ytmglmjbjgfbdjaa
