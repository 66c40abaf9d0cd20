/- Package lex: bytes, keys and signs. -/
import Derived.Test.YthhbocbgkhooaaaJTy1
set_option linter.unusedVariables false
set_option linter.unusedSimpArgs false
set_option maxRecDepth 20000
set_option maxHeartbeats 4000000
namespace Go.Proofs.Ythhbocbgkhooaaa
open Go Ax
theorem digitB_eq (x : Int) : digitB x = (decide (x ≥ 48) && decide (x ≤ 57)) := by
  unfold digitB
  by_cases h1 : x ≥ 48
  · by_cases h2 : x ≤ 57
    · simp [h1, h2]
    · simp [h1, h2]; omega
  · simp [h1]
    try omega
theorem lxDigit_ax (H : Heap) (x : Int) : AX Try.prog 41 #[.int .u8 x] H (fun v H' => v = .bool (digitB x) ∧ H' = H) := by
  rw [digitB_eq]
  refine AX.body (n := 9) (rs := [.tmp 2]) Try.func41 rfl (by decide) rfl rfl (bC_sound _ _ _ _ ?_)
  cases h1 : decide (x ≥ 48) <;> cases h2 : decide (x ≤ 57) <;> (refine run ?_; exact ⟨by simp [oneOr, h1, h2], rfl⟩)
theorem rxDigit_ax (H : Heap) (x : Int) : AX Try.prog 45 #[.int .u8 x] H (fun v H' => v = .bool (digitB x) ∧ H' = H) := by
  rw [digitB_eq]
  refine AX.body (n := 9) (rs := [.tmp 2]) Try.func45 rfl (by decide) rfl rfl (bC_sound _ _ _ _ ?_)
  cases h1 : decide (x ≥ 48) <;> cases h2 : decide (x ≤ 57) <;> (refine run ?_; exact ⟨by simp [oneOr, h1, h2], rfl⟩)
theorem lxLetter_ax (H : Heap) (x : Int) : AX Try.prog 39 #[.int .u8 x] H (fun v H' => v = .bool (letterB x) ∧ H' = H) := by
  refine AX.body (n := 21) (rs := [.tmp 2]) Try.func39 rfl (by decide) rfl rfl (bC_sound _ _ _ _ ?_)
  cases h1 : decide (x ≥ 97) <;> cases h2 : decide (x ≤ 122) <;> cases h3 : decide (x ≥ 65) <;> cases h4 : decide (x ≤ 90) <;> (refine run ?_; exact ⟨by simp [oneOr, letterB, h1, h2, h3, h4], rfl⟩)
theorem rxLetter_ax (H : Heap) (x : Int) : AX Try.prog 44 #[.int .u8 x] H (fun v H' => v = .bool (letterB x) ∧ H' = H) := by
  refine AX.body (n := 21) (rs := [.tmp 2]) Try.func44 rfl (by decide) rfl rfl (bC_sound _ _ _ _ ?_)
  cases h1 : decide (x ≥ 97) <;> cases h2 : decide (x ≤ 122) <;> cases h3 : decide (x ≥ 65) <;> cases h4 : decide (x ≤ 90) <;> (refine run ?_; exact ⟨by simp [oneOr, letterB, h1, h2, h3, h4], rfl⟩)
theorem lxIsKey_ax (H : Heap) (s : ByteArray) : AX Try.prog 16 #[.string s] H (fun v H' => v = .bool (keyS s.data.toList) ∧ H' = H) := by
  refine AX.body (n := 24) (rs := [.tmp 2]) Try.func16 rfl (by decide) rfl rfl (bC_sound _ _ _ _ ?_)
  (try (conv => whnf)); (repeat' ((fail_if_success (with_reducible refine And.intro ?_ ?_)); (fail_if_success (with_reducible refine Exists.intro ?_ ?_)); (first | (refine step0 ?_) | (apply bIf.of <;> intro hc <;> (conv => whnf)))))
  all_goals
    refine ⟨congrArg Value.bool (Eq.symm ?_), rfl⟩
    simp only [ba_list, decide_eq_true_eq, decide_eq_false_iff_not] at *
    simp_all [keyS, keysL]
instance : LawfulBEq ByteArray where
  eq_of_beq {a b} h := by rw [ba_beq] at h; exact of_decide_eq_true h
  rfl {a} := by rw [ba_beq]; exact decide_eq_true rfl
theorem slots_gt {c l : List Value} {o n j : Nat} {x : Value} (h : slotsOf c o n = some l) (hx : l[j]? = some x) : c[o + j]? = some x := by
  unfold slotsOf at h
  split at h
  · simp only [Option.some.injEq] at h
    subst h
    rw [List.getElem?_take] at hx
    split at hx
    · rw [List.getElem?_drop] at hx; exact hx
    · simp at hx
  · simp at h
theorem str_at2 {H : Heap} {v : Value} {L : List ByteArray} (h : RL 1 strR H v L) {i : Nat} {x : ByteArray} (hx : L[i]? = some x) :
    ∃ p, aindexAddr Try.prog 54 v (.int .i64 (i : Int)) = some p ∧ ∀ H', Grow H H' → aload Try.prog 9 p H' = some (.string x) := by
  obtain ⟨b, c, l, h1, h2, h3, h4⟩ := h.at (P := Try.prog) (t := 54) (e := 9) rfl rfl hx
  have h4 : l = [.string x] := h4
  subst h4
  exact ⟨_, h1, fun H' g => ald rfl rfl (g.hblk h2) (slots_gt (j := 0) h3 rfl)⟩
theorem has_ax {H : Heap} {v : Value} {L : List ByteArray} (h : RL 1 strR H v L) (hL : L.length ≤ 1000000) (s : ByteArray) : AX Try.prog 27 #[v, .string s] H (fun r H' => r = .bool (decide (s ∈ L)) ∧ H' = H) := by
  have la := h.len (P := Try.prog) (t := 54) (e := 9) rfl H
  refine AX.body (n := 18) (rs := [.tmp 4]) Try.func27 rfl (by decide) rfl rfl (bC_sound _ _ _ _ ?_)
  refine run ?_
  refine SW.loop (α := Nat) (fun i => [(0, v), (1, .string s), (5, .int .i64 (i : Int))]) (fun i X => X = H ∧ i ≤ L.length ∧ s ∉ L.take i) (fun i => L.length - i) ⟨0, ⟨rfl, rfl, rfl, trivial⟩, rfl, Nat.zero_le _, by simp⟩ ?_
  rintro i X ⟨rfl, hi, ht⟩
  refine bC_sound _ _ _ _ ?_
  by_cases hil : i < L.length
  · have d2 : decide ((i : Int) < (L.length : Int)) = true := decide_eq_true (by omega)
    obtain ⟨x, hx⟩ := get_lt (L := L) (m := i) hil
    obtain ⟨p, p1, p2⟩ := str_at2 h hx
    have p3 := p2 X (.refl _)
    by_cases hxn : x = s
    · have d3 : (x == s) = true := by rw [ba_beq]; exact decide_eq_true hxn
      refine run ?_
      exact ⟨by rw [decide_eq_true (by rw [← hxn]; exact List.mem_of_getElem? hx)]; rfl, rfl⟩
    · have d3 : (x == s) = false := by rw [ba_beq]; exact decide_eq_false hxn
      have w1 := w_succ (k := i) (by omega)
      refine run ?_
      refine ⟨i + 1, ⟨rfl, rfl, congrArg (fun z => some (Value.int .i64 z)) w1, trivial⟩, ⟨rfl, by omega, ?_⟩, by show L.length - (i + 1) < L.length - i; omega⟩
      rw [List.take_add_one, hx]
      simp only [Option.toList_some, List.mem_append, List.mem_singleton, not_or]
      exact ⟨ht, fun e => hxn e.symm⟩
  · have d2 : decide ((i : Int) < (L.length : Int)) = false := decide_eq_false (by omega)
    refine run ?_
    rw [List.take_of_length_le (by omega)] at ht
    exact ⟨by rw [decide_eq_false ht]; rfl, rfl⟩
theorem keys_ax (H : Heap) : AX Try.prog 34 #[] H (fun v H' => RL 1 strR H' v (keysL.map bstr) ∧ Grow H H') := by
  refine AX.body (n := 2) (rs := [.tmp 0]) Try.func34 rfl (by decide) rfl rfl (bC_sound _ _ _ _ ?_)
  refine run ?_
  refine Ob2.lay (H := H) (.cells (.row 9) ((keysL.map bstr).map Value.string)) (.slice (some ⟨H.length, 0, none⟩) 19 1) rfl fun H1 a1 g1 l1 => ?_
  refine run ?_
  exact ⟨RL.own (L := keysL.map bstr) (g := Value.string) (fun _ _ => rfl) a1, g1⟩
theorem signs_ax (H : Heap) : AX Try.prog 28 #[] H (fun v H' => RL 1 strR H' v (signsL.map bstr) ∧ Grow H H') := by
  refine AX.body (n := 2) (rs := [.tmp 0]) Try.func28 rfl (by decide) rfl rfl (bC_sound _ _ _ _ ?_)
  refine run ?_
  refine Ob2.lay (H := H) (.cells (.row 9) ((signsL.map bstr).map Value.string)) (.slice (some ⟨H.length, 0, none⟩) 25 1) rfl fun H1 a1 g1 l1 => ?_
  refine run ?_
  exact ⟨RL.own (L := signsL.map bstr) (g := Value.string) (fun _ _ => rfl) a1, g1⟩
theorem mem_bstr {s : ByteArray} {L : List Bs} : s ∈ L.map bstr ↔ s.data.toList ∈ L := by
  rw [List.mem_map]
  constructor
  · rintro ⟨l, h, rfl⟩; exact h
  · intro h; exact ⟨_, h, bstr_data s⟩
theorem rxIsKey_ax (H : Heap) (s : ByteArray) : AX Try.prog 17 #[.string s] H (fun v H' => v = .bool (keyS s.data.toList) ∧ H' = H) := by
  refine AX.quiet ?_
  suffices hh : AX Try.prog 17 #[.string s] H (fun v H' => v = .bool (keyS s.data.toList) ∧ Grow H H') from hh.mono fun v _ ⟨e, g⟩ => ⟨e ▸ plain_bool _, e, g⟩
  refine AX.body (n := 6) (rs := [.tmp 2]) Try.func17 rfl (by decide) rfl rfl (bC_sound _ _ _ _ ?_)
  refine run ?_
  refine (keys_ax H).mono ?_
  rintro v X ⟨hv, g⟩
  refine run ?_
  refine (has_ax hv (by decide) s).mono ?_
  rintro _ Y ⟨rfl, e⟩
  subst Y
  refine run ?_
  exact ⟨congrArg Value.bool (by unfold keyS; rw [decide_eq_decide]; exact mem_bstr), g⟩
theorem indexByte_ax (H : Heap) (s : ByteArray) (c : Int) : AX Try.prog 49 #[.string s, .int .u8 c] H (fun v H' => v = .int .i64 (indexB s c) ∧ H' = H) := by
  refine AX.body (n := 8) (rs := [.tmp 4]) Try.func49 rfl (by decide) rfl rfl (bC_sound _ _ _ _ ?_)
  refine run ?_
  have h : AX Try.prog 61 #[.string s, .int .u8 c] H (fun v H' => v = .int .i64 (indexB s c) ∧ H' = H) := by
    refine AX.body (n := 8) (rs := [.tmp 4]) Try.func61 rfl (by decide) rfl rfl (bC_sound _ _ _ _ ?_)
    refine run ?_
    exact ⟨rfl, rfl⟩
  refine h.mono ?_
  rintro _ X ⟨rfl, e⟩
  refine run ?_
  exact ⟨rfl, e⟩
def signB : ByteArray := bstr [40, 41, 123, 125, 91, 93, 44, 59, 58, 46, 43, 45, 42, 47, 37, 60, 62, 61, 33]
theorem index_sign : ∀ n : Fin 256, decide (indexB signB (n.val : Int) ≥ 0) = decide ([UInt8.ofNat n.val] ∈ oneCL) := by decide +kernel
theorem index_of (c : UInt8) : decide (indexB signB (c.toNat : Int) ≥ 0) = decide ([c] ∈ oneCL) := by
  have := index_sign ⟨c.toNat, c.toNat_lt⟩
  simpa using this
theorem slice_hi2 {s : ByteArray} {n : Int} (h0 : 0 ≤ n) (h1 : n ≤ (s.size : Int)) : aslice Try.prog 9 (.string s) none (some (.int .i64 n)) none = some (.string (s.extract 0 n.toNat)) := by
  simp [aslice, show Try.prog.underlying 9 = some .string from rfl, natIn, h0, h1]
theorem slice_lo2 {s : ByteArray} {n : Int} (h0 : 0 ≤ n) (h1 : n ≤ (s.size : Int)) : aslice Try.prog 9 (.string s) (some (.int .i64 n)) none none = some (.string (s.extract n.toNat s.size)) := by
  simp [aslice, show Try.prog.underlying 9 = some .string from rfl, natIn, h0, h1]
theorem slice_two2 {s : ByteArray} {n m : Int} (h0 : 0 ≤ n) (h1 : n ≤ m) (h2 : m ≤ (s.size : Int)) : aslice Try.prog 9 (.string s) (some (.int .i64 n)) (some (.int .i64 m)) none = some (.string (s.extract n.toNat m.toNat)) := by
  have e : ((m.toNat : Nat) : Int) = m := by omega
  simp [aslice, show Try.prog.underlying 9 = some .string from rfl, natIn, h0, h1, h2, e, show 0 ≤ m by omega]
end Go.Proofs.Ythhbocbgkhooaaa
/- Package lex: signs. -/
set_option linter.unusedVariables false
set_option linter.unusedSimpArgs false
set_option maxRecDepth 20000
set_option maxHeartbeats 4000000
namespace Go.Proofs.Ythhbocbgkhooaaa
open Go Ax
theorem find_pre {n : Nat} {r : Bs} : ∀ {ws : List Bs}, (∀ w ∈ ws, w.length = n) → ws.find? (fun w => decide (w <+: r)) = if r.take n ∈ ws then some (r.take n) else none
  | [], _ => by simp
  | w :: ws, h => by
    have hw := h w (by simp)
    have ih := find_pre (r := r) (ws := ws) fun x hx => h x (by simp [hx])
    have e : w <+: r ↔ r.take n = w := by rw [List.prefix_iff_eq_take, hw]; exact eq_comm
    by_cases hp : w <+: r
    · have e' := e.1 hp
      have hpd : decide (w <+: r) = true := decide_eq_true hp
      simp only [List.find?_cons, hpd]
      rw [if_pos (by rw [e']; simp), e']
    · have hpd : decide (w <+: r) = false := decide_eq_false hp
      simp only [List.find?_cons, hpd]
      rw [ih]
      have hne : ¬ r.take n = w := fun hh => hp (e.2 hh)
      by_cases hm : r.take n ∈ ws
      · rw [if_pos hm, if_pos (by simp [hm])]
      · rw [if_neg hm, if_neg (by simp [hm, hne])]
theorem two_len : ∀ w ∈ twoL, w.length = 2 := by decide
theorem one_lenC : ∀ w ∈ oneCL, w.length = 1 := by decide
theorem sign_find (r : Bs) : (signsL.find? fun w => decide (w <+: r)).getD [] = signS r := by
  unfold signsL signS
  rw [List.find?_append, find_pre two_len, find_pre one_lenC]
  split
  · rfl
  · split <;> rfl
theorem sign_some {r w : Bs} {i : Nat} (hw : signsL[i]? = some w) (hn : ∀ u ∈ signsL.take i, ¬ u <+: r) (hp : w <+: r) : signS r = w := by
  rw [← sign_find]
  have e : signsL = signsL.take i ++ w :: signsL.drop (i + 1) := by
    have h1 := List.drop_eq_getElem_cons (lt_of_get hw)
    rw [(List.getElem?_eq_some_iff.1 hw).2] at h1
    rw [← h1, List.take_append_drop]
  rw [e, List.find?_append, List.find?_eq_none.2 (fun u hu => by simpa using hn u hu)]
  have hpd : decide (w <+: r) = true := decide_eq_true hp
  simp only [List.find?_cons, hpd]
  rfl
theorem sign_none {r : Bs} (hn : ∀ u ∈ signsL, ¬ u <+: r) : signS r = [] := by
  rw [← sign_find, List.find?_eq_none.2 (fun u hu => by simpa using hn u hu)]
  rfl
theorem rxSign_ax (H : Heap) {s : ByteArray} (hs : s.size ≤ 100000) {k : Nat} (hk : k ≤ s.size) : AX Try.prog 48 #[.string s, .int .i64 (k : Int)] H (fun v H' => v = .string (bstr (signS (s.data.toList.drop k))) ∧ H' = H) := by
  refine AX.quiet ?_
  suffices hh : AX Try.prog 48 #[.string s, .int .i64 (k : Int)] H (fun v H' => v = .string (bstr (signS (s.data.toList.drop k))) ∧ Grow H H') from hh.mono fun v _ ⟨e, g⟩ => ⟨e ▸ plain_str _, e, g⟩
  have hsz := size_data s
  generalize hr : s.data.toList.drop k = r
  have hrl : r.length = s.size - k := by rw [← hr, List.length_drop, hsz]
  refine AX.body (n := 43) (rs := [.tmp 4]) Try.func48 rfl (by decide) rfl rfl (bC_sound _ _ _ _ ?_)
  refine run ?_
  refine (signs_ax H).mono ?_
  rintro sv X ⟨hv, g⟩
  have lv := hv.len (P := Try.prog) (t := 54) (e := 9) rfl X
  rw [List.length_map] at lv
  have h25 : signsL.length = 25 := rfl
  refine run ?_
  refine SW.loop (α := Nat) (fun i => [(0, .string s), (1, .int .i64 (k : Int)), (5, sv), (6, .int .i64 (i : Int))]) (fun i Y => Y = X ∧ i ≤ signsL.length ∧ ∀ u ∈ signsL.take i, ¬ u <+: r) (fun i => signsL.length - i) ⟨0, ⟨rfl, rfl, rfl, rfl, trivial⟩, rfl, Nat.zero_le _, by simp⟩ ?_
  rintro i Y ⟨e, hi, hn⟩
  subst Y
  refine bC_sound _ _ _ _ ?_
  by_cases hil : i < signsL.length
  rotate_left
  · have d1 : decide ((i : Int) < (signsL.length : Int)) = false := decide_eq_false (by omega)
    refine run ?_
    rw [List.take_of_length_le (by omega)] at hn
    exact ⟨by rw [sign_none hn]; rfl, g⟩
  have d1 : decide ((i : Int) < (signsL.length : Int)) = true := decide_eq_true (by omega)
  obtain ⟨w, hw⟩ := get_lt hil
  obtain ⟨p, p1, p2⟩ := str_at2 hv (i := i) (x := bstr w) (by rw [List.getElem?_map, hw]; rfl)
  have p3 := p2 X (.refl _)
  have w1 := w_succ (k := i) (by omega)
  have hwl : w.length ≤ 2 := by
    have := List.mem_of_getElem? hw
    rcases List.mem_append.1 this with h | h
    · rw [two_len w h]; omega
    · rw [one_lenC w h]; omega
  have wsub : IntKind.i64.wrap ((s.size : Int) - (k : Int)) = ((s.size - k : Nat) : Int) := by rw [wrap_i64 (by omega) (by omega)]; omega
  have wadd : IntKind.i64.wrap ((k : Int) + ((bstr w).size : Int)) = ((k + (bstr w).size : Nat) : Int) := by rw [wrap_i64 (by rw [bstr_size]; omega) (by rw [bstr_size]; omega)]; omega
  have hbs := bstr_size w
  have next : ¬ w <+: r → ∃ y : Nat, Has ((6, .int .i64 (i + 1 : Nat)) :: []) [(6, .int .i64 (y : Int))] ∧ (y ≤ signsL.length ∧ ∀ u ∈ signsL.take y, ¬ u <+: r) ∧ signsL.length - y < signsL.length - i := fun hp =>
    ⟨i + 1, ⟨rfl, trivial⟩, ⟨by omega, fun u hu => by
      rw [List.take_add_one, hw] at hu
      rcases List.mem_append.1 hu with hu | hu
      · exact hn u hu
      · simp only [Option.toList_some, List.mem_singleton] at hu
        subst hu; exact hp⟩, by omega⟩
  refine run ?_
  by_cases hle : w.length ≤ s.size - k
  rotate_left
  · have hp : ¬ w <+: r := fun h => by have := h.length_le; omega
    obtain ⟨y, _, hy⟩ := next hp
    have d2 : decide (((bstr w).size : Int) ≤ IntKind.i64.wrap ((s.size : Int) - (k : Int))) = false := by rw [wsub]; exact decide_eq_false (by rw [bstr_size]; omega)
    apply SW.drawH [(0, [], [21, 22, 23, 24], false), (1, [], [20, 23], false), (2, [(21, 1)], [20, 21, 23], false), (3, [], [20, 21, 22], false), (4, [(21, 1), (22, 2), (23, 3)], [20, 21, 22, 23], false), (5, [(20, 0), (21, 1), (22, 2), (23, 3), (24, 4)], [20, 21, 22, 23, 24], false), (6, [(20, 0), (21, 1), (22, 2), (23, 3), (24, 4), (25, 5)], [20, 21, 22, 23, 24, 25], false), (7, [(20, 0), (21, 1), (22, 2), (23, 3), (24, 4), (25, 5), (26, 6)], [20, 21, 22, 23, 24, 25, 26, 28, 29, 30, 31, 33, 34, 35, 36], false), (8, [(20, 0), (21, 1), (22, 2), (23, 3), (24, 4), (25, 5), (26, 6)], [20, 21, 22, 23, 24, 25, 26, 27, 29, 30, 31, 33, 34, 35, 36], false), (9, [(20, 0), (21, 1), (22, 2), (23, 3), (24, 4), (25, 5), (26, 6)], [20, 21, 22, 23, 24, 25, 26, 27, 28, 30, 33, 34, 35, 36], false), (10, [(20, 0), (21, 1), (22, 2), (23, 3), (24, 4), (25, 5), (26, 6)], [20, 21, 22, 23, 24, 25, 26, 27, 28, 29, 33, 34, 35, 36], false), (11, [(20, 0), (21, 1), (22, 2), (23, 3), (24, 4), (25, 5), (26, 6), (29, 9), (30, 10)], [20, 21, 22, 23, 24, 25, 26, 27, 28, 29, 30, 33, 34, 35, 36], false), (12, [(20, 0), (21, 1), (22, 2), (23, 3), (24, 4), (25, 5), (26, 6), (27, 7), (28, 8), (29, 9), (30, 10), (31, 11)], [20, 21, 22, 23, 24, 25, 26, 27, 28, 29, 30, 31, 33, 34, 35, 36], false), (13, [(20, 0), (21, 1), (22, 2), (23, 3), (24, 4), (25, 5), (26, 6)], [20, 21, 22, 23, 24, 25, 26, 27, 28, 29, 30, 31, 32, 34], false), (14, [(20, 0), (21, 1), (22, 2), (23, 3), (24, 4), (25, 5), (26, 6)], [20, 21, 22, 23, 24, 25, 26, 27, 28, 29, 30, 31, 32, 33], false), (15, [(20, 0), (21, 1), (22, 2), (23, 3), (24, 4), (25, 5), (26, 6), (33, 13), (34, 14)], [20, 21, 22, 23, 24, 25, 26, 27, 28, 29, 30, 31, 32, 33, 34], false), (16, [(20, 0), (21, 1), (22, 2), (23, 3), (24, 4), (25, 5), (26, 6), (33, 13), (34, 14), (35, 15)], [20, 21, 22, 23, 24, 25, 26, 27, 28, 29, 30, 31, 32, 33, 34, 35], false), (17, [(20, 0), (21, 1), (22, 2), (23, 3), (24, 4), (25, 5), (26, 6), (27, 7), (28, 8), (29, 9), (30, 10), (31, 11), (32, 12), (33, 13), (34, 14), (35, 15), (36, 16)], [20, 21, 22, 23, 24, 25, 26, 27, 28, 29, 30, 31, 32, 33, 34, 35, 36], false), (18, [(20, 0), (21, 1), (22, 2), (23, 3), (24, 4), (25, 5), (26, 6), (27, 7), (28, 8), (29, 9), (30, 10), (31, 11), (32, 12), (33, 13), (34, 14), (35, 15), (36, 16), (37, 17)], [20, 21, 22, 23, 24, 25, 26, 27, 28, 29, 30, 31, 32, 33, 34, 35, 36, 37], false)]
      [(20, 0), (21, 1), (22, 2), (23, 3), (24, 4), (25, 5), (26, 6), (27, 7), (28, 8), (29, 9), (30, 10), (31, 11), (32, 12), (33, 13), (34, 14), (35, 15), (36, 16), (37, 17), (38, 18)] []
      [(0, _), (1, _), (5, _), (6, _), (7, _)] rfl (by kernel_rfl)
    case hF => exact ⟨rfl, rfl, rfl, rfl, rfl, trivial⟩
    refine run ?_
    exact ⟨i + 1, ⟨rfl, rfl, rfl, congrArg (fun z => some (Value.int .i64 z)) w1, trivial⟩, ⟨rfl, by omega, fun u hu => by
      rw [List.take_add_one, hw] at hu
      rcases List.mem_append.1 hu with hu | hu
      · exact hn u hu
      · simp only [Option.toList_some, List.mem_singleton] at hu
        subst hu; exact hp⟩, by show signsL.length - (i + 1) < signsL.length - i; omega⟩
  have d2 : decide (((bstr w).size : Int) ≤ IntKind.i64.wrap ((s.size : Int) - (k : Int))) = true := by rw [wsub]; exact decide_eq_true (by rw [bstr_size]; omega)
  have sl := slice_two2 (s := s) (n := (k : Int)) (m := ((k + (bstr w).size : Nat) : Int)) (by omega) (by omega) (by rw [bstr_size]; omega)
  rw [Int.toNat_natCast, Int.toNat_natCast] at sl
  rw [← wadd] at sl
  have eqw : (s.extract k (k + (bstr w).size) == bstr w) = decide (w <+: r) := by
    rw [ba_list, ext_list, hr, Nat.add_sub_cancel_left, bstr_size]
    rw [decide_eq_decide, List.prefix_iff_eq_take]
    exact eq_comm
  by_cases hp : w <+: r
  · rw [decide_eq_true hp] at eqw
    apply SW.drawH [(0, [], [21, 22, 23, 24], false), (1, [], [20, 23], false), (2, [(21, 1)], [20, 21, 23], false), (3, [], [20, 21, 22], false), (4, [(21, 1), (22, 2), (23, 3)], [20, 21, 22, 23], false), (5, [(20, 0), (21, 1), (22, 2), (23, 3), (24, 4)], [20, 21, 22, 23, 24], false), (6, [(20, 0), (21, 1), (22, 2), (23, 3), (24, 4), (25, 5)], [20, 21, 22, 23, 24, 25], false), (7, [(20, 0), (21, 1), (22, 2), (23, 3), (24, 4), (25, 5), (26, 6)], [20, 21, 22, 23, 24, 25, 26, 28, 29, 30, 31, 33, 34, 35, 36], false), (8, [(20, 0), (21, 1), (22, 2), (23, 3), (24, 4), (25, 5), (26, 6)], [20, 21, 22, 23, 24, 25, 26, 27, 29, 30, 31, 33, 34, 35, 36], false), (9, [(20, 0), (21, 1), (22, 2), (23, 3), (24, 4), (25, 5), (26, 6)], [20, 21, 22, 23, 24, 25, 26, 27, 28, 30, 33, 34, 35, 36], false), (10, [(20, 0), (21, 1), (22, 2), (23, 3), (24, 4), (25, 5), (26, 6)], [20, 21, 22, 23, 24, 25, 26, 27, 28, 29, 33, 34, 35, 36], false), (11, [(20, 0), (21, 1), (22, 2), (23, 3), (24, 4), (25, 5), (26, 6), (29, 9), (30, 10)], [20, 21, 22, 23, 24, 25, 26, 27, 28, 29, 30, 33, 34, 35, 36], false), (12, [(20, 0), (21, 1), (22, 2), (23, 3), (24, 4), (25, 5), (26, 6), (27, 7), (28, 8), (29, 9), (30, 10), (31, 11)], [20, 21, 22, 23, 24, 25, 26, 27, 28, 29, 30, 31, 33, 34, 35, 36], false), (13, [(20, 0), (21, 1), (22, 2), (23, 3), (24, 4), (25, 5), (26, 6)], [20, 21, 22, 23, 24, 25, 26, 27, 28, 29, 30, 31, 32, 34], false), (14, [(20, 0), (21, 1), (22, 2), (23, 3), (24, 4), (25, 5), (26, 6)], [20, 21, 22, 23, 24, 25, 26, 27, 28, 29, 30, 31, 32, 33], false), (15, [(20, 0), (21, 1), (22, 2), (23, 3), (24, 4), (25, 5), (26, 6), (33, 13), (34, 14)], [20, 21, 22, 23, 24, 25, 26, 27, 28, 29, 30, 31, 32, 33, 34], false), (16, [(20, 0), (21, 1), (22, 2), (23, 3), (24, 4), (25, 5), (26, 6), (33, 13), (34, 14), (35, 15)], [20, 21, 22, 23, 24, 25, 26, 27, 28, 29, 30, 31, 32, 33, 34, 35], false), (17, [(20, 0), (21, 1), (22, 2), (23, 3), (24, 4), (25, 5), (26, 6), (27, 7), (28, 8), (29, 9), (30, 10), (31, 11), (32, 12), (33, 13), (34, 14), (35, 15), (36, 16)], [20, 21, 22, 23, 24, 25, 26, 27, 28, 29, 30, 31, 32, 33, 34, 35, 36], false), (18, [(20, 0), (21, 1), (22, 2), (23, 3), (24, 4), (25, 5), (26, 6), (27, 7), (28, 8), (29, 9), (30, 10), (31, 11), (32, 12), (33, 13), (34, 14), (35, 15), (36, 16), (37, 17)], [20, 21, 22, 23, 24, 25, 26, 27, 28, 29, 30, 31, 32, 33, 34, 35, 36, 37], false)]
      [(20, 0), (21, 1), (22, 2), (23, 3), (24, 4), (25, 5), (26, 6), (27, 7), (28, 8), (29, 9), (30, 10), (31, 11), (32, 12), (33, 13), (34, 14), (35, 15), (36, 16), (37, 17), (38, 18)] []
      [(0, _), (1, _), (5, _), (6, _), (7, _)] rfl (by kernel_rfl)
    case hF => exact ⟨rfl, rfl, rfl, rfl, rfl, trivial⟩
    refine run ?_
    exact ⟨by rw [sign_some hw hn hp]; rfl, g⟩
  · rw [decide_eq_false hp] at eqw
    apply SW.drawH [(0, [], [21, 22, 23, 24], false), (1, [], [20, 23], false), (2, [(21, 1)], [20, 21, 23], false), (3, [], [20, 21, 22], false), (4, [(21, 1), (22, 2), (23, 3)], [20, 21, 22, 23], false), (5, [(20, 0), (21, 1), (22, 2), (23, 3), (24, 4)], [20, 21, 22, 23, 24], false), (6, [(20, 0), (21, 1), (22, 2), (23, 3), (24, 4), (25, 5)], [20, 21, 22, 23, 24, 25], false), (7, [(20, 0), (21, 1), (22, 2), (23, 3), (24, 4), (25, 5), (26, 6)], [20, 21, 22, 23, 24, 25, 26, 28, 29, 30, 31, 33, 34, 35, 36], false), (8, [(20, 0), (21, 1), (22, 2), (23, 3), (24, 4), (25, 5), (26, 6)], [20, 21, 22, 23, 24, 25, 26, 27, 29, 30, 31, 33, 34, 35, 36], false), (9, [(20, 0), (21, 1), (22, 2), (23, 3), (24, 4), (25, 5), (26, 6)], [20, 21, 22, 23, 24, 25, 26, 27, 28, 30, 33, 34, 35, 36], false), (10, [(20, 0), (21, 1), (22, 2), (23, 3), (24, 4), (25, 5), (26, 6)], [20, 21, 22, 23, 24, 25, 26, 27, 28, 29, 33, 34, 35, 36], false), (11, [(20, 0), (21, 1), (22, 2), (23, 3), (24, 4), (25, 5), (26, 6), (29, 9), (30, 10)], [20, 21, 22, 23, 24, 25, 26, 27, 28, 29, 30, 33, 34, 35, 36], false), (12, [(20, 0), (21, 1), (22, 2), (23, 3), (24, 4), (25, 5), (26, 6), (27, 7), (28, 8), (29, 9), (30, 10), (31, 11)], [20, 21, 22, 23, 24, 25, 26, 27, 28, 29, 30, 31, 33, 34, 35, 36], false), (13, [(20, 0), (21, 1), (22, 2), (23, 3), (24, 4), (25, 5), (26, 6)], [20, 21, 22, 23, 24, 25, 26, 27, 28, 29, 30, 31, 32, 34], false), (14, [(20, 0), (21, 1), (22, 2), (23, 3), (24, 4), (25, 5), (26, 6)], [20, 21, 22, 23, 24, 25, 26, 27, 28, 29, 30, 31, 32, 33], false), (15, [(20, 0), (21, 1), (22, 2), (23, 3), (24, 4), (25, 5), (26, 6), (33, 13), (34, 14)], [20, 21, 22, 23, 24, 25, 26, 27, 28, 29, 30, 31, 32, 33, 34], false), (16, [(20, 0), (21, 1), (22, 2), (23, 3), (24, 4), (25, 5), (26, 6), (33, 13), (34, 14), (35, 15)], [20, 21, 22, 23, 24, 25, 26, 27, 28, 29, 30, 31, 32, 33, 34, 35], false), (17, [(20, 0), (21, 1), (22, 2), (23, 3), (24, 4), (25, 5), (26, 6), (27, 7), (28, 8), (29, 9), (30, 10), (31, 11), (32, 12), (33, 13), (34, 14), (35, 15), (36, 16)], [20, 21, 22, 23, 24, 25, 26, 27, 28, 29, 30, 31, 32, 33, 34, 35, 36], false), (18, [(20, 0), (21, 1), (22, 2), (23, 3), (24, 4), (25, 5), (26, 6), (27, 7), (28, 8), (29, 9), (30, 10), (31, 11), (32, 12), (33, 13), (34, 14), (35, 15), (36, 16), (37, 17)], [20, 21, 22, 23, 24, 25, 26, 27, 28, 29, 30, 31, 32, 33, 34, 35, 36, 37], false)]
      [(20, 0), (21, 1), (22, 2), (23, 3), (24, 4), (25, 5), (26, 6), (27, 7), (28, 8), (29, 9), (30, 10), (31, 11), (32, 12), (33, 13), (34, 14), (35, 15), (36, 16), (37, 17), (38, 18)] []
      [(0, _), (1, _), (5, _), (6, _), (7, _)] rfl (by kernel_rfl)
    case hF => exact ⟨rfl, rfl, rfl, rfl, rfl, trivial⟩
    refine run ?_
    exact ⟨i + 1, ⟨rfl, rfl, rfl, congrArg (fun z => some (Value.int .i64 z)) w1, trivial⟩, ⟨rfl, by omega, fun u hu => by
      rw [List.take_add_one, hw] at hu
      rcases List.mem_append.1 hu with hu | hu
      · exact hn u hu
      · simp only [Option.toList_some, List.mem_singleton] at hu
        subst hu; exact hp⟩, by show signsL.length - (i + 1) < signsL.length - i; omega⟩
theorem lxSign_ax (H : Heap) {s : ByteArray} (hs : s.size ≤ 100000) : AX Try.prog 24 #[.string s] H (fun v H' => v = .int .i64 ((signS s.data.toList).length : Int) ∧ H' = H) := by
  have hsz := size_data s
  refine AX.body (n := 23) (rs := [.tmp 2]) Try.func24 rfl (by decide) rfl rfl (bC_sound _ _ _ _ ?_)
  have e2 : (s.extract 0 2).data.toList = s.data.toList.take 2 := by rw [ext_list]; rfl
  have two : ∀ w : Bs, ((s.extract 0 2) == bstr w) = decide (s.data.toList.take 2 = w) := fun w => by rw [ba_list, e2]; rfl
  generalize hL : s.data.toList = L at *
  by_cases h1 : 1 < L.length
  · have d1 : decide ((s.size : Int) > 1) = true := decide_eq_true (by omega)
    have sl := slice_hi2 (s := s) (n := 2) (by omega) (by omega)
    have e20 : (2 : Int).toNat = 2 := rfl
    rw [e20] at sl
    generalize s.extract 0 2 = t at *
    by_cases hm : L.take 2 ∈ twoL
    · have hv : (signS L).length = 2 := by unfold signS; rw [if_pos hm, List.length_take]; omega
      rw [hv]
      have key : L.take 2 ∈ twoL := hm
      (try (conv => whnf)); (repeat' ((fail_if_success (with_reducible refine And.intro ?_ ?_)); (fail_if_success (with_reducible refine Exists.intro ?_ ?_)); (first | (refine step0 ?_) | (apply bIf.of <;> intro hc <;> (conv => whnf)))))
      all_goals first
        | exact ⟨rfl, rfl⟩
        | (exfalso
           simp only [ba_list, decide_eq_true_eq, decide_eq_false_iff_not] at *
           simp_all [twoL])
    · have t1 := two [60, 61]
      have t2 := two [62, 61]
      have t3 := two [61, 61]
      have t4 := two [33, 61]
      have t5 := two [38, 38]
      have t6 := two [124, 124]
      have n := hm
      simp only [twoL, List.mem_cons, List.not_mem_nil, or_false, not_or] at n
      obtain ⟨n1, n2, n3, n4, n5, n6⟩ := n
      rw [decide_eq_false n1] at t1
      rw [decide_eq_false n2] at t2
      rw [decide_eq_false n3] at t3
      rw [decide_eq_false n4] at t4
      rw [decide_eq_false n5] at t5
      rw [decide_eq_false n6] at t6
      obtain ⟨c, hc⟩ := get_lt (L := L) (m := 0) (by omega)
      have ix := aix (s := s) (k := 0) (c := c) (by rw [hL]; exact hc)
      have ix : aindex Try.prog 9 (.string s) (.int .i64 0) = some (u8 c) := ix
      have d3 : (!(s == bstr [])) = true := by
        rw [ba_list, hL, decide_eq_false (fun e => by have e : L = [] := e; rw [e] at hc; simp at hc)]; rfl
      have hv : (signS L).length = if [c] ∈ oneCL then 1 else 0 := by
        unfold signS
        rw [if_neg hm, show L.take 1 = [c] by rw [List.take_add_one, hc]; rfl]
        split <;> rfl
      rw [hv]
      have ic := index_of c
      refine run ?_
      refine (indexByte_ax H signB (c.toNat : Int)).mono ?_
      rintro _ X ⟨rfl, e⟩
      subst X
      by_cases hc1 : [c] ∈ oneCL
      · rw [decide_eq_true hc1] at ic
        rw [if_pos hc1]
        refine run ?_
        exact ⟨rfl, rfl⟩
      · rw [decide_eq_false hc1] at ic
        rw [if_neg hc1]
        refine run ?_
        exact ⟨rfl, rfl⟩
  · have d1 : decide ((s.size : Int) > 1) = false := decide_eq_false (by omega)
    have hm : L.take 2 ∉ twoL := fun h => by have := two_len _ h; rw [List.length_take] at this; omega
    by_cases h0 : L = []
    · have d3 : (!(s == bstr [])) = false := by rw [ba_list, hL, h0]; rfl
      have hv : (signS L).length = 0 := by rw [h0]; decide
      rw [hv]
      refine run ?_
      exact ⟨rfl, rfl⟩
    · have hlen : 0 < L.length := by cases hx : L with | nil => exact absurd hx h0 | cons a b => simp
      obtain ⟨c, hc⟩ := get_lt (L := L) (m := 0) hlen
      have ix := aix (s := s) (k := 0) (c := c) (by rw [hL]; exact hc)
      have ix : aindex Try.prog 9 (.string s) (.int .i64 0) = some (u8 c) := ix
      have d3 : (!(s == bstr [])) = true := by
        rw [ba_list, hL, decide_eq_false (fun e => by have e : L = [] := e; rw [e] at hc; simp at hc)]; rfl
      have hv : (signS L).length = if [c] ∈ oneCL then 1 else 0 := by
        unfold signS
        rw [if_neg hm, show L.take 1 = [c] by rw [List.take_add_one, hc]; rfl]
        split <;> rfl
      rw [hv]
      have ic := index_of c
      refine run ?_
      refine (indexByte_ax H signB (c.toNat : Int)).mono ?_
      rintro _ X ⟨rfl, e⟩
      subst X
      by_cases hc1 : [c] ∈ oneCL
      · rw [decide_eq_true hc1] at ic
        rw [if_pos hc1]
        refine run ?_
        exact ⟨rfl, rfl⟩
      · rw [decide_eq_false hc1] at ic
        rw [if_neg hc1]
        refine run ?_
        exact ⟨rfl, rfl⟩
end Go.Proofs.Ythhbocbgkhooaaa
/- Package num: a text as a number. -/
set_option linter.unusedVariables false
set_option linter.unusedSimpArgs false
set_option maxRecDepth 20000
set_option maxHeartbeats 4000000
namespace Go.Proofs.Ythhbocbgkhooaaa
open Go Ax
theorem drop_cons {L : Bs} {i : Nat} {c : UInt8} (h : L[i]? = some c) : L.drop i = c :: L.drop (i + 1) := by
  rw [List.drop_eq_getElem_cons (lt_of_get h), (List.getElem?_eq_some_iff.1 h).2]
theorem digB_iff {c : UInt8} : digB c = true ↔ 48 ≤ c.toNat ∧ c.toNat ≤ 57 := by
  unfold digB
  rw [digitB_eq, Bool.and_eq_true, decide_eq_true_eq, decide_eq_true_eq]
  omega
theorem most_of (d : Int) (h0 : 0 ≤ d) (h1 : d ≤ 9) : 461168601842738789 ≤ (mostN - d).tdiv 10 ∧ (mostN - d).tdiv 10 ≤ 461168601842738790 := by
  unfold mostN
  have : (4611686018427387903 - d).tdiv 10 = (4611686018427387903 - d) / 10 := Int.tdiv_eq_ediv_of_nonneg (by omega)
  rw [this]
  omega
theorem most_step {n d : Int} (h0 : 0 ≤ d) (h1 : d ≤ 9) (hn : 0 ≤ n) (h : ¬ (mostN - d).tdiv 10 < n) : 0 ≤ n * 10 + d ∧ n * 10 + d ≤ mostN := by
  have e : (mostN - d).tdiv 10 = (mostN - d) / 10 := Int.tdiv_eq_ediv_of_nonneg (by unfold mostN; omega)
  rw [e] at h
  unfold mostN at h ⊢
  omega
theorem readF_range : ∀ (L : Bs) (n : Int) (b : Bool), 0 ≤ n → n ≤ mostN → 0 ≤ (readF L n b).1 ∧ (readF L n b).1 ≤ mostN
  | [], n, b, h0, h1 => by
    unfold readF
    split
    · unfold mostN; decide
    · exact ⟨h0, h1⟩
  | c :: r, n, b, h0, h1 => by
    unfold readF
    split
    · rename_i hd
      rw [digB_iff] at hd
      split
      · exact readF_range r n true h0 h1
      · rename_i hb
        have := most_step (n := n) (d := (c.toNat : Int) - 48) (by omega) (by omega) h0 (fun h => hb (.inr h))
        exact readF_range r _ false this.1 this.2
    · unfold mostN; decide
theorem readS_range (L : Bs) : 0 ≤ (readS L).1 ∧ (readS L).1 ≤ mostN := by
  unfold readS
  split
  · unfold mostN; decide
  · exact readF_range L 0 false (by decide) (by unfold mostN; decide)
def wrongN (b : Bool) : Int := if b then 10 else 0
theorem numTake_ax {H : Heap} {q4 q5 : Nat} {n d : Int} (h4 : H[q4]? = some (.cells .var [.int .i64 n])) (h5 : H[q5]? = some (.cells .var [.int .i64 0])) (hne : q4 ≠ q5) (hn0 : 0 ≤ n) (hn1 : n ≤ mostN) (hd0 : 0 ≤ d) (hd1 : d ≤ 9) :
    AX Try.prog 63 #[.int .i64 d, .pointer (some ⟨q4, 0, none⟩), .pointer (some ⟨q5, 0, none⟩)] H (fun _ H' => H'.length = H.length ∧ (∀ b, b ≠ q4 → b ≠ q5 → H'[b]? = H[b]?) ∧
      ((mostN - d).tdiv 10 < n → H'[q4]? = some (.cells .var [.int .i64 n]) ∧ H'[q5]? = some (.cells .var [.int .i64 10])) ∧
      (¬ (mostN - d).tdiv 10 < n → H'[q4]? = some (.cells .var [.int .i64 (n * 10 + d)]) ∧ H'[q5]? = some (.cells .var [.int .i64 0]))) := by
  have b4 := hblk_of h4
  have hm := most_of d hd0 hd1
  have f1 : abin Try.prog .sub 3 (.int .i64 4611686018427387903) (.int .i64 d) = some (.int .i64 (mostN - d)) := by
    have : abin Try.prog .sub 3 (.int .i64 4611686018427387903) (.int .i64 d) = some (.int .i64 (IntKind.i64.wrap (4611686018427387903 - d))) := rfl
    rw [this, wrap_i64 (by omega) (by omega)]; rfl
  have f2 : abin Try.prog .quo 3 (.int .i64 (mostN - d)) (.int .i64 10) = some (.int .i64 ((mostN - d).tdiv 10)) := by
    have : abin Try.prog .quo 3 (.int .i64 (mostN - d)) (.int .i64 10) = some (.int .i64 (IntKind.i64.wrap ((mostN - d).tdiv 10))) := rfl
    rw [this, wrap_i64 (by omega) (by omega)]
  refine AX.body (n := 13) (rs := []) Try.func63 rfl (by decide) rfl rfl (bC_sound _ _ _ _ ?_)
  by_cases hb : (mostN - d).tdiv 10 < n
  · have d1 : decide (n > (mostN - d).tdiv 10) = true := decide_eq_true hb
    refine run ?_
    refine Ob.store rfl rfl rfl h5 rfl (by first | exact Nat.le_of_ble_eq_true rfl | simp) fun X s1 k1 l1 => ?_
    refine run ?_
    exact ⟨l1, fun b h1 h2 => by by_cases hl : b < H.length; exact k1.2 b hl h2; rw [List.getElem?_eq_none (by omega), List.getElem?_eq_none (by omega)], fun _ => ⟨k1.at h4 hne, s1⟩, fun h => absurd hb h⟩
  · have d1 : decide (n > (mostN - d).tdiv 10) = false := decide_eq_false hb
    have hs := most_step hd0 hd1 hn0 hb
    unfold mostN at hs
    have f3 : abin Try.prog .mul 3 (.int .i64 n) (.int .i64 10) = some (.int .i64 (n * 10)) := by
      have : abin Try.prog .mul 3 (.int .i64 n) (.int .i64 10) = some (.int .i64 (IntKind.i64.wrap (n * 10))) := rfl
      rw [this, wrap_i64 (by omega) (by omega)]
    have f4 : abin Try.prog .add 3 (.int .i64 (n * 10)) (.int .i64 d) = some (.int .i64 (n * 10 + d)) := by
      have : abin Try.prog .add 3 (.int .i64 (n * 10)) (.int .i64 d) = some (.int .i64 (IntKind.i64.wrap (n * 10 + d))) := rfl
      rw [this, wrap_i64 (by omega) (by omega)]
    refine run ?_
    refine Ob.store rfl rfl rfl h4 rfl (by first | exact Nat.le_of_ble_eq_true rfl | simp) fun X s1 k1 l1 => ?_
    refine run ?_
    exact ⟨l1, fun b h1 h2 => by by_cases hl : b < H.length; exact k1.2 b hl h1; rw [List.getElem?_eq_none (by omega), List.getElem?_eq_none (by omega)], fun h => absurd h hb, fun _ => ⟨s1, k1.at h5 (Ne.symm hne)⟩⟩
theorem readF_step {L : Bs} {i : Nat} {c : UInt8} {n : Int} {b : Bool} (hc : L[i]? = some c) (hd : digB c = true) :
    readF (L.drop i) n b = if b = true ∨ (mostN - ((c.toNat : Int) - 48)).tdiv 10 < n then readF (L.drop (i + 1)) n true else readF (L.drop (i + 1)) (n * 10 + ((c.toNat : Int) - 48)) false := by
  rw [drop_cons hc]
  show (if digB c = true then _ else _) = _
  rw [if_pos hd]
theorem readF_bad {L : Bs} {i : Nat} {c : UInt8} {n : Int} {b : Bool} (hc : L[i]? = some c) (hd : ¬ digB c = true) : readF (L.drop i) n b = (0, 11) := by
  rw [drop_cons hc]
  show (if digB c = true then _ else _) = _
  rw [if_neg hd]
theorem plain_tt (a b : Int) : plain (.tuple #[.int .i64 a, .int .i64 b]) := plain_tuple (vs := [_, _]) fun x hx => by
  simp only [List.mem_cons, List.not_mem_nil, or_false] at hx
  rcases hx with rfl | rfl <;> exact plain_int _ _
theorem numRead_ax (H0 : Heap) {s : ByteArray} (hs : s.size ≤ 100000) : AX Try.prog 57 #[.string s] H0 (fun v H' => v = .tuple #[.int .i64 (readS s.data.toList).1, .int .i64 (readS s.data.toList).2] ∧ H' = H0) := by
  refine AX.alone (args := [.string s]) (fun v hv => by simp only [List.mem_singleton] at hv; subst hv; exact plain_str _) ?_
  suffices hh : AX Try.prog 57 [.string s].toArray [] (fun v _ => v = .tuple #[.int .i64 (readS s.data.toList).1, .int .i64 (readS s.data.toList).2]) from hh.mono fun v _ e => ⟨e ▸ plain_tt _ _, e⟩
  have hsz := size_data s
  refine AX.body (n := 42) (rs := [.tmp 2, .tmp 3]) Try.func57 rfl (by decide) rfl rfl (bC_sound _ _ _ _ ?_)
  generalize hL : s.data.toList = L at *
  refine run ?_
  refine Ob2.alloc rfl fun q4 H1 hq4 a4 g1 => ?_
  refine run ?_
  refine Ob2.alloc rfl fun q5 H2 hq5 a5 g2 => ?_
  have hne : q4 ≠ q5 := by have := lt_at a4; omega
  refine run ?_
  refine Ob.store rfl rfl rfl (g2.at a4) rfl (by first | exact Nat.le_of_ble_eq_true rfl | simp) fun H3 s3 k3 l3 => ?_
  have a5' := k3.at a5 (Ne.symm hne)
  refine run ?_
  refine Ob.store rfl rfl rfl a5' rfl (by first | exact Nat.le_of_ble_eq_true rfl | simp) fun H4 s4 k4 l4 => ?_
  have a4' := k4.at s3 hne
  refine run ?_
  refine SW.loop (α := Nat × Int × Bool) (fun y => [(0, .string s), (4, .pointer (some ⟨q4, 0, none⟩)), (5, .pointer (some ⟨q5, 0, none⟩)), (6, .func (.func 63) #[] #[.pointer (some ⟨q4, 0, none⟩), .pointer (some ⟨q5, 0, none⟩)]), (10, .int .i64 (s.size : Int)), (11, .int .i64 (y.1 : Int))])
    (fun y X => y.1 ≤ L.length ∧ 0 ≤ y.2.1 ∧ y.2.1 ≤ mostN ∧ X[q4]? = some (.cells .var [.int .i64 y.2.1]) ∧ X[q5]? = some (.cells .var [.int .i64 (wrongN y.2.2)]) ∧ readF L 0 false = readF (L.drop y.1) y.2.1 y.2.2) (fun y => L.length - y.1)
    ⟨(0, 0, false), ⟨rfl, rfl, rfl, rfl, rfl, rfl, trivial⟩, Nat.zero_le _, Int.le_refl _, by unfold mostN; decide, a4', s4, rfl⟩ ?_
  clear a4 a5 g1 g2 s3 k3 a5' s4 k4 a4' l3 l4 hq4 hq5 H1 H2 H3 H4
  rintro ⟨i, n, b⟩ X ⟨hi, hn0, hn1, h4, h5, hR⟩
  dsimp only at hi hn0 hn1 h4 h5 hR ⊢
  have b4 := hblk_of h4
  have b5 := hblk_of h5
  refine bC_sound _ _ _ _ ?_
  by_cases hil : i < L.length
  rotate_left
  · have d1 : decide ((i : Int) < (s.size : Int)) = false := decide_eq_false (by omega)
    have hii : i = L.length := by omega
    rw [hii, List.drop_length] at hR
    by_cases h0 : L = []
    · have d2 : (s == (⟨#[]⟩ : ByteArray)) = true := by rw [ba_list, hL, h0]; rfl
      have hv : readS L = (0, 11) := by unfold readS; rw [if_pos h0]
      rw [hv]
      refine run ?_
      rfl
    have d2 : (s == (⟨#[]⟩ : ByteArray)) = false := by rw [ba_list, hL]; exact decide_eq_false h0
    have hv : readS L = readF [] n b := by unfold readS; rw [if_neg h0, hR]
    rw [hv]
    cases b with
    | true =>
      refine run ?_
      apply SW.drawH [(0, [], [2], false), (1, [], [40], false), (2, [(40, 0), (2, 1)], [40, 2], false)]
        [(40, 0), (2, 1), (3, 2)] []
        [(5, _)] rfl (by kernel_rfl)
      case hF => exact ⟨rfl, trivial⟩
      refine run ?_
      rfl
    | false =>
      refine run ?_
      rfl
  have d1 : decide ((i : Int) < (s.size : Int)) = true := decide_eq_true (by omega)
  obtain ⟨c, hc⟩ := get_lt hil
  have ix := aix (s := s) (k := i) (c := c) (by rw [hL]; exact hc)
  have w1 := w_succ (k := i) (by omega)
  have hv : readS L = readF L 0 false := by unfold readS; rw [if_neg (fun h => by rw [h] at hil; simp at hil)]
  by_cases hd : digB c = true
  rotate_left
  · have hv2 : readS L = (0, 11) := by rw [hv, hR, readF_bad hc hd]
    rw [hv2]
    rw [digB_iff] at hd
    by_cases hlo : (c.toNat : Int) < 48
    · have d2 : decide ((c.toNat : Int) < 48) = true := decide_eq_true hlo
      refine run ?_
      rfl
    · have d2 : decide ((c.toNat : Int) < 48) = false := decide_eq_false hlo
      have d3 : decide ((c.toNat : Int) > 57) = true := decide_eq_true (by omega)
      refine run ?_
      rfl
  have hR2 := readF_step (n := n) (b := b) hc hd
  rw [digB_iff] at hd
  have d2 : decide ((c.toNat : Int) < 48) = false := decide_eq_false (by omega)
  have d3 : decide ((c.toNat : Int) > 57) = false := decide_eq_false (by omega)
  cases b with
  | true =>
    rw [if_pos (.inl rfl)] at hR2
    refine run ?_
    exact ⟨(i + 1, n, true), ⟨rfl, rfl, rfl, rfl, rfl, congrArg (fun z => some (Value.int .i64 z)) w1, trivial⟩, ⟨by dsimp only; omega, hn0, hn1, h4, h5, hR.trans hR2⟩, by dsimp only; omega⟩
  | false =>
    have f1 : abin Try.prog .sub 5 (u8 c) (.int .u8 48) = some (.int .u8 ((c.toNat : Int) - 48)) := by
      have : abin Try.prog .sub 5 (u8 c) (.int .u8 48) = some (.int .u8 (IntKind.u8.wrap ((c.toNat : Int) - 48))) := rfl
      rw [this, wrap_u8 (by omega) (by omega)]
    have f2 : aconvert Try.prog 5 3 (.int .u8 ((c.toNat : Int) - 48)) X = some (.int .i64 ((c.toNat : Int) - 48)) := by
      have : aconvert Try.prog 5 3 (.int .u8 ((c.toNat : Int) - 48)) X = some (.int .i64 (IntKind.i64.wrap ((c.toNat : Int) - 48))) := rfl
      rw [this, wrap_i64 (by omega) (by omega)]
    refine run ?_
    refine (numTake_ax (d := (c.toNat : Int) - 48) h4 h5 hne hn0 hn1 (by omega) (by omega)).mono ?_
    rintro _ Y ⟨yl, yk, y1, y2⟩
    refine run ?_
    by_cases hb : (mostN - ((c.toNat : Int) - 48)).tdiv 10 < n
    · rw [if_pos (.inr hb)] at hR2
      obtain ⟨z4, z5⟩ := y1 hb
      exact ⟨(i + 1, n, true), ⟨rfl, rfl, rfl, rfl, rfl, congrArg (fun z => some (Value.int .i64 z)) w1, trivial⟩, ⟨by dsimp only; omega, hn0, hn1, z4, z5, hR.trans hR2⟩, by dsimp only; omega⟩
    · rw [if_neg (fun h => h.elim (by simp) hb)] at hR2
      obtain ⟨z4, z5⟩ := y2 hb
      have hs := most_step (n := n) (d := (c.toNat : Int) - 48) (by omega) (by omega) hn0 hb
      exact ⟨(i + 1, n * 10 + ((c.toNat : Int) - 48), false), ⟨rfl, rfl, rfl, rfl, rfl, congrArg (fun z => some (Value.int .i64 z)) w1, trivial⟩, ⟨by dsimp only; omega, hs.1, hs.2, z4, z5, hR.trans hR2⟩, by dsimp only; omega⟩
theorem refRead_ax (H0 : Heap) {s : ByteArray} (hs : s.size ≤ 100000) : AX Try.prog 46 #[.string s] H0 (fun v H' => v = .tuple #[.int .i64 (readS s.data.toList).1, .int .i64 (readS s.data.toList).2] ∧ H' = H0) := by
  have hsz := size_data s
  refine AX.body (n := 46) (rs := [.tmp 2, .tmp 3]) Try.func46 rfl (by decide) rfl rfl (bC_sound _ _ _ _ ?_)
  generalize hL : s.data.toList = L at *
  refine run ?_
  refine SW.loop (α := Nat × Int × Bool) (fun y => [(0, .string s), (4, .int .i64 y.2.1), (5, .bool y.2.2), (6, .int .i64 (y.1 : Int))])
    (fun y X => X = H0 ∧ y.1 ≤ L.length ∧ 0 ≤ y.2.1 ∧ y.2.1 ≤ mostN ∧ readF L 0 false = readF (L.drop y.1) y.2.1 y.2.2) (fun y => L.length - y.1)
    ⟨(0, 0, false), ⟨rfl, rfl, rfl, rfl, trivial⟩, rfl, Nat.zero_le _, Int.le_refl _, by unfold mostN; decide, rfl⟩ ?_
  rintro ⟨i, n, b⟩ X ⟨e, hi, hn0, hn1, hR⟩
  subst X
  dsimp only at hi hn0 hn1 hR ⊢
  refine bC_sound _ _ _ _ ?_
  by_cases hil : i < L.length
  rotate_left
  · have d1 : decide ((i : Int) < (s.size : Int)) = false := decide_eq_false (by omega)
    have hii : i = L.length := by omega
    rw [hii, List.drop_length] at hR
    by_cases h0 : L = []
    · have d2 : ((s.size : Int) == 0) = true := by rw [beq_iff_eq, hsz, h0]; rfl
      have hv : readS L = (0, 11) := by unfold readS; rw [if_pos h0]
      rw [hv]
      refine run ?_
      exact ⟨rfl, rfl⟩
    have d2 : ((s.size : Int) == 0) = false := by rw [beq_eq_false_iff_ne]; intro h; apply h0; exact List.length_eq_zero_iff.1 (by omega)
    have hv : readS L = readF [] n b := by unfold readS; rw [if_neg h0, hR]
    rw [hv]
    cases b with
    | true =>
      refine run ?_
      exact ⟨rfl, rfl⟩
    | false =>
      refine run ?_
      exact ⟨rfl, rfl⟩
  have d1 : decide ((i : Int) < (s.size : Int)) = true := decide_eq_true (by omega)
  obtain ⟨c, hc⟩ := get_lt hil
  have ix := aix (s := s) (k := i) (c := c) (by rw [hL]; exact hc)
  have w1 := w_succ (k := i) (by omega)
  have hv : readS L = readF L 0 false := by unfold readS; rw [if_neg (fun h => by rw [h] at hil; simp at hil)]
  by_cases hd : digB c = true
  rotate_left
  · have hv2 : readS L = (0, 11) := by rw [hv, hR, readF_bad hc hd]
    rw [hv2]
    rw [digB_iff] at hd
    by_cases hlo : (c.toNat : Int) < 48
    · have d2 : decide ((c.toNat : Int) < 48) = true := decide_eq_true hlo
      refine run ?_
      exact ⟨rfl, rfl⟩
    · have d2 : decide ((c.toNat : Int) < 48) = false := decide_eq_false hlo
      have d3 : decide ((c.toNat : Int) > 57) = true := decide_eq_true (by omega)
      refine run ?_
      exact ⟨rfl, rfl⟩
  have hR2 := readF_step (n := n) (b := b) hc hd
  rw [digB_iff] at hd
  have d2 : decide ((c.toNat : Int) < 48) = false := decide_eq_false (by omega)
  have d3 : decide ((c.toNat : Int) > 57) = false := decide_eq_false (by omega)
  have f2 : aconvert Try.prog 5 3 (u8 c) H0 = some (.int .i64 (c.toNat : Int)) := by
    have : aconvert Try.prog 5 3 (u8 c) H0 = some (.int .i64 (IntKind.i64.wrap (c.toNat : Int))) := rfl
    rw [this, wrap_i64 (by omega) (by omega)]
  have f1 : abin Try.prog .sub 3 (.int .i64 (c.toNat : Int)) (.int .i64 48) = some (.int .i64 ((c.toNat : Int) - 48)) := by
    have : abin Try.prog .sub 3 (.int .i64 (c.toNat : Int)) (.int .i64 48) = some (.int .i64 (IntKind.i64.wrap ((c.toNat : Int) - 48))) := rfl
    rw [this, wrap_i64 (by omega) (by omega)]
  cases b with
  | true =>
    rw [if_pos (.inl rfl)] at hR2
    refine run ?_
    exact ⟨(i + 1, n, true), ⟨rfl, rfl, rfl, congrArg (fun z => some (Value.int .i64 z)) w1, trivial⟩, ⟨rfl, by dsimp only; omega, hn0, hn1, hR.trans hR2⟩, by dsimp only; omega⟩
  | false =>
    have hm := most_of ((c.toNat : Int) - 48) (by omega) (by omega)
    have f3 : abin Try.prog .sub 3 (.int .i64 4611686018427387903) (.int .i64 ((c.toNat : Int) - 48)) = some (.int .i64 (mostN - ((c.toNat : Int) - 48))) := by
      have : abin Try.prog .sub 3 (.int .i64 4611686018427387903) (.int .i64 ((c.toNat : Int) - 48)) = some (.int .i64 (IntKind.i64.wrap (4611686018427387903 - ((c.toNat : Int) - 48)))) := rfl
      rw [this, wrap_i64 (by omega) (by omega)]; rfl
    have f4 : abin Try.prog .quo 3 (.int .i64 (mostN - ((c.toNat : Int) - 48))) (.int .i64 10) = some (.int .i64 ((mostN - ((c.toNat : Int) - 48)).tdiv 10)) := by
      have : abin Try.prog .quo 3 (.int .i64 (mostN - ((c.toNat : Int) - 48))) (.int .i64 10) = some (.int .i64 (IntKind.i64.wrap ((mostN - ((c.toNat : Int) - 48)).tdiv 10))) := rfl
      rw [this, wrap_i64 (by omega) (by omega)]
    by_cases hb : (mostN - ((c.toNat : Int) - 48)).tdiv 10 < n
    · rw [if_pos (.inr hb)] at hR2
      have d4 : decide (n > (mostN - ((c.toNat : Int) - 48)).tdiv 10) = true := decide_eq_true hb
      refine run ?_
      exact ⟨(i + 1, n, true), ⟨rfl, rfl, rfl, congrArg (fun z => some (Value.int .i64 z)) w1, trivial⟩, ⟨rfl, by dsimp only; omega, hn0, hn1, hR.trans hR2⟩, by dsimp only; omega⟩
    · rw [if_neg (fun h => h.elim (by simp) hb)] at hR2
      have d4 : decide (n > (mostN - ((c.toNat : Int) - 48)).tdiv 10) = false := decide_eq_false hb
      have hs := most_step (n := n) (d := (c.toNat : Int) - 48) (by omega) (by omega) hn0 hb
      have hs' := hs.2
      unfold mostN at hs'
      have f5 : abin Try.prog .mul 3 (.int .i64 n) (.int .i64 10) = some (.int .i64 (n * 10)) := by
        have : abin Try.prog .mul 3 (.int .i64 n) (.int .i64 10) = some (.int .i64 (IntKind.i64.wrap (n * 10))) := rfl
        rw [this, wrap_i64 (by omega) (by omega)]
      have f6 : abin Try.prog .add 3 (.int .i64 (n * 10)) (.int .i64 ((c.toNat : Int) - 48)) = some (.int .i64 (n * 10 + ((c.toNat : Int) - 48))) := by
        have : abin Try.prog .add 3 (.int .i64 (n * 10)) (.int .i64 ((c.toNat : Int) - 48)) = some (.int .i64 (IntKind.i64.wrap (n * 10 + ((c.toNat : Int) - 48)))) := rfl
        rw [this, wrap_i64 (by omega) (by omega)]
      refine run ?_
      exact ⟨(i + 1, n * 10 + ((c.toNat : Int) - 48), false), ⟨rfl, rfl, rfl, congrArg (fun z => some (Value.int .i64 z)) w1, trivial⟩, ⟨rfl, by dsimp only; omega, hs.1, hs.2, hR.trans hR2⟩, by dsimp only; omega⟩
end Go.Proofs.Ythhbocbgkhooaaa
/- Package num: a number as text. -/
set_option linter.unusedVariables false
set_option linter.unusedSimpArgs false
set_option maxRecDepth 20000
set_option maxHeartbeats 4000000
namespace Go.Proofs.Ythhbocbgkhooaaa
open Go Ax
def digN (n : Nat) : UInt8 := UInt8.ofNat (48 + n % 10)
theorem digN_nat (n : Nat) : (digN n).toNat = 48 + n % 10 := by
  unfold digN
  rw [UInt8.toNat_ofNat']
  omega
theorem decF_step (f n : Nat) (acc : Bs) : decF (f + 1) n acc = if n / 10 = 0 then digN n :: acc else decF f (n / 10) (digN n :: acc) := by
  show (if n < 10 then _ else _) = _
  by_cases h : n < 10
  · rw [if_pos h, if_pos (by omega)]
    unfold digN
    rw [Nat.mod_eq_of_lt h]
  · rw [if_neg h, if_neg (by omega)]
    rfl
theorem pow_div {n k : Nat} (h : n < 10 ^ (k + 1)) : n / 10 < 10 ^ k := by
  rw [Nat.pow_succ] at h
  omega
theorem drop_cons' {α : Type} {L : List α} {i : Nat} {x : α} (h : L[i]? = some x) : L.drop i = x :: L.drop (i + 1) := by
  rw [List.drop_eq_getElem_cons (lt_of_get h), (List.getElem?_eq_some_iff.1 h).2]
theorem add_strB (a b : Bs) (h : a.length + b.length ≤ 1000000000) : abin Try.prog .add 9 (.string (bstr a)) (.string (bstr b)) = some (.string (bstr (a ++ b))) := by
  have e : bstr a ++ bstr b = bstr (a ++ b) := by
    rw [← bstr_data (bstr a ++ bstr b)]
    congr 1
  simp only [abin, astr]
  rw [if_neg (by rw [bstr_size, bstr_size]; omega), e]
theorem conv_sl {H : Heap} {b off n : Nat} {m : Ax.Mode} {c : List Value} {l : Bs} (hb : H[b]? = some (.cells m c)) (hs : slotsOf c off n = some (u8s l)) : aconvert Try.prog 57 9 (.slice (some ⟨b, off, none⟩) n 1) H = some (.string (bstr l)) := by
  by_cases h0 : n = 0
  · subst h0
    have hl : l = [] := by
      unfold slotsOf at hs
      split at hs
      · simp only [List.take_zero, Option.some.injEq] at hs
        cases l with
        | nil => rfl
        | cons a b => simp [u8s] at hs
      · simp at hs
    subst hl
    rfl
  · simp [aconvert, show Try.prog.underlying 57 = some (.slice 5) from rfl, show Try.prog.underlying 9 = some .string from rfl, show Try.prog.underlying 5 = some (.int .u8) from rfl, hblk_of hb, hs, u8s_back, h0, bstr]
theorem refDigits_ax (H0 : Heap) {n0 : Nat} (hn0 : n0 ≤ 4611686018427387903) : AX Try.prog 51 #[.int .i64 (n0 : Int)] H0 (fun v H' => v = .string (bstr (decL n0)) ∧ H' = H0) := by
  refine AX.quiet ?_
  suffices hh : AX Try.prog 51 #[.int .i64 (n0 : Int)] H0 (fun v H' => v = .string (bstr (decL n0)) ∧ Grow H0 H') from hh.mono fun v _ ⟨e, g⟩ => ⟨e ▸ plain_str _, e, g⟩
  refine AX.body (n := 23) (rs := [.tmp 2]) Try.func51 rfl (by decide) rfl rfl (bC_sound _ _ _ _ ?_)
  refine run ?_
  refine SW.loop (α := Nat × Nat × Bs) (fun y => [(0, .int .i64 (y.2.1 : Int)), (3, .string (bstr y.2.2)), (4, .int .i64 (y.1 : Int))])
    (fun y X => y.1 < 20 ∧ y.2.1 ≤ n0 ∧ y.2.1 < 10 ^ (20 - y.1) ∧ y.2.2.length ≤ y.1 ∧ decL n0 = decF (20 - y.1) y.2.1 y.2.2 ∧ Grow H0 X) (fun y => 20 - y.1)
    ⟨(0, n0, []), ⟨rfl, rfl, rfl, trivial⟩, by dsimp only; omega, Nat.le_refl _, by dsimp only; omega, Nat.le_refl _, rfl, .refl _⟩ ?_
  rintro ⟨k, n, acc⟩ X ⟨hk, hn, hp, hl, hd, gX⟩
  dsimp only at hk hn hp hl hd ⊢
  have d1 : decide ((k : Int) < 20) = true := decide_eq_true (by omega)
  have hf : 20 - k = (19 - k) + 1 := by omega
  rw [hf, decF_step] at hd
  rw [hf] at hp
  have hp' := pow_div hp
  have hnat := digN_nat n
  have f1 : abin Try.prog .rem 3 (.int .i64 (n : Int)) (.int .i64 10) = some (.int .i64 ((n % 10 : Nat) : Int)) := by
    rw [rem_ok (by omega), Int.tmod_eq_emod_of_nonneg (by omega)]; rfl
  have f2 : abin Try.prog .add 3 (.int .i64 48) (.int .i64 ((n % 10 : Nat) : Int)) = some (.int .i64 ((digN n).toNat : Int)) := by
    have : abin Try.prog .add 3 (.int .i64 48) (.int .i64 ((n % 10 : Nat) : Int)) = some (.int .i64 (IntKind.i64.wrap (48 + ((n % 10 : Nat) : Int)))) := rfl
    rw [this, wrap_i64 (by omega) (by omega), hnat]; rfl
  have f3 : aconvert Try.prog 3 5 (.int .i64 ((digN n).toNat : Int)) X = some (u8 (digN n)) := by
    have : aconvert Try.prog 3 5 (.int .i64 ((digN n).toNat : Int)) X = some (.int .u8 (IntKind.u8.wrap ((digN n).toNat : Int))) := rfl
    rw [this, wrap_u8 (by omega) (by omega)]
  have f4 : abin Try.prog .quo 3 (.int .i64 (n : Int)) (.int .i64 10) = some (.int .i64 ((n / 10 : Nat) : Int)) := by
    have : abin Try.prog .quo 3 (.int .i64 (n : Int)) (.int .i64 10) = some (.int .i64 (IntKind.i64.wrap ((n : Int).tdiv 10))) := rfl
    have e : (n : Int).tdiv 10 = ((n / 10 : Nat) : Int) := by rw [Int.tdiv_eq_ediv_of_nonneg (by omega)]; rfl
    rw [this, e, wrap_i64 (by omega) (by omega)]
  have w1 := w_succ (k := k) (by omega)
  refine bC_sound _ _ _ _ ?_
  refine run ?_
  refine Ob2.lay (H := X) (.cells (.row 5) [u8 (digN n)]) (.slice (some ⟨X.length, 0, none⟩) 1 1) rfl fun X1 a1 g1 l1 => ?_
  have f5 : aconvert Try.prog 57 9 (.slice (some ⟨X.length, 0, none⟩) 1 1) X1 = some (.string (bstr [digN n])) := conv_sl a1 rfl
  have f6 := add_strB [digN n] acc (by simp; omega)
  refine run ?_
  by_cases h0 : n / 10 = 0
  · rw [if_pos h0] at hd
    have d2 : (((n / 10 : Nat) : Int) == 0) = true := by rw [beq_iff_eq]; omega
    refine run ?_
    exact ⟨by rw [hd]; rfl, gX.trans g1⟩
  · rw [if_neg h0] at hd
    have d2 : (((n / 10 : Nat) : Int) == 0) = false := by rw [beq_eq_false_iff_ne]; omega
    refine run ?_
    have hk19 : k + 1 < 20 := by
      refine Decidable.byContradiction fun hc => ?_
      rw [show 19 - k = 0 by omega] at hp'
      omega
    exact ⟨(k + 1, n / 10, digN n :: acc), ⟨rfl, rfl, congrArg (fun z => some (Value.int .i64 z)) w1, trivial⟩, ⟨hk19, by dsimp only; omega, by rw [show 20 - (k + 1) = 19 - k by omega]; exact hp', by simp; omega, by rw [show 20 - (k + 1) = 19 - k by omega]; exact hd, gX.trans g1⟩, by dsimp only; omega⟩
theorem rxDigits_ax (H0 : Heap) {n0 : Nat} (hn0 : n0 ≤ 4611686018427387903) : AX Try.prog 26 #[.int .i64 (n0 : Int)] H0 (fun v H' => v = .string (bstr (decL n0)) ∧ H' = H0) := by
  have d1 : decide ((n0 : Int) ≥ 0) = true := decide_eq_true (by omega)
  refine AX.body (n := 25) (rs := [.tmp 2]) Try.func26 rfl (by decide) rfl rfl (bC_sound _ _ _ _ ?_)
  refine run ?_
  refine (refDigits_ax H0 hn0).mono ?_
  rintro _ X ⟨rfl, e⟩
  subst X
  refine run ?_
  exact ⟨rfl, rfl⟩
theorem numDigits_ax (H0 : Heap) {n0 : Nat} (hn0 : n0 ≤ 4611686018427387903) : AX Try.prog 23 #[.int .i64 (n0 : Int)] H0 (fun v H' => v = .string (bstr (decL n0)) ∧ H' = H0) := by
  refine AX.quiet ?_
  suffices hh : AX Try.prog 23 #[.int .i64 (n0 : Int)] H0 (fun v H' => v = .string (bstr (decL n0)) ∧ Grow H0 H') from hh.mono fun v _ ⟨e, g⟩ => ⟨e ▸ plain_str _, e, g⟩
  have d1 : decide ((n0 : Int) < 0) = false := decide_eq_false (by omega)
  refine AX.body (n := 33) (rs := [.tmp 2]) Try.func23 rfl (by decide) rfl rfl (bC_sound _ _ _ _ ?_)
  refine run ?_
  refine Ob2.alloc rfl fun q3 H1 hq3 a3 g1 => ?_
  have c1 : aconvert Try.prog 3 80 (.int .i64 (n0 : Int)) H1 = some (.int .u64 (n0 : Int)) := by
    have : aconvert Try.prog 3 80 (.int .i64 (n0 : Int)) H1 = some (.int .u64 (IntKind.u64.wrap (n0 : Int))) := rfl
    rw [this, IntWalk.u64_in _ ⟨by omega, by omega⟩]
  refine run ?_
  refine SW.loop (α := Nat × Nat × Bs × List Value) (fun y => [(0, .int .i64 (n0 : Int)), (3, .pointer (some ⟨q3, 0, none⟩)), (4, .int .i64 (y.1 : Int)), (5, .int .u64 (y.2.1 : Int))])
    (fun y X => 1 ≤ y.1 ∧ y.1 ≤ 20 ∧ y.2.1 ≤ n0 ∧ y.2.1 < 10 ^ y.1 ∧ decL n0 = decF y.1 y.2.1 y.2.2.1 ∧ y.2.2.2.length = 20 ∧ y.2.2.2.drop y.1 = u8s y.2.2.1 ∧ X[q3]? = some (.cells .var y.2.2.2) ∧ But q3 H1 X) (fun y => y.1)
    ⟨(20, n0, [], List.replicate 20 (.int .u8 0)), ⟨rfl, rfl, rfl, rfl, trivial⟩, by dsimp only; omega, Nat.le_refl _, Nat.le_refl _, by dsimp only; omega, rfl, rfl, rfl, a3, .refl _ _⟩ ?_
  rintro ⟨at_, n, acc, cs⟩ X ⟨h1, h20, hn, hp, hd, hcl, hcd, h3, kX⟩
  dsimp only at h1 h20 hn hp hd hcl hcd h3 ⊢
  have hf : at_ = (at_ - 1) + 1 := by omega
  rw [hf, decF_step] at hd
  rw [hf] at hp
  have hp' := pow_div hp
  have hnat := digN_nat n
  have f0 : abin Try.prog .sub 3 (.int .i64 (at_ : Int)) (.int .i64 1) = some (.int .i64 ((at_ - 1 : Nat) : Int)) := by
    have : abin Try.prog .sub 3 (.int .i64 (at_ : Int)) (.int .i64 1) = some (.int .i64 (IntKind.i64.wrap ((at_ : Int) - 1))) := rfl
    rw [this, wrap_i64 (by omega) (by omega)]; congr 2; omega
  have f1 : abin Try.prog .rem 80 (.int .u64 (n : Int)) (.int .u64 10) = some (.int .u64 ((n % 10 : Nat) : Int)) := by
    rw [rem_ok (by omega), Int.tmod_eq_emod_of_nonneg (by omega)]; rfl
  have f2 : aconvert Try.prog 80 5 (.int .u64 ((n % 10 : Nat) : Int)) X = some (.int .u8 ((n % 10 : Nat) : Int)) := by
    have : aconvert Try.prog 80 5 (.int .u64 ((n % 10 : Nat) : Int)) X = some (.int .u8 (IntKind.u8.wrap ((n % 10 : Nat) : Int))) := rfl
    rw [this, wrap_u8 (by omega) (by omega)]
  have f3 : abin Try.prog .add 5 (.int .u8 48) (.int .u8 ((n % 10 : Nat) : Int)) = some (u8 (digN n)) := by
    have : abin Try.prog .add 5 (.int .u8 48) (.int .u8 ((n % 10 : Nat) : Int)) = some (.int .u8 (IntKind.u8.wrap (48 + ((n % 10 : Nat) : Int)))) := rfl
    rw [this, wrap_u8 (by omega) (by omega)]
    show _ = some (Value.int .u8 ((digN n).toNat : Int))
    rw [hnat]; rfl
  have f4 : abin Try.prog .quo 80 (.int .u64 (n : Int)) (.int .u64 10) = some (.int .u64 ((n / 10 : Nat) : Int)) := by
    have : abin Try.prog .quo 80 (.int .u64 (n : Int)) (.int .u64 10) = some (.int .u64 (IntKind.u64.wrap ((n : Int).tdiv 10))) := rfl
    have e : (n : Int).tdiv 10 = ((n / 10 : Nat) : Int) := by rw [Int.tdiv_eq_ediv_of_nonneg (by omega)]; rfl
    rw [this, e, IntWalk.u64_in _ ⟨by omega, by omega⟩]
  have f5 : aindexAddr Try.prog 79 (.pointer (some ⟨q3, 0, none⟩)) (.int .i64 ((at_ - 1 : Nat) : Int)) = some (.pointer (some ⟨q3, at_ - 1, none⟩)) := by
    rw [idx_array (len := 20) (e := 5) (k := 1) rfl rfl (by omega) (by omega)]
    congr 4
    omega
  refine bC_sound _ _ _ _ ?_
  refine run ?_
  refine Ob.store rfl rfl rfl h3 rfl (by show at_ - 1 + 1 ≤ _; omega) fun Y y1 y2 y3 => ?_
  have hY : Y[q3]? = some (.cells .var (cs.set (at_ - 1) (u8 (digN n)))) := y1
  have hYd : (cs.set (at_ - 1) (u8 (digN n))).drop (at_ - 1) = u8s (digN n :: acc) := by
    rw [drop_cons' (i := at_ - 1) (x := u8 (digN n)) (by rw [List.getElem?_set_self (by omega)]), show at_ - 1 + 1 = at_ by omega, List.drop_set_of_lt (by omega), hcd]
    rfl
  have hYl : (cs.set (at_ - 1) (u8 (digN n))).length = 20 := by rw [List.length_set]; exact hcl
  refine run ?_
  by_cases h0 : n / 10 = 0
  · rw [if_pos h0] at hd
    have d2 : (((n / 10 : Nat) : Int) == 0) = true := by rw [beq_iff_eq]; omega
    have f6 : aslice3 Try.prog 20 5 (.pointer (some ⟨q3, 0, none⟩)) (some (.int .i64 ((at_ - 1 : Nat) : Int))) (some (.int .i64 20)) (some (.int .i64 20)) Y = some (.slice (some ⟨q3, at_ - 1, none⟩) (20 - (at_ - 1)) 1) := by
      rw [slice_arr (k := 1) rfl hY (by omega) (by omega) (by omega) (by decide) (by decide)]
      congr 4
      omega
    have f7 : aconvert Try.prog 57 9 (.slice (some ⟨q3, at_ - 1, none⟩) (20 - (at_ - 1)) 1) Y = some (.string (bstr (digN n :: acc))) := conv_sl hY (by
      rw [slots_of (by omega), hYd, List.take_of_length_le]
      rw [← hYd, List.length_drop]; omega)
    refine run ?_
    exact ⟨by rw [hd]; rfl, g1.but_new (kX.trans y2) (by omega)⟩
  · rw [if_neg h0] at hd
    have d2 : (((n / 10 : Nat) : Int) == 0) = false := by rw [beq_eq_false_iff_ne]; omega
    have hat2 : 2 ≤ at_ := by
      refine Decidable.byContradiction fun hc => ?_
      rw [show at_ - 1 = 0 by omega] at hp'
      omega
    refine run ?_
    exact ⟨(at_ - 1, n / 10, digN n :: acc, cs.set (at_ - 1) (u8 (digN n))), ⟨rfl, rfl, rfl, rfl, trivial⟩, ⟨by dsimp only; omega, by dsimp only; omega, by dsimp only; omega, hp', hd, hYl, hYd, hY, kX.trans y2⟩, by dsimp only; omega⟩
end Go.Proofs.Ythhbocbgkhooaaa
/- Package lex: runs of bytes, and blanks. -/
set_option linter.unusedVariables false
set_option linter.unusedSimpArgs false
set_option maxRecDepth 20000
set_option maxHeartbeats 4000000
namespace Go.Proofs.Ythhbocbgkhooaaa
open Go Ax
/-- Where a reader stands. -/
def RdL (H : Heap) (b : Nat) (s : ByteArray) (k : Nat) : Prop := H[b]? = some (.cells .var [.string s, .int .i64 (k : Int)])
theorem hasPrefix_ax (H : Heap) (s t : ByteArray) : AX Try.prog 37 #[.string s, .string t] H (fun v H' => v = .bool (decide (t.data.toList <+: s.data.toList)) ∧ H' = H) := by
  have h : AX Try.prog 55 #[.string s, .string t] H (fun v H' => v = .bool (decide (t.data.toList <+: s.data.toList)) ∧ H' = H) := by
    have hs := size_data s
    have ht := size_data t
    refine AX.body (n := 18) (rs := [.tmp 4]) Try.func55 rfl (by decide) rfl rfl (bC_sound _ _ _ _ ?_)
    by_cases hl : t.size ≤ s.size
    · have d1 : decide ((s.size : Int) ≥ (t.size : Int)) = true := decide_eq_true (by omega)
      have sl := slice_hi2 (s := s) (n := (t.size : Int)) (by omega) (by omega)
      rw [Int.toNat_natCast] at sl
      have e : (s.extract 0 t.size == t) = decide (t.data.toList <+: s.data.toList) := by
        rw [ba_list, ext_list, List.drop_zero, Nat.sub_zero, decide_eq_decide, List.prefix_iff_eq_take, ← ht]
        exact eq_comm
      refine run ?_
      rw [e]
      exact ⟨rfl, rfl⟩
    · have d1 : decide ((s.size : Int) ≥ (t.size : Int)) = false := decide_eq_false (by omega)
      have e : decide (t.data.toList <+: s.data.toList) = false := decide_eq_false fun h => by have := h.length_le; omega
      rw [e]
      refine run ?_
      exact ⟨rfl, rfl⟩
  refine AX.body (n := 8) (rs := [.tmp 4]) Try.func37 rfl (by decide) rfl rfl (bC_sound _ _ _ _ ?_)
  refine run ?_
  refine h.mono ?_
  rintro _ X ⟨rfl, e⟩
  refine run ?_
  exact ⟨rfl, e⟩
/-- What tells bytes. -/
def Tells8 (g : Nat) (p : UInt8 → Bool) : Prop := ∀ (H : Heap) (c : UInt8), AX Try.prog g #[u8 c] H (fun v H' => v = .bool (p c) ∧ H' = H)
theorem tw_step {p : UInt8 → Bool} {L : Bs} {k : Nat} {c : UInt8} (h : L[k]? = some c) (hp : p c = true) : (L.drop k).takeWhile p = c :: (L.drop (k + 1)).takeWhile p := by
  rw [drop_cons h, List.takeWhile_cons_of_pos hp]
theorem tw_stop {p : UInt8 → Bool} {L : Bs} {k : Nat} {c : UInt8} (h : L[k]? = some c) (hp : p c = false) : (L.drop k).takeWhile p = [] := by
  rw [drop_cons h, List.takeWhile_cons_of_neg (by simp [hp])]
theorem run_ax {H : Heap} {b : Nat} {s : ByteArray} {k : Nat} {g : Nat} {p : UInt8 → Bool} (hg : Tells8 g p) (h : RdL H b s k) (hs : s.size ≤ 100000) (hk : k ≤ s.size) :
    AX Try.prog 35 #[.pointer (some ⟨b, 0, none⟩), .func (.func g) #[] #[]] H (fun v H' => v = .string (bstr ((s.data.toList.drop k).takeWhile p)) ∧ RdL H' b s (k + ((s.data.toList.drop k).takeWhile p).length) ∧ But b H H' ∧ H'.length = H.length) := by
  have hsz := size_data s
  generalize hL : s.data.toList = L at *
  have h0 : H[b]? = some (.cells .var [.string s, .int .i64 (k : Int)]) := h
  have b0 := hblk_of h0
  refine AX.body (n := 50) (rs := [.tmp 4]) Try.func35 rfl (by decide) rfl rfl (bC_sound _ _ _ _ ?_)
  refine run ?_
  refine SW.loop (α := Nat) (fun m => [(0, .pointer (some ⟨b, 0, none⟩)), (1, .func (.func g) #[] #[]), (5, .int .i64 (k : Int))])
    (fun m X => k ≤ m ∧ m ≤ L.length ∧ RdL X b s m ∧ But b H X ∧ X.length = H.length ∧ (L.drop k).takeWhile p = (L.drop k).take (m - k) ++ (L.drop m).takeWhile p) (fun m => L.length - m)
    ⟨k, ⟨rfl, rfl, rfl, trivial⟩, Nat.le_refl _, by omega, h, .refl _ _, rfl, by rw [Nat.sub_self]; rfl⟩ ?_
  rintro m X ⟨hkm, hml, hX, kX, lX, hw⟩
  have hX' : X[b]? = some (.cells .var [.string s, .int .i64 (m : Int)]) := hX
  have bX := hblk_of hX'
  have fin : (L.drop m).takeWhile p = [] → ∀ e : (L.drop k).takeWhile p = (L.drop k).take (m - k), k + ((L.drop k).takeWhile p).length = m ∧ s.extract k m = bstr ((L.drop k).takeWhile p) := fun _ e => by
    rw [e]
    refine ⟨by rw [List.length_take, List.length_drop]; omega, ?_⟩
    rw [ext_bstr, hL]
  have sl := slice_two2 (s := s) (n := (k : Int)) (m := (m : Int)) (by omega) (by omega) (by omega)
  rw [Int.toNat_natCast, Int.toNat_natCast] at sl
  refine bC_sound _ _ _ _ ?_
  by_cases hl : m < L.length
  · have d1 : decide ((m : Int) < (s.size : Int)) = true := decide_eq_true (by omega)
    obtain ⟨c, hc⟩ := get_lt hl
    have ix := aix (s := s) (k := m) (c := c) (by rw [hL]; exact hc)
    have w1 := w_succ (k := m) (by omega)
    refine run ?_
    apply SW.drawH [(0, [], [14, 15, 16, 17, 18], false), (1, [(10, 0)], [10, 14, 15, 16, 17, 18], false), (2, [(10, 0), (11, 1)], [10, 11, 14, 15, 16, 17, 18], false), (3, [(10, 0), (11, 1), (12, 2)], [10, 11, 12, 14, 15, 16, 17, 18], false), (4, [], [10, 11, 12, 13], false), (5, [(14, 4)], [10, 11, 12, 13, 14], false), (6, [(14, 4), (15, 5)], [10, 11, 12, 13, 14, 15], false), (7, [(14, 4), (15, 5), (16, 6)], [10, 11, 12, 13, 14, 15, 16], false), (8, [(14, 4), (15, 5), (16, 6), (17, 7)], [10, 11, 12, 13, 14, 15, 16, 17], false), (9, [(10, 0), (11, 1), (12, 2), (13, 3), (14, 4), (15, 5), (16, 6), (17, 7), (18, 8)], [10, 11, 12, 13, 14, 15, 16, 17, 18], false), (10, [(10, 0), (11, 1), (12, 2), (13, 3), (14, 4), (15, 5), (16, 6), (17, 7), (18, 8), (19, 9)], [10, 11, 12, 13, 14, 15, 16, 17, 18, 19], false), (11, [(10, 0), (11, 1), (12, 2), (13, 3), (14, 4), (15, 5), (16, 6), (17, 7), (18, 8), (19, 9), (20, 10)], [10, 11, 12, 13, 14, 15, 16, 17, 18, 19, 20, 22, 23, 24, 25, 26, 27, 28, 29, 30], false), (12, [(10, 0), (11, 1), (12, 2), (13, 3), (14, 4), (15, 5), (16, 6), (17, 7), (18, 8), (19, 9), (20, 10)], [10, 11, 12, 13, 14, 15, 16, 17, 18, 19, 20, 21, 26, 27, 28, 29], false), (13, [(10, 0), (11, 1), (12, 2), (13, 3), (14, 4), (15, 5), (16, 6), (17, 7), (18, 8), (19, 9), (20, 10), (22, 12)], [10, 11, 12, 13, 14, 15, 16, 17, 18, 19, 20, 21, 22, 26, 27, 28, 29], false), (14, [(10, 0), (11, 1), (12, 2), (13, 3), (14, 4), (15, 5), (16, 6), (17, 7), (18, 8), (19, 9), (20, 10), (22, 12), (23, 13)], [10, 11, 12, 13, 14, 15, 16, 17, 18, 19, 20, 21, 22, 23, 26, 27, 28, 29], false), (15, [(10, 0), (11, 1), (12, 2), (13, 3), (14, 4), (15, 5), (16, 6), (17, 7), (18, 8), (19, 9), (20, 10), (22, 12), (23, 13), (24, 14)], [10, 11, 12, 13, 14, 15, 16, 17, 18, 19, 20, 21, 22, 23, 24, 26, 27, 28, 29], false), (16, [(10, 0), (11, 1), (12, 2), (13, 3), (14, 4), (15, 5), (16, 6), (17, 7), (18, 8), (19, 9), (20, 10)], [10, 11, 12, 13, 14, 15, 16, 17, 18, 19, 20, 21, 22, 23, 24, 25], false), (17, [(10, 0), (11, 1), (12, 2), (13, 3), (14, 4), (15, 5), (16, 6), (17, 7), (18, 8), (19, 9), (20, 10), (26, 16)], [10, 11, 12, 13, 14, 15, 16, 17, 18, 19, 20, 21, 22, 23, 24, 25, 26], false), (18, [(10, 0), (11, 1), (12, 2), (13, 3), (14, 4), (15, 5), (16, 6), (17, 7), (18, 8), (19, 9), (20, 10), (26, 16), (27, 17)], [10, 11, 12, 13, 14, 15, 16, 17, 18, 19, 20, 21, 22, 23, 24, 25, 26, 27], false), (19, [(10, 0), (11, 1), (12, 2), (13, 3), (14, 4), (15, 5), (16, 6), (17, 7), (18, 8), (19, 9), (20, 10), (26, 16), (27, 17), (28, 18)], [10, 11, 12, 13, 14, 15, 16, 17, 18, 19, 20, 21, 22, 23, 24, 25, 26, 27, 28], false), (20, [(10, 0), (11, 1), (12, 2), (13, 3), (14, 4), (15, 5), (16, 6), (17, 7), (18, 8), (19, 9), (20, 10), (22, 12), (23, 13), (24, 14), (25, 15), (26, 16), (27, 17), (28, 18), (29, 19)], [10, 11, 12, 13, 14, 15, 16, 17, 18, 19, 20, 21, 22, 23, 24, 25, 26, 27, 28, 29], false), (21, [(10, 0), (11, 1), (12, 2), (13, 3), (14, 4), (15, 5), (16, 6), (17, 7), (18, 8), (19, 9), (20, 10), (21, 11), (22, 12), (23, 13), (24, 14), (25, 15), (26, 16), (27, 17), (28, 18), (29, 19), (30, 20)], [10, 11, 12, 13, 14, 15, 16, 17, 18, 19, 20, 21, 22, 23, 24, 25, 26, 27, 28, 29, 30], true), (22, [(10, 0), (11, 1), (12, 2), (13, 3), (14, 4), (15, 5), (16, 6), (17, 7), (18, 8), (19, 9), (20, 10), (21, 11), (22, 12), (23, 13), (24, 14), (25, 15), (26, 16), (27, 17), (28, 18), (29, 19), (30, 20), (31, 21)], [10, 11, 12, 13, 14, 15, 16, 17, 18, 19, 20, 21, 22, 23, 24, 25, 26, 27, 28, 29, 30, 31], false)]
      [(10, 0), (11, 1), (12, 2), (13, 3), (14, 4), (15, 5), (16, 6), (17, 7), (18, 8), (19, 9), (20, 10), (21, 11), (22, 12), (23, 13), (24, 14), (25, 15), (26, 16), (27, 17), (28, 18), (29, 19), (30, 20), (31, 21), (32, 22)] []
      [(0, _), (1, _), (5, _)] rfl (by kernel_rfl)
    case hF => exact ⟨rfl, rfl, rfl, trivial⟩
    refine run ?_
    refine (hg X c).mono ?_
    rintro _ Z ⟨rfl, e⟩
    subst Z
    cases hp : p c with
    | true =>
      rw [tw_step hc hp] at hw
      refine run ?_
      refine Ob.store rfl rfl rfl hX' rfl (by first | exact Nat.le_of_ble_eq_true rfl | simp) fun Y y1 y2 y3 => ?_
      refine run ?_
      refine ⟨m + 1, ⟨rfl, rfl, rfl, trivial⟩, ⟨by omega, by omega, ?_, kX.trans y2, by omega, ?_⟩, by dsimp only; omega⟩
      · exact y1.trans (by rw [← w1]; rfl)
      · rw [hw, show m + 1 - k = (m - k) + 1 by omega, List.take_add_one, List.getElem?_drop, show k + (m - k) = m by omega, hc]
        simp
    | false =>
      rw [tw_stop hc hp, List.append_nil] at hw
      obtain ⟨e1, e2⟩ := fin (tw_stop hc hp) hw
      refine run ?_
      apply SW.drawH [(0, [], [44, 45, 46, 47, 48], false), (1, [(40, 0)], [40, 44, 45, 46, 47, 48], false), (2, [(40, 0), (41, 1)], [40, 41, 44, 45, 46, 47, 48], false), (3, [(40, 0), (41, 1), (42, 2)], [40, 41, 42, 44, 45, 46, 47, 48], false), (4, [], [40, 41, 42, 43, 45, 46, 47, 48], false), (5, [], [40, 41, 42, 43, 44], false), (6, [(45, 5)], [40, 41, 42, 43, 44, 45], false), (7, [(45, 5), (46, 6)], [40, 41, 42, 43, 44, 45, 46], false), (8, [(45, 5), (46, 6), (47, 7)], [40, 41, 42, 43, 44, 45, 46, 47], false), (9, [(40, 0), (41, 1), (42, 2), (43, 3), (44, 4), (45, 5), (46, 6), (47, 7), (48, 8)], [40, 41, 42, 43, 44, 45, 46, 47, 48], false), (10, [(40, 0), (41, 1), (42, 2), (43, 3), (44, 4), (45, 5), (46, 6), (47, 7), (48, 8), (49, 9)], [40, 41, 42, 43, 44, 45, 46, 47, 48, 49], false)]
        [(40, 0), (41, 1), (42, 2), (43, 3), (44, 4), (45, 5), (46, 6), (47, 7), (48, 8), (49, 9), (4, 10)] []
        [(0, _), (1, _), (5, _)] rfl (by kernel_rfl)
      case hF => exact ⟨rfl, rfl, rfl, trivial⟩
      refine run ?_
      exact ⟨congrArg Value.string e2, by rw [e1]; exact hX, kX, lX⟩
  · have d1 : decide ((m : Int) < (s.size : Int)) = false := decide_eq_false (by omega)
    have hd : L.drop m = [] := List.drop_of_length_le (by omega)
    have ht : (L.drop m).takeWhile p = [] := by rw [hd]; rfl
    rw [ht, List.append_nil] at hw
    obtain ⟨e1, e2⟩ := fin ht hw
    refine run ?_
    apply SW.drawH [(0, [], [14, 15, 16, 17, 18], false), (1, [(10, 0)], [10, 14, 15, 16, 17, 18], false), (2, [(10, 0), (11, 1)], [10, 11, 14, 15, 16, 17, 18], false), (3, [(10, 0), (11, 1), (12, 2)], [10, 11, 12, 14, 15, 16, 17, 18], false), (4, [], [10, 11, 12, 13], false), (5, [(14, 4)], [10, 11, 12, 13, 14], false), (6, [(14, 4), (15, 5)], [10, 11, 12, 13, 14, 15], false), (7, [(14, 4), (15, 5), (16, 6)], [10, 11, 12, 13, 14, 15, 16], false), (8, [(14, 4), (15, 5), (16, 6), (17, 7)], [10, 11, 12, 13, 14, 15, 16, 17], false), (9, [(10, 0), (11, 1), (12, 2), (13, 3), (14, 4), (15, 5), (16, 6), (17, 7), (18, 8)], [10, 11, 12, 13, 14, 15, 16, 17, 18], false), (10, [(10, 0), (11, 1), (12, 2), (13, 3), (14, 4), (15, 5), (16, 6), (17, 7), (18, 8), (19, 9)], [10, 11, 12, 13, 14, 15, 16, 17, 18, 19], false), (11, [(10, 0), (11, 1), (12, 2), (13, 3), (14, 4), (15, 5), (16, 6), (17, 7), (18, 8), (19, 9), (20, 10)], [10, 11, 12, 13, 14, 15, 16, 17, 18, 19, 20, 22, 23, 24, 25, 26, 27, 28, 29, 30], false), (12, [(10, 0), (11, 1), (12, 2), (13, 3), (14, 4), (15, 5), (16, 6), (17, 7), (18, 8), (19, 9), (20, 10)], [10, 11, 12, 13, 14, 15, 16, 17, 18, 19, 20, 21, 26, 27, 28, 29], false), (13, [(10, 0), (11, 1), (12, 2), (13, 3), (14, 4), (15, 5), (16, 6), (17, 7), (18, 8), (19, 9), (20, 10), (22, 12)], [10, 11, 12, 13, 14, 15, 16, 17, 18, 19, 20, 21, 22, 26, 27, 28, 29], false), (14, [(10, 0), (11, 1), (12, 2), (13, 3), (14, 4), (15, 5), (16, 6), (17, 7), (18, 8), (19, 9), (20, 10), (22, 12), (23, 13)], [10, 11, 12, 13, 14, 15, 16, 17, 18, 19, 20, 21, 22, 23, 26, 27, 28, 29], false), (15, [(10, 0), (11, 1), (12, 2), (13, 3), (14, 4), (15, 5), (16, 6), (17, 7), (18, 8), (19, 9), (20, 10), (22, 12), (23, 13), (24, 14)], [10, 11, 12, 13, 14, 15, 16, 17, 18, 19, 20, 21, 22, 23, 24, 26, 27, 28, 29], false), (16, [(10, 0), (11, 1), (12, 2), (13, 3), (14, 4), (15, 5), (16, 6), (17, 7), (18, 8), (19, 9), (20, 10)], [10, 11, 12, 13, 14, 15, 16, 17, 18, 19, 20, 21, 22, 23, 24, 25], false), (17, [(10, 0), (11, 1), (12, 2), (13, 3), (14, 4), (15, 5), (16, 6), (17, 7), (18, 8), (19, 9), (20, 10), (26, 16)], [10, 11, 12, 13, 14, 15, 16, 17, 18, 19, 20, 21, 22, 23, 24, 25, 26], false), (18, [(10, 0), (11, 1), (12, 2), (13, 3), (14, 4), (15, 5), (16, 6), (17, 7), (18, 8), (19, 9), (20, 10), (26, 16), (27, 17)], [10, 11, 12, 13, 14, 15, 16, 17, 18, 19, 20, 21, 22, 23, 24, 25, 26, 27], false), (19, [(10, 0), (11, 1), (12, 2), (13, 3), (14, 4), (15, 5), (16, 6), (17, 7), (18, 8), (19, 9), (20, 10), (26, 16), (27, 17), (28, 18)], [10, 11, 12, 13, 14, 15, 16, 17, 18, 19, 20, 21, 22, 23, 24, 25, 26, 27, 28], false), (20, [(10, 0), (11, 1), (12, 2), (13, 3), (14, 4), (15, 5), (16, 6), (17, 7), (18, 8), (19, 9), (20, 10), (22, 12), (23, 13), (24, 14), (25, 15), (26, 16), (27, 17), (28, 18), (29, 19)], [10, 11, 12, 13, 14, 15, 16, 17, 18, 19, 20, 21, 22, 23, 24, 25, 26, 27, 28, 29], false), (21, [(10, 0), (11, 1), (12, 2), (13, 3), (14, 4), (15, 5), (16, 6), (17, 7), (18, 8), (19, 9), (20, 10), (21, 11), (22, 12), (23, 13), (24, 14), (25, 15), (26, 16), (27, 17), (28, 18), (29, 19), (30, 20)], [10, 11, 12, 13, 14, 15, 16, 17, 18, 19, 20, 21, 22, 23, 24, 25, 26, 27, 28, 29, 30], true), (22, [(10, 0), (11, 1), (12, 2), (13, 3), (14, 4), (15, 5), (16, 6), (17, 7), (18, 8), (19, 9), (20, 10), (21, 11), (22, 12), (23, 13), (24, 14), (25, 15), (26, 16), (27, 17), (28, 18), (29, 19), (30, 20), (31, 21)], [10, 11, 12, 13, 14, 15, 16, 17, 18, 19, 20, 21, 22, 23, 24, 25, 26, 27, 28, 29, 30, 31], false)]
      [(10, 0), (11, 1), (12, 2), (13, 3), (14, 4), (15, 5), (16, 6), (17, 7), (18, 8), (19, 9), (20, 10), (21, 11), (22, 12), (23, 13), (24, 14), (25, 15), (26, 16), (27, 17), (28, 18), (29, 19), (30, 20), (31, 21), (32, 22)] []
      [(0, _), (1, _), (5, _)] rfl (by kernel_rfl)
    case hF => exact ⟨rfl, rfl, rfl, trivial⟩
    refine run ?_
    apply SW.drawH [(0, [], [44, 45, 46, 47, 48], false), (1, [(40, 0)], [40, 44, 45, 46, 47, 48], false), (2, [(40, 0), (41, 1)], [40, 41, 44, 45, 46, 47, 48], false), (3, [(40, 0), (41, 1), (42, 2)], [40, 41, 42, 44, 45, 46, 47, 48], false), (4, [], [40, 41, 42, 43, 45, 46, 47, 48], false), (5, [], [40, 41, 42, 43, 44], false), (6, [(45, 5)], [40, 41, 42, 43, 44, 45], false), (7, [(45, 5), (46, 6)], [40, 41, 42, 43, 44, 45, 46], false), (8, [(45, 5), (46, 6), (47, 7)], [40, 41, 42, 43, 44, 45, 46, 47], false), (9, [(40, 0), (41, 1), (42, 2), (43, 3), (44, 4), (45, 5), (46, 6), (47, 7), (48, 8)], [40, 41, 42, 43, 44, 45, 46, 47, 48], false), (10, [(40, 0), (41, 1), (42, 2), (43, 3), (44, 4), (45, 5), (46, 6), (47, 7), (48, 8), (49, 9)], [40, 41, 42, 43, 44, 45, 46, 47, 48, 49], false)]
      [(40, 0), (41, 1), (42, 2), (43, 3), (44, 4), (45, 5), (46, 6), (47, 7), (48, 8), (49, 9), (4, 10)] []
      [(0, _), (1, _), (5, _)] rfl (by kernel_rfl)
    case hF => exact ⟨rfl, rfl, rfl, trivial⟩
    refine run ?_
    exact ⟨congrArg Value.string e2, by rw [e1]; exact hX, kX, lX⟩
end Go.Proofs.Ythhbocbgkhooaaa
/- Package lex: blanks. -/
set_option linter.unusedVariables false
set_option linter.unusedSimpArgs false
set_option maxRecDepth 20000
set_option maxHeartbeats 4000000
namespace Go.Proofs.Ythhbocbgkhooaaa
open Go Ax
def blankB (c : UInt8) : Bool := (c == 32) || ((c == 10) || (c == 9))
def noteB (c : UInt8) : Bool := !(c == 10)
theorem u8_beq (c d : UInt8) : (((c.toNat : Int) == (d.toNat : Int)) : Bool) = (c == d) := by
  rw [Bool.eq_iff_iff, beq_iff_eq, beq_iff_eq]
  constructor
  · intro h; exact UInt8.toNat_inj.1 (by omega)
  · intro h; rw [h]
theorem blank1_ax : Tells8 36 blankB := fun H c => by
  have e1 : ((c.toNat : Int) == 32) = (c == 32) := u8_beq c 32
  have e2 : ((c.toNat : Int) == 10) = (c == 10) := u8_beq c 10
  have e3 : ((c.toNat : Int) == 9) = (c == 9) := u8_beq c 9
  refine AX.body (n := 13) (rs := [.tmp 2]) Try.func36 rfl (by decide) rfl rfl (bC_sound _ _ _ _ ?_)
  unfold blankB
  rw [← e1, ← e2, ← e3]
  cases h1 : ((c.toNat : Int) == 32) <;> cases h2 : ((c.toNat : Int) == 10) <;> cases h3 : ((c.toNat : Int) == 9) <;> (refine run ?_; exact ⟨by simp [oneOr, h1, h2, h3], rfl⟩)
theorem blank2_ax : Tells8 38 noteB := fun H c => by
  have e2 : ((c.toNat : Int) == 10) = (c == 10) := u8_beq c 10
  refine AX.body (n := 5) (rs := [.tmp 2]) Try.func38 rfl (by decide) rfl rfl (bC_sound _ _ _ _ ?_)
  unfold noteB
  rw [← e2]
  refine run ?_
  exact ⟨rfl, rfl⟩
theorem drop_tw (p : UInt8 → Bool) : ∀ r : Bs, r.drop (r.takeWhile p).length = r.dropWhile p
  | [] => rfl
  | c :: r => by
    cases hp : p c with
    | true => rw [List.takeWhile_cons_of_pos hp, List.dropWhile_cons_of_pos hp, List.length_cons, List.drop_succ_cons]; exact drop_tw p r
    | false => rw [List.takeWhile_cons_of_neg (by simp [hp]), List.dropWhile_cons_of_neg (by simp [hp])]; rfl
theorem blank_iff {c : UInt8} : blankB c = true ↔ c = 32 ∨ c = 10 ∨ c = 9 := by
  unfold blankB
  rw [Bool.or_eq_true, Bool.or_eq_true, beq_iff_eq, beq_iff_eq, beq_iff_eq]
theorem skip_blank {c : UInt8} {r : Bs} (h : blankB c = true) : skipL false (c :: r) = skipL false r := by
  rw [blank_iff] at h
  show (if c = 47 ∧ _ then _ else if _ then _ else _) = _
  rw [if_neg (by rintro ⟨h1, _⟩; subst h1; revert h; decide), if_pos h]
theorem skip_blanks : ∀ r : Bs, skipL false r = skipL false (r.dropWhile blankB)
  | [] => rfl
  | c :: r => by
    cases hp : blankB c with
    | true => rw [List.dropWhile_cons_of_pos hp, skip_blank hp]; exact skip_blanks r
    | false => rw [List.dropWhile_cons_of_neg (by simp [hp])]
theorem skip_note : ∀ r : Bs, skipL true r = skipL false (r.dropWhile noteB)
  | [] => rfl
  | c :: r => by
    by_cases hc : c = 10
    · subst hc
      rw [List.dropWhile_cons_of_neg (by decide), skip_blank (by decide)]
      rfl
    · rw [List.dropWhile_cons_of_pos (by simp [noteB, hc])]
      show (if c = 10 then _ else _) = _
      rw [if_neg hc]
      exact skip_note r
theorem skip_slash {r : Bs} (h : [47, 47] <+: r) : skipL false r = skipL false (r.dropWhile noteB) := by
  obtain ⟨t, rfl⟩ := h
  show (if (47 : UInt8) = 47 ∧ _ then _ else _) = _
  rw [if_pos ⟨rfl, rfl⟩, skip_note]
  rfl
theorem skip_stop {r : Bs} (h : r.dropWhile blankB = r) (h2 : ¬ [47, 47] <+: r) : skipL false r = r := by
  cases r with
  | nil => rfl
  | cons c r =>
    have hb : ¬ blankB c = true := fun hb => by
      rw [List.dropWhile_cons_of_pos hb] at h
      have := (List.dropWhile_suffix (l := r) blankB).length_le
      rw [h, List.length_cons] at this
      omega
    rw [blank_iff] at hb
    show (if c = 47 ∧ r.head? = some 47 then _ else if _ then _ else _) = _
    rw [if_neg, if_neg hb]
    rintro ⟨rfl, h3⟩
    cases r with
    | nil => simp at h3
    | cons d r =>
      simp only [List.head?_cons, Option.some.injEq] at h3
      subst h3
      exact h2 ⟨r, rfl⟩
theorem dw_idem (p : UInt8 → Bool) : ∀ r : Bs, (r.dropWhile p).dropWhile p = r.dropWhile p
  | [] => rfl
  | c :: r => by
    cases hp : p c with
    | true => rw [List.dropWhile_cons_of_pos hp]; exact dw_idem p r
    | false => rw [List.dropWhile_cons_of_neg (by simp [hp]), List.dropWhile_cons_of_neg (by simp [hp])]
theorem blanks_ax {H : Heap} {b : Nat} {s : ByteArray} {k : Nat} (h : RdL H b s k) (hs : s.size ≤ 100000) (hk : k ≤ s.size) :
    AX Try.prog 18 #[.pointer (some ⟨b, 0, none⟩)] H (fun _ H' => (∃ m, RdL H' b s m ∧ m ≤ s.size ∧ s.data.toList.drop m = skipL false (s.data.toList.drop k)) ∧ But b H H' ∧ H'.length = H.length) := by
  have hsz := size_data s
  generalize hL : s.data.toList = L at *
  refine AX.body (n := 17) (rs := []) Try.func18 rfl (by decide) rfl rfl (bC_sound _ _ _ _ ?_)
  refine SW.loop (α := Nat) (fun m => [(0, .pointer (some ⟨b, 0, none⟩))]) (fun m X => m ≤ L.length ∧ RdL X b s m ∧ But b H X ∧ X.length = H.length ∧ skipL false (L.drop k) = skipL false (L.drop m)) (fun m => L.length - m)
    ⟨k, ⟨rfl, trivial⟩, by omega, h, .refl _ _, rfl, rfl⟩ ?_
  rintro m X ⟨hm, hX, kX, lX, hk'⟩
  refine bC_sound _ _ _ _ ?_
  refine run ?_
  refine (run_ax blank1_ax hX hs (by omega)).mono ?_
  rintro v Y ⟨_, hY, kY, lY⟩
  rw [hL] at hY
  have hd := drop_tw blankB (L.drop m)
  rw [List.drop_drop] at hd
  have htl := tw_len blankB (L.drop m)
  rw [List.length_drop] at htl
  generalize hm2 : m + ((L.drop m).takeWhile blankB).length = m2 at hY hd
  have hm2l : m2 ≤ L.length := by omega
  have hY' : Y[b]? = some (.cells .var [.string s, .int .i64 (m2 : Int)]) := hY
  have bY := hblk_of hY'
  have sl := slice_lo2 (s := s) (n := (m2 : Int)) (by omega) (by omega)
  rw [Int.toNat_natCast] at sl
  have el : (s.extract m2 s.size).data.toList = L.drop m2 := by rw [ext_list, hL, List.take_of_length_le (by rw [List.length_drop]; omega)]
  refine run ?_
  apply SW.drawH [(0, [], [8, 9, 10, 11], false), (1, [(4, 0)], [4, 8, 9, 10, 11], false), (2, [(4, 0), (5, 1)], [4, 5, 8, 9, 10, 11], false), (3, [(4, 0), (5, 1), (6, 2)], [4, 5, 6, 8, 9, 10, 11], false), (4, [], [4, 5, 6, 7], false), (5, [(8, 4)], [4, 5, 6, 7, 8], false), (6, [(8, 4), (9, 5)], [4, 5, 6, 7, 8, 9], false), (7, [(8, 4), (9, 5), (10, 6)], [4, 5, 6, 7, 8, 9, 10], false), (8, [(4, 0), (5, 1), (6, 2), (7, 3), (8, 4), (9, 5), (10, 6), (11, 7)], [4, 5, 6, 7, 8, 9, 10, 11], false), (9, [(4, 0), (5, 1), (6, 2), (7, 3), (8, 4), (9, 5), (10, 6), (11, 7), (12, 8)], [4, 5, 6, 7, 8, 9, 10, 11, 12], true), (10, [(4, 0), (5, 1), (6, 2), (7, 3), (8, 4), (9, 5), (10, 6), (11, 7), (12, 8), (13, 9)], [4, 5, 6, 7, 8, 9, 10, 11, 12, 13], false)]
    [(4, 0), (5, 1), (6, 2), (7, 3), (8, 4), (9, 5), (10, 6), (11, 7), (12, 8), (13, 9), (14, 10)] []
    [(0, _)] rfl (by kernel_rfl)
  case hF => exact ⟨rfl, trivial⟩
  refine run ?_
  refine (hasPrefix_ax Y (s.extract m2 s.size) (bstr [47, 47])).mono ?_
  rintro _ Z ⟨rfl, e⟩
  subst Z
  rw [el, bstr_toList]
  have hsk : skipL false (L.drop k) = skipL false (L.drop m2) := by rw [hk', skip_blanks (L.drop m), hd]
  have hidem : (L.drop m2).dropWhile blankB = L.drop m2 := by rw [hd, dw_idem]
  by_cases hp : [47, 47] <+: L.drop m2
  · rw [decide_eq_true hp]
    refine run ?_
    refine (run_ax blank2_ax hY hs (by omega)).mono ?_
    rintro v2 Z ⟨_, hZ, kZ, lZ⟩
    rw [hL] at hZ
    have hd2 := drop_tw noteB (L.drop m2)
    rw [List.drop_drop] at hd2
    have htl2 := tw_len noteB (L.drop m2)
    rw [List.length_drop] at htl2
    have hpos : 1 ≤ ((L.drop m2).takeWhile noteB).length := by
      obtain ⟨t, ht⟩ := hp
      rw [← ht]
      simp [noteB, List.takeWhile]
    refine run ?_
    exact ⟨m2 + ((L.drop m2).takeWhile noteB).length, ⟨rfl, trivial⟩, ⟨by omega, hZ, (kX.trans kY).trans kZ, by omega, by rw [hsk, skip_slash hp, hd2]⟩, by dsimp only; omega⟩
  · rw [decide_eq_false hp]
    refine run ?_
    exact ⟨⟨m2, hY, by omega, by rw [hsk, skip_stop hidem hp]⟩, kX.trans kY, by omega⟩
theorem rxSkip_ax (H : Heap) {s : ByteArray} (hs : s.size ≤ 100000) {k : Nat} (hk : k ≤ s.size) :
    AX Try.prog 20 #[.string s, .int .i64 (k : Int)] H (fun v H' => (∃ m : Nat, v = .int .i64 (m : Int) ∧ m ≤ s.size ∧ s.data.toList.drop m = skipL false (s.data.toList.drop k)) ∧ H' = H) := by
  have hsz := size_data s
  generalize hL : s.data.toList = L at *
  refine AX.body (n := 53) (rs := [.tmp 4]) Try.func20 rfl (by decide) rfl rfl (bC_sound _ _ _ _ ?_)
  refine run ?_
  refine SW.loop (α := Nat × Bool) (fun y => [(0, .string s), (1, .int .i64 (y.1 : Int)), (5, .bool y.2)]) (fun y X => X = H ∧ y.1 ≤ L.length ∧ skipL false (L.drop k) = skipL y.2 (L.drop y.1)) (fun y => L.length - y.1)
    ⟨(k, false), ⟨rfl, rfl, rfl, trivial⟩, rfl, by dsimp only; omega, rfl⟩ ?_
  rintro ⟨m, note⟩ X ⟨e, hm, hk'⟩
  subst X
  dsimp only at hm hk' ⊢
  refine bC_sound _ _ _ _ ?_
  by_cases hl : m < L.length
  rotate_left
  · have d1 : decide ((m : Int) < (s.size : Int)) = false := decide_eq_false (by omega)
    have hd : L.drop m = [] := List.drop_of_length_le (by omega)
    refine run ?_
    exact ⟨⟨m, rfl, by omega, by rw [hk', hd]; cases note <;> rfl⟩, rfl⟩
  have d1 : decide ((m : Int) < (s.size : Int)) = true := decide_eq_true (by omega)
  obtain ⟨c, hc⟩ := get_lt hl
  have ix := aix (s := s) (k := m) (c := c) (by rw [hL]; exact hc)
  have w1 := w_succ (k := m) (by omega)
  have hdc := drop_cons hc
  cases note with
  | true =>
    have e2 : ((c.toNat : Int) == 10) = (c == 10) := u8_beq c 10
    by_cases h10 : c = 10
    · have d2 : ((c.toNat : Int) == 10) = true := by rw [e2, beq_iff_eq]; exact h10
      refine run ?_
      refine ⟨(m + 1, !((c.toNat : Int) == 10)), ⟨rfl, congrArg (fun z => some (Value.int .i64 z)) w1, rfl, trivial⟩, ⟨rfl, by dsimp only; omega, ?_⟩, by dsimp only; omega⟩
      rw [hk', hdc, d2]
      show (if c = 10 then _ else _) = _
      rw [if_pos h10]; rfl
    · have d2 : ((c.toNat : Int) == 10) = false := by rw [e2, beq_eq_false_iff_ne]; exact h10
      refine run ?_
      refine ⟨(m + 1, !((c.toNat : Int) == 10)), ⟨rfl, congrArg (fun z => some (Value.int .i64 z)) w1, rfl, trivial⟩, ⟨rfl, by dsimp only; omega, ?_⟩, by dsimp only; omega⟩
      rw [hk', hdc, d2]
      show (if c = 10 then _ else _) = _
      rw [if_neg h10]; rfl
  | false =>
    have e1 : ((c.toNat : Int) == 47) = (c == 47) := u8_beq c 47
    have e3 : ((c.toNat : Int) == 32) = (c == 32) := u8_beq c 32
    have e4 : ((c.toNat : Int) == 10) = (c == 10) := u8_beq c 10
    have e5 : ((c.toNat : Int) == 9) = (c == 9) := u8_beq c 9
    have hsk : skipL false (c :: L.drop (m + 1)) = if c = 47 ∧ (L.drop (m + 1)).head? = some 47 then skipL true (L.drop (m + 1)) else if c = 32 ∨ c = 10 ∨ c = 9 then skipL false (L.drop (m + 1)) else c :: L.drop (m + 1) := rfl
    rw [← hdc, List.head?_drop] at hsk
    -- what stands behind
    have rest : ¬ (c = 47 ∧ L[m + 1]? = some 47) → True := fun _ => trivial
    by_cases hn : c = 47 ∧ L[m + 1]? = some 47
    · obtain ⟨h1, h2⟩ := hn
      have hl2 := lt_of_get h2
      have ix2 := aix (s := s) (k := m + 1) (c := 47) (by rw [hL]; exact h2)
      have d2 : ((c.toNat : Int) == 47) = true := by rw [e1, beq_iff_eq]; exact h1
      have d3 : decide (((m + 1 : Nat) : Int) < (s.size : Int)) = true := decide_eq_true (by omega)
      rw [← w1] at ix2 d3
      rw [if_pos ⟨h1, h2⟩] at hsk
      refine run ?_
      exact ⟨(m + 1, true), ⟨rfl, congrArg (fun z => some (Value.int .i64 z)) w1, rfl, trivial⟩, ⟨rfl, by dsimp only; omega, hk'.trans hsk⟩, by dsimp only; omega⟩
    · rw [if_neg hn] at hsk
      have body : ∀ {Q : Prop}, (((c.toNat : Int) == 32) = true → Q) → True := fun _ => trivial
      by_cases hb : c = 32 ∨ c = 10 ∨ c = 9
      · rw [if_pos hb] at hsk
        have hn47 : c ≠ 47 := by rintro rfl; revert hb; decide
        have d2 : ((c.toNat : Int) == 47) = false := by rw [e1, beq_eq_false_iff_ne]; exact hn47
        have go : True := trivial
        rcases hb with rfl | rfl | rfl
        all_goals
          refine run ?_
          exact ⟨(m + 1, false), ⟨rfl, congrArg (fun z => some (Value.int .i64 z)) w1, rfl, trivial⟩, ⟨rfl, by dsimp only; omega, hk'.trans hsk⟩, by dsimp only; omega⟩
      · rw [if_neg hb] at hsk
        simp only [not_or] at hb
        have d3 : ((c.toNat : Int) == 32) = false := by rw [e3, beq_eq_false_iff_ne]; exact hb.1
        have d4 : ((c.toNat : Int) == 10) = false := by rw [e4, beq_eq_false_iff_ne]; exact hb.2.1
        have d5 : ((c.toNat : Int) == 9) = false := by rw [e5, beq_eq_false_iff_ne]; exact hb.2.2
        have g3 : (!((c.toNat : Int) == 32)) = true := by rw [d3]; rfl
        have g4 : (!((c.toNat : Int) == 10)) = true := by rw [d4]; rfl
        have g5 : (!((c.toNat : Int) == 9)) = true := by rw [d5]; rfl
        by_cases h47 : c = 47
        · have d2 : ((c.toNat : Int) == 47) = true := by rw [e1, beq_iff_eq]; exact h47
          by_cases hl2 : m + 1 < L.length
          · obtain ⟨c2, hc2⟩ := get_lt hl2
            have ix2 := aix (s := s) (k := m + 1) (c := c2) (by rw [hL]; exact hc2)
            have d3' : decide (((m + 1 : Nat) : Int) < (s.size : Int)) = true := decide_eq_true (by omega)
            rw [← w1] at ix2 d3'
            have e6 : ((c2.toNat : Int) == 47) = (c2 == 47) := u8_beq c2 47
            have d6 : ((c2.toNat : Int) == 47) = false := by rw [e6, beq_eq_false_iff_ne]; exact fun h => hn ⟨h47, by rw [hc2, h]⟩
            refine run ?_
            exact ⟨⟨m, rfl, by omega, by rw [hk', hsk, hdc]⟩, rfl⟩
          · have d3' : decide (((m + 1 : Nat) : Int) < (s.size : Int)) = false := decide_eq_false (by omega)
            rw [← w1] at d3'
            refine run ?_
            exact ⟨⟨m, rfl, by omega, by rw [hk', hsk, hdc]⟩, rfl⟩
        · have d2 : ((c.toNat : Int) == 47) = false := by rw [e1, beq_eq_false_iff_ne]; exact h47
          refine run ?_
          exact ⟨⟨m, rfl, by omega, by rw [hk', hsk, hdc]⟩, rfl⟩
end Go.Proofs.Ythhbocbgkhooaaa
/- Package lex: one token. -/
set_option linter.unusedVariables false
set_option linter.unusedSimpArgs false
set_option maxRecDepth 20000
set_option maxHeartbeats 4000000
namespace Go.Proofs.Ythhbocbgkhooaaa
open Go Ax
abbrev tokV (t : TokX) : Value := .agg #[.int .i64 t.1, .string t.2.1, .int .i64 t.2.2.1, .int .i64 t.2.2.2]
abbrev tok0 : TokX := (0, bstr [], 0, 0)
theorem word1_ax : Tells8 56 wordB := fun H c => by
  refine AX.body (n := 9) (rs := [.tmp 2]) Try.func56 rfl (by decide) rfl rfl (bC_sound _ _ _ _ ?_)
  refine run ?_
  refine (lxLetter_ax H (c.toNat : Int)).mono ?_
  rintro _ X ⟨rfl, e⟩
  subst X
  unfold wordB letB digB
  cases h : letterB (c.toNat : Int) with
  | true =>
    refine run ?_
    exact ⟨rfl, rfl⟩
  | false =>
    refine run ?_
    refine (lxDigit_ax H (c.toNat : Int)).mono ?_
    rintro _ X ⟨rfl, e⟩
    subst X
    refine run ?_
    exact ⟨rfl, rfl⟩
theorem digit8_ax : Tells8 41 digB := fun H c => lxDigit_ax H (c.toNat : Int)
/-- A word's kind (0: it is none). -/
def wordK (w : Bs) : Int := if keyS w = true then 2 else if nameS w = true then 1 else 0
theorem word_ax {H : Heap} {b : Nat} {s : ByteArray} {k : Nat} (h : RdL H b s k) (hs : s.size ≤ 100000) (hk : k ≤ s.size) :
    AX Try.prog 40 #[.pointer (some ⟨b, 0, none⟩)] H (fun v H' =>
      v = (if wordK ((s.data.toList.drop k).takeWhile wordB) = 0 then .tuple #[tokV tok0, .int .i64 11] else .tuple #[tokV (wordK ((s.data.toList.drop k).takeWhile wordB), bstr ((s.data.toList.drop k).takeWhile wordB), 0, 0), .int .i64 0]) ∧
      RdL H' b s (k + ((s.data.toList.drop k).takeWhile wordB).length) ∧ But b H H') := by
  have hsz := size_data s
  refine AX.body (n := 18) (rs := [.cell 2 34, .tmp 3]) Try.func40 rfl (by decide) rfl rfl (bC_sound _ _ _ _ ?_)
  refine run ?_
  refine Ob2.alloc rfl fun q2 H1 hq2 a2 g1 => ?_
  have hb2 : q2 ≠ b := by have := lt_at h; omega
  refine run ?_
  refine (run_ax word1_ax (g1.at h) hs hk).mono ?_
  rintro _ X ⟨rfl, hX, kX, lX⟩
  have a2X := kX.at a2 hb2
  have htl := tw_len wordB (s.data.toList.drop k)
  rw [List.length_drop] at htl
  generalize (s.data.toList.drop k).takeWhile wordB = w at hX htl ⊢
  have hws : (bstr w).size ≤ 100000 := by rw [bstr_size]; omega
  refine run ?_
  refine (lxIsKey_ax X (bstr w)).mono ?_
  rintro _ Z ⟨rfl, e⟩
  subst Z
  rw [bstr_toList]
  cases hkey : keyS w with
  | true =>
    have hK : wordK w = 2 := by unfold wordK; rw [if_pos hkey]
    rw [hK]
    refine run ?_
    refine Ob.store rfl rfl rfl a2X rfl (by first | exact Nat.le_of_ble_eq_true rfl | simp) fun Y y1 y2 y3 => ?_
    have c2 := hblk_of y1
    refine run ?_
    exact ⟨rfl, y2.at hX (Ne.symm hb2), ((g1.but b).trans kX).but_new y2 (by omega)⟩
  | false =>
    refine run ?_
    refine (name_ax X hws).mono ?_
    rintro _ Z ⟨rfl, e⟩
    subst Z
    rw [bstr_toList]
    cases hnm : nameS w with
    | true =>
      have hK : wordK w = 1 := by unfold wordK; rw [if_neg (by simp [hkey]), if_pos hnm]
      rw [hK]
      refine run ?_
      refine Ob.store rfl rfl rfl a2X rfl (by first | exact Nat.le_of_ble_eq_true rfl | simp) fun Y y1 y2 y3 => ?_
      have c2 := hblk_of y1
      refine run ?_
      exact ⟨rfl, y2.at hX (Ne.symm hb2), ((g1.but b).trans kX).but_new y2 (by omega)⟩
    | false =>
      have hK : wordK w = 0 := by unfold wordK; rw [if_neg (by simp [hkey]), if_neg (by simp [hnm])]
      rw [hK]
      refine run ?_
      refine Ob.store rfl rfl rfl a2X rfl (by first | exact Nat.le_of_ble_eq_true rfl | simp) fun Y y1 y2 y3 => ?_
      have c2 := hblk_of y1
      refine run ?_
      exact ⟨rfl, y2.at hX (Ne.symm hb2), ((g1.but b).trans kX).but_new y2 (by omega)⟩
theorem number_ax {H : Heap} {b : Nat} {s : ByteArray} {k : Nat} (h : RdL H b s k) (hs : s.size ≤ 100000) (hk : k ≤ s.size) :
    AX Try.prog 42 #[.pointer (some ⟨b, 0, none⟩)] H (fun v H' =>
      v = (if (readS ((s.data.toList.drop k).takeWhile digB)).2 = 0 then .tuple #[tokV (3, bstr (decL (readS ((s.data.toList.drop k).takeWhile digB)).1.toNat), (readS ((s.data.toList.drop k).takeWhile digB)).1, 0), .int .i64 0] else .tuple #[tokV tok0, .int .i64 (readS ((s.data.toList.drop k).takeWhile digB)).2]) ∧
      RdL H' b s (k + ((s.data.toList.drop k).takeWhile digB).length) ∧ But b H H') := by
  have hsz := size_data s
  refine AX.body (n := 20) (rs := [.cell 2 34, .tmp 3]) Try.func42 rfl (by decide) rfl rfl (bC_sound _ _ _ _ ?_)
  refine run ?_
  refine Ob2.alloc rfl fun q2 H1 hq2 a2 g1 => ?_
  have hb2 : q2 ≠ b := by have := lt_at h; omega
  refine run ?_
  refine (run_ax digit8_ax (g1.at h) hs hk).mono ?_
  rintro _ X ⟨rfl, hX, kX, lX⟩
  have a2X := kX.at a2 hb2
  have htl := tw_len digB (s.data.toList.drop k)
  rw [List.length_drop] at htl
  generalize (s.data.toList.drop k).takeWhile digB = w at hX htl ⊢
  have hws : (bstr w).size ≤ 100000 := by rw [bstr_size]; omega
  have hrg := readS_range w
  refine run ?_
  refine (numRead_ax X hws).mono ?_
  rintro _ Z ⟨rfl, e⟩
  subst Z
  rw [bstr_toList]
  obtain ⟨m, hm⟩ : ∃ m : Nat, (readS w).1 = (m : Int) := ⟨(readS w).1.toNat, by omega⟩
  unfold mostN at hrg
  rw [hm] at hrg ⊢
  rw [Int.toNat_natCast]
  generalize (readS w).2 = e2
  by_cases he : e2 = 0
  · have d1 : (!(e2 == 0)) = false := by simp [he]
    rw [if_pos he]
    refine run ?_
    refine (numDigits_ax X (n0 := m) (by omega)).mono ?_
    rintro _ Z ⟨rfl, e⟩
    subst Z
    refine run ?_
    refine Ob.store rfl rfl rfl a2X rfl (by first | exact Nat.le_of_ble_eq_true rfl | simp) fun Y y1 y2 y3 => ?_
    have c2 := hblk_of y1
    refine run ?_
    exact ⟨rfl, y2.at hX (Ne.symm hb2), ((g1.but b).trans kX).but_new y2 (by omega)⟩
  · have d1 : (!(e2 == 0)) = true := by simpa using he
    rw [if_neg he]
    refine run ?_
    refine Ob.store rfl rfl rfl a2X rfl (by first | exact Nat.le_of_ble_eq_true rfl | simp) fun Y y1 y2 y3 => ?_
    have c2 := hblk_of y1
    refine run ?_
    exact ⟨rfl, y2.at hX (Ne.symm hb2), ((g1.but b).trans kX).but_new y2 (by omega)⟩
end Go.Proofs.Ythhbocbgkhooaaa
/- Package lex: the token that begins where a reader stands. -/
set_option linter.unusedVariables false
set_option linter.unusedSimpArgs false
set_option maxRecDepth 20000
set_option maxHeartbeats 4000000
namespace Go.Proofs.Ythhbocbgkhooaaa
open Go Ax
def NextP (r : Bs) (k : Nat) (v : Value) (R : Nat → Prop) : Prop :=
  match oneL r with
  | .tok kd t n w => v = .tuple #[tokV (kd, bstr t, n, (k : Int)), .int .i64 (k : Int), .int .i64 0] ∧ R (k + w)
  | .err off e => ∃ tk, v = .tuple #[tokV tk, .int .i64 ((k + off : Nat) : Int), .int .i64 e]
theorem NextP.tok {r : Bs} {k : Nat} {v : Value} {R : Nat → Prop} {kd : Int} {t : Bs} {n : Int} {w : Nat} (h : oneL r = .tok kd t n w) (hv : v = .tuple #[tokV (kd, bstr t, n, (k : Int)), .int .i64 (k : Int), .int .i64 0]) (hR : R (k + w)) : NextP r k v R := by
  unfold NextP; rw [h]; exact ⟨hv, hR⟩
theorem NextP.err {r : Bs} {k : Nat} {v : Value} {R : Nat → Prop} {off : Nat} {e : Int} (h : oneL r = .err off e) (tk : TokX) (hv : v = .tuple #[tokV tk, .int .i64 ((k + off : Nat) : Int), .int .i64 e]) : NextP r k v R := by
  unfold NextP; rw [h]; exact ⟨tk, hv⟩
theorem one_word {r : Bs} {c : UInt8} {q : Bs} (h : r = c :: q) (hl : letB c = true) : oneL r = if wordK (r.takeWhile wordB) = 0 then .err 0 11 else .tok (wordK (r.takeWhile wordB)) (r.takeWhile wordB) 0 (r.takeWhile wordB).length := by
  subst h
  show (if letB c = true then _ else _) = _
  rw [if_pos hl]
  unfold wordK
  split
  · rfl
  · split
    · rfl
    · rfl
theorem one_num {r : Bs} {c : UInt8} {q : Bs} (h : r = c :: q) (hl : ¬ letB c = true) (hd : digB c = true) :
    oneL r = if (readS (r.takeWhile digB)).2 = 0 then .tok 3 (decL (readS (r.takeWhile digB)).1.toNat) (readS (r.takeWhile digB)).1 (r.takeWhile digB).length else .err 0 (readS (r.takeWhile digB)).2 := by
  subst h
  show (if letB c = true then _ else if digB c = true then _ else _) = _
  rw [if_neg hl, if_pos hd]
theorem one_str {r : Bs} {c : UInt8} {q : Bs} (h : r = c :: q) (hl : ¬ letB c = true) (hd : ¬ digB c = true) (hc : c = 34) :
    oneL r = if (takeS r).2.2 = 0 then (if 256 < (takeS r).1.length then .err 0 3 else .tok 4 (takeS r).1 0 (takeS r).2.1) else .err (takeS r).2.1 (takeS r).2.2 := by
  subst h
  show (if letB c = true then _ else if digB c = true then _ else if c = 34 then _ else _) = _
  rw [if_neg hl, if_neg hd, if_pos hc]
theorem one_sign {r : Bs} {c : UInt8} {q : Bs} (h : r = c :: q) (hl : ¬ letB c = true) (hd : ¬ digB c = true) (hc : ¬ c = 34) : oneL r = if signS r = [] then .err 0 11 else .tok 5 (signS r) 0 (signS r).length := by
  subst h
  show (if letB c = true then _ else if digB c = true then _ else if c = 34 then _ else _) = _
  rw [if_neg hl, if_neg hd, if_neg hc]
theorem next_ax {H : Heap} {b : Nat} {s : ByteArray} {k : Nat} (h : RdL H b s k) (hs : s.size ≤ 100000) (hk : k < s.size) :
    AX Try.prog 19 #[.pointer (some ⟨b, 0, none⟩)] H (fun v H' => NextP (s.data.toList.drop k) k v (RdL H' b s) ∧ But b H H') := by
  have hsz := size_data s
  have h0 : H[b]? = some (.cells .var [.string s, .int .i64 (k : Int)]) := h
  obtain ⟨c, hc⟩ := get_lt (L := s.data.toList) (m := k) (by omega)
  have hr := drop_cons hc
  generalize hq : s.data.toList.drop (k + 1) = q at hr
  have ix := aix (s := s) (k := k) (c := c) hc
  have hrl : (s.data.toList.drop k).length = s.size - k := by rw [List.length_drop, hsz]
  refine AX.body (n := 106) (rs := [.cell 2 34, .tmp 3, .tmp 4]) Try.func19 rfl (by decide) rfl rfl (bC_sound _ _ _ _ ?_)
  refine run ?_
  refine Ob2.alloc rfl fun q2 H1 hq2 a2 g1 => ?_
  have hb2 : q2 ≠ b := by have := lt_at h0; omega
  have c1 := hblk_of (g1.at h0)
  refine run ?_
  refine Ob2.alloc rfl fun q7 H2 hq7 a7 g2 => ?_
  have hb7 : q7 ≠ b := by have := lt_at (g1.at h0); omega
  have h27 : q2 ≠ q7 := by have := lt_at a2; omega
  have hHb := lt_at h0
  have hH1 := g1.1
  refine run ?_
  refine Ob.store rfl rfl rfl a7 rfl (by first | exact Nat.le_of_ble_eq_true rfl | simp) fun H3 s7 k7 l7 => ?_
  have h3 := k7.at (g2.at (g1.at h0)) (Ne.symm hb7)
  have a23 := k7.at (g2.at a2) h27
  have gH3 : Grow H H3 := ((g1.trans g2).but_new k7 (by omega))
  refine run ?_
  refine (lxLetter_ax H3 (c.toNat : Int)).mono ?_
  rintro _ X ⟨rfl, e⟩
  subst X
  by_cases hl : letB c = true
  · have hl' : letterB (c.toNat : Int) = true := hl
    rw [hl']
    have ho := one_word hr hl
    refine run ?_
    refine (word_ax (H := H3) (b := b) (k := k) h3 hs (by omega)).mono ?_
    rintro _ X ⟨rfl, hX, kX⟩
    have hX' : X[b]? = some (.cells .var [.string s, .int .i64 ((k + ((s.data.toList.drop k).takeWhile wordB).length : Nat) : Int)]) := hX
    generalize hw : (s.data.toList.drop k).takeWhile wordB = w at *
    have a7X := kX.at s7 hb7
    have a2X := kX.at a23 hb2
    by_cases hK : wordK w = 0
    · rw [if_pos hK] at ho ⊢
      refine run ?_
      refine Ob.store rfl rfl rfl a7X rfl (by first | exact Nat.le_of_ble_eq_true rfl | simp) fun Y y1 y2 y3 => ?_
      refine run ?_
      refine Ob.store rfl rfl rfl y1 rfl (by first | exact Nat.le_of_ble_eq_true rfl | simp) fun Z z1 z2 z3 => ?_
      have lz : aload Try.prog 34 (.pointer (some ⟨q7, 0, none⟩)) Z = some (tokV (0, bstr [], 0, (k : Int))) := ald_agg rfl rfl rfl (hblk_of z1) rfl
      refine run ?_
      refine Ob.store rfl rfl rfl (z2.at (y2.at a2X h27) h27) rfl (by first | exact Nat.le_of_ble_eq_true rfl | simp) fun W w1 w2 w3 => ?_
      have lw : aload Try.prog 34 (.pointer (some ⟨q2, 0, none⟩)) W = some (tokV (0, bstr [], 0, (k : Int))) := ald_agg rfl rfl rfl (hblk_of w1) rfl
      refine run ?_
      exact ⟨.err ho (0, bstr [], 0, (k : Int)) rfl, (((gH3.but b).trans kX).but_new y2 (by omega)).but_new z2 (by omega) |>.but_new w2 (by omega)⟩
    · rw [if_neg hK] at ho ⊢
      refine run ?_
      refine Ob.store rfl rfl rfl a7X rfl (by first | exact Nat.le_of_ble_eq_true rfl | simp) fun Y y1 y2 y3 => ?_
      refine run ?_
      refine Ob.store rfl rfl rfl y1 rfl (by first | exact Nat.le_of_ble_eq_true rfl | simp) fun Z z1 z2 z3 => ?_
      have lz : aload Try.prog 34 (.pointer (some ⟨q7, 0, none⟩)) Z = some (tokV (wordK w, bstr w, 0, (k : Int))) := ald_agg rfl rfl rfl (hblk_of z1) rfl
      refine run ?_
      refine Ob.store rfl rfl rfl (z2.at (y2.at a2X h27) h27) rfl (by first | exact Nat.le_of_ble_eq_true rfl | simp) fun W w1 w2 w3 => ?_
      have lw : aload Try.prog 34 (.pointer (some ⟨q2, 0, none⟩)) W = some (tokV (wordK w, bstr w, 0, (k : Int))) := ald_agg rfl rfl rfl (hblk_of w1) rfl
      refine run ?_
      exact ⟨.tok ho rfl (w2.at (z2.at (y2.at hX' (Ne.symm hb7)) (Ne.symm hb7)) (Ne.symm hb2)), (((gH3.but b).trans kX).but_new y2 (by omega)).but_new z2 (by omega) |>.but_new w2 (by omega)⟩
  have hl' : letterB (c.toNat : Int) = false := Bool.eq_false_iff.2 hl
  rw [hl']
  refine run ?_
  refine (lxDigit_ax H3 (c.toNat : Int)).mono ?_
  rintro _ X ⟨rfl, e⟩
  subst X
  by_cases hd : digB c = true
  · have hd' : digitB (c.toNat : Int) = true := hd
    rw [hd']
    have ho := one_num hr hl hd
    refine run ?_
    refine (number_ax (H := H3) (b := b) (k := k) h3 hs (by omega)).mono ?_
    rintro _ X ⟨rfl, hX, kX⟩
    have hX' : X[b]? = some (.cells .var [.string s, .int .i64 ((k + ((s.data.toList.drop k).takeWhile digB).length : Nat) : Int)]) := hX
    generalize hw : (s.data.toList.drop k).takeWhile digB = w at *
    have a7X := kX.at s7 hb7
    have a2X := kX.at a23 hb2
    by_cases hK : (readS w).2 = 0
    · rw [if_pos hK] at ho ⊢
      refine run ?_
      refine Ob.store rfl rfl rfl a7X rfl (by first | exact Nat.le_of_ble_eq_true rfl | simp) fun Y y1 y2 y3 => ?_
      refine run ?_
      refine Ob.store rfl rfl rfl y1 rfl (by first | exact Nat.le_of_ble_eq_true rfl | simp) fun Z z1 z2 z3 => ?_
      have lz : aload Try.prog 34 (.pointer (some ⟨q7, 0, none⟩)) Z = some (tokV (3, bstr (decL (readS w).1.toNat), (readS w).1, (k : Int))) := ald_agg rfl rfl rfl (hblk_of z1) rfl
      refine run ?_
      refine Ob.store rfl rfl rfl (z2.at (y2.at a2X h27) h27) rfl (by first | exact Nat.le_of_ble_eq_true rfl | simp) fun W w1 w2 w3 => ?_
      have lw : aload Try.prog 34 (.pointer (some ⟨q2, 0, none⟩)) W = some (tokV (3, bstr (decL (readS w).1.toNat), (readS w).1, (k : Int))) := ald_agg rfl rfl rfl (hblk_of w1) rfl
      refine run ?_
      exact ⟨.tok ho rfl (w2.at (z2.at (y2.at hX' (Ne.symm hb7)) (Ne.symm hb7)) (Ne.symm hb2)), (((gH3.but b).trans kX).but_new y2 (by omega)).but_new z2 (by omega) |>.but_new w2 (by omega)⟩
    · rw [if_neg hK] at ho ⊢
      refine run ?_
      refine Ob.store rfl rfl rfl a7X rfl (by first | exact Nat.le_of_ble_eq_true rfl | simp) fun Y y1 y2 y3 => ?_
      refine run ?_
      refine Ob.store rfl rfl rfl y1 rfl (by first | exact Nat.le_of_ble_eq_true rfl | simp) fun Z z1 z2 z3 => ?_
      have lz : aload Try.prog 34 (.pointer (some ⟨q7, 0, none⟩)) Z = some (tokV (0, bstr [], 0, (k : Int))) := ald_agg rfl rfl rfl (hblk_of z1) rfl
      refine run ?_
      refine Ob.store rfl rfl rfl (z2.at (y2.at a2X h27) h27) rfl (by first | exact Nat.le_of_ble_eq_true rfl | simp) fun W w1 w2 w3 => ?_
      have lw : aload Try.prog 34 (.pointer (some ⟨q2, 0, none⟩)) W = some (tokV (0, bstr [], 0, (k : Int))) := ald_agg rfl rfl rfl (hblk_of w1) rfl
      refine run ?_
      exact ⟨.err ho (0, bstr [], 0, (k : Int)) rfl, (((gH3.but b).trans kX).but_new y2 (by omega)).but_new z2 (by omega) |>.but_new w2 (by omega)⟩
  have hd' : digitB (c.toNat : Int) = false := Bool.eq_false_iff.2 hd
  rw [hd']
  have e34 : ((c.toNat : Int) == 34) = (c == 34) := u8_beq c 34
  have c3 := hblk_of h3
  have sl := slice_lo2 (s := s) (n := (k : Int)) (by omega) (by omega)
  rw [Int.toNat_natCast] at sl
  have el : (s.extract k s.size).data.toList = s.data.toList.drop k := by rw [ext_list, List.take_of_length_le (by omega)]
  have exs : (s.extract k s.size).size ≤ 100000 := by rw [size_data, el]; omega
  have l7' : aload Try.prog 34 (.pointer (some ⟨q7, 0, none⟩)) H3 = some (tokV tok0) := ald_agg rfl rfl rfl (hblk_of s7) rfl
  by_cases h34 : c = 34
  · have ho := one_str hr hl hd h34
    have d1 : ((c.toNat : Int) == 34) = true := by rw [e34, beq_iff_eq]; exact h34
    refine run ?_
    refine (take_ax H3 exs).mono ?_
    rintro _ X ⟨rfl, e⟩
    subst X
    rw [el]
    generalize s.data.toList.drop k = r at *
    have hbad := take_bad (L := r) (x := (takeS r).1) (n := (takeS r).2.1) (e := (takeS r).2.2) rfl
    have hgood : (takeS r).2.2 = 0 → 2 ≤ (takeS r).2.1 ∧ (takeS r).2.1 ≤ r.length := fun h => by
      have := take_good (L := r) (x := (takeS r).1) (n := (takeS r).2.1) (by rw [← h])
      exact ⟨this.1, this.2.1⟩
    generalize takeS r = T at *
    obtain ⟨tx, tn, te⟩ := T
    dsimp only at ho hbad hgood ⊢
    by_cases he : te = 0
    · have hg := hgood he
      have d2 : (!(te == 0)) = false := by simp [he]
      rw [if_pos he] at ho
      by_cases hlen : 256 < tx.length
      · rw [if_pos hlen] at ho
        have d3 : decide (((bstr tx).size : Int) > 256) = true := decide_eq_true (by rw [bstr_size]; omega)
        refine run ?_
        refine Ob.store rfl rfl rfl a23 rfl (by first | exact Nat.le_of_ble_eq_true rfl | simp) fun W w1 w2 w3 => ?_
        have lw : aload Try.prog 34 (.pointer (some ⟨q2, 0, none⟩)) W = some (tokV tok0) := ald_agg rfl rfl rfl (hblk_of w1) rfl
        refine run ?_
        exact ⟨.err ho tok0 rfl, (gH3.but b).but_new w2 (by omega)⟩
      · rw [if_neg hlen] at ho
        have d3 : decide (((bstr tx).size : Int) > 256) = false := decide_eq_false (by rw [bstr_size]; omega)
        have wk : IntKind.i64.wrap ((k : Int) + (tn : Int)) = ((k + tn : Nat) : Int) := by rw [wrap_i64 (by omega) (by omega)]; omega
        refine run ?_
        refine Ob.store rfl rfl rfl s7 rfl (by first | exact Nat.le_of_ble_eq_true rfl | simp) fun Y y1 y2 y3 => ?_
        refine run ?_
        refine Ob.store rfl rfl rfl (y2.at h3 (Ne.symm hb7)) rfl (by first | exact Nat.le_of_ble_eq_true rfl | simp) fun Y2 u1 u2 u3 => ?_
        have u1' : Y2[b]? = some (.cells .var [.string s, .int .i64 ((k + tn : Nat) : Int)]) := u1.trans (by rw [← wk]; rfl)
        refine run ?_
        refine Ob.store rfl rfl rfl (u2.at y1 hb7) rfl (by first | exact Nat.le_of_ble_eq_true rfl | simp) fun Z z1 z2 z3 => ?_
        have lz : aload Try.prog 34 (.pointer (some ⟨q7, 0, none⟩)) Z = some (tokV (4, bstr tx, 0, (k : Int))) := ald_agg rfl rfl rfl (hblk_of z1) rfl
        refine run ?_
        refine Ob.store rfl rfl rfl (z2.at (u2.at (y2.at a23 h27) hb2) h27) rfl (by first | exact Nat.le_of_ble_eq_true rfl | simp) fun W w1 w2 w3 => ?_
        have lw : aload Try.prog 34 (.pointer (some ⟨q2, 0, none⟩)) W = some (tokV (4, bstr tx, 0, (k : Int))) := ald_agg rfl rfl rfl (hblk_of w1) rfl
        refine run ?_
        exact ⟨.tok ho rfl (w2.at (z2.at u1' (Ne.symm hb7)) (Ne.symm hb2)), ((((gH3.but b).but_new y2 (by omega)).trans u2).but_new z2 (by omega)).but_new w2 (by omega)⟩
    · have d2 : (!(te == 0)) = true := by simpa using he
      rw [if_neg he] at ho
      have wk : IntKind.i64.wrap ((k : Int) + (tn : Int)) = ((k + tn : Nat) : Int) := by have := (hbad he).2.1; rw [wrap_i64 (by omega) (by omega)]; omega
      refine run ?_
      refine Ob.store rfl rfl rfl a23 rfl (by first | exact Nat.le_of_ble_eq_true rfl | simp) fun W w1 w2 w3 => ?_
      have lw : aload Try.prog 34 (.pointer (some ⟨q2, 0, none⟩)) W = some (tokV tok0) := ald_agg rfl rfl rfl (hblk_of w1) rfl
      refine run ?_
      exact ⟨.err ho tok0 (by rw [← wk]; rfl), (gH3.but b).but_new w2 (by omega)⟩
  · have ho := one_sign hr hl hd h34
    have d1 : ((c.toNat : Int) == 34) = false := by rw [e34, beq_eq_false_iff_ne]; exact h34
    refine run ?_
    refine (lxSign_ax H3 exs).mono ?_
    rintro _ X ⟨rfl, e⟩
    subst X
    rw [el]
    have hsl := sign_len (s.data.toList.drop k)
    generalize hsg : signS (s.data.toList.drop k) = sg at *
    by_cases h0' : sg = []
    · rw [if_pos h0'] at ho
      have d2 : ((sg.length : Int) == 0) = true := by rw [h0']; rfl
      refine run ?_
      refine Ob.store rfl rfl rfl a23 rfl (by first | exact Nat.le_of_ble_eq_true rfl | simp) fun W w1 w2 w3 => ?_
      have lw : aload Try.prog 34 (.pointer (some ⟨q2, 0, none⟩)) W = some (tokV tok0) := ald_agg rfl rfl rfl (hblk_of w1) rfl
      refine run ?_
      exact ⟨.err ho tok0 rfl, (gH3.but b).but_new w2 (by omega)⟩
    · rw [if_neg h0'] at ho
      have d2 : ((sg.length : Int) == 0) = false := by rw [beq_eq_false_iff_ne]; intro h; exact h0' (List.length_eq_zero_iff.1 (by omega))
      have wk : IntKind.i64.wrap ((k : Int) + (sg.length : Int)) = ((k + sg.length : Nat) : Int) := by rw [wrap_i64 (by omega) (by omega)]; omega
      have sl2 := slice_two2 (s := s) (n := (k : Int)) (m := ((k + sg.length : Nat) : Int)) (by omega) (by omega) (by omega)
      rw [Int.toNat_natCast, Int.toNat_natCast, ext_bstr, Nat.add_sub_cancel_left, ← hsl.2.2, ← wk] at sl2
      refine run ?_
      refine Ob.store rfl rfl rfl s7 rfl (by first | exact Nat.le_of_ble_eq_true rfl | simp) fun Y y1 y2 y3 => ?_
      refine run ?_
      refine Ob.store rfl rfl rfl (y2.at h3 (Ne.symm hb7)) rfl (by first | exact Nat.le_of_ble_eq_true rfl | simp) fun Y2 u1 u2 u3 => ?_
      have u1' : Y2[b]? = some (.cells .var [.string s, .int .i64 ((k + sg.length : Nat) : Int)]) := u1.trans (by rw [← wk]; rfl)
      refine run ?_
      refine Ob.store rfl rfl rfl (u2.at y1 hb7) rfl (by first | exact Nat.le_of_ble_eq_true rfl | simp) fun Z z1 z2 z3 => ?_
      have lz : aload Try.prog 34 (.pointer (some ⟨q7, 0, none⟩)) Z = some (tokV (5, bstr sg, 0, (k : Int))) := ald_agg rfl rfl rfl (hblk_of z1) rfl
      refine run ?_
      refine Ob.store rfl rfl rfl (z2.at (u2.at (y2.at a23 h27) hb2) h27) rfl (by first | exact Nat.le_of_ble_eq_true rfl | simp) fun W w1 w2 w3 => ?_
      have lw : aload Try.prog 34 (.pointer (some ⟨q2, 0, none⟩)) W = some (tokV (5, bstr sg, 0, (k : Int))) := ald_agg rfl rfl rfl (hblk_of w1) rfl
      refine run ?_
      exact ⟨.tok ho rfl (w2.at (z2.at u1' (Ne.symm hb7)) (Ne.symm hb2)), ((((gH3.but b).but_new y2 (by omega)).trans u2).but_new z2 (by omega)).but_new w2 (by omega)⟩
end Go.Proofs.Ythhbocbgkhooaaa
/- The reference of lex: the token that begins at a place. -/
set_option linter.unusedVariables false
set_option linter.unusedSimpArgs false
set_option maxRecDepth 20000
set_option maxHeartbeats 4000000
namespace Go.Proofs.Ythhbocbgkhooaaa
open Go Ax
def OneP (r : Bs) (k : Nat) (v : Value) : Prop :=
  match oneL r with
  | .tok kd t n w => v = .tuple #[tokV (kd, bstr t, n, (k : Int)), .int .i64 ((k + w : Nat) : Int), .int .i64 0]
  | .err off e => ∃ tk, v = .tuple #[tokV tk, .int .i64 ((k + off : Nat) : Int), .int .i64 e]
theorem OneP.tok {r : Bs} {k : Nat} {v : Value} {kd : Int} {t : Bs} {n : Int} {w : Nat} (h : oneL r = .tok kd t n w) (hv : v = .tuple #[tokV (kd, bstr t, n, (k : Int)), .int .i64 ((k + w : Nat) : Int), .int .i64 0]) : OneP r k v := by
  unfold OneP; rw [h]; exact hv
theorem OneP.err {r : Bs} {k : Nat} {v : Value} {off : Nat} {e : Int} (h : oneL r = .err off e) (tk : TokX) (hv : v = .tuple #[tokV tk, .int .i64 ((k + off : Nat) : Int), .int .i64 e]) : OneP r k v := by
  unfold OneP; rw [h]; exact ⟨tk, hv⟩
theorem one_ax {H : Heap} {s : ByteArray} {k : Nat} (hs : s.size ≤ 100000) (hk : k < s.size) :
    AX Try.prog 21 #[.string s, .int .i64 (k : Int)] H (fun v H' => OneP (s.data.toList.drop k) k v ∧ Grow H H') := by
  have hsz := size_data s
  obtain ⟨c, hc⟩ := get_lt (L := s.data.toList) (m := k) (by omega)
  have hr := drop_cons hc
  generalize hq : s.data.toList.drop (k + 1) = q at hr
  have ix := aix (s := s) (k := k) (c := c) hc
  have hrl : (s.data.toList.drop k).length = s.size - k := by rw [List.length_drop, hsz]
  refine AX.body (n := 139) (rs := [.cell 4 38, .tmp 5, .tmp 6]) Try.func21 rfl (by decide) rfl rfl (bC_sound _ _ _ _ ?_)
  refine run ?_
  refine Ob2.alloc rfl fun q4 H1 hq4 a4 g1 => ?_
  refine run ?_
  refine (rxLetter_ax H1 (c.toNat : Int)).mono ?_
  rintro _ X ⟨rfl, e⟩
  subst X
  by_cases hl : letB c = true
  · have hl' : letterB (c.toNat : Int) = true := hl
    rw [hl']
    have ho := one_word hr hl
    refine run ?_
    refine SW.loop (α := Nat) (fun m => [(0, .string s), (1, .int .i64 (k : Int)), (4, .pointer (some ⟨q4, 0, none⟩)), (7, .int .i64 (m : Int))]) (fun m X => X = H1 ∧ k ≤ m ∧ m ≤ s.size ∧ (s.data.toList.drop k).takeWhile wordB = (s.data.toList.drop k).take (m - k) ++ (s.data.toList.drop m).takeWhile wordB) (fun m => s.size - m)
      ⟨k, ⟨rfl, rfl, rfl, rfl, trivial⟩, rfl, Nat.le_refl _, by omega, by rw [Nat.sub_self]; rfl⟩ ?_
    rintro m X ⟨e, hkm, hml, hw⟩
    subst X
    refine bC_sound _ _ _ _ ?_
    have after : (s.data.toList.drop m).takeWhile wordB = [] → s.extract k m = bstr ((s.data.toList.drop k).takeWhile wordB) ∧ k + ((s.data.toList.drop k).takeWhile wordB).length = m := fun h => by
      rw [h, List.append_nil] at hw
      rw [hw]
      exact ⟨ext_bstr _ _ _, by rw [List.length_take]; omega⟩
    have sl := slice_two2 (s := s) (n := (k : Int)) (m := (m : Int)) (by omega) (by omega) (by omega)
    rw [Int.toNat_natCast, Int.toNat_natCast] at sl
    have stop : (s.data.toList.drop m).takeWhile wordB = [] ∨ ∃ d, s.data.toList[m]? = some d ∧ wordB d = true := by
      by_cases hlt : m < s.size
      · obtain ⟨d, hdm⟩ := get_lt (L := s.data.toList) (m := m) (by omega)
        cases hp : wordB d with
        | true => exact .inr ⟨d, hdm, hp⟩
        | false => exact .inl (tw_stop hdm hp)
      · exact .inl (by rw [List.drop_of_length_le (by omega)]; rfl)
    have w1 : m < s.size → IntKind.i64.wrap ((m : Int) + 1) = ((m + 1 : Nat) : Int) := fun _ => w_succ (by omega)
    by_cases hlt : m < s.size
    · have d1 : decide ((m : Int) < (s.size : Int)) = true := decide_eq_true (by omega)
      obtain ⟨d, hdm⟩ := get_lt (L := s.data.toList) (m := m) (by omega)
      have ixm := aix (s := s) (k := m) (c := d) hdm
      have w1 := w1 hlt
      refine run ?_
      refine (rxLetter_ax H1 (d.toNat : Int)).mono ?_
      rintro _ Z ⟨rfl, e⟩
      subst Z
      have go : wordB d = true → ∃ y : Nat, y = m + 1 ∧ k ≤ y ∧ y ≤ s.size ∧ (s.data.toList.drop k).takeWhile wordB = (s.data.toList.drop k).take (y - k) ++ (s.data.toList.drop y).takeWhile wordB := fun hp => by
        refine ⟨m + 1, rfl, by omega, by omega, ?_⟩
        rw [tw_step hdm hp] at hw
        rw [hw, show m + 1 - k = (m - k) + 1 by omega, List.take_add_one, List.getElem?_drop, show k + (m - k) = m by omega, hdm]
        simp
      by_cases hld : letterB (d.toNat : Int) = true
      · rw [hld]
        obtain ⟨_, rfl, gg⟩ := go (by unfold wordB letB; rw [hld]; rfl)
        refine run ?_
        exact ⟨m + 1, ⟨rfl, rfl, rfl, congrArg (fun z => some (Value.int .i64 z)) w1, trivial⟩, ⟨rfl, gg⟩, by dsimp only; omega⟩
      · have hld := Bool.eq_false_iff.2 hld
        rw [hld]
        refine run ?_
        refine (rxDigit_ax H1 (d.toNat : Int)).mono ?_
        rintro _ Z ⟨rfl, e⟩
        subst Z
        by_cases hdd : digitB (d.toNat : Int) = true
        · rw [hdd]
          obtain ⟨_, rfl, gg⟩ := go (by unfold wordB letB digB; rw [hld, hdd]; rfl)
          refine run ?_
          exact ⟨m + 1, ⟨rfl, rfl, rfl, congrArg (fun z => some (Value.int .i64 z)) w1, trivial⟩, ⟨rfl, gg⟩, by dsimp only; omega⟩
        · have hdd := Bool.eq_false_iff.2 hdd
          rw [hdd]
          have ht := tw_stop (p := wordB) hdm (by unfold wordB letB digB; rw [hld, hdd]; rfl)
          obtain ⟨f1, f2⟩ := after ht
          rw [f1] at sl
          generalize (s.data.toList.drop k).takeWhile wordB = w at *
          have hws : (bstr w).size ≤ 100000 := by rw [bstr_size]; omega
          refine run ?_
          refine (rxIsKey_ax H1 (bstr w)).mono ?_
          rintro _ Z ⟨rfl, e⟩
          subst Z
          rw [bstr_toList]
          cases hkey : keyS w with
          | true =>
            have hK : wordK w = 2 := by unfold wordK; rw [if_pos hkey]
            rw [hK, if_neg (by decide)] at ho
            refine run ?_
            refine Ob.store rfl rfl rfl a4 rfl (by first | exact Nat.le_of_ble_eq_true rfl | simp) fun Y y1 y2 y3 => ?_
            have ly : aload Try.prog 38 (.pointer (some ⟨q4, 0, none⟩)) Y = some (tokV (2, bstr w, 0, (k : Int))) := ald_agg rfl rfl rfl (hblk_of y1) rfl
            refine run ?_
            exact ⟨.tok ho (by rw [f2]; rfl), g1.but_new y2 (by omega)⟩
          | false =>
            refine run ?_
            refine (rname_ax H1 hws).mono ?_
            rintro _ Z ⟨rfl, e⟩
            subst Z
            rw [bstr_toList]
            cases hnm : nameS w with
            | true =>
              have hK : wordK w = 1 := by unfold wordK; rw [if_neg (by simp [hkey]), if_pos hnm]
              rw [hK, if_neg (by decide)] at ho
              refine run ?_
              refine Ob.store rfl rfl rfl a4 rfl (by first | exact Nat.le_of_ble_eq_true rfl | simp) fun Y y1 y2 y3 => ?_
              have ly : aload Try.prog 38 (.pointer (some ⟨q4, 0, none⟩)) Y = some (tokV (1, bstr w, 0, (k : Int))) := ald_agg rfl rfl rfl (hblk_of y1) rfl
              refine run ?_
              exact ⟨.tok ho (by rw [f2]; rfl), g1.but_new y2 (by omega)⟩
            | false =>
              have hK : wordK w = 0 := by unfold wordK; rw [if_neg (by simp [hkey]), if_neg (by simp [hnm])]
              rw [hK, if_pos rfl] at ho
              refine run ?_
              refine Ob.store rfl rfl rfl a4 rfl (by first | exact Nat.le_of_ble_eq_true rfl | simp) fun Y y1 y2 y3 => ?_
              have ly : aload Try.prog 38 (.pointer (some ⟨q4, 0, none⟩)) Y = some (tokV tok0) := ald_agg rfl rfl rfl (hblk_of y1) rfl
              refine run ?_
              exact ⟨.err ho tok0 rfl, g1.but_new y2 (by omega)⟩

    have d1 : decide ((m : Int) < (s.size : Int)) = false := decide_eq_false (by omega)
    have ht : (s.data.toList.drop m).takeWhile wordB = [] := by rw [List.drop_of_length_le (by omega)]; rfl
    obtain ⟨f1, f2⟩ := after ht
    rw [f1] at sl
    generalize (s.data.toList.drop k).takeWhile wordB = w at *
    have hws : (bstr w).size ≤ 100000 := by rw [bstr_size]; omega
    refine run ?_
    refine (rxIsKey_ax H1 (bstr w)).mono ?_
    rintro _ Z ⟨rfl, e⟩
    subst Z
    rw [bstr_toList]
    cases hkey : keyS w with
    | true =>
      have hK : wordK w = 2 := by unfold wordK; rw [if_pos hkey]
      rw [hK, if_neg (by decide)] at ho
      refine run ?_
      refine Ob.store rfl rfl rfl a4 rfl (by first | exact Nat.le_of_ble_eq_true rfl | simp) fun Y y1 y2 y3 => ?_
      have ly : aload Try.prog 38 (.pointer (some ⟨q4, 0, none⟩)) Y = some (tokV (2, bstr w, 0, (k : Int))) := ald_agg rfl rfl rfl (hblk_of y1) rfl
      refine run ?_
      exact ⟨.tok ho (by rw [f2]; rfl), g1.but_new y2 (by omega)⟩
    | false =>
      refine run ?_
      refine (rname_ax H1 hws).mono ?_
      rintro _ Z ⟨rfl, e⟩
      subst Z
      rw [bstr_toList]
      cases hnm : nameS w with
      | true =>
        have hK : wordK w = 1 := by unfold wordK; rw [if_neg (by simp [hkey]), if_pos hnm]
        rw [hK, if_neg (by decide)] at ho
        refine run ?_
        refine Ob.store rfl rfl rfl a4 rfl (by first | exact Nat.le_of_ble_eq_true rfl | simp) fun Y y1 y2 y3 => ?_
        have ly : aload Try.prog 38 (.pointer (some ⟨q4, 0, none⟩)) Y = some (tokV (1, bstr w, 0, (k : Int))) := ald_agg rfl rfl rfl (hblk_of y1) rfl
        refine run ?_
        exact ⟨.tok ho (by rw [f2]; rfl), g1.but_new y2 (by omega)⟩
      | false =>
        have hK : wordK w = 0 := by unfold wordK; rw [if_neg (by simp [hkey]), if_neg (by simp [hnm])]
        rw [hK, if_pos rfl] at ho
        refine run ?_
        refine Ob.store rfl rfl rfl a4 rfl (by first | exact Nat.le_of_ble_eq_true rfl | simp) fun Y y1 y2 y3 => ?_
        have ly : aload Try.prog 38 (.pointer (some ⟨q4, 0, none⟩)) Y = some (tokV tok0) := ald_agg rfl rfl rfl (hblk_of y1) rfl
        refine run ?_
        exact ⟨.err ho tok0 rfl, g1.but_new y2 (by omega)⟩
  have hl' : letterB (c.toNat : Int) = false := Bool.eq_false_iff.2 hl
  rw [hl']
  refine run ?_
  refine (rxDigit_ax H1 (c.toNat : Int)).mono ?_
  rintro _ X ⟨rfl, e⟩
  subst X
  by_cases hd : digB c = true
  · have hd' : digitB (c.toNat : Int) = true := hd
    rw [hd']
    have ho := one_num hr hl hd
    refine run ?_
    refine SW.loop (α := Nat) (fun m => [(0, .string s), (1, .int .i64 (k : Int)), (4, .pointer (some ⟨q4, 0, none⟩)), (7, .int .i64 (m : Int))]) (fun m X => X = H1 ∧ k ≤ m ∧ m ≤ s.size ∧ (s.data.toList.drop k).takeWhile digB = (s.data.toList.drop k).take (m - k) ++ (s.data.toList.drop m).takeWhile digB) (fun m => s.size - m)
      ⟨k, ⟨rfl, rfl, rfl, rfl, trivial⟩, rfl, Nat.le_refl _, by omega, by rw [Nat.sub_self]; rfl⟩ ?_
    rintro m X ⟨e, hkm, hml, hw⟩
    subst X
    refine bC_sound _ _ _ _ ?_
    have after : (s.data.toList.drop m).takeWhile digB = [] → s.extract k m = bstr ((s.data.toList.drop k).takeWhile digB) ∧ k + ((s.data.toList.drop k).takeWhile digB).length = m := fun h => by
      rw [h, List.append_nil] at hw
      rw [hw]
      exact ⟨ext_bstr _ _ _, by rw [List.length_take]; omega⟩
    have sl := slice_two2 (s := s) (n := (k : Int)) (m := (m : Int)) (by omega) (by omega) (by omega)
    rw [Int.toNat_natCast, Int.toNat_natCast] at sl
    by_cases hlt : m < s.size
    · have d1 : decide ((m : Int) < (s.size : Int)) = true := decide_eq_true (by omega)
      obtain ⟨d, hdm⟩ := get_lt (L := s.data.toList) (m := m) (by omega)
      have ixm := aix (s := s) (k := m) (c := d) hdm
      have w1 : IntKind.i64.wrap ((m : Int) + 1) = ((m + 1 : Nat) : Int) := w_succ (by omega)
      refine run ?_
      refine (rxDigit_ax H1 (d.toNat : Int)).mono ?_
      rintro _ Z ⟨rfl, e⟩
      subst Z
      by_cases hdd : digitB (d.toNat : Int) = true
      · rw [hdd]
        rw [tw_step (p := digB) hdm hdd] at hw
        refine run ?_
        refine ⟨m + 1, ⟨rfl, rfl, rfl, congrArg (fun z => some (Value.int .i64 z)) w1, trivial⟩, ⟨rfl, by omega, by omega, ?_⟩, by dsimp only; omega⟩
        rw [hw, show m + 1 - k = (m - k) + 1 by omega, List.take_add_one, List.getElem?_drop, show k + (m - k) = m by omega, hdm]
        simp
      · have hdd := Bool.eq_false_iff.2 hdd
        rw [hdd]
        have ht := tw_stop (p := digB) hdm hdd
        obtain ⟨f1, f2⟩ := after ht
        rw [f1] at sl
        generalize (s.data.toList.drop k).takeWhile digB = w at *
        have hws : (bstr w).size ≤ 100000 := by rw [bstr_size]; omega
        have hrg := readS_range w
        refine run ?_
        refine (refRead_ax H1 hws).mono ?_
        rintro _ Z ⟨rfl, e⟩
        subst Z
        rw [bstr_toList]
        obtain ⟨mm, hmm⟩ : ∃ mm : Nat, (readS w).1 = (mm : Int) := ⟨(readS w).1.toNat, by omega⟩
        unfold mostN at hrg
        rw [hmm] at hrg ho ⊢
        rw [Int.toNat_natCast] at ho
        generalize (readS w).2 = e2 at ho ⊢
        by_cases he : e2 = 0
        · have d9 : (!(e2 == 0)) = false := by simp [he]
          rw [if_pos he] at ho
          refine run ?_
          refine (rxDigits_ax H1 (n0 := mm) (by omega)).mono ?_
          rintro _ Z ⟨rfl, e⟩
          subst Z
          refine run ?_
          refine Ob.store rfl rfl rfl a4 rfl (by first | exact Nat.le_of_ble_eq_true rfl | simp) fun Y y1 y2 y3 => ?_
          have ly : aload Try.prog 38 (.pointer (some ⟨q4, 0, none⟩)) Y = some (tokV (3, bstr (decL mm), (mm : Int), (k : Int))) := ald_agg rfl rfl rfl (hblk_of y1) rfl
          refine run ?_
          exact ⟨.tok ho (by rw [f2]; rfl), g1.but_new y2 (by omega)⟩
        · have d9 : (!(e2 == 0)) = true := by simpa using he
          rw [if_neg he] at ho
          refine run ?_
          refine Ob.store rfl rfl rfl a4 rfl (by first | exact Nat.le_of_ble_eq_true rfl | simp) fun Y y1 y2 y3 => ?_
          have ly : aload Try.prog 38 (.pointer (some ⟨q4, 0, none⟩)) Y = some (tokV tok0) := ald_agg rfl rfl rfl (hblk_of y1) rfl
          refine run ?_
          exact ⟨.err ho tok0 rfl, g1.but_new y2 (by omega)⟩

    have d1 : decide ((m : Int) < (s.size : Int)) = false := decide_eq_false (by omega)
    have ht : (s.data.toList.drop m).takeWhile digB = [] := by rw [List.drop_of_length_le (by omega)]; rfl
    obtain ⟨f1, f2⟩ := after ht
    rw [f1] at sl
    generalize (s.data.toList.drop k).takeWhile digB = w at *
    have hws : (bstr w).size ≤ 100000 := by rw [bstr_size]; omega
    have hrg := readS_range w
    refine run ?_
    refine (refRead_ax H1 hws).mono ?_
    rintro _ Z ⟨rfl, e⟩
    subst Z
    rw [bstr_toList]
    obtain ⟨mm, hmm⟩ : ∃ mm : Nat, (readS w).1 = (mm : Int) := ⟨(readS w).1.toNat, by omega⟩
    unfold mostN at hrg
    rw [hmm] at hrg ho ⊢
    rw [Int.toNat_natCast] at ho
    generalize (readS w).2 = e2 at ho ⊢
    by_cases he : e2 = 0
    · have d9 : (!(e2 == 0)) = false := by simp [he]
      rw [if_pos he] at ho
      refine run ?_
      refine (rxDigits_ax H1 (n0 := mm) (by omega)).mono ?_
      rintro _ Z ⟨rfl, e⟩
      subst Z
      refine run ?_
      refine Ob.store rfl rfl rfl a4 rfl (by first | exact Nat.le_of_ble_eq_true rfl | simp) fun Y y1 y2 y3 => ?_
      have ly : aload Try.prog 38 (.pointer (some ⟨q4, 0, none⟩)) Y = some (tokV (3, bstr (decL mm), (mm : Int), (k : Int))) := ald_agg rfl rfl rfl (hblk_of y1) rfl
      refine run ?_
      exact ⟨.tok ho (by rw [f2]; rfl), g1.but_new y2 (by omega)⟩
    · have d9 : (!(e2 == 0)) = true := by simpa using he
      rw [if_neg he] at ho
      refine run ?_
      refine Ob.store rfl rfl rfl a4 rfl (by first | exact Nat.le_of_ble_eq_true rfl | simp) fun Y y1 y2 y3 => ?_
      have ly : aload Try.prog 38 (.pointer (some ⟨q4, 0, none⟩)) Y = some (tokV tok0) := ald_agg rfl rfl rfl (hblk_of y1) rfl
      refine run ?_
      exact ⟨.err ho tok0 rfl, g1.but_new y2 (by omega)⟩
  have hd' : digitB (c.toNat : Int) = false := Bool.eq_false_iff.2 hd
  rw [hd']
  have e34 : ((c.toNat : Int) == 34) = (c == 34) := u8_beq c 34
  have sl := slice_lo2 (s := s) (n := (k : Int)) (by omega) (by omega)
  rw [Int.toNat_natCast] at sl
  have el : (s.extract k s.size).data.toList = s.data.toList.drop k := by rw [ext_list, List.take_of_length_le (by omega)]
  have exs : (s.extract k s.size).size ≤ 100000 := by rw [size_data, el]; omega
  by_cases h34 : c = 34
  · have ho := one_str hr hl hd h34
    have d1 : ((c.toNat : Int) == 34) = true := by rw [e34, beq_iff_eq]; exact h34
    refine run ?_
    refine (rtake_ax H1 exs).mono ?_
    rintro _ X ⟨rfl, e⟩
    subst X
    rw [el]
    generalize s.data.toList.drop k = r at *
    have hbad := take_bad (L := r) (x := (takeS r).1) (n := (takeS r).2.1) (e := (takeS r).2.2) rfl
    have hgood : (takeS r).2.2 = 0 → 2 ≤ (takeS r).2.1 ∧ (takeS r).2.1 ≤ r.length := fun h => by
      have := take_good (L := r) (x := (takeS r).1) (n := (takeS r).2.1) (by rw [← h])
      exact ⟨this.1, this.2.1⟩
    generalize takeS r = T at *
    obtain ⟨tx, tn, te⟩ := T
    dsimp only at ho hbad hgood ⊢
    by_cases he : te = 0
    · have hg := hgood he
      have d2 : (!(te == 0)) = false := by simp [he]
      rw [if_pos he] at ho
      by_cases hlen : 256 < tx.length
      · rw [if_pos hlen] at ho
        have d3 : decide (((bstr tx).size : Int) > 256) = true := decide_eq_true (by rw [bstr_size]; omega)
        refine run ?_
        refine Ob.store rfl rfl rfl a4 rfl (by first | exact Nat.le_of_ble_eq_true rfl | simp) fun Y y1 y2 y3 => ?_
        have ly : aload Try.prog 38 (.pointer (some ⟨q4, 0, none⟩)) Y = some (tokV tok0) := ald_agg rfl rfl rfl (hblk_of y1) rfl
        refine run ?_
        exact ⟨.err ho tok0 rfl, g1.but_new y2 (by omega)⟩
      · rw [if_neg hlen] at ho
        have d3 : decide (((bstr tx).size : Int) > 256) = false := decide_eq_false (by rw [bstr_size]; omega)
        have wk : IntKind.i64.wrap ((k : Int) + (tn : Int)) = ((k + tn : Nat) : Int) := by rw [wrap_i64 (by omega) (by omega)]; omega
        refine run ?_
        refine Ob.store rfl rfl rfl a4 rfl (by first | exact Nat.le_of_ble_eq_true rfl | simp) fun Y y1 y2 y3 => ?_
        have ly : aload Try.prog 38 (.pointer (some ⟨q4, 0, none⟩)) Y = some (tokV (4, bstr tx, 0, (k : Int))) := ald_agg rfl rfl rfl (hblk_of y1) rfl
        refine run ?_
        exact ⟨.tok ho (by rw [← wk]; rfl), g1.but_new y2 (by omega)⟩
    · have d2 : (!(te == 0)) = true := by simpa using he
      rw [if_neg he] at ho
      have wk : IntKind.i64.wrap ((k : Int) + (tn : Int)) = ((k + tn : Nat) : Int) := by have := (hbad he).2.1; rw [wrap_i64 (by omega) (by omega)]; omega
      refine run ?_
      refine Ob.store rfl rfl rfl a4 rfl (by first | exact Nat.le_of_ble_eq_true rfl | simp) fun Y y1 y2 y3 => ?_
      have ly : aload Try.prog 38 (.pointer (some ⟨q4, 0, none⟩)) Y = some (tokV tok0) := ald_agg rfl rfl rfl (hblk_of y1) rfl
      refine run ?_
      exact ⟨.err ho tok0 (by rw [← wk]; rfl), g1.but_new y2 (by omega)⟩
  · have ho := one_sign hr hl hd h34
    have d1 : ((c.toNat : Int) == 34) = false := by rw [e34, beq_eq_false_iff_ne]; exact h34
    refine run ?_
    refine (rxSign_ax H1 hs (k := k) (by omega)).mono ?_
    rintro _ X ⟨rfl, e⟩
    subst X
    have hsl := sign_len (s.data.toList.drop k)
    generalize hsg : signS (s.data.toList.drop k) = sg at *
    by_cases h0' : sg = []
    · rw [if_pos h0'] at ho
      have d2 : (bstr sg == (⟨#[]⟩ : ByteArray)) = true := by rw [ba_list, h0']; rfl
      refine run ?_
      refine Ob.store rfl rfl rfl a4 rfl (by first | exact Nat.le_of_ble_eq_true rfl | simp) fun Y y1 y2 y3 => ?_
      have ly : aload Try.prog 38 (.pointer (some ⟨q4, 0, none⟩)) Y = some (tokV tok0) := ald_agg rfl rfl rfl (hblk_of y1) rfl
      refine run ?_
      exact ⟨.err ho tok0 rfl, g1.but_new y2 (by omega)⟩
    · rw [if_neg h0'] at ho
      have d2 : (bstr sg == (⟨#[]⟩ : ByteArray)) = false := by rw [ba_list]; exact decide_eq_false h0'
      have wk : IntKind.i64.wrap ((k : Int) + ((bstr sg).size : Int)) = ((k + sg.length : Nat) : Int) := by rw [bstr_size, wrap_i64 (by omega) (by omega)]; omega
      refine run ?_
      refine Ob.store rfl rfl rfl a4 rfl (by first | exact Nat.le_of_ble_eq_true rfl | simp) fun Y y1 y2 y3 => ?_
      have ly : aload Try.prog 38 (.pointer (some ⟨q4, 0, none⟩)) Y = some (tokV (5, bstr sg, 0, (k : Int))) := ald_agg rfl rfl rfl (hblk_of y1) rfl
      refine run ?_
      exact ⟨.tok ho (by rw [← wk]; rfl), g1.but_new y2 (by omega)⟩
end Go.Proofs.Ythhbocbgkhooaaa
/- Package lex: the tokens of a text. -/
set_option linter.unusedVariables false
set_option linter.unusedSimpArgs false
set_option maxRecDepth 20000
set_option maxHeartbeats 4000000
namespace Go.Proofs.Ythhbocbgkhooaaa
open Go Ax
def tokR (_ : Heap) (l : List Value) (t : TokX) : Prop := l = [.int .i64 t.1, .string t.2.1, .int .i64 t.2.2.1, .int .i64 t.2.2.2]
theorem tokR.grow {H H' : Heap} {sv : Value} {L : List TokX} (h : RL 4 tokR H sv L) (g : Grow H H') : RL 4 tokR H' sv L := RL.grow (H := H) (H' := H') (fun _ _ h => h) h g
theorem rowTok : RowOK Try.prog 23 34 4 := ⟨rfl, ⟨_, rfl, rfl, by decide⟩, ⟨_, rfl, rfl⟩, by decide, ⟨_, rfl, rfl⟩⟩
theorem rowTokR : RowOK Try.prog 27 38 4 := ⟨rfl, ⟨_, rfl, rfl, by decide⟩, ⟨_, rfl, rfl⟩, by decide, ⟨_, rfl, rfl⟩⟩
/-- From behind blanks on. -/
def toksB (f len : Nat) (r : Bs) (out : List TokX) : List TokX × Int × Int :=
  match r with
  | [] => (out ++ [(6, bstr [], 0, (len : Int))], 0, 0)
  | c :: q =>
    match oneL (c :: q) with
    | .err off e => ([], ((len - (c :: q).length + off : Nat) : Int), e)
    | .tok k t n w => if out.length = 600 then ([], ((len - (c :: q).length : Nat) : Int), 5) else toksF f len ((c :: q).drop w) (out ++ [(k, bstr t, n, ((len - (c :: q).length : Nat) : Int))])
theorem toksF_eq (f len : Nat) (r : Bs) (out : List TokX) : toksF (f + 1) len r out = toksB f len (skipL false r) out := rfl
theorem toks_eq {L : Bs} (h : L.length ≤ 2000) : toks L = toksB L.length L.length (skipL false L) [] := by
  unfold toks
  rw [if_neg (by omega)]
  rfl
theorem toksB_tok {f len : Nat} {r : Bs} {out : List TokX} {k : Int} {t : Bs} {n : Int} {w : Nat} (h : oneL r = .tok k t n w) (hf : r.length ≤ f) (ho : out.length ≠ 600) :
    ∃ f', f = f' + 1 ∧ (r.drop w).length ≤ f' ∧ toksB f len r out = toksB f' len (skipL false (r.drop w)) (out ++ [(k, bstr t, n, ((len - r.length : Nat) : Int))]) := by
  cases r with
  | nil => simp [oneL] at h
  | cons c q =>
    have hw := one_len h
    cases f with
    | zero => simp at hf
    | succ f' =>
      refine ⟨f', rfl, by rw [List.length_drop]; omega, ?_⟩
      show (match oneL (c :: q) with | .err off e => _ | .tok k t n w => _) = _
      rw [h]
      show (if out.length = 600 then _ else _) = _
      rw [if_neg ho]
      rfl
theorem toksB_full {f len : Nat} {r : Bs} {out : List TokX} {k : Int} {t : Bs} {n : Int} {w : Nat} (h : oneL r = .tok k t n w) (ho : out.length = 600) : toksB f len r out = ([], ((len - r.length : Nat) : Int), 5) := by
  cases r with
  | nil => simp [oneL] at h
  | cons c q =>
    show (match oneL (c :: q) with | .err off e => _ | .tok k t n w => _) = _
    rw [h]
    show (if out.length = 600 then _ else _) = _
    rw [if_pos ho]
theorem toksB_err {f len : Nat} {r : Bs} {out : List TokX} {off : Nat} {e : Int} (h : oneL r = .err off e) (hr : r ≠ []) : toksB f len r out = ([], ((len - r.length + off : Nat) : Int), e) := by
  cases r with
  | nil => exact absurd rfl hr
  | cons c q =>
    show (match oneL (c :: q) with | .err off e => _ | .tok k t n w => _) = _
    rw [h]
theorem one_err {r : Bs} {off : Nat} {e : Int} (h : oneL r = .err off e) : e ≠ 0 := by
  unfold oneL at h
  split at h
  · simp only [OneR.err.injEq] at h; omega
  · split at h
    · split at h
      · simp at h
      · split at h
        · simp at h
        · simp only [OneR.err.injEq] at h; omega
    · split at h
      · split at h
        · simp at h
        · rename_i hh; simp only [OneR.err.injEq] at h; rw [← h.2]; exact hh
      · split at h
        · split at h
          · split at h
            · simp only [OneR.err.injEq] at h; omega
            · simp at h
          · rename_i hh; simp only [OneR.err.injEq] at h; rw [← h.2]; exact hh
        · split at h
          · simp only [OneR.err.injEq] at h; omega
          · simp at h
theorem OwnR.butV {α : Type} {k : Nat} {e : TypeId} {f : Heap → List Value → α → Prop} {X Y : Heap} {v : Value} {L : List α} {q : Nat} {c : List Value} (h : OwnR k e f X v L) (hq : X[q]? = some (.cells .var c)) (kk : But q X Y) (hf : ∀ l x, x ∈ L → f X l x → f Y l x) : OwnR k e f Y v L :=
  h.keep (fun b c' _ hb => kk.at hb (by rintro rfl; rw [hq] at hb; simp at hb)) hf
theorem lxTokens_ax (H : Heap) {s : ByteArray} (hs : s.size ≤ 1000000000) : AX Try.prog 8 #[.string s] H (fun v H' => (∃ tv, v = .tuple #[tv, .int .i64 (toks s.data.toList).2.1, .int .i64 (toks s.data.toList).2.2] ∧ OwnR 4 34 tokR H' tv (toks s.data.toList).1) ∧ Grow H H') := by
  have hsz := size_data s
  refine AX.body (n := 54) (rs := [.tmp 2, .tmp 3, .tmp 4]) Try.func8 rfl (by decide) rfl rfl (bC_sound _ _ _ _ ?_)
  generalize hL : s.data.toList = L at *
  by_cases h2 : 2000 < L.length
  · have d1 : decide ((s.size : Int) > 2000) = true := decide_eq_true (by omega)
    have ht : toks L = ([], 0, 3) := by unfold toks; rw [if_pos h2]
    rw [ht]
    refine run ?_
    exact ⟨⟨_, rfl, .inl ⟨rfl, rfl⟩⟩, .refl _⟩
  have d0 : decide ((s.size : Int) > 2000) = false := decide_eq_false (by omega)
  refine run ?_
  refine Ob2.box rfl fun q6 H1 hq6 a6 g1 => ?_
  have hR1 : RdL H1 q6 s 0 := a6
  refine run ?_
  refine (blanks_ax hR1 (by omega) (Nat.zero_le _)).mono ?_
  rintro _ X ⟨⟨m, hX, hm, hdm⟩, kX, lX⟩
  rw [hL, List.drop_zero] at hdm
  refine run ?_
  refine SW.loop (α := Nat × Nat × List TokX × Value) (fun y => [(0, .string s), (5, y.2.2.2), (6, .pointer (some ⟨q6, 0, none⟩))])
    (fun y X => y.2.1 ≤ L.length ∧ RdL X q6 s y.2.1 ∧ H1.length ≤ X.length ∧ Grow H X ∧ toks L = toksB y.1 L.length (L.drop y.2.1) y.2.2.1 ∧ (L.drop y.2.1).length ≤ y.1 ∧ y.2.2.1.length ≤ 600 ∧ OwnR 4 34 tokR X y.2.2.2 y.2.2.1 ∧ ∀ q, blkIs y.2.2.2 q → H1.length ≤ q) (fun y => y.1)
    ⟨(L.length, m, [], .slice none 0 0), ⟨rfl, rfl, rfl, trivial⟩, by dsimp only; omega, hX, by omega, g1.but_new kX (by omega), by rw [hdm]; exact toks_eq (by omega), by rw [hdm]; exact skip_len _ _, by simp, .inl ⟨rfl, rfl⟩, fun q ⟨_, _, h⟩ => by simp at h⟩ ?_
  clear hX hdm kX lX hR1
  rintro ⟨f, m, out, ov⟩ X ⟨hm, hX, lX, gX, ht, hf, ho, hov, hbk⟩
  dsimp only at hm hX ht hf ho hov hbk ⊢
  have hX' : X[q6]? = some (.cells .var [.string s, .int .i64 (m : Int)]) := hX
  have bX := hblk_of hX'
  have hq6l : q6 < H1.length := lt_at a6
  have lov := hov.rl.len (P := Try.prog) (t := 23) (e := 34) rfl
  refine bC_sound _ _ _ _ ?_
  by_cases hml : m < L.length
  rotate_left
  · have d1 : decide ((m : Int) < (s.size : Int)) = false := decide_eq_false (by omega)
    have hd : L.drop m = [] := List.drop_of_length_le (by omega)
    have ht' : toks L = (out ++ [(6, bstr [], 0, (L.length : Int))], 0, 0) := by rw [ht, hd]; rfl
    rw [ht']
    obtain ⟨sa, sn, sm, rfl⟩ := hov.form
    refine run ?_
    refine Ob2.lay (H := X) (.cells (.row 34) [.int .i64 6, .string ⟨#[]⟩, .int .i64 0, .int .i64 (s.size : Int)]) (.slice (some ⟨X.length, 0, none⟩) 1 4) rfl fun U b2 e2 l2 => ?_
    obtain ⟨U3, ap, o3, f3, n3⟩ := OwnR.append (n := H1.length) (x := (6, bstr [], 0, (L.length : Int))) rowTok rowTok (hov.keep (fun b c _ h => e2.at h) fun _ _ _ h => h) b2 rfl (by unfold tokR; rw [← hsz]; rfl) hbk (by have := e2.1; have := gX.1; omega) (by omega) (fun _ _ _ _ _ h => h)
    refine run ?_
    refine Ob2.of ap ?_
    refine run ?_
    exact ⟨⟨_, rfl, o3⟩, f3.grow (gX.trans e2) (by have := g1.1; omega)⟩
  have d1 : decide ((m : Int) < (s.size : Int)) = true := decide_eq_true (by omega)
  have hpos : L.length - (L.drop m).length = m := by rw [List.length_drop]; omega
  have hne : L.drop m ≠ [] := fun h => by have := congrArg List.length h; rw [List.length_drop] at this; simp at this; omega
  refine run ?_
  refine (next_ax hX (by omega) (by omega)).mono ?_
  rintro v X1 ⟨hv, k1⟩
  rw [hL] at hv
  unfold NextP at hv
  have hov1 := OwnR.butV hov hX' k1 fun _ _ _ h => h
  have gX1 := gX.but_new k1 (by omega)
  cases hone : oneL (L.drop m) with
  | err off e =>
    rw [hone] at hv
    obtain ⟨tk, rfl⟩ := hv
    have he := one_err hone
    rw [toksB_err hone hne, hpos] at ht
    rw [ht]
    have d2 : (e == 0) = false := by rw [beq_eq_false_iff_ne]; exact he
    have d3 : (!(e == 0)) = true := by rw [d2]; rfl
    refine run ?_
    refine Ob2.alloc rfl fun q7 X2 hq7 a7 g7 => ?_
    refine run ?_
    refine Ob.store rfl rfl rfl a7 rfl (by first | exact Nat.le_of_ble_eq_true rfl | simp) fun X3 s7 k7 l7 => ?_
    refine run ?_
    exact ⟨⟨_, rfl, .inl ⟨rfl, rfl⟩⟩, gX1.trans (g7.but_new k7 (by omega))⟩
  | tok kd t n w =>
    rw [hone] at hv
    obtain ⟨rfl, hX1⟩ := hv
    have hX1' : X1[q6]? = some (.cells .var [.string s, .int .i64 ((m + w : Nat) : Int)]) := hX1
    have hw := one_len hone
    rw [List.length_drop] at hw
    refine run ?_
    refine Ob2.alloc rfl fun q7 X2 hq7 a7 g7 => ?_
    refine run ?_
    refine Ob.store rfl rfl rfl a7 rfl (by first | exact Nat.le_of_ble_eq_true rfl | simp) fun X3 s7 k7 l7 => ?_
    have g13 : Grow X1 X3 := g7.but_new k7 (by omega)
    have lo3 := lov X3
    have c7 : aload Try.prog 34 (.pointer (some ⟨q7, 0, none⟩)) X3 = some (tokV (kd, bstr t, n, (m : Int))) := ald_agg rfl rfl rfl (hblk_of s7) rfl
    by_cases h6 : out.length = 600
    · have d4 : ((out.length : Int) == 600) = true := by rw [beq_iff_eq]; omega
      rw [toksB_full hone h6, hpos] at ht
      rw [ht]
      refine run ?_
      exact ⟨⟨_, rfl, .inl ⟨rfl, rfl⟩⟩, gX1.trans g13⟩
    have d4 : ((out.length : Int) == 600) = false := by rw [beq_eq_false_iff_ne]; omega
    obtain ⟨f', rfl, hf', ht2⟩ := toksB_tok (len := L.length) hone hf h6
    rw [hpos] at ht2
    rw [List.drop_drop] at ht2 hf'
    have hov3 := hov1.keep (fun b c _ hb => g13.at hb) fun _ _ _ h => h
    obtain ⟨sa, sn, sm, rfl⟩ := hov.form
    refine run ?_
    refine Ob2.lay (H := X3) (.cells (.row 34) [.int .i64 kd, .string (bstr t), .int .i64 n, .int .i64 (m : Int)]) (.slice (some ⟨X3.length, 0, none⟩) 1 4) rfl fun U b2 e2 l2 => ?_
    obtain ⟨U3, ap, o3, f3, n3⟩ := OwnR.append (n := H1.length) (x := (kd, bstr t, n, (m : Int))) rowTok rowTok (hov3.keep (fun b c _ h => e2.at h) fun _ _ _ h => h) b2 rfl rfl hbk (by have := e2.1; have := g13.1; have := k1.1; have := gX.1; omega) (by omega) (fun _ _ _ _ _ h => h)
    refine run ?_
    refine Ob2.of ap ?_
    have gU : Grow H U3 := f3.grow ((gX1.trans g13).trans e2) (by have := g1.1; omega)
    have hUl : X3.length ≤ U3.length := by have := e2.1; have := f3.1; omega
    have hU : RdL U3 q6 s (m + w) := f3.2 _ _ (e2.at (g13.at hX1')) (.inr fun c h => by simp at h)
    refine run ?_
    refine (blanks_ax hU (by omega) (by omega)).mono ?_
    rintro _ W ⟨⟨m2, hW, hm2, hdm2⟩, kW, lW⟩
    rw [hL] at hdm2
    have hU' : U3[q6]? = some (.cells .var [.string s, .int .i64 ((m + w : Nat) : Int)]) := hU
    refine run ?_
    refine ⟨(f', m2, out ++ [(kd, bstr t, n, (m : Int))], .slice (some ⟨U.length, 0, none⟩) (out.length + 1) 4), ⟨rfl, rfl, rfl, trivial⟩, ⟨by dsimp only; omega, hW, by have := k1.1; have := g13.1; omega, gU.but_new kW (by omega), by rw [ht, ht2, hdm2], by rw [hdm2]; have := skip_len false (L.drop (m + w)); omega, by simp; omega, OwnR.butV o3 hU' kW fun _ _ _ h => h, fun q hq => ?_⟩, by dsimp only; omega⟩
    obtain ⟨n', k', hq⟩ := hq
    simp only [Value.slice.injEq, Option.some.injEq, Addr.mk.injEq, and_true] at hq
    have := e2.1; have := g13.1; have := k1.1; have := gX.1
    omega
theorem rxTokens_ax (H : Heap) {s : ByteArray} (hs : s.size ≤ 1000000000) : AX Try.prog 9 #[.string s] H (fun v H' => (∃ tv, v = .tuple #[tv, .int .i64 (toks s.data.toList).2.1, .int .i64 (toks s.data.toList).2.2] ∧ OwnR 4 38 tokR H' tv (toks s.data.toList).1) ∧ Grow H H') := by
  have hsz := size_data s
  refine AX.body (n := 47) (rs := [.tmp 2, .tmp 3, .tmp 4]) Try.func9 rfl (by decide) rfl rfl (bC_sound _ _ _ _ ?_)
  generalize hL : s.data.toList = L at *
  by_cases h2 : 2000 < L.length
  · have d1 : decide ((s.size : Int) > 2000) = true := decide_eq_true (by omega)
    have ht : toks L = ([], 0, 3) := by unfold toks; rw [if_pos h2]
    rw [ht]
    refine run ?_
    exact ⟨⟨_, rfl, .inl ⟨rfl, rfl⟩⟩, .refl _⟩
  have d0 : decide ((s.size : Int) > 2000) = false := decide_eq_false (by omega)
  refine run ?_
  refine (rxSkip_ax H (s := s) (by omega) (k := 0) (Nat.zero_le _)).mono ?_
  rintro _ X ⟨⟨m, rfl, hm, hdm⟩, e⟩
  subst X
  rw [hL, List.drop_zero] at hdm
  refine run ?_
  refine SW.loop (α := Nat × Nat × List TokX × Value) (fun y => [(0, .string s), (5, y.2.2.2), (6, .int .i64 (y.2.1 : Int))])
    (fun y X => y.2.1 ≤ L.length ∧ Grow H X ∧ toks L = toksB y.1 L.length (L.drop y.2.1) y.2.2.1 ∧ (L.drop y.2.1).length ≤ y.1 ∧ y.2.2.1.length ≤ 600 ∧ OwnR 4 38 tokR X y.2.2.2 y.2.2.1 ∧ ∀ q, blkIs y.2.2.2 q → H.length ≤ q) (fun y => y.1)
    ⟨(L.length, m, [], .slice none 0 0), ⟨rfl, rfl, rfl, trivial⟩, by dsimp only; omega, .refl _, by rw [hdm]; exact toks_eq (by omega), by rw [hdm]; exact skip_len _ _, by simp, .inl ⟨rfl, rfl⟩, fun q ⟨_, _, h⟩ => by simp at h⟩ ?_
  clear hdm
  rintro ⟨f, m, out, ov⟩ X ⟨hm, gX, ht, hf, ho, hov, hbk⟩
  dsimp only at hm ht hf ho hov hbk ⊢
  have lov := hov.rl.len (P := Try.prog) (t := 27) (e := 38) rfl
  refine bC_sound _ _ _ _ ?_
  by_cases hml : m < L.length
  rotate_left
  · have d1 : decide ((m : Int) < (s.size : Int)) = false := decide_eq_false (by omega)
    have hd : L.drop m = [] := List.drop_of_length_le (by omega)
    have ht' : toks L = (out ++ [(6, bstr [], 0, (L.length : Int))], 0, 0) := by rw [ht, hd]; rfl
    rw [ht']
    obtain ⟨sa, sn, sm, rfl⟩ := hov.form
    refine run ?_
    refine Ob2.lay (H := X) (.cells (.row 38) [.int .i64 6, .string ⟨#[]⟩, .int .i64 0, .int .i64 (s.size : Int)]) (.slice (some ⟨X.length, 0, none⟩) 1 4) rfl fun U b2 e2 l2 => ?_
    obtain ⟨U3, ap, o3, f3, n3⟩ := OwnR.append (n := H.length) (x := (6, bstr [], 0, (L.length : Int))) rowTokR rowTokR (hov.keep (fun b c _ h => e2.at h) fun _ _ _ h => h) b2 rfl (by unfold tokR; rw [← hsz]; rfl) hbk (by have := e2.1; have := gX.1; omega) (by omega) (fun _ _ _ _ _ h => h)
    refine run ?_
    refine Ob2.of ap ?_
    refine run ?_
    exact ⟨⟨_, rfl, o3⟩, f3.grow (gX.trans e2) (Nat.le_refl _)⟩
  have d1 : decide ((m : Int) < (s.size : Int)) = true := decide_eq_true (by omega)
  have hpos : L.length - (L.drop m).length = m := by rw [List.length_drop]; omega
  have hne : L.drop m ≠ [] := fun h => by have := congrArg List.length h; rw [List.length_drop] at this; simp at this; omega
  refine run ?_
  refine (one_ax (H := X) (s := s) (k := m) (by omega) (by omega)).mono ?_
  rintro v X1 ⟨hv, k1⟩
  rw [hL] at hv
  unfold OneP at hv
  have hov1 := hov.keep (fun b c _ hb => k1.at hb) fun _ _ _ h => h
  have gX1 := gX.trans k1
  cases hone : oneL (L.drop m) with
  | err off e =>
    rw [hone] at hv
    obtain ⟨tk, rfl⟩ := hv
    have he := one_err hone
    rw [toksB_err hone hne, hpos] at ht
    rw [ht]
    have d2 : (e == 0) = false := by rw [beq_eq_false_iff_ne]; exact he
    have d3 : (!(e == 0)) = true := by rw [d2]; rfl
    refine run ?_
    refine Ob2.alloc rfl fun q7 X2 hq7 a7 g7 => ?_
    refine run ?_
    refine Ob.store rfl rfl rfl a7 rfl (by first | exact Nat.le_of_ble_eq_true rfl | simp) fun X3 s7 k7 l7 => ?_
    refine run ?_
    exact ⟨⟨_, rfl, .inl ⟨rfl, rfl⟩⟩, gX1.trans (g7.but_new k7 (by omega))⟩
  | tok kd t n w =>
    rw [hone] at hv
    subst hv
    have hw := one_len hone
    rw [List.length_drop] at hw
    refine run ?_
    refine Ob2.alloc rfl fun q7 X2 hq7 a7 g7 => ?_
    refine run ?_
    refine Ob.store rfl rfl rfl a7 rfl (by first | exact Nat.le_of_ble_eq_true rfl | simp) fun X3 s7 k7 l7 => ?_
    have g13 : Grow X1 X3 := g7.but_new k7 (by omega)
    have lo3 := lov X3
    have c7 : aload Try.prog 38 (.pointer (some ⟨q7, 0, none⟩)) X3 = some (tokV (kd, bstr t, n, (m : Int))) := ald_agg rfl rfl rfl (hblk_of s7) rfl
    by_cases h6 : out.length = 600
    · have d4 : ((out.length : Int) == 600) = true := by rw [beq_iff_eq]; omega
      rw [toksB_full hone h6, hpos] at ht
      rw [ht]
      refine run ?_
      exact ⟨⟨_, rfl, .inl ⟨rfl, rfl⟩⟩, gX1.trans g13⟩
    have d4 : ((out.length : Int) == 600) = false := by rw [beq_eq_false_iff_ne]; omega
    obtain ⟨f', rfl, hf', ht2⟩ := toksB_tok (len := L.length) hone hf h6
    rw [hpos] at ht2
    rw [List.drop_drop] at ht2 hf'
    have hov3 := hov1.keep (fun b c _ hb => g13.at hb) fun _ _ _ h => h
    obtain ⟨sa, sn, sm, rfl⟩ := hov.form
    refine run ?_
    refine Ob2.lay (H := X3) (.cells (.row 38) [.int .i64 kd, .string (bstr t), .int .i64 n, .int .i64 (m : Int)]) (.slice (some ⟨X3.length, 0, none⟩) 1 4) rfl fun U b2 e2 l2 => ?_
    obtain ⟨U3, ap, o3, f3, n3⟩ := OwnR.append (n := H.length) (x := (kd, bstr t, n, (m : Int))) rowTokR rowTokR (hov3.keep (fun b c _ h => e2.at h) fun _ _ _ h => h) b2 rfl rfl hbk (by have := e2.1; have := g13.1; have := k1.1; have := gX.1; omega) (by omega) (fun _ _ _ _ _ h => h)
    refine run ?_
    refine Ob2.of ap ?_
    have gU : Grow H U3 := f3.grow ((gX1.trans g13).trans e2) (Nat.le_refl _)
    have hUl : X3.length ≤ U3.length := by have := e2.1; have := f3.1; omega
    refine run ?_
    refine (rxSkip_ax U3 (s := s) (by omega) (k := m + w) (by omega)).mono ?_
    rintro _ W ⟨⟨m2, rfl, hm2, hdm2⟩, e⟩
    subst W
    rw [hL] at hdm2
    refine run ?_
    refine ⟨(f', m2, out ++ [(kd, bstr t, n, (m : Int))], .slice (some ⟨U.length, 0, none⟩) (out.length + 1) 4), ⟨rfl, rfl, rfl, trivial⟩, ⟨by dsimp only; omega, gU, by rw [ht, ht2, hdm2], by rw [hdm2]; have := skip_len false (L.drop (m + w)); omega, by simp; omega, o3, fun q hq => ?_⟩, by dsimp only; omega⟩
    obtain ⟨n', k', hq⟩ := hq
    simp only [Value.slice.injEq, Option.some.injEq, Addr.mk.injEq, and_true] at hq
    have := e2.1; have := g13.1; have := k1.1; have := gX.1
    omega
end Go.Proofs.Ythhbocbgkhooaaa
/- The laws of lex: tokens compared; that the package works. -/
set_option linter.unusedVariables false
set_option linter.unusedSimpArgs false
set_option maxRecDepth 20000
set_option maxHeartbeats 4000000
namespace Go.Proofs.Ythhbocbgkhooaaa
open Go Ax
theorem tok_at {H : Heap} {v : Value} {L : List TokX} (h : RL 4 tokR H v L) {t e : TypeId} (he : sliceElem Try.prog t = some e) (hk : tsize Try.prog e = some 4) {i : Nat} {x : TokX} (hx : L[i]? = some x) :
    ∃ b, aindexAddr Try.prog t v (.int .i64 (i : Int)) = some (.pointer (some ⟨b, i * 4, none⟩)) ∧ ∀ H', Grow H H' → ∃ c, hblk H' b = some c ∧ slotsOf c (i * 4) 4 = some [.int .i64 x.1, .string x.2.1, .int .i64 x.2.2.1, .int .i64 x.2.2.2] ∧
      aload Try.prog 3 (.pointer (some ⟨b, i * 4, none⟩)) H' = some (.int .i64 x.1) ∧ aload Try.prog 9 (.pointer (some ⟨b, i * 4 + 1, none⟩)) H' = some (.string x.2.1) ∧
      aload Try.prog 3 (.pointer (some ⟨b, i * 4 + 2, none⟩)) H' = some (.int .i64 x.2.2.1) ∧ aload Try.prog 3 (.pointer (some ⟨b, i * 4 + 3, none⟩)) H' = some (.int .i64 x.2.2.2) := by
  obtain ⟨b, c, l, h1, h2, h3, h4⟩ := h.at (P := Try.prog) (t := t) (e := e) he hk hx
  have h4 : l = [.int .i64 x.1, .string x.2.1, .int .i64 x.2.2.1, .int .i64 x.2.2.2] := h4
  subst h4
  exact ⟨b, h1, fun H' g => ⟨c, g.hblk h2, h3, ald rfl rfl (g.hblk h2) (slots_gt (j := 0) h3 rfl), ald rfl rfl (g.hblk h2) (slots_gt (j := 1) h3 rfl), ald rfl rfl (g.hblk h2) (slots_gt (j := 2) h3 rfl), ald rfl rfl (g.hblk h2) (slots_gt (j := 3) h3 rfl)⟩⟩
theorem same_ax {H : Heap} {v u : Value} {A B : List TokX} (ha : RL 4 tokR H v A) (hb : RL 4 tokR H u B) (hl : A.length ≤ 1000000) (places : Bool) (he : A.length = B.length)
    (hc : ∀ (i : Nat) x y, A[i]? = some x → B[i]? = some y → x.1 = y.1 ∧ x.2.1 = y.2.1 ∧ x.2.2.1 = y.2.2.1 ∧ (places = true → x.2.2.2 = y.2.2.2)) :
    AX Try.prog 10 #[v, u, .bool places] H (fun r H' => r = .bool true ∧ H' = H) := by
  have la := ha.len (P := Try.prog) (t := 23) (e := 34) rfl H
  have lb := hb.len (P := Try.prog) (t := 27) (e := 38) rfl H
  have d0 : (!((A.length : Int) == (B.length : Int))) = false := by rw [he]; simp
  refine AX.body (n := 72) (rs := [.tmp 6]) Try.func10 rfl (by decide) rfl rfl (bC_sound _ _ _ _ ?_)
  refine run ?_
  refine SW.loop (α := Nat) (fun i => [(0, v), (1, u), (2, .bool places), (7, .int .i64 (i : Int))]) (fun i X => X = H ∧ i ≤ A.length) (fun i => A.length - i) ⟨0, ⟨rfl, rfl, rfl, rfl, trivial⟩, rfl, Nat.zero_le _⟩ ?_
  clear d0
  rintro i X ⟨e, hi⟩
  subst X
  refine bC_sound _ _ _ _ ?_
  by_cases hil : i < A.length
  rotate_left
  · have d1 : decide ((i : Int) < (A.length : Int)) = false := decide_eq_false (by omega)
    refine run ?_
    exact ⟨rfl, rfl⟩
  have d1 : decide ((i : Int) < (A.length : Int)) = true := decide_eq_true (by omega)
  obtain ⟨x, hx⟩ := get_lt hil
  obtain ⟨y, hy⟩ := get_lt (L := B) (m := i) (by omega)
  obtain ⟨c1, c2, c3, c4⟩ := hc i x y hx hy
  obtain ⟨p, p0, pp⟩ := tok_at ha (t := 23) (e := 34) rfl rfl hx
  obtain ⟨_, _, _, p1, p2, p3, p4⟩ := pp H (.refl _)
  obtain ⟨q, q0, qq⟩ := tok_at hb (t := 27) (e := 38) rfl rfl hy
  obtain ⟨_, _, _, q1, q2, q3, q4⟩ := qq H (.refl _)
  have w1 := w_succ (k := i) (by omega)
  have e1 : (!(x.1 == y.1)) = false := by simp [c1]
  have e2 : (!(x.2.1 == y.2.1)) = false := by rw [c2, ba_list]; simp
  have e3 : (!(x.2.2.1 == y.2.2.1)) = false := by simp [c3]
  refine run ?_
  apply SW.drawH [(0, [], [20, 24, 25, 26, 27, 28], false), (1, [], [19, 24, 25, 26, 27, 28], false), (2, [(19, 0), (20, 1)], [19, 20, 24, 25, 26, 27, 28], false), (3, [(19, 0), (20, 1), (21, 2)], [19, 20, 21, 24, 25, 26, 27, 28], false), (4, [(19, 0), (20, 1), (21, 2), (22, 3)], [19, 20, 21, 22, 24, 25, 26, 27, 28], false), (5, [], [19, 20, 21, 22, 23, 25], false), (6, [], [19, 20, 21, 22, 23, 24], false), (7, [(24, 5), (25, 6)], [19, 20, 21, 22, 23, 24, 25], false), (8, [(24, 5), (25, 6), (26, 7)], [19, 20, 21, 22, 23, 24, 25, 26], false), (9, [(24, 5), (25, 6), (26, 7), (27, 8)], [19, 20, 21, 22, 23, 24, 25, 26, 27], false), (10, [(19, 0), (20, 1), (21, 2), (22, 3), (23, 4), (24, 5), (25, 6), (26, 7), (27, 8), (28, 9)], [19, 20, 21, 22, 23, 24, 25, 26, 27, 28], false), (11, [(19, 0), (20, 1), (21, 2), (22, 3), (23, 4), (24, 5), (25, 6), (26, 7), (27, 8), (28, 9), (29, 10)], [19, 20, 21, 22, 23, 24, 25, 26, 27, 28, 29], false), (12, [(19, 0), (20, 1), (21, 2), (22, 3), (23, 4), (24, 5), (25, 6), (26, 7), (27, 8), (28, 9), (29, 10), (30, 11)], [19, 20, 21, 22, 23, 24, 25, 26, 27, 28, 29, 30, 32, 36, 37, 38, 39, 40], false), (13, [(19, 0), (20, 1), (21, 2), (22, 3), (23, 4), (24, 5), (25, 6), (26, 7), (27, 8), (28, 9), (29, 10), (30, 11)], [19, 20, 21, 22, 23, 24, 25, 26, 27, 28, 29, 30, 31, 36, 37, 38, 39, 40], false), (14, [(19, 0), (20, 1), (21, 2), (22, 3), (23, 4), (24, 5), (25, 6), (26, 7), (27, 8), (28, 9), (29, 10), (30, 11), (31, 12), (32, 13)], [19, 20, 21, 22, 23, 24, 25, 26, 27, 28, 29, 30, 31, 32, 36, 37, 38, 39, 40], false), (15, [(19, 0), (20, 1), (21, 2), (22, 3), (23, 4), (24, 5), (25, 6), (26, 7), (27, 8), (28, 9), (29, 10), (30, 11), (31, 12), (32, 13), (33, 14)], [19, 20, 21, 22, 23, 24, 25, 26, 27, 28, 29, 30, 31, 32, 33, 36, 37, 38, 39, 40], false), (16, [(19, 0), (20, 1), (21, 2), (22, 3), (23, 4), (24, 5), (25, 6), (26, 7), (27, 8), (28, 9), (29, 10), (30, 11), (31, 12), (32, 13), (33, 14), (34, 15)], [19, 20, 21, 22, 23, 24, 25, 26, 27, 28, 29, 30, 31, 32, 33, 34, 36, 37, 38, 39, 40], false), (17, [(19, 0), (20, 1), (21, 2), (22, 3), (23, 4), (24, 5), (25, 6), (26, 7), (27, 8), (28, 9), (29, 10), (30, 11)], [19, 20, 21, 22, 23, 24, 25, 26, 27, 28, 29, 30, 31, 32, 33, 34, 35, 37], false), (18, [(19, 0), (20, 1), (21, 2), (22, 3), (23, 4), (24, 5), (25, 6), (26, 7), (27, 8), (28, 9), (29, 10), (30, 11)], [19, 20, 21, 22, 23, 24, 25, 26, 27, 28, 29, 30, 31, 32, 33, 34, 35, 36], false), (19, [(19, 0), (20, 1), (21, 2), (22, 3), (23, 4), (24, 5), (25, 6), (26, 7), (27, 8), (28, 9), (29, 10), (30, 11), (36, 17), (37, 18)], [19, 20, 21, 22, 23, 24, 25, 26, 27, 28, 29, 30, 31, 32, 33, 34, 35, 36, 37], false), (20, [(19, 0), (20, 1), (21, 2), (22, 3), (23, 4), (24, 5), (25, 6), (26, 7), (27, 8), (28, 9), (29, 10), (30, 11), (36, 17), (37, 18), (38, 19)], [19, 20, 21, 22, 23, 24, 25, 26, 27, 28, 29, 30, 31, 32, 33, 34, 35, 36, 37, 38], false), (21, [(19, 0), (20, 1), (21, 2), (22, 3), (23, 4), (24, 5), (25, 6), (26, 7), (27, 8), (28, 9), (29, 10), (30, 11), (36, 17), (37, 18), (38, 19), (39, 20)], [19, 20, 21, 22, 23, 24, 25, 26, 27, 28, 29, 30, 31, 32, 33, 34, 35, 36, 37, 38, 39], false), (22, [(19, 0), (20, 1), (21, 2), (22, 3), (23, 4), (24, 5), (25, 6), (26, 7), (27, 8), (28, 9), (29, 10), (30, 11), (31, 12), (32, 13), (33, 14), (34, 15), (35, 16), (36, 17), (37, 18), (38, 19), (39, 20), (40, 21)], [19, 20, 21, 22, 23, 24, 25, 26, 27, 28, 29, 30, 31, 32, 33, 34, 35, 36, 37, 38, 39, 40], false), (23, [(19, 0), (20, 1), (21, 2), (22, 3), (23, 4), (24, 5), (25, 6), (26, 7), (27, 8), (28, 9), (29, 10), (30, 11), (31, 12), (32, 13), (33, 14), (34, 15), (35, 16), (36, 17), (37, 18), (38, 19), (39, 20), (40, 21), (41, 22)], [19, 20, 21, 22, 23, 24, 25, 26, 27, 28, 29, 30, 31, 32, 33, 34, 35, 36, 37, 38, 39, 40, 41], false), (24, [(19, 0), (20, 1), (21, 2), (22, 3), (23, 4), (24, 5), (25, 6), (26, 7), (27, 8), (28, 9), (29, 10), (30, 11), (31, 12), (32, 13), (33, 14), (34, 15), (35, 16), (36, 17), (37, 18), (38, 19), (39, 20), (40, 21), (41, 22), (42, 23)], [19, 20, 21, 22, 23, 24, 25, 26, 27, 28, 29, 30, 31, 32, 33, 34, 35, 36, 37, 38, 39, 40, 41, 42], false), (25, [(19, 0), (20, 1), (21, 2), (22, 3), (23, 4), (24, 5), (25, 6), (26, 7), (27, 8), (28, 9), (29, 10), (30, 11), (31, 12), (32, 13), (33, 14), (34, 15), (35, 16), (36, 17), (37, 18), (38, 19), (39, 20), (40, 21), (41, 22), (42, 23), (43, 24)], [19, 20, 21, 22, 23, 24, 25, 26, 27, 28, 29, 30, 31, 32, 33, 34, 35, 36, 37, 38, 39, 40, 41, 42, 43, 45, 49, 50, 51, 52, 53], false), (26, [(19, 0), (20, 1), (21, 2), (22, 3), (23, 4), (24, 5), (25, 6), (26, 7), (27, 8), (28, 9), (29, 10), (30, 11), (31, 12), (32, 13), (33, 14), (34, 15), (35, 16), (36, 17), (37, 18), (38, 19), (39, 20), (40, 21), (41, 22), (42, 23), (43, 24)], [19, 20, 21, 22, 23, 24, 25, 26, 27, 28, 29, 30, 31, 32, 33, 34, 35, 36, 37, 38, 39, 40, 41, 42, 43, 44, 49, 50, 51, 52, 53], false), (27, [(19, 0), (20, 1), (21, 2), (22, 3), (23, 4), (24, 5), (25, 6), (26, 7), (27, 8), (28, 9), (29, 10), (30, 11), (31, 12), (32, 13), (33, 14), (34, 15), (35, 16), (36, 17), (37, 18), (38, 19), (39, 20), (40, 21), (41, 22), (42, 23), (43, 24), (44, 25), (45, 26)], [19, 20, 21, 22, 23, 24, 25, 26, 27, 28, 29, 30, 31, 32, 33, 34, 35, 36, 37, 38, 39, 40, 41, 42, 43, 44, 45, 49, 50, 51, 52, 53], false), (28, [(19, 0), (20, 1), (21, 2), (22, 3), (23, 4), (24, 5), (25, 6), (26, 7), (27, 8), (28, 9), (29, 10), (30, 11), (31, 12), (32, 13), (33, 14), (34, 15), (35, 16), (36, 17), (37, 18), (38, 19), (39, 20), (40, 21), (41, 22), (42, 23), (43, 24), (44, 25), (45, 26), (46, 27)], [19, 20, 21, 22, 23, 24, 25, 26, 27, 28, 29, 30, 31, 32, 33, 34, 35, 36, 37, 38, 39, 40, 41, 42, 43, 44, 45, 46, 49, 50, 51, 52, 53], false), (29, [(19, 0), (20, 1), (21, 2), (22, 3), (23, 4), (24, 5), (25, 6), (26, 7), (27, 8), (28, 9), (29, 10), (30, 11), (31, 12), (32, 13), (33, 14), (34, 15), (35, 16), (36, 17), (37, 18), (38, 19), (39, 20), (40, 21), (41, 22), (42, 23), (43, 24), (44, 25), (45, 26), (46, 27), (47, 28)], [19, 20, 21, 22, 23, 24, 25, 26, 27, 28, 29, 30, 31, 32, 33, 34, 35, 36, 37, 38, 39, 40, 41, 42, 43, 44, 45, 46, 47, 49, 50, 51, 52, 53], false), (30, [(19, 0), (20, 1), (21, 2), (22, 3), (23, 4), (24, 5), (25, 6), (26, 7), (27, 8), (28, 9), (29, 10), (30, 11), (31, 12), (32, 13), (33, 14), (34, 15), (35, 16), (36, 17), (37, 18), (38, 19), (39, 20), (40, 21), (41, 22), (42, 23), (43, 24)], [19, 20, 21, 22, 23, 24, 25, 26, 27, 28, 29, 30, 31, 32, 33, 34, 35, 36, 37, 38, 39, 40, 41, 42, 43, 44, 45, 46, 47, 48, 50], false), (31, [(19, 0), (20, 1), (21, 2), (22, 3), (23, 4), (24, 5), (25, 6), (26, 7), (27, 8), (28, 9), (29, 10), (30, 11), (31, 12), (32, 13), (33, 14), (34, 15), (35, 16), (36, 17), (37, 18), (38, 19), (39, 20), (40, 21), (41, 22), (42, 23), (43, 24)], [19, 20, 21, 22, 23, 24, 25, 26, 27, 28, 29, 30, 31, 32, 33, 34, 35, 36, 37, 38, 39, 40, 41, 42, 43, 44, 45, 46, 47, 48, 49], false), (32, [(19, 0), (20, 1), (21, 2), (22, 3), (23, 4), (24, 5), (25, 6), (26, 7), (27, 8), (28, 9), (29, 10), (30, 11), (31, 12), (32, 13), (33, 14), (34, 15), (35, 16), (36, 17), (37, 18), (38, 19), (39, 20), (40, 21), (41, 22), (42, 23), (43, 24), (49, 30), (50, 31)], [19, 20, 21, 22, 23, 24, 25, 26, 27, 28, 29, 30, 31, 32, 33, 34, 35, 36, 37, 38, 39, 40, 41, 42, 43, 44, 45, 46, 47, 48, 49, 50], false), (33, [(19, 0), (20, 1), (21, 2), (22, 3), (23, 4), (24, 5), (25, 6), (26, 7), (27, 8), (28, 9), (29, 10), (30, 11), (31, 12), (32, 13), (33, 14), (34, 15), (35, 16), (36, 17), (37, 18), (38, 19), (39, 20), (40, 21), (41, 22), (42, 23), (43, 24), (49, 30), (50, 31), (51, 32)], [19, 20, 21, 22, 23, 24, 25, 26, 27, 28, 29, 30, 31, 32, 33, 34, 35, 36, 37, 38, 39, 40, 41, 42, 43, 44, 45, 46, 47, 48, 49, 50, 51], false), (34, [(19, 0), (20, 1), (21, 2), (22, 3), (23, 4), (24, 5), (25, 6), (26, 7), (27, 8), (28, 9), (29, 10), (30, 11), (31, 12), (32, 13), (33, 14), (34, 15), (35, 16), (36, 17), (37, 18), (38, 19), (39, 20), (40, 21), (41, 22), (42, 23), (43, 24), (49, 30), (50, 31), (51, 32), (52, 33)], [19, 20, 21, 22, 23, 24, 25, 26, 27, 28, 29, 30, 31, 32, 33, 34, 35, 36, 37, 38, 39, 40, 41, 42, 43, 44, 45, 46, 47, 48, 49, 50, 51, 52], false), (35, [(19, 0), (20, 1), (21, 2), (22, 3), (23, 4), (24, 5), (25, 6), (26, 7), (27, 8), (28, 9), (29, 10), (30, 11), (31, 12), (32, 13), (33, 14), (34, 15), (35, 16), (36, 17), (37, 18), (38, 19), (39, 20), (40, 21), (41, 22), (42, 23), (43, 24), (44, 25), (45, 26), (46, 27), (47, 28), (48, 29), (49, 30), (50, 31), (51, 32), (52, 33), (53, 34)], [19, 20, 21, 22, 23, 24, 25, 26, 27, 28, 29, 30, 31, 32, 33, 34, 35, 36, 37, 38, 39, 40, 41, 42, 43, 44, 45, 46, 47, 48, 49, 50, 51, 52, 53], false), (36, [(19, 0), (20, 1), (21, 2), (22, 3), (23, 4), (24, 5), (25, 6), (26, 7), (27, 8), (28, 9), (29, 10), (30, 11), (31, 12), (32, 13), (33, 14), (34, 15), (35, 16), (36, 17), (37, 18), (38, 19), (39, 20), (40, 21), (41, 22), (42, 23), (43, 24), (44, 25), (45, 26), (46, 27), (47, 28), (48, 29), (49, 30), (50, 31), (51, 32), (52, 33), (53, 34), (54, 35)], [19, 20, 21, 22, 23, 24, 25, 26, 27, 28, 29, 30, 31, 32, 33, 34, 35, 36, 37, 38, 39, 40, 41, 42, 43, 44, 45, 46, 47, 48, 49, 50, 51, 52, 53, 54], false), (37, [(19, 0), (20, 1), (21, 2), (22, 3), (23, 4), (24, 5), (25, 6), (26, 7), (27, 8), (28, 9), (29, 10), (30, 11), (31, 12), (32, 13), (33, 14), (34, 15), (35, 16), (36, 17), (37, 18), (38, 19), (39, 20), (40, 21), (41, 22), (42, 23), (43, 24), (44, 25), (45, 26), (46, 27), (47, 28), (48, 29), (49, 30), (50, 31), (51, 32), (52, 33), (53, 34), (54, 35), (55, 36)], [19, 20, 21, 22, 23, 24, 25, 26, 27, 28, 29, 30, 31, 32, 33, 34, 35, 36, 37, 38, 39, 40, 41, 42, 43, 44, 45, 46, 47, 48, 49, 50, 51, 52, 53, 54, 55], false), (38, [(19, 0), (20, 1), (21, 2), (22, 3), (23, 4), (24, 5), (25, 6), (26, 7), (27, 8), (28, 9), (29, 10), (30, 11), (31, 12), (32, 13), (33, 14), (34, 15), (35, 16), (36, 17), (37, 18), (38, 19), (39, 20), (40, 21), (41, 22), (42, 23), (43, 24), (44, 25), (45, 26), (46, 27), (47, 28), (48, 29), (49, 30), (50, 31), (51, 32), (52, 33), (53, 34), (54, 35), (55, 36), (56, 37)], [19, 20, 21, 22, 23, 24, 25, 26, 27, 28, 29, 30, 31, 32, 33, 34, 35, 36, 37, 38, 39, 40, 41, 42, 43, 44, 45, 46, 47, 48, 49, 50, 51, 52, 53, 54, 55, 56], false), (39, [(19, 0), (20, 1), (21, 2), (22, 3), (23, 4), (24, 5), (25, 6), (26, 7), (27, 8), (28, 9), (29, 10), (30, 11), (31, 12), (32, 13), (33, 14), (34, 15), (35, 16), (36, 17), (37, 18), (38, 19), (39, 20), (40, 21), (41, 22), (42, 23), (43, 24), (44, 25), (45, 26), (46, 27), (47, 28), (48, 29), (49, 30), (50, 31), (51, 32), (52, 33), (53, 34), (54, 35), (55, 36), (56, 37), (57, 38)], [19, 20, 21, 22, 23, 24, 25, 26, 27, 28, 29, 30, 31, 32, 33, 34, 35, 36, 37, 38, 39, 40, 41, 42, 43, 44, 45, 46, 47, 48, 49, 50, 51, 52, 53, 54, 55, 56, 57], false), (40, [(19, 0), (20, 1), (21, 2), (22, 3), (23, 4), (24, 5), (25, 6), (26, 7), (27, 8), (28, 9), (29, 10), (30, 11), (31, 12), (32, 13), (33, 14), (34, 15), (35, 16), (36, 17), (37, 18), (38, 19), (39, 20), (40, 21), (41, 22), (42, 23), (43, 24), (44, 25), (45, 26), (46, 27), (47, 28), (48, 29), (49, 30), (50, 31), (51, 32), (52, 33), (53, 34), (54, 35), (55, 36), (56, 37), (57, 38), (58, 39)], [19, 20, 21, 22, 23, 24, 25, 26, 27, 28, 29, 30, 31, 32, 33, 34, 35, 36, 37, 38, 39, 40, 41, 42, 43, 44, 45, 46, 47, 48, 49, 50, 51, 52, 53, 54, 55, 56, 57, 58, 60, 64, 65, 66, 67, 68], false), (41, [(19, 0), (20, 1), (21, 2), (22, 3), (23, 4), (24, 5), (25, 6), (26, 7), (27, 8), (28, 9), (29, 10), (30, 11), (31, 12), (32, 13), (33, 14), (34, 15), (35, 16), (36, 17), (37, 18), (38, 19), (39, 20), (40, 21), (41, 22), (42, 23), (43, 24), (44, 25), (45, 26), (46, 27), (47, 28), (48, 29), (49, 30), (50, 31), (51, 32), (52, 33), (53, 34), (54, 35), (55, 36), (56, 37), (57, 38), (58, 39)], [19, 20, 21, 22, 23, 24, 25, 26, 27, 28, 29, 30, 31, 32, 33, 34, 35, 36, 37, 38, 39, 40, 41, 42, 43, 44, 45, 46, 47, 48, 49, 50, 51, 52, 53, 54, 55, 56, 57, 58, 59, 64, 65, 66, 67, 68], false), (42, [(19, 0), (20, 1), (21, 2), (22, 3), (23, 4), (24, 5), (25, 6), (26, 7), (27, 8), (28, 9), (29, 10), (30, 11), (31, 12), (32, 13), (33, 14), (34, 15), (35, 16), (36, 17), (37, 18), (38, 19), (39, 20), (40, 21), (41, 22), (42, 23), (43, 24), (44, 25), (45, 26), (46, 27), (47, 28), (48, 29), (49, 30), (50, 31), (51, 32), (52, 33), (53, 34), (54, 35), (55, 36), (56, 37), (57, 38), (58, 39), (59, 40), (60, 41)], [19, 20, 21, 22, 23, 24, 25, 26, 27, 28, 29, 30, 31, 32, 33, 34, 35, 36, 37, 38, 39, 40, 41, 42, 43, 44, 45, 46, 47, 48, 49, 50, 51, 52, 53, 54, 55, 56, 57, 58, 59, 60, 64, 65, 66, 67, 68], false), (43, [(19, 0), (20, 1), (21, 2), (22, 3), (23, 4), (24, 5), (25, 6), (26, 7), (27, 8), (28, 9), (29, 10), (30, 11), (31, 12), (32, 13), (33, 14), (34, 15), (35, 16), (36, 17), (37, 18), (38, 19), (39, 20), (40, 21), (41, 22), (42, 23), (43, 24), (44, 25), (45, 26), (46, 27), (47, 28), (48, 29), (49, 30), (50, 31), (51, 32), (52, 33), (53, 34), (54, 35), (55, 36), (56, 37), (57, 38), (58, 39), (59, 40), (60, 41), (61, 42)], [19, 20, 21, 22, 23, 24, 25, 26, 27, 28, 29, 30, 31, 32, 33, 34, 35, 36, 37, 38, 39, 40, 41, 42, 43, 44, 45, 46, 47, 48, 49, 50, 51, 52, 53, 54, 55, 56, 57, 58, 59, 60, 61, 64, 65, 66, 67, 68], false), (44, [(19, 0), (20, 1), (21, 2), (22, 3), (23, 4), (24, 5), (25, 6), (26, 7), (27, 8), (28, 9), (29, 10), (30, 11), (31, 12), (32, 13), (33, 14), (34, 15), (35, 16), (36, 17), (37, 18), (38, 19), (39, 20), (40, 21), (41, 22), (42, 23), (43, 24), (44, 25), (45, 26), (46, 27), (47, 28), (48, 29), (49, 30), (50, 31), (51, 32), (52, 33), (53, 34), (54, 35), (55, 36), (56, 37), (57, 38), (58, 39), (59, 40), (60, 41), (61, 42), (62, 43)], [19, 20, 21, 22, 23, 24, 25, 26, 27, 28, 29, 30, 31, 32, 33, 34, 35, 36, 37, 38, 39, 40, 41, 42, 43, 44, 45, 46, 47, 48, 49, 50, 51, 52, 53, 54, 55, 56, 57, 58, 59, 60, 61, 62, 64, 65, 66, 67, 68], false), (45, [(19, 0), (20, 1), (21, 2), (22, 3), (23, 4), (24, 5), (25, 6), (26, 7), (27, 8), (28, 9), (29, 10), (30, 11), (31, 12), (32, 13), (33, 14), (34, 15), (35, 16), (36, 17), (37, 18), (38, 19), (39, 20), (40, 21), (41, 22), (42, 23), (43, 24), (44, 25), (45, 26), (46, 27), (47, 28), (48, 29), (49, 30), (50, 31), (51, 32), (52, 33), (53, 34), (54, 35), (55, 36), (56, 37), (57, 38), (58, 39)], [19, 20, 21, 22, 23, 24, 25, 26, 27, 28, 29, 30, 31, 32, 33, 34, 35, 36, 37, 38, 39, 40, 41, 42, 43, 44, 45, 46, 47, 48, 49, 50, 51, 52, 53, 54, 55, 56, 57, 58, 59, 60, 61, 62, 63, 65], false), (46, [(19, 0), (20, 1), (21, 2), (22, 3), (23, 4), (24, 5), (25, 6), (26, 7), (27, 8), (28, 9), (29, 10), (30, 11), (31, 12), (32, 13), (33, 14), (34, 15), (35, 16), (36, 17), (37, 18), (38, 19), (39, 20), (40, 21), (41, 22), (42, 23), (43, 24), (44, 25), (45, 26), (46, 27), (47, 28), (48, 29), (49, 30), (50, 31), (51, 32), (52, 33), (53, 34), (54, 35), (55, 36), (56, 37), (57, 38), (58, 39)], [19, 20, 21, 22, 23, 24, 25, 26, 27, 28, 29, 30, 31, 32, 33, 34, 35, 36, 37, 38, 39, 40, 41, 42, 43, 44, 45, 46, 47, 48, 49, 50, 51, 52, 53, 54, 55, 56, 57, 58, 59, 60, 61, 62, 63, 64], false), (47, [(19, 0), (20, 1), (21, 2), (22, 3), (23, 4), (24, 5), (25, 6), (26, 7), (27, 8), (28, 9), (29, 10), (30, 11), (31, 12), (32, 13), (33, 14), (34, 15), (35, 16), (36, 17), (37, 18), (38, 19), (39, 20), (40, 21), (41, 22), (42, 23), (43, 24), (44, 25), (45, 26), (46, 27), (47, 28), (48, 29), (49, 30), (50, 31), (51, 32), (52, 33), (53, 34), (54, 35), (55, 36), (56, 37), (57, 38), (58, 39), (64, 45), (65, 46)], [19, 20, 21, 22, 23, 24, 25, 26, 27, 28, 29, 30, 31, 32, 33, 34, 35, 36, 37, 38, 39, 40, 41, 42, 43, 44, 45, 46, 47, 48, 49, 50, 51, 52, 53, 54, 55, 56, 57, 58, 59, 60, 61, 62, 63, 64, 65], false), (48, [(19, 0), (20, 1), (21, 2), (22, 3), (23, 4), (24, 5), (25, 6), (26, 7), (27, 8), (28, 9), (29, 10), (30, 11), (31, 12), (32, 13), (33, 14), (34, 15), (35, 16), (36, 17), (37, 18), (38, 19), (39, 20), (40, 21), (41, 22), (42, 23), (43, 24), (44, 25), (45, 26), (46, 27), (47, 28), (48, 29), (49, 30), (50, 31), (51, 32), (52, 33), (53, 34), (54, 35), (55, 36), (56, 37), (57, 38), (58, 39), (64, 45), (65, 46), (66, 47)], [19, 20, 21, 22, 23, 24, 25, 26, 27, 28, 29, 30, 31, 32, 33, 34, 35, 36, 37, 38, 39, 40, 41, 42, 43, 44, 45, 46, 47, 48, 49, 50, 51, 52, 53, 54, 55, 56, 57, 58, 59, 60, 61, 62, 63, 64, 65, 66], false), (49, [(19, 0), (20, 1), (21, 2), (22, 3), (23, 4), (24, 5), (25, 6), (26, 7), (27, 8), (28, 9), (29, 10), (30, 11), (31, 12), (32, 13), (33, 14), (34, 15), (35, 16), (36, 17), (37, 18), (38, 19), (39, 20), (40, 21), (41, 22), (42, 23), (43, 24), (44, 25), (45, 26), (46, 27), (47, 28), (48, 29), (49, 30), (50, 31), (51, 32), (52, 33), (53, 34), (54, 35), (55, 36), (56, 37), (57, 38), (58, 39), (64, 45), (65, 46), (66, 47), (67, 48)], [19, 20, 21, 22, 23, 24, 25, 26, 27, 28, 29, 30, 31, 32, 33, 34, 35, 36, 37, 38, 39, 40, 41, 42, 43, 44, 45, 46, 47, 48, 49, 50, 51, 52, 53, 54, 55, 56, 57, 58, 59, 60, 61, 62, 63, 64, 65, 66, 67], false), (50, [(19, 0), (20, 1), (21, 2), (22, 3), (23, 4), (24, 5), (25, 6), (26, 7), (27, 8), (28, 9), (29, 10), (30, 11), (31, 12), (32, 13), (33, 14), (34, 15), (35, 16), (36, 17), (37, 18), (38, 19), (39, 20), (40, 21), (41, 22), (42, 23), (43, 24), (44, 25), (45, 26), (46, 27), (47, 28), (48, 29), (49, 30), (50, 31), (51, 32), (52, 33), (53, 34), (54, 35), (55, 36), (56, 37), (57, 38), (58, 39), (59, 40), (60, 41), (61, 42), (62, 43), (63, 44), (64, 45), (65, 46), (66, 47), (67, 48), (68, 49)], [19, 20, 21, 22, 23, 24, 25, 26, 27, 28, 29, 30, 31, 32, 33, 34, 35, 36, 37, 38, 39, 40, 41, 42, 43, 44, 45, 46, 47, 48, 49, 50, 51, 52, 53, 54, 55, 56, 57, 58, 59, 60, 61, 62, 63, 64, 65, 66, 67, 68], false), (51, [(19, 0), (20, 1), (21, 2), (22, 3), (23, 4), (24, 5), (25, 6), (26, 7), (27, 8), (28, 9), (29, 10), (30, 11), (31, 12), (32, 13), (33, 14), (34, 15), (35, 16), (36, 17), (37, 18), (38, 19), (39, 20), (40, 21), (41, 22), (42, 23), (43, 24), (44, 25), (45, 26), (46, 27), (47, 28), (48, 29), (49, 30), (50, 31), (51, 32), (52, 33), (53, 34), (54, 35), (55, 36), (56, 37), (57, 38), (58, 39), (59, 40), (60, 41), (61, 42), (62, 43), (63, 44), (64, 45), (65, 46), (66, 47), (67, 48), (68, 49), (69, 50)], [19, 20, 21, 22, 23, 24, 25, 26, 27, 28, 29, 30, 31, 32, 33, 34, 35, 36, 37, 38, 39, 40, 41, 42, 43, 44, 45, 46, 47, 48, 49, 50, 51, 52, 53, 54, 55, 56, 57, 58, 59, 60, 61, 62, 63, 64, 65, 66, 67, 68, 69], false), (52, [(19, 0), (20, 1), (21, 2), (22, 3), (23, 4), (24, 5), (25, 6), (26, 7), (27, 8), (28, 9), (29, 10), (30, 11), (31, 12), (32, 13), (33, 14), (34, 15), (35, 16), (36, 17), (37, 18), (38, 19), (39, 20), (40, 21), (41, 22), (42, 23), (43, 24), (44, 25), (45, 26), (46, 27), (47, 28), (48, 29), (49, 30), (50, 31), (51, 32), (52, 33), (53, 34), (54, 35), (55, 36), (56, 37), (57, 38), (58, 39), (59, 40), (60, 41), (61, 42), (62, 43), (63, 44), (64, 45), (65, 46), (66, 47), (67, 48), (68, 49), (69, 50), (70, 51)], [19, 20, 21, 22, 23, 24, 25, 26, 27, 28, 29, 30, 31, 32, 33, 34, 35, 36, 37, 38, 39, 40, 41, 42, 43, 44, 45, 46, 47, 48, 49, 50, 51, 52, 53, 54, 55, 56, 57, 58, 59, 60, 61, 62, 63, 64, 65, 66, 67, 68, 69, 70], false)]
    [(19, 0), (20, 1), (21, 2), (22, 3), (23, 4), (24, 5), (25, 6), (26, 7), (27, 8), (28, 9), (29, 10), (30, 11), (31, 12), (32, 13), (33, 14), (34, 15), (35, 16), (36, 17), (37, 18), (38, 19), (39, 20), (40, 21), (41, 22), (42, 23), (43, 24), (44, 25), (45, 26), (46, 27), (47, 28), (48, 29), (49, 30), (50, 31), (51, 32), (52, 33), (53, 34), (54, 35), (55, 36), (56, 37), (57, 38), (58, 39), (59, 40), (60, 41), (61, 42), (62, 43), (63, 44), (64, 45), (65, 46), (66, 47), (67, 48), (68, 49), (69, 50), (70, 51), (71, 52)] []
    [(0, _), (1, _), (2, _), (7, _)] rfl (by kernel_rfl)
  case hF => exact ⟨rfl, rfl, rfl, rfl, trivial⟩
  cases places with
  | false =>
    refine run ?_
    exact ⟨i + 1, ⟨rfl, rfl, rfl, congrArg (fun z => some (Value.int .i64 z)) w1, trivial⟩, ⟨rfl, by omega⟩, by dsimp only; omega⟩
  | true =>
    have e4 : (!(x.2.2.2 == y.2.2.2)) = false := by simp [c4 rfl]
    refine run ?_
    exact ⟨i + 1, ⟨rfl, rfl, rfl, congrArg (fun z => some (Value.int .i64 z)) w1, trivial⟩, ⟨rfl, by omega⟩, by dsimp only; omega⟩
def workB : Bs := [97, 60, 61, 49, 50, 32, 47, 47, 32, 98]
theorem work_toks : toks workB = ([(1, bstr [97], 0, 0), (5, bstr [60, 61], 0, 1), (3, bstr [49, 50], 12, 3), (6, bstr [], 0, 10)], 0, 0) := by kernel_rfl
theorem toksF_small : ∀ (f len : Nat) (r : Bs) (out : List TokX), out.length ≤ 600 → (toksF f len r out).1.length ≤ 601
  | 0, _, _, _, _ => by simp [toksF]
  | f + 1, len, r, out, h => by
    unfold toksF
    split
    · simp; omega
    · split
      · simp
      · split
        · simp
        · exact toksF_small f len _ _ (by simp; omega)
theorem toks_small (L : Bs) : (toks L).1.length ≤ 1000000 := by
  unfold toks
  split
  · simp
  · have := toksF_small (L.length + 1) L.length L [] (by simp); omega
theorem lxWorks_ax (H : Heap) : AX Try.prog 7 #[] H (fun v H' => v = .bool true ∧ H' = H) := by
  refine AX.quiet ?_
  suffices hh : AX Try.prog 7 #[] H (fun v H' => v = .bool true ∧ Grow H H') from hh.mono fun v _ ⟨e, g⟩ => ⟨e ▸ plain_bool _, e, g⟩
  refine AX.body (n := 40) (rs := [.tmp 0]) Try.func7 rfl (by decide) rfl rfl (bC_sound _ _ _ _ ?_)
  refine run ?_
  have ht := lxTokens_ax H (s := bstr workB) (by decide)
  rw [bstr_toList, work_toks] at ht
  refine ht.mono ?_
  rintro _ X ⟨⟨tv, rfl, hr⟩, g⟩
  replace hr := hr.rl
  have l0 : alen Try.prog 23 tv X = some (.int .i64 4) := hr.len (P := Try.prog) (t := 23) (e := 34) rfl X
  obtain ⟨p, p0, pp⟩ := tok_at hr (t := 23) (e := 34) rfl rfl (i := 1) rfl
  obtain ⟨_, _, _, p1, p2, p3, p4⟩ := pp X (.refl _)
  have p0 : aindexAddr Try.prog 23 tv (.int .i64 1) = some (.pointer (some ⟨p, 4, none⟩)) := p0
  obtain ⟨q, q0, qq⟩ := tok_at hr (t := 23) (e := 34) rfl rfl (i := 2) rfl
  obtain ⟨_, _, _, q1, q2, q3, q4⟩ := qq X (.refl _)
  have q0 : aindexAddr Try.prog 23 tv (.int .i64 2) = some (.pointer (some ⟨q, 8, none⟩)) := q0
  obtain ⟨r, r0, rr⟩ := tok_at hr (t := 23) (e := 34) rfl rfl (i := 3) rfl
  obtain ⟨_, _, _, r1, r2, r3, r4⟩ := rr X (.refl _)
  have r0 : aindexAddr Try.prog 23 tv (.int .i64 3) = some (.pointer (some ⟨r, 12, none⟩)) := r0
  have p2 : aload Try.prog 9 (.pointer (some ⟨p, 5, none⟩)) X = some (.string (bstr [60, 61])) := p2
  have q3 : aload Try.prog 3 (.pointer (some ⟨q, 10, none⟩)) X = some (.int .i64 12) := q3
  have r1 : aload Try.prog 3 (.pointer (some ⟨r, 12, none⟩)) X = some (.int .i64 6) := r1
  refine run ?_
  refine (lxIsKey_ax X (bstr [102, 110])).mono ?_
  rintro _ Y ⟨rfl, e⟩
  subst Y
  refine run ?_
  exact ⟨by rw [bstr_toList]; rfl, g⟩
end Go.Proofs.Ythhbocbgkhooaaa
/- Package lex: tokens that may be. -/
set_option linter.unusedVariables false
set_option linter.unusedSimpArgs false
set_option maxRecDepth 20000
set_option maxHeartbeats 4000000
namespace Go.Proofs.Ythhbocbgkhooaaa
open Go Ax
def rightB (t : TokX) : Bool :=
  if t.1 = 3 then decide (0 ≤ t.2.2.1) && (decide (t.2.2.1 ≤ mostN) && decide (t.2.1.data.toList = decL t.2.2.1.toNat))
  else if t.2.2.1 = 0 then
    (if t.1 = 1 then nameS t.2.1.data.toList && !(keyS t.2.1.data.toList) else if t.1 = 2 then keyS t.2.1.data.toList else if t.1 = 4 then decide (t.2.1.data.toList.length ≤ 256)
    else if t.1 = 5 then decide (t.2.1.data.toList ∈ signsL) else if t.1 = 6 then decide (t.2.1.data.toList = []) else false)
  else false
theorem sign_mem {w : Bs} : (w ≠ [] ∧ (signS w).length = w.length) ↔ w ∈ signsL := by
  constructor
  · rintro ⟨h0, h1⟩
    have h2 := (sign_len w).2.2
    rw [h1, List.take_length] at h2
    unfold signsL
    rw [List.mem_append]
    unfold signS at h2
    split at h2
    · rename_i h; rw [h2] at h; exact .inl h
    · split at h2
      · rename_i h; rw [h2] at h; exact .inr h
      · exact absurd h2.symm h0
  · intro h
    rcases List.mem_append.1 h with h | h
    · have hl := two_len w h
      refine ⟨fun e => by rw [e] at hl; simp at hl, ?_⟩
      unfold signS
      rw [List.take_of_length_le (by omega), if_pos h]
    · have hl := one_lenC w h
      refine ⟨fun e => by rw [e] at hl; simp at hl, ?_⟩
      unfold signS
      rw [List.take_of_length_le (by omega), if_neg (fun h2 => by have := two_len w h2; omega), List.take_of_length_le (by omega), if_pos h]
theorem quietB {f : Nat} {args : Array Value} {H : Heap} {b : Bool} (h : AX Try.prog f args H (fun v H' => v = .bool b ∧ Grow H H')) : AX Try.prog f args H (fun v H' => v = .bool b ∧ H' = H) :=
  AX.quiet (h.mono fun v _ ⟨e, g⟩ => ⟨e ▸ plain_bool _, e, g⟩)
theorem lxRight_ax (H : Heap) {t : TokX} (hs : t.2.1.size ≤ 100000) : AX Try.prog 11 #[tokV t] H (fun v H' => v = .bool (rightB t) ∧ H' = H) := by
  refine quietB ?_
  obtain ⟨kd, w, n, at_⟩ := t
  dsimp only at hs ⊢
  unfold rightB
  dsimp only
  have hsz := size_data w
  refine AX.body (n := 75) (rs := [.tmp 2]) Try.func11 rfl (by decide) rfl rfl (bC_sound _ _ _ _ ?_)
  (conv => whnf)
  refine Ob2.box rfl fun q1 X hq1 a1 g => ?_
  have b1 := hblk_of a1
  by_cases h3 : kd = 3
  · subst h3
    rw [if_pos rfl]
    by_cases h0 : 0 ≤ n
    · have d1 : decide (n ≥ 0) = true := decide_eq_true h0
      have d1' : decide (0 ≤ n) = true := decide_eq_true h0
      rw [d1']
      by_cases h1 : n ≤ 4611686018427387903
      · have d2 : decide (n ≤ 4611686018427387903) = true := decide_eq_true h1
        have d2' : decide (n ≤ mostN) = true := decide_eq_true h1
        rw [d2']
        obtain ⟨m, rfl⟩ : ∃ m : Nat, n = (m : Int) := ⟨n.toNat, by omega⟩
        refine run ?_
        apply SW.drawH [(0, [], [], false), (1, [(31, 0)], [31], false), (2, [(31, 0), (32, 1)], [31, 32], false), (3, [(31, 0), (32, 1), (33, 2)], [31, 32, 33], false), (4, [(31, 0), (32, 1), (33, 2), (34, 3)], [31, 32, 33, 34], false), (5, [(31, 0), (32, 1), (33, 2), (34, 3), (35, 4)], [31, 32, 33, 34, 35], false), (6, [(31, 0), (32, 1), (33, 2), (34, 3), (35, 4), (36, 5)], [31, 32, 33, 34, 35, 36], false), (7, [(31, 0), (32, 1), (33, 2), (34, 3), (35, 4), (36, 5), (37, 6)], [31, 32, 33, 34, 35, 36, 37], false), (8, [(31, 0), (32, 1), (33, 2), (34, 3), (35, 4), (36, 5), (37, 6), (38, 7)], [31, 32, 33, 34, 35, 36, 37, 38], false), (9, [(31, 0), (32, 1), (33, 2), (34, 3), (35, 4), (36, 5), (37, 6), (38, 7), (39, 8)], [31, 32, 33, 34, 35, 36, 37, 38, 39, 42, 43, 44], false), (10, [(31, 0), (32, 1), (33, 2), (34, 3), (35, 4), (36, 5), (37, 6), (38, 7), (39, 8), (40, 9)], [31, 32, 33, 34, 35, 36, 37, 38, 39, 40, 42, 43, 44], false), (11, [(31, 0), (32, 1), (33, 2), (34, 3), (35, 4), (36, 5), (37, 6), (38, 7), (39, 8)], [31, 32, 33, 34, 35, 36, 37, 38, 39, 40, 41], false), (12, [(31, 0), (32, 1), (33, 2), (34, 3), (35, 4), (36, 5), (37, 6), (38, 7), (39, 8), (42, 11)], [31, 32, 33, 34, 35, 36, 37, 38, 39, 40, 41, 42], false), (13, [(31, 0), (32, 1), (33, 2), (34, 3), (35, 4), (36, 5), (37, 6), (38, 7), (39, 8), (42, 11), (43, 12)], [31, 32, 33, 34, 35, 36, 37, 38, 39, 40, 41, 42, 43], true), (14, [(31, 0), (32, 1), (33, 2), (34, 3), (35, 4), (36, 5), (37, 6), (38, 7), (39, 8), (40, 9), (41, 10), (42, 11), (43, 12), (44, 13)], [31, 32, 33, 34, 35, 36, 37, 38, 39, 40, 41, 42, 43, 44], false), (15, [(31, 0), (32, 1), (33, 2), (34, 3), (35, 4), (36, 5), (37, 6), (38, 7), (39, 8), (40, 9), (41, 10), (42, 11), (43, 12), (44, 13), (45, 14)], [31, 32, 33, 34, 35, 36, 37, 38, 39, 40, 41, 42, 43, 44, 45], false), (16, [(31, 0), (32, 1), (33, 2), (34, 3), (35, 4), (36, 5), (37, 6), (38, 7), (39, 8), (40, 9), (41, 10), (42, 11), (43, 12), (44, 13), (45, 14), (46, 15)], [31, 32, 33, 34, 35, 36, 37, 38, 39, 40, 41, 42, 43, 44, 45, 46], false)]
          [(31, 0), (32, 1), (33, 2), (34, 3), (35, 4), (36, 5), (37, 6), (38, 7), (39, 8), (40, 9), (41, 10), (42, 11), (43, 12), (44, 13), (45, 14), (46, 15), (2, 16)] [13]
          [(1, _)] rfl (by kernel_rfl)
        case hF => exact ⟨rfl, trivial⟩
        refine run ?_
        refine (numDigits_ax X (n0 := m) (by omega)).mono ?_
        rintro _ Y ⟨rfl, e⟩
        subst Y
        refine run ?_
        refine ⟨congrArg Value.bool ?_, g⟩
        rw [ba_list, Int.toNat_natCast]
        rfl
      · have d2 : decide (n ≤ 4611686018427387903) = false := decide_eq_false h1
        have d2' : decide (n ≤ mostN) = false := decide_eq_false h1
        rw [d2']
        refine run ?_
        apply SW.drawH [(0, [], [], false), (1, [(31, 0)], [31], false), (2, [(31, 0), (32, 1)], [31, 32], false), (3, [(31, 0), (32, 1), (33, 2)], [31, 32, 33], false), (4, [(31, 0), (32, 1), (33, 2), (34, 3)], [31, 32, 33, 34], false), (5, [(31, 0), (32, 1), (33, 2), (34, 3), (35, 4)], [31, 32, 33, 34, 35], false), (6, [(31, 0), (32, 1), (33, 2), (34, 3), (35, 4), (36, 5)], [31, 32, 33, 34, 35, 36], false), (7, [(31, 0), (32, 1), (33, 2), (34, 3), (35, 4), (36, 5), (37, 6)], [31, 32, 33, 34, 35, 36, 37], false), (8, [(31, 0), (32, 1), (33, 2), (34, 3), (35, 4), (36, 5), (37, 6), (38, 7)], [31, 32, 33, 34, 35, 36, 37, 38], false), (9, [(31, 0), (32, 1), (33, 2), (34, 3), (35, 4), (36, 5), (37, 6), (38, 7), (39, 8)], [31, 32, 33, 34, 35, 36, 37, 38, 39, 42, 43, 44], false), (10, [(31, 0), (32, 1), (33, 2), (34, 3), (35, 4), (36, 5), (37, 6), (38, 7), (39, 8), (40, 9)], [31, 32, 33, 34, 35, 36, 37, 38, 39, 40, 42, 43, 44], false), (11, [(31, 0), (32, 1), (33, 2), (34, 3), (35, 4), (36, 5), (37, 6), (38, 7), (39, 8)], [31, 32, 33, 34, 35, 36, 37, 38, 39, 40, 41], false), (12, [(31, 0), (32, 1), (33, 2), (34, 3), (35, 4), (36, 5), (37, 6), (38, 7), (39, 8), (42, 11)], [31, 32, 33, 34, 35, 36, 37, 38, 39, 40, 41, 42], false), (13, [(31, 0), (32, 1), (33, 2), (34, 3), (35, 4), (36, 5), (37, 6), (38, 7), (39, 8), (42, 11), (43, 12)], [31, 32, 33, 34, 35, 36, 37, 38, 39, 40, 41, 42, 43], true), (14, [(31, 0), (32, 1), (33, 2), (34, 3), (35, 4), (36, 5), (37, 6), (38, 7), (39, 8), (40, 9), (41, 10), (42, 11), (43, 12), (44, 13)], [31, 32, 33, 34, 35, 36, 37, 38, 39, 40, 41, 42, 43, 44], false), (15, [(31, 0), (32, 1), (33, 2), (34, 3), (35, 4), (36, 5), (37, 6), (38, 7), (39, 8), (40, 9), (41, 10), (42, 11), (43, 12), (44, 13), (45, 14)], [31, 32, 33, 34, 35, 36, 37, 38, 39, 40, 41, 42, 43, 44, 45], false), (16, [(31, 0), (32, 1), (33, 2), (34, 3), (35, 4), (36, 5), (37, 6), (38, 7), (39, 8), (40, 9), (41, 10), (42, 11), (43, 12), (44, 13), (45, 14), (46, 15)], [31, 32, 33, 34, 35, 36, 37, 38, 39, 40, 41, 42, 43, 44, 45, 46], false)]
          [(31, 0), (32, 1), (33, 2), (34, 3), (35, 4), (36, 5), (37, 6), (38, 7), (39, 8), (40, 9), (41, 10), (42, 11), (43, 12), (44, 13), (45, 14), (46, 15), (2, 16)] [13]
          [(1, _)] rfl (by kernel_rfl)
        case hF => exact ⟨rfl, trivial⟩
        refine run ?_
        exact ⟨rfl, g⟩
    · have d1 : decide (n ≥ 0) = false := decide_eq_false h0
      have d1' : decide (0 ≤ n) = false := decide_eq_false h0
      rw [d1']
      refine run ?_
      apply SW.drawH [(0, [], [], false), (1, [(31, 0)], [31], false), (2, [(31, 0), (32, 1)], [31, 32], false), (3, [(31, 0), (32, 1), (33, 2)], [31, 32, 33], false), (4, [(31, 0), (32, 1), (33, 2), (34, 3)], [31, 32, 33, 34], false), (5, [(31, 0), (32, 1), (33, 2), (34, 3), (35, 4)], [31, 32, 33, 34, 35], false), (6, [(31, 0), (32, 1), (33, 2), (34, 3), (35, 4), (36, 5)], [31, 32, 33, 34, 35, 36], false), (7, [(31, 0), (32, 1), (33, 2), (34, 3), (35, 4), (36, 5), (37, 6)], [31, 32, 33, 34, 35, 36, 37], false), (8, [(31, 0), (32, 1), (33, 2), (34, 3), (35, 4), (36, 5), (37, 6), (38, 7)], [31, 32, 33, 34, 35, 36, 37, 38], false), (9, [(31, 0), (32, 1), (33, 2), (34, 3), (35, 4), (36, 5), (37, 6), (38, 7), (39, 8)], [31, 32, 33, 34, 35, 36, 37, 38, 39, 42, 43, 44], false), (10, [(31, 0), (32, 1), (33, 2), (34, 3), (35, 4), (36, 5), (37, 6), (38, 7), (39, 8), (40, 9)], [31, 32, 33, 34, 35, 36, 37, 38, 39, 40, 42, 43, 44], false), (11, [(31, 0), (32, 1), (33, 2), (34, 3), (35, 4), (36, 5), (37, 6), (38, 7), (39, 8)], [31, 32, 33, 34, 35, 36, 37, 38, 39, 40, 41], false), (12, [(31, 0), (32, 1), (33, 2), (34, 3), (35, 4), (36, 5), (37, 6), (38, 7), (39, 8), (42, 11)], [31, 32, 33, 34, 35, 36, 37, 38, 39, 40, 41, 42], false), (13, [(31, 0), (32, 1), (33, 2), (34, 3), (35, 4), (36, 5), (37, 6), (38, 7), (39, 8), (42, 11), (43, 12)], [31, 32, 33, 34, 35, 36, 37, 38, 39, 40, 41, 42, 43], true), (14, [(31, 0), (32, 1), (33, 2), (34, 3), (35, 4), (36, 5), (37, 6), (38, 7), (39, 8), (40, 9), (41, 10), (42, 11), (43, 12), (44, 13)], [31, 32, 33, 34, 35, 36, 37, 38, 39, 40, 41, 42, 43, 44], false), (15, [(31, 0), (32, 1), (33, 2), (34, 3), (35, 4), (36, 5), (37, 6), (38, 7), (39, 8), (40, 9), (41, 10), (42, 11), (43, 12), (44, 13), (45, 14)], [31, 32, 33, 34, 35, 36, 37, 38, 39, 40, 41, 42, 43, 44, 45], false), (16, [(31, 0), (32, 1), (33, 2), (34, 3), (35, 4), (36, 5), (37, 6), (38, 7), (39, 8), (40, 9), (41, 10), (42, 11), (43, 12), (44, 13), (45, 14), (46, 15)], [31, 32, 33, 34, 35, 36, 37, 38, 39, 40, 41, 42, 43, 44, 45, 46], false)]
        [(31, 0), (32, 1), (33, 2), (34, 3), (35, 4), (36, 5), (37, 6), (38, 7), (39, 8), (40, 9), (41, 10), (42, 11), (43, 12), (44, 13), (45, 14), (46, 15), (2, 16)] [13]
        [(1, _)] rfl (by kernel_rfl)
      case hF => exact ⟨rfl, trivial⟩
      refine run ?_
      exact ⟨rfl, g⟩
  rw [if_neg h3]
  have e3 : (!(kd == 3)) = true := by simpa using h3
  by_cases hn : n = 0
  rotate_left
  · have e0 : (!(n == 0)) = true := by simpa using hn
    rw [if_neg hn]
    refine run ?_
    exact ⟨rfl, g⟩
  subst hn
  rw [if_pos rfl]
  by_cases h1 : kd = 1
  · subst h1
    rw [if_pos rfl]
    refine run ?_
    refine (name_ax X hs).mono ?_
    rintro _ Y ⟨rfl, e⟩
    subst Y
    cases hnm : nameS w.data.toList with
    | true =>
      refine run ?_
      refine (lxIsKey_ax X w).mono ?_
      rintro _ Y ⟨rfl, e⟩
      subst Y
      refine run ?_
      exact ⟨rfl, g⟩
    | false =>
      refine run ?_
      exact ⟨rfl, g⟩
  rw [if_neg h1]
  have e1 : (kd == 1) = false := by simpa using h1
  by_cases h2 : kd = 2
  · subst h2
    rw [if_pos rfl]
    refine run ?_
    refine (lxIsKey_ax X w).mono ?_
    rintro _ Y ⟨rfl, e⟩
    subst Y
    refine run ?_
    exact ⟨rfl, g⟩
  rw [if_neg h2]
  have e2 : (kd == 2) = false := by simpa using h2
  have e3' : (kd == 3) = false := by simpa using h3
  by_cases h4 : kd = 4
  · subst h4
    rw [if_pos rfl]
    refine run ?_
    refine ⟨congrArg Value.bool ?_, g⟩
    rw [decide_eq_decide]
    show (w.size : Int) ≤ 256 ↔ _
    omega
  rw [if_neg h4]
  have e4 : (kd == 4) = false := by simpa using h4
  by_cases h5 : kd = 5
  · subst h5
    rw [if_pos rfl]
    have hm := sign_mem (w := w.data.toList)
    by_cases hw : w.data.toList = []
    · have d1 : (!(w == (⟨#[]⟩ : ByteArray))) = false := by rw [ba_list, hw]; rfl
      have hf : decide (w.data.toList ∈ signsL) = false := decide_eq_false fun h => (hm.2 h).1 hw
      rw [hf]
      refine run ?_
      apply SW.drawH [(0, [], [], false), (1, [(55, 0)], [55], false), (2, [(55, 0), (56, 1)], [55, 56], false), (3, [(55, 0), (56, 1), (57, 2)], [55, 56, 57], false), (4, [(55, 0), (56, 1), (57, 2), (58, 3)], [55, 56, 57, 58, 62, 63, 64], false), (5, [(55, 0), (56, 1), (57, 2), (58, 3), (59, 4)], [55, 56, 57, 58, 59, 62, 63, 64], false), (7, [(55, 0), (56, 1), (57, 2), (58, 3)], [55, 56, 57, 58, 59, 60, 61], false), (8, [(55, 0), (56, 1), (57, 2), (58, 3), (62, 7)], [55, 56, 57, 58, 59, 60, 61, 62], false), (9, [(55, 0), (56, 1), (57, 2), (58, 3), (62, 7), (63, 8)], [55, 56, 57, 58, 59, 60, 61, 62, 63], false), (6, [(55, 0), (56, 1), (57, 2), (58, 3), (59, 4), (60, 5)], [55, 56, 57, 58, 59, 60, 62, 63, 64], true), (10, [(55, 0), (56, 1), (57, 2), (58, 3), (59, 4), (60, 5), (61, 6), (62, 7), (63, 8), (64, 9)], [55, 56, 57, 58, 59, 60, 61, 62, 63, 64], false), (11, [(55, 0), (56, 1), (57, 2), (58, 3), (59, 4), (60, 5), (61, 6), (62, 7), (63, 8), (64, 9), (65, 10)], [55, 56, 57, 58, 59, 60, 61, 62, 63, 64, 65], false), (12, [(55, 0), (56, 1), (57, 2), (58, 3), (59, 4), (60, 5), (61, 6), (62, 7), (63, 8), (64, 9), (65, 10), (66, 11)], [55, 56, 57, 58, 59, 60, 61, 62, 63, 64, 65, 66], false)]
        [(55, 0), (56, 1), (57, 2), (58, 3), (59, 4), (60, 5), (61, 6), (62, 7), (63, 8), (64, 9), (65, 10), (66, 11), (2, 12)] [6]
        [(1, _)] rfl (by kernel_rfl)
      case hF => exact ⟨rfl, trivial⟩
      refine run ?_
      exact ⟨rfl, g⟩
    · have d1 : (!(w == (⟨#[]⟩ : ByteArray))) = true := by rw [ba_list, decide_eq_false (show ¬ w.data.toList = (⟨#[]⟩ : ByteArray).data.toList from hw)]; rfl
      refine run ?_
      apply SW.drawH [(0, [], [], false), (1, [(55, 0)], [55], false), (2, [(55, 0), (56, 1)], [55, 56], false), (3, [(55, 0), (56, 1), (57, 2)], [55, 56, 57], false), (4, [(55, 0), (56, 1), (57, 2), (58, 3)], [55, 56, 57, 58, 62, 63, 64], false), (5, [(55, 0), (56, 1), (57, 2), (58, 3), (59, 4)], [55, 56, 57, 58, 59, 62, 63, 64], false), (7, [(55, 0), (56, 1), (57, 2), (58, 3)], [55, 56, 57, 58, 59, 60, 61], false), (8, [(55, 0), (56, 1), (57, 2), (58, 3), (62, 7)], [55, 56, 57, 58, 59, 60, 61, 62], false), (9, [(55, 0), (56, 1), (57, 2), (58, 3), (62, 7), (63, 8)], [55, 56, 57, 58, 59, 60, 61, 62, 63], false), (6, [(55, 0), (56, 1), (57, 2), (58, 3), (59, 4), (60, 5)], [55, 56, 57, 58, 59, 60, 62, 63, 64], true), (10, [(55, 0), (56, 1), (57, 2), (58, 3), (59, 4), (60, 5), (61, 6), (62, 7), (63, 8), (64, 9)], [55, 56, 57, 58, 59, 60, 61, 62, 63, 64], false), (11, [(55, 0), (56, 1), (57, 2), (58, 3), (59, 4), (60, 5), (61, 6), (62, 7), (63, 8), (64, 9), (65, 10)], [55, 56, 57, 58, 59, 60, 61, 62, 63, 64, 65], false), (12, [(55, 0), (56, 1), (57, 2), (58, 3), (59, 4), (60, 5), (61, 6), (62, 7), (63, 8), (64, 9), (65, 10), (66, 11)], [55, 56, 57, 58, 59, 60, 61, 62, 63, 64, 65, 66], false)]
        [(55, 0), (56, 1), (57, 2), (58, 3), (59, 4), (60, 5), (61, 6), (62, 7), (63, 8), (64, 9), (65, 10), (66, 11), (2, 12)] [6]
        [(1, _)] rfl (by kernel_rfl)
      case hF => exact ⟨rfl, trivial⟩
      refine run ?_
      refine (lxSign_ax X hs).mono ?_
      rintro _ Y ⟨rfl, e⟩
      subst Y
      refine run ?_
      refine ⟨congrArg Value.bool ?_, g⟩
      rw [Bool.eq_iff_iff, beq_iff_eq, decide_eq_true_eq, ← hm]
      show ((signS w.data.toList).length : Int) = (w.size : Int) ↔ _
      constructor
      · intro h; exact ⟨hw, by omega⟩
      · intro h; have := h.2; omega
  rw [if_neg h5]
  have e5 : (kd == 5) = false := by simpa using h5
  by_cases h6 : kd = 6
  · subst h6
    rw [if_pos rfl]
    refine run ?_
    exact ⟨congrArg Value.bool (ba_list _ _), g⟩
  rw [if_neg h6]
  have e6 : (kd == 6) = false := by simpa using h6
  refine run ?_
  exact ⟨rfl, g⟩
theorem rxRight_ax (H : Heap) {t : TokX} (hs : t.2.1.size ≤ 100000) : AX Try.prog 13 #[tokV t] H (fun v H' => v = .bool (rightB t) ∧ H' = H) := by
  refine quietB ?_
  obtain ⟨kd, w, n, at_⟩ := t
  dsimp only at hs ⊢
  unfold rightB
  dsimp only
  have hsz := size_data w
  refine AX.body (n := 64) (rs := [.tmp 2]) Try.func13 rfl (by decide) rfl rfl (bC_sound _ _ _ _ ?_)
  (conv => whnf)
  refine Ob2.box rfl fun q1 X hq1 a1 g => ?_
  have b1 := hblk_of a1
  by_cases h3 : kd = 3
  · subst h3
    rw [if_pos rfl]
    by_cases h0 : 0 ≤ n
    · have d1 : decide (n ≥ 0) = true := decide_eq_true h0
      have d1' : decide (0 ≤ n) = true := decide_eq_true h0
      rw [d1']
      by_cases h1 : n ≤ 4611686018427387903
      · have d2 : decide (n ≤ 4611686018427387903) = true := decide_eq_true h1
        have d2' : decide (n ≤ mostN) = true := decide_eq_true h1
        rw [d2']
        obtain ⟨m, rfl⟩ : ∃ m : Nat, n = (m : Int) := ⟨n.toNat, by omega⟩
        refine run ?_
        apply SW.drawH [(0, [], [], false), (1, [(31, 0)], [31], false), (2, [(31, 0), (32, 1)], [31, 32], false), (3, [(31, 0), (32, 1), (33, 2)], [31, 32, 33], false), (4, [(31, 0), (32, 1), (33, 2), (34, 3)], [31, 32, 33, 34], false), (5, [(31, 0), (32, 1), (33, 2), (34, 3), (35, 4)], [31, 32, 33, 34, 35], false), (6, [(31, 0), (32, 1), (33, 2), (34, 3), (35, 4), (36, 5)], [31, 32, 33, 34, 35, 36], false), (7, [(31, 0), (32, 1), (33, 2), (34, 3), (35, 4), (36, 5), (37, 6)], [31, 32, 33, 34, 35, 36, 37], false), (8, [(31, 0), (32, 1), (33, 2), (34, 3), (35, 4), (36, 5), (37, 6), (38, 7)], [31, 32, 33, 34, 35, 36, 37, 38], false), (9, [(31, 0), (32, 1), (33, 2), (34, 3), (35, 4), (36, 5), (37, 6), (38, 7), (39, 8)], [31, 32, 33, 34, 35, 36, 37, 38, 39, 42, 43, 44], false), (10, [(31, 0), (32, 1), (33, 2), (34, 3), (35, 4), (36, 5), (37, 6), (38, 7), (39, 8), (40, 9)], [31, 32, 33, 34, 35, 36, 37, 38, 39, 40, 42, 43, 44], false), (11, [(31, 0), (32, 1), (33, 2), (34, 3), (35, 4), (36, 5), (37, 6), (38, 7), (39, 8)], [31, 32, 33, 34, 35, 36, 37, 38, 39, 40, 41], false), (12, [(31, 0), (32, 1), (33, 2), (34, 3), (35, 4), (36, 5), (37, 6), (38, 7), (39, 8), (42, 11)], [31, 32, 33, 34, 35, 36, 37, 38, 39, 40, 41, 42], false), (13, [(31, 0), (32, 1), (33, 2), (34, 3), (35, 4), (36, 5), (37, 6), (38, 7), (39, 8), (42, 11), (43, 12)], [31, 32, 33, 34, 35, 36, 37, 38, 39, 40, 41, 42, 43], true), (14, [(31, 0), (32, 1), (33, 2), (34, 3), (35, 4), (36, 5), (37, 6), (38, 7), (39, 8), (40, 9), (41, 10), (42, 11), (43, 12), (44, 13)], [31, 32, 33, 34, 35, 36, 37, 38, 39, 40, 41, 42, 43, 44], false), (15, [(31, 0), (32, 1), (33, 2), (34, 3), (35, 4), (36, 5), (37, 6), (38, 7), (39, 8), (40, 9), (41, 10), (42, 11), (43, 12), (44, 13), (45, 14)], [31, 32, 33, 34, 35, 36, 37, 38, 39, 40, 41, 42, 43, 44, 45], false), (16, [(31, 0), (32, 1), (33, 2), (34, 3), (35, 4), (36, 5), (37, 6), (38, 7), (39, 8), (40, 9), (41, 10), (42, 11), (43, 12), (44, 13), (45, 14), (46, 15)], [31, 32, 33, 34, 35, 36, 37, 38, 39, 40, 41, 42, 43, 44, 45, 46], false)]
          [(31, 0), (32, 1), (33, 2), (34, 3), (35, 4), (36, 5), (37, 6), (38, 7), (39, 8), (40, 9), (41, 10), (42, 11), (43, 12), (44, 13), (45, 14), (46, 15), (2, 16)] [13]
          [(1, _)] rfl (by kernel_rfl)
        case hF => exact ⟨rfl, trivial⟩
        refine run ?_
        refine (rxDigits_ax X (n0 := m) (by omega)).mono ?_
        rintro _ Y ⟨rfl, e⟩
        subst Y
        refine run ?_
        refine ⟨congrArg Value.bool ?_, g⟩
        rw [ba_list, Int.toNat_natCast]
        rfl
      · have d2 : decide (n ≤ 4611686018427387903) = false := decide_eq_false h1
        have d2' : decide (n ≤ mostN) = false := decide_eq_false h1
        rw [d2']
        refine run ?_
        apply SW.drawH [(0, [], [], false), (1, [(31, 0)], [31], false), (2, [(31, 0), (32, 1)], [31, 32], false), (3, [(31, 0), (32, 1), (33, 2)], [31, 32, 33], false), (4, [(31, 0), (32, 1), (33, 2), (34, 3)], [31, 32, 33, 34], false), (5, [(31, 0), (32, 1), (33, 2), (34, 3), (35, 4)], [31, 32, 33, 34, 35], false), (6, [(31, 0), (32, 1), (33, 2), (34, 3), (35, 4), (36, 5)], [31, 32, 33, 34, 35, 36], false), (7, [(31, 0), (32, 1), (33, 2), (34, 3), (35, 4), (36, 5), (37, 6)], [31, 32, 33, 34, 35, 36, 37], false), (8, [(31, 0), (32, 1), (33, 2), (34, 3), (35, 4), (36, 5), (37, 6), (38, 7)], [31, 32, 33, 34, 35, 36, 37, 38], false), (9, [(31, 0), (32, 1), (33, 2), (34, 3), (35, 4), (36, 5), (37, 6), (38, 7), (39, 8)], [31, 32, 33, 34, 35, 36, 37, 38, 39, 42, 43, 44], false), (10, [(31, 0), (32, 1), (33, 2), (34, 3), (35, 4), (36, 5), (37, 6), (38, 7), (39, 8), (40, 9)], [31, 32, 33, 34, 35, 36, 37, 38, 39, 40, 42, 43, 44], false), (11, [(31, 0), (32, 1), (33, 2), (34, 3), (35, 4), (36, 5), (37, 6), (38, 7), (39, 8)], [31, 32, 33, 34, 35, 36, 37, 38, 39, 40, 41], false), (12, [(31, 0), (32, 1), (33, 2), (34, 3), (35, 4), (36, 5), (37, 6), (38, 7), (39, 8), (42, 11)], [31, 32, 33, 34, 35, 36, 37, 38, 39, 40, 41, 42], false), (13, [(31, 0), (32, 1), (33, 2), (34, 3), (35, 4), (36, 5), (37, 6), (38, 7), (39, 8), (42, 11), (43, 12)], [31, 32, 33, 34, 35, 36, 37, 38, 39, 40, 41, 42, 43], true), (14, [(31, 0), (32, 1), (33, 2), (34, 3), (35, 4), (36, 5), (37, 6), (38, 7), (39, 8), (40, 9), (41, 10), (42, 11), (43, 12), (44, 13)], [31, 32, 33, 34, 35, 36, 37, 38, 39, 40, 41, 42, 43, 44], false), (15, [(31, 0), (32, 1), (33, 2), (34, 3), (35, 4), (36, 5), (37, 6), (38, 7), (39, 8), (40, 9), (41, 10), (42, 11), (43, 12), (44, 13), (45, 14)], [31, 32, 33, 34, 35, 36, 37, 38, 39, 40, 41, 42, 43, 44, 45], false), (16, [(31, 0), (32, 1), (33, 2), (34, 3), (35, 4), (36, 5), (37, 6), (38, 7), (39, 8), (40, 9), (41, 10), (42, 11), (43, 12), (44, 13), (45, 14), (46, 15)], [31, 32, 33, 34, 35, 36, 37, 38, 39, 40, 41, 42, 43, 44, 45, 46], false)]
          [(31, 0), (32, 1), (33, 2), (34, 3), (35, 4), (36, 5), (37, 6), (38, 7), (39, 8), (40, 9), (41, 10), (42, 11), (43, 12), (44, 13), (45, 14), (46, 15), (2, 16)] [13]
          [(1, _)] rfl (by kernel_rfl)
        case hF => exact ⟨rfl, trivial⟩
        refine run ?_
        exact ⟨rfl, g⟩
    · have d1 : decide (n ≥ 0) = false := decide_eq_false h0
      have d1' : decide (0 ≤ n) = false := decide_eq_false h0
      rw [d1']
      refine run ?_
      apply SW.drawH [(0, [], [], false), (1, [(31, 0)], [31], false), (2, [(31, 0), (32, 1)], [31, 32], false), (3, [(31, 0), (32, 1), (33, 2)], [31, 32, 33], false), (4, [(31, 0), (32, 1), (33, 2), (34, 3)], [31, 32, 33, 34], false), (5, [(31, 0), (32, 1), (33, 2), (34, 3), (35, 4)], [31, 32, 33, 34, 35], false), (6, [(31, 0), (32, 1), (33, 2), (34, 3), (35, 4), (36, 5)], [31, 32, 33, 34, 35, 36], false), (7, [(31, 0), (32, 1), (33, 2), (34, 3), (35, 4), (36, 5), (37, 6)], [31, 32, 33, 34, 35, 36, 37], false), (8, [(31, 0), (32, 1), (33, 2), (34, 3), (35, 4), (36, 5), (37, 6), (38, 7)], [31, 32, 33, 34, 35, 36, 37, 38], false), (9, [(31, 0), (32, 1), (33, 2), (34, 3), (35, 4), (36, 5), (37, 6), (38, 7), (39, 8)], [31, 32, 33, 34, 35, 36, 37, 38, 39, 42, 43, 44], false), (10, [(31, 0), (32, 1), (33, 2), (34, 3), (35, 4), (36, 5), (37, 6), (38, 7), (39, 8), (40, 9)], [31, 32, 33, 34, 35, 36, 37, 38, 39, 40, 42, 43, 44], false), (11, [(31, 0), (32, 1), (33, 2), (34, 3), (35, 4), (36, 5), (37, 6), (38, 7), (39, 8)], [31, 32, 33, 34, 35, 36, 37, 38, 39, 40, 41], false), (12, [(31, 0), (32, 1), (33, 2), (34, 3), (35, 4), (36, 5), (37, 6), (38, 7), (39, 8), (42, 11)], [31, 32, 33, 34, 35, 36, 37, 38, 39, 40, 41, 42], false), (13, [(31, 0), (32, 1), (33, 2), (34, 3), (35, 4), (36, 5), (37, 6), (38, 7), (39, 8), (42, 11), (43, 12)], [31, 32, 33, 34, 35, 36, 37, 38, 39, 40, 41, 42, 43], true), (14, [(31, 0), (32, 1), (33, 2), (34, 3), (35, 4), (36, 5), (37, 6), (38, 7), (39, 8), (40, 9), (41, 10), (42, 11), (43, 12), (44, 13)], [31, 32, 33, 34, 35, 36, 37, 38, 39, 40, 41, 42, 43, 44], false), (15, [(31, 0), (32, 1), (33, 2), (34, 3), (35, 4), (36, 5), (37, 6), (38, 7), (39, 8), (40, 9), (41, 10), (42, 11), (43, 12), (44, 13), (45, 14)], [31, 32, 33, 34, 35, 36, 37, 38, 39, 40, 41, 42, 43, 44, 45], false), (16, [(31, 0), (32, 1), (33, 2), (34, 3), (35, 4), (36, 5), (37, 6), (38, 7), (39, 8), (40, 9), (41, 10), (42, 11), (43, 12), (44, 13), (45, 14), (46, 15)], [31, 32, 33, 34, 35, 36, 37, 38, 39, 40, 41, 42, 43, 44, 45, 46], false)]
        [(31, 0), (32, 1), (33, 2), (34, 3), (35, 4), (36, 5), (37, 6), (38, 7), (39, 8), (40, 9), (41, 10), (42, 11), (43, 12), (44, 13), (45, 14), (46, 15), (2, 16)] [13]
        [(1, _)] rfl (by kernel_rfl)
      case hF => exact ⟨rfl, trivial⟩
      refine run ?_
      exact ⟨rfl, g⟩
  rw [if_neg h3]
  have e3 : (!(kd == 3)) = true := by simpa using h3
  by_cases hn : n = 0
  rotate_left
  · have e0 : (!(n == 0)) = true := by simpa using hn
    rw [if_neg hn]
    refine run ?_
    exact ⟨rfl, g⟩
  subst hn
  rw [if_pos rfl]
  by_cases h1 : kd = 1
  · subst h1
    rw [if_pos rfl]
    refine run ?_
    refine (rname_ax X hs).mono ?_
    rintro _ Y ⟨rfl, e⟩
    subst Y
    cases hnm : nameS w.data.toList with
    | true =>
      refine run ?_
      refine (rxIsKey_ax X w).mono ?_
      rintro _ Y ⟨rfl, e⟩
      subst Y
      refine run ?_
      exact ⟨rfl, g⟩
    | false =>
      refine run ?_
      exact ⟨rfl, g⟩
  rw [if_neg h1]
  have e1 : (kd == 1) = false := by simpa using h1
  by_cases h2 : kd = 2
  · subst h2
    rw [if_pos rfl]
    refine run ?_
    refine (rxIsKey_ax X w).mono ?_
    rintro _ Y ⟨rfl, e⟩
    subst Y
    refine run ?_
    exact ⟨rfl, g⟩
  rw [if_neg h2]
  have e2 : (kd == 2) = false := by simpa using h2
  have e3' : (kd == 3) = false := by simpa using h3
  by_cases h4 : kd = 4
  · subst h4
    rw [if_pos rfl]
    refine run ?_
    refine ⟨congrArg Value.bool ?_, g⟩
    rw [decide_eq_decide]
    show (w.size : Int) ≤ 256 ↔ _
    omega
  rw [if_neg h4]
  have e4 : (kd == 4) = false := by simpa using h4
  by_cases h5 : kd = 5
  · subst h5
    rw [if_pos rfl]
    refine run ?_
    apply SW.drawG [(1, [], [55], false), (2, [(56, 1)], [55, 56], false), (0, [], [56, 57], true), (3, [(55, 0), (56, 1), (57, 2)], [55, 56, 57], true), (4, [(55, 0), (56, 1), (57, 2), (58, 3)], [55, 56, 57, 58], false)]
      [(55, 0), (56, 1), (57, 2), (58, 3), (2, 4)]
      [(1, _)] rfl (by kernel_rfl)
    case hF => exact ⟨rfl, trivial⟩
    refine run ?_
    refine (signs_ax X).mono ?_
    rintro sv Y ⟨hv, gY⟩
    have b1 := gY.hblk b1
    refine run ?_
    refine (has_ax hv (by decide) w).mono ?_
    rintro _ Z ⟨rfl, e⟩
    subst Z
    refine run ?_
    exact ⟨congrArg Value.bool (by rw [decide_eq_decide]; exact mem_bstr), g.trans gY⟩
  rw [if_neg h5]
  have e5 : (kd == 5) = false := by simpa using h5
  by_cases h6 : kd = 6
  · subst h6
    rw [if_pos rfl]
    refine run ?_
    exact ⟨congrArg Value.bool (ba_list _ _), g⟩
  rw [if_neg h6]
  have e6 : (kd == 6) = false := by simpa using h6
  refine run ?_
  exact ⟨rfl, g⟩
end Go.Proofs.Ythhbocbgkhooaaa
/- Package lex: tokens as text. -/
set_option linter.unusedVariables false
set_option linter.unusedSimpArgs false
set_option maxRecDepth 20000
set_option maxHeartbeats 4000000
namespace Go.Proofs.Ythhbocbgkhooaaa
open Go Ax
def prt1 (t : TokX) : Bs := (if t.1 = 4 then quoteS t.2.1.data.toList else t.2.1.data.toList) ++ [32]
def printS (L : List TokX) : Bs := L.flatMap prt1
theorem quote_len (L : Bs) : (quoteS L).length ≤ 4 * L.length + 2 := by
  have := flat_len L L.length
  rw [List.take_length] at this
  unfold quoteS
  simp only [List.length_cons, List.length_append, List.length_nil]
  omega
theorem prt1_len {t : TokX} (h : t.2.1.size ≤ 600) : (prt1 t).length ≤ 2403 := by
  have hs := size_data t.2.1
  have := quote_len t.2.1.data.toList
  unfold prt1
  rw [List.length_append, List.length_singleton]
  split <;> omega
theorem print_len : ∀ {L : List TokX}, (∀ t ∈ L, t.2.1.size ≤ 600) → (printS L).length ≤ 2403 * L.length
  | [], _ => by simp [printS]
  | t :: L, h => by
    have h1 := prt1_len (h t (by simp))
    have h2 := print_len (L := L) fun x hx => h x (by simp [hx])
    unfold printS at *
    rw [List.flatMap_cons, List.length_append, List.length_cons]
    omega
theorem print_more {L : List TokX} {i : Nat} {t : TokX} (h : L[i]? = some t) : printS (L.take (i + 1)) = printS (L.take i) ++ prt1 t := by
  unfold printS
  rw [List.take_add_one, h, List.flatMap_append]
  simp
theorem Bld.grow {B b : Nat} {H H' : Heap} {T : TypeId} {rest : List Value} {bs : List UInt8} (h : Bld B H b T rest bs) (g : Grow H H') : Bld B H' b T rest bs := by
  obtain ⟨h1, h2, a, v, h3, h4, h5⟩ := h
  exact ⟨h1, by have := g.1; omega, a, v, g.at h3, h4, h5.grow g⟩
theorem keepG {H X Y : Heap} (g : Grow H X) (k : Keep H.length X Y) : Grow H Y := ⟨Nat.le_trans g.1 k.1, fun j hj => (k.2 j hj).trans (g.2 j hj)⟩
theorem okB_own : OkB 59 := ⟨by decide, by kernel_rfl⟩
theorem take_small {L : List TokX} (h : ∀ t ∈ L, t.2.1.size ≤ 600) (i : Nat) : (printS (L.take i)).length ≤ 2403 * i := by
  have := print_len (L := L.take i) fun t ht => h t (List.mem_of_mem_take ht)
  rw [List.length_take] at this
  omega
theorem lxPrint_ax {H : Heap} {v : Value} {L : List TokX} (hr : RL 4 tokR H v L) (hL : L.length ≤ 1000) (hs : ∀ t ∈ L, t.2.1.size ≤ 600) : AX Try.prog 14 #[v] H (fun r H' => r = .string (bstr (printS L)) ∧ H' = H) := by
  refine AX.quiet ?_
  suffices hh : AX Try.prog 14 #[v] H (fun r H' => r = .string (bstr (printS L)) ∧ Grow H H') from hh.mono fun v _ ⟨e, g⟩ => ⟨e ▸ plain_str _, e, g⟩
  refine AX.body (n := 25) (rs := [.tmp 2]) Try.func14 rfl (by decide) rfl rfl (bC_sound _ _ _ _ ?_)
  refine run ?_
  refine Ob2.allocM (.one 59) rfl (by rfl) fun b H1 hq k1 k2 => ?_
  have r1 : Bld H.length H1 b 59 [] [] := ⟨by omega, k2.1, .pointer none, .slice none 0 0, k1, .inl rfl, .inl ⟨rfl, rfl⟩⟩
  have la := hr.len (P := Try.prog) (t := 23) (e := 34) rfl H1
  refine run ?_
  refine SW.loop (α := Nat) (fun i => [(3, ptr b), (6, v), (7, .int .i64 (L.length : Int)), (8, .int .i64 (i : Int))]) (fun i X => i ≤ L.length ∧ Bld H.length X b 59 [] (printS (L.take i)) ∧ Grow H X) (fun i => L.length - i)
    ⟨0, ⟨rfl, rfl, rfl, rfl, trivial⟩, Nat.zero_le _, r1, k2⟩ ?_
  rintro i X ⟨hi, hb, gX⟩
  have hsm := take_small hs i
  refine bC_sound _ _ _ _ ?_
  by_cases hil : i < L.length
  rotate_left
  · have d1 : decide ((i : Int) < (L.length : Int)) = false := decide_eq_false (by omega)
    refine run ?_
    refine (string_ax hb (by omega)).mono ?_
    rintro _ Y ⟨rfl, k⟩
    rw [List.take_of_length_le (by omega)]
    refine run ?_
    exact ⟨rfl, keepG gX k⟩
  have d1 : decide ((i : Int) < (L.length : Int)) = true := decide_eq_true (by omega)
  obtain ⟨t, ht⟩ := get_lt hil
  have htm := hs t (List.mem_of_getElem? ht)
  obtain ⟨p, p0, pp⟩ := tok_at hr (t := 23) (e := 34) rfl rfl ht
  obtain ⟨c, c1, c2, p1, p2, p3, p4⟩ := pp X gX
  have pl : aload Try.prog 34 (.pointer (some ⟨p, i * 4, none⟩)) X = some (tokV t) := ald_agg rfl rfl rfl c1 c2
  have w1 := w_succ (k := i) (by omega)
  refine run ?_
  refine Ob2.alloc rfl fun q5 X1 hq5 a5 g5 => ?_
  refine run ?_
  refine Ob.store rfl rfl rfl a5 rfl (by first | exact Nat.le_of_ble_eq_true rfl | simp) fun X2 s5 k5 l5 => ?_
  have g2 : Grow X X2 := g5.but_new k5 (by omega)
  have c5 := hblk_of s5
  have hb2 := hb.grow g2
  have hq := quote_len t.2.1.data.toList
  have hts := size_data t.2.1
  have keep : ∀ {Y : Heap}, Keep H.length X2 Y → Grow H Y := fun k => keepG (gX.trans g2) k
  by_cases h4 : t.1 = 4
  · have d2 : (t.1 == 4) = true := by simpa using h4
    refine run ?_
    refine (quote_ax X2 (s := t.2.1) (by omega)).mono ?_
    rintro _ Z ⟨rfl, e⟩
    subst Z
    refine run ?_
    refine (writeString_ax hb2 okB_own (bstr (quoteS t.2.1.data.toList)) (by rw [bstr_toList]; omega)).mono ?_
    rintro _ Y ⟨rfl, hb3, k3⟩
    rw [bstr_toList] at hb3
    refine run ?_
    refine (writeByte_ax hb3 okB_own (by rw [List.length_append]; omega) 32).mono ?_
    rintro _ Z ⟨rfl, hb4, k4⟩
    refine run ?_
    exact ⟨i + 1, ⟨rfl, rfl, rfl, congrArg (fun z => some (Value.int .i64 z)) w1, trivial⟩, ⟨by omega, by rw [print_more ht]; unfold prt1; rw [if_pos h4, ← List.append_assoc]; exact hb4, keep (k3.trans k4)⟩, by dsimp only; omega⟩
  · have d2 : (t.1 == 4) = false := by simpa using h4
    refine run ?_
    refine (writeString_ax hb2 okB_own t.2.1 (by omega)).mono ?_
    rintro _ Y ⟨rfl, hb3, k3⟩
    refine run ?_
    refine (writeByte_ax hb3 okB_own (by rw [List.length_append]; omega) 32).mono ?_
    rintro _ Z ⟨rfl, hb4, k4⟩
    refine run ?_
    exact ⟨i + 1, ⟨rfl, rfl, rfl, congrArg (fun z => some (Value.int .i64 z)) w1, trivial⟩, ⟨by omega, by rw [print_more ht]; unfold prt1; rw [if_neg h4, ← List.append_assoc]; exact hb4, keep (k3.trans k4)⟩, by dsimp only; omega⟩
theorem rxPrint_ax {H : Heap} {v : Value} {L : List TokX} (hr : RL 4 tokR H v L) (hL : L.length ≤ 1000) (hs : ∀ t ∈ L, t.2.1.size ≤ 600) : AX Try.prog 15 #[v] H (fun r H' => r = .string (bstr (printS L)) ∧ H' = H) := by
  have la := hr.len (P := Try.prog) (t := 27) (e := 38) rfl H
  refine AX.body (n := 35) (rs := [.tmp 2]) Try.func15 rfl (by decide) rfl rfl (bC_sound _ _ _ _ ?_)
  refine run ?_
  refine SW.loop (α := Nat) (fun i => [(0, v), (3, .string (bstr (printS (L.take i)))), (4, .int .i64 (i : Int))]) (fun i X => i ≤ L.length ∧ X = H) (fun i => L.length - i)
    ⟨0, ⟨rfl, rfl, rfl, trivial⟩, Nat.zero_le _, rfl⟩ ?_
  rintro i X ⟨hi, e⟩
  subst X
  have hsm := take_small hs i
  refine bC_sound _ _ _ _ ?_
  by_cases hil : i < L.length
  rotate_left
  · have d1 : decide ((i : Int) < (L.length : Int)) = false := decide_eq_false (by omega)
    rw [List.take_of_length_le (by omega)]
    refine run ?_
    exact ⟨rfl, rfl⟩
  have d1 : decide ((i : Int) < (L.length : Int)) = true := decide_eq_true (by omega)
  obtain ⟨t, ht⟩ := get_lt hil
  have htm := hs t (List.mem_of_getElem? ht)
  obtain ⟨p, p0, pp⟩ := tok_at hr (t := 27) (e := 38) rfl rfl ht
  obtain ⟨c, c1, c2, p1, p2, p3, p4⟩ := pp H (.refl _)
  have w1 := w_succ (k := i) (by omega)
  have hq := quote_len t.2.1.data.toList
  have hts := size_data t.2.1
  by_cases h4 : t.1 = 4
  · have d2 : (t.1 == 4) = true := by simpa using h4
    have f1 : abin Try.prog .add 9 (.string (bstr (printS (L.take i)))) (.string ⟨(quoteS t.2.1.data.toList).toArray⟩) = some (.string (bstr (printS (L.take i) ++ quoteS t.2.1.data.toList))) := add_strB (printS (L.take i)) (quoteS t.2.1.data.toList) (by omega)
    have f2 : abin Try.prog .add 9 (.string (bstr (printS (L.take i) ++ quoteS t.2.1.data.toList))) (.string ⟨#[32]⟩) = some (.string (bstr (printS (L.take i) ++ quoteS t.2.1.data.toList ++ [32]))) := add_strB (printS (L.take i) ++ quoteS t.2.1.data.toList) [32] (by rw [List.length_append, List.length_singleton]; omega)
    refine run ?_
    refine (rquote_ax H (s := t.2.1) (by omega)).mono ?_
    rintro _ Z ⟨rfl, e⟩
    subst Z
    refine run ?_
    refine ⟨i + 1, ⟨rfl, ?_, congrArg (fun z => some (Value.int .i64 z)) w1, trivial⟩, ⟨by omega, rfl⟩, by dsimp only; omega⟩
    rw [print_more ht]; unfold prt1; rw [if_pos h4, ← List.append_assoc]; rfl
  · have d2 : (t.1 == 4) = false := by simpa using h4
    have f1 : abin Try.prog .add 9 (.string (bstr (printS (L.take i)))) (.string t.2.1) = some (.string (bstr (printS (L.take i) ++ t.2.1.data.toList))) := add_strB (printS (L.take i)) t.2.1.data.toList (by omega)
    have f2 : abin Try.prog .add 9 (.string (bstr (printS (L.take i) ++ t.2.1.data.toList))) (.string ⟨#[32]⟩) = some (.string (bstr (printS (L.take i) ++ t.2.1.data.toList ++ [32]))) := add_strB (printS (L.take i) ++ t.2.1.data.toList) [32] (by rw [List.length_append, List.length_singleton]; omega)
    refine run ?_
    refine ⟨i + 1, ⟨rfl, ?_, congrArg (fun z => some (Value.int .i64 z)) w1, trivial⟩, ⟨by omega, rfl⟩, by dsimp only; omega⟩
    rw [print_more ht]; unfold prt1; rw [if_neg h4, ← List.append_assoc]; rfl
end Go.Proofs.Ythhbocbgkhooaaa
/- The laws of lex: tokens as the document's. -/
set_option linter.unusedVariables false
set_option linter.unusedSimpArgs false
set_option maxRecDepth 20000
set_option maxHeartbeats 4000000
namespace Go.Proofs.Ythhbocbgkhooaaa
open Go Ax
theorem tok_of {H : Heap} {c : List Value} {x : TokX} (R : ty34.R H c x) : tokR H c x := by
  obtain ⟨h1, h2, h3, h4⟩ := R
  exact cons_of h1 (cons_of h2 (cons_of h3 h4))
theorem others_ax {H : Heap} {v : Value} {A : List TokX} (hr : RL 4 tokR H v A) :
    AX Try.prog 12 #[v] H (fun r H' => ((∃ mv, r = .tuple #[mv, .bool true] ∧ OwnR 4 38 tokR H' mv A ∧ (∀ q, blkIs mv q → H.length ≤ q) ∧ A.length ≤ 611 ∧ ∀ t ∈ A, t.2.1.size ≤ 600) ∨ ∃ mv, r = .tuple #[mv, .bool false]) ∧ Grow H H') := by
  have la := fun X => hr.len (P := Try.prog) (t := 23) (e := 34) rfl X
  refine AX.body (n := 48) (rs := [.tmp 2, .tmp 3]) Try.func12 rfl (by decide) rfl rfl (bC_sound _ _ _ _ ?_)
  refine run ?_
  refine SW.loop (α := Nat × Value) (fun y => [(0, v), (4, y.2), (5, .int .i64 (y.1 : Int))]) (fun y X => y.1 ≤ A.length ∧ y.1 ≤ 611 ∧ Grow H X ∧ OwnR 4 38 tokR X y.2 (A.take y.1) ∧ (∀ q, blkIs y.2 q → H.length ≤ q) ∧ ∀ t ∈ A.take y.1, t.2.1.size ≤ 600) (fun y => A.length - y.1)
    ⟨(0, .slice none 0 0), ⟨rfl, rfl, rfl, trivial⟩, Nat.zero_le _, Nat.zero_le _, .refl _, .inl ⟨rfl, by simp⟩, fun q ⟨_, _, h⟩ => by simp at h, by simp⟩ ?_
  rintro ⟨i, ov⟩ X ⟨hi, hi6, gX, hov, hbk, hsm⟩
  dsimp only at hi hi6 hov hbk hsm ⊢
  have lX := la X
  refine bC_sound _ _ _ _ ?_
  by_cases hil : i < A.length
  rotate_left
  · have d1 : decide ((i : Int) < (A.length : Int)) = false := decide_eq_false (by omega)
    rw [List.take_of_length_le (by omega)] at hov hsm
    refine run ?_
    exact ⟨.inl ⟨_, rfl, hov, hbk, by omega, hsm⟩, gX⟩
  have d1 : decide ((i : Int) < (A.length : Int)) = true := decide_eq_true (by omega)
  obtain ⟨t, ht⟩ := get_lt hil
  obtain ⟨p, p0, pp⟩ := tok_at hr (t := 23) (e := 34) rfl rfl ht
  obtain ⟨c, c1, c2, p1, p2, p3, p4⟩ := pp X gX
  have w1 := w_succ (k := i) (by omega)
  by_cases h610 : i ≤ 610
  rotate_left
  · have d2 : decide ((i : Int) > 610) = true := decide_eq_true (by omega)
    refine run ?_
    exact ⟨.inr ⟨_, rfl⟩, gX⟩
  have d2 : decide ((i : Int) > 610) = false := decide_eq_false (by omega)
  by_cases h600 : t.2.1.size ≤ 600
  rotate_left
  · have d3 : decide ((t.2.1.size : Int) > 600) = true := decide_eq_true (by omega)
    refine run ?_
    exact ⟨.inr ⟨_, rfl⟩, gX⟩
  have d3 : decide ((t.2.1.size : Int) > 600) = false := decide_eq_false (by omega)
  obtain ⟨sa, sn, sm, rfl⟩ := hov.form
  refine run ?_
  apply SW.drawH [(0, [], [24, 25, 26, 27, 28, 29, 30, 31, 32, 33, 34, 35, 36, 37, 38, 39, 40, 41, 42, 43, 44, 45], false), (1, [], [23, 25, 29, 30, 31, 32, 33, 34, 35, 36, 37, 38, 39, 40, 41, 42, 43], false), (2, [], [23, 24, 29, 30, 31, 32, 33, 34, 35, 36, 37, 38, 39, 40, 41, 42, 43], false), (3, [(24, 1), (25, 2)], [23, 24, 25, 29, 30, 31, 32, 33, 34, 35, 36, 37, 38, 39, 40, 41, 42, 43], false), (4, [(24, 1), (25, 2), (26, 3)], [23, 24, 25, 26, 29, 30, 31, 32, 33, 34, 35, 36, 37, 38, 39, 40, 41, 42, 43], false), (5, [(24, 1), (25, 2), (26, 3), (27, 4)], [23, 24, 25, 26, 27, 29, 30, 31, 32, 33, 34, 35, 36, 37, 38, 39, 40, 41, 42, 43], false), (6, [], [23, 24, 25, 26, 27, 28, 30, 34, 35, 36, 37, 38, 39, 40, 41, 42, 43], false), (7, [], [23, 24, 25, 26, 27, 28, 29, 34, 35, 36, 37, 38, 39, 40, 41, 42, 43], false), (8, [(29, 6), (30, 7)], [23, 24, 25, 26, 27, 28, 29, 30, 34, 35, 36, 37, 38, 39, 40, 41, 42, 43], false), (9, [(29, 6), (30, 7), (31, 8)], [23, 24, 25, 26, 27, 28, 29, 30, 31, 34, 35, 36, 37, 38, 39, 40, 41, 42, 43], false), (10, [(29, 6), (30, 7), (31, 8), (32, 9)], [23, 24, 25, 26, 27, 28, 29, 30, 31, 32, 34, 35, 36, 37, 38, 39, 40, 41, 42, 43], false), (11, [], [23, 24, 25, 26, 27, 28, 29, 30, 31, 32, 33, 35, 39, 40, 41, 42, 43], false), (12, [], [23, 24, 25, 26, 27, 28, 29, 30, 31, 32, 33, 34, 39, 40, 41, 42, 43], false), (13, [(34, 11), (35, 12)], [23, 24, 25, 26, 27, 28, 29, 30, 31, 32, 33, 34, 35, 39, 40, 41, 42, 43], false), (14, [(34, 11), (35, 12), (36, 13)], [23, 24, 25, 26, 27, 28, 29, 30, 31, 32, 33, 34, 35, 36, 39, 40, 41, 42, 43], false), (15, [(34, 11), (35, 12), (36, 13), (37, 14)], [23, 24, 25, 26, 27, 28, 29, 30, 31, 32, 33, 34, 35, 36, 37, 39, 40, 41, 42, 43], false), (16, [], [23, 24, 25, 26, 27, 28, 29, 30, 31, 32, 33, 34, 35, 36, 37, 38, 40], false), (17, [], [23, 24, 25, 26, 27, 28, 29, 30, 31, 32, 33, 34, 35, 36, 37, 38, 39], false), (18, [(39, 16), (40, 17)], [23, 24, 25, 26, 27, 28, 29, 30, 31, 32, 33, 34, 35, 36, 37, 38, 39, 40], false), (19, [(39, 16), (40, 17), (41, 18)], [23, 24, 25, 26, 27, 28, 29, 30, 31, 32, 33, 34, 35, 36, 37, 38, 39, 40, 41], false), (20, [(39, 16), (40, 17), (41, 18), (42, 19)], [23, 24, 25, 26, 27, 28, 29, 30, 31, 32, 33, 34, 35, 36, 37, 38, 39, 40, 41, 42], false), (21, [(24, 1), (25, 2), (26, 3), (27, 4), (28, 5), (29, 6), (30, 7), (31, 8), (32, 9), (33, 10), (34, 11), (35, 12), (36, 13), (37, 14), (38, 15), (39, 16), (40, 17), (41, 18), (42, 19), (43, 20)], [23, 24, 25, 26, 27, 28, 29, 30, 31, 32, 33, 34, 35, 36, 37, 38, 39, 40, 41, 42, 43], false), (22, [(24, 1), (25, 2), (26, 3), (27, 4), (28, 5), (29, 6), (30, 7), (31, 8), (32, 9), (33, 10), (34, 11), (35, 12), (36, 13), (37, 14), (38, 15), (39, 16), (40, 17), (41, 18), (42, 19), (43, 20), (44, 21)], [23, 24, 25, 26, 27, 28, 29, 30, 31, 32, 33, 34, 35, 36, 37, 38, 39, 40, 41, 42, 43, 44], true), (23, [(23, 0), (24, 1), (25, 2), (26, 3), (27, 4), (28, 5), (29, 6), (30, 7), (31, 8), (32, 9), (33, 10), (34, 11), (35, 12), (36, 13), (37, 14), (38, 15), (39, 16), (40, 17), (41, 18), (42, 19), (43, 20), (44, 21), (45, 22)], [23, 24, 25, 26, 27, 28, 29, 30, 31, 32, 33, 34, 35, 36, 37, 38, 39, 40, 41, 42, 43, 44, 45], true), (24, [(23, 0), (24, 1), (25, 2), (26, 3), (27, 4), (28, 5), (29, 6), (30, 7), (31, 8), (32, 9), (33, 10), (34, 11), (35, 12), (36, 13), (37, 14), (38, 15), (39, 16), (40, 17), (41, 18), (42, 19), (43, 20), (44, 21), (45, 22), (46, 23)], [23, 24, 25, 26, 27, 28, 29, 30, 31, 32, 33, 34, 35, 36, 37, 38, 39, 40, 41, 42, 43, 44, 45, 46], false)]
    [(23, 0), (24, 1), (25, 2), (26, 3), (27, 4), (28, 5), (29, 6), (30, 7), (31, 8), (32, 9), (33, 10), (34, 11), (35, 12), (36, 13), (37, 14), (38, 15), (39, 16), (40, 17), (41, 18), (42, 19), (43, 20), (44, 21), (45, 22), (46, 23), (4, 24)] []
    [(0, _), (4, _), (5, _)] rfl (by kernel_rfl)
  case hF => exact ⟨rfl, rfl, rfl, trivial⟩
  refine run ?_
  refine Ob2.lay (H := X) (.cells (.row 38) [.int .i64 t.1, .string t.2.1, .int .i64 t.2.2.1, .int .i64 t.2.2.2]) (.slice (some ⟨X.length, 0, none⟩) 1 4) rfl fun U b2 e2 l2 => ?_
  have htl : (A.take i).length = i := by rw [List.length_take]; omega
  obtain ⟨U3, ap, o3, f3, n3⟩ := OwnR.append (n := H.length) (x := t) rowTokR rowTokR (hov.keep (fun b c _ h => e2.at h) fun _ _ _ h => h) b2 rfl rfl hbk (by have := e2.1; have := gX.1; omega) (by omega) (fun _ _ _ _ _ h => h)
  refine run ?_
  refine Ob2.of ap ?_
  refine run ?_
  refine ⟨(i + 1, _), ⟨rfl, rfl, congrArg (fun z => some (Value.int .i64 z)) w1, trivial⟩, ⟨by dsimp only; omega, by dsimp only; omega, f3.grow (gX.trans e2) (Nat.le_refl _), ?_, fun q hq => ?_, fun u hu => ?_⟩, by dsimp only; omega⟩
  · rw [List.take_add_one, ht]; exact o3
  · obtain ⟨n', k', hq⟩ := hq
    simp only [Value.slice.injEq, Option.some.injEq, Addr.mk.injEq, and_true] at hq
    have := e2.1; have := gX.1
    omega
  · rw [List.take_add_one, ht] at hu
    rcases List.mem_append.1 hu with hu | hu
    · exact hsm u hu
    · simp only [Option.toList_some, List.mem_singleton] at hu
      subst hu; exact h600
end Go.Proofs.Ythhbocbgkhooaaa
/- Package lex in plain data: tokens that may be come back from their text. -/
set_option linter.unusedVariables false
set_option linter.unusedSimpArgs false
set_option maxRecDepth 20000
set_option maxHeartbeats 4000000
namespace Go.Proofs.Ythhbocbgkhooaaa
open Go Ax
theorem skip_no {c : UInt8} {r : Bs} (h : ¬ (c = 32 ∨ c = 10 ∨ c = 9)) (h2 : ¬ (c = 47 ∧ r.head? = some 47)) : skipL false (c :: r) = c :: r := by
  show (if c = 47 ∧ r.head? = some 47 then _ else if _ then _ else _) = _
  rw [if_neg h2, if_neg h]
theorem tw_all {p : UInt8 → Bool} {c : UInt8} {R : Bs} (hc : p c = false) : ∀ {w : Bs}, (∀ x ∈ w, p x = true) → (w ++ c :: R).takeWhile p = w
  | [], _ => by rw [List.nil_append, List.takeWhile_cons_of_neg (by simp [hc])]
  | x :: w, h => by
    rw [List.cons_append, List.takeWhile_cons_of_pos (h x (by simp)), tw_all hc fun y hy => h y (by simp [hy])]
/-- A number's digits. -/
def valF (m : Int) : Bs → Int
  | [] => m
  | c :: r => valF (m * 10 + ((c.toNat : Int) - 48)) r
theorem val_ge : ∀ (L : Bs) (m : Int), 0 ≤ m → (∀ c ∈ L, digB c = true) → m ≤ valF m L
  | [], m, _, _ => Int.le_refl _
  | c :: r, m, h0, h => by
    have hd := digB_iff.1 (h c (by simp))
    have := val_ge r (m * 10 + ((c.toNat : Int) - 48)) (by omega) fun x hx => h x (by simp [hx])
    show m ≤ valF (m * 10 + ((c.toNat : Int) - 48)) r
    omega
theorem readF_val : ∀ (L : Bs) (m : Int), 0 ≤ m → (∀ c ∈ L, digB c = true) → valF m L ≤ mostN → readF L m false = (valF m L, 0)
  | [], m, _, _, _ => rfl
  | c :: r, m, h0, h, hv => by
    have hdc := h c (by simp)
    have hd := digB_iff.1 hdc
    have hr : ∀ x ∈ r, digB x = true := fun x hx => h x (by simp [hx])
    have hv' : valF (m * 10 + ((c.toNat : Int) - 48)) r ≤ mostN := hv
    have hge := val_ge r (m * 10 + ((c.toNat : Int) - 48)) (by omega) hr
    show (if digB c = true then _ else _) = _
    rw [if_pos hdc, if_neg]
    · exact readF_val r _ (by omega) hr hv'
    · rintro (h1 | h1)
      · simp at h1
      · have e : (mostN - ((c.toNat : Int) - 48)).tdiv 10 = (mostN - ((c.toNat : Int) - 48)) / 10 := Int.tdiv_eq_ediv_of_nonneg (by unfold mostN; omega)
        rw [e] at h1
        unfold mostN at *
        omega
theorem digN_dig (n : Nat) : digB (digN n) = true := by
  rw [digB_iff, digN_nat]
  omega
theorem decF_dig : ∀ (f n : Nat) (acc : Bs), (∀ c ∈ acc, digB c = true) → ∀ c ∈ decF f n acc, digB c = true
  | 0, n, acc, h, c, hc => h c hc
  | f + 1, n, acc, h, c, hc => by
    rw [decF_step] at hc
    have h' : ∀ c ∈ digN n :: acc, digB c = true := fun c hc => by
      rcases List.mem_cons.1 hc with rfl | hc
      · exact digN_dig n
      · exact h c hc
    split at hc
    · exact h' c hc
    · exact decF_dig f (n / 10) _ h' c hc
theorem decF_val : ∀ (f n : Nat) (acc : Bs), n < 10 ^ f → 1 ≤ f → valF 0 (decF f n acc) = valF (n : Int) acc
  | 0, n, acc, h, h1 => by omega
  | f + 1, n, acc, h, _ => by
    rw [decF_step]
    have hn := digN_nat n
    split
    · show valF (0 * 10 + (((digN n).toNat : Int) - 48)) acc = _
      congr 1
      omega
    · have hp := pow_div h
      rw [decF_val f (n / 10) _ hp (by
        refine Decidable.byContradiction fun hc => ?_
        rw [show f = 0 by omega] at hp
        omega)]
      show valF (((n / 10 : Nat) : Int) * 10 + (((digN n).toNat : Int) - 48)) acc = _
      congr 1
      omega
theorem decF_ne : ∀ (f n : Nat) (acc : Bs), 1 ≤ f → decF f n acc ≠ []
  | 0, n, acc, h => by omega
  | f + 1, n, acc, _ => by
    rw [decF_step]
    split
    · simp
    · cases f with
      | zero => simp [decF]
      | succ f => exact decF_ne (f + 1) _ _ (by omega)
theorem dec_read {n : Nat} (h : (n : Int) ≤ mostN) : readS (decL n) = ((n : Int), 0) := by
  have hv : valF 0 (decL n) = (n : Int) := decF_val 20 n [] (by unfold mostN at h; omega) (by omega)
  have hd : ∀ c ∈ decL n, digB c = true := decF_dig 20 n [] (by simp)
  unfold readS
  rw [if_neg (show ¬ decL n = [] from decF_ne 20 n [] (by omega)), readF_val _ 0 (Int.le_refl _) hd (by rw [hv]; exact h), hv]
theorem key_word : ∀ w ∈ keysL, (∀ c ∈ w, wordB c = true) ∧ ∃ c, w.head? = some c ∧ letB c = true := by
  have h : keysL.all (fun w => (w.all fun c => wordB c) && (match w.head? with | some c => letB c | none => false)) = true := by decide +kernel
  intro w hw
  have := List.all_eq_true.1 h w hw
  rw [Bool.and_eq_true, List.all_eq_true] at this
  refine ⟨this.1, ?_⟩
  cases hh : w.head? with
  | none => rw [hh] at this; simp at this
  | some c => rw [hh] at this; exact ⟨c, rfl, this.2⟩
theorem name_word {w : Bs} (h : nameS w = true) : (∀ c ∈ w, wordB c = true) ∧ ∃ c, w.head? = some c ∧ letB c = true := by
  cases w with
  | nil => simp [nameS] at h
  | cons c r =>
    simp only [nameS, Bool.and_eq_true, List.all_eq_true, decide_eq_true_eq] at h
    obtain ⟨_, h1, h2⟩ := h
    refine ⟨fun x hx => ?_, c, rfl, h1⟩
    rcases List.mem_cons.1 hx with rfl | hx
    · unfold wordB letB; rw [h1]; rfl
    · exact h2 x hx
theorem sign_head : ∀ w ∈ signsL, ∃ c r, w = c :: r ∧ letB c = false ∧ digB c = false ∧ c ≠ 34 ∧ ¬ (c = 32 ∨ c = 10 ∨ c = 9) ∧ (c = 47 → r = []) := by
  have h : signsL.all (fun w => match w with | [] => false | c :: r => !(letB c) && (!(digB c) && (decide (c ≠ 34) && (decide (¬ (c = 32 ∨ c = 10 ∨ c = 9)) && decide (c = 47 → r = []))))) = true := by decide +kernel
  intro w hw
  have := List.all_eq_true.1 h w hw
  cases w with
  | nil => simp at this
  | cons c r =>
    simp only [Bool.and_eq_true, Bool.not_eq_true', decide_eq_true_eq] at this
    exact ⟨c, r, rfl, this.1, this.2.1, this.2.2.1, this.2.2.2.1, this.2.2.2.2⟩
theorem two_sp : ∀ w ∈ twoL, w[1]? ≠ some 32 := by decide +kernel
theorem sign_sp {w : Bs} (h : w ∈ signsL) (R : Bs) : signS (w ++ 32 :: R) = w := by
  rcases List.mem_append.1 h with h | h
  · have hl := two_len w h
    unfold signS
    rw [List.take_append_of_le_length (by omega), List.take_of_length_le (by omega), if_pos h]
  · have hl := one_lenC w h
    obtain ⟨c, rfl⟩ : ∃ c, w = [c] := by
      cases w with
      | nil => simp at hl
      | cons c r => cases r with
        | nil => exact ⟨c, rfl⟩
        | cons a b => simp at hl
    unfold signS
    have e2 : ([c] ++ 32 :: R).take 2 = [c, 32] := rfl
    have e1 : ([c] ++ 32 :: R).take 1 = [c] := rfl
    rw [e2, e1, if_neg (fun h2 => two_sp _ h2 rfl), if_pos h]
theorem let_dig {c : UInt8} (h : letB c = true) : ¬ (c = 32 ∨ c = 10 ∨ c = 9) ∧ c ≠ 47 := by
  refine ⟨?_, ?_⟩
  · rintro (rfl | rfl | rfl) <;> revert h <;> decide
  · rintro rfl; revert h; decide
theorem dig_not {c : UInt8} (h : digB c = true) : ¬ (c = 32 ∨ c = 10 ∨ c = 9) ∧ c ≠ 47 ∧ letB c = false := by
  have hd := digB_iff.1 h
  refine ⟨?_, ?_, ?_⟩
  · rintro (rfl | rfl | rfl) <;> revert h <;> decide
  · rintro rfl; revert h; decide
  · unfold letB letterB
    simp
    omega
/-- One token comes back. -/
theorem one_back {t : TokX} (h : rightB t = true) (h6 : t.1 ≠ 6) (R : Bs) :
    ∃ w, oneL (prt1 t ++ R) = .tok t.1 t.2.1.data.toList t.2.2.1 w ∧ skipL false (prt1 t ++ R) = prt1 t ++ R ∧ (prt1 t ++ R).drop w = 32 :: R := by
  obtain ⟨kd, txt, n, at_⟩ := t
  dsimp only at h6
  unfold rightB at h
  unfold prt1
  dsimp only at h ⊢
  generalize txt.data.toList = w at h ⊢
  have word : (∀ c ∈ w, wordB c = true) → (∃ c, w.head? = some c ∧ letB c = true) → ∃ c q, w ++ [32] ++ R = c :: q ∧ letB c = true ∧ (w ++ [32] ++ R).takeWhile wordB = w ∧ skipL false (w ++ [32] ++ R) = w ++ [32] ++ R ∧ (w ++ [32] ++ R).drop w.length = 32 :: R := fun ha ⟨c, hc, hl⟩ => by
    cases w with
    | nil => simp at hc
    | cons c' r =>
      simp only [List.head?_cons, Option.some.injEq] at hc
      subst hc
      refine ⟨c', r ++ [32] ++ R, rfl, hl, ?_, ?_, ?_⟩
      · rw [List.append_assoc]; exact tw_all (by decide) ha
      · exact skip_no (let_dig hl).1 (fun h => (let_dig hl).2 h.1)
      · rw [List.append_assoc, List.drop_append_of_le_length (Nat.le_refl _), List.drop_length]; rfl
  by_cases h3 : kd = 3
  · subst h3
    rw [if_pos rfl] at h
    simp only [Bool.and_eq_true, decide_eq_true_eq] at h
    obtain ⟨n0, n1, rfl⟩ := h
    rw [if_neg (by decide)]
    have hd : ∀ c ∈ decL n.toNat, digB c = true := decF_dig 20 _ [] (by simp)
    have hr := dec_read (n := n.toNat) (by omega)
    have hne : decL n.toNat ≠ [] := decF_ne 20 _ [] (by omega)
    generalize hw : decL n.toNat = w at *
    cases w with
    | nil => exact absurd rfl hne
    | cons c r =>
      have hc := hd c (by simp)
      obtain ⟨x1, x2, x3⟩ := dig_not hc
      have htw : ((c :: r) ++ [32] ++ R).takeWhile digB = c :: r := by rw [List.append_assoc]; exact tw_all (by decide) hd
      refine ⟨(c :: r).length, ?_, skip_no x1 (fun h => x2 h.1), ?_⟩
      · rw [one_num (r := c :: r ++ [32] ++ R) (c := c) (q := r ++ [32] ++ R) rfl (by simp [x3]) hc, htw, hr, if_pos rfl]
        dsimp only
        rw [Int.toNat_natCast, hw, show ((n.toNat : Nat) : Int) = n by omega]
      · rw [List.append_assoc, List.drop_append_of_le_length (Nat.le_refl _), List.drop_length]; rfl
  rw [if_neg h3] at h
  split at h
  rotate_left
  · simp at h
  rename_i hn
  subst hn
  by_cases h1 : kd = 1
  · subst h1
    rw [if_pos rfl] at h
    rw [if_neg (by decide)]
    simp only [Bool.and_eq_true, Bool.not_eq_true'] at h
    obtain ⟨w1, w2⟩ := name_word h.1
    obtain ⟨c, q, e1, e2, e3, e4, e5⟩ := word w1 w2
    refine ⟨w.length, ?_, e4, e5⟩
    rw [one_word e1 e2, e3]
    have hK : wordK w = 1 := by unfold wordK; rw [if_neg (by simp [h.2]), if_pos h.1]
    rw [hK, if_neg (by decide)]
  rw [if_neg h1] at h
  by_cases h2 : kd = 2
  · subst h2
    rw [if_pos rfl] at h
    rw [if_neg (by decide)]
    have hk : w ∈ keysL := of_decide_eq_true h
    obtain ⟨w1, w2⟩ := key_word w hk
    obtain ⟨c, q, e1, e2, e3, e4, e5⟩ := word w1 w2
    refine ⟨w.length, ?_, e4, e5⟩
    rw [one_word e1 e2, e3]
    have hK : wordK w = 2 := by unfold wordK; rw [if_pos h]
    rw [hK, if_neg (by decide)]
  rw [if_neg h2] at h
  by_cases h4 : kd = 4
  · subst h4
    rw [if_pos rfl] at h
    rw [if_pos rfl]
    have hl : w.length ≤ 256 := of_decide_eq_true h
    have hb := Go.Proofs.Ythhbocbgkhooaaa.back w ([32] ++ R)
    rw [← List.append_assoc] at hb
    refine ⟨(quoteS w).length, ?_, skip_no (by decide) (fun h => absurd h.1 (by decide)), ?_⟩
    · rw [one_str (r := quoteS w ++ [32] ++ R) (c := 34) (q := (w.flatMap quote1 ++ [34]) ++ [32] ++ R) rfl (by decide) (by decide) rfl, hb]
      dsimp only
      rw [if_pos rfl, if_neg (by omega)]
    · rw [List.append_assoc, List.drop_append_of_le_length (Nat.le_refl _), List.drop_length]; rfl
  rw [if_neg h4] at h
  by_cases h5 : kd = 5
  · subst h5
    rw [if_pos rfl] at h
    rw [if_neg (by decide)]
    have hm : w ∈ signsL := of_decide_eq_true h
    obtain ⟨c, r, hw, s1, s2, s3, s4, s5⟩ := sign_head w hm
    have hs : signS (w ++ [32] ++ R) = w := by rw [List.append_assoc]; exact sign_sp hm R
    refine ⟨w.length, ?_, ?_, ?_⟩
    · rw [one_sign (c := c) (q := r ++ [32] ++ R) (by rw [hw]; rfl) (by simp [s1]) (by simp [s2]) s3, hs, if_neg (by rw [hw]; simp)]
    · rw [hw]
      refine skip_no s4 ?_
      rintro ⟨e1, e2⟩
      rw [s5 e1] at e2
      simp at e2
    · rw [List.append_assoc, List.drop_append_of_le_length (Nat.le_refl _), List.drop_length]; rfl
  rw [if_neg h5] at h
  (try rw [if_neg h6] at h)
  simp at h
/-- All but the places. -/
def Same3 (A B : List TokX) : Prop := A.length = B.length ∧ ∀ (i : Nat) x y, A[i]? = some x → B[i]? = some y → x.1 = y.1 ∧ x.2.1 = y.2.1 ∧ x.2.2.1 = y.2.2.1
theorem toks_back : ∀ (A : List TokX), (∀ t ∈ A, rightB t = true ∧ t.1 ≠ 6) → ∀ (f len : Nat) (out : List TokX), (printS A).length ≤ f → out.length + A.length ≤ 600 →
    ∃ A', Same3 A' A ∧ toksB f len (skipL false (printS A)) out = (out ++ A' ++ [(6, bstr [], 0, (len : Int))], 0, 0)
  | [], _, f, len, out, _, _ => ⟨[], ⟨rfl, fun i x y h => by simp at h⟩, by rw [List.append_nil]; rfl⟩
  | t :: A, hA, f, len, out, hf, ho => by
    obtain ⟨h1, h2⟩ := hA t (by simp)
    obtain ⟨w, w1, w2, w3⟩ := one_back h1 h2 (printS A)
    have hp : printS (t :: A) = prt1 t ++ printS A := rfl
    rw [List.length_cons] at ho
    rw [hp] at hf
    rw [hp, w2]
    obtain ⟨f', rfl, hf', he⟩ := toksB_tok (len := len) w1 hf (by omega : out.length ≠ 600)
    rw [w3] at he hf'
    rw [List.length_cons] at hf'
    obtain ⟨A', a1, a2⟩ := toks_back A (fun x hx => hA x (by simp [hx])) f' len (out ++ [(t.1, bstr t.2.1.data.toList, t.2.2.1, ((len - (prt1 t ++ printS A).length : Nat) : Int))]) (by omega) (by simp; omega)
    refine ⟨(t.1, bstr t.2.1.data.toList, t.2.2.1, ((len - (prt1 t ++ printS A).length : Nat) : Int)) :: A', ⟨by simp [a1.1], fun i x y hx hy => ?_⟩, ?_⟩
    · cases i with
      | zero =>
        simp only [List.getElem?_cons_zero, Option.some.injEq] at hx hy
        subst hx hy
        exact ⟨rfl, rfl, rfl⟩
      | succ i =>
        simp only [List.getElem?_cons_succ] at hx hy
        exact a1.2 i x y hx hy
    · rw [he, show skipL false (32 :: printS A) = skipL false (printS A) from skip_blank (by decide), a2]
      simp
theorem toks_full : ∀ (A : List TokX), (∀ t ∈ A, rightB t = true ∧ t.1 ≠ 6) → ∀ (f len : Nat) (out : List TokX), (printS A).length ≤ f → out.length ≤ 600 → 600 < out.length + A.length → (toksB f len (skipL false (printS A)) out).2.2 = 5
  | [], _, f, len, out, _, h1, h2 => by simp at h2; omega
  | t :: A, hA, f, len, out, hf, h600, ho => by
    obtain ⟨h1, h2⟩ := hA t (by simp)
    obtain ⟨w, w1, w2, w3⟩ := one_back h1 h2 (printS A)
    have hp : printS (t :: A) = prt1 t ++ printS A := rfl
    rw [List.length_cons] at ho
    rw [hp] at hf
    rw [hp, w2]
    by_cases hfull : out.length = 600
    · rw [toksB_full w1 hfull]
    · obtain ⟨f', rfl, hf', he⟩ := toksB_tok (len := len) w1 hf hfull
      rw [w3] at he hf'
      rw [List.length_cons] at hf'
      rw [he, show skipL false (32 :: printS A) = skipL false (printS A) from skip_blank (by decide)]
      exact toks_full A (fun x hx => hA x (by simp [hx])) f' len _ (by omega) (by simp; omega) (by simp; omega)
end Go.Proofs.Ythhbocbgkhooaaa
