/- Package lex in plain data: bytes, words, numbers, signs, blanks, tokens. -/
import Derived.Test.YtmdpifedcaaobaaDoorJTx1
set_option linter.unusedVariables false
set_option linter.unusedSimpArgs false
set_option maxRecDepth 20000
set_option maxHeartbeats 4000000
namespace Go.Proofs.YtmdpifedcaaobaaDoor
open Go Ax
abbrev Bs := List UInt8
def bstr (l : Bs) : ByteArray := ⟨l.toArray⟩
theorem bstr_data (s : ByteArray) : bstr s.data.toList = s := rfl
theorem bstr_toList (l : Bs) : (bstr l).data.toList = l := rfl
theorem bstr_inj {l m : Bs} (h : bstr l = bstr m) : l = m := by
  have := congrArg (fun s => s.data.toList) h
  exact this
theorem bstr_size (l : Bs) : (bstr l).size = l.length := rfl
theorem ba_list (s t : ByteArray) : (s == t) = decide (s.data.toList = t.data.toList) := by
  rw [ba_beq]
  by_cases h : s = t
  · rw [decide_eq_true h, decide_eq_true (by rw [h])]
  · rw [decide_eq_false h, decide_eq_false fun e => h (by rw [← bstr_data s, ← bstr_data t, e])]
theorem size_data (s : ByteArray) : s.size = s.data.toList.length := by simp
theorem ext_list (s : ByteArray) (a b : Nat) : (s.extract a b).data.toList = (s.data.toList.drop a).take (b - a) := by
  rw [ByteArray.data_extract, Array.toList_extract, List.extract_eq_take_drop]
theorem ext_bstr (s : ByteArray) (a b : Nat) : s.extract a b = bstr ((s.data.toList.drop a).take (b - a)) := by
  rw [← bstr_data (s.extract a b), ext_list]
def keysL : List Bs := [[99, 111, 117, 110, 116], [100, 101, 108, 101, 116, 101], [101, 108, 115, 101], [102, 97, 108, 115, 101], [102, 110], [104, 97, 115], [105, 102], [107, 101, 121], [108, 101, 110], [108, 101, 116], [110, 117, 108, 108], [112, 114, 105, 110, 116], [112, 114, 111, 116, 111], [114, 101, 116, 117, 114, 110], [115, 101, 116, 112, 114, 111, 116, 111], [115, 116, 114], [116, 104, 105, 115], [116, 114, 117, 101], [119, 104, 105, 108, 101]]
def keyS (L : Bs) : Bool := decide (L ∈ keysL)
def twoL : List Bs := [[60, 61], [62, 61], [61, 61], [33, 61], [38, 38], [124, 124]]
def oneCL : List Bs := [[40], [41], [123], [125], [91], [93], [44], [59], [58], [46], [43], [45], [42], [47], [37], [60], [62], [61], [33]]
def signsL : List Bs := twoL ++ oneCL
/-- The sign with which a text begins. -/
def lsignS (r : Bs) : Bs := if r.take 2 ∈ twoL then r.take 2 else if r.take 1 ∈ oneCL then r.take 1 else []
def digB (c : UInt8) : Bool := digitB (c.toNat : Int)
def letB (c : UInt8) : Bool := letterB (c.toNat : Int)
def wordB (c : UInt8) : Bool := letB c || digB c
/-- A number as text. -/
def decF : Nat → Nat → Bs → Bs
  | 0, _, acc => acc
  | f + 1, n, acc => if n < 10 then UInt8.ofNat (48 + n) :: acc else decF f (n / 10) (UInt8.ofNat (48 + n % 10) :: acc)
def decL (n : Nat) : Bs := decF 20 n []
/-- A text as a number. -/
def mostN : Int := 4611686018427387903
def readF : Bs → Int → Bool → Int × Int
  | [], n, big => if big = true then (0, 10) else (n, 0)
  | c :: r, n, big => if digB c = true then (if big = true ∨ (mostN - ((c.toNat : Int) - 48)).tdiv 10 < n then readF r n true else readF r (n * 10 + ((c.toNat : Int) - 48)) false) else (0, 11)
def readS (L : Bs) : Int × Int := if L = [] then (0, 11) else readF L 0 false
/-- Behind blanks; in a note, or not. -/
def skipL : Bool → Bs → Bs
  | _, [] => []
  | true, c :: r => if c = 10 then skipL false r else skipL true r
  | false, c :: r => if c = 47 ∧ r.head? = some 47 then skipL true r else if c = 32 ∨ c = 10 ∨ c = 9 then skipL false r else c :: r
inductive OneR where
  | tok (kind : Int) (text : Bs) (n : Int) (len : Nat)
  | err (off : Nat) (e : Int)
/-- The token with which a text begins. -/
def loneL (r : Bs) : OneR :=
  match r with
  | [] => .err 0 11
  | c :: _ =>
    if letB c = true then (if keyS (r.takeWhile wordB) = true then .tok 2 (r.takeWhile wordB) 0 (r.takeWhile wordB).length else if nameS (r.takeWhile wordB) = true then .tok 1 (r.takeWhile wordB) 0 (r.takeWhile wordB).length else .err 0 11)
    else if digB c = true then (if (readS (r.takeWhile digB)).2 = 0 then .tok 3 (decL (readS (r.takeWhile digB)).1.toNat) (readS (r.takeWhile digB)).1 (r.takeWhile digB).length else .err 0 (readS (r.takeWhile digB)).2)
    else if c = 34 then (if (takeS r).2.2 = 0 then (if 256 < (takeS r).1.length then .err 0 3 else .tok 4 (takeS r).1 0 (takeS r).2.1) else .err (takeS r).2.1 (takeS r).2.2)
    else if lsignS r = [] then .err 0 11 else .tok 5 (lsignS r) 0 (lsignS r).length
abbrev TokX := Int × ByteArray × Int × Int
def toksF : Nat → Nat → Bs → List TokX → List TokX × Int × Int
  | 0, _, _, _ => ([], 0, 0)
  | f + 1, len, r, out =>
    match skipL false r with
    | [] => (out ++ [(6, bstr [], 0, (len : Int))], 0, 0)
    | c :: q =>
      match loneL (c :: q) with
      | .err off e => ([], ((len - (c :: q).length + off : Nat) : Int), e)
      | .tok k t n w => if out.length = 600 then ([], ((len - (c :: q).length : Nat) : Int), 5) else toksF f len ((c :: q).drop w) (out ++ [(k, bstr t, n, ((len - (c :: q).length : Nat) : Int))])
def toks (L : Bs) : List TokX × Int × Int := if 2000 < L.length then ([], 0, 3) else toksF (L.length + 1) L.length L []
/-! What is a part of what. -/
theorem skip_suffix : ∀ (b : Bool) (r : Bs), skipL b r <:+ r
  | _, [] => by cases ‹Bool› <;> exact List.suffix_refl _
  | true, c :: r => by
    unfold skipL
    split
    · exact (skip_suffix false r).trans (List.suffix_cons _ _)
    · exact (skip_suffix true r).trans (List.suffix_cons _ _)
  | false, c :: r => by
    unfold skipL
    split
    · exact (skip_suffix true r).trans (List.suffix_cons _ _)
    · split
      · exact (skip_suffix false r).trans (List.suffix_cons _ _)
      · exact List.suffix_refl _
theorem skip_len (b : Bool) (r : Bs) : (skipL b r).length ≤ r.length := (skip_suffix b r).length_le
theorem sign_len (r : Bs) : (lsignS r).length ≤ r.length ∧ (lsignS r).length ≤ 2 ∧ lsignS r = r.take (lsignS r).length := by
  unfold lsignS
  split
  · rw [List.length_take]; exact ⟨by omega, by omega, by rw [List.take_eq_take_iff]; omega⟩
  · split
    · rw [List.length_take]; exact ⟨by omega, by omega, by rw [List.take_eq_take_iff]; omega⟩
    · simp
theorem tw_len (p : UInt8 → Bool) (r : Bs) : (r.takeWhile p).length ≤ r.length := (List.takeWhile_prefix p).length_le
theorem one_len {r : Bs} {k : Int} {t : Bs} {n : Int} {w : Nat} (h : loneL r = .tok k t n w) : 1 ≤ w ∧ w ≤ r.length := by
  unfold loneL at h
  split at h
  · simp at h
  · rename_i c q
    have pos : ∀ p : UInt8 → Bool, p c = true → 1 ≤ ((c :: q).takeWhile p).length := fun p hp => by rw [List.takeWhile_cons_of_pos hp, List.length_cons]; omega
    split at h
    · rename_i hl
      have := pos wordB (by simp [wordB, hl])
      split at h
      · simp only [OneR.tok.injEq] at h
        obtain ⟨_, _, _, rfl⟩ := h
        exact ⟨this, tw_len _ _⟩
      · split at h
        · simp only [OneR.tok.injEq] at h
          obtain ⟨_, _, _, rfl⟩ := h
          exact ⟨this, tw_len _ _⟩
        · simp at h
    · split at h
      · rename_i hd
        have := pos digB hd
        split at h
        · simp only [OneR.tok.injEq] at h
          obtain ⟨_, _, _, rfl⟩ := h
          exact ⟨this, tw_len _ _⟩
        · simp at h
      · split at h
        · split at h
          · rename_i he
            split at h
            · simp at h
            · simp only [OneR.tok.injEq] at h
              obtain ⟨_, _, _, rfl⟩ := h
              have hg := take_good (L := c :: q) (x := (takeS (c :: q)).1) (n := (takeS (c :: q)).2.1) (by rw [← he])
              exact ⟨by omega, hg.2.1⟩
          · simp at h
        · split at h
          · simp at h
          · rename_i hs
            simp only [OneR.tok.injEq] at h
            obtain ⟨_, _, _, rfl⟩ := h
            refine ⟨?_, (sign_len _).1⟩
            cases hh : lsignS (c :: q) with
            | nil => exact absurd hh hs
            | cons a b => simp
end Go.Proofs.YtmdpifedcaaobaaDoor
/- Package lex: bytes, keys and signs. -/
set_option linter.unusedVariables false
set_option linter.unusedSimpArgs false
set_option maxRecDepth 20000
set_option maxHeartbeats 4000000
namespace Go.Proofs.YtmdpifedcaaobaaDoor
open Go Ax
theorem digitB_eq (x : Int) : digitB x = (decide (x ≥ 48) && decide (x ≤ 57)) := by
  unfold digitB
  by_cases h1 : x ≥ 48
  · by_cases h2 : x ≤ 57
    · simp [h1, h2]
    · simp [h1, h2]; omega
  · simp [h1]
    try omega
instance : LawfulBEq ByteArray where
  eq_of_beq {a b} h := by rw [ba_beq] at h; exact of_decide_eq_true h
  rfl {a} := by rw [ba_beq]; exact decide_eq_true rfl
theorem slots_gt {c l : List Value} {o n j : Nat} {x : Value} (h : slotsOf c o n = some l) (hx : l[j]? = some x) : c[o + j]? = some x := by
  unfold slotsOf at h
  split at h
  · simp only [Option.some.injEq] at h
    subst h
    rw [List.getElem?_take] at hx
    split at hx
    · rw [List.getElem?_drop] at hx; exact hx
    · simp at hx
  · simp at h
theorem str_at2 {H : Heap} {v : Value} {L : List ByteArray} (h : RL 1 strR H v L) {i : Nat} {x : ByteArray} (hx : L[i]? = some x) :
    ∃ p, aindexAddr Tryd.prog 22 v (.int .i64 (i : Int)) = some p ∧ ∀ H', Grow H H' → aload Tryd.prog 9 p H' = some (.string x) := by
  obtain ⟨b, c, l, h1, h2, h3, h4⟩ := h.at (P := Tryd.prog) (t := 22) (e := 9) rfl rfl hx
  have h4 : l = [.string x] := h4
  subst h4
  exact ⟨_, h1, fun H' g => ald rfl rfl (g.hblk h2) (slots_gt (j := 0) h3 rfl)⟩
theorem mem_bstr {s : ByteArray} {L : List Bs} : s ∈ L.map bstr ↔ s.data.toList ∈ L := by
  rw [List.mem_map]
  constructor
  · rintro ⟨l, h, rfl⟩; exact h
  · intro h; exact ⟨_, h, bstr_data s⟩
def signB : ByteArray := bstr [40, 41, 123, 125, 91, 93, 44, 59, 58, 46, 43, 45, 42, 47, 37, 60, 62, 61, 33]
theorem index_sign : ∀ n : Fin 256, decide (indexB signB (n.val : Int) ≥ 0) = decide ([UInt8.ofNat n.val] ∈ oneCL) := by decide +kernel
theorem index_of (c : UInt8) : decide (indexB signB (c.toNat : Int) ≥ 0) = decide ([c] ∈ oneCL) := by
  have := index_sign ⟨c.toNat, c.toNat_lt⟩
  simpa using this
theorem slice_hi2 {s : ByteArray} {n : Int} (h0 : 0 ≤ n) (h1 : n ≤ (s.size : Int)) : aslice Tryd.prog 9 (.string s) none (some (.int .i64 n)) none = some (.string (s.extract 0 n.toNat)) := by
  simp [aslice, show Tryd.prog.underlying 9 = some .string from rfl, natIn, h0, h1]
theorem slice_lo2 {s : ByteArray} {n : Int} (h0 : 0 ≤ n) (h1 : n ≤ (s.size : Int)) : aslice Tryd.prog 9 (.string s) (some (.int .i64 n)) none none = some (.string (s.extract n.toNat s.size)) := by
  simp [aslice, show Tryd.prog.underlying 9 = some .string from rfl, natIn, h0, h1]
theorem slice_two2 {s : ByteArray} {n m : Int} (h0 : 0 ≤ n) (h1 : n ≤ m) (h2 : m ≤ (s.size : Int)) : aslice Tryd.prog 9 (.string s) (some (.int .i64 n)) (some (.int .i64 m)) none = some (.string (s.extract n.toNat m.toNat)) := by
  have e : ((m.toNat : Nat) : Int) = m := by omega
  simp [aslice, show Tryd.prog.underlying 9 = some .string from rfl, natIn, h0, h1, h2, e, show 0 ≤ m by omega]
end Go.Proofs.YtmdpifedcaaobaaDoor
/- Package lex: signs. -/
set_option linter.unusedVariables false
set_option linter.unusedSimpArgs false
set_option maxRecDepth 20000
set_option maxHeartbeats 4000000
namespace Go.Proofs.YtmdpifedcaaobaaDoor
open Go Ax
theorem find_pre {n : Nat} {r : Bs} : ∀ {ws : List Bs}, (∀ w ∈ ws, w.length = n) → ws.find? (fun w => decide (w <+: r)) = if r.take n ∈ ws then some (r.take n) else none
  | [], _ => by simp
  | w :: ws, h => by
    have hw := h w (by simp)
    have ih := find_pre (r := r) (ws := ws) fun x hx => h x (by simp [hx])
    have e : w <+: r ↔ r.take n = w := by rw [List.prefix_iff_eq_take, hw]; exact eq_comm
    by_cases hp : w <+: r
    · have e' := e.1 hp
      have hpd : decide (w <+: r) = true := decide_eq_true hp
      simp only [List.find?_cons, hpd]
      rw [if_pos (by rw [e']; simp), e']
    · have hpd : decide (w <+: r) = false := decide_eq_false hp
      simp only [List.find?_cons, hpd]
      rw [ih]
      have hne : ¬ r.take n = w := fun hh => hp (e.2 hh)
      by_cases hm : r.take n ∈ ws
      · rw [if_pos hm, if_pos (by simp [hm])]
      · rw [if_neg hm, if_neg (by simp [hm, hne])]
theorem two_len : ∀ w ∈ twoL, w.length = 2 := by decide
theorem one_lenC : ∀ w ∈ oneCL, w.length = 1 := by decide
theorem sign_find (r : Bs) : (signsL.find? fun w => decide (w <+: r)).getD [] = lsignS r := by
  unfold signsL lsignS
  rw [List.find?_append, find_pre two_len, find_pre one_lenC]
  split
  · rfl
  · split <;> rfl
theorem lsign_some {r w : Bs} {i : Nat} (hw : signsL[i]? = some w) (hn : ∀ u ∈ signsL.take i, ¬ u <+: r) (hp : w <+: r) : lsignS r = w := by
  rw [← sign_find]
  have e : signsL = signsL.take i ++ w :: signsL.drop (i + 1) := by
    have h1 := List.drop_eq_getElem_cons (lt_of_get hw)
    rw [(List.getElem?_eq_some_iff.1 hw).2] at h1
    rw [← h1, List.take_append_drop]
  rw [e, List.find?_append, List.find?_eq_none.2 (fun u hu => by simpa using hn u hu)]
  have hpd : decide (w <+: r) = true := decide_eq_true hp
  simp only [List.find?_cons, hpd]
  rfl
theorem sign_none {r : Bs} (hn : ∀ u ∈ signsL, ¬ u <+: r) : lsignS r = [] := by
  rw [← sign_find, List.find?_eq_none.2 (fun u hu => by simpa using hn u hu)]
  rfl
end Go.Proofs.YtmdpifedcaaobaaDoor
/- Package num: a text as a number. -/
set_option linter.unusedVariables false
set_option linter.unusedSimpArgs false
set_option maxRecDepth 20000
set_option maxHeartbeats 4000000
namespace Go.Proofs.YtmdpifedcaaobaaDoor
open Go Ax
theorem drop_cons {L : Bs} {i : Nat} {c : UInt8} (h : L[i]? = some c) : L.drop i = c :: L.drop (i + 1) := by
  rw [List.drop_eq_getElem_cons (lt_of_get h), (List.getElem?_eq_some_iff.1 h).2]
theorem digB_iff {c : UInt8} : digB c = true ↔ 48 ≤ c.toNat ∧ c.toNat ≤ 57 := by
  unfold digB
  rw [digitB_eq, Bool.and_eq_true, decide_eq_true_eq, decide_eq_true_eq]
  omega
theorem most_of (d : Int) (h0 : 0 ≤ d) (h1 : d ≤ 9) : 461168601842738789 ≤ (mostN - d).tdiv 10 ∧ (mostN - d).tdiv 10 ≤ 461168601842738790 := by
  unfold mostN
  have : (4611686018427387903 - d).tdiv 10 = (4611686018427387903 - d) / 10 := Int.tdiv_eq_ediv_of_nonneg (by omega)
  rw [this]
  omega
theorem most_step {n d : Int} (h0 : 0 ≤ d) (h1 : d ≤ 9) (hn : 0 ≤ n) (h : ¬ (mostN - d).tdiv 10 < n) : 0 ≤ n * 10 + d ∧ n * 10 + d ≤ mostN := by
  have e : (mostN - d).tdiv 10 = (mostN - d) / 10 := Int.tdiv_eq_ediv_of_nonneg (by unfold mostN; omega)
  rw [e] at h
  unfold mostN at h ⊢
  omega
theorem readF_range : ∀ (L : Bs) (n : Int) (b : Bool), 0 ≤ n → n ≤ mostN → 0 ≤ (readF L n b).1 ∧ (readF L n b).1 ≤ mostN
  | [], n, b, h0, h1 => by
    unfold readF
    split
    · unfold mostN; decide
    · exact ⟨h0, h1⟩
  | c :: r, n, b, h0, h1 => by
    unfold readF
    split
    · rename_i hd
      rw [digB_iff] at hd
      split
      · exact readF_range r n true h0 h1
      · rename_i hb
        have := most_step (n := n) (d := (c.toNat : Int) - 48) (by omega) (by omega) h0 (fun h => hb (.inr h))
        exact readF_range r _ false this.1 this.2
    · unfold mostN; decide
theorem readS_range (L : Bs) : 0 ≤ (readS L).1 ∧ (readS L).1 ≤ mostN := by
  unfold readS
  split
  · unfold mostN; decide
  · exact readF_range L 0 false (by decide) (by unfold mostN; decide)
def wrongN (b : Bool) : Int := if b then 10 else 0
theorem numTake_ax {H : Heap} {q4 q5 : Nat} {n d : Int} (h4 : H[q4]? = some (.cells .var [.int .i64 n])) (h5 : H[q5]? = some (.cells .var [.int .i64 0])) (hne : q4 ≠ q5) (hn0 : 0 ≤ n) (hn1 : n ≤ mostN) (hd0 : 0 ≤ d) (hd1 : d ≤ 9) :
    AX Tryd.prog 90 #[.int .i64 d, .pointer (some ⟨q4, 0, none⟩), .pointer (some ⟨q5, 0, none⟩)] H (fun _ H' => H'.length = H.length ∧ (∀ b, b ≠ q4 → b ≠ q5 → H'[b]? = H[b]?) ∧
      ((mostN - d).tdiv 10 < n → H'[q4]? = some (.cells .var [.int .i64 n]) ∧ H'[q5]? = some (.cells .var [.int .i64 10])) ∧
      (¬ (mostN - d).tdiv 10 < n → H'[q4]? = some (.cells .var [.int .i64 (n * 10 + d)]) ∧ H'[q5]? = some (.cells .var [.int .i64 0]))) := by
  have b4 := hblk_of h4
  have hm := most_of d hd0 hd1
  have f1 : abin Tryd.prog .sub 3 (.int .i64 4611686018427387903) (.int .i64 d) = some (.int .i64 (mostN - d)) := by
    have : abin Tryd.prog .sub 3 (.int .i64 4611686018427387903) (.int .i64 d) = some (.int .i64 (IntKind.i64.wrap (4611686018427387903 - d))) := rfl
    rw [this, wrap_i64 (by omega) (by omega)]; rfl
  have f2 : abin Tryd.prog .quo 3 (.int .i64 (mostN - d)) (.int .i64 10) = some (.int .i64 ((mostN - d).tdiv 10)) := by
    have : abin Tryd.prog .quo 3 (.int .i64 (mostN - d)) (.int .i64 10) = some (.int .i64 (IntKind.i64.wrap ((mostN - d).tdiv 10))) := rfl
    rw [this, wrap_i64 (by omega) (by omega)]
  refine AX.body (n := 13) (rs := []) Tryd.func90 rfl (by decide) rfl rfl (bC_sound _ _ _ _ ?_)
  by_cases hb : (mostN - d).tdiv 10 < n
  · have d1 : decide (n > (mostN - d).tdiv 10) = true := decide_eq_true hb
    refine run ?_
    refine Ob.store rfl rfl rfl h5 rfl (by first | exact Nat.le_of_ble_eq_true rfl | simp) fun X s1 k1 l1 => ?_
    refine run ?_
    exact ⟨l1, fun b h1 h2 => by by_cases hl : b < H.length; exact k1.2 b hl h2; rw [List.getElem?_eq_none (by omega), List.getElem?_eq_none (by omega)], fun _ => ⟨k1.at h4 hne, s1⟩, fun h => absurd hb h⟩
  · have d1 : decide (n > (mostN - d).tdiv 10) = false := decide_eq_false hb
    have hs := most_step hd0 hd1 hn0 hb
    unfold mostN at hs
    have f3 : abin Tryd.prog .mul 3 (.int .i64 n) (.int .i64 10) = some (.int .i64 (n * 10)) := by
      have : abin Tryd.prog .mul 3 (.int .i64 n) (.int .i64 10) = some (.int .i64 (IntKind.i64.wrap (n * 10))) := rfl
      rw [this, wrap_i64 (by omega) (by omega)]
    have f4 : abin Tryd.prog .add 3 (.int .i64 (n * 10)) (.int .i64 d) = some (.int .i64 (n * 10 + d)) := by
      have : abin Tryd.prog .add 3 (.int .i64 (n * 10)) (.int .i64 d) = some (.int .i64 (IntKind.i64.wrap (n * 10 + d))) := rfl
      rw [this, wrap_i64 (by omega) (by omega)]
    refine run ?_
    refine Ob.store rfl rfl rfl h4 rfl (by first | exact Nat.le_of_ble_eq_true rfl | simp) fun X s1 k1 l1 => ?_
    refine run ?_
    exact ⟨l1, fun b h1 h2 => by by_cases hl : b < H.length; exact k1.2 b hl h1; rw [List.getElem?_eq_none (by omega), List.getElem?_eq_none (by omega)], fun h => absurd h hb, fun _ => ⟨s1, k1.at h5 (Ne.symm hne)⟩⟩
theorem readF_step {L : Bs} {i : Nat} {c : UInt8} {n : Int} {b : Bool} (hc : L[i]? = some c) (hd : digB c = true) :
    readF (L.drop i) n b = if b = true ∨ (mostN - ((c.toNat : Int) - 48)).tdiv 10 < n then readF (L.drop (i + 1)) n true else readF (L.drop (i + 1)) (n * 10 + ((c.toNat : Int) - 48)) false := by
  rw [drop_cons hc]
  show (if digB c = true then _ else _) = _
  rw [if_pos hd]
theorem readF_bad {L : Bs} {i : Nat} {c : UInt8} {n : Int} {b : Bool} (hc : L[i]? = some c) (hd : ¬ digB c = true) : readF (L.drop i) n b = (0, 11) := by
  rw [drop_cons hc]
  show (if digB c = true then _ else _) = _
  rw [if_neg hd]
theorem plain_tt (a b : Int) : plain (.tuple #[.int .i64 a, .int .i64 b]) := plain_tuple (vs := [_, _]) fun x hx => by
  simp only [List.mem_cons, List.not_mem_nil, or_false] at hx
  rcases hx with rfl | rfl <;> exact plain_int _ _
theorem numRead_ax (H0 : Heap) {s : ByteArray} (hs : s.size ≤ 100000) : AX Tryd.prog 73 #[.string s] H0 (fun v H' => v = .tuple #[.int .i64 (readS s.data.toList).1, .int .i64 (readS s.data.toList).2] ∧ H' = H0) := by
  refine AX.alone (args := [.string s]) (fun v hv => by simp only [List.mem_singleton] at hv; subst hv; exact plain_str _) ?_
  suffices hh : AX Tryd.prog 73 [.string s].toArray [] (fun v _ => v = .tuple #[.int .i64 (readS s.data.toList).1, .int .i64 (readS s.data.toList).2]) from hh.mono fun v _ e => ⟨e ▸ plain_tt _ _, e⟩
  have hsz := size_data s
  refine AX.body (n := 42) (rs := [.tmp 2, .tmp 3]) Tryd.func73 rfl (by decide) rfl rfl (bC_sound _ _ _ _ ?_)
  generalize hL : s.data.toList = L at *
  refine run ?_
  refine Ob2.alloc rfl fun q4 H1 hq4 a4 g1 => ?_
  refine run ?_
  refine Ob2.alloc rfl fun q5 H2 hq5 a5 g2 => ?_
  have hne : q4 ≠ q5 := by have := lt_at a4; omega
  refine run ?_
  refine Ob.store rfl rfl rfl (g2.at a4) rfl (by first | exact Nat.le_of_ble_eq_true rfl | simp) fun H3 s3 k3 l3 => ?_
  have a5' := k3.at a5 (Ne.symm hne)
  refine run ?_
  refine Ob.store rfl rfl rfl a5' rfl (by first | exact Nat.le_of_ble_eq_true rfl | simp) fun H4 s4 k4 l4 => ?_
  have a4' := k4.at s3 hne
  refine run ?_
  refine SW.loop (α := Nat × Int × Bool) (fun y => [(0, .string s), (4, .pointer (some ⟨q4, 0, none⟩)), (5, .pointer (some ⟨q5, 0, none⟩)), (6, .func (.func 90) #[] #[.pointer (some ⟨q4, 0, none⟩), .pointer (some ⟨q5, 0, none⟩)]), (10, .int .i64 (s.size : Int)), (11, .int .i64 (y.1 : Int))])
    (fun y X => y.1 ≤ L.length ∧ 0 ≤ y.2.1 ∧ y.2.1 ≤ mostN ∧ X[q4]? = some (.cells .var [.int .i64 y.2.1]) ∧ X[q5]? = some (.cells .var [.int .i64 (wrongN y.2.2)]) ∧ readF L 0 false = readF (L.drop y.1) y.2.1 y.2.2) (fun y => L.length - y.1)
    ⟨(0, 0, false), ⟨rfl, rfl, rfl, rfl, rfl, rfl, trivial⟩, Nat.zero_le _, Int.le_refl _, by unfold mostN; decide, a4', s4, rfl⟩ ?_
  clear a4 a5 g1 g2 s3 k3 a5' s4 k4 a4' l3 l4 hq4 hq5 H1 H2 H3 H4
  rintro ⟨i, n, b⟩ X ⟨hi, hn0, hn1, h4, h5, hR⟩
  dsimp only at hi hn0 hn1 h4 h5 hR ⊢
  have b4 := hblk_of h4
  have b5 := hblk_of h5
  refine bC_sound _ _ _ _ ?_
  by_cases hil : i < L.length
  rotate_left
  · have d1 : decide ((i : Int) < (s.size : Int)) = false := decide_eq_false (by omega)
    have hii : i = L.length := by omega
    rw [hii, List.drop_length] at hR
    by_cases h0 : L = []
    · have d2 : (s == (⟨#[]⟩ : ByteArray)) = true := by rw [ba_list, hL, h0]; rfl
      have hv : readS L = (0, 11) := by unfold readS; rw [if_pos h0]
      rw [hv]
      refine run ?_
      rfl
    have d2 : (s == (⟨#[]⟩ : ByteArray)) = false := by rw [ba_list, hL]; exact decide_eq_false h0
    have hv : readS L = readF [] n b := by unfold readS; rw [if_neg h0, hR]
    rw [hv]
    cases b with
    | true =>
      refine run ?_
      apply SW.drawH [(0, [], [2], false), (1, [], [40], false), (2, [(40, 0), (2, 1)], [40, 2], false)]
        [(40, 0), (2, 1), (3, 2)] []
        [(5, _)] rfl (by kernel_rfl)
      case hF => exact ⟨rfl, trivial⟩
      refine run ?_
      rfl
    | false =>
      refine run ?_
      rfl
  have d1 : decide ((i : Int) < (s.size : Int)) = true := decide_eq_true (by omega)
  obtain ⟨c, hc⟩ := get_lt hil
  have ix := aix (s := s) (k := i) (c := c) (by rw [hL]; exact hc)
  have w1 := w_succ (k := i) (by omega)
  have hv : readS L = readF L 0 false := by unfold readS; rw [if_neg (fun h => by rw [h] at hil; simp at hil)]
  by_cases hd : digB c = true
  rotate_left
  · have hv2 : readS L = (0, 11) := by rw [hv, hR, readF_bad hc hd]
    rw [hv2]
    rw [digB_iff] at hd
    by_cases hlo : (c.toNat : Int) < 48
    · have d2 : decide ((c.toNat : Int) < 48) = true := decide_eq_true hlo
      refine run ?_
      rfl
    · have d2 : decide ((c.toNat : Int) < 48) = false := decide_eq_false hlo
      have d3 : decide ((c.toNat : Int) > 57) = true := decide_eq_true (by omega)
      refine run ?_
      rfl
  have hR2 := readF_step (n := n) (b := b) hc hd
  rw [digB_iff] at hd
  have d2 : decide ((c.toNat : Int) < 48) = false := decide_eq_false (by omega)
  have d3 : decide ((c.toNat : Int) > 57) = false := decide_eq_false (by omega)
  cases b with
  | true =>
    rw [if_pos (.inl rfl)] at hR2
    refine run ?_
    exact ⟨(i + 1, n, true), ⟨rfl, rfl, rfl, rfl, rfl, congrArg (fun z => some (Value.int .i64 z)) w1, trivial⟩, ⟨by dsimp only; omega, hn0, hn1, h4, h5, hR.trans hR2⟩, by dsimp only; omega⟩
  | false =>
    have f1 : abin Tryd.prog .sub 5 (u8 c) (.int .u8 48) = some (.int .u8 ((c.toNat : Int) - 48)) := by
      have : abin Tryd.prog .sub 5 (u8 c) (.int .u8 48) = some (.int .u8 (IntKind.u8.wrap ((c.toNat : Int) - 48))) := rfl
      rw [this, wrap_u8 (by omega) (by omega)]
    have f2 : aconvert Tryd.prog 5 3 (.int .u8 ((c.toNat : Int) - 48)) X = some (.int .i64 ((c.toNat : Int) - 48)) := by
      have : aconvert Tryd.prog 5 3 (.int .u8 ((c.toNat : Int) - 48)) X = some (.int .i64 (IntKind.i64.wrap ((c.toNat : Int) - 48))) := rfl
      rw [this, wrap_i64 (by omega) (by omega)]
    refine run ?_
    refine (numTake_ax (d := (c.toNat : Int) - 48) h4 h5 hne hn0 hn1 (by omega) (by omega)).mono ?_
    rintro _ Y ⟨yl, yk, y1, y2⟩
    refine run ?_
    by_cases hb : (mostN - ((c.toNat : Int) - 48)).tdiv 10 < n
    · rw [if_pos (.inr hb)] at hR2
      obtain ⟨z4, z5⟩ := y1 hb
      exact ⟨(i + 1, n, true), ⟨rfl, rfl, rfl, rfl, rfl, congrArg (fun z => some (Value.int .i64 z)) w1, trivial⟩, ⟨by dsimp only; omega, hn0, hn1, z4, z5, hR.trans hR2⟩, by dsimp only; omega⟩
    · rw [if_neg (fun h => h.elim (by simp) hb)] at hR2
      obtain ⟨z4, z5⟩ := y2 hb
      have hs := most_step (n := n) (d := (c.toNat : Int) - 48) (by omega) (by omega) hn0 hb
      exact ⟨(i + 1, n * 10 + ((c.toNat : Int) - 48), false), ⟨rfl, rfl, rfl, rfl, rfl, congrArg (fun z => some (Value.int .i64 z)) w1, trivial⟩, ⟨by dsimp only; omega, hs.1, hs.2, z4, z5, hR.trans hR2⟩, by dsimp only; omega⟩
theorem refRead_ax (H0 : Heap) {s : ByteArray} (hs : s.size ≤ 100000) : AX Tryd.prog 82 #[.string s] H0 (fun v H' => v = .tuple #[.int .i64 (readS s.data.toList).1, .int .i64 (readS s.data.toList).2] ∧ H' = H0) := by
  have hsz := size_data s
  refine AX.body (n := 46) (rs := [.tmp 2, .tmp 3]) Tryd.func82 rfl (by decide) rfl rfl (bC_sound _ _ _ _ ?_)
  generalize hL : s.data.toList = L at *
  refine run ?_
  refine SW.loop (α := Nat × Int × Bool) (fun y => [(0, .string s), (4, .int .i64 y.2.1), (5, .bool y.2.2), (6, .int .i64 (y.1 : Int))])
    (fun y X => X = H0 ∧ y.1 ≤ L.length ∧ 0 ≤ y.2.1 ∧ y.2.1 ≤ mostN ∧ readF L 0 false = readF (L.drop y.1) y.2.1 y.2.2) (fun y => L.length - y.1)
    ⟨(0, 0, false), ⟨rfl, rfl, rfl, rfl, trivial⟩, rfl, Nat.zero_le _, Int.le_refl _, by unfold mostN; decide, rfl⟩ ?_
  rintro ⟨i, n, b⟩ X ⟨e, hi, hn0, hn1, hR⟩
  subst X
  dsimp only at hi hn0 hn1 hR ⊢
  refine bC_sound _ _ _ _ ?_
  by_cases hil : i < L.length
  rotate_left
  · have d1 : decide ((i : Int) < (s.size : Int)) = false := decide_eq_false (by omega)
    have hii : i = L.length := by omega
    rw [hii, List.drop_length] at hR
    by_cases h0 : L = []
    · have d2 : ((s.size : Int) == 0) = true := by rw [beq_iff_eq, hsz, h0]; rfl
      have hv : readS L = (0, 11) := by unfold readS; rw [if_pos h0]
      rw [hv]
      refine run ?_
      exact ⟨rfl, rfl⟩
    have d2 : ((s.size : Int) == 0) = false := by rw [beq_eq_false_iff_ne]; intro h; apply h0; exact List.length_eq_zero_iff.1 (by omega)
    have hv : readS L = readF [] n b := by unfold readS; rw [if_neg h0, hR]
    rw [hv]
    cases b with
    | true =>
      refine run ?_
      exact ⟨rfl, rfl⟩
    | false =>
      refine run ?_
      exact ⟨rfl, rfl⟩
  have d1 : decide ((i : Int) < (s.size : Int)) = true := decide_eq_true (by omega)
  obtain ⟨c, hc⟩ := get_lt hil
  have ix := aix (s := s) (k := i) (c := c) (by rw [hL]; exact hc)
  have w1 := w_succ (k := i) (by omega)
  have hv : readS L = readF L 0 false := by unfold readS; rw [if_neg (fun h => by rw [h] at hil; simp at hil)]
  by_cases hd : digB c = true
  rotate_left
  · have hv2 : readS L = (0, 11) := by rw [hv, hR, readF_bad hc hd]
    rw [hv2]
    rw [digB_iff] at hd
    by_cases hlo : (c.toNat : Int) < 48
    · have d2 : decide ((c.toNat : Int) < 48) = true := decide_eq_true hlo
      refine run ?_
      exact ⟨rfl, rfl⟩
    · have d2 : decide ((c.toNat : Int) < 48) = false := decide_eq_false hlo
      have d3 : decide ((c.toNat : Int) > 57) = true := decide_eq_true (by omega)
      refine run ?_
      exact ⟨rfl, rfl⟩
  have hR2 := readF_step (n := n) (b := b) hc hd
  rw [digB_iff] at hd
  have d2 : decide ((c.toNat : Int) < 48) = false := decide_eq_false (by omega)
  have d3 : decide ((c.toNat : Int) > 57) = false := decide_eq_false (by omega)
  have f2 : aconvert Tryd.prog 5 3 (u8 c) H0 = some (.int .i64 (c.toNat : Int)) := by
    have : aconvert Tryd.prog 5 3 (u8 c) H0 = some (.int .i64 (IntKind.i64.wrap (c.toNat : Int))) := rfl
    rw [this, wrap_i64 (by omega) (by omega)]
  have f1 : abin Tryd.prog .sub 3 (.int .i64 (c.toNat : Int)) (.int .i64 48) = some (.int .i64 ((c.toNat : Int) - 48)) := by
    have : abin Tryd.prog .sub 3 (.int .i64 (c.toNat : Int)) (.int .i64 48) = some (.int .i64 (IntKind.i64.wrap ((c.toNat : Int) - 48))) := rfl
    rw [this, wrap_i64 (by omega) (by omega)]
  cases b with
  | true =>
    rw [if_pos (.inl rfl)] at hR2
    refine run ?_
    exact ⟨(i + 1, n, true), ⟨rfl, rfl, rfl, congrArg (fun z => some (Value.int .i64 z)) w1, trivial⟩, ⟨rfl, by dsimp only; omega, hn0, hn1, hR.trans hR2⟩, by dsimp only; omega⟩
  | false =>
    have hm := most_of ((c.toNat : Int) - 48) (by omega) (by omega)
    have f3 : abin Tryd.prog .sub 3 (.int .i64 4611686018427387903) (.int .i64 ((c.toNat : Int) - 48)) = some (.int .i64 (mostN - ((c.toNat : Int) - 48))) := by
      have : abin Tryd.prog .sub 3 (.int .i64 4611686018427387903) (.int .i64 ((c.toNat : Int) - 48)) = some (.int .i64 (IntKind.i64.wrap (4611686018427387903 - ((c.toNat : Int) - 48)))) := rfl
      rw [this, wrap_i64 (by omega) (by omega)]; rfl
    have f4 : abin Tryd.prog .quo 3 (.int .i64 (mostN - ((c.toNat : Int) - 48))) (.int .i64 10) = some (.int .i64 ((mostN - ((c.toNat : Int) - 48)).tdiv 10)) := by
      have : abin Tryd.prog .quo 3 (.int .i64 (mostN - ((c.toNat : Int) - 48))) (.int .i64 10) = some (.int .i64 (IntKind.i64.wrap ((mostN - ((c.toNat : Int) - 48)).tdiv 10))) := rfl
      rw [this, wrap_i64 (by omega) (by omega)]
    by_cases hb : (mostN - ((c.toNat : Int) - 48)).tdiv 10 < n
    · rw [if_pos (.inr hb)] at hR2
      have d4 : decide (n > (mostN - ((c.toNat : Int) - 48)).tdiv 10) = true := decide_eq_true hb
      refine run ?_
      exact ⟨(i + 1, n, true), ⟨rfl, rfl, rfl, congrArg (fun z => some (Value.int .i64 z)) w1, trivial⟩, ⟨rfl, by dsimp only; omega, hn0, hn1, hR.trans hR2⟩, by dsimp only; omega⟩
    · rw [if_neg (fun h => h.elim (by simp) hb)] at hR2
      have d4 : decide (n > (mostN - ((c.toNat : Int) - 48)).tdiv 10) = false := decide_eq_false hb
      have hs := most_step (n := n) (d := (c.toNat : Int) - 48) (by omega) (by omega) hn0 hb
      have hs' := hs.2
      unfold mostN at hs'
      have f5 : abin Tryd.prog .mul 3 (.int .i64 n) (.int .i64 10) = some (.int .i64 (n * 10)) := by
        have : abin Tryd.prog .mul 3 (.int .i64 n) (.int .i64 10) = some (.int .i64 (IntKind.i64.wrap (n * 10))) := rfl
        rw [this, wrap_i64 (by omega) (by omega)]
      have f6 : abin Tryd.prog .add 3 (.int .i64 (n * 10)) (.int .i64 ((c.toNat : Int) - 48)) = some (.int .i64 (n * 10 + ((c.toNat : Int) - 48))) := by
        have : abin Tryd.prog .add 3 (.int .i64 (n * 10)) (.int .i64 ((c.toNat : Int) - 48)) = some (.int .i64 (IntKind.i64.wrap (n * 10 + ((c.toNat : Int) - 48)))) := rfl
        rw [this, wrap_i64 (by omega) (by omega)]
      refine run ?_
      exact ⟨(i + 1, n * 10 + ((c.toNat : Int) - 48), false), ⟨rfl, rfl, rfl, congrArg (fun z => some (Value.int .i64 z)) w1, trivial⟩, ⟨rfl, by dsimp only; omega, hs.1, hs.2, hR.trans hR2⟩, by dsimp only; omega⟩
end Go.Proofs.YtmdpifedcaaobaaDoor
/- Package num: a number as text. -/
set_option linter.unusedVariables false
set_option linter.unusedSimpArgs false
set_option maxRecDepth 20000
set_option maxHeartbeats 4000000
namespace Go.Proofs.YtmdpifedcaaobaaDoor
open Go Ax
def digN (n : Nat) : UInt8 := UInt8.ofNat (48 + n % 10)
theorem digN_nat (n : Nat) : (digN n).toNat = 48 + n % 10 := by
  unfold digN
  rw [UInt8.toNat_ofNat']
  omega
theorem decF_step (f n : Nat) (acc : Bs) : decF (f + 1) n acc = if n / 10 = 0 then digN n :: acc else decF f (n / 10) (digN n :: acc) := by
  show (if n < 10 then _ else _) = _
  by_cases h : n < 10
  · rw [if_pos h, if_pos (by omega)]
    unfold digN
    rw [Nat.mod_eq_of_lt h]
  · rw [if_neg h, if_neg (by omega)]
    rfl
theorem pow_div {n k : Nat} (h : n < 10 ^ (k + 1)) : n / 10 < 10 ^ k := by
  rw [Nat.pow_succ] at h
  omega
theorem drop_cons' {α : Type} {L : List α} {i : Nat} {x : α} (h : L[i]? = some x) : L.drop i = x :: L.drop (i + 1) := by
  rw [List.drop_eq_getElem_cons (lt_of_get h), (List.getElem?_eq_some_iff.1 h).2]
theorem add_strB (a b : Bs) (h : a.length + b.length ≤ 1000000000) : abin Tryd.prog .add 9 (.string (bstr a)) (.string (bstr b)) = some (.string (bstr (a ++ b))) := by
  have e : bstr a ++ bstr b = bstr (a ++ b) := by
    rw [← bstr_data (bstr a ++ bstr b)]
    congr 1
  simp only [abin, astr]
  rw [if_neg (by rw [bstr_size, bstr_size]; omega), e]
theorem conv_sl {H : Heap} {b off n : Nat} {m : Ax.Mode} {c : List Value} {l : Bs} (hb : H[b]? = some (.cells m c)) (hs : slotsOf c off n = some (u8s l)) : aconvert Tryd.prog 48 9 (.slice (some ⟨b, off, none⟩) n 1) H = some (.string (bstr l)) := by
  by_cases h0 : n = 0
  · subst h0
    have hl : l = [] := by
      unfold slotsOf at hs
      split at hs
      · simp only [List.take_zero, Option.some.injEq] at hs
        cases l with
        | nil => rfl
        | cons a b => simp [u8s] at hs
      · simp at hs
    subst hl
    rfl
  · simp [aconvert, show Tryd.prog.underlying 48 = some (.slice 5) from rfl, show Tryd.prog.underlying 9 = some .string from rfl, show Tryd.prog.underlying 5 = some (.int .u8) from rfl, hblk_of hb, hs, u8s_back, h0, bstr]
theorem refDigits_ax (H0 : Heap) {n0 : Nat} (hn0 : n0 ≤ 9223372036854775807) : AX Tryd.prog 71 #[.int .i64 (n0 : Int)] H0 (fun v H' => v = .string (bstr (decL n0)) ∧ H' = H0) := by
  refine AX.quiet ?_
  suffices hh : AX Tryd.prog 71 #[.int .i64 (n0 : Int)] H0 (fun v H' => v = .string (bstr (decL n0)) ∧ Grow H0 H') from hh.mono fun v _ ⟨e, g⟩ => ⟨e ▸ plain_str _, e, g⟩
  refine AX.body (n := 23) (rs := [.tmp 2]) Tryd.func71 rfl (by decide) rfl rfl (bC_sound _ _ _ _ ?_)
  refine run ?_
  refine SW.loop (α := Nat × Nat × Bs) (fun y => [(0, .int .i64 (y.2.1 : Int)), (3, .string (bstr y.2.2)), (4, .int .i64 (y.1 : Int))])
    (fun y X => y.1 < 20 ∧ y.2.1 ≤ n0 ∧ y.2.1 < 10 ^ (20 - y.1) ∧ y.2.2.length ≤ y.1 ∧ decL n0 = decF (20 - y.1) y.2.1 y.2.2 ∧ Grow H0 X) (fun y => 20 - y.1)
    ⟨(0, n0, []), ⟨rfl, rfl, rfl, trivial⟩, by dsimp only; omega, Nat.le_refl _, by dsimp only; omega, Nat.le_refl _, rfl, .refl _⟩ ?_
  rintro ⟨k, n, acc⟩ X ⟨hk, hn, hp, hl, hd, gX⟩
  dsimp only at hk hn hp hl hd ⊢
  have d1 : decide ((k : Int) < 20) = true := decide_eq_true (by omega)
  have hf : 20 - k = (19 - k) + 1 := by omega
  rw [hf, decF_step] at hd
  rw [hf] at hp
  have hp' := pow_div hp
  have hnat := digN_nat n
  have f1 : abin Tryd.prog .rem 3 (.int .i64 (n : Int)) (.int .i64 10) = some (.int .i64 ((n % 10 : Nat) : Int)) := by
    rw [rem_ok (by omega), Int.tmod_eq_emod_of_nonneg (by omega)]; rfl
  have f2 : abin Tryd.prog .add 3 (.int .i64 48) (.int .i64 ((n % 10 : Nat) : Int)) = some (.int .i64 ((digN n).toNat : Int)) := by
    have : abin Tryd.prog .add 3 (.int .i64 48) (.int .i64 ((n % 10 : Nat) : Int)) = some (.int .i64 (IntKind.i64.wrap (48 + ((n % 10 : Nat) : Int)))) := rfl
    rw [this, wrap_i64 (by omega) (by omega), hnat]; rfl
  have f3 : aconvert Tryd.prog 3 5 (.int .i64 ((digN n).toNat : Int)) X = some (u8 (digN n)) := by
    have : aconvert Tryd.prog 3 5 (.int .i64 ((digN n).toNat : Int)) X = some (.int .u8 (IntKind.u8.wrap ((digN n).toNat : Int))) := rfl
    rw [this, wrap_u8 (by omega) (by omega)]
  have f4 : abin Tryd.prog .quo 3 (.int .i64 (n : Int)) (.int .i64 10) = some (.int .i64 ((n / 10 : Nat) : Int)) := by
    have : abin Tryd.prog .quo 3 (.int .i64 (n : Int)) (.int .i64 10) = some (.int .i64 (IntKind.i64.wrap ((n : Int).tdiv 10))) := rfl
    have e : (n : Int).tdiv 10 = ((n / 10 : Nat) : Int) := by rw [Int.tdiv_eq_ediv_of_nonneg (by omega)]; rfl
    rw [this, e, wrap_i64 (by omega) (by omega)]
  have w1 := w_succ (k := k) (by omega)
  refine bC_sound _ _ _ _ ?_
  refine run ?_
  refine Ob2.lay (H := X) (.cells (.row 5) [u8 (digN n)]) (.slice (some ⟨X.length, 0, none⟩) 1 1) rfl fun X1 a1 g1 l1 => ?_
  have f5 : aconvert Tryd.prog 48 9 (.slice (some ⟨X.length, 0, none⟩) 1 1) X1 = some (.string (bstr [digN n])) := conv_sl a1 rfl
  have f6 := add_strB [digN n] acc (by simp; omega)
  refine run ?_
  by_cases h0 : n / 10 = 0
  · rw [if_pos h0] at hd
    have d2 : (((n / 10 : Nat) : Int) == 0) = true := by rw [beq_iff_eq]; omega
    refine run ?_
    exact ⟨by rw [hd]; rfl, gX.trans g1⟩
  · rw [if_neg h0] at hd
    have d2 : (((n / 10 : Nat) : Int) == 0) = false := by rw [beq_eq_false_iff_ne]; omega
    refine run ?_
    have hk19 : k + 1 < 20 := by
      refine Decidable.byContradiction fun hc => ?_
      rw [show 19 - k = 0 by omega] at hp'
      omega
    exact ⟨(k + 1, n / 10, digN n :: acc), ⟨rfl, rfl, congrArg (fun z => some (Value.int .i64 z)) w1, trivial⟩, ⟨hk19, by dsimp only; omega, by rw [show 20 - (k + 1) = 19 - k by omega]; exact hp', by simp; omega, by rw [show 20 - (k + 1) = 19 - k by omega]; exact hd, gX.trans g1⟩, by dsimp only; omega⟩
theorem rxDigits_ax (H0 : Heap) {n0 : Nat} (hn0 : n0 ≤ 4611686018427387903) : AX Tryd.prog 50 #[.int .i64 (n0 : Int)] H0 (fun v H' => v = .string (bstr (decL n0)) ∧ H' = H0) := by
  have d1 : decide ((n0 : Int) ≥ 0) = true := decide_eq_true (by omega)
  refine AX.body (n := 25) (rs := [.tmp 2]) Tryd.func50 rfl (by decide) rfl rfl (bC_sound _ _ _ _ ?_)
  refine run ?_
  refine (refDigits_ax H0 (by omega)).mono ?_
  rintro _ X ⟨rfl, e⟩
  subst X
  refine run ?_
  exact ⟨rfl, rfl⟩
theorem numDigits_ax (H0 : Heap) {n0 : Nat} (hn0 : n0 ≤ 4611686018427387903) : AX Tryd.prog 32 #[.int .i64 (n0 : Int)] H0 (fun v H' => v = .string (bstr (decL n0)) ∧ H' = H0) := by
  refine AX.quiet ?_
  suffices hh : AX Tryd.prog 32 #[.int .i64 (n0 : Int)] H0 (fun v H' => v = .string (bstr (decL n0)) ∧ Grow H0 H') from hh.mono fun v _ ⟨e, g⟩ => ⟨e ▸ plain_str _, e, g⟩
  have d1 : decide ((n0 : Int) < 0) = false := decide_eq_false (by omega)
  refine AX.body (n := 33) (rs := [.tmp 2]) Tryd.func32 rfl (by decide) rfl rfl (bC_sound _ _ _ _ ?_)
  refine run ?_
  refine Ob2.alloc rfl fun q3 H1 hq3 a3 g1 => ?_
  have c1 : aconvert Tryd.prog 3 91 (.int .i64 (n0 : Int)) H1 = some (.int .u64 (n0 : Int)) := by
    have : aconvert Tryd.prog 3 91 (.int .i64 (n0 : Int)) H1 = some (.int .u64 (IntKind.u64.wrap (n0 : Int))) := rfl
    rw [this, IntWalk.u64_in _ ⟨by omega, by omega⟩]
  refine run ?_
  refine SW.loop (α := Nat × Nat × Bs × List Value) (fun y => [(0, .int .i64 (n0 : Int)), (3, .pointer (some ⟨q3, 0, none⟩)), (4, .int .i64 (y.1 : Int)), (5, .int .u64 (y.2.1 : Int))])
    (fun y X => 1 ≤ y.1 ∧ y.1 ≤ 20 ∧ y.2.1 ≤ n0 ∧ y.2.1 < 10 ^ y.1 ∧ decL n0 = decF y.1 y.2.1 y.2.2.1 ∧ y.2.2.2.length = 20 ∧ y.2.2.2.drop y.1 = u8s y.2.2.1 ∧ X[q3]? = some (.cells .var y.2.2.2) ∧ But q3 H1 X) (fun y => y.1)
    ⟨(20, n0, [], List.replicate 20 (.int .u8 0)), ⟨rfl, rfl, rfl, rfl, trivial⟩, by dsimp only; omega, Nat.le_refl _, Nat.le_refl _, by dsimp only; omega, rfl, rfl, rfl, a3, .refl _ _⟩ ?_
  rintro ⟨at_, n, acc, cs⟩ X ⟨h1, h20, hn, hp, hd, hcl, hcd, h3, kX⟩
  dsimp only at h1 h20 hn hp hd hcl hcd h3 ⊢
  have hf : at_ = (at_ - 1) + 1 := by omega
  rw [hf, decF_step] at hd
  rw [hf] at hp
  have hp' := pow_div hp
  have hnat := digN_nat n
  have f0 : abin Tryd.prog .sub 3 (.int .i64 (at_ : Int)) (.int .i64 1) = some (.int .i64 ((at_ - 1 : Nat) : Int)) := by
    have : abin Tryd.prog .sub 3 (.int .i64 (at_ : Int)) (.int .i64 1) = some (.int .i64 (IntKind.i64.wrap ((at_ : Int) - 1))) := rfl
    rw [this, wrap_i64 (by omega) (by omega)]; congr 2; omega
  have f1 : abin Tryd.prog .rem 91 (.int .u64 (n : Int)) (.int .u64 10) = some (.int .u64 ((n % 10 : Nat) : Int)) := by
    rw [rem_ok (by omega), Int.tmod_eq_emod_of_nonneg (by omega)]; rfl
  have f2 : aconvert Tryd.prog 91 5 (.int .u64 ((n % 10 : Nat) : Int)) X = some (.int .u8 ((n % 10 : Nat) : Int)) := by
    have : aconvert Tryd.prog 91 5 (.int .u64 ((n % 10 : Nat) : Int)) X = some (.int .u8 (IntKind.u8.wrap ((n % 10 : Nat) : Int))) := rfl
    rw [this, wrap_u8 (by omega) (by omega)]
  have f3 : abin Tryd.prog .add 5 (.int .u8 48) (.int .u8 ((n % 10 : Nat) : Int)) = some (u8 (digN n)) := by
    have : abin Tryd.prog .add 5 (.int .u8 48) (.int .u8 ((n % 10 : Nat) : Int)) = some (.int .u8 (IntKind.u8.wrap (48 + ((n % 10 : Nat) : Int)))) := rfl
    rw [this, wrap_u8 (by omega) (by omega)]
    show _ = some (Value.int .u8 ((digN n).toNat : Int))
    rw [hnat]; rfl
  have f4 : abin Tryd.prog .quo 91 (.int .u64 (n : Int)) (.int .u64 10) = some (.int .u64 ((n / 10 : Nat) : Int)) := by
    have : abin Tryd.prog .quo 91 (.int .u64 (n : Int)) (.int .u64 10) = some (.int .u64 (IntKind.u64.wrap ((n : Int).tdiv 10))) := rfl
    have e : (n : Int).tdiv 10 = ((n / 10 : Nat) : Int) := by rw [Int.tdiv_eq_ediv_of_nonneg (by omega)]; rfl
    rw [this, e, IntWalk.u64_in _ ⟨by omega, by omega⟩]
  have f5 : aindexAddr Tryd.prog 90 (.pointer (some ⟨q3, 0, none⟩)) (.int .i64 ((at_ - 1 : Nat) : Int)) = some (.pointer (some ⟨q3, at_ - 1, none⟩)) := by
    rw [idx_array (len := 20) (e := 5) (k := 1) rfl rfl (by omega) (by omega)]
    congr 4
    omega
  refine bC_sound _ _ _ _ ?_
  refine run ?_
  refine Ob.store rfl rfl rfl h3 rfl (by show at_ - 1 + 1 ≤ _; omega) fun Y y1 y2 y3 => ?_
  have hY : Y[q3]? = some (.cells .var (cs.set (at_ - 1) (u8 (digN n)))) := y1
  have hYd : (cs.set (at_ - 1) (u8 (digN n))).drop (at_ - 1) = u8s (digN n :: acc) := by
    rw [drop_cons' (i := at_ - 1) (x := u8 (digN n)) (by rw [List.getElem?_set_self (by omega)]), show at_ - 1 + 1 = at_ by omega, List.drop_set_of_lt (by omega), hcd]
    rfl
  have hYl : (cs.set (at_ - 1) (u8 (digN n))).length = 20 := by rw [List.length_set]; exact hcl
  refine run ?_
  by_cases h0 : n / 10 = 0
  · rw [if_pos h0] at hd
    have d2 : (((n / 10 : Nat) : Int) == 0) = true := by rw [beq_iff_eq]; omega
    have f6 : aslice3 Tryd.prog 20 5 (.pointer (some ⟨q3, 0, none⟩)) (some (.int .i64 ((at_ - 1 : Nat) : Int))) (some (.int .i64 20)) (some (.int .i64 20)) Y = some (.slice (some ⟨q3, at_ - 1, none⟩) (20 - (at_ - 1)) 1) := by
      rw [slice_arr (k := 1) rfl hY (by omega) (by omega) (by omega) (by decide) (by decide)]
      congr 4
      omega
    have f7 : aconvert Tryd.prog 48 9 (.slice (some ⟨q3, at_ - 1, none⟩) (20 - (at_ - 1)) 1) Y = some (.string (bstr (digN n :: acc))) := conv_sl hY (by
      rw [slots_of (by omega), hYd, List.take_of_length_le]
      rw [← hYd, List.length_drop]; omega)
    refine run ?_
    exact ⟨by rw [hd]; rfl, g1.but_new (kX.trans y2) (by omega)⟩
  · rw [if_neg h0] at hd
    have d2 : (((n / 10 : Nat) : Int) == 0) = false := by rw [beq_eq_false_iff_ne]; omega
    have hat2 : 2 ≤ at_ := by
      refine Decidable.byContradiction fun hc => ?_
      rw [show at_ - 1 = 0 by omega] at hp'
      omega
    refine run ?_
    exact ⟨(at_ - 1, n / 10, digN n :: acc, cs.set (at_ - 1) (u8 (digN n))), ⟨rfl, rfl, rfl, rfl, trivial⟩, ⟨by dsimp only; omega, by dsimp only; omega, by dsimp only; omega, hp', hd, hYl, hYd, hY, kX.trans y2⟩, by dsimp only; omega⟩
end Go.Proofs.YtmdpifedcaaobaaDoor
