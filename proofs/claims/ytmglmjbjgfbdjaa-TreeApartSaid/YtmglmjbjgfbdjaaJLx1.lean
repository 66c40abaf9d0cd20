/- Package lex in plain data: bytes, words, numbers, signs, blanks, tokens. -/
import Derived.Test.YtmglmjbjgfbdjaaJTx1
set_option linter.unusedVariables false
set_option linter.unusedSimpArgs false
set_option maxRecDepth 20000
set_option maxHeartbeats 4000000
namespace Go.Proofs.Ytmglmjbjgfbdjaa
open Go Ax
abbrev Bs := List UInt8
def bstr (l : Bs) : ByteArray := ⟨l.toArray⟩
theorem bstr_data (s : ByteArray) : bstr s.data.toList = s := rfl
theorem bstr_toList (l : Bs) : (bstr l).data.toList = l := rfl
theorem bstr_inj {l m : Bs} (h : bstr l = bstr m) : l = m := by
  have := congrArg (fun s => s.data.toList) h
  exact this
theorem bstr_size (l : Bs) : (bstr l).size = l.length := rfl
theorem ba_list (s t : ByteArray) : (s == t) = decide (s.data.toList = t.data.toList) := by
  rw [ba_beq]
  by_cases h : s = t
  · rw [decide_eq_true h, decide_eq_true (by rw [h])]
  · rw [decide_eq_false h, decide_eq_false fun e => h (by rw [← bstr_data s, ← bstr_data t, e])]
theorem size_data (s : ByteArray) : s.size = s.data.toList.length := by simp
theorem ext_list (s : ByteArray) (a b : Nat) : (s.extract a b).data.toList = (s.data.toList.drop a).take (b - a) := by
  rw [ByteArray.data_extract, Array.toList_extract, List.extract_eq_take_drop]
theorem ext_bstr (s : ByteArray) (a b : Nat) : s.extract a b = bstr ((s.data.toList.drop a).take (b - a)) := by
  rw [← bstr_data (s.extract a b), ext_list]
def keysL : List Bs := [[99, 111, 117, 110, 116], [100, 101, 108, 101, 116, 101], [101, 108, 115, 101], [102, 97, 108, 115, 101], [102, 110], [104, 97, 115], [105, 102], [107, 101, 121], [108, 101, 110], [108, 101, 116], [110, 117, 108, 108], [112, 114, 105, 110, 116], [112, 114, 111, 116, 111], [114, 101, 116, 117, 114, 110], [115, 101, 116, 112, 114, 111, 116, 111], [115, 116, 114], [116, 104, 105, 115], [116, 114, 117, 101], [119, 104, 105, 108, 101]]
def keyS (L : Bs) : Bool := decide (L ∈ keysL)
def twoL : List Bs := [[60, 61], [62, 61], [61, 61], [33, 61], [38, 38], [124, 124]]
def oneCL : List Bs := [[40], [41], [123], [125], [91], [93], [44], [59], [58], [46], [43], [45], [42], [47], [37], [60], [62], [61], [33]]
def signsL : List Bs := twoL ++ oneCL
/-- The sign with which a text begins. -/
def signS (r : Bs) : Bs := if r.take 2 ∈ twoL then r.take 2 else if r.take 1 ∈ oneCL then r.take 1 else []
def digB (c : UInt8) : Bool := digitB (c.toNat : Int)
def letB (c : UInt8) : Bool := letterB (c.toNat : Int)
def wordB (c : UInt8) : Bool := letB c || digB c
/-- A number as text. -/
def decF : Nat → Nat → Bs → Bs
  | 0, _, acc => acc
  | f + 1, n, acc => if n < 10 then UInt8.ofNat (48 + n) :: acc else decF f (n / 10) (UInt8.ofNat (48 + n % 10) :: acc)
def decL (n : Nat) : Bs := decF 20 n []
/-- A text as a number. -/
def mostN : Int := 4611686018427387903
def readF : Bs → Int → Bool → Int × Int
  | [], n, big => if big = true then (0, 10) else (n, 0)
  | c :: r, n, big => if digB c = true then (if big = true ∨ (mostN - ((c.toNat : Int) - 48)).tdiv 10 < n then readF r n true else readF r (n * 10 + ((c.toNat : Int) - 48)) false) else (0, 11)
def readS (L : Bs) : Int × Int := if L = [] then (0, 11) else readF L 0 false
/-- Behind blanks; in a note, or not. -/
def skipL : Bool → Bs → Bs
  | _, [] => []
  | true, c :: r => if c = 10 then skipL false r else skipL true r
  | false, c :: r => if c = 47 ∧ r.head? = some 47 then skipL true r else if c = 32 ∨ c = 10 ∨ c = 9 then skipL false r else c :: r
inductive OneR where
  | tok (kind : Int) (text : Bs) (n : Int) (len : Nat)
  | err (off : Nat) (e : Int)
/-- The token with which a text begins. -/
def oneL (r : Bs) : OneR :=
  match r with
  | [] => .err 0 11
  | c :: _ =>
    if letB c = true then (if keyS (r.takeWhile wordB) = true then .tok 2 (r.takeWhile wordB) 0 (r.takeWhile wordB).length else if nameS (r.takeWhile wordB) = true then .tok 1 (r.takeWhile wordB) 0 (r.takeWhile wordB).length else .err 0 11)
    else if digB c = true then (if (readS (r.takeWhile digB)).2 = 0 then .tok 3 (decL (readS (r.takeWhile digB)).1.toNat) (readS (r.takeWhile digB)).1 (r.takeWhile digB).length else .err 0 (readS (r.takeWhile digB)).2)
    else if c = 34 then (if (takeS r).2.2 = 0 then (if 256 < (takeS r).1.length then .err 0 3 else .tok 4 (takeS r).1 0 (takeS r).2.1) else .err (takeS r).2.1 (takeS r).2.2)
    else if signS r = [] then .err 0 11 else .tok 5 (signS r) 0 (signS r).length
abbrev TokX := Int × ByteArray × Int × Int
def toksF : Nat → Nat → Bs → List TokX → List TokX × Int × Int
  | 0, _, _, _ => ([], 0, 0)
  | f + 1, len, r, out =>
    match skipL false r with
    | [] => (out ++ [(6, bstr [], 0, (len : Int))], 0, 0)
    | c :: q =>
      match oneL (c :: q) with
      | .err off e => ([], ((len - (c :: q).length + off : Nat) : Int), e)
      | .tok k t n w => if out.length = 600 then ([], ((len - (c :: q).length : Nat) : Int), 5) else toksF f len ((c :: q).drop w) (out ++ [(k, bstr t, n, ((len - (c :: q).length : Nat) : Int))])
def toks (L : Bs) : List TokX × Int × Int := if 2000 < L.length then ([], 0, 3) else toksF (L.length + 1) L.length L []
/-! What is a part of what. -/
theorem skip_suffix : ∀ (b : Bool) (r : Bs), skipL b r <:+ r
  | _, [] => by cases ‹Bool› <;> exact List.suffix_refl _
  | true, c :: r => by
    unfold skipL
    split
    · exact (skip_suffix false r).trans (List.suffix_cons _ _)
    · exact (skip_suffix true r).trans (List.suffix_cons _ _)
  | false, c :: r => by
    unfold skipL
    split
    · exact (skip_suffix true r).trans (List.suffix_cons _ _)
    · split
      · exact (skip_suffix false r).trans (List.suffix_cons _ _)
      · exact List.suffix_refl _
theorem skip_len (b : Bool) (r : Bs) : (skipL b r).length ≤ r.length := (skip_suffix b r).length_le
theorem sign_len (r : Bs) : (signS r).length ≤ r.length ∧ (signS r).length ≤ 2 ∧ signS r = r.take (signS r).length := by
  unfold signS
  split
  · rw [List.length_take]; exact ⟨by omega, by omega, by rw [List.take_eq_take_iff]; omega⟩
  · split
    · rw [List.length_take]; exact ⟨by omega, by omega, by rw [List.take_eq_take_iff]; omega⟩
    · simp
theorem tw_len (p : UInt8 → Bool) (r : Bs) : (r.takeWhile p).length ≤ r.length := (List.takeWhile_prefix p).length_le
theorem one_len {r : Bs} {k : Int} {t : Bs} {n : Int} {w : Nat} (h : oneL r = .tok k t n w) : 1 ≤ w ∧ w ≤ r.length := by
  unfold oneL at h
  split at h
  · simp at h
  · rename_i c q
    have pos : ∀ p : UInt8 → Bool, p c = true → 1 ≤ ((c :: q).takeWhile p).length := fun p hp => by rw [List.takeWhile_cons_of_pos hp, List.length_cons]; omega
    split at h
    · rename_i hl
      have := pos wordB (by simp [wordB, hl])
      split at h
      · simp only [OneR.tok.injEq] at h
        obtain ⟨_, _, _, rfl⟩ := h
        exact ⟨this, tw_len _ _⟩
      · split at h
        · simp only [OneR.tok.injEq] at h
          obtain ⟨_, _, _, rfl⟩ := h
          exact ⟨this, tw_len _ _⟩
        · simp at h
    · split at h
      · rename_i hd
        have := pos digB hd
        split at h
        · simp only [OneR.tok.injEq] at h
          obtain ⟨_, _, _, rfl⟩ := h
          exact ⟨this, tw_len _ _⟩
        · simp at h
      · split at h
        · split at h
          · rename_i he
            split at h
            · simp at h
            · simp only [OneR.tok.injEq] at h
              obtain ⟨_, _, _, rfl⟩ := h
              have hg := take_good (L := c :: q) (x := (takeS (c :: q)).1) (n := (takeS (c :: q)).2.1) (by rw [← he])
              exact ⟨by omega, hg.2.1⟩
          · simp at h
        · split at h
          · simp at h
          · rename_i hs
            simp only [OneR.tok.injEq] at h
            obtain ⟨_, _, _, rfl⟩ := h
            refine ⟨?_, (sign_len _).1⟩
            cases hh : signS (c :: q) with
            | nil => exact absurd hh hs
            | cons a b => simp
end Go.Proofs.Ytmglmjbjgfbdjaa
