/- A dict in abstract memory: places, and the map of names. -/
import Derived.Test.YtnmfmgnkfkhdhaaAx17
import Derived.Test.YtnmfmgnkfkhdhaaProg
set_option linter.unusedVariables false
set_option linter.unusedSimpArgs false
set_option maxRecDepth 20000
namespace Go.Proofs.Ytnmfmgnkfkhdhaa
open Go Ax
abbrev ptr (p : Nat) : Value := .pointer (some ⟨p, 0, none⟩)
abbrev V := Int × Int × ByteArray
abbrev valV (v : V) : Value := .agg #[.int .i64 v.1, .int .i64 v.2.1, .string v.2.2]
abbrev valC (v : V) : List Value := [.int .i64 v.1, .int .i64 v.2.1, .string v.2.2]
def cellP : Option (ByteArray × V) → List Value
  | none => [.string .empty, .int .i64 0, .int .i64 0, .string .empty, .bool false]
  | some x => [.string x.1, .int .i64 x.2.1, .int .i64 x.2.2.1, .string x.2.2.2, .bool true]
theorem cellP_len (x : Option (ByteArray × V)) : (cellP x).length = 5 := by cases x <;> rfl
def cellsP (ps : List (Option (ByteArray × V))) : List Value := ps.flatMap cellP
theorem cellsP_len (ps : List (Option (ByteArray × V))) : (cellsP ps).length = ps.length * 5 := by
  induction ps with
  | nil => rfl
  | cons x ps ih =>
    have : cellsP (x :: ps) = cellP x ++ cellsP ps := by simp [cellsP]
    rw [this, List.length_append, cellP_len, ih, List.length_cons]; omega
theorem cellsP_get : ∀ (ps : List (Option (ByteArray × V))) (q : Nat), (cellsP ps)[q]? = (ps[q / 5]?).bind fun x => (cellP x)[q % 5]? := by
  intro ps
  induction ps with
  | nil => intro q; simp [cellsP]
  | cons x ps ih =>
    intro q
    have h : cellsP (x :: ps) = cellP x ++ cellsP ps := by simp [cellsP]
    rw [h]
    by_cases hq : q < 5
    · rw [List.getElem?_append_left (by rw [cellP_len]; exact hq), show q / 5 = 0 by omega, show q % 5 = q by omega]
      rfl
    · rw [List.getElem?_append_right (by rw [cellP_len]; omega), cellP_len, ih, show q / 5 = (q - 5) / 5 + 1 by omega, show (q - 5) % 5 = q % 5 by omega]
      rfl
theorem cells_at {ps : List (Option (ByteArray × V))} {rest : List Value} {i j : Nat} {x : Option (ByteArray × V)} (h : ps[i]? = some x) (hj : j < 5) : (cellsP ps ++ rest)[i * 5 + j]? = (cellP x)[j]? := by
  have hl := (List.getElem?_eq_some_iff.1 h).1
  rw [List.getElem?_append_left (by rw [cellsP_len]; omega), cellsP_get, show (i * 5 + j) / 5 = i by omega, show (i * 5 + j) % 5 = j by omega, h]
  rfl
theorem cells_slots {ps : List (Option (ByteArray × V))} {rest : List Value} {i : Nat} {x : Option (ByteArray × V)} (h : ps[i]? = some x) : slotsOf (cellsP ps ++ rest) (i * 5) 5 = some (cellP x) := by
  have hl := (List.getElem?_eq_some_iff.1 h).1
  rw [slots_of (by rw [List.length_append, cellsP_len]; omega)]
  congr 1
  apply List.ext_getElem?
  intro j
  rw [List.getElem?_take]
  split
  · rename_i hj; rw [List.getElem?_drop, cells_at h hj]
  · rename_i hj; rw [List.getElem?_eq_none (by rw [cellP_len]; omega)]
theorem cells_slotsV {ps : List (Option (ByteArray × V))} {rest : List Value} {i : Nat} {n : ByteArray} {v : V} (h : ps[i]? = some (some (n, v))) : slotsOf (cellsP ps ++ rest) (i * 5 + 1) 3 = some (valC v) := by
  have hl := (List.getElem?_eq_some_iff.1 h).1
  rw [slots_of (by rw [List.length_append, cellsP_len]; omega)]
  congr 1
  apply List.ext_getElem?
  intro j
  rw [List.getElem?_take]
  split
  · rename_i hj
    rw [List.getElem?_drop, show i * 5 + 1 + j = i * 5 + (1 + j) by omega, cells_at h (by omega)]
    match j, hj with
    | 0, _ => rfl
    | 1, _ => rfl
    | 2, _ => rfl
  · rename_i hj; rw [List.getElem?_eq_none (by simp; omega)]
theorem cells_put {ps : List (Option (ByteArray × V))} {rest : List Value} {i : Nat} (x : Option (ByteArray × V)) (h : i < ps.length) : putL (cellsP ps ++ rest) (i * 5) (cellP x) = cellsP (ps.set i x) ++ rest := by
  apply List.ext_getElem?
  intro q
  rw [putL_get, cellP_len]
  have hl := cellsP_len ps
  have hl' := cellsP_len (ps.set i x)
  rw [List.length_set] at hl'
  by_cases hq : q < ps.length * 5
  · rw [List.getElem?_append_left (by omega), List.getElem?_append_left (by omega), cellsP_get, cellsP_get]
    by_cases hi : q / 5 = i
    · rw [if_pos ⟨by omega, by omega, by rw [List.length_append]; omega⟩, hi, List.getElem?_set_self h, show q - i * 5 = q % 5 by omega]; rfl
    · rw [if_neg (by omega), List.getElem?_set_ne (fun e => hi e.symm)]
  · rw [if_neg (by omega), List.getElem?_append_right (by omega), List.getElem?_append_right (by omega), hl, hl']
theorem cells_putV {ps : List (Option (ByteArray × V))} {rest : List Value} {i : Nat} {n : ByteArray} {v : V} (w : V) (h : ps[i]? = some (some (n, v))) : putL (cellsP ps ++ rest) (i * 5 + 1) (valC w) = cellsP (ps.set i (some (n, w))) ++ rest := by
  have hi := (List.getElem?_eq_some_iff.1 h).1
  apply List.ext_getElem?
  intro q
  rw [putL_get]
  have hl := cellsP_len ps
  have hl' := cellsP_len (ps.set i (some (n, w)))
  rw [List.length_set] at hl'
  by_cases hq : q < ps.length * 5
  · rw [List.getElem?_append_left (by omega), List.getElem?_append_left (by omega), cellsP_get, cellsP_get]
    by_cases hqi : q / 5 = i
    · rw [hqi, List.getElem?_set_self hi, h]
      obtain ⟨j, hj, rfl⟩ : ∃ j, j < 5 ∧ q = i * 5 + j := ⟨q % 5, by omega, by omega⟩
      rw [show (i * 5 + j) % 5 = j by omega]
      match j, hj with
      | 0, _ => rw [if_neg (by omega)]; rfl
      | 1, _ => rw [if_pos ⟨by omega, by simp, by rw [List.length_append]; omega⟩, show i * 5 + 1 - (i * 5 + 1) = 0 by omega]; rfl
      | 2, _ => rw [if_pos ⟨by omega, by simp, by rw [List.length_append]; omega⟩, show i * 5 + 2 - (i * 5 + 1) = 1 by omega]; rfl
      | 3, _ => rw [if_pos ⟨by omega, by simp, by rw [List.length_append]; omega⟩, show i * 5 + 3 - (i * 5 + 1) = 2 by omega]; rfl
      | 4, _ => rw [if_neg (by simp)]; rfl
    · rw [if_neg (by simp; omega), List.getElem?_set_ne (fun e => hqi e.symm)]
  · rw [if_neg (by simp; omega), List.getElem?_append_right (by omega), List.getElem?_append_right (by omega), hl, hl']
/-! The map of names. -/
abbrev ents (em : List (ByteArray × Nat)) : List (Value × Value) := em.map fun x => (.string x.1, .int .i64 (x.2 : Int))
theorem ba_beq (s t : ByteArray) : (s == t) = decide (s = t) := by
  show (s.data == t.data) = _
  by_cases h : s = t
  · subst h; simp
  · rw [decide_eq_false h, beq_eq_false_iff_ne]; exact fun e => h (ByteArray.ext e)
theorem eqKey_str (a b : ByteArray) : eqKey Try.prog 9 (.string a) (.string b) = some (decide (a = b)) := by
  simp only [eqKey, show Try.prog.underlying 9 = some .string from rfl, ba_beq]
theorem mfind_none {n : ByteArray} : ∀ (em : List (ByteArray × Nat)) (i : Nat), n ∉ em.map Prod.fst → mfind Try.prog 9 (.string n) (ents em) i = some none := by
  intro em
  induction em with
  | nil => intro i h; rfl
  | cons x em ih =>
    intro i h
    simp only [List.map_cons, List.mem_cons, not_or] at h
    simp only [ents, List.map_cons, mfind, eqKey_str, decide_eq_false h.1, Option.bind_some]
    exact ih (i + 1) h.2
theorem mfind_some {n : ByteArray} {k : Nat} : ∀ (em : List (ByteArray × Nat)) (i j : Nat), (em.map Prod.fst).Nodup → em[j]? = some (n, k) → mfind Try.prog 9 (.string n) (ents em) i = some (some (i + j)) := by
  intro em
  induction em with
  | nil => intro i j hn h; simp at h
  | cons x em ih =>
    intro i j hn h
    simp only [List.map_cons, List.nodup_cons] at hn
    cases j with
    | zero =>
      simp only [List.getElem?_cons_zero, Option.some.injEq] at h
      subst h
      simp only [ents, List.map_cons, mfind, eqKey_str, Option.bind_some, decide_true, if_true]
      rfl
    | succ j =>
      simp only [List.getElem?_cons_succ] at h
      have hne : n ≠ x.1 := by
        rintro rfl
        exact hn.1 (List.mem_map.2 ⟨_, List.mem_of_getElem? h, rfl⟩)
      simp only [ents, List.map_cons, mfind, eqKey_str, decide_eq_false hne, Option.bind_some]
      have := ih (i + 1) j hn.2 h
      rw [show i + (j + 1) = i + 1 + j by omega]
      exact this
theorem akey_none {n : ByteArray} {em : List (ByteArray × Nat)} (h : n ∉ em.map Prod.fst) : akey Try.prog 9 (.string n) (ents em) = some none := by
  simp only [akey, show plainKey Try.prog 9 (.string n) = true from rfl, if_true]
  exact mfind_none em 0 h
theorem akey_some {n : ByteArray} {em : List (ByteArray × Nat)} {j k : Nat} (hn : (em.map Prod.fst).Nodup) (h : em[j]? = some (n, k)) : akey Try.prog 9 (.string n) (ents em) = some (some j) := by
  simp only [akey, show plainKey Try.prog 9 (.string n) = true from rfl, if_true]
  rw [mfind_some em 0 j hn h, Nat.zero_add]
theorem mapOf_d : mapOf Try.prog 48 = some (9, 3) := rfl
theorem hmap_of {H : Heap} {b : Nat} {o : Bool} {es : List (Value × Value)} (h : H[b]? = some (.map o es)) : hmap H b = some es := by simp [hmap, h]
theorem look_none {H : Heap} {mb : Nat} {n : ByteArray} {em : List (ByteArray × Nat)} (hm : H[mb]? = some (.map true (ents em))) (h : n ∉ em.map Prod.fst) :
    alookup Try.prog 48 (.map (some mb)) (.string n) true H = some (.tuple #[.int .i64 0, .bool false]) := by
  simp only [alookup, mapOf_d, Option.bind_some, mentries, hmap_of hm, akey_none h]
  rfl
theorem look_some {H : Heap} {mb : Nat} {n : ByteArray} {em : List (ByteArray × Nat)} {j k : Nat} (hm : H[mb]? = some (.map true (ents em))) (hn : (em.map Prod.fst).Nodup) (h : em[j]? = some (n, k)) :
    alookup Try.prog 48 (.map (some mb)) (.string n) true H = some (.tuple #[.int .i64 (k : Int), .bool true]) := by
  have h2 : (ents em)[j]? = some (.string n, .int .i64 (k : Int)) := by simp [h]
  simp only [alookup, mapOf_d, Option.bind_some, mentries, hmap_of hm, akey_some hn h, h2]
  rfl
theorem upd_new {H : Heap} {mb : Nat} {n : ByteArray} {em : List (ByteArray × Nat)} {k : Nat} (hm : H[mb]? = some (.map true (ents em))) (h : n ∉ em.map Prod.fst) :
    amapUpdate Try.prog 48 (.map (some mb)) (.string n) (.int .i64 (k : Int)) H = some (H.set mb (.map true (ents (em ++ [(n, k)])))) := by
  simp only [amapUpdate, mapOf_d, Option.bind_some, hm, akey_none h]
  simp [ents]
theorem upd_old {H : Heap} {mb : Nat} {n : ByteArray} {em : List (ByteArray × Nat)} {j k k' : Nat} (hm : H[mb]? = some (.map true (ents em))) (hn : (em.map Prod.fst).Nodup) (h : em[j]? = some (n, k)) :
    amapUpdate Try.prog 48 (.map (some mb)) (.string n) (.int .i64 (k' : Int)) H = some (H.set mb (.map true (ents (em.set j (n, k'))))) := by
  have h2 : (ents em)[j]? = some (.string n, .int .i64 (k : Int)) := by simp [h]
  simp only [amapUpdate, mapOf_d, Option.bind_some, hm, akey_some hn h, h2]
  rw [if_pos ⟨rfl, rfl, by simp [Instr.sameBits, ba_beq]⟩]
  simp [ents, List.map_set]
theorem map_erase {α β : Type} (f : α → β) : ∀ (l : List α) (j : Nat), (l.map f).eraseIdx j = (l.eraseIdx j).map f := by
  intro l
  induction l with
  | nil => intro j; cases j <;> rfl
  | cons a l ih =>
    intro j
    cases j with
    | zero => rfl
    | succ j => simp [ih]
theorem del_some {H : Heap} {mb : Nat} {n : ByteArray} {em : List (ByteArray × Nat)} {j k : Nat} (hm : H[mb]? = some (.map true (ents em))) (hn : (em.map Prod.fst).Nodup) (h : em[j]? = some (n, k)) :
    adelete Try.prog 48 (.map (some mb)) (.string n) H = some (H.set mb (.map true (ents (em.eraseIdx j)))) := by
  simp only [adelete, mapOf_d, Option.bind_some, hm, akey_some hn h]
  simp only [Option.map_some, ents, map_erase]
end Go.Proofs.Ytnmfmgnkfkhdhaa
