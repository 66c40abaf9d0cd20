/- The law LexTells told of abstract memory: it answers true for all tokens and every text. No condition. -/
import Derived.Test.YthhbocbgkhooaaaJLx2
set_option linter.unusedVariables false
set_option linter.unusedSimpArgs false
set_option maxRecDepth 20000
set_option maxHeartbeats 4000000
namespace Go.Proofs.Ythhbocbgkhooaaa
open Go Ax
theorem lexTellsL_ax {H : Heap} {v : Value} {A : List TokX} {s : ByteArray} (hr : RL 4 tokR H v A) : AX Try.prog 5 #[v, .string s] H fun r _ => r = .bool true := by
  refine AX.body (n := 53) (rs := [.tmp 4]) Try.func5 rfl (by decide) rfl rfl (bC_sound _ _ _ _ ?_)
  refine run ?_
  refine (others_ax hr).mono ?_
  rintro _ X ⟨⟨mv, rfl, hm, _, hL, hs⟩ | ⟨mv, rfl⟩, g⟩
  rotate_left
  · refine run ?_
    refine (lxWorks_ax X).mono ?_
    rintro _ Y ⟨rfl, e⟩
    refine run ?_
    rfl
  by_cases hl : s.size ≤ 600
  rotate_left
  · have d1 : decide ((s.size : Int) > 600) = true := decide_eq_true (by omega)
    refine run ?_
    refine (lxWorks_ax X).mono ?_
    rintro _ Y ⟨rfl, e⟩
    refine run ?_
    rfl
  have d1 : decide ((s.size : Int) > 600) = false := decide_eq_false (by omega)
  replace hm := hm.rl
  have la := hr.len (P := Try.prog) (t := 23) (e := 34) rfl X
  refine run ?_
  refine SW.loop (α := Nat) (fun i => [(0, v), (1, .string s), (5, mv), (7, .int .i64 (i : Int))]) (fun i Y => Y = X ∧ i ≤ A.length) (fun i => A.length - i) ⟨0, ⟨rfl, rfl, rfl, rfl, trivial⟩, rfl, Nat.zero_le _⟩ ?_
  clear d1
  rintro i Y ⟨e, hi⟩
  subst Y
  refine bC_sound _ _ _ _ ?_
  by_cases hil : i < A.length
  rotate_left
  · have d1 : decide ((i : Int) < (A.length : Int)) = false := decide_eq_false (by omega)
    refine run ?_
    refine (lxPrint_ax (tokR.grow hr g) (by omega) hs).mono ?_
    rintro _ Y ⟨rfl, e⟩
    subst Y
    refine run ?_
    refine (rxPrint_ax hm (by omega) hs).mono ?_
    rintro _ Y ⟨rfl, e⟩
    subst Y
    have e1 : (bstr (printS A) == bstr (printS A)) = true := by rw [ba_list]; simp
    refine run ?_
    refine (lxIsKey_ax X s).mono ?_
    rintro _ Y ⟨rfl, e⟩
    subst Y
    refine run ?_
    refine (rxIsKey_ax X s).mono ?_
    rintro _ Y ⟨rfl, e⟩
    subst Y
    have e2 : (keyS s.data.toList == keyS s.data.toList) = true := by simp
    refine run ?_
    refine (lxWorks_ax X).mono ?_
    rintro _ Y ⟨rfl, e⟩
    refine run ?_
    rfl
  have d1 : decide ((i : Int) < (A.length : Int)) = true := decide_eq_true (by omega)
  obtain ⟨t, ht⟩ := get_lt hil
  have htm := hs t (List.mem_of_getElem? ht)
  obtain ⟨p, p0, pp⟩ := tok_at hr (t := 23) (e := 34) rfl rfl ht
  obtain ⟨c, c1, c2, _⟩ := pp X g
  have pl : aload Try.prog 34 (.pointer (some ⟨p, i * 4, none⟩)) X = some (tokV t) := ald_agg rfl rfl rfl c1 c2
  obtain ⟨q, q0, qq⟩ := tok_at hm (t := 27) (e := 38) rfl rfl ht
  obtain ⟨c', k1, k2, _⟩ := qq X (.refl _)
  have ql : aload Try.prog 38 (.pointer (some ⟨q, i * 4, none⟩)) X = some (tokV t) := ald_agg rfl rfl rfl k1 k2
  have w1 := w_succ (k := i) (by omega)
  refine run ?_
  apply SW.drawH [(0, [], [28, 32, 33, 34, 35], false), (1, [], [27, 32, 33, 34, 35], false), (2, [(27, 0), (28, 1)], [27, 28, 32, 33, 34, 35], false), (3, [(27, 0), (28, 1), (29, 2)], [27, 28, 29, 32, 33, 34, 35], false), (5, [], [27, 28, 29, 30, 31, 33], false), (6, [], [27, 28, 29, 30, 31, 32], false), (7, [(32, 5), (33, 6)], [27, 28, 29, 30, 31, 32, 33], false), (8, [(32, 5), (33, 6), (34, 7)], [27, 28, 29, 30, 31, 32, 33, 34], false), (4, [(27, 0), (28, 1), (29, 2), (30, 3)], [27, 28, 29, 30, 32, 33, 34, 35], true), (9, [(27, 0), (28, 1), (29, 2), (30, 3), (31, 4), (32, 5), (33, 6), (34, 7), (35, 8)], [27, 28, 29, 30, 31, 32, 33, 34, 35], true), (10, [(27, 0), (28, 1), (29, 2), (30, 3), (31, 4), (32, 5), (33, 6), (34, 7), (35, 8), (36, 9)], [27, 28, 29, 30, 31, 32, 33, 34, 35, 36], false)]
    [(27, 0), (28, 1), (29, 2), (30, 3), (31, 4), (32, 5), (33, 6), (34, 7), (35, 8), (36, 9), (37, 10)] [4]
    [(0, _), (1, _), (5, _), (7, _)] rfl (by kernel_rfl)
  case hF => exact ⟨rfl, rfl, rfl, rfl, trivial⟩
  refine run ?_
  refine (lxRight_ax X (t := t) (by omega)).mono ?_
  rintro _ Y ⟨rfl, e⟩
  subst Y
  refine run ?_
  refine (rxRight_ax X (t := t) (by omega)).mono ?_
  rintro _ Y ⟨rfl, e⟩
  subst Y
  have e2 : (!(rightB t == rightB t)) = false := by simp
  refine run ?_
  exact ⟨i + 1, ⟨rfl, rfl, rfl, congrArg (fun z => some (Value.int .i64 z)) w1, trivial⟩, ⟨rfl, by omega⟩, by dsimp only; omega⟩
theorem LexTells_ax (H : Heap) (c0 : List Value) (x0 : List ((Int) × (ByteArray) × (Int) × (Int))) (c1 : List Value) (x1 : ByteArray) (hn : NoOwn H) (R0 : ty23.R H c0 x0) (o0 : ty23.ok x0) (R1 : ty9.R H c1 x1) (o1 : ty9.ok x1) :
    AX Try.prog 5 #[arg1 c0, arg1 c1] H fun v _ => v = .bool true := by
  obtain rfl : c1 = [.string x1] := R1
  obtain ⟨v, e0, hr⟩ := RL.ofTy (f := tokR) (fun l x h => tok_of h) R0
  rw [e0]
  exact lexTellsL_ax hr
end Go.Proofs.Ythhbocbgkhooaaa
