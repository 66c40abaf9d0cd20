/- The law LexPlaces told of abstract memory: it answers true for every text. No condition. -/
import Derived.Test.YthhbocbgkhooaaaJLx3
set_option linter.unusedVariables false
set_option linter.unusedSimpArgs false
set_option maxRecDepth 20000
set_option maxHeartbeats 4000000
namespace Go.Proofs.Ythhbocbgkhooaaa
open Go Ax
theorem LexPlaces_ax (H : Heap) (c0 : List Value) (x0 : ByteArray) (hn : NoOwn H) (R0 : ty9.R H c0 x0) (o0 : ty9.ok x0) :
    AX Try.prog 4 #[arg1 c0] H fun v _ => v = .bool true := by
  obtain rfl : c0 = [.string x0] := R0
  show AX Try.prog 4 #[.string x0] H _
  have hsz := size_data x0
  refine AX.body (n := 109) (rs := [.tmp 2]) Try.func4 rfl (by decide) rfl rfl (bC_sound _ _ _ _ ?_)
  by_cases hl : x0.size ≤ 1900
  rotate_left
  · have d1 : decide ((x0.size : Int) > 1900) = true := decide_eq_true (by omega)
    refine run ?_
    refine (lxWorks_ax H).mono ?_
    rintro _ X ⟨rfl, e⟩
    refine run ?_
    rfl
  have d1 : decide ((x0.size : Int) > 1900) = false := decide_eq_false (by omega)
  refine run ?_
  refine (lxTokens_ax H (s := x0) (by omega)).mono ?_
  rintro _ X ⟨⟨tv, rfl, hr⟩, g⟩
  replace hr := hr.rl
  generalize hL : x0.data.toList = L at *
  have la := fun Z => hr.len (P := Try.prog) (t := 23) (e := 34) rfl Z
  have laX := la X
  by_cases he : (toks L).2.2 = 0
  rotate_left
  · have d2 : (!((toks L).2.2 == 0)) = true := by simpa using he
    rw [toks_none' he] at laX
    refine run ?_
    refine (lxWorks_ax X).mono ?_
    rintro _ Y ⟨rfl, e⟩
    refine run ?_
    rfl
  have d2 : (!((toks L).2.2 == 0)) = false := by simp [he]
  obtain ⟨A, hA, hall, hp⟩ := toks_good (L := L) (by omega) he
  have happ := toks_app (L := L) (by omega) he
  have hlen : (toks L).1.length = A.length + 1 := by rw [hA]; simp
  have hsmall := toks_small L
  have key : ∀ (i : Nat) t, (toks L).1[i]? = some t → rightB t = true ∧ (t.1 = 6 ↔ i = A.length) ∧ 0 ≤ t.2.2.2 ∧ t.2.2.2 ≤ (x0.size : Int) ∧ t.2.1.size ≤ 100000 ∧ ∀ u, (toks L).1[i + 1]? = some u → t.2.2.2 ≤ u.2.2.2 ∧ (i + 1 ≠ A.length → t.2.2.2 + 1 ≤ u.2.2.2) := fun i t ht => by
    rw [hA] at ht ⊢
    by_cases hi : i < A.length
    · rw [List.getElem?_append_left hi] at ht
      obtain ⟨b1, b2, b3, b4, b5⟩ := hall t (List.mem_of_getElem? ht)
      refine ⟨b1, ⟨fun h => absurd h b2, fun h => by omega⟩, b3, by omega, by omega, fun u hu => ?_⟩
      by_cases hi2 : i + 1 < A.length
      · rw [List.getElem?_append_left hi2] at hu
        have := List.pairwise_iff_getElem.1 hp i (i + 1) hi hi2 (by omega)
        rw [(List.getElem?_eq_some_iff.1 ht).2, (List.getElem?_eq_some_iff.1 hu).2] at this
        exact ⟨by omega, fun _ => by omega⟩
      · rw [List.getElem?_append_right (by omega), show i + 1 - A.length = 0 by omega] at hu
        simp only [List.getElem?_cons_zero, Option.some.injEq] at hu
        subst hu
        exact ⟨by dsimp only; omega, fun h => absurd (by omega) h⟩
    · have hil := lt_of_get ht
      rw [List.length_append, List.length_singleton] at hil
      rw [List.getElem?_append_right (by omega), show i - A.length = 0 by omega] at ht
      simp only [List.getElem?_cons_zero, Option.some.injEq] at ht
      subst ht
      refine ⟨rfl, ⟨fun _ => by omega, fun _ => rfl⟩, by dsimp only; omega, by dsimp only; omega, by dsimp only; rw [bstr_size]; simp, fun u hu => ?_⟩
      rw [List.getElem?_eq_none (by simp; omega)] at hu
      simp at hu
  generalize hl2 : (toks L).1.length = n at *
  refine run ?_
  refine SW.loop (α := Nat × Int) (fun y => [(0, .string x0), (3, tv), (6, .int .i64 y.2), (7, .int .i64 (y.1 : Int))]) (fun y Y => Y = X ∧ y.1 ≤ n ∧ (∀ t, (toks L).1[y.1]? = some t → y.2 ≤ t.2.2.2)) (fun y => n - y.1)
    ⟨(0, 0), ⟨rfl, rfl, rfl, rfl, trivial⟩, rfl, Nat.zero_le _, fun t ht => (key 0 t ht).2.2.1⟩ ?_
  rintro ⟨i, at_⟩ Y ⟨e, hi, hat⟩
  subst Y
  dsimp only at hi hat ⊢
  refine bC_sound _ _ _ _ ?_
  by_cases hil : i < n
  rotate_left
  · have d3 : decide ((i : Int) < (n : Int)) = false := decide_eq_false (by omega)
    have f1 : abin Try.prog .add 9 (.string x0) (.string ⟨#[32, 47, 47, 32, 34, 120]⟩) = some (.string (bstr (L ++ sfx))) := by
      have := add_strB L sfx (by rw [← hsz]; show x0.size + 6 ≤ _; omega)
      rw [← hL, bstr_data] at this
      rw [hL] at this
      exact this
    refine run ?_
    refine (lxTokens_ax X (s := bstr (L ++ sfx)) (by rw [bstr_size, List.length_append, ← hsz]; show x0.size + 6 ≤ _; omega)).mono ?_
    rintro _ Y ⟨⟨uv, rfl, hu⟩, g2⟩
    have lu := hu.rl.len (P := Try.prog) (t := 23) (e := 34) rfl Y
    rw [bstr_toList] at lu ⊢
    rw [happ.2] at lu
    have lY := la Y
    rw [happ.1]
    have d4 : ((n : Int) == (n : Int)) = true := by simp
    refine run ?_
    refine (lxWorks_ax Y).mono ?_
    rintro _ Z ⟨rfl, e⟩
    refine run ?_
    rfl
  have d3 : decide ((i : Int) < (n : Int)) = true := decide_eq_true (by omega)
  obtain ⟨t, ht⟩ := get_lt (L := (toks L).1) (m := i) (by omega)
  obtain ⟨k1, k2, k3, k4, k5, k6⟩ := key i t ht
  obtain ⟨p, p0, pp⟩ := tok_at hr (t := 23) (e := 34) rfl rfl ht
  obtain ⟨c, c1, c2, p1, p2, p3, p4⟩ := pp X (.refl _)
  have pl : aload Try.prog 34 (.pointer (some ⟨p, i * 4, none⟩)) X = some (tokV t) := ald_agg rfl rfl rfl c1 c2
  have w1 := w_succ (k := i) (by omega)
  have hat' := hat t ht
  have d4 : decide (t.2.2.2 < at_) = false := decide_eq_false (by omega)
  have d5 : decide (t.2.2.2 > (x0.size : Int)) = false := decide_eq_false (by omega)
  have f1 : abin Try.prog .sub 3 (.int .i64 (n : Int)) (.int .i64 1) = some (.int .i64 ((n : Int) - 1)) := by
    have : abin Try.prog .sub 3 (.int .i64 (n : Int)) (.int .i64 1) = some (.int .i64 (IntKind.i64.wrap ((n : Int) - 1))) := rfl
    rw [this, wrap_i64 (by omega) (by omega)]
  have f2 : abin Try.prog .sub 3 (.int .i64 (n : Int)) (.int .i64 2) = some (.int .i64 ((n : Int) - 2)) := by
    have : abin Try.prog .sub 3 (.int .i64 (n : Int)) (.int .i64 2) = some (.int .i64 (IntKind.i64.wrap ((n : Int) - 2))) := rfl
    rw [this, wrap_i64 (by omega) (by omega)]
  have f3 : abin Try.prog .add 3 (.int .i64 t.2.2.2) (.int .i64 1) = some (.int .i64 (t.2.2.2 + 1)) := by
    have : abin Try.prog .add 3 (.int .i64 t.2.2.2) (.int .i64 1) = some (.int .i64 (IntKind.i64.wrap (t.2.2.2 + 1))) := rfl
    rw [this, wrap_i64 (by omega) (by omega)]
  have d6 : (!(((t.1 == 6) : Bool) == (((i : Int) == ((n : Int) - 1)) : Bool))) = false := by
    have e : ((t.1 == 6) : Bool) = (((i : Int) == ((n : Int) - 1)) : Bool) := by
      rw [Bool.eq_iff_iff, beq_iff_eq, beq_iff_eq, k2]
      omega
    rw [e]; simp
  refine run ?_
  refine (lxRight_ax X (t := t) k5).mono ?_
  rintro _ Y ⟨rfl, e⟩
  subst Y
  rw [k1]
  by_cases h2 : (i : Int) = (n : Int) - 2
  · have d7 : ((i : Int) == ((n : Int) - 2)) = true := by simpa using h2
    refine run ?_
    exact ⟨(i + 1, t.2.2.2), ⟨rfl, rfl, rfl, congrArg (fun z => some (Value.int .i64 z)) w1, trivial⟩, ⟨rfl, by dsimp only; omega, fun u hu => (k6 u hu).1⟩, by dsimp only; omega⟩
  · have d7 : ((i : Int) == ((n : Int) - 2)) = false := by simpa using h2
    refine run ?_
    exact ⟨(i + 1, t.2.2.2 + 1), ⟨rfl, rfl, rfl, congrArg (fun z => some (Value.int .i64 z)) w1, trivial⟩, ⟨rfl, by dsimp only; omega, fun u hu => (k6 u hu).2 (by omega)⟩, by dsimp only; omega⟩
end Go.Proofs.Ythhbocbgkhooaaa
