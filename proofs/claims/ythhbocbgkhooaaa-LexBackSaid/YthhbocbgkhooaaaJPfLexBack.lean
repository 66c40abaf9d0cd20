/- The law LexBack told of abstract memory: it answers true for all tokens. No condition. -/
import Derived.Test.YthhbocbgkhooaaaJLx2
set_option linter.unusedVariables false
set_option linter.unusedSimpArgs false
set_option maxRecDepth 20000
set_option maxHeartbeats 4000000
namespace Go.Proofs.Ythhbocbgkhooaaa
open Go Ax
theorem lexBackL_ax {H : Heap} {v : Value} {A : List TokX} (hr : RL 4 tokR H v A) : AX Try.prog 6 #[v] H fun r _ => r = .bool true := by
  refine AX.body (n := 76) (rs := [.tmp 2]) Try.func6 rfl (by decide) rfl rfl (bC_sound _ _ _ _ ?_)
  refine run ?_
  refine (others_ax hr).mono ?_
  rintro _ X ⟨⟨mv, rfl, hm, hmb, hL, hs⟩ | ⟨mv, rfl⟩, g⟩
  rotate_left
  · refine run ?_
    refine (lxWorks_ax X).mono ?_
    rintro _ Y ⟨rfl, e⟩
    refine run ?_
    rfl
  have la := fun Z => hr.len (P := Try.prog) (t := 23) (e := 34) rfl Z
  have laX := la X
  refine run ?_
  refine SW.loop (α := Nat) (fun i => [(0, v), (3, mv), (5, .int .i64 (i : Int))]) (fun i Y => Y = X ∧ i ≤ A.length ∧ ∀ t ∈ A.take i, rightB t = true ∧ t.1 ≠ 6) (fun i => A.length - i) ⟨0, ⟨rfl, rfl, rfl, trivial⟩, rfl, Nat.zero_le _, by simp⟩ ?_
  rintro i Y ⟨e, hi, hall⟩
  subst Y
  refine bC_sound _ _ _ _ ?_
  by_cases hil : i < A.length
  rotate_left
  · have d1 : decide ((i : Int) < (A.length : Int)) = false := decide_eq_false (by omega)
    rw [List.take_of_length_le (by omega)] at hall
    have hpl := print_len hs
    refine run ?_
    refine (lxPrint_ax (tokR.grow hr g) (by omega) hs).mono ?_
    rintro _ Y ⟨rfl, e⟩
    subst Y
    generalize hS : printS A = S at *
    refine run ?_
    refine (lxTokens_ax X (s := bstr S) (by rw [bstr_size]; omega)).mono ?_
    rintro _ Y ⟨⟨tv, rfl, ht⟩, g2⟩
    rw [bstr_toList] at ht ⊢
    have lay := la Y
    by_cases h2 : 2000 < S.length
    · have d2 : decide (((bstr S).size : Int) > 2000) = true := decide_eq_true (by rw [bstr_size]; omega)
      have he : toks S = ([], 0, 3) := by unfold toks; rw [if_pos h2]
      rw [he]
      refine run ?_
      refine (lxWorks_ax Y).mono ?_
      rintro _ Z ⟨rfl, e⟩
      refine run ?_
      rfl
    have d2 : decide (((bstr S).size : Int) > 2000) = false := decide_eq_false (by rw [bstr_size]; omega)
    have hte := toks_eq (L := S) (by omega)
    by_cases h6 : 600 < A.length
    · have d3 : decide ((A.length : Int) > 600) = true := decide_eq_true (by omega)
      have hf := toks_full A hall S.length S.length [] (by rw [hS]; omega) (by simp) (by simpa using h6)
      rw [hS, ← hte] at hf
      rw [hf]
      refine run ?_
      refine (lxWorks_ax Y).mono ?_
      rintro _ Z ⟨rfl, e⟩
      refine run ?_
      rfl
    have d3 : decide ((A.length : Int) > 600) = false := decide_eq_false (by omega)
    obtain ⟨A', ⟨a1, a2⟩, a3⟩ := toks_back A hall S.length S.length [] (by rw [hS]; omega) (by simp; omega)
    rw [hS, ← hte, List.nil_append] at a3
    rw [a3] at ht ⊢
    obtain ⟨sa, sn, sm, rfl⟩ := hm.form
    have hmY := hm.keep (fun b c _ hb => g2.at hb) fun _ _ _ h => h
    refine run ?_
    refine Ob2.lay (H := Y) (.cells (.row 38) [.int .i64 6, .string ⟨#[]⟩, .int .i64 0, .int .i64 0]) (.slice (some ⟨Y.length, 0, none⟩) 1 4) rfl fun U b2 e2 l2 => ?_
    obtain ⟨U3, ap, o3, f3, n3⟩ := OwnR.append (n := H.length) (x := (6, bstr [], 0, 0)) rowTokR rowTokR (hmY.keep (fun b c _ h => e2.at h) fun _ _ _ h => h) b2 rfl rfl hmb (by have := e2.1; have := g2.1; have := g.1; omega) (by omega) (fun _ _ _ _ _ h => h)
    refine run ?_
    refine Ob2.of ap ?_
    have ht3 := (ht.keep (fun b c _ h => e2.at h) fun _ _ _ h => h).keepR f3 (by decide) fun _ _ _ h => h
    refine run ?_
    refine (same_ax ht3.rl o3.rl (by simp; omega) false (by simp [a1]) (fun i x y hx hy => ?_)).mono ?_
    · by_cases hi : i < A'.length
      · rw [List.getElem?_append_left hi] at hx
        rw [List.getElem?_append_left (by omega)] at hy
        obtain ⟨q1, q2, q3⟩ := a2 i x y hx hy
        exact ⟨q1, q2, q3, fun h => by simp at h⟩
      · have hxl := lt_of_get hx
        rw [List.length_append, List.length_singleton] at hxl
        rw [List.getElem?_append_right (by omega), show i - A'.length = 0 by omega] at hx
        rw [List.getElem?_append_right (by omega), show i - A.length = 0 by omega] at hy
        simp only [List.getElem?_cons_zero, Option.some.injEq] at hx hy
        subst hx hy
        exact ⟨rfl, rfl, rfl, fun h => by simp at h⟩
    · rintro _ Z ⟨rfl, e⟩
      subst Z
      refine run ?_
      refine (lxWorks_ax U3).mono ?_
      rintro _ Z ⟨rfl, e⟩
      refine run ?_
      rfl
  have d1 : decide ((i : Int) < (A.length : Int)) = true := decide_eq_true (by omega)
  obtain ⟨t, ht⟩ := get_lt hil
  have htm := hs t (List.mem_of_getElem? ht)
  obtain ⟨p, p0, pp⟩ := tok_at hr (t := 23) (e := 34) rfl rfl ht
  obtain ⟨c, c1, c2, p1, _⟩ := pp X g
  have pl : aload Try.prog 34 (.pointer (some ⟨p, i * 4, none⟩)) X = some (tokV t) := ald_agg rfl rfl rfl c1 c2
  have w1 := w_succ (k := i) (by omega)
  refine run ?_
  refine (lxRight_ax X (t := t) (by omega)).mono ?_
  rintro _ Y ⟨rfl, e⟩
  subst Y
  cases hrt : rightB t with
  | false =>
    refine run ?_
    refine (lxWorks_ax X).mono ?_
    rintro _ Z ⟨rfl, e⟩
    refine run ?_
    rfl
  | true =>
    by_cases h6 : t.1 = 6
    · have d2 : (t.1 == 6) = true := by simpa using h6
      refine run ?_
      refine (lxWorks_ax X).mono ?_
      rintro _ Z ⟨rfl, e⟩
      refine run ?_
      rfl
    · have d2 : (t.1 == 6) = false := by simpa using h6
      refine run ?_
      refine ⟨i + 1, ⟨rfl, rfl, congrArg (fun z => some (Value.int .i64 z)) w1, trivial⟩, ⟨rfl, by omega, fun u hu => ?_⟩, by dsimp only; omega⟩
      rw [List.take_add_one, ht] at hu
      rcases List.mem_append.1 hu with hu | hu
      · exact hall u hu
      · simp only [Option.toList_some, List.mem_singleton] at hu
        subst hu; exact ⟨hrt, h6⟩
theorem LexBack_ax (H : Heap) (c0 : List Value) (x0 : List ((Int) × (ByteArray) × (Int) × (Int))) (hn : NoOwn H) (R0 : ty23.R H c0 x0) (o0 : ty23.ok x0) :
    AX Try.prog 6 #[arg1 c0] H fun v _ => v = .bool true := by
  obtain ⟨v, e0, hr⟩ := RL.ofTy (f := tokR) (fun l x h => tok_of h) R0
  rw [e0]
  exact lexBackL_ax hr
end Go.Proofs.Ythhbocbgkhooaaa
