/- The law AsmReads told of abstract memory: it answers true for every text. No condition. -/
import Derived.Test.YtmdpifedcaaobaaDoorJAs2
set_option linter.unusedVariables false
set_option linter.unusedSimpArgs false
set_option maxRecDepth 20000
set_option maxHeartbeats 8000000
namespace Go.Proofs.YtmdpifedcaaobaaDoor
open Go Ax
theorem small16 {r : RS} {n : Nat} (h : cntP r.p ≤ n) (hn : n ≤ 900000) : Small r.p := ⟨by unfold cntP at h; omega, by unfold cntP at h; omega, fun c hc => by have := ins_cnt hc; omega⟩
theorem readP_small : ∀ (f : Nat) (r : RS) (n : Int) (s : Bs), cntP r.p + s.length ≤ 900000 → RIs r → Small (readP f r n s).1 := by
  have z : Small ((0, [], []) : ProgT) := ⟨by decide, by decide, fun c hc => by simp at hc⟩
  have he : ∀ p : ProgT, Small p → Small (endS p).1 := fun p h => by unfold endS; split; exact h; exact z
  intro f
  induction f with
  | zero => intro r n s _ _; exact z
  | succ f ih =>
    intro r n s h hi
    unfold readP
    split
    · split
      · exact z
      · exact he _ (small16 (n := 900000) (by omega) (by decide))
    · cases hc : cutS s with
      | none => exact z
      | some lr =>
        obtain ⟨line, rest⟩ := lr
        dsimp only
        cases hst : r.step line with
        | none => exact z
        | some r' =>
          dsimp only
          have hl := congrArg List.length (cut_some hc).1
          rw [List.length_append, List.length_cons] at hl
          obtain ⟨h1, _, h2⟩ := step_ri hi hst
          exact ih _ _ _ (by omega) h1
theorem read_small {s : Bs} (h : s.length ≤ 900000) : Small (readS16 s).1 := readP_small _ _ _ _ (by simp [cntP]; exact h) ⟨(by decide : (0 : Nat) ≤ 2), by simp⟩
theorem AsmReads_ax (H : Heap) (c0 : List Value) (x0 : ByteArray) (hn : NoOwn H) (R0 : ty9.R H c0 x0) (o0 : ty9.ok x0) :
    AX Tryd.prog 4 #[arg1 c0] H fun v _ => v = .bool true := by
  obtain rfl : c0 = [.string x0] := R0
  show AX Tryd.prog 4 #[.string x0] H _
  refine AX.body (n := 41) (rs := [.tmp 2]) Tryd.func4 rfl (by decide) rfl rfl (bC_sound _ _ _ _ ?_)
  by_cases hl : x0.size ≤ 3000
  rotate_left
  · have d1 : decide ((x0.size : Int) > 3000) = true := decide_eq_true (by omega)
    refine run ?_
    refine (works16_ax H).mono ?_
    rintro _ X ⟨rfl, e⟩
    refine run ?_
    rfl
  have d1 : decide ((x0.size : Int) > 3000) = false := decide_eq_false (by omega)
  have hx : x0 = bstr x0.data.toList := by simp [bstr]
  have hxl : x0.data.toList.length ≤ 3000 := hl
  have A := asmRead_ax H (s := x0.data.toList) (by omega) (.short 3000 _ hxl (by decide))
  rw [← hx] at A
  refine run ?_
  refine A.mono ?_
  have hsm := read_small (s := x0.data.toList) (by omega)
  have B := fun H => refRead16_ax H (s := x0.data.toList) (by omega) (.short 3000 _ hxl (by decide))
  rw [← hx] at B
  generalize readS16 x0.data.toList = o at hsm B
  obtain ⟨p, at_, er⟩ := o
  dsimp only at hsm
  rintro _ H1 ⟨⟨_, rfl, ps, cs, rfl, hp, hc⟩, g1⟩
  refine run ?_
  refine Ob2.alloc rfl fun q2 H2 hq2 a2 g2 => ?_
  refine run ?_
  refine Ob.store rfl rfl rfl a2 rfl (by first | exact Nat.le_of_ble_eq_true rfl | simp) fun H3 s3 b3 l3 => ?_
  have g3 : Grow H1 H3 := g2.but_new b3 (by omega)
  have s3 : H3[q2]? = some (.cells .var [.int .i64 p.1, ps, cs]) := s3
  refine run ?_
  refine (B H3).mono ?_
  rintro _ H4 ⟨⟨_, rfl, qs, ds, rfl, hp2, hc2⟩, g4⟩
  refine run ?_
  refine Ob2.alloc rfl fun q5 H5 hq5 a5 g5 => ?_
  refine run ?_
  refine Ob.store rfl rfl rfl a5 rfl (by first | exact Nat.le_of_ble_eq_true rfl | simp) fun H6 s6 b6 l6 => ?_
  have g6 : Grow H4 H6 := g5.but_new b6 (by omega)
  have s6 : H6[q5]? = some (.cells .var [.int .i64 p.1, qs, ds]) := s6
  have s36 := hblk_of ((g4.trans g6).at s3)
  have s66 := hblk_of s6
  have gg := (g3.trans g4).trans g6
  have S := rsame_ax (strR.grow hp gg) (codeR.grow hc gg) (strR.grow hp2 g6) (codeR.grow hc2 g6) hsm
  rw [decide_eq_true rfl] at S
  have d2 : (at_ == at_) = true := by simp
  have d3 : (er == er) = true := by simp
  refine run ?_
  refine S.mono ?_
  rintro _ X ⟨rfl, e⟩
  subst X
  refine run ?_
  refine (works16_ax H6).mono ?_
  rintro _ X ⟨rfl, e⟩
  refine run ?_
  rfl
end Go.Proofs.YtmdpifedcaaobaaDoor
