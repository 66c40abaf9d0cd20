/- The law LexReads told of abstract memory: it answers true for every text. No condition. -/
import Derived.Test.YthhbocbgkhooaaaJLx2
set_option linter.unusedVariables false
set_option linter.unusedSimpArgs false
set_option maxRecDepth 20000
set_option maxHeartbeats 4000000
namespace Go.Proofs.Ythhbocbgkhooaaa
open Go Ax
theorem LexReads_ax (H : Heap) (c0 : List Value) (x0 : ByteArray) (hn : NoOwn H) (R0 : ty9.R H c0 x0) (o0 : ty9.ok x0) :
    AX Try.prog 3 #[arg1 c0] H fun v _ => v = .bool true := by
  obtain rfl : c0 = [.string x0] := R0
  show AX Try.prog 3 #[.string x0] H _
  refine AX.body (n := 41) (rs := [.tmp 2]) Try.func3 rfl (by decide) rfl rfl (bC_sound _ _ _ _ ?_)
  by_cases hl : x0.size ≤ 2500
  rotate_left
  · have d1 : decide ((x0.size : Int) > 2500) = true := decide_eq_true (by omega)
    refine run ?_
    refine (lxWorks_ax H).mono ?_
    rintro _ X ⟨rfl, e⟩
    refine run ?_
    rfl
  have d1 : decide ((x0.size : Int) > 2500) = false := decide_eq_false (by omega)
  refine run ?_
  refine (lxTokens_ax H (s := x0) (by omega)).mono ?_
  rintro _ X ⟨⟨tv, rfl, hr⟩, g⟩
  replace hr := hr.rl
  refine run ?_
  refine (rxTokens_ax X (s := x0) (by omega)).mono ?_
  rintro _ Y ⟨⟨uv, rfl, hu⟩, g2⟩
  replace hu := hu.rl
  refine run ?_
  refine (same_ax (tokR.grow hr g2) hu (toks_small _) true rfl (fun i x y hx hy => by rw [hx] at hy; simp only [Option.some.injEq] at hy; subst hy; exact ⟨rfl, rfl, rfl, fun _ => rfl⟩)).mono ?_
  rintro _ Z ⟨rfl, e⟩
  subst Z
  have d2 : ((toks x0.data.toList).2.1 == (toks x0.data.toList).2.1) = true := by simp
  have d3 : ((toks x0.data.toList).2.2 == (toks x0.data.toList).2.2) = true := by simp
  refine run ?_
  refine (lxWorks_ax Y).mono ?_
  rintro _ Z ⟨rfl, e⟩
  refine run ?_
  rfl
end Go.Proofs.Ythhbocbgkhooaaa
