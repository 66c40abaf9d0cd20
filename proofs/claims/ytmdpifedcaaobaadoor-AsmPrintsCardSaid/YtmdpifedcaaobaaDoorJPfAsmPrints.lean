/- The law AsmPrints told of abstract memory: it answers true for every program and number. No condition. -/
import Derived.Test.YtmdpifedcaaobaaDoorJAs2
set_option linter.unusedVariables false
set_option linter.unusedSimpArgs false
set_option maxRecDepth 20000
set_option maxHeartbeats 8000000
namespace Go.Proofs.YtmdpifedcaaobaaDoor
open Go Ax
theorem AsmPrints_ax (H : Heap) (c0 : List Value) (x0 : (Int) × (List (ByteArray)) × (List ((Int) × (Int) × (Int) × (Int) × (List ((Int) × (Int) × (Int)))))) (c1 : List Value) (x1 : Int) (hn : NoOwn H) (R0 : ty25.R H c0 x0) (o0 : ty25.ok x0) (R1 : ty3.R H c1 x1) (o1 : ty3.ok x1) :
    AX Tryd.prog 3 #[argS c0, arg1 c1] H fun v _ => v = .bool true := by
  obtain ⟨ps, cs, e0, hp, hc⟩ := prog_of R0
  obtain rfl : c1 = [.int .i64 x1] := R1
  rw [e0]
  show AX Tryd.prog 3 #[progV x0 ps cs, .int .i64 x1] H fun v _ => v = .bool true
  have hi : I64 x1 := by
    have h : (Lit.int .i64 x1).wf = true := o1
    simp [Lit.wf] at h
    have e1 : IntKind.i64.min = -9223372036854775808 := rfl
    have e2 : IntKind.i64.max = 9223372036854775807 := rfl
    constructor <;> omega
  refine AX.body (n := 41) (rs := [.tmp 4]) Tryd.func3 rfl (by decide) rfl rfl (bC_sound _ _ _ _ ?_)
  (conv => whnf)
  refine Ob2.box rfl fun q1 H1 hq1 a1 g1 => ?_
  have b1 := hblk_of a1
  replace hp := strR.grow hp g1
  replace hc := codeR.grow hc g1
  refine run ?_
  refine (few_ax hp hc).mono ?_
  rintro _ X ⟨⟨b, rfl, hf⟩, e⟩
  subst X
  cases b with
  | false =>
    refine run ?_
    refine (works16_ax H1).mono ?_
    rintro _ X ⟨rfl, e⟩
    refine run ?_
    rfl
  | true =>
  have hf := hf rfl
  have hL := hf.small.1
  refine run ?_
  refine (asmPrint_ax hp hc hL).mono ?_
  rintro _ X ⟨rfl, e⟩
  subst X
  refine run ?_
  refine (refPrint_ax hp hc hL).mono ?_
  rintro _ X ⟨rfl, e⟩
  subst X
  have d1 : abin Tryd.prog .eql 9 (.string (printA x0).1) (.string (printA x0).1) = some (.bool true) := by
    have h : abin Tryd.prog .eql 9 (.string (printA x0).1) (.string (printA x0).1) = some (.bool ((printA x0).1 == (printA x0).1)) := rfl
    rw [h, ba_eq_t.2 rfl]
  have d2 : ((printA x0).2 == (printA x0).2) = true := by simp
  refine run ?_
  refine (asmName_ax H1 x1 hi).mono ?_
  rintro _ X ⟨rfl, e⟩
  subst X
  refine run ?_
  refine (refName_ax H1 x1 hi).mono ?_
  rintro _ X ⟨rfl, e⟩
  subst X
  have d3 := str_eql (nameL x1) (nameL x1)
  rw [decide_eq_true rfl] at d3
  refine run ?_
  refine (works16_ax H1).mono ?_
  rintro _ X ⟨rfl, e⟩
  refine run ?_
  rfl
end Go.Proofs.YtmdpifedcaaobaaDoor
