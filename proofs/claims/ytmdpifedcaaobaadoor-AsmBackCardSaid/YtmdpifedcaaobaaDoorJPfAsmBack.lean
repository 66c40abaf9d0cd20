/- The law AsmBack told of abstract memory: it answers true for every program. No condition. -/
import Derived.Test.YtmdpifedcaaobaaDoorJAs3
set_option linter.unusedVariables false
set_option linter.unusedSimpArgs false
set_option maxRecDepth 20000
set_option maxHeartbeats 8000000
namespace Go.Proofs.YtmdpifedcaaobaaDoor
open Go Ax
theorem AsmBack_ax (H : Heap) (c0 : List Value) (x0 : (Int) × (List (ByteArray)) × (List ((Int) × (Int) × (Int) × (Int) × (List ((Int) × (Int) × (Int)))))) (hn : NoOwn H) (R0 : ty25.R H c0 x0) (o0 : ty25.ok x0) :
    AX Tryd.prog 5 #[argS c0] H fun v _ => v = .bool true := by
  obtain ⟨ps, cs, e0, hp, hc⟩ := prog_of R0
  rw [e0]
  show AX Tryd.prog 5 #[progV x0 ps cs] H fun v _ => v = .bool true
  refine AX.body (n := 46) (rs := [.tmp 2]) Tryd.func5 rfl (by decide) rfl rfl (bC_sound _ _ _ _ ?_)
  (conv => whnf)
  refine Ob2.box rfl fun q1 H1 hq1 a1 g1 => ?_
  have a1 : H1[q1]? = some (.cells .var [.int .i64 x0.1, ps, cs]) := a1
  have b1 := hblk_of a1
  replace hp := strR.grow hp g1
  replace hc := codeR.grow hc g1
  refine run ?_
  refine (few_ax hp hc).mono ?_
  rintro _ X ⟨⟨b, rfl, hf⟩, e⟩
  subst X
  cases b with
  | false =>
    refine run ?_
    refine (works16_ax H1).mono ?_
    rintro _ X ⟨rfl, e⟩
    refine run ?_
    rfl
  | true =>
  have hf := hf rfl
  have hL := hf.small.1
  refine run ?_
  refine (rcheck_ax hp hc hL).mono ?_
  rintro v Y ⟨hv, e⟩
  subst Y
  rcases hv with ⟨rfl, hC⟩ | ⟨rfl, hC⟩
  rotate_left
  · refine run ?_
    refine (works16_ax H1).mono ?_
    rintro _ X ⟨rfl, e⟩
    refine run ?_
    rfl
  have P := asmPrint_ax hp hc hL
  have e : printA x0 = (bstr (progL x0), 0) := if_pos hC
  rw [e] at P
  refine run ?_
  refine P.mono ?_
  rintro _ X ⟨rfl, e⟩
  subst X
  have A := asmRead_ax H1 (s := progL x0) (prog_len hC hf.2.2) (lines_prog hC)
  rw [read_back hC] at A
  refine run ?_
  refine A.mono ?_
  rintro _ H2 ⟨⟨_, rfl, qs, ds, rfl, hp2, hc2⟩, g2⟩
  refine run ?_
  refine Ob2.alloc rfl fun q5 H5 hq5 a5 g5 => ?_
  refine run ?_
  refine Ob.store rfl rfl rfl a5 rfl (by first | exact Nat.le_of_ble_eq_true rfl | simp) fun H6 s6 b6 l6 => ?_
  have g6 : Grow H2 H6 := g5.but_new b6 (by omega)
  have s6 : H6[q5]? = some (.cells .var [.int .i64 x0.1, qs, ds]) := s6
  have s16 := hblk_of ((g2.trans g6).at a1)
  have s66 := hblk_of s6
  have gg := g2.trans g6
  have S := rsame_ax (strR.grow hp gg) (codeR.grow hc gg) (strR.grow hp2 g6) (codeR.grow hc2 g6) hf.small
  rw [decide_eq_true rfl] at S
  refine run ?_
  refine S.mono ?_
  rintro _ X ⟨rfl, e⟩
  subst X
  refine run ?_
  refine (works16_ax H6).mono ?_
  rintro _ X ⟨rfl, e⟩
  refine run ?_
  rfl
end Go.Proofs.YtmdpifedcaaobaaDoor
