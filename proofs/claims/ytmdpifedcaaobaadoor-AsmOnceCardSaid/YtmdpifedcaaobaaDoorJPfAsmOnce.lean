/- The law AsmOnce told of abstract memory: it answers true for every text. No condition. -/
import Derived.Test.YtmdpifedcaaobaaDoorJAs3
set_option linter.unusedVariables false
set_option linter.unusedSimpArgs false
set_option maxRecDepth 20000
set_option maxHeartbeats 8000000
namespace Go.Proofs.YtmdpifedcaaobaaDoor
open Go Ax
theorem AsmOnce_ax (H : Heap) (c0 : List Value) (x0 : ByteArray) (hn : NoOwn H) (R0 : ty9.R H c0 x0) (o0 : ty9.ok x0) :
    AX Tryd.prog 6 #[arg1 c0] H fun v _ => v = .bool true := by
  obtain rfl : c0 = [.string x0] := R0
  show AX Tryd.prog 6 #[.string x0] H _
  refine AX.body (n := 54) (rs := [.tmp 2]) Tryd.func6 rfl (by decide) rfl rfl (bC_sound _ _ _ _ ?_)
  by_cases hl : x0.size ≤ 3000
  rotate_left
  · have d1 : decide ((x0.size : Int) > 3000) = true := decide_eq_true (by omega)
    refine run ?_
    refine (works16_ax H).mono ?_
    rintro _ X ⟨rfl, e⟩
    refine run ?_
    rfl
  have d1 : decide ((x0.size : Int) > 3000) = false := decide_eq_false (by omega)
  have hx : x0 = bstr x0.data.toList := by simp [bstr]
  have hxl : x0.data.toList.length ≤ 3000 := hl
  have A := asmRead_ax H (s := x0.data.toList) (by omega) (.short 3000 _ hxl (by decide))
  have O := read_once x0.data.toList
  rw [← hx] at A
  refine run ?_
  refine A.mono ?_
  generalize readS16 x0.data.toList = o at O
  obtain ⟨p, at_, er⟩ := o
  dsimp only at O
  rintro _ H1 ⟨⟨_, rfl, ps, cs, rfl, hp, hc⟩, g1⟩
  refine run ?_
  refine Ob2.alloc rfl fun q2 H2 hq2 a2 g2 => ?_
  refine run ?_
  refine Ob.store rfl rfl rfl a2 rfl (by first | exact Nat.le_of_ble_eq_true rfl | simp) fun H3 s3 b3 l3 => ?_
  have g3 : Grow H1 H3 := g2.but_new b3 (by omega)
  have s3 : H3[q2]? = some (.cells .var [.int .i64 p.1, ps, cs]) := s3
  have bb3 := hblk_of s3
  replace hp := strR.grow hp g3
  replace hc := codeR.grow hc g3
  rcases O with ⟨rfl, rfl, ht, hC⟩ | ⟨he, rfl⟩
  · have hpl : p.2.1.length < 4294967296 := by have := hC.2.2.2.2.1; omega
    refine run ?_
    have P := asmPrint_ax hp hc hpl
    have e : printA p = (x0, 0) := by
      rw [hx, ← ht]
      exact if_pos hC
    rw [e] at P
    refine P.mono ?_
    rintro _ X ⟨rfl, e⟩
    subst X
    have d2 : abin Tryd.prog .eql 9 (.string x0) (.string x0) = some (.bool true) := by
      have h : abin Tryd.prog .eql 9 (.string x0) (.string x0) = some (.bool (x0 == x0)) := rfl
      rw [h, ba_eq_t.2 rfl]
    refine run ?_
    refine (check_ax hp hc hpl).mono ?_
    rintro v Y ⟨hv, e⟩
    subst Y
    rcases hv with ⟨rfl, _⟩ | ⟨rfl, hC2⟩
    · refine run ?_
      refine (works16_ax H3).mono ?_
      rintro _ X ⟨rfl, e⟩
      refine run ?_
      rfl
    · exact absurd hC hC2
  · have d2 : (er != 0) = true := bne_iff_ne.2 he
    have l1 := hc.len (P := Tryd.prog) (t := 23) rfl H3
    have l2 := hp.len (P := Tryd.prog) (t := 22) rfl H3
    refine run ?_
    refine (works16_ax H3).mono ?_
    rintro _ X ⟨rfl, e⟩
    refine run ?_
    rfl
end Go.Proofs.YtmdpifedcaaobaaDoor
