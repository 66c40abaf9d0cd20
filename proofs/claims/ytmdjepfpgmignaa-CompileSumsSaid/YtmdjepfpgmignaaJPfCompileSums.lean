/- The law CompileSums told of abstract memory: it answers true for every program. No condition. -/
import Derived.Test.YtmdjepfpgmignaaJSc7
set_option linter.unusedVariables false
set_option linter.unusedSimpArgs false
set_option maxRecDepth 20000
set_option maxHeartbeats 8000000
namespace Go.Proofs.Ytmdjepfpgmignaa
open Go Ax
theorem CompileSums_ax (H : Heap) (c0 : List Value) (x0 : (Int) × (List (ByteArray)) × (List ((Int) × (Int) × (Int) × (Int) × (List ((Int) × (Int) × (Int)))))) (hn : NoOwn H) (R0 : ty30.R H c0 x0) (o0 : ty30.ok x0) :
    AX Try.prog 4 #[argS c0] H fun v _ => v = .bool true := by
  obtain ⟨ps, cs, e0, hp, hcs⟩ := prog_of R0
  rw [e0]
  show AX Try.prog 4 #[progV x0 ps cs] H fun v _ => v = .bool true
  refine AX.body (n := 58) (rs := [.tmp 2]) Try.func4 rfl (by decide) rfl rfl (bC_sound _ _ _ _ ?_)
  (conv => whnf)
  refine Ob2.box rfl fun q1 H1 hq1 a1 g1 => ?_
  have b1 := hblk_of (show H1[q1]? = some (.cells .var [.int .i64 x0.1, ps, cs]) from a1)
  refine run ?_
  refine (few_ax (strR.grow hp g1) (codeR.grow hcs g1)).mono ?_
  rintro _ X ⟨⟨b, rfl, hf⟩, e⟩
  subst X
  cases b with
  | false =>
    refine run ?_
    refine (works15_ax H1).mono ?_
    rintro _ X ⟨rfl, e⟩
    refine run ?_
    rfl
  | true =>
    have hf := hf rfl
    have l2 : alen Try.prog 28 cs H1 = some (.int .i64 x0.2.2.length) := hcs.len rfl _
    have hf1 := hf.1
    refine run ?_
    refine SW.loop (α := Nat) (fun m => [(1, .pointer (some ⟨q1, 0, none⟩)), (3, .int .i64 (tickP 0 (x0.2.2.take m))), (4, .int .i64 (m : Int))]) (fun m X => m ≤ x0.2.2.length ∧ X = H1) (fun m => x0.2.2.length - m) ⟨0, ⟨rfl, rfl, rfl, trivial⟩, by omega, rfl⟩ ?_
    rintro m X ⟨hm, e⟩
    subst X
    refine bC_sound _ _ _ _ ?_
    by_cases hml : m < x0.2.2.length
    · have d2 : decide ((m : Int) < (x0.2.2.length : Int)) = true := decide_eq_true (by omega)
      obtain ⟨c, hc⟩ : ∃ c : CodeT, x0.2.2[m]? = some c := get_lt hml
      obtain ⟨b, u, i1, i2, i3⟩ := ld_codeF hcs hc
      have i4 := i3 H1 g1
      have hci := hf.2.2 c (List.mem_of_getElem? hc)
      have l3 : alen Try.prog 35 u H1 = some (.int .i64 c.ins.length) := i2.len rfl _
      have ht := tickP_take (n := 0) hc
      refine run ?_
      refine SW.loop (α := Nat) (fun j => [(1, .pointer (some ⟨q1, 0, none⟩)), (3, .int .i64 (tickL (tickP 0 (x0.2.2.take m)) (c.ins.take j))), (4, .int .i64 (m : Int)), (5, .int .i64 (j : Int))]) (fun j X => j ≤ c.ins.length ∧ X = H1) (fun j => c.ins.length - j) ⟨0, ⟨rfl, rfl, rfl, rfl, trivial⟩, by omega, rfl⟩ ?_
      rintro j X ⟨hj, e⟩
      subst X
      refine bC_sound _ _ _ _ ?_
      by_cases hjl : j < c.ins.length
      rotate_left
      · have d3 : decide ((j : Int) < (c.ins.length : Int)) = false := decide_eq_false (by omega)
        have e2 : tickL (tickP 0 (x0.2.2.take m)) (c.ins.take j) = tickP 0 (x0.2.2.take (m + 1)) := by rw [show c.ins.take j = c.ins from List.take_of_length_le (by omega), ht]
        refine run ?_
        exact ⟨m + 1, ⟨rfl, congrArg (fun z => some (Value.int .i64 z)) e2, congrArg (fun z => some (Value.int .i64 z)) (w_succ (by omega)), trivial⟩, ⟨hml, rfl⟩, by show _ - (m + 1) < _ - m; omega⟩
      have d3 : decide ((j : Int) < (c.ins.length : Int)) = true := decide_eq_true (by omega)
      obtain ⟨x, hx⟩ : ∃ x : Ins, c.ins[j]? = some x := get_lt hjl
      obtain ⟨bi, j1, j2⟩ := ld_ins i2 hx
      have j3 := ld_op i2 hx j1 H1 g1
      have j4 : aload Try.prog 3 (.pointer (some ⟨bi, j * 3 + 1, none⟩)) H1 = some (.int .i64 x.2.1) := ld_arg i2 hx j1 H1 g1
      have htx := tickL_take (n := tickP 0 (x0.2.2.take m)) hx
      by_cases hop : x.1 = 1
      · have d4 : (x.1 == 1) = true := by rw [hop]; rfl
        refine run ?_
        refine ⟨j + 1, ⟨rfl, congrArg (fun z => some (Value.int .i64 z)) ?_, rfl, congrArg (fun z => some (Value.int .i64 z)) (w_succ (by omega)), trivial⟩, ⟨hjl, rfl⟩, by show _ - (j + 1) < _ - j; omega⟩
        rw [htx]
        unfold tick1
        rw [if_pos hop]
      · have d4 : (x.1 == 1) = false := by rw [beq_eq_false_iff_ne]; exact hop
        refine run ?_
        refine ⟨j + 1, ⟨rfl, congrArg (fun z => some (Value.int .i64 z)) ?_, rfl, congrArg (fun z => some (Value.int .i64 z)) (w_succ (by omega)), trivial⟩, ⟨hjl, rfl⟩, by show _ - (j + 1) < _ - j; omega⟩
        rw [htx]
        unfold tick1
        rw [if_neg hop]
    · have d2 : decide ((m : Int) < (x0.2.2.length : Int)) = false := decide_eq_false (by omega)
      have hT := ticks_ax (g := x0.1) (ps := ps) (codeR.grow hcs g1) (by omega) (fun c hc => by have := hf.2.2 c hc; omega)
      rw [List.take_of_length_le (by omega)]
      refine run ?_
      refine hT.mono ?_
      rintro _ X ⟨rfl, e⟩
      subst X
      have d5 : (tickP 0 x0.2.2 == tickP 0 x0.2.2) = true := by rw [beq_iff_eq]
      refine run ?_
      refine (works15_ax H1).mono ?_
      rintro _ X ⟨rfl, e⟩
      refine run ?_
      rfl
end Go.Proofs.Ytmdjepfpgmignaa
