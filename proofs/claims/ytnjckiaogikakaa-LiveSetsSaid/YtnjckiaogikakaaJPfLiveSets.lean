/- The law LiveSets told of abstract memory: it answers true for every program and every body. No condition. -/
import Derived.Test.YtnjckiaogikakaaJLv3
set_option linter.unusedVariables false
set_option linter.unusedSimpArgs false
set_option maxRecDepth 20000
set_option maxHeartbeats 4000000
namespace Go.Proofs.Ytnjckiaogikakaa
open Go Ax
theorem inLL_small {p : ProgT} {b : BodyX} : ∀ x ∈ inLL p b, x.length ≤ 1000000 := fun x hx => by
  unfold inLL at hx
  split at hx
  · obtain ⟨i, _, rfl⟩ := List.mem_map.1 hx
    have := inL_len b (locOf p b) i
    omega
  · simp at hx
theorem outLL_small {p : ProgT} {b : BodyX} : ∀ x ∈ outLL p b, x.length ≤ 1000000 := fun x hx => by
  unfold outLL at hx
  split at hx
  · obtain ⟨i, _, rfl⟩ := List.mem_map.1 hx
    have := outL_len b (locOf p b) i
    omega
  · simp at hx
theorem liveSetsL_ax {H : Heap} {x0 : ProgT} {x1 : BodyX} {ps cs kv ov dv : Value} (hp : RL 1 strR H ps x0.2.1) (hcs : RL 5 codeR H cs x0.2.2) (hbI : BodyIn H x1 kv ov dv) (o1 : ty30.ok x1) :
    AX Try.prog 5 #[progV x0 ps cs, bodyV x1 kv ov dv] H fun v _ => v = .bool true := by
  refine AX.body (n := 37) (rs := [.tmp 4]) Try.func5 rfl (by decide) rfl rfl (bC_sound _ _ _ _ ?_)
  (conv => whnf)
  refine Ob2.box rfl fun q1 H1 hq1 a1 g1 => ?_
  (conv => whnf)
  refine Ob2.box rfl fun q2 H2 hq2 a2 g2 => ?_
  have g := g1.trans g2
  have lp : aload Try.prog 25 (.pointer (some ⟨q1, 0, none⟩)) H2 = some (progV x0 ps cs) := ald_agg rfl rfl rfl (hblk_of (g2.at a1)) rfl
  have lb : aload Try.prog 30 (.pointer (some ⟨q2, 0, none⟩)) H2 = some (bodyV x1 kv ov dv) := ald_agg rfl rfl rfl (hblk_of a2) rfl
  replace hp := strR.grow hp g
  replace hcs := codeR.grow hcs g
  replace hbI := hbI.grow g
  refine run ?_
  refine (fewN_ax 300 (by decide) hp hcs).mono ?_
  rintro _ X ⟨⟨b, rfl, hf⟩, e⟩
  subst X
  cases b with
  | false =>
    refine run ?_
    refine (lvWorks_ax H2).mono ?_
    rintro _ X ⟨rfl, e⟩
    refine run ?_
    rfl
  | true =>
  have hf := hf rfl
  refine run ?_
  refine (fewB_ax hbI 120 (by decide)).mono ?_
  rintro _ X ⟨⟨b, rfl, hf2⟩, e⟩
  subst X
  cases b with
  | false =>
    refine run ?_
    refine (lvWorks_ax H2).mono ?_
    rintro _ X ⟨rfl, e⟩
    refine run ?_
    rfl
  | true =>
  have hf2 := hf2 rfl
  obtain ⟨sm, ib⟩ := few_small o1 hf2 (by decide)
  have hsml := hf.small.1
  refine run ?_
  refine (Both_ax hp hcs hsml hbI sm ib hf2).mono ?_
  rintro _ H3 ⟨⟨iv, uv, rfl, hI, hO⟩, g3⟩
  have lp := aload_grow g3 lp
  have lb := aload_grow g3 lb
  refine run ?_
  refine (In_ax (strR.grow hp g3) (codeR.grow hcs g3) hsml (hbI.grow g3) sm hf2).mono ?_
  rintro w H4 ⟨hw, g4⟩
  have lp := aload_grow g4 lp
  have lb := aload_grow g4 lb
  have g34 := g3.trans g4
  have hlen := hf2.ops
  refine run ?_
  refine (lawLists_ax hw (llR.grow hI g4) (by have := inLL_len (p := x0) (b := x1); omega) inLL_small).mono ?_
  rintro _ X ⟨rfl, e⟩
  subst X
  rw [decide_eq_true rfl]
  refine run ?_
  refine (Out_ax (strR.grow hp g34) (codeR.grow hcs g34) hsml (hbI.grow g34) sm hf2).mono ?_
  rintro z H5 ⟨hz, g5⟩
  refine run ?_
  refine (lawLists_ax hz (llR.grow hO (g4.trans g5)) (by have := outLL_len (p := x0) (b := x1); omega) outLL_small).mono ?_
  rintro _ X ⟨rfl, e⟩
  subst X
  rw [decide_eq_true rfl]
  refine run ?_
  refine (lvWorks_ax H5).mono ?_
  rintro _ X ⟨rfl, e⟩
  refine run ?_
  rfl
theorem LiveSets_ax (H : Heap) (c0 : List Value) (x0 : (Int) × (List (ByteArray)) × (List ((Int) × (Int) × (Int) × (Int) × (List ((Int) × (Int) × (Int)))))) (c1 : List Value) (x1 : (Int) × (Int) × (List ((Int) × (Int) × (ByteArray))) × (List ((Int) × (Int) × (Int) × (Int) × (Int) × (List (Int)) × (List ((Int) × (Int) × (Int))) × (Int) × (List (Int)))) × (List ((Int) × (Int)))) (hn : NoOwn H) (R0 : ty25.R H c0 x0) (o0 : ty25.ok x0) (R1 : ty30.R H c1 x1) (o1 : ty30.ok x1) :
    AX Try.prog 5 #[argS c0, argS c1] H fun v _ => v = .bool true := by
  obtain ⟨ps, cs, e0, hp, hcs⟩ := prog_of R0
  obtain ⟨kv, ov, dv, e1, hbI⟩ := body_of R1
  rw [e0, e1]
  exact liveSetsL_ax hp hcs hbI o1
end Go.Proofs.Ytnjckiaogikakaa
