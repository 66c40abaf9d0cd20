/- The law LiveDead told of abstract memory: it answers true for every program and every body. No condition. -/
import Derived.Test.YtnjckiaogikakaaJLv3
set_option linter.unusedVariables false
set_option linter.unusedSimpArgs false
set_option maxRecDepth 20000
set_option maxHeartbeats 4000000
namespace Go.Proofs.Ytnjckiaogikakaa
open Go Ax
theorem RL.form {α : Type} {k : Nat} {f : Heap → List Value → α → Prop} {H : Heap} {sv : Value} {L : List α} (h : RL k f H sv L) : ∃ a n m, sv = .slice a n m := by
  rcases h with ⟨h, _⟩ | ⟨b, h, _⟩ <;> exact ⟨_, _, _, h⟩
theorem ll_one {H : Heap} {q : Nat} {m : Ax.Mode} {v : Value} {L : List Int} (h : H[q]? = some (.cells m [v])) (hv : RL 1 intR H v L) : RL 1 llR H (.slice (some ⟨q, 0, none⟩) 1 1) [L] :=
  .inr ⟨q, rfl, .inr ⟨m, _, h, fun i x hx => by
    match i, hx with
    | 0, hx =>
      simp only [List.getElem?_cons_zero, Option.some.injEq] at hx
      subst hx
      exact ⟨[v], rfl, v, rfl, hv⟩
    | i + 1, hx => simp at hx⟩⟩
theorem dead_small {p : ProgT} {b : BodyX} (h : FewB b 120) : ∀ x ∈ [deadL p b], x.length ≤ 1000000 := fun x hx => by
  simp only [List.mem_singleton] at hx
  subst hx
  unfold deadL
  split
  · have := deadN_len p b b.ops.length
    have := h.ops
    omega
  · simp
theorem liveDeadL_ax {H : Heap} {x0 : ProgT} {x1 : BodyX} {ps cs kv ov dv : Value} (hp : RL 1 strR H ps x0.2.1) (hcs : RL 5 codeR H cs x0.2.2) (hbI : BodyIn H x1 kv ov dv) (o1 : ty30.ok x1) :
    AX Try.prog 3 #[progV x0 ps cs, bodyV x1 kv ov dv] H fun v _ => v = .bool true := by
  refine AX.body (n := 26) (rs := [.tmp 4]) Try.func3 rfl (by decide) rfl rfl (bC_sound _ _ _ _ ?_)
  (conv => whnf)
  refine Ob2.box rfl fun q1 H1 hq1 a1 g1 => ?_
  (conv => whnf)
  refine Ob2.box rfl fun q2 H2 hq2 a2 g2 => ?_
  have g := g1.trans g2
  have lp : aload Try.prog 25 (.pointer (some ⟨q1, 0, none⟩)) H2 = some (progV x0 ps cs) := ald_agg rfl rfl rfl (hblk_of (g2.at a1)) rfl
  have lb : aload Try.prog 30 (.pointer (some ⟨q2, 0, none⟩)) H2 = some (bodyV x1 kv ov dv) := ald_agg rfl rfl rfl (hblk_of a2) rfl
  replace hp := strR.grow hp g
  replace hcs := codeR.grow hcs g
  replace hbI := hbI.grow g
  refine run ?_
  refine (fewN_ax 300 (by decide) hp hcs).mono ?_
  rintro _ X ⟨⟨b, rfl, hf⟩, e⟩
  subst X
  cases b with
  | false =>
    refine run ?_
    refine (lvWorks_ax H2).mono ?_
    rintro _ X ⟨rfl, e⟩
    refine run ?_
    rfl
  | true =>
  have hf := hf rfl
  refine run ?_
  refine (fewB_ax hbI 120 (by decide)).mono ?_
  rintro _ X ⟨⟨b, rfl, hf2⟩, e⟩
  subst X
  cases b with
  | false =>
    refine run ?_
    refine (lvWorks_ax H2).mono ?_
    rintro _ X ⟨rfl, e⟩
    refine run ?_
    rfl
  | true =>
  have hf2 := hf2 rfl
  obtain ⟨sm, ib⟩ := few_small o1 hf2 (by decide)
  have hsml := hf.small.1
  have hbz := hblk_of a2
  refine run ?_
  refine SW.sub (F := [(2, _), (3, _), (4, _)]) ?_ (Sub.of ⟨rfl, rfl, rfl, trivial⟩)
  refine SW.drawB 12 (fun i F v K => match i with | 0 => v = progV x0 ps cs | 1 => v = bodyV x1 kv ov dv | 2 => RL 1 intR K v (deadL x0 x1) | 3 => RL 1 llR K v [deadL x0 x1] | 4 => v = progV x0 ps cs | 5 => v = bodyV x1 kv ov dv | 6 => RL 1 intR K v (deadL x0 x1) | 7 => RL 1 llR K v [deadL x0 x1] | 8 => v = .bool true | 9 => v = .bool true | 10 => v = .bool true | 11 => v = .bool true | _ => True) (fun i => Nat.beq i 3) rfl (by kernel_rfl) ?_ ?_ ?_
  · intro i F v K K1 h g
    match i, h with
    | 0, h => exact h
    | 1, h => exact h
    | 2, h => exact intR.grow h g
    | 3, h => exact llR.grow h g
    | 4, h => exact h
    | 5, h => exact h
    | 6, h => exact intR.grow h g
    | 7, h => exact llR.grow h g
    | 8, h => exact h
    | 9, h => exact h
    | 10, h => exact h
    | 11, h => exact h
    | i + 12, h => trivial
  · intro i oX V K hi hoX hg hT
    have hbz := hg.hblk hbz
    have lpK := aload_grow hg lp
    have lbK := aload_grow hg lb
    match i, hi, hoX, hT with
    | 0, hi, hoX, hT =>
      obtain rfl := Option.some.inj hoX
      rw [envOf_eq, show pairsOf _ _ 0 = [] from by kernel_rfl, show exOf _ _ 0 = [15, 18, 19] from by kernel_rfl]
      (try simp only [valsOf])
      refine run ?_
      exact ⟨.refl _, rfl, fun h => absurd h (by decide)⟩
    | 1, hi, hoX, hT =>
      obtain rfl := Option.some.inj hoX
      rw [envOf_eq, show pairsOf _ _ 1 = [] from by kernel_rfl, show exOf _ _ 1 = [14, 18, 19] from by kernel_rfl]
      (try simp only [valsOf])
      refine run ?_
      exact ⟨.refl _, rfl, fun h => absurd h (by decide)⟩
    | 2, hi, hoX, hT =>
      obtain rfl := Option.some.inj hoX
      have e0 := hT 0 (by kernel_rfl)
      (conv at e0 => whnf)
      have e1 := hT 1 (by kernel_rfl)
      (conv at e1 => whnf)
      rw [envOf_eq, show pairsOf _ _ 2 = [(14, 0), (15, 1)] from by kernel_rfl, show exOf _ _ 2 = [14, 15, 18, 19] from by kernel_rfl]
      (try simp only [valsOf, e0, e1])
      refine run ?_
      refine (Dead_ax (strR.grow hp hg) (codeR.grow hcs hg) hsml (hbI.grow hg) sm hf2).mono ?_
      rintro w H4 ⟨hw, g4⟩
      refine run ?_
      exact ⟨g4, hw, fun h => absurd h (by decide)⟩
    | 3, hi, hoX, hT =>
      obtain rfl := Option.some.inj hoX
      have e0 := hT 0 (by kernel_rfl)
      (conv at e0 => whnf)
      have e1 := hT 1 (by kernel_rfl)
      (conv at e1 => whnf)
      have e2 := hT 2 (by kernel_rfl)
      (conv at e2 => whnf)
      rw [envOf_eq, show pairsOf _ _ 3 = [(14, 0), (15, 1), (16, 2)] from by kernel_rfl, show exOf _ _ 3 = [14, 15, 16, 18, 19, 20, 21] from by kernel_rfl]
      (try simp only [valsOf, e0, e1])
      generalize V.getD 2 undef = v2 at e2 ⊢
      obtain ⟨a, n, k, rfl⟩ := RL.form e2
      refine run ?_
      refine Ob2.lay (H := K) (.cells (.row 35) [.slice a n k]) (.slice (some ⟨K.length, 0, none⟩) 1 1) rfl fun U b gu lu => ?_
      refine run ?_
      exact ⟨gu, ll_one b (intR.grow e2 gu), fun _ bb hb' => ⟨by simp only [blk0, Option.some.injEq] at hb'; omega, by simp only [blk0, Option.some.injEq] at hb'; have := lt_at b; omega⟩⟩
    | 4, hi, hoX, hT =>
      obtain rfl := Option.some.inj hoX
      rw [envOf_eq, show pairsOf _ _ 4 = [] from by kernel_rfl, show exOf _ _ 4 = [14, 15, 16, 17, 19] from by kernel_rfl]
      (try simp only [valsOf])
      refine run ?_
      exact ⟨.refl _, rfl, fun h => absurd h (by decide)⟩
    | 5, hi, hoX, hT =>
      obtain rfl := Option.some.inj hoX
      rw [envOf_eq, show pairsOf _ _ 5 = [] from by kernel_rfl, show exOf _ _ 5 = [14, 15, 16, 17, 18] from by kernel_rfl]
      (try simp only [valsOf])
      refine run ?_
      exact ⟨.refl _, rfl, fun h => absurd h (by decide)⟩
    | 6, hi, hoX, hT =>
      obtain rfl := Option.some.inj hoX
      have e0 := hT 0 (by kernel_rfl)
      (conv at e0 => whnf)
      have e1 := hT 1 (by kernel_rfl)
      (conv at e1 => whnf)
      have e2 := hT 2 (by kernel_rfl)
      (conv at e2 => whnf)
      have e4 := hT 4 (by kernel_rfl)
      (conv at e4 => whnf)
      have e5 := hT 5 (by kernel_rfl)
      (conv at e5 => whnf)
      rw [envOf_eq, show pairsOf _ _ 6 = [(14, 0), (15, 1), (16, 2), (18, 4), (19, 5)] from by kernel_rfl, show exOf _ _ 6 = [14, 15, 16, 17, 18, 19] from by kernel_rfl]
      (try simp only [valsOf, e0, e1, e4, e5])
      refine run ?_
      refine (refDead_ax (strR.grow hp hg) (codeR.grow hcs hg) hsml (hbI.grow hg) sm ib hf2).mono ?_
      rintro w H4 ⟨hw, g4⟩
      refine run ?_
      exact ⟨g4, hw, fun h => absurd h (by decide)⟩
    | 7, hi, hoX, hT =>
      obtain rfl := Option.some.inj hoX
      have e0 := hT 0 (by kernel_rfl)
      (conv at e0 => whnf)
      have e1 := hT 1 (by kernel_rfl)
      (conv at e1 => whnf)
      have e2 := hT 2 (by kernel_rfl)
      (conv at e2 => whnf)
      have e4 := hT 4 (by kernel_rfl)
      (conv at e4 => whnf)
      have e5 := hT 5 (by kernel_rfl)
      (conv at e5 => whnf)
      have e6 := hT 6 (by kernel_rfl)
      (conv at e6 => whnf)
      rw [envOf_eq, show pairsOf _ _ 7 = [(14, 0), (15, 1), (16, 2), (18, 4), (19, 5), (20, 6)] from by kernel_rfl, show exOf _ _ 7 = [14, 15, 16, 17, 18, 19, 20] from by kernel_rfl]
      (try simp only [valsOf, e0, e1, e4, e5])
      generalize V.getD 6 undef = v6 at e6 ⊢
      obtain ⟨a, n, k, rfl⟩ := RL.form e6
      refine run ?_
      refine Ob2.lay (H := K) (.cells (.row 35) [.slice a n k]) (.slice (some ⟨K.length, 0, none⟩) 1 1) rfl fun U b gu lu => ?_
      refine run ?_
      exact ⟨gu, ll_one b (intR.grow e6 gu), fun h => absurd h (by decide)⟩
    | 8, hi, hoX, hT =>
      obtain rfl := Option.some.inj hoX
      have e0 := hT 0 (by kernel_rfl)
      (conv at e0 => whnf)
      have e1 := hT 1 (by kernel_rfl)
      (conv at e1 => whnf)
      have e2 := hT 2 (by kernel_rfl)
      (conv at e2 => whnf)
      have e3 := hT 3 (by kernel_rfl)
      (conv at e3 => whnf)
      have e4 := hT 4 (by kernel_rfl)
      (conv at e4 => whnf)
      have e5 := hT 5 (by kernel_rfl)
      (conv at e5 => whnf)
      have e6 := hT 6 (by kernel_rfl)
      (conv at e6 => whnf)
      have e7 := hT 7 (by kernel_rfl)
      (conv at e7 => whnf)
      rw [envOf_eq, show pairsOf _ _ 8 = [(14, 0), (15, 1), (16, 2), (17, 3), (18, 4), (19, 5), (20, 6), (21, 7)] from by kernel_rfl, show exOf _ _ 8 = [14, 15, 16, 17, 18, 19, 20, 21] from by kernel_rfl]
      (try simp only [valsOf, e0, e1, e4, e5])
      refine run ?_
      refine (lawLists_ax e3 e7 (by simp) (dead_small hf2)).mono ?_
      rintro _ Z ⟨rfl, e⟩
      subst Z
      refine run ?_
      exact ⟨.refl _, by rw [decide_eq_true rfl], fun h => absurd h (by decide)⟩
    | 9, hi, hoX, hT =>
      obtain rfl := Option.some.inj hoX
      have e0 := hT 0 (by kernel_rfl)
      (conv at e0 => whnf)
      have e1 := hT 1 (by kernel_rfl)
      (conv at e1 => whnf)
      have e2 := hT 2 (by kernel_rfl)
      (conv at e2 => whnf)
      have e3 := hT 3 (by kernel_rfl)
      (conv at e3 => whnf)
      have e4 := hT 4 (by kernel_rfl)
      (conv at e4 => whnf)
      have e5 := hT 5 (by kernel_rfl)
      (conv at e5 => whnf)
      have e6 := hT 6 (by kernel_rfl)
      (conv at e6 => whnf)
      have e7 := hT 7 (by kernel_rfl)
      (conv at e7 => whnf)
      have e8 := hT 8 (by kernel_rfl)
      (conv at e8 => whnf)
      rw [envOf_eq, show pairsOf _ _ 9 = [(14, 0), (15, 1), (16, 2), (17, 3), (18, 4), (19, 5), (20, 6), (21, 7), (22, 8)] from by kernel_rfl, show exOf _ _ 9 = [14, 15, 16, 17, 18, 19, 20, 21, 22] from by kernel_rfl]
      (try simp only [valsOf, e0, e1, e4, e5])
      rw [e8]
      refine run ?_
      exact ⟨.refl _, rfl, fun h => absurd h (by decide)⟩
    | 10, hi, hoX, hT =>
      obtain rfl := Option.some.inj hoX
      have e0 := hT 0 (by kernel_rfl)
      (conv at e0 => whnf)
      have e1 := hT 1 (by kernel_rfl)
      (conv at e1 => whnf)
      have e2 := hT 2 (by kernel_rfl)
      (conv at e2 => whnf)
      have e3 := hT 3 (by kernel_rfl)
      (conv at e3 => whnf)
      have e4 := hT 4 (by kernel_rfl)
      (conv at e4 => whnf)
      have e5 := hT 5 (by kernel_rfl)
      (conv at e5 => whnf)
      have e6 := hT 6 (by kernel_rfl)
      (conv at e6 => whnf)
      have e7 := hT 7 (by kernel_rfl)
      (conv at e7 => whnf)
      have e8 := hT 8 (by kernel_rfl)
      (conv at e8 => whnf)
      have e9 := hT 9 (by kernel_rfl)
      (conv at e9 => whnf)
      rw [envOf_eq, show pairsOf _ _ 10 = [(14, 0), (15, 1), (16, 2), (17, 3), (18, 4), (19, 5), (20, 6), (21, 7), (22, 8), (23, 9)] from by kernel_rfl, show exOf _ _ 10 = [14, 15, 16, 17, 18, 19, 20, 21, 22, 23] from by kernel_rfl]
      (try simp only [valsOf, e0, e1, e4, e5])
      rw [e9]
      refine run ?_
      refine (lvWorks_ax K).mono ?_
      rintro _ Z ⟨rfl, e⟩
      subst Z
      refine run ?_
      exact ⟨.refl _, rfl, fun h => absurd h (by decide)⟩
    | 11, hi, hoX, hT =>
      obtain rfl := Option.some.inj hoX
      have e0 := hT 0 (by kernel_rfl)
      (conv at e0 => whnf)
      have e1 := hT 1 (by kernel_rfl)
      (conv at e1 => whnf)
      have e2 := hT 2 (by kernel_rfl)
      (conv at e2 => whnf)
      have e3 := hT 3 (by kernel_rfl)
      (conv at e3 => whnf)
      have e4 := hT 4 (by kernel_rfl)
      (conv at e4 => whnf)
      have e5 := hT 5 (by kernel_rfl)
      (conv at e5 => whnf)
      have e6 := hT 6 (by kernel_rfl)
      (conv at e6 => whnf)
      have e7 := hT 7 (by kernel_rfl)
      (conv at e7 => whnf)
      have e8 := hT 8 (by kernel_rfl)
      (conv at e8 => whnf)
      have e9 := hT 9 (by kernel_rfl)
      (conv at e9 => whnf)
      have e10 := hT 10 (by kernel_rfl)
      (conv at e10 => whnf)
      rw [envOf_eq, show pairsOf _ _ 11 = [(14, 0), (15, 1), (16, 2), (17, 3), (18, 4), (19, 5), (20, 6), (21, 7), (22, 8), (23, 9), (24, 10)] from by kernel_rfl, show exOf _ _ 11 = [14, 15, 16, 17, 18, 19, 20, 21, 22, 23, 24] from by kernel_rfl]
      (try simp only [valsOf, e0, e1, e4, e5])
      rw [e9, e10]
      refine run ?_
      exact ⟨.refl _, rfl, fun h => absurd h (by decide)⟩
  intro oX V K hV hoX hg hT hD
  have hbz := hg.hblk hbz
  have lpK := aload_grow hg lp
  have lbK := aload_grow hg lb
  obtain rfl := Option.some.inj hoX
  have e0 := hT 0 (by decide)
  (conv at e0 => whnf)
  have e1 := hT 1 (by decide)
  (conv at e1 => whnf)
  have e2 := hT 2 (by decide)
  try rw [show pairsOf _ _ 2 = [(14, 0), (15, 1)] from by kernel_rfl] at e2
  (try simp only [valsOf] at e2)
  (conv at e2 => whnf)
  have e3 := hT 3 (by decide)
  try rw [show pairsOf _ _ 3 = [(14, 0), (15, 1), (16, 2)] from by kernel_rfl] at e3
  (try simp only [valsOf] at e3)
  (conv at e3 => whnf)
  have e4 := hT 4 (by decide)
  (conv at e4 => whnf)
  have e5 := hT 5 (by decide)
  (conv at e5 => whnf)
  have e6 := hT 6 (by decide)
  try rw [show pairsOf _ _ 6 = [(14, 0), (15, 1), (16, 2), (18, 4), (19, 5)] from by kernel_rfl] at e6
  (try simp only [valsOf] at e6)
  (conv at e6 => whnf)
  have e7 := hT 7 (by decide)
  try rw [show pairsOf _ _ 7 = [(14, 0), (15, 1), (16, 2), (18, 4), (19, 5), (20, 6)] from by kernel_rfl] at e7
  (try simp only [valsOf] at e7)
  (conv at e7 => whnf)
  have e8 := hT 8 (by decide)
  try rw [show pairsOf _ _ 8 = [(14, 0), (15, 1), (16, 2), (17, 3), (18, 4), (19, 5), (20, 6), (21, 7)] from by kernel_rfl] at e8
  (try simp only [valsOf] at e8)
  (conv at e8 => whnf)
  have e9 := hT 9 (by decide)
  try rw [show pairsOf _ _ 9 = [(14, 0), (15, 1), (16, 2), (17, 3), (18, 4), (19, 5), (20, 6), (21, 7), (22, 8)] from by kernel_rfl] at e9
  (try simp only [valsOf] at e9)
  (conv at e9 => whnf)
  have e10 := hT 10 (by decide)
  try rw [show pairsOf _ _ 10 = [(14, 0), (15, 1), (16, 2), (17, 3), (18, 4), (19, 5), (20, 6), (21, 7), (22, 8), (23, 9)] from by kernel_rfl] at e10
  (try simp only [valsOf] at e10)
  (conv at e10 => whnf)
  have e11 := hT 11 (by decide)
  try rw [show pairsOf _ _ 11 = [(14, 0), (15, 1), (16, 2), (17, 3), (18, 4), (19, 5), (20, 6), (21, 7), (22, 8), (23, 9), (24, 10)] from by kernel_rfl] at e11
  (try simp only [valsOf] at e11)
  (conv at e11 => whnf)
  have es : ∀ v k, k ≠ 12 → (V.set 12 v).getD k undef = V.getD k undef := fun v k hk => by rw [getD_set (by omega), if_neg hk]
  have ec : ∀ v, (V.set 12 v).getD 12 undef = v := fun v => by rw [getD_set (by omega), if_pos rfl]
  rw [envOf_eq, show pairsOf _ _ 12 = [(14, 0), (15, 1), (16, 2), (17, 3), (18, 4), (19, 5), (20, 6), (21, 7), (22, 8), (23, 9), (24, 10), (25, 11)] from by kernel_rfl, show exOf _ _ 12 = [14, 15, 16, 17, 18, 19, 20, 21, 22, 23, 24, 25] from by kernel_rfl]
  (try simp only [valsOf, e0, e1, e4, e5])
  clear hT hD hoX
  rw [e11]
  (conv => whnf)
  show oneOr [(V.set 12 (Value.bool true)).getD 12 undef] = _
  rw [ec]
  rfl
theorem LiveDead_ax (H : Heap) (c0 : List Value) (x0 : (Int) × (List (ByteArray)) × (List ((Int) × (Int) × (Int) × (Int) × (List ((Int) × (Int) × (Int)))))) (c1 : List Value) (x1 : (Int) × (Int) × (List ((Int) × (Int) × (ByteArray))) × (List ((Int) × (Int) × (Int) × (Int) × (Int) × (List (Int)) × (List ((Int) × (Int) × (Int))) × (Int) × (List (Int)))) × (List ((Int) × (Int)))) (hn : NoOwn H) (R0 : ty25.R H c0 x0) (o0 : ty25.ok x0) (R1 : ty30.R H c1 x1) (o1 : ty30.ok x1) :
    AX Try.prog 3 #[argS c0, argS c1] H fun v _ => v = .bool true := by
  obtain ⟨ps, cs, e0, hp, hcs⟩ := prog_of R0
  obtain ⟨kv, ov, dv, e1, hbI⟩ := body_of R1
  rw [e0, e1]
  exact liveDeadL_ax hp hcs hbI o1
end Go.Proofs.Ytnjckiaogikakaa
