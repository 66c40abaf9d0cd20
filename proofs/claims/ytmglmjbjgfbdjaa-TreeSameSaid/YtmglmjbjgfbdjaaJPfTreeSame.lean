/- The law TreeSame told of abstract memory: it answers true for all trees. No condition. -/
import Derived.Test.YtmglmjbjgfbdjaaJTr6
set_option linter.unusedVariables false
set_option linter.unusedSimpArgs false
set_option maxRecDepth 20000
set_option maxHeartbeats 4000000
namespace Go.Proofs.Ytmglmjbjgfbdjaa
open Go Ax
theorem TreeSame_ax (H : Heap) (c0 : List Value) (x0 : Nd25) (c1 : List Value) (x1 : Nd25) (hn : NoOwn H) (m0 : Nat) (R0 : (ty25 m0).R H c0 x0) (o0 : (ty25 m0).ok x0) (m1 : Nat) (R1 : (ty25 m1).R H c1 x1) (o1 : (ty25 m1).ok x1) :
    AX Try.prog 4 #[argS c0, argS c1] H fun v _ => v = .bool true := by
  have R : NodeR H c0 (trOf x0) := ⟨m0, node_of m0 R0 o0⟩
  have T : NodeR H c1 (trOf x1) := ⟨m1, node_of m1 R1 o1⟩
  clear R0 o0 R1 o1
  generalize trOf x0 = x at R
  generalize trOf x1 = y at T
  obtain ⟨ow, sn, sk, rfl, rn, rk⟩ := R.inv
  obtain ⟨ow', sn', sk', rfl, rn', rk'⟩ := T.inv
  show AX Try.prog 4 #[.agg (nodeV x sn sk).toArray, .agg (nodeV y sn' sk').toArray] H _
  refine AX.body (n := 39) (rs := [.tmp 4]) Try.func4 rfl (by decide) rfl rfl (bC_sound _ _ _ _ ?_)
  (conv => whnf)
  refine Ob2.box rfl fun q H1 hq ab g1 => ?_
  refine run ?_
  refine Ob2.box rfl fun q2 H2 hq2 ac g2 => ?_
  replace ab := g2.at ab
  have bb := hblk_of ab
  have bc := hblk_of ac
  have g := g1.trans g2
  have R2 := R.grow g
  have T2 := T.grow g
  have hw := fun X => works06_ax X
  refine run ?_
  refine (fewC_ax R2).mono ?_
  rintro _ X ⟨⟨b, rfl, hf⟩, e⟩
  subst X
  cases b with
  | false =>
    refine run ?_
    refine (hw H2).mono ?_
    rintro _ X ⟨rfl, e⟩
    refine run ?_
    rfl
  | true =>
  refine run ?_
  refine (fewC_ax T2).mono ?_
  rintro _ X ⟨⟨b, rfl, hf'⟩, e⟩
  subst X
  cases b with
  | false =>
    refine run ?_
    refine (hw H2).mono ?_
    rintro _ X ⟨rfl, e⟩
    refine run ?_
    rfl
  | true =>
  refine run ?_
  refine Ob2.alloc rfl fun q3 H3 hq3 a3 g3 => ?_
  have ab3 := g3.at ab
  have bb3 := hblk_of ab3
  refine run ?_
  refine Ob.store rfl rfl rfl a3 rfl (by first | exact Nat.le_of_ble_eq_true rfl | simp) fun H4 s1 s2 s3 => ?_
  have g4 := g3.but_new s2 (Nat.le_of_eq hq3.symm)
  have s1 : H4[q3]? = some (.cells .var (nodeV x sn sk)) := s1
  have bc4 := hblk_of (g4.at ac)
  refine run ?_
  refine Ob.store rfl rfl rfl s1 rfl (by first | exact Nat.le_of_ble_eq_true rfl | simp) fun H5 t1 t2 t3 => ?_
  have g5 := g4.but_new t2 (Nat.le_of_eq hq3.symm)
  have t1 : H5[q3]? = some (.cells .var [.int .i64 x.kind, .int .i64 x.op, .int .i64 x.num, .string x.str, sn, sk, .int .i64 y.pos]) := t1
  have bb5 := hblk_of (g5.at ab)
  have bc5 := hblk_of (g5.at ac)
  have bd5 := hblk_of t1
  have R5 := R2.grow g5
  have T5 := T2.grow g5
  have Z5 : NodeR H5 (nodeV (.mk x.kind x.op x.num x.str x.names x.kids y.pos) sn sk) (.mk x.kind x.op x.num x.str x.names x.kids y.pos) := NodeR.mk (x := .mk x.kind x.op x.num x.str x.names x.kids y.pos) ow (strR.grow rn (g.trans g5)) (NodeR.grows rk (g.trans g5))
  have hz : x.flat = (Tr.mk x.kind x.op x.num x.str x.names x.kids y.pos).flat := by
    cases x; rfl
  apply SW.drawG [(0, [], [20, 22, 23], false), (1, [], [19, 22, 23], false), (3, [], [19, 20, 21, 23], false), (4, [], [19, 20, 21, 22], false), (2, [(19, 0), (20, 1)], [19, 20, 22, 23], true), (5, [(19, 0), (20, 1), (21, 2), (22, 3), (23, 4)], [19, 20, 21, 22, 23], true), (6, [(19, 0), (20, 1), (21, 2), (22, 3), (23, 4), (24, 5)], [19, 20, 21, 22, 23, 24], false), (7, [(19, 0), (20, 1), (21, 2), (22, 3), (23, 4), (24, 5), (25, 6)], [19, 20, 21, 22, 23, 24, 25], false), (8, [(19, 0), (20, 1), (21, 2), (22, 3), (23, 4), (24, 5), (25, 6), (26, 7)], [19, 20, 21, 22, 23, 24, 25, 26, 28], false), (9, [(19, 0), (20, 1), (21, 2), (22, 3), (23, 4), (24, 5), (25, 6), (26, 7)], [19, 20, 21, 22, 23, 24, 25, 26, 27], false), (10, [(19, 0), (20, 1), (21, 2), (22, 3), (23, 4), (24, 5), (25, 6), (26, 7), (27, 8), (28, 9)], [19, 20, 21, 22, 23, 24, 25, 26, 27, 28], true), (11, [(19, 0), (20, 1), (21, 2), (22, 3), (23, 4), (24, 5), (25, 6), (26, 7), (27, 8), (28, 9), (29, 10)], [19, 20, 21, 22, 23, 24, 25, 26, 27, 28, 29], false), (12, [(19, 0), (20, 1), (21, 2), (22, 3), (23, 4), (24, 5), (25, 6), (26, 7), (27, 8), (28, 9), (29, 10), (30, 11)], [19, 20, 21, 22, 23, 24, 25, 26, 27, 28, 29, 30], false), (13, [(19, 0), (20, 1), (21, 2), (22, 3), (23, 4), (24, 5), (25, 6), (26, 7), (27, 8), (28, 9), (29, 10), (30, 11), (31, 12)], [19, 20, 21, 22, 23, 24, 25, 26, 27, 28, 29, 30, 31, 33], false), (14, [(19, 0), (20, 1), (21, 2), (22, 3), (23, 4), (24, 5), (25, 6), (26, 7), (27, 8), (28, 9), (29, 10), (30, 11), (31, 12)], [19, 20, 21, 22, 23, 24, 25, 26, 27, 28, 29, 30, 31, 32], false), (15, [(19, 0), (20, 1), (21, 2), (22, 3), (23, 4), (24, 5), (25, 6), (26, 7), (27, 8), (28, 9), (29, 10), (30, 11), (31, 12), (32, 13), (33, 14)], [19, 20, 21, 22, 23, 24, 25, 26, 27, 28, 29, 30, 31, 32, 33], true), (16, [(19, 0), (20, 1), (21, 2), (22, 3), (23, 4), (24, 5), (25, 6), (26, 7), (27, 8), (28, 9), (29, 10), (30, 11), (31, 12), (32, 13), (33, 14), (34, 15)], [19, 20, 21, 22, 23, 24, 25, 26, 27, 28, 29, 30, 31, 32, 33, 34], false), (17, [(19, 0), (20, 1), (21, 2), (22, 3), (23, 4), (24, 5), (25, 6), (26, 7), (27, 8), (28, 9), (29, 10), (30, 11), (31, 12), (32, 13), (33, 14), (34, 15), (35, 16)], [19, 20, 21, 22, 23, 24, 25, 26, 27, 28, 29, 30, 31, 32, 33, 34, 35], false), (18, [(19, 0), (20, 1), (21, 2), (22, 3), (23, 4), (24, 5), (25, 6), (26, 7), (27, 8), (28, 9), (29, 10), (30, 11), (31, 12), (32, 13), (33, 14), (34, 15), (35, 16), (36, 17)], [19, 20, 21, 22, 23, 24, 25, 26, 27, 28, 29, 30, 31, 32, 33, 34, 35, 36], true), (19, [(19, 0), (20, 1), (21, 2), (22, 3), (23, 4), (24, 5), (25, 6), (26, 7), (27, 8), (28, 9), (29, 10), (30, 11), (31, 12), (32, 13), (33, 14), (34, 15), (35, 16), (36, 17), (37, 18)], [19, 20, 21, 22, 23, 24, 25, 26, 27, 28, 29, 30, 31, 32, 33, 34, 35, 36, 37], false), (20, [(19, 0), (20, 1), (21, 2), (22, 3), (23, 4), (24, 5), (25, 6), (26, 7), (27, 8), (28, 9), (29, 10), (30, 11), (31, 12), (32, 13), (33, 14), (34, 15), (35, 16), (36, 17), (37, 18), (38, 19)], [19, 20, 21, 22, 23, 24, 25, 26, 27, 28, 29, 30, 31, 32, 33, 34, 35, 36, 37, 38], false)]
    [(19, 0), (20, 1), (21, 2), (22, 3), (23, 4), (24, 5), (25, 6), (26, 7), (27, 8), (28, 9), (29, 10), (30, 11), (31, 12), (32, 13), (33, 14), (34, 15), (35, 16), (36, 17), (37, 18), (38, 19), (4, 20)]
    [(2, _), (3, _), (5, _)] rfl (by kernel_rfl)
  case hF => exact ⟨rfl, rfl, rfl, trivial⟩
  refine run ?_
  refine (treeSame_ax x y H5 _ _ R5 T5).mono ?_
  rintro _ X ⟨⟨b1, rfl, h1⟩, e⟩
  subst X
  refine run ?_
  refine (refSame_ax x y H5 _ _ R5 T5).mono ?_
  rintro _ X ⟨⟨b2, rfl, h2⟩, e⟩
  subst X
  obtain rfl : b1 = b2 := by
    cases b1 <;> cases b2 <;> simp_all
  have d1 : (b1 == b1) = true := by simp
  refine run ?_
  refine (treeSame_ax x x H5 _ _ R5 R5).mono ?_
  rintro _ X ⟨⟨b3, rfl, h3⟩, e⟩
  subst X
  obtain rfl := h3.2 rfl
  refine run ?_
  refine (treeSame_ax x _ H5 _ _ R5 Z5).mono ?_
  rintro _ X ⟨⟨b4, rfl, h4⟩, e⟩
  subst X
  obtain rfl := h4.2 hz
  refine run ?_
  refine (hw H5).mono ?_
  rintro _ X ⟨rfl, e⟩
  subst X
  refine run ?_
  rfl
end Go.Proofs.Ytmglmjbjgfbdjaa
