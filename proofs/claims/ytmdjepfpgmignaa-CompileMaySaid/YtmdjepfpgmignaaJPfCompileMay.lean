/- The law CompileMay told of abstract memory: it answers true for every unit. No condition. -/
import Derived.Test.YtmdjepfpgmignaaJSm1
set_option linter.unusedVariables false
set_option linter.unusedSimpArgs false
set_option maxRecDepth 20000
set_option maxHeartbeats 8000000
namespace Go.Proofs.Ytmdjepfpgmignaa
open Go Ax
theorem CompileMay_ax (H : Heap) (c0 : List Value) (x0 : (Int) × (List ((Int) × (Int) × (List (Nd50))))) (hn : NoOwn H) (m0 : Nat) (R0 : (ty24 m0).R H c0 x0) (o0 : (ty24 m0).ok x0) :
    AX Try.prog 5 #[argS c0] H fun v _ => v = .bool true := by
  obtain ⟨sk, e0, rk, hmx⟩ := unit_of R0 o0
  rw [e0]
  generalize x0.2.map fnOf = fs at rk hmx
  generalize x0.1 = gl
  refine AX.body (n := 79) (rs := [.tmp 2]) Try.func5 rfl (by decide) rfl rfl (bC_sound _ _ _ _ ?_)
  (conv => whnf)
  refine Ob2.box rfl fun q1 H1 hq1 a1 g1 => ?_
  have a1 : H1[q1]? = some (.cells .var [.int .i64 gl, sk]) := a1
  have b1 := hblk_of a1
  refine run ?_
  refine (few08_ax (fnR.grow rk g1) hmx).mono ?_
  rintro _ X ⟨⟨b, rfl, hf⟩, e⟩
  subst X
  cases b with
  | false =>
    refine run ?_
    refine (works15_ax H1).mono ?_
    rintro _ X ⟨rfl, e⟩
    refine run ?_
    rfl
  | true =>
  have few := hf rfl
  refine run ?_
  refine (unitF_ax (fnR.grow rk g1) few).mono ?_
  rintro _ H2 ⟨pv, rfl, g2, hz, hnz⟩
  by_cases he : unitEc gl fs = 0
  rotate_left
  · rw [hnz he]
    have d1 : (unitEc gl fs != 0) = true := by rw [bne_iff_ne]; exact he
    refine run ?_
    refine Ob2.alloc rfl fun q7 H7 hq7 a7 g7 => ?_
    refine run ?_
    refine Ob.store rfl rfl rfl a7 rfl (by first | exact Nat.le_of_ble_eq_true rfl | simp) fun H8 s8 k8 l8 => ?_
    have s8 : H8[q7]? = some (.cells .var [.int .i64 0, .slice none 0 0, .slice none 0 0]) := s8
    have b8 := hblk_of s8
    refine run ?_
    refine (works15_ax H8).mono ?_
    rintro _ X ⟨rfl, e⟩
    refine run ?_
    rfl
  obtain ⟨ps, cs, rfl, rp, rc⟩ := hz he
  obtain ⟨hck, hE⟩ := unitEc_zero he
  have hCh := unit_check (checkU_zero.1 hck).2 hE
  obtain ⟨hcl, hpl, hci⟩ := unitU_few few hck
  have hul := unitU_len fs
  have hget : ∀ k f, fs[k]? = some f → ∃ L, (unitU fs).2[k]? = some (codeOf L f) := fun k f hf => ⟨_, unitU_get hf⟩
  rw [he]
  generalize unitU fs = u at rp rc hci hcl hpl hCh hul hget
  clear hz hnz
  refine run ?_
  refine Ob2.alloc rfl fun q3 H7 hq3 a7 g7 => ?_
  refine run ?_
  refine Ob.store rfl rfl rfl a7 rfl (by first | exact Nat.le_of_ble_eq_true rfl | simp) fun H8 s8 k8 l8 => ?_
  replace g7 := g7.but_new k8 (Nat.le_of_eq hq3.symm)
  have s8 : H8[q3]? = some (.cells .var [.int .i64 gl, ps, cs]) := s8
  have b8 := hblk_of s8
  have rc8 := codeR.grow rc g7
  have rp8 := strR.grow rp g7
  have rk8 := fnR.grow rk ((g1.trans g2).trans g7)
  have z8 := hblk_of ((g2.trans g7).at a1)
  have lc : ∀ X, alen Try.prog 28 cs X = some (.int .i64 u.2.length) := fun X => rc8.len rfl X
  have lf : ∀ X, alen Try.prog 22 sk X = some (.int .i64 fs.length) := fun X => rk8.len rfl X
  have lc8 := lc H8
  have lf8 := lf H8
  refine run ?_
  refine (check_ax (p := (gl, u.1, u.2)) (H := H8) rp8 rc8 (by dsimp only; omega)).mono ?_
  rintro _ X ⟨hv, e⟩
  subst X
  rcases hv with ⟨rfl, _⟩ | ⟨_, h⟩
  rotate_left
  · exact absurd hCh h
  have t1 : ((u.2.length : Int) != (fs.length : Int)) = false := by rw [bne_eq_false_iff_eq]; omega
  have t2 : (gl != gl) = false := by simp
  refine run ?_
  refine SW.loop (α := Nat) (fun k => [(1, .pointer (some ⟨q1, 0, none⟩)), (3, .pointer (some ⟨q3, 0, none⟩)), (5, .int .i64 (k : Int))])
    (fun k X => k ≤ fs.length ∧ X = H8) (fun k => fs.length - k) ⟨0, ⟨rfl, rfl, rfl, trivial⟩, Nat.zero_le _, rfl⟩ ?_
  rintro k X ⟨hm, e⟩
  subst X
  refine bC_sound _ _ _ _ ?_
  by_cases hml : k < fs.length
  · have d1 : decide ((k : Int) < (fs.length : Int)) = true := decide_eq_true (by omega)
    obtain ⟨f, hf⟩ := get_lt hml
    obtain ⟨L, hc⟩ := hget k f hf
    obtain ⟨bc, uc, C⟩ := codeAt rc8 k hc
    obtain ⟨bf, o, fk, F⟩ := fnAt rk8 k hf
    have cix := C.ix
    have c0' := C.l0 _ (.refl H8)
    have c1' := C.l1 _ (.refl H8)
    have fix := F.ix
    have f0 := F.l0 _ (.refl H8)
    have f1 := F.l1 _ (.refl H8)
    have e1 : (codeOf L f).1 = f.1 := rfl
    have e2 : (codeOf L f).2.1 = f.2.1 := rfl
    rw [e1] at c0'
    rw [e2] at c1'
    have t3 : (f.1 != f.1) = false := by simp
    have t4 : (f.2.1 != f.2.1) = false := by simp
    refine run ?_
    apply SW.drawG [(0, [], [52, 56, 57, 58, 59, 60, 61], false), (1, [(50, 0)], [50, 52, 56, 57, 58, 59, 60, 61], false), (2, [], [50, 51, 56, 57, 58, 59, 60, 61], false), (3, [(50, 0), (51, 1), (52, 2)], [50, 51, 52, 56, 57, 58, 59, 60, 61], false), (4, [(50, 0), (51, 1), (52, 2), (53, 3)], [50, 51, 52, 53, 56, 57, 58, 59, 60, 61], false), (5, [(50, 0), (51, 1), (52, 2), (53, 3), (54, 4)], [50, 51, 52, 53, 54, 56, 57, 58, 59, 60, 61], false), (6, [], [50, 51, 52, 53, 54, 55, 58], false), (7, [(56, 6)], [50, 51, 52, 53, 54, 55, 56, 58], false), (8, [], [50, 51, 52, 53, 54, 55, 56, 57], false), (9, [(56, 6), (57, 7), (58, 8)], [50, 51, 52, 53, 54, 55, 56, 57, 58], false), (10, [(56, 6), (57, 7), (58, 8), (59, 9)], [50, 51, 52, 53, 54, 55, 56, 57, 58, 59], false), (11, [(56, 6), (57, 7), (58, 8), (59, 9), (60, 10)], [50, 51, 52, 53, 54, 55, 56, 57, 58, 59, 60], false), (12, [(50, 0), (51, 1), (52, 2), (53, 3), (54, 4), (55, 5), (56, 6), (57, 7), (58, 8), (59, 9), (60, 10), (61, 11)], [50, 51, 52, 53, 54, 55, 56, 57, 58, 59, 60, 61], false), (13, [(50, 0), (51, 1), (52, 2), (53, 3), (54, 4), (55, 5), (56, 6), (57, 7), (58, 8), (59, 9), (60, 10), (61, 11), (62, 12)], [50, 51, 52, 53, 54, 55, 56, 57, 58, 59, 60, 61, 62], false), (14, [(50, 0), (51, 1), (52, 2), (53, 3), (54, 4), (55, 5), (56, 6), (57, 7), (58, 8), (59, 9), (60, 10), (61, 11), (62, 12), (63, 13)], [50, 51, 52, 53, 54, 55, 56, 57, 58, 59, 60, 61, 62, 63, 66, 70, 71, 72, 73, 74, 75], false), (15, [(50, 0), (51, 1), (52, 2), (53, 3), (54, 4), (55, 5), (56, 6), (57, 7), (58, 8), (59, 9), (60, 10), (61, 11), (62, 12), (63, 13), (64, 14)], [50, 51, 52, 53, 54, 55, 56, 57, 58, 59, 60, 61, 62, 63, 64, 66, 70, 71, 72, 73, 74, 75], false), (16, [(50, 0), (51, 1), (52, 2), (53, 3), (54, 4), (55, 5), (56, 6), (57, 7), (58, 8), (59, 9), (60, 10), (61, 11), (62, 12), (63, 13)], [50, 51, 52, 53, 54, 55, 56, 57, 58, 59, 60, 61, 62, 63, 64, 65, 70, 71, 72, 73, 74, 75], false), (17, [(50, 0), (51, 1), (52, 2), (53, 3), (54, 4), (55, 5), (56, 6), (57, 7), (58, 8), (59, 9), (60, 10), (61, 11), (62, 12), (63, 13), (64, 14), (65, 15), (66, 16)], [50, 51, 52, 53, 54, 55, 56, 57, 58, 59, 60, 61, 62, 63, 64, 65, 66, 70, 71, 72, 73, 74, 75], false), (18, [(50, 0), (51, 1), (52, 2), (53, 3), (54, 4), (55, 5), (56, 6), (57, 7), (58, 8), (59, 9), (60, 10), (61, 11), (62, 12), (63, 13), (64, 14), (65, 15), (66, 16), (67, 17)], [50, 51, 52, 53, 54, 55, 56, 57, 58, 59, 60, 61, 62, 63, 64, 65, 66, 67, 70, 71, 72, 73, 74, 75], false), (19, [(50, 0), (51, 1), (52, 2), (53, 3), (54, 4), (55, 5), (56, 6), (57, 7), (58, 8), (59, 9), (60, 10), (61, 11), (62, 12), (63, 13), (64, 14), (65, 15), (66, 16), (67, 17), (68, 18)], [50, 51, 52, 53, 54, 55, 56, 57, 58, 59, 60, 61, 62, 63, 64, 65, 66, 67, 68, 70, 71, 72, 73, 74, 75], false), (20, [(50, 0), (51, 1), (52, 2), (53, 3), (54, 4), (55, 5), (56, 6), (57, 7), (58, 8), (59, 9), (60, 10), (61, 11), (62, 12), (63, 13)], [50, 51, 52, 53, 54, 55, 56, 57, 58, 59, 60, 61, 62, 63, 64, 65, 66, 67, 68, 69, 72], false), (21, [(50, 0), (51, 1), (52, 2), (53, 3), (54, 4), (55, 5), (56, 6), (57, 7), (58, 8), (59, 9), (60, 10), (61, 11), (62, 12), (63, 13), (70, 20)], [50, 51, 52, 53, 54, 55, 56, 57, 58, 59, 60, 61, 62, 63, 64, 65, 66, 67, 68, 69, 70, 72], false), (22, [(50, 0), (51, 1), (52, 2), (53, 3), (54, 4), (55, 5), (56, 6), (57, 7), (58, 8), (59, 9), (60, 10), (61, 11), (62, 12), (63, 13)], [50, 51, 52, 53, 54, 55, 56, 57, 58, 59, 60, 61, 62, 63, 64, 65, 66, 67, 68, 69, 70, 71], false), (23, [(50, 0), (51, 1), (52, 2), (53, 3), (54, 4), (55, 5), (56, 6), (57, 7), (58, 8), (59, 9), (60, 10), (61, 11), (62, 12), (63, 13), (70, 20), (71, 21), (72, 22)], [50, 51, 52, 53, 54, 55, 56, 57, 58, 59, 60, 61, 62, 63, 64, 65, 66, 67, 68, 69, 70, 71, 72], false), (24, [(50, 0), (51, 1), (52, 2), (53, 3), (54, 4), (55, 5), (56, 6), (57, 7), (58, 8), (59, 9), (60, 10), (61, 11), (62, 12), (63, 13), (70, 20), (71, 21), (72, 22), (73, 23)], [50, 51, 52, 53, 54, 55, 56, 57, 58, 59, 60, 61, 62, 63, 64, 65, 66, 67, 68, 69, 70, 71, 72, 73], false), (25, [(50, 0), (51, 1), (52, 2), (53, 3), (54, 4), (55, 5), (56, 6), (57, 7), (58, 8), (59, 9), (60, 10), (61, 11), (62, 12), (63, 13), (70, 20), (71, 21), (72, 22), (73, 23), (74, 24)], [50, 51, 52, 53, 54, 55, 56, 57, 58, 59, 60, 61, 62, 63, 64, 65, 66, 67, 68, 69, 70, 71, 72, 73, 74], false), (26, [(50, 0), (51, 1), (52, 2), (53, 3), (54, 4), (55, 5), (56, 6), (57, 7), (58, 8), (59, 9), (60, 10), (61, 11), (62, 12), (63, 13), (64, 14), (65, 15), (66, 16), (67, 17), (68, 18), (69, 19), (70, 20), (71, 21), (72, 22), (73, 23), (74, 24), (75, 25)], [50, 51, 52, 53, 54, 55, 56, 57, 58, 59, 60, 61, 62, 63, 64, 65, 66, 67, 68, 69, 70, 71, 72, 73, 74, 75], false), (27, [(50, 0), (51, 1), (52, 2), (53, 3), (54, 4), (55, 5), (56, 6), (57, 7), (58, 8), (59, 9), (60, 10), (61, 11), (62, 12), (63, 13), (64, 14), (65, 15), (66, 16), (67, 17), (68, 18), (69, 19), (70, 20), (71, 21), (72, 22), (73, 23), (74, 24), (75, 25), (76, 26)], [50, 51, 52, 53, 54, 55, 56, 57, 58, 59, 60, 61, 62, 63, 64, 65, 66, 67, 68, 69, 70, 71, 72, 73, 74, 75, 76], false)]
      [(50, 0), (51, 1), (52, 2), (53, 3), (54, 4), (55, 5), (56, 6), (57, 7), (58, 8), (59, 9), (60, 10), (61, 11), (62, 12), (63, 13), (64, 14), (65, 15), (66, 16), (67, 17), (68, 18), (69, 19), (70, 20), (71, 21), (72, 22), (73, 23), (74, 24), (75, 25), (76, 26), (77, 27)]
      [(1, _), (3, _), (5, _)] rfl (by kernel_rfl)
    case hF => exact ⟨rfl, rfl, rfl, trivial⟩
    refine run ?_
    exact ⟨k + 1, ⟨rfl, rfl, congrArg (fun z => some (Value.int .i64 z)) (w_succ (by omega)), trivial⟩, ⟨hml, rfl⟩, by show fs.length - (k + 1) < fs.length - k; omega⟩
  · have d1 : decide ((k : Int) < (fs.length : Int)) = false := decide_eq_false (by omega)
    refine run ?_
    refine (works15_ax H8).mono ?_
    rintro _ X ⟨rfl, e⟩
    refine run ?_
    rfl
end Go.Proofs.Ytmdjepfpgmignaa
