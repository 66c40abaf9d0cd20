/- The document's writer: Expr. Printed by mk31.py. -/
import Derived.Test.YtmglmjbjgfbdjaaJTr4
set_option linter.unusedVariables false
set_option linter.unusedSimpArgs false
set_option maxRecDepth 20000
set_option maxHeartbeats 8000000
namespace Go.Proofs.Ytmglmjbjgfbdjaa
open Go Ax

theorem rexpr_10 {x : Tr} (hk : x.kind = 10) (hn : x.kids.length = 2) (he : x.kind ≠ 8 → ∀ y ∈ x.kids, RdN 51 y.tx.1 y) (hs : x.kind = 8 → ∀ y ∈ x.kids, RdN 33 y.tx.2.1 y) : RdN 51 x.tx.1 x := by
  intro H l R hl
  obtain ⟨ow, sn, sk, rfl, rn, rk⟩ := R.inv
  refine AX.quiet ?_
  suffices hh : AX Try.prog 51 #[.agg (nodeV x sn sk).toArray] H (fun v H' => v = .string (bstr x.tx.1) ∧ Grow H H') from hh.mono fun v _ ⟨e, g⟩ => ⟨e ▸ plain_str _, e, g⟩
  refine AX.body (n := 223) (rs := [.tmp 2]) Try.func51 rfl (by decide) rfl rfl (bC_sound _ _ _ _ ?_)
  (conv => whnf)
  refine Ob2.box rfl fun q H1 hq ab g1 => ?_
  have bb := hblk_of ab
  have hkm := ow.2.2.2
  replace rk := NodeR.grows rk g1
  replace rn := strR.grow rn g1
  · skip
    have t1 : (x.kind == 1) = false := by rw [hk]; rfl
    have t2 : (x.kind == 2) = false := by rw [hk]; rfl
    have t3 : (x.kind == 3) = false := by rw [hk]; rfl
    have t4 : (x.kind == 4) = false := by rw [hk]; rfl
    have t5 : (x.kind == 5) = false := by rw [hk]; rfl
    have t6 : (x.kind == 6) = false := by rw [hk]; rfl
    have t7 : (x.kind == 7) = false := by rw [hk]; rfl
    have t8 : (x.kind == 8) = false := by rw [hk]; rfl
    have t17 : (x.kind == 17) = false := by rw [hk]; rfl
    have u9 : (x.kind == 9) = false := by rw [hk]; rfl
    have u10 : (x.kind == 10) = true := by rw [hk]; rfl
    obtain ⟨y, z, hks⟩ := two_of hn
    have he' := he (by omega)
    rw [hks] at rk he'
    have u11 : (x.kind == 11) = false := by rw [hk]; rfl
    have u12 : (x.kind == 12) = false := by rw [hk]; rfl
    obtain ⟨b0, o0, n0, k0, K0⟩ := kidAt rk 0 (y := y) rfl
    have x0 : aindexAddr Try.prog 23 sk (.int .i64 0) = _ := K0.ix
    have L0 := K0.ld _ (.refl _)
    refine run ?_
    refine Ob2.alloc rfl fun qc X1 hqc ac gc => ?_
    refine run ?_
    refine Ob.store rfl rfl rfl ac rfl (by first | exact Nat.le_of_ble_eq_true rfl | simp) fun X2 s1 s2 s3 => ?_
    replace gc := gc.but_new s2 (Nat.le_of_eq hqc.symm)
    replace ab := gc.at ab
    replace bb := hblk_of ab
    replace ac := s1
    have bc := hblk_of ac
    clear s1 s2 s3 hqc
    replace g1 := g1.trans gc
    replace rk := NodeR.grows rk gc
    have N0 := K0.nd.grow gc
    have c1 := rank_r N0
    have c2 := rank_r (R.grow g1)
    refine run ?_
    apply SW.drawG [(0, [], [116], false), (2, [], [114, 115], false), (1, [(114, 0)], [114, 116], true), (3, [(114, 0), (115, 1), (116, 2)], [114, 115, 116], true), (4, [(114, 0), (115, 1), (116, 2), (117, 3)], [114, 115, 116, 117], false), (5, [(114, 0), (115, 1), (116, 2), (117, 3), (118, 4)], [114, 115, 116, 117, 118], false)]
      [(114, 0), (115, 1), (116, 2), (117, 3), (118, 4), (10, 5)]
      [(1, _), (9, _)] rfl (by kernel_rfl)
    case hF => exact ⟨rfl, rfl, trivial⟩
    (try (conv => whnf)); (repeat' ((fail_if_success (with_reducible refine And.intro ?_ ?_)); (fail_if_success (with_reducible refine Exists.intro ?_ ?_)); (first | ((with_reducible refine AX.id ?_); (first | (refine (c1).mono ?_; (rintro _ X ⟨rfl, eX⟩; subst X; (conv => whnf))) | (refine (c2).mono ?_; (rintro _ X ⟨rfl, eX⟩; subst X; (conv => whnf))))) | ((with_reducible refine Ob.cat (by first | exact bstr_list _ | rfl) (by first | exact bstr_list _ | rfl) (by ((try simp only [List.length_append, List.length_cons, List.length_nil, lim8, commaS] at hl ⊢); omega)) ?_); (conv => whnf)) | (refine step0 ?_) | (apply bIf.of <;> intro hc <;> (conv => whnf)))))
    have ht : x.tx.1 = atS (rankP x.kind x.op) y y.tx.1 ++ [32] ++ (signT x.op).data.toList ++ [32] ++ atS (rankP x.kind x.op + 1) z z.tx.1 := by rw [Tr.tx_eq, hks, hk]; rfl
    rw [ht] at hl ⊢
    have hc := ratR (he' y (by simp)) N0 (rankP x.kind x.op) (decide (rankP y.kind y.op < rankP x.kind x.op)) (by simp [Tr.rank]) (by simp only [List.length_append, commaS] at hl ⊢; omega)
    obtain ⟨b1, o1, n1, k1, K1⟩ := kidAt rk 1 (y := z) rfl
    have x1 : aindexAddr Try.prog 23 sk (.int .i64 1) = _ := K1.ix
    have L1 := K1.ld _ (.refl _)
    have c3 := rank_r K1.nd
    have hd := ratR (he' z (by simp)) K1.nd (rankP x.kind x.op + 1) (decide (rankP z.kind z.op ≤ rankP x.kind x.op)) (by simp [Tr.rank, Int.lt_add_one_iff]) (by simp only [List.length_append, commaS] at hl ⊢; omega)
    have c4 := rsign_ax X2 x.op
    (try (conv => whnf)); (repeat' ((fail_if_success (with_reducible refine And.intro ?_ ?_)); (fail_if_success (with_reducible refine Exists.intro ?_ ?_)); (first | ((with_reducible refine AX.id ?_); (first | (refine (c4).mono ?_; (rintro _ X ⟨rfl, eX⟩; subst X; (conv => whnf))))) | ((with_reducible refine Ob.cat (by first | exact bstr_list _ | rfl) (by first | exact bstr_list _ | rfl) (by ((try simp only [List.length_append, List.length_cons, List.length_nil, lim8, commaS] at hl ⊢); omega)) ?_); (conv => whnf)) | (refine step0 ?_) | (apply bIf.of <;> intro hc <;> (conv => whnf)))))
    apply SW.drawG [(0, [], [150, 153, 156, 157, 158, 159, 160, 161, 162, 163, 165], false), (1, [], [149, 153, 156, 157, 158, 159, 160, 161, 162, 163, 165], false), (4, [], [149, 150, 151, 152, 156, 157, 158, 159, 160, 161, 162, 163, 164, 165, 166, 167, 168], false), (7, [], [149, 150, 151, 152, 153, 154, 155, 160, 161, 162, 163, 164, 165, 166, 167], false), (8, [(156, 7)], [149, 150, 151, 152, 153, 154, 155, 156, 160, 161, 162, 163, 164, 165, 166, 167], false), (9, [(156, 7), (157, 8)], [149, 150, 151, 152, 153, 154, 155, 156, 157, 160, 161, 162, 163, 164, 165, 166, 167], false), (10, [(156, 7), (157, 8), (158, 9)], [149, 150, 151, 152, 153, 154, 155, 156, 157, 158, 160, 161, 162, 163, 164, 165, 166, 167], false), (11, [], [149, 150, 151, 152, 153, 154, 155, 156, 157, 158, 159, 165], false), (12, [(160, 11)], [149, 150, 151, 152, 153, 154, 155, 156, 157, 158, 159, 160, 165], false), (13, [(160, 11), (161, 12)], [149, 150, 151, 152, 153, 154, 155, 156, 157, 158, 159, 160, 161, 165], false), (14, [(160, 11), (161, 12), (162, 13)], [149, 150, 151, 152, 153, 154, 155, 156, 157, 158, 159, 160, 161, 162, 165], false), (16, [], [149, 150, 151, 152, 153, 154, 155, 156, 157, 158, 159, 160, 161, 162, 163, 164], false), (2, [(149, 0), (150, 1)], [149, 150, 153, 156, 157, 158, 159, 160, 161, 162, 163, 165], true), (3, [(149, 0), (150, 1), (151, 2)], [149, 150, 151, 153, 156, 157, 158, 159, 160, 161, 162, 163, 164, 165, 166, 167, 168], false), (5, [(149, 0), (150, 1), (151, 2), (152, 3), (153, 4)], [149, 150, 151, 152, 153, 156, 157, 158, 159, 160, 161, 162, 163, 164, 165, 166, 167, 168], false), (6, [(149, 0), (150, 1), (151, 2), (152, 3), (153, 4), (154, 5)], [149, 150, 151, 152, 153, 154, 156, 157, 158, 159, 160, 161, 162, 163, 164, 165, 166, 167, 168], false), (15, [(149, 0), (150, 1), (151, 2), (160, 11), (161, 12), (162, 13), (163, 14)], [149, 150, 151, 152, 153, 154, 155, 156, 157, 158, 159, 160, 161, 162, 163, 165], true), (17, [(149, 0), (150, 1), (151, 2), (160, 11), (161, 12), (162, 13), (163, 14), (164, 15), (165, 16)], [149, 150, 151, 152, 153, 154, 155, 156, 157, 158, 159, 160, 161, 162, 163, 164, 165], true), (18, [(149, 0), (150, 1), (151, 2), (160, 11), (161, 12), (162, 13), (163, 14), (164, 15), (165, 16), (166, 17)], [149, 150, 151, 152, 153, 154, 155, 156, 157, 158, 159, 160, 161, 162, 163, 164, 165, 166], false), (19, [(149, 0), (150, 1), (151, 2), (156, 7), (157, 8), (158, 9), (159, 10), (160, 11), (161, 12), (162, 13), (163, 14), (164, 15), (165, 16), (166, 17), (167, 18)], [149, 150, 151, 152, 153, 154, 155, 156, 157, 158, 159, 160, 161, 162, 163, 164, 165, 166, 167], true), (20, [(149, 0), (150, 1), (151, 2), (152, 3), (153, 4), (154, 5), (155, 6), (156, 7), (157, 8), (158, 9), (159, 10), (160, 11), (161, 12), (162, 13), (163, 14), (164, 15), (165, 16), (166, 17), (167, 18), (168, 19)], [149, 150, 151, 152, 153, 154, 155, 156, 157, 158, 159, 160, 161, 162, 163, 164, 165, 166, 167, 168], false), (21, [(149, 0), (150, 1), (151, 2), (152, 3), (153, 4), (154, 5), (155, 6), (156, 7), (157, 8), (158, 9), (159, 10), (160, 11), (161, 12), (162, 13), (163, 14), (164, 15), (165, 16), (166, 17), (167, 18), (168, 19), (169, 20)], [149, 150, 151, 152, 153, 154, 155, 156, 157, 158, 159, 160, 161, 162, 163, 164, 165, 166, 167, 168, 169], false)]
      [(149, 0), (150, 1), (151, 2), (152, 3), (153, 4), (154, 5), (155, 6), (156, 7), (157, 8), (158, 9), (159, 10), (160, 11), (161, 12), (162, 13), (163, 14), (164, 15), (165, 16), (166, 17), (167, 18), (168, 19), (169, 20), (2, 21)]
      [(1, _), (9, _), (10, _), (11, _)] rfl (by kernel_rfl)
    case hF => exact ⟨rfl, rfl, rfl, rfl, trivial⟩
    (try (conv => whnf)); (repeat' ((fail_if_success (with_reducible refine And.intro ?_ ?_)); (fail_if_success (with_reducible refine Exists.intro ?_ ?_)); (first | ((with_reducible refine AX.id ?_); (first | (refine (hc).mono ?_; (rintro _ X ⟨rfl, eX⟩; subst X; (conv => whnf))) | (refine (hd).mono ?_; (rintro _ X ⟨rfl, eX⟩; subst X; (conv => whnf))) | (refine (c3).mono ?_; (rintro _ X ⟨rfl, eX⟩; subst X; (conv => whnf))) | (refine (c2).mono ?_; (rintro _ X ⟨rfl, eX⟩; subst X; (conv => whnf))))) | ((with_reducible refine Ob.cat (by first | exact bstr_list _ | rfl) (by first | exact bstr_list _ | rfl) (by ((try simp only [List.length_append, List.length_cons, List.length_nil, lim8, commaS] at hl ⊢); omega)) ?_); (conv => whnf)) | (refine step0 ?_) | (apply bIf.of <;> intro hc <;> (conv => whnf)))))
    exact ⟨congrArg (fun l => Value.string (bstr l)) (by first | rfl | simp only [List.append_assoc, List.cons_append, List.nil_append]), g1⟩
theorem rexpr_11 {x : Tr} (hk : x.kind = 11) (hn : x.kids.length = 2) (he : x.kind ≠ 8 → ∀ y ∈ x.kids, RdN 51 y.tx.1 y) (hs : x.kind = 8 → ∀ y ∈ x.kids, RdN 33 y.tx.2.1 y) : RdN 51 x.tx.1 x := by
  intro H l R hl
  obtain ⟨ow, sn, sk, rfl, rn, rk⟩ := R.inv
  refine AX.quiet ?_
  suffices hh : AX Try.prog 51 #[.agg (nodeV x sn sk).toArray] H (fun v H' => v = .string (bstr x.tx.1) ∧ Grow H H') from hh.mono fun v _ ⟨e, g⟩ => ⟨e ▸ plain_str _, e, g⟩
  refine AX.body (n := 223) (rs := [.tmp 2]) Try.func51 rfl (by decide) rfl rfl (bC_sound _ _ _ _ ?_)
  (conv => whnf)
  refine Ob2.box rfl fun q H1 hq ab g1 => ?_
  have bb := hblk_of ab
  have hkm := ow.2.2.2
  replace rk := NodeR.grows rk g1
  replace rn := strR.grow rn g1
  · skip
    · skip
      have t1 : (x.kind == 1) = false := by rw [hk]; rfl
      have t2 : (x.kind == 2) = false := by rw [hk]; rfl
      have t3 : (x.kind == 3) = false := by rw [hk]; rfl
      have t4 : (x.kind == 4) = false := by rw [hk]; rfl
      have t5 : (x.kind == 5) = false := by rw [hk]; rfl
      have t6 : (x.kind == 6) = false := by rw [hk]; rfl
      have t7 : (x.kind == 7) = false := by rw [hk]; rfl
      have t8 : (x.kind == 8) = false := by rw [hk]; rfl
      have t17 : (x.kind == 17) = false := by rw [hk]; rfl
      have u9 : (x.kind == 9) = false := by rw [hk]; rfl
      have u10 : (x.kind == 10) = false := by rw [hk]; rfl
      have u11 : (x.kind == 11) = true := by rw [hk]; rfl
      obtain ⟨y, z, hks⟩ := two_of hn
      have he' := he (by omega)
      rw [hks] at rk he'
      have u12 : (x.kind == 12) = false := by rw [hk]; rfl
      obtain ⟨b0, o0, n0, k0, K0⟩ := kidAt rk 0 (y := y) rfl
      have x0 : aindexAddr Try.prog 23 sk (.int .i64 0) = _ := K0.ix
      have L0 := K0.ld _ (.refl _)
      refine run ?_
      refine Ob2.alloc rfl fun qc X1 hqc ac gc => ?_
      refine run ?_
      refine Ob.store rfl rfl rfl ac rfl (by first | exact Nat.le_of_ble_eq_true rfl | simp) fun X2 s1 s2 s3 => ?_
      replace gc := gc.but_new s2 (Nat.le_of_eq hqc.symm)
      replace ab := gc.at ab
      replace bb := hblk_of ab
      replace ac := s1
      have bc := hblk_of ac
      clear s1 s2 s3 hqc
      replace g1 := g1.trans gc
      replace rk := NodeR.grows rk gc
      have N0 := K0.nd.grow gc
      have c1 := rank_r N0
      have c2 := rank_r (R.grow g1)
      refine run ?_
      apply SW.drawG [(0, [], [116], false), (2, [], [114, 115], false), (1, [(114, 0)], [114, 116], true), (3, [(114, 0), (115, 1), (116, 2)], [114, 115, 116], true), (4, [(114, 0), (115, 1), (116, 2), (117, 3)], [114, 115, 116, 117], false), (5, [(114, 0), (115, 1), (116, 2), (117, 3), (118, 4)], [114, 115, 116, 117, 118], false)]
        [(114, 0), (115, 1), (116, 2), (117, 3), (118, 4), (10, 5)]
        [(1, _), (9, _)] rfl (by kernel_rfl)
      case hF => exact ⟨rfl, rfl, trivial⟩
      (try (conv => whnf)); (repeat' ((fail_if_success (with_reducible refine And.intro ?_ ?_)); (fail_if_success (with_reducible refine Exists.intro ?_ ?_)); (first | ((with_reducible refine AX.id ?_); (first | (refine (c1).mono ?_; (rintro _ X ⟨rfl, eX⟩; subst X; (conv => whnf))) | (refine (c2).mono ?_; (rintro _ X ⟨rfl, eX⟩; subst X; (conv => whnf))))) | ((with_reducible refine Ob.cat (by first | exact bstr_list _ | rfl) (by first | exact bstr_list _ | rfl) (by ((try simp only [List.length_append, List.length_cons, List.length_nil, lim8, commaS] at hl ⊢); omega)) ?_); (conv => whnf)) | (refine step0 ?_) | (apply bIf.of <;> intro hc <;> (conv => whnf)))))
      have ht : x.tx.1 = atS (rankP x.kind x.op) y y.tx.1 ++ [32] ++ [38, 38] ++ [32] ++ atS (rankP x.kind x.op + 1) z z.tx.1 := by rw [Tr.tx_eq, hks, hk]; rfl
      rw [ht] at hl ⊢
      have hc := ratR (he' y (by simp)) N0 (rankP x.kind x.op) (decide (rankP y.kind y.op < rankP x.kind x.op)) (by simp [Tr.rank]) (by simp only [List.length_append, commaS] at hl ⊢; omega)
      obtain ⟨b1, o1, n1, k1, K1⟩ := kidAt rk 1 (y := z) rfl
      have x1 : aindexAddr Try.prog 23 sk (.int .i64 1) = _ := K1.ix
      have L1 := K1.ld _ (.refl _)
      have c3 := rank_r K1.nd
      have hd := ratR (he' z (by simp)) K1.nd (rankP x.kind x.op + 1) (decide (rankP z.kind z.op ≤ rankP x.kind x.op)) (by simp [Tr.rank, Int.lt_add_one_iff]) (by simp only [List.length_append, commaS] at hl ⊢; omega)
      have c4 := rsign_ax X2 x.op
      (try (conv => whnf)); (repeat' ((fail_if_success (with_reducible refine And.intro ?_ ?_)); (fail_if_success (with_reducible refine Exists.intro ?_ ?_)); (first | ((with_reducible refine AX.id ?_); (first | (refine (c4).mono ?_; (rintro _ X ⟨rfl, eX⟩; subst X; (conv => whnf))))) | ((with_reducible refine Ob.cat (by first | exact bstr_list _ | rfl) (by first | exact bstr_list _ | rfl) (by ((try simp only [List.length_append, List.length_cons, List.length_nil, lim8, commaS] at hl ⊢); omega)) ?_); (conv => whnf)) | (refine step0 ?_) | (apply bIf.of <;> intro hc <;> (conv => whnf)))))
      apply SW.drawG [(0, [], [150, 153, 156, 157, 158, 159, 160, 161, 162, 163, 165], false), (1, [], [149, 153, 156, 157, 158, 159, 160, 161, 162, 163, 165], false), (4, [], [149, 150, 151, 152, 156, 157, 158, 159, 160, 161, 162, 163, 164, 165, 166, 167, 168], false), (7, [], [149, 150, 151, 152, 153, 154, 155, 160, 161, 162, 163, 164, 165, 166, 167], false), (8, [(156, 7)], [149, 150, 151, 152, 153, 154, 155, 156, 160, 161, 162, 163, 164, 165, 166, 167], false), (9, [(156, 7), (157, 8)], [149, 150, 151, 152, 153, 154, 155, 156, 157, 160, 161, 162, 163, 164, 165, 166, 167], false), (10, [(156, 7), (157, 8), (158, 9)], [149, 150, 151, 152, 153, 154, 155, 156, 157, 158, 160, 161, 162, 163, 164, 165, 166, 167], false), (11, [], [149, 150, 151, 152, 153, 154, 155, 156, 157, 158, 159, 165], false), (12, [(160, 11)], [149, 150, 151, 152, 153, 154, 155, 156, 157, 158, 159, 160, 165], false), (13, [(160, 11), (161, 12)], [149, 150, 151, 152, 153, 154, 155, 156, 157, 158, 159, 160, 161, 165], false), (14, [(160, 11), (161, 12), (162, 13)], [149, 150, 151, 152, 153, 154, 155, 156, 157, 158, 159, 160, 161, 162, 165], false), (16, [], [149, 150, 151, 152, 153, 154, 155, 156, 157, 158, 159, 160, 161, 162, 163, 164], false), (2, [(149, 0), (150, 1)], [149, 150, 153, 156, 157, 158, 159, 160, 161, 162, 163, 165], true), (3, [(149, 0), (150, 1), (151, 2)], [149, 150, 151, 153, 156, 157, 158, 159, 160, 161, 162, 163, 164, 165, 166, 167, 168], false), (5, [(149, 0), (150, 1), (151, 2), (152, 3), (153, 4)], [149, 150, 151, 152, 153, 156, 157, 158, 159, 160, 161, 162, 163, 164, 165, 166, 167, 168], false), (6, [(149, 0), (150, 1), (151, 2), (152, 3), (153, 4), (154, 5)], [149, 150, 151, 152, 153, 154, 156, 157, 158, 159, 160, 161, 162, 163, 164, 165, 166, 167, 168], false), (15, [(149, 0), (150, 1), (151, 2), (160, 11), (161, 12), (162, 13), (163, 14)], [149, 150, 151, 152, 153, 154, 155, 156, 157, 158, 159, 160, 161, 162, 163, 165], true), (17, [(149, 0), (150, 1), (151, 2), (160, 11), (161, 12), (162, 13), (163, 14), (164, 15), (165, 16)], [149, 150, 151, 152, 153, 154, 155, 156, 157, 158, 159, 160, 161, 162, 163, 164, 165], true), (18, [(149, 0), (150, 1), (151, 2), (160, 11), (161, 12), (162, 13), (163, 14), (164, 15), (165, 16), (166, 17)], [149, 150, 151, 152, 153, 154, 155, 156, 157, 158, 159, 160, 161, 162, 163, 164, 165, 166], false), (19, [(149, 0), (150, 1), (151, 2), (156, 7), (157, 8), (158, 9), (159, 10), (160, 11), (161, 12), (162, 13), (163, 14), (164, 15), (165, 16), (166, 17), (167, 18)], [149, 150, 151, 152, 153, 154, 155, 156, 157, 158, 159, 160, 161, 162, 163, 164, 165, 166, 167], true), (20, [(149, 0), (150, 1), (151, 2), (152, 3), (153, 4), (154, 5), (155, 6), (156, 7), (157, 8), (158, 9), (159, 10), (160, 11), (161, 12), (162, 13), (163, 14), (164, 15), (165, 16), (166, 17), (167, 18), (168, 19)], [149, 150, 151, 152, 153, 154, 155, 156, 157, 158, 159, 160, 161, 162, 163, 164, 165, 166, 167, 168], false), (21, [(149, 0), (150, 1), (151, 2), (152, 3), (153, 4), (154, 5), (155, 6), (156, 7), (157, 8), (158, 9), (159, 10), (160, 11), (161, 12), (162, 13), (163, 14), (164, 15), (165, 16), (166, 17), (167, 18), (168, 19), (169, 20)], [149, 150, 151, 152, 153, 154, 155, 156, 157, 158, 159, 160, 161, 162, 163, 164, 165, 166, 167, 168, 169], false)]
        [(149, 0), (150, 1), (151, 2), (152, 3), (153, 4), (154, 5), (155, 6), (156, 7), (157, 8), (158, 9), (159, 10), (160, 11), (161, 12), (162, 13), (163, 14), (164, 15), (165, 16), (166, 17), (167, 18), (168, 19), (169, 20), (2, 21)]
        [(1, _), (9, _), (10, _), (11, _)] rfl (by kernel_rfl)
      case hF => exact ⟨rfl, rfl, rfl, rfl, trivial⟩
      (try (conv => whnf)); (repeat' ((fail_if_success (with_reducible refine And.intro ?_ ?_)); (fail_if_success (with_reducible refine Exists.intro ?_ ?_)); (first | ((with_reducible refine AX.id ?_); (first | (refine (hc).mono ?_; (rintro _ X ⟨rfl, eX⟩; subst X; (conv => whnf))) | (refine (hd).mono ?_; (rintro _ X ⟨rfl, eX⟩; subst X; (conv => whnf))) | (refine (c3).mono ?_; (rintro _ X ⟨rfl, eX⟩; subst X; (conv => whnf))) | (refine (c2).mono ?_; (rintro _ X ⟨rfl, eX⟩; subst X; (conv => whnf))))) | ((with_reducible refine Ob.cat (by first | exact bstr_list _ | rfl) (by first | exact bstr_list _ | rfl) (by ((try simp only [List.length_append, List.length_cons, List.length_nil, lim8, commaS] at hl ⊢); omega)) ?_); (conv => whnf)) | (refine step0 ?_) | (apply bIf.of <;> intro hc <;> (conv => whnf)))))
      exact ⟨congrArg (fun l => Value.string (bstr l)) (by first | rfl | simp only [List.append_assoc, List.cons_append, List.nil_append]), g1⟩
theorem rexpr_12 {x : Tr} (hk : x.kind = 12) (hn : x.kids.length = 2) (he : x.kind ≠ 8 → ∀ y ∈ x.kids, RdN 51 y.tx.1 y) (hs : x.kind = 8 → ∀ y ∈ x.kids, RdN 33 y.tx.2.1 y) : RdN 51 x.tx.1 x := by
  intro H l R hl
  obtain ⟨ow, sn, sk, rfl, rn, rk⟩ := R.inv
  refine AX.quiet ?_
  suffices hh : AX Try.prog 51 #[.agg (nodeV x sn sk).toArray] H (fun v H' => v = .string (bstr x.tx.1) ∧ Grow H H') from hh.mono fun v _ ⟨e, g⟩ => ⟨e ▸ plain_str _, e, g⟩
  refine AX.body (n := 223) (rs := [.tmp 2]) Try.func51 rfl (by decide) rfl rfl (bC_sound _ _ _ _ ?_)
  (conv => whnf)
  refine Ob2.box rfl fun q H1 hq ab g1 => ?_
  have bb := hblk_of ab
  have hkm := ow.2.2.2
  replace rk := NodeR.grows rk g1
  replace rn := strR.grow rn g1
  · skip
    · skip
      have t1 : (x.kind == 1) = false := by rw [hk]; rfl
      have t2 : (x.kind == 2) = false := by rw [hk]; rfl
      have t3 : (x.kind == 3) = false := by rw [hk]; rfl
      have t4 : (x.kind == 4) = false := by rw [hk]; rfl
      have t5 : (x.kind == 5) = false := by rw [hk]; rfl
      have t6 : (x.kind == 6) = false := by rw [hk]; rfl
      have t7 : (x.kind == 7) = false := by rw [hk]; rfl
      have t8 : (x.kind == 8) = false := by rw [hk]; rfl
      have t17 : (x.kind == 17) = false := by rw [hk]; rfl
      have u9 : (x.kind == 9) = false := by rw [hk]; rfl
      have u10 : (x.kind == 10) = false := by rw [hk]; rfl
      have u11 : (x.kind == 11) = false := by rw [hk]; rfl
      have u12 : (x.kind == 12) = true := by rw [hk]; rfl
      obtain ⟨y, z, hks⟩ := two_of hn
      have he' := he (by omega)
      rw [hks] at rk he'
      obtain ⟨b0, o0, n0, k0, K0⟩ := kidAt rk 0 (y := y) rfl
      have x0 : aindexAddr Try.prog 23 sk (.int .i64 0) = _ := K0.ix
      have L0 := K0.ld _ (.refl _)
      refine run ?_
      refine Ob2.alloc rfl fun qc X1 hqc ac gc => ?_
      refine run ?_
      refine Ob.store rfl rfl rfl ac rfl (by first | exact Nat.le_of_ble_eq_true rfl | simp) fun X2 s1 s2 s3 => ?_
      replace gc := gc.but_new s2 (Nat.le_of_eq hqc.symm)
      replace ab := gc.at ab
      replace bb := hblk_of ab
      replace ac := s1
      have bc := hblk_of ac
      clear s1 s2 s3 hqc
      replace g1 := g1.trans gc
      replace rk := NodeR.grows rk gc
      have N0 := K0.nd.grow gc
      have c1 := rank_r N0
      have c2 := rank_r (R.grow g1)
      refine run ?_
      apply SW.drawG [(0, [], [116], false), (2, [], [114, 115], false), (1, [(114, 0)], [114, 116], true), (3, [(114, 0), (115, 1), (116, 2)], [114, 115, 116], true), (4, [(114, 0), (115, 1), (116, 2), (117, 3)], [114, 115, 116, 117], false), (5, [(114, 0), (115, 1), (116, 2), (117, 3), (118, 4)], [114, 115, 116, 117, 118], false)]
        [(114, 0), (115, 1), (116, 2), (117, 3), (118, 4), (10, 5)]
        [(1, _), (9, _)] rfl (by kernel_rfl)
      case hF => exact ⟨rfl, rfl, trivial⟩
      (try (conv => whnf)); (repeat' ((fail_if_success (with_reducible refine And.intro ?_ ?_)); (fail_if_success (with_reducible refine Exists.intro ?_ ?_)); (first | ((with_reducible refine AX.id ?_); (first | (refine (c1).mono ?_; (rintro _ X ⟨rfl, eX⟩; subst X; (conv => whnf))) | (refine (c2).mono ?_; (rintro _ X ⟨rfl, eX⟩; subst X; (conv => whnf))))) | ((with_reducible refine Ob.cat (by first | exact bstr_list _ | rfl) (by first | exact bstr_list _ | rfl) (by ((try simp only [List.length_append, List.length_cons, List.length_nil, lim8, commaS] at hl ⊢); omega)) ?_); (conv => whnf)) | (refine step0 ?_) | (apply bIf.of <;> intro hc <;> (conv => whnf)))))
      have ht : x.tx.1 = atS (rankP x.kind x.op) y y.tx.1 ++ [32] ++ [124, 124] ++ [32] ++ atS (rankP x.kind x.op + 1) z z.tx.1 := by rw [Tr.tx_eq, hks, hk]; rfl
      rw [ht] at hl ⊢
      have hc := ratR (he' y (by simp)) N0 (rankP x.kind x.op) (decide (rankP y.kind y.op < rankP x.kind x.op)) (by simp [Tr.rank]) (by simp only [List.length_append, commaS] at hl ⊢; omega)
      obtain ⟨b1, o1, n1, k1, K1⟩ := kidAt rk 1 (y := z) rfl
      have x1 : aindexAddr Try.prog 23 sk (.int .i64 1) = _ := K1.ix
      have L1 := K1.ld _ (.refl _)
      have c3 := rank_r K1.nd
      have hd := ratR (he' z (by simp)) K1.nd (rankP x.kind x.op + 1) (decide (rankP z.kind z.op ≤ rankP x.kind x.op)) (by simp [Tr.rank, Int.lt_add_one_iff]) (by simp only [List.length_append, commaS] at hl ⊢; omega)
      have c4 := rsign_ax X2 x.op
      (try (conv => whnf)); (repeat' ((fail_if_success (with_reducible refine And.intro ?_ ?_)); (fail_if_success (with_reducible refine Exists.intro ?_ ?_)); (first | ((with_reducible refine AX.id ?_); (first | (refine (c4).mono ?_; (rintro _ X ⟨rfl, eX⟩; subst X; (conv => whnf))))) | ((with_reducible refine Ob.cat (by first | exact bstr_list _ | rfl) (by first | exact bstr_list _ | rfl) (by ((try simp only [List.length_append, List.length_cons, List.length_nil, lim8, commaS] at hl ⊢); omega)) ?_); (conv => whnf)) | (refine step0 ?_) | (apply bIf.of <;> intro hc <;> (conv => whnf)))))
      apply SW.drawG [(0, [], [150, 153, 156, 157, 158, 159, 160, 161, 162, 163, 165], false), (1, [], [149, 153, 156, 157, 158, 159, 160, 161, 162, 163, 165], false), (4, [], [149, 150, 151, 152, 156, 157, 158, 159, 160, 161, 162, 163, 164, 165, 166, 167, 168], false), (7, [], [149, 150, 151, 152, 153, 154, 155, 160, 161, 162, 163, 164, 165, 166, 167], false), (8, [(156, 7)], [149, 150, 151, 152, 153, 154, 155, 156, 160, 161, 162, 163, 164, 165, 166, 167], false), (9, [(156, 7), (157, 8)], [149, 150, 151, 152, 153, 154, 155, 156, 157, 160, 161, 162, 163, 164, 165, 166, 167], false), (10, [(156, 7), (157, 8), (158, 9)], [149, 150, 151, 152, 153, 154, 155, 156, 157, 158, 160, 161, 162, 163, 164, 165, 166, 167], false), (11, [], [149, 150, 151, 152, 153, 154, 155, 156, 157, 158, 159, 165], false), (12, [(160, 11)], [149, 150, 151, 152, 153, 154, 155, 156, 157, 158, 159, 160, 165], false), (13, [(160, 11), (161, 12)], [149, 150, 151, 152, 153, 154, 155, 156, 157, 158, 159, 160, 161, 165], false), (14, [(160, 11), (161, 12), (162, 13)], [149, 150, 151, 152, 153, 154, 155, 156, 157, 158, 159, 160, 161, 162, 165], false), (16, [], [149, 150, 151, 152, 153, 154, 155, 156, 157, 158, 159, 160, 161, 162, 163, 164], false), (2, [(149, 0), (150, 1)], [149, 150, 153, 156, 157, 158, 159, 160, 161, 162, 163, 165], true), (3, [(149, 0), (150, 1), (151, 2)], [149, 150, 151, 153, 156, 157, 158, 159, 160, 161, 162, 163, 164, 165, 166, 167, 168], false), (5, [(149, 0), (150, 1), (151, 2), (152, 3), (153, 4)], [149, 150, 151, 152, 153, 156, 157, 158, 159, 160, 161, 162, 163, 164, 165, 166, 167, 168], false), (6, [(149, 0), (150, 1), (151, 2), (152, 3), (153, 4), (154, 5)], [149, 150, 151, 152, 153, 154, 156, 157, 158, 159, 160, 161, 162, 163, 164, 165, 166, 167, 168], false), (15, [(149, 0), (150, 1), (151, 2), (160, 11), (161, 12), (162, 13), (163, 14)], [149, 150, 151, 152, 153, 154, 155, 156, 157, 158, 159, 160, 161, 162, 163, 165], true), (17, [(149, 0), (150, 1), (151, 2), (160, 11), (161, 12), (162, 13), (163, 14), (164, 15), (165, 16)], [149, 150, 151, 152, 153, 154, 155, 156, 157, 158, 159, 160, 161, 162, 163, 164, 165], true), (18, [(149, 0), (150, 1), (151, 2), (160, 11), (161, 12), (162, 13), (163, 14), (164, 15), (165, 16), (166, 17)], [149, 150, 151, 152, 153, 154, 155, 156, 157, 158, 159, 160, 161, 162, 163, 164, 165, 166], false), (19, [(149, 0), (150, 1), (151, 2), (156, 7), (157, 8), (158, 9), (159, 10), (160, 11), (161, 12), (162, 13), (163, 14), (164, 15), (165, 16), (166, 17), (167, 18)], [149, 150, 151, 152, 153, 154, 155, 156, 157, 158, 159, 160, 161, 162, 163, 164, 165, 166, 167], true), (20, [(149, 0), (150, 1), (151, 2), (152, 3), (153, 4), (154, 5), (155, 6), (156, 7), (157, 8), (158, 9), (159, 10), (160, 11), (161, 12), (162, 13), (163, 14), (164, 15), (165, 16), (166, 17), (167, 18), (168, 19)], [149, 150, 151, 152, 153, 154, 155, 156, 157, 158, 159, 160, 161, 162, 163, 164, 165, 166, 167, 168], false), (21, [(149, 0), (150, 1), (151, 2), (152, 3), (153, 4), (154, 5), (155, 6), (156, 7), (157, 8), (158, 9), (159, 10), (160, 11), (161, 12), (162, 13), (163, 14), (164, 15), (165, 16), (166, 17), (167, 18), (168, 19), (169, 20)], [149, 150, 151, 152, 153, 154, 155, 156, 157, 158, 159, 160, 161, 162, 163, 164, 165, 166, 167, 168, 169], false)]
        [(149, 0), (150, 1), (151, 2), (152, 3), (153, 4), (154, 5), (155, 6), (156, 7), (157, 8), (158, 9), (159, 10), (160, 11), (161, 12), (162, 13), (163, 14), (164, 15), (165, 16), (166, 17), (167, 18), (168, 19), (169, 20), (2, 21)]
        [(1, _), (9, _), (10, _), (11, _)] rfl (by kernel_rfl)
      case hF => exact ⟨rfl, rfl, rfl, rfl, trivial⟩
      (try (conv => whnf)); (repeat' ((fail_if_success (with_reducible refine And.intro ?_ ?_)); (fail_if_success (with_reducible refine Exists.intro ?_ ?_)); (first | ((with_reducible refine AX.id ?_); (first | (refine (hc).mono ?_; (rintro _ X ⟨rfl, eX⟩; subst X; (conv => whnf))) | (refine (hd).mono ?_; (rintro _ X ⟨rfl, eX⟩; subst X; (conv => whnf))) | (refine (c3).mono ?_; (rintro _ X ⟨rfl, eX⟩; subst X; (conv => whnf))) | (refine (c2).mono ?_; (rintro _ X ⟨rfl, eX⟩; subst X; (conv => whnf))))) | ((with_reducible refine Ob.cat (by first | exact bstr_list _ | rfl) (by first | exact bstr_list _ | rfl) (by ((try simp only [List.length_append, List.length_cons, List.length_nil, lim8, commaS] at hl ⊢); omega)) ?_); (conv => whnf)) | (refine step0 ?_) | (apply bIf.of <;> intro hc <;> (conv => whnf)))))
      exact ⟨congrArg (fun l => Value.string (bstr l)) (by first | rfl | simp only [List.append_assoc, List.cons_append, List.nil_append]), g1⟩
end Go.Proofs.Ytmglmjbjgfbdjaa
/- The document's writer: Expr. Printed by mk31.py. -/
set_option linter.unusedVariables false
set_option linter.unusedSimpArgs false
set_option maxRecDepth 20000
set_option maxHeartbeats 8000000
namespace Go.Proofs.Ytmglmjbjgfbdjaa
open Go Ax

theorem rexpr_15 {x : Tr} (hk : x.kind = 15) (hn : 1 ≤ x.kids.length) (he : x.kind ≠ 8 → ∀ y ∈ x.kids, RdN 51 y.tx.1 y) (hs : x.kind = 8 → ∀ y ∈ x.kids, RdN 33 y.tx.2.1 y) : RdN 51 x.tx.1 x := by
  intro H l R hl
  obtain ⟨ow, sn, sk, rfl, rn, rk⟩ := R.inv
  refine AX.quiet ?_
  suffices hh : AX Try.prog 51 #[.agg (nodeV x sn sk).toArray] H (fun v H' => v = .string (bstr x.tx.1) ∧ Grow H H') from hh.mono fun v _ ⟨e, g⟩ => ⟨e ▸ plain_str _, e, g⟩
  refine AX.body (n := 223) (rs := [.tmp 2]) Try.func51 rfl (by decide) rfl rfl (bC_sound _ _ _ _ ?_)
  (conv => whnf)
  refine Ob2.box rfl fun q H1 hq ab g1 => ?_
  have bb := hblk_of ab
  have hkm := ow.2.2.2
  replace rk := NodeR.grows rk g1
  replace rn := strR.grow rn g1
  · skip
    have t1 : (x.kind == 1) = false := by rw [hk]; rfl
    have t2 : (x.kind == 2) = false := by rw [hk]; rfl
    have t3 : (x.kind == 3) = false := by rw [hk]; rfl
    have t4 : (x.kind == 4) = false := by rw [hk]; rfl
    have t5 : (x.kind == 5) = false := by rw [hk]; rfl
    have t6 : (x.kind == 6) = false := by rw [hk]; rfl
    have t7 : (x.kind == 7) = false := by rw [hk]; rfl
    have t8 : (x.kind == 8) = false := by rw [hk]; rfl
    have t17 : (x.kind == 17) = false := by rw [hk]; rfl
    have u9 : (x.kind == 9) = false := by rw [hk]; rfl
    have u10 : (x.kind == 10) = false := by rw [hk]; rfl
    have u11 : (x.kind == 11) = false := by rw [hk]; rfl
    have u12 : (x.kind == 12) = false := by rw [hk]; rfl
    have u13 : (x.kind == 13) = false := by rw [hk]; rfl
    have u14 : (x.kind == 14) = false := by rw [hk]; rfl
    have u15 : (x.kind == 15) = true := by rw [hk]; rfl
    obtain ⟨y, r, hks⟩ := some_of hn
    have he' := he (by omega)
    rw [hks] at rk he'
    rw [hks] at hkm
    have hr : rankP x.kind x.op = 8 := by rw [hk]; rfl
    obtain ⟨b0, o0, n0, k0, K0⟩ := kidAt rk 0 (y := y) rfl
    have x0 : aindexAddr Try.prog 23 sk (.int .i64 0) = _ := K0.ix
    have L0 := K0.ld _ (.refl _)
    refine run ?_
    refine Ob2.alloc rfl fun qc X1 hqc ac gc => ?_
    refine run ?_
    refine Ob.store rfl rfl rfl ac rfl (by first | exact Nat.le_of_ble_eq_true rfl | simp) fun X2 s1 s2 s3 => ?_
    replace gc := gc.but_new s2 (Nat.le_of_eq hqc.symm)
    replace ab := gc.at ab
    replace bb := hblk_of ab
    replace ac := s1
    have bc := hblk_of ac
    clear s1 s2 s3 hqc
    replace g1 := g1.trans gc
    replace rk := NodeR.grows rk gc
    have N0 := K0.nd.grow gc
    have c1 := rank_r N0
    have c2 := rank_r (R.grow g1)
    refine run ?_
    apply SW.drawG [(0, [], [116], false), (2, [], [114, 115], false), (1, [(114, 0)], [114, 116], true), (3, [(114, 0), (115, 1), (116, 2)], [114, 115, 116], true), (4, [(114, 0), (115, 1), (116, 2), (117, 3)], [114, 115, 116, 117], false), (5, [(114, 0), (115, 1), (116, 2), (117, 3), (118, 4)], [114, 115, 116, 117, 118], false)]
      [(114, 0), (115, 1), (116, 2), (117, 3), (118, 4), (10, 5)]
      [(1, _), (9, _)] rfl (by kernel_rfl)
    case hF => exact ⟨rfl, rfl, trivial⟩
    (try (conv => whnf)); (repeat' ((fail_if_success (with_reducible refine And.intro ?_ ?_)); (fail_if_success (with_reducible refine Exists.intro ?_ ?_)); (first | ((with_reducible refine AX.id ?_); (first | (refine (c1).mono ?_; (rintro _ X ⟨rfl, eX⟩; subst X; (conv => whnf))) | (refine (c2).mono ?_; (rintro _ X ⟨rfl, eX⟩; subst X; (conv => whnf))))) | ((with_reducible refine Ob.cat (by first | exact bstr_list _ | rfl) (by first | exact bstr_list _ | rfl) (by ((try simp only [List.length_append, List.length_cons, List.length_nil, lim8, commaS] at hl ⊢); omega)) ?_); (conv => whnf)) | (refine step0 ?_) | (apply bIf.of <;> intro hc <;> (conv => whnf)))))
    have ht : x.tx.1 = atS (if y.kind = 13 then 9 else 8) y y.tx.1 ++ [40] ++ commaS (r.map (·.tx.1)) ++ [41] := by rw [Tr.tx_eq, hks, hk, ← map_one]; rfl
    rw [ht] at hl ⊢
    obtain ⟨u, us, ur⟩ := dropK rk
    have hd := rlistR ur (Nat.le_of_succ_le hkm) (fun y hy => he' y (by simp [hy])) (by simp only [List.length_append, commaS] at hl ⊢; omega)
    by_cases hlo : rankP y.kind y.op < rankP x.kind x.op
    · have e1 : decide (rankP y.kind y.op < rankP x.kind x.op) = true := decide_eq_true hlo
      have h13 : y.kind ≠ 13 := by rintro h; rw [hr, h] at hlo; simp [rankP] at hlo
      rw [if_neg h13] at hl ⊢
      have hc := ratR (he' y (by simp)) N0 8 true (by simp [Tr.rank]; omega) (by simp only [List.length_append, commaS] at hl ⊢; omega)
      have hc2 := hc
      rw [← e1] at hc2
      apply SW.drawG [(0, [], [195, 196, 197, 198, 199, 200, 203, 204, 205], false), (1, [], [194, 203, 204, 205], false), (2, [(195, 1)], [194, 195, 203, 204, 205], false), (3, [(195, 1), (196, 2)], [194, 195, 196, 203, 204, 205], false), (4, [(195, 1), (196, 2), (197, 3)], [194, 195, 196, 197, 203, 204, 205], false), (5, [(195, 1), (196, 2), (197, 3), (198, 4)], [194, 195, 196, 197, 198, 203, 204, 205], false), (6, [(195, 1), (196, 2), (197, 3), (198, 4), (199, 5)], [194, 195, 196, 197, 198, 199, 203, 204, 205], false), (9, [], [194, 195, 196, 197, 198, 199, 200, 201, 202], false), (10, [(203, 9)], [194, 195, 196, 197, 198, 199, 200, 201, 202, 203], false), (11, [(203, 9), (204, 10)], [194, 195, 196, 197, 198, 199, 200, 201, 202, 203, 204], false), (7, [(194, 0), (195, 1), (196, 2), (197, 3), (198, 4), (199, 5), (200, 6)], [194, 195, 196, 197, 198, 199, 200, 203, 204, 205], true), (8, [(194, 0), (195, 1), (196, 2), (197, 3), (198, 4), (199, 5), (200, 6), (201, 7)], [194, 195, 196, 197, 198, 199, 200, 201, 203, 204, 205, 206], false), (12, [(194, 0), (195, 1), (196, 2), (197, 3), (198, 4), (199, 5), (200, 6), (201, 7), (203, 9), (204, 10), (205, 11)], [194, 195, 196, 197, 198, 199, 200, 201, 202, 203, 204, 205], true), (13, [(194, 0), (195, 1), (196, 2), (197, 3), (198, 4), (199, 5), (200, 6), (201, 7), (202, 8), (203, 9), (204, 10), (205, 11), (206, 12)], [194, 195, 196, 197, 198, 199, 200, 201, 202, 203, 204, 205, 206], false), (14, [(194, 0), (195, 1), (196, 2), (197, 3), (198, 4), (199, 5), (200, 6), (201, 7), (202, 8), (203, 9), (204, 10), (205, 11), (206, 12), (207, 13)], [194, 195, 196, 197, 198, 199, 200, 201, 202, 203, 204, 205, 206, 207], false), (15, [(194, 0), (195, 1), (196, 2), (197, 3), (198, 4), (199, 5), (200, 6), (201, 7), (202, 8), (203, 9), (204, 10), (205, 11), (206, 12), (207, 13), (208, 14)], [194, 195, 196, 197, 198, 199, 200, 201, 202, 203, 204, 205, 206, 207, 208], false)]
        [(194, 0), (195, 1), (196, 2), (197, 3), (198, 4), (199, 5), (200, 6), (201, 7), (202, 8), (203, 9), (204, 10), (205, 11), (206, 12), (207, 13), (208, 14), (2, 15)]
        [(1, _), (9, _), (10, _)] rfl (by kernel_rfl)
      case hF => exact ⟨rfl, rfl, rfl, trivial⟩
      (try (conv => whnf)); (repeat' ((fail_if_success (with_reducible refine And.intro ?_ ?_)); (fail_if_success (with_reducible refine Exists.intro ?_ ?_)); (first | ((with_reducible refine AX.id ?_); (first | (refine (hc).mono ?_; (rintro _ X ⟨rfl, eX⟩; subst X; (conv => whnf))) | (refine (hc2).mono ?_; (rintro _ X ⟨rfl, eX⟩; subst X; (conv => whnf))) | (refine (hd).mono ?_; (rintro _ X ⟨rfl, eX⟩; subst X; (conv => whnf))))) | ((with_reducible refine Ob.cat (by first | exact bstr_list _ | rfl) (by first | exact bstr_list _ | rfl) (by ((try simp only [List.length_append, List.length_cons, List.length_nil, lim8, commaS] at hl ⊢); omega)) ?_); (conv => whnf)) | (refine step0 ?_) | (apply bIf.of <;> intro hc <;> (conv => whnf)))))
      exact ⟨congrArg (fun l => Value.string (bstr l)) (by first | rfl | simp only [List.append_assoc, List.cons_append, List.nil_append]), g1⟩
    · have e1 : decide (rankP y.kind y.op < rankP x.kind x.op) = false := decide_eq_false hlo
      by_cases h13 : y.kind = 13
      · have e2 : (y.kind == 13) = true := by rw [h13]; rfl
        rw [if_pos h13] at hl ⊢
        have hc := ratR (he' y (by simp)) N0 9 true (by simp [Tr.rank, h13, rankP]) (by simp only [List.length_append, commaS] at hl ⊢; omega)
        have hc2 := hc
        rw [← e2] at hc2
        apply SW.drawG [(0, [], [195, 196, 197, 198, 199, 200, 203, 204, 205], false), (1, [], [194, 203, 204, 205], false), (2, [(195, 1)], [194, 195, 203, 204, 205], false), (3, [(195, 1), (196, 2)], [194, 195, 196, 203, 204, 205], false), (4, [(195, 1), (196, 2), (197, 3)], [194, 195, 196, 197, 203, 204, 205], false), (5, [(195, 1), (196, 2), (197, 3), (198, 4)], [194, 195, 196, 197, 198, 203, 204, 205], false), (6, [(195, 1), (196, 2), (197, 3), (198, 4), (199, 5)], [194, 195, 196, 197, 198, 199, 203, 204, 205], false), (9, [], [194, 195, 196, 197, 198, 199, 200, 201, 202], false), (10, [(203, 9)], [194, 195, 196, 197, 198, 199, 200, 201, 202, 203], false), (11, [(203, 9), (204, 10)], [194, 195, 196, 197, 198, 199, 200, 201, 202, 203, 204], false), (7, [(194, 0), (195, 1), (196, 2), (197, 3), (198, 4), (199, 5), (200, 6)], [194, 195, 196, 197, 198, 199, 200, 203, 204, 205], true), (8, [(194, 0), (195, 1), (196, 2), (197, 3), (198, 4), (199, 5), (200, 6), (201, 7)], [194, 195, 196, 197, 198, 199, 200, 201, 203, 204, 205, 206], false), (12, [(194, 0), (195, 1), (196, 2), (197, 3), (198, 4), (199, 5), (200, 6), (201, 7), (203, 9), (204, 10), (205, 11)], [194, 195, 196, 197, 198, 199, 200, 201, 202, 203, 204, 205], true), (13, [(194, 0), (195, 1), (196, 2), (197, 3), (198, 4), (199, 5), (200, 6), (201, 7), (202, 8), (203, 9), (204, 10), (205, 11), (206, 12)], [194, 195, 196, 197, 198, 199, 200, 201, 202, 203, 204, 205, 206], false), (14, [(194, 0), (195, 1), (196, 2), (197, 3), (198, 4), (199, 5), (200, 6), (201, 7), (202, 8), (203, 9), (204, 10), (205, 11), (206, 12), (207, 13)], [194, 195, 196, 197, 198, 199, 200, 201, 202, 203, 204, 205, 206, 207], false), (15, [(194, 0), (195, 1), (196, 2), (197, 3), (198, 4), (199, 5), (200, 6), (201, 7), (202, 8), (203, 9), (204, 10), (205, 11), (206, 12), (207, 13), (208, 14)], [194, 195, 196, 197, 198, 199, 200, 201, 202, 203, 204, 205, 206, 207, 208], false)]
          [(194, 0), (195, 1), (196, 2), (197, 3), (198, 4), (199, 5), (200, 6), (201, 7), (202, 8), (203, 9), (204, 10), (205, 11), (206, 12), (207, 13), (208, 14), (2, 15)]
          [(1, _), (9, _), (10, _)] rfl (by kernel_rfl)
        case hF => exact ⟨rfl, rfl, rfl, trivial⟩
        (try (conv => whnf)); (repeat' ((fail_if_success (with_reducible refine And.intro ?_ ?_)); (fail_if_success (with_reducible refine Exists.intro ?_ ?_)); (first | ((with_reducible refine AX.id ?_); (first | (refine (hc).mono ?_; (rintro _ X ⟨rfl, eX⟩; subst X; (conv => whnf))) | (refine (hc2).mono ?_; (rintro _ X ⟨rfl, eX⟩; subst X; (conv => whnf))) | (refine (hd).mono ?_; (rintro _ X ⟨rfl, eX⟩; subst X; (conv => whnf))))) | ((with_reducible refine Ob.cat (by first | exact bstr_list _ | rfl) (by first | exact bstr_list _ | rfl) (by ((try simp only [List.length_append, List.length_cons, List.length_nil, lim8, commaS] at hl ⊢); omega)) ?_); (conv => whnf)) | (refine step0 ?_) | (apply bIf.of <;> intro hc <;> (conv => whnf)))))
        exact ⟨congrArg (fun l => Value.string (bstr l)) (by first | rfl | simp only [List.append_assoc, List.cons_append, List.nil_append]), g1⟩
      · have e2 : (y.kind == 13) = false := by rw [beq_eq_false_iff_ne]; exact h13
        rw [if_neg h13] at hl ⊢
        have hc := ratR (he' y (by simp)) N0 8 false (by simp [Tr.rank]; omega) (by simp only [List.length_append, commaS] at hl ⊢; omega)
        have hc2 := hc
        rw [← e2] at hc2
        apply SW.drawG [(0, [], [195, 196, 197, 198, 199, 200, 203, 204, 205], false), (1, [], [194, 203, 204, 205], false), (2, [(195, 1)], [194, 195, 203, 204, 205], false), (3, [(195, 1), (196, 2)], [194, 195, 196, 203, 204, 205], false), (4, [(195, 1), (196, 2), (197, 3)], [194, 195, 196, 197, 203, 204, 205], false), (5, [(195, 1), (196, 2), (197, 3), (198, 4)], [194, 195, 196, 197, 198, 203, 204, 205], false), (6, [(195, 1), (196, 2), (197, 3), (198, 4), (199, 5)], [194, 195, 196, 197, 198, 199, 203, 204, 205], false), (9, [], [194, 195, 196, 197, 198, 199, 200, 201, 202], false), (10, [(203, 9)], [194, 195, 196, 197, 198, 199, 200, 201, 202, 203], false), (11, [(203, 9), (204, 10)], [194, 195, 196, 197, 198, 199, 200, 201, 202, 203, 204], false), (7, [(194, 0), (195, 1), (196, 2), (197, 3), (198, 4), (199, 5), (200, 6)], [194, 195, 196, 197, 198, 199, 200, 203, 204, 205], true), (8, [(194, 0), (195, 1), (196, 2), (197, 3), (198, 4), (199, 5), (200, 6), (201, 7)], [194, 195, 196, 197, 198, 199, 200, 201, 203, 204, 205, 206], false), (12, [(194, 0), (195, 1), (196, 2), (197, 3), (198, 4), (199, 5), (200, 6), (201, 7), (203, 9), (204, 10), (205, 11)], [194, 195, 196, 197, 198, 199, 200, 201, 202, 203, 204, 205], true), (13, [(194, 0), (195, 1), (196, 2), (197, 3), (198, 4), (199, 5), (200, 6), (201, 7), (202, 8), (203, 9), (204, 10), (205, 11), (206, 12)], [194, 195, 196, 197, 198, 199, 200, 201, 202, 203, 204, 205, 206], false), (14, [(194, 0), (195, 1), (196, 2), (197, 3), (198, 4), (199, 5), (200, 6), (201, 7), (202, 8), (203, 9), (204, 10), (205, 11), (206, 12), (207, 13)], [194, 195, 196, 197, 198, 199, 200, 201, 202, 203, 204, 205, 206, 207], false), (15, [(194, 0), (195, 1), (196, 2), (197, 3), (198, 4), (199, 5), (200, 6), (201, 7), (202, 8), (203, 9), (204, 10), (205, 11), (206, 12), (207, 13), (208, 14)], [194, 195, 196, 197, 198, 199, 200, 201, 202, 203, 204, 205, 206, 207, 208], false)]
          [(194, 0), (195, 1), (196, 2), (197, 3), (198, 4), (199, 5), (200, 6), (201, 7), (202, 8), (203, 9), (204, 10), (205, 11), (206, 12), (207, 13), (208, 14), (2, 15)]
          [(1, _), (9, _), (10, _)] rfl (by kernel_rfl)
        case hF => exact ⟨rfl, rfl, rfl, trivial⟩
        (try (conv => whnf)); (repeat' ((fail_if_success (with_reducible refine And.intro ?_ ?_)); (fail_if_success (with_reducible refine Exists.intro ?_ ?_)); (first | ((with_reducible refine AX.id ?_); (first | (refine (hc).mono ?_; (rintro _ X ⟨rfl, eX⟩; subst X; (conv => whnf))) | (refine (hc2).mono ?_; (rintro _ X ⟨rfl, eX⟩; subst X; (conv => whnf))) | (refine (hd).mono ?_; (rintro _ X ⟨rfl, eX⟩; subst X; (conv => whnf))))) | ((with_reducible refine Ob.cat (by first | exact bstr_list _ | rfl) (by first | exact bstr_list _ | rfl) (by ((try simp only [List.length_append, List.length_cons, List.length_nil, lim8, commaS] at hl ⊢); omega)) ?_); (conv => whnf)) | (refine step0 ?_) | (apply bIf.of <;> intro hc <;> (conv => whnf)))))
        exact ⟨congrArg (fun l => Value.string (bstr l)) (by first | rfl | simp only [List.append_assoc, List.cons_append, List.nil_append]), g1⟩
theorem rexpr_16 {x : Tr} (hk : x.kind = 16) (hn : 1 ≤ x.kids.length) (he : x.kind ≠ 8 → ∀ y ∈ x.kids, RdN 51 y.tx.1 y) (hs : x.kind = 8 → ∀ y ∈ x.kids, RdN 33 y.tx.2.1 y) : RdN 51 x.tx.1 x := by
  intro H l R hl
  obtain ⟨ow, sn, sk, rfl, rn, rk⟩ := R.inv
  refine AX.quiet ?_
  suffices hh : AX Try.prog 51 #[.agg (nodeV x sn sk).toArray] H (fun v H' => v = .string (bstr x.tx.1) ∧ Grow H H') from hh.mono fun v _ ⟨e, g⟩ => ⟨e ▸ plain_str _, e, g⟩
  refine AX.body (n := 223) (rs := [.tmp 2]) Try.func51 rfl (by decide) rfl rfl (bC_sound _ _ _ _ ?_)
  (conv => whnf)
  refine Ob2.box rfl fun q H1 hq ab g1 => ?_
  have bb := hblk_of ab
  have hkm := ow.2.2.2
  replace rk := NodeR.grows rk g1
  replace rn := strR.grow rn g1
  · skip
    have t1 : (x.kind == 1) = false := by rw [hk]; rfl
    have t2 : (x.kind == 2) = false := by rw [hk]; rfl
    have t3 : (x.kind == 3) = false := by rw [hk]; rfl
    have t4 : (x.kind == 4) = false := by rw [hk]; rfl
    have t5 : (x.kind == 5) = false := by rw [hk]; rfl
    have t6 : (x.kind == 6) = false := by rw [hk]; rfl
    have t7 : (x.kind == 7) = false := by rw [hk]; rfl
    have t8 : (x.kind == 8) = false := by rw [hk]; rfl
    have t17 : (x.kind == 17) = false := by rw [hk]; rfl
    have u9 : (x.kind == 9) = false := by rw [hk]; rfl
    have u10 : (x.kind == 10) = false := by rw [hk]; rfl
    have u11 : (x.kind == 11) = false := by rw [hk]; rfl
    have u12 : (x.kind == 12) = false := by rw [hk]; rfl
    have u13 : (x.kind == 13) = false := by rw [hk]; rfl
    have u14 : (x.kind == 14) = false := by rw [hk]; rfl
    have u15 : (x.kind == 15) = false := by rw [hk]; rfl
    obtain ⟨y, r, hks⟩ := some_of hn
    have he' := he (by omega)
    rw [hks] at rk he'
    rw [hks] at hkm
    have hr : rankP x.kind x.op = 8 := by rw [hk]; rfl
    obtain ⟨b0, o0, n0, k0, K0⟩ := kidAt rk 0 (y := y) rfl
    have x0 : aindexAddr Try.prog 23 sk (.int .i64 0) = _ := K0.ix
    have L0 := K0.ld _ (.refl _)
    refine run ?_
    refine Ob2.alloc rfl fun qc X1 hqc ac gc => ?_
    refine run ?_
    refine Ob.store rfl rfl rfl ac rfl (by first | exact Nat.le_of_ble_eq_true rfl | simp) fun X2 s1 s2 s3 => ?_
    replace gc := gc.but_new s2 (Nat.le_of_eq hqc.symm)
    replace ab := gc.at ab
    replace bb := hblk_of ab
    replace ac := s1
    have bc := hblk_of ac
    clear s1 s2 s3 hqc
    replace g1 := g1.trans gc
    replace rk := NodeR.grows rk gc
    have N0 := K0.nd.grow gc
    have c1 := rank_r N0
    have c2 := rank_r (R.grow g1)
    refine run ?_
    apply SW.drawG [(0, [], [116], false), (2, [], [114, 115], false), (1, [(114, 0)], [114, 116], true), (3, [(114, 0), (115, 1), (116, 2)], [114, 115, 116], true), (4, [(114, 0), (115, 1), (116, 2), (117, 3)], [114, 115, 116, 117], false), (5, [(114, 0), (115, 1), (116, 2), (117, 3), (118, 4)], [114, 115, 116, 117, 118], false)]
      [(114, 0), (115, 1), (116, 2), (117, 3), (118, 4), (10, 5)]
      [(1, _), (9, _)] rfl (by kernel_rfl)
    case hF => exact ⟨rfl, rfl, trivial⟩
    (try (conv => whnf)); (repeat' ((fail_if_success (with_reducible refine And.intro ?_ ?_)); (fail_if_success (with_reducible refine Exists.intro ?_ ?_)); (first | ((with_reducible refine AX.id ?_); (first | (refine (c1).mono ?_; (rintro _ X ⟨rfl, eX⟩; subst X; (conv => whnf))) | (refine (c2).mono ?_; (rintro _ X ⟨rfl, eX⟩; subst X; (conv => whnf))))) | ((with_reducible refine Ob.cat (by first | exact bstr_list _ | rfl) (by first | exact bstr_list _ | rfl) (by ((try simp only [List.length_append, List.length_cons, List.length_nil, lim8, commaS] at hl ⊢); omega)) ?_); (conv => whnf)) | (refine step0 ?_) | (apply bIf.of <;> intro hc <;> (conv => whnf)))))
    have ht : x.tx.1 = atS 8 y y.tx.1 ++ [46] ++ x.str.data.toList ++ [40] ++ commaS (r.map (·.tx.1)) ++ [41] := by rw [Tr.tx_eq, hks, hk, ← map_one]; rfl
    rw [ht] at hl ⊢
    obtain ⟨u, us, ur⟩ := dropK rk
    have hd := rlistR ur (Nat.le_of_succ_le hkm) (fun y hy => he' y (by simp [hy])) (by simp only [List.length_append, commaS] at hl ⊢; omega)
    have hc := ratR (he' y (by simp)) N0 8 (decide (rankP y.kind y.op < rankP x.kind x.op)) (by simp [Tr.rank, hr]) (by simp only [List.length_append, commaS] at hl ⊢; omega)
    refine run ?_
    apply SW.drawG [(0, [], [210, 213, 214, 217, 218, 219], false), (1, [], [209, 213, 214, 217, 218, 219], false), (4, [], [209, 210, 211, 212, 217, 218, 219, 220], false), (5, [(213, 4)], [209, 210, 211, 212, 213, 217, 218, 219, 220], false), (8, [], [209, 210, 211, 212, 213, 214, 215, 216], false), (9, [(217, 8)], [209, 210, 211, 212, 213, 214, 215, 216, 217], false), (10, [(217, 8), (218, 9)], [209, 210, 211, 212, 213, 214, 215, 216, 217, 218], false), (2, [(209, 0), (210, 1)], [209, 210, 213, 214, 217, 218, 219], true), (3, [(209, 0), (210, 1), (211, 2)], [209, 210, 211, 213, 214, 217, 218, 219, 220], false), (6, [(209, 0), (210, 1), (211, 2), (212, 3), (213, 4), (214, 5)], [209, 210, 211, 212, 213, 214, 217, 218, 219, 220], false), (7, [(209, 0), (210, 1), (211, 2), (212, 3), (213, 4), (214, 5), (215, 6)], [209, 210, 211, 212, 213, 214, 215, 217, 218, 219, 220], false), (11, [(209, 0), (210, 1), (211, 2), (217, 8), (218, 9), (219, 10)], [209, 210, 211, 212, 213, 214, 215, 216, 217, 218, 219], true), (12, [(209, 0), (210, 1), (211, 2), (212, 3), (213, 4), (214, 5), (215, 6), (216, 7), (217, 8), (218, 9), (219, 10), (220, 11)], [209, 210, 211, 212, 213, 214, 215, 216, 217, 218, 219, 220], false), (13, [(209, 0), (210, 1), (211, 2), (212, 3), (213, 4), (214, 5), (215, 6), (216, 7), (217, 8), (218, 9), (219, 10), (220, 11), (221, 12)], [209, 210, 211, 212, 213, 214, 215, 216, 217, 218, 219, 220, 221], false), (14, [(209, 0), (210, 1), (211, 2), (212, 3), (213, 4), (214, 5), (215, 6), (216, 7), (217, 8), (218, 9), (219, 10), (220, 11), (221, 12), (222, 13)], [209, 210, 211, 212, 213, 214, 215, 216, 217, 218, 219, 220, 221, 222], false)]
      [(209, 0), (210, 1), (211, 2), (212, 3), (213, 4), (214, 5), (215, 6), (216, 7), (217, 8), (218, 9), (219, 10), (220, 11), (221, 12), (222, 13), (2, 14)]
      [(1, _), (9, _), (10, _)] rfl (by kernel_rfl)
    case hF => exact ⟨rfl, rfl, rfl, trivial⟩
    (try (conv => whnf)); (repeat' ((fail_if_success (with_reducible refine And.intro ?_ ?_)); (fail_if_success (with_reducible refine Exists.intro ?_ ?_)); (first | ((with_reducible refine AX.id ?_); (first | (refine (hc).mono ?_; (rintro _ X ⟨rfl, eX⟩; subst X; (conv => whnf))) | (refine (hd).mono ?_; (rintro _ X ⟨rfl, eX⟩; subst X; (conv => whnf))))) | ((with_reducible refine Ob.cat (by first | exact bstr_list _ | rfl) (by first | exact bstr_list _ | rfl) (by ((try simp only [List.length_append, List.length_cons, List.length_nil, lim8, commaS] at hl ⊢); omega)) ?_); (conv => whnf)) | (refine step0 ?_) | (apply bIf.of <;> intro hc <;> (conv => whnf)))))
    exact ⟨congrArg (fun l => Value.string (bstr l)) (by first | rfl | simp only [List.append_assoc, List.cons_append, List.nil_append]), g1⟩
end Go.Proofs.Ytmglmjbjgfbdjaa
/- The document's writer: Expr. Printed by mk31.py. -/
set_option linter.unusedVariables false
set_option linter.unusedSimpArgs false
set_option maxRecDepth 20000
set_option maxHeartbeats 8000000
namespace Go.Proofs.Ytmglmjbjgfbdjaa
open Go Ax

theorem rexprR {x : Tr} (hp : ExprP x) (he : x.kind ≠ 8 → ∀ y ∈ x.kids, RdN 51 y.tx.1 y) (hs : x.kind = 8 → ∀ y ∈ x.kids, RdN 33 y.tx.2.1 y) : RdN 51 x.tx.1 x := by
  unfold ExprP at hp
  rcases hp with ⟨hk | hk, -⟩ | ⟨hk, -, hb, -⟩ | ⟨hk, -, h0, h1, -⟩ | ⟨hk, -, h0, -⟩ | ⟨hk, -⟩ | ⟨hk, -, -, -, hn⟩ | ⟨hk, -⟩ | ⟨hk, -, ho, hn⟩ | ⟨hk, -, -, -, hn⟩ | ⟨hk | hk | hk, -, hn⟩ | ⟨hk, -, -, hn⟩ | ⟨hk, -, hn, -⟩ | ⟨hk, -, -, hn, -⟩ | ⟨hk, -⟩
  · exact @rexpr_1 x hk he hs
  · exact @rexpr_6 x hk he hs
  · exact @rexpr_2 x hk hb he hs
  · exact @rexpr_3 x hk h0 h1 he hs
  · exact @rexpr_4 x hk h0 he hs
  · exact @rexpr_5 x hk he hs
  · exact @rexpr_7 x hk hn he hs
  · exact @rexpr_8 x hk he hs
  · exact @rexpr_9 x hk ho hn he hs
  · exact @rexpr_10 x hk hn he hs
  · exact @rexpr_11 x hk hn he hs
  · exact @rexpr_12 x hk hn he hs
  · exact @rexpr_14 x hk hn he hs
  · exact @rexpr_13 x hk hn he hs
  · exact @rexpr_15 x hk hn he hs
  · exact @rexpr_16 x hk hn he hs
  · exact @rexpr_17 x hk he hs
end Go.Proofs.Ytmglmjbjgfbdjaa
/- The document's writer: Stmt. Printed by mk36.py. -/
set_option linter.unusedVariables false
set_option linter.unusedSimpArgs false
set_option maxRecDepth 20000
set_option maxHeartbeats 8000000
namespace Go.Proofs.Ytmglmjbjgfbdjaa
open Go Ax

theorem rstmt_21 {x : Tr} (hk : x.kind = 21) (hn : x.kids.length = 1) (hr : ∀ j y, x.kids[j]? = some y → RightT y (wantP x.kind j)) (he : ∀ y ∈ x.kids, RightT y 1 → RdN 51 y.tx.1 y) (hs : ∀ y ∈ x.kids, RightT y 3 → ∀ z ∈ y.kids, RdN 33 z.tx.2.1 z) : RdN 33 x.tx.2.1 x := by
  intro H l R hl
  obtain ⟨ow, sn, sk, rfl, rn, rk⟩ := R.inv
  refine AX.quiet ?_
  suffices hh : AX Try.prog 33 #[.agg (nodeV x sn sk).toArray] H (fun v H' => v = .string (bstr x.tx.2.1) ∧ Grow H H') from hh.mono fun v _ ⟨e, g⟩ => ⟨e ▸ plain_str _, e, g⟩
  refine AX.body (n := 154) (rs := [.tmp 2]) Try.func33 rfl (by decide) rfl rfl (bC_sound _ _ _ _ ?_)
  (conv => whnf)
  refine Ob2.box rfl fun q H1 hq ab g1 => ?_
  have bb := hblk_of ab
  replace rk := NodeR.grows rk g1
  obtain ⟨y, hks⟩ := List.length_eq_one_iff.1 hn
  rw [hks, hk] at hr
  rw [hks] at rk he hs
  have t21 : (x.kind == 21) = true := by rw [hk]; rfl
  obtain ⟨b0, o0, n0, k0, K0⟩ := kidAt rk 0 (y := y) rfl
  have x0 : aindexAddr Try.prog 23 sk (.int .i64 0) = _ := K0.ix
  have L0 := K0.ld _ (.refl _)
  refine run ?_
  refine Ob2.alloc rfl fun qc X1 hqc ac gc => ?_
  refine run ?_
  refine Ob.store rfl rfl rfl ac rfl (by first | exact Nat.le_of_ble_eq_true rfl | simp) fun X2 s1 s2 s3 => ?_
  replace gc := gc.but_new s2 (Nat.le_of_eq hqc.symm)
  replace ab := gc.at ab
  replace bb := hblk_of ab
  replace ac := s1
  have bc := hblk_of ac
  clear s1 s2 s3 hqc
  replace g1 := g1.trans gc
  replace rk := NodeR.grows rk gc
  have N0 := K0.nd.grow gc
  have c1 := rank_r N0
  have r0 : RightT y 1 := hr 0 y rfl
  have ht : x.tx.2.1 = [108, 101, 116, 32] ++ x.str.data.toList ++ [32, 61, 32] ++ y.tx.1 ++ [59] := by rw [Tr.tx_eq, hks, hk]; rfl
  rw [ht] at hl ⊢
  have hc := he y (by simp) r0 N0 (by simp only [List.length_append, List.length_cons, List.length_nil] at hl ⊢; omega)
  (try (conv => whnf)); (repeat' ((fail_if_success (with_reducible refine And.intro ?_ ?_)); (fail_if_success (with_reducible refine Exists.intro ?_ ?_)); (first | ((with_reducible refine AX.id ?_); (first | (refine (c1).mono ?_; (rintro _ X ⟨rfl, eX⟩; subst X; (conv => whnf))))) | ((with_reducible refine Ob.cat (by first | exact bstr_list _ | rfl) (by first | exact bstr_list _ | rfl) (by ((try simp only [List.length_append, List.length_cons, List.length_nil, lim8, commaS] at hl ⊢); omega)) ?_); (conv => whnf)) | (refine step0 ?_) | (apply bIf.of <;> intro hc <;> (conv => whnf)))))
  apply SW.drawG [(0, [], [21, 22], false), (1, [(17, 0)], [17, 21, 22], false), (2, [(17, 0), (18, 1)], [17, 18, 21, 22], false), (3, [(17, 0), (18, 1), (19, 2)], [17, 18, 19, 21, 22], false), (4, [], [17, 18, 19, 20], false), (5, [(21, 4)], [17, 18, 19, 20, 21], true), (6, [(17, 0), (18, 1), (19, 2), (20, 3), (21, 4), (22, 5)], [17, 18, 19, 20, 21, 22], false), (7, [(17, 0), (18, 1), (19, 2), (20, 3), (21, 4), (22, 5), (23, 6)], [17, 18, 19, 20, 21, 22, 23], false), (8, [(17, 0), (18, 1), (19, 2), (20, 3), (21, 4), (22, 5), (23, 6), (24, 7)], [17, 18, 19, 20, 21, 22, 23, 24], false)]
    [(17, 0), (18, 1), (19, 2), (20, 3), (21, 4), (22, 5), (23, 6), (24, 7), (2, 8)]
    [(1, _), (3, _), (4, _)] rfl (by kernel_rfl)
  case hF => exact ⟨rfl, rfl, rfl, trivial⟩
  (try (conv => whnf)); (repeat' ((fail_if_success (with_reducible refine And.intro ?_ ?_)); (fail_if_success (with_reducible refine Exists.intro ?_ ?_)); (first | ((with_reducible refine AX.id ?_); (first | (refine (hc).mono ?_; (rintro _ X ⟨rfl, eX⟩; subst X; (conv => whnf))))) | ((with_reducible refine Ob.cat (by first | exact bstr_list _ | rfl) (by first | exact bstr_list _ | rfl) (by ((try simp only [List.length_append, List.length_cons, List.length_nil, lim8, commaS] at hl ⊢); omega)) ?_); (conv => whnf)) | (refine step0 ?_) | (apply bIf.of <;> intro hc <;> (conv => whnf)))))
  exact ⟨congrArg (fun l => Value.string (bstr l)) (by first | rfl | simp only [List.append_assoc, List.cons_append, List.nil_append]), g1⟩
theorem rstmt_22 {x : Tr} (hk : x.kind = 22) (hn : x.kids.length = 1) (hr : ∀ j y, x.kids[j]? = some y → RightT y (wantP x.kind j)) (he : ∀ y ∈ x.kids, RightT y 1 → RdN 51 y.tx.1 y) (hs : ∀ y ∈ x.kids, RightT y 3 → ∀ z ∈ y.kids, RdN 33 z.tx.2.1 z) : RdN 33 x.tx.2.1 x := by
  intro H l R hl
  obtain ⟨ow, sn, sk, rfl, rn, rk⟩ := R.inv
  refine AX.quiet ?_
  suffices hh : AX Try.prog 33 #[.agg (nodeV x sn sk).toArray] H (fun v H' => v = .string (bstr x.tx.2.1) ∧ Grow H H') from hh.mono fun v _ ⟨e, g⟩ => ⟨e ▸ plain_str _, e, g⟩
  refine AX.body (n := 154) (rs := [.tmp 2]) Try.func33 rfl (by decide) rfl rfl (bC_sound _ _ _ _ ?_)
  (conv => whnf)
  refine Ob2.box rfl fun q H1 hq ab g1 => ?_
  have bb := hblk_of ab
  replace rk := NodeR.grows rk g1
  obtain ⟨y, hks⟩ := List.length_eq_one_iff.1 hn
  rw [hks, hk] at hr
  rw [hks] at rk he hs
  have t21 : (x.kind == 21) = false := by rw [hk]; rfl
  have t22 : (x.kind == 22) = true := by rw [hk]; rfl
  obtain ⟨b0, o0, n0, k0, K0⟩ := kidAt rk 0 (y := y) rfl
  have x0 : aindexAddr Try.prog 23 sk (.int .i64 0) = _ := K0.ix
  have L0 := K0.ld _ (.refl _)
  refine run ?_
  refine Ob2.alloc rfl fun qc X1 hqc ac gc => ?_
  refine run ?_
  refine Ob.store rfl rfl rfl ac rfl (by first | exact Nat.le_of_ble_eq_true rfl | simp) fun X2 s1 s2 s3 => ?_
  replace gc := gc.but_new s2 (Nat.le_of_eq hqc.symm)
  replace ab := gc.at ab
  replace bb := hblk_of ab
  replace ac := s1
  have bc := hblk_of ac
  clear s1 s2 s3 hqc
  replace g1 := g1.trans gc
  replace rk := NodeR.grows rk gc
  have N0 := K0.nd.grow gc
  have c1 := rank_r N0
  have r0 : RightT y 1 := hr 0 y rfl
  have ht : x.tx.2.1 = x.str.data.toList ++ [32, 61, 32] ++ y.tx.1 ++ [59] := by rw [Tr.tx_eq, hks, hk]; rfl
  rw [ht] at hl ⊢
  have hc := he y (by simp) r0 N0 (by simp only [List.length_append, List.length_cons, List.length_nil] at hl ⊢; omega)
  (try (conv => whnf)); (repeat' ((fail_if_success (with_reducible refine And.intro ?_ ?_)); (fail_if_success (with_reducible refine Exists.intro ?_ ?_)); (first | ((with_reducible refine AX.id ?_); (first | (refine (c1).mono ?_; (rintro _ X ⟨rfl, eX⟩; subst X; (conv => whnf))))) | ((with_reducible refine Ob.cat (by first | exact bstr_list _ | rfl) (by first | exact bstr_list _ | rfl) (by ((try simp only [List.length_append, List.length_cons, List.length_nil, lim8, commaS] at hl ⊢); omega)) ?_); (conv => whnf)) | (refine step0 ?_) | (apply bIf.of <;> intro hc <;> (conv => whnf)))))
  apply SW.drawG [(0, [], [30, 31], false), (1, [(27, 0)], [27, 30, 31], false), (2, [(27, 0), (28, 1)], [27, 28, 30, 31], false), (3, [], [27, 28, 29], false), (4, [(30, 3)], [27, 28, 29, 30], true), (5, [(27, 0), (28, 1), (29, 2), (30, 3), (31, 4)], [27, 28, 29, 30, 31], false), (6, [(27, 0), (28, 1), (29, 2), (30, 3), (31, 4), (32, 5)], [27, 28, 29, 30, 31, 32], false), (7, [(27, 0), (28, 1), (29, 2), (30, 3), (31, 4), (32, 5), (33, 6)], [27, 28, 29, 30, 31, 32, 33], false)]
    [(27, 0), (28, 1), (29, 2), (30, 3), (31, 4), (32, 5), (33, 6), (2, 7)]
    [(1, _), (3, _), (4, _)] rfl (by kernel_rfl)
  case hF => exact ⟨rfl, rfl, rfl, trivial⟩
  (try (conv => whnf)); (repeat' ((fail_if_success (with_reducible refine And.intro ?_ ?_)); (fail_if_success (with_reducible refine Exists.intro ?_ ?_)); (first | ((with_reducible refine AX.id ?_); (first | (refine (hc).mono ?_; (rintro _ X ⟨rfl, eX⟩; subst X; (conv => whnf))))) | ((with_reducible refine Ob.cat (by first | exact bstr_list _ | rfl) (by first | exact bstr_list _ | rfl) (by ((try simp only [List.length_append, List.length_cons, List.length_nil, lim8, commaS] at hl ⊢); omega)) ?_); (conv => whnf)) | (refine step0 ?_) | (apply bIf.of <;> intro hc <;> (conv => whnf)))))
  exact ⟨congrArg (fun l => Value.string (bstr l)) (by first | rfl | simp only [List.append_assoc, List.cons_append, List.nil_append]), g1⟩
theorem rstmt_23 {x : Tr} (hk : x.kind = 23) (hn : x.kids.length = 2) (hr : ∀ j y, x.kids[j]? = some y → RightT y (wantP x.kind j)) (he : ∀ y ∈ x.kids, RightT y 1 → RdN 51 y.tx.1 y) (hs : ∀ y ∈ x.kids, RightT y 3 → ∀ z ∈ y.kids, RdN 33 z.tx.2.1 z) : RdN 33 x.tx.2.1 x := by
  intro H l R hl
  obtain ⟨ow, sn, sk, rfl, rn, rk⟩ := R.inv
  refine AX.quiet ?_
  suffices hh : AX Try.prog 33 #[.agg (nodeV x sn sk).toArray] H (fun v H' => v = .string (bstr x.tx.2.1) ∧ Grow H H') from hh.mono fun v _ ⟨e, g⟩ => ⟨e ▸ plain_str _, e, g⟩
  refine AX.body (n := 154) (rs := [.tmp 2]) Try.func33 rfl (by decide) rfl rfl (bC_sound _ _ _ _ ?_)
  (conv => whnf)
  refine Ob2.box rfl fun q H1 hq ab g1 => ?_
  have bb := hblk_of ab
  replace rk := NodeR.grows rk g1
  obtain ⟨y, z, hks⟩ := two_of hn
  rw [hks, hk] at hr
  rw [hks] at rk he hs
  have t21 : (x.kind == 21) = false := by rw [hk]; rfl
  have t22 : (x.kind == 22) = false := by rw [hk]; rfl
  have t23 : (x.kind == 23) = true := by rw [hk]; rfl
  obtain ⟨b0, o0, n0, k0, K0⟩ := kidAt rk 0 (y := y) rfl
  have x0 : aindexAddr Try.prog 23 sk (.int .i64 0) = _ := K0.ix
  have L0 := K0.ld _ (.refl _)
  refine run ?_
  refine Ob2.alloc rfl fun qc X1 hqc ac gc => ?_
  refine run ?_
  refine Ob.store rfl rfl rfl ac rfl (by first | exact Nat.le_of_ble_eq_true rfl | simp) fun X2 s1 s2 s3 => ?_
  replace gc := gc.but_new s2 (Nat.le_of_eq hqc.symm)
  replace ab := gc.at ab
  replace bb := hblk_of ab
  replace ac := s1
  have bc := hblk_of ac
  clear s1 s2 s3 hqc
  replace g1 := g1.trans gc
  replace rk := NodeR.grows rk gc
  have N0 := K0.nd.grow gc
  have c1 := rank_r N0
  have r0 : RightT y 1 := hr 0 y rfl
  have r1 : RightT z 1 := hr 1 z rfl
  have ht : x.tx.2.1 = atS 8 y y.tx.1 ++ [46] ++ x.str.data.toList ++ [32, 61, 32] ++ z.tx.1 ++ [59] := by rw [Tr.tx_eq, hks, hk]; rfl
  rw [ht] at hl ⊢
  have hc := ratR (he y (by simp) r0) N0 8 (decide (rankP y.kind y.op < 8)) (by simp [Tr.rank]) (by simp only [List.length_append, List.length_cons, List.length_nil] at hl ⊢; omega)
  obtain ⟨b1, o1, n1, k1, K1⟩ := kidAt rk 1 (y := z) rfl
  have x1 : aindexAddr Try.prog 23 sk (.int .i64 1) = _ := K1.ix
  have L1 := K1.ld _ (.refl _)
  have h1 := he z (by simp) r1 K1.nd (by simp only [List.length_append, List.length_cons, List.length_nil] at hl ⊢; omega)
  (try (conv => whnf)); (repeat' ((fail_if_success (with_reducible refine And.intro ?_ ?_)); (fail_if_success (with_reducible refine Exists.intro ?_ ?_)); (first | ((with_reducible refine AX.id ?_); (first | (refine (c1).mono ?_; (rintro _ X ⟨rfl, eX⟩; subst X; (conv => whnf))))) | ((with_reducible refine Ob.cat (by first | exact bstr_list _ | rfl) (by first | exact bstr_list _ | rfl) (by ((try simp only [List.length_append, List.length_cons, List.length_nil, lim8, commaS] at hl ⊢); omega)) ?_); (conv => whnf)) | (refine step0 ?_) | (apply bIf.of <;> intro hc <;> (conv => whnf)))))
  apply SW.drawG [(0, [], [37, 40, 41, 44, 45, 46, 47], false), (1, [], [36, 40, 41, 44, 45, 46, 47], false), (4, [], [36, 37, 38, 39, 44, 45, 46, 47, 48], false), (5, [(40, 4)], [36, 37, 38, 39, 40, 44, 45, 46, 47, 48], false), (8, [], [36, 37, 38, 39, 40, 41, 42, 43], false), (9, [(44, 8)], [36, 37, 38, 39, 40, 41, 42, 43, 44], false), (10, [(44, 8), (45, 9)], [36, 37, 38, 39, 40, 41, 42, 43, 44, 45], false), (11, [(44, 8), (45, 9), (46, 10)], [36, 37, 38, 39, 40, 41, 42, 43, 44, 45, 46], false), (2, [(36, 0), (37, 1)], [36, 37, 40, 41, 44, 45, 46, 47], true), (3, [(36, 0), (37, 1), (38, 2)], [36, 37, 38, 40, 41, 44, 45, 46, 47, 48], false), (6, [(36, 0), (37, 1), (38, 2), (39, 3), (40, 4), (41, 5)], [36, 37, 38, 39, 40, 41, 44, 45, 46, 47, 48], false), (7, [(36, 0), (37, 1), (38, 2), (39, 3), (40, 4), (41, 5), (42, 6)], [36, 37, 38, 39, 40, 41, 42, 44, 45, 46, 47, 48], false), (12, [(36, 0), (37, 1), (38, 2), (44, 8), (45, 9), (46, 10), (47, 11)], [36, 37, 38, 39, 40, 41, 42, 43, 44, 45, 46, 47], true), (13, [(36, 0), (37, 1), (38, 2), (39, 3), (40, 4), (41, 5), (42, 6), (43, 7), (44, 8), (45, 9), (46, 10), (47, 11), (48, 12)], [36, 37, 38, 39, 40, 41, 42, 43, 44, 45, 46, 47, 48], false), (14, [(36, 0), (37, 1), (38, 2), (39, 3), (40, 4), (41, 5), (42, 6), (43, 7), (44, 8), (45, 9), (46, 10), (47, 11), (48, 12), (49, 13)], [36, 37, 38, 39, 40, 41, 42, 43, 44, 45, 46, 47, 48, 49], false), (15, [(36, 0), (37, 1), (38, 2), (39, 3), (40, 4), (41, 5), (42, 6), (43, 7), (44, 8), (45, 9), (46, 10), (47, 11), (48, 12), (49, 13), (50, 14)], [36, 37, 38, 39, 40, 41, 42, 43, 44, 45, 46, 47, 48, 49, 50], false)]
    [(36, 0), (37, 1), (38, 2), (39, 3), (40, 4), (41, 5), (42, 6), (43, 7), (44, 8), (45, 9), (46, 10), (47, 11), (48, 12), (49, 13), (50, 14), (2, 15)]
    [(1, _), (3, _), (4, _)] rfl (by kernel_rfl)
  case hF => exact ⟨rfl, rfl, rfl, trivial⟩
  (try (conv => whnf)); (repeat' ((fail_if_success (with_reducible refine And.intro ?_ ?_)); (fail_if_success (with_reducible refine Exists.intro ?_ ?_)); (first | ((with_reducible refine AX.id ?_); (first | (refine (hc).mono ?_; (rintro _ X ⟨rfl, eX⟩; subst X; (conv => whnf))) | (refine (h1).mono ?_; (rintro _ X ⟨rfl, eX⟩; subst X; (conv => whnf))))) | ((with_reducible refine Ob.cat (by first | exact bstr_list _ | rfl) (by first | exact bstr_list _ | rfl) (by ((try simp only [List.length_append, List.length_cons, List.length_nil, lim8, commaS] at hl ⊢); omega)) ?_); (conv => whnf)) | (refine step0 ?_) | (apply bIf.of <;> intro hc <;> (conv => whnf)))))
  exact ⟨congrArg (fun l => Value.string (bstr l)) (by first | rfl | simp only [List.append_assoc, List.cons_append, List.nil_append]), g1⟩
theorem rstmt_24 {x : Tr} (hk : x.kind = 24) (hn : x.kids.length = 3) (hr : ∀ j y, x.kids[j]? = some y → RightT y (wantP x.kind j)) (he : ∀ y ∈ x.kids, RightT y 1 → RdN 51 y.tx.1 y) (hs : ∀ y ∈ x.kids, RightT y 3 → ∀ z ∈ y.kids, RdN 33 z.tx.2.1 z) : RdN 33 x.tx.2.1 x := by
  intro H l R hl
  obtain ⟨ow, sn, sk, rfl, rn, rk⟩ := R.inv
  refine AX.quiet ?_
  suffices hh : AX Try.prog 33 #[.agg (nodeV x sn sk).toArray] H (fun v H' => v = .string (bstr x.tx.2.1) ∧ Grow H H') from hh.mono fun v _ ⟨e, g⟩ => ⟨e ▸ plain_str _, e, g⟩
  refine AX.body (n := 154) (rs := [.tmp 2]) Try.func33 rfl (by decide) rfl rfl (bC_sound _ _ _ _ ?_)
  (conv => whnf)
  refine Ob2.box rfl fun q H1 hq ab g1 => ?_
  have bb := hblk_of ab
  replace rk := NodeR.grows rk g1
  obtain ⟨y, z, u, hks⟩ := three_of hn
  rw [hks, hk] at hr
  rw [hks] at rk he hs
  have t21 : (x.kind == 21) = false := by rw [hk]; rfl
  have t22 : (x.kind == 22) = false := by rw [hk]; rfl
  have t23 : (x.kind == 23) = false := by rw [hk]; rfl
  have t24 : (x.kind == 24) = true := by rw [hk]; rfl
  obtain ⟨b0, o0, n0, k0, K0⟩ := kidAt rk 0 (y := y) rfl
  have x0 : aindexAddr Try.prog 23 sk (.int .i64 0) = _ := K0.ix
  have L0 := K0.ld _ (.refl _)
  refine run ?_
  refine Ob2.alloc rfl fun qc X1 hqc ac gc => ?_
  refine run ?_
  refine Ob.store rfl rfl rfl ac rfl (by first | exact Nat.le_of_ble_eq_true rfl | simp) fun X2 s1 s2 s3 => ?_
  replace gc := gc.but_new s2 (Nat.le_of_eq hqc.symm)
  replace ab := gc.at ab
  replace bb := hblk_of ab
  replace ac := s1
  have bc := hblk_of ac
  clear s1 s2 s3 hqc
  replace g1 := g1.trans gc
  replace rk := NodeR.grows rk gc
  have N0 := K0.nd.grow gc
  have c1 := rank_r N0
  have r0 : RightT y 1 := hr 0 y rfl
  have r1 : RightT z 1 := hr 1 z rfl
  have r2 : RightT u 1 := hr 2 u rfl
  have ht : x.tx.2.1 = atS 8 y y.tx.1 ++ [91] ++ z.tx.1 ++ [93] ++ [32, 61, 32] ++ u.tx.1 ++ [59] := by rw [Tr.tx_eq, hks, hk]; rfl
  rw [ht] at hl ⊢
  have hc := ratR (he y (by simp) r0) N0 8 (decide (rankP y.kind y.op < 8)) (by simp [Tr.rank]) (by simp only [List.length_append, List.length_cons, List.length_nil] at hl ⊢; omega)
  obtain ⟨b1, o1, n1, k1, K1⟩ := kidAt rk 1 (y := z) rfl
  have x1 : aindexAddr Try.prog 23 sk (.int .i64 1) = _ := K1.ix
  have L1 := K1.ld _ (.refl _)
  have h1 := he z (by simp) r1 K1.nd (by simp only [List.length_append, List.length_cons, List.length_nil] at hl ⊢; omega)
  obtain ⟨b2, o2, n2, k2, K2⟩ := kidAt rk 2 (y := u) rfl
  have x2 : aindexAddr Try.prog 23 sk (.int .i64 2) = _ := K2.ix
  have L2 := K2.ld _ (.refl _)
  have h2 := he u (by simp) r2 K2.nd (by simp only [List.length_append, List.length_cons, List.length_nil] at hl ⊢; omega)
  (try (conv => whnf)); (repeat' ((fail_if_success (with_reducible refine And.intro ?_ ?_)); (fail_if_success (with_reducible refine Exists.intro ?_ ?_)); (first | ((with_reducible refine AX.id ?_); (first | (refine (c1).mono ?_; (rintro _ X ⟨rfl, eX⟩; subst X; (conv => whnf))))) | ((with_reducible refine Ob.cat (by first | exact bstr_list _ | rfl) (by first | exact bstr_list _ | rfl) (by ((try simp only [List.length_append, List.length_cons, List.length_nil, lim8, commaS] at hl ⊢); omega)) ?_); (conv => whnf)) | (refine step0 ?_) | (apply bIf.of <;> intro hc <;> (conv => whnf)))))
  apply SW.drawG [(0, [], [54, 57, 58, 59, 60, 64, 65, 66, 67], false), (1, [], [53, 57, 58, 59, 60, 64, 65, 66, 67], false), (4, [], [53, 54, 55, 56, 64, 65, 66, 67], false), (5, [(57, 4)], [53, 54, 55, 56, 57, 64, 65, 66, 67], false), (6, [(57, 4), (58, 5)], [53, 54, 55, 56, 57, 58, 64, 65, 66, 67], false), (7, [(57, 4), (58, 5), (59, 6)], [53, 54, 55, 56, 57, 58, 59, 64, 65, 66, 67], false), (11, [], [53, 54, 55, 56, 57, 58, 59, 60, 61, 62, 63], false), (12, [(64, 11)], [53, 54, 55, 56, 57, 58, 59, 60, 61, 62, 63, 64], false), (13, [(64, 11), (65, 12)], [53, 54, 55, 56, 57, 58, 59, 60, 61, 62, 63, 64, 65], false), (14, [(64, 11), (65, 12), (66, 13)], [53, 54, 55, 56, 57, 58, 59, 60, 61, 62, 63, 64, 65, 66], false), (2, [(53, 0), (54, 1)], [53, 54, 57, 58, 59, 60, 64, 65, 66, 67], true), (3, [(53, 0), (54, 1), (55, 2)], [53, 54, 55, 57, 58, 59, 60, 61, 64, 65, 66, 67, 68], false), (8, [(53, 0), (54, 1), (55, 2), (57, 4), (58, 5), (59, 6), (60, 7)], [53, 54, 55, 56, 57, 58, 59, 60, 64, 65, 66, 67], true), (9, [(53, 0), (54, 1), (55, 2), (56, 3), (57, 4), (58, 5), (59, 6), (60, 7), (61, 8)], [53, 54, 55, 56, 57, 58, 59, 60, 61, 64, 65, 66, 67, 68], false), (10, [(53, 0), (54, 1), (55, 2), (56, 3), (57, 4), (58, 5), (59, 6), (60, 7), (61, 8), (62, 9)], [53, 54, 55, 56, 57, 58, 59, 60, 61, 62, 64, 65, 66, 67, 68], false), (15, [(53, 0), (54, 1), (55, 2), (57, 4), (58, 5), (59, 6), (60, 7), (61, 8), (64, 11), (65, 12), (66, 13), (67, 14)], [53, 54, 55, 56, 57, 58, 59, 60, 61, 62, 63, 64, 65, 66, 67], true), (16, [(53, 0), (54, 1), (55, 2), (56, 3), (57, 4), (58, 5), (59, 6), (60, 7), (61, 8), (62, 9), (63, 10), (64, 11), (65, 12), (66, 13), (67, 14), (68, 15)], [53, 54, 55, 56, 57, 58, 59, 60, 61, 62, 63, 64, 65, 66, 67, 68], false), (17, [(53, 0), (54, 1), (55, 2), (56, 3), (57, 4), (58, 5), (59, 6), (60, 7), (61, 8), (62, 9), (63, 10), (64, 11), (65, 12), (66, 13), (67, 14), (68, 15), (69, 16)], [53, 54, 55, 56, 57, 58, 59, 60, 61, 62, 63, 64, 65, 66, 67, 68, 69], false), (18, [(53, 0), (54, 1), (55, 2), (56, 3), (57, 4), (58, 5), (59, 6), (60, 7), (61, 8), (62, 9), (63, 10), (64, 11), (65, 12), (66, 13), (67, 14), (68, 15), (69, 16), (70, 17)], [53, 54, 55, 56, 57, 58, 59, 60, 61, 62, 63, 64, 65, 66, 67, 68, 69, 70], false)]
    [(53, 0), (54, 1), (55, 2), (56, 3), (57, 4), (58, 5), (59, 6), (60, 7), (61, 8), (62, 9), (63, 10), (64, 11), (65, 12), (66, 13), (67, 14), (68, 15), (69, 16), (70, 17), (2, 18)]
    [(1, _), (3, _), (4, _)] rfl (by kernel_rfl)
  case hF => exact ⟨rfl, rfl, rfl, trivial⟩
  (try (conv => whnf)); (repeat' ((fail_if_success (with_reducible refine And.intro ?_ ?_)); (fail_if_success (with_reducible refine Exists.intro ?_ ?_)); (first | ((with_reducible refine AX.id ?_); (first | (refine (hc).mono ?_; (rintro _ X ⟨rfl, eX⟩; subst X; (conv => whnf))) | (refine (h1).mono ?_; (rintro _ X ⟨rfl, eX⟩; subst X; (conv => whnf))) | (refine (h2).mono ?_; (rintro _ X ⟨rfl, eX⟩; subst X; (conv => whnf))))) | ((with_reducible refine Ob.cat (by first | exact bstr_list _ | rfl) (by first | exact bstr_list _ | rfl) (by ((try simp only [List.length_append, List.length_cons, List.length_nil, lim8, commaS] at hl ⊢); omega)) ?_); (conv => whnf)) | (refine step0 ?_) | (apply bIf.of <;> intro hc <;> (conv => whnf)))))
  exact ⟨congrArg (fun l => Value.string (bstr l)) (by first | rfl | simp only [List.append_assoc, List.cons_append, List.nil_append]), g1⟩
theorem rstmt_25 {x : Tr} (hk : x.kind = 25) (hn : x.kids.length = 1) (hr : ∀ j y, x.kids[j]? = some y → RightT y (wantP x.kind j)) (he : ∀ y ∈ x.kids, RightT y 1 → RdN 51 y.tx.1 y) (hs : ∀ y ∈ x.kids, RightT y 3 → ∀ z ∈ y.kids, RdN 33 z.tx.2.1 z) : RdN 33 x.tx.2.1 x := by
  intro H l R hl
  obtain ⟨ow, sn, sk, rfl, rn, rk⟩ := R.inv
  refine AX.quiet ?_
  suffices hh : AX Try.prog 33 #[.agg (nodeV x sn sk).toArray] H (fun v H' => v = .string (bstr x.tx.2.1) ∧ Grow H H') from hh.mono fun v _ ⟨e, g⟩ => ⟨e ▸ plain_str _, e, g⟩
  refine AX.body (n := 154) (rs := [.tmp 2]) Try.func33 rfl (by decide) rfl rfl (bC_sound _ _ _ _ ?_)
  (conv => whnf)
  refine Ob2.box rfl fun q H1 hq ab g1 => ?_
  have bb := hblk_of ab
  replace rk := NodeR.grows rk g1
  obtain ⟨y, hks⟩ := List.length_eq_one_iff.1 hn
  rw [hks, hk] at hr
  rw [hks] at rk he hs
  have t21 : (x.kind == 21) = false := by rw [hk]; rfl
  have t22 : (x.kind == 22) = false := by rw [hk]; rfl
  have t23 : (x.kind == 23) = false := by rw [hk]; rfl
  have t24 : (x.kind == 24) = false := by rw [hk]; rfl
  have t25 : (x.kind == 25) = true := by rw [hk]; rfl
  obtain ⟨b0, o0, n0, k0, K0⟩ := kidAt rk 0 (y := y) rfl
  have x0 : aindexAddr Try.prog 23 sk (.int .i64 0) = _ := K0.ix
  have L0 := K0.ld _ (.refl _)
  refine run ?_
  refine Ob2.alloc rfl fun qc X1 hqc ac gc => ?_
  refine run ?_
  refine Ob.store rfl rfl rfl ac rfl (by first | exact Nat.le_of_ble_eq_true rfl | simp) fun X2 s1 s2 s3 => ?_
  replace gc := gc.but_new s2 (Nat.le_of_eq hqc.symm)
  replace ab := gc.at ab
  replace bb := hblk_of ab
  replace ac := s1
  have bc := hblk_of ac
  clear s1 s2 s3 hqc
  replace g1 := g1.trans gc
  replace rk := NodeR.grows rk gc
  have N0 := K0.nd.grow gc
  have c1 := rank_r N0
  have r0 : RightT y 1 := hr 0 y rfl
  have ht : x.tx.2.1 = [100, 101, 108, 101, 116, 101, 32] ++ atS 8 y y.tx.1 ++ [46] ++ x.str.data.toList ++ [59] := by rw [Tr.tx_eq, hks, hk]; rfl
  rw [ht] at hl ⊢
  have hc := ratR (he y (by simp) r0) N0 8 (decide (rankP y.kind y.op < 8)) (by simp [Tr.rank]) (by simp only [List.length_append, List.length_cons, List.length_nil] at hl ⊢; omega)
  (try (conv => whnf)); (repeat' ((fail_if_success (with_reducible refine And.intro ?_ ?_)); (fail_if_success (with_reducible refine Exists.intro ?_ ?_)); (first | ((with_reducible refine AX.id ?_); (first | (refine (c1).mono ?_; (rintro _ X ⟨rfl, eX⟩; subst X; (conv => whnf))))) | ((with_reducible refine Ob.cat (by first | exact bstr_list _ | rfl) (by first | exact bstr_list _ | rfl) (by ((try simp only [List.length_append, List.length_cons, List.length_nil, lim8, commaS] at hl ⊢); omega)) ?_); (conv => whnf)) | (refine step0 ?_) | (apply bIf.of <;> intro hc <;> (conv => whnf)))))
  apply SW.drawG [(0, [], [74, 78, 79], false), (1, [], [73, 78, 79], false), (5, [], [73, 74, 75, 76, 77], false), (6, [(78, 5)], [73, 74, 75, 76, 77, 78], false), (2, [(73, 0), (74, 1)], [73, 74, 78, 79], true), (3, [(73, 0), (74, 1), (75, 2)], [73, 74, 75, 78, 79], false), (4, [(73, 0), (74, 1), (75, 2), (76, 3)], [73, 74, 75, 76, 78, 79], false), (7, [(73, 0), (74, 1), (75, 2), (76, 3), (77, 4), (78, 5), (79, 6)], [73, 74, 75, 76, 77, 78, 79], false), (8, [(73, 0), (74, 1), (75, 2), (76, 3), (77, 4), (78, 5), (79, 6), (80, 7)], [73, 74, 75, 76, 77, 78, 79, 80], false), (9, [(73, 0), (74, 1), (75, 2), (76, 3), (77, 4), (78, 5), (79, 6), (80, 7), (81, 8)], [73, 74, 75, 76, 77, 78, 79, 80, 81], false)]
    [(73, 0), (74, 1), (75, 2), (76, 3), (77, 4), (78, 5), (79, 6), (80, 7), (81, 8), (2, 9)]
    [(1, _), (3, _), (4, _)] rfl (by kernel_rfl)
  case hF => exact ⟨rfl, rfl, rfl, trivial⟩
  (try (conv => whnf)); (repeat' ((fail_if_success (with_reducible refine And.intro ?_ ?_)); (fail_if_success (with_reducible refine Exists.intro ?_ ?_)); (first | ((with_reducible refine AX.id ?_); (first | (refine (hc).mono ?_; (rintro _ X ⟨rfl, eX⟩; subst X; (conv => whnf))))) | ((with_reducible refine Ob.cat (by first | exact bstr_list _ | rfl) (by first | exact bstr_list _ | rfl) (by ((try simp only [List.length_append, List.length_cons, List.length_nil, lim8, commaS] at hl ⊢); omega)) ?_); (conv => whnf)) | (refine step0 ?_) | (apply bIf.of <;> intro hc <;> (conv => whnf)))))
  exact ⟨congrArg (fun l => Value.string (bstr l)) (by first | rfl | simp only [List.append_assoc, List.cons_append, List.nil_append]), g1⟩
end Go.Proofs.Ytmglmjbjgfbdjaa
/- The document's writer: Stmt. Printed by mk36.py. -/
set_option linter.unusedVariables false
set_option linter.unusedSimpArgs false
set_option maxRecDepth 20000
set_option maxHeartbeats 8000000
namespace Go.Proofs.Ytmglmjbjgfbdjaa
open Go Ax

theorem rstmt_26 {x : Tr} (hk : x.kind = 26) (hn : x.kids.length = 2) (hr : ∀ j y, x.kids[j]? = some y → RightT y (wantP x.kind j)) (he : ∀ y ∈ x.kids, RightT y 1 → RdN 51 y.tx.1 y) (hs : ∀ y ∈ x.kids, RightT y 3 → ∀ z ∈ y.kids, RdN 33 z.tx.2.1 z) : RdN 33 x.tx.2.1 x := by
  intro H l R hl
  obtain ⟨ow, sn, sk, rfl, rn, rk⟩ := R.inv
  refine AX.quiet ?_
  suffices hh : AX Try.prog 33 #[.agg (nodeV x sn sk).toArray] H (fun v H' => v = .string (bstr x.tx.2.1) ∧ Grow H H') from hh.mono fun v _ ⟨e, g⟩ => ⟨e ▸ plain_str _, e, g⟩
  refine AX.body (n := 154) (rs := [.tmp 2]) Try.func33 rfl (by decide) rfl rfl (bC_sound _ _ _ _ ?_)
  (conv => whnf)
  refine Ob2.box rfl fun q H1 hq ab g1 => ?_
  have bb := hblk_of ab
  replace rk := NodeR.grows rk g1
  obtain ⟨y, z, hks⟩ := two_of hn
  rw [hks, hk] at hr
  rw [hks] at rk he hs
  have t21 : (x.kind == 21) = false := by rw [hk]; rfl
  have t22 : (x.kind == 22) = false := by rw [hk]; rfl
  have t23 : (x.kind == 23) = false := by rw [hk]; rfl
  have t24 : (x.kind == 24) = false := by rw [hk]; rfl
  have t25 : (x.kind == 25) = false := by rw [hk]; rfl
  have t26 : (x.kind == 26) = true := by rw [hk]; rfl
  obtain ⟨b0, o0, n0, k0, K0⟩ := kidAt rk 0 (y := y) rfl
  have x0 : aindexAddr Try.prog 23 sk (.int .i64 0) = _ := K0.ix
  have L0 := K0.ld _ (.refl _)
  refine run ?_
  refine Ob2.alloc rfl fun qc X1 hqc ac gc => ?_
  refine run ?_
  refine Ob.store rfl rfl rfl ac rfl (by first | exact Nat.le_of_ble_eq_true rfl | simp) fun X2 s1 s2 s3 => ?_
  replace gc := gc.but_new s2 (Nat.le_of_eq hqc.symm)
  replace ab := gc.at ab
  replace bb := hblk_of ab
  replace ac := s1
  have bc := hblk_of ac
  clear s1 s2 s3 hqc
  replace g1 := g1.trans gc
  replace rk := NodeR.grows rk gc
  have N0 := K0.nd.grow gc
  have c1 := rank_r N0
  have r0 : RightT y 1 := hr 0 y rfl
  have r1 : RightT z 1 := hr 1 z rfl
  have ht : x.tx.2.1 = [100, 101, 108, 101, 116, 101, 32] ++ atS 8 y y.tx.1 ++ [91] ++ z.tx.1 ++ [93] ++ [59] := by rw [Tr.tx_eq, hks, hk]; rfl
  rw [ht] at hl ⊢
  have hc := ratR (he y (by simp) r0) N0 8 (decide (rankP y.kind y.op < 8)) (by simp [Tr.rank]) (by simp only [List.length_append, List.length_cons, List.length_nil] at hl ⊢; omega)
  obtain ⟨b1, o1, n1, k1, K1⟩ := kidAt rk 1 (y := z) rfl
  have x1 : aindexAddr Try.prog 23 sk (.int .i64 1) = _ := K1.ix
  have L1 := K1.ld _ (.refl _)
  have h1 := he z (by simp) r1 K1.nd (by simp only [List.length_append, List.length_cons, List.length_nil] at hl ⊢; omega)
  (try (conv => whnf)); (repeat' ((fail_if_success (with_reducible refine And.intro ?_ ?_)); (fail_if_success (with_reducible refine Exists.intro ?_ ?_)); (first | ((with_reducible refine AX.id ?_); (first | (refine (c1).mono ?_; (rintro _ X ⟨rfl, eX⟩; subst X; (conv => whnf))))) | ((with_reducible refine Ob.cat (by first | exact bstr_list _ | rfl) (by first | exact bstr_list _ | rfl) (by ((try simp only [List.length_append, List.length_cons, List.length_nil, lim8, commaS] at hl ⊢); omega)) ?_); (conv => whnf)) | (refine step0 ?_) | (apply bIf.of <;> intro hc <;> (conv => whnf)))))
  apply SW.drawG [(0, [], [85, 89, 90, 91, 92], false), (1, [], [84, 89, 90, 91, 92], false), (5, [], [84, 85, 86, 87, 88], false), (6, [(89, 5)], [84, 85, 86, 87, 88, 89], false), (7, [(89, 5), (90, 6)], [84, 85, 86, 87, 88, 89, 90], false), (8, [(89, 5), (90, 6), (91, 7)], [84, 85, 86, 87, 88, 89, 90, 91], false), (2, [(84, 0), (85, 1)], [84, 85, 89, 90, 91, 92], true), (3, [(84, 0), (85, 1), (86, 2)], [84, 85, 86, 89, 90, 91, 92, 93], false), (4, [(84, 0), (85, 1), (86, 2), (87, 3)], [84, 85, 86, 87, 89, 90, 91, 92, 93], false), (9, [(84, 0), (85, 1), (86, 2), (89, 5), (90, 6), (91, 7), (92, 8)], [84, 85, 86, 87, 88, 89, 90, 91, 92], true), (10, [(84, 0), (85, 1), (86, 2), (87, 3), (88, 4), (89, 5), (90, 6), (91, 7), (92, 8), (93, 9)], [84, 85, 86, 87, 88, 89, 90, 91, 92, 93], false), (11, [(84, 0), (85, 1), (86, 2), (87, 3), (88, 4), (89, 5), (90, 6), (91, 7), (92, 8), (93, 9), (94, 10)], [84, 85, 86, 87, 88, 89, 90, 91, 92, 93, 94], false), (12, [(84, 0), (85, 1), (86, 2), (87, 3), (88, 4), (89, 5), (90, 6), (91, 7), (92, 8), (93, 9), (94, 10), (95, 11)], [84, 85, 86, 87, 88, 89, 90, 91, 92, 93, 94, 95], false)]
    [(84, 0), (85, 1), (86, 2), (87, 3), (88, 4), (89, 5), (90, 6), (91, 7), (92, 8), (93, 9), (94, 10), (95, 11), (2, 12)]
    [(1, _), (3, _), (4, _)] rfl (by kernel_rfl)
  case hF => exact ⟨rfl, rfl, rfl, trivial⟩
  (try (conv => whnf)); (repeat' ((fail_if_success (with_reducible refine And.intro ?_ ?_)); (fail_if_success (with_reducible refine Exists.intro ?_ ?_)); (first | ((with_reducible refine AX.id ?_); (first | (refine (hc).mono ?_; (rintro _ X ⟨rfl, eX⟩; subst X; (conv => whnf))) | (refine (h1).mono ?_; (rintro _ X ⟨rfl, eX⟩; subst X; (conv => whnf))))) | ((with_reducible refine Ob.cat (by first | exact bstr_list _ | rfl) (by first | exact bstr_list _ | rfl) (by ((try simp only [List.length_append, List.length_cons, List.length_nil, lim8, commaS] at hl ⊢); omega)) ?_); (conv => whnf)) | (refine step0 ?_) | (apply bIf.of <;> intro hc <;> (conv => whnf)))))
  exact ⟨congrArg (fun l => Value.string (bstr l)) (by first | rfl | simp only [List.append_assoc, List.cons_append, List.nil_append]), g1⟩
theorem rstmt_27 {x : Tr} (hk : x.kind = 27) (hn : x.kids.length = 1) (hr : ∀ j y, x.kids[j]? = some y → RightT y (wantP x.kind j)) (he : ∀ y ∈ x.kids, RightT y 1 → RdN 51 y.tx.1 y) (hs : ∀ y ∈ x.kids, RightT y 3 → ∀ z ∈ y.kids, RdN 33 z.tx.2.1 z) : RdN 33 x.tx.2.1 x := by
  intro H l R hl
  obtain ⟨ow, sn, sk, rfl, rn, rk⟩ := R.inv
  refine AX.quiet ?_
  suffices hh : AX Try.prog 33 #[.agg (nodeV x sn sk).toArray] H (fun v H' => v = .string (bstr x.tx.2.1) ∧ Grow H H') from hh.mono fun v _ ⟨e, g⟩ => ⟨e ▸ plain_str _, e, g⟩
  refine AX.body (n := 154) (rs := [.tmp 2]) Try.func33 rfl (by decide) rfl rfl (bC_sound _ _ _ _ ?_)
  (conv => whnf)
  refine Ob2.box rfl fun q H1 hq ab g1 => ?_
  have bb := hblk_of ab
  replace rk := NodeR.grows rk g1
  obtain ⟨y, hks⟩ := List.length_eq_one_iff.1 hn
  rw [hks, hk] at hr
  rw [hks] at rk he hs
  have t21 : (x.kind == 21) = false := by rw [hk]; rfl
  have t22 : (x.kind == 22) = false := by rw [hk]; rfl
  have t23 : (x.kind == 23) = false := by rw [hk]; rfl
  have t24 : (x.kind == 24) = false := by rw [hk]; rfl
  have t25 : (x.kind == 25) = false := by rw [hk]; rfl
  have t26 : (x.kind == 26) = false := by rw [hk]; rfl
  have t27 : (x.kind == 27) = true := by rw [hk]; rfl
  obtain ⟨b0, o0, n0, k0, K0⟩ := kidAt rk 0 (y := y) rfl
  have x0 : aindexAddr Try.prog 23 sk (.int .i64 0) = _ := K0.ix
  have L0 := K0.ld _ (.refl _)
  refine run ?_
  refine Ob2.alloc rfl fun qc X1 hqc ac gc => ?_
  refine run ?_
  refine Ob.store rfl rfl rfl ac rfl (by first | exact Nat.le_of_ble_eq_true rfl | simp) fun X2 s1 s2 s3 => ?_
  replace gc := gc.but_new s2 (Nat.le_of_eq hqc.symm)
  replace ab := gc.at ab
  replace bb := hblk_of ab
  replace ac := s1
  have bc := hblk_of ac
  clear s1 s2 s3 hqc
  replace g1 := g1.trans gc
  replace rk := NodeR.grows rk gc
  have N0 := K0.nd.grow gc
  have c1 := rank_r N0
  have r0 : RightT y 1 := hr 0 y rfl
  have ht : x.tx.2.1 = [112, 114, 105, 110, 116, 32] ++ y.tx.1 ++ [59] := by rw [Tr.tx_eq, hks, hk]; rfl
  rw [ht] at hl ⊢
  have hc := he y (by simp) r0 N0 (by simp only [List.length_append, List.length_cons, List.length_nil] at hl ⊢; omega)
  (try (conv => whnf)); (repeat' ((fail_if_success (with_reducible refine And.intro ?_ ?_)); (fail_if_success (with_reducible refine Exists.intro ?_ ?_)); (first | ((with_reducible refine AX.id ?_); (first | (refine (c1).mono ?_; (rintro _ X ⟨rfl, eX⟩; subst X; (conv => whnf))))) | ((with_reducible refine Ob.cat (by first | exact bstr_list _ | rfl) (by first | exact bstr_list _ | rfl) (by ((try simp only [List.length_append, List.length_cons, List.length_nil, lim8, commaS] at hl ⊢); omega)) ?_); (conv => whnf)) | (refine step0 ?_) | (apply bIf.of <;> intro hc <;> (conv => whnf)))))
  (try (conv => whnf)); (repeat' ((fail_if_success (with_reducible refine And.intro ?_ ?_)); (fail_if_success (with_reducible refine Exists.intro ?_ ?_)); (first | ((with_reducible refine AX.id ?_); (first | (refine (hc).mono ?_; (rintro _ X ⟨rfl, eX⟩; subst X; (conv => whnf))))) | ((with_reducible refine Ob.cat (by first | exact bstr_list _ | rfl) (by first | exact bstr_list _ | rfl) (by ((try simp only [List.length_append, List.length_cons, List.length_nil, lim8, commaS] at hl ⊢); omega)) ?_); (conv => whnf)) | (refine step0 ?_) | (apply bIf.of <;> intro hc <;> (conv => whnf)))))
  exact ⟨congrArg (fun l => Value.string (bstr l)) (by first | rfl | simp only [List.append_assoc, List.cons_append, List.nil_append]), g1⟩
theorem rstmt_31 {x : Tr} (hk : x.kind = 31) (hn : x.kids.length = 1) (hr : ∀ j y, x.kids[j]? = some y → RightT y (wantP x.kind j)) (he : ∀ y ∈ x.kids, RightT y 1 → RdN 51 y.tx.1 y) (hs : ∀ y ∈ x.kids, RightT y 3 → ∀ z ∈ y.kids, RdN 33 z.tx.2.1 z) : RdN 33 x.tx.2.1 x := by
  intro H l R hl
  obtain ⟨ow, sn, sk, rfl, rn, rk⟩ := R.inv
  refine AX.quiet ?_
  suffices hh : AX Try.prog 33 #[.agg (nodeV x sn sk).toArray] H (fun v H' => v = .string (bstr x.tx.2.1) ∧ Grow H H') from hh.mono fun v _ ⟨e, g⟩ => ⟨e ▸ plain_str _, e, g⟩
  refine AX.body (n := 154) (rs := [.tmp 2]) Try.func33 rfl (by decide) rfl rfl (bC_sound _ _ _ _ ?_)
  (conv => whnf)
  refine Ob2.box rfl fun q H1 hq ab g1 => ?_
  have bb := hblk_of ab
  replace rk := NodeR.grows rk g1
  obtain ⟨y, hks⟩ := List.length_eq_one_iff.1 hn
  rw [hks, hk] at hr
  rw [hks] at rk he hs
  have t21 : (x.kind == 21) = false := by rw [hk]; rfl
  have t22 : (x.kind == 22) = false := by rw [hk]; rfl
  have t23 : (x.kind == 23) = false := by rw [hk]; rfl
  have t24 : (x.kind == 24) = false := by rw [hk]; rfl
  have t25 : (x.kind == 25) = false := by rw [hk]; rfl
  have t26 : (x.kind == 26) = false := by rw [hk]; rfl
  have t27 : (x.kind == 27) = false := by rw [hk]; rfl
  have t28 : (x.kind == 28) = false := by rw [hk]; rfl
  have t30 : (x.kind == 30) = false := by rw [hk]; rfl
  have t31 : (x.kind == 31) = true := by rw [hk]; rfl
  obtain ⟨b0, o0, n0, k0, K0⟩ := kidAt rk 0 (y := y) rfl
  have x0 : aindexAddr Try.prog 23 sk (.int .i64 0) = _ := K0.ix
  have L0 := K0.ld _ (.refl _)
  refine run ?_
  refine Ob2.alloc rfl fun qc X1 hqc ac gc => ?_
  refine run ?_
  refine Ob.store rfl rfl rfl ac rfl (by first | exact Nat.le_of_ble_eq_true rfl | simp) fun X2 s1 s2 s3 => ?_
  replace gc := gc.but_new s2 (Nat.le_of_eq hqc.symm)
  replace ab := gc.at ab
  replace bb := hblk_of ab
  replace ac := s1
  have bc := hblk_of ac
  clear s1 s2 s3 hqc
  replace g1 := g1.trans gc
  replace rk := NodeR.grows rk gc
  have N0 := K0.nd.grow gc
  have c1 := rank_r N0
  have r0 : RightT y 1 := hr 0 y rfl
  have ht : x.tx.2.1 = [114, 101, 116, 117, 114, 110, 32] ++ y.tx.1 ++ [59] := by rw [Tr.tx_eq, hks, hk]; rfl
  rw [ht] at hl ⊢
  have hc := he y (by simp) r0 N0 (by simp only [List.length_append, List.length_cons, List.length_nil] at hl ⊢; omega)
  (try (conv => whnf)); (repeat' ((fail_if_success (with_reducible refine And.intro ?_ ?_)); (fail_if_success (with_reducible refine Exists.intro ?_ ?_)); (first | ((with_reducible refine AX.id ?_); (first | (refine (c1).mono ?_; (rintro _ X ⟨rfl, eX⟩; subst X; (conv => whnf))))) | ((with_reducible refine Ob.cat (by first | exact bstr_list _ | rfl) (by first | exact bstr_list _ | rfl) (by ((try simp only [List.length_append, List.length_cons, List.length_nil, lim8, commaS] at hl ⊢); omega)) ?_); (conv => whnf)) | (refine step0 ?_) | (apply bIf.of <;> intro hc <;> (conv => whnf)))))
  (try (conv => whnf)); (repeat' ((fail_if_success (with_reducible refine And.intro ?_ ?_)); (fail_if_success (with_reducible refine Exists.intro ?_ ?_)); (first | ((with_reducible refine AX.id ?_); (first | (refine (hc).mono ?_; (rintro _ X ⟨rfl, eX⟩; subst X; (conv => whnf))))) | ((with_reducible refine Ob.cat (by first | exact bstr_list _ | rfl) (by first | exact bstr_list _ | rfl) (by ((try simp only [List.length_append, List.length_cons, List.length_nil, lim8, commaS] at hl ⊢); omega)) ?_); (conv => whnf)) | (refine step0 ?_) | (apply bIf.of <;> intro hc <;> (conv => whnf)))))
  exact ⟨congrArg (fun l => Value.string (bstr l)) (by first | rfl | simp only [List.append_assoc, List.cons_append, List.nil_append]), g1⟩
theorem rstmt_32 {x : Tr} (hk : x.kind = 32) (hn : x.kids.length = 1) (hr : ∀ j y, x.kids[j]? = some y → RightT y (wantP x.kind j)) (he : ∀ y ∈ x.kids, RightT y 1 → RdN 51 y.tx.1 y) (hs : ∀ y ∈ x.kids, RightT y 3 → ∀ z ∈ y.kids, RdN 33 z.tx.2.1 z) : RdN 33 x.tx.2.1 x := by
  intro H l R hl
  obtain ⟨ow, sn, sk, rfl, rn, rk⟩ := R.inv
  refine AX.quiet ?_
  suffices hh : AX Try.prog 33 #[.agg (nodeV x sn sk).toArray] H (fun v H' => v = .string (bstr x.tx.2.1) ∧ Grow H H') from hh.mono fun v _ ⟨e, g⟩ => ⟨e ▸ plain_str _, e, g⟩
  refine AX.body (n := 154) (rs := [.tmp 2]) Try.func33 rfl (by decide) rfl rfl (bC_sound _ _ _ _ ?_)
  (conv => whnf)
  refine Ob2.box rfl fun q H1 hq ab g1 => ?_
  have bb := hblk_of ab
  replace rk := NodeR.grows rk g1
  obtain ⟨y, hks⟩ := List.length_eq_one_iff.1 hn
  rw [hks, hk] at hr
  rw [hks] at rk he hs
  have t21 : (x.kind == 21) = false := by rw [hk]; rfl
  have t22 : (x.kind == 22) = false := by rw [hk]; rfl
  have t23 : (x.kind == 23) = false := by rw [hk]; rfl
  have t24 : (x.kind == 24) = false := by rw [hk]; rfl
  have t25 : (x.kind == 25) = false := by rw [hk]; rfl
  have t26 : (x.kind == 26) = false := by rw [hk]; rfl
  have t27 : (x.kind == 27) = false := by rw [hk]; rfl
  have t28 : (x.kind == 28) = false := by rw [hk]; rfl
  have t30 : (x.kind == 30) = false := by rw [hk]; rfl
  have t31 : (x.kind == 31) = false := by rw [hk]; rfl
  obtain ⟨b0, o0, n0, k0, K0⟩ := kidAt rk 0 (y := y) rfl
  have x0 : aindexAddr Try.prog 23 sk (.int .i64 0) = _ := K0.ix
  have L0 := K0.ld _ (.refl _)
  refine run ?_
  refine Ob2.alloc rfl fun qc X1 hqc ac gc => ?_
  refine run ?_
  refine Ob.store rfl rfl rfl ac rfl (by first | exact Nat.le_of_ble_eq_true rfl | simp) fun X2 s1 s2 s3 => ?_
  replace gc := gc.but_new s2 (Nat.le_of_eq hqc.symm)
  replace ab := gc.at ab
  replace bb := hblk_of ab
  replace ac := s1
  have bc := hblk_of ac
  clear s1 s2 s3 hqc
  replace g1 := g1.trans gc
  replace rk := NodeR.grows rk gc
  have N0 := K0.nd.grow gc
  have c1 := rank_r N0
  have r0 : RightT y 1 := hr 0 y rfl
  have ht : x.tx.2.1 = y.tx.1 ++ [59] := by rw [Tr.tx_eq, hks, hk]; rfl
  rw [ht] at hl ⊢
  have hc := he y (by simp) r0 N0 (by simp only [List.length_append, List.length_cons, List.length_nil] at hl ⊢; omega)
  (try (conv => whnf)); (repeat' ((fail_if_success (with_reducible refine And.intro ?_ ?_)); (fail_if_success (with_reducible refine Exists.intro ?_ ?_)); (first | ((with_reducible refine AX.id ?_); (first | (refine (c1).mono ?_; (rintro _ X ⟨rfl, eX⟩; subst X; (conv => whnf))))) | ((with_reducible refine Ob.cat (by first | exact bstr_list _ | rfl) (by first | exact bstr_list _ | rfl) (by ((try simp only [List.length_append, List.length_cons, List.length_nil, lim8, commaS] at hl ⊢); omega)) ?_); (conv => whnf)) | (refine step0 ?_) | (apply bIf.of <;> intro hc <;> (conv => whnf)))))
  (try (conv => whnf)); (repeat' ((fail_if_success (with_reducible refine And.intro ?_ ?_)); (fail_if_success (with_reducible refine Exists.intro ?_ ?_)); (first | ((with_reducible refine AX.id ?_); (first | (refine (hc).mono ?_; (rintro _ X ⟨rfl, eX⟩; subst X; (conv => whnf))))) | ((with_reducible refine Ob.cat (by first | exact bstr_list _ | rfl) (by first | exact bstr_list _ | rfl) (by ((try simp only [List.length_append, List.length_cons, List.length_nil, lim8, commaS] at hl ⊢); omega)) ?_); (conv => whnf)) | (refine step0 ?_) | (apply bIf.of <;> intro hc <;> (conv => whnf)))))
  exact ⟨congrArg (fun l => Value.string (bstr l)) (by first | rfl | simp only [List.append_assoc, List.cons_append, List.nil_append]), g1⟩
theorem rstmt_28 {x : Tr} (hk : x.kind = 28) (hn : x.kids.length = 3) (hr : ∀ j y, x.kids[j]? = some y → RightT y (wantP x.kind j)) (he : ∀ y ∈ x.kids, RightT y 1 → RdN 51 y.tx.1 y) (hs : ∀ y ∈ x.kids, RightT y 3 → ∀ z ∈ y.kids, RdN 33 z.tx.2.1 z) : RdN 33 x.tx.2.1 x := by
  intro H l R hl
  obtain ⟨ow, sn, sk, rfl, rn, rk⟩ := R.inv
  refine AX.quiet ?_
  suffices hh : AX Try.prog 33 #[.agg (nodeV x sn sk).toArray] H (fun v H' => v = .string (bstr x.tx.2.1) ∧ Grow H H') from hh.mono fun v _ ⟨e, g⟩ => ⟨e ▸ plain_str _, e, g⟩
  refine AX.body (n := 154) (rs := [.tmp 2]) Try.func33 rfl (by decide) rfl rfl (bC_sound _ _ _ _ ?_)
  (conv => whnf)
  refine Ob2.box rfl fun q H1 hq ab g1 => ?_
  have bb := hblk_of ab
  replace rk := NodeR.grows rk g1
  obtain ⟨y, z, u, hks⟩ := three_of hn
  rw [hks, hk] at hr
  rw [hks] at rk he hs
  have t21 : (x.kind == 21) = false := by rw [hk]; rfl
  have t22 : (x.kind == 22) = false := by rw [hk]; rfl
  have t23 : (x.kind == 23) = false := by rw [hk]; rfl
  have t24 : (x.kind == 24) = false := by rw [hk]; rfl
  have t25 : (x.kind == 25) = false := by rw [hk]; rfl
  have t26 : (x.kind == 26) = false := by rw [hk]; rfl
  have t27 : (x.kind == 27) = false := by rw [hk]; rfl
  have t28 : (x.kind == 28) = true := by rw [hk]; rfl
  obtain ⟨b0, o0, n0, k0, K0⟩ := kidAt rk 0 (y := y) rfl
  have x0 : aindexAddr Try.prog 23 sk (.int .i64 0) = _ := K0.ix
  have L0 := K0.ld _ (.refl _)
  refine run ?_
  refine Ob2.alloc rfl fun qc X1 hqc ac gc => ?_
  refine run ?_
  refine Ob.store rfl rfl rfl ac rfl (by first | exact Nat.le_of_ble_eq_true rfl | simp) fun X2 s1 s2 s3 => ?_
  replace gc := gc.but_new s2 (Nat.le_of_eq hqc.symm)
  replace ab := gc.at ab
  replace bb := hblk_of ab
  replace ac := s1
  have bc := hblk_of ac
  clear s1 s2 s3 hqc
  replace g1 := g1.trans gc
  replace rk := NodeR.grows rk gc
  have N0 := K0.nd.grow gc
  have c1 := rank_r N0
  have r0 : RightT y 1 := hr 0 y rfl
  have r1 : RightT z 3 := hr 1 z rfl
  have r2 : RightT u 3 := hr 2 u rfl
  have ht : x.tx.2.1 = [105, 102, 32, 40] ++ y.tx.1 ++ [41, 32] ++ braceS (z.kids.map (·.tx.2.1)) ++ (if u.kids = [] then [] else [32, 101, 108, 115, 101, 32] ++ braceS (u.kids.map (·.tx.2.1))) := by rw [Tr.tx_eq, hks, hk, ← bl_tx, ← bl_tx]; rfl
  rw [ht] at hl ⊢
  have hc := he y (by simp) r0 N0 (by simp only [List.length_append, List.length_cons, List.length_nil] at hl ⊢; omega)
  obtain ⟨b1, o1, n1, k1, K1⟩ := kidAt rk 1 (y := z) rfl
  have x1 : aindexAddr Try.prog 23 sk (.int .i64 1) = _ := K1.ix
  have L1 := K1.ks _ (.refl _)
  have h1 := rblockR K1.rk K1.ow.2.2.2 (hs z (by simp) r1) (by simp only [List.length_append, List.length_cons, List.length_nil] at hl ⊢; omega)
  obtain ⟨b2, o2, n2, k2, K2⟩ := kidAt rk 2 (y := u) rfl
  have x2 : aindexAddr Try.prog 23 sk (.int .i64 2) = _ := K2.ix
  have L2 := K2.ks _ (.refl _)
  have l2 : alen Try.prog 23 k2 X2 = some (.int .i64 u.kids.length) := K2.rk.len rfl _
  by_cases hu : u.kids = []
  · have d : decide ((u.kids.length : Int) > 0) = false := by rw [hu]; rfl
    rw [if_pos hu] at hl ⊢
    (try (conv => whnf)); (repeat' ((fail_if_success (with_reducible refine And.intro ?_ ?_)); (fail_if_success (with_reducible refine Exists.intro ?_ ?_)); (first | ((with_reducible refine AX.id ?_); (first | (refine (c1).mono ?_; (rintro _ X ⟨rfl, eX⟩; subst X; (conv => whnf))))) | ((with_reducible refine Ob.cat (by first | exact bstr_list _ | rfl) (by first | exact bstr_list _ | rfl) (by ((try simp only [List.length_append, List.length_cons, List.length_nil, lim8, commaS] at hl ⊢); omega)) ?_); (conv => whnf)) | (refine step0 ?_) | (apply bIf.of <;> intro hc <;> (conv => whnf)))))
    apply SW.drawG [(0, [], [108, 109, 110, 111, 112], false), (4, [], [104, 105, 106, 107], false), (5, [(108, 4)], [104, 105, 106, 107, 108], false), (6, [(108, 4), (109, 5)], [104, 105, 106, 107, 108, 109], false), (7, [(108, 4), (109, 5), (110, 6)], [104, 105, 106, 107, 108, 109, 110], false), (8, [(108, 4), (109, 5), (110, 6), (111, 7)], [104, 105, 106, 107, 108, 109, 110, 111], false), (1, [(104, 0)], [104, 108, 109, 110, 111, 112], true), (2, [(104, 0), (105, 1)], [104, 105, 108, 109, 110, 111, 112, 113], false), (3, [(104, 0), (105, 1), (106, 2)], [104, 105, 106, 108, 109, 110, 111, 112, 113], false), (9, [(104, 0), (105, 1), (108, 4), (109, 5), (110, 6), (111, 7), (112, 8)], [104, 105, 106, 107, 108, 109, 110, 111, 112], true), (10, [(104, 0), (105, 1), (106, 2), (107, 3), (108, 4), (109, 5), (110, 6), (111, 7), (112, 8), (113, 9)], [104, 105, 106, 107, 108, 109, 110, 111, 112, 113], false), (11, [(104, 0), (105, 1), (106, 2), (107, 3), (108, 4), (109, 5), (110, 6), (111, 7), (112, 8), (113, 9), (114, 10)], [104, 105, 106, 107, 108, 109, 110, 111, 112, 113, 114], false)]
      [(104, 0), (105, 1), (106, 2), (107, 3), (108, 4), (109, 5), (110, 6), (111, 7), (112, 8), (113, 9), (114, 10), (5, 11)]
      [(1, _), (3, _), (4, _)] rfl (by kernel_rfl)
    case hF => exact ⟨rfl, rfl, rfl, trivial⟩
    (try (conv => whnf)); (repeat' ((fail_if_success (with_reducible refine And.intro ?_ ?_)); (fail_if_success (with_reducible refine Exists.intro ?_ ?_)); (first | ((with_reducible refine AX.id ?_); (first | (refine (hc).mono ?_; (rintro _ X ⟨rfl, eX⟩; subst X; (conv => whnf))) | (refine (h1).mono ?_; (rintro _ X ⟨rfl, eX⟩; subst X; (conv => whnf))))) | ((with_reducible refine Ob.cat (by first | exact bstr_list _ | rfl) (by first | exact bstr_list _ | rfl) (by ((try simp only [List.length_append, List.length_cons, List.length_nil, lim8, commaS] at hl ⊢); omega)) ?_); (conv => whnf)) | (refine step0 ?_) | (apply bIf.of <;> intro hc <;> (conv => whnf)))))
    exact ⟨congrArg (fun l => Value.string (bstr l)) (List.append_nil _).symm, g1⟩
  · have d : decide ((u.kids.length : Int) > 0) = true := decide_eq_true (by have := List.length_pos_iff.2 hu; omega)
    rw [if_neg hu] at hl ⊢
    have h2 := rblockR K2.rk K2.ow.2.2.2 (hs u (by simp) r2) (by simp only [List.length_append, List.length_cons, List.length_nil] at hl ⊢; omega)
    (try (conv => whnf)); (repeat' ((fail_if_success (with_reducible refine And.intro ?_ ?_)); (fail_if_success (with_reducible refine Exists.intro ?_ ?_)); (first | ((with_reducible refine AX.id ?_); (first | (refine (c1).mono ?_; (rintro _ X ⟨rfl, eX⟩; subst X; (conv => whnf))))) | ((with_reducible refine Ob.cat (by first | exact bstr_list _ | rfl) (by first | exact bstr_list _ | rfl) (by ((try simp only [List.length_append, List.length_cons, List.length_nil, lim8, commaS] at hl ⊢); omega)) ?_); (conv => whnf)) | (refine step0 ?_) | (apply bIf.of <;> intro hc <;> (conv => whnf)))))
    apply SW.drawG [(0, [], [108, 109, 110, 111, 112], false), (4, [], [104, 105, 106, 107], false), (5, [(108, 4)], [104, 105, 106, 107, 108], false), (6, [(108, 4), (109, 5)], [104, 105, 106, 107, 108, 109], false), (7, [(108, 4), (109, 5), (110, 6)], [104, 105, 106, 107, 108, 109, 110], false), (8, [(108, 4), (109, 5), (110, 6), (111, 7)], [104, 105, 106, 107, 108, 109, 110, 111], false), (1, [(104, 0)], [104, 108, 109, 110, 111, 112], true), (2, [(104, 0), (105, 1)], [104, 105, 108, 109, 110, 111, 112, 113], false), (3, [(104, 0), (105, 1), (106, 2)], [104, 105, 106, 108, 109, 110, 111, 112, 113], false), (9, [(104, 0), (105, 1), (108, 4), (109, 5), (110, 6), (111, 7), (112, 8)], [104, 105, 106, 107, 108, 109, 110, 111, 112], true), (10, [(104, 0), (105, 1), (106, 2), (107, 3), (108, 4), (109, 5), (110, 6), (111, 7), (112, 8), (113, 9)], [104, 105, 106, 107, 108, 109, 110, 111, 112, 113], false), (11, [(104, 0), (105, 1), (106, 2), (107, 3), (108, 4), (109, 5), (110, 6), (111, 7), (112, 8), (113, 9), (114, 10)], [104, 105, 106, 107, 108, 109, 110, 111, 112, 113, 114], false)]
      [(104, 0), (105, 1), (106, 2), (107, 3), (108, 4), (109, 5), (110, 6), (111, 7), (112, 8), (113, 9), (114, 10), (5, 11)]
      [(1, _), (3, _), (4, _)] rfl (by kernel_rfl)
    case hF => exact ⟨rfl, rfl, rfl, trivial⟩
    (try (conv => whnf)); (repeat' ((fail_if_success (with_reducible refine And.intro ?_ ?_)); (fail_if_success (with_reducible refine Exists.intro ?_ ?_)); (first | ((with_reducible refine AX.id ?_); (first | (refine (hc).mono ?_; (rintro _ X ⟨rfl, eX⟩; subst X; (conv => whnf))) | (refine (h1).mono ?_; (rintro _ X ⟨rfl, eX⟩; subst X; (conv => whnf))) | (refine (h2).mono ?_; (rintro _ X ⟨rfl, eX⟩; subst X; (conv => whnf))))) | ((with_reducible refine Ob.cat (by first | exact bstr_list _ | rfl) (by first | exact bstr_list _ | rfl) (by ((try simp only [List.length_append, List.length_cons, List.length_nil, lim8, commaS] at hl ⊢); omega)) ?_); (conv => whnf)) | (refine step0 ?_) | (apply bIf.of <;> intro hc <;> (conv => whnf)))))
    exact ⟨congrArg (fun l => Value.string (bstr l)) (by first | rfl | simp only [List.append_assoc, List.cons_append, List.nil_append]), g1⟩
theorem rstmt_30 {x : Tr} (hk : x.kind = 30) (hn : x.kids.length = 2) (hr : ∀ j y, x.kids[j]? = some y → RightT y (wantP x.kind j)) (he : ∀ y ∈ x.kids, RightT y 1 → RdN 51 y.tx.1 y) (hs : ∀ y ∈ x.kids, RightT y 3 → ∀ z ∈ y.kids, RdN 33 z.tx.2.1 z) : RdN 33 x.tx.2.1 x := by
  intro H l R hl
  obtain ⟨ow, sn, sk, rfl, rn, rk⟩ := R.inv
  refine AX.quiet ?_
  suffices hh : AX Try.prog 33 #[.agg (nodeV x sn sk).toArray] H (fun v H' => v = .string (bstr x.tx.2.1) ∧ Grow H H') from hh.mono fun v _ ⟨e, g⟩ => ⟨e ▸ plain_str _, e, g⟩
  refine AX.body (n := 154) (rs := [.tmp 2]) Try.func33 rfl (by decide) rfl rfl (bC_sound _ _ _ _ ?_)
  (conv => whnf)
  refine Ob2.box rfl fun q H1 hq ab g1 => ?_
  have bb := hblk_of ab
  replace rk := NodeR.grows rk g1
  obtain ⟨y, z, hks⟩ := two_of hn
  rw [hks, hk] at hr
  rw [hks] at rk he hs
  have t21 : (x.kind == 21) = false := by rw [hk]; rfl
  have t22 : (x.kind == 22) = false := by rw [hk]; rfl
  have t23 : (x.kind == 23) = false := by rw [hk]; rfl
  have t24 : (x.kind == 24) = false := by rw [hk]; rfl
  have t25 : (x.kind == 25) = false := by rw [hk]; rfl
  have t26 : (x.kind == 26) = false := by rw [hk]; rfl
  have t27 : (x.kind == 27) = false := by rw [hk]; rfl
  have t28 : (x.kind == 28) = false := by rw [hk]; rfl
  have t30 : (x.kind == 30) = true := by rw [hk]; rfl
  obtain ⟨b0, o0, n0, k0, K0⟩ := kidAt rk 0 (y := y) rfl
  have x0 : aindexAddr Try.prog 23 sk (.int .i64 0) = _ := K0.ix
  have L0 := K0.ld _ (.refl _)
  refine run ?_
  refine Ob2.alloc rfl fun qc X1 hqc ac gc => ?_
  refine run ?_
  refine Ob.store rfl rfl rfl ac rfl (by first | exact Nat.le_of_ble_eq_true rfl | simp) fun X2 s1 s2 s3 => ?_
  replace gc := gc.but_new s2 (Nat.le_of_eq hqc.symm)
  replace ab := gc.at ab
  replace bb := hblk_of ab
  replace ac := s1
  have bc := hblk_of ac
  clear s1 s2 s3 hqc
  replace g1 := g1.trans gc
  replace rk := NodeR.grows rk gc
  have N0 := K0.nd.grow gc
  have c1 := rank_r N0
  have r0 : RightT y 1 := hr 0 y rfl
  have r1 : RightT z 3 := hr 1 z rfl
  have ht : x.tx.2.1 = [119, 104, 105, 108, 101, 32, 40] ++ y.tx.1 ++ [41, 32] ++ braceS (z.kids.map (·.tx.2.1)) := by rw [Tr.tx_eq, hks, hk, ← bl_tx]; rfl
  rw [ht] at hl ⊢
  have hc := he y (by simp) r0 N0 (by simp only [List.length_append, List.length_cons, List.length_nil] at hl ⊢; omega)
  obtain ⟨b1, o1, n1, k1, K1⟩ := kidAt rk 1 (y := z) rfl
  have x1 : aindexAddr Try.prog 23 sk (.int .i64 1) = _ := K1.ix
  have L1 := K1.ks _ (.refl _)
  have h1 := rblockR K1.rk K1.ow.2.2.2 (hs z (by simp) r1) (by simp only [List.length_append, List.length_cons, List.length_nil] at hl ⊢; omega)
  (try (conv => whnf)); (repeat' ((fail_if_success (with_reducible refine And.intro ?_ ?_)); (fail_if_success (with_reducible refine Exists.intro ?_ ?_)); (first | ((with_reducible refine AX.id ?_); (first | (refine (c1).mono ?_; (rintro _ X ⟨rfl, eX⟩; subst X; (conv => whnf))))) | ((with_reducible refine Ob.cat (by first | exact bstr_list _ | rfl) (by first | exact bstr_list _ | rfl) (by ((try simp only [List.length_append, List.length_cons, List.length_nil, lim8, commaS] at hl ⊢); omega)) ?_); (conv => whnf)) | (refine step0 ?_) | (apply bIf.of <;> intro hc <;> (conv => whnf)))))
  apply SW.drawG [(0, [], [138, 139, 140, 141, 142], false), (4, [], [134, 135, 136, 137], false), (5, [(138, 4)], [134, 135, 136, 137, 138], false), (6, [(138, 4), (139, 5)], [134, 135, 136, 137, 138, 139], false), (7, [(138, 4), (139, 5), (140, 6)], [134, 135, 136, 137, 138, 139, 140], false), (8, [(138, 4), (139, 5), (140, 6), (141, 7)], [134, 135, 136, 137, 138, 139, 140, 141], false), (1, [(134, 0)], [134, 138, 139, 140, 141, 142], true), (2, [(134, 0), (135, 1)], [134, 135, 138, 139, 140, 141, 142, 143], false), (3, [(134, 0), (135, 1), (136, 2)], [134, 135, 136, 138, 139, 140, 141, 142, 143], false), (9, [(134, 0), (135, 1), (138, 4), (139, 5), (140, 6), (141, 7), (142, 8)], [134, 135, 136, 137, 138, 139, 140, 141, 142], true), (10, [(134, 0), (135, 1), (136, 2), (137, 3), (138, 4), (139, 5), (140, 6), (141, 7), (142, 8), (143, 9)], [134, 135, 136, 137, 138, 139, 140, 141, 142, 143], false), (11, [(134, 0), (135, 1), (136, 2), (137, 3), (138, 4), (139, 5), (140, 6), (141, 7), (142, 8), (143, 9), (144, 10)], [134, 135, 136, 137, 138, 139, 140, 141, 142, 143, 144], false)]
    [(134, 0), (135, 1), (136, 2), (137, 3), (138, 4), (139, 5), (140, 6), (141, 7), (142, 8), (143, 9), (144, 10), (2, 11)]
    [(1, _), (3, _), (4, _)] rfl (by kernel_rfl)
  case hF => exact ⟨rfl, rfl, rfl, trivial⟩
  (try (conv => whnf)); (repeat' ((fail_if_success (with_reducible refine And.intro ?_ ?_)); (fail_if_success (with_reducible refine Exists.intro ?_ ?_)); (first | ((with_reducible refine AX.id ?_); (first | (refine (hc).mono ?_; (rintro _ X ⟨rfl, eX⟩; subst X; (conv => whnf))) | (refine (h1).mono ?_; (rintro _ X ⟨rfl, eX⟩; subst X; (conv => whnf))))) | ((with_reducible refine Ob.cat (by first | exact bstr_list _ | rfl) (by first | exact bstr_list _ | rfl) (by ((try simp only [List.length_append, List.length_cons, List.length_nil, lim8, commaS] at hl ⊢); omega)) ?_); (conv => whnf)) | (refine step0 ?_) | (apply bIf.of <;> intro hc <;> (conv => whnf)))))
  exact ⟨congrArg (fun l => Value.string (bstr l)) (by first | rfl | simp only [List.append_assoc, List.cons_append, List.nil_append]), g1⟩
end Go.Proofs.Ytmglmjbjgfbdjaa
/- The document's writer: Stmt. Printed by mk36.py. -/
set_option linter.unusedVariables false
set_option linter.unusedSimpArgs false
set_option maxRecDepth 20000
set_option maxHeartbeats 8000000
namespace Go.Proofs.Ytmglmjbjgfbdjaa
open Go Ax

theorem rstmtR {x : Tr} (hp : StmtP x) (hr : ∀ j y, x.kids[j]? = some y → RightT y (wantP x.kind j)) (he : ∀ y ∈ x.kids, RightT y 1 → RdN 51 y.tx.1 y) (hs : ∀ y ∈ x.kids, RightT y 3 → ∀ z ∈ y.kids, RdN 33 z.tx.2.1 z) : RdN 33 x.tx.2.1 x := by
  obtain ⟨hk, hn⟩ | ⟨hk, hn⟩ | ⟨hk, hn⟩ | ⟨hk, hn⟩ | ⟨hk, hn⟩ | ⟨hk, hn⟩ | ⟨hk, hn⟩ | ⟨hk, hn⟩ | ⟨hk, hn⟩ | ⟨hk, hn⟩ | ⟨hk, hn⟩ : (x.kind = 21 ∧ x.kids.length = 1) ∨ (x.kind = 22 ∧ x.kids.length = 1) ∨ (x.kind = 23 ∧ x.kids.length = 2) ∨ (x.kind = 24 ∧ x.kids.length = 3) ∨ (x.kind = 25 ∧ x.kids.length = 1) ∨ (x.kind = 26 ∧ x.kids.length = 2) ∨ (x.kind = 27 ∧ x.kids.length = 1) ∨ (x.kind = 31 ∧ x.kids.length = 1) ∨ (x.kind = 32 ∧ x.kids.length = 1) ∨ (x.kind = 28 ∧ x.kids.length = 3) ∨ (x.kind = 30 ∧ x.kids.length = 2) := by
    unfold StmtP at hp; grind
  · exact @rstmt_21 x hk hn hr he hs
  · exact @rstmt_22 x hk hn hr he hs
  · exact @rstmt_23 x hk hn hr he hs
  · exact @rstmt_24 x hk hn hr he hs
  · exact @rstmt_25 x hk hn hr he hs
  · exact @rstmt_26 x hk hn hr he hs
  · exact @rstmt_27 x hk hn hr he hs
  · exact @rstmt_31 x hk hn hr he hs
  · exact @rstmt_32 x hk hn hr he hs
  · exact @rstmt_28 x hk hn hr he hs
  · exact @rstmt_30 x hk hn hr he hs
theorem reads (x : Tr) : (RightT x 1 → RdN 51 x.tx.1 x) ∧ (RightT x 2 → RdN 33 x.tx.2.1 x) ∧ (RightT x 3 → ∀ y ∈ x.kids, RdN 33 y.tx.2.1 y) := by
  induction x using Tr.ind with
  | h x ih =>
    have i1 : ∀ y ∈ x.kids, RightT y 1 → RdN 51 y.tx.1 y := fun y hy => (ih y hy).1
    have i2 : ∀ y ∈ x.kids, RightT y 2 → RdN 33 y.tx.2.1 y := fun y hy => (ih y hy).2.1
    have i3 : ∀ y ∈ x.kids, RightT y 3 → ∀ z ∈ y.kids, RdN 33 z.tx.2.1 z := fun y hy => (ih y hy).2.2
    refine ⟨fun h => ?_, fun h => ?_, fun h => ?_⟩
    · rw [right_iff, own1_iff] at h
      have hk := h.1.kind
      have j1 : x.kind ≠ 8 → ∀ y ∈ x.kids, RightT y 1 := fun h8 y hy => by
        obtain ⟨j, hj⟩ := List.getElem?_of_mem hy
        have := h.2 j y hj
        rwa [show wantP x.kind j = 1 from by unfold wantP; rw [if_neg (by omega), if_neg (by omega)]] at this
      have j2 : x.kind = 8 → ∀ y ∈ x.kids, RightT y 2 := fun h8 y hy => by
        obtain ⟨j, hj⟩ := List.getElem?_of_mem hy
        have := h.2 j y hj
        rwa [show wantP x.kind j = 2 from by unfold wantP; rw [if_pos (by omega)]] at this
      exact @rexprR x h.1 (fun h8 y hy => @i1 y hy (j1 h8 y hy)) (fun h8 y hy => @i2 y hy (j2 h8 y hy))
    · rw [right_iff, own2_iff] at h
      exact @rstmtR x h.1 h.2 i1 i3
    · rw [right_iff, own3_iff] at h
      intro y hy
      have j2 : RightT y 2 := by
        obtain ⟨j, hj⟩ := List.getElem?_of_mem hy
        have := h.2 j y hj
        rwa [show wantP x.kind j = 2 from by unfold wantP; rw [if_pos (by omega)]] at this
      exact @i2 y hy j2
end Go.Proofs.Ytmglmjbjgfbdjaa
/- The document's fields and many. -/
set_option linter.unusedVariables false
set_option linter.unusedSimpArgs false
set_option maxRecDepth 20000
set_option maxHeartbeats 8000000
namespace Go.Proofs.Ytmglmjbjgfbdjaa
open Go Ax
theorem rIsName_ax {s : ByteArray} (hs : s.size ≤ 100000) (H : Heap) : AX Try.prog 66 #[.string s] H (fun v H' => (∃ b, v = .bool b ∧ (b = true ↔ IdentP s)) ∧ H' = H) :=
  (rname_ax H hs).mono fun v H' ⟨h1, h2⟩ => ⟨⟨_, h1, Iff.rfl⟩, h2⟩
theorem many_ax {H : Heap} {l : List Value} {x : Tr} (R : NodeR H l x) : AX Try.prog 48 #[.agg l.toArray] H (fun v H' => v = .tuple #[.int .i64 (manyP x.kind x.op x.names.length).1, .int .i64 (manyP x.kind x.op x.names.length).2] ∧ H' = H) := by
  obtain ⟨ow, sn, sk, rfl, rn, -⟩ := R.inv
  refine AX.quiet ?_
  suffices hh : AX Try.prog 48 #[.agg (nodeV x sn sk).toArray] H (fun v H' => v = .tuple #[.int .i64 (manyP x.kind x.op x.names.length).1, .int .i64 (manyP x.kind x.op x.names.length).2] ∧ Grow H H') from hh.mono fun v _ ⟨e, g⟩ => ⟨e ▸ plain_two _ _, e, g⟩
  refine AX.body (n := 59) (rs := [.tmp 2, .tmp 3]) Try.func48 rfl (by decide) rfl rfl (bC_sound _ _ _ _ ?_)
  (conv => whnf)
  refine Ob2.box rfl fun q H1 hq a1 g1 => ?_
  have b1 := hblk_of a1
  have l1 : alen Try.prog 22 sn H1 = some (.int .i64 x.names.length) := rn.len rfl _
  by_cases h7 : x.kind = 7
  · have e1 : (x.kind == 1) = false := by rw [h7]; rfl
    have e2 : (x.kind == 2) = false := by rw [h7]; rfl
    have e3 : (x.kind == 3) = false := by rw [h7]; rfl
    have e4 : (x.kind == 4) = false := by rw [h7]; rfl
    have e5 : (x.kind == 5) = false := by rw [h7]; rfl
    have e6 : (x.kind == 6) = false := by rw [h7]; rfl
    have e7 : (x.kind == 7) = true := by rw [h7]; rfl
    have hm : manyP x.kind x.op x.names.length = ((x.names.length : Int), (x.names.length : Int)) := by rw [h7]; rfl
    rw [hm]
    refine run ?_
    apply SW.drawG [(0, [], [20, 21, 22], false), (1, [(17, 0)], [17, 20, 21, 22], false), (2, [(17, 0), (18, 1)], [17, 18, 20, 21, 22], false), (3, [], [17, 18, 19, 2], false), (4, [(20, 3)], [17, 18, 19, 20, 2], false), (5, [(20, 3), (21, 4)], [17, 18, 19, 20, 21, 2], false), (6, [(17, 0), (18, 1), (19, 2)], [17, 18, 19, 20, 21, 22], false), (7, [(17, 0), (18, 1), (19, 2), (20, 3), (21, 4), (22, 5), (2, 6)], [17, 18, 19, 20, 21, 22, 2], false)]
      [(17, 0), (18, 1), (19, 2), (20, 3), (21, 4), (22, 5), (2, 6), (3, 7)]
      [(1, _)] rfl (by kernel_rfl)
    case hF => exact ⟨rfl, trivial⟩
    refine run ?_
    exact ⟨rfl, g1⟩
  have e7 : (x.kind == 7) = false := by rw [beq_eq_false_iff_ne]; exact h7
  by_cases h17 : x.kind = 17
  · have hm : manyP x.kind x.op x.names.length = (builtN x.op, builtN x.op) := by rw [h17]; rfl
    have f1 : (x.kind == 1) = false := by rw [h17]; rfl
    have f2 : (x.kind == 2) = false := by rw [h17]; rfl
    have f3 : (x.kind == 3) = false := by rw [h17]; rfl
    have f4 : (x.kind == 4) = false := by rw [h17]; rfl
    have f5 : (x.kind == 5) = false := by rw [h17]; rfl
    have f6 : (x.kind == 6) = false := by rw [h17]; rfl
    have f8 : (x.kind == 8) = false := by rw [h17]; rfl
    have f29 : (x.kind == 29) = false := by rw [h17]; rfl
    have f9 : (x.kind == 9) = false := by rw [h17]; rfl
    have f13 : (x.kind == 13) = false := by rw [h17]; rfl
    have f21 : (x.kind == 21) = false := by rw [h17]; rfl
    have f22 : (x.kind == 22) = false := by rw [h17]; rfl
    have f25 : (x.kind == 25) = false := by rw [h17]; rfl
    have f27 : (x.kind == 27) = false := by rw [h17]; rfl
    have f31 : (x.kind == 31) = false := by rw [h17]; rfl
    have f32 : (x.kind == 32) = false := by rw [h17]; rfl
    have f10 : (x.kind == 10) = false := by rw [h17]; rfl
    have f11 : (x.kind == 11) = false := by rw [h17]; rfl
    have f12 : (x.kind == 12) = false := by rw [h17]; rfl
    have f14 : (x.kind == 14) = false := by rw [h17]; rfl
    have f23 : (x.kind == 23) = false := by rw [h17]; rfl
    have f26 : (x.kind == 26) = false := by rw [h17]; rfl
    have f30 : (x.kind == 30) = false := by rw [h17]; rfl
    have f15 : (x.kind == 15) = false := by rw [h17]; rfl
    have f16 : (x.kind == 16) = false := by rw [h17]; rfl
    have f17 : (x.kind == 17) = true := by rw [h17]; rfl
    rw [hm]
    refine run ?_
    refine (rbuilt_ax H1 x.op).mono ?_
    rintro _ X ⟨rfl, e⟩
    subst X
    refine run ?_
    exact ⟨rfl, g1⟩
  have e17 : (x.kind == 17) = false := by rw [beq_eq_false_iff_ne]; exact h17
  (try (conv => whnf)); (repeat' ((fail_if_success (with_reducible refine And.intro ?_ ?_)); (fail_if_success (with_reducible refine Exists.intro ?_ ?_)); (first | (refine step0 ?_) | (apply bIf.of <;> intro hc <;> (conv => whnf)))))
  all_goals refine ⟨congrArg (fun p : Int × Int => Value.tuple #[.int .i64 p.1, .int .i64 p.2]) (?_ : (_, _) = manyP x.kind x.op x.names.length), g1⟩
  all_goals clear b1 a1 g1 l1 R rn
  all_goals unfold manyP
  all_goals (simp only [ba_ne_t, ba_ne_f, ba_eq_t, ba_eq_f, bne_iff_ne, bne_eq_false_iff_eq, decide_eq_true_eq, decide_eq_false_iff_not, beq_iff_eq, beq_eq_false_iff_ne, ne_eq, Bool.not_eq_true, Bool.not_eq_false, Bool.not_eq_true', Bool.not_eq_false'] at *)
  all_goals (repeat (first | rw [if_pos (by omega)] | rw [if_neg (by omega)])) <;> rfl
end Go.Proofs.Ytmglmjbjgfbdjaa
/- The document's fields. Printed by mk14.py. -/
set_option linter.unusedVariables false
set_option linter.unusedSimpArgs false
set_option maxRecDepth 20000
set_option maxHeartbeats 8000000
namespace Go.Proofs.Ytmglmjbjgfbdjaa
open Go Ax
theorem fields_9 {H : Heap} {l : List Value} {x : Tr} (R : NodeR H l x) (tx : Tidy x) (hk : x.kind = 9) : AX Try.prog 49 #[.agg l.toArray] H (fun v H' => (∃ b, v = .bool b ∧ (b = true ↔ FieldsP x)) ∧ H' = H) := by
  obtain ⟨ow, sn, sk, rfl, rn, -⟩ := R.inv
  refine AX.quiet ?_
  suffices hh : AX Try.prog 49 #[.agg (nodeV x sn sk).toArray] H (fun v H' => (∃ b, v = .bool b ∧ (b = true ↔ FieldsP x)) ∧ Grow H H') from hh.mono fun v _ ⟨⟨b, e, k⟩, g⟩ => ⟨e ▸ plain_bool _, ⟨b, e, k⟩, g⟩
  refine AX.body (n := 223) (rs := [.tmp 2]) Try.func49 rfl (by decide) rfl rfl (bC_sound _ _ _ _ ?_)
  (conv => whnf)
  refine Ob2.box rfl fun q H1 hq a1 g1 => ?_
  have b1 := hblk_of a1
  have l1 : alen Try.prog 22 sn H1 = some (.int .i64 x.names.length) := rn.len rfl _
  have t1 := tx.str
  have hn := ow.2.1
  simp only [maxLen] at hn
  have hsn := @signT_ne x.op
  have f9 : (x.kind == 9) = true := by rw [hk]; rfl
  have g9 : (x.kind != 9) = false := by rw [hk]; rfl
  have f10 : (x.kind == 10) = false := by rw [hk]; rfl
  have g10 : (x.kind != 10) = true := by rw [hk]; rfl
  have f17 : (x.kind == 17) = false := by rw [hk]; rfl
  have g17 : (x.kind != 17) = true := by rw [hk]; rfl
  have f2 : (x.kind == 2) = false := by rw [hk]; rfl
  have g2 : (x.kind != 2) = true := by rw [hk]; rfl
  have f3 : (x.kind == 3) = false := by rw [hk]; rfl
  have g3 : (x.kind != 3) = true := by rw [hk]; rfl
  have f4 : (x.kind == 4) = false := by rw [hk]; rfl
  have g4 : (x.kind != 4) = true := by rw [hk]; rfl
  have f5 : (x.kind == 5) = false := by rw [hk]; rfl
  have g5 : (x.kind != 5) = true := by rw [hk]; rfl
  have f21 : (x.kind == 21) = false := by rw [hk]; rfl
  have g21 : (x.kind != 21) = true := by rw [hk]; rfl
  have f22 : (x.kind == 22) = false := by rw [hk]; rfl
  have g22 : (x.kind != 22) = true := by rw [hk]; rfl
  have f13 : (x.kind == 13) = false := by rw [hk]; rfl
  have g13 : (x.kind != 13) = true := by rw [hk]; rfl
  have f16 : (x.kind == 16) = false := by rw [hk]; rfl
  have g16 : (x.kind != 16) = true := by rw [hk]; rfl
  have f23 : (x.kind == 23) = false := by rw [hk]; rfl
  have g23 : (x.kind != 23) = true := by rw [hk]; rfl
  have f25 : (x.kind == 25) = false := by rw [hk]; rfl
  have g25 : (x.kind != 25) = true := by rw [hk]; rfl
  have f7 : (x.kind == 7) = false := by rw [hk]; rfl
  have g7 : (x.kind != 7) = true := by rw [hk]; rfl
  have f8 : (x.kind == 8) = false := by rw [hk]; rfl
  have g8 : (x.kind != 8) = true := by rw [hk]; rfl
  (try (conv => whnf)); (repeat' ((fail_if_success (with_reducible refine And.intro ?_ ?_)); (fail_if_success (with_reducible refine Exists.intro ?_ ?_)); (first | ((with_reducible refine AX.id ?_); (first | (refine (refName_ax _ (by omega)).mono ?_; (rintro _ X ⟨⟨bb, rfl, hb⟩, eX⟩; subst X; cases bb <;> (conv => whnf))) | (refine (rIsName_ax (by omega) _).mono ?_; (rintro _ X ⟨⟨bb, rfl, hb⟩, eX⟩; subst X; cases bb <;> (conv => whnf))) | (refine (rsign_ax _ _).mono ?_; (rintro _ X ⟨rfl, eX⟩; subst X; (conv => whnf))))) | (refine step0 ?_) | (apply bIf.of <;> intro hc <;> (conv => whnf)))))
  any_goals
    refine ⟨⟨false, rfl, by simp, fun h => ?_⟩, g1⟩
    exfalso
    clear b1 a1 g1 l1 rn R f9 g9 f10 g10 f17 g17 f2 g2 f3 g3 f4 g4 f5 g5 f21 g21 f22 g22 f13 g13 f16 g16 f23 g23 f25 g25 f7 g7 f8 g8
    unfold FieldsP propK at h
    (simp only [ba_ne_t, ba_ne_f, ba_eq_t, ba_eq_f, bne_iff_ne, bne_eq_false_iff_eq, decide_eq_true_eq, decide_eq_false_iff_not, beq_iff_eq, beq_eq_false_iff_ne, ne_eq, Bool.not_eq_true, Bool.not_eq_false, Bool.not_eq_true', Bool.not_eq_false'] at *)
    grind (splits := 40)
  refine SW.loop (α := Nat) (fun k => [(1, .pointer (some ⟨q, 0, none⟩)), (3, .int .i64 x.kind), (5, .int .i64 (k : Int))]) (fun k H' => k ≤ x.names.length ∧ (∀ (i : Nat) s, i < k → x.names[i]? = some s → IdentP s ∧ (x.kind = 8 → NameP s)) ∧ H' = H1) (fun k => x.names.length - k) ⟨0, ⟨rfl, rfl, rfl, trivial⟩, ⟨by omega, fun i s hi => by omega, rfl⟩⟩ ?_
  rintro k X ⟨hm, ht, e⟩
  subst X
  refine bC_sound _ _ _ _ ?_
  by_cases hml : k < x.names.length
  · have d1 : decide ((k : Int) < (x.names.length : Int)) = true := decide_eq_true (by omega)
    obtain ⟨s, hx⟩ := get_lt hml
    obtain ⟨p, i1, i2⟩ := ld_strT rn hx
    have i3 := i2 H1 g1
    have hs := tx.name s (List.mem_of_getElem? hx)
    (try (conv => whnf)); (repeat' ((fail_if_success (with_reducible refine And.intro ?_ ?_)); (fail_if_success (with_reducible refine Exists.intro ?_ ?_)); (first | ((with_reducible refine AX.id ?_); (first | (refine (refName_ax _ (by omega)).mono ?_; (rintro _ X ⟨⟨bb, rfl, hb⟩, eX⟩; subst X; cases bb <;> (conv => whnf))) | (refine (rIsName_ax (by omega) _).mono ?_; (rintro _ X ⟨⟨bb, rfl, hb⟩, eX⟩; subst X; cases bb <;> (conv => whnf))))) | (refine step0 ?_) | (apply bIf.of <;> intro hc <;> (conv => whnf)))))
    any_goals
      refine ⟨⟨false, rfl, by simp, fun h => ?_⟩, g1⟩
      exfalso
      have h15 := h.2.2.2.2.2.2.2.2.2.2.2.2.2.2.1 s (List.mem_of_getElem? hx)
      have h16 := fun h8 => h.2.2.2.2.2.2.2.2.2.2.2.2.2.2.2 h8 s (List.mem_of_getElem? hx)
      clear h b1 a1 g1 l1 rn R ht
      grind
    all_goals
      refine ⟨k + 1, ⟨rfl, rfl, congrArg (fun z => some (Value.int .i64 z)) (w_succ (by omega)), trivial⟩, ⟨hml, fun i t hi hd => ?_, rfl⟩, by show _ - (k + 1) < _ - k; omega⟩
      by_cases him : i = k
      · subst him; rw [hx] at hd; simp only [Option.some.injEq] at hd; subst hd
        clear b1 a1 g1 l1 rn R ht
        grind
      · exact ht i t (by omega) hd
  · have d1 : decide ((k : Int) < (x.names.length : Int)) = false := decide_eq_false (by omega)
    refine run ?_
    refine ⟨⟨true, rfl, ?_⟩, g1⟩
    simp only [true_iff]
    have h15 : ∀ s ∈ x.names, IdentP s := fun s hs => by
      obtain ⟨i, hi, rfl⟩ := List.getElem_of_mem hs
      exact (ht i _ (by omega) (List.getElem?_eq_getElem hi)).1
    have h16 : x.kind = 8 → ∀ s ∈ x.names, NameP s := fun h8 s hs => by
      obtain ⟨i, hi, rfl⟩ := List.getElem_of_mem hs
      exact (ht i _ (by omega) (List.getElem?_eq_getElem hi)).2 h8
    clear b1 a1 g1 l1 rn R ht f9 g9 f10 g10 f17 g17 f2 g2 f3 g3 f4 g4 f5 g5 f21 g21 f22 g22 f13 g13 f16 g16 f23 g23 f25 g25 f7 g7 f8 g8
    unfold FieldsP propK
    (simp only [ba_ne_t, ba_ne_f, ba_eq_t, ba_eq_f, bne_iff_ne, bne_eq_false_iff_eq, decide_eq_true_eq, decide_eq_false_iff_not, beq_iff_eq, beq_eq_false_iff_ne, ne_eq, Bool.not_eq_true, Bool.not_eq_false, Bool.not_eq_true', Bool.not_eq_false'] at *)
    grind (splits := 40)
theorem fields_10 {H : Heap} {l : List Value} {x : Tr} (R : NodeR H l x) (tx : Tidy x) (hk : x.kind = 10) : AX Try.prog 49 #[.agg l.toArray] H (fun v H' => (∃ b, v = .bool b ∧ (b = true ↔ FieldsP x)) ∧ H' = H) := by
  obtain ⟨ow, sn, sk, rfl, rn, -⟩ := R.inv
  refine AX.quiet ?_
  suffices hh : AX Try.prog 49 #[.agg (nodeV x sn sk).toArray] H (fun v H' => (∃ b, v = .bool b ∧ (b = true ↔ FieldsP x)) ∧ Grow H H') from hh.mono fun v _ ⟨⟨b, e, k⟩, g⟩ => ⟨e ▸ plain_bool _, ⟨b, e, k⟩, g⟩
  refine AX.body (n := 223) (rs := [.tmp 2]) Try.func49 rfl (by decide) rfl rfl (bC_sound _ _ _ _ ?_)
  (conv => whnf)
  refine Ob2.box rfl fun q H1 hq a1 g1 => ?_
  have b1 := hblk_of a1
  have l1 : alen Try.prog 22 sn H1 = some (.int .i64 x.names.length) := rn.len rfl _
  have t1 := tx.str
  have hn := ow.2.1
  simp only [maxLen] at hn
  have hsn := @signT_ne x.op
  have f9 : (x.kind == 9) = false := by rw [hk]; rfl
  have g9 : (x.kind != 9) = true := by rw [hk]; rfl
  have f10 : (x.kind == 10) = true := by rw [hk]; rfl
  have g10 : (x.kind != 10) = false := by rw [hk]; rfl
  have f17 : (x.kind == 17) = false := by rw [hk]; rfl
  have g17 : (x.kind != 17) = true := by rw [hk]; rfl
  have f2 : (x.kind == 2) = false := by rw [hk]; rfl
  have g2 : (x.kind != 2) = true := by rw [hk]; rfl
  have f3 : (x.kind == 3) = false := by rw [hk]; rfl
  have g3 : (x.kind != 3) = true := by rw [hk]; rfl
  have f4 : (x.kind == 4) = false := by rw [hk]; rfl
  have g4 : (x.kind != 4) = true := by rw [hk]; rfl
  have f5 : (x.kind == 5) = false := by rw [hk]; rfl
  have g5 : (x.kind != 5) = true := by rw [hk]; rfl
  have f21 : (x.kind == 21) = false := by rw [hk]; rfl
  have g21 : (x.kind != 21) = true := by rw [hk]; rfl
  have f22 : (x.kind == 22) = false := by rw [hk]; rfl
  have g22 : (x.kind != 22) = true := by rw [hk]; rfl
  have f13 : (x.kind == 13) = false := by rw [hk]; rfl
  have g13 : (x.kind != 13) = true := by rw [hk]; rfl
  have f16 : (x.kind == 16) = false := by rw [hk]; rfl
  have g16 : (x.kind != 16) = true := by rw [hk]; rfl
  have f23 : (x.kind == 23) = false := by rw [hk]; rfl
  have g23 : (x.kind != 23) = true := by rw [hk]; rfl
  have f25 : (x.kind == 25) = false := by rw [hk]; rfl
  have g25 : (x.kind != 25) = true := by rw [hk]; rfl
  have f7 : (x.kind == 7) = false := by rw [hk]; rfl
  have g7 : (x.kind != 7) = true := by rw [hk]; rfl
  have f8 : (x.kind == 8) = false := by rw [hk]; rfl
  have g8 : (x.kind != 8) = true := by rw [hk]; rfl
  (try (conv => whnf)); (repeat' ((fail_if_success (with_reducible refine And.intro ?_ ?_)); (fail_if_success (with_reducible refine Exists.intro ?_ ?_)); (first | ((with_reducible refine AX.id ?_); (first | (refine (refName_ax _ (by omega)).mono ?_; (rintro _ X ⟨⟨bb, rfl, hb⟩, eX⟩; subst X; cases bb <;> (conv => whnf))) | (refine (rIsName_ax (by omega) _).mono ?_; (rintro _ X ⟨⟨bb, rfl, hb⟩, eX⟩; subst X; cases bb <;> (conv => whnf))) | (refine (rsign_ax _ _).mono ?_; (rintro _ X ⟨rfl, eX⟩; subst X; (conv => whnf))))) | (refine step0 ?_) | (apply bIf.of <;> intro hc <;> (conv => whnf)))))
  any_goals
    refine ⟨⟨false, rfl, by simp, fun h => ?_⟩, g1⟩
    exfalso
    clear b1 a1 g1 l1 rn R f9 g9 f10 g10 f17 g17 f2 g2 f3 g3 f4 g4 f5 g5 f21 g21 f22 g22 f13 g13 f16 g16 f23 g23 f25 g25 f7 g7 f8 g8
    unfold FieldsP propK at h
    (simp only [ba_ne_t, ba_ne_f, ba_eq_t, ba_eq_f, bne_iff_ne, bne_eq_false_iff_eq, decide_eq_true_eq, decide_eq_false_iff_not, beq_iff_eq, beq_eq_false_iff_ne, ne_eq, Bool.not_eq_true, Bool.not_eq_false, Bool.not_eq_true', Bool.not_eq_false'] at *)
    grind (splits := 40)
  refine SW.loop (α := Nat) (fun k => [(1, .pointer (some ⟨q, 0, none⟩)), (3, .int .i64 x.kind), (5, .int .i64 (k : Int))]) (fun k H' => k ≤ x.names.length ∧ (∀ (i : Nat) s, i < k → x.names[i]? = some s → IdentP s ∧ (x.kind = 8 → NameP s)) ∧ H' = H1) (fun k => x.names.length - k) ⟨0, ⟨rfl, rfl, rfl, trivial⟩, ⟨by omega, fun i s hi => by omega, rfl⟩⟩ ?_
  rintro k X ⟨hm, ht, e⟩
  subst X
  refine bC_sound _ _ _ _ ?_
  by_cases hml : k < x.names.length
  · have d1 : decide ((k : Int) < (x.names.length : Int)) = true := decide_eq_true (by omega)
    obtain ⟨s, hx⟩ := get_lt hml
    obtain ⟨p, i1, i2⟩ := ld_strT rn hx
    have i3 := i2 H1 g1
    have hs := tx.name s (List.mem_of_getElem? hx)
    (try (conv => whnf)); (repeat' ((fail_if_success (with_reducible refine And.intro ?_ ?_)); (fail_if_success (with_reducible refine Exists.intro ?_ ?_)); (first | ((with_reducible refine AX.id ?_); (first | (refine (refName_ax _ (by omega)).mono ?_; (rintro _ X ⟨⟨bb, rfl, hb⟩, eX⟩; subst X; cases bb <;> (conv => whnf))) | (refine (rIsName_ax (by omega) _).mono ?_; (rintro _ X ⟨⟨bb, rfl, hb⟩, eX⟩; subst X; cases bb <;> (conv => whnf))))) | (refine step0 ?_) | (apply bIf.of <;> intro hc <;> (conv => whnf)))))
    any_goals
      refine ⟨⟨false, rfl, by simp, fun h => ?_⟩, g1⟩
      exfalso
      have h15 := h.2.2.2.2.2.2.2.2.2.2.2.2.2.2.1 s (List.mem_of_getElem? hx)
      have h16 := fun h8 => h.2.2.2.2.2.2.2.2.2.2.2.2.2.2.2 h8 s (List.mem_of_getElem? hx)
      clear h b1 a1 g1 l1 rn R ht
      grind
    all_goals
      refine ⟨k + 1, ⟨rfl, rfl, congrArg (fun z => some (Value.int .i64 z)) (w_succ (by omega)), trivial⟩, ⟨hml, fun i t hi hd => ?_, rfl⟩, by show _ - (k + 1) < _ - k; omega⟩
      by_cases him : i = k
      · subst him; rw [hx] at hd; simp only [Option.some.injEq] at hd; subst hd
        clear b1 a1 g1 l1 rn R ht
        grind
      · exact ht i t (by omega) hd
  · have d1 : decide ((k : Int) < (x.names.length : Int)) = false := decide_eq_false (by omega)
    refine run ?_
    refine ⟨⟨true, rfl, ?_⟩, g1⟩
    simp only [true_iff]
    have h15 : ∀ s ∈ x.names, IdentP s := fun s hs => by
      obtain ⟨i, hi, rfl⟩ := List.getElem_of_mem hs
      exact (ht i _ (by omega) (List.getElem?_eq_getElem hi)).1
    have h16 : x.kind = 8 → ∀ s ∈ x.names, NameP s := fun h8 s hs => by
      obtain ⟨i, hi, rfl⟩ := List.getElem_of_mem hs
      exact (ht i _ (by omega) (List.getElem?_eq_getElem hi)).2 h8
    clear b1 a1 g1 l1 rn R ht f9 g9 f10 g10 f17 g17 f2 g2 f3 g3 f4 g4 f5 g5 f21 g21 f22 g22 f13 g13 f16 g16 f23 g23 f25 g25 f7 g7 f8 g8
    unfold FieldsP propK
    (simp only [ba_ne_t, ba_ne_f, ba_eq_t, ba_eq_f, bne_iff_ne, bne_eq_false_iff_eq, decide_eq_true_eq, decide_eq_false_iff_not, beq_iff_eq, beq_eq_false_iff_ne, ne_eq, Bool.not_eq_true, Bool.not_eq_false, Bool.not_eq_true', Bool.not_eq_false'] at *)
    grind (splits := 40)
theorem fields_17 {H : Heap} {l : List Value} {x : Tr} (R : NodeR H l x) (tx : Tidy x) (hk : x.kind = 17) : AX Try.prog 49 #[.agg l.toArray] H (fun v H' => (∃ b, v = .bool b ∧ (b = true ↔ FieldsP x)) ∧ H' = H) := by
  obtain ⟨ow, sn, sk, rfl, rn, -⟩ := R.inv
  refine AX.quiet ?_
  suffices hh : AX Try.prog 49 #[.agg (nodeV x sn sk).toArray] H (fun v H' => (∃ b, v = .bool b ∧ (b = true ↔ FieldsP x)) ∧ Grow H H') from hh.mono fun v _ ⟨⟨b, e, k⟩, g⟩ => ⟨e ▸ plain_bool _, ⟨b, e, k⟩, g⟩
  refine AX.body (n := 223) (rs := [.tmp 2]) Try.func49 rfl (by decide) rfl rfl (bC_sound _ _ _ _ ?_)
  (conv => whnf)
  refine Ob2.box rfl fun q H1 hq a1 g1 => ?_
  have b1 := hblk_of a1
  have l1 : alen Try.prog 22 sn H1 = some (.int .i64 x.names.length) := rn.len rfl _
  have t1 := tx.str
  have hn := ow.2.1
  simp only [maxLen] at hn
  have hsn := @signT_ne x.op
  have f9 : (x.kind == 9) = false := by rw [hk]; rfl
  have g9 : (x.kind != 9) = true := by rw [hk]; rfl
  have f10 : (x.kind == 10) = false := by rw [hk]; rfl
  have g10 : (x.kind != 10) = true := by rw [hk]; rfl
  have f17 : (x.kind == 17) = true := by rw [hk]; rfl
  have g17 : (x.kind != 17) = false := by rw [hk]; rfl
  have f2 : (x.kind == 2) = false := by rw [hk]; rfl
  have g2 : (x.kind != 2) = true := by rw [hk]; rfl
  have f3 : (x.kind == 3) = false := by rw [hk]; rfl
  have g3 : (x.kind != 3) = true := by rw [hk]; rfl
  have f4 : (x.kind == 4) = false := by rw [hk]; rfl
  have g4 : (x.kind != 4) = true := by rw [hk]; rfl
  have f5 : (x.kind == 5) = false := by rw [hk]; rfl
  have g5 : (x.kind != 5) = true := by rw [hk]; rfl
  have f21 : (x.kind == 21) = false := by rw [hk]; rfl
  have g21 : (x.kind != 21) = true := by rw [hk]; rfl
  have f22 : (x.kind == 22) = false := by rw [hk]; rfl
  have g22 : (x.kind != 22) = true := by rw [hk]; rfl
  have f13 : (x.kind == 13) = false := by rw [hk]; rfl
  have g13 : (x.kind != 13) = true := by rw [hk]; rfl
  have f16 : (x.kind == 16) = false := by rw [hk]; rfl
  have g16 : (x.kind != 16) = true := by rw [hk]; rfl
  have f23 : (x.kind == 23) = false := by rw [hk]; rfl
  have g23 : (x.kind != 23) = true := by rw [hk]; rfl
  have f25 : (x.kind == 25) = false := by rw [hk]; rfl
  have g25 : (x.kind != 25) = true := by rw [hk]; rfl
  have f7 : (x.kind == 7) = false := by rw [hk]; rfl
  have g7 : (x.kind != 7) = true := by rw [hk]; rfl
  have f8 : (x.kind == 8) = false := by rw [hk]; rfl
  have g8 : (x.kind != 8) = true := by rw [hk]; rfl
  (try (conv => whnf)); (repeat' ((fail_if_success (with_reducible refine And.intro ?_ ?_)); (fail_if_success (with_reducible refine Exists.intro ?_ ?_)); (first | ((with_reducible refine AX.id ?_); (first | (refine (refName_ax _ (by omega)).mono ?_; (rintro _ X ⟨⟨bb, rfl, hb⟩, eX⟩; subst X; cases bb <;> (conv => whnf))) | (refine (rIsName_ax (by omega) _).mono ?_; (rintro _ X ⟨⟨bb, rfl, hb⟩, eX⟩; subst X; cases bb <;> (conv => whnf))) | (refine (rsign_ax _ _).mono ?_; (rintro _ X ⟨rfl, eX⟩; subst X; (conv => whnf))))) | (refine step0 ?_) | (apply bIf.of <;> intro hc <;> (conv => whnf)))))
  any_goals
    refine ⟨⟨false, rfl, by simp, fun h => ?_⟩, g1⟩
    exfalso
    clear b1 a1 g1 l1 rn R f9 g9 f10 g10 f17 g17 f2 g2 f3 g3 f4 g4 f5 g5 f21 g21 f22 g22 f13 g13 f16 g16 f23 g23 f25 g25 f7 g7 f8 g8
    unfold FieldsP propK at h
    (simp only [ba_ne_t, ba_ne_f, ba_eq_t, ba_eq_f, bne_iff_ne, bne_eq_false_iff_eq, decide_eq_true_eq, decide_eq_false_iff_not, beq_iff_eq, beq_eq_false_iff_ne, ne_eq, Bool.not_eq_true, Bool.not_eq_false, Bool.not_eq_true', Bool.not_eq_false'] at *)
    grind (splits := 40)
  refine SW.loop (α := Nat) (fun k => [(1, .pointer (some ⟨q, 0, none⟩)), (3, .int .i64 x.kind), (5, .int .i64 (k : Int))]) (fun k H' => k ≤ x.names.length ∧ (∀ (i : Nat) s, i < k → x.names[i]? = some s → IdentP s ∧ (x.kind = 8 → NameP s)) ∧ H' = H1) (fun k => x.names.length - k) ⟨0, ⟨rfl, rfl, rfl, trivial⟩, ⟨by omega, fun i s hi => by omega, rfl⟩⟩ ?_
  rintro k X ⟨hm, ht, e⟩
  subst X
  refine bC_sound _ _ _ _ ?_
  by_cases hml : k < x.names.length
  · have d1 : decide ((k : Int) < (x.names.length : Int)) = true := decide_eq_true (by omega)
    obtain ⟨s, hx⟩ := get_lt hml
    obtain ⟨p, i1, i2⟩ := ld_strT rn hx
    have i3 := i2 H1 g1
    have hs := tx.name s (List.mem_of_getElem? hx)
    (try (conv => whnf)); (repeat' ((fail_if_success (with_reducible refine And.intro ?_ ?_)); (fail_if_success (with_reducible refine Exists.intro ?_ ?_)); (first | ((with_reducible refine AX.id ?_); (first | (refine (refName_ax _ (by omega)).mono ?_; (rintro _ X ⟨⟨bb, rfl, hb⟩, eX⟩; subst X; cases bb <;> (conv => whnf))) | (refine (rIsName_ax (by omega) _).mono ?_; (rintro _ X ⟨⟨bb, rfl, hb⟩, eX⟩; subst X; cases bb <;> (conv => whnf))))) | (refine step0 ?_) | (apply bIf.of <;> intro hc <;> (conv => whnf)))))
    any_goals
      refine ⟨⟨false, rfl, by simp, fun h => ?_⟩, g1⟩
      exfalso
      have h15 := h.2.2.2.2.2.2.2.2.2.2.2.2.2.2.1 s (List.mem_of_getElem? hx)
      have h16 := fun h8 => h.2.2.2.2.2.2.2.2.2.2.2.2.2.2.2 h8 s (List.mem_of_getElem? hx)
      clear h b1 a1 g1 l1 rn R ht
      grind
    all_goals
      refine ⟨k + 1, ⟨rfl, rfl, congrArg (fun z => some (Value.int .i64 z)) (w_succ (by omega)), trivial⟩, ⟨hml, fun i t hi hd => ?_, rfl⟩, by show _ - (k + 1) < _ - k; omega⟩
      by_cases him : i = k
      · subst him; rw [hx] at hd; simp only [Option.some.injEq] at hd; subst hd
        clear b1 a1 g1 l1 rn R ht
        grind
      · exact ht i t (by omega) hd
  · have d1 : decide ((k : Int) < (x.names.length : Int)) = false := decide_eq_false (by omega)
    refine run ?_
    refine ⟨⟨true, rfl, ?_⟩, g1⟩
    simp only [true_iff]
    have h15 : ∀ s ∈ x.names, IdentP s := fun s hs => by
      obtain ⟨i, hi, rfl⟩ := List.getElem_of_mem hs
      exact (ht i _ (by omega) (List.getElem?_eq_getElem hi)).1
    have h16 : x.kind = 8 → ∀ s ∈ x.names, NameP s := fun h8 s hs => by
      obtain ⟨i, hi, rfl⟩ := List.getElem_of_mem hs
      exact (ht i _ (by omega) (List.getElem?_eq_getElem hi)).2 h8
    clear b1 a1 g1 l1 rn R ht f9 g9 f10 g10 f17 g17 f2 g2 f3 g3 f4 g4 f5 g5 f21 g21 f22 g22 f13 g13 f16 g16 f23 g23 f25 g25 f7 g7 f8 g8
    unfold FieldsP propK
    (simp only [ba_ne_t, ba_ne_f, ba_eq_t, ba_eq_f, bne_iff_ne, bne_eq_false_iff_eq, decide_eq_true_eq, decide_eq_false_iff_not, beq_iff_eq, beq_eq_false_iff_ne, ne_eq, Bool.not_eq_true, Bool.not_eq_false, Bool.not_eq_true', Bool.not_eq_false'] at *)
    grind (splits := 40)
theorem fields_2 {H : Heap} {l : List Value} {x : Tr} (R : NodeR H l x) (tx : Tidy x) (hk : x.kind = 2) : AX Try.prog 49 #[.agg l.toArray] H (fun v H' => (∃ b, v = .bool b ∧ (b = true ↔ FieldsP x)) ∧ H' = H) := by
  obtain ⟨ow, sn, sk, rfl, rn, -⟩ := R.inv
  refine AX.quiet ?_
  suffices hh : AX Try.prog 49 #[.agg (nodeV x sn sk).toArray] H (fun v H' => (∃ b, v = .bool b ∧ (b = true ↔ FieldsP x)) ∧ Grow H H') from hh.mono fun v _ ⟨⟨b, e, k⟩, g⟩ => ⟨e ▸ plain_bool _, ⟨b, e, k⟩, g⟩
  refine AX.body (n := 223) (rs := [.tmp 2]) Try.func49 rfl (by decide) rfl rfl (bC_sound _ _ _ _ ?_)
  (conv => whnf)
  refine Ob2.box rfl fun q H1 hq a1 g1 => ?_
  have b1 := hblk_of a1
  have l1 : alen Try.prog 22 sn H1 = some (.int .i64 x.names.length) := rn.len rfl _
  have t1 := tx.str
  have hn := ow.2.1
  simp only [maxLen] at hn
  have hsn := @signT_ne x.op
  have f9 : (x.kind == 9) = false := by rw [hk]; rfl
  have g9 : (x.kind != 9) = true := by rw [hk]; rfl
  have f10 : (x.kind == 10) = false := by rw [hk]; rfl
  have g10 : (x.kind != 10) = true := by rw [hk]; rfl
  have f17 : (x.kind == 17) = false := by rw [hk]; rfl
  have g17 : (x.kind != 17) = true := by rw [hk]; rfl
  have f2 : (x.kind == 2) = true := by rw [hk]; rfl
  have g2 : (x.kind != 2) = false := by rw [hk]; rfl
  have f3 : (x.kind == 3) = false := by rw [hk]; rfl
  have g3 : (x.kind != 3) = true := by rw [hk]; rfl
  have f4 : (x.kind == 4) = false := by rw [hk]; rfl
  have g4 : (x.kind != 4) = true := by rw [hk]; rfl
  have f5 : (x.kind == 5) = false := by rw [hk]; rfl
  have g5 : (x.kind != 5) = true := by rw [hk]; rfl
  have f21 : (x.kind == 21) = false := by rw [hk]; rfl
  have g21 : (x.kind != 21) = true := by rw [hk]; rfl
  have f22 : (x.kind == 22) = false := by rw [hk]; rfl
  have g22 : (x.kind != 22) = true := by rw [hk]; rfl
  have f13 : (x.kind == 13) = false := by rw [hk]; rfl
  have g13 : (x.kind != 13) = true := by rw [hk]; rfl
  have f16 : (x.kind == 16) = false := by rw [hk]; rfl
  have g16 : (x.kind != 16) = true := by rw [hk]; rfl
  have f23 : (x.kind == 23) = false := by rw [hk]; rfl
  have g23 : (x.kind != 23) = true := by rw [hk]; rfl
  have f25 : (x.kind == 25) = false := by rw [hk]; rfl
  have g25 : (x.kind != 25) = true := by rw [hk]; rfl
  have f7 : (x.kind == 7) = false := by rw [hk]; rfl
  have g7 : (x.kind != 7) = true := by rw [hk]; rfl
  have f8 : (x.kind == 8) = false := by rw [hk]; rfl
  have g8 : (x.kind != 8) = true := by rw [hk]; rfl
  (try (conv => whnf)); (repeat' ((fail_if_success (with_reducible refine And.intro ?_ ?_)); (fail_if_success (with_reducible refine Exists.intro ?_ ?_)); (first | ((with_reducible refine AX.id ?_); (first | (refine (refName_ax _ (by omega)).mono ?_; (rintro _ X ⟨⟨bb, rfl, hb⟩, eX⟩; subst X; cases bb <;> (conv => whnf))) | (refine (rIsName_ax (by omega) _).mono ?_; (rintro _ X ⟨⟨bb, rfl, hb⟩, eX⟩; subst X; cases bb <;> (conv => whnf))) | (refine (rsign_ax _ _).mono ?_; (rintro _ X ⟨rfl, eX⟩; subst X; (conv => whnf))))) | (refine step0 ?_) | (apply bIf.of <;> intro hc <;> (conv => whnf)))))
  any_goals
    refine ⟨⟨false, rfl, by simp, fun h => ?_⟩, g1⟩
    exfalso
    clear b1 a1 g1 l1 rn R f9 g9 f10 g10 f17 g17 f2 g2 f3 g3 f4 g4 f5 g5 f21 g21 f22 g22 f13 g13 f16 g16 f23 g23 f25 g25 f7 g7 f8 g8
    unfold FieldsP propK at h
    (simp only [ba_ne_t, ba_ne_f, ba_eq_t, ba_eq_f, bne_iff_ne, bne_eq_false_iff_eq, decide_eq_true_eq, decide_eq_false_iff_not, beq_iff_eq, beq_eq_false_iff_ne, ne_eq, Bool.not_eq_true, Bool.not_eq_false, Bool.not_eq_true', Bool.not_eq_false'] at *)
    grind (splits := 40)
  all_goals
    refine SW.loop (α := Nat) (fun k => [(1, .pointer (some ⟨q, 0, none⟩)), (3, .int .i64 x.kind), (5, .int .i64 (k : Int))]) (fun k H' => k ≤ x.names.length ∧ (∀ (i : Nat) s, i < k → x.names[i]? = some s → IdentP s ∧ (x.kind = 8 → NameP s)) ∧ H' = H1) (fun k => x.names.length - k) ⟨0, ⟨rfl, rfl, rfl, trivial⟩, ⟨by omega, fun i s hi => by omega, rfl⟩⟩ ?_
    rintro k X ⟨hm, ht, e⟩
    subst X
    refine bC_sound _ _ _ _ ?_
    by_cases hml : k < x.names.length
    · have d1 : decide ((k : Int) < (x.names.length : Int)) = true := decide_eq_true (by omega)
      obtain ⟨s, hx⟩ := get_lt hml
      obtain ⟨p, i1, i2⟩ := ld_strT rn hx
      have i3 := i2 H1 g1
      have hs := tx.name s (List.mem_of_getElem? hx)
      (try (conv => whnf)); (repeat' ((fail_if_success (with_reducible refine And.intro ?_ ?_)); (fail_if_success (with_reducible refine Exists.intro ?_ ?_)); (first | ((with_reducible refine AX.id ?_); (first | (refine (refName_ax _ (by omega)).mono ?_; (rintro _ X ⟨⟨bb, rfl, hb⟩, eX⟩; subst X; cases bb <;> (conv => whnf))) | (refine (rIsName_ax (by omega) _).mono ?_; (rintro _ X ⟨⟨bb, rfl, hb⟩, eX⟩; subst X; cases bb <;> (conv => whnf))))) | (refine step0 ?_) | (apply bIf.of <;> intro hc <;> (conv => whnf)))))
      any_goals
        refine ⟨⟨false, rfl, by simp, fun h => ?_⟩, g1⟩
        exfalso
        have h15 := h.2.2.2.2.2.2.2.2.2.2.2.2.2.2.1 s (List.mem_of_getElem? hx)
        have h16 := fun h8 => h.2.2.2.2.2.2.2.2.2.2.2.2.2.2.2 h8 s (List.mem_of_getElem? hx)
        clear h b1 a1 g1 l1 rn R ht
        grind
      all_goals
        refine ⟨k + 1, ⟨rfl, rfl, congrArg (fun z => some (Value.int .i64 z)) (w_succ (by omega)), trivial⟩, ⟨hml, fun i t hi hd => ?_, rfl⟩, by show _ - (k + 1) < _ - k; omega⟩
        by_cases him : i = k
        · subst him; rw [hx] at hd; simp only [Option.some.injEq] at hd; subst hd
          clear b1 a1 g1 l1 rn R ht
          grind
        · exact ht i t (by omega) hd
    · have d1 : decide ((k : Int) < (x.names.length : Int)) = false := decide_eq_false (by omega)
      refine run ?_
      refine ⟨⟨true, rfl, ?_⟩, g1⟩
      simp only [true_iff]
      have h15 : ∀ s ∈ x.names, IdentP s := fun s hs => by
        obtain ⟨i, hi, rfl⟩ := List.getElem_of_mem hs
        exact (ht i _ (by omega) (List.getElem?_eq_getElem hi)).1
      have h16 : x.kind = 8 → ∀ s ∈ x.names, NameP s := fun h8 s hs => by
        obtain ⟨i, hi, rfl⟩ := List.getElem_of_mem hs
        exact (ht i _ (by omega) (List.getElem?_eq_getElem hi)).2 h8
      clear b1 a1 g1 l1 rn R ht f9 g9 f10 g10 f17 g17 f2 g2 f3 g3 f4 g4 f5 g5 f21 g21 f22 g22 f13 g13 f16 g16 f23 g23 f25 g25 f7 g7 f8 g8
      unfold FieldsP propK
      (simp only [ba_ne_t, ba_ne_f, ba_eq_t, ba_eq_f, bne_iff_ne, bne_eq_false_iff_eq, decide_eq_true_eq, decide_eq_false_iff_not, beq_iff_eq, beq_eq_false_iff_ne, ne_eq, Bool.not_eq_true, Bool.not_eq_false, Bool.not_eq_true', Bool.not_eq_false'] at *)
      grind (splits := 40)
theorem fields_3 {H : Heap} {l : List Value} {x : Tr} (R : NodeR H l x) (tx : Tidy x) (hk : x.kind = 3) : AX Try.prog 49 #[.agg l.toArray] H (fun v H' => (∃ b, v = .bool b ∧ (b = true ↔ FieldsP x)) ∧ H' = H) := by
  obtain ⟨ow, sn, sk, rfl, rn, -⟩ := R.inv
  refine AX.quiet ?_
  suffices hh : AX Try.prog 49 #[.agg (nodeV x sn sk).toArray] H (fun v H' => (∃ b, v = .bool b ∧ (b = true ↔ FieldsP x)) ∧ Grow H H') from hh.mono fun v _ ⟨⟨b, e, k⟩, g⟩ => ⟨e ▸ plain_bool _, ⟨b, e, k⟩, g⟩
  refine AX.body (n := 223) (rs := [.tmp 2]) Try.func49 rfl (by decide) rfl rfl (bC_sound _ _ _ _ ?_)
  (conv => whnf)
  refine Ob2.box rfl fun q H1 hq a1 g1 => ?_
  have b1 := hblk_of a1
  have l1 : alen Try.prog 22 sn H1 = some (.int .i64 x.names.length) := rn.len rfl _
  have t1 := tx.str
  have hn := ow.2.1
  simp only [maxLen] at hn
  have hsn := @signT_ne x.op
  have f9 : (x.kind == 9) = false := by rw [hk]; rfl
  have g9 : (x.kind != 9) = true := by rw [hk]; rfl
  have f10 : (x.kind == 10) = false := by rw [hk]; rfl
  have g10 : (x.kind != 10) = true := by rw [hk]; rfl
  have f17 : (x.kind == 17) = false := by rw [hk]; rfl
  have g17 : (x.kind != 17) = true := by rw [hk]; rfl
  have f2 : (x.kind == 2) = false := by rw [hk]; rfl
  have g2 : (x.kind != 2) = true := by rw [hk]; rfl
  have f3 : (x.kind == 3) = true := by rw [hk]; rfl
  have g3 : (x.kind != 3) = false := by rw [hk]; rfl
  have f4 : (x.kind == 4) = false := by rw [hk]; rfl
  have g4 : (x.kind != 4) = true := by rw [hk]; rfl
  have f5 : (x.kind == 5) = false := by rw [hk]; rfl
  have g5 : (x.kind != 5) = true := by rw [hk]; rfl
  have f21 : (x.kind == 21) = false := by rw [hk]; rfl
  have g21 : (x.kind != 21) = true := by rw [hk]; rfl
  have f22 : (x.kind == 22) = false := by rw [hk]; rfl
  have g22 : (x.kind != 22) = true := by rw [hk]; rfl
  have f13 : (x.kind == 13) = false := by rw [hk]; rfl
  have g13 : (x.kind != 13) = true := by rw [hk]; rfl
  have f16 : (x.kind == 16) = false := by rw [hk]; rfl
  have g16 : (x.kind != 16) = true := by rw [hk]; rfl
  have f23 : (x.kind == 23) = false := by rw [hk]; rfl
  have g23 : (x.kind != 23) = true := by rw [hk]; rfl
  have f25 : (x.kind == 25) = false := by rw [hk]; rfl
  have g25 : (x.kind != 25) = true := by rw [hk]; rfl
  have f7 : (x.kind == 7) = false := by rw [hk]; rfl
  have g7 : (x.kind != 7) = true := by rw [hk]; rfl
  have f8 : (x.kind == 8) = false := by rw [hk]; rfl
  have g8 : (x.kind != 8) = true := by rw [hk]; rfl
  (try (conv => whnf)); (repeat' ((fail_if_success (with_reducible refine And.intro ?_ ?_)); (fail_if_success (with_reducible refine Exists.intro ?_ ?_)); (first | ((with_reducible refine AX.id ?_); (first | (refine (refName_ax _ (by omega)).mono ?_; (rintro _ X ⟨⟨bb, rfl, hb⟩, eX⟩; subst X; cases bb <;> (conv => whnf))) | (refine (rIsName_ax (by omega) _).mono ?_; (rintro _ X ⟨⟨bb, rfl, hb⟩, eX⟩; subst X; cases bb <;> (conv => whnf))) | (refine (rsign_ax _ _).mono ?_; (rintro _ X ⟨rfl, eX⟩; subst X; (conv => whnf))))) | (refine step0 ?_) | (apply bIf.of <;> intro hc <;> (conv => whnf)))))
  any_goals
    refine ⟨⟨false, rfl, by simp, fun h => ?_⟩, g1⟩
    exfalso
    clear b1 a1 g1 l1 rn R f9 g9 f10 g10 f17 g17 f2 g2 f3 g3 f4 g4 f5 g5 f21 g21 f22 g22 f13 g13 f16 g16 f23 g23 f25 g25 f7 g7 f8 g8
    unfold FieldsP propK at h
    (simp only [ba_ne_t, ba_ne_f, ba_eq_t, ba_eq_f, bne_iff_ne, bne_eq_false_iff_eq, decide_eq_true_eq, decide_eq_false_iff_not, beq_iff_eq, beq_eq_false_iff_ne, ne_eq, Bool.not_eq_true, Bool.not_eq_false, Bool.not_eq_true', Bool.not_eq_false'] at *)
    grind (splits := 40)
  refine SW.loop (α := Nat) (fun k => [(1, .pointer (some ⟨q, 0, none⟩)), (3, .int .i64 x.kind), (5, .int .i64 (k : Int))]) (fun k H' => k ≤ x.names.length ∧ (∀ (i : Nat) s, i < k → x.names[i]? = some s → IdentP s ∧ (x.kind = 8 → NameP s)) ∧ H' = H1) (fun k => x.names.length - k) ⟨0, ⟨rfl, rfl, rfl, trivial⟩, ⟨by omega, fun i s hi => by omega, rfl⟩⟩ ?_
  rintro k X ⟨hm, ht, e⟩
  subst X
  refine bC_sound _ _ _ _ ?_
  by_cases hml : k < x.names.length
  · have d1 : decide ((k : Int) < (x.names.length : Int)) = true := decide_eq_true (by omega)
    obtain ⟨s, hx⟩ := get_lt hml
    obtain ⟨p, i1, i2⟩ := ld_strT rn hx
    have i3 := i2 H1 g1
    have hs := tx.name s (List.mem_of_getElem? hx)
    (try (conv => whnf)); (repeat' ((fail_if_success (with_reducible refine And.intro ?_ ?_)); (fail_if_success (with_reducible refine Exists.intro ?_ ?_)); (first | ((with_reducible refine AX.id ?_); (first | (refine (refName_ax _ (by omega)).mono ?_; (rintro _ X ⟨⟨bb, rfl, hb⟩, eX⟩; subst X; cases bb <;> (conv => whnf))) | (refine (rIsName_ax (by omega) _).mono ?_; (rintro _ X ⟨⟨bb, rfl, hb⟩, eX⟩; subst X; cases bb <;> (conv => whnf))))) | (refine step0 ?_) | (apply bIf.of <;> intro hc <;> (conv => whnf)))))
    any_goals
      refine ⟨⟨false, rfl, by simp, fun h => ?_⟩, g1⟩
      exfalso
      have h15 := h.2.2.2.2.2.2.2.2.2.2.2.2.2.2.1 s (List.mem_of_getElem? hx)
      have h16 := fun h8 => h.2.2.2.2.2.2.2.2.2.2.2.2.2.2.2 h8 s (List.mem_of_getElem? hx)
      clear h b1 a1 g1 l1 rn R ht
      grind
    all_goals
      refine ⟨k + 1, ⟨rfl, rfl, congrArg (fun z => some (Value.int .i64 z)) (w_succ (by omega)), trivial⟩, ⟨hml, fun i t hi hd => ?_, rfl⟩, by show _ - (k + 1) < _ - k; omega⟩
      by_cases him : i = k
      · subst him; rw [hx] at hd; simp only [Option.some.injEq] at hd; subst hd
        clear b1 a1 g1 l1 rn R ht
        grind
      · exact ht i t (by omega) hd
  · have d1 : decide ((k : Int) < (x.names.length : Int)) = false := decide_eq_false (by omega)
    refine run ?_
    refine ⟨⟨true, rfl, ?_⟩, g1⟩
    simp only [true_iff]
    have h15 : ∀ s ∈ x.names, IdentP s := fun s hs => by
      obtain ⟨i, hi, rfl⟩ := List.getElem_of_mem hs
      exact (ht i _ (by omega) (List.getElem?_eq_getElem hi)).1
    have h16 : x.kind = 8 → ∀ s ∈ x.names, NameP s := fun h8 s hs => by
      obtain ⟨i, hi, rfl⟩ := List.getElem_of_mem hs
      exact (ht i _ (by omega) (List.getElem?_eq_getElem hi)).2 h8
    clear b1 a1 g1 l1 rn R ht f9 g9 f10 g10 f17 g17 f2 g2 f3 g3 f4 g4 f5 g5 f21 g21 f22 g22 f13 g13 f16 g16 f23 g23 f25 g25 f7 g7 f8 g8
    unfold FieldsP propK
    (simp only [ba_ne_t, ba_ne_f, ba_eq_t, ba_eq_f, bne_iff_ne, bne_eq_false_iff_eq, decide_eq_true_eq, decide_eq_false_iff_not, beq_iff_eq, beq_eq_false_iff_ne, ne_eq, Bool.not_eq_true, Bool.not_eq_false, Bool.not_eq_true', Bool.not_eq_false'] at *)
    grind (splits := 40)
theorem fields_4 {H : Heap} {l : List Value} {x : Tr} (R : NodeR H l x) (tx : Tidy x) (hk : x.kind = 4) : AX Try.prog 49 #[.agg l.toArray] H (fun v H' => (∃ b, v = .bool b ∧ (b = true ↔ FieldsP x)) ∧ H' = H) := by
  obtain ⟨ow, sn, sk, rfl, rn, -⟩ := R.inv
  refine AX.quiet ?_
  suffices hh : AX Try.prog 49 #[.agg (nodeV x sn sk).toArray] H (fun v H' => (∃ b, v = .bool b ∧ (b = true ↔ FieldsP x)) ∧ Grow H H') from hh.mono fun v _ ⟨⟨b, e, k⟩, g⟩ => ⟨e ▸ plain_bool _, ⟨b, e, k⟩, g⟩
  refine AX.body (n := 223) (rs := [.tmp 2]) Try.func49 rfl (by decide) rfl rfl (bC_sound _ _ _ _ ?_)
  (conv => whnf)
  refine Ob2.box rfl fun q H1 hq a1 g1 => ?_
  have b1 := hblk_of a1
  have l1 : alen Try.prog 22 sn H1 = some (.int .i64 x.names.length) := rn.len rfl _
  have t1 := tx.str
  have hn := ow.2.1
  simp only [maxLen] at hn
  have hsn := @signT_ne x.op
  have f9 : (x.kind == 9) = false := by rw [hk]; rfl
  have g9 : (x.kind != 9) = true := by rw [hk]; rfl
  have f10 : (x.kind == 10) = false := by rw [hk]; rfl
  have g10 : (x.kind != 10) = true := by rw [hk]; rfl
  have f17 : (x.kind == 17) = false := by rw [hk]; rfl
  have g17 : (x.kind != 17) = true := by rw [hk]; rfl
  have f2 : (x.kind == 2) = false := by rw [hk]; rfl
  have g2 : (x.kind != 2) = true := by rw [hk]; rfl
  have f3 : (x.kind == 3) = false := by rw [hk]; rfl
  have g3 : (x.kind != 3) = true := by rw [hk]; rfl
  have f4 : (x.kind == 4) = true := by rw [hk]; rfl
  have g4 : (x.kind != 4) = false := by rw [hk]; rfl
  have f5 : (x.kind == 5) = false := by rw [hk]; rfl
  have g5 : (x.kind != 5) = true := by rw [hk]; rfl
  have f21 : (x.kind == 21) = false := by rw [hk]; rfl
  have g21 : (x.kind != 21) = true := by rw [hk]; rfl
  have f22 : (x.kind == 22) = false := by rw [hk]; rfl
  have g22 : (x.kind != 22) = true := by rw [hk]; rfl
  have f13 : (x.kind == 13) = false := by rw [hk]; rfl
  have g13 : (x.kind != 13) = true := by rw [hk]; rfl
  have f16 : (x.kind == 16) = false := by rw [hk]; rfl
  have g16 : (x.kind != 16) = true := by rw [hk]; rfl
  have f23 : (x.kind == 23) = false := by rw [hk]; rfl
  have g23 : (x.kind != 23) = true := by rw [hk]; rfl
  have f25 : (x.kind == 25) = false := by rw [hk]; rfl
  have g25 : (x.kind != 25) = true := by rw [hk]; rfl
  have f7 : (x.kind == 7) = false := by rw [hk]; rfl
  have g7 : (x.kind != 7) = true := by rw [hk]; rfl
  have f8 : (x.kind == 8) = false := by rw [hk]; rfl
  have g8 : (x.kind != 8) = true := by rw [hk]; rfl
  (try (conv => whnf)); (repeat' ((fail_if_success (with_reducible refine And.intro ?_ ?_)); (fail_if_success (with_reducible refine Exists.intro ?_ ?_)); (first | ((with_reducible refine AX.id ?_); (first | (refine (refName_ax _ (by omega)).mono ?_; (rintro _ X ⟨⟨bb, rfl, hb⟩, eX⟩; subst X; cases bb <;> (conv => whnf))) | (refine (rIsName_ax (by omega) _).mono ?_; (rintro _ X ⟨⟨bb, rfl, hb⟩, eX⟩; subst X; cases bb <;> (conv => whnf))) | (refine (rsign_ax _ _).mono ?_; (rintro _ X ⟨rfl, eX⟩; subst X; (conv => whnf))))) | (refine step0 ?_) | (apply bIf.of <;> intro hc <;> (conv => whnf)))))
  any_goals
    refine ⟨⟨false, rfl, by simp, fun h => ?_⟩, g1⟩
    exfalso
    clear b1 a1 g1 l1 rn R f9 g9 f10 g10 f17 g17 f2 g2 f3 g3 f4 g4 f5 g5 f21 g21 f22 g22 f13 g13 f16 g16 f23 g23 f25 g25 f7 g7 f8 g8
    unfold FieldsP propK at h
    (simp only [ba_ne_t, ba_ne_f, ba_eq_t, ba_eq_f, bne_iff_ne, bne_eq_false_iff_eq, decide_eq_true_eq, decide_eq_false_iff_not, beq_iff_eq, beq_eq_false_iff_ne, ne_eq, Bool.not_eq_true, Bool.not_eq_false, Bool.not_eq_true', Bool.not_eq_false'] at *)
    grind (splits := 40)
  refine SW.loop (α := Nat) (fun k => [(1, .pointer (some ⟨q, 0, none⟩)), (3, .int .i64 x.kind), (5, .int .i64 (k : Int))]) (fun k H' => k ≤ x.names.length ∧ (∀ (i : Nat) s, i < k → x.names[i]? = some s → IdentP s ∧ (x.kind = 8 → NameP s)) ∧ H' = H1) (fun k => x.names.length - k) ⟨0, ⟨rfl, rfl, rfl, trivial⟩, ⟨by omega, fun i s hi => by omega, rfl⟩⟩ ?_
  rintro k X ⟨hm, ht, e⟩
  subst X
  refine bC_sound _ _ _ _ ?_
  by_cases hml : k < x.names.length
  · have d1 : decide ((k : Int) < (x.names.length : Int)) = true := decide_eq_true (by omega)
    obtain ⟨s, hx⟩ := get_lt hml
    obtain ⟨p, i1, i2⟩ := ld_strT rn hx
    have i3 := i2 H1 g1
    have hs := tx.name s (List.mem_of_getElem? hx)
    (try (conv => whnf)); (repeat' ((fail_if_success (with_reducible refine And.intro ?_ ?_)); (fail_if_success (with_reducible refine Exists.intro ?_ ?_)); (first | ((with_reducible refine AX.id ?_); (first | (refine (refName_ax _ (by omega)).mono ?_; (rintro _ X ⟨⟨bb, rfl, hb⟩, eX⟩; subst X; cases bb <;> (conv => whnf))) | (refine (rIsName_ax (by omega) _).mono ?_; (rintro _ X ⟨⟨bb, rfl, hb⟩, eX⟩; subst X; cases bb <;> (conv => whnf))))) | (refine step0 ?_) | (apply bIf.of <;> intro hc <;> (conv => whnf)))))
    any_goals
      refine ⟨⟨false, rfl, by simp, fun h => ?_⟩, g1⟩
      exfalso
      have h15 := h.2.2.2.2.2.2.2.2.2.2.2.2.2.2.1 s (List.mem_of_getElem? hx)
      have h16 := fun h8 => h.2.2.2.2.2.2.2.2.2.2.2.2.2.2.2 h8 s (List.mem_of_getElem? hx)
      clear h b1 a1 g1 l1 rn R ht
      grind
    all_goals
      refine ⟨k + 1, ⟨rfl, rfl, congrArg (fun z => some (Value.int .i64 z)) (w_succ (by omega)), trivial⟩, ⟨hml, fun i t hi hd => ?_, rfl⟩, by show _ - (k + 1) < _ - k; omega⟩
      by_cases him : i = k
      · subst him; rw [hx] at hd; simp only [Option.some.injEq] at hd; subst hd
        clear b1 a1 g1 l1 rn R ht
        grind
      · exact ht i t (by omega) hd
  · have d1 : decide ((k : Int) < (x.names.length : Int)) = false := decide_eq_false (by omega)
    refine run ?_
    refine ⟨⟨true, rfl, ?_⟩, g1⟩
    simp only [true_iff]
    have h15 : ∀ s ∈ x.names, IdentP s := fun s hs => by
      obtain ⟨i, hi, rfl⟩ := List.getElem_of_mem hs
      exact (ht i _ (by omega) (List.getElem?_eq_getElem hi)).1
    have h16 : x.kind = 8 → ∀ s ∈ x.names, NameP s := fun h8 s hs => by
      obtain ⟨i, hi, rfl⟩ := List.getElem_of_mem hs
      exact (ht i _ (by omega) (List.getElem?_eq_getElem hi)).2 h8
    clear b1 a1 g1 l1 rn R ht f9 g9 f10 g10 f17 g17 f2 g2 f3 g3 f4 g4 f5 g5 f21 g21 f22 g22 f13 g13 f16 g16 f23 g23 f25 g25 f7 g7 f8 g8
    unfold FieldsP propK
    (simp only [ba_ne_t, ba_ne_f, ba_eq_t, ba_eq_f, bne_iff_ne, bne_eq_false_iff_eq, decide_eq_true_eq, decide_eq_false_iff_not, beq_iff_eq, beq_eq_false_iff_ne, ne_eq, Bool.not_eq_true, Bool.not_eq_false, Bool.not_eq_true', Bool.not_eq_false'] at *)
    grind (splits := 40)
theorem fields_5 {H : Heap} {l : List Value} {x : Tr} (R : NodeR H l x) (tx : Tidy x) (hk : x.kind = 5) : AX Try.prog 49 #[.agg l.toArray] H (fun v H' => (∃ b, v = .bool b ∧ (b = true ↔ FieldsP x)) ∧ H' = H) := by
  obtain ⟨ow, sn, sk, rfl, rn, -⟩ := R.inv
  refine AX.quiet ?_
  suffices hh : AX Try.prog 49 #[.agg (nodeV x sn sk).toArray] H (fun v H' => (∃ b, v = .bool b ∧ (b = true ↔ FieldsP x)) ∧ Grow H H') from hh.mono fun v _ ⟨⟨b, e, k⟩, g⟩ => ⟨e ▸ plain_bool _, ⟨b, e, k⟩, g⟩
  refine AX.body (n := 223) (rs := [.tmp 2]) Try.func49 rfl (by decide) rfl rfl (bC_sound _ _ _ _ ?_)
  (conv => whnf)
  refine Ob2.box rfl fun q H1 hq a1 g1 => ?_
  have b1 := hblk_of a1
  have l1 : alen Try.prog 22 sn H1 = some (.int .i64 x.names.length) := rn.len rfl _
  have t1 := tx.str
  have hn := ow.2.1
  simp only [maxLen] at hn
  have hsn := @signT_ne x.op
  have f9 : (x.kind == 9) = false := by rw [hk]; rfl
  have g9 : (x.kind != 9) = true := by rw [hk]; rfl
  have f10 : (x.kind == 10) = false := by rw [hk]; rfl
  have g10 : (x.kind != 10) = true := by rw [hk]; rfl
  have f17 : (x.kind == 17) = false := by rw [hk]; rfl
  have g17 : (x.kind != 17) = true := by rw [hk]; rfl
  have f2 : (x.kind == 2) = false := by rw [hk]; rfl
  have g2 : (x.kind != 2) = true := by rw [hk]; rfl
  have f3 : (x.kind == 3) = false := by rw [hk]; rfl
  have g3 : (x.kind != 3) = true := by rw [hk]; rfl
  have f4 : (x.kind == 4) = false := by rw [hk]; rfl
  have g4 : (x.kind != 4) = true := by rw [hk]; rfl
  have f5 : (x.kind == 5) = true := by rw [hk]; rfl
  have g5 : (x.kind != 5) = false := by rw [hk]; rfl
  have f21 : (x.kind == 21) = false := by rw [hk]; rfl
  have g21 : (x.kind != 21) = true := by rw [hk]; rfl
  have f22 : (x.kind == 22) = false := by rw [hk]; rfl
  have g22 : (x.kind != 22) = true := by rw [hk]; rfl
  have f13 : (x.kind == 13) = false := by rw [hk]; rfl
  have g13 : (x.kind != 13) = true := by rw [hk]; rfl
  have f16 : (x.kind == 16) = false := by rw [hk]; rfl
  have g16 : (x.kind != 16) = true := by rw [hk]; rfl
  have f23 : (x.kind == 23) = false := by rw [hk]; rfl
  have g23 : (x.kind != 23) = true := by rw [hk]; rfl
  have f25 : (x.kind == 25) = false := by rw [hk]; rfl
  have g25 : (x.kind != 25) = true := by rw [hk]; rfl
  have f7 : (x.kind == 7) = false := by rw [hk]; rfl
  have g7 : (x.kind != 7) = true := by rw [hk]; rfl
  have f8 : (x.kind == 8) = false := by rw [hk]; rfl
  have g8 : (x.kind != 8) = true := by rw [hk]; rfl
  (try (conv => whnf)); (repeat' ((fail_if_success (with_reducible refine And.intro ?_ ?_)); (fail_if_success (with_reducible refine Exists.intro ?_ ?_)); (first | ((with_reducible refine AX.id ?_); (first | (refine (refName_ax _ (by omega)).mono ?_; (rintro _ X ⟨⟨bb, rfl, hb⟩, eX⟩; subst X; cases bb <;> (conv => whnf))) | (refine (rIsName_ax (by omega) _).mono ?_; (rintro _ X ⟨⟨bb, rfl, hb⟩, eX⟩; subst X; cases bb <;> (conv => whnf))) | (refine (rsign_ax _ _).mono ?_; (rintro _ X ⟨rfl, eX⟩; subst X; (conv => whnf))))) | (refine step0 ?_) | (apply bIf.of <;> intro hc <;> (conv => whnf)))))
  any_goals
    refine ⟨⟨false, rfl, by simp, fun h => ?_⟩, g1⟩
    exfalso
    clear b1 a1 g1 l1 rn R f9 g9 f10 g10 f17 g17 f2 g2 f3 g3 f4 g4 f5 g5 f21 g21 f22 g22 f13 g13 f16 g16 f23 g23 f25 g25 f7 g7 f8 g8
    unfold FieldsP propK at h
    (simp only [ba_ne_t, ba_ne_f, ba_eq_t, ba_eq_f, bne_iff_ne, bne_eq_false_iff_eq, decide_eq_true_eq, decide_eq_false_iff_not, beq_iff_eq, beq_eq_false_iff_ne, ne_eq, Bool.not_eq_true, Bool.not_eq_false, Bool.not_eq_true', Bool.not_eq_false'] at *)
    grind (splits := 40)
  refine SW.loop (α := Nat) (fun k => [(1, .pointer (some ⟨q, 0, none⟩)), (3, .int .i64 x.kind), (5, .int .i64 (k : Int))]) (fun k H' => k ≤ x.names.length ∧ (∀ (i : Nat) s, i < k → x.names[i]? = some s → IdentP s ∧ (x.kind = 8 → NameP s)) ∧ H' = H1) (fun k => x.names.length - k) ⟨0, ⟨rfl, rfl, rfl, trivial⟩, ⟨by omega, fun i s hi => by omega, rfl⟩⟩ ?_
  rintro k X ⟨hm, ht, e⟩
  subst X
  refine bC_sound _ _ _ _ ?_
  by_cases hml : k < x.names.length
  · have d1 : decide ((k : Int) < (x.names.length : Int)) = true := decide_eq_true (by omega)
    obtain ⟨s, hx⟩ := get_lt hml
    obtain ⟨p, i1, i2⟩ := ld_strT rn hx
    have i3 := i2 H1 g1
    have hs := tx.name s (List.mem_of_getElem? hx)
    (try (conv => whnf)); (repeat' ((fail_if_success (with_reducible refine And.intro ?_ ?_)); (fail_if_success (with_reducible refine Exists.intro ?_ ?_)); (first | ((with_reducible refine AX.id ?_); (first | (refine (refName_ax _ (by omega)).mono ?_; (rintro _ X ⟨⟨bb, rfl, hb⟩, eX⟩; subst X; cases bb <;> (conv => whnf))) | (refine (rIsName_ax (by omega) _).mono ?_; (rintro _ X ⟨⟨bb, rfl, hb⟩, eX⟩; subst X; cases bb <;> (conv => whnf))))) | (refine step0 ?_) | (apply bIf.of <;> intro hc <;> (conv => whnf)))))
    any_goals
      refine ⟨⟨false, rfl, by simp, fun h => ?_⟩, g1⟩
      exfalso
      have h15 := h.2.2.2.2.2.2.2.2.2.2.2.2.2.2.1 s (List.mem_of_getElem? hx)
      have h16 := fun h8 => h.2.2.2.2.2.2.2.2.2.2.2.2.2.2.2 h8 s (List.mem_of_getElem? hx)
      clear h b1 a1 g1 l1 rn R ht
      grind
    all_goals
      refine ⟨k + 1, ⟨rfl, rfl, congrArg (fun z => some (Value.int .i64 z)) (w_succ (by omega)), trivial⟩, ⟨hml, fun i t hi hd => ?_, rfl⟩, by show _ - (k + 1) < _ - k; omega⟩
      by_cases him : i = k
      · subst him; rw [hx] at hd; simp only [Option.some.injEq] at hd; subst hd
        clear b1 a1 g1 l1 rn R ht
        grind
      · exact ht i t (by omega) hd
  · have d1 : decide ((k : Int) < (x.names.length : Int)) = false := decide_eq_false (by omega)
    refine run ?_
    refine ⟨⟨true, rfl, ?_⟩, g1⟩
    simp only [true_iff]
    have h15 : ∀ s ∈ x.names, IdentP s := fun s hs => by
      obtain ⟨i, hi, rfl⟩ := List.getElem_of_mem hs
      exact (ht i _ (by omega) (List.getElem?_eq_getElem hi)).1
    have h16 : x.kind = 8 → ∀ s ∈ x.names, NameP s := fun h8 s hs => by
      obtain ⟨i, hi, rfl⟩ := List.getElem_of_mem hs
      exact (ht i _ (by omega) (List.getElem?_eq_getElem hi)).2 h8
    clear b1 a1 g1 l1 rn R ht f9 g9 f10 g10 f17 g17 f2 g2 f3 g3 f4 g4 f5 g5 f21 g21 f22 g22 f13 g13 f16 g16 f23 g23 f25 g25 f7 g7 f8 g8
    unfold FieldsP propK
    (simp only [ba_ne_t, ba_ne_f, ba_eq_t, ba_eq_f, bne_iff_ne, bne_eq_false_iff_eq, decide_eq_true_eq, decide_eq_false_iff_not, beq_iff_eq, beq_eq_false_iff_ne, ne_eq, Bool.not_eq_true, Bool.not_eq_false, Bool.not_eq_true', Bool.not_eq_false'] at *)
    grind (splits := 40)
theorem fields_21 {H : Heap} {l : List Value} {x : Tr} (R : NodeR H l x) (tx : Tidy x) (hk : x.kind = 21) : AX Try.prog 49 #[.agg l.toArray] H (fun v H' => (∃ b, v = .bool b ∧ (b = true ↔ FieldsP x)) ∧ H' = H) := by
  obtain ⟨ow, sn, sk, rfl, rn, -⟩ := R.inv
  refine AX.quiet ?_
  suffices hh : AX Try.prog 49 #[.agg (nodeV x sn sk).toArray] H (fun v H' => (∃ b, v = .bool b ∧ (b = true ↔ FieldsP x)) ∧ Grow H H') from hh.mono fun v _ ⟨⟨b, e, k⟩, g⟩ => ⟨e ▸ plain_bool _, ⟨b, e, k⟩, g⟩
  refine AX.body (n := 223) (rs := [.tmp 2]) Try.func49 rfl (by decide) rfl rfl (bC_sound _ _ _ _ ?_)
  (conv => whnf)
  refine Ob2.box rfl fun q H1 hq a1 g1 => ?_
  have b1 := hblk_of a1
  have l1 : alen Try.prog 22 sn H1 = some (.int .i64 x.names.length) := rn.len rfl _
  have t1 := tx.str
  have hn := ow.2.1
  simp only [maxLen] at hn
  have hsn := @signT_ne x.op
  have f9 : (x.kind == 9) = false := by rw [hk]; rfl
  have g9 : (x.kind != 9) = true := by rw [hk]; rfl
  have f10 : (x.kind == 10) = false := by rw [hk]; rfl
  have g10 : (x.kind != 10) = true := by rw [hk]; rfl
  have f17 : (x.kind == 17) = false := by rw [hk]; rfl
  have g17 : (x.kind != 17) = true := by rw [hk]; rfl
  have f2 : (x.kind == 2) = false := by rw [hk]; rfl
  have g2 : (x.kind != 2) = true := by rw [hk]; rfl
  have f3 : (x.kind == 3) = false := by rw [hk]; rfl
  have g3 : (x.kind != 3) = true := by rw [hk]; rfl
  have f4 : (x.kind == 4) = false := by rw [hk]; rfl
  have g4 : (x.kind != 4) = true := by rw [hk]; rfl
  have f5 : (x.kind == 5) = false := by rw [hk]; rfl
  have g5 : (x.kind != 5) = true := by rw [hk]; rfl
  have f21 : (x.kind == 21) = true := by rw [hk]; rfl
  have g21 : (x.kind != 21) = false := by rw [hk]; rfl
  have f22 : (x.kind == 22) = false := by rw [hk]; rfl
  have g22 : (x.kind != 22) = true := by rw [hk]; rfl
  have f13 : (x.kind == 13) = false := by rw [hk]; rfl
  have g13 : (x.kind != 13) = true := by rw [hk]; rfl
  have f16 : (x.kind == 16) = false := by rw [hk]; rfl
  have g16 : (x.kind != 16) = true := by rw [hk]; rfl
  have f23 : (x.kind == 23) = false := by rw [hk]; rfl
  have g23 : (x.kind != 23) = true := by rw [hk]; rfl
  have f25 : (x.kind == 25) = false := by rw [hk]; rfl
  have g25 : (x.kind != 25) = true := by rw [hk]; rfl
  have f7 : (x.kind == 7) = false := by rw [hk]; rfl
  have g7 : (x.kind != 7) = true := by rw [hk]; rfl
  have f8 : (x.kind == 8) = false := by rw [hk]; rfl
  have g8 : (x.kind != 8) = true := by rw [hk]; rfl
  (try (conv => whnf)); (repeat' ((fail_if_success (with_reducible refine And.intro ?_ ?_)); (fail_if_success (with_reducible refine Exists.intro ?_ ?_)); (first | ((with_reducible refine AX.id ?_); (first | (refine (refName_ax _ (by omega)).mono ?_; (rintro _ X ⟨⟨bb, rfl, hb⟩, eX⟩; subst X; cases bb <;> (conv => whnf))) | (refine (rIsName_ax (by omega) _).mono ?_; (rintro _ X ⟨⟨bb, rfl, hb⟩, eX⟩; subst X; cases bb <;> (conv => whnf))) | (refine (rsign_ax _ _).mono ?_; (rintro _ X ⟨rfl, eX⟩; subst X; (conv => whnf))))) | (refine step0 ?_) | (apply bIf.of <;> intro hc <;> (conv => whnf)))))
  any_goals
    refine ⟨⟨false, rfl, by simp, fun h => ?_⟩, g1⟩
    exfalso
    clear b1 a1 g1 l1 rn R f9 g9 f10 g10 f17 g17 f2 g2 f3 g3 f4 g4 f5 g5 f21 g21 f22 g22 f13 g13 f16 g16 f23 g23 f25 g25 f7 g7 f8 g8
    unfold FieldsP propK at h
    (simp only [ba_ne_t, ba_ne_f, ba_eq_t, ba_eq_f, bne_iff_ne, bne_eq_false_iff_eq, decide_eq_true_eq, decide_eq_false_iff_not, beq_iff_eq, beq_eq_false_iff_ne, ne_eq, Bool.not_eq_true, Bool.not_eq_false, Bool.not_eq_true', Bool.not_eq_false'] at *)
    grind (splits := 40)
  refine SW.loop (α := Nat) (fun k => [(1, .pointer (some ⟨q, 0, none⟩)), (3, .int .i64 x.kind), (5, .int .i64 (k : Int))]) (fun k H' => k ≤ x.names.length ∧ (∀ (i : Nat) s, i < k → x.names[i]? = some s → IdentP s ∧ (x.kind = 8 → NameP s)) ∧ H' = H1) (fun k => x.names.length - k) ⟨0, ⟨rfl, rfl, rfl, trivial⟩, ⟨by omega, fun i s hi => by omega, rfl⟩⟩ ?_
  rintro k X ⟨hm, ht, e⟩
  subst X
  refine bC_sound _ _ _ _ ?_
  by_cases hml : k < x.names.length
  · have d1 : decide ((k : Int) < (x.names.length : Int)) = true := decide_eq_true (by omega)
    obtain ⟨s, hx⟩ := get_lt hml
    obtain ⟨p, i1, i2⟩ := ld_strT rn hx
    have i3 := i2 H1 g1
    have hs := tx.name s (List.mem_of_getElem? hx)
    (try (conv => whnf)); (repeat' ((fail_if_success (with_reducible refine And.intro ?_ ?_)); (fail_if_success (with_reducible refine Exists.intro ?_ ?_)); (first | ((with_reducible refine AX.id ?_); (first | (refine (refName_ax _ (by omega)).mono ?_; (rintro _ X ⟨⟨bb, rfl, hb⟩, eX⟩; subst X; cases bb <;> (conv => whnf))) | (refine (rIsName_ax (by omega) _).mono ?_; (rintro _ X ⟨⟨bb, rfl, hb⟩, eX⟩; subst X; cases bb <;> (conv => whnf))))) | (refine step0 ?_) | (apply bIf.of <;> intro hc <;> (conv => whnf)))))
    any_goals
      refine ⟨⟨false, rfl, by simp, fun h => ?_⟩, g1⟩
      exfalso
      have h15 := h.2.2.2.2.2.2.2.2.2.2.2.2.2.2.1 s (List.mem_of_getElem? hx)
      have h16 := fun h8 => h.2.2.2.2.2.2.2.2.2.2.2.2.2.2.2 h8 s (List.mem_of_getElem? hx)
      clear h b1 a1 g1 l1 rn R ht
      grind
    all_goals
      refine ⟨k + 1, ⟨rfl, rfl, congrArg (fun z => some (Value.int .i64 z)) (w_succ (by omega)), trivial⟩, ⟨hml, fun i t hi hd => ?_, rfl⟩, by show _ - (k + 1) < _ - k; omega⟩
      by_cases him : i = k
      · subst him; rw [hx] at hd; simp only [Option.some.injEq] at hd; subst hd
        clear b1 a1 g1 l1 rn R ht
        grind
      · exact ht i t (by omega) hd
  · have d1 : decide ((k : Int) < (x.names.length : Int)) = false := decide_eq_false (by omega)
    refine run ?_
    refine ⟨⟨true, rfl, ?_⟩, g1⟩
    simp only [true_iff]
    have h15 : ∀ s ∈ x.names, IdentP s := fun s hs => by
      obtain ⟨i, hi, rfl⟩ := List.getElem_of_mem hs
      exact (ht i _ (by omega) (List.getElem?_eq_getElem hi)).1
    have h16 : x.kind = 8 → ∀ s ∈ x.names, NameP s := fun h8 s hs => by
      obtain ⟨i, hi, rfl⟩ := List.getElem_of_mem hs
      exact (ht i _ (by omega) (List.getElem?_eq_getElem hi)).2 h8
    clear b1 a1 g1 l1 rn R ht f9 g9 f10 g10 f17 g17 f2 g2 f3 g3 f4 g4 f5 g5 f21 g21 f22 g22 f13 g13 f16 g16 f23 g23 f25 g25 f7 g7 f8 g8
    unfold FieldsP propK
    (simp only [ba_ne_t, ba_ne_f, ba_eq_t, ba_eq_f, bne_iff_ne, bne_eq_false_iff_eq, decide_eq_true_eq, decide_eq_false_iff_not, beq_iff_eq, beq_eq_false_iff_ne, ne_eq, Bool.not_eq_true, Bool.not_eq_false, Bool.not_eq_true', Bool.not_eq_false'] at *)
    grind (splits := 40)
theorem fields_22 {H : Heap} {l : List Value} {x : Tr} (R : NodeR H l x) (tx : Tidy x) (hk : x.kind = 22) : AX Try.prog 49 #[.agg l.toArray] H (fun v H' => (∃ b, v = .bool b ∧ (b = true ↔ FieldsP x)) ∧ H' = H) := by
  obtain ⟨ow, sn, sk, rfl, rn, -⟩ := R.inv
  refine AX.quiet ?_
  suffices hh : AX Try.prog 49 #[.agg (nodeV x sn sk).toArray] H (fun v H' => (∃ b, v = .bool b ∧ (b = true ↔ FieldsP x)) ∧ Grow H H') from hh.mono fun v _ ⟨⟨b, e, k⟩, g⟩ => ⟨e ▸ plain_bool _, ⟨b, e, k⟩, g⟩
  refine AX.body (n := 223) (rs := [.tmp 2]) Try.func49 rfl (by decide) rfl rfl (bC_sound _ _ _ _ ?_)
  (conv => whnf)
  refine Ob2.box rfl fun q H1 hq a1 g1 => ?_
  have b1 := hblk_of a1
  have l1 : alen Try.prog 22 sn H1 = some (.int .i64 x.names.length) := rn.len rfl _
  have t1 := tx.str
  have hn := ow.2.1
  simp only [maxLen] at hn
  have hsn := @signT_ne x.op
  have f9 : (x.kind == 9) = false := by rw [hk]; rfl
  have g9 : (x.kind != 9) = true := by rw [hk]; rfl
  have f10 : (x.kind == 10) = false := by rw [hk]; rfl
  have g10 : (x.kind != 10) = true := by rw [hk]; rfl
  have f17 : (x.kind == 17) = false := by rw [hk]; rfl
  have g17 : (x.kind != 17) = true := by rw [hk]; rfl
  have f2 : (x.kind == 2) = false := by rw [hk]; rfl
  have g2 : (x.kind != 2) = true := by rw [hk]; rfl
  have f3 : (x.kind == 3) = false := by rw [hk]; rfl
  have g3 : (x.kind != 3) = true := by rw [hk]; rfl
  have f4 : (x.kind == 4) = false := by rw [hk]; rfl
  have g4 : (x.kind != 4) = true := by rw [hk]; rfl
  have f5 : (x.kind == 5) = false := by rw [hk]; rfl
  have g5 : (x.kind != 5) = true := by rw [hk]; rfl
  have f21 : (x.kind == 21) = false := by rw [hk]; rfl
  have g21 : (x.kind != 21) = true := by rw [hk]; rfl
  have f22 : (x.kind == 22) = true := by rw [hk]; rfl
  have g22 : (x.kind != 22) = false := by rw [hk]; rfl
  have f13 : (x.kind == 13) = false := by rw [hk]; rfl
  have g13 : (x.kind != 13) = true := by rw [hk]; rfl
  have f16 : (x.kind == 16) = false := by rw [hk]; rfl
  have g16 : (x.kind != 16) = true := by rw [hk]; rfl
  have f23 : (x.kind == 23) = false := by rw [hk]; rfl
  have g23 : (x.kind != 23) = true := by rw [hk]; rfl
  have f25 : (x.kind == 25) = false := by rw [hk]; rfl
  have g25 : (x.kind != 25) = true := by rw [hk]; rfl
  have f7 : (x.kind == 7) = false := by rw [hk]; rfl
  have g7 : (x.kind != 7) = true := by rw [hk]; rfl
  have f8 : (x.kind == 8) = false := by rw [hk]; rfl
  have g8 : (x.kind != 8) = true := by rw [hk]; rfl
  (try (conv => whnf)); (repeat' ((fail_if_success (with_reducible refine And.intro ?_ ?_)); (fail_if_success (with_reducible refine Exists.intro ?_ ?_)); (first | ((with_reducible refine AX.id ?_); (first | (refine (refName_ax _ (by omega)).mono ?_; (rintro _ X ⟨⟨bb, rfl, hb⟩, eX⟩; subst X; cases bb <;> (conv => whnf))) | (refine (rIsName_ax (by omega) _).mono ?_; (rintro _ X ⟨⟨bb, rfl, hb⟩, eX⟩; subst X; cases bb <;> (conv => whnf))) | (refine (rsign_ax _ _).mono ?_; (rintro _ X ⟨rfl, eX⟩; subst X; (conv => whnf))))) | (refine step0 ?_) | (apply bIf.of <;> intro hc <;> (conv => whnf)))))
  any_goals
    refine ⟨⟨false, rfl, by simp, fun h => ?_⟩, g1⟩
    exfalso
    clear b1 a1 g1 l1 rn R f9 g9 f10 g10 f17 g17 f2 g2 f3 g3 f4 g4 f5 g5 f21 g21 f22 g22 f13 g13 f16 g16 f23 g23 f25 g25 f7 g7 f8 g8
    unfold FieldsP propK at h
    (simp only [ba_ne_t, ba_ne_f, ba_eq_t, ba_eq_f, bne_iff_ne, bne_eq_false_iff_eq, decide_eq_true_eq, decide_eq_false_iff_not, beq_iff_eq, beq_eq_false_iff_ne, ne_eq, Bool.not_eq_true, Bool.not_eq_false, Bool.not_eq_true', Bool.not_eq_false'] at *)
    grind (splits := 40)
  refine SW.loop (α := Nat) (fun k => [(1, .pointer (some ⟨q, 0, none⟩)), (3, .int .i64 x.kind), (5, .int .i64 (k : Int))]) (fun k H' => k ≤ x.names.length ∧ (∀ (i : Nat) s, i < k → x.names[i]? = some s → IdentP s ∧ (x.kind = 8 → NameP s)) ∧ H' = H1) (fun k => x.names.length - k) ⟨0, ⟨rfl, rfl, rfl, trivial⟩, ⟨by omega, fun i s hi => by omega, rfl⟩⟩ ?_
  rintro k X ⟨hm, ht, e⟩
  subst X
  refine bC_sound _ _ _ _ ?_
  by_cases hml : k < x.names.length
  · have d1 : decide ((k : Int) < (x.names.length : Int)) = true := decide_eq_true (by omega)
    obtain ⟨s, hx⟩ := get_lt hml
    obtain ⟨p, i1, i2⟩ := ld_strT rn hx
    have i3 := i2 H1 g1
    have hs := tx.name s (List.mem_of_getElem? hx)
    (try (conv => whnf)); (repeat' ((fail_if_success (with_reducible refine And.intro ?_ ?_)); (fail_if_success (with_reducible refine Exists.intro ?_ ?_)); (first | ((with_reducible refine AX.id ?_); (first | (refine (refName_ax _ (by omega)).mono ?_; (rintro _ X ⟨⟨bb, rfl, hb⟩, eX⟩; subst X; cases bb <;> (conv => whnf))) | (refine (rIsName_ax (by omega) _).mono ?_; (rintro _ X ⟨⟨bb, rfl, hb⟩, eX⟩; subst X; cases bb <;> (conv => whnf))))) | (refine step0 ?_) | (apply bIf.of <;> intro hc <;> (conv => whnf)))))
    any_goals
      refine ⟨⟨false, rfl, by simp, fun h => ?_⟩, g1⟩
      exfalso
      have h15 := h.2.2.2.2.2.2.2.2.2.2.2.2.2.2.1 s (List.mem_of_getElem? hx)
      have h16 := fun h8 => h.2.2.2.2.2.2.2.2.2.2.2.2.2.2.2 h8 s (List.mem_of_getElem? hx)
      clear h b1 a1 g1 l1 rn R ht
      grind
    all_goals
      refine ⟨k + 1, ⟨rfl, rfl, congrArg (fun z => some (Value.int .i64 z)) (w_succ (by omega)), trivial⟩, ⟨hml, fun i t hi hd => ?_, rfl⟩, by show _ - (k + 1) < _ - k; omega⟩
      by_cases him : i = k
      · subst him; rw [hx] at hd; simp only [Option.some.injEq] at hd; subst hd
        clear b1 a1 g1 l1 rn R ht
        grind
      · exact ht i t (by omega) hd
  · have d1 : decide ((k : Int) < (x.names.length : Int)) = false := decide_eq_false (by omega)
    refine run ?_
    refine ⟨⟨true, rfl, ?_⟩, g1⟩
    simp only [true_iff]
    have h15 : ∀ s ∈ x.names, IdentP s := fun s hs => by
      obtain ⟨i, hi, rfl⟩ := List.getElem_of_mem hs
      exact (ht i _ (by omega) (List.getElem?_eq_getElem hi)).1
    have h16 : x.kind = 8 → ∀ s ∈ x.names, NameP s := fun h8 s hs => by
      obtain ⟨i, hi, rfl⟩ := List.getElem_of_mem hs
      exact (ht i _ (by omega) (List.getElem?_eq_getElem hi)).2 h8
    clear b1 a1 g1 l1 rn R ht f9 g9 f10 g10 f17 g17 f2 g2 f3 g3 f4 g4 f5 g5 f21 g21 f22 g22 f13 g13 f16 g16 f23 g23 f25 g25 f7 g7 f8 g8
    unfold FieldsP propK
    (simp only [ba_ne_t, ba_ne_f, ba_eq_t, ba_eq_f, bne_iff_ne, bne_eq_false_iff_eq, decide_eq_true_eq, decide_eq_false_iff_not, beq_iff_eq, beq_eq_false_iff_ne, ne_eq, Bool.not_eq_true, Bool.not_eq_false, Bool.not_eq_true', Bool.not_eq_false'] at *)
    grind (splits := 40)
theorem fields_13 {H : Heap} {l : List Value} {x : Tr} (R : NodeR H l x) (tx : Tidy x) (hk : x.kind = 13) : AX Try.prog 49 #[.agg l.toArray] H (fun v H' => (∃ b, v = .bool b ∧ (b = true ↔ FieldsP x)) ∧ H' = H) := by
  obtain ⟨ow, sn, sk, rfl, rn, -⟩ := R.inv
  refine AX.quiet ?_
  suffices hh : AX Try.prog 49 #[.agg (nodeV x sn sk).toArray] H (fun v H' => (∃ b, v = .bool b ∧ (b = true ↔ FieldsP x)) ∧ Grow H H') from hh.mono fun v _ ⟨⟨b, e, k⟩, g⟩ => ⟨e ▸ plain_bool _, ⟨b, e, k⟩, g⟩
  refine AX.body (n := 223) (rs := [.tmp 2]) Try.func49 rfl (by decide) rfl rfl (bC_sound _ _ _ _ ?_)
  (conv => whnf)
  refine Ob2.box rfl fun q H1 hq a1 g1 => ?_
  have b1 := hblk_of a1
  have l1 : alen Try.prog 22 sn H1 = some (.int .i64 x.names.length) := rn.len rfl _
  have t1 := tx.str
  have hn := ow.2.1
  simp only [maxLen] at hn
  have hsn := @signT_ne x.op
  have f9 : (x.kind == 9) = false := by rw [hk]; rfl
  have g9 : (x.kind != 9) = true := by rw [hk]; rfl
  have f10 : (x.kind == 10) = false := by rw [hk]; rfl
  have g10 : (x.kind != 10) = true := by rw [hk]; rfl
  have f17 : (x.kind == 17) = false := by rw [hk]; rfl
  have g17 : (x.kind != 17) = true := by rw [hk]; rfl
  have f2 : (x.kind == 2) = false := by rw [hk]; rfl
  have g2 : (x.kind != 2) = true := by rw [hk]; rfl
  have f3 : (x.kind == 3) = false := by rw [hk]; rfl
  have g3 : (x.kind != 3) = true := by rw [hk]; rfl
  have f4 : (x.kind == 4) = false := by rw [hk]; rfl
  have g4 : (x.kind != 4) = true := by rw [hk]; rfl
  have f5 : (x.kind == 5) = false := by rw [hk]; rfl
  have g5 : (x.kind != 5) = true := by rw [hk]; rfl
  have f21 : (x.kind == 21) = false := by rw [hk]; rfl
  have g21 : (x.kind != 21) = true := by rw [hk]; rfl
  have f22 : (x.kind == 22) = false := by rw [hk]; rfl
  have g22 : (x.kind != 22) = true := by rw [hk]; rfl
  have f13 : (x.kind == 13) = true := by rw [hk]; rfl
  have g13 : (x.kind != 13) = false := by rw [hk]; rfl
  have f16 : (x.kind == 16) = false := by rw [hk]; rfl
  have g16 : (x.kind != 16) = true := by rw [hk]; rfl
  have f23 : (x.kind == 23) = false := by rw [hk]; rfl
  have g23 : (x.kind != 23) = true := by rw [hk]; rfl
  have f25 : (x.kind == 25) = false := by rw [hk]; rfl
  have g25 : (x.kind != 25) = true := by rw [hk]; rfl
  have f7 : (x.kind == 7) = false := by rw [hk]; rfl
  have g7 : (x.kind != 7) = true := by rw [hk]; rfl
  have f8 : (x.kind == 8) = false := by rw [hk]; rfl
  have g8 : (x.kind != 8) = true := by rw [hk]; rfl
  (try (conv => whnf)); (repeat' ((fail_if_success (with_reducible refine And.intro ?_ ?_)); (fail_if_success (with_reducible refine Exists.intro ?_ ?_)); (first | ((with_reducible refine AX.id ?_); (first | (refine (refName_ax _ (by omega)).mono ?_; (rintro _ X ⟨⟨bb, rfl, hb⟩, eX⟩; subst X; cases bb <;> (conv => whnf))) | (refine (rIsName_ax (by omega) _).mono ?_; (rintro _ X ⟨⟨bb, rfl, hb⟩, eX⟩; subst X; cases bb <;> (conv => whnf))) | (refine (rsign_ax _ _).mono ?_; (rintro _ X ⟨rfl, eX⟩; subst X; (conv => whnf))))) | (refine step0 ?_) | (apply bIf.of <;> intro hc <;> (conv => whnf)))))
  any_goals
    refine ⟨⟨false, rfl, by simp, fun h => ?_⟩, g1⟩
    exfalso
    clear b1 a1 g1 l1 rn R f9 g9 f10 g10 f17 g17 f2 g2 f3 g3 f4 g4 f5 g5 f21 g21 f22 g22 f13 g13 f16 g16 f23 g23 f25 g25 f7 g7 f8 g8
    unfold FieldsP propK at h
    (simp only [ba_ne_t, ba_ne_f, ba_eq_t, ba_eq_f, bne_iff_ne, bne_eq_false_iff_eq, decide_eq_true_eq, decide_eq_false_iff_not, beq_iff_eq, beq_eq_false_iff_ne, ne_eq, Bool.not_eq_true, Bool.not_eq_false, Bool.not_eq_true', Bool.not_eq_false'] at *)
    grind (splits := 40)
  refine SW.loop (α := Nat) (fun k => [(1, .pointer (some ⟨q, 0, none⟩)), (3, .int .i64 x.kind), (5, .int .i64 (k : Int))]) (fun k H' => k ≤ x.names.length ∧ (∀ (i : Nat) s, i < k → x.names[i]? = some s → IdentP s ∧ (x.kind = 8 → NameP s)) ∧ H' = H1) (fun k => x.names.length - k) ⟨0, ⟨rfl, rfl, rfl, trivial⟩, ⟨by omega, fun i s hi => by omega, rfl⟩⟩ ?_
  rintro k X ⟨hm, ht, e⟩
  subst X
  refine bC_sound _ _ _ _ ?_
  by_cases hml : k < x.names.length
  · have d1 : decide ((k : Int) < (x.names.length : Int)) = true := decide_eq_true (by omega)
    obtain ⟨s, hx⟩ := get_lt hml
    obtain ⟨p, i1, i2⟩ := ld_strT rn hx
    have i3 := i2 H1 g1
    have hs := tx.name s (List.mem_of_getElem? hx)
    (try (conv => whnf)); (repeat' ((fail_if_success (with_reducible refine And.intro ?_ ?_)); (fail_if_success (with_reducible refine Exists.intro ?_ ?_)); (first | ((with_reducible refine AX.id ?_); (first | (refine (refName_ax _ (by omega)).mono ?_; (rintro _ X ⟨⟨bb, rfl, hb⟩, eX⟩; subst X; cases bb <;> (conv => whnf))) | (refine (rIsName_ax (by omega) _).mono ?_; (rintro _ X ⟨⟨bb, rfl, hb⟩, eX⟩; subst X; cases bb <;> (conv => whnf))))) | (refine step0 ?_) | (apply bIf.of <;> intro hc <;> (conv => whnf)))))
    any_goals
      refine ⟨⟨false, rfl, by simp, fun h => ?_⟩, g1⟩
      exfalso
      have h15 := h.2.2.2.2.2.2.2.2.2.2.2.2.2.2.1 s (List.mem_of_getElem? hx)
      have h16 := fun h8 => h.2.2.2.2.2.2.2.2.2.2.2.2.2.2.2 h8 s (List.mem_of_getElem? hx)
      clear h b1 a1 g1 l1 rn R ht
      grind
    all_goals
      refine ⟨k + 1, ⟨rfl, rfl, congrArg (fun z => some (Value.int .i64 z)) (w_succ (by omega)), trivial⟩, ⟨hml, fun i t hi hd => ?_, rfl⟩, by show _ - (k + 1) < _ - k; omega⟩
      by_cases him : i = k
      · subst him; rw [hx] at hd; simp only [Option.some.injEq] at hd; subst hd
        clear b1 a1 g1 l1 rn R ht
        grind
      · exact ht i t (by omega) hd
  · have d1 : decide ((k : Int) < (x.names.length : Int)) = false := decide_eq_false (by omega)
    refine run ?_
    refine ⟨⟨true, rfl, ?_⟩, g1⟩
    simp only [true_iff]
    have h15 : ∀ s ∈ x.names, IdentP s := fun s hs => by
      obtain ⟨i, hi, rfl⟩ := List.getElem_of_mem hs
      exact (ht i _ (by omega) (List.getElem?_eq_getElem hi)).1
    have h16 : x.kind = 8 → ∀ s ∈ x.names, NameP s := fun h8 s hs => by
      obtain ⟨i, hi, rfl⟩ := List.getElem_of_mem hs
      exact (ht i _ (by omega) (List.getElem?_eq_getElem hi)).2 h8
    clear b1 a1 g1 l1 rn R ht f9 g9 f10 g10 f17 g17 f2 g2 f3 g3 f4 g4 f5 g5 f21 g21 f22 g22 f13 g13 f16 g16 f23 g23 f25 g25 f7 g7 f8 g8
    unfold FieldsP propK
    (simp only [ba_ne_t, ba_ne_f, ba_eq_t, ba_eq_f, bne_iff_ne, bne_eq_false_iff_eq, decide_eq_true_eq, decide_eq_false_iff_not, beq_iff_eq, beq_eq_false_iff_ne, ne_eq, Bool.not_eq_true, Bool.not_eq_false, Bool.not_eq_true', Bool.not_eq_false'] at *)
    grind (splits := 40)
theorem fields_16 {H : Heap} {l : List Value} {x : Tr} (R : NodeR H l x) (tx : Tidy x) (hk : x.kind = 16) : AX Try.prog 49 #[.agg l.toArray] H (fun v H' => (∃ b, v = .bool b ∧ (b = true ↔ FieldsP x)) ∧ H' = H) := by
  obtain ⟨ow, sn, sk, rfl, rn, -⟩ := R.inv
  refine AX.quiet ?_
  suffices hh : AX Try.prog 49 #[.agg (nodeV x sn sk).toArray] H (fun v H' => (∃ b, v = .bool b ∧ (b = true ↔ FieldsP x)) ∧ Grow H H') from hh.mono fun v _ ⟨⟨b, e, k⟩, g⟩ => ⟨e ▸ plain_bool _, ⟨b, e, k⟩, g⟩
  refine AX.body (n := 223) (rs := [.tmp 2]) Try.func49 rfl (by decide) rfl rfl (bC_sound _ _ _ _ ?_)
  (conv => whnf)
  refine Ob2.box rfl fun q H1 hq a1 g1 => ?_
  have b1 := hblk_of a1
  have l1 : alen Try.prog 22 sn H1 = some (.int .i64 x.names.length) := rn.len rfl _
  have t1 := tx.str
  have hn := ow.2.1
  simp only [maxLen] at hn
  have hsn := @signT_ne x.op
  have f9 : (x.kind == 9) = false := by rw [hk]; rfl
  have g9 : (x.kind != 9) = true := by rw [hk]; rfl
  have f10 : (x.kind == 10) = false := by rw [hk]; rfl
  have g10 : (x.kind != 10) = true := by rw [hk]; rfl
  have f17 : (x.kind == 17) = false := by rw [hk]; rfl
  have g17 : (x.kind != 17) = true := by rw [hk]; rfl
  have f2 : (x.kind == 2) = false := by rw [hk]; rfl
  have g2 : (x.kind != 2) = true := by rw [hk]; rfl
  have f3 : (x.kind == 3) = false := by rw [hk]; rfl
  have g3 : (x.kind != 3) = true := by rw [hk]; rfl
  have f4 : (x.kind == 4) = false := by rw [hk]; rfl
  have g4 : (x.kind != 4) = true := by rw [hk]; rfl
  have f5 : (x.kind == 5) = false := by rw [hk]; rfl
  have g5 : (x.kind != 5) = true := by rw [hk]; rfl
  have f21 : (x.kind == 21) = false := by rw [hk]; rfl
  have g21 : (x.kind != 21) = true := by rw [hk]; rfl
  have f22 : (x.kind == 22) = false := by rw [hk]; rfl
  have g22 : (x.kind != 22) = true := by rw [hk]; rfl
  have f13 : (x.kind == 13) = false := by rw [hk]; rfl
  have g13 : (x.kind != 13) = true := by rw [hk]; rfl
  have f16 : (x.kind == 16) = true := by rw [hk]; rfl
  have g16 : (x.kind != 16) = false := by rw [hk]; rfl
  have f23 : (x.kind == 23) = false := by rw [hk]; rfl
  have g23 : (x.kind != 23) = true := by rw [hk]; rfl
  have f25 : (x.kind == 25) = false := by rw [hk]; rfl
  have g25 : (x.kind != 25) = true := by rw [hk]; rfl
  have f7 : (x.kind == 7) = false := by rw [hk]; rfl
  have g7 : (x.kind != 7) = true := by rw [hk]; rfl
  have f8 : (x.kind == 8) = false := by rw [hk]; rfl
  have g8 : (x.kind != 8) = true := by rw [hk]; rfl
  (try (conv => whnf)); (repeat' ((fail_if_success (with_reducible refine And.intro ?_ ?_)); (fail_if_success (with_reducible refine Exists.intro ?_ ?_)); (first | ((with_reducible refine AX.id ?_); (first | (refine (refName_ax _ (by omega)).mono ?_; (rintro _ X ⟨⟨bb, rfl, hb⟩, eX⟩; subst X; cases bb <;> (conv => whnf))) | (refine (rIsName_ax (by omega) _).mono ?_; (rintro _ X ⟨⟨bb, rfl, hb⟩, eX⟩; subst X; cases bb <;> (conv => whnf))) | (refine (rsign_ax _ _).mono ?_; (rintro _ X ⟨rfl, eX⟩; subst X; (conv => whnf))))) | (refine step0 ?_) | (apply bIf.of <;> intro hc <;> (conv => whnf)))))
  any_goals
    refine ⟨⟨false, rfl, by simp, fun h => ?_⟩, g1⟩
    exfalso
    clear b1 a1 g1 l1 rn R f9 g9 f10 g10 f17 g17 f2 g2 f3 g3 f4 g4 f5 g5 f21 g21 f22 g22 f13 g13 f16 g16 f23 g23 f25 g25 f7 g7 f8 g8
    unfold FieldsP propK at h
    (simp only [ba_ne_t, ba_ne_f, ba_eq_t, ba_eq_f, bne_iff_ne, bne_eq_false_iff_eq, decide_eq_true_eq, decide_eq_false_iff_not, beq_iff_eq, beq_eq_false_iff_ne, ne_eq, Bool.not_eq_true, Bool.not_eq_false, Bool.not_eq_true', Bool.not_eq_false'] at *)
    grind (splits := 40)
  refine SW.loop (α := Nat) (fun k => [(1, .pointer (some ⟨q, 0, none⟩)), (3, .int .i64 x.kind), (5, .int .i64 (k : Int))]) (fun k H' => k ≤ x.names.length ∧ (∀ (i : Nat) s, i < k → x.names[i]? = some s → IdentP s ∧ (x.kind = 8 → NameP s)) ∧ H' = H1) (fun k => x.names.length - k) ⟨0, ⟨rfl, rfl, rfl, trivial⟩, ⟨by omega, fun i s hi => by omega, rfl⟩⟩ ?_
  rintro k X ⟨hm, ht, e⟩
  subst X
  refine bC_sound _ _ _ _ ?_
  by_cases hml : k < x.names.length
  · have d1 : decide ((k : Int) < (x.names.length : Int)) = true := decide_eq_true (by omega)
    obtain ⟨s, hx⟩ := get_lt hml
    obtain ⟨p, i1, i2⟩ := ld_strT rn hx
    have i3 := i2 H1 g1
    have hs := tx.name s (List.mem_of_getElem? hx)
    (try (conv => whnf)); (repeat' ((fail_if_success (with_reducible refine And.intro ?_ ?_)); (fail_if_success (with_reducible refine Exists.intro ?_ ?_)); (first | ((with_reducible refine AX.id ?_); (first | (refine (refName_ax _ (by omega)).mono ?_; (rintro _ X ⟨⟨bb, rfl, hb⟩, eX⟩; subst X; cases bb <;> (conv => whnf))) | (refine (rIsName_ax (by omega) _).mono ?_; (rintro _ X ⟨⟨bb, rfl, hb⟩, eX⟩; subst X; cases bb <;> (conv => whnf))))) | (refine step0 ?_) | (apply bIf.of <;> intro hc <;> (conv => whnf)))))
    any_goals
      refine ⟨⟨false, rfl, by simp, fun h => ?_⟩, g1⟩
      exfalso
      have h15 := h.2.2.2.2.2.2.2.2.2.2.2.2.2.2.1 s (List.mem_of_getElem? hx)
      have h16 := fun h8 => h.2.2.2.2.2.2.2.2.2.2.2.2.2.2.2 h8 s (List.mem_of_getElem? hx)
      clear h b1 a1 g1 l1 rn R ht
      grind
    all_goals
      refine ⟨k + 1, ⟨rfl, rfl, congrArg (fun z => some (Value.int .i64 z)) (w_succ (by omega)), trivial⟩, ⟨hml, fun i t hi hd => ?_, rfl⟩, by show _ - (k + 1) < _ - k; omega⟩
      by_cases him : i = k
      · subst him; rw [hx] at hd; simp only [Option.some.injEq] at hd; subst hd
        clear b1 a1 g1 l1 rn R ht
        grind
      · exact ht i t (by omega) hd
  · have d1 : decide ((k : Int) < (x.names.length : Int)) = false := decide_eq_false (by omega)
    refine run ?_
    refine ⟨⟨true, rfl, ?_⟩, g1⟩
    simp only [true_iff]
    have h15 : ∀ s ∈ x.names, IdentP s := fun s hs => by
      obtain ⟨i, hi, rfl⟩ := List.getElem_of_mem hs
      exact (ht i _ (by omega) (List.getElem?_eq_getElem hi)).1
    have h16 : x.kind = 8 → ∀ s ∈ x.names, NameP s := fun h8 s hs => by
      obtain ⟨i, hi, rfl⟩ := List.getElem_of_mem hs
      exact (ht i _ (by omega) (List.getElem?_eq_getElem hi)).2 h8
    clear b1 a1 g1 l1 rn R ht f9 g9 f10 g10 f17 g17 f2 g2 f3 g3 f4 g4 f5 g5 f21 g21 f22 g22 f13 g13 f16 g16 f23 g23 f25 g25 f7 g7 f8 g8
    unfold FieldsP propK
    (simp only [ba_ne_t, ba_ne_f, ba_eq_t, ba_eq_f, bne_iff_ne, bne_eq_false_iff_eq, decide_eq_true_eq, decide_eq_false_iff_not, beq_iff_eq, beq_eq_false_iff_ne, ne_eq, Bool.not_eq_true, Bool.not_eq_false, Bool.not_eq_true', Bool.not_eq_false'] at *)
    grind (splits := 40)
theorem fields_23 {H : Heap} {l : List Value} {x : Tr} (R : NodeR H l x) (tx : Tidy x) (hk : x.kind = 23) : AX Try.prog 49 #[.agg l.toArray] H (fun v H' => (∃ b, v = .bool b ∧ (b = true ↔ FieldsP x)) ∧ H' = H) := by
  obtain ⟨ow, sn, sk, rfl, rn, -⟩ := R.inv
  refine AX.quiet ?_
  suffices hh : AX Try.prog 49 #[.agg (nodeV x sn sk).toArray] H (fun v H' => (∃ b, v = .bool b ∧ (b = true ↔ FieldsP x)) ∧ Grow H H') from hh.mono fun v _ ⟨⟨b, e, k⟩, g⟩ => ⟨e ▸ plain_bool _, ⟨b, e, k⟩, g⟩
  refine AX.body (n := 223) (rs := [.tmp 2]) Try.func49 rfl (by decide) rfl rfl (bC_sound _ _ _ _ ?_)
  (conv => whnf)
  refine Ob2.box rfl fun q H1 hq a1 g1 => ?_
  have b1 := hblk_of a1
  have l1 : alen Try.prog 22 sn H1 = some (.int .i64 x.names.length) := rn.len rfl _
  have t1 := tx.str
  have hn := ow.2.1
  simp only [maxLen] at hn
  have hsn := @signT_ne x.op
  have f9 : (x.kind == 9) = false := by rw [hk]; rfl
  have g9 : (x.kind != 9) = true := by rw [hk]; rfl
  have f10 : (x.kind == 10) = false := by rw [hk]; rfl
  have g10 : (x.kind != 10) = true := by rw [hk]; rfl
  have f17 : (x.kind == 17) = false := by rw [hk]; rfl
  have g17 : (x.kind != 17) = true := by rw [hk]; rfl
  have f2 : (x.kind == 2) = false := by rw [hk]; rfl
  have g2 : (x.kind != 2) = true := by rw [hk]; rfl
  have f3 : (x.kind == 3) = false := by rw [hk]; rfl
  have g3 : (x.kind != 3) = true := by rw [hk]; rfl
  have f4 : (x.kind == 4) = false := by rw [hk]; rfl
  have g4 : (x.kind != 4) = true := by rw [hk]; rfl
  have f5 : (x.kind == 5) = false := by rw [hk]; rfl
  have g5 : (x.kind != 5) = true := by rw [hk]; rfl
  have f21 : (x.kind == 21) = false := by rw [hk]; rfl
  have g21 : (x.kind != 21) = true := by rw [hk]; rfl
  have f22 : (x.kind == 22) = false := by rw [hk]; rfl
  have g22 : (x.kind != 22) = true := by rw [hk]; rfl
  have f13 : (x.kind == 13) = false := by rw [hk]; rfl
  have g13 : (x.kind != 13) = true := by rw [hk]; rfl
  have f16 : (x.kind == 16) = false := by rw [hk]; rfl
  have g16 : (x.kind != 16) = true := by rw [hk]; rfl
  have f23 : (x.kind == 23) = true := by rw [hk]; rfl
  have g23 : (x.kind != 23) = false := by rw [hk]; rfl
  have f25 : (x.kind == 25) = false := by rw [hk]; rfl
  have g25 : (x.kind != 25) = true := by rw [hk]; rfl
  have f7 : (x.kind == 7) = false := by rw [hk]; rfl
  have g7 : (x.kind != 7) = true := by rw [hk]; rfl
  have f8 : (x.kind == 8) = false := by rw [hk]; rfl
  have g8 : (x.kind != 8) = true := by rw [hk]; rfl
  (try (conv => whnf)); (repeat' ((fail_if_success (with_reducible refine And.intro ?_ ?_)); (fail_if_success (with_reducible refine Exists.intro ?_ ?_)); (first | ((with_reducible refine AX.id ?_); (first | (refine (refName_ax _ (by omega)).mono ?_; (rintro _ X ⟨⟨bb, rfl, hb⟩, eX⟩; subst X; cases bb <;> (conv => whnf))) | (refine (rIsName_ax (by omega) _).mono ?_; (rintro _ X ⟨⟨bb, rfl, hb⟩, eX⟩; subst X; cases bb <;> (conv => whnf))) | (refine (rsign_ax _ _).mono ?_; (rintro _ X ⟨rfl, eX⟩; subst X; (conv => whnf))))) | (refine step0 ?_) | (apply bIf.of <;> intro hc <;> (conv => whnf)))))
  any_goals
    refine ⟨⟨false, rfl, by simp, fun h => ?_⟩, g1⟩
    exfalso
    clear b1 a1 g1 l1 rn R f9 g9 f10 g10 f17 g17 f2 g2 f3 g3 f4 g4 f5 g5 f21 g21 f22 g22 f13 g13 f16 g16 f23 g23 f25 g25 f7 g7 f8 g8
    unfold FieldsP propK at h
    (simp only [ba_ne_t, ba_ne_f, ba_eq_t, ba_eq_f, bne_iff_ne, bne_eq_false_iff_eq, decide_eq_true_eq, decide_eq_false_iff_not, beq_iff_eq, beq_eq_false_iff_ne, ne_eq, Bool.not_eq_true, Bool.not_eq_false, Bool.not_eq_true', Bool.not_eq_false'] at *)
    grind (splits := 40)
  refine SW.loop (α := Nat) (fun k => [(1, .pointer (some ⟨q, 0, none⟩)), (3, .int .i64 x.kind), (5, .int .i64 (k : Int))]) (fun k H' => k ≤ x.names.length ∧ (∀ (i : Nat) s, i < k → x.names[i]? = some s → IdentP s ∧ (x.kind = 8 → NameP s)) ∧ H' = H1) (fun k => x.names.length - k) ⟨0, ⟨rfl, rfl, rfl, trivial⟩, ⟨by omega, fun i s hi => by omega, rfl⟩⟩ ?_
  rintro k X ⟨hm, ht, e⟩
  subst X
  refine bC_sound _ _ _ _ ?_
  by_cases hml : k < x.names.length
  · have d1 : decide ((k : Int) < (x.names.length : Int)) = true := decide_eq_true (by omega)
    obtain ⟨s, hx⟩ := get_lt hml
    obtain ⟨p, i1, i2⟩ := ld_strT rn hx
    have i3 := i2 H1 g1
    have hs := tx.name s (List.mem_of_getElem? hx)
    (try (conv => whnf)); (repeat' ((fail_if_success (with_reducible refine And.intro ?_ ?_)); (fail_if_success (with_reducible refine Exists.intro ?_ ?_)); (first | ((with_reducible refine AX.id ?_); (first | (refine (refName_ax _ (by omega)).mono ?_; (rintro _ X ⟨⟨bb, rfl, hb⟩, eX⟩; subst X; cases bb <;> (conv => whnf))) | (refine (rIsName_ax (by omega) _).mono ?_; (rintro _ X ⟨⟨bb, rfl, hb⟩, eX⟩; subst X; cases bb <;> (conv => whnf))))) | (refine step0 ?_) | (apply bIf.of <;> intro hc <;> (conv => whnf)))))
    any_goals
      refine ⟨⟨false, rfl, by simp, fun h => ?_⟩, g1⟩
      exfalso
      have h15 := h.2.2.2.2.2.2.2.2.2.2.2.2.2.2.1 s (List.mem_of_getElem? hx)
      have h16 := fun h8 => h.2.2.2.2.2.2.2.2.2.2.2.2.2.2.2 h8 s (List.mem_of_getElem? hx)
      clear h b1 a1 g1 l1 rn R ht
      grind
    all_goals
      refine ⟨k + 1, ⟨rfl, rfl, congrArg (fun z => some (Value.int .i64 z)) (w_succ (by omega)), trivial⟩, ⟨hml, fun i t hi hd => ?_, rfl⟩, by show _ - (k + 1) < _ - k; omega⟩
      by_cases him : i = k
      · subst him; rw [hx] at hd; simp only [Option.some.injEq] at hd; subst hd
        clear b1 a1 g1 l1 rn R ht
        grind
      · exact ht i t (by omega) hd
  · have d1 : decide ((k : Int) < (x.names.length : Int)) = false := decide_eq_false (by omega)
    refine run ?_
    refine ⟨⟨true, rfl, ?_⟩, g1⟩
    simp only [true_iff]
    have h15 : ∀ s ∈ x.names, IdentP s := fun s hs => by
      obtain ⟨i, hi, rfl⟩ := List.getElem_of_mem hs
      exact (ht i _ (by omega) (List.getElem?_eq_getElem hi)).1
    have h16 : x.kind = 8 → ∀ s ∈ x.names, NameP s := fun h8 s hs => by
      obtain ⟨i, hi, rfl⟩ := List.getElem_of_mem hs
      exact (ht i _ (by omega) (List.getElem?_eq_getElem hi)).2 h8
    clear b1 a1 g1 l1 rn R ht f9 g9 f10 g10 f17 g17 f2 g2 f3 g3 f4 g4 f5 g5 f21 g21 f22 g22 f13 g13 f16 g16 f23 g23 f25 g25 f7 g7 f8 g8
    unfold FieldsP propK
    (simp only [ba_ne_t, ba_ne_f, ba_eq_t, ba_eq_f, bne_iff_ne, bne_eq_false_iff_eq, decide_eq_true_eq, decide_eq_false_iff_not, beq_iff_eq, beq_eq_false_iff_ne, ne_eq, Bool.not_eq_true, Bool.not_eq_false, Bool.not_eq_true', Bool.not_eq_false'] at *)
    grind (splits := 40)
theorem fields_25 {H : Heap} {l : List Value} {x : Tr} (R : NodeR H l x) (tx : Tidy x) (hk : x.kind = 25) : AX Try.prog 49 #[.agg l.toArray] H (fun v H' => (∃ b, v = .bool b ∧ (b = true ↔ FieldsP x)) ∧ H' = H) := by
  obtain ⟨ow, sn, sk, rfl, rn, -⟩ := R.inv
  refine AX.quiet ?_
  suffices hh : AX Try.prog 49 #[.agg (nodeV x sn sk).toArray] H (fun v H' => (∃ b, v = .bool b ∧ (b = true ↔ FieldsP x)) ∧ Grow H H') from hh.mono fun v _ ⟨⟨b, e, k⟩, g⟩ => ⟨e ▸ plain_bool _, ⟨b, e, k⟩, g⟩
  refine AX.body (n := 223) (rs := [.tmp 2]) Try.func49 rfl (by decide) rfl rfl (bC_sound _ _ _ _ ?_)
  (conv => whnf)
  refine Ob2.box rfl fun q H1 hq a1 g1 => ?_
  have b1 := hblk_of a1
  have l1 : alen Try.prog 22 sn H1 = some (.int .i64 x.names.length) := rn.len rfl _
  have t1 := tx.str
  have hn := ow.2.1
  simp only [maxLen] at hn
  have hsn := @signT_ne x.op
  have f9 : (x.kind == 9) = false := by rw [hk]; rfl
  have g9 : (x.kind != 9) = true := by rw [hk]; rfl
  have f10 : (x.kind == 10) = false := by rw [hk]; rfl
  have g10 : (x.kind != 10) = true := by rw [hk]; rfl
  have f17 : (x.kind == 17) = false := by rw [hk]; rfl
  have g17 : (x.kind != 17) = true := by rw [hk]; rfl
  have f2 : (x.kind == 2) = false := by rw [hk]; rfl
  have g2 : (x.kind != 2) = true := by rw [hk]; rfl
  have f3 : (x.kind == 3) = false := by rw [hk]; rfl
  have g3 : (x.kind != 3) = true := by rw [hk]; rfl
  have f4 : (x.kind == 4) = false := by rw [hk]; rfl
  have g4 : (x.kind != 4) = true := by rw [hk]; rfl
  have f5 : (x.kind == 5) = false := by rw [hk]; rfl
  have g5 : (x.kind != 5) = true := by rw [hk]; rfl
  have f21 : (x.kind == 21) = false := by rw [hk]; rfl
  have g21 : (x.kind != 21) = true := by rw [hk]; rfl
  have f22 : (x.kind == 22) = false := by rw [hk]; rfl
  have g22 : (x.kind != 22) = true := by rw [hk]; rfl
  have f13 : (x.kind == 13) = false := by rw [hk]; rfl
  have g13 : (x.kind != 13) = true := by rw [hk]; rfl
  have f16 : (x.kind == 16) = false := by rw [hk]; rfl
  have g16 : (x.kind != 16) = true := by rw [hk]; rfl
  have f23 : (x.kind == 23) = false := by rw [hk]; rfl
  have g23 : (x.kind != 23) = true := by rw [hk]; rfl
  have f25 : (x.kind == 25) = true := by rw [hk]; rfl
  have g25 : (x.kind != 25) = false := by rw [hk]; rfl
  have f7 : (x.kind == 7) = false := by rw [hk]; rfl
  have g7 : (x.kind != 7) = true := by rw [hk]; rfl
  have f8 : (x.kind == 8) = false := by rw [hk]; rfl
  have g8 : (x.kind != 8) = true := by rw [hk]; rfl
  (try (conv => whnf)); (repeat' ((fail_if_success (with_reducible refine And.intro ?_ ?_)); (fail_if_success (with_reducible refine Exists.intro ?_ ?_)); (first | ((with_reducible refine AX.id ?_); (first | (refine (refName_ax _ (by omega)).mono ?_; (rintro _ X ⟨⟨bb, rfl, hb⟩, eX⟩; subst X; cases bb <;> (conv => whnf))) | (refine (rIsName_ax (by omega) _).mono ?_; (rintro _ X ⟨⟨bb, rfl, hb⟩, eX⟩; subst X; cases bb <;> (conv => whnf))) | (refine (rsign_ax _ _).mono ?_; (rintro _ X ⟨rfl, eX⟩; subst X; (conv => whnf))))) | (refine step0 ?_) | (apply bIf.of <;> intro hc <;> (conv => whnf)))))
  any_goals
    refine ⟨⟨false, rfl, by simp, fun h => ?_⟩, g1⟩
    exfalso
    clear b1 a1 g1 l1 rn R f9 g9 f10 g10 f17 g17 f2 g2 f3 g3 f4 g4 f5 g5 f21 g21 f22 g22 f13 g13 f16 g16 f23 g23 f25 g25 f7 g7 f8 g8
    unfold FieldsP propK at h
    (simp only [ba_ne_t, ba_ne_f, ba_eq_t, ba_eq_f, bne_iff_ne, bne_eq_false_iff_eq, decide_eq_true_eq, decide_eq_false_iff_not, beq_iff_eq, beq_eq_false_iff_ne, ne_eq, Bool.not_eq_true, Bool.not_eq_false, Bool.not_eq_true', Bool.not_eq_false'] at *)
    grind (splits := 40)
  refine SW.loop (α := Nat) (fun k => [(1, .pointer (some ⟨q, 0, none⟩)), (3, .int .i64 x.kind), (5, .int .i64 (k : Int))]) (fun k H' => k ≤ x.names.length ∧ (∀ (i : Nat) s, i < k → x.names[i]? = some s → IdentP s ∧ (x.kind = 8 → NameP s)) ∧ H' = H1) (fun k => x.names.length - k) ⟨0, ⟨rfl, rfl, rfl, trivial⟩, ⟨by omega, fun i s hi => by omega, rfl⟩⟩ ?_
  rintro k X ⟨hm, ht, e⟩
  subst X
  refine bC_sound _ _ _ _ ?_
  by_cases hml : k < x.names.length
  · have d1 : decide ((k : Int) < (x.names.length : Int)) = true := decide_eq_true (by omega)
    obtain ⟨s, hx⟩ := get_lt hml
    obtain ⟨p, i1, i2⟩ := ld_strT rn hx
    have i3 := i2 H1 g1
    have hs := tx.name s (List.mem_of_getElem? hx)
    (try (conv => whnf)); (repeat' ((fail_if_success (with_reducible refine And.intro ?_ ?_)); (fail_if_success (with_reducible refine Exists.intro ?_ ?_)); (first | ((with_reducible refine AX.id ?_); (first | (refine (refName_ax _ (by omega)).mono ?_; (rintro _ X ⟨⟨bb, rfl, hb⟩, eX⟩; subst X; cases bb <;> (conv => whnf))) | (refine (rIsName_ax (by omega) _).mono ?_; (rintro _ X ⟨⟨bb, rfl, hb⟩, eX⟩; subst X; cases bb <;> (conv => whnf))))) | (refine step0 ?_) | (apply bIf.of <;> intro hc <;> (conv => whnf)))))
    any_goals
      refine ⟨⟨false, rfl, by simp, fun h => ?_⟩, g1⟩
      exfalso
      have h15 := h.2.2.2.2.2.2.2.2.2.2.2.2.2.2.1 s (List.mem_of_getElem? hx)
      have h16 := fun h8 => h.2.2.2.2.2.2.2.2.2.2.2.2.2.2.2 h8 s (List.mem_of_getElem? hx)
      clear h b1 a1 g1 l1 rn R ht
      grind
    all_goals
      refine ⟨k + 1, ⟨rfl, rfl, congrArg (fun z => some (Value.int .i64 z)) (w_succ (by omega)), trivial⟩, ⟨hml, fun i t hi hd => ?_, rfl⟩, by show _ - (k + 1) < _ - k; omega⟩
      by_cases him : i = k
      · subst him; rw [hx] at hd; simp only [Option.some.injEq] at hd; subst hd
        clear b1 a1 g1 l1 rn R ht
        grind
      · exact ht i t (by omega) hd
  · have d1 : decide ((k : Int) < (x.names.length : Int)) = false := decide_eq_false (by omega)
    refine run ?_
    refine ⟨⟨true, rfl, ?_⟩, g1⟩
    simp only [true_iff]
    have h15 : ∀ s ∈ x.names, IdentP s := fun s hs => by
      obtain ⟨i, hi, rfl⟩ := List.getElem_of_mem hs
      exact (ht i _ (by omega) (List.getElem?_eq_getElem hi)).1
    have h16 : x.kind = 8 → ∀ s ∈ x.names, NameP s := fun h8 s hs => by
      obtain ⟨i, hi, rfl⟩ := List.getElem_of_mem hs
      exact (ht i _ (by omega) (List.getElem?_eq_getElem hi)).2 h8
    clear b1 a1 g1 l1 rn R ht f9 g9 f10 g10 f17 g17 f2 g2 f3 g3 f4 g4 f5 g5 f21 g21 f22 g22 f13 g13 f16 g16 f23 g23 f25 g25 f7 g7 f8 g8
    unfold FieldsP propK
    (simp only [ba_ne_t, ba_ne_f, ba_eq_t, ba_eq_f, bne_iff_ne, bne_eq_false_iff_eq, decide_eq_true_eq, decide_eq_false_iff_not, beq_iff_eq, beq_eq_false_iff_ne, ne_eq, Bool.not_eq_true, Bool.not_eq_false, Bool.not_eq_true', Bool.not_eq_false'] at *)
    grind (splits := 40)
theorem fields_7 {H : Heap} {l : List Value} {x : Tr} (R : NodeR H l x) (tx : Tidy x) (hk : x.kind = 7) : AX Try.prog 49 #[.agg l.toArray] H (fun v H' => (∃ b, v = .bool b ∧ (b = true ↔ FieldsP x)) ∧ H' = H) := by
  obtain ⟨ow, sn, sk, rfl, rn, -⟩ := R.inv
  refine AX.quiet ?_
  suffices hh : AX Try.prog 49 #[.agg (nodeV x sn sk).toArray] H (fun v H' => (∃ b, v = .bool b ∧ (b = true ↔ FieldsP x)) ∧ Grow H H') from hh.mono fun v _ ⟨⟨b, e, k⟩, g⟩ => ⟨e ▸ plain_bool _, ⟨b, e, k⟩, g⟩
  refine AX.body (n := 223) (rs := [.tmp 2]) Try.func49 rfl (by decide) rfl rfl (bC_sound _ _ _ _ ?_)
  (conv => whnf)
  refine Ob2.box rfl fun q H1 hq a1 g1 => ?_
  have b1 := hblk_of a1
  have l1 : alen Try.prog 22 sn H1 = some (.int .i64 x.names.length) := rn.len rfl _
  have t1 := tx.str
  have hn := ow.2.1
  simp only [maxLen] at hn
  have hsn := @signT_ne x.op
  have f9 : (x.kind == 9) = false := by rw [hk]; rfl
  have g9 : (x.kind != 9) = true := by rw [hk]; rfl
  have f10 : (x.kind == 10) = false := by rw [hk]; rfl
  have g10 : (x.kind != 10) = true := by rw [hk]; rfl
  have f17 : (x.kind == 17) = false := by rw [hk]; rfl
  have g17 : (x.kind != 17) = true := by rw [hk]; rfl
  have f2 : (x.kind == 2) = false := by rw [hk]; rfl
  have g2 : (x.kind != 2) = true := by rw [hk]; rfl
  have f3 : (x.kind == 3) = false := by rw [hk]; rfl
  have g3 : (x.kind != 3) = true := by rw [hk]; rfl
  have f4 : (x.kind == 4) = false := by rw [hk]; rfl
  have g4 : (x.kind != 4) = true := by rw [hk]; rfl
  have f5 : (x.kind == 5) = false := by rw [hk]; rfl
  have g5 : (x.kind != 5) = true := by rw [hk]; rfl
  have f21 : (x.kind == 21) = false := by rw [hk]; rfl
  have g21 : (x.kind != 21) = true := by rw [hk]; rfl
  have f22 : (x.kind == 22) = false := by rw [hk]; rfl
  have g22 : (x.kind != 22) = true := by rw [hk]; rfl
  have f13 : (x.kind == 13) = false := by rw [hk]; rfl
  have g13 : (x.kind != 13) = true := by rw [hk]; rfl
  have f16 : (x.kind == 16) = false := by rw [hk]; rfl
  have g16 : (x.kind != 16) = true := by rw [hk]; rfl
  have f23 : (x.kind == 23) = false := by rw [hk]; rfl
  have g23 : (x.kind != 23) = true := by rw [hk]; rfl
  have f25 : (x.kind == 25) = false := by rw [hk]; rfl
  have g25 : (x.kind != 25) = true := by rw [hk]; rfl
  have f7 : (x.kind == 7) = true := by rw [hk]; rfl
  have g7 : (x.kind != 7) = false := by rw [hk]; rfl
  have f8 : (x.kind == 8) = false := by rw [hk]; rfl
  have g8 : (x.kind != 8) = true := by rw [hk]; rfl
  (try (conv => whnf)); (repeat' ((fail_if_success (with_reducible refine And.intro ?_ ?_)); (fail_if_success (with_reducible refine Exists.intro ?_ ?_)); (first | ((with_reducible refine AX.id ?_); (first | (refine (refName_ax _ (by omega)).mono ?_; (rintro _ X ⟨⟨bb, rfl, hb⟩, eX⟩; subst X; cases bb <;> (conv => whnf))) | (refine (rIsName_ax (by omega) _).mono ?_; (rintro _ X ⟨⟨bb, rfl, hb⟩, eX⟩; subst X; cases bb <;> (conv => whnf))) | (refine (rsign_ax _ _).mono ?_; (rintro _ X ⟨rfl, eX⟩; subst X; (conv => whnf))))) | (refine step0 ?_) | (apply bIf.of <;> intro hc <;> (conv => whnf)))))
  any_goals
    refine ⟨⟨false, rfl, by simp, fun h => ?_⟩, g1⟩
    exfalso
    clear b1 a1 g1 l1 rn R f9 g9 f10 g10 f17 g17 f2 g2 f3 g3 f4 g4 f5 g5 f21 g21 f22 g22 f13 g13 f16 g16 f23 g23 f25 g25 f7 g7 f8 g8
    unfold FieldsP propK at h
    (simp only [ba_ne_t, ba_ne_f, ba_eq_t, ba_eq_f, bne_iff_ne, bne_eq_false_iff_eq, decide_eq_true_eq, decide_eq_false_iff_not, beq_iff_eq, beq_eq_false_iff_ne, ne_eq, Bool.not_eq_true, Bool.not_eq_false, Bool.not_eq_true', Bool.not_eq_false'] at *)
    grind (splits := 40)
  refine SW.loop (α := Nat) (fun k => [(1, .pointer (some ⟨q, 0, none⟩)), (3, .int .i64 x.kind), (5, .int .i64 (k : Int))]) (fun k H' => k ≤ x.names.length ∧ (∀ (i : Nat) s, i < k → x.names[i]? = some s → IdentP s ∧ (x.kind = 8 → NameP s)) ∧ H' = H1) (fun k => x.names.length - k) ⟨0, ⟨rfl, rfl, rfl, trivial⟩, ⟨by omega, fun i s hi => by omega, rfl⟩⟩ ?_
  rintro k X ⟨hm, ht, e⟩
  subst X
  refine bC_sound _ _ _ _ ?_
  by_cases hml : k < x.names.length
  · have d1 : decide ((k : Int) < (x.names.length : Int)) = true := decide_eq_true (by omega)
    obtain ⟨s, hx⟩ := get_lt hml
    obtain ⟨p, i1, i2⟩ := ld_strT rn hx
    have i3 := i2 H1 g1
    have hs := tx.name s (List.mem_of_getElem? hx)
    (try (conv => whnf)); (repeat' ((fail_if_success (with_reducible refine And.intro ?_ ?_)); (fail_if_success (with_reducible refine Exists.intro ?_ ?_)); (first | ((with_reducible refine AX.id ?_); (first | (refine (refName_ax _ (by omega)).mono ?_; (rintro _ X ⟨⟨bb, rfl, hb⟩, eX⟩; subst X; cases bb <;> (conv => whnf))) | (refine (rIsName_ax (by omega) _).mono ?_; (rintro _ X ⟨⟨bb, rfl, hb⟩, eX⟩; subst X; cases bb <;> (conv => whnf))))) | (refine step0 ?_) | (apply bIf.of <;> intro hc <;> (conv => whnf)))))
    any_goals
      refine ⟨⟨false, rfl, by simp, fun h => ?_⟩, g1⟩
      exfalso
      have h15 := h.2.2.2.2.2.2.2.2.2.2.2.2.2.2.1 s (List.mem_of_getElem? hx)
      have h16 := fun h8 => h.2.2.2.2.2.2.2.2.2.2.2.2.2.2.2 h8 s (List.mem_of_getElem? hx)
      clear h b1 a1 g1 l1 rn R ht
      grind
    all_goals
      refine ⟨k + 1, ⟨rfl, rfl, congrArg (fun z => some (Value.int .i64 z)) (w_succ (by omega)), trivial⟩, ⟨hml, fun i t hi hd => ?_, rfl⟩, by show _ - (k + 1) < _ - k; omega⟩
      by_cases him : i = k
      · subst him; rw [hx] at hd; simp only [Option.some.injEq] at hd; subst hd
        clear b1 a1 g1 l1 rn R ht
        grind
      · exact ht i t (by omega) hd
  · have d1 : decide ((k : Int) < (x.names.length : Int)) = false := decide_eq_false (by omega)
    refine run ?_
    refine ⟨⟨true, rfl, ?_⟩, g1⟩
    simp only [true_iff]
    have h15 : ∀ s ∈ x.names, IdentP s := fun s hs => by
      obtain ⟨i, hi, rfl⟩ := List.getElem_of_mem hs
      exact (ht i _ (by omega) (List.getElem?_eq_getElem hi)).1
    have h16 : x.kind = 8 → ∀ s ∈ x.names, NameP s := fun h8 s hs => by
      obtain ⟨i, hi, rfl⟩ := List.getElem_of_mem hs
      exact (ht i _ (by omega) (List.getElem?_eq_getElem hi)).2 h8
    clear b1 a1 g1 l1 rn R ht f9 g9 f10 g10 f17 g17 f2 g2 f3 g3 f4 g4 f5 g5 f21 g21 f22 g22 f13 g13 f16 g16 f23 g23 f25 g25 f7 g7 f8 g8
    unfold FieldsP propK
    (simp only [ba_ne_t, ba_ne_f, ba_eq_t, ba_eq_f, bne_iff_ne, bne_eq_false_iff_eq, decide_eq_true_eq, decide_eq_false_iff_not, beq_iff_eq, beq_eq_false_iff_ne, ne_eq, Bool.not_eq_true, Bool.not_eq_false, Bool.not_eq_true', Bool.not_eq_false'] at *)
    grind (splits := 40)
theorem fields_8 {H : Heap} {l : List Value} {x : Tr} (R : NodeR H l x) (tx : Tidy x) (hk : x.kind = 8) : AX Try.prog 49 #[.agg l.toArray] H (fun v H' => (∃ b, v = .bool b ∧ (b = true ↔ FieldsP x)) ∧ H' = H) := by
  obtain ⟨ow, sn, sk, rfl, rn, -⟩ := R.inv
  refine AX.quiet ?_
  suffices hh : AX Try.prog 49 #[.agg (nodeV x sn sk).toArray] H (fun v H' => (∃ b, v = .bool b ∧ (b = true ↔ FieldsP x)) ∧ Grow H H') from hh.mono fun v _ ⟨⟨b, e, k⟩, g⟩ => ⟨e ▸ plain_bool _, ⟨b, e, k⟩, g⟩
  refine AX.body (n := 223) (rs := [.tmp 2]) Try.func49 rfl (by decide) rfl rfl (bC_sound _ _ _ _ ?_)
  (conv => whnf)
  refine Ob2.box rfl fun q H1 hq a1 g1 => ?_
  have b1 := hblk_of a1
  have l1 : alen Try.prog 22 sn H1 = some (.int .i64 x.names.length) := rn.len rfl _
  have t1 := tx.str
  have hn := ow.2.1
  simp only [maxLen] at hn
  have hsn := @signT_ne x.op
  have f9 : (x.kind == 9) = false := by rw [hk]; rfl
  have g9 : (x.kind != 9) = true := by rw [hk]; rfl
  have f10 : (x.kind == 10) = false := by rw [hk]; rfl
  have g10 : (x.kind != 10) = true := by rw [hk]; rfl
  have f17 : (x.kind == 17) = false := by rw [hk]; rfl
  have g17 : (x.kind != 17) = true := by rw [hk]; rfl
  have f2 : (x.kind == 2) = false := by rw [hk]; rfl
  have g2 : (x.kind != 2) = true := by rw [hk]; rfl
  have f3 : (x.kind == 3) = false := by rw [hk]; rfl
  have g3 : (x.kind != 3) = true := by rw [hk]; rfl
  have f4 : (x.kind == 4) = false := by rw [hk]; rfl
  have g4 : (x.kind != 4) = true := by rw [hk]; rfl
  have f5 : (x.kind == 5) = false := by rw [hk]; rfl
  have g5 : (x.kind != 5) = true := by rw [hk]; rfl
  have f21 : (x.kind == 21) = false := by rw [hk]; rfl
  have g21 : (x.kind != 21) = true := by rw [hk]; rfl
  have f22 : (x.kind == 22) = false := by rw [hk]; rfl
  have g22 : (x.kind != 22) = true := by rw [hk]; rfl
  have f13 : (x.kind == 13) = false := by rw [hk]; rfl
  have g13 : (x.kind != 13) = true := by rw [hk]; rfl
  have f16 : (x.kind == 16) = false := by rw [hk]; rfl
  have g16 : (x.kind != 16) = true := by rw [hk]; rfl
  have f23 : (x.kind == 23) = false := by rw [hk]; rfl
  have g23 : (x.kind != 23) = true := by rw [hk]; rfl
  have f25 : (x.kind == 25) = false := by rw [hk]; rfl
  have g25 : (x.kind != 25) = true := by rw [hk]; rfl
  have f7 : (x.kind == 7) = false := by rw [hk]; rfl
  have g7 : (x.kind != 7) = true := by rw [hk]; rfl
  have f8 : (x.kind == 8) = true := by rw [hk]; rfl
  have g8 : (x.kind != 8) = false := by rw [hk]; rfl
  (try (conv => whnf)); (repeat' ((fail_if_success (with_reducible refine And.intro ?_ ?_)); (fail_if_success (with_reducible refine Exists.intro ?_ ?_)); (first | ((with_reducible refine AX.id ?_); (first | (refine (refName_ax _ (by omega)).mono ?_; (rintro _ X ⟨⟨bb, rfl, hb⟩, eX⟩; subst X; cases bb <;> (conv => whnf))) | (refine (rIsName_ax (by omega) _).mono ?_; (rintro _ X ⟨⟨bb, rfl, hb⟩, eX⟩; subst X; cases bb <;> (conv => whnf))) | (refine (rsign_ax _ _).mono ?_; (rintro _ X ⟨rfl, eX⟩; subst X; (conv => whnf))))) | (refine step0 ?_) | (apply bIf.of <;> intro hc <;> (conv => whnf)))))
  any_goals
    refine ⟨⟨false, rfl, by simp, fun h => ?_⟩, g1⟩
    exfalso
    clear b1 a1 g1 l1 rn R f9 g9 f10 g10 f17 g17 f2 g2 f3 g3 f4 g4 f5 g5 f21 g21 f22 g22 f13 g13 f16 g16 f23 g23 f25 g25 f7 g7 f8 g8
    unfold FieldsP propK at h
    (simp only [ba_ne_t, ba_ne_f, ba_eq_t, ba_eq_f, bne_iff_ne, bne_eq_false_iff_eq, decide_eq_true_eq, decide_eq_false_iff_not, beq_iff_eq, beq_eq_false_iff_ne, ne_eq, Bool.not_eq_true, Bool.not_eq_false, Bool.not_eq_true', Bool.not_eq_false'] at *)
    grind (splits := 40)
  refine SW.loop (α := Nat) (fun k => [(1, .pointer (some ⟨q, 0, none⟩)), (3, .int .i64 x.kind), (5, .int .i64 (k : Int))]) (fun k H' => k ≤ x.names.length ∧ (∀ (i : Nat) s, i < k → x.names[i]? = some s → IdentP s ∧ (x.kind = 8 → NameP s)) ∧ H' = H1) (fun k => x.names.length - k) ⟨0, ⟨rfl, rfl, rfl, trivial⟩, ⟨by omega, fun i s hi => by omega, rfl⟩⟩ ?_
  rintro k X ⟨hm, ht, e⟩
  subst X
  refine bC_sound _ _ _ _ ?_
  by_cases hml : k < x.names.length
  · have d1 : decide ((k : Int) < (x.names.length : Int)) = true := decide_eq_true (by omega)
    obtain ⟨s, hx⟩ := get_lt hml
    obtain ⟨p, i1, i2⟩ := ld_strT rn hx
    have i3 := i2 H1 g1
    have hs := tx.name s (List.mem_of_getElem? hx)
    (try (conv => whnf)); (repeat' ((fail_if_success (with_reducible refine And.intro ?_ ?_)); (fail_if_success (with_reducible refine Exists.intro ?_ ?_)); (first | ((with_reducible refine AX.id ?_); (first | (refine (refName_ax _ (by omega)).mono ?_; (rintro _ X ⟨⟨bb, rfl, hb⟩, eX⟩; subst X; cases bb <;> (conv => whnf))) | (refine (rIsName_ax (by omega) _).mono ?_; (rintro _ X ⟨⟨bb, rfl, hb⟩, eX⟩; subst X; cases bb <;> (conv => whnf))))) | (refine step0 ?_) | (apply bIf.of <;> intro hc <;> (conv => whnf)))))
    any_goals
      refine ⟨⟨false, rfl, by simp, fun h => ?_⟩, g1⟩
      exfalso
      have h15 := h.2.2.2.2.2.2.2.2.2.2.2.2.2.2.1 s (List.mem_of_getElem? hx)
      have h16 := fun h8 => h.2.2.2.2.2.2.2.2.2.2.2.2.2.2.2 h8 s (List.mem_of_getElem? hx)
      clear h b1 a1 g1 l1 rn R ht
      grind
    all_goals
      refine ⟨k + 1, ⟨rfl, rfl, congrArg (fun z => some (Value.int .i64 z)) (w_succ (by omega)), trivial⟩, ⟨hml, fun i t hi hd => ?_, rfl⟩, by show _ - (k + 1) < _ - k; omega⟩
      by_cases him : i = k
      · subst him; rw [hx] at hd; simp only [Option.some.injEq] at hd; subst hd
        clear b1 a1 g1 l1 rn R ht
        grind
      · exact ht i t (by omega) hd
  · have d1 : decide ((k : Int) < (x.names.length : Int)) = false := decide_eq_false (by omega)
    refine run ?_
    refine ⟨⟨true, rfl, ?_⟩, g1⟩
    simp only [true_iff]
    have h15 : ∀ s ∈ x.names, IdentP s := fun s hs => by
      obtain ⟨i, hi, rfl⟩ := List.getElem_of_mem hs
      exact (ht i _ (by omega) (List.getElem?_eq_getElem hi)).1
    have h16 : x.kind = 8 → ∀ s ∈ x.names, NameP s := fun h8 s hs => by
      obtain ⟨i, hi, rfl⟩ := List.getElem_of_mem hs
      exact (ht i _ (by omega) (List.getElem?_eq_getElem hi)).2 h8
    clear b1 a1 g1 l1 rn R ht f9 g9 f10 g10 f17 g17 f2 g2 f3 g3 f4 g4 f5 g5 f21 g21 f22 g22 f13 g13 f16 g16 f23 g23 f25 g25 f7 g7 f8 g8
    unfold FieldsP propK
    (simp only [ba_ne_t, ba_ne_f, ba_eq_t, ba_eq_f, bne_iff_ne, bne_eq_false_iff_eq, decide_eq_true_eq, decide_eq_false_iff_not, beq_iff_eq, beq_eq_false_iff_ne, ne_eq, Bool.not_eq_true, Bool.not_eq_false, Bool.not_eq_true', Bool.not_eq_false'] at *)
    grind (splits := 40)
theorem fields_o {H : Heap} {l : List Value} {x : Tr} (R : NodeR H l x) (tx : Tidy x) (hk : x.kind ≠ 9 ∧ x.kind ≠ 10 ∧ x.kind ≠ 17 ∧ x.kind ≠ 2 ∧ x.kind ≠ 3 ∧ x.kind ≠ 4 ∧ x.kind ≠ 5 ∧ x.kind ≠ 21 ∧ x.kind ≠ 22 ∧ x.kind ≠ 13 ∧ x.kind ≠ 16 ∧ x.kind ≠ 23 ∧ x.kind ≠ 25 ∧ x.kind ≠ 7 ∧ x.kind ≠ 8) : AX Try.prog 49 #[.agg l.toArray] H (fun v H' => (∃ b, v = .bool b ∧ (b = true ↔ FieldsP x)) ∧ H' = H) := by
  obtain ⟨ow, sn, sk, rfl, rn, -⟩ := R.inv
  refine AX.quiet ?_
  suffices hh : AX Try.prog 49 #[.agg (nodeV x sn sk).toArray] H (fun v H' => (∃ b, v = .bool b ∧ (b = true ↔ FieldsP x)) ∧ Grow H H') from hh.mono fun v _ ⟨⟨b, e, k⟩, g⟩ => ⟨e ▸ plain_bool _, ⟨b, e, k⟩, g⟩
  refine AX.body (n := 223) (rs := [.tmp 2]) Try.func49 rfl (by decide) rfl rfl (bC_sound _ _ _ _ ?_)
  (conv => whnf)
  refine Ob2.box rfl fun q H1 hq a1 g1 => ?_
  have b1 := hblk_of a1
  have l1 : alen Try.prog 22 sn H1 = some (.int .i64 x.names.length) := rn.len rfl _
  have t1 := tx.str
  have hn := ow.2.1
  simp only [maxLen] at hn
  have hsn := @signT_ne x.op
  have f9 : (x.kind == 9) = false := by rw [beq_eq_false_iff_ne]; omega
  have g9 : (x.kind != 9) = true := by rw [bne_iff_ne]; omega
  have f10 : (x.kind == 10) = false := by rw [beq_eq_false_iff_ne]; omega
  have g10 : (x.kind != 10) = true := by rw [bne_iff_ne]; omega
  have f17 : (x.kind == 17) = false := by rw [beq_eq_false_iff_ne]; omega
  have g17 : (x.kind != 17) = true := by rw [bne_iff_ne]; omega
  have f2 : (x.kind == 2) = false := by rw [beq_eq_false_iff_ne]; omega
  have g2 : (x.kind != 2) = true := by rw [bne_iff_ne]; omega
  have f3 : (x.kind == 3) = false := by rw [beq_eq_false_iff_ne]; omega
  have g3 : (x.kind != 3) = true := by rw [bne_iff_ne]; omega
  have f4 : (x.kind == 4) = false := by rw [beq_eq_false_iff_ne]; omega
  have g4 : (x.kind != 4) = true := by rw [bne_iff_ne]; omega
  have f5 : (x.kind == 5) = false := by rw [beq_eq_false_iff_ne]; omega
  have g5 : (x.kind != 5) = true := by rw [bne_iff_ne]; omega
  have f21 : (x.kind == 21) = false := by rw [beq_eq_false_iff_ne]; omega
  have g21 : (x.kind != 21) = true := by rw [bne_iff_ne]; omega
  have f22 : (x.kind == 22) = false := by rw [beq_eq_false_iff_ne]; omega
  have g22 : (x.kind != 22) = true := by rw [bne_iff_ne]; omega
  have f13 : (x.kind == 13) = false := by rw [beq_eq_false_iff_ne]; omega
  have g13 : (x.kind != 13) = true := by rw [bne_iff_ne]; omega
  have f16 : (x.kind == 16) = false := by rw [beq_eq_false_iff_ne]; omega
  have g16 : (x.kind != 16) = true := by rw [bne_iff_ne]; omega
  have f23 : (x.kind == 23) = false := by rw [beq_eq_false_iff_ne]; omega
  have g23 : (x.kind != 23) = true := by rw [bne_iff_ne]; omega
  have f25 : (x.kind == 25) = false := by rw [beq_eq_false_iff_ne]; omega
  have g25 : (x.kind != 25) = true := by rw [bne_iff_ne]; omega
  have f7 : (x.kind == 7) = false := by rw [beq_eq_false_iff_ne]; omega
  have g7 : (x.kind != 7) = true := by rw [bne_iff_ne]; omega
  have f8 : (x.kind == 8) = false := by rw [beq_eq_false_iff_ne]; omega
  have g8 : (x.kind != 8) = true := by rw [bne_iff_ne]; omega
  (try (conv => whnf)); (repeat' ((fail_if_success (with_reducible refine And.intro ?_ ?_)); (fail_if_success (with_reducible refine Exists.intro ?_ ?_)); (first | ((with_reducible refine AX.id ?_); (first | (refine (refName_ax _ (by omega)).mono ?_; (rintro _ X ⟨⟨bb, rfl, hb⟩, eX⟩; subst X; cases bb <;> (conv => whnf))) | (refine (rIsName_ax (by omega) _).mono ?_; (rintro _ X ⟨⟨bb, rfl, hb⟩, eX⟩; subst X; cases bb <;> (conv => whnf))) | (refine (rsign_ax _ _).mono ?_; (rintro _ X ⟨rfl, eX⟩; subst X; (conv => whnf))))) | (refine step0 ?_) | (apply bIf.of <;> intro hc <;> (conv => whnf)))))
  any_goals
    refine ⟨⟨false, rfl, by simp, fun h => ?_⟩, g1⟩
    exfalso
    clear b1 a1 g1 l1 rn R f9 g9 f10 g10 f17 g17 f2 g2 f3 g3 f4 g4 f5 g5 f21 g21 f22 g22 f13 g13 f16 g16 f23 g23 f25 g25 f7 g7 f8 g8
    unfold FieldsP propK at h
    (simp only [ba_ne_t, ba_ne_f, ba_eq_t, ba_eq_f, bne_iff_ne, bne_eq_false_iff_eq, decide_eq_true_eq, decide_eq_false_iff_not, beq_iff_eq, beq_eq_false_iff_ne, ne_eq, Bool.not_eq_true, Bool.not_eq_false, Bool.not_eq_true', Bool.not_eq_false'] at *)
    grind (splits := 40)
  refine SW.loop (α := Nat) (fun k => [(1, .pointer (some ⟨q, 0, none⟩)), (3, .int .i64 x.kind), (5, .int .i64 (k : Int))]) (fun k H' => k ≤ x.names.length ∧ (∀ (i : Nat) s, i < k → x.names[i]? = some s → IdentP s ∧ (x.kind = 8 → NameP s)) ∧ H' = H1) (fun k => x.names.length - k) ⟨0, ⟨rfl, rfl, rfl, trivial⟩, ⟨by omega, fun i s hi => by omega, rfl⟩⟩ ?_
  rintro k X ⟨hm, ht, e⟩
  subst X
  refine bC_sound _ _ _ _ ?_
  by_cases hml : k < x.names.length
  · have d1 : decide ((k : Int) < (x.names.length : Int)) = true := decide_eq_true (by omega)
    obtain ⟨s, hx⟩ := get_lt hml
    obtain ⟨p, i1, i2⟩ := ld_strT rn hx
    have i3 := i2 H1 g1
    have hs := tx.name s (List.mem_of_getElem? hx)
    (try (conv => whnf)); (repeat' ((fail_if_success (with_reducible refine And.intro ?_ ?_)); (fail_if_success (with_reducible refine Exists.intro ?_ ?_)); (first | ((with_reducible refine AX.id ?_); (first | (refine (refName_ax _ (by omega)).mono ?_; (rintro _ X ⟨⟨bb, rfl, hb⟩, eX⟩; subst X; cases bb <;> (conv => whnf))) | (refine (rIsName_ax (by omega) _).mono ?_; (rintro _ X ⟨⟨bb, rfl, hb⟩, eX⟩; subst X; cases bb <;> (conv => whnf))))) | (refine step0 ?_) | (apply bIf.of <;> intro hc <;> (conv => whnf)))))
    any_goals
      refine ⟨⟨false, rfl, by simp, fun h => ?_⟩, g1⟩
      exfalso
      have h15 := h.2.2.2.2.2.2.2.2.2.2.2.2.2.2.1 s (List.mem_of_getElem? hx)
      have h16 := fun h8 => h.2.2.2.2.2.2.2.2.2.2.2.2.2.2.2 h8 s (List.mem_of_getElem? hx)
      clear h b1 a1 g1 l1 rn R ht
      grind
    all_goals
      refine ⟨k + 1, ⟨rfl, rfl, congrArg (fun z => some (Value.int .i64 z)) (w_succ (by omega)), trivial⟩, ⟨hml, fun i t hi hd => ?_, rfl⟩, by show _ - (k + 1) < _ - k; omega⟩
      by_cases him : i = k
      · subst him; rw [hx] at hd; simp only [Option.some.injEq] at hd; subst hd
        clear b1 a1 g1 l1 rn R ht
        grind
      · exact ht i t (by omega) hd
  · have d1 : decide ((k : Int) < (x.names.length : Int)) = false := decide_eq_false (by omega)
    refine run ?_
    refine ⟨⟨true, rfl, ?_⟩, g1⟩
    simp only [true_iff]
    have h15 : ∀ s ∈ x.names, IdentP s := fun s hs => by
      obtain ⟨i, hi, rfl⟩ := List.getElem_of_mem hs
      exact (ht i _ (by omega) (List.getElem?_eq_getElem hi)).1
    have h16 : x.kind = 8 → ∀ s ∈ x.names, NameP s := fun h8 s hs => by
      obtain ⟨i, hi, rfl⟩ := List.getElem_of_mem hs
      exact (ht i _ (by omega) (List.getElem?_eq_getElem hi)).2 h8
    clear b1 a1 g1 l1 rn R ht f9 g9 f10 g10 f17 g17 f2 g2 f3 g3 f4 g4 f5 g5 f21 g21 f22 g22 f13 g13 f16 g16 f23 g23 f25 g25 f7 g7 f8 g8
    unfold FieldsP propK
    (simp only [ba_ne_t, ba_ne_f, ba_eq_t, ba_eq_f, bne_iff_ne, bne_eq_false_iff_eq, decide_eq_true_eq, decide_eq_false_iff_not, beq_iff_eq, beq_eq_false_iff_ne, ne_eq, Bool.not_eq_true, Bool.not_eq_false, Bool.not_eq_true', Bool.not_eq_false'] at *)
    grind (splits := 40)
end Go.Proofs.Ytmglmjbjgfbdjaa
/- The document's Right, Check. -/
set_option linter.unusedVariables false
set_option linter.unusedSimpArgs false
set_option maxRecDepth 20000
set_option maxHeartbeats 8000000
namespace Go.Proofs.Ytmglmjbjgfbdjaa
open Go Ax
theorem fields_ax {H : Heap} {l : List Value} {x : Tr} (R : NodeR H l x) (tx : Tidy x) : AX Try.prog 49 #[.agg l.toArray] H (fun v H' => (∃ b, v = .bool b ∧ (b = true ↔ FieldsP x)) ∧ H' = H) := by
  by_cases h9 : x.kind = 9
  · exact fields_9 R tx h9
  by_cases h10 : x.kind = 10
  · exact fields_10 R tx h10
  by_cases h17 : x.kind = 17
  · exact fields_17 R tx h17
  by_cases h2 : x.kind = 2
  · exact fields_2 R tx h2
  by_cases h3 : x.kind = 3
  · exact fields_3 R tx h3
  by_cases h4 : x.kind = 4
  · exact fields_4 R tx h4
  by_cases h5 : x.kind = 5
  · exact fields_5 R tx h5
  by_cases h21 : x.kind = 21
  · exact fields_21 R tx h21
  by_cases h22 : x.kind = 22
  · exact fields_22 R tx h22
  by_cases h13 : x.kind = 13
  · exact fields_13 R tx h13
  by_cases h16 : x.kind = 16
  · exact fields_16 R tx h16
  by_cases h23 : x.kind = 23
  · exact fields_23 R tx h23
  by_cases h25 : x.kind = 25
  · exact fields_25 R tx h25
  by_cases h7 : x.kind = 7
  · exact fields_7 R tx h7
  by_cases h8 : x.kind = 8
  · exact fields_8 R tx h8
  exact fields_o R tx ⟨h9, h10, h17, h2, h3, h4, h5, h21, h22, h13, h16, h23, h25, h7, h8⟩
theorem rright_ax (x : Tr) : Tidy x → ∀ (az : Int) (H : Heap) (l : List Value), NodeR H l x →
    AX Try.prog 32 #[.agg l.toArray, .int .i64 az] H (fun v H' => (∃ b, v = .bool b ∧ (b = true ↔ RightT x az)) ∧ H' = H) := by
  induction x using Tr.ind with
  | h x ih =>
  intro tx az H l R
  obtain ⟨ow, sn, sk, rfl, rn, rk⟩ := R.inv
  refine AX.quiet ?_
  suffices hh : AX Try.prog 32 #[.agg (nodeV x sn sk).toArray, .int .i64 az] H (fun v H' => (∃ b, v = .bool b ∧ (b = true ↔ RightT x az)) ∧ Grow H H') from hh.mono fun v _ ⟨⟨b, e, k⟩, g⟩ => ⟨e ▸ plain_bool _, ⟨b, e, k⟩, g⟩
  refine AX.body (n := 98) (rs := [.tmp 4]) Try.func32 rfl (by decide) rfl rfl (bC_sound _ _ _ _ ?_)
  (conv => whnf)
  refine Ob2.box rfl fun q H1 hq a1 g1 => ?_
  have b1 := hblk_of a1
  have R1 := R.grow g1
  have l2 : alen Try.prog 23 sk H1 = some (.int .i64 x.kids.length) := rk.len rfl _
  have hn := ow.2.2.2
  simp only [maxLen] at hn
  (try (conv => whnf)); (repeat' ((fail_if_success (with_reducible refine And.intro ?_ ?_)); (fail_if_success (with_reducible refine Exists.intro ?_ ?_)); (first | ((with_reducible refine AX.id ?_); (first | (refine (many_ax R1).mono ?_; (rintro _ X ⟨rfl, eX⟩; subst X; (conv => whnf))) | (refine (fields_ax R1 tx).mono ?_; (rintro _ X ⟨⟨bb, rfl, hb⟩, eX⟩; subst X; cases bb <;> (conv => whnf))))) | (refine step0 ?_) | (apply bIf.of <;> intro hc <;> (conv => whnf)))))
  any_goals
    refine ⟨⟨false, rfl, by simp, fun h => ?_⟩, g1⟩
    exfalso
    have h2 := (right_iff.1 h).1
    clear b1 a1 g1 l2 rk R R1 rn h ih
    unfold OwnP kindP at h2
    (simp only [ba_ne_t, ba_ne_f, ba_eq_t, ba_eq_f, bne_iff_ne, bne_eq_false_iff_eq, decide_eq_true_eq, decide_eq_false_iff_not, beq_iff_eq, beq_eq_false_iff_ne, ne_eq, Bool.not_eq_true, Bool.not_eq_false, Bool.not_eq_true', Bool.not_eq_false'] at *)
    grind
  all_goals
    have hown : OwnP x az := by
      clear b1 a1 g1 l2 rk R R1 rn ih
      unfold OwnP kindP
      (simp only [ba_ne_t, ba_ne_f, ba_eq_t, ba_eq_f, bne_iff_ne, bne_eq_false_iff_eq, decide_eq_true_eq, decide_eq_false_iff_not, beq_iff_eq, beq_eq_false_iff_ne, ne_eq, Bool.not_eq_true, Bool.not_eq_false, Bool.not_eq_true', Bool.not_eq_false'] at *)
      grind
    refine SW.loop (α := Nat) (fun k => [(1, .int .i64 az), (2, .pointer (some ⟨q, 0, none⟩)), (8, .int .i64 (k : Int))]) (fun k H' => k ≤ x.kids.length ∧ (∀ (i : Nat) y, i < k → x.kids[i]? = some y → RightT y (wantP x.kind i)) ∧ H' = H1) (fun k => x.kids.length - k) ⟨0, ⟨rfl, rfl, rfl, trivial⟩, ⟨by omega, fun i s hi => by omega, rfl⟩⟩ ?_
    rintro k X ⟨hm, ht, e⟩
    subst X
    refine bC_sound _ _ _ _ ?_
    by_cases hml : k < x.kids.length
    · have d1 : decide ((k : Int) < (x.kids.length : Int)) = true := decide_eq_true (by omega)
      obtain ⟨y, hy⟩ := get_lt hml
      obtain ⟨p, yl, i1, i2, i3⟩ := ld_node rk hy
      have i4 := i3 H1 g1
      have hym := List.mem_of_getElem? hy
      (try (conv => whnf)); (repeat' ((fail_if_success (with_reducible refine And.intro ?_ ?_)); (fail_if_success (with_reducible refine Exists.intro ?_ ?_)); (first | ((with_reducible refine AX.id ?_); (first | (refine (ih y hym (tx.kid y hym) _ _ _ (i2.grow g1)).mono ?_; (rintro _ X ⟨⟨bb, rfl, hb⟩, eX⟩; subst X; cases bb <;> (conv => whnf))))) | (refine step0 ?_) | (apply bIf.of <;> intro hc <;> (conv => whnf)))))
      any_goals
        refine ⟨⟨false, rfl, by simp, fun h => ?_⟩, g1⟩
        exfalso
        have h2 := (right_iff.1 h).2 k y hy
        clear b1 a1 g1 l2 rk R R1 rn h ih i1 i2 i3 i4 ht hown
        unfold wantP at h2
        (simp only [ba_ne_t, ba_ne_f, ba_eq_t, ba_eq_f, bne_iff_ne, bne_eq_false_iff_eq, decide_eq_true_eq, decide_eq_false_iff_not, beq_iff_eq, beq_eq_false_iff_ne, ne_eq, Bool.not_eq_true, Bool.not_eq_false, Bool.not_eq_true', Bool.not_eq_false'] at *)
        grind
      all_goals
        refine ⟨k + 1, ⟨rfl, rfl, congrArg (fun z => some (Value.int .i64 z)) (w_succ (by omega)), trivial⟩, ⟨hml, fun i t hi hd => ?_, rfl⟩, by show _ - (k + 1) < _ - k; omega⟩
        by_cases him : i = k
        · subst him; rw [hy] at hd; simp only [Option.some.injEq] at hd; subst hd
          clear b1 a1 g1 l2 rk R R1 rn ih i1 i2 i3 i4 ht hown
          unfold wantP
          (simp only [ba_ne_t, ba_ne_f, ba_eq_t, ba_eq_f, bne_iff_ne, bne_eq_false_iff_eq, decide_eq_true_eq, decide_eq_false_iff_not, beq_iff_eq, beq_eq_false_iff_ne, ne_eq, Bool.not_eq_true, Bool.not_eq_false, Bool.not_eq_true', Bool.not_eq_false'] at *)
          grind
        · exact ht i t (by omega) hd
    · have d1 : decide ((k : Int) < (x.kids.length : Int)) = false := decide_eq_false (by omega)
      refine run ?_
      exact ⟨⟨true, rfl, by simp only [true_iff]; exact right_iff.2 ⟨hown, fun j y hy => ht j y (by have := lt_of_get hy; omega) hy⟩⟩, g1⟩
theorem refCheck06_ax {H : Heap} {l : List Value} {x : Tr} (R : NodeR H l x) (fx : FewT x) : AX Try.prog 21 #[.agg l.toArray] H (fun v H' => v = .int .i64 (checkP x) ∧ H' = H) := by
  obtain ⟨ow, sn, sk, rfl, rn, rk⟩ := R.inv
  refine AX.quiet ?_
  suffices hh : AX Try.prog 21 #[.agg (nodeV x sn sk).toArray] H (fun v H' => v = .int .i64 (checkP x) ∧ Grow H H') from hh.mono fun v _ ⟨e, g⟩ => ⟨e ▸ plain_int _ _, e, g⟩
  refine AX.body (n := 9) (rs := [.tmp 2]) Try.func21 rfl (by decide) rfl rfl (bC_sound _ _ _ _ ?_)
  (conv => whnf)
  refine Ob2.box rfl fun q H1 hq a1 g1 => ?_
  have b1 := hblk_of a1
  have R1 := R.grow g1
  (try (conv => whnf)); (repeat' ((fail_if_success (with_reducible refine And.intro ?_ ?_)); (fail_if_success (with_reducible refine Exists.intro ?_ ?_)); (first | ((with_reducible refine AX.id ?_); (first | (refine (refHigh_ax x R1 fx.2).mono ?_; (rintro _ X ⟨rfl, eX⟩; subst X; (conv => whnf))) | (refine (rright_ax x fx.1 _ _ _ R1).mono ?_; (rintro _ X ⟨⟨bb, rfl, hb⟩, eX⟩; subst X; cases bb <;> (conv => whnf))))) | (refine step0 ?_) | (apply bIf.of <;> intro hc <;> (conv => whnf)))))
  all_goals refine ⟨congrArg (Value.int .i64) (?_ : _ = checkP x), g1⟩
  all_goals clear b1 a1 g1 R1 rk rn R
  all_goals unfold checkP
  all_goals (simp only [ba_ne_t, ba_ne_f, ba_eq_t, ba_eq_f, bne_iff_ne, bne_eq_false_iff_eq, decide_eq_true_eq, decide_eq_false_iff_not, beq_iff_eq, beq_eq_false_iff_ne, ne_eq, Bool.not_eq_true, Bool.not_eq_false, Bool.not_eq_true', Bool.not_eq_false'] at *)
  all_goals grind
end Go.Proofs.Ytmglmjbjgfbdjaa
