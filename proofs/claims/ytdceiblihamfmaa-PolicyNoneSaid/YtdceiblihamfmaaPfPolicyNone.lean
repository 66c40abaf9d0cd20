/- The law PolicyNone, told of abstract memory: whatever the input, it answers true. No condition. -/
import Derived.Test.YtdceiblihamfmaaTy
import Derived.Test.YtdceiblihamfmaaPol7
set_option linter.unusedVariables false
set_option linter.unusedSimpArgs false
namespace Go.Proofs.Ytdceiblihamfmaa
open Go Ax
theorem pick_ne (a b : Int × Int) : abin Try.prog .neq 28 (pickV a) (pickV b) = some (.bool !((a.1 == b.1) && ((a.2 == b.2) && true))) := by kernel_rfl
theorem PolicyNone_ax (H : Heap) (c0 : List Value) (x0 : Int) (hn : NoOwn H) (R0 : ty3.R H c0 x0) (o0 : ty3.ok x0) :
    AX Try.prog 6 #[arg1 c0] H fun v _ => v = .bool true := by
  obtain rfl : c0 = [.int .i64 x0] := R0
  show AX Try.prog 6 #[.int .i64 x0] H _
  refine AX.body (n := 55) (rs := [.tmp 2]) Try.func6 rfl (by decide) rfl rfl (bC_sound _ _ _ _ ?_)
  (try (conv => whnf)); repeat (first | (refine Ob.of (by first | rfl | (exact ald rfl rfl (by assumption) rfl) | (exact ald_agg rfl rfl rfl (by assumption) rfl)) ?_; (conv => whnf)) | (refine bIf.yes (by first | assumption | rfl) ?_; (conv => whnf)) | (refine bIf.no (by first | assumption | rfl) ?_; (conv => whnf)))
  refine Ob2.box rfl fun z H1 hz k1 k2 => ?_
  (conv => whnf)
  refine Ob2.of (a := .slice (some ⟨H1.length, 0, none⟩) 2 1) (b := H1 ++ [.cells (.row 24) [.pointer none, ptr z]]) (by rfl) ?_
  have hz1 := lt_at k1
  (try (conv => whnf)); repeat (first | (refine Ob.of (by first | rfl | (exact ald rfl rfl (by assumption) rfl) | (exact ald_agg rfl rfl rfl (by assumption) rfl)) ?_; (conv => whnf)) | (refine bIf.yes (by first | assumption | rfl) ?_; (conv => whnf)) | (refine bIf.no (by first | assumption | rfl) ?_; (conv => whnf)))
  refine SW.loop (α := Nat) (fun k => [(0, .int .i64 x0), (4, .slice (some ⟨H1.length, 0, none⟩) 2 1), (5, .int .i64 k)])
    (fun k H => k ≤ 2 ∧ H[H1.length]? = some (.cells (.row 24) [.pointer none, ptr z]) ∧ Pol H z [] 0 0 (List.replicate 32 0)) (fun k => 2 - k)
    ⟨0, ⟨rfl, rfl, rfl, trivial⟩, by omega, at_push _ _, ⟨.slice none 0 0, (Grow.push H1 _).at k1, by simp, by decide, by decide, .inl ⟨rfl, rfl⟩⟩⟩ ?_
  rintro k H2 ⟨hk, hq, n2⟩
  refine bC_sound _ _ _ _ ?_
  have hqb := hblk_of hq
  have hql := lt_at hq
  match k, hk with
  | 0, _ =>
    (try (conv => whnf)); repeat (first | (refine Ob.of (by first | rfl | (exact ald rfl rfl (by assumption) rfl) | (exact ald_agg rfl rfl rfl (by assumption) rfl)) ?_; (conv => whnf)) | (refine bIf.yes (by first | assumption | rfl) ?_; (conv => whnf)) | (refine bIf.no (by first | assumption | rfl) ?_; (conv => whnf)))
    refine (cool_nil H2 x0).mono ?_
    rintro v X rfl
    (try (conv => whnf)); repeat (first | (refine Ob.of (by first | rfl | (exact ald rfl rfl (by assumption) rfl) | (exact ald_agg rfl rfl rfl (by assumption) rfl)) ?_; (conv => whnf)) | (refine bIf.yes (by first | assumption | rfl) ?_; (conv => whnf)) | (refine bIf.no (by first | assumption | rfl) ?_; (conv => whnf)))
    refine (call_nil _ x0).mono ?_
    rintro _ H3 ⟨rfl, g3⟩
    (try (conv => whnf)); repeat (first | (refine Ob.of (by first | rfl | (exact ald rfl rfl (by assumption) rfl) | (exact ald_agg rfl rfl rfl (by assumption) rfl)) ?_; (conv => whnf)) | (refine bIf.yes (by first | assumption | rfl) ?_; (conv => whnf)) | (refine bIf.no (by first | assumption | rfl) ?_; (conv => whnf)))
    refine Ob2.alloc rfl fun q4 H4 hq4 l1 l2 => ?_
    (try (conv => whnf)); repeat (first | (refine Ob.of (by first | rfl | (exact ald rfl rfl (by assumption) rfl) | (exact ald_agg rfl rfl rfl (by assumption) rfl)) ?_; (conv => whnf)) | (refine bIf.yes (by first | assumption | rfl) ?_; (conv => whnf)) | (refine bIf.no (by first | assumption | rfl) ?_; (conv => whnf)))
    refine Ob.store rfl rfl rfl l1 rfl (by first | exact Nat.le_of_ble_eq_true rfl | simp) fun H5 m1 m2 m3 => ?_
    have g5 : Grow H3 H5 := l2.but_new m2 (by omega)
    have gg := g3.trans g5
    have hx := hblk_of m1
    (try (conv => whnf)); repeat (first | (refine Ob.of (by first | rfl | (exact ald rfl rfl (by assumption) rfl) | (exact ald_agg rfl rfl rfl (by assumption) rfl)) ?_; (conv => whnf)) | (refine bIf.yes (by first | assumption | rfl) ?_; (conv => whnf)) | (refine bIf.no (by first | assumption | rfl) ?_; (conv => whnf)))
    refine Ob.of (pick_ne (0, 0) (0, 0)) ?_
    (try (conv => whnf)); repeat (first | (refine Ob.of (by first | rfl | (exact ald rfl rfl (by assumption) rfl) | (exact ald_agg rfl rfl rfl (by assumption) rfl)) ?_; (conv => whnf)) | (refine bIf.yes (by first | assumption | rfl) ?_; (conv => whnf)) | (refine bIf.no (by first | assumption | rfl) ?_; (conv => whnf)))
    refine (after_nil H5).mono ?_
    rintro _ X ⟨rfl, e⟩
    subst X
    (try (conv => whnf)); repeat (first | (refine Ob.of (by first | rfl | (exact ald rfl rfl (by assumption) rfl) | (exact ald_agg rfl rfl rfl (by assumption) rfl)) ?_; (conv => whnf)) | (refine bIf.yes (by first | assumption | rfl) ?_; (conv => whnf)) | (refine bIf.no (by first | assumption | rfl) ?_; (conv => whnf)))
    refine (count_nil H5 x0).mono ?_
    rintro _ X ⟨rfl, e⟩
    subst X
    (try (conv => whnf)); repeat (first | (refine Ob.of (by first | rfl | (exact ald rfl rfl (by assumption) rfl) | (exact ald_agg rfl rfl rfl (by assumption) rfl)) ?_; (conv => whnf)) | (refine bIf.yes (by first | assumption | rfl) ?_; (conv => whnf)) | (refine bIf.no (by first | assumption | rfl) ?_; (conv => whnf)))
    refine (left_nil H5).mono ?_
    rintro _ X ⟨rfl, e⟩
    subst X
    (try (conv => whnf)); repeat (first | (refine Ob.of (by first | rfl | (exact ald rfl rfl (by assumption) rfl) | (exact ald_agg rfl rfl rfl (by assumption) rfl)) ?_; (conv => whnf)) | (refine bIf.yes (by first | assumption | rfl) ?_; (conv => whnf)) | (refine bIf.no (by first | assumption | rfl) ?_; (conv => whnf)))
    exact ⟨1, ⟨rfl, rfl, rfl, trivial⟩, ⟨by omega, gg.at hq, n2.grow gg⟩, by decide⟩
  | 1, _ =>
    (try (conv => whnf)); repeat (first | (refine Ob.of (by first | rfl | (exact ald rfl rfl (by assumption) rfl) | (exact ald_agg rfl rfl rfl (by assumption) rfl)) ?_; (conv => whnf)) | (refine bIf.yes (by first | assumption | rfl) ?_; (conv => whnf)) | (refine bIf.no (by first | assumption | rfl) ?_; (conv => whnf)))
    refine (cool_ax n2 x0).mono ?_
    rintro v H3 ⟨n3, b3⟩
    have e0 : cool 0 (List.replicate 32 0) x0 = List.replicate 32 0 := by simp only [cool]; rw [if_neg (by omega)]
    rw [e0] at n3
    have hq3 := b3.at hq (by omega)
    (try (conv => whnf)); repeat (first | (refine Ob.of (by first | rfl | (exact ald rfl rfl (by assumption) rfl) | (exact ald_agg rfl rfl rfl (by assumption) rfl)) ?_; (conv => whnf)) | (refine bIf.yes (by first | assumption | rfl) ?_; (conv => whnf)) | (refine bIf.no (by first | assumption | rfl) ?_; (conv => whnf)))
    refine (call_zero n3 x0).mono ?_
    rintro _ H3 ⟨rfl, g3⟩
    (try (conv => whnf)); repeat (first | (refine Ob.of (by first | rfl | (exact ald rfl rfl (by assumption) rfl) | (exact ald_agg rfl rfl rfl (by assumption) rfl)) ?_; (conv => whnf)) | (refine bIf.yes (by first | assumption | rfl) ?_; (conv => whnf)) | (refine bIf.no (by first | assumption | rfl) ?_; (conv => whnf)))
    refine Ob2.alloc rfl fun q4 H4 hq4 l1 l2 => ?_
    (try (conv => whnf)); repeat (first | (refine Ob.of (by first | rfl | (exact ald rfl rfl (by assumption) rfl) | (exact ald_agg rfl rfl rfl (by assumption) rfl)) ?_; (conv => whnf)) | (refine bIf.yes (by first | assumption | rfl) ?_; (conv => whnf)) | (refine bIf.no (by first | assumption | rfl) ?_; (conv => whnf)))
    refine Ob.store rfl rfl rfl l1 rfl (by first | exact Nat.le_of_ble_eq_true rfl | simp) fun H5 m1 m2 m3 => ?_
    have gg := g3.trans (l2.but_new m2 (by omega))
    have hx := hblk_of m1
    have n5 := n3.grow gg
    have e1 : cnt 0 (List.replicate 32 0) x0 = 0 := cnt_no (by omega)
    (try (conv => whnf)); repeat (first | (refine Ob.of (by first | rfl | (exact ald rfl rfl (by assumption) rfl) | (exact ald_agg rfl rfl rfl (by assumption) rfl)) ?_; (conv => whnf)) | (refine bIf.yes (by first | assumption | rfl) ?_; (conv => whnf)) | (refine bIf.no (by first | assumption | rfl) ?_; (conv => whnf)))
    refine Ob.of (pick_ne (0, 0) (0, 0)) ?_
    (try (conv => whnf)); repeat (first | (refine Ob.of (by first | rfl | (exact ald rfl rfl (by assumption) rfl) | (exact ald_agg rfl rfl rfl (by assumption) rfl)) ?_; (conv => whnf)) | (refine bIf.yes (by first | assumption | rfl) ?_; (conv => whnf)) | (refine bIf.no (by first | assumption | rfl) ?_; (conv => whnf)))
    refine (after_ax n5).mono ?_
    rintro _ X ⟨rfl, e⟩
    subst X
    (try (conv => whnf)); repeat (first | (refine Ob.of (by first | rfl | (exact ald rfl rfl (by assumption) rfl) | (exact ald_agg rfl rfl rfl (by assumption) rfl)) ?_; (conv => whnf)) | (refine bIf.yes (by first | assumption | rfl) ?_; (conv => whnf)) | (refine bIf.no (by first | assumption | rfl) ?_; (conv => whnf)))
    refine (count_ax n5 x0).mono ?_
    rintro _ X ⟨rfl, e⟩
    subst X
    rw [e1]
    (try (conv => whnf)); repeat (first | (refine Ob.of (by first | rfl | (exact ald rfl rfl (by assumption) rfl) | (exact ald_agg rfl rfl rfl (by assumption) rfl)) ?_; (conv => whnf)) | (refine bIf.yes (by first | assumption | rfl) ?_; (conv => whnf)) | (refine bIf.no (by first | assumption | rfl) ?_; (conv => whnf)))
    refine (left_ax n5).mono ?_
    rintro _ X ⟨rfl, e⟩
    subst X
    (try (conv => whnf)); repeat (first | (refine Ob.of (by first | rfl | (exact ald rfl rfl (by assumption) rfl) | (exact ald_agg rfl rfl rfl (by assumption) rfl)) ?_; (conv => whnf)) | (refine bIf.yes (by first | assumption | rfl) ?_; (conv => whnf)) | (refine bIf.no (by first | assumption | rfl) ?_; (conv => whnf)))
    exact ⟨2, ⟨rfl, rfl, rfl, trivial⟩, ⟨by omega, gg.at hq3, n5⟩, by decide⟩
  | 2, _ =>
    (try (conv => whnf)); repeat (first | (refine Ob.of (by first | rfl | (exact ald rfl rfl (by assumption) rfl) | (exact ald_agg rfl rfl rfl (by assumption) rfl)) ?_; (conv => whnf)) | (refine bIf.yes (by first | assumption | rfl) ?_; (conv => whnf)) | (refine bIf.no (by first | assumption | rfl) ?_; (conv => whnf)))
    refine (works_ax H2).mono ?_
    rintro _ H6 ⟨rfl, _⟩
    (try (conv => whnf)); repeat (first | (refine Ob.of (by first | rfl | (exact ald rfl rfl (by assumption) rfl) | (exact ald_agg rfl rfl rfl (by assumption) rfl)) ?_; (conv => whnf)) | (refine bIf.yes (by first | assumption | rfl) ?_; (conv => whnf)) | (refine bIf.no (by first | assumption | rfl) ?_; (conv => whnf)))
    try rfl
end Go.Proofs.Ytdceiblihamfmaa
