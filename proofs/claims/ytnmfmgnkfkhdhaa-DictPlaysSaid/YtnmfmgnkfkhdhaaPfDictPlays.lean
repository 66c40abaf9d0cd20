/- The law DictPlays, told of abstract memory: whatever the input, it answers true. No condition. -/
import Derived.Test.YtnmfmgnkfkhdhaaDi18
set_option linter.unusedVariables false
set_option linter.unusedSimpArgs false
set_option maxRecDepth 20000
set_option maxHeartbeats 2000000
namespace Go.Proofs.Ytnmfmgnkfkhdhaa
open Go Ax
theorem DictPlays_ax (H : Heap) (c0 : List Value) (x0 : List ((Int) × (ByteArray) × ((Int) × (Int) × (ByteArray)))) (hn : NoOwn H) (R0 : ty22.R H c0 x0) (o0 : ty22.ok x0) :
    AX Try.prog 3 #[arg1 c0] H fun v _ => v = .bool true := by
  obtain ⟨sv, hsv, hacts, hlen⟩ := acts_of R0
  rw [hsv]
  refine AX.body (n := 50) (rs := [.tmp 2]) Try.func3 rfl (by decide) rfl rfl (bC_sound _ _ _ _ ?_)
  (try (conv => whnf)); (repeat (first | (refine Ob.of (by first | with_reducible assumption | with_reducible exact ex20 _ _ | with_reducible exact ex21 _ _ | with_reducible exact ex30 _ _ _ | with_reducible exact ex31 _ _ _ | with_reducible exact ex32 _ _ _ | rfl | (exact ald rfl rfl (by assumption) rfl) | (exact ald_agg rfl rfl rfl (by assumption) rfl)) ?_; (conv => whnf)) | (refine bIf.yes (by first | assumption | rfl) ?_; (conv => whnf)) | (refine bIf.no (by first | assumption | rfl) ?_; (conv => whnf))))
  refine (new_ax H).mono ?_
  rintro _ H1 ⟨p, rfl, hp, d, g1⟩
  (try (conv => whnf)); (repeat (first | (refine Ob.of (by first | with_reducible assumption | with_reducible exact ex20 _ _ | with_reducible exact ex21 _ _ | with_reducible exact ex30 _ _ _ | with_reducible exact ex31 _ _ _ | with_reducible exact ex32 _ _ _ | rfl | (exact ald rfl rfl (by assumption) rfl) | (exact ald_agg rfl rfl rfl (by assumption) rfl)) ?_; (conv => whnf)) | (refine bIf.yes (by first | assumption | rfl) ?_; (conv => whnf)) | (refine bIf.no (by first | assumption | rfl) ?_; (conv => whnf))))
  refine Ob2.box rfl fun q H2 hq k1 k2 => ?_
  have hd : Has9 H2 p [] 0 := ⟨[], d.grow k2, rfl, Nat.le_refl _⟩
  have hr : RD H2 q [] := ⟨_, _, k1, .inl ⟨rfl, rfl⟩, .inl ⟨rfl, rfl⟩⟩
  have hpq : p ≠ q := by have := d.lt; omega
  (try (conv => whnf)); (repeat (first | (refine Ob.of (by first | with_reducible assumption | with_reducible exact ex20 _ _ | with_reducible exact ex21 _ _ | with_reducible exact ex30 _ _ _ | with_reducible exact ex31 _ _ _ | with_reducible exact ex32 _ _ _ | rfl | (exact ald rfl rfl (by assumption) rfl) | (exact ald_agg rfl rfl rfl (by assumption) rfl)) ?_; (conv => whnf)) | (refine bIf.yes (by first | assumption | rfl) ?_; (conv => whnf)) | (refine bIf.no (by first | assumption | rfl) ?_; (conv => whnf))))
  refine SW.loop (α := Nat × List (ByteArray × V)) (fun x => [(0, sv), (3, ptr p), (4, ptr q), (5, .int .i64 (x.1 : Int))]) (fun x H3 => x.1 ≤ 100 ∧ Has9 H3 p x.2 x.1 ∧ RD H3 q x.2 ∧ Acts H3 sv x0) (fun x => 100 - x.1)
    ⟨(0, []), ⟨rfl, rfl, rfl, rfl, trivial⟩, Nat.zero_le _, hd, hr, (hacts.g g1).g k2⟩ ?_
  rintro ⟨k, L⟩ H3 ⟨a1, a2, a3, a4⟩
  simp only at a1 a2 a3
  refine bC_sound _ _ _ _ ?_
  have w1 : IntKind.i64.wrap ((k : Int) + 1) = ((k + 1 : Nat) : Int) := wrap_nat (by omega)
  have hl3 := hlen H3
  have hLl := a2.len
  have stop : ∀ (H' : Heap), Has9 H' p L k → RD H' q L → True := fun _ _ _ => trivial
  by_cases hk : k < x0.length
  · have d1 : decide ((k : Int) < (x0.length : Int)) = true := decide_eq_true (by omega)
    by_cases hk2 : k < 100
    · have d2 : decide ((k : Int) < 100) = true := decide_eq_true (by omega)
      obtain ⟨x, hx⟩ : ∃ x, x0[k]? = some x := ⟨_, List.getElem?_eq_getElem hk⟩
      obtain ⟨pp, i1, i2⟩ := a4.ld hx
      (try (conv => whnf)); (repeat (first | (refine Ob.of (by first | with_reducible assumption | with_reducible exact ex20 _ _ | with_reducible exact ex21 _ _ | with_reducible exact ex30 _ _ _ | with_reducible exact ex31 _ _ _ | with_reducible exact ex32 _ _ _ | rfl | (exact ald rfl rfl (by assumption) rfl) | (exact ald_agg rfl rfl rfl (by assumption) rfl)) ?_; (conv => whnf)) | (refine bIf.yes (by first | assumption | rfl) ?_; (conv => whnf)) | (refine bIf.no (by first | assumption | rfl) ?_; (conv => whnf))))
      refine (long_ax H3 x.1 x.2.1 x.2.2).mono ?_
      rintro _ X ⟨rfl, e⟩
      subst X
      cases hlong : (decide ((x.2.1.size : Int) > 300) || decide ((x.2.2.2.2.size : Int) > 300)) with
      | true =>
        (try (conv => whnf)); (repeat (first | (refine Ob.of (by first | with_reducible assumption | with_reducible exact ex20 _ _ | with_reducible exact ex21 _ _ | with_reducible exact ex30 _ _ _ | with_reducible exact ex31 _ _ _ | with_reducible exact ex32 _ _ _ | rfl | (exact ald rfl rfl (by assumption) rfl) | (exact ald_agg rfl rfl rfl (by assumption) rfl)) ?_; (conv => whnf)) | (refine bIf.yes (by first | assumption | rfl) ?_; (conv => whnf)) | (refine bIf.no (by first | assumption | rfl) ?_; (conv => whnf))))
        refine (works_ax H3).mono ?_
        rintro _ X ⟨rfl, e⟩
        (try (conv => whnf)); (repeat (first | (refine Ob.of (by first | with_reducible assumption | with_reducible exact ex20 _ _ | with_reducible exact ex21 _ _ | with_reducible exact ex30 _ _ _ | with_reducible exact ex31 _ _ _ | with_reducible exact ex32 _ _ _ | rfl | (exact ald rfl rfl (by assumption) rfl) | (exact ald_agg rfl rfl rfl (by assumption) rfl)) ?_; (conv => whnf)) | (refine bIf.yes (by first | assumption | rfl) ?_; (conv => whnf)) | (refine bIf.no (by first | assumption | rfl) ?_; (conv => whnf))))
        rfl
      | false =>
        (try (conv => whnf)); (repeat (first | (refine Ob.of (by first | with_reducible assumption | with_reducible exact ex20 _ _ | with_reducible exact ex21 _ _ | with_reducible exact ex30 _ _ _ | with_reducible exact ex31 _ _ _ | with_reducible exact ex32 _ _ _ | rfl | (exact ald rfl rfl (by assumption) rfl) | (exact ald_agg rfl rfl rfl (by assumption) rfl)) ?_; (conv => whnf)) | (refine bIf.yes (by first | assumption | rfl) ?_; (conv => whnf)) | (refine bIf.no (by first | assumption | rfl) ?_; (conv => whnf))))
        refine (done_ax a2 a3 (by omega) (by omega) hpq x.1 x.2.1 x.2.2).mono ?_
        rintro _ H4 ⟨b, rfl, z0, x1, x2, x3⟩
        have z4 := z0 rfl
        subst z4
        have fin : ∃ y : Nat × List (ByteArray × V), Has [(0, sv), (3, ptr p), (4, ptr q), (5, Value.int .i64 (IntKind.i64.wrap ((k : Int) + 1)))] [(0, sv), (3, ptr p), (4, ptr q), (5, .int .i64 (y.1 : Int))] ∧ (y.1 ≤ 100 ∧ Has9 H4 p y.2 y.1 ∧ RD H4 q y.2 ∧ Acts H4 sv x0) ∧ 100 - y.1 < 100 - k :=
          ⟨(k + 1, stepL L x), ⟨rfl, rfl, rfl, congrArg (fun z => some (Value.int .i64 z)) w1, trivial⟩, ⟨by show k + 1 ≤ 100; omega, x1, x2, a4.x x3 a2.var a3.var⟩, by show 100 - (k + 1) < 100 - k; omega⟩
        cases h5 : ((k : Int).tmod 5 == 0) with
        | true =>
          (try (conv => whnf)); (repeat (first | (refine Ob.of (by first | with_reducible assumption | with_reducible exact ex20 _ _ | with_reducible exact ex21 _ _ | with_reducible exact ex30 _ _ _ | with_reducible exact ex31 _ _ _ | with_reducible exact ex32 _ _ _ | rfl | (exact ald rfl rfl (by assumption) rfl) | (exact ald_agg rfl rfl rfl (by assumption) rfl)) ?_; (conv => whnf)) | (refine bIf.yes (by first | assumption | rfl) ?_; (conv => whnf)) | (refine bIf.no (by first | assumption | rfl) ?_; (conv => whnf))))
          refine (like_ax x1 x2 (by omega) (Nat.le_trans x1.len (by omega))).mono ?_
          rintro _ X ⟨rfl, z⟩
          subst X
          (try (conv => whnf)); (repeat (first | (refine Ob.of (by first | with_reducible assumption | with_reducible exact ex20 _ _ | with_reducible exact ex21 _ _ | with_reducible exact ex30 _ _ _ | with_reducible exact ex31 _ _ _ | with_reducible exact ex32 _ _ _ | rfl | (exact ald rfl rfl (by assumption) rfl) | (exact ald_agg rfl rfl rfl (by assumption) rfl)) ?_; (conv => whnf)) | (refine bIf.yes (by first | assumption | rfl) ?_; (conv => whnf)) | (refine bIf.no (by first | assumption | rfl) ?_; (conv => whnf))))
          obtain ⟨y, ⟨y1, y2, y3, y4, _⟩, y5⟩ := fin
          exact ⟨y, ⟨y1, y2, y3, y4, trivial⟩, y5⟩
        | false =>
          (try (conv => whnf)); (repeat (first | (refine Ob.of (by first | with_reducible assumption | with_reducible exact ex20 _ _ | with_reducible exact ex21 _ _ | with_reducible exact ex30 _ _ _ | with_reducible exact ex31 _ _ _ | with_reducible exact ex32 _ _ _ | rfl | (exact ald rfl rfl (by assumption) rfl) | (exact ald_agg rfl rfl rfl (by assumption) rfl)) ?_; (conv => whnf)) | (refine bIf.yes (by first | assumption | rfl) ?_; (conv => whnf)) | (refine bIf.no (by first | assumption | rfl) ?_; (conv => whnf))))
          obtain ⟨y, ⟨y1, y2, y3, y4, _⟩, y5⟩ := fin
          exact ⟨y, ⟨y1, y2, y3, y4, trivial⟩, y5⟩
    · have d2 : decide ((k : Int) < 100) = false := decide_eq_false (by omega)
      (try (conv => whnf)); (repeat (first | (refine Ob.of (by first | with_reducible assumption | with_reducible exact ex20 _ _ | with_reducible exact ex21 _ _ | with_reducible exact ex30 _ _ _ | with_reducible exact ex31 _ _ _ | with_reducible exact ex32 _ _ _ | rfl | (exact ald rfl rfl (by assumption) rfl) | (exact ald_agg rfl rfl rfl (by assumption) rfl)) ?_; (conv => whnf)) | (refine bIf.yes (by first | assumption | rfl) ?_; (conv => whnf)) | (refine bIf.no (by first | assumption | rfl) ?_; (conv => whnf))))
      refine (like_ax a2 a3 (by omega) (by omega)).mono ?_
      rintro _ X ⟨rfl, e⟩
      subst X
      (try (conv => whnf)); (repeat (first | (refine Ob.of (by first | with_reducible assumption | with_reducible exact ex20 _ _ | with_reducible exact ex21 _ _ | with_reducible exact ex30 _ _ _ | with_reducible exact ex31 _ _ _ | with_reducible exact ex32 _ _ _ | rfl | (exact ald rfl rfl (by assumption) rfl) | (exact ald_agg rfl rfl rfl (by assumption) rfl)) ?_; (conv => whnf)) | (refine bIf.yes (by first | assumption | rfl) ?_; (conv => whnf)) | (refine bIf.no (by first | assumption | rfl) ?_; (conv => whnf))))
      refine (works_ax H3).mono ?_
      rintro _ X ⟨rfl, e⟩
      (try (conv => whnf)); (repeat (first | (refine Ob.of (by first | with_reducible assumption | with_reducible exact ex20 _ _ | with_reducible exact ex21 _ _ | with_reducible exact ex30 _ _ _ | with_reducible exact ex31 _ _ _ | with_reducible exact ex32 _ _ _ | rfl | (exact ald rfl rfl (by assumption) rfl) | (exact ald_agg rfl rfl rfl (by assumption) rfl)) ?_; (conv => whnf)) | (refine bIf.yes (by first | assumption | rfl) ?_; (conv => whnf)) | (refine bIf.no (by first | assumption | rfl) ?_; (conv => whnf))))
      rfl
  · have d1 : decide ((k : Int) < (x0.length : Int)) = false := decide_eq_false (by omega)
    (try (conv => whnf)); (repeat (first | (refine Ob.of (by first | with_reducible assumption | with_reducible exact ex20 _ _ | with_reducible exact ex21 _ _ | with_reducible exact ex30 _ _ _ | with_reducible exact ex31 _ _ _ | with_reducible exact ex32 _ _ _ | rfl | (exact ald rfl rfl (by assumption) rfl) | (exact ald_agg rfl rfl rfl (by assumption) rfl)) ?_; (conv => whnf)) | (refine bIf.yes (by first | assumption | rfl) ?_; (conv => whnf)) | (refine bIf.no (by first | assumption | rfl) ?_; (conv => whnf))))
    refine (like_ax a2 a3 (by omega) (by omega)).mono ?_
    rintro _ X ⟨rfl, e⟩
    subst X
    (try (conv => whnf)); (repeat (first | (refine Ob.of (by first | with_reducible assumption | with_reducible exact ex20 _ _ | with_reducible exact ex21 _ _ | with_reducible exact ex30 _ _ _ | with_reducible exact ex31 _ _ _ | with_reducible exact ex32 _ _ _ | rfl | (exact ald rfl rfl (by assumption) rfl) | (exact ald_agg rfl rfl rfl (by assumption) rfl)) ?_; (conv => whnf)) | (refine bIf.yes (by first | assumption | rfl) ?_; (conv => whnf)) | (refine bIf.no (by first | assumption | rfl) ?_; (conv => whnf))))
    refine (works_ax H3).mono ?_
    rintro _ X ⟨rfl, e⟩
    (try (conv => whnf)); (repeat (first | (refine Ob.of (by first | with_reducible assumption | with_reducible exact ex20 _ _ | with_reducible exact ex21 _ _ | with_reducible exact ex30 _ _ _ | with_reducible exact ex31 _ _ _ | with_reducible exact ex32 _ _ _ | rfl | (exact ald rfl rfl (by assumption) rfl) | (exact ald_agg rfl rfl rfl (by assumption) rfl)) ?_; (conv => whnf)) | (refine bIf.yes (by first | assumption | rfl) ?_; (conv => whnf)) | (refine bIf.no (by first | assumption | rfl) ?_; (conv => whnf))))
    rfl
end Go.Proofs.Ytnmfmgnkfkhdhaa
