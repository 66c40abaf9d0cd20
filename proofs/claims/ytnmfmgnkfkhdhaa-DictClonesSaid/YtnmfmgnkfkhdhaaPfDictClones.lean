/- The law DictClones, told of abstract memory: whatever the input, it answers true. No condition. -/
import Derived.Test.YtnmfmgnkfkhdhaaDi20
set_option linter.unusedVariables false
set_option linter.unusedSimpArgs false
set_option maxRecDepth 20000
set_option maxHeartbeats 2000000
namespace Go.Proofs.Ytnmfmgnkfkhdhaa
open Go Ax
theorem DictClones_ax (H : Heap) (c0 : List Value) (x0 : List ((Int) × (ByteArray) × ((Int) × (Int) × (ByteArray)))) (c1 : List Value) (x1 : List ((Int) × (ByteArray) × ((Int) × (Int) × (ByteArray)))) (hn : NoOwn H) (R0 : ty22.R H c0 x0) (o0 : ty22.ok x0) (R1 : ty22.R H c1 x1) (o1 : ty22.ok x1) :
    AX Try.prog 5 #[arg1 c0, arg1 c1] H fun v _ => v = .bool true := by
  obtain ⟨sv, hsv, hacts, hlen⟩ := acts_of R0
  obtain ⟨tv, htv, hacts1, hlen1⟩ := acts_of R1
  rw [hsv, htv]
  refine AX.body (n := 68) (rs := [.tmp 4]) Try.func5 rfl (by decide) rfl rfl (bC_sound _ _ _ _ ?_)
  (try (conv => whnf)); (repeat (first | (refine Ob.of (by first | with_reducible assumption | with_reducible exact ex20 _ _ | with_reducible exact ex21 _ _ | with_reducible exact ex30 _ _ _ | with_reducible exact ex31 _ _ _ | with_reducible exact ex32 _ _ _ | rfl | (exact ald rfl rfl (by assumption) rfl) | (exact ald_agg rfl rfl rfl (by assumption) rfl)) ?_; (conv => whnf)) | (refine bIf.yes (by first | assumption | rfl) ?_; (conv => whnf)) | (refine bIf.no (by first | assumption | rfl) ?_; (conv => whnf))))
  refine (new_ax H).mono ?_
  rintro _ H1 ⟨p, rfl, hp, d, g1⟩
  (try (conv => whnf)); (repeat (first | (refine Ob.of (by first | with_reducible assumption | with_reducible exact ex20 _ _ | with_reducible exact ex21 _ _ | with_reducible exact ex30 _ _ _ | with_reducible exact ex31 _ _ _ | with_reducible exact ex32 _ _ _ | rfl | (exact ald rfl rfl (by assumption) rfl) | (exact ald_agg rfl rfl rfl (by assumption) rfl)) ?_; (conv => whnf)) | (refine bIf.yes (by first | assumption | rfl) ?_; (conv => whnf)) | (refine bIf.no (by first | assumption | rfl) ?_; (conv => whnf))))
  refine Ob2.box rfl fun q H2 hq k1 k2 => ?_
  have hd : Has9 H2 p [] 0 := ⟨[], d.grow k2, rfl, Nat.le_refl _⟩
  have hr : RD H2 q [] := ⟨_, _, k1, .inl ⟨rfl, rfl⟩, .inl ⟨rfl, rfl⟩⟩
  have hpq : p ≠ q := by have := d.lt; omega
  (try (conv => whnf)); (repeat (first | (refine Ob.of (by first | with_reducible assumption | with_reducible exact ex20 _ _ | with_reducible exact ex21 _ _ | with_reducible exact ex30 _ _ _ | with_reducible exact ex31 _ _ _ | with_reducible exact ex32 _ _ _ | rfl | (exact ald rfl rfl (by assumption) rfl) | (exact ald_agg rfl rfl rfl (by assumption) rfl)) ?_; (conv => whnf)) | (refine bIf.yes (by first | assumption | rfl) ?_; (conv => whnf)) | (refine bIf.no (by first | assumption | rfl) ?_; (conv => whnf))))
  refine SW.loop (α := Nat × List (ByteArray × V)) (fun x => [(0, sv), (1, tv), (5, ptr p), (6, ptr q), (7, .int .i64 (x.1 : Int))]) (fun x H3 => x.1 ≤ 60 ∧ Has9 H3 p x.2 x.1 ∧ RD H3 q x.2 ∧ Acts H3 sv x0 ∧ Acts H3 tv x1) (fun x => 60 - x.1)
    ⟨(0, []), ⟨rfl, rfl, rfl, rfl, rfl, trivial⟩, Nat.zero_le _, hd, hr, (hacts.g g1).g k2, (hacts1.g g1).g k2⟩ ?_
  rintro ⟨k, L⟩ H3 ⟨a1, a2, a3, a4, a5⟩
  simp only at a1 a2 a3
  refine bC_sound _ _ _ _ ?_
  have w1 : IntKind.i64.wrap ((k : Int) + 1) = ((k + 1 : Nat) : Int) := wrap_nat (by omega)
  have hl3 := hlen H3
  have hLl := a2.len
  by_cases hk : k < x0.length ∧ k < 60
  · have d1 : decide ((k : Int) < (x0.length : Int)) = true := decide_eq_true (by omega)
    have d2 : decide ((k : Int) < 60) = true := decide_eq_true (by omega)
    obtain ⟨x, hx⟩ : ∃ x, x0[k]? = some x := ⟨_, List.getElem?_eq_getElem hk.1⟩
    obtain ⟨pp, i1, i2⟩ := a4.ld hx
    (try (conv => whnf)); (repeat (first | (refine Ob.of (by first | with_reducible assumption | with_reducible exact ex20 _ _ | with_reducible exact ex21 _ _ | with_reducible exact ex30 _ _ _ | with_reducible exact ex31 _ _ _ | with_reducible exact ex32 _ _ _ | rfl | (exact ald rfl rfl (by assumption) rfl) | (exact ald_agg rfl rfl rfl (by assumption) rfl)) ?_; (conv => whnf)) | (refine bIf.yes (by first | assumption | rfl) ?_; (conv => whnf)) | (refine bIf.no (by first | assumption | rfl) ?_; (conv => whnf))))
    refine (long_ax H3 x.1 x.2.1 x.2.2).mono ?_
    rintro _ X ⟨rfl, e⟩
    subst X
    cases hlong : (decide ((x.2.1.size : Int) > 300) || decide ((x.2.2.2.2.size : Int) > 300)) with
    | true =>
      (try (conv => whnf)); (repeat (first | (refine Ob.of (by first | with_reducible assumption | with_reducible exact ex20 _ _ | with_reducible exact ex21 _ _ | with_reducible exact ex30 _ _ _ | with_reducible exact ex31 _ _ _ | with_reducible exact ex32 _ _ _ | rfl | (exact ald rfl rfl (by assumption) rfl) | (exact ald_agg rfl rfl rfl (by assumption) rfl)) ?_; (conv => whnf)) | (refine bIf.yes (by first | assumption | rfl) ?_; (conv => whnf)) | (refine bIf.no (by first | assumption | rfl) ?_; (conv => whnf))))
      refine (works_ax H3).mono ?_
      rintro _ X ⟨rfl, e⟩
      (try (conv => whnf)); (repeat (first | (refine Ob.of (by first | with_reducible assumption | with_reducible exact ex20 _ _ | with_reducible exact ex21 _ _ | with_reducible exact ex30 _ _ _ | with_reducible exact ex31 _ _ _ | with_reducible exact ex32 _ _ _ | rfl | (exact ald rfl rfl (by assumption) rfl) | (exact ald_agg rfl rfl rfl (by assumption) rfl)) ?_; (conv => whnf)) | (refine bIf.yes (by first | assumption | rfl) ?_; (conv => whnf)) | (refine bIf.no (by first | assumption | rfl) ?_; (conv => whnf))))
      rfl
    | false =>
      (try (conv => whnf)); (repeat (first | (refine Ob.of (by first | with_reducible assumption | with_reducible exact ex20 _ _ | with_reducible exact ex21 _ _ | with_reducible exact ex30 _ _ _ | with_reducible exact ex31 _ _ _ | with_reducible exact ex32 _ _ _ | rfl | (exact ald rfl rfl (by assumption) rfl) | (exact ald_agg rfl rfl rfl (by assumption) rfl)) ?_; (conv => whnf)) | (refine bIf.yes (by first | assumption | rfl) ?_; (conv => whnf)) | (refine bIf.no (by first | assumption | rfl) ?_; (conv => whnf))))
      refine (done_ax a2 a3 (by omega) (by omega) hpq x.1 x.2.1 x.2.2).mono ?_
      rintro _ H4 ⟨b, rfl, z0, z1, z2, z3⟩
      (try (conv => whnf)); (repeat (first | (refine Ob.of (by first | with_reducible assumption | with_reducible exact ex20 _ _ | with_reducible exact ex21 _ _ | with_reducible exact ex30 _ _ _ | with_reducible exact ex31 _ _ _ | with_reducible exact ex32 _ _ _ | rfl | (exact ald rfl rfl (by assumption) rfl) | (exact ald_agg rfl rfl rfl (by assumption) rfl)) ?_; (conv => whnf)) | (refine bIf.yes (by first | assumption | rfl) ?_; (conv => whnf)) | (refine bIf.no (by first | assumption | rfl) ?_; (conv => whnf))))
      exact ⟨(k + 1, stepL L x), ⟨rfl, rfl, rfl, rfl, congrArg (fun z => some (Value.int .i64 z)) w1, trivial⟩, ⟨by show k + 1 ≤ 60; omega, z1, z2, a4.x z3 a2.var a3.var, a5.x z3 a2.var a3.var⟩, by show 60 - (k + 1) < 60 - k; omega⟩
  · have tail : SW Try.prog 68 Code.skip (fun _ _ _ => True) [] H3 → True := fun _ => trivial
    by_cases hk1 : k < x0.length
    · have d1 : decide ((k : Int) < (x0.length : Int)) = true := decide_eq_true (by omega)
      have d2 : decide ((k : Int) < 60) = false := decide_eq_false (by omega)
      (try (conv => whnf)); (repeat (first | (refine Ob.of (by first | with_reducible assumption | with_reducible exact ex20 _ _ | with_reducible exact ex21 _ _ | with_reducible exact ex30 _ _ _ | with_reducible exact ex31 _ _ _ | with_reducible exact ex32 _ _ _ | rfl | (exact ald rfl rfl (by assumption) rfl) | (exact ald_agg rfl rfl rfl (by assumption) rfl)) ?_; (conv => whnf)) | (refine bIf.yes (by first | assumption | rfl) ?_; (conv => whnf)) | (refine bIf.no (by first | assumption | rfl) ?_; (conv => whnf))))
      refine (clone9 a2 (by omega)).mono ?_
      rintro _ H4 ⟨c, rfl, hcl, hc, g4, hf⟩
      have tr : Trio p c q L L 60 H4 := ⟨(a2.grow g4).more (by omega), hc.more (by omega), a3.grow g4, by have := a2.lt; omega, hpq, by have := a3.lt; omega, fun j j1 j2 => by
        have := hf j j1
        have h2 := a2.footLt ((foot_same (g4.2 _ a2.lt)).1 j2)
        omega⟩
      (try (conv => whnf)); (repeat (first | (refine Ob.of (by first | with_reducible assumption | with_reducible exact ex20 _ _ | with_reducible exact ex21 _ _ | with_reducible exact ex30 _ _ _ | with_reducible exact ex31 _ _ _ | with_reducible exact ex32 _ _ _ | rfl | (exact ald rfl rfl (by assumption) rfl) | (exact ald_agg rfl rfl rfl (by assumption) rfl)) ?_; (conv => whnf)) | (refine bIf.yes (by first | assumption | rfl) ?_; (conv => whnf)) | (refine bIf.no (by first | assumption | rfl) ?_; (conv => whnf))))
      refine SW.loop (α := Nat × List (ByteArray × V)) (fun x => [(1, tv), (5, ptr p), (6, ptr q), (8, ptr c), (9, .int .i64 (x.1 : Int))]) (fun x H5 => x.1 ≤ 60 ∧ Trio p c q L x.2 (60 + x.1) H5 ∧ Acts H5 tv x1) (fun x => 60 - x.1)
        ⟨(0, L), ⟨rfl, rfl, rfl, rfl, rfl, trivial⟩, Nat.zero_le _, tr, a5.g g4⟩ ?_
      rintro ⟨m, M⟩ H5 ⟨b1, b2, b3⟩
      simp only at b1 b2
      refine bC_sound _ _ _ _ ?_
      have wm : IntKind.i64.wrap ((m : Int) + 1) = ((m + 1 : Nat) : Int) := wrap_nat (by omega)
      have hl5 := hlen1 H5
      have fin : ∀ (H' : Heap), Trio p c q L M (60 + m) H' → True := fun _ _ => trivial
      by_cases hm : m < x1.length ∧ m < 60
      · have d3 : decide ((m : Int) < (x1.length : Int)) = true := decide_eq_true (by omega)
        have d4 : decide ((m : Int) < 60) = true := decide_eq_true (by omega)
        obtain ⟨x, hx⟩ : ∃ x, x1[m]? = some x := ⟨_, List.getElem?_eq_getElem hm.1⟩
        obtain ⟨pp, i1, i2⟩ := b3.ld hx
        (try (conv => whnf)); (repeat (first | (refine Ob.of (by first | with_reducible assumption | with_reducible exact ex20 _ _ | with_reducible exact ex21 _ _ | with_reducible exact ex30 _ _ _ | with_reducible exact ex31 _ _ _ | with_reducible exact ex32 _ _ _ | rfl | (exact ald rfl rfl (by assumption) rfl) | (exact ald_agg rfl rfl rfl (by assumption) rfl)) ?_; (conv => whnf)) | (refine bIf.yes (by first | assumption | rfl) ?_; (conv => whnf)) | (refine bIf.no (by first | assumption | rfl) ?_; (conv => whnf))))
        refine (long_ax H5 x.1 x.2.1 x.2.2).mono ?_
        rintro _ X ⟨rfl, e⟩
        subst X
        cases hlong : (decide ((x.2.1.size : Int) > 300) || decide ((x.2.2.2.2.size : Int) > 300)) with
        | true =>
          (try (conv => whnf)); (repeat (first | (refine Ob.of (by first | with_reducible assumption | with_reducible exact ex20 _ _ | with_reducible exact ex21 _ _ | with_reducible exact ex30 _ _ _ | with_reducible exact ex31 _ _ _ | with_reducible exact ex32 _ _ _ | rfl | (exact ald rfl rfl (by assumption) rfl) | (exact ald_agg rfl rfl rfl (by assumption) rfl)) ?_; (conv => whnf)) | (refine bIf.yes (by first | assumption | rfl) ?_; (conv => whnf)) | (refine bIf.no (by first | assumption | rfl) ?_; (conv => whnf))))
          refine (works_ax H5).mono ?_
          rintro _ X ⟨rfl, e⟩
          (try (conv => whnf)); (repeat (first | (refine Ob.of (by first | with_reducible assumption | with_reducible exact ex20 _ _ | with_reducible exact ex21 _ _ | with_reducible exact ex30 _ _ _ | with_reducible exact ex31 _ _ _ | with_reducible exact ex32 _ _ _ | rfl | (exact ald rfl rfl (by assumption) rfl) | (exact ald_agg rfl rfl rfl (by assumption) rfl)) ?_; (conv => whnf)) | (refine bIf.yes (by first | assumption | rfl) ?_; (conv => whnf)) | (refine bIf.no (by first | assumption | rfl) ?_; (conv => whnf))))
          rfl
        | false =>
          (try (conv => whnf)); (repeat (first | (refine Ob.of (by first | with_reducible assumption | with_reducible exact ex20 _ _ | with_reducible exact ex21 _ _ | with_reducible exact ex30 _ _ _ | with_reducible exact ex31 _ _ _ | with_reducible exact ex32 _ _ _ | rfl | (exact ald rfl rfl (by assumption) rfl) | (exact ald_agg rfl rfl rfl (by assumption) rfl)) ?_; (conv => whnf)) | (refine bIf.yes (by first | assumption | rfl) ?_; (conv => whnf)) | (refine bIf.no (by first | assumption | rfl) ?_; (conv => whnf))))
          refine Ob2.box rfl fun q2 H6 hq2 n1 n2 => ?_
          have t6 := b2.grow n2
          have hr6 : RD H6 q2 [] := ⟨_, _, n1, .inl ⟨rfl, rfl⟩, .inl ⟨rfl, rfl⟩⟩
          have h06 : ∀ j, ¬ FootR H6 q2 j := by
            rintro j ⟨nv, vv, e1, e2⟩
            rw [n1] at e1
            simp only [Option.some.injEq, Blk.cells.injEq, true_and] at e1
            have e1' : [Value.slice none 0 0, Value.slice none 0 0] = [nv, vv] := e1
            simp only [List.cons.injEq, and_true] at e1'
            obtain ⟨rfl, rfl⟩ := e1'
            rcases e2 with ⟨_, _, e2⟩ | ⟨_, _, e2⟩ <;> cases e2
          have hp2 : p ≠ q2 := by have := b2.d.lt; omega
          obtain ⟨pp6, i6, i7⟩ := (b3.g n2).ld hx
          (try (conv => whnf)); (repeat (first | (refine Ob.of (by first | with_reducible assumption | with_reducible exact ex20 _ _ | with_reducible exact ex21 _ _ | with_reducible exact ex30 _ _ _ | with_reducible exact ex31 _ _ _ | with_reducible exact ex32 _ _ _ | rfl | (exact ald rfl rfl (by assumption) rfl) | (exact ald_agg rfl rfl rfl (by assumption) rfl)) ?_; (conv => whnf)) | (refine bIf.yes (by first | assumption | rfl) ?_; (conv => whnf)) | (refine bIf.no (by first | assumption | rfl) ?_; (conv => whnf))))
          refine (done_x t6.d hr6 (by omega) (by simp) hp2 x.1 x.2.1 x.2.2).mono ?_
          rintro _ H7 ⟨b, rfl, z0, z1, z2, z3⟩
          have t7 := t6.act z3 z1 hr6 h06 (by have := b2.cl.lt; omega) (by have := b2.r.lt; omega) hp2
          obtain ⟨pc, hpv⟩ := t6.d.var
          have a7 : Acts H7 tv x1 := (b3.g n2).keep fun b c hb => z3.2.1 b _ hb (by rintro rfl; rw [hpv] at hb; simp at hb) (by rintro rfl; rw [n1] at hb; simp at hb) (t6.d.notFoot hb rfl) (h06 b)
          (try (conv => whnf)); (repeat (first | (refine Ob.of (by first | with_reducible assumption | with_reducible exact ex20 _ _ | with_reducible exact ex21 _ _ | with_reducible exact ex30 _ _ _ | with_reducible exact ex31 _ _ _ | with_reducible exact ex32 _ _ _ | rfl | (exact ald rfl rfl (by assumption) rfl) | (exact ald_agg rfl rfl rfl (by assumption) rfl)) ?_; (conv => whnf)) | (refine bIf.yes (by first | assumption | rfl) ?_; (conv => whnf)) | (refine bIf.no (by first | assumption | rfl) ?_; (conv => whnf))))
          exact ⟨(m + 1, stepL M x), ⟨rfl, rfl, rfl, rfl, congrArg (fun z => some (Value.int .i64 z)) wm, trivial⟩, ⟨by show m + 1 ≤ 60; omega, t7, a7⟩, by show 60 - (m + 1) < 60 - m; omega⟩
      · have fin2 : ∀ (y : Nat), True := fun _ => trivial
        have hLl2 := b2.cl.len
        by_cases hm1 : m < x1.length
        · have d3 : decide ((m : Int) < (x1.length : Int)) = true := decide_eq_true (by omega)
          have d4 : decide ((m : Int) < 60) = false := decide_eq_false (by omega)
          (try (conv => whnf)); (repeat (first | (refine Ob.of (by first | with_reducible assumption | with_reducible exact ex20 _ _ | with_reducible exact ex21 _ _ | with_reducible exact ex30 _ _ _ | with_reducible exact ex31 _ _ _ | with_reducible exact ex32 _ _ _ | rfl | (exact ald rfl rfl (by assumption) rfl) | (exact ald_agg rfl rfl rfl (by assumption) rfl)) ?_; (conv => whnf)) | (refine bIf.yes (by first | assumption | rfl) ?_; (conv => whnf)) | (refine bIf.no (by first | assumption | rfl) ?_; (conv => whnf))))
          refine (like_ax b2.cl b2.r (by omega) (by omega)).mono ?_
          rintro _ X ⟨rfl, e⟩
          subst X
          (try (conv => whnf)); (repeat (first | (refine Ob.of (by first | with_reducible assumption | with_reducible exact ex20 _ _ | with_reducible exact ex21 _ _ | with_reducible exact ex30 _ _ _ | with_reducible exact ex31 _ _ _ | with_reducible exact ex32 _ _ _ | rfl | (exact ald rfl rfl (by assumption) rfl) | (exact ald_agg rfl rfl rfl (by assumption) rfl)) ?_; (conv => whnf)) | (refine bIf.yes (by first | assumption | rfl) ?_; (conv => whnf)) | (refine bIf.no (by first | assumption | rfl) ?_; (conv => whnf))))
          refine (works_ax H5).mono ?_
          rintro _ X ⟨rfl, e⟩
          (try (conv => whnf)); (repeat (first | (refine Ob.of (by first | with_reducible assumption | with_reducible exact ex20 _ _ | with_reducible exact ex21 _ _ | with_reducible exact ex30 _ _ _ | with_reducible exact ex31 _ _ _ | with_reducible exact ex32 _ _ _ | rfl | (exact ald rfl rfl (by assumption) rfl) | (exact ald_agg rfl rfl rfl (by assumption) rfl)) ?_; (conv => whnf)) | (refine bIf.yes (by first | assumption | rfl) ?_; (conv => whnf)) | (refine bIf.no (by first | assumption | rfl) ?_; (conv => whnf))))
          rfl
        · have d3 : decide ((m : Int) < (x1.length : Int)) = false := decide_eq_false (by omega)
          (try (conv => whnf)); (repeat (first | (refine Ob.of (by first | with_reducible assumption | with_reducible exact ex20 _ _ | with_reducible exact ex21 _ _ | with_reducible exact ex30 _ _ _ | with_reducible exact ex31 _ _ _ | with_reducible exact ex32 _ _ _ | rfl | (exact ald rfl rfl (by assumption) rfl) | (exact ald_agg rfl rfl rfl (by assumption) rfl)) ?_; (conv => whnf)) | (refine bIf.yes (by first | assumption | rfl) ?_; (conv => whnf)) | (refine bIf.no (by first | assumption | rfl) ?_; (conv => whnf))))
          refine (like_ax b2.cl b2.r (by omega) (by omega)).mono ?_
          rintro _ X ⟨rfl, e⟩
          subst X
          (try (conv => whnf)); (repeat (first | (refine Ob.of (by first | with_reducible assumption | with_reducible exact ex20 _ _ | with_reducible exact ex21 _ _ | with_reducible exact ex30 _ _ _ | with_reducible exact ex31 _ _ _ | with_reducible exact ex32 _ _ _ | rfl | (exact ald rfl rfl (by assumption) rfl) | (exact ald_agg rfl rfl rfl (by assumption) rfl)) ?_; (conv => whnf)) | (refine bIf.yes (by first | assumption | rfl) ?_; (conv => whnf)) | (refine bIf.no (by first | assumption | rfl) ?_; (conv => whnf))))
          refine (works_ax H5).mono ?_
          rintro _ X ⟨rfl, e⟩
          (try (conv => whnf)); (repeat (first | (refine Ob.of (by first | with_reducible assumption | with_reducible exact ex20 _ _ | with_reducible exact ex21 _ _ | with_reducible exact ex30 _ _ _ | with_reducible exact ex31 _ _ _ | with_reducible exact ex32 _ _ _ | rfl | (exact ald rfl rfl (by assumption) rfl) | (exact ald_agg rfl rfl rfl (by assumption) rfl)) ?_; (conv => whnf)) | (refine bIf.yes (by first | assumption | rfl) ?_; (conv => whnf)) | (refine bIf.no (by first | assumption | rfl) ?_; (conv => whnf))))
          rfl
    · have d1 : decide ((k : Int) < (x0.length : Int)) = false := decide_eq_false (by omega)
      (try (conv => whnf)); (repeat (first | (refine Ob.of (by first | with_reducible assumption | with_reducible exact ex20 _ _ | with_reducible exact ex21 _ _ | with_reducible exact ex30 _ _ _ | with_reducible exact ex31 _ _ _ | with_reducible exact ex32 _ _ _ | rfl | (exact ald rfl rfl (by assumption) rfl) | (exact ald_agg rfl rfl rfl (by assumption) rfl)) ?_; (conv => whnf)) | (refine bIf.yes (by first | assumption | rfl) ?_; (conv => whnf)) | (refine bIf.no (by first | assumption | rfl) ?_; (conv => whnf))))
      refine (clone9 a2 (by omega)).mono ?_
      rintro _ H4 ⟨c, rfl, hcl, hc, g4, hf⟩
      have tr : Trio p c q L L 60 H4 := ⟨(a2.grow g4).more (by omega), hc.more (by omega), a3.grow g4, by have := a2.lt; omega, hpq, by have := a3.lt; omega, fun j j1 j2 => by
        have := hf j j1
        have h2 := a2.footLt ((foot_same (g4.2 _ a2.lt)).1 j2)
        omega⟩
      (try (conv => whnf)); (repeat (first | (refine Ob.of (by first | with_reducible assumption | with_reducible exact ex20 _ _ | with_reducible exact ex21 _ _ | with_reducible exact ex30 _ _ _ | with_reducible exact ex31 _ _ _ | with_reducible exact ex32 _ _ _ | rfl | (exact ald rfl rfl (by assumption) rfl) | (exact ald_agg rfl rfl rfl (by assumption) rfl)) ?_; (conv => whnf)) | (refine bIf.yes (by first | assumption | rfl) ?_; (conv => whnf)) | (refine bIf.no (by first | assumption | rfl) ?_; (conv => whnf))))
      refine SW.loop (α := Nat × List (ByteArray × V)) (fun x => [(1, tv), (5, ptr p), (6, ptr q), (8, ptr c), (9, .int .i64 (x.1 : Int))]) (fun x H5 => x.1 ≤ 60 ∧ Trio p c q L x.2 (60 + x.1) H5 ∧ Acts H5 tv x1) (fun x => 60 - x.1)
        ⟨(0, L), ⟨rfl, rfl, rfl, rfl, rfl, trivial⟩, Nat.zero_le _, tr, a5.g g4⟩ ?_
      rintro ⟨m, M⟩ H5 ⟨b1, b2, b3⟩
      simp only at b1 b2
      refine bC_sound _ _ _ _ ?_
      have wm : IntKind.i64.wrap ((m : Int) + 1) = ((m + 1 : Nat) : Int) := wrap_nat (by omega)
      have hl5 := hlen1 H5
      have fin : ∀ (H' : Heap), Trio p c q L M (60 + m) H' → True := fun _ _ => trivial
      by_cases hm : m < x1.length ∧ m < 60
      · have d3 : decide ((m : Int) < (x1.length : Int)) = true := decide_eq_true (by omega)
        have d4 : decide ((m : Int) < 60) = true := decide_eq_true (by omega)
        obtain ⟨x, hx⟩ : ∃ x, x1[m]? = some x := ⟨_, List.getElem?_eq_getElem hm.1⟩
        obtain ⟨pp, i1, i2⟩ := b3.ld hx
        (try (conv => whnf)); (repeat (first | (refine Ob.of (by first | with_reducible assumption | with_reducible exact ex20 _ _ | with_reducible exact ex21 _ _ | with_reducible exact ex30 _ _ _ | with_reducible exact ex31 _ _ _ | with_reducible exact ex32 _ _ _ | rfl | (exact ald rfl rfl (by assumption) rfl) | (exact ald_agg rfl rfl rfl (by assumption) rfl)) ?_; (conv => whnf)) | (refine bIf.yes (by first | assumption | rfl) ?_; (conv => whnf)) | (refine bIf.no (by first | assumption | rfl) ?_; (conv => whnf))))
        refine (long_ax H5 x.1 x.2.1 x.2.2).mono ?_
        rintro _ X ⟨rfl, e⟩
        subst X
        cases hlong : (decide ((x.2.1.size : Int) > 300) || decide ((x.2.2.2.2.size : Int) > 300)) with
        | true =>
          (try (conv => whnf)); (repeat (first | (refine Ob.of (by first | with_reducible assumption | with_reducible exact ex20 _ _ | with_reducible exact ex21 _ _ | with_reducible exact ex30 _ _ _ | with_reducible exact ex31 _ _ _ | with_reducible exact ex32 _ _ _ | rfl | (exact ald rfl rfl (by assumption) rfl) | (exact ald_agg rfl rfl rfl (by assumption) rfl)) ?_; (conv => whnf)) | (refine bIf.yes (by first | assumption | rfl) ?_; (conv => whnf)) | (refine bIf.no (by first | assumption | rfl) ?_; (conv => whnf))))
          refine (works_ax H5).mono ?_
          rintro _ X ⟨rfl, e⟩
          (try (conv => whnf)); (repeat (first | (refine Ob.of (by first | with_reducible assumption | with_reducible exact ex20 _ _ | with_reducible exact ex21 _ _ | with_reducible exact ex30 _ _ _ | with_reducible exact ex31 _ _ _ | with_reducible exact ex32 _ _ _ | rfl | (exact ald rfl rfl (by assumption) rfl) | (exact ald_agg rfl rfl rfl (by assumption) rfl)) ?_; (conv => whnf)) | (refine bIf.yes (by first | assumption | rfl) ?_; (conv => whnf)) | (refine bIf.no (by first | assumption | rfl) ?_; (conv => whnf))))
          rfl
        | false =>
          (try (conv => whnf)); (repeat (first | (refine Ob.of (by first | with_reducible assumption | with_reducible exact ex20 _ _ | with_reducible exact ex21 _ _ | with_reducible exact ex30 _ _ _ | with_reducible exact ex31 _ _ _ | with_reducible exact ex32 _ _ _ | rfl | (exact ald rfl rfl (by assumption) rfl) | (exact ald_agg rfl rfl rfl (by assumption) rfl)) ?_; (conv => whnf)) | (refine bIf.yes (by first | assumption | rfl) ?_; (conv => whnf)) | (refine bIf.no (by first | assumption | rfl) ?_; (conv => whnf))))
          refine Ob2.box rfl fun q2 H6 hq2 n1 n2 => ?_
          have t6 := b2.grow n2
          have hr6 : RD H6 q2 [] := ⟨_, _, n1, .inl ⟨rfl, rfl⟩, .inl ⟨rfl, rfl⟩⟩
          have h06 : ∀ j, ¬ FootR H6 q2 j := by
            rintro j ⟨nv, vv, e1, e2⟩
            rw [n1] at e1
            simp only [Option.some.injEq, Blk.cells.injEq, true_and] at e1
            have e1' : [Value.slice none 0 0, Value.slice none 0 0] = [nv, vv] := e1
            simp only [List.cons.injEq, and_true] at e1'
            obtain ⟨rfl, rfl⟩ := e1'
            rcases e2 with ⟨_, _, e2⟩ | ⟨_, _, e2⟩ <;> cases e2
          have hp2 : p ≠ q2 := by have := b2.d.lt; omega
          obtain ⟨pp6, i6, i7⟩ := (b3.g n2).ld hx
          (try (conv => whnf)); (repeat (first | (refine Ob.of (by first | with_reducible assumption | with_reducible exact ex20 _ _ | with_reducible exact ex21 _ _ | with_reducible exact ex30 _ _ _ | with_reducible exact ex31 _ _ _ | with_reducible exact ex32 _ _ _ | rfl | (exact ald rfl rfl (by assumption) rfl) | (exact ald_agg rfl rfl rfl (by assumption) rfl)) ?_; (conv => whnf)) | (refine bIf.yes (by first | assumption | rfl) ?_; (conv => whnf)) | (refine bIf.no (by first | assumption | rfl) ?_; (conv => whnf))))
          refine (done_x t6.d hr6 (by omega) (by simp) hp2 x.1 x.2.1 x.2.2).mono ?_
          rintro _ H7 ⟨b, rfl, z0, z1, z2, z3⟩
          have t7 := t6.act z3 z1 hr6 h06 (by have := b2.cl.lt; omega) (by have := b2.r.lt; omega) hp2
          obtain ⟨pc, hpv⟩ := t6.d.var
          have a7 : Acts H7 tv x1 := (b3.g n2).keep fun b c hb => z3.2.1 b _ hb (by rintro rfl; rw [hpv] at hb; simp at hb) (by rintro rfl; rw [n1] at hb; simp at hb) (t6.d.notFoot hb rfl) (h06 b)
          (try (conv => whnf)); (repeat (first | (refine Ob.of (by first | with_reducible assumption | with_reducible exact ex20 _ _ | with_reducible exact ex21 _ _ | with_reducible exact ex30 _ _ _ | with_reducible exact ex31 _ _ _ | with_reducible exact ex32 _ _ _ | rfl | (exact ald rfl rfl (by assumption) rfl) | (exact ald_agg rfl rfl rfl (by assumption) rfl)) ?_; (conv => whnf)) | (refine bIf.yes (by first | assumption | rfl) ?_; (conv => whnf)) | (refine bIf.no (by first | assumption | rfl) ?_; (conv => whnf))))
          exact ⟨(m + 1, stepL M x), ⟨rfl, rfl, rfl, rfl, congrArg (fun z => some (Value.int .i64 z)) wm, trivial⟩, ⟨by show m + 1 ≤ 60; omega, t7, a7⟩, by show 60 - (m + 1) < 60 - m; omega⟩
      · have fin2 : ∀ (y : Nat), True := fun _ => trivial
        have hLl2 := b2.cl.len
        by_cases hm1 : m < x1.length
        · have d3 : decide ((m : Int) < (x1.length : Int)) = true := decide_eq_true (by omega)
          have d4 : decide ((m : Int) < 60) = false := decide_eq_false (by omega)
          (try (conv => whnf)); (repeat (first | (refine Ob.of (by first | with_reducible assumption | with_reducible exact ex20 _ _ | with_reducible exact ex21 _ _ | with_reducible exact ex30 _ _ _ | with_reducible exact ex31 _ _ _ | with_reducible exact ex32 _ _ _ | rfl | (exact ald rfl rfl (by assumption) rfl) | (exact ald_agg rfl rfl rfl (by assumption) rfl)) ?_; (conv => whnf)) | (refine bIf.yes (by first | assumption | rfl) ?_; (conv => whnf)) | (refine bIf.no (by first | assumption | rfl) ?_; (conv => whnf))))
          refine (like_ax b2.cl b2.r (by omega) (by omega)).mono ?_
          rintro _ X ⟨rfl, e⟩
          subst X
          (try (conv => whnf)); (repeat (first | (refine Ob.of (by first | with_reducible assumption | with_reducible exact ex20 _ _ | with_reducible exact ex21 _ _ | with_reducible exact ex30 _ _ _ | with_reducible exact ex31 _ _ _ | with_reducible exact ex32 _ _ _ | rfl | (exact ald rfl rfl (by assumption) rfl) | (exact ald_agg rfl rfl rfl (by assumption) rfl)) ?_; (conv => whnf)) | (refine bIf.yes (by first | assumption | rfl) ?_; (conv => whnf)) | (refine bIf.no (by first | assumption | rfl) ?_; (conv => whnf))))
          refine (works_ax H5).mono ?_
          rintro _ X ⟨rfl, e⟩
          (try (conv => whnf)); (repeat (first | (refine Ob.of (by first | with_reducible assumption | with_reducible exact ex20 _ _ | with_reducible exact ex21 _ _ | with_reducible exact ex30 _ _ _ | with_reducible exact ex31 _ _ _ | with_reducible exact ex32 _ _ _ | rfl | (exact ald rfl rfl (by assumption) rfl) | (exact ald_agg rfl rfl rfl (by assumption) rfl)) ?_; (conv => whnf)) | (refine bIf.yes (by first | assumption | rfl) ?_; (conv => whnf)) | (refine bIf.no (by first | assumption | rfl) ?_; (conv => whnf))))
          rfl
        · have d3 : decide ((m : Int) < (x1.length : Int)) = false := decide_eq_false (by omega)
          (try (conv => whnf)); (repeat (first | (refine Ob.of (by first | with_reducible assumption | with_reducible exact ex20 _ _ | with_reducible exact ex21 _ _ | with_reducible exact ex30 _ _ _ | with_reducible exact ex31 _ _ _ | with_reducible exact ex32 _ _ _ | rfl | (exact ald rfl rfl (by assumption) rfl) | (exact ald_agg rfl rfl rfl (by assumption) rfl)) ?_; (conv => whnf)) | (refine bIf.yes (by first | assumption | rfl) ?_; (conv => whnf)) | (refine bIf.no (by first | assumption | rfl) ?_; (conv => whnf))))
          refine (like_ax b2.cl b2.r (by omega) (by omega)).mono ?_
          rintro _ X ⟨rfl, e⟩
          subst X
          (try (conv => whnf)); (repeat (first | (refine Ob.of (by first | with_reducible assumption | with_reducible exact ex20 _ _ | with_reducible exact ex21 _ _ | with_reducible exact ex30 _ _ _ | with_reducible exact ex31 _ _ _ | with_reducible exact ex32 _ _ _ | rfl | (exact ald rfl rfl (by assumption) rfl) | (exact ald_agg rfl rfl rfl (by assumption) rfl)) ?_; (conv => whnf)) | (refine bIf.yes (by first | assumption | rfl) ?_; (conv => whnf)) | (refine bIf.no (by first | assumption | rfl) ?_; (conv => whnf))))
          refine (works_ax H5).mono ?_
          rintro _ X ⟨rfl, e⟩
          (try (conv => whnf)); (repeat (first | (refine Ob.of (by first | with_reducible assumption | with_reducible exact ex20 _ _ | with_reducible exact ex21 _ _ | with_reducible exact ex30 _ _ _ | with_reducible exact ex31 _ _ _ | with_reducible exact ex32 _ _ _ | rfl | (exact ald rfl rfl (by assumption) rfl) | (exact ald_agg rfl rfl rfl (by assumption) rfl)) ?_; (conv => whnf)) | (refine bIf.yes (by first | assumption | rfl) ?_; (conv => whnf)) | (refine bIf.no (by first | assumption | rfl) ?_; (conv => whnf))))
          rfl
end Go.Proofs.Ytnmfmgnkfkhdhaa
