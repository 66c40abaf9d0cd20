/- Package text: whether a text may be a name; and that the package works. -/
import Derived.Test.YtffgdcmiacooaaaTx4
set_option linter.unusedVariables false
set_option linter.unusedSimpArgs false
set_option maxRecDepth 20000
set_option maxHeartbeats 4000000
namespace Go.Proofs.Ytffgdcmiacooaaa
open Go Ax
theorem ba_beq (s t : ByteArray) : (s == t) = decide (s = t) := by
  show (s.data == t.data) = _
  by_cases h : s = t
  · subst h; simp
  · rw [decide_eq_false h, beq_eq_false_iff_ne]; exact fun e => h (ByteArray.ext e)
def digitB (x : Int) : Bool := !(decide (x < 48) || decide (x > 57))
/-- From place i on each byte may stand in a name. -/
def nameF (L : List UInt8) (i : Nat) : Bool := (L.drop i).all fun c => letterB (c.toNat : Int) || digitB (c.toNat : Int)
def nameS (L : List UInt8) : Bool :=
  match L with
  | [] => false
  | c :: r => decide (L.length ≤ 12) && (letterB (c.toNat : Int) && r.all fun c => letterB (c.toNat : Int) || digitB (c.toNat : Int))
theorem nameF_step {L : List UInt8} {i : Nat} {c : UInt8} (h : L[i]? = some c) : nameF L i = ((letterB (c.toNat : Int) || digitB (c.toNat : Int)) && nameF L (i + 1)) := by
  have hl := (List.getElem?_eq_some_iff.1 h).1
  have he := (List.getElem?_eq_some_iff.1 h).2
  unfold nameF
  rw [List.drop_eq_getElem_cons hl, List.all_cons, he]
theorem nameF_end {L : List UInt8} {i : Nat} (h : L[i]? = none) : nameF L i = true := by
  unfold nameF
  rw [List.drop_eq_nil_of_le (List.getElem?_eq_none_iff.1 h)]
  rfl
theorem rname_ax (H0 : Heap) {s : ByteArray} (hs : s.size ≤ 100000) : AX Try.prog 13 #[.string s] H0 (fun v H' => v = .bool (nameS s.data.toList) ∧ H' = H0) := by
  refine AX.alone (args := [.string s]) (fun v hv => by simp only [List.mem_singleton] at hv; subst hv; exact plain_str _) ?_
  suffices hh : AX Try.prog 13 [.string s].toArray [] (fun v _ => v = .bool (nameS s.data.toList)) from hh.mono fun v _ e => ⟨e ▸ plain_bool _, e⟩
  have hsl : s.data.toList.length = s.size := by simp
  refine AX.body (n := 41) (rs := [.tmp 2]) Try.func13 rfl (by decide) rfl rfl (bC_sound _ _ _ _ ?_)
  cases hL : s.data.toList with
  | nil =>
    have h0 : s.size = 0 := by rw [← hsl, hL]; rfl
    have d1 : ((s.size : Int) == 0) = true := by rw [beq_iff_eq]; omega
    (try (conv => whnf)); (repeat (first | (refine Ob.of (by first | with_reducible assumption | rfl | (exact ald rfl rfl (by assumption) rfl) | (exact ald_agg rfl rfl rfl (by assumption) rfl)) ?_; (conv => whnf)) | (refine bIf.yes (by first | assumption | rfl) ?_; (conv => whnf)) | (refine bIf.no (by first | assumption | rfl) ?_; (conv => whnf))))
    rfl
  | cons c r =>
    rw [← hL]
    have hc : s.data.toList[0]? = some c := by rw [hL]; rfl
    have h0 := str_lt hc
    have d1 : ((s.size : Int) == 0) = false := by rw [beq_eq_false_iff_ne]; omega
    have ix0 : aindex Try.prog 9 (.string s) (.int .i64 0) = some (u8 c) := aix (k := 0) hc
    by_cases h12 : s.size ≤ 12
    rotate_left
    · have d2 : decide ((s.size : Int) > 12) = true := decide_eq_true (by omega)
      have hn : nameS s.data.toList = false := by
        rw [hL]; simp only [nameS]; rw [← hL, hsl, decide_eq_false (by omega)]; rfl
      rw [hn]
      (try (conv => whnf)); (repeat (first | (refine Ob.of (by first | with_reducible assumption | rfl | (exact ald rfl rfl (by assumption) rfl) | (exact ald_agg rfl rfl rfl (by assumption) rfl)) ?_; (conv => whnf)) | (refine bIf.yes (by first | assumption | rfl) ?_; (conv => whnf)) | (refine bIf.no (by first | assumption | rfl) ?_; (conv => whnf))))
      rfl
    have d2 : decide ((s.size : Int) > 12) = false := decide_eq_false (by omega)
    (try (conv => whnf)); (repeat (first | (refine Ob.of (by first | with_reducible assumption | rfl | (exact ald rfl rfl (by assumption) rfl) | (exact ald_agg rfl rfl rfl (by assumption) rfl)) ?_; (conv => whnf)) | (refine bIf.yes (by first | assumption | rfl) ?_; (conv => whnf)) | (refine bIf.no (by first | assumption | rfl) ?_; (conv => whnf))))
    refine (letter_ax [] (c.toNat : Int)).mono ?_
    rintro _ X ⟨rfl, e⟩
    subst X
    have hn : nameS s.data.toList = (letterB (c.toNat : Int) && nameF s.data.toList 1) := by
      rw [hL]; simp only [nameS]; rw [← hL, hsl, decide_eq_true h12, hL]; rfl
    rw [hn]
    cases hl : letterB (c.toNat : Int) with
    | false =>
      (try (conv => whnf)); (repeat (first | (refine Ob.of (by first | with_reducible assumption | rfl | (exact ald rfl rfl (by assumption) rfl) | (exact ald_agg rfl rfl rfl (by assumption) rfl)) ?_; (conv => whnf)) | (refine bIf.yes (by first | assumption | rfl) ?_; (conv => whnf)) | (refine bIf.no (by first | assumption | rfl) ?_; (conv => whnf))))
      rfl
    | true =>
      (try (conv => whnf)); (repeat (first | (refine Ob.of (by first | with_reducible assumption | rfl | (exact ald rfl rfl (by assumption) rfl) | (exact ald_agg rfl rfl rfl (by assumption) rfl)) ?_; (conv => whnf)) | (refine bIf.yes (by first | assumption | rfl) ?_; (conv => whnf)) | (refine bIf.no (by first | assumption | rfl) ?_; (conv => whnf))))
      refine SW.loop (α := Nat) (fun i => [(0, .string s), (3, .int .i64 (i : Int))]) (fun i H => nameF s.data.toList i = nameF s.data.toList 1 ∧ i ≤ s.size) (fun i => s.size - i) ⟨1, ⟨rfl, rfl, trivial⟩, rfl, by omega⟩ ?_
      rintro i H3 ⟨hf, hi⟩
      refine bC_sound _ _ _ _ ?_
      rw [← hf]
      have w1 : IntKind.i64.wrap ((i : Int) + 1) = ((i + 1 : Nat) : Int) := wrap_nat (by omega)
      cases hc : s.data.toList[i]? with
      | none =>
        have hge := str_ge hc
        have d3 : decide ((i : Int) < (s.size : Int)) = false := decide_eq_false (by omega)
        rw [nameF_end hc]
        (try (conv => whnf)); (repeat (first | (refine Ob.of (by first | with_reducible assumption | rfl | (exact ald rfl rfl (by assumption) rfl) | (exact ald_agg rfl rfl rfl (by assumption) rfl)) ?_; (conv => whnf)) | (refine bIf.yes (by first | assumption | rfl) ?_; (conv => whnf)) | (refine bIf.no (by first | assumption | rfl) ?_; (conv => whnf))))
        rfl
      | some c =>
        have hlt := str_lt hc
        have d3 : decide ((i : Int) < (s.size : Int)) = true := decide_eq_true (by omega)
        have ix := aix hc
        rw [nameF_step hc]
        (try (conv => whnf)); (repeat (first | (refine Ob.of (by first | with_reducible assumption | rfl | (exact ald rfl rfl (by assumption) rfl) | (exact ald_agg rfl rfl rfl (by assumption) rfl)) ?_; (conv => whnf)) | (refine bIf.yes (by first | assumption | rfl) ?_; (conv => whnf)) | (refine bIf.no (by first | assumption | rfl) ?_; (conv => whnf))))
        refine (letter_ax H3 (c.toNat : Int)).mono ?_
        rintro _ X ⟨rfl, e⟩
        subst X
        have fin : ∀ (t : (letterB (c.toNat : Int) || digitB (c.toNat : Int)) = true), nameF s.data.toList (i + 1) = ((letterB (c.toNat : Int) || digitB (c.toNat : Int)) && nameF s.data.toList (i + 1)) := fun t => by rw [t]; rfl
        cases hl : letterB (c.toNat : Int) with
        | true =>
          rw [hl] at fin
          (try (conv => whnf)); (repeat (first | (refine Ob.of (by first | with_reducible assumption | rfl | (exact ald rfl rfl (by assumption) rfl) | (exact ald_agg rfl rfl rfl (by assumption) rfl)) ?_; (conv => whnf)) | (refine bIf.yes (by first | assumption | rfl) ?_; (conv => whnf)) | (refine bIf.no (by first | assumption | rfl) ?_; (conv => whnf))))
          exact ⟨i + 1, ⟨rfl, congrArg (fun z => some (Value.int .i64 z)) w1, trivial⟩, ⟨fin rfl, by show i + 1 ≤ s.size; omega⟩, by show s.size - (i + 1) < s.size - i; omega⟩
        | false =>
          rw [hl] at fin
          cases d4 : decide ((c.toNat : Int) < 48) with
          | true =>
            have hd : digitB (c.toNat : Int) = false := by simp only [digitB, d4]; rfl
            rw [hd]
            (try (conv => whnf)); (repeat (first | (refine Ob.of (by first | with_reducible assumption | rfl | (exact ald rfl rfl (by assumption) rfl) | (exact ald_agg rfl rfl rfl (by assumption) rfl)) ?_; (conv => whnf)) | (refine bIf.yes (by first | assumption | rfl) ?_; (conv => whnf)) | (refine bIf.no (by first | assumption | rfl) ?_; (conv => whnf))))
            rfl
          | false =>
            cases d5 : decide ((c.toNat : Int) > 57) with
            | true =>
              have hd : digitB (c.toNat : Int) = false := by simp only [digitB, d4, d5]; rfl
              rw [hd]
              (try (conv => whnf)); (repeat (first | (refine Ob.of (by first | with_reducible assumption | rfl | (exact ald rfl rfl (by assumption) rfl) | (exact ald_agg rfl rfl rfl (by assumption) rfl)) ?_; (conv => whnf)) | (refine bIf.yes (by first | assumption | rfl) ?_; (conv => whnf)) | (refine bIf.no (by first | assumption | rfl) ?_; (conv => whnf))))
              rfl
            | false =>
              have hd : digitB (c.toNat : Int) = true := by simp only [digitB, d4, d5]; rfl
              rw [hd] at fin ⊢
              (try (conv => whnf)); (repeat (first | (refine Ob.of (by first | with_reducible assumption | rfl | (exact ald rfl rfl (by assumption) rfl) | (exact ald_agg rfl rfl rfl (by assumption) rfl)) ?_; (conv => whnf)) | (refine bIf.yes (by first | assumption | rfl) ?_; (conv => whnf)) | (refine bIf.no (by first | assumption | rfl) ?_; (conv => whnf))))
              exact ⟨i + 1, ⟨rfl, congrArg (fun z => some (Value.int .i64 z)) w1, trivial⟩, ⟨fin rfl, by show i + 1 ≤ s.size; omega⟩, by show s.size - (i + 1) < s.size - i; omega⟩
def nmI (L : List UInt8) (i : Nat) : Bool :=
  match L[i]? with
  | none => true
  | some c => (letterB (c.toNat : Int) || (!((i : Int) == 0) && digitB (c.toNat : Int))) && nameF L (i + 1)
theorem nmI_succ (L : List UInt8) (i : Nat) : nmI L (i + 1) = nameF L (i + 1) := by
  have h0 : (((i + 1 : Nat) : Int) == 0) = false := by rw [beq_eq_false_iff_ne]; omega
  unfold nmI
  cases hc : L[i + 1]? with
  | none => rw [nameF_end hc]
  | some c => rw [nameF_step hc, h0]; rfl
theorem name_ax (H0 : Heap) {s : ByteArray} (hs : s.size ≤ 100000) : AX Try.prog 12 #[.string s] H0 (fun v H' => v = .bool (nameS s.data.toList) ∧ H' = H0) := by
  refine AX.alone (args := [.string s]) (fun v hv => by simp only [List.mem_singleton] at hv; subst hv; exact plain_str _) ?_
  suffices hh : AX Try.prog 12 [.string s].toArray [] (fun v _ => v = .bool (nameS s.data.toList)) from hh.mono fun v _ e => ⟨e ▸ plain_bool _, e⟩
  have hsl : s.data.toList.length = s.size := by simp
  refine AX.body (n := 54) (rs := [.tmp 2]) Try.func12 rfl (by decide) rfl rfl (bC_sound _ _ _ _ ?_)
  cases hL : s.data.toList with
  | nil =>
    have h0 : s = .empty := by apply ByteArray.ext; apply Array.ext'; exact hL
    subst h0
    (try (conv => whnf)); (repeat (first | (refine Ob.of (by first | with_reducible assumption | rfl | (exact ald rfl rfl (by assumption) rfl) | (exact ald_agg rfl rfl rfl (by assumption) rfl)) ?_; (conv => whnf)) | (refine bIf.yes (by first | assumption | rfl) ?_; (conv => whnf)) | (refine bIf.no (by first | assumption | rfl) ?_; (conv => whnf))))
    rfl
  | cons c r =>
    rw [← hL]
    have hc : s.data.toList[0]? = some c := by rw [hL]; rfl
    have h0 := str_lt hc
    have d1 : (s == ByteArray.empty) = false := by
      rw [ba_beq, decide_eq_false]
      rintro rfl
      exact absurd h0 (by decide)
    have d1' : (s == ({ data := #[] } : ByteArray)) = false := d1
    by_cases h12 : s.size ≤ 12
    rotate_left
    · have d2 : decide ((s.size : Int) > 12) = true := decide_eq_true (by omega)
      have hn : nameS s.data.toList = false := by
        rw [hL]; simp only [nameS]; rw [← hL, hsl, decide_eq_false (by omega)]; rfl
      rw [hn]
      (try (conv => whnf)); (repeat (first | (refine Ob.of (by first | with_reducible assumption | rfl | (exact ald rfl rfl (by assumption) rfl) | (exact ald_agg rfl rfl rfl (by assumption) rfl)) ?_; (conv => whnf)) | (refine bIf.yes (by first | assumption | rfl) ?_; (conv => whnf)) | (refine bIf.no (by first | assumption | rfl) ?_; (conv => whnf))))
      rfl
    have d2 : decide ((s.size : Int) > 12) = false := decide_eq_false (by omega)
    have hn : nameS s.data.toList = nmI s.data.toList 0 := by
      have : nameS s.data.toList = (letterB (c.toNat : Int) && nameF s.data.toList 1) := by
        rw [hL]; simp only [nameS]; rw [← hL, hsl, decide_eq_true h12, hL]; rfl
      rw [this]
      simp [nmI, hc]
    rw [hn]
    (try (conv => whnf)); (repeat (first | (refine Ob.of (by first | with_reducible assumption | rfl | (exact ald rfl rfl (by assumption) rfl) | (exact ald_agg rfl rfl rfl (by assumption) rfl)) ?_; (conv => whnf)) | (refine bIf.yes (by first | assumption | rfl) ?_; (conv => whnf)) | (refine bIf.no (by first | assumption | rfl) ?_; (conv => whnf))))
    refine SW.loop (α := Nat) (fun i => [(0, .string s), (14, .int .i64 (s.size : Int)), (15, .int .i64 (i : Int))]) (fun i H => nmI s.data.toList i = nmI s.data.toList 0 ∧ i ≤ s.size) (fun i => s.size - i) ⟨0, ⟨rfl, rfl, rfl, trivial⟩, rfl, by omega⟩ ?_
    rintro i H3 ⟨hf, hi⟩
    refine bC_sound _ _ _ _ ?_
    rw [← hf]
    have w1 : IntKind.i64.wrap ((i : Int) + 1) = ((i + 1 : Nat) : Int) := wrap_nat (by omega)
    cases hc : s.data.toList[i]? with
    | none =>
      have hge := str_ge hc
      have d3 : decide ((i : Int) < (s.size : Int)) = false := decide_eq_false (by omega)
      have hX : nmI s.data.toList i = true := by simp [nmI, hc]
      rw [hX]
      (try (conv => whnf)); (repeat (first | (refine Ob.of (by first | with_reducible assumption | rfl | (exact ald rfl rfl (by assumption) rfl) | (exact ald_agg rfl rfl rfl (by assumption) rfl)) ?_; (conv => whnf)) | (refine bIf.yes (by first | assumption | rfl) ?_; (conv => whnf)) | (refine bIf.no (by first | assumption | rfl) ?_; (conv => whnf))))
      rfl
    | some c =>
      have hlt := str_lt hc
      have d3 : decide ((i : Int) < (s.size : Int)) = true := decide_eq_true (by omega)
      have ix := aix hc
      have hX : nmI s.data.toList i = ((letterB (c.toNat : Int) || (!((i : Int) == 0) && digitB (c.toNat : Int))) && nameF s.data.toList (i + 1)) := by simp only [nmI, hc]
      rw [hX]
      have hY := nmI_succ s.data.toList i
      cases h1 : decide ((c.toNat : Int) ≥ 97) with
      | true =>
        cases h2 : decide ((c.toNat : Int) ≤ 122) with
        | true =>
          have hl : letterB (c.toNat : Int) = true := by simp only [letterB, h1, h2]; rfl
          (try (conv => whnf)); (repeat (first | (refine Ob.of (by first | with_reducible assumption | rfl | (exact ald rfl rfl (by assumption) rfl) | (exact ald_agg rfl rfl rfl (by assumption) rfl)) ?_; (conv => whnf)) | (refine bIf.yes (by first | assumption | rfl) ?_; (conv => whnf)) | (refine bIf.no (by first | assumption | rfl) ?_; (conv => whnf))))
          exact ⟨i + 1, ⟨rfl, rfl, congrArg (fun z => some (Value.int .i64 z)) w1, trivial⟩, ⟨by simp only [hY, hl]; rfl, by show i + 1 ≤ s.size; omega⟩, by show s.size - (i + 1) < s.size - i; omega⟩
        | false =>
          cases h3 : decide ((c.toNat : Int) ≥ 65) with
          | true =>
            cases h4 : decide ((c.toNat : Int) ≤ 90) with
            | true =>
              have hl : letterB (c.toNat : Int) = true := by simp only [letterB, h1, h2, h3, h4]; rfl
              (try (conv => whnf)); (repeat (first | (refine Ob.of (by first | with_reducible assumption | rfl | (exact ald rfl rfl (by assumption) rfl) | (exact ald_agg rfl rfl rfl (by assumption) rfl)) ?_; (conv => whnf)) | (refine bIf.yes (by first | assumption | rfl) ?_; (conv => whnf)) | (refine bIf.no (by first | assumption | rfl) ?_; (conv => whnf))))
              exact ⟨i + 1, ⟨rfl, rfl, congrArg (fun z => some (Value.int .i64 z)) w1, trivial⟩, ⟨by simp only [hY, hl]; rfl, by show i + 1 ≤ s.size; omega⟩, by show s.size - (i + 1) < s.size - i; omega⟩
            | false =>
              cases h5 : ((c.toNat : Int) == 95) with
              | true =>
                have h6 : (!((c.toNat : Int) == 95)) = _ := congrArg Bool.not h5
                have hl : letterB (c.toNat : Int) = true := by simp only [letterB, h1, h2, h3, h4, h5]; rfl
                (try (conv => whnf)); (repeat (first | (refine Ob.of (by first | with_reducible assumption | rfl | (exact ald rfl rfl (by assumption) rfl) | (exact ald_agg rfl rfl rfl (by assumption) rfl)) ?_; (conv => whnf)) | (refine bIf.yes (by first | assumption | rfl) ?_; (conv => whnf)) | (refine bIf.no (by first | assumption | rfl) ?_; (conv => whnf))))
                exact ⟨i + 1, ⟨rfl, rfl, congrArg (fun z => some (Value.int .i64 z)) w1, trivial⟩, ⟨by simp only [hY, hl]; rfl, by show i + 1 ≤ s.size; omega⟩, by show s.size - (i + 1) < s.size - i; omega⟩
              | false =>
                have h6 : (!((c.toNat : Int) == 95)) = _ := congrArg Bool.not h5
                have hl : letterB (c.toNat : Int) = false := by simp only [letterB, h1, h2, h3, h4, h5]; rfl
                cases d0 : ((i : Int) == 0) with
                | true =>
                  (try (conv => whnf)); (repeat (first | (refine Ob.of (by first | with_reducible assumption | rfl | (exact ald rfl rfl (by assumption) rfl) | (exact ald_agg rfl rfl rfl (by assumption) rfl)) ?_; (conv => whnf)) | (refine bIf.yes (by first | assumption | rfl) ?_; (conv => whnf)) | (refine bIf.no (by first | assumption | rfl) ?_; (conv => whnf))))
                  show Value.bool false = Value.bool _
                  simp only [hl, d0]; rfl
                | false =>
                  cases d4 : decide ((c.toNat : Int) < 48) with
                  | true =>
                    have hd : digitB (c.toNat : Int) = false := by simp only [digitB, d4]; rfl
                    (try (conv => whnf)); (repeat (first | (refine Ob.of (by first | with_reducible assumption | rfl | (exact ald rfl rfl (by assumption) rfl) | (exact ald_agg rfl rfl rfl (by assumption) rfl)) ?_; (conv => whnf)) | (refine bIf.yes (by first | assumption | rfl) ?_; (conv => whnf)) | (refine bIf.no (by first | assumption | rfl) ?_; (conv => whnf))))
                    show Value.bool false = Value.bool _
                    simp only [hl, d0, hd]; rfl
                  | false =>
                    cases d5 : decide ((c.toNat : Int) > 57) with
                    | true =>
                      have hd : digitB (c.toNat : Int) = false := by simp only [digitB, d4, d5]; rfl
                      (try (conv => whnf)); (repeat (first | (refine Ob.of (by first | with_reducible assumption | rfl | (exact ald rfl rfl (by assumption) rfl) | (exact ald_agg rfl rfl rfl (by assumption) rfl)) ?_; (conv => whnf)) | (refine bIf.yes (by first | assumption | rfl) ?_; (conv => whnf)) | (refine bIf.no (by first | assumption | rfl) ?_; (conv => whnf))))
                      show Value.bool false = Value.bool _
                      simp only [hl, d0, hd]; rfl
                    | false =>
                      have hd : digitB (c.toNat : Int) = true := by simp only [digitB, d4, d5]; rfl
                      (try (conv => whnf)); (repeat (first | (refine Ob.of (by first | with_reducible assumption | rfl | (exact ald rfl rfl (by assumption) rfl) | (exact ald_agg rfl rfl rfl (by assumption) rfl)) ?_; (conv => whnf)) | (refine bIf.yes (by first | assumption | rfl) ?_; (conv => whnf)) | (refine bIf.no (by first | assumption | rfl) ?_; (conv => whnf))))
                      exact ⟨i + 1, ⟨rfl, rfl, congrArg (fun z => some (Value.int .i64 z)) w1, trivial⟩, ⟨by simp only [hY, hl, d0, hd]; rfl, by show i + 1 ≤ s.size; omega⟩, by show s.size - (i + 1) < s.size - i; omega⟩
          | false =>
            cases h5 : ((c.toNat : Int) == 95) with
            | true =>
              have h6 : (!((c.toNat : Int) == 95)) = _ := congrArg Bool.not h5
              have hl : letterB (c.toNat : Int) = true := by simp only [letterB, h1, h2, h3, h5]; rfl
              (try (conv => whnf)); (repeat (first | (refine Ob.of (by first | with_reducible assumption | rfl | (exact ald rfl rfl (by assumption) rfl) | (exact ald_agg rfl rfl rfl (by assumption) rfl)) ?_; (conv => whnf)) | (refine bIf.yes (by first | assumption | rfl) ?_; (conv => whnf)) | (refine bIf.no (by first | assumption | rfl) ?_; (conv => whnf))))
              exact ⟨i + 1, ⟨rfl, rfl, congrArg (fun z => some (Value.int .i64 z)) w1, trivial⟩, ⟨by simp only [hY, hl]; rfl, by show i + 1 ≤ s.size; omega⟩, by show s.size - (i + 1) < s.size - i; omega⟩
            | false =>
              have h6 : (!((c.toNat : Int) == 95)) = _ := congrArg Bool.not h5
              have hl : letterB (c.toNat : Int) = false := by simp only [letterB, h1, h2, h3, h5]; rfl
              cases d0 : ((i : Int) == 0) with
              | true =>
                (try (conv => whnf)); (repeat (first | (refine Ob.of (by first | with_reducible assumption | rfl | (exact ald rfl rfl (by assumption) rfl) | (exact ald_agg rfl rfl rfl (by assumption) rfl)) ?_; (conv => whnf)) | (refine bIf.yes (by first | assumption | rfl) ?_; (conv => whnf)) | (refine bIf.no (by first | assumption | rfl) ?_; (conv => whnf))))
                show Value.bool false = Value.bool _
                simp only [hl, d0]; rfl
              | false =>
                cases d4 : decide ((c.toNat : Int) < 48) with
                | true =>
                  have hd : digitB (c.toNat : Int) = false := by simp only [digitB, d4]; rfl
                  (try (conv => whnf)); (repeat (first | (refine Ob.of (by first | with_reducible assumption | rfl | (exact ald rfl rfl (by assumption) rfl) | (exact ald_agg rfl rfl rfl (by assumption) rfl)) ?_; (conv => whnf)) | (refine bIf.yes (by first | assumption | rfl) ?_; (conv => whnf)) | (refine bIf.no (by first | assumption | rfl) ?_; (conv => whnf))))
                  show Value.bool false = Value.bool _
                  simp only [hl, d0, hd]; rfl
                | false =>
                  cases d5 : decide ((c.toNat : Int) > 57) with
                  | true =>
                    have hd : digitB (c.toNat : Int) = false := by simp only [digitB, d4, d5]; rfl
                    (try (conv => whnf)); (repeat (first | (refine Ob.of (by first | with_reducible assumption | rfl | (exact ald rfl rfl (by assumption) rfl) | (exact ald_agg rfl rfl rfl (by assumption) rfl)) ?_; (conv => whnf)) | (refine bIf.yes (by first | assumption | rfl) ?_; (conv => whnf)) | (refine bIf.no (by first | assumption | rfl) ?_; (conv => whnf))))
                    show Value.bool false = Value.bool _
                    simp only [hl, d0, hd]; rfl
                  | false =>
                    have hd : digitB (c.toNat : Int) = true := by simp only [digitB, d4, d5]; rfl
                    (try (conv => whnf)); (repeat (first | (refine Ob.of (by first | with_reducible assumption | rfl | (exact ald rfl rfl (by assumption) rfl) | (exact ald_agg rfl rfl rfl (by assumption) rfl)) ?_; (conv => whnf)) | (refine bIf.yes (by first | assumption | rfl) ?_; (conv => whnf)) | (refine bIf.no (by first | assumption | rfl) ?_; (conv => whnf))))
                    exact ⟨i + 1, ⟨rfl, rfl, congrArg (fun z => some (Value.int .i64 z)) w1, trivial⟩, ⟨by simp only [hY, hl, d0, hd]; rfl, by show i + 1 ≤ s.size; omega⟩, by show s.size - (i + 1) < s.size - i; omega⟩
      | false =>
        cases h3 : decide ((c.toNat : Int) ≥ 65) with
        | true =>
          cases h4 : decide ((c.toNat : Int) ≤ 90) with
          | true =>
            have hl : letterB (c.toNat : Int) = true := by simp only [letterB, h1, h3, h4]; rfl
            (try (conv => whnf)); (repeat (first | (refine Ob.of (by first | with_reducible assumption | rfl | (exact ald rfl rfl (by assumption) rfl) | (exact ald_agg rfl rfl rfl (by assumption) rfl)) ?_; (conv => whnf)) | (refine bIf.yes (by first | assumption | rfl) ?_; (conv => whnf)) | (refine bIf.no (by first | assumption | rfl) ?_; (conv => whnf))))
            exact ⟨i + 1, ⟨rfl, rfl, congrArg (fun z => some (Value.int .i64 z)) w1, trivial⟩, ⟨by simp only [hY, hl]; rfl, by show i + 1 ≤ s.size; omega⟩, by show s.size - (i + 1) < s.size - i; omega⟩
          | false =>
            cases h5 : ((c.toNat : Int) == 95) with
            | true =>
              have h6 : (!((c.toNat : Int) == 95)) = _ := congrArg Bool.not h5
              have hl : letterB (c.toNat : Int) = true := by simp only [letterB, h1, h3, h4, h5]; rfl
              (try (conv => whnf)); (repeat (first | (refine Ob.of (by first | with_reducible assumption | rfl | (exact ald rfl rfl (by assumption) rfl) | (exact ald_agg rfl rfl rfl (by assumption) rfl)) ?_; (conv => whnf)) | (refine bIf.yes (by first | assumption | rfl) ?_; (conv => whnf)) | (refine bIf.no (by first | assumption | rfl) ?_; (conv => whnf))))
              exact ⟨i + 1, ⟨rfl, rfl, congrArg (fun z => some (Value.int .i64 z)) w1, trivial⟩, ⟨by simp only [hY, hl]; rfl, by show i + 1 ≤ s.size; omega⟩, by show s.size - (i + 1) < s.size - i; omega⟩
            | false =>
              have h6 : (!((c.toNat : Int) == 95)) = _ := congrArg Bool.not h5
              have hl : letterB (c.toNat : Int) = false := by simp only [letterB, h1, h3, h4, h5]; rfl
              cases d0 : ((i : Int) == 0) with
              | true =>
                (try (conv => whnf)); (repeat (first | (refine Ob.of (by first | with_reducible assumption | rfl | (exact ald rfl rfl (by assumption) rfl) | (exact ald_agg rfl rfl rfl (by assumption) rfl)) ?_; (conv => whnf)) | (refine bIf.yes (by first | assumption | rfl) ?_; (conv => whnf)) | (refine bIf.no (by first | assumption | rfl) ?_; (conv => whnf))))
                show Value.bool false = Value.bool _
                simp only [hl, d0]; rfl
              | false =>
                cases d4 : decide ((c.toNat : Int) < 48) with
                | true =>
                  have hd : digitB (c.toNat : Int) = false := by simp only [digitB, d4]; rfl
                  (try (conv => whnf)); (repeat (first | (refine Ob.of (by first | with_reducible assumption | rfl | (exact ald rfl rfl (by assumption) rfl) | (exact ald_agg rfl rfl rfl (by assumption) rfl)) ?_; (conv => whnf)) | (refine bIf.yes (by first | assumption | rfl) ?_; (conv => whnf)) | (refine bIf.no (by first | assumption | rfl) ?_; (conv => whnf))))
                  show Value.bool false = Value.bool _
                  simp only [hl, d0, hd]; rfl
                | false =>
                  cases d5 : decide ((c.toNat : Int) > 57) with
                  | true =>
                    have hd : digitB (c.toNat : Int) = false := by simp only [digitB, d4, d5]; rfl
                    (try (conv => whnf)); (repeat (first | (refine Ob.of (by first | with_reducible assumption | rfl | (exact ald rfl rfl (by assumption) rfl) | (exact ald_agg rfl rfl rfl (by assumption) rfl)) ?_; (conv => whnf)) | (refine bIf.yes (by first | assumption | rfl) ?_; (conv => whnf)) | (refine bIf.no (by first | assumption | rfl) ?_; (conv => whnf))))
                    show Value.bool false = Value.bool _
                    simp only [hl, d0, hd]; rfl
                  | false =>
                    have hd : digitB (c.toNat : Int) = true := by simp only [digitB, d4, d5]; rfl
                    (try (conv => whnf)); (repeat (first | (refine Ob.of (by first | with_reducible assumption | rfl | (exact ald rfl rfl (by assumption) rfl) | (exact ald_agg rfl rfl rfl (by assumption) rfl)) ?_; (conv => whnf)) | (refine bIf.yes (by first | assumption | rfl) ?_; (conv => whnf)) | (refine bIf.no (by first | assumption | rfl) ?_; (conv => whnf))))
                    exact ⟨i + 1, ⟨rfl, rfl, congrArg (fun z => some (Value.int .i64 z)) w1, trivial⟩, ⟨by simp only [hY, hl, d0, hd]; rfl, by show i + 1 ≤ s.size; omega⟩, by show s.size - (i + 1) < s.size - i; omega⟩
        | false =>
          cases h5 : ((c.toNat : Int) == 95) with
          | true =>
            have h6 : (!((c.toNat : Int) == 95)) = _ := congrArg Bool.not h5
            have hl : letterB (c.toNat : Int) = true := by simp only [letterB, h1, h3, h5]; rfl
            (try (conv => whnf)); (repeat (first | (refine Ob.of (by first | with_reducible assumption | rfl | (exact ald rfl rfl (by assumption) rfl) | (exact ald_agg rfl rfl rfl (by assumption) rfl)) ?_; (conv => whnf)) | (refine bIf.yes (by first | assumption | rfl) ?_; (conv => whnf)) | (refine bIf.no (by first | assumption | rfl) ?_; (conv => whnf))))
            exact ⟨i + 1, ⟨rfl, rfl, congrArg (fun z => some (Value.int .i64 z)) w1, trivial⟩, ⟨by simp only [hY, hl]; rfl, by show i + 1 ≤ s.size; omega⟩, by show s.size - (i + 1) < s.size - i; omega⟩
          | false =>
            have h6 : (!((c.toNat : Int) == 95)) = _ := congrArg Bool.not h5
            have hl : letterB (c.toNat : Int) = false := by simp only [letterB, h1, h3, h5]; rfl
            cases d0 : ((i : Int) == 0) with
            | true =>
              (try (conv => whnf)); (repeat (first | (refine Ob.of (by first | with_reducible assumption | rfl | (exact ald rfl rfl (by assumption) rfl) | (exact ald_agg rfl rfl rfl (by assumption) rfl)) ?_; (conv => whnf)) | (refine bIf.yes (by first | assumption | rfl) ?_; (conv => whnf)) | (refine bIf.no (by first | assumption | rfl) ?_; (conv => whnf))))
              show Value.bool false = Value.bool _
              simp only [hl, d0]; rfl
            | false =>
              cases d4 : decide ((c.toNat : Int) < 48) with
              | true =>
                have hd : digitB (c.toNat : Int) = false := by simp only [digitB, d4]; rfl
                (try (conv => whnf)); (repeat (first | (refine Ob.of (by first | with_reducible assumption | rfl | (exact ald rfl rfl (by assumption) rfl) | (exact ald_agg rfl rfl rfl (by assumption) rfl)) ?_; (conv => whnf)) | (refine bIf.yes (by first | assumption | rfl) ?_; (conv => whnf)) | (refine bIf.no (by first | assumption | rfl) ?_; (conv => whnf))))
                show Value.bool false = Value.bool _
                simp only [hl, d0, hd]; rfl
              | false =>
                cases d5 : decide ((c.toNat : Int) > 57) with
                | true =>
                  have hd : digitB (c.toNat : Int) = false := by simp only [digitB, d4, d5]; rfl
                  (try (conv => whnf)); (repeat (first | (refine Ob.of (by first | with_reducible assumption | rfl | (exact ald rfl rfl (by assumption) rfl) | (exact ald_agg rfl rfl rfl (by assumption) rfl)) ?_; (conv => whnf)) | (refine bIf.yes (by first | assumption | rfl) ?_; (conv => whnf)) | (refine bIf.no (by first | assumption | rfl) ?_; (conv => whnf))))
                  show Value.bool false = Value.bool _
                  simp only [hl, d0, hd]; rfl
                | false =>
                  have hd : digitB (c.toNat : Int) = true := by simp only [digitB, d4, d5]; rfl
                  (try (conv => whnf)); (repeat (first | (refine Ob.of (by first | with_reducible assumption | rfl | (exact ald rfl rfl (by assumption) rfl) | (exact ald_agg rfl rfl rfl (by assumption) rfl)) ?_; (conv => whnf)) | (refine bIf.yes (by first | assumption | rfl) ?_; (conv => whnf)) | (refine bIf.no (by first | assumption | rfl) ?_; (conv => whnf))))
                  exact ⟨i + 1, ⟨rfl, rfl, congrArg (fun z => some (Value.int .i64 z)) w1, trivial⟩, ⟨by simp only [hY, hl, d0, hd]; rfl, by show i + 1 ≤ s.size; omega⟩, by show s.size - (i + 1) < s.size - i; omega⟩
end Go.Proofs.Ytffgdcmiacooaaa
