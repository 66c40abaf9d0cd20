/- Strings by bytes, whether a text may be a name (out of c02's Tx1, Tx2, Tx6); does a list of strings hold one of which something is true? -/
import Derived.Test.YtmdjepfpgmignaaJTr1
set_option linter.unusedVariables false
set_option linter.unusedSimpArgs false
set_option maxRecDepth 20000
set_option maxHeartbeats 8000000
namespace Go.Proofs.Ytmdjepfpgmignaa
open Go Ax
abbrev u8 (x : UInt8) : Value := .int .u8 (x.toNat : Int)
def letterB (x : Int) : Bool := (decide (x ≥ 97) && decide (x ≤ 122)) || ((decide (x ≥ 65) && decide (x ≤ 90)) || (x == 95))
theorem str_at {s : ByteArray} {k : Nat} {c : UInt8} (h : s.data.toList[k]? = some c) : s[k]? = some c := by
  rw [Array.getElem?_toList] at h
  exact h
theorem str_lt {s : ByteArray} {k : Nat} {c : UInt8} (h : s.data.toList[k]? = some c) : k < s.size := by
  have := (List.getElem?_eq_some_iff.1 h).1
  simpa using this
theorem str_ge {s : ByteArray} {k : Nat} (h : s.data.toList[k]? = none) : s.size ≤ k := by
  have := List.getElem?_eq_none_iff.1 h
  simpa using this
theorem aix {s : ByteArray} {k : Nat} {c : UInt8} (h : s.data.toList[k]? = some c) : aindex Try.prog 9 (.string s) (.int .i64 (k : Int)) = some (u8 c) := by
  simp [aindex, show Try.prog.underlying 9 = some .string from rfl, str_at h]
theorem wrap_nat {k : Nat} (h : k ≤ 140737488355327) : IntKind.i64.wrap ((k : Int) + 1) = ((k + 1 : Nat) : Int) := by rw [wrap_i64 (by omega) (by omega)]; omega
theorem ba_beq (s t : ByteArray) : (s == t) = decide (s = t) := by
  show (s.data == t.data) = _
  by_cases h : s = t
  · subst h; simp
  · rw [decide_eq_false h, beq_eq_false_iff_ne]; exact fun e => h (ByteArray.ext e)
def digitB (x : Int) : Bool := !(decide (x < 48) || decide (x > 57))
/-- From place i on each byte may stand in a name. -/
def nameF (L : List UInt8) (i : Nat) : Bool := (L.drop i).all fun c => letterB (c.toNat : Int) || digitB (c.toNat : Int)
def nameS (L : List UInt8) : Bool :=
  match L with
  | [] => false
  | c :: r => decide (L.length ≤ 12) && (letterB (c.toNat : Int) && r.all fun c => letterB (c.toNat : Int) || digitB (c.toNat : Int))
theorem nameF_step {L : List UInt8} {i : Nat} {c : UInt8} (h : L[i]? = some c) : nameF L i = ((letterB (c.toNat : Int) || digitB (c.toNat : Int)) && nameF L (i + 1)) := by
  have hl := (List.getElem?_eq_some_iff.1 h).1
  have he := (List.getElem?_eq_some_iff.1 h).2
  unfold nameF
  rw [List.drop_eq_getElem_cons hl, List.all_cons, he]
theorem nameF_end {L : List UInt8} {i : Nat} (h : L[i]? = none) : nameF L i = true := by
  unfold nameF
  rw [List.drop_eq_nil_of_le (List.getElem?_eq_none_iff.1 h)]
  rfl
def nmI (L : List UInt8) (i : Nat) : Bool :=
  match L[i]? with
  | none => true
  | some c => (letterB (c.toNat : Int) || (!((i : Int) == 0) && digitB (c.toNat : Int))) && nameF L (i + 1)
theorem nmI_succ (L : List UInt8) (i : Nat) : nmI L (i + 1) = nameF L (i + 1) := by
  have h0 : (((i + 1 : Nat) : Int) == 0) = false := by rw [beq_eq_false_iff_ne]; omega
  unfold nmI
  cases hc : L[i + 1]? with
  | none => rw [nameF_end hc]
  | some c => rw [nameF_step hc, h0]; rfl
theorem name_ax (H0 : Heap) {s : ByteArray} (hs : s.size ≤ 100000) : AX Try.prog 43 #[.string s] H0 (fun v H' => v = .bool (nameS s.data.toList) ∧ H' = H0) := by
  refine AX.alone (args := [.string s]) (fun v hv => by simp only [List.mem_singleton] at hv; subst hv; exact plain_str _) ?_
  suffices hh : AX Try.prog 43 [.string s].toArray [] (fun v _ => v = .bool (nameS s.data.toList)) from hh.mono fun v _ e => ⟨e ▸ plain_bool _, e⟩
  have hsl : s.data.toList.length = s.size := by simp
  refine AX.body (n := 54) (rs := [.tmp 2]) Try.func43 rfl (by decide) rfl rfl (bC_sound _ _ _ _ ?_)
  cases hL : s.data.toList with
  | nil =>
    have h0 : s = .empty := by apply ByteArray.ext; apply Array.ext'; exact hL
    subst h0
    refine run ?_
    rfl
  | cons c r =>
    rw [← hL]
    have hc : s.data.toList[0]? = some c := by rw [hL]; rfl
    have h0 := str_lt hc
    have d1 : (s == ByteArray.empty) = false := by
      rw [ba_beq, decide_eq_false]
      rintro rfl
      exact absurd h0 (by decide)
    have d1' : (s == ({ data := #[] } : ByteArray)) = false := d1
    by_cases h12 : s.size ≤ 12
    rotate_left
    · have d2 : decide ((s.size : Int) > 12) = true := decide_eq_true (by omega)
      have hn : nameS s.data.toList = false := by
        rw [hL]; simp only [nameS]; rw [← hL, hsl, decide_eq_false (by omega)]; rfl
      rw [hn]
      refine run ?_
      rfl
    have d2 : decide ((s.size : Int) > 12) = false := decide_eq_false (by omega)
    have hn : nameS s.data.toList = nmI s.data.toList 0 := by
      have : nameS s.data.toList = (letterB (c.toNat : Int) && nameF s.data.toList 1) := by
        rw [hL]; simp only [nameS]; rw [← hL, hsl, decide_eq_true h12, hL]; rfl
      rw [this]
      simp [nmI, hc]
    rw [hn]
    refine run ?_
    refine SW.loop (α := Nat) (fun i => [(0, .string s), (14, .int .i64 (s.size : Int)), (15, .int .i64 (i : Int))]) (fun i H => nmI s.data.toList i = nmI s.data.toList 0 ∧ i ≤ s.size) (fun i => s.size - i) ⟨0, ⟨rfl, rfl, rfl, trivial⟩, rfl, by omega⟩ ?_
    rintro i H3 ⟨hf, hi⟩
    refine bC_sound _ _ _ _ ?_
    rw [← hf]
    have w1 : IntKind.i64.wrap ((i : Int) + 1) = ((i + 1 : Nat) : Int) := wrap_nat (by omega)
    cases hc : s.data.toList[i]? with
    | none =>
      have hge := str_ge hc
      have d3 : decide ((i : Int) < (s.size : Int)) = false := decide_eq_false (by omega)
      have hX : nmI s.data.toList i = true := by simp [nmI, hc]
      rw [hX]
      refine run ?_
      rfl
    | some c =>
      have hlt := str_lt hc
      have d3 : decide ((i : Int) < (s.size : Int)) = true := decide_eq_true (by omega)
      have ix := aix hc
      have hX : nmI s.data.toList i = ((letterB (c.toNat : Int) || (!((i : Int) == 0) && digitB (c.toNat : Int))) && nameF s.data.toList (i + 1)) := by simp only [nmI, hc]
      rw [hX]
      have hY := nmI_succ s.data.toList i
      cases h1 : decide ((c.toNat : Int) ≥ 97) with
      | true =>
        cases h2 : decide ((c.toNat : Int) ≤ 122) with
        | true =>
          have hl : letterB (c.toNat : Int) = true := by simp only [letterB, h1, h2]; rfl
          refine run ?_
          exact ⟨i + 1, ⟨rfl, rfl, congrArg (fun z => some (Value.int .i64 z)) w1, trivial⟩, ⟨by simp only [hY, hl]; rfl, by show i + 1 ≤ s.size; omega⟩, by show s.size - (i + 1) < s.size - i; omega⟩
        | false =>
          cases h3 : decide ((c.toNat : Int) ≥ 65) with
          | true =>
            cases h4 : decide ((c.toNat : Int) ≤ 90) with
            | true =>
              have hl : letterB (c.toNat : Int) = true := by simp only [letterB, h1, h2, h3, h4]; rfl
              refine run ?_
              exact ⟨i + 1, ⟨rfl, rfl, congrArg (fun z => some (Value.int .i64 z)) w1, trivial⟩, ⟨by simp only [hY, hl]; rfl, by show i + 1 ≤ s.size; omega⟩, by show s.size - (i + 1) < s.size - i; omega⟩
            | false =>
              cases h5 : ((c.toNat : Int) == 95) with
              | true =>
                have h6 : (!((c.toNat : Int) == 95)) = _ := congrArg Bool.not h5
                have hl : letterB (c.toNat : Int) = true := by simp only [letterB, h1, h2, h3, h4, h5]; rfl
                refine run ?_
                exact ⟨i + 1, ⟨rfl, rfl, congrArg (fun z => some (Value.int .i64 z)) w1, trivial⟩, ⟨by simp only [hY, hl]; rfl, by show i + 1 ≤ s.size; omega⟩, by show s.size - (i + 1) < s.size - i; omega⟩
              | false =>
                have h6 : (!((c.toNat : Int) == 95)) = _ := congrArg Bool.not h5
                have hl : letterB (c.toNat : Int) = false := by simp only [letterB, h1, h2, h3, h4, h5]; rfl
                cases d0 : ((i : Int) == 0) with
                | true =>
                  refine run ?_
                  show Value.bool false = Value.bool _
                  simp only [hl, d0]; rfl
                | false =>
                  cases d4 : decide ((c.toNat : Int) < 48) with
                  | true =>
                    have hd : digitB (c.toNat : Int) = false := by simp only [digitB, d4]; rfl
                    refine run ?_
                    show Value.bool false = Value.bool _
                    simp only [hl, d0, hd]; rfl
                  | false =>
                    cases d5 : decide ((c.toNat : Int) > 57) with
                    | true =>
                      have hd : digitB (c.toNat : Int) = false := by simp only [digitB, d4, d5]; rfl
                      refine run ?_
                      show Value.bool false = Value.bool _
                      simp only [hl, d0, hd]; rfl
                    | false =>
                      have hd : digitB (c.toNat : Int) = true := by simp only [digitB, d4, d5]; rfl
                      refine run ?_
                      exact ⟨i + 1, ⟨rfl, rfl, congrArg (fun z => some (Value.int .i64 z)) w1, trivial⟩, ⟨by simp only [hY, hl, d0, hd]; rfl, by show i + 1 ≤ s.size; omega⟩, by show s.size - (i + 1) < s.size - i; omega⟩
          | false =>
            cases h5 : ((c.toNat : Int) == 95) with
            | true =>
              have h6 : (!((c.toNat : Int) == 95)) = _ := congrArg Bool.not h5
              have hl : letterB (c.toNat : Int) = true := by simp only [letterB, h1, h2, h3, h5]; rfl
              refine run ?_
              exact ⟨i + 1, ⟨rfl, rfl, congrArg (fun z => some (Value.int .i64 z)) w1, trivial⟩, ⟨by simp only [hY, hl]; rfl, by show i + 1 ≤ s.size; omega⟩, by show s.size - (i + 1) < s.size - i; omega⟩
            | false =>
              have h6 : (!((c.toNat : Int) == 95)) = _ := congrArg Bool.not h5
              have hl : letterB (c.toNat : Int) = false := by simp only [letterB, h1, h2, h3, h5]; rfl
              cases d0 : ((i : Int) == 0) with
              | true =>
                refine run ?_
                show Value.bool false = Value.bool _
                simp only [hl, d0]; rfl
              | false =>
                cases d4 : decide ((c.toNat : Int) < 48) with
                | true =>
                  have hd : digitB (c.toNat : Int) = false := by simp only [digitB, d4]; rfl
                  refine run ?_
                  show Value.bool false = Value.bool _
                  simp only [hl, d0, hd]; rfl
                | false =>
                  cases d5 : decide ((c.toNat : Int) > 57) with
                  | true =>
                    have hd : digitB (c.toNat : Int) = false := by simp only [digitB, d4, d5]; rfl
                    refine run ?_
                    show Value.bool false = Value.bool _
                    simp only [hl, d0, hd]; rfl
                  | false =>
                    have hd : digitB (c.toNat : Int) = true := by simp only [digitB, d4, d5]; rfl
                    refine run ?_
                    exact ⟨i + 1, ⟨rfl, rfl, congrArg (fun z => some (Value.int .i64 z)) w1, trivial⟩, ⟨by simp only [hY, hl, d0, hd]; rfl, by show i + 1 ≤ s.size; omega⟩, by show s.size - (i + 1) < s.size - i; omega⟩
      | false =>
        cases h3 : decide ((c.toNat : Int) ≥ 65) with
        | true =>
          cases h4 : decide ((c.toNat : Int) ≤ 90) with
          | true =>
            have hl : letterB (c.toNat : Int) = true := by simp only [letterB, h1, h3, h4]; rfl
            refine run ?_
            exact ⟨i + 1, ⟨rfl, rfl, congrArg (fun z => some (Value.int .i64 z)) w1, trivial⟩, ⟨by simp only [hY, hl]; rfl, by show i + 1 ≤ s.size; omega⟩, by show s.size - (i + 1) < s.size - i; omega⟩
          | false =>
            cases h5 : ((c.toNat : Int) == 95) with
            | true =>
              have h6 : (!((c.toNat : Int) == 95)) = _ := congrArg Bool.not h5
              have hl : letterB (c.toNat : Int) = true := by simp only [letterB, h1, h3, h4, h5]; rfl
              refine run ?_
              exact ⟨i + 1, ⟨rfl, rfl, congrArg (fun z => some (Value.int .i64 z)) w1, trivial⟩, ⟨by simp only [hY, hl]; rfl, by show i + 1 ≤ s.size; omega⟩, by show s.size - (i + 1) < s.size - i; omega⟩
            | false =>
              have h6 : (!((c.toNat : Int) == 95)) = _ := congrArg Bool.not h5
              have hl : letterB (c.toNat : Int) = false := by simp only [letterB, h1, h3, h4, h5]; rfl
              cases d0 : ((i : Int) == 0) with
              | true =>
                refine run ?_
                show Value.bool false = Value.bool _
                simp only [hl, d0]; rfl
              | false =>
                cases d4 : decide ((c.toNat : Int) < 48) with
                | true =>
                  have hd : digitB (c.toNat : Int) = false := by simp only [digitB, d4]; rfl
                  refine run ?_
                  show Value.bool false = Value.bool _
                  simp only [hl, d0, hd]; rfl
                | false =>
                  cases d5 : decide ((c.toNat : Int) > 57) with
                  | true =>
                    have hd : digitB (c.toNat : Int) = false := by simp only [digitB, d4, d5]; rfl
                    refine run ?_
                    show Value.bool false = Value.bool _
                    simp only [hl, d0, hd]; rfl
                  | false =>
                    have hd : digitB (c.toNat : Int) = true := by simp only [digitB, d4, d5]; rfl
                    refine run ?_
                    exact ⟨i + 1, ⟨rfl, rfl, congrArg (fun z => some (Value.int .i64 z)) w1, trivial⟩, ⟨by simp only [hY, hl, d0, hd]; rfl, by show i + 1 ≤ s.size; omega⟩, by show s.size - (i + 1) < s.size - i; omega⟩
        | false =>
          cases h5 : ((c.toNat : Int) == 95) with
          | true =>
            have h6 : (!((c.toNat : Int) == 95)) = _ := congrArg Bool.not h5
            have hl : letterB (c.toNat : Int) = true := by simp only [letterB, h1, h3, h5]; rfl
            refine run ?_
            exact ⟨i + 1, ⟨rfl, rfl, congrArg (fun z => some (Value.int .i64 z)) w1, trivial⟩, ⟨by simp only [hY, hl]; rfl, by show i + 1 ≤ s.size; omega⟩, by show s.size - (i + 1) < s.size - i; omega⟩
          | false =>
            have h6 : (!((c.toNat : Int) == 95)) = _ := congrArg Bool.not h5
            have hl : letterB (c.toNat : Int) = false := by simp only [letterB, h1, h3, h5]; rfl
            cases d0 : ((i : Int) == 0) with
            | true =>
              refine run ?_
              show Value.bool false = Value.bool _
              simp only [hl, d0]; rfl
            | false =>
              cases d4 : decide ((c.toNat : Int) < 48) with
              | true =>
                have hd : digitB (c.toNat : Int) = false := by simp only [digitB, d4]; rfl
                refine run ?_
                show Value.bool false = Value.bool _
                simp only [hl, d0, hd]; rfl
              | false =>
                cases d5 : decide ((c.toNat : Int) > 57) with
                | true =>
                  have hd : digitB (c.toNat : Int) = false := by simp only [digitB, d4, d5]; rfl
                  refine run ?_
                  show Value.bool false = Value.bool _
                  simp only [hl, d0, hd]; rfl
                | false =>
                  have hd : digitB (c.toNat : Int) = true := by simp only [digitB, d4, d5]; rfl
                  refine run ?_
                  exact ⟨i + 1, ⟨rfl, rfl, congrArg (fun z => some (Value.int .i64 z)) w1, trivial⟩, ⟨by simp only [hY, hl, d0, hd]; rfl, by show i + 1 ≤ s.size; omega⟩, by show s.size - (i + 1) < s.size - i; omega⟩
theorem indexS0 {H : Heap} {u : Value} {L : List ByteArray} (hu : RL 1 strR H u L) (hL : L.length ≤ maxLen) (g : Nat) (P : ByteArray → Prop)
    (hg : ∀ x ∈ L, AX Try.prog g #[.string x] H (fun v H' => (∃ b, v = .bool b ∧ (b = true ↔ ¬ P x)) ∧ H' = H)) :
    AX Try.prog 26 #[u, .func (.func g) #[] #[]] H (fun v H' => (∃ i : Int, v = .int .i64 i ∧ (0 ≤ i ↔ ¬ ∀ x ∈ L, P x)) ∧ H' = H) := by
  simp only [maxLen] at hL
  refine AX.body (n := 19) (rs := [.tmp 4]) Try.func26 rfl (by decide) rfl rfl (bC_sound _ _ _ _ ?_)
  have l1 : alen Try.prog 27 u H = some (.int .i64 L.length) := hu.len rfl _
  refine run ?_
  refine SW.loop (α := Nat) (fun k => [(0, u), (1, .func (.func g) #[] #[]), (7, .int .i64 L.length), (8, .int .i64 (k : Int))]) (fun k H' => k ≤ L.length ∧ (∀ (i : Nat) x, i < k → L[i]? = some x → P x) ∧ H' = H) (fun k => L.length - k) ⟨0, ⟨rfl, rfl, rfl, rfl, trivial⟩, by omega, fun i s h => by omega, rfl⟩ ?_
  rintro k X ⟨hm, ht, e⟩
  subst X
  refine bC_sound _ _ _ _ ?_
  by_cases hml : k < L.length
  · have d1 : decide ((k : Int) < (L.length : Int)) = true := decide_eq_true (by omega)
    obtain ⟨x, hx⟩ := get_lt hml
    obtain ⟨p, i1, i2⟩ := ld_strT hu hx
    have i3 := i2 H (.refl _)
    refine run ?_
    refine (hg x (List.mem_of_getElem? hx)).mono ?_
    rintro _ X ⟨⟨b, rfl, hb⟩, e⟩
    subst X
    cases b with
    | false =>
      have hp : P x := Classical.byContradiction fun h => by simpa using hb.2 h
      refine run ?_
      refine ⟨k + 1, ⟨rfl, rfl, rfl, congrArg (fun z => some (Value.int .i64 z)) (w_succ (by omega)), trivial⟩, ⟨hml, fun i s hi hs => ?_, rfl⟩, by show L.length - (k + 1) < L.length - k; omega⟩
      by_cases him : i = k
      · subst him; rw [hx] at hs; simp only [Option.some.injEq] at hs; subst hs; exact hp
      · exact ht i s (by omega) hs
    | true =>
      have hp := hb.1 rfl
      refine run ?_
      exact ⟨⟨k, rfl, fun _ h => hp (h x (List.mem_of_getElem? hx)), fun _ => by omega⟩, rfl⟩
  · have d1 : decide ((k : Int) < (L.length : Int)) = false := decide_eq_false (by omega)
    refine run ?_
    refine ⟨⟨-1, rfl, fun h => by omega, fun h => absurd (fun x hx => ?_) h⟩, rfl⟩
    obtain ⟨i, hi, rfl⟩ := List.getElem_of_mem hx
    exact ht i L[i] (by omega) (List.getElem?_eq_getElem hi)
theorem containsS0 {H : Heap} {u : Value} {L : List ByteArray} (hu : RL 1 strR H u L) (hL : L.length ≤ maxLen) (g : Nat) (P : ByteArray → Prop)
    (hg : ∀ x ∈ L, AX Try.prog g #[.string x] H (fun v H' => (∃ b, v = .bool b ∧ (b = true ↔ ¬ P x)) ∧ H' = H)) :
    AX Try.prog 16 #[u, .func (.func g) #[] #[]] H (fun v H' => (∃ b, v = .bool b ∧ (b = true ↔ ¬ ∀ x ∈ L, P x)) ∧ H' = H) := by
  refine AX.body (n := 9) (rs := [.tmp 4]) Try.func16 rfl (by decide) rfl rfl (bC_sound _ _ _ _ ?_)
  refine run ?_
  refine (indexS0 hu hL g P hg).mono ?_
  rintro _ X ⟨⟨i, rfl, hi⟩, e⟩
  subst X
  refine run ?_
  exact ⟨⟨_, rfl, by rw [decide_eq_true_eq]; exact hi⟩, rfl⟩
end Go.Proofs.Ytmdjepfpgmignaa
