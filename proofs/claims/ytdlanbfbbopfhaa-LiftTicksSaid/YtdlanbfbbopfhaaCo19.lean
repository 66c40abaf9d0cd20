/- The statements of package code: lists of numbers compared, and the two small programs. -/
import Derived.Test.YtdlanbfbbopfhaaCo18
set_option linter.unusedVariables false
set_option linter.unusedSimpArgs false
set_option maxRecDepth 20000
set_option maxHeartbeats 8000000
namespace Go.Proofs.Ytdlanbfbbopfhaa
open Go Ax
theorem ld_int {H : Heap} {sv : Value} {L : List Int} (h : RL 1 intR H sv L) {i : Nat} {x : Int} (hx : L[i]? = some x) :
    ∃ q, aindexAddr Try.prog 36 sv (.int .i64 (i : Int)) = some q ∧ ∀ H', Grow H H' → aload Try.prog 3 q H' = some (.int .i64 x) :=
  h.ld1 (fun _ _ _ h => h) rfl rfl rfl rfl hx
def c1 : CodeT := (0, 0, 0, 1, [(2, 0, 0), (32, 0, 0)])
def c2 : CodeT := (0, 0, 0, 1, [(31, 0, 0), (2, 0, 0), (32, 0, 0)])
def p1 : ProgT := (0, [], [c1])
def p2 : ProgT := (0, [], [c2])
theorem p1_ok : CheckP p1 := by
  refine ⟨by decide, by decide, by decide, by decide, by decide, fun s hs => by simp [p1] at hs, fun f c hc => ?_⟩
  have : f = 0 ∧ c = c1 := by
    cases f with
    | zero => simp [p1] at hc; exact ⟨rfl, hc.symm⟩
    | succ f => simp [p1] at hc
  obtain ⟨rfl, rfl⟩ := this
  have key : ∀ (i : Nat) (x : Ins), c1.ins[i]? = some x → i = 0 ∧ x = (2, 0, 0) ∨ i = 1 ∧ x = (32, 0, 0) := by
    intro i x hx
    match i, hx with
    | 0, hx => simp [c1, CodeT.ins] at hx; exact .inl ⟨rfl, hx.symm⟩
    | 1, hx => simp [c1, CodeT.ins] at hx; exact .inr ⟨rfl, hx.symm⟩
    | i + 2, hx => simp [c1, CodeT.ins] at hx
  refine ⟨by unfold Lim; simp [c1, CodeT.ins], fun i x hi hx => ?_, [0, 1], ⟨rfl, rfl, fun i d hd => ?_⟩, fun i d x hd h0 hx => ?_⟩
  · rcases key i x hx with ⟨rfl, rfl⟩ | ⟨rfl, rfl⟩ <;> decide
  · match i, hd with
    | 0, hd => simp at hd; subst hd; exact .inr ⟨by decide, .start⟩
    | 1, hd =>
      simp at hd; subst hd
      have := Reach.step (c := c1) (i := 0) (d := 0) (x := (2, 0, 0)) (k := 0) (t := 1) .start rfl (by decide) (by decide) (by decide) (by decide) (by decide)
      exact .inr ⟨by decide, this⟩
    | i + 2, hd => simp at hd
  · rcases key i x hx with ⟨rfl, rfl⟩ | ⟨rfl, rfl⟩
    · simp at hd
      subst hd
      refine ⟨by decide, by decide, fun k t ht => ?_⟩
      match k, ht with
      | 0, ht =>
        have : t = 1 := by have h : (tgt c1.ins ((0 : Nat) : Int))[0]? = some 1 := by decide
                           rw [h] at ht; simpa using ht.symm
        subst this
        decide
      | k + 1, ht =>
        have h : (tgt c1.ins ((0 : Nat) : Int)).length = 1 := by decide
        rw [List.getElem?_eq_none (by omega)] at ht
        simp at ht
    · simp at hd
      subst hd
      refine ⟨by decide, by decide, fun k t ht => ?_⟩
      have h : (tgt c1.ins ((1 : Nat) : Int)).length = 0 := by decide
      rw [List.getElem?_eq_none (by omega)] at ht
      simp at ht
theorem p2_no : ¬ CheckP p2 := fun h => by
  obtain ⟨L, hL⟩ := (h.2.2.2.2.2.2 0 c2 rfl).2.2
  exact hL.good (.inl ⟨0, 0, (31, 0, 0), .start, rfl, .inl (by decide)⟩)
end Go.Proofs.Ytdlanbfbbopfhaa
