/- From a law told of abstract memory to what its row asks: arguments, and the beginning. -/
import Derived.Test.YtdlanbfbbopfhaaAx12
set_option linter.unusedVariables false
set_option linter.unusedSimpArgs false
namespace Go.Proofs.Ytdlanbfbbopfhaa.Ax
open Go Go.RowKit

theorem WR.start (P : Program) (W : World) : WR P W [] [] W :=
  ⟨rfl, Below.refl _ _, fun b B pl h _ => by simp at h, fun b b' B B' pl pl' h _ _ _ _ _ _ => by simp at h⟩
theorem NoOwn.nil : NoOwn [] := fun b B h => by simp at h

/-- An argument: of one cell, or a struct. -/
def arg1 (acs : List Value) : Value := acs.headD undef
def argS (acs : List Value) : Value := .agg acs.toArray
theorem arg1_rel {ι : List Pl} {acs : List Value} {v : Value} (h : LR ι acs v.cells.toList) (hv : v.cells = #[v]) : VR ι (arg1 acs) v := by
  rw [hv] at h
  have h1 := h.1
  match acs, h1 with
  | [x], _ =>
    obtain ⟨c, hc, hr⟩ := h.2 0 x rfl
    simp at hc
    subst hc
    exact hr
theorem argS_rel {ι : List Pl} {acs : List Value} {cs : Array Value} (h : LR ι acs (Value.agg cs).cells.toList) (hone : ∀ v ∈ acs, v.oneCell' = true) : VR ι (argS acs) (.agg cs) := VR.ofL h hone

theorem AsR.nil (ι : List Pl) : AsR ι #[] #[] := ⟨rfl, fun i h => absurd h (Nat.not_lt_zero _)⟩
theorem AsR.ofL {ι : List Pl} {as cs : List Value} (h : LR ι as cs) : AsR ι as.toArray cs.toArray :=
  ⟨by simp [h.1], fun i hi => h.toArr i (by simpa using hi)⟩

/-- What a law's call comes to. -/
theorem AX.law {P : Program} {f : FuncId} {as cs : List Value} {ι : List Pl} {H : Heap} {W : World} (h : AX P f as.toArray H fun v _ => v = .bool true) (hw : WR P W ι H W) (ha : LR ι as cs) :
    Calls P f cs.toArray W fun e w' => e = .returned (.bool true) ∧ Below W.heap.size W w' := by
  refine (h.out W ι W _ hw (.ofL ha)).mono fun e w' he => ?_
  cases e with
  | returned cv =>
    obtain ⟨v, H', ι', rfl, _, hw', hv⟩ := he
    cases hv
    exact ⟨rfl, hw'.below⟩
  | panicked ch => exact he.elim
  | outgrown => exact he.elim

/-! ### A call that is done from elsewhere -/
theorem VR.back {ι ι' : List Pl} (hx : Ext ι ι') {v c0 : Value} (h : VR ι v c0) : ∀ {c : Value}, VR ι' v c → VR ι v c := by
  induction h with
  | bool b => intro c r; cases r; exact .bool _
  | int k n => intro c r; cases r; exact .int _ _
  | str s => intro c r; cases r; exact .str _
  | nilFunc => intro c r; cases r; exact .nilFunc
  | nilIface => intro c r; cases r; exact .nilIface
  | ptr0 => intro c r; cases r; exact .ptr0
  | ptr b off pl hb =>
    intro c r
    cases r with
    | ptr _ _ pl' hb' =>
      have := hx b pl hb
      rw [this] at hb'
      simp only [Option.some.injEq] at hb'
      subst hb'
      exact .ptr _ _ _ hb
  | slice0 => intro c r; cases r; exact .slice0
  | slice b off len es cap ca pl hb h1 h2 h3 h4 =>
    intro c r
    cases r with
    | slice _ _ _ _ cap' ca' pl' hb' g1 g2 g3 g4 =>
      have := hx b pl hb
      rw [this] at hb'
      simp only [Option.some.injEq] at hb'
      subst hb'
      exact .slice _ _ _ _ _ _ _ hb g1 g2 g3 g4
  | map0 => intro c r; cases r; exact .map0
  | map b pl hb =>
    intro c r
    cases r with
    | map _ pl' hb' =>
      have := hx b pl hb
      rw [this] at hb'
      simp only [Option.some.injEq] at hb'
      subst hb'
      exact .map _ _ hb
  | func fn fs fs' cs cs' h1 h2 _ _ i1 i2 =>
    intro c r
    cases r with
    | func _ _ gs _ ds g1 g2 v1 v2 => exact .func _ _ _ _ _ g1 g2 (fun i hi => i1 i hi (v1 i hi)) (fun i hi => i2 i hi (v2 i hi))
  | agg cs cs' h1 _ h3 i1 =>
    intro c r
    cases r with
    | agg _ ds g1 v1 g3 => exact .agg _ _ g1 (fun i hi => i1 i hi (v1 i hi)) g3
  | tuple vs vs' h1 _ i1 =>
    intro c r
    cases r with
    | tuple _ ds g1 v1 => exact .tuple _ _ g1 (fun i hi => i1 i hi (v1 i hi))
  | iface t v c _ i1 =>
    intro c r
    cases r with
    | iface _ _ d g1 => exact .iface _ _ _ (i1 g1)

/-- Some blocks more are let go at the end; what was there stays, if it is as it was. -/
theorem WR.back {P : Program} {w0 w w' : World} {ι ι' : List Pl} {H T : Heap} (h : WR P w0 ι H w) (hx : Ext ι ι') (h' : WR P w0 ι' (H ++ T) w') : WR P w0 ι H w' := by
  have hin : ∀ (b : Nat) (B : Blk), H[b]? = some B → (H ++ T)[b]? = some B := fun b B hb => by rw [List.getElem?_append_left (List.getElem?_eq_some_iff.1 hb).1]; exact hb
  refine ⟨h.len, h'.below, fun b B pl hb hp => ?_, fun b b' B B' pl pl' hb hb' hp hp' => h'.inj b b' B B' pl pl' (hin _ _ hb) (hin _ _ hb') (hx _ _ hp) (hx _ _ hp')⟩
  have h1 := h.blk b B pl hb hp
  have h2 := h'.blk b B pl (hin _ _ hb) (hx _ _ hp)
  cases B with
  | dead => trivial
  | cells m c =>
    obtain ⟨cc, e, fr, ⟨a1, a2, a3, a4⟩, a5, a6⟩ := h1
    obtain ⟨cc', e', fr', ⟨b1, b2, b3, b4⟩, b5, b6⟩ := h2
    refine ⟨cc', e', fr', ⟨b1, b2, b3, fun i v hv => ?_⟩, b5, b6⟩
    obtain ⟨o, cv, c1, c2⟩ := a4 i v hv
    obtain ⟨_, cv', d1, d2⟩ := b4 i v hv
    exact ⟨o, cv', d1, VR.back hx c2 d2⟩
  | map o es =>
    obtain ⟨ms, clock, a1, a2, a3, a4⟩ := h1
    obtain ⟨ms', clock', b1, b2, b3, b4⟩ := h2
    refine ⟨ms', clock', b1, b2, b3, fun i k v hv => ?_⟩
    obtain ⟨m, c1, c2, c3⟩ := a4 i k v hv
    obtain ⟨m', d1, d2, d3⟩ := b4 i k v hv
    exact ⟨m', d1, VR.back hx c2 d2, VR.back hx c3 d3⟩

/-- Values that lead nowhere. -/
def plain (v : Value) : Prop := ∀ (ι ι' : List Pl) (c : Value), VR ι v c → VR ι' v c
theorem plain_bool (b : Bool) : plain (.bool b) := fun ι ι' c h => by cases h; exact .bool _
theorem plain_int (k : IntKind) (n : Int) : plain (.int k n) := fun ι ι' c h => by cases h; exact .int _ _
theorem plain_str (s : ByteArray) : plain (.string s) := fun ι ι' c h => by cases h; exact .str _
theorem plain_undef : plain undef := fun ι ι' c h => by
  cases h with
  | tuple _ ds g1 v1 => exact .tuple _ _ g1 (fun i hi => absurd hi (Nat.not_lt_zero _))
theorem plain_tuple {vs : List Value} (h : ∀ v ∈ vs, plain v) : plain (.tuple vs.toArray) := fun ι ι' c r => by
  cases r with
  | tuple _ ds g1 v1 => exact .tuple _ _ g1 (fun i hi => h _ (by simpa using getD_mem hi) _ _ _ (v1 i hi))
theorem plain_agg {vs : List Value} (h : ∀ v ∈ vs, plain v) : plain (.agg vs.toArray) := fun ι ι' c r => by
  cases r with
  | agg _ ds g1 v1 g3 => exact .agg _ _ g1 (fun i hi => h _ (by simpa using getD_mem hi) _ _ _ (v1 i hi)) g3

/-- A call that answers plainly, and only lays new blocks, leaves the heap as it was. -/
theorem AX.forget {P : Program} {f : FuncId} {args : Array Value} {H : Heap} {Q : Value → Prop} (h : AX P f args H fun v H' => plain v ∧ Q v ∧ ∃ T, H' = H ++ T) : AX P f args H fun v H' => Q v ∧ H' = H :=
  ⟨h.able, fun w0 ι w cargs hw ha => (h.out w0 ι w cargs hw ha).mono fun e w' he => by
    cases e with
    | returned cv =>
      obtain ⟨v, H', ι', ⟨hp, q, T, rfl⟩, hx, hw', hv⟩ := he
      exact ⟨v, H, ι, ⟨q, rfl⟩, .refl _, hw.back hx hw', hp _ _ _ hv⟩
    | panicked ch => exact he.elim
    | outgrown => exact he.elim⟩

/-- A call without arguments that lead anywhere is done from the empty heap. -/
theorem AX.alone {P : Program} {f : FuncId} {args : List Value} {H : Heap} {Q : Value → Prop} (hp : ∀ v ∈ args, plain v) (h : AX P f args.toArray [] fun v _ => plain v ∧ Q v) : AX P f args.toArray H fun v H' => Q v ∧ H' = H :=
  ⟨h.able, fun w0 ι w cargs hw ha => (h.out w [] w cargs (.start P w) ⟨ha.1, fun i hi => hp _ (by simpa using getD_mem hi) _ _ _ (ha.2 i hi)⟩).mono fun e w' he => by
    cases e with
    | returned cv =>
      obtain ⟨v, H', ι', ⟨hp, q⟩, hx, hw', hv⟩ := he
      exact ⟨v, H, ι, ⟨q, rfl⟩, .refl _, hw.grow hw'.below, hp _ _ _ hv⟩
    | panicked ch => exact he.elim
    | outgrown => exact he.elim⟩

end Go.Proofs.Ytdlanbfbbopfhaa.Ax
