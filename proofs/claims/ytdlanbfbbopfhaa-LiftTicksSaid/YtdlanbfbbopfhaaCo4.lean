/- Package code: instructions, codes and programs in abstract memory, and the smaller functions. -/
import Derived.Test.YtdlanbfbbopfhaaCo3
import Derived.Test.YtdlanbfbbopfhaaTy
import Derived.Test.YtdlanbfbbopfhaaAx22
set_option linter.unusedVariables false
set_option linter.unusedSimpArgs false
set_option maxRecDepth 20000
set_option maxHeartbeats 8000000
namespace Go.Proofs.Ytdlanbfbbopfhaa
open Go Ax
abbrev Ins := Int × Int × Int
abbrev CodeT := Int × Int × Int × Int × List Ins
abbrev ProgT := Int × List ByteArray × List CodeT
def insR (_ : Heap) (l : List Value) (x : Ins) : Prop := l = [.int .i64 x.1, .int .i64 x.2.1, .int .i64 x.2.2]
abbrev CodeT.ins (c : CodeT) : List Ins := c.2.2.2.2
abbrev CodeT.deep (c : CodeT) : Int := c.2.2.2.1
abbrev codeV (c : CodeT) (sv : Value) : Value := .agg #[.int .i64 c.1, .int .i64 c.2.1, .int .i64 c.2.2.1, .int .i64 c.2.2.2.1, sv]
def codeR (H : Heap) (l : List Value) (c : CodeT) : Prop := ∃ sv, l = [.int .i64 c.1, .int .i64 c.2.1, .int .i64 c.2.2.1, .int .i64 c.2.2.2.1, sv] ∧ RL 3 insR H sv c.ins
def ProgR (H : Heap) (v : Value) (p : ProgT) : Prop := ∃ ps cs, v = .agg #[.int .i64 p.1, ps, cs] ∧ RL 1 strR H ps p.2.1 ∧ RL 5 codeR H cs p.2.2
theorem insR.grow {H H' : Heap} {sv : Value} {L : List Ins} (h : RL 3 insR H sv L) (g : Grow H H') : RL 3 insR H' sv L := RL.grow (fun l x (h : insR H l x) => (h : insR H' l x)) h g
theorem codeR.grow {H H' : Heap} {sv : Value} {L : List CodeT} (h : RL 5 codeR H sv L) (g : Grow H H') : RL 5 codeR H' sv L := RL.grow (fun _ _ ⟨s, h1, h2⟩ => ⟨s, h1, insR.grow h2 g⟩) h g
theorem ProgR.grow {H H' : Heap} {v : Value} {p : ProgT} (h : ProgR H v p) (g : Grow H H') : ProgR H' v p := by
  obtain ⟨ps, cs, h1, h2, h3⟩ := h
  exact ⟨ps, cs, h1, strR.grow h2 g, codeR.grow h3 g⟩
theorem ins_of {H : Heap} {c : List Value} {x : Ins} (R : ty46.R H c x) : insR H c x := by
  obtain ⟨h1, h2, h3⟩ := R
  exact cons_of h1 (cons_of h2 h3)
theorem code_of {H : Heap} {c : List Value} {x : CodeT} (R : ty49.R H c x) : codeR H c x := by
  obtain ⟨h1, h2, h3, h4, h5⟩ := R
  obtain ⟨sv, h6, h7⟩ := RL.ofTy (f := insR) (fun l x h => ins_of h) h5
  exact ⟨sv, cons_of h1 (cons_of h2 (cons_of h3 (cons_of h4 h6))), h7⟩
theorem prog_of {H : Heap} {c : List Value} {x : ProgT} (R : ty25.R H c x) : ProgR H (argS c) x := by
  obtain ⟨h1, h2, h3⟩ := R
  obtain ⟨ps, h6, h7⟩ := RL.ofTy (f := strR) (fun l x h => h) h2
  obtain ⟨cs, h8, h9⟩ := RL.ofTy (f := codeR) (fun l x h => code_of h) h3
  have hc : c = [.int .i64 x.1, ps, cs] := cons_of h1 (cons_of h6 h8)
  exact ⟨ps, cs, by rw [hc]; rfl, h7, h9⟩
end Go.Proofs.Ytdlanbfbbopfhaa
