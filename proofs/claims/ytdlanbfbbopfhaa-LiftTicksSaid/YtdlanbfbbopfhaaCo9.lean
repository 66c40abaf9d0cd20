/- Package code: are two programs alike? -/
import Derived.Test.YtdlanbfbbopfhaaCo8
set_option linter.unusedVariables false
set_option linter.unusedSimpArgs false
set_option maxRecDepth 20000
set_option maxHeartbeats 8000000
namespace Go.Proofs.Ytdlanbfbbopfhaa
open Go Ax
theorem ins_neq (x y : Ins) : abin Try.prog .neq 46 (insV x.1 x.2.1 x.2.2) (insV y.1 y.2.1 y.2.2) = some (.bool (decide (x ≠ y))) := by
  have h : abin Try.prog .neq 46 (insV x.1 x.2.1 x.2.2) (insV y.1 y.2.1 y.2.2) = some (.bool (!(x.1 == y.1 && (x.2.1 == y.2.1 && (x.2.2 == y.2.2 && true))))) := by kernel_rfl
  rw [h]
  obtain ⟨a, b, c⟩ := x
  obtain ⟨a', b', c'⟩ := y
  congr 2
  rw [Bool.eq_iff_iff]
  simp
theorem code_eq {c d : CodeT} : c = d ↔ c.1 = d.1 ∧ c.2.1 = d.2.1 ∧ c.2.2.1 = d.2.2.1 ∧ c.2.2.2.1 = d.2.2.2.1 ∧ c.2.2.2.2 = d.2.2.2.2 := by
  obtain ⟨a, b, c, e, f⟩ := c
  obtain ⟨a', b', c', e', f'⟩ := d
  simp
instance : DecidableEq CodeT := fun c d => decidable_of_iff _ (code_eq (c := c) (d := d)).symm
theorem ld_code {H : Heap} {sv : Value} {L : List CodeT} (h : RL 5 codeR H sv L) {i : Nat} {x : CodeT} (hx : L[i]? = some x) :
    ∃ q u, aindexAddr Try.prog 23 sv (.int .i64 (i : Int)) = some q ∧ RL 3 insR H u x.ins ∧ ∀ H', Grow H H' → aload Try.prog 49 q H' = some (codeV x u) := by
  obtain ⟨q, l, h1, ⟨u, rfl, h3⟩, h4⟩ := h.ldA (P := Try.prog) (t := 23) (e := 49) rfl rfl rfl rfl hx
  exact ⟨q, u, h1, h3, h4⟩
theorem prog_eq {c d : ProgT} : c = d ↔ c.1 = d.1 ∧ c.2.1 = d.2.1 ∧ c.2.2 = d.2.2 := by
  obtain ⟨a, b, c⟩ := c
  obtain ⟨a', b', c'⟩ := d
  simp
instance : DecidableEq ProgT := fun c d => decidable_of_iff _ (prog_eq (c := c) (d := d)).symm
/-- What a program's lists are at most. -/
def Small (p : ProgT) : Prop := p.2.1.length < 4294967296 ∧ p.2.2.length < 4294967296 ∧ ∀ c ∈ p.2.2, c.ins.length < 4294967296
end Go.Proofs.Ytdlanbfbbopfhaa
