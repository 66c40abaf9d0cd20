/- The abstract machine: a region whose order is open, with what depends on the order worked out ahead. -/
import Derived.Test.YtdlanbfbbopfhaaAx16
import Derived.KernelRfl
set_option linter.unusedVariables false
set_option linter.unusedSimpArgs false
namespace Go.Proofs.Ytdlanbfbbopfhaa.Ax
open Go Go.RowKit

/-- Of an operation: what is ahead of it (slot, operation), which slots are not settled, the first heap, how many more, does it change the heap. -/
abbrev Dat := List (Nat × Nat) × List Nat × Nat × Nat × Bool
def pairsOf (ops : List Oper) (ms : List Nat) (i : Nat) : List (Nat × Nat) := (ops.zipIdx).filterMap fun y => match y.1.dst with | some d => if ahead ms i y.2 then some (d, y.2) else none | none => none
def exOf (ops : List Oper) (ms : List Nat) (i : Nat) : List Nat := (ops.zipIdx).filterMap fun y => match y.1.dst with | some d => if Nat.beq y.2 i || ahead ms y.2 i then none else some d | none => none
def endsOf (ops : List Oper) : List (Nat × Nat) := (ops.zipIdx).filterMap fun y => match y.1.dst with | some d => some (d, y.2) | none => none
def datFrom (ops : List Oper) (ms : List Nat) : List Oper → Nat → List Dat
  | [], _ => []
  | o :: os, i => (pairsOf ops ms i, exOf ops ms i, loOf ops ms i, hiOf ops ms i - loOf ops ms i, isMover o) :: datFrom ops ms os (i + 1)
def drawIs (n : Nat) (ops : List Oper) (D : List Dat) (E : List (Nat × Nat)) (nm : Nat) : Bool :=
  drawOK n ops && decide (datFrom ops (masks ops) ops 0 = D) && decide (endsOf ops = E) && Nat.beq (movers ops).length nm

def valsOf (V : List Value) : List (Nat × Nat) → Fr → Fr
  | [], fr => fr
  | (d, j) :: l, fr => (d, V.getD j undef) :: valsOf V l fr
/-- The values that are asked for, one by one. -/
def bring (V : List Value) : List (Nat × Nat) → Fr → (Fr → Prop) → Prop
  | [], fr, K => K fr
  | (d, j) :: l, fr, K => Ob V[j]? fun v => bring V l fr fun fr' => K ((d, v) :: fr')
theorem bring_to {V : List Value} : ∀ {l : List (Nat × Nat)} {fr : Fr} {K : Fr → Prop}, bring V l fr K → K (valsOf V l fr) := by
  intro l
  induction l with
  | nil => intro fr K h; exact h
  | cons p l ih =>
    obtain ⟨d, j⟩ := p
    intro fr K h
    obtain ⟨v, hv, h⟩ := h.out
    have := ih h
    simpa [valsOf, List.getD_eq_getElem?_getD, hv] using this
def outOf (ex : List Nat) (i : Nat) : Bool := ex.any fun d => Nat.beq d i
def cutF (ex : List Nat) : Fr → Fr
  | [] => []
  | (i, v) :: r => match outOf ex i with | true => cutF ex r | false => (i, v) :: cutF ex r
structure Leaf (v u : Value) (H K : Heap) : Prop where
  val : v = u
  heap : H = K
theorem Leaf.iff {v u : Value} {H K : Heap} : Leaf v u H K ↔ v = u ∧ H = K := ⟨fun h => ⟨h.1, h.2⟩, fun h => ⟨h.1, h.2⟩⟩
def heapAt (Hs : List Heap) (k : Nat) : Bool → Heap
  | true => Hs.getD (k + 1) []
  | false => Hs.getD k []
def stepAt2 (P : Program) (ops : List Oper) (V : List Value) (Hs : List Heap) (av : List (Nat × Nat)) (fr : Fr) (mv : Bool) (o : Oper) (i k : Nat) : Prop :=
  Ob Hs[k]? fun H => bring V av fr fun env => wantK ops env o.guard (boper P o env H fun v H' => Leaf v (V.getD i undef) H' (heapAt Hs k mv)) (Leaf (V.getD i undef) undef (heapAt Hs k mv) H)
def stepsFrom2 (P : Program) (ops : List Oper) (V : List Value) (Hs : List Heap) (av : List (Nat × Nat)) (fr : Fr) (mv : Bool) (o : Oper) (i lo : Nat) : Nat → Prop
  | 0 => stepAt2 P ops V Hs av fr mv o i lo
  | k + 1 => stepsFrom2 P ops V Hs av fr mv o i lo k ∧ stepAt2 P ops V Hs av fr mv o i (lo + (k + 1))
def steps2 (P : Program) (ops : List Oper) (V : List Value) (Hs : List Heap) (fr : Fr) : List Oper → List Dat → Nat → Prop
  | [], _, _ => True
  | o :: os, (av, ex, lo, m, mv) :: ds, i => stepsFrom2 P ops V Hs av (cutF ex fr) mv o i lo m ∧ steps2 P ops V Hs fr os ds (i + 1)
  | _ :: _, [], _ => False

theorem valsOf_eq (V : List Value) (l : List (Nat × Nat)) (fr : Fr) : valsOf V l fr = (l.map fun p => (p.1, V.getD p.2 undef)) ++ fr := by
  induction l with
  | nil => rfl
  | cons p l ih => obtain ⟨d, j⟩ := p; simp [valsOf, ih]
theorem cutF_eq (ex : List Nat) (fr : Fr) : cutF ex fr = fr.filter fun x => !outOf ex x.1 := by
  induction fr with
  | nil => rfl
  | cons p l ih =>
    obtain ⟨i, v⟩ := p
    simp only [cutF, List.filter_cons]
    split
    · rename_i h; simp [h, ih]
    · rename_i h; simp [h, ih]
theorem envOf_eq (ops : List Oper) (ms : List Nat) (V : List Value) (fr : Fr) (i : Nat) : envOf ops ms V fr i = valsOf V (pairsOf ops ms i) (cutF (exOf ops ms i) fr) := by
  rw [valsOf_eq, cutF_eq]
  unfold envOf pairsOf
  rw [List.map_filterMap]
  congr 1
  · congr 1
    funext y
    cases h : y.1.dst with
    | none => rfl
    | some d => by_cases hc : ahead ms i y.2 = true <;> simp [hc]
  apply List.filter_congr
  intro x _
  rw [Bool.eq_iff_iff]
  simp only [List.all_eq_true, Bool.not_eq_true', outOf, Bool.eq_false_iff, ne_eq, List.any_eq_true, exOf, List.mem_filterMap, not_exists, not_and]
  constructor
  · rintro h d ⟨y, hy, hd⟩ hb
    have := h y hy
    cases hdst : y.1.dst with
    | none => simp [hdst] at hd
    | some d' =>
      simp only [hdst] at hd this
      split at hd
      · simp at hd
      · rename_i hc
        simp only [Option.some.injEq] at hd
        subst hd
        simp only [Bool.or_eq_true, not_or] at hc
        simp_all
  · intro h y hy
    cases hdst : y.1.dst with
    | none => rfl
    | some d =>
      by_cases hc : (Nat.beq y.2 i || ahead ms y.2 i) = true
      · simp [Bool.or_assoc, hc]
      · have := h d ⟨y, hy, by simp [hdst, hc]⟩
        simp [this]
theorem endOf_eq (ops : List Oper) (V : List Value) (fr : Fr) : endOf ops V fr = valsOf V (endsOf ops) fr := by
  rw [valsOf_eq]
  unfold endOf endsOf
  rw [List.map_filterMap]
  congr 1
  congr 1
  funext y
  cases h : y.1.dst with
  | none => rfl
  | some d => rfl
theorem heapAt_eq (Hs : List Heap) (k : Nat) (mv : Bool) : heapAt Hs k mv = Hs.getD (if mv then k + 1 else k) [] := by cases mv <;> rfl

theorem stepAt2_to {P : Program} {ops : List Oper} {ms : List Nat} {V : List Value} {Hs : List Heap} {fr : Fr} {o : Oper} {i k : Nat} (h : stepAt2 P ops V Hs (pairsOf ops ms i) (cutF (exOf ops ms i) fr) (isMover o) o i k) : stepAt P ops ms V Hs fr o i k := by
  obtain ⟨H, hH, h⟩ := h.out
  have h := bring_to h
  rw [← envOf_eq] at h
  have e : Hs.getD k [] = H := by rw [List.getD_eq_getElem?_getD, hH]; rfl
  unfold stepAt
  rw [e]
  simpa only [heapAt_eq, Leaf.iff] using h
theorem stepsFrom2_to {P : Program} {ops : List Oper} {ms : List Nat} {V : List Value} {Hs : List Heap} {fr : Fr} {o : Oper} {i lo : Nat} : ∀ {m : Nat}, stepsFrom2 P ops V Hs (pairsOf ops ms i) (cutF (exOf ops ms i) fr) (isMover o) o i lo m → stepsFrom P ops ms V Hs fr o i lo m := by
  intro m
  induction m with
  | zero => intro h; exact stepAt2_to h
  | succ m ih => intro h; exact ⟨stepAt2_to h.2, ih h.1⟩
theorem steps2_to {P : Program} {ops : List Oper} {ms : List Nat} {V : List Value} {Hs : List Heap} {fr : Fr} : ∀ {os : List Oper} {i : Nat}, steps2 P ops V Hs fr os (datFrom ops ms os i) i → allSteps P ops ms V Hs fr os i := by
  intro os
  induction os with
  | nil => intro i _; trivial
  | cons o os ih =>
    intro i h
    simp only [datFrom, steps2] at h
    exact ⟨stepsFrom2_to h.1, ih h.2⟩

/-- A region whose order is open; F is what of the slots is asked for. -/
theorem SW.draw2 {P : Program} {n : Nat} {id : Nat} {ops : Array Oper} {Q : BPost} {fr : Fr} {H : Heap} (D : List Dat) (E : List (Nat × Nat)) (nm : Nat) (F : Fr) (V : List Value) (Hs : List Heap) (hm : P.follows .mixedOrders = true)
    (hok : drawIs n ops.toList D E nm = true) (hF : Has fr F) (h0 : Hs.getD 0 [] = H) (steps : steps2 P ops.toList V Hs F ops.toList D 0) (fin : Ob Hs[nm]? fun H' => bring V E F fun fr' => Q .normal fr' H') : SW P n (.region id ops true) Q fr H := by
  simp only [drawIs, Bool.and_eq_true, decide_eq_true_eq] at hok
  obtain ⟨⟨⟨h1, rfl⟩, rfl⟩, h4⟩ := hok
  have h4' := Nat.eq_of_beq_eq_true h4
  subst h4'
  refine SW.sub (SW.draw V Hs hm h1 h0 (steps2_to steps) ?_) (Sub.of hF)
  rw [endOf_eq]
  obtain ⟨H', hH, fin⟩ := fin.out
  have e : Hs.getD (movers ops.toList).length [] = H' := by rw [List.getD_eq_getElem?_getD, hH]; rfl
  rw [e]
  exact bring_to fin
end Go.Proofs.Ytdlanbfbbopfhaa.Ax
