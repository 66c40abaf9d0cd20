/- The abstract machine: a region whose order is open, done in its earliest order. -/
import Derived.Test.YtdlanbfbbopfhaaAx20
import Derived.KernelRfl
set_option linter.unusedVariables false
set_option linter.unusedSimpArgs false
namespace Go.Proofs.Ytdlanbfbbopfhaa.Ax
open Go Go.RowKit

/-- An operation's place in the earliest order: its number, what is ahead of it, which slots are not settled, does it change the heap. -/
abbrev GDat := Nat × List (Nat × Nat) × List Nat × Bool
def bringA (A : Fr) : List (Nat × Nat) → Fr → (Fr → Prop) → Prop
  | [], fr, K => K fr
  | (d, j) :: l, fr, K => getK A j fun v => bringA A l fr fun fr' => K ((d, v) :: fr')
structure Grows (H H' : Heap) (X : Prop) : Prop where
  g : Grow H H'
  x : X
def gkeep (mv : Bool) (H H' : Heap) (X : Prop) : Prop := match mv with | true => Grows H H' X | false => X
def gdo (P : Program) (o : Oper) (env : Fr) (A : Fr) (H : Heap) (i : Nat) (mv w : Bool) (next : Fr → Heap → Prop) : Prop :=
  match w with
  | true => boper P o env H fun v H' => gkeep mv H H' (next ((i, v) :: A) H')
  | false => next ((i, undef) :: A) H
def gops (P : Program) (ops : List Oper) (fr : Fr) (E : List (Nat × Nat)) (Q : BPost) : List GDat → Fr → Heap → Prop
  | [] => fun A H => bringA A E fr fun fr' => Q .normal fr' H
  | (i, av, ex, mv) :: rest => fun A H => Ob ops[i]? fun o => bringA A av (cutF ex fr) fun env => wantB ops env o.guard fun w => gdo P o env A H i mv w (gops P ops fr E Q rest)

def cmov : List GDat → Nat
  | [] => 0
  | (_, _, _, mv) :: r => (match mv with | true => 1 | false => 0) + cmov r
theorem cmov_append (a b : List GDat) : cmov (a ++ b) = cmov a + cmov b := by
  induction a with
  | nil => simp [cmov]
  | cons x a ih => obtain ⟨i, av, ex, mv⟩ := x; simp only [List.cons_append, cmov, ih]; omega
/-- Each one fits: its data, and how many changes are ahead of it. -/
def gfit (ops : List Oper) (ms : List Nat) : List GDat → Nat → Bool
  | [], _ => true
  | (i, av, ex, mv) :: r, k => (match ops[i]? with
      | some o => decide (av = pairsOf ops ms i) && decide (ex = exOf ops ms i) && (mv == isMover o) && Nat.beq (loOf ops ms i) k && (!mv || Nat.beq (hiOf ops ms i) k)
      | none => false) && gfit ops ms r ((match mv with | true => 1 | false => 0) + k)
def gnodup : List GDat → Bool
  | [] => true
  | x :: r => r.all (fun y => !Nat.beq x.1 y.1) && gnodup r
def gIs (n : Nat) (ops : List Oper) (L : List GDat) (E : List (Nat × Nat)) : Bool :=
  drawOK n ops && gfit ops (masks ops) L 0 && gnodup L && (List.range ops.length).all (fun i => L.any fun x => Nat.beq x.1 i) && decide (endsOf ops = E) && Nat.beq (cmov L) (movers ops).length

theorem gfit_get {ops : List Oper} {ms : List Nat} : ∀ {pre rest : List GDat} {x : GDat} {k : Nat}, gfit ops ms (pre ++ x :: rest) k = true →
    ∃ o, ops[x.1]? = some o ∧ x.2.1 = pairsOf ops ms x.1 ∧ x.2.2.1 = exOf ops ms x.1 ∧ x.2.2.2 = isMover o ∧ loOf ops ms x.1 = k + cmov pre ∧ (x.2.2.2 = true → hiOf ops ms x.1 = k + cmov pre) := by
  intro pre
  induction pre with
  | nil =>
    intro rest x k h
    obtain ⟨i, av, ex, mv⟩ := x
    simp only [List.nil_append, gfit, Bool.and_eq_true] at h
    obtain ⟨h, _⟩ := h
    split at h
    · rename_i o ho
      simp only [Bool.and_eq_true, decide_eq_true_eq, beq_iff_eq, Bool.or_eq_true, Bool.not_eq_true'] at h
      obtain ⟨⟨⟨⟨h1, h2⟩, h3⟩, h4⟩, h5⟩ := h
      refine ⟨o, ho, h1, h2, h3, by simpa [cmov] using Nat.eq_of_beq_eq_true h4, fun hm => ?_⟩
      rcases h5 with h5 | h5
      · exact absurd hm (by rw [show (i, av, ex, mv).2.2.2 = mv from rfl, h5]; simp)
      · simpa [cmov] using Nat.eq_of_beq_eq_true h5
    · simp at h
  | cons y pre ih =>
    intro rest x k h
    obtain ⟨i, av, ex, mv⟩ := y
    simp only [List.cons_append, gfit, Bool.and_eq_true] at h
    obtain ⟨o, h1, h2, h3, h4, h5, h6⟩ := ih h.2
    refine ⟨o, h1, h2, h3, h4, by rw [h5]; simp only [cmov]; omega, fun hm => by rw [h6 hm]; simp only [cmov]; omega⟩
theorem gnodup_get : ∀ {pre rest : List GDat} {x : GDat}, gnodup (pre ++ x :: rest) = true → ∀ y ∈ pre, y.1 ≠ x.1 := by
  intro pre
  induction pre with
  | nil => intro rest x h y hy; simp at hy
  | cons z pre ih =>
    intro rest x h y hy
    simp only [List.cons_append, gnodup, Bool.and_eq_true, List.all_eq_true] at h
    rcases List.mem_cons.1 hy with rfl | hy
    · have := h.1 x (by simp)
      intro e
      rw [e] at this
      simp at this
    · exact ih h.2 y hy

/-- The values of all operations, as far as they are known. -/
def VA (A : Fr) (m : Nat) : List Value := (List.range m).map fun j => (getF A j).getD undef
theorem VA_get {A : Fr} {m j : Nat} (h : j < m) : (VA A m).getD j undef = (getF A j).getD undef := by
  simp [VA, List.getD_eq_getElem?_getD, h]
theorem bringA_to {A : Fr} {m : Nat} : ∀ {l : List (Nat × Nat)} {fr : Fr} {K : Fr → Prop}, (∀ p ∈ l, p.2 < m) → bringA A l fr K → (∀ p ∈ l, ∃ v, getF A p.2 = some v) ∧ K (valsOf (VA A m) l fr) := by
  intro l
  induction l with
  | nil => intro fr K _ h; exact ⟨fun p hp => by simp at hp, h⟩
  | cons p l ih =>
    obtain ⟨d, j⟩ := p
    intro fr K hl h
    obtain ⟨v, hv, h⟩ := getK_iff.1 h
    obtain ⟨h1, h2⟩ := ih (fun p hp => hl p (List.mem_cons_of_mem _ hp)) h
    refine ⟨fun p hp => ?_, ?_⟩
    · rcases List.mem_cons.1 hp with rfl | hp
      · exact ⟨v, hv⟩
      · exact h1 p hp
    · have : (VA A m).getD j undef = v := by rw [VA_get (hl _ (List.mem_cons_self ..)), hv]; rfl
      simpa only [valsOf, this] using h2
theorem valsOf_congr {V W : List Value} : ∀ {l : List (Nat × Nat)} {fr : Fr}, (∀ p ∈ l, V.getD p.2 undef = W.getD p.2 undef) → valsOf V l fr = valsOf W l fr := by
  intro l
  induction l with
  | nil => intro fr _; rfl
  | cons p l ih => obtain ⟨d, j⟩ := p; intro fr h; simp only [valsOf]; rw [h _ (List.mem_cons_self ..), ih fun p hp => h p (List.mem_cons_of_mem _ hp)]
theorem pairs_lt {ops : List Oper} {ms : List Nat} {i : Nat} : ∀ p ∈ pairsOf ops ms i, p.2 < ops.length := by
  intro p hp
  unfold pairsOf at hp
  simp only [List.mem_filterMap, Prod.exists] at hp
  obtain ⟨o, j, hj, h⟩ := hp
  have ho := List.mem_zipIdx_iff_getElem?.1 hj
  simp only at h ho
  split at h
  · split at h
    · simp only [Option.some.injEq] at h; subst h; exact (List.getElem?_eq_some_iff.1 ho).1
    · simp at h
  · simp at h
theorem ends_lt {ops : List Oper} : ∀ p ∈ endsOf ops, p.2 < ops.length := by
  intro p hp
  unfold endsOf at hp
  simp only [List.mem_filterMap, Prod.exists] at hp
  obtain ⟨o, j, hj, h⟩ := hp
  have ho := List.mem_zipIdx_iff_getElem?.1 hj
  simp only at h ho
  split at h
  · simp only [Option.some.injEq] at h; subst h; exact (List.getElem?_eq_some_iff.1 ho).1
  · simp at h

/-- What is known of an operation that changes nothing, from a heap on. -/
def FF (P : Program) (ops : List Oper) (ms : List Nat) (fr : Fr) (A : Fr) (i : Nat) (o : Oper) (K : Heap) : Prop :=
  (∀ p ∈ pairsOf ops ms i, ∃ v, getF A p.2 = some v) ∧ (∃ v, getF A i = some v) ∧
  ∀ K', Grow K K' → wantK ops (envOf ops ms (VA A ops.length) fr i) o.guard (boper P o (envOf ops ms (VA A ops.length) fr i) K' fun v H' => v = (VA A ops.length).getD i undef ∧ H' = K') ((VA A ops.length).getD i undef = undef)
theorem FF.grow {P : Program} {ops : List Oper} {ms : List Nat} {fr : Fr} {A : Fr} {i : Nat} {o : Oper} {K K' : Heap} (h : FF P ops ms fr A i o K) (g : Grow K K') : FF P ops ms fr A i o K' :=
  ⟨h.1, h.2.1, fun L gl => h.2.2 L (g.trans gl)⟩
theorem FF.add {P : Program} {ops : List Oper} {ms : List Nat} {fr : Fr} {A : Fr} {i : Nat} {o : Oper} {K : Heap} (hil : i < ops.length) (h : FF P ops ms fr A i o K) {j : Nat} {v : Value} (hj : getF A j = none) : FF P ops ms fr ((j, v) :: A) i o K := by
  have key : ∀ t u, getF A t = some u → getF ((j, v) :: A) t = some u := by
    intro t u h1
    simp only [getF]
    split
    · rename_i e; have := Nat.eq_of_beq_eq_true e; subst this; rw [hj] at h1; simp at h1
    · exact h1
  obtain ⟨h1, ⟨u, h2⟩, h3⟩ := h
  have e : envOf ops ms (VA ((j, v) :: A) ops.length) fr i = envOf ops ms (VA A ops.length) fr i := by
    rw [envOf_eq, envOf_eq]
    refine valsOf_congr fun p hp => ?_
    obtain ⟨x, hx⟩ := h1 p hp
    rw [VA_get (pairs_lt p hp), VA_get (pairs_lt p hp), hx, key _ _ hx]
  refine ⟨fun p hp => let ⟨x, hx⟩ := h1 p hp; ⟨x, key _ _ hx⟩, ⟨u, key _ _ h2⟩, fun K' g => ?_⟩
  have h4 := h3 K' g
  have e2 : (VA ((j, v) :: A) ops.length).getD i undef = (VA A ops.length).getD i undef := by rw [VA_get hil, VA_get hil, h2, key _ _ h2]
  rw [e, e2]
  exact h4
theorem wantK_iff {ops : List Oper} {fr : Fr} {g : Option (Nat × Bool)} {X Y : Prop} (h : wantK ops fr g X Y) : (X ∧ ∀ X' Y', X' → wantK ops fr g X' Y') ∨ (Y ∧ ∀ X' Y', Y' → wantK ops fr g X' Y') := by
  unfold wantK at h ⊢
  split at h
  · exact .inl ⟨h, fun X' Y' x => x⟩
  · split at h
    · obtain ⟨v, hv, h⟩ := getK_iff.1 h
      split at h
      · rename_i b
        split at h
        · rcases h.out with ⟨rfl, h⟩ | ⟨rfl, h⟩
          · exact .inl ⟨h, fun X' Y' x => getK_iff.2 ⟨_, hv, x⟩⟩
          · exact .inr ⟨h, fun X' Y' x => getK_iff.2 ⟨_, hv, x⟩⟩
        · rcases h.out with ⟨rfl, h⟩ | ⟨rfl, h⟩
          · exact .inr ⟨h, fun X' Y' x => getK_iff.2 ⟨_, hv, x⟩⟩
          · exact .inl ⟨h, fun X' Y' x => getK_iff.2 ⟨_, hv, x⟩⟩
      · rename_i hne
        refine .inr ⟨h, fun X' Y' x => getK_iff.2 ⟨_, hv, ?_⟩⟩
        split
        · exact absurd rfl (hne _)
        · exact x
    · exact .inr ⟨h, fun X' Y' x => x⟩

/-- How far a region has come in its earliest order. -/
structure St (P : Program) (ops : List Oper) (ms : List Nat) (fr : Fr) (E : List (Nat × Nat)) (Q : BPost) (pre rest : List GDat) (A : Fr) (K : Heap) : Prop where
  dom : ∀ j v, getF A j = some v → ∃ x ∈ pre, x.1 = j
  facts : ∀ x ∈ pre, ∀ o, ops[x.1]? = some o → isMover o = false → FF P ops ms fr A x.1 o K
  go : gops P ops fr E Q rest A K

theorem St.floats {P : Program} {ops : List Oper} {fr : Fr} {E : List (Nat × Nat)} {Q : BPost} : ∀ {rest pre : List GDat} {A : Fr} {K : Heap}, gfit ops (masks ops) (pre ++ rest) 0 = true → gnodup (pre ++ rest) = true → St P ops (masks ops) fr E Q pre rest A K →
    ∃ pre' rest' A', pre ++ rest = pre' ++ rest' ∧ cmov pre' = cmov pre ∧ (rest' = [] ∨ ∃ x r, rest' = x :: r ∧ x.2.2.2 = true) ∧ St P ops (masks ops) fr E Q pre' rest' A' K ∧ ∀ j, (∃ x ∈ pre, x.1 = j) → getF A' j = getF A j := by
  intro rest
  induction rest with
  | nil => intro pre A K hf hn h; exact ⟨pre, [], A, rfl, rfl, .inl rfl, h, fun _ _ => rfl⟩
  | cons x rest ih =>
    intro pre A K hf hn h
    cases hx : x.2.2.2 with
    | true => exact ⟨pre, x :: rest, A, rfl, rfl, .inr ⟨x, rest, rfl, hx⟩, h, fun _ _ => rfl⟩
    | false =>
      obtain ⟨o, ho, hav, hex, hmv, hlo, _⟩ := gfit_get hf
      have hnd := gnodup_get hn
      obtain ⟨i, av, ex, mv⟩ := x
      simp only at ho hav hex hmv hlo hx hnd
      subst hx hav hex
      have hil : i < ops.length := (List.getElem?_eq_some_iff.1 ho).1
      have hnone : getF A i = none := by
        cases hg : getF A i with
        | none => rfl
        | some v => obtain ⟨y, hy, e⟩ := h.dom i v hg; exact absurd e (hnd y hy)
      have hgo := h.go
      simp only [gops] at hgo
      obtain ⟨o', ho', hgo⟩ := hgo.out
      rw [ho] at ho'
      simp only [Option.some.injEq] at ho'
      subst ho'
      obtain ⟨hp, hgo⟩ := bringA_to (m := ops.length) pairs_lt hgo
      rw [← envOf_eq] at hgo
      have fin : ∀ v, gops P ops fr E Q rest ((i, v) :: A) K → (∀ K', Grow K K' → wantK ops (envOf ops (masks ops) (VA A ops.length) fr i) o.guard (boper P o (envOf ops (masks ops) (VA A ops.length) fr i) K' fun u H' => u = v ∧ H' = K') (v = undef)) →
          ∃ pre' rest' A', pre ++ (i, pairsOf ops (masks ops) i, exOf ops (masks ops) i, false) :: rest = pre' ++ rest' ∧ cmov pre' = cmov pre ∧ (rest' = [] ∨ ∃ x r, rest' = x :: r ∧ x.2.2.2 = true) ∧ St P ops (masks ops) fr E Q pre' rest' A' K ∧ ∀ j, (∃ x ∈ pre, x.1 = j) → getF A' j = getF A j := by
        intro v hg hff
        have hgi : getF ((i, v) :: A) i = some v := by simp [getF]
        have hkeep : ∀ t u, getF A t = some u → getF ((i, v) :: A) t = some u := by
          intro t u h1
          simp only [getF]
          split
          · rename_i e; have := Nat.eq_of_beq_eq_true e; subst this; rw [hnone] at h1; simp at h1
          · exact h1
        have hE : envOf ops (masks ops) (VA ((i, v) :: A) ops.length) fr i = envOf ops (masks ops) (VA A ops.length) fr i := by
          rw [envOf_eq, envOf_eq]
          refine valsOf_congr fun p hp' => ?_
          obtain ⟨x, hx⟩ := hp p hp'
          rw [VA_get (pairs_lt p hp'), VA_get (pairs_lt p hp'), hx, hkeep _ _ hx]
        have hnew : St P ops (masks ops) fr E Q (pre ++ [(i, pairsOf ops (masks ops) i, exOf ops (masks ops) i, false)]) rest ((i, v) :: A) K := by
          refine ⟨fun j u hj => ?_, fun y hy o1 ho1 hm1 => ?_, hg⟩
          · simp only [getF] at hj
            split at hj
            · rename_i e; have := Nat.eq_of_beq_eq_true e; subst this; exact ⟨_, List.mem_append_right _ (List.mem_singleton.2 rfl), rfl⟩
            · obtain ⟨y, hy, e⟩ := h.dom j u hj; exact ⟨y, List.mem_append_left _ hy, e⟩
          · rcases List.mem_append.1 hy with hy | hy
            · exact (h.facts y hy o1 ho1 hm1).add (List.getElem?_eq_some_iff.1 ho1).1 hnone
            · rw [List.mem_singleton] at hy
              subst hy
              simp only at ho1
              rw [ho] at ho1
              simp only [Option.some.injEq] at ho1
              subst ho1
              refine ⟨fun p hp' => let ⟨x, hx⟩ := hp p hp'; ⟨x, hkeep _ _ hx⟩, ⟨v, hgi⟩, fun K' g => ?_⟩
              have e2 : (VA ((i, v) :: A) ops.length).getD i undef = v := by rw [VA_get hil, hgi]; rfl
              simp only [hE, e2]
              exact hff K' g
        obtain ⟨pre', rest', A', e1, e2, e3, e4, e5⟩ := ih (by simpa using hf) (by simpa using hn) hnew
        refine ⟨pre', rest', A', by rw [← e1]; simp, by rw [e2, cmov_append]; simp [cmov], e3, e4, fun j hj => ?_⟩
        obtain ⟨y, hy, rfl⟩ := hj
        rw [e5 _ ⟨y, List.mem_append_left _ hy, rfl⟩]
        have : y.1 ≠ i := hnd y hy
        simp only [getF]
        split
        · rename_i e; exact absurd (Nat.eq_of_beq_eq_true e).symm this
        · rfl
      rcases wantK_iff (show wantK ops _ o.guard _ _ from hgo) with ⟨hgo, hw⟩ | ⟨hgo, hw⟩
      · obtain ⟨v, h1, h2⟩ := float_mono hmv.symm (show boper P o _ K _ from hgo)
        exact fin v h1 fun K' g => hw _ _ (h2 K' g _ ⟨rfl, rfl⟩)
      · exact fin undef hgo fun K' g => hw _ _ rfl

theorem SW.drawG {P : Program} {n : Nat} {id : Nat} {ops : Array Oper} {Q : BPost} {fr : Fr} {H : Heap} (L : List GDat) (E : List (Nat × Nat)) (F : Fr) (hm : P.follows .mixedOrders = true) (hok : gIs n ops.toList L E = true) (hF : Has fr F)
    (h : gops P ops.toList F E Q L [] H) : SW P n (.region id ops true) Q fr H := by
  refine SW.sub ?_ (Sub.of hF)
  simp only [gIs, Bool.and_eq_true, List.all_eq_true, decide_eq_true_eq] at hok
  obtain ⟨⟨⟨⟨⟨h1, hfit⟩, hnd⟩, hall⟩, rfl⟩, hnm⟩ := hok
  have hnm' := Nat.eq_of_beq_eq_true hnm
  let R : Nat → List Value → Heap → Prop := fun k V K => ∃ A pre rest, V = VA A ops.toList.length ∧ L = pre ++ rest ∧ cmov pre = k ∧ (rest = [] ∨ ∃ x r, rest = x :: r ∧ x.2.2.2 = true) ∧ St P ops.toList (masks ops.toList) F (endsOf ops.toList) Q pre rest A K
  have place : ∀ i, i < ops.toList.length → ∃ a b x, L = a ++ x :: b ∧ x.1 = i := by
    intro i hi
    have := hall i (List.mem_range.2 hi)
    rw [List.any_eq_true] at this
    obtain ⟨x, hx, e⟩ := this
    obtain ⟨a, b, hab⟩ := List.append_of_mem hx
    exact ⟨a, b, x, hab, Nat.eq_of_beq_eq_true e⟩
  refine SW.drawV R hm h1 ?_ ?_ ?_ ?_
  · have s0 : St P ops.toList (masks ops.toList) F (endsOf ops.toList) Q [] L [] H := ⟨fun j v hj => by simp [getF] at hj, fun x hx => by simp at hx, h⟩
    obtain ⟨pre', rest', A', e1, e2, e3, e4, _⟩ := s0.floats (by simpa using hfit) (by simpa using hnd)
    exact ⟨_, A', pre', rest', rfl, by simpa using e1, by simpa [cmov] using e2, e3, e4⟩
  · -- what changes nothing
    rintro i o k V K ho hmo hlo hhi ⟨A, pre, rest, rfl, e1, e2, e3, st⟩
    obtain ⟨a, b, x, hab, rfl⟩ := place i (List.getElem?_eq_some_iff.1 ho).1
    have hfx := hfit
    rw [hab] at hfx
    obtain ⟨o', ho', _, _, hmv, hlo', _⟩ := gfit_get hfx
    rw [ho] at ho'
    simp only [Option.some.injEq] at ho'
    subst ho'
    have hin : x ∈ pre := by
      -- else it stands in the rest, behind a change
      have hx : x ∈ pre ++ rest := by rw [← e1, hab]; simp
      rcases List.mem_append.1 hx with hx | hx
      · exact hx
      · exfalso
        obtain ⟨r1, r2, hr⟩ := List.append_of_mem hx
        rcases e3 with e3 | ⟨y, r, e3, hy⟩
        · rw [e3] at hx; simp at hx
        · have hfx2 := hfit
          rw [e1, hr, ← List.append_assoc] at hfx2
          obtain ⟨_, _, _, _, _, hlo2, _⟩ := gfit_get hfx2
          rw [cmov_append] at hlo2
          cases r1 with
          | nil =>
            rw [List.nil_append, e3] at hr
            simp only [List.cons.injEq] at hr
            rw [hr.1, hmv, hmo] at hy
            simp at hy
          | cons z r1 =>
            rw [e3, List.cons_append] at hr
            simp only [List.cons.injEq] at hr
            obtain ⟨rfl, _⟩ := hr
            obtain ⟨zi, za, ze, zm⟩ := y
            simp only at hy
            subst hy
            simp only [cmov] at hlo2
            omega
    exact (st.facts x hin o ho hmo).2.2 K (.refl _)
  · -- what lays blocks
    rintro i o k V K ho hmo hlo hhi ⟨A, pre, rest, rfl, e1, e2, e3, st⟩
    obtain ⟨a, b, x, hab, rfl⟩ := place i (List.getElem?_eq_some_iff.1 ho).1
    have hfx := hfit
    rw [hab] at hfx
    obtain ⟨o', ho', _, _, hmv, hlo', hhi'⟩ := gfit_get hfx
    rw [ho] at ho'
    simp only [Option.some.injEq] at ho'
    subst ho'
    have hxm : x.2.2.2 = true := hmv.trans hmo
    have hhi2 := hhi' hxm
    -- it is the next one
    have hrest : ∃ r, rest = x :: r := by
      have hx : x ∈ pre ++ rest := by rw [← e1, hab]; simp
      rcases List.mem_append.1 hx with hx | hx
      · exfalso
        obtain ⟨p1, p2, hp⟩ := List.append_of_mem hx
        have hfx2 := hfit
        rw [e1, hp, List.append_assoc, List.cons_append] at hfx2
        obtain ⟨_, _, _, _, _, hlo2, _⟩ := gfit_get hfx2
        rw [hp, cmov_append] at e2
        obtain ⟨zi, za, ze, zm⟩ := x
        simp only at hxm
        subst hxm
        simp only [cmov] at e2
        simp only at hlo2 hlo' hlo hhi hhi2
        omega
      · obtain ⟨r1, r2, hr⟩ := List.append_of_mem hx
        rcases e3 with e3 | ⟨y, r, e3, hy⟩
        · rw [e3] at hx; simp at hx
        · have hfx2 := hfit
          rw [e1, hr, ← List.append_assoc] at hfx2
          obtain ⟨_, _, _, _, _, hlo2, _⟩ := gfit_get hfx2
          rw [cmov_append] at hlo2
          cases r1 with
          | nil => exact ⟨r2, by simpa using hr⟩
          | cons z r1 =>
            exfalso
            rw [e3, List.cons_append] at hr
            simp only [List.cons.injEq] at hr
            obtain ⟨rfl, _⟩ := hr
            obtain ⟨zi, za, ze, zm⟩ := y
            simp only at hy
            subst hy
            simp only [cmov] at hlo2
            omega
    obtain ⟨r, rfl⟩ := hrest
    have hfx2 := hfit
    rw [e1] at hfx2
    have hnd2 := hnd
    rw [e1] at hnd2
    obtain ⟨_, ho2, hav, hex, _, _, _⟩ := gfit_get hfx2
    have hne := gnodup_get hnd2
    have hnone : getF A x.1 = none := by
      cases hg : getF A x.1 with
      | none => rfl
      | some v => obtain ⟨y, hy, e⟩ := st.dom _ v hg; exact absurd e (hne y hy)
    have hil : x.1 < ops.toList.length := (List.getElem?_eq_some_iff.1 ho).1
    have hgo := st.go
    obtain ⟨i, av, ex, mv⟩ := x
    simp only at hxm hav hex ho hnone hne hil
    subst hxm hav hex
    simp only [gops] at hgo
    obtain ⟨o', ho', hgo⟩ := hgo.out
    rw [ho] at ho'
    simp only [Option.some.injEq] at ho'
    subst ho'
    obtain ⟨hp, hgo⟩ := bringA_to (m := ops.toList.length) pairs_lt hgo
    rw [← envOf_eq] at hgo
    have fin : ∀ (v : Value) (H' : Heap), Grow K H' → gops P ops.toList F (endsOf ops.toList) Q r ((i, v) :: A) H' →
        ∃ V', R (k + 1) V' H' ∧ V'.getD i undef = v ∧ ∀ (j : Nat), j < ops.size → loOf ops.toList (masks ops.toList) j ≤ k → j ≠ i → V'.getD j undef = (VA A ops.toList.length).getD j undef := by
      intro v H' g hg
      have hnew : St P ops.toList (masks ops.toList) F (endsOf ops.toList) Q (pre ++ [(i, pairsOf ops.toList (masks ops.toList) i, exOf ops.toList (masks ops.toList) i, true)]) r ((i, v) :: A) H' := by
        refine ⟨fun j u hj => ?_, fun y hy o1 ho1 hm1 => ?_, hg⟩
        · simp only [getF] at hj
          split at hj
          · rename_i e; have := Nat.eq_of_beq_eq_true e; subst this; exact ⟨_, List.mem_append_right _ (List.mem_singleton.2 rfl), rfl⟩
          · obtain ⟨y, hy, e⟩ := st.dom j u hj; exact ⟨y, List.mem_append_left _ hy, e⟩
        · rcases List.mem_append.1 hy with hy | hy
          · exact ((st.facts y hy o1 ho1 hm1).grow g).add (List.getElem?_eq_some_iff.1 ho1).1 hnone
          · rw [List.mem_singleton] at hy
            subst hy
            simp only at ho1
            rw [ho] at ho1
            simp only [Option.some.injEq] at ho1
            subst ho1
            rw [hmo] at hm1
            simp at hm1
      obtain ⟨pre', rest', A', f1, f2, f3, f4, f5⟩ := hnew.floats (by simpa using hfx2) (by simpa using hnd2)
      refine ⟨_, ⟨A', pre', rest', rfl, by rw [e1, ← f1]; simp, by rw [f2, cmov_append, e2]; simp [cmov], f3, f4⟩, ?_, fun j hj hloj hji => ?_⟩
      · rw [VA_get hil, f5 i ⟨_, List.mem_append_right _ (List.mem_singleton.2 rfl), rfl⟩]
        simp [getF]
      · have hjl : j < ops.toList.length := by simpa using hj
        rw [VA_get hjl, VA_get hjl]
        -- j stands ahead
        obtain ⟨a2, b2, x2, hab2, rfl⟩ := place j hjl
        have hin : x2 ∈ pre := by
          have hx : x2 ∈ pre ++ (i, pairsOf ops.toList (masks ops.toList) i, exOf ops.toList (masks ops.toList) i, true) :: r := by rw [← e1, hab2]; simp
          rcases List.mem_append.1 hx with hx | hx
          · exact hx
          · exfalso
            rcases List.mem_cons.1 hx with rfl | hx
            · exact hji rfl
            · obtain ⟨r1, r2, hr⟩ := List.append_of_mem hx
              have hfx3 := hfit
              rw [e1, hr, ← List.cons_append, ← List.append_assoc] at hfx3
              obtain ⟨_, _, _, _, _, hlo2, _⟩ := gfit_get hfx3
              rw [cmov_append] at hlo2
              simp only [cmov] at hlo2
              omega
        rw [f5 x2.1 ⟨x2, List.mem_append_left _ hin, rfl⟩]
        simp only [getF]
        split
        · rename_i e; exact absurd (Nat.eq_of_beq_eq_true e).symm hji
        · rfl
    rcases wantK_iff (show wantK ops.toList _ o.guard _ _ from hgo) with ⟨hgo, hw⟩ | ⟨hgo, hw⟩
    · refine hw _ _ (boper_mono (K := fun v H' => Grows K H' (gops P ops.toList F (endsOf ops.toList) Q r ((i, v) :: A) H')) hgo fun v H' hk => fin v H' hk.g hk.x)
    · exact hw _ _ (fin undef K (.refl _) hgo)
  · -- the end
    rintro V K ⟨A, pre, rest, rfl, e1, e2, e3, st⟩
    have hr : rest = [] := by
      rcases e3 with e3 | ⟨y, r, e3, hy⟩
      · exact e3
      · exfalso
        rw [e1, cmov_append, e3, e2] at hnm'
        obtain ⟨zi, za, ze, zm⟩ := y
        simp only at hy
        subst hy
        simp only [cmov] at hnm'
        omega
    have hgo := st.go
    rw [hr] at hgo
    simp only [gops] at hgo
    obtain ⟨_, hgo⟩ := bringA_to (m := ops.toList.length) ends_lt hgo
    rw [endOf_eq]
    exact hgo
end Go.Proofs.Ytdlanbfbbopfhaa.Ax
