/- The abstract machine: a region whose order is open, done in its earliest order; a change may be of any kind where what reads the heap stays on its side of it. -/
import Derived.KernelRfl
import Derived.Test.YtfobbmllbbckkaaJAx2
set_option linter.unusedVariables false
set_option linter.unusedSimpArgs false
namespace Go.Proofs.Ytfobbmllbbckkaa.Ax
open Go Go.RowKit

/-- An operation's place in the earliest order: its number, what is ahead of it, which slots are not settled, does it change the heap. -/
abbrev HDat := Nat × List (Nat × Nat) × List Nat × Bool
def isPureO (o : Oper) : Bool :=
  match o.op with
  | .move _ | .assign _ | .pick .. | .build .. | .nilCheck _ | .binOp .. | .unOp .. | .makeFunc .. | .slice .. | .fieldAddr .. | .field .. | .indexAddr .. | .index .. | .extract .. => true
  | _ => false
/-- What does not read the heap says the same in any heap. -/
theorem pure_mono {P : Program} {o : Oper} {fr : Fr} {H : Heap} {K : OpK} (hm : isPureO o = true) (h : boper P o fr H K) : ∃ v, K v H ∧ ∀ (H' : Heap) (K' : OpK), K' v H' → boper P o fr H' K' := by
  obtain ⟨dst, op, ty, pos, after, guard⟩ := o
  cases op with
  | move x => obtain ⟨v, h, k⟩ := evK_iff (show evK fr x _ from h); exact ⟨v, h, fun H' K' k' => k _ k'⟩
  | assign x => obtain ⟨v, h, k⟩ := evK_iff (show evK fr x _ from h); exact ⟨v, h, fun H' K' k' => k _ k'⟩
  | pick c a b =>
    obtain ⟨v, h, k⟩ := evK_iff (show evK fr c _ from h)
    split at h
    · rename_i t
      rcases h.out with ⟨rfl, h⟩ | ⟨rfl, h⟩
      · obtain ⟨u, h, k2⟩ := evK_iff h; exact ⟨u, h, fun H' K' k' => k _ (k2 _ k')⟩
      · obtain ⟨u, h, k2⟩ := evK_iff h; exact ⟨u, h, fun H' K' k' => k _ (k2 _ k')⟩
    · exact h.elim
  | build t ps => obtain ⟨v, h, k⟩ := evP_iff (show evP fr ps.toList _ from h); obtain ⟨r, hr, h⟩ := h.out; exact ⟨r, h, fun H' K' k' => k _ (.of hr k')⟩
  | nilCheck x =>
    obtain ⟨v, h, k⟩ := evK_iff (show evK fr x _ from h)
    split at h
    · exact ⟨_, h, fun H' K' k' => k _ k'⟩
    · exact ⟨_, h, fun H' K' k' => k _ k'⟩
    · exact h.elim
  | binOp bo t x y t2 => obtain ⟨v, h, k⟩ := evK_iff (show evK fr x _ from h); obtain ⟨u, h, k2⟩ := evK_iff h; obtain ⟨r, hr, h⟩ := h.out; exact ⟨r, h, fun H' K' k' => k _ (k2 _ (.of hr k'))⟩
  | unOp uo t x => obtain ⟨v, h, k⟩ := evK_iff (show evK fr x _ from h); obtain ⟨r, hr, h⟩ := h.out; exact ⟨r, h, fun H' K' k' => k _ (.of hr k')⟩
  | makeFunc f a b => obtain ⟨v, h, k⟩ := evL_iff (show evL fr a.toList _ from h); obtain ⟨u, h, k2⟩ := evL_iff h; exact ⟨_, h, fun H' K' k' => k _ (k2 _ k')⟩
  | slice t x lo hi mx =>
    obtain ⟨v, h, k⟩ := evK_iff (show evK fr x _ from h)
    obtain ⟨a, h, k1⟩ := evQ_iff h
    obtain ⟨b, h, k2⟩ := evQ_iff h
    obtain ⟨c, h, k3⟩ := evQ_iff h
    obtain ⟨r, hr, h⟩ := h.out
    exact ⟨r, h, fun H' K' k' => k _ (k1 _ (k2 _ (k3 _ (.of hr k'))))⟩
  | fieldAddr s x f => obtain ⟨v, h, k⟩ := evK_iff (show evK fr x _ from h); obtain ⟨r, hr, h⟩ := h.out; exact ⟨r, h, fun H' K' k' => k _ (.of hr k')⟩
  | field s x f => obtain ⟨v, h, k⟩ := evK_iff (show evK fr x _ from h); obtain ⟨r, hr, h⟩ := h.out; exact ⟨r, h, fun H' K' k' => k _ (.of hr k')⟩
  | indexAddr t x i => obtain ⟨v, h, k⟩ := evK_iff (show evK fr x _ from h); obtain ⟨u, h, k2⟩ := evK_iff h; obtain ⟨r, hr, h⟩ := h.out; exact ⟨r, h, fun H' K' k' => k _ (k2 _ (.of hr k'))⟩
  | index t x i => obtain ⟨v, h, k⟩ := evK_iff (show evK fr x _ from h); obtain ⟨u, h, k2⟩ := evK_iff h; obtain ⟨r, hr, h⟩ := h.out; exact ⟨r, h, fun H' K' k' => k _ (k2 _ (.of hr k'))⟩
  | extract x i => obtain ⟨v, h, k⟩ := evK_iff (show evK fr x _ from h); obtain ⟨r, hr, h⟩ := h.out; exact ⟨r, h, fun H' K' k' => k _ (.of hr k')⟩
  | _ => simp [isPureO] at hm
def hkeep (GR : List Nat) (i : Nat) (mv : Bool) (H H' : Heap) (X : Prop) : Prop := match mv with | true => (match outOf GR i with | true => Grows H H' X | false => X) | false => X
def hdo (P : Program) (GR : List Nat) (o : Oper) (env : Fr) (A : Fr) (H : Heap) (i : Nat) (mv w : Bool) (next : Fr → Heap → Prop) : Prop :=
  match w with
  | true => boper P o env H fun v H' => hkeep GR i mv H H' (next ((i, v) :: A) H')
  | false => next ((i, undef) :: A) H
def hops (P : Program) (ops : List Oper) (fr : Fr) (E : List (Nat × Nat)) (Q : BPost) (GR : List Nat) : List HDat → Fr → Heap → Prop
  | [] => fun A H => bringA A E fr fun fr' => Q .normal fr' H
  | (i, av, ex, mv) :: rest => fun A H => Ob ops[i]? fun o => bringA A av (cutF ex fr) fun env => wantB ops env o.guard fun w => hdo P GR o env A H i mv w (hops P ops fr E Q GR rest)

def hcmov : List HDat → Nat
  | [] => 0
  | (_, _, _, mv) :: r => (match mv with | true => 1 | false => 0) + hcmov r
theorem hcmov_append (a b : List HDat) : hcmov (a ++ b) = hcmov a + hcmov b := by
  induction a with
  | nil => simp [hcmov]
  | cons x a ih => obtain ⟨i, av, ex, mv⟩ := x; simp only [List.cons_append, hcmov, ih]; omega
/-- Each one fits: its data, and how many changes are ahead of it. -/
def hfit (ops : List Oper) (ms : List Nat) : List HDat → Nat → Bool
  | [], _ => true
  | (i, av, ex, mv) :: r, k => (match ops[i]? with
      | some o => decide (av = pairsOf ops ms i) && decide (ex = exOf ops ms i) && (mv == isMover o) && Nat.beq (loOf ops ms i) k && (!mv || Nat.beq (hiOf ops ms i) k)
      | none => false) && hfit ops ms r ((match mv with | true => 1 | false => 0) + k)
def hnodupB : List HDat → Bool
  | [] => true
  | x :: r => r.all (fun y => !Nat.beq x.1 y.1) && hnodupB r
/-- What reads the heap stays on its side of a change that is not among some. -/
def staysB (ops : List Oper) (ms : List Nat) (GR : List Nat) : Bool :=
  (movers ops).all fun i => outOf GR i || (List.range ops.length).all fun j => match ops[j]? with | some o => isMover o || isPureO o || !(Nat.ble (loOf ops ms j) (hiOf ops ms i) && Nat.ble (hiOf ops ms i + 1) (hiOf ops ms j)) | none => true
def hIs (n : Nat) (ops : List Oper) (L : List HDat) (E : List (Nat × Nat)) (GR : List Nat) : Bool :=
  staysB ops (masks ops) GR && drawOK n ops && hfit ops (masks ops) L 0 && hnodupB L && (List.range ops.length).all (fun i => L.any fun x => Nat.beq x.1 i) && decide (endsOf ops = E) && Nat.beq (hcmov L) (movers ops).length

theorem hfit_get {ops : List Oper} {ms : List Nat} : ∀ {pre rest : List HDat} {x : HDat} {k : Nat}, hfit ops ms (pre ++ x :: rest) k = true →
    ∃ o, ops[x.1]? = some o ∧ x.2.1 = pairsOf ops ms x.1 ∧ x.2.2.1 = exOf ops ms x.1 ∧ x.2.2.2 = isMover o ∧ loOf ops ms x.1 = k + hcmov pre ∧ (x.2.2.2 = true → hiOf ops ms x.1 = k + hcmov pre) := by
  intro pre
  induction pre with
  | nil =>
    intro rest x k h
    obtain ⟨i, av, ex, mv⟩ := x
    simp only [List.nil_append, hfit, Bool.and_eq_true] at h
    obtain ⟨h, _⟩ := h
    split at h
    · rename_i o ho
      simp only [Bool.and_eq_true, decide_eq_true_eq, beq_iff_eq, Bool.or_eq_true, Bool.not_eq_true'] at h
      obtain ⟨⟨⟨⟨h1, h2⟩, h3⟩, h4⟩, h5⟩ := h
      refine ⟨o, ho, h1, h2, h3, by simpa [hcmov] using Nat.eq_of_beq_eq_true h4, fun hm => ?_⟩
      rcases h5 with h5 | h5
      · exact absurd hm (by rw [show (i, av, ex, mv).2.2.2 = mv from rfl, h5]; simp)
      · simpa [hcmov] using Nat.eq_of_beq_eq_true h5
    · simp at h
  | cons y pre ih =>
    intro rest x k h
    obtain ⟨i, av, ex, mv⟩ := y
    simp only [List.cons_append, hfit, Bool.and_eq_true] at h
    obtain ⟨o, h1, h2, h3, h4, h5, h6⟩ := ih h.2
    refine ⟨o, h1, h2, h3, h4, by rw [h5]; simp only [hcmov]; omega, fun hm => by rw [h6 hm]; simp only [hcmov]; omega⟩
theorem hnodup_get : ∀ {pre rest : List HDat} {x : HDat}, hnodupB (pre ++ x :: rest) = true → ∀ y ∈ pre, y.1 ≠ x.1 := by
  intro pre
  induction pre with
  | nil => intro rest x h y hy; simp at hy
  | cons z pre ih =>
    intro rest x h y hy
    simp only [List.cons_append, hnodupB, Bool.and_eq_true, List.all_eq_true] at h
    rcases List.mem_cons.1 hy with rfl | hy
    · have := h.1 x (by simp)
      intro e
      rw [e] at this
      simp at this
    · exact ih h.2 y hy

/-- What is known of an operation that changes nothing, from a heap on. -/
def FH (P : Program) (ops : List Oper) (ms : List Nat) (fr : Fr) (A : Fr) (i : Nat) (o : Oper) (K : Heap) : Prop :=
  (∀ p ∈ pairsOf ops ms i, ∃ v, getF A p.2 = some v) ∧ (∃ v, getF A i = some v) ∧
  ∀ K', isPureO o = true ∨ Grow K K' → wantK ops (envOf ops ms (VA A ops.length) fr i) o.guard (boper P o (envOf ops ms (VA A ops.length) fr i) K' fun v H' => v = (VA A ops.length).getD i undef ∧ H' = K') ((VA A ops.length).getD i undef = undef)
theorem FH.grow {P : Program} {ops : List Oper} {ms : List Nat} {fr : Fr} {A : Fr} {i : Nat} {o : Oper} {K K' : Heap} (h : FH P ops ms fr A i o K) (g : Grow K K') : FH P ops ms fr A i o K' :=
  ⟨h.1, h.2.1, fun L gl => h.2.2 L (gl.imp id g.trans)⟩
theorem FH.pure {P : Program} {ops : List Oper} {ms : List Nat} {fr : Fr} {A : Fr} {i : Nat} {o : Oper} {K K' : Heap} (h : FH P ops ms fr A i o K) (hp : isPureO o = true) : FH P ops ms fr A i o K' :=
  ⟨h.1, h.2.1, fun L _ => h.2.2 L (.inl hp)⟩
theorem FH.add {P : Program} {ops : List Oper} {ms : List Nat} {fr : Fr} {A : Fr} {i : Nat} {o : Oper} {K : Heap} (hil : i < ops.length) (h : FH P ops ms fr A i o K) {j : Nat} {v : Value} (hj : getF A j = none) : FH P ops ms fr ((j, v) :: A) i o K := by
  have key : ∀ t u, getF A t = some u → getF ((j, v) :: A) t = some u := by
    intro t u h1
    simp only [getF]
    split
    · rename_i e; have := Nat.eq_of_beq_eq_true e; subst this; rw [hj] at h1; simp at h1
    · exact h1
  obtain ⟨h1, ⟨u, h2⟩, h3⟩ := h
  have e : envOf ops ms (VA ((j, v) :: A) ops.length) fr i = envOf ops ms (VA A ops.length) fr i := by
    rw [envOf_eq, envOf_eq]
    refine valsOf_congr fun p hp => ?_
    obtain ⟨x, hx⟩ := h1 p hp
    rw [VA_get (pairs_lt p hp), VA_get (pairs_lt p hp), hx, key _ _ hx]
  refine ⟨fun p hp => let ⟨x, hx⟩ := h1 p hp; ⟨x, key _ _ hx⟩, ⟨u, key _ _ h2⟩, fun K' g => ?_⟩
  have h4 := h3 K' g
  have e2 : (VA ((j, v) :: A) ops.length).getD i undef = (VA A ops.length).getD i undef := by rw [VA_get hil, VA_get hil, h2, key _ _ h2]
  rw [e, e2]
  exact h4
/-- How far a region has come in its earliest order. -/
structure SH (P : Program) (ops : List Oper) (ms : List Nat) (fr : Fr) (E : List (Nat × Nat)) (Q : BPost) (GR : List Nat) (pre rest : List HDat) (A : Fr) (K : Heap) : Prop where
  dom : ∀ j v, getF A j = some v → ∃ x ∈ pre, x.1 = j
  facts : ∀ x ∈ pre, ∀ o, ops[x.1]? = some o → isMover o = false → hcmov pre ≤ hiOf ops ms x.1 → FH P ops ms fr A x.1 o K
  go : hops P ops fr E Q GR rest A K

theorem SH.floats {P : Program} {ops : List Oper} {fr : Fr} {E : List (Nat × Nat)} {Q : BPost} {GR : List Nat} : ∀ {rest pre : List HDat} {A : Fr} {K : Heap}, hfit ops (masks ops) (pre ++ rest) 0 = true → hnodupB (pre ++ rest) = true → SH P ops (masks ops) fr E Q GR pre rest A K →
    ∃ pre' rest' A', pre ++ rest = pre' ++ rest' ∧ hcmov pre' = hcmov pre ∧ (rest' = [] ∨ ∃ x r, rest' = x :: r ∧ x.2.2.2 = true) ∧ SH P ops (masks ops) fr E Q GR pre' rest' A' K ∧ ∀ j, (∃ x ∈ pre, x.1 = j) → getF A' j = getF A j := by
  intro rest
  induction rest with
  | nil => intro pre A K hf hn h; exact ⟨pre, [], A, rfl, rfl, .inl rfl, h, fun _ _ => rfl⟩
  | cons x rest ih =>
    intro pre A K hf hn h
    cases hx : x.2.2.2 with
    | true => exact ⟨pre, x :: rest, A, rfl, rfl, .inr ⟨x, rest, rfl, hx⟩, h, fun _ _ => rfl⟩
    | false =>
      obtain ⟨o, ho, hav, hex, hmv, hlo, _⟩ := hfit_get hf
      have hnd := hnodup_get hn
      obtain ⟨i, av, ex, mv⟩ := x
      simp only at ho hav hex hmv hlo hx hnd
      subst hx hav hex
      have hil : i < ops.length := (List.getElem?_eq_some_iff.1 ho).1
      have hnone : getF A i = none := by
        cases hg : getF A i with
        | none => rfl
        | some v => obtain ⟨y, hy, e⟩ := h.dom i v hg; exact absurd e (hnd y hy)
      have hgo := h.go
      simp only [hops] at hgo
      obtain ⟨o', ho', hgo⟩ := hgo.out
      rw [ho] at ho'
      simp only [Option.some.injEq] at ho'
      subst ho'
      obtain ⟨hp, hgo⟩ := bringA_to (m := ops.length) pairs_lt hgo
      rw [← envOf_eq] at hgo
      have fin : ∀ v, hops P ops fr E Q GR rest ((i, v) :: A) K → (∀ K', isPureO o = true ∨ Grow K K' → wantK ops (envOf ops (masks ops) (VA A ops.length) fr i) o.guard (boper P o (envOf ops (masks ops) (VA A ops.length) fr i) K' fun u H' => u = v ∧ H' = K') (v = undef)) →
          ∃ pre' rest' A', pre ++ (i, pairsOf ops (masks ops) i, exOf ops (masks ops) i, false) :: rest = pre' ++ rest' ∧ hcmov pre' = hcmov pre ∧ (rest' = [] ∨ ∃ x r, rest' = x :: r ∧ x.2.2.2 = true) ∧ SH P ops (masks ops) fr E Q GR pre' rest' A' K ∧ ∀ j, (∃ x ∈ pre, x.1 = j) → getF A' j = getF A j := by
        intro v hg hff
        have hgi : getF ((i, v) :: A) i = some v := by simp [getF]
        have hkeep : ∀ t u, getF A t = some u → getF ((i, v) :: A) t = some u := by
          intro t u h1
          simp only [getF]
          split
          · rename_i e; have := Nat.eq_of_beq_eq_true e; subst this; rw [hnone] at h1; simp at h1
          · exact h1
        have hE : envOf ops (masks ops) (VA ((i, v) :: A) ops.length) fr i = envOf ops (masks ops) (VA A ops.length) fr i := by
          rw [envOf_eq, envOf_eq]
          refine valsOf_congr fun p hp' => ?_
          obtain ⟨x, hx⟩ := hp p hp'
          rw [VA_get (pairs_lt p hp'), VA_get (pairs_lt p hp'), hx, hkeep _ _ hx]
        have hnew : SH P ops (masks ops) fr E Q GR (pre ++ [(i, pairsOf ops (masks ops) i, exOf ops (masks ops) i, false)]) rest ((i, v) :: A) K := by
          refine ⟨fun j u hj => ?_, fun y hy o1 ho1 hm1 hh1 => ?_, hg⟩
          · simp only [getF] at hj
            split at hj
            · rename_i e; have := Nat.eq_of_beq_eq_true e; subst this; exact ⟨_, List.mem_append_right _ (List.mem_singleton.2 rfl), rfl⟩
            · obtain ⟨y, hy, e⟩ := h.dom j u hj; exact ⟨y, List.mem_append_left _ hy, e⟩
          · rcases List.mem_append.1 hy with hy | hy
            · exact (h.facts y hy o1 ho1 hm1 (by rw [hcmov_append] at hh1; omega)).add (List.getElem?_eq_some_iff.1 ho1).1 hnone
            · rw [List.mem_singleton] at hy
              subst hy
              simp only at ho1
              rw [ho] at ho1
              simp only [Option.some.injEq] at ho1
              subst ho1
              refine ⟨fun p hp' => let ⟨x, hx⟩ := hp p hp'; ⟨x, hkeep _ _ hx⟩, ⟨v, hgi⟩, fun K' g => ?_⟩
              have e2 : (VA ((i, v) :: A) ops.length).getD i undef = v := by rw [VA_get hil, hgi]; rfl
              simp only [hE, e2]
              exact hff K' g
        obtain ⟨pre', rest', A', e1, e2, e3, e4, e5⟩ := ih (by simpa using hf) (by simpa using hn) hnew
        refine ⟨pre', rest', A', by rw [← e1]; simp, by rw [e2, hcmov_append]; simp [hcmov], e3, e4, fun j hj => ?_⟩
        obtain ⟨y, hy, rfl⟩ := hj
        rw [e5 _ ⟨y, List.mem_append_left _ hy, rfl⟩]
        have : y.1 ≠ i := hnd y hy
        simp only [getF]
        split
        · rename_i e; exact absurd (Nat.eq_of_beq_eq_true e).symm this
        · rfl
      rcases wantK_iff (show wantK ops _ o.guard _ _ from hgo) with ⟨hgo, hw⟩ | ⟨hgo, hw⟩
      · cases hpo : isPureO o with
        | true =>
          obtain ⟨v, h1, h2⟩ := pure_mono hpo (show boper P o _ K _ from hgo)
          exact fin v h1 fun K' _ => hw _ _ (h2 K' _ ⟨rfl, rfl⟩)
        | false =>
          obtain ⟨v, h1, h2⟩ := float_mono hmv.symm (show boper P o _ K _ from hgo)
          exact fin v h1 fun K' g => hw _ _ (h2 K' (g.resolve_left (by simp [hpo])) _ ⟨rfl, rfl⟩)
      · exact fin undef hgo fun K' g => hw _ _ rfl

theorem SW.drawH {P : Program} {n : Nat} {id : Nat} {ops : Array Oper} {Q : BPost} {fr : Fr} {H : Heap} (L : List HDat) (E : List (Nat × Nat)) (GR : List Nat) (F : Fr) (hm : P.follows .mixedOrders = true) (hok : hIs n ops.toList L E GR = true) (hF : Has fr F)
    (h : hops P ops.toList F E Q GR L [] H) : SW P n (.region id ops true) Q fr H := by
  refine SW.sub ?_ (Sub.of hF)
  simp only [hIs, Bool.and_eq_true, List.all_eq_true, decide_eq_true_eq] at hok
  obtain ⟨⟨⟨⟨⟨⟨hst, h1⟩, hfit⟩, hnd⟩, hall⟩, rfl⟩, hnm⟩ := hok
  have hnm' := Nat.eq_of_beq_eq_true hnm
  let R : Nat → List Value → Heap → Prop := fun k V K => ∃ A pre rest, V = VA A ops.toList.length ∧ L = pre ++ rest ∧ hcmov pre = k ∧ (rest = [] ∨ ∃ x r, rest = x :: r ∧ x.2.2.2 = true) ∧ SH P ops.toList (masks ops.toList) F (endsOf ops.toList) Q GR pre rest A K
  have place : ∀ i, i < ops.toList.length → ∃ a b x, L = a ++ x :: b ∧ x.1 = i := by
    intro i hi
    have := hall i (List.mem_range.2 hi)
    rw [List.any_eq_true] at this
    obtain ⟨x, hx, e⟩ := this
    obtain ⟨a, b, hab⟩ := List.append_of_mem hx
    exact ⟨a, b, x, hab, Nat.eq_of_beq_eq_true e⟩
  refine SW.drawV R hm h1 ?_ ?_ ?_ ?_
  · have s0 : SH P ops.toList (masks ops.toList) F (endsOf ops.toList) Q GR [] L [] H := ⟨fun j v hj => by simp [getF] at hj, fun x hx => by simp at hx, h⟩
    obtain ⟨pre', rest', A', e1, e2, e3, e4, _⟩ := s0.floats (by simpa using hfit) (by simpa using hnd)
    exact ⟨_, A', pre', rest', rfl, by simpa using e1, by simpa [hcmov] using e2, e3, e4⟩
  · -- what changes nothing
    rintro i o k V K ho hmo hlo hhi ⟨A, pre, rest, rfl, e1, e2, e3, st⟩
    obtain ⟨a, b, x, hab, rfl⟩ := place i (List.getElem?_eq_some_iff.1 ho).1
    have hfx := hfit
    rw [hab] at hfx
    obtain ⟨o', ho', _, _, hmv, hlo', _⟩ := hfit_get hfx
    rw [ho] at ho'
    simp only [Option.some.injEq] at ho'
    subst ho'
    have hin : x ∈ pre := by
      -- else it stands in the rest, behind a change
      have hx : x ∈ pre ++ rest := by rw [← e1, hab]; simp
      rcases List.mem_append.1 hx with hx | hx
      · exact hx
      · exfalso
        obtain ⟨r1, r2, hr⟩ := List.append_of_mem hx
        rcases e3 with e3 | ⟨y, r, e3, hy⟩
        · rw [e3] at hx; simp at hx
        · have hfx2 := hfit
          rw [e1, hr, ← List.append_assoc] at hfx2
          obtain ⟨_, _, _, _, _, hlo2, _⟩ := hfit_get hfx2
          rw [hcmov_append] at hlo2
          cases r1 with
          | nil =>
            rw [List.nil_append, e3] at hr
            simp only [List.cons.injEq] at hr
            rw [hr.1, hmv, hmo] at hy
            simp at hy
          | cons z r1 =>
            rw [e3, List.cons_append] at hr
            simp only [List.cons.injEq] at hr
            obtain ⟨rfl, _⟩ := hr
            obtain ⟨zi, za, ze, zm⟩ := y
            simp only at hy
            subst hy
            simp only [hcmov] at hlo2
            omega
    exact (st.facts x hin o ho hmo (by omega)).2.2 K (.inr (.refl _))
  · -- what lays blocks
    rintro i o k V K ho hmo hlo hhi ⟨A, pre, rest, rfl, e1, e2, e3, st⟩
    obtain ⟨a, b, x, hab, rfl⟩ := place i (List.getElem?_eq_some_iff.1 ho).1
    have hfx := hfit
    rw [hab] at hfx
    obtain ⟨o', ho', _, _, hmv, hlo', hhi'⟩ := hfit_get hfx
    rw [ho] at ho'
    simp only [Option.some.injEq] at ho'
    subst ho'
    have hxm : x.2.2.2 = true := hmv.trans hmo
    have hhi2 := hhi' hxm
    -- it is the next one
    have hrest : ∃ r, rest = x :: r := by
      have hx : x ∈ pre ++ rest := by rw [← e1, hab]; simp
      rcases List.mem_append.1 hx with hx | hx
      · exfalso
        obtain ⟨p1, p2, hp⟩ := List.append_of_mem hx
        have hfx2 := hfit
        rw [e1, hp, List.append_assoc, List.cons_append] at hfx2
        obtain ⟨_, _, _, _, _, hlo2, _⟩ := hfit_get hfx2
        rw [hp, hcmov_append] at e2
        obtain ⟨zi, za, ze, zm⟩ := x
        simp only at hxm
        subst hxm
        simp only [hcmov] at e2
        simp only at hlo2 hlo' hlo hhi hhi2
        omega
      · obtain ⟨r1, r2, hr⟩ := List.append_of_mem hx
        rcases e3 with e3 | ⟨y, r, e3, hy⟩
        · rw [e3] at hx; simp at hx
        · have hfx2 := hfit
          rw [e1, hr, ← List.append_assoc] at hfx2
          obtain ⟨_, _, _, _, _, hlo2, _⟩ := hfit_get hfx2
          rw [hcmov_append] at hlo2
          cases r1 with
          | nil => exact ⟨r2, by simpa using hr⟩
          | cons z r1 =>
            exfalso
            rw [e3, List.cons_append] at hr
            simp only [List.cons.injEq] at hr
            obtain ⟨rfl, _⟩ := hr
            obtain ⟨zi, za, ze, zm⟩ := y
            simp only at hy
            subst hy
            simp only [hcmov] at hlo2
            omega
    obtain ⟨r, rfl⟩ := hrest
    have hfx2 := hfit
    rw [e1] at hfx2
    have hnd2 := hnd
    rw [e1] at hnd2
    obtain ⟨_, ho2, hav, hex, _, _, hhi3⟩ := hfit_get hfx2
    have hhi4 := hhi3 hxm
    rw [Nat.zero_add] at hhi4
    have hne := hnodup_get hnd2
    have hnone : getF A x.1 = none := by
      cases hg : getF A x.1 with
      | none => rfl
      | some v => obtain ⟨y, hy, e⟩ := st.dom _ v hg; exact absurd e (hne y hy)
    have hil : x.1 < ops.toList.length := (List.getElem?_eq_some_iff.1 ho).1
    have hgo := st.go
    obtain ⟨i, av, ex, mv⟩ := x
    simp only at hxm hav hex ho hnone hne hil
    subst hxm hav hex
    simp only [hops] at hgo
    obtain ⟨o', ho', hgo⟩ := hgo.out
    rw [ho] at ho'
    simp only [Option.some.injEq] at ho'
    subst ho'
    obtain ⟨hp, hgo⟩ := bringA_to (m := ops.toList.length) pairs_lt hgo
    rw [← envOf_eq] at hgo
    have fin : ∀ (v : Value) (H' : Heap), (outOf GR i = true → Grow K H') → hops P ops.toList F (endsOf ops.toList) Q GR r ((i, v) :: A) H' →
        ∃ V', R (k + 1) V' H' ∧ V'.getD i undef = v ∧ ∀ (j : Nat), j < ops.size → loOf ops.toList (masks ops.toList) j ≤ k → j ≠ i → V'.getD j undef = (VA A ops.toList.length).getD j undef := by
      intro v H' g hg
      have tr : ∀ y ∈ pre, ∀ o1, ops.toList[y.1]? = some o1 → isMover o1 = false → hcmov (pre ++ [(i, pairsOf ops.toList (masks ops.toList) i, exOf ops.toList (masks ops.toList) i, true)]) ≤ hiOf ops.toList (masks ops.toList) y.1 → FH P ops.toList (masks ops.toList) F A y.1 o1 H' := by
        intro y hy o1 ho1 hm1 hh1
        rw [hcmov_append] at hh1
        simp only [hcmov] at hh1
        have hf1 := st.facts y hy o1 ho1 hm1 (by omega)
        cases hgr : outOf GR i with
        | true => exact hf1.grow (g hgr)
        | false =>
          have hst' := hst
          simp only [staysB, List.all_eq_true] at hst'
          have h2 := hst' i (mem_movers.2 ⟨o, ho, hmo⟩)
          simp only [hgr, Bool.false_or, List.all_eq_true] at h2
          have h3 := h2 y.1 (List.mem_range.2 (List.getElem?_eq_some_iff.1 ho1).1)
          simp only [ho1, hm1, Bool.false_or, Bool.or_eq_true, Bool.not_eq_true', Bool.and_eq_false_iff] at h3
          rcases h3 with h3 | h3
          · exact hf1.pure h3
          · exfalso
            obtain ⟨p1, p2, hp⟩ := List.append_of_mem hy
            have hfx3 := hfit
            rw [e1, hp, List.append_assoc, List.cons_append] at hfx3
            obtain ⟨_, _, _, _, _, hlo3, _⟩ := hfit_get hfx3
            simp only at hhi4
            rcases h3 with h3 | h3
            · have : ¬ (loOf ops.toList (masks ops.toList) y.1 ≤ hiOf ops.toList (masks ops.toList) i) := fun hle => by rw [Nat.ble_eq_true_of_le hle] at h3; simp at h3
              rw [hp, hcmov_append] at hhi4
              omega
            · have : ¬ (hiOf ops.toList (masks ops.toList) i + 1 ≤ hiOf ops.toList (masks ops.toList) y.1) := fun hle => by rw [Nat.ble_eq_true_of_le hle] at h3; simp at h3
              omega
      have hnew : SH P ops.toList (masks ops.toList) F (endsOf ops.toList) Q GR (pre ++ [(i, pairsOf ops.toList (masks ops.toList) i, exOf ops.toList (masks ops.toList) i, true)]) r ((i, v) :: A) H' := by
        refine ⟨fun j u hj => ?_, fun y hy o1 ho1 hm1 hh1 => ?_, hg⟩
        · simp only [getF] at hj
          split at hj
          · rename_i e; have := Nat.eq_of_beq_eq_true e; subst this; exact ⟨_, List.mem_append_right _ (List.mem_singleton.2 rfl), rfl⟩
          · obtain ⟨y, hy, e⟩ := st.dom j u hj; exact ⟨y, List.mem_append_left _ hy, e⟩
        · rcases List.mem_append.1 hy with hy | hy
          · exact (tr y hy o1 ho1 hm1 hh1).add (List.getElem?_eq_some_iff.1 ho1).1 hnone
          · rw [List.mem_singleton] at hy
            subst hy
            simp only at ho1
            rw [ho] at ho1
            simp only [Option.some.injEq] at ho1
            subst ho1
            rw [hmo] at hm1
            simp at hm1
      obtain ⟨pre', rest', A', f1, f2, f3, f4, f5⟩ := hnew.floats (by simpa using hfx2) (by simpa using hnd2)
      refine ⟨_, ⟨A', pre', rest', rfl, by rw [e1, ← f1]; simp, by rw [f2, hcmov_append, e2]; simp [hcmov], f3, f4⟩, ?_, fun j hj hloj hji => ?_⟩
      · rw [VA_get hil, f5 i ⟨_, List.mem_append_right _ (List.mem_singleton.2 rfl), rfl⟩]
        simp [getF]
      · have hjl : j < ops.toList.length := by simpa using hj
        rw [VA_get hjl, VA_get hjl]
        -- j stands ahead
        obtain ⟨a2, b2, x2, hab2, rfl⟩ := place j hjl
        have hin : x2 ∈ pre := by
          have hx : x2 ∈ pre ++ (i, pairsOf ops.toList (masks ops.toList) i, exOf ops.toList (masks ops.toList) i, true) :: r := by rw [← e1, hab2]; simp
          rcases List.mem_append.1 hx with hx | hx
          · exact hx
          · exfalso
            rcases List.mem_cons.1 hx with rfl | hx
            · exact hji rfl
            · obtain ⟨r1, r2, hr⟩ := List.append_of_mem hx
              have hfx3 := hfit
              rw [e1, hr, ← List.cons_append, ← List.append_assoc] at hfx3
              obtain ⟨_, _, _, _, _, hlo2, _⟩ := hfit_get hfx3
              rw [hcmov_append] at hlo2
              simp only [hcmov] at hlo2
              omega
        rw [f5 x2.1 ⟨x2, List.mem_append_left _ hin, rfl⟩]
        simp only [getF]
        split
        · rename_i e; exact absurd (Nat.eq_of_beq_eq_true e).symm hji
        · rfl
    rcases wantK_iff (show wantK ops.toList _ o.guard _ _ from hgo) with ⟨hgo, hw⟩ | ⟨hgo, hw⟩
    · refine hw _ _ (boper_mono (K := fun v H' => hkeep GR i true K H' (hops P ops.toList F (endsOf ops.toList) Q GR r ((i, v) :: A) H')) hgo fun v H' hk => ?_)
      cases hgr : outOf GR i with
      | true => simp only [hkeep, hgr] at hk; exact fin v H' (fun _ => hk.g) hk.x
      | false => simp only [hkeep, hgr] at hk; exact fin v H' (fun h => by rw [hgr] at h; simp at h) hk
    · exact hw _ _ (fin undef K (fun _ => .refl _) hgo)
  · -- the end
    rintro V K ⟨A, pre, rest, rfl, e1, e2, e3, st⟩
    have hr : rest = [] := by
      rcases e3 with e3 | ⟨y, r, e3, hy⟩
      · exact e3
      · exfalso
        rw [e1, hcmov_append, e3, e2] at hnm'
        obtain ⟨zi, za, ze, zm⟩ := y
        simp only at hy
        subst hy
        simp only [hcmov] at hnm'
        omega
    have hgo := st.go
    rw [hr] at hgo
    simp only [hops] at hgo
    obtain ⟨_, hgo⟩ := bringA_to (m := ops.toList.length) ends_lt hgo
    rw [endOf_eq]
    exact hgo
end Go.Proofs.Ytfobbmllbbckkaa.Ax
/- The abstract machine: strings gone through by runes; lists appended to one's own rows. -/
set_option linter.unusedVariables false
set_option linter.unusedSimpArgs false
namespace Go.Proofs.Ytfobbmllbbckkaa.Ax
open Go Go.RowKit
theorem Ob2.range {P : Program} {t : TypeId} {s : ByteArray} {H : Heap} {K : Value → Heap → Prop} (ht : P.underlying t = some .string)
    (k : ∀ q H', q = H.length → H'[q]? = some (.iter s 0) → Grow H H' → K (.pointer (some ⟨q, 0, none⟩)) H') : Ob2 (arange P t (.string s) H) K :=
  .of (a := .pointer (some ⟨H.length, 0, none⟩)) (b := H ++ [.iter s 0]) (by simp [arange, ht]) (k _ _ rfl (at_push _ _) (.push _ _))
theorem Ob2.next {b pos r w : Nat} {s : ByteArray} {H : Heap} {K : Value → Heap → Prop} (hb : H[b]? = some (.iter s pos)) (h : pos < s.size) (hd : Utf8.decode s pos = (r, w))
    (k : ∀ H', H'[b]? = some (.iter s (pos + w)) → But b H H' → H'.length = H.length → K (.tuple #[.bool true, .int .i64 (pos : Int), .int .i32 (r : Int)]) H') : Ob2 (anext (.pointer (some ⟨b, 0, none⟩)) true H) K :=
  .of (a := .tuple #[.bool true, .int .i64 pos, .int .i32 r]) (b := H.set b (.iter s (pos + w))) (by simp [anext, hb, h, hd]) (k _ (at_set hb) (.set _ _) (by simp))
theorem Ob2.nextEnd {b pos : Nat} {s : ByteArray} {H : Heap} {K : Value → Heap → Prop} (hb : H[b]? = some (.iter s pos)) (h : ¬ pos < s.size)
    (k : K (.tuple #[.bool false]) H) : Ob2 (anext (.pointer (some ⟨b, 0, none⟩)) true H) K :=
  .of (a := .tuple #[.bool false]) (b := H) (by simp [anext, hb, h]) k
theorem dec_ascii {s : ByteArray} {i n : Nat} (h : s.data[i]?.map UInt8.toNat = some n) (hn : n < 128) : Utf8.decode s i = (n, 1) := by
  have hg : (s.get! i).toNat = n := by
    cases hx : s.data[i]? with
    | none => rw [hx] at h; simp at h
    | some x =>
      rw [hx] at h
      simp only [Option.map_some, Option.some.injEq] at h
      rw [← h]
      show (s.data[i]!).toNat = _
      rw [getElem!_def, hx]
  simp [Utf8.decode, hg, hn]
/-- A list that lies in a row, as a source. -/
theorem RL.src {α : Type} {k : Nat} {f : Heap → List Value → α → Prop} {H : Heap} {sv : Value} {M : List α} (h0 : k ≠ 0) (h : RL k f H sv M) : srcOk sv k = true ∧ ∃ l, asrc k sv H = some (M.length, l) ∧ l.length = M.length * k ∧ ∀ (i : Nat) x, M[i]? = some x → ∃ w, slotsOf l (i * k) k = some w ∧ f H w x := by
  rcases h with ⟨rfl, rfl⟩ | ⟨b, rfl, rfl | ⟨m, c, h2, h3⟩⟩
  · exact ⟨by simp [srcOk], [], by simp [asrc], by simp, fun i x hx => by simp at hx⟩
  · exact ⟨by simp [srcOk], [], src_zero rfl, by simp, fun i x hx => by simp at hx⟩
  · refine ⟨by simp [srcOk], ?_⟩
    by_cases hM : M.length = 0
    · have : M = [] := List.length_eq_zero_iff.1 hM
      subst this
      exact ⟨[], src_zero rfl, by simp, fun i x hx => by simp at hx⟩
    · have hlen : M.length * k ≤ c.length := by
        obtain ⟨x, hx⟩ : ∃ x, M[M.length - 1]? = some x := ⟨_, List.getElem?_eq_getElem (by omega)⟩
        obtain ⟨w, hw, _⟩ := h3 _ x hx
        unfold slotsOf at hw
        split at hw
        · rename_i hle
          have : M.length * k = (M.length - 1) * k + k := by rw [← Nat.succ_mul]; congr 1; omega
          omega
        · simp at hw
      refine ⟨c.take (M.length * k), src_some (off := 0) hM (hblk_of h2) (by rw [slots_of (by omega), List.drop_zero]), by rw [List.length_take]; omega, fun i x hx => ?_⟩
      obtain ⟨w, hw, hf⟩ := h3 i x hx
      refine ⟨w, ?_, hf⟩
      have hi : i * k + k ≤ M.length * k := by rw [← Nat.succ_mul]; exact Nat.mul_le_mul_right _ (lt_of_get hx)
      rw [slots_of (by omega)] at hw
      rw [slots_of (by rw [List.length_take]; omega), ← hw]
      congr 1
      apply List.ext_getElem?
      intro j
      rw [List.getElem?_take, List.getElem?_take, List.getElem?_drop, List.getElem?_drop, List.getElem?_take]
      by_cases hj : j < k
      · rw [if_pos hj, if_pos hj, if_pos (by omega)]
      · rw [if_neg hj, if_neg hj]
/-- A list appended. -/
theorem OwnR.appendL {α : Type} {P : Program} {t tx e : TypeId} {k n : Nat} (ok : RowOK P t e k) (okx : RowOK P tx e k) {f : Heap → List Value → α → Prop} {H : Heap} {sv xv : Value} {L M : List α} (h : OwnR k e f H sv L)
    (hx : RL k f H xv M) (hsv : ∀ b, blkIs sv b → n ≤ b) (hn : n ≤ H.length) (hL : L.length + M.length ≤ 1000000) (hf : ∀ A B, FrR n e A B → ∀ l x, f A l x → f B l x) :
    ∃ sv' H', aappend P t tx sv xv H = some (sv', H') ∧ OwnR k e f H' sv' (L ++ M) ∧ FrR n e H H' ∧ (∀ b, blkIs sv' b → n ≤ b) := by
  obtain ⟨he, ⟨i, hi, hk, hby⟩, ⟨d, hd, hni⟩, h0, ⟨z, hz, hzl⟩⟩ := ok
  obtain ⟨_, _, ⟨dx, hdx, hnx⟩, _, _⟩ := okx
  obtain ⟨hsrc, l, hl, hll, hle⟩ := hx.src h0
  by_cases hM : M.length = 0
  · have : M = [] := List.length_eq_zero_iff.1 hM
    subst this
    refine ⟨sv, H, ?_, by rw [List.append_nil]; exact h, .refl _ _ _, hsv⟩
    have hl0 : asrc k xv H = some (0, l) := by simpa using hl
    rcases h with ⟨rfl, rfl⟩ | ⟨b, c, rfl, h2, h3, h4⟩
    · exact append_zero he hi hk hdx hnx h0 hsrc hz hzl hl0 (.inl ⟨rfl, rfl, rfl⟩)
    · exact append_zero he hi hk hdx hnx h0 hsrc hz hzl hl0 (.inr ⟨_, _, rfl⟩)
  · have bnd : ∀ m, m ≤ 1000000 → m * i.bytes ≤ 140737488355328 := fun m hm => by
      have : m * i.bytes ≤ 1000000 * 4096 := Nat.mul_le_mul hm hby
      omega
    rcases h with ⟨rfl, rfl⟩ | ⟨b, c, rfl, h2, h3, h4⟩
    · refine ⟨_, _, append_nil he hi hk hdx hnx h0 hsrc hz hzl hl hM (bnd _ (by omega)) (by unfold maxLen; omega), .inr ⟨H.length, l, by simp, at_push _ _, by simpa using hll, fun j x hj => ?_⟩, .of (.push _ _), fun b hb => ?_⟩
      · obtain ⟨w, h5, h6⟩ := hle j x (by simpa using hj)
        exact ⟨w, h5, hf _ _ (.of (.push _ _)) _ _ h6⟩
      · obtain ⟨_, _, e⟩ := hb
        simp only [Value.slice.injEq, Option.some.injEq, Addr.mk.injEq] at e
        omega
    · have hold : slotsOf c 0 (L.length * k) = some c := by rw [slots_of (by omega), List.drop_zero, List.take_of_length_le (by omega)]
      have hfr : FrR n e H (H.set b .dead ++ [.cells (.row e) (c ++ l)]) := by
        refine ⟨by simp, fun q X hq hX => ?_⟩
        have hqb : q ≠ b := by
          rintro rfl
          rcases hX with hX | hX
          · have := hsv q ⟨_, _, rfl⟩; omega
          · rw [h2] at hq; simp only [Option.some.injEq] at hq; exact hX c hq.symm
        rw [List.getElem?_append_left (by simpa using lt_at hq), List.getElem?_set_ne (by omega)]
        exact hq
      refine ⟨_, _, append_row he hi hk hdx hnx h0 hsrc hz hzl hl hM h2 hold (bnd _ (by omega)) (by unfold maxLen; omega), .inr ⟨H.length, c ++ l, by rw [List.length_append], ?_, by rw [List.length_append, List.length_append, h3, hll, Nat.add_mul], fun j x hj => ?_⟩, hfr, fun b' hb' => ?_⟩
      · rw [List.getElem?_append_right (by simp), List.length_set, Nat.sub_self]; rfl
      · by_cases hjl : j < L.length
        · rw [List.getElem?_append_left hjl] at hj
          obtain ⟨w, k1, k2⟩ := h4 j x hj
          refine ⟨w, ?_, hf _ _ hfr _ _ k2⟩
          have hle' : j * k + k ≤ c.length := by rw [h3, ← Nat.succ_mul]; exact Nat.mul_le_mul_right _ hjl
          rw [slots_of hle'] at k1
          rw [slots_of (by rw [List.length_append]; omega), ← k1, List.drop_append_of_le_length (by omega), List.take_append_of_le_length (by rw [List.length_drop]; omega)]
        · rw [List.getElem?_append_right (by omega)] at hj
          obtain ⟨w, k1, k2⟩ := hle _ x hj
          refine ⟨w, ?_, hf _ _ hfr _ _ k2⟩
          have hjm := lt_of_get hj
          have e1 : j * k = c.length + (j - L.length) * k := by rw [h3, ← Nat.add_mul]; congr 1; omega
          have hle' : (j - L.length) * k + k ≤ l.length := by rw [hll, ← Nat.succ_mul]; exact Nat.mul_le_mul_right _ hjm
          rw [slots_of hle'] at k1
          rw [slots_of (by rw [List.length_append]; omega), ← k1, e1, List.drop_append]
          have e2 : c.length + (j - L.length) * k - c.length = (j - L.length) * k := by omega
          rw [List.drop_of_length_le (by omega), e2, List.nil_append]
      · obtain ⟨_, _, e⟩ := hb'
        simp only [Value.slice.injEq, Option.some.injEq, Addr.mk.injEq] at e
        omega
end Go.Proofs.Ytfobbmllbbckkaa.Ax
/- The abstract machine: a region whose order is open, told by what is known of each operation's value; whatever is new may come in any order; the last operation comes behind all. -/
set_option linter.unusedVariables false
set_option linter.unusedSimpArgs false
namespace Go.Proofs.Ytfobbmllbbckkaa.Ax
open Go Go.RowKit
theorem mem_pairsOf {ops : List Oper} {ms : List Nat} {i d k : Nat} (h : (d, k) ∈ pairsOf ops ms i) : ahead ms i k = true := by
  unfold pairsOf at h
  rw [List.mem_filterMap] at h
  obtain ⟨y, hy, h⟩ := h
  split at h
  · split at h
    · rename_i hh
      simp only [Option.some.injEq, Prod.mk.injEq] at h
      obtain ⟨_, rfl⟩ := h
      exact hh
    · simp at h
  · simp at h
theorem masksFrom_len : ∀ (os : List Oper) (acc : List Nat), (masksFrom acc os).length = acc.length + os.length := by
  intro os
  induction os with
  | nil => intro acc; simp [masksFrom]
  | cons o os ih => intro acc; rw [masksFrom, ih]; simp; omega
theorem ahead_lt {ops : List Oper} {i j : Nat} (h : ahead (masks ops) i j = true) : i < ops.length := by
  refine Decidable.byContradiction fun hn => ?_
  have hz : (masks ops).getD i 0 = 0 := by
    rw [List.getD_eq_getElem?_getD, List.getElem?_eq_none (by unfold masks; rw [masksFrom_len]; simp; omega)]; rfl
  unfold ahead at h
  rw [hz] at h
  simp at h
theorem ahead_small {ms : List Nat} {N i j : Nat} (hms : ∀ m ∈ ms, Nat.blt m (2 ^ N) = true) (h : ahead ms i j = true) : j < N := by
  refine Decidable.byContradiction fun hn => ?_
  unfold ahead at h
  have hlt : ms.getD i 0 < 2 ^ j := by
    have h2 : 2 ^ N ≤ 2 ^ j := Nat.pow_le_pow_right (by decide) (by omega)
    rw [List.getD_eq_getElem?_getD]
    cases hx : ms[i]? with
    | none => simp only [Option.getD_none]; exact Nat.two_pow_pos j
    | some m =>
      have := hms m (List.mem_of_getElem? hx)
      rw [Nat.blt_eq] at this
      simp only [Option.getD_some]
      omega
  rw [Nat.testBit_lt_two_pow hlt] at h
  simp at h
theorem SW.drawP {P : Program} {n : Nat} {id : Nat} {ops : Array Oper} {Q : BPost} {fr : Fr} {H : Heap} (N : Nat) (T : Nat → Fr → Value → Heap → Prop) (hm : P.follows .mixedOrders = true)
    (hok : (drawOK2 n ops.toList && Nat.beq ops.size (N + 1) && ((List.range N).all fun j => ahead (masks ops.toList) N j) && (masks ops.toList).all fun m => Nat.blt m (2 ^ N)) = true)
    (mono : ∀ i F v K K', T i F v K → Grow K K' → T i F v K')
    (step : ∀ (i : Nat) (o : Oper) (V : List Value) (K : Heap), i < N → ops.toList[i]? = some o → Grow H K →
      (∀ j, ahead (masks ops.toList) i j = true → T j (valsOf V (pairsOf ops.toList (masks ops.toList) j) []) (V.getD j undef) K) →
      wantK ops.toList (envOf ops.toList (masks ops.toList) V fr i) o.guard
        (boper P o (envOf ops.toList (masks ops.toList) V fr i) K fun v H' => Grow K H' ∧ T i (valsOf V (pairsOf ops.toList (masks ops.toList) i) []) v H')
        (T i (valsOf V (pairsOf ops.toList (masks ops.toList) i) []) undef K))
    (last : ∀ (o : Oper) (V : List Value) (K : Heap), V.length = N + 1 → ops.toList[N]? = some o → Grow H K →
      (∀ j, j < N → T j (valsOf V (pairsOf ops.toList (masks ops.toList) j) []) (V.getD j undef) K) →
      wantK ops.toList (envOf ops.toList (masks ops.toList) V fr N) o.guard
        (boper P o (envOf ops.toList (masks ops.toList) V fr N) K fun v H' => Q .normal (endOf ops.toList (V.set N v) fr) H')
        (Q .normal (endOf ops.toList (V.set N undef) fr) K)) : SW P n (.region id ops true) Q fr H := by
  simp only [Bool.and_eq_true, List.all_eq_true, List.mem_range] at hok
  obtain ⟨⟨⟨hok, hsz⟩, hlast⟩, hms⟩ := hok
  have hsz := Nat.eq_of_beq_eq_true hsz
  refine SW.drawS (fun L V K => V.length = N + 1 ∧ (L N = false → Grow H K ∧ ∀ j, j < N → L j = true → T j (valsOf V (pairsOf ops.toList (masks ops.toList) j) []) (V.getD j undef) K) ∧ (L N = true → Q .normal (endOf ops.toList V fr) K)) hm hok
    ⟨List.replicate (N + 1) undef, by simp, fun _ => ⟨.refl _, fun j _ h => by simp at h⟩, fun h => by simp at h⟩ ?_ ?_
  · rintro i o L V K ho hl hah hbh ⟨hV, hR, _⟩
    have hi : i < N + 1 := by have := (List.getElem?_eq_some_iff.1 ho).1; simp at this; omega
    have hk : ∀ {X Y X' Y' : Prop}, (X → X') → (Y → Y') → wantK ops.toList (envOf ops.toList (masks ops.toList) V fr i) o.guard X Y → wantK ops.toList (envOf ops.toList (masks ops.toList) V fr i) o.guard X' Y' := by
      intro X Y X' Y' hX hY h
      unfold wantK at h ⊢
      split
      · rename_i hg; rw [hg] at h; exact hX h
      · rename_i j want hg
        rw [hg] at h
        simp only at h
        split
        · rename_i d hd
          rw [hd] at h
          obtain ⟨v, hv, h⟩ := getK_iff.1 h
          refine getK_iff.2 ⟨v, hv, ?_⟩
          split
          · simp only at h
            split
            · rcases h.out with ⟨rfl, h⟩ | ⟨rfl, h⟩
              · exact hX h
              · exact hY h
            · rcases h.out with ⟨rfl, h⟩ | ⟨rfl, h⟩
              · exact hY h
              · exact hX h
          · exact hY (by simpa using h)
        · rename_i hd
          rw [hd] at h
          exact hY h
    have set_same : ∀ v j, L j = true → (V.set i v).getD j undef = V.getD j undef := fun v j hj => by
      rw [getD_set (by omega), if_neg (fun e => by subst e; rw [hl] at hj; simp at hj)]
    have set_vals : ∀ v j, L j = true → valsOf (V.set i v) (pairsOf ops.toList (masks ops.toList) j) [] = valsOf V (pairsOf ops.toList (masks ops.toList) j) [] := fun v j hj =>
      valsOf_congr fun ⟨d, k⟩ hk => by
        have := mem_pairsOf hk
        show (V.set i v).getD k undef = V.getD k undef
        rw [getD_set (by omega), if_neg]
        rintro rfl
        have hjs : j < ops.size := by have := ahead_lt this; simpa using this
        rw [hbh j hjs this] at hj
        simp at hj
    have set_own : ∀ v, valsOf (V.set i v) (pairsOf ops.toList (masks ops.toList) i) [] = valsOf V (pairsOf ops.toList (masks ops.toList) i) [] := fun v =>
      valsOf_congr fun ⟨d, k⟩ hk => set_same v k (hah k (mem_pairsOf hk))
    by_cases hiN : i = N
    · subst hiN
      obtain ⟨hg, hT⟩ := hR hl
      have := last o V K hV ho hg fun j hj => hT j hj (hah j (hlast j hj))
      refine hk (fun h => boper_mono h fun v H' q => ⟨V.set i v, ⟨by simpa using hV, fun h => by simp at h, fun _ => q⟩, by rw [getD_set (by omega), if_pos rfl], fun j _ hj => set_same v j hj⟩)
        (fun q => ⟨V.set i undef, ⟨by simpa using hV, fun h => by simp at h, fun _ => q⟩, by rw [getD_set (by omega), if_pos rfl], fun j _ hj => set_same undef j hj⟩) this
    · have hlN : L N = false := hbh N (by omega) (hlast i (by omega))
      obtain ⟨hg, hT⟩ := hR hlN
      have hstep := step i o V K (by omega) ho hg fun j hj => hT j (ahead_small hms hj) (hah j hj)
      have fin : ∀ v H', Grow K H' → T i (valsOf V (pairsOf ops.toList (masks ops.toList) i) []) v H' → ∃ V', (V'.length = N + 1 ∧ ((L N || decide (N = i)) = false → Grow H H' ∧ ∀ j, j < N → (L j || decide (j = i)) = true → T j (valsOf V' (pairsOf ops.toList (masks ops.toList) j) []) (V'.getD j undef) H') ∧ ((L N || decide (N = i)) = true → Q .normal (endOf ops.toList V' fr) H')) ∧
          V'.getD i undef = v ∧ ∀ (j : Nat), j < ops.size → L j = true → V'.getD j undef = V.getD j undef := fun v H' g t => by
        refine ⟨V.set i v, ⟨by simpa using hV, fun _ => ⟨hg.trans g, fun j hj hL => ?_⟩, fun h => by simp [hlN, Ne.symm hiN] at h⟩, by rw [getD_set (by omega), if_pos rfl], fun j _ hj => set_same v j hj⟩
        by_cases e : j = i
        · subst e
          rw [set_own, getD_set (by omega), if_pos rfl]
          exact t
        · have hL' : L j = true := by simpa [e] using hL
          rw [set_vals v j hL', set_same v j hL']
          exact mono _ _ _ _ _ (hT j hj hL') g
      exact hk (fun h => boper_mono h fun v H' q => fin v H' q.1 q.2) (fun q => fin undef K (.refl _) q) hstep
  · rintro V H' ⟨_, _, h⟩
    exact h (by simp [hsz])
end Go.Proofs.Ytfobbmllbbckkaa.Ax
/- The abstract machine: a region whose order is open, told by what is known of each operation's value while it is kept: an operation may use up what an earlier one has laid. -/
set_option linter.unusedVariables false
set_option linter.unusedSimpArgs false
namespace Go.Proofs.Ytfobbmllbbckkaa.Ax
open Go Go.RowKit
/-- What operation i keeps: what may be there already, and is not used up by it. -/
def keepD (ms : List Nat) (D : Nat → Nat → Bool) (i k : Nat) : Bool := !ahead ms k i && !Nat.beq k i && !D i k
/-- What operation j may ask for: what is ahead of it, and is used up by none but itself, or one that comes later. -/
def needD (ms : List Nat) (N : Nat) (D : Nat → Nat → Bool) (j k : Nat) : Bool := ahead ms j k && (List.range N).all fun i => !D i k || Nat.beq i j || ahead ms i j
theorem SW.drawD {P : Program} {n : Nat} {id : Nat} {ops : Array Oper} {Q : BPost} {fr : Fr} {H : Heap} (N : Nat) (T : Nat → Fr → Value → Heap → Prop) (D : Nat → Nat → Bool) (hm : P.follows .mixedOrders = true)
    (hok : (drawOK2 n ops.toList && Nat.beq ops.size (N + 1) && ((List.range N).all fun j => ahead (masks ops.toList) N j) && (masks ops.toList).all fun m => Nat.blt m (2 ^ N)) = true)
    (step : ∀ (i : Nat) (o : Oper) (V : List Value) (K : Heap), i < N → ops.toList[i]? = some o → Grow H K →
      (∀ j, needD (masks ops.toList) N D i j = true → T j (valsOf V (pairsOf ops.toList (masks ops.toList) j) []) (V.getD j undef) K) →
      wantK ops.toList (envOf ops.toList (masks ops.toList) V fr i) o.guard
        (boper P o (envOf ops.toList (masks ops.toList) V fr i) K fun v H' => Grow H H' ∧ T i (valsOf V (pairsOf ops.toList (masks ops.toList) i) []) v H' ∧ ∀ k F v, keepD (masks ops.toList) D i k = true → T k F v K → T k F v H')
        (T i (valsOf V (pairsOf ops.toList (masks ops.toList) i) []) undef K))
    (last : ∀ (o : Oper) (V : List Value) (K : Heap), V.length = N + 1 → ops.toList[N]? = some o → Grow H K →
      (∀ j, j < N → ((List.range N).all fun i => !D i j) = true → T j (valsOf V (pairsOf ops.toList (masks ops.toList) j) []) (V.getD j undef) K) →
      wantK ops.toList (envOf ops.toList (masks ops.toList) V fr N) o.guard
        (boper P o (envOf ops.toList (masks ops.toList) V fr N) K fun v H' => Q .normal (endOf ops.toList (V.set N v) fr) H')
        (Q .normal (endOf ops.toList (V.set N undef) fr) K)) : SW P n (.region id ops true) Q fr H := by
  simp only [Bool.and_eq_true, List.all_eq_true, List.mem_range] at hok
  obtain ⟨⟨⟨hok, hsz⟩, hlast⟩, hms⟩ := hok
  have hsz := Nat.eq_of_beq_eq_true hsz
  refine SW.drawS (fun L V K => V.length = N + 1 ∧ (L N = false → Grow H K ∧ ∀ j, j < N → L j = true → (∀ i, i < N → D i j = true → L i = false) → T j (valsOf V (pairsOf ops.toList (masks ops.toList) j) []) (V.getD j undef) K) ∧ (L N = true → Q .normal (endOf ops.toList V fr) K)) hm hok
    ⟨List.replicate (N + 1) undef, by simp, fun _ => ⟨.refl _, fun j _ h => by simp at h⟩, fun h => by simp at h⟩ ?_ ?_
  · rintro i o L V K ho hl hah hbh ⟨hV, hR, _⟩
    have hi : i < N + 1 := by have := (List.getElem?_eq_some_iff.1 ho).1; simp at this; omega
    have hk : ∀ {X Y X' Y' : Prop}, (X → X') → (Y → Y') → wantK ops.toList (envOf ops.toList (masks ops.toList) V fr i) o.guard X Y → wantK ops.toList (envOf ops.toList (masks ops.toList) V fr i) o.guard X' Y' := by
      intro X Y X' Y' hX hY h
      unfold wantK at h ⊢
      split
      · rename_i hg; rw [hg] at h; exact hX h
      · rename_i j want hg
        rw [hg] at h
        simp only at h
        split
        · rename_i d hd
          rw [hd] at h
          obtain ⟨v, hv, h⟩ := getK_iff.1 h
          refine getK_iff.2 ⟨v, hv, ?_⟩
          split
          · simp only at h
            split
            · rcases h.out with ⟨rfl, h⟩ | ⟨rfl, h⟩
              · exact hX h
              · exact hY h
            · rcases h.out with ⟨rfl, h⟩ | ⟨rfl, h⟩
              · exact hY h
              · exact hX h
          · exact hY (by simpa using h)
        · rename_i hd
          rw [hd] at h
          exact hY h
    have set_same : ∀ v j, L j = true → (V.set i v).getD j undef = V.getD j undef := fun v j hj => by
      rw [getD_set (by omega), if_neg (fun e => by subst e; rw [hl] at hj; simp at hj)]
    have set_vals : ∀ v j, L j = true → valsOf (V.set i v) (pairsOf ops.toList (masks ops.toList) j) [] = valsOf V (pairsOf ops.toList (masks ops.toList) j) [] := fun v j hj =>
      valsOf_congr fun ⟨d, k⟩ hk => by
        have := mem_pairsOf hk
        show (V.set i v).getD k undef = V.getD k undef
        rw [getD_set (by omega), if_neg]
        rintro rfl
        have hjs : j < ops.size := by have := ahead_lt this; simpa using this
        rw [hbh j hjs this] at hj
        simp at hj
    have set_own : ∀ v, valsOf (V.set i v) (pairsOf ops.toList (masks ops.toList) i) [] = valsOf V (pairsOf ops.toList (masks ops.toList) i) [] := fun v =>
      valsOf_congr fun ⟨d, k⟩ hk => set_same v k (hah k (mem_pairsOf hk))
    by_cases hiN : i = N
    · subst hiN
      obtain ⟨hg, hT⟩ := hR hl
      have hlN : ∀ j, j < i → L j = true := fun j hj => hah j (hlast j hj)
      have := last o V K hV ho hg fun j hj hD => hT j hj (hlN j hj) fun i' hi' hd => by
        rw [List.all_eq_true] at hD
        have := hD i' (List.mem_range.2 hi')
        rw [hd] at this
        simp at this
      refine hk (fun h => boper_mono h fun v H' q => ⟨V.set i v, ⟨by simpa using hV, fun h => by simp at h, fun _ => q⟩, by rw [getD_set (by omega), if_pos rfl], fun j _ hj => set_same v j hj⟩)
        (fun q => ⟨V.set i undef, ⟨by simpa using hV, fun h => by simp at h, fun _ => q⟩, by rw [getD_set (by omega), if_pos rfl], fun j _ hj => set_same undef j hj⟩) this
    · have hlN : L N = false := hbh N (by omega) (hlast i (by omega))
      obtain ⟨hg, hT⟩ := hR hlN
      have hstep := step i o V K (by omega) ho hg fun j hj => by
        unfold needD at hj
        rw [Bool.and_eq_true, List.all_eq_true] at hj
        obtain ⟨hj, hD⟩ := hj
        refine hT j (ahead_small hms hj) (hah j hj) fun i' hi' hd => ?_
        have := hD i' (List.mem_range.2 hi')
        rw [hd] at this
        simp only [Bool.not_true, Bool.false_or, Bool.or_eq_true] at this
        rcases this with h | h
        · rw [Nat.eq_of_beq_eq_true h]; exact hl
        · exact hbh i' (by omega) h
      have fin : ∀ v H', Grow H H' → T i (valsOf V (pairsOf ops.toList (masks ops.toList) i) []) v H' → (∀ k F v, keepD (masks ops.toList) D i k = true → T k F v K → T k F v H') → ∃ V', (V'.length = N + 1 ∧ ((L N || decide (N = i)) = false → Grow H H' ∧ ∀ j, j < N → (L j || decide (j = i)) = true → (∀ i', i' < N → D i' j = true → (L i' || decide (i' = i)) = false) → T j (valsOf V' (pairsOf ops.toList (masks ops.toList) j) []) (V'.getD j undef) H') ∧ ((L N || decide (N = i)) = true → Q .normal (endOf ops.toList V' fr) H')) ∧
          V'.getD i undef = v ∧ ∀ (j : Nat), j < ops.size → L j = true → V'.getD j undef = V.getD j undef := fun v H' g t hkp => by
        refine ⟨V.set i v, ⟨by simpa using hV, fun _ => ⟨g, fun j hj hL hD => ?_⟩, fun h => by simp [hlN, Ne.symm hiN] at h⟩, by rw [getD_set (by omega), if_pos rfl], fun j _ hj => set_same v j hj⟩
        by_cases e : j = i
        · subst e
          rw [set_own, getD_set (by omega), if_pos rfl]
          exact t
        · have hL' : L j = true := by simpa [e] using hL
          rw [set_vals v j hL', set_same v j hL']
          refine hkp j _ _ ?_ (hT j hj hL' fun i' hi' hd => by have := hD i' hi' hd; simp only [Bool.or_eq_false_iff] at this; exact this.1)
          unfold keepD
          have e1 : ahead (masks ops.toList) j i = false := by
            cases ha : ahead (masks ops.toList) j i with
            | false => rfl
            | true => rw [hbh j (by omega) ha] at hL'; simp at hL'
          have e2 : Nat.beq j i = false := by
            cases hb : Nat.beq j i with
            | false => rfl
            | true => exact absurd (Nat.eq_of_beq_eq_true hb) e
          have e3 : D i j = false := by
            cases hd : D i j with
            | false => rfl
            | true => have := hD i (by omega) hd; simp at this
          rw [e1, e2, e3]
          rfl
      exact hk (fun h => boper_mono h fun v H' q => fin v H' q.1 q.2.1 q.2.2) (fun q => fin undef K hg q fun _ _ _ _ h => h) hstep
  · rintro V H' ⟨_, _, h⟩
    exact h (by simp [hsz])
end Go.Proofs.Ytfobbmllbbckkaa.Ax
