/- The abstract machine: a region whose order is open. Each operation's value is told once; each is asked for at every heap at which it may be done. -/
import Derived.Test.YtdlanbfbbopfhaaAx13
import Derived.Orders
set_option linter.unusedVariables false
set_option linter.unusedSimpArgs false
namespace Go.Proofs.Ytdlanbfbbopfhaa.Ax
open Go Go.RowKit

def plainE (e : Edge) : Bool := Region.binds .any e
/-- What must be done ahead of an operation, directly or not: bit by bit. -/
def maskOf (acc : List Nat) : List Edge → Nat
  | [] => 0
  | e :: es => match plainE e with
    | true => Nat.lor (Nat.lor (2 ^ e.on) (acc.getD e.on 0)) (maskOf acc es)
    | false => maskOf acc es
def masksFrom (acc : List Nat) : List Oper → List Nat
  | [] => acc
  | o :: os => masksFrom (acc ++ [maskOf acc o.after.toList]) os
def masks (ops : List Oper) : List Nat := masksFrom [] ops
/-- Is j ahead of i? -/
def ahead (ms : List Nat) (i j : Nat) : Bool := (ms.getD i 0).testBit j

theorem masksFrom_prefix : ∀ (os : List Oper) (acc : List Nat) (i : Nat), i < acc.length → (masksFrom acc os).getD i 0 = acc.getD i 0 := by
  intro os
  induction os with
  | nil => intro acc i h; rfl
  | cons o os ih =>
    intro acc i h
    rw [masksFrom, ih _ i (by simp; omega)]
    simp [List.getD_eq_getElem?_getD, List.getElem?_append_left h]
theorem masksFrom_get : ∀ (os : List Oper) (acc : List Nat) (i : Nat) (o : Oper), os[i]? = some o →
    ∃ acc', acc'.length = acc.length + i ∧ (masksFrom acc os).getD (acc.length + i) 0 = maskOf acc' o.after.toList ∧ ∀ j, j < acc'.length → acc'.getD j 0 = (masksFrom acc os).getD j 0 := by
  intro os
  induction os with
  | nil => intro acc i o h; simp at h
  | cons p os ih =>
    intro acc i o h
    cases i with
    | zero =>
      simp only [List.getElem?_cons_zero, Option.some.injEq] at h
      subst h
      refine ⟨acc, by simp, ?_, fun j hj => ?_⟩
      · rw [Nat.add_zero, masksFrom, masksFrom_prefix _ _ _ (by simp)]
        simp [List.getD_eq_getElem?_getD]
      · rw [masksFrom, masksFrom_prefix _ _ _ (by simp; omega)]
        simp [List.getD_eq_getElem?_getD, List.getElem?_append_left hj]
    | succ i =>
      simp only [List.getElem?_cons_succ] at h
      obtain ⟨acc', h1, h2, h3⟩ := ih (acc ++ [maskOf acc p.after.toList]) i o h
      refine ⟨acc', by rw [h1]; simp; omega, ?_, fun j hj => ?_⟩
      · rw [masksFrom, ← h2]
        congr 1
        simp; omega
      · rw [masksFrom]; exact h3 j hj
theorem maskOf_bit {acc : List Nat} {j : Nat} : ∀ {es : List Edge}, (maskOf acc es).testBit j = true → ∃ e ∈ es, plainE e = true ∧ (e.on = j ∨ (acc.getD e.on 0).testBit j = true) := by
  intro es
  induction es with
  | nil => intro h; simp [maskOf] at h
  | cons e es ih =>
    intro h
    simp only [maskOf] at h
    split at h
    · rename_i hp
      have hh : ((2 ^ e.on ||| acc.getD e.on 0) ||| maskOf acc es).testBit j = true := h
      rw [Nat.testBit_or, Nat.testBit_or, Nat.testBit_two_pow] at hh
      simp only [Bool.or_eq_true, decide_eq_true_eq] at hh
      rcases hh with (h1 | h1) | h1
      · exact ⟨e, List.mem_cons_self .., hp, .inl h1⟩
      · exact ⟨e, List.mem_cons_self .., hp, .inr h1⟩
      · obtain ⟨e', he, h2⟩ := ih h1
        exact ⟨e', List.mem_cons_of_mem _ he, h2⟩
    · obtain ⟨e', he, h2⟩ := ih h
      exact ⟨e', List.mem_cons_of_mem _ he, h2⟩

/-- What is listed has all that is ahead of it. -/
def DownC (ops : List Oper) (L : Nat → Prop) : Prop := ∀ (i : Nat) (o : Oper), ops[i]? = some o → L i → ∀ e ∈ o.after.toList, plainE e = true → L e.on
def backE (ops : List Oper) : Bool := (ops.zipIdx).all fun (o, i) => o.after.toList.all fun e => !plainE e || Nat.blt e.on i
theorem backE_spec {ops : List Oper} (h : backE ops = true) {i : Nat} {o : Oper} (ho : ops[i]? = some o) {e : Edge} (he : e ∈ o.after.toList) (hp : plainE e = true) : e.on < i := by
  unfold backE at h
  rw [List.all_eq_true] at h
  have := h (o, i) (List.mem_zipIdx_iff_getElem?.2 ho)
  rw [List.all_eq_true] at this
  have := this e he
  simpa [hp, Nat.blt_eq] using this
theorem ahead_listed {ops : List Oper} (hb : backE ops = true) {L : Nat → Prop} (hL : DownC ops L) : ∀ (n i j : Nat), i ≤ n → i < ops.length → L i → ahead (masks ops) i j = true → L j := by
  intro n
  induction n with
  | zero =>
    intro i j hi hil hLi h
    obtain rfl : i = 0 := by omega
    obtain ⟨acc', h1, h2, h3⟩ := masksFrom_get ops [] 0 ops[0] (by simp)
    simp only [List.length_nil, Nat.zero_add] at h1 h2
    unfold ahead masks at h
    rw [h2] at h
    obtain ⟨e, he, hp, h4⟩ := maskOf_bit h
    have := backE_spec hb (i := 0) (o := ops[0]) (by simp) he hp
    omega
  | succ n ih =>
    intro i j hi hil hLi h
    obtain ⟨acc', h1, h2, h3⟩ := masksFrom_get ops [] i ops[i] (by simp [hil])
    simp only [List.length_nil, Nat.zero_add] at h1 h2
    unfold ahead masks at h
    rw [h2] at h
    obtain ⟨e, he, hp, h4⟩ := maskOf_bit h
    have hlt := backE_spec hb (i := i) (o := ops[i]) (by simp [hil]) he hp
    have hLe := hL i ops[i] (by simp [hil]) hLi e he hp
    rcases h4 with rfl | h4
    · exact hLe
    · rw [h3 _ (by omega)] at h4
      exact ih e.on j (by omega) (by omega) hLe h4

/-- Which operations change the heap. -/
def isMover (o : Oper) : Bool :=
  match o.op with
  | .move _ | .assign _ | .pick .. | .build .. | .load .. | .nilCheck _ | .binOp .. | .unOp .. | .convert .. | .makeFunc .. | .slice .. | .fieldAddr .. | .field .. | .indexAddr .. | .index .. | .lookup .. | .extract .. => false
  | .call c => match c.callee with | .builtin .len | .builtin .min | .builtin .max | .builtin .unsafeSliceData => false | _ => true
  | _ => true
def movers (ops : List Oper) : List Nat := ((ops.zipIdx).filter fun x => isMover x.1).map (·.2)
def rankOf (ops : List Oper) (i : Nat) : Nat := ((movers ops).filter fun j => Nat.blt j i).length
/-- The first heap, and the last, at which an operation may be done. -/
def loOf (ops : List Oper) (ms : List Nat) (i : Nat) : Nat := ((movers ops).filter fun j => ahead ms i j).length
def hiOf (ops : List Oper) (ms : List Nat) (i : Nat) : Nat := ((movers ops).filter fun j => !(Nat.beq i j || ahead ms j i)).length

def dsts (ops : List Oper) : List (Option Nat) := ops.map (·.dst)
def uniqueD : List (Option Nat) → Bool
  | [] => true
  | none :: r => uniqueD r
  | some d :: r => r.all (fun x => match x with | some d' => !Nat.beq d d' | none => true) && uniqueD r
/-- The movers stand in one order. -/
def chainM (ms : List Nat) : List Nat → Bool
  | [] => true
  | i :: r => r.all (fun j => ahead ms j i) && chainM ms r
def drawOK (n : Nat) (ops : List Oper) : Bool :=
  backE ops && uniqueD (dsts ops) && chainM (masks ops) (movers ops) && ops.all fun o => match o.dst with | some d => Nat.blt d n | none => true

/-- What is known when an operation may be done. -/
def envOf (ops : List Oper) (ms : List Nat) (V : List Value) (fr : Fr) (i : Nat) : Fr :=
  ((ops.zipIdx).filterMap fun y => match y.1.dst with | some d => if ahead ms i y.2 then some (d, V.getD y.2 undef) else none | none => none) ++
  fr.filter fun x => (ops.zipIdx).all fun y => match y.1.dst with | some d => !Nat.beq d x.1 || Nat.beq y.2 i || ahead ms y.2 i | none => true
def endOf (ops : List Oper) (V : List Value) (fr : Fr) : Fr :=
  ((ops.zipIdx).filterMap fun y => match y.1.dst with | some d => some (d, V.getD y.2 undef) | none => none) ++ fr

/-- An operation at a heap. -/
def stepAt (P : Program) (ops : List Oper) (ms : List Nat) (V : List Value) (Hs : List Heap) (fr : Fr) (o : Oper) (i k : Nat) : Prop :=
  wantK ops (envOf ops ms V fr i) o.guard (boper P o (envOf ops ms V fr i) (Hs.getD k []) fun v H' => v = V.getD i undef ∧ H' = Hs.getD (if isMover o then k + 1 else k) []) (V.getD i undef = undef ∧ Hs.getD (if isMover o then k + 1 else k) [] = Hs.getD k [])
def stepsFrom (P : Program) (ops : List Oper) (ms : List Nat) (V : List Value) (Hs : List Heap) (fr : Fr) (o : Oper) (i lo : Nat) : Nat → Prop
  | 0 => stepAt P ops ms V Hs fr o i lo
  | k + 1 => stepAt P ops ms V Hs fr o i (lo + (k + 1)) ∧ stepsFrom P ops ms V Hs fr o i lo k
def allSteps (P : Program) (ops : List Oper) (ms : List Nat) (V : List Value) (Hs : List Heap) (fr : Fr) : List Oper → Nat → Prop
  | [], _ => True
  | o :: os, i => stepsFrom P ops ms V Hs fr o i (loOf ops ms i) (hiOf ops ms i - loOf ops ms i) ∧ allSteps P ops ms V Hs fr os (i + 1)

theorem stepsFrom_get {P : Program} {ops : List Oper} {ms : List Nat} {V : List Value} {Hs : List Heap} {fr : Fr} {o : Oper} {i lo : Nat} : ∀ {m k : Nat}, stepsFrom P ops ms V Hs fr o i lo m → lo ≤ k → k ≤ lo + m → stepAt P ops ms V Hs fr o i k := by
  intro m
  induction m with
  | zero => intro k h h1 h2; have e : k = lo := by omega
            rw [e]; exact h
  | succ m ih =>
    intro k h h1 h2
    by_cases hk : k = lo + (m + 1)
    · subst hk; exact h.1
    · exact ih h.2 h1 (by omega)
theorem allSteps_get {P : Program} {ops : List Oper} {ms : List Nat} {V : List Value} {Hs : List Heap} {fr : Fr} : ∀ {os : List Oper} {b i : Nat} {o : Oper}, allSteps P ops ms V Hs fr os b → os[i]? = some o →
    stepsFrom P ops ms V Hs fr o (b + i) (loOf ops ms (b + i)) (hiOf ops ms (b + i) - loOf ops ms (b + i)) := by
  intro os
  induction os with
  | nil => intro b i o h ho; simp at ho
  | cons p os ih =>
    intro b i o h ho
    cases i with
    | zero => simp only [List.getElem?_cons_zero, Option.some.injEq] at ho; subst ho; exact h.1
    | succ i => simp only [List.getElem?_cons_succ] at ho; have := ih h.2 ho; rwa [show b + 1 + i = b + (i + 1) by omega] at this

theorem getF_mem : ∀ {l : Fr} {t : Nat} {v : Value}, getF l t = some v → (t, v) ∈ l := by
  intro l
  induction l with
  | nil => intro t v h; simp [getF] at h
  | cons p l ih =>
    obtain ⟨i, u⟩ := p
    intro t v h
    simp only [getF] at h
    split at h
    · rename_i e
      have := Nat.eq_of_beq_eq_true e
      subst this
      simp only [Option.some.injEq] at h
      subst h
      exact List.mem_cons_self ..
    · exact List.mem_cons_of_mem _ (ih h)
theorem getF_append {A B : Fr} {t : Nat} {v : Value} (h : getF (A ++ B) t = some v) : (t, v) ∈ A ∨ ((∀ u, (t, u) ∉ A) ∧ getF B t = some v) := by
  induction A with
  | nil => exact .inr ⟨fun u hu => by simp at hu, h⟩
  | cons p A ih =>
    obtain ⟨i, u⟩ := p
    simp only [List.cons_append, getF] at h
    split at h
    · rename_i e
      have := Nat.eq_of_beq_eq_true e
      subst this
      simp only [Option.some.injEq] at h
      subst h
      exact .inl (List.mem_cons_self ..)
    · rename_i e
      have hne := Nat.ne_of_beq_eq_false e
      rcases ih h with h | ⟨h1, h2⟩
      · exact .inl (List.mem_cons_of_mem _ h)
      · refine .inr ⟨fun u' hu' => ?_, h2⟩
        rcases List.mem_cons.1 hu' with hu' | hu'
        · simp only [Prod.mk.injEq] at hu'; exact hne hu'.1.symm
        · exact h1 u' hu'
theorem getF_filter {q : Nat → Bool} : ∀ {l : Fr} {t : Nat} {v : Value}, getF (l.filter fun x => q x.1) t = some v → q t = true ∧ getF l t = some v := by
  intro l
  induction l with
  | nil => intro t v h; simp [getF] at h
  | cons p l ih =>
    obtain ⟨i, u⟩ := p
    intro t v h
    rw [List.filter_cons] at h
    split at h
    · rename_i hq
      simp only [getF] at h ⊢
      split at h
      · rename_i e
        have := Nat.eq_of_beq_eq_true e
        subst this
        exact ⟨hq, h⟩
      · exact ih h
    · rename_i hq
      obtain ⟨h1, h2⟩ := ih h
      refine ⟨h1, ?_⟩
      simp only [getF]
      split
      · rename_i e
        have := Nat.eq_of_beq_eq_true e
        subst this
        exact absurd h1 hq
      · exact h2

theorem uniqueD_spec : ∀ {l : List (Option Nat)}, uniqueD l = true → ∀ {i j d : Nat}, l[i]? = some (some d) → l[j]? = some (some d) → i = j := by
  intro l
  induction l with
  | nil => intro h i j d hi; simp at hi
  | cons x l ih =>
    intro h i j d hi hj
    cases x with
    | none =>
      simp only [uniqueD] at h
      cases i with
      | zero => simp at hi
      | succ i =>
        cases j with
        | zero => simp at hj
        | succ j => have := ih h (i := i) (j := j) (d := d) (by simpa using hi) (by simpa using hj); omega
    | some d0 =>
      simp only [uniqueD, Bool.and_eq_true, List.all_eq_true] at h
      have key : ∀ (k : Nat), l[k]? ≠ some (some d0) := by
        intro k hk
        have := h.1 _ (List.mem_of_getElem? hk)
        simp at this
      cases i with
      | zero =>
        simp only [List.getElem?_cons_zero, Option.some.injEq] at hi
        subst hi
        cases j with
        | zero => rfl
        | succ j => exact absurd (by simpa using hj) (key j)
      | succ i =>
        cases j with
        | zero =>
          simp only [List.getElem?_cons_zero, Option.some.injEq] at hj
          subst hj
          exact absurd (by simpa using hi) (key i)
        | succ j => have := ih h.2 (i := i) (j := j) (d := d) (by simpa using hi) (by simpa using hj); omega

theorem mem_movers {ops : List Oper} {i : Nat} : i ∈ movers ops ↔ ∃ o, ops[i]? = some o ∧ isMover o = true := by
  unfold movers
  simp only [List.mem_map, List.mem_filter, Prod.exists, exists_and_right, exists_eq_right]
  constructor
  · rintro ⟨o, h1, h2⟩; exact ⟨o, List.mem_zipIdx_iff_getElem?.1 h1, h2⟩
  · rintro ⟨o, h1, h2⟩; exact ⟨o, List.mem_zipIdx_iff_getElem?.2 h1, h2⟩
theorem movers_nodup (ops : List Oper) : (movers ops).Nodup := by
  unfold movers
  have h : ((ops.zipIdx).map (·.2)).Nodup := by
    rw [List.zipIdx_map_snd]
    exact List.nodup_range'
  exact List.Sublist.nodup ((List.filter_sublist).map _) h
theorem count_add {l : List Nat} (hn : l.Nodup) {i : Nat} (hi : i ∈ l) (p q : Nat → Bool) (hp : p i = false) (hq : ∀ j, q j = (p j || decide (j = i))) : l.countP q = l.countP p + 1 := by
  induction l with
  | nil => simp at hi
  | cons a l ih =>
    rw [List.nodup_cons] at hn
    rcases List.mem_cons.1 hi with rfl | hi
    · have : l.countP q = l.countP p := by
        apply List.countP_congr
        intro x hx
        have : x ≠ i := fun h => hn.1 (h ▸ hx)
        simp [hq, this]
      rw [List.countP_cons_of_pos (by simp [hq]), List.countP_cons_of_neg (by simp [hp]), this]
    · have := ih hn.2 hi
      have hai : a ≠ i := fun h => hn.1 (h ▸ hi)
      by_cases hpa : p a = true
      · rw [List.countP_cons_of_pos (by simp [hq, hpa]), List.countP_cons_of_pos hpa, this]
      · rw [List.countP_cons_of_neg (by simp [hq, hpa, hai]), List.countP_cons_of_neg hpa, this]

/-- A region whose order is open. -/
theorem SW.draw {P : Program} {n : Nat} {id : Nat} {ops : Array Oper} {Q : BPost} {fr : Fr} {H : Heap} (V : List Value) (Hs : List Heap) (hm : P.follows .mixedOrders = true) (hok : drawOK n ops.toList = true) (h0 : Hs.getD 0 [] = H)
    (steps : allSteps P ops.toList (masks ops.toList) V Hs fr ops.toList 0) (fin : Q .normal (endOf ops.toList V fr) (Hs.getD (movers ops.toList).length [])) : SW P n (.region id ops true) Q fr H := by
  subst h0
  simp only [drawOK, Bool.and_eq_true, List.all_eq_true] at hok
  obtain ⟨⟨⟨hback, huniq⟩, hchain⟩, hdst⟩ := hok
  refine ⟨fun w0 ι a w hw hf hd => wp_region_any hm ?_⟩
  have uniq : ∀ {i j d : Nat} {o o' : Oper}, ops.toList[i]? = some o → ops.toList[j]? = some o' → o.dst = some d → o'.dst = some d → i = j := by
    intro i j d o o' h1 h2 h3 h4
    exact uniqueD_spec huniq (i := i) (j := j) (d := d) (by simp [dsts] at h1 ⊢; exact ⟨o, h1, h3⟩) (by simp [dsts] at h2 ⊢; exact ⟨o', h2, h4⟩)
  have lt_of : ∀ {i : Nat} {o : Oper}, ops.toList[i]? = some o → i < ops.size := fun h => by have := (List.getElem?_eq_some_iff.1 h).1; simpa using this
  -- the state of a region that is under way
  have go : ∀ (fuel : Nat) (listed : Array Bool) (ι1 : List Pl) (a : Act) (w : World), listed.size = ops.size →
      fuel + (List.range ops.size).countP (fun i => listed.getD i false) = ops.size → DownC ops.toList (fun i => listed.getD i false = true) → Ext ι ι1 →
      WR P w0 ι1 (Hs.getD ((movers ops.toList).countP fun i => listed.getD i false) []) w → a.tmps.size = n → a.defers = [] →
      (∀ (j : Nat) (o : Oper) (d : Nat), ops.toList[j]? = some o → o.dst = some d → listed.getD j false = true → VR ι1 (V.getD j undef) (a.tmps.getD d undef)) →
      (∀ (t : Nat) (v : Value), getF fr t = some v → (∀ (j : Nat) (o : Oper), ops.toList[j]? = some o → o.dst = some t → listed.getD j false = false) → t < n ∧ VR ι1 v (a.tmps.getD t undef)) →
      wpAny P .any ops (LB P n w0 ι Q) fuel listed a w := by
    intro fuel
    induction fuel with
    | zero =>
      intro listed ι1 a w hsz hcnt hdown hx hw hn hd hv1 hv2
      have hall : ∀ i, i < ops.size → listed.getD i false = true := by
        rw [Nat.zero_add] at hcnt
        have := List.countP_eq_length (p := fun i => listed.getD i false) (l := List.range ops.size)
        rw [List.length_range] at this
        intro i hi
        exact this.1 hcnt i (List.mem_range.2 hi)
      have hready : Region.ready .any ops listed = [] := by
        rw [List.eq_nil_iff_forall_not_mem]
        intro j hj
        obtain ⟨h1, o, h2, _⟩ := mem_ready.1 hj
        have hlt := (Array.getElem?_eq_some_iff.1 h2).1
        have := hall j hlt
        rw [Array.getD_eq_getD_getElem?, Array.getElem?_eq_getElem (by omega)] at this h1
        simp only [Option.getD_some] at this h1
        rw [h1] at this; simp at this
      refine ⟨hready, (LB.intro (e := .normal) (fr := endOf ops.toList V fr) rfl hw ⟨hn, fun t v ht => ?_⟩ hd ?_).ext hx⟩
      · unfold endOf at ht
        rcases getF_append ht with h | h
        · simp only [List.mem_filterMap, Prod.exists] at h
          obtain ⟨o, j, hj, h⟩ := h
          have ho := List.mem_zipIdx_iff_getElem?.1 hj
          simp only at ho h
          split at h
          · rename_i d hdd
            simp only [Option.some.injEq, Prod.mk.injEq] at h
            obtain ⟨rfl, rfl⟩ := h
            have h3 := hdst o (List.mem_of_getElem? ho)
            rw [hdd] at h3
            exact ⟨by simpa [Nat.blt_eq] using h3, hv1 j o _ ho hdd (hall j (lt_of ho))⟩
          · simp at h
        · by_cases hex : ∃ (j : Nat) (o : Oper), ops.toList[j]? = some o ∧ o.dst = some t
          · -- it has been written: then the first part tells it
            exfalso
            obtain ⟨j, o, ho, hdd⟩ := hex
            refine h.1 (V.getD j undef) ?_
            simp only [List.mem_filterMap, Prod.exists]
            exact ⟨o, j, List.mem_zipIdx_iff_getElem?.2 ho, by simp only [hdd]⟩
          · exact hv2 t v h.2 fun j o ho hdd => absurd ⟨j, o, ho, hdd⟩ hex
      · have : (movers ops.toList).countP (fun i => listed.getD i false) = (movers ops.toList).length := by
          rw [List.countP_eq_length]
          intro i hi
          obtain ⟨o, ho, _⟩ := mem_movers.1 hi
          exact hall i (lt_of ho)
        rw [this]
        exact fin
    | succ fuel ih =>
      intro listed ι1 a w hsz hcnt hdown hx hw hn hd hv1 hv2
      refine ⟨fun hempty => ?_, fun i hi => ?_⟩
      · -- something is ready
        exfalso
        have hne : ∃ i, i < ops.size ∧ listed.getD i false = false := by
          apply Classical.byContradiction
          intro hno
          have : (List.range ops.size).countP (fun i => listed.getD i false) = ops.size := by
            have h1 := (List.countP_eq_length (p := fun i => listed.getD i false) (l := List.range ops.size)).2 (fun i hi => by
              have : ¬ (listed.getD i false = false) := fun h => hno ⟨i, List.mem_range.1 hi, h⟩
              simpa using this)
            rwa [List.length_range] at h1
          omega
        have key : ∀ m, ∀ i, i ≤ m → i < ops.size → listed.getD i false = false → ∃ j, j ∈ Region.ready .any ops listed := by
          intro m
          induction m with
          | zero =>
            intro i hi hlt hl
            refine ⟨i, mem_ready.2 ⟨?_, ops[i], by simp [hlt], fun e he hb => ?_⟩⟩
            · rw [Array.getD_eq_getD_getElem?, Array.getElem?_eq_getElem (by omega)] at hl ⊢; exact hl
            · have := backE_spec hback (i := i) (o := ops[i]) (by simp [hlt]) (by simpa using he) hb
              omega
          | succ m ihm =>
            intro i hi hlt hl
            by_cases hall : ∀ e ∈ ops[i].after, Region.binds .any e = true → listed.getD e.on false = true
            · refine ⟨i, mem_ready.2 ⟨?_, ops[i], by simp [hlt], hall⟩⟩
              rw [Array.getD_eq_getD_getElem?, Array.getElem?_eq_getElem (by omega)] at hl ⊢; exact hl
            · simp only [Classical.not_forall, Bool.not_eq_true] at hall
              obtain ⟨e, he, hb, hle⟩ := hall
              have := backE_spec hback (i := i) (o := ops[i]) (by simp [hlt]) (by simpa using he) hb
              exact ihm e.on (by omega) (by omega) hle
        obtain ⟨i, hlt, hl⟩ := hne
        obtain ⟨j, hj⟩ := key i i (Nat.le_refl _) hlt hl
        rw [hempty] at hj
        simp at hj
      · obtain ⟨hl1, o, ho, hpre⟩ := mem_ready.1 hi
        have hlt : i < ops.size := (Array.getElem?_eq_some_iff.1 ho).1
        have hol : ops.toList[i]? = some o := by rw [Array.getElem?_toList]; exact ho
        have hl : listed.getD i false = false := by
          rw [Array.getD_eq_getD_getElem?, Array.getElem?_eq_getElem (by omega)] at hl1 ⊢; exact hl1
        have hset : ∀ j, (listed.setIfInBounds i true).getD j false = (listed.getD j false || decide (j = i)) := by
          intro j
          rw [Array.getD_eq_getD_getElem?, Array.getD_eq_getD_getElem?, Array.getElem?_setIfInBounds]
          by_cases hji : i = j
          · subst hji; rw [if_pos rfl, if_pos (by omega)]; simp
          · rw [if_neg hji]; simp [show ¬ j = i from fun h => hji h.symm]
        -- what is ahead of it is listed; what it is ahead of is not
        have hah : ∀ j, ahead (masks ops.toList) i j = true → listed.getD j false = true := by
          intro j hj
          obtain ⟨acc', h1, h2, h3⟩ := masksFrom_get ops.toList [] i o hol
          simp only [List.length_nil, Nat.zero_add] at h1 h2
          unfold ahead masks at hj
          rw [h2] at hj
          obtain ⟨e, he, hp, h4⟩ := maskOf_bit hj
          have hlt2 := backE_spec hback hol he hp
          have hle := hpre e (by simpa using he) hp
          rcases h4 with rfl | h4
          · exact hle
          · rw [h3 _ (by omega)] at h4
            exact ahead_listed hback hdown e.on e.on j (Nat.le_refl _) (by simp; omega) hle h4
        have hbh : ∀ j, j < ops.size → ahead (masks ops.toList) j i = true → listed.getD j false = false := by
          intro j hj h
          cases hlj : listed.getD j false with
          | false => rfl
          | true =>
            have := ahead_listed hback hdown j j i (Nat.le_refl _) (by simpa using hj) hlj h
            rw [hl] at this; simp at this
        -- the heap's place
        have hlo : loOf ops.toList (masks ops.toList) i ≤ (movers ops.toList).countP fun i => listed.getD i false := by
          unfold loOf
          rw [← List.countP_eq_length_filter]
          exact List.countP_mono_left fun j _ h => hah j h
        have hhi : ((movers ops.toList).countP fun i => listed.getD i false) ≤ hiOf ops.toList (masks ops.toList) i := by
          unfold hiOf
          rw [← List.countP_eq_length_filter]
          refine List.countP_mono_left fun j hj h => ?_
          obtain ⟨oj, hoj, _⟩ := mem_movers.1 hj
          simp only [Bool.not_eq_true', Bool.or_eq_false_iff]
          refine ⟨?_, ?_⟩
          · cases hb : Nat.beq i j with
            | false => rfl
            | true => have := Nat.eq_of_beq_eq_true hb; subst this; rw [hl] at h; simp at h
          · cases hb : ahead (masks ops.toList) j i with
            | false => rfl
            | true => rw [hbh j (lt_of hoj) hb] at h; simp at h
        have hst := stepsFrom_get (allSteps_get (b := 0) steps hol) (by rw [Nat.zero_add]; exact hlo) (by rw [Nat.zero_add]; omega)
        rw [Nat.zero_add] at hst
        unfold stepAt at hst
        -- what is known
        have henv : FB n ι1 (envOf ops.toList (masks ops.toList) V fr i) a := by
          refine ⟨hn, fun t v ht => ?_⟩
          unfold envOf at ht
          rcases getF_append ht with h | h
          · simp only [List.mem_filterMap, Prod.exists] at h
            obtain ⟨o', j, hj, h⟩ := h
            have ho' := List.mem_zipIdx_iff_getElem?.1 hj
            simp only at ho' h
            split at h
            · rename_i d hdd
              split at h
              · rename_i haj
                simp only [Option.some.injEq, Prod.mk.injEq] at h
                obtain ⟨rfl, rfl⟩ := h
                have h3 := hdst o' (List.mem_of_getElem? ho')
                rw [hdd] at h3
                exact ⟨by simpa [Nat.blt_eq] using h3, hv1 j o' _ ho' hdd (hah j haj)⟩
              · simp at h
            · simp at h
          · obtain ⟨h1, h2⟩ := getF_filter (q := fun t => (ops.toList.zipIdx).all fun y => match y.1.dst with | some d => !Nat.beq d t || Nat.beq y.2 i || ahead (masks ops.toList) y.2 i | none => true) h.2
            refine hv2 t v h2 fun j o' ho' hdd => ?_
            rw [List.all_eq_true] at h1
            have h3 := h1 (o', j) (List.mem_zipIdx_iff_getElem?.2 ho')
            simp only [hdd, Nat.beq_refl, Bool.not_true, Bool.false_or, Bool.or_eq_true] at h3
            rcases h3 with h3 | h3
            · have := Nat.eq_of_beq_eq_true h3; subst this; exact hl
            · exact hbh j (lt_of ho') h3
        -- what comes behind
        have next : ∀ (v cv : Value) (H' : Heap) (ι2 : List Pl) (w' : World), v = V.getD i undef → H' = Hs.getD (if isMover o then ((movers ops.toList).countP fun i => listed.getD i false) + 1 else (movers ops.toList).countP fun i => listed.getD i false) [] →
            Ext ι1 ι2 → WR P w0 ι2 H' w' → VR ι2 v cv → wpAny P .any ops (LB P n w0 ι Q) fuel (listed.setIfInBounds i true) (a.put o.dst cv) w' := by
          intro v cv H' ι2 w' hv hH hx2 hw2 hr
          subst hv hH
          have hcount : (movers ops.toList).countP (fun j => (listed.setIfInBounds i true).getD j false) = if isMover o then ((movers ops.toList).countP fun i => listed.getD i false) + 1 else (movers ops.toList).countP fun i => listed.getD i false := by
            split
            · rename_i hmv
              exact count_add (movers_nodup _) (mem_movers.2 ⟨o, hol, hmv⟩) _ _ hl hset
            · rename_i hmv
              apply List.countP_congr
              intro j hj
              obtain ⟨oj, hoj, hmj⟩ := mem_movers.1 hj
              have : j ≠ i := fun h => by subst h; rw [hol] at hoj; simp only [Option.some.injEq] at hoj; subst hoj; exact hmv hmj
              simp [hset, this]
          refine ih (listed.setIfInBounds i true) ι2 (a.put o.dst cv) w' (by simpa using hsz) ?_ ?_ (hx.trans hx2) (by rw [hcount]; exact hw2) ?_ (by rw [put_defers]; exact hd) ?_ ?_
          · have := count_add (l := List.range ops.size) List.nodup_range (List.mem_range.2 hlt) (fun j => listed.getD j false) (fun j => (listed.setIfInBounds i true).getD j false) hl hset
            omega
          · intro j oj hoj hLj e he hp
            simp only [hset, Bool.or_eq_true, decide_eq_true_eq] at hLj ⊢
            rcases hLj with hLj | rfl
            · exact .inl (hdown j oj hoj hLj e he hp)
            · rw [hol] at hoj; simp only [Option.some.injEq] at hoj; subst hoj
              exact .inl (hpre e (by simpa using he) hp)
          · cases hod : o.dst with
            | none => exact hn
            | some d => simp [Act.put, hn]
          · intro j oj d hoj hdd hLj
            rw [hset] at hLj
            simp only [Bool.or_eq_true, decide_eq_true_eq] at hLj
            by_cases hji : j = i
            · subst hji
              rw [hol] at hoj; simp only [Option.some.injEq] at hoj; subst hoj
              have h3 := hdst o (List.mem_of_getElem? hol)
              rw [hdd] at h3 ⊢
              simp only [Nat.blt_eq] at h3
              simp only [Act.put]
              rw [Array.getD_eq_getD_getElem?, Array.getElem?_setIfInBounds, if_pos rfl, if_pos (by omega)]
              exact hr
            · have hLj' := hLj.resolve_right hji
              have h4 := (hv1 j oj d hoj hdd hLj').ext hx2
              cases hod : o.dst with
              | none => exact h4
              | some d' =>
                have hne : d' ≠ d := fun h => by subst h; exact hji (uniq hoj hol hdd hod)
                simp only [Act.put]
                rw [Array.getD_eq_getD_getElem?, Array.getElem?_setIfInBounds, if_neg hne]
                rwa [Array.getD_eq_getD_getElem?] at h4
          · intro t v ht hno
            obtain ⟨h4, h5⟩ := hv2 t v ht fun j oj hoj hdd => by
              have := hno j oj hoj hdd
              rw [hset] at this
              simp only [Bool.or_eq_false_iff] at this
              exact this.1
            refine ⟨h4, ?_⟩
            have h5 := h5.ext hx2
            cases hod : o.dst with
            | none => exact h5
            | some d' =>
              have hne : d' ≠ t := fun h => by
                subst h
                have := hno i o hol hod
                rw [hset] at this
                simp at this
              simp only [Act.put]
              rw [Array.getD_eq_getD_getElem?, Array.getElem?_setIfInBounds, if_neg hne]
              rwa [Array.getD_eq_getD_getElem?] at h5
        unfold wpOp
        rw [ho]
        simp only
        rcases wantK_sound henv hst with ⟨h1, h⟩ | ⟨h1, h⟩
        · rw [if_pos h1]
          exact .inl (boper_sound hw henv h fun v H' ι' cv w' k h1 h2 h3 => next v cv H' ι' w' k.1 k.2 h1 h2 h3)
        · rw [if_neg (by simp [h1])]
          exact next undef undef _ ι1 w h.1.symm rfl (.refl _) (by rw [h.2]; exact hw) (.undef ι1)
  refine go ops.size _ ι a _ (by simp) ?_ ?_ (.refl _) ?_ hf.size hd ?_ ?_
  · have : (List.range ops.size).countP (fun i => (Array.replicate ops.size false).getD i false) = 0 := by
      rw [List.countP_eq_zero]
      intro i hi
      have := List.mem_range.1 hi
      simp [Array.getD_eq_getD_getElem?, this]
    omega
  · intro i o ho hL
    have := lt_of ho
    simp [Array.getD_eq_getD_getElem?, this] at hL
  · have : (movers ops.toList).countP (fun i => (Array.replicate ops.size false).getD i false) = 0 := by
      rw [List.countP_eq_zero]
      intro i hi
      obtain ⟨o, ho, _⟩ := mem_movers.1 hi
      have := lt_of ho
      simp [Array.getD_eq_getD_getElem?, this]
    rw [this]
    exact hw.drew
  · intro j o d ho hdd hL
    have := lt_of ho
    simp [Array.getD_eq_getD_getElem?, this] at hL
  · intro t v ht _
    exact hf.val t v ht

end Go.Proofs.Ytdlanbfbbopfhaa.Ax
