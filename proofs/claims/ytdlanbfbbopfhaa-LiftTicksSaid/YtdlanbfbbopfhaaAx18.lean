/- The abstract machine: a region whose order is open, where calls answer some heap of a kind. -/
import Derived.Test.YtdlanbfbbopfhaaAx17
import Derived.KernelRfl
set_option linter.unusedVariables false
set_option linter.unusedSimpArgs false
namespace Go.Proofs.Ytdlanbfbbopfhaa.Ax
open Go Go.RowKit
/-- An operation at a heap of which a kind is known. -/
def stepAtR (P : Program) (ops : List Oper) (ms : List Nat) (V : List Value) (R : Nat → Heap → Prop) (fr : Fr) (o : Oper) (i k : Nat) : Prop :=
  ∀ H, R k H → wantK ops (envOf ops ms V fr i) o.guard (boper P o (envOf ops ms V fr i) H fun v H' => v = V.getD i undef ∧ (if isMover o = true then R (k + 1) H' else H' = H)) (V.getD i undef = undef ∧ (isMover o = true → R (k + 1) H))
def stepsFromR (P : Program) (ops : List Oper) (ms : List Nat) (V : List Value) (R : Nat → Heap → Prop) (fr : Fr) (o : Oper) (i lo : Nat) : Nat → Prop
  | 0 => stepAtR P ops ms V R fr o i lo
  | k + 1 => stepAtR P ops ms V R fr o i (lo + (k + 1)) ∧ stepsFromR P ops ms V R fr o i lo k
def allStepsR (P : Program) (ops : List Oper) (ms : List Nat) (V : List Value) (R : Nat → Heap → Prop) (fr : Fr) : List Oper → Nat → Prop
  | [], _ => True
  | o :: os, i => stepsFromR P ops ms V R fr o i (loOf ops ms i) (hiOf ops ms i - loOf ops ms i) ∧ allStepsR P ops ms V R fr os (i + 1)
theorem stepsFromR_get {P : Program} {ops : List Oper} {ms : List Nat} {V : List Value} {R : Nat → Heap → Prop} {fr : Fr} {o : Oper} {i lo : Nat} : ∀ {m k : Nat}, stepsFromR P ops ms V R fr o i lo m → lo ≤ k → k ≤ lo + m → stepAtR P ops ms V R fr o i k := by
  intro m
  induction m with
  | zero => intro k h h1 h2; have e : k = lo := by omega
            rw [e]; exact h
  | succ m ih =>
    intro k h h1 h2
    by_cases hk : k = lo + (m + 1)
    · subst hk; exact h.1
    · exact ih h.2 h1 (by omega)
theorem allStepsR_get {P : Program} {ops : List Oper} {ms : List Nat} {V : List Value} {R : Nat → Heap → Prop} {fr : Fr} : ∀ {os : List Oper} {b i : Nat} {o : Oper}, allStepsR P ops ms V R fr os b → os[i]? = some o →
    stepsFromR P ops ms V R fr o (b + i) (loOf ops ms (b + i)) (hiOf ops ms (b + i) - loOf ops ms (b + i)) := by
  intro os
  induction os with
  | nil => intro b i o h ho; simp at ho
  | cons p os ih =>
    intro b i o h ho
    cases i with
    | zero => simp only [List.getElem?_cons_zero, Option.some.injEq] at ho; subst ho; exact h.1
    | succ i => simp only [List.getElem?_cons_succ] at ho; have := ih h.2 ho; rwa [show b + 1 + i = b + (i + 1) by omega] at this
theorem SW.drawR {P : Program} {n : Nat} {id : Nat} {ops : Array Oper} {Q : BPost} {fr : Fr} {H : Heap} (V : List Value) (R : Nat → Heap → Prop) (hm : P.follows .mixedOrders = true) (hok : drawOK n ops.toList = true) (h0 : R 0 H)
    (steps : allStepsR P ops.toList (masks ops.toList) V R fr ops.toList 0) (fin : ∀ H', R (movers ops.toList).length H' → Q .normal (endOf ops.toList V fr) H') : SW P n (.region id ops true) Q fr H := by
  simp only [drawOK, Bool.and_eq_true, List.all_eq_true] at hok
  obtain ⟨⟨⟨hback, huniq⟩, hchain⟩, hdst⟩ := hok
  refine ⟨fun w0 ι a w hw hf hd => wp_region_any hm ?_⟩
  have uniq : ∀ {i j d : Nat} {o o' : Oper}, ops.toList[i]? = some o → ops.toList[j]? = some o' → o.dst = some d → o'.dst = some d → i = j := by
    intro i j d o o' h1 h2 h3 h4
    exact uniqueD_spec huniq (i := i) (j := j) (d := d) (by simp [dsts] at h1 ⊢; exact ⟨o, h1, h3⟩) (by simp [dsts] at h2 ⊢; exact ⟨o', h2, h4⟩)
  have lt_of : ∀ {i : Nat} {o : Oper}, ops.toList[i]? = some o → i < ops.size := fun h => by have := (List.getElem?_eq_some_iff.1 h).1; simpa using this
  -- the state of a region that is under way
  have go : ∀ (fuel : Nat) (listed : Array Bool) (ι1 : List Pl) (a : Act) (w : World), listed.size = ops.size →
      fuel + (List.range ops.size).countP (fun i => listed.getD i false) = ops.size → DownC ops.toList (fun i => listed.getD i false = true) → Ext ι ι1 →
      (∃ K, R ((movers ops.toList).countP fun i => listed.getD i false) K ∧ WR P w0 ι1 K w) → a.tmps.size = n → a.defers = [] →
      (∀ (j : Nat) (o : Oper) (d : Nat), ops.toList[j]? = some o → o.dst = some d → listed.getD j false = true → VR ι1 (V.getD j undef) (a.tmps.getD d undef)) →
      (∀ (t : Nat) (v : Value), getF fr t = some v → (∀ (j : Nat) (o : Oper), ops.toList[j]? = some o → o.dst = some t → listed.getD j false = false) → t < n ∧ VR ι1 v (a.tmps.getD t undef)) →
      wpAny P .any ops (LB P n w0 ι Q) fuel listed a w := by
    intro fuel
    induction fuel with
    | zero =>
      intro listed ι1 a w hsz hcnt hdown hx hwx hn hd hv1 hv2
      obtain ⟨K, hRK, hw⟩ := hwx
      have hall : ∀ i, i < ops.size → listed.getD i false = true := by
        rw [Nat.zero_add] at hcnt
        have := List.countP_eq_length (p := fun i => listed.getD i false) (l := List.range ops.size)
        rw [List.length_range] at this
        intro i hi
        exact this.1 hcnt i (List.mem_range.2 hi)
      have hready : Region.ready .any ops listed = [] := by
        rw [List.eq_nil_iff_forall_not_mem]
        intro j hj
        obtain ⟨h1, o, h2, _⟩ := mem_ready.1 hj
        have hlt := (Array.getElem?_eq_some_iff.1 h2).1
        have := hall j hlt
        rw [Array.getD_eq_getD_getElem?, Array.getElem?_eq_getElem (by omega)] at this h1
        simp only [Option.getD_some] at this h1
        rw [h1] at this; simp at this
      refine ⟨hready, (LB.intro (e := .normal) (fr := endOf ops.toList V fr) rfl hw ⟨hn, fun t v ht => ?_⟩ hd ?_).ext hx⟩
      · unfold endOf at ht
        rcases getF_append ht with h | h
        · simp only [List.mem_filterMap, Prod.exists] at h
          obtain ⟨o, j, hj, h⟩ := h
          have ho := List.mem_zipIdx_iff_getElem?.1 hj
          simp only at ho h
          split at h
          · rename_i d hdd
            simp only [Option.some.injEq, Prod.mk.injEq] at h
            obtain ⟨rfl, rfl⟩ := h
            have h3 := hdst o (List.mem_of_getElem? ho)
            rw [hdd] at h3
            exact ⟨by simpa [Nat.blt_eq] using h3, hv1 j o _ ho hdd (hall j (lt_of ho))⟩
          · simp at h
        · by_cases hex : ∃ (j : Nat) (o : Oper), ops.toList[j]? = some o ∧ o.dst = some t
          · -- it has been written: then the first part tells it
            exfalso
            obtain ⟨j, o, ho, hdd⟩ := hex
            refine h.1 (V.getD j undef) ?_
            simp only [List.mem_filterMap, Prod.exists]
            exact ⟨o, j, List.mem_zipIdx_iff_getElem?.2 ho, by simp only [hdd]⟩
          · exact hv2 t v h.2 fun j o ho hdd => absurd ⟨j, o, ho, hdd⟩ hex
      · have : (movers ops.toList).countP (fun i => listed.getD i false) = (movers ops.toList).length := by
          rw [List.countP_eq_length]
          intro i hi
          obtain ⟨o, ho, _⟩ := mem_movers.1 hi
          exact hall i (lt_of ho)
        rw [this] at hRK
        exact fin K hRK
    | succ fuel ih =>
      intro listed ι1 a w hsz hcnt hdown hx hwx hn hd hv1 hv2
      obtain ⟨K, hRK, hw⟩ := hwx
      refine ⟨fun hempty => ?_, fun i hi => ?_⟩
      · -- something is ready
        exfalso
        have hne : ∃ i, i < ops.size ∧ listed.getD i false = false := by
          apply Classical.byContradiction
          intro hno
          have : (List.range ops.size).countP (fun i => listed.getD i false) = ops.size := by
            have h1 := (List.countP_eq_length (p := fun i => listed.getD i false) (l := List.range ops.size)).2 (fun i hi => by
              have : ¬ (listed.getD i false = false) := fun h => hno ⟨i, List.mem_range.1 hi, h⟩
              simpa using this)
            rwa [List.length_range] at h1
          omega
        have key : ∀ m, ∀ i, i ≤ m → i < ops.size → listed.getD i false = false → ∃ j, j ∈ Region.ready .any ops listed := by
          intro m
          induction m with
          | zero =>
            intro i hi hlt hl
            refine ⟨i, mem_ready.2 ⟨?_, ops[i], by simp [hlt], fun e he hb => ?_⟩⟩
            · rw [Array.getD_eq_getD_getElem?, Array.getElem?_eq_getElem (by omega)] at hl ⊢; exact hl
            · have := backE_spec hback (i := i) (o := ops[i]) (by simp [hlt]) (by simpa using he) hb
              omega
          | succ m ihm =>
            intro i hi hlt hl
            by_cases hall : ∀ e ∈ ops[i].after, Region.binds .any e = true → listed.getD e.on false = true
            · refine ⟨i, mem_ready.2 ⟨?_, ops[i], by simp [hlt], hall⟩⟩
              rw [Array.getD_eq_getD_getElem?, Array.getElem?_eq_getElem (by omega)] at hl ⊢; exact hl
            · simp only [Classical.not_forall, Bool.not_eq_true] at hall
              obtain ⟨e, he, hb, hle⟩ := hall
              have := backE_spec hback (i := i) (o := ops[i]) (by simp [hlt]) (by simpa using he) hb
              exact ihm e.on (by omega) (by omega) hle
        obtain ⟨i, hlt, hl⟩ := hne
        obtain ⟨j, hj⟩ := key i i (Nat.le_refl _) hlt hl
        rw [hempty] at hj
        simp at hj
      · obtain ⟨hl1, o, ho, hpre⟩ := mem_ready.1 hi
        have hlt : i < ops.size := (Array.getElem?_eq_some_iff.1 ho).1
        have hol : ops.toList[i]? = some o := by rw [Array.getElem?_toList]; exact ho
        have hl : listed.getD i false = false := by
          rw [Array.getD_eq_getD_getElem?, Array.getElem?_eq_getElem (by omega)] at hl1 ⊢; exact hl1
        have hset : ∀ j, (listed.setIfInBounds i true).getD j false = (listed.getD j false || decide (j = i)) := by
          intro j
          rw [Array.getD_eq_getD_getElem?, Array.getD_eq_getD_getElem?, Array.getElem?_setIfInBounds]
          by_cases hji : i = j
          · subst hji; rw [if_pos rfl, if_pos (by omega)]; simp
          · rw [if_neg hji]; simp [show ¬ j = i from fun h => hji h.symm]
        -- what is ahead of it is listed; what it is ahead of is not
        have hah : ∀ j, ahead (masks ops.toList) i j = true → listed.getD j false = true := by
          intro j hj
          obtain ⟨acc', h1, h2, h3⟩ := masksFrom_get ops.toList [] i o hol
          simp only [List.length_nil, Nat.zero_add] at h1 h2
          unfold ahead masks at hj
          rw [h2] at hj
          obtain ⟨e, he, hp, h4⟩ := maskOf_bit hj
          have hlt2 := backE_spec hback hol he hp
          have hle := hpre e (by simpa using he) hp
          rcases h4 with rfl | h4
          · exact hle
          · rw [h3 _ (by omega)] at h4
            exact ahead_listed hback hdown e.on e.on j (Nat.le_refl _) (by simp; omega) hle h4
        have hbh : ∀ j, j < ops.size → ahead (masks ops.toList) j i = true → listed.getD j false = false := by
          intro j hj h
          cases hlj : listed.getD j false with
          | false => rfl
          | true =>
            have := ahead_listed hback hdown j j i (Nat.le_refl _) (by simpa using hj) hlj h
            rw [hl] at this; simp at this
        -- the heap's place
        have hlo : loOf ops.toList (masks ops.toList) i ≤ (movers ops.toList).countP fun i => listed.getD i false := by
          unfold loOf
          rw [← List.countP_eq_length_filter]
          exact List.countP_mono_left fun j _ h => hah j h
        have hhi : ((movers ops.toList).countP fun i => listed.getD i false) ≤ hiOf ops.toList (masks ops.toList) i := by
          unfold hiOf
          rw [← List.countP_eq_length_filter]
          refine List.countP_mono_left fun j hj h => ?_
          obtain ⟨oj, hoj, _⟩ := mem_movers.1 hj
          simp only [Bool.not_eq_true', Bool.or_eq_false_iff]
          refine ⟨?_, ?_⟩
          · cases hb : Nat.beq i j with
            | false => rfl
            | true => have := Nat.eq_of_beq_eq_true hb; subst this; rw [hl] at h; simp at h
          · cases hb : ahead (masks ops.toList) j i with
            | false => rfl
            | true => rw [hbh j (lt_of hoj) hb] at h; simp at h
        have hst := stepsFromR_get (allStepsR_get (b := 0) steps hol) (by rw [Nat.zero_add]; exact hlo) (by rw [Nat.zero_add]; omega)
        rw [Nat.zero_add] at hst
        replace hst := hst K hRK
        -- what is known
        have henv : FB n ι1 (envOf ops.toList (masks ops.toList) V fr i) a := by
          refine ⟨hn, fun t v ht => ?_⟩
          unfold envOf at ht
          rcases getF_append ht with h | h
          · simp only [List.mem_filterMap, Prod.exists] at h
            obtain ⟨o', j, hj, h⟩ := h
            have ho' := List.mem_zipIdx_iff_getElem?.1 hj
            simp only at ho' h
            split at h
            · rename_i d hdd
              split at h
              · rename_i haj
                simp only [Option.some.injEq, Prod.mk.injEq] at h
                obtain ⟨rfl, rfl⟩ := h
                have h3 := hdst o' (List.mem_of_getElem? ho')
                rw [hdd] at h3
                exact ⟨by simpa [Nat.blt_eq] using h3, hv1 j o' _ ho' hdd (hah j haj)⟩
              · simp at h
            · simp at h
          · obtain ⟨h1, h2⟩ := getF_filter (q := fun t => (ops.toList.zipIdx).all fun y => match y.1.dst with | some d => !Nat.beq d t || Nat.beq y.2 i || ahead (masks ops.toList) y.2 i | none => true) h.2
            refine hv2 t v h2 fun j o' ho' hdd => ?_
            rw [List.all_eq_true] at h1
            have h3 := h1 (o', j) (List.mem_zipIdx_iff_getElem?.2 ho')
            simp only [hdd, Nat.beq_refl, Bool.not_true, Bool.false_or, Bool.or_eq_true] at h3
            rcases h3 with h3 | h3
            · have := Nat.eq_of_beq_eq_true h3; subst this; exact hl
            · exact hbh j (lt_of ho') h3
        -- what comes behind
        have next : ∀ (v cv : Value) (H' : Heap) (ι2 : List Pl) (w' : World), v = V.getD i undef → R (if isMover o then ((movers ops.toList).countP fun i => listed.getD i false) + 1 else (movers ops.toList).countP fun i => listed.getD i false) H' →
            Ext ι1 ι2 → WR P w0 ι2 H' w' → VR ι2 v cv → wpAny P .any ops (LB P n w0 ι Q) fuel (listed.setIfInBounds i true) (a.put o.dst cv) w' := by
          intro v cv H' ι2 w' hv hH hx2 hw2 hr
          subst hv
          have hcount : (movers ops.toList).countP (fun j => (listed.setIfInBounds i true).getD j false) = if isMover o then ((movers ops.toList).countP fun i => listed.getD i false) + 1 else (movers ops.toList).countP fun i => listed.getD i false := by
            split
            · rename_i hmv
              exact count_add (movers_nodup _) (mem_movers.2 ⟨o, hol, hmv⟩) _ _ hl hset
            · rename_i hmv
              apply List.countP_congr
              intro j hj
              obtain ⟨oj, hoj, hmj⟩ := mem_movers.1 hj
              have : j ≠ i := fun h => by subst h; rw [hol] at hoj; simp only [Option.some.injEq] at hoj; subst hoj; exact hmv hmj
              simp [hset, this]
          refine ih (listed.setIfInBounds i true) ι2 (a.put o.dst cv) w' (by simpa using hsz) ?_ ?_ (hx.trans hx2) ⟨H', by rw [hcount]; exact hH, hw2⟩ ?_ (by rw [put_defers]; exact hd) ?_ ?_
          · have := count_add (l := List.range ops.size) List.nodup_range (List.mem_range.2 hlt) (fun j => listed.getD j false) (fun j => (listed.setIfInBounds i true).getD j false) hl hset
            omega
          · intro j oj hoj hLj e he hp
            simp only [hset, Bool.or_eq_true, decide_eq_true_eq] at hLj ⊢
            rcases hLj with hLj | rfl
            · exact .inl (hdown j oj hoj hLj e he hp)
            · rw [hol] at hoj; simp only [Option.some.injEq] at hoj; subst hoj
              exact .inl (hpre e (by simpa using he) hp)
          · cases hod : o.dst with
            | none => exact hn
            | some d => simp [Act.put, hn]
          · intro j oj d hoj hdd hLj
            rw [hset] at hLj
            simp only [Bool.or_eq_true, decide_eq_true_eq] at hLj
            by_cases hji : j = i
            · subst hji
              rw [hol] at hoj; simp only [Option.some.injEq] at hoj; subst hoj
              have h3 := hdst o (List.mem_of_getElem? hol)
              rw [hdd] at h3 ⊢
              simp only [Nat.blt_eq] at h3
              simp only [Act.put]
              rw [Array.getD_eq_getD_getElem?, Array.getElem?_setIfInBounds, if_pos rfl, if_pos (by omega)]
              exact hr
            · have hLj' := hLj.resolve_right hji
              have h4 := (hv1 j oj d hoj hdd hLj').ext hx2
              cases hod : o.dst with
              | none => exact h4
              | some d' =>
                have hne : d' ≠ d := fun h => by subst h; exact hji (uniq hoj hol hdd hod)
                simp only [Act.put]
                rw [Array.getD_eq_getD_getElem?, Array.getElem?_setIfInBounds, if_neg hne]
                rwa [Array.getD_eq_getD_getElem?] at h4
          · intro t v ht hno
            obtain ⟨h4, h5⟩ := hv2 t v ht fun j oj hoj hdd => by
              have := hno j oj hoj hdd
              rw [hset] at this
              simp only [Bool.or_eq_false_iff] at this
              exact this.1
            refine ⟨h4, ?_⟩
            have h5 := h5.ext hx2
            cases hod : o.dst with
            | none => exact h5
            | some d' =>
              have hne : d' ≠ t := fun h => by
                subst h
                have := hno i o hol hod
                rw [hset] at this
                simp at this
              simp only [Act.put]
              rw [Array.getD_eq_getD_getElem?, Array.getElem?_setIfInBounds, if_neg hne]
              rwa [Array.getD_eq_getD_getElem?] at h5
        unfold wpOp
        rw [ho]
        simp only
        rcases wantK_sound henv hst with ⟨h1, h⟩ | ⟨h1, h⟩
        · rw [if_pos h1]
          exact .inl (boper_sound hw henv h fun v H' ι' cv w' k h1 h2 h3 => next v cv H' ι' w' k.1 (by have k2 := k.2; revert k2; split <;> intro k2; exact k2; exact k2 ▸ hRK) h1 h2 h3)
        · rw [if_neg (by simp [h1])]
          exact next undef undef K ι1 w h.1.symm (by split; exact h.2 (by assumption); exact hRK) (.refl _) hw (.undef ι1)
  refine go ops.size _ ι a _ (by simp) ?_ ?_ (.refl _) ?_ hf.size hd ?_ ?_
  · have : (List.range ops.size).countP (fun i => (Array.replicate ops.size false).getD i false) = 0 := by
      rw [List.countP_eq_zero]
      intro i hi
      have := List.mem_range.1 hi
      simp [Array.getD_eq_getD_getElem?, this]
    omega
  · intro i o ho hL
    have := lt_of ho
    simp [Array.getD_eq_getD_getElem?, this] at hL
  · have : (movers ops.toList).countP (fun i => (Array.replicate ops.size false).getD i false) = 0 := by
      rw [List.countP_eq_zero]
      intro i hi
      obtain ⟨o, ho, _⟩ := mem_movers.1 hi
      have := lt_of ho
      simp [Array.getD_eq_getD_getElem?, this]
    rw [this]
    exact ⟨H, h0, hw.drew⟩
  · intro j o d ho hdd hL
    have := lt_of ho
    simp [Array.getD_eq_getD_getElem?, this] at hL
  · intro t v ht _
    exact hf.val t v ht


/-- What is asked of an operation's end: its value; the heap as it was, or of the next kind. -/
structure LeafM (v u : Value) (X : Prop) : Prop where
  val : v = u
  heap : X
def kind (Rs : List (Heap → Prop)) (k : Nat) (H : Heap) : Prop := match Rs[k]? with | some r => r H | none => False
def endR (V : List Value) (Rs : List (Heap → Prop)) (mv : Bool) (i k : Nat) (H : Heap) (v : Value) (H' : Heap) : Prop :=
  match mv with
  | true => LeafM v (V.getD i undef) (kind Rs (k + 1) H')
  | false => Leaf v (V.getD i undef) H' H
def noneR (V : List Value) (Rs : List (Heap → Prop)) (mv : Bool) (i k : Nat) (H : Heap) : Prop :=
  match mv with
  | true => LeafM (V.getD i undef) undef (kind Rs (k + 1) H)
  | false => LeafM (V.getD i undef) undef True
def stepAtR2 (P : Program) (ops : List Oper) (V : List Value) (Rs : List (Heap → Prop)) (av : List (Nat × Nat)) (fr : Fr) (mv : Bool) (o : Oper) (i k : Nat) : Prop :=
  ∀ H, kind Rs k H → bring V av fr fun env => wantK ops env o.guard (boper P o env H (endR V Rs mv i k H)) (noneR V Rs mv i k H)
def stepsFromR2 (P : Program) (ops : List Oper) (V : List Value) (Rs : List (Heap → Prop)) (av : List (Nat × Nat)) (fr : Fr) (mv : Bool) (o : Oper) (i lo : Nat) : Nat → Prop
  | 0 => stepAtR2 P ops V Rs av fr mv o i lo
  | k + 1 => stepsFromR2 P ops V Rs av fr mv o i lo k ∧ stepAtR2 P ops V Rs av fr mv o i (lo + (k + 1))
def stepsR2 (P : Program) (ops : List Oper) (V : List Value) (Rs : List (Heap → Prop)) (fr : Fr) : List Oper → List Dat → Nat → Prop
  | [], _, _ => True
  | o :: os, (av, ex, lo, m, mv) :: ds, i => stepsFromR2 P ops V Rs av (cutF ex fr) mv o i lo m ∧ stepsR2 P ops V Rs fr os ds (i + 1)
  | _ :: _, [], _ => False
theorem stepAtR2_to {P : Program} {ops : List Oper} {ms : List Nat} {V : List Value} {Rs : List (Heap → Prop)} {fr : Fr} {o : Oper} {i k : Nat} (h : stepAtR2 P ops V Rs (pairsOf ops ms i) (cutF (exOf ops ms i) fr) (isMover o) o i k) : stepAtR P ops ms V (kind Rs) fr o i k := by
  intro H hH
  have h := bring_to (h H hH)
  rw [← envOf_eq] at h
  have e1 : endR V Rs (isMover o) i k H = fun v H' => v = V.getD i undef ∧ (if isMover o = true then kind Rs (k + 1) H' else H' = H) := by
    funext v H'
    cases isMover o with
    | true => exact propext ⟨fun h => ⟨h.1, by rw [if_pos rfl]; exact h.2⟩, fun h => ⟨h.1, by have := h.2; rwa [if_pos rfl] at this⟩⟩
    | false => exact propext ⟨fun h => ⟨h.1, by rw [if_neg (by simp)]; exact h.2⟩, fun h => ⟨h.1, by have := h.2; rwa [if_neg (by simp)] at this⟩⟩
  have e2 : noneR V Rs (isMover o) i k H = (V.getD i undef = undef ∧ (isMover o = true → kind Rs (k + 1) H)) := by
    cases isMover o with
    | true => exact propext ⟨fun h => ⟨h.1, fun _ => h.2⟩, fun h => ⟨h.1, h.2 rfl⟩⟩
    | false => exact propext ⟨fun h => ⟨h.1, fun h => by cases h⟩, fun h => ⟨h.1, trivial⟩⟩
  rw [e1, e2] at h
  exact h
theorem stepsFromR2_to {P : Program} {ops : List Oper} {ms : List Nat} {V : List Value} {Rs : List (Heap → Prop)} {fr : Fr} {o : Oper} {i lo : Nat} : ∀ {m : Nat}, stepsFromR2 P ops V Rs (pairsOf ops ms i) (cutF (exOf ops ms i) fr) (isMover o) o i lo m → stepsFromR P ops ms V (kind Rs) fr o i lo m := by
  intro m
  induction m with
  | zero => intro h; exact stepAtR2_to h
  | succ m ih => intro h; exact ⟨stepAtR2_to h.2, ih h.1⟩
theorem stepsR2_to {P : Program} {ops : List Oper} {ms : List Nat} {V : List Value} {Rs : List (Heap → Prop)} {fr : Fr} : ∀ {os : List Oper} {i : Nat}, stepsR2 P ops V Rs fr os (datFrom ops ms os i) i → allStepsR P ops ms V (kind Rs) fr os i := by
  intro os
  induction os with
  | nil => intro i _; trivial
  | cons o os ih =>
    intro i h
    simp only [datFrom, stepsR2] at h
    exact ⟨stepsFromR2_to h.1, ih h.2⟩
/-- A region whose order is open; of each heap on the way a kind is known. -/
theorem SW.draw4 {P : Program} {n : Nat} {id : Nat} {ops : Array Oper} {Q : BPost} {fr : Fr} {H : Heap} (D : List Dat) (E : List (Nat × Nat)) (nm : Nat) (F : Fr) (V : List Value) (Rs : List (Heap → Prop)) (hm : P.follows .mixedOrders = true)
    (hok : drawIs n ops.toList D E nm = true) (hF : Has fr F) (h0 : kind Rs 0 H) (steps : stepsR2 P ops.toList V Rs F ops.toList D 0) (fin : ∀ H', kind Rs nm H' → bring V E F fun fr' => Q .normal fr' H') : SW P n (.region id ops true) Q fr H := by
  simp only [drawIs, Bool.and_eq_true, decide_eq_true_eq] at hok
  obtain ⟨⟨⟨h1, rfl⟩, rfl⟩, h4⟩ := hok
  have h4' := Nat.eq_of_beq_eq_true h4
  subst h4'
  refine SW.sub (SW.drawR V (kind Rs) hm h1 h0 (stepsR2_to steps) fun H' hH => ?_) (Sub.of hF)
  rw [endOf_eq]
  exact bring_to (fin H' hH)
end Go.Proofs.Ytdlanbfbbopfhaa.Ax
