/- The abstract machine: a region whose order is open, told by which operations are done. -/
import Derived.Test.YtdlanbfbbopfhaaAx22
import Derived.KernelRfl
set_option linter.unusedVariables false
set_option linter.unusedSimpArgs false
namespace Go.Proofs.Ytdlanbfbbopfhaa.Ax
open Go Go.RowKit
def drawOK2 (n : Nat) (ops : List Oper) : Bool :=
  backE ops && uniqueD (dsts ops) && ops.all fun o => match o.dst with | some d => Nat.blt d n | none => true
theorem SW.drawS {P : Program} {n : Nat} {id : Nat} {ops : Array Oper} {Q : BPost} {fr : Fr} {H : Heap} (R : (Nat → Bool) → List Value → Heap → Prop) (hm : P.follows .mixedOrders = true) (hok : drawOK2 n ops.toList = true) (h0 : ∃ V, R (fun _ => false) V H)
    (step : ∀ (i : Nat) (o : Oper) (L : Nat → Bool) (V : List Value) (K : Heap), ops.toList[i]? = some o → L i = false → (∀ j, ahead (masks ops.toList) i j = true → L j = true) → (∀ j, j < ops.size → ahead (masks ops.toList) j i = true → L j = false) → R L V K →
      wantK ops.toList (envOf ops.toList (masks ops.toList) V fr i) o.guard
        (boper P o (envOf ops.toList (masks ops.toList) V fr i) K fun v H' => ∃ V', R (fun j => L j || decide (j = i)) V' H' ∧ V'.getD i undef = v ∧ ∀ (j : Nat), j < ops.size → L j = true → V'.getD j undef = V.getD j undef)
        (∃ V', R (fun j => L j || decide (j = i)) V' K ∧ V'.getD i undef = undef ∧ ∀ (j : Nat), j < ops.size → L j = true → V'.getD j undef = V.getD j undef))
    (fin : ∀ V H', R (fun i => decide (i < ops.size)) V H' → Q .normal (endOf ops.toList V fr) H') : SW P n (.region id ops true) Q fr H := by
  simp only [drawOK2, Bool.and_eq_true, List.all_eq_true] at hok
  obtain ⟨⟨hback, huniq⟩, hdst⟩ := hok
  refine ⟨fun w0 ι a w hw hf hd => wp_region_any hm ?_⟩
  have uniq : ∀ {i j d : Nat} {o o' : Oper}, ops.toList[i]? = some o → ops.toList[j]? = some o' → o.dst = some d → o'.dst = some d → i = j := by
    intro i j d o o' h1 h2 h3 h4
    exact uniqueD_spec huniq (i := i) (j := j) (d := d) (by simp [dsts] at h1 ⊢; exact ⟨o, h1, h3⟩) (by simp [dsts] at h2 ⊢; exact ⟨o', h2, h4⟩)
  have lt_of : ∀ {i : Nat} {o : Oper}, ops.toList[i]? = some o → i < ops.size := fun h => by have := (List.getElem?_eq_some_iff.1 h).1; simpa using this
  -- the state of a region that is under way
  have go : ∀ (fuel : Nat) (listed : Array Bool) (ι1 : List Pl) (a : Act) (w : World), listed.size = ops.size →
      fuel + (List.range ops.size).countP (fun i => listed.getD i false) = ops.size → DownC ops.toList (fun i => listed.getD i false = true) → Ext ι ι1 →
      (∃ V K, R (fun i => listed.getD i false) V K ∧ WR P w0 ι1 K w ∧ (∀ (j : Nat) (o : Oper) (d : Nat), ops.toList[j]? = some o → o.dst = some d → listed.getD j false = true → VR ι1 (V.getD j undef) (a.tmps.getD d undef))) → a.tmps.size = n → a.defers = [] →
      (∀ (t : Nat) (v : Value), getF fr t = some v → (∀ (j : Nat) (o : Oper), ops.toList[j]? = some o → o.dst = some t → listed.getD j false = false) → t < n ∧ VR ι1 v (a.tmps.getD t undef)) →
      wpAny P .any ops (LB P n w0 ι Q) fuel listed a w := by
    intro fuel
    induction fuel with
    | zero =>
      intro listed ι1 a w hsz hcnt hdown hx hwx hn hd hv2
      obtain ⟨V, K, hRK, hw, hv1⟩ := hwx
      have hall : ∀ i, i < ops.size → listed.getD i false = true := by
        rw [Nat.zero_add] at hcnt
        have := List.countP_eq_length (p := fun i => listed.getD i false) (l := List.range ops.size)
        rw [List.length_range] at this
        intro i hi
        exact this.1 hcnt i (List.mem_range.2 hi)
      have hready : Region.ready .any ops listed = [] := by
        rw [List.eq_nil_iff_forall_not_mem]
        intro j hj
        obtain ⟨h1, o, h2, _⟩ := mem_ready.1 hj
        have hlt := (Array.getElem?_eq_some_iff.1 h2).1
        have := hall j hlt
        rw [Array.getD_eq_getD_getElem?, Array.getElem?_eq_getElem (by omega)] at this h1
        simp only [Option.getD_some] at this h1
        rw [h1] at this; simp at this
      refine ⟨hready, (LB.intro (e := .normal) (fr := endOf ops.toList V fr) rfl hw ⟨hn, fun t v ht => ?_⟩ hd ?_).ext hx⟩
      · unfold endOf at ht
        rcases getF_append ht with h | h
        · simp only [List.mem_filterMap, Prod.exists] at h
          obtain ⟨o, j, hj, h⟩ := h
          have ho := List.mem_zipIdx_iff_getElem?.1 hj
          simp only at ho h
          split at h
          · rename_i d hdd
            simp only [Option.some.injEq, Prod.mk.injEq] at h
            obtain ⟨rfl, rfl⟩ := h
            have h3 := hdst o (List.mem_of_getElem? ho)
            rw [hdd] at h3
            exact ⟨by simpa [Nat.blt_eq] using h3, hv1 j o _ ho hdd (hall j (lt_of ho))⟩
          · simp at h
        · by_cases hex : ∃ (j : Nat) (o : Oper), ops.toList[j]? = some o ∧ o.dst = some t
          · -- it has been written: then the first part tells it
            exfalso
            obtain ⟨j, o, ho, hdd⟩ := hex
            refine h.1 (V.getD j undef) ?_
            simp only [List.mem_filterMap, Prod.exists]
            exact ⟨o, j, List.mem_zipIdx_iff_getElem?.2 ho, by simp only [hdd]⟩
          · exact hv2 t v h.2 fun j o ho hdd => absurd ⟨j, o, ho, hdd⟩ hex
      · have : (fun i => listed.getD i false) = fun i => decide (i < ops.size) := by
          funext i
          by_cases hi : i < ops.size
          · rw [hall i hi]; simp [hi]
          · rw [Array.getD_eq_getD_getElem?, Array.getElem?_eq_none (by omega)]; simp [hi]
        rw [this] at hRK
        exact fin V K hRK
    | succ fuel ih =>
      intro listed ι1 a w hsz hcnt hdown hx hwx hn hd hv2
      obtain ⟨V, K, hRK, hw, hv1⟩ := hwx
      refine ⟨fun hempty => ?_, fun i hi => ?_⟩
      · -- something is ready
        exfalso
        have hne : ∃ i, i < ops.size ∧ listed.getD i false = false := by
          apply Classical.byContradiction
          intro hno
          have : (List.range ops.size).countP (fun i => listed.getD i false) = ops.size := by
            have h1 := (List.countP_eq_length (p := fun i => listed.getD i false) (l := List.range ops.size)).2 (fun i hi => by
              have : ¬ (listed.getD i false = false) := fun h => hno ⟨i, List.mem_range.1 hi, h⟩
              simpa using this)
            rwa [List.length_range] at h1
          omega
        have key : ∀ m, ∀ i, i ≤ m → i < ops.size → listed.getD i false = false → ∃ j, j ∈ Region.ready .any ops listed := by
          intro m
          induction m with
          | zero =>
            intro i hi hlt hl
            refine ⟨i, mem_ready.2 ⟨?_, ops[i], by simp [hlt], fun e he hb => ?_⟩⟩
            · rw [Array.getD_eq_getD_getElem?, Array.getElem?_eq_getElem (by omega)] at hl ⊢; exact hl
            · have := backE_spec hback (i := i) (o := ops[i]) (by simp [hlt]) (by simpa using he) hb
              omega
          | succ m ihm =>
            intro i hi hlt hl
            by_cases hall : ∀ e ∈ ops[i].after, Region.binds .any e = true → listed.getD e.on false = true
            · refine ⟨i, mem_ready.2 ⟨?_, ops[i], by simp [hlt], hall⟩⟩
              rw [Array.getD_eq_getD_getElem?, Array.getElem?_eq_getElem (by omega)] at hl ⊢; exact hl
            · simp only [Classical.not_forall, Bool.not_eq_true] at hall
              obtain ⟨e, he, hb, hle⟩ := hall
              have := backE_spec hback (i := i) (o := ops[i]) (by simp [hlt]) (by simpa using he) hb
              exact ihm e.on (by omega) (by omega) hle
        obtain ⟨i, hlt, hl⟩ := hne
        obtain ⟨j, hj⟩ := key i i (Nat.le_refl _) hlt hl
        rw [hempty] at hj
        simp at hj
      · obtain ⟨hl1, o, ho, hpre⟩ := mem_ready.1 hi
        have hlt : i < ops.size := (Array.getElem?_eq_some_iff.1 ho).1
        have hol : ops.toList[i]? = some o := by rw [Array.getElem?_toList]; exact ho
        have hl : listed.getD i false = false := by
          rw [Array.getD_eq_getD_getElem?, Array.getElem?_eq_getElem (by omega)] at hl1 ⊢; exact hl1
        have hset : ∀ j, (listed.setIfInBounds i true).getD j false = (listed.getD j false || decide (j = i)) := by
          intro j
          rw [Array.getD_eq_getD_getElem?, Array.getD_eq_getD_getElem?, Array.getElem?_setIfInBounds]
          by_cases hji : i = j
          · subst hji; rw [if_pos rfl, if_pos (by omega)]; simp
          · rw [if_neg hji]; simp [show ¬ j = i from fun h => hji h.symm]
        -- what is ahead of it is listed; what it is ahead of is not
        have hah : ∀ j, ahead (masks ops.toList) i j = true → listed.getD j false = true := by
          intro j hj
          obtain ⟨acc', h1, h2, h3⟩ := masksFrom_get ops.toList [] i o hol
          simp only [List.length_nil, Nat.zero_add] at h1 h2
          unfold ahead masks at hj
          rw [h2] at hj
          obtain ⟨e, he, hp, h4⟩ := maskOf_bit hj
          have hlt2 := backE_spec hback hol he hp
          have hle := hpre e (by simpa using he) hp
          rcases h4 with rfl | h4
          · exact hle
          · rw [h3 _ (by omega)] at h4
            exact ahead_listed hback hdown e.on e.on j (Nat.le_refl _) (by simp; omega) hle h4
        have hbh : ∀ j, j < ops.size → ahead (masks ops.toList) j i = true → listed.getD j false = false := by
          intro j hj h
          cases hlj : listed.getD j false with
          | false => rfl
          | true =>
            have := ahead_listed hback hdown j j i (Nat.le_refl _) (by simpa using hj) hlj h
            rw [hl] at this; simp at this
        -- what is known
        have henv : FB n ι1 (envOf ops.toList (masks ops.toList) V fr i) a := by
          refine ⟨hn, fun t v ht => ?_⟩
          unfold envOf at ht
          rcases getF_append ht with h | h
          · simp only [List.mem_filterMap, Prod.exists] at h
            obtain ⟨o', j, hj, h⟩ := h
            have ho' := List.mem_zipIdx_iff_getElem?.1 hj
            simp only at ho' h
            split at h
            · rename_i d hdd
              split at h
              · rename_i haj
                simp only [Option.some.injEq, Prod.mk.injEq] at h
                obtain ⟨rfl, rfl⟩ := h
                have h3 := hdst o' (List.mem_of_getElem? ho')
                rw [hdd] at h3
                exact ⟨by simpa [Nat.blt_eq] using h3, hv1 j o' _ ho' hdd (hah j haj)⟩
              · simp at h
            · simp at h
          · obtain ⟨h1, h2⟩ := getF_filter (q := fun t => (ops.toList.zipIdx).all fun y => match y.1.dst with | some d => !Nat.beq d t || Nat.beq y.2 i || ahead (masks ops.toList) y.2 i | none => true) h.2
            refine hv2 t v h2 fun j o' ho' hdd => ?_
            rw [List.all_eq_true] at h1
            have h3 := h1 (o', j) (List.mem_zipIdx_iff_getElem?.2 ho')
            simp only [hdd, Nat.beq_refl, Bool.not_true, Bool.false_or, Bool.or_eq_true] at h3
            rcases h3 with h3 | h3
            · have := Nat.eq_of_beq_eq_true h3; subst this; exact hl
            · exact hbh j (lt_of ho') h3
        -- what comes behind
        have next : ∀ (v cv : Value) (H' : Heap) (ι2 : List Pl) (w' : World) (V' : List Value), v = V'.getD i undef → R (fun j => listed.getD j false || decide (j = i)) V' H' →
            (∀ j, j < ops.size → listed.getD j false = true → V'.getD j undef = V.getD j undef) →
            Ext ι1 ι2 → WR P w0 ι2 H' w' → VR ι2 v cv → wpAny P .any ops (LB P n w0 ι Q) fuel (listed.setIfInBounds i true) (a.put o.dst cv) w' := by
          intro v cv H' ι2 w' V' hv hH hag hx2 hw2 hr
          subst hv
          have hfun : (fun j => (listed.setIfInBounds i true).getD j false) = fun j => listed.getD j false || decide (j = i) := funext hset
          refine ih (listed.setIfInBounds i true) ι2 (a.put o.dst cv) w' (by simpa using hsz) ?_ ?_ (hx.trans hx2) ⟨V', H', by rw [hfun]; exact hH, hw2, ?_⟩ ?_ (by rw [put_defers]; exact hd) ?_
          · have := count_add (l := List.range ops.size) List.nodup_range (List.mem_range.2 hlt) (fun j => listed.getD j false) (fun j => (listed.setIfInBounds i true).getD j false) hl hset
            omega
          · intro j oj hoj hLj e he hp
            simp only [hset, Bool.or_eq_true, decide_eq_true_eq] at hLj ⊢
            rcases hLj with hLj | rfl
            · exact .inl (hdown j oj hoj hLj e he hp)
            · rw [hol] at hoj; simp only [Option.some.injEq] at hoj; subst hoj
              exact .inl (hpre e (by simpa using he) hp)
          · intro j oj d hoj hdd hLj
            rw [hset] at hLj
            simp only [Bool.or_eq_true, decide_eq_true_eq] at hLj
            by_cases hji : j = i
            · subst hji
              rw [hol] at hoj; simp only [Option.some.injEq] at hoj; subst hoj
              have h3 := hdst o (List.mem_of_getElem? hol)
              rw [hdd] at h3 ⊢
              simp only [Nat.blt_eq] at h3
              simp only [Act.put]
              rw [Array.getD_eq_getD_getElem? (xs := a.tmps.setIfInBounds _ _), Array.getElem?_setIfInBounds, if_pos rfl, if_pos (by omega)]
              exact hr
            · have hLj' := hLj.resolve_right hji
              rw [hag j (lt_of hoj) hLj']
              have h4 := (hv1 j oj d hoj hdd hLj').ext hx2
              cases hod : o.dst with
              | none => exact h4
              | some d' =>
                have hne : d' ≠ d := fun h => by subst h; exact hji (uniq hoj hol hdd hod)
                simp only [Act.put]
                rw [Array.getD_eq_getD_getElem? (xs := a.tmps.setIfInBounds _ _), Array.getElem?_setIfInBounds, if_neg hne]
                rwa [Array.getD_eq_getD_getElem? (xs := a.tmps)] at h4
          · cases hod : o.dst with
            | none => exact hn
            | some d => simp [Act.put, hn]
          · intro t v ht hno
            obtain ⟨h4, h5⟩ := hv2 t v ht fun j oj hoj hdd => by
              have := hno j oj hoj hdd
              rw [hset] at this
              simp only [Bool.or_eq_false_iff] at this
              exact this.1
            refine ⟨h4, ?_⟩
            have h5 := h5.ext hx2
            cases hod : o.dst with
            | none => exact h5
            | some d' =>
              have hne : d' ≠ t := fun h => by
                subst h
                have := hno i o hol hod
                rw [hset] at this
                simp at this
              simp only [Act.put]
              rw [Array.getD_eq_getD_getElem?, Array.getElem?_setIfInBounds, if_neg hne]
              rwa [Array.getD_eq_getD_getElem?] at h5
        unfold wpOp
        rw [ho]
        simp only
        rcases wantK_sound henv (step i o _ V K hol hl hah hbh hRK) with ⟨h1, h⟩ | ⟨h1, h⟩
        · rw [if_pos h1]
          refine .inl (boper_sound hw henv h fun v H' ι' cv w' k h1 h2 h3 => ?_)
          obtain ⟨V', k1, k2, k3⟩ := k
          exact next v cv H' ι' w' V' k2.symm k1 k3 h1 h2 h3
        · rw [if_neg (by simp [h1])]
          obtain ⟨V', k1, k2, k3⟩ := h
          exact next undef undef K ι1 w V' k2.symm k1 k3 (.refl _) hw (.undef ι1)
  obtain ⟨V0, hV0⟩ := h0
  refine go ops.size _ ι a _ (by simp) ?_ ?_ (.refl _) ⟨V0, H, ?_, hw.drew, ?_⟩ hf.size hd ?_
  · have : (List.range ops.size).countP (fun i => (Array.replicate ops.size false).getD i false) = 0 := by
      rw [List.countP_eq_zero]
      intro i hi
      have := List.mem_range.1 hi
      simp [Array.getD_eq_getD_getElem?, this]
    omega
  · intro i o ho hL
    have := lt_of ho
    simp [Array.getD_eq_getD_getElem?, this] at hL
  · have : (fun i => (Array.replicate ops.size false).getD i false) = fun _ => false := by
      funext i
      by_cases hi : i < ops.size
      · simp [Array.getD_eq_getD_getElem?, hi]
      · rw [Array.getD_eq_getD_getElem?, Array.getElem?_eq_none (by simp; omega)]; rfl
    rw [this]
    exact hV0
  · intro j o d ho hdd hL
    have := lt_of ho
    simp [Array.getD_eq_getD_getElem?, this] at hL
  · intro t v ht _
    exact hf.val t v ht

end Go.Proofs.Ytdlanbfbbopfhaa.Ax
