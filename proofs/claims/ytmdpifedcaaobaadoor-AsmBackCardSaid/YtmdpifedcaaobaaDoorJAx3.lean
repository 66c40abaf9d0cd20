/- The abstract machine: a region whose order is open, told by which operations are done. -/
import Derived.KernelRfl
import Derived.Test.YtmdpifedcaaobaaDoorJAx2
set_option linter.unusedVariables false
set_option linter.unusedSimpArgs false
namespace Go.Proofs.YtmdpifedcaaobaaDoor.Ax
open Go Go.RowKit
def drawOK2 (n : Nat) (ops : List Oper) : Bool :=
  backE ops && uniqueD (dsts ops) && ops.all fun o => match o.dst with | some d => Nat.blt d n | none => true
theorem SW.drawS {P : Program} {n : Nat} {id : Nat} {ops : Array Oper} {Q : BPost} {fr : Fr} {H : Heap} (R : (Nat → Bool) → List Value → Heap → Prop) (hm : P.follows .mixedOrders = true) (hok : drawOK2 n ops.toList = true) (h0 : ∃ V, R (fun _ => false) V H)
    (step : ∀ (i : Nat) (o : Oper) (L : Nat → Bool) (V : List Value) (K : Heap), ops.toList[i]? = some o → L i = false → (∀ j, ahead (masks ops.toList) i j = true → L j = true) → (∀ j, j < ops.size → ahead (masks ops.toList) j i = true → L j = false) → R L V K →
      wantK ops.toList (envOf ops.toList (masks ops.toList) V fr i) o.guard
        (boper P o (envOf ops.toList (masks ops.toList) V fr i) K fun v H' => ∃ V', R (fun j => L j || decide (j = i)) V' H' ∧ V'.getD i undef = v ∧ ∀ (j : Nat), j < ops.size → L j = true → V'.getD j undef = V.getD j undef)
        (∃ V', R (fun j => L j || decide (j = i)) V' K ∧ V'.getD i undef = undef ∧ ∀ (j : Nat), j < ops.size → L j = true → V'.getD j undef = V.getD j undef))
    (fin : ∀ V H', R (fun i => decide (i < ops.size)) V H' → Q .normal (endOf ops.toList V fr) H') : SW P n (.region id ops true) Q fr H := by
  simp only [drawOK2, Bool.and_eq_true, List.all_eq_true] at hok
  obtain ⟨⟨hback, huniq⟩, hdst⟩ := hok
  refine ⟨fun ro ds w0 ι a w hw hf hd => wpIn_region_any hm ?_⟩
  have uniq : ∀ {i j d : Nat} {o o' : Oper}, ops.toList[i]? = some o → ops.toList[j]? = some o' → o.dst = some d → o'.dst = some d → i = j := by
    intro i j d o o' h1 h2 h3 h4
    exact uniqueD_spec huniq (i := i) (j := j) (d := d) (by simp [dsts] at h1 ⊢; exact ⟨o, h1, h3⟩) (by simp [dsts] at h2 ⊢; exact ⟨o', h2, h4⟩)
  have lt_of : ∀ {i : Nat} {o : Oper}, ops.toList[i]? = some o → i < ops.size := fun h => by have := (List.getElem?_eq_some_iff.1 h).1; simpa using this
  -- the state of a region that is under way
  have go : ∀ (fuel : Nat) (listed : Array Bool) (ι1 : List Pl) (a : Act) (w : World), listed.size = ops.size →
      fuel + (List.range ops.size).countP (fun i => listed.getD i false) = ops.size → DownC ops.toList (fun i => listed.getD i false = true) → Ext ι ι1 →
      (∃ V K, R (fun i => listed.getD i false) V K ∧ WR P w0 ι1 K w ∧ (∀ (j : Nat) (o : Oper) (d : Nat), ops.toList[j]? = some o → o.dst = some d → listed.getD j false = true → VR ι1 (V.getD j undef) (a.tmps.getD d undef))) → a.tmps.size = n → a.defers = ds →
      (∀ (t : Nat) (v : Value), getF fr t = some v → (∀ (j : Nat) (o : Oper), ops.toList[j]? = some o → o.dst = some t → listed.getD j false = false) → t < n ∧ VR ι1 v (a.tmps.getD t undef)) →
      wpAnyIn (rF ro) 0 P .any ops (LB P n w0 ι ds Q) fuel listed a w := by
    intro fuel
    induction fuel with
    | zero =>
      intro listed ι1 a w hsz hcnt hdown hx hwx hn hd hv2
      obtain ⟨V, K, hRK, hw, hv1⟩ := hwx
      have hall : ∀ i, i < ops.size → listed.getD i false = true := by
        rw [Nat.zero_add] at hcnt
        have := List.countP_eq_length (p := fun i => listed.getD i false) (l := List.range ops.size)
        rw [List.length_range] at this
        intro i hi
        exact this.1 hcnt i (List.mem_range.2 hi)
      have hready : Region.ready .any ops listed = [] := by
        rw [List.eq_nil_iff_forall_not_mem]
        intro j hj
        obtain ⟨h1, o, h2, _⟩ := mem_ready.1 hj
        have hlt := (Array.getElem?_eq_some_iff.1 h2).1
        have := hall j hlt
        rw [Array.getD_eq_getD_getElem?, Array.getElem?_eq_getElem (by omega)] at this h1
        simp only [Option.getD_some] at this h1
        rw [h1] at this; simp at this
      refine ⟨hready, (LB.intro (e := .normal) (fr := endOf ops.toList V fr) rfl hw ⟨hn, fun t v ht => ?_⟩ hd ?_).ext hx⟩
      · unfold endOf at ht
        rcases getF_append ht with h | h
        · simp only [List.mem_filterMap, Prod.exists] at h
          obtain ⟨o, j, hj, h⟩ := h
          have ho := List.mem_zipIdx_iff_getElem?.1 hj
          simp only at ho h
          split at h
          · rename_i d hdd
            simp only [Option.some.injEq, Prod.mk.injEq] at h
            obtain ⟨rfl, rfl⟩ := h
            have h3 := hdst o (List.mem_of_getElem? ho)
            rw [hdd] at h3
            exact ⟨by simpa [Nat.blt_eq] using h3, hv1 j o _ ho hdd (hall j (lt_of ho))⟩
          · simp at h
        · by_cases hex : ∃ (j : Nat) (o : Oper), ops.toList[j]? = some o ∧ o.dst = some t
          · -- it has been written: then the first part tells it
            exfalso
            obtain ⟨j, o, ho, hdd⟩ := hex
            refine h.1 (V.getD j undef) ?_
            simp only [List.mem_filterMap, Prod.exists]
            exact ⟨o, j, List.mem_zipIdx_iff_getElem?.2 ho, by simp only [hdd]⟩
          · exact hv2 t v h.2 fun j o ho hdd => absurd ⟨j, o, ho, hdd⟩ hex
      · have : (fun i => listed.getD i false) = fun i => decide (i < ops.size) := by
          funext i
          by_cases hi : i < ops.size
          · rw [hall i hi]; simp [hi]
          · rw [Array.getD_eq_getD_getElem?, Array.getElem?_eq_none (by omega)]; simp [hi]
        rw [this] at hRK
        exact fin V K hRK
    | succ fuel ih =>
      intro listed ι1 a w hsz hcnt hdown hx hwx hn hd hv2
      obtain ⟨V, K, hRK, hw, hv1⟩ := hwx
      refine ⟨fun hempty => ?_, fun i hi => ?_⟩
      · -- something is ready
        exfalso
        have hne : ∃ i, i < ops.size ∧ listed.getD i false = false := by
          apply Classical.byContradiction
          intro hno
          have : (List.range ops.size).countP (fun i => listed.getD i false) = ops.size := by
            have h1 := (List.countP_eq_length (p := fun i => listed.getD i false) (l := List.range ops.size)).2 (fun i hi => by
              have : ¬ (listed.getD i false = false) := fun h => hno ⟨i, List.mem_range.1 hi, h⟩
              simpa using this)
            rwa [List.length_range] at h1
          omega
        have key : ∀ m, ∀ i, i ≤ m → i < ops.size → listed.getD i false = false → ∃ j, j ∈ Region.ready .any ops listed := by
          intro m
          induction m with
          | zero =>
            intro i hi hlt hl
            refine ⟨i, mem_ready.2 ⟨?_, ops[i], by simp [hlt], fun e he hb => ?_⟩⟩
            · rw [Array.getD_eq_getD_getElem?, Array.getElem?_eq_getElem (by omega)] at hl ⊢; exact hl
            · have := backE_spec hback (i := i) (o := ops[i]) (by simp [hlt]) (by simpa using he) hb
              omega
          | succ m ihm =>
            intro i hi hlt hl
            by_cases hall : ∀ e ∈ ops[i].after, Region.binds .any e = true → listed.getD e.on false = true
            · refine ⟨i, mem_ready.2 ⟨?_, ops[i], by simp [hlt], hall⟩⟩
              rw [Array.getD_eq_getD_getElem?, Array.getElem?_eq_getElem (by omega)] at hl ⊢; exact hl
            · simp only [Classical.not_forall, Bool.not_eq_true] at hall
              obtain ⟨e, he, hb, hle⟩ := hall
              have := backE_spec hback (i := i) (o := ops[i]) (by simp [hlt]) (by simpa using he) hb
              exact ihm e.on (by omega) (by omega) hle
        obtain ⟨i, hlt, hl⟩ := hne
        obtain ⟨j, hj⟩ := key i i (Nat.le_refl _) hlt hl
        rw [hempty] at hj
        simp at hj
      · obtain ⟨hl1, o, ho, hpre⟩ := mem_ready.1 hi
        have hlt : i < ops.size := (Array.getElem?_eq_some_iff.1 ho).1
        have hol : ops.toList[i]? = some o := by rw [Array.getElem?_toList]; exact ho
        have hl : listed.getD i false = false := by
          rw [Array.getD_eq_getD_getElem?, Array.getElem?_eq_getElem (by omega)] at hl1 ⊢; exact hl1
        have hset : ∀ j, (listed.setIfInBounds i true).getD j false = (listed.getD j false || decide (j = i)) := by
          intro j
          rw [Array.getD_eq_getD_getElem?, Array.getD_eq_getD_getElem?, Array.getElem?_setIfInBounds]
          by_cases hji : i = j
          · subst hji; rw [if_pos rfl, if_pos (by omega)]; simp
          · rw [if_neg hji]; simp [show ¬ j = i from fun h => hji h.symm]
        -- what is ahead of it is listed; what it is ahead of is not
        have hah : ∀ j, ahead (masks ops.toList) i j = true → listed.getD j false = true := by
          intro j hj
          obtain ⟨acc', h1, h2, h3⟩ := masksFrom_get ops.toList [] i o hol
          simp only [List.length_nil, Nat.zero_add] at h1 h2
          unfold ahead masks at hj
          rw [h2] at hj
          obtain ⟨e, he, hp, h4⟩ := maskOf_bit hj
          have hlt2 := backE_spec hback hol he hp
          have hle := hpre e (by simpa using he) hp
          rcases h4 with rfl | h4
          · exact hle
          · rw [h3 _ (by omega)] at h4
            exact ahead_listed hback hdown e.on e.on j (Nat.le_refl _) (by simp; omega) hle h4
        have hbh : ∀ j, j < ops.size → ahead (masks ops.toList) j i = true → listed.getD j false = false := by
          intro j hj h
          cases hlj : listed.getD j false with
          | false => rfl
          | true =>
            have := ahead_listed hback hdown j j i (Nat.le_refl _) (by simpa using hj) hlj h
            rw [hl] at this; simp at this
        -- what is known
        have henv : FB n ι1 (envOf ops.toList (masks ops.toList) V fr i) a := by
          refine ⟨hn, fun t v ht => ?_⟩
          unfold envOf at ht
          rcases getF_append ht with h | h
          · simp only [List.mem_filterMap, Prod.exists] at h
            obtain ⟨o', j, hj, h⟩ := h
            have ho' := List.mem_zipIdx_iff_getElem?.1 hj
            simp only at ho' h
            split at h
            · rename_i d hdd
              split at h
              · rename_i haj
                simp only [Option.some.injEq, Prod.mk.injEq] at h
                obtain ⟨rfl, rfl⟩ := h
                have h3 := hdst o' (List.mem_of_getElem? ho')
                rw [hdd] at h3
                exact ⟨by simpa [Nat.blt_eq] using h3, hv1 j o' _ ho' hdd (hah j haj)⟩
              · simp at h
            · simp at h
          · obtain ⟨h1, h2⟩ := getF_filter (q := fun t => (ops.toList.zipIdx).all fun y => match y.1.dst with | some d => !Nat.beq d t || Nat.beq y.2 i || ahead (masks ops.toList) y.2 i | none => true) h.2
            refine hv2 t v h2 fun j o' ho' hdd => ?_
            rw [List.all_eq_true] at h1
            have h3 := h1 (o', j) (List.mem_zipIdx_iff_getElem?.2 ho')
            simp only [hdd, Nat.beq_refl, Bool.not_true, Bool.false_or, Bool.or_eq_true] at h3
            rcases h3 with h3 | h3
            · have := Nat.eq_of_beq_eq_true h3; subst this; exact hl
            · exact hbh j (lt_of ho') h3
        -- what comes behind
        have next : ∀ (v cv : Value) (H' : Heap) (ι2 : List Pl) (w' : World) (V' : List Value), v = V'.getD i undef → R (fun j => listed.getD j false || decide (j = i)) V' H' →
            (∀ j, j < ops.size → listed.getD j false = true → V'.getD j undef = V.getD j undef) →
            Ext ι1 ι2 → WR P w0 ι2 H' w' → VR ι2 v cv → wpAnyIn (rF ro) 0 P .any ops (LB P n w0 ι ds Q) fuel (listed.setIfInBounds i true) (a.put o.dst cv) w' := by
          intro v cv H' ι2 w' V' hv hH hag hx2 hw2 hr
          subst hv
          have hfun : (fun j => (listed.setIfInBounds i true).getD j false) = fun j => listed.getD j false || decide (j = i) := funext hset
          refine ih (listed.setIfInBounds i true) ι2 (a.put o.dst cv) w' (by simpa using hsz) ?_ ?_ (hx.trans hx2) ⟨V', H', by rw [hfun]; exact hH, hw2, ?_⟩ ?_ (by rw [put_defers]; exact hd) ?_
          · have := count_add (l := List.range ops.size) List.nodup_range (List.mem_range.2 hlt) (fun j => listed.getD j false) (fun j => (listed.setIfInBounds i true).getD j false) hl hset
            omega
          · intro j oj hoj hLj e he hp
            simp only [hset, Bool.or_eq_true, decide_eq_true_eq] at hLj ⊢
            rcases hLj with hLj | rfl
            · exact .inl (hdown j oj hoj hLj e he hp)
            · rw [hol] at hoj; simp only [Option.some.injEq] at hoj; subst hoj
              exact .inl (hpre e (by simpa using he) hp)
          · intro j oj d hoj hdd hLj
            rw [hset] at hLj
            simp only [Bool.or_eq_true, decide_eq_true_eq] at hLj
            by_cases hji : j = i
            · subst hji
              rw [hol] at hoj; simp only [Option.some.injEq] at hoj; subst hoj
              have h3 := hdst o (List.mem_of_getElem? hol)
              rw [hdd] at h3 ⊢
              simp only [Nat.blt_eq] at h3
              simp only [Act.put]
              rw [Array.getD_eq_getD_getElem? (xs := a.tmps.setIfInBounds _ _), Array.getElem?_setIfInBounds, if_pos rfl, if_pos (by omega)]
              exact hr
            · have hLj' := hLj.resolve_right hji
              rw [hag j (lt_of hoj) hLj']
              have h4 := (hv1 j oj d hoj hdd hLj').ext hx2
              cases hod : o.dst with
              | none => exact h4
              | some d' =>
                have hne : d' ≠ d := fun h => by subst h; exact hji (uniq hoj hol hdd hod)
                simp only [Act.put]
                rw [Array.getD_eq_getD_getElem? (xs := a.tmps.setIfInBounds _ _), Array.getElem?_setIfInBounds, if_neg hne]
                rwa [Array.getD_eq_getD_getElem? (xs := a.tmps)] at h4
          · cases hod : o.dst with
            | none => exact hn
            | some d => simp [Act.put, hn]
          · intro t v ht hno
            obtain ⟨h4, h5⟩ := hv2 t v ht fun j oj hoj hdd => by
              have := hno j oj hoj hdd
              rw [hset] at this
              simp only [Bool.or_eq_false_iff] at this
              exact this.1
            refine ⟨h4, ?_⟩
            have h5 := h5.ext hx2
            cases hod : o.dst with
            | none => exact h5
            | some d' =>
              have hne : d' ≠ t := fun h => by
                subst h
                have := hno i o hol hod
                rw [hset] at this
                simp at this
              simp only [Act.put]
              rw [Array.getD_eq_getD_getElem?, Array.getElem?_setIfInBounds, if_neg hne]
              rwa [Array.getD_eq_getD_getElem?] at h5
        unfold wpOpIn
        rw [ho]
        simp only
        rcases wantK_sound henv (step i o _ V K hol hl hah hbh hRK) with ⟨h1, h⟩ | ⟨h1, h⟩
        · rw [if_pos h1]
          refine (boper_sound hw henv h fun v H' ι' cv w' k h1 h2 h3 => ?_)
          obtain ⟨V', k1, k2, k3⟩ := k
          exact next v cv H' ι' w' V' k2.symm k1 k3 h1 h2 h3
        · rw [if_neg (by simp [h1])]
          obtain ⟨V', k1, k2, k3⟩ := h
          exact ⟨fun _ _ => trivial, next undef undef K ι1 w V' k2.symm k1 k3 (.refl _) hw (.undef ι1)⟩
  obtain ⟨V0, hV0⟩ := h0
  refine go ops.size _ ι a _ (by simp) ?_ ?_ (.refl _) ⟨V0, H, ?_, hw.drew, ?_⟩ hf.size hd ?_
  · have : (List.range ops.size).countP (fun i => (Array.replicate ops.size false).getD i false) = 0 := by
      rw [List.countP_eq_zero]
      intro i hi
      have := List.mem_range.1 hi
      simp [Array.getD_eq_getD_getElem?, this]
    omega
  · intro i o ho hL
    have := lt_of ho
    simp [Array.getD_eq_getD_getElem?, this] at hL
  · have : (fun i => (Array.replicate ops.size false).getD i false) = fun _ => false := by
      funext i
      by_cases hi : i < ops.size
      · simp [Array.getD_eq_getD_getElem?, hi]
      · rw [Array.getD_eq_getD_getElem?, Array.getElem?_eq_none (by simp; omega)]; rfl
    rw [this]
    exact hV0
  · intro j o d ho hdd hL
    have := lt_of ho
    simp [Array.getD_eq_getD_getElem?, this] at hL
  · intro t v ht _
    exact hf.val t v ht

end Go.Proofs.YtmdpifedcaaobaaDoor.Ax
/- The abstract machine: a region whose order is open, that lays two new blocks and fills each with a value: what is known while it is under way. -/
set_option linter.unusedVariables false
set_option linter.unusedSimpArgs false
namespace Go.Proofs.YtmdpifedcaaobaaDoor.Ax
open Go Go.RowKit
/-- nf operations that only read, then two new blocks (numbers nf, nf + 1), then a store into each. -/
structure R2 (nf : Nat) (C : List Value) (H0 : Heap) (z1 z2 x1 x2 : List Value) (L : Nat → Bool) (V : List Value) (K : Heap) : Prop where
  len : V.length = nf + 4
  val : ∀ j, j < nf → L j = true → V.getD j undef = C.getD j undef
  grow : Grow H0 K
  fst : L nf = true → ∃ a, H0.length ≤ a ∧ V.getD nf undef = .pointer (some ⟨a, 0, none⟩) ∧ K[a]? = some (.cells .var (if L (nf + 2) then x1 else z1))
  snd : L (nf + 1) = true → ∃ a, H0.length ≤ a ∧ V.getD (nf + 1) undef = .pointer (some ⟨a, 0, none⟩) ∧ K[a]? = some (.cells .var (if L (nf + 3) then x2 else z2))
  ne : L nf = true → L (nf + 1) = true → V.getD nf undef ≠ V.getD (nf + 1) undef
theorem getD_set {V : List Value} {i j : Nat} {v : Value} (hi : i < V.length) : (V.set i v).getD j undef = if j = i then v else V.getD j undef := by
  rw [List.getD_eq_getElem?_getD, List.getElem?_set, List.getD_eq_getElem?_getD]
  by_cases h : i = j
  · subst h; simp [hi]
  · rw [if_neg h, if_neg (fun e => h e.symm)]
abbrev R2.Next (nf : Nat) (C : List Value) (H0 : Heap) (z1 z2 x1 x2 : List Value) (L : Nat → Bool) (V : List Value) (i size : Nat) (v : Value) (K : Heap) : Prop :=
  ∃ V', R2 nf C H0 z1 z2 x1 x2 (fun j => L j || decide (j = i)) V' K ∧ V'.getD i undef = v ∧ ∀ (j : Nat), j < size → L j = true → V'.getD j undef = V.getD j undef
section
variable {nf : Nat} {C : List Value} {H0 : Heap} {z1 z2 x1 x2 : List Value} {L : Nat → Bool} {V : List Value} {K : Heap} {i size : Nat}
theorem R2.init (nf : Nat) (C : List Value) (H0 : Heap) (z1 z2 x1 x2 : List Value) : ∃ V, R2 nf C H0 z1 z2 x1 x2 (fun _ => false) V H0 :=
  ⟨List.replicate (nf + 4) undef, by simp, fun _ _ h => by simp at h, .refl _, fun h => by simp at h, fun h => by simp at h, fun h => by simp at h⟩
theorem R2.rest (h : R2 nf C H0 z1 z2 x1 x2 L V K) (hl : L i = false) (hi : i < nf + 4) (v : Value) : ∀ (j : Nat), j < size → L j = true → (V.set i v).getD j undef = V.getD j undef := by
  intro j _ hj
  rw [getD_set (by have := h.len; omega), if_neg (fun e => by subst e; rw [hl] at hj; simp at hj)]
theorem R2.float (h : R2 nf C H0 z1 z2 x1 x2 L V K) (hl : L i = false) (hi : i < nf) {v : Value} (hv : C.getD i undef = v) : R2.Next nf C H0 z1 z2 x1 x2 L V i size v K := by
  have hs := h.len
  have ne : ∀ j, nf ≤ j → (L j || decide (j = i)) = L j := fun j hj => by simp [show j ≠ i by omega]
  refine ⟨V.set i v, ⟨by simp [hs], fun j hj hL => ?_, h.grow, fun hL => ?_, fun hL => ?_, fun hL hL' => ?_⟩, by rw [getD_set (by omega), if_pos rfl], h.rest hl (by omega) v⟩
  · rw [getD_set (by omega)]
    split
    · rename_i e; subst e; exact hv.symm
    · rename_i e; refine h.val j hj ?_; simpa [e] using hL
  · simp only [ne _ (Nat.le_refl nf)] at hL
    obtain ⟨a, h1, h2, h3⟩ := h.fst hL
    simp only [ne (nf + 2) (by omega)]
    exact ⟨a, h1, by rw [getD_set (by omega), if_neg (by omega)]; exact h2, h3⟩
  · simp only [ne (nf + 1) (by omega)] at hL
    obtain ⟨a, h1, h2, h3⟩ := h.snd hL
    simp only [ne (nf + 3) (by omega)]
    exact ⟨a, h1, by rw [getD_set (by omega), if_neg (by omega)]; exact h2, h3⟩
  · simp only [ne _ (Nat.le_refl nf)] at hL
    simp only [ne (nf + 1) (by omega)] at hL'
    rw [getD_set (by omega), if_neg (by omega), getD_set (by omega), if_neg (by omega)]
    exact h.ne hL hL'
theorem R2.allocA (h : R2 nf C H0 z1 z2 x1 x2 L V K) (hi : i = nf) (hl : L i = false) (hs : L (nf + 2) = false) : R2.Next nf C H0 z1 z2 x1 x2 L V i size (.pointer (some ⟨K.length, 0, none⟩)) (K ++ [.cells .var z1]) := by
  subst hi
  have hs' := h.len
  refine ⟨V.set i (.pointer (some ⟨K.length, 0, none⟩)), ⟨by simp [hs'], fun j hj hL => ?_, h.grow.trans (.push _ _), fun _ => ?_, fun hL => ?_, fun _ hL' => ?_⟩, by rw [getD_set (by omega), if_pos rfl], h.rest hl (by omega) _⟩
  · rw [getD_set (by omega), if_neg (by omega)]
    refine h.val j hj ?_
    simpa [show j ≠ i by omega] using hL
  · refine ⟨K.length, h.grow.1, by rw [getD_set (by omega), if_pos rfl], ?_⟩
    simp [hs]
  · simp only [show (decide (i + 1 = i)) = false by simp, Bool.or_false] at hL
    obtain ⟨a, h1, h2, h3⟩ := h.snd hL
    refine ⟨a, h1, by rw [getD_set (by omega), if_neg (by omega)]; exact h2, ?_⟩
    simp only [show (decide (i + 3 = i)) = false by simp, Bool.or_false]
    rw [List.getElem?_append_left (lt_at h3)]; exact h3
  · simp only [show (decide (i + 1 = i)) = false by simp, Bool.or_false] at hL'
    obtain ⟨a, h1, h2, h3⟩ := h.snd hL'
    rw [getD_set (by omega), if_pos rfl, getD_set (by omega), if_neg (by omega), h2]
    have := lt_at h3
    intro e
    simp only [Value.pointer.injEq, Option.some.injEq, Addr.mk.injEq, and_true] at e
    omega
theorem R2.allocB (h : R2 nf C H0 z1 z2 x1 x2 L V K) (hi : i = nf + 1) (hl : L i = false) (hs : L (nf + 3) = false) : R2.Next nf C H0 z1 z2 x1 x2 L V i size (.pointer (some ⟨K.length, 0, none⟩)) (K ++ [.cells .var z2]) := by
  subst hi
  have hs' := h.len
  refine ⟨V.set (nf + 1) (.pointer (some ⟨K.length, 0, none⟩)), ⟨by simp [hs'], fun j hj hL => ?_, h.grow.trans (.push _ _), fun hL => ?_, fun _ => ?_, fun hL _ => ?_⟩, by rw [getD_set (by omega), if_pos rfl], h.rest hl (by omega) _⟩
  · rw [getD_set (by omega), if_neg (by omega)]
    refine h.val j hj ?_
    simpa [show j ≠ nf + 1 by omega] using hL
  · simp only [show (decide (nf = nf + 1)) = false by simp, Bool.or_false] at hL
    obtain ⟨a, h1, h2, h3⟩ := h.fst hL
    refine ⟨a, h1, by rw [getD_set (by omega), if_neg (by omega)]; exact h2, ?_⟩
    simp only [show (decide (nf + 2 = nf + 1)) = false by simp, Bool.or_false]
    rw [List.getElem?_append_left (lt_at h3)]; exact h3
  · refine ⟨K.length, h.grow.1, by rw [getD_set (by omega), if_pos rfl], ?_⟩
    simp [hs]
  · simp only [show (decide (nf = nf + 1)) = false by simp, Bool.or_false] at hL
    obtain ⟨a, h1, h2, h3⟩ := h.fst hL
    rw [getD_set (by omega), if_neg (by omega), getD_set (by omega), if_pos rfl, h2]
    have := lt_at h3
    intro e
    simp only [Value.pointer.injEq, Option.some.injEq, Addr.mk.injEq, and_true] at e
    omega
theorem R2.storeA (h : R2 nf C H0 z1 z2 x1 x2 L V K) (hi : i = nf + 2) (hl : L i = false) (h0 : L nf = true) {a : Nat} (ha : V.getD nf undef = .pointer (some ⟨a, 0, none⟩)) {K' : Heap} (hK : K'[a]? = some (.cells .var x1)) (hB : But a K K') : R2.Next nf C H0 z1 z2 x1 x2 L V i size undef K' := by
  subst hi
  have hs' := h.len
  obtain ⟨a', h1, h2, h3⟩ := h.fst h0
  rw [ha] at h2
  simp only [Value.pointer.injEq, Option.some.injEq, Addr.mk.injEq, and_true] at h2
  subst h2
  refine ⟨V.set (nf + 2) undef, ⟨by simp [hs'], fun j hj hL => ?_, h.grow.but_new hB h1, fun _ => ?_, fun hL => ?_, fun _ hL' => ?_⟩, by rw [getD_set (by omega), if_pos rfl], h.rest hl (by omega) _⟩
  · rw [getD_set (by omega), if_neg (by omega)]
    refine h.val j hj ?_
    simpa [show j ≠ nf + 2 by omega] using hL
  · refine ⟨a, h1, by rw [getD_set (by omega), if_neg (by omega)]; exact ha, ?_⟩
    simpa using hK
  · simp only [show (decide (nf + 1 = nf + 2)) = false by simp, Bool.or_false] at hL
    obtain ⟨b, k1, k2, k3⟩ := h.snd hL
    refine ⟨b, k1, by rw [getD_set (by omega), if_neg (by omega)]; exact k2, ?_⟩
    simp only [show (decide (nf + 3 = nf + 2)) = false by simp, Bool.or_false]
    refine hB.at k3 fun e => h.ne h0 hL ?_
    rw [ha, k2, e]
  · simp only [show (decide (nf + 1 = nf + 2)) = false by simp, Bool.or_false] at hL'
    rw [getD_set (by omega), if_neg (by omega), getD_set (by omega), if_neg (by omega)]
    exact h.ne h0 hL'
theorem R2.storeB (h : R2 nf C H0 z1 z2 x1 x2 L V K) (hi : i = nf + 3) (hl : L i = false) (h0 : L (nf + 1) = true) {a : Nat} (ha : V.getD (nf + 1) undef = .pointer (some ⟨a, 0, none⟩)) {K' : Heap} (hK : K'[a]? = some (.cells .var x2)) (hB : But a K K') : R2.Next nf C H0 z1 z2 x1 x2 L V i size undef K' := by
  subst hi
  have hs' := h.len
  obtain ⟨a', h1, h2, h3⟩ := h.snd h0
  rw [ha] at h2
  simp only [Value.pointer.injEq, Option.some.injEq, Addr.mk.injEq, and_true] at h2
  subst h2
  refine ⟨V.set (nf + 3) undef, ⟨by simp [hs'], fun j hj hL => ?_, h.grow.but_new hB h1, fun hL => ?_, fun _ => ?_, fun hL _ => ?_⟩, by rw [getD_set (by omega), if_pos rfl], h.rest hl (by omega) _⟩
  · rw [getD_set (by omega), if_neg (by omega)]
    refine h.val j hj ?_
    simpa [show j ≠ nf + 3 by omega] using hL
  · simp only [show (decide (nf = nf + 3)) = false by simp, Bool.or_false] at hL
    obtain ⟨b, k1, k2, k3⟩ := h.fst hL
    refine ⟨b, k1, by rw [getD_set (by omega), if_neg (by omega)]; exact k2, ?_⟩
    simp only [show (decide (nf + 2 = nf + 3)) = false by simp, Bool.or_false]
    refine hB.at k3 fun e => h.ne hL h0 ?_
    rw [ha, k2, e]
  · refine ⟨a, h1, by rw [getD_set (by omega), if_neg (by omega)]; exact ha, ?_⟩
    simpa using hK
  · simp only [show (decide (nf = nf + 3)) = false by simp, Bool.or_false] at hL
    rw [getD_set (by omega), if_neg (by omega), getD_set (by omega), if_neg (by omega)]
    exact h.ne hL h0
end
end Go.Proofs.YtmdpifedcaaobaaDoor.Ax
/- The abstract machine: a loop made by a label: what is ahead of the label, then each round from the label on. -/
set_option linter.unusedVariables false
set_option linter.unusedSimpArgs false
namespace Go.Proofs.YtmdpifedcaaobaaDoor.Ax
open Go Go.RowKit
/-- What is behind a label. -/
def behind : Code → Nat → Option Code
  | .seq x y, l => match x with
    | .label l' => match Nat.beq l' l with | true => some y | false => none
    | .region _ _ _ => behind y l
    | _ => none
  | _, _ => none
theorem behind_find {l : Nat} : ∀ {c r : Code}, behind c l = some r → findLabel c l = some (.seq .skip r) := by
  intro c
  induction c with
  | seq x y ihx ihy =>
    intro r h
    cases x with
    | label l' =>
      simp only [behind] at h
      cases hb : Nat.beq l' l with
      | true =>
        simp only [hb, Option.some.injEq] at h
        subst h
        have := Nat.eq_of_beq_eq_true hb
        subst this
        simp [findLabel]
      | false => simp [hb] at h
    | region id ops d =>
      simp only [behind] at h
      simp [findLabel, ihy h]
    | _ => simp [behind] at h
  | _ => intro r h; simp [behind] at h
/-- Code up to a label; there M is to hold. -/
def bCut (P : Program) (n l : Nat) : Code → BPost → (Fr → Heap → Prop) → Fr → Heap → Prop
  | .seq x y, Q, M => match x with
    | .label l' => match Nat.beq l' l with | true => M | false => fun _ _ => False
    | .region id ops d => bC P n (.region id ops d) (thenB (bCut P n l y Q M) Q)
    | _ => fun _ _ => False
  | _, _, _ => fun _ _ => False
theorem bCut_sound {P : Program} {n l : Nat} : ∀ (c : Code) (Q : BPost) (M : Fr → Heap → Prop) (fr : Fr) (H : Heap), bCut P n l c Q M fr H →
    (∀ r fr H, behind c l = some r → M fr H → SW P n r Q fr H) → SW P n c Q fr H := by
  intro c
  induction c with
  | seq x y ihx ihy =>
    intro Q M fr H h hM
    cases x with
    | label l' =>
      simp only [bCut] at h
      cases hb : Nat.beq l' l with
      | true =>
        simp only [hb] at h
        have h1 := hM y fr H (by simp [behind, hb]) h
        exact SW.seq (fun fr' H' => fr' = fr ∧ H' = H) (bC_sound _ _ _ _ ⟨rfl, rfl⟩) fun fr' H' ⟨e1, e2⟩ => by subst e1 e2; exact h1
      | false => simp [hb] at h
    | region id ops d =>
      simp only [bCut] at h
      exact SW.seq (bCut P n l y Q M) (bC_sound _ _ _ _ h) fun fr H hb => ihy Q M fr H hb fun r fr H hr => hM r fr H (by simp [behind, hr])
    | _ => simp [bCut] at h
  | _ => intro Q M fr H h hM; exact h.elim
/-- A scope of one label that is come to again and again. -/
theorem SW.scopeC {P : Program} {n : Nat} {c : Code} {Q : BPost} {fr : Fr} {H : Heap} {α : Type} (l : Nat) (r : Code) (F : α → Fr) (I : α → Heap → Prop) (μ : α → Nat) (hr : behind c l = some r)
    (first : bCut P n l c (scopeP c (fun _ => l) F I (fun _ => True) Q) (fun fr H => ∃ x, Has fr (F x) ∧ I x H) fr H)
    (step : ∀ x H, I x H → SW P n r (scopeP c (fun _ => l) F I (fun y => μ y < μ x) Q) (F x) H) : SW P n (.scope c) Q fr H := by
  have hf := behind_find hr
  have weak : ∀ x, ∀ e fr H, scopeP c (fun _ => l) F I (fun y => μ y < μ x) Q e fr H → scopeP c (fun _ => l) F I (fun _ => True) Q e fr H := by
    intro x e fr H h
    cases e with
    | goto l' =>
      simp only [scopeP] at h ⊢
      cases hl : findLabel c l' with
      | none => simpa [hl] using h
      | some r' =>
        simp only [hl] at h ⊢
        obtain ⟨y, h1, h2, h3, h4⟩ := h
        exact ⟨y, h1, h2, h3, trivial⟩
    | _ => exact h
  refine SW.scope (fun _ => l) F I μ (bCut_sound _ _ _ _ _ first fun r' fr H hr' hM => ?_) fun x H r' hI hr' => ?_
  · rw [hr] at hr'
    simp only [Option.some.injEq] at hr'
    subst hr'
    obtain ⟨x, hx, hI⟩ := hM
    exact SW.sub ((step x H hI).mono (weak x)) (Sub.of hx)
  · rw [hf] at hr'
    simp only [Option.some.injEq] at hr'
    subst hr'
    exact SW.seq (fun fr' H' => fr' = F x ∧ H' = H) (bC_sound _ _ _ _ ⟨rfl, rfl⟩) fun fr' H' ⟨e1, e2⟩ => by subst e1 e2; exact step x _ hI
end Go.Proofs.YtmdpifedcaaobaaDoor.Ax
/- The abstract machine: rows that are one's own, of elements of some cells: appended to, read and written; what stays, told by the types of rows. -/
set_option linter.unusedVariables false
set_option linter.unusedSimpArgs false
namespace Go.Proofs.YtmdpifedcaaobaaDoor.Ax
open Go Go.RowKit
structure RowOK (P : Program) (t e : TypeId) (k : Nat) : Prop where
  el : sliceElem P t = some e
  inf : ∃ i, P.info? e = some i ∧ i.size = k ∧ i.bytes ≤ 4096
  und : ∃ d, P.underlying t = some d ∧ noInt d = true
  k0 : k ≠ 0
  zs : ∃ z, tzero P e = some z ∧ z.length = k
/-- No row of a type. -/
def NotRow (e : TypeId) (X : Blk) : Prop := ∀ c, X ≠ .cells (.row e) c
/-- All stays but rows of one type, from a block on. -/
def FrR (n : Nat) (e : TypeId) (A B : Heap) : Prop := A.length ≤ B.length ∧ ∀ q X, A[q]? = some X → q < n ∨ NotRow e X → B[q]? = some X
theorem FrR.refl (n : Nat) (e : TypeId) (A : Heap) : FrR n e A A := ⟨Nat.le_refl _, fun _ _ h _ => h⟩
theorem FrR.trans {n : Nat} {e : TypeId} {A B C : Heap} (h : FrR n e A B) (k : FrR n e B C) : FrR n e A C := ⟨Nat.le_trans h.1 k.1, fun q X hq hx => k.2 q X (h.2 q X hq hx) hx⟩
theorem FrR.of {n : Nat} {e : TypeId} {A B : Heap} (h : Grow A B) : FrR n e A B := ⟨h.1, fun q X hq _ => h.at hq⟩
theorem FrR.grow {n : Nat} {e : TypeId} {A0 A B : Heap} (g : Grow A0 A) (h : FrR n e A B) (hn : A0.length ≤ n) : Grow A0 B :=
  ⟨Nat.le_trans g.1 h.1, fun q hq => by
    have h1 := g.2 q hq
    cases hx : A[q]? with
    | none => have := List.getElem?_eq_none_iff.1 hx; have := g.1; omega
    | some X => rw [← h1, hx]; exact h.2 q X hx (.inl (by omega))⟩
/-- A list that lies in a row that is one's own. -/
def OwnR {α : Type} (k : Nat) (e : TypeId) (f : Heap → List Value → α → Prop) (H : Heap) (sv : Value) (L : List α) : Prop :=
  (sv = .slice none 0 0 ∧ L = []) ∨ ∃ b c, sv = .slice (some ⟨b, 0, none⟩) L.length k ∧ H[b]? = some (.cells (.row e) c) ∧ c.length = L.length * k ∧ ∀ (i : Nat) x, L[i]? = some x → ∃ l, slotsOf c (i * k) k = some l ∧ f H l x
theorem OwnR.rl {α : Type} {k : Nat} {e : TypeId} {f : Heap → List Value → α → Prop} {H : Heap} {sv : Value} {L : List α} (h : OwnR k e f H sv L) : RL k f H sv L := by
  rcases h with h | ⟨b, c, h1, h2, h3, h4⟩
  · exact .inl h
  · exact .inr ⟨b, h1, .inr ⟨_, c, h2, h4⟩⟩
theorem OwnR.form {α : Type} {k : Nat} {e : TypeId} {f : Heap → List Value → α → Prop} {H : Heap} {sv : Value} {L : List α} (h : OwnR k e f H sv L) : ∃ a n m, sv = .slice a n m := by
  rcases h with ⟨h, _⟩ | ⟨b, c, h, _⟩ <;> exact ⟨_, _, _, h⟩
/-- Where it lies. -/
def blkIs (sv : Value) (b : Nat) : Prop := ∃ n k, sv = .slice (some ⟨b, 0, none⟩) n k
theorem OwnR.keep {α : Type} {k : Nat} {e : TypeId} {f : Heap → List Value → α → Prop} {H H' : Heap} {sv : Value} {L : List α} (h : OwnR k e f H sv L) (hb : ∀ b c, blkIs sv b → H[b]? = some (.cells (.row e) c) → H'[b]? = some (.cells (.row e) c)) (hf : ∀ l x, x ∈ L → f H l x → f H' l x) : OwnR k e f H' sv L := by
  rcases h with h | ⟨b, c, h1, h2, h3, h4⟩
  · exact .inl h
  · exact .inr ⟨b, c, h1, hb b c ⟨_, _, h1⟩ h2, h3, fun i x hx => let ⟨l, k1, k2⟩ := h4 i x hx; ⟨l, k1, hf l x (List.mem_of_getElem? hx) k2⟩⟩
theorem OwnR.keepR {α : Type} {k n : Nat} {e e' : TypeId} {f : Heap → List Value → α → Prop} {H H' : Heap} {sv : Value} {L : List α} (h : OwnR k e f H sv L) (hF : FrR n e' H H') (hne : e ≠ e') (hf : ∀ l x, x ∈ L → f H l x → f H' l x) : OwnR k e f H' sv L :=
  h.keep (fun b c _ hb => hF.2 b _ hb (.inr fun c' e1 => by simp only [Blk.cells.injEq, Mode.row.injEq] at e1; exact hne e1.1)) hf
theorem slots_app {c l : List Value} {i k n : Nat} (hc : c.length = n * k) (hl : l.length = k) : (∀ j w, j < n → slotsOf c (j * k) k = some w → slotsOf (c ++ l) (j * k) k = some w) ∧ slotsOf (c ++ l) (n * k) k = some l := by
  refine ⟨fun j w hj hw => ?_, ?_⟩
  · have hle : j * k + k ≤ c.length := by rw [hc, ← Nat.succ_mul]; exact Nat.mul_le_mul_right _ hj
    rw [slots_of (by rw [List.length_append]; omega)]
    rw [slots_of hle] at hw
    rw [← hw]
    congr 1
    rw [List.drop_append_of_le_length (by omega), List.take_append_of_le_length (by rw [List.length_drop]; omega)]
  · rw [slots_of (by rw [List.length_append]; omega), List.drop_append_of_le_length (by omega), List.drop_of_length_le (by omega), List.nil_append, List.take_of_length_le (by omega)]
/-- One element more. -/
theorem OwnR.append {α : Type} {P : Program} {t tx e : TypeId} {k n : Nat} (ok : RowOK P t e k) (okx : RowOK P tx e k) {f : Heap → List Value → α → Prop} {H : Heap} {sv : Value} {L : List α} {x : α} {l : List Value} {m2 : Mode} {b2 : Nat} (h : OwnR k e f H sv L)
    (hb2 : H[b2]? = some (.cells m2 l)) (hl : l.length = k) (hx : f H l x) (hsv : ∀ b, blkIs sv b → n ≤ b) (hn : n ≤ H.length) (hL : L.length ≤ 1000000) (hf : ∀ A B, FrR n e A B → ∀ l x, f A l x → f B l x) :
    ∃ H', aappend P t tx sv (.slice (some ⟨b2, 0, none⟩) 1 k) H = some (.slice (some ⟨H.length, 0, none⟩) (L.length + 1) k, H') ∧ OwnR k e f H' (.slice (some ⟨H.length, 0, none⟩) (L.length + 1) k) (L ++ [x]) ∧ FrR n e H H' ∧ ∀ q X, H[q]? = some X → ¬ blkIs sv q → H'[q]? = some X := by
  obtain ⟨he, ⟨i, hi, hk, hby⟩, ⟨d, hd, hni⟩, h0, ⟨z, hz, hzl⟩⟩ := ok
  obtain ⟨_, _, ⟨dx, hdx, hnx⟩, _, _⟩ := okx
  have hsrc : asrc k (.slice (some ⟨b2, 0, none⟩) 1 k) H = some (1, l) := src_some (off := 0) (by decide) (hblk_of hb2) (by rw [Nat.one_mul, slots_of (by omega), List.drop_zero, List.take_of_length_le (by omega)])
  rcases h with ⟨rfl, rfl⟩ | ⟨b, c, rfl, h2, h3, h4⟩
  · refine ⟨H ++ [.cells (.row e) l], ?_, .inr ⟨H.length, l, rfl, at_push _ _, by simp [hl], fun i x' hx' => ?_⟩, .of (.push _ _), fun q X hq _ => (Grow.push _ _).at hq⟩
    · exact append_nil (n := 1) he hi hk hdx hnx h0 (by simp [srcOk]) hz hzl hsrc (by decide) (by omega) (by unfold maxLen; omega)
    · cases i with
      | zero =>
        simp only [List.nil_append, List.getElem?_cons_zero, Option.some.injEq] at hx'
        subst hx'
        exact ⟨l, by rw [Nat.zero_mul, slots_of (by omega), List.drop_zero, List.take_of_length_le (by omega)], hf _ _ (.of (.push _ _)) _ _ hx⟩
      | succ i => simp at hx'
  · have hold : slotsOf c 0 (L.length * k) = some c := by rw [slots_of (by omega), List.drop_zero, List.take_of_length_le (by omega)]
    have hfr : FrR n e H (H.set b .dead ++ [.cells (.row e) (c ++ l)]) := by
      refine ⟨by simp, fun q X hq hX => ?_⟩
      have hqb : q ≠ b := by
        rintro rfl
        rcases hX with hX | hX
        · have := hsv q ⟨_, _, rfl⟩; omega
        · rw [h2] at hq; simp only [Option.some.injEq] at hq; exact hX c hq.symm
      rw [List.getElem?_append_left (by simpa using lt_at hq), List.getElem?_set_ne (by omega)]
      exact hq
    refine ⟨H.set b .dead ++ [.cells (.row e) (c ++ l)], ?_, .inr ⟨H.length, c ++ l, by rw [List.length_append]; rfl, ?_, by rw [List.length_append, List.length_append, h3, hl, List.length_singleton, Nat.succ_mul], fun i x' hx' => ?_⟩, hfr, fun q X hq hb => ?_⟩
    · refine append_row he hi hk hdx hnx h0 (by simp [srcOk]) hz hzl hsrc (by decide) h2 hold ?_ (by unfold maxLen; omega)
      have : (L.length + 1) * i.bytes ≤ 1000001 * 4096 := Nat.mul_le_mul (by omega) hby
      omega
    · rw [List.getElem?_append_right (by simp), List.length_set, Nat.sub_self]; rfl
    rotate_left
    · have hqb : q ≠ b := by rintro rfl; exact hb ⟨_, _, rfl⟩
      rw [List.getElem?_append_left (by simpa using lt_at hq), List.getElem?_set_ne (by omega)]
      exact hq
    · by_cases hi' : i < L.length
      · rw [List.getElem?_append_left hi'] at hx'
        obtain ⟨w, k1, k2⟩ := h4 i x' hx'
        exact ⟨w, (slots_app h3 hl (i := 0)).1 i w hi' k1, hf _ _ hfr _ _ k2⟩
      · have hil : i = L.length := by
          have := lt_of_get hx'
          simp at this; omega
        subst hil
        rw [List.getElem?_append_right (by omega), Nat.sub_self] at hx'
        simp only [List.getElem?_cons_zero, Option.some.injEq] at hx'
        subst hx'
        exact ⟨l, (slots_app h3 hl (i := 0)).2, hf _ _ hfr _ _ hx⟩
end Go.Proofs.YtmdpifedcaaobaaDoor.Ax
/- The abstract machine: a region whose order is open, done in its earliest order; a change may be of any kind where what reads the heap stays on its side of it. -/
set_option linter.unusedVariables false
set_option linter.unusedSimpArgs false
namespace Go.Proofs.YtmdpifedcaaobaaDoor.Ax
open Go Go.RowKit

/-- An operation's place in the earliest order: its number, what is ahead of it, which slots are not settled, does it change the heap. -/
abbrev HDat := Nat × List (Nat × Nat) × List Nat × Bool
def isPureO (o : Oper) : Bool :=
  match o.op with
  | .move _ | .assign _ | .pick .. | .build .. | .nilCheck _ | .binOp .. | .unOp .. | .makeFunc .. | .fieldAddr .. | .field .. | .indexAddr .. | .index .. | .extract .. => true
  | _ => false
/-- What does not read the heap says the same in any heap. -/
theorem pure_mono {P : Program} {o : Oper} {fr : Fr} {H : Heap} {K : OpK} (hm : isPureO o = true) (h : boper P o fr H K) : ∃ v, K v H ∧ ∀ (H' : Heap) (K' : OpK), K' v H' → boper P o fr H' K' := by
  obtain ⟨dst, op, ty, pos, after, guard⟩ := o
  cases op with
  | move x => obtain ⟨v, h, k⟩ := evK_iff (show evK fr x _ from h); exact ⟨v, h, fun H' K' k' => k _ k'⟩
  | assign x => obtain ⟨v, h, k⟩ := evK_iff (show evK fr x _ from h); exact ⟨v, h, fun H' K' k' => k _ k'⟩
  | pick c a b =>
    obtain ⟨v, h, k⟩ := evK_iff (show evK fr c _ from h)
    split at h
    · rename_i t
      rcases h.out with ⟨rfl, h⟩ | ⟨rfl, h⟩
      · obtain ⟨u, h, k2⟩ := evK_iff h; exact ⟨u, h, fun H' K' k' => k _ (k2 _ k')⟩
      · obtain ⟨u, h, k2⟩ := evK_iff h; exact ⟨u, h, fun H' K' k' => k _ (k2 _ k')⟩
    · exact h.elim
  | build t ps => obtain ⟨v, h, k⟩ := evP_iff (show evP fr ps.toList _ from h); obtain ⟨r, hr, h⟩ := h.out; exact ⟨r, h, fun H' K' k' => k _ (.of hr k')⟩
  | nilCheck x =>
    obtain ⟨v, h, k⟩ := evK_iff (show evK fr x _ from h)
    split at h
    · exact ⟨_, h, fun H' K' k' => k _ k'⟩
    · exact ⟨_, h, fun H' K' k' => k _ k'⟩
    · exact h.elim
  | binOp bo t x y t2 => obtain ⟨v, h, k⟩ := evK_iff (show evK fr x _ from h); obtain ⟨u, h, k2⟩ := evK_iff h; obtain ⟨r, hr, h⟩ := h.out; exact ⟨r, h, fun H' K' k' => k _ (k2 _ (.of hr k'))⟩
  | unOp uo t x => obtain ⟨v, h, k⟩ := evK_iff (show evK fr x _ from h); obtain ⟨r, hr, h⟩ := h.out; exact ⟨r, h, fun H' K' k' => k _ (.of hr k')⟩
  | makeFunc f a b =>
    cases f with
    | func f => obtain ⟨v, h, k⟩ := evL_iff (show evL fr a.toList _ from h); obtain ⟨u, h, k2⟩ := evL_iff h; exact ⟨_, h, fun H' K' k' => k _ (k2 _ k')⟩
    | _ => exact False.elim h
  | fieldAddr s x f => obtain ⟨v, h, k⟩ := evK_iff (show evK fr x _ from h); obtain ⟨r, hr, h⟩ := h.out; exact ⟨r, h, fun H' K' k' => k _ (.of hr k')⟩
  | field s x f => obtain ⟨v, h, k⟩ := evK_iff (show evK fr x _ from h); obtain ⟨r, hr, h⟩ := h.out; exact ⟨r, h, fun H' K' k' => k _ (.of hr k')⟩
  | indexAddr t x i => obtain ⟨v, h, k⟩ := evK_iff (show evK fr x _ from h); obtain ⟨u, h, k2⟩ := evK_iff h; obtain ⟨r, hr, h⟩ := h.out; exact ⟨r, h, fun H' K' k' => k _ (k2 _ (.of hr k'))⟩
  | index t x i => obtain ⟨v, h, k⟩ := evK_iff (show evK fr x _ from h); obtain ⟨u, h, k2⟩ := evK_iff h; obtain ⟨r, hr, h⟩ := h.out; exact ⟨r, h, fun H' K' k' => k _ (k2 _ (.of hr k'))⟩
  | extract x i => obtain ⟨v, h, k⟩ := evK_iff (show evK fr x _ from h); obtain ⟨r, hr, h⟩ := h.out; exact ⟨r, h, fun H' K' k' => k _ (.of hr k')⟩
  | _ => simp [isPureO] at hm
def hkeep (GR : List Nat) (i : Nat) (mv : Bool) (H H' : Heap) (X : Prop) : Prop := match mv with | true => (match outOf GR i with | true => Grows H H' X | false => X) | false => X
def hdo (P : Program) (GR : List Nat) (o : Oper) (env : Fr) (A : Fr) (H : Heap) (i : Nat) (mv w : Bool) (next : Fr → Heap → Prop) : Prop :=
  match w with
  | true => boper P o env H fun v H' => hkeep GR i mv H H' (next ((i, v) :: A) H')
  | false => next ((i, undef) :: A) H
def hops (P : Program) (ops : List Oper) (fr : Fr) (E : List (Nat × Nat)) (Q : BPost) (GR : List Nat) : List HDat → Fr → Heap → Prop
  | [] => fun A H => bringA A E fr fun fr' => Q .normal fr' H
  | (i, av, ex, mv) :: rest => fun A H => Ob ops[i]? fun o => bringA A av (cutF ex fr) fun env => wantB ops env o.guard fun w => hdo P GR o env A H i mv w (hops P ops fr E Q GR rest)

def hcmov : List HDat → Nat
  | [] => 0
  | (_, _, _, mv) :: r => (match mv with | true => 1 | false => 0) + hcmov r
theorem hcmov_append (a b : List HDat) : hcmov (a ++ b) = hcmov a + hcmov b := by
  induction a with
  | nil => simp [hcmov]
  | cons x a ih => obtain ⟨i, av, ex, mv⟩ := x; simp only [List.cons_append, hcmov, ih]; omega
/-- Each one fits: its data, and how many changes are ahead of it. -/
def hfit (ops : List Oper) (ms : List Nat) : List HDat → Nat → Bool
  | [], _ => true
  | (i, av, ex, mv) :: r, k => (match ops[i]? with
      | some o => decide (av = pairsOf ops ms i) && decide (ex = exOf ops ms i) && (mv == isMover o) && Nat.beq (loOf ops ms i) k && (!mv || Nat.beq (hiOf ops ms i) k)
      | none => false) && hfit ops ms r ((match mv with | true => 1 | false => 0) + k)
def hnodupB : List HDat → Bool
  | [] => true
  | x :: r => r.all (fun y => !Nat.beq x.1 y.1) && hnodupB r
/-- What reads the heap stays on its side of a change that is not among some. -/
def staysB (ops : List Oper) (ms : List Nat) (GR : List Nat) : Bool :=
  (movers ops).all fun i => outOf GR i || (List.range ops.length).all fun j => match ops[j]? with | some o => isMover o || isPureO o || !(Nat.ble (loOf ops ms j) (hiOf ops ms i) && Nat.ble (hiOf ops ms i + 1) (hiOf ops ms j)) | none => true
def hIs (n : Nat) (ops : List Oper) (L : List HDat) (E : List (Nat × Nat)) (GR : List Nat) : Bool :=
  staysB ops (masks ops) GR && drawOK n ops && hfit ops (masks ops) L 0 && hnodupB L && (List.range ops.length).all (fun i => L.any fun x => Nat.beq x.1 i) && decide (endsOf ops = E) && Nat.beq (hcmov L) (movers ops).length

theorem hfit_get {ops : List Oper} {ms : List Nat} : ∀ {pre rest : List HDat} {x : HDat} {k : Nat}, hfit ops ms (pre ++ x :: rest) k = true →
    ∃ o, ops[x.1]? = some o ∧ x.2.1 = pairsOf ops ms x.1 ∧ x.2.2.1 = exOf ops ms x.1 ∧ x.2.2.2 = isMover o ∧ loOf ops ms x.1 = k + hcmov pre ∧ (x.2.2.2 = true → hiOf ops ms x.1 = k + hcmov pre) := by
  intro pre
  induction pre with
  | nil =>
    intro rest x k h
    obtain ⟨i, av, ex, mv⟩ := x
    simp only [List.nil_append, hfit, Bool.and_eq_true] at h
    obtain ⟨h, _⟩ := h
    split at h
    · rename_i o ho
      simp only [Bool.and_eq_true, decide_eq_true_eq, beq_iff_eq, Bool.or_eq_true, Bool.not_eq_true'] at h
      obtain ⟨⟨⟨⟨h1, h2⟩, h3⟩, h4⟩, h5⟩ := h
      refine ⟨o, ho, h1, h2, h3, by simpa [hcmov] using Nat.eq_of_beq_eq_true h4, fun hm => ?_⟩
      rcases h5 with h5 | h5
      · exact absurd hm (by rw [show (i, av, ex, mv).2.2.2 = mv from rfl, h5]; simp)
      · simpa [hcmov] using Nat.eq_of_beq_eq_true h5
    · simp at h
  | cons y pre ih =>
    intro rest x k h
    obtain ⟨i, av, ex, mv⟩ := y
    simp only [List.cons_append, hfit, Bool.and_eq_true] at h
    obtain ⟨o, h1, h2, h3, h4, h5, h6⟩ := ih h.2
    refine ⟨o, h1, h2, h3, h4, by rw [h5]; simp only [hcmov]; omega, fun hm => by rw [h6 hm]; simp only [hcmov]; omega⟩
theorem hnodup_get : ∀ {pre rest : List HDat} {x : HDat}, hnodupB (pre ++ x :: rest) = true → ∀ y ∈ pre, y.1 ≠ x.1 := by
  intro pre
  induction pre with
  | nil => intro rest x h y hy; simp at hy
  | cons z pre ih =>
    intro rest x h y hy
    simp only [List.cons_append, hnodupB, Bool.and_eq_true, List.all_eq_true] at h
    rcases List.mem_cons.1 hy with rfl | hy
    · have := h.1 x (by simp)
      intro e
      rw [e] at this
      simp at this
    · exact ih h.2 y hy

/-- What is known of an operation that changes nothing, from a heap on. -/
def FH (P : Program) (ops : List Oper) (ms : List Nat) (fr : Fr) (A : Fr) (i : Nat) (o : Oper) (K : Heap) : Prop :=
  (∀ p ∈ pairsOf ops ms i, ∃ v, getF A p.2 = some v) ∧ (∃ v, getF A i = some v) ∧
  ∀ K', isPureO o = true ∨ Grow K K' → wantK ops (envOf ops ms (VA A ops.length) fr i) o.guard (boper P o (envOf ops ms (VA A ops.length) fr i) K' fun v H' => v = (VA A ops.length).getD i undef ∧ H' = K') ((VA A ops.length).getD i undef = undef)
theorem FH.grow {P : Program} {ops : List Oper} {ms : List Nat} {fr : Fr} {A : Fr} {i : Nat} {o : Oper} {K K' : Heap} (h : FH P ops ms fr A i o K) (g : Grow K K') : FH P ops ms fr A i o K' :=
  ⟨h.1, h.2.1, fun L gl => h.2.2 L (gl.imp id g.trans)⟩
theorem FH.pure {P : Program} {ops : List Oper} {ms : List Nat} {fr : Fr} {A : Fr} {i : Nat} {o : Oper} {K K' : Heap} (h : FH P ops ms fr A i o K) (hp : isPureO o = true) : FH P ops ms fr A i o K' :=
  ⟨h.1, h.2.1, fun L _ => h.2.2 L (.inl hp)⟩
theorem FH.add {P : Program} {ops : List Oper} {ms : List Nat} {fr : Fr} {A : Fr} {i : Nat} {o : Oper} {K : Heap} (hil : i < ops.length) (h : FH P ops ms fr A i o K) {j : Nat} {v : Value} (hj : getF A j = none) : FH P ops ms fr ((j, v) :: A) i o K := by
  have key : ∀ t u, getF A t = some u → getF ((j, v) :: A) t = some u := by
    intro t u h1
    simp only [getF]
    split
    · rename_i e; have := Nat.eq_of_beq_eq_true e; subst this; rw [hj] at h1; simp at h1
    · exact h1
  obtain ⟨h1, ⟨u, h2⟩, h3⟩ := h
  have e : envOf ops ms (VA ((j, v) :: A) ops.length) fr i = envOf ops ms (VA A ops.length) fr i := by
    rw [envOf_eq, envOf_eq]
    refine valsOf_congr fun p hp => ?_
    obtain ⟨x, hx⟩ := h1 p hp
    rw [VA_get (pairs_lt p hp), VA_get (pairs_lt p hp), hx, key _ _ hx]
  refine ⟨fun p hp => let ⟨x, hx⟩ := h1 p hp; ⟨x, key _ _ hx⟩, ⟨u, key _ _ h2⟩, fun K' g => ?_⟩
  have h4 := h3 K' g
  have e2 : (VA ((j, v) :: A) ops.length).getD i undef = (VA A ops.length).getD i undef := by rw [VA_get hil, VA_get hil, h2, key _ _ h2]
  rw [e, e2]
  exact h4
/-- How far a region has come in its earliest order. -/
structure SH (P : Program) (ops : List Oper) (ms : List Nat) (fr : Fr) (E : List (Nat × Nat)) (Q : BPost) (GR : List Nat) (pre rest : List HDat) (A : Fr) (K : Heap) : Prop where
  dom : ∀ j v, getF A j = some v → ∃ x ∈ pre, x.1 = j
  facts : ∀ x ∈ pre, ∀ o, ops[x.1]? = some o → isMover o = false → hcmov pre ≤ hiOf ops ms x.1 → FH P ops ms fr A x.1 o K
  go : hops P ops fr E Q GR rest A K

theorem SH.floats {P : Program} {ops : List Oper} {fr : Fr} {E : List (Nat × Nat)} {Q : BPost} {GR : List Nat} : ∀ {rest pre : List HDat} {A : Fr} {K : Heap}, hfit ops (masks ops) (pre ++ rest) 0 = true → hnodupB (pre ++ rest) = true → SH P ops (masks ops) fr E Q GR pre rest A K →
    ∃ pre' rest' A', pre ++ rest = pre' ++ rest' ∧ hcmov pre' = hcmov pre ∧ (rest' = [] ∨ ∃ x r, rest' = x :: r ∧ x.2.2.2 = true) ∧ SH P ops (masks ops) fr E Q GR pre' rest' A' K ∧ ∀ j, (∃ x ∈ pre, x.1 = j) → getF A' j = getF A j := by
  intro rest
  induction rest with
  | nil => intro pre A K hf hn h; exact ⟨pre, [], A, rfl, rfl, .inl rfl, h, fun _ _ => rfl⟩
  | cons x rest ih =>
    intro pre A K hf hn h
    cases hx : x.2.2.2 with
    | true => exact ⟨pre, x :: rest, A, rfl, rfl, .inr ⟨x, rest, rfl, hx⟩, h, fun _ _ => rfl⟩
    | false =>
      obtain ⟨o, ho, hav, hex, hmv, hlo, _⟩ := hfit_get hf
      have hnd := hnodup_get hn
      obtain ⟨i, av, ex, mv⟩ := x
      simp only at ho hav hex hmv hlo hx hnd
      subst hx hav hex
      have hil : i < ops.length := (List.getElem?_eq_some_iff.1 ho).1
      have hnone : getF A i = none := by
        cases hg : getF A i with
        | none => rfl
        | some v => obtain ⟨y, hy, e⟩ := h.dom i v hg; exact absurd e (hnd y hy)
      have hgo := h.go
      simp only [hops] at hgo
      obtain ⟨o', ho', hgo⟩ := hgo.out
      rw [ho] at ho'
      simp only [Option.some.injEq] at ho'
      subst ho'
      obtain ⟨hp, hgo⟩ := bringA_to (m := ops.length) pairs_lt hgo
      rw [← envOf_eq] at hgo
      have fin : ∀ v, hops P ops fr E Q GR rest ((i, v) :: A) K → (∀ K', isPureO o = true ∨ Grow K K' → wantK ops (envOf ops (masks ops) (VA A ops.length) fr i) o.guard (boper P o (envOf ops (masks ops) (VA A ops.length) fr i) K' fun u H' => u = v ∧ H' = K') (v = undef)) →
          ∃ pre' rest' A', pre ++ (i, pairsOf ops (masks ops) i, exOf ops (masks ops) i, false) :: rest = pre' ++ rest' ∧ hcmov pre' = hcmov pre ∧ (rest' = [] ∨ ∃ x r, rest' = x :: r ∧ x.2.2.2 = true) ∧ SH P ops (masks ops) fr E Q GR pre' rest' A' K ∧ ∀ j, (∃ x ∈ pre, x.1 = j) → getF A' j = getF A j := by
        intro v hg hff
        have hgi : getF ((i, v) :: A) i = some v := by simp [getF]
        have hkeep : ∀ t u, getF A t = some u → getF ((i, v) :: A) t = some u := by
          intro t u h1
          simp only [getF]
          split
          · rename_i e; have := Nat.eq_of_beq_eq_true e; subst this; rw [hnone] at h1; simp at h1
          · exact h1
        have hE : envOf ops (masks ops) (VA ((i, v) :: A) ops.length) fr i = envOf ops (masks ops) (VA A ops.length) fr i := by
          rw [envOf_eq, envOf_eq]
          refine valsOf_congr fun p hp' => ?_
          obtain ⟨x, hx⟩ := hp p hp'
          rw [VA_get (pairs_lt p hp'), VA_get (pairs_lt p hp'), hx, hkeep _ _ hx]
        have hnew : SH P ops (masks ops) fr E Q GR (pre ++ [(i, pairsOf ops (masks ops) i, exOf ops (masks ops) i, false)]) rest ((i, v) :: A) K := by
          refine ⟨fun j u hj => ?_, fun y hy o1 ho1 hm1 hh1 => ?_, hg⟩
          · simp only [getF] at hj
            split at hj
            · rename_i e; have := Nat.eq_of_beq_eq_true e; subst this; exact ⟨_, List.mem_append_right _ (List.mem_singleton.2 rfl), rfl⟩
            · obtain ⟨y, hy, e⟩ := h.dom j u hj; exact ⟨y, List.mem_append_left _ hy, e⟩
          · rcases List.mem_append.1 hy with hy | hy
            · exact (h.facts y hy o1 ho1 hm1 (by rw [hcmov_append] at hh1; omega)).add (List.getElem?_eq_some_iff.1 ho1).1 hnone
            · rw [List.mem_singleton] at hy
              subst hy
              simp only at ho1
              rw [ho] at ho1
              simp only [Option.some.injEq] at ho1
              subst ho1
              refine ⟨fun p hp' => let ⟨x, hx⟩ := hp p hp'; ⟨x, hkeep _ _ hx⟩, ⟨v, hgi⟩, fun K' g => ?_⟩
              have e2 : (VA ((i, v) :: A) ops.length).getD i undef = v := by rw [VA_get hil, hgi]; rfl
              simp only [hE, e2]
              exact hff K' g
        obtain ⟨pre', rest', A', e1, e2, e3, e4, e5⟩ := ih (by simpa using hf) (by simpa using hn) hnew
        refine ⟨pre', rest', A', by rw [← e1]; simp, by rw [e2, hcmov_append]; simp [hcmov], e3, e4, fun j hj => ?_⟩
        obtain ⟨y, hy, rfl⟩ := hj
        rw [e5 _ ⟨y, List.mem_append_left _ hy, rfl⟩]
        have : y.1 ≠ i := hnd y hy
        simp only [getF]
        split
        · rename_i e; exact absurd (Nat.eq_of_beq_eq_true e).symm this
        · rfl
      rcases wantK_iff (show wantK ops _ o.guard _ _ from hgo) with ⟨hgo, hw⟩ | ⟨hgo, hw⟩
      · cases hpo : isPureO o with
        | true =>
          obtain ⟨v, h1, h2⟩ := pure_mono hpo (show boper P o _ K _ from hgo)
          exact fin v h1 fun K' _ => hw _ _ (h2 K' _ ⟨rfl, rfl⟩)
        | false =>
          obtain ⟨v, h1, h2⟩ := float_mono hmv.symm (show boper P o _ K _ from hgo)
          exact fin v h1 fun K' g => hw _ _ (h2 K' (g.resolve_left (by simp [hpo])) _ ⟨rfl, rfl⟩)
      · exact fin undef hgo fun K' g => hw _ _ rfl

theorem SW.drawH {P : Program} {n : Nat} {id : Nat} {ops : Array Oper} {Q : BPost} {fr : Fr} {H : Heap} (L : List HDat) (E : List (Nat × Nat)) (GR : List Nat) (F : Fr) (hm : P.follows .mixedOrders = true) (hok : hIs n ops.toList L E GR = true) (hF : Has fr F)
    (h : hops P ops.toList F E Q GR L [] H) : SW P n (.region id ops true) Q fr H := by
  refine SW.sub ?_ (Sub.of hF)
  simp only [hIs, Bool.and_eq_true, List.all_eq_true, decide_eq_true_eq] at hok
  obtain ⟨⟨⟨⟨⟨⟨hst, h1⟩, hfit⟩, hnd⟩, hall⟩, rfl⟩, hnm⟩ := hok
  have hnm' := Nat.eq_of_beq_eq_true hnm
  let R : Nat → List Value → Heap → Prop := fun k V K => ∃ A pre rest, V = VA A ops.toList.length ∧ L = pre ++ rest ∧ hcmov pre = k ∧ (rest = [] ∨ ∃ x r, rest = x :: r ∧ x.2.2.2 = true) ∧ SH P ops.toList (masks ops.toList) F (endsOf ops.toList) Q GR pre rest A K
  have place : ∀ i, i < ops.toList.length → ∃ a b x, L = a ++ x :: b ∧ x.1 = i := by
    intro i hi
    have := hall i (List.mem_range.2 hi)
    rw [List.any_eq_true] at this
    obtain ⟨x, hx, e⟩ := this
    obtain ⟨a, b, hab⟩ := List.append_of_mem hx
    exact ⟨a, b, x, hab, Nat.eq_of_beq_eq_true e⟩
  refine SW.drawV R hm h1 ?_ ?_ ?_ ?_
  · have s0 : SH P ops.toList (masks ops.toList) F (endsOf ops.toList) Q GR [] L [] H := ⟨fun j v hj => by simp [getF] at hj, fun x hx => by simp at hx, h⟩
    obtain ⟨pre', rest', A', e1, e2, e3, e4, _⟩ := s0.floats (by simpa using hfit) (by simpa using hnd)
    exact ⟨_, A', pre', rest', rfl, by simpa using e1, by simpa [hcmov] using e2, e3, e4⟩
  · -- what changes nothing
    rintro i o k V K ho hmo hlo hhi ⟨A, pre, rest, rfl, e1, e2, e3, st⟩
    obtain ⟨a, b, x, hab, rfl⟩ := place i (List.getElem?_eq_some_iff.1 ho).1
    have hfx := hfit
    rw [hab] at hfx
    obtain ⟨o', ho', _, _, hmv, hlo', _⟩ := hfit_get hfx
    rw [ho] at ho'
    simp only [Option.some.injEq] at ho'
    subst ho'
    have hin : x ∈ pre := by
      -- else it stands in the rest, behind a change
      have hx : x ∈ pre ++ rest := by rw [← e1, hab]; simp
      rcases List.mem_append.1 hx with hx | hx
      · exact hx
      · exfalso
        obtain ⟨r1, r2, hr⟩ := List.append_of_mem hx
        rcases e3 with e3 | ⟨y, r, e3, hy⟩
        · rw [e3] at hx; simp at hx
        · have hfx2 := hfit
          rw [e1, hr, ← List.append_assoc] at hfx2
          obtain ⟨_, _, _, _, _, hlo2, _⟩ := hfit_get hfx2
          rw [hcmov_append] at hlo2
          cases r1 with
          | nil =>
            rw [List.nil_append, e3] at hr
            simp only [List.cons.injEq] at hr
            rw [hr.1, hmv, hmo] at hy
            simp at hy
          | cons z r1 =>
            rw [e3, List.cons_append] at hr
            simp only [List.cons.injEq] at hr
            obtain ⟨rfl, _⟩ := hr
            obtain ⟨zi, za, ze, zm⟩ := y
            simp only at hy
            subst hy
            simp only [hcmov] at hlo2
            omega
    exact (st.facts x hin o ho hmo (by omega)).2.2 K (.inr (.refl _))
  · -- what lays blocks
    rintro i o k V K ho hmo hlo hhi ⟨A, pre, rest, rfl, e1, e2, e3, st⟩
    obtain ⟨a, b, x, hab, rfl⟩ := place i (List.getElem?_eq_some_iff.1 ho).1
    have hfx := hfit
    rw [hab] at hfx
    obtain ⟨o', ho', _, _, hmv, hlo', hhi'⟩ := hfit_get hfx
    rw [ho] at ho'
    simp only [Option.some.injEq] at ho'
    subst ho'
    have hxm : x.2.2.2 = true := hmv.trans hmo
    have hhi2 := hhi' hxm
    -- it is the next one
    have hrest : ∃ r, rest = x :: r := by
      have hx : x ∈ pre ++ rest := by rw [← e1, hab]; simp
      rcases List.mem_append.1 hx with hx | hx
      · exfalso
        obtain ⟨p1, p2, hp⟩ := List.append_of_mem hx
        have hfx2 := hfit
        rw [e1, hp, List.append_assoc, List.cons_append] at hfx2
        obtain ⟨_, _, _, _, _, hlo2, _⟩ := hfit_get hfx2
        rw [hp, hcmov_append] at e2
        obtain ⟨zi, za, ze, zm⟩ := x
        simp only at hxm
        subst hxm
        simp only [hcmov] at e2
        simp only at hlo2 hlo' hlo hhi hhi2
        omega
      · obtain ⟨r1, r2, hr⟩ := List.append_of_mem hx
        rcases e3 with e3 | ⟨y, r, e3, hy⟩
        · rw [e3] at hx; simp at hx
        · have hfx2 := hfit
          rw [e1, hr, ← List.append_assoc] at hfx2
          obtain ⟨_, _, _, _, _, hlo2, _⟩ := hfit_get hfx2
          rw [hcmov_append] at hlo2
          cases r1 with
          | nil => exact ⟨r2, by simpa using hr⟩
          | cons z r1 =>
            exfalso
            rw [e3, List.cons_append] at hr
            simp only [List.cons.injEq] at hr
            obtain ⟨rfl, _⟩ := hr
            obtain ⟨zi, za, ze, zm⟩ := y
            simp only at hy
            subst hy
            simp only [hcmov] at hlo2
            omega
    obtain ⟨r, rfl⟩ := hrest
    have hfx2 := hfit
    rw [e1] at hfx2
    have hnd2 := hnd
    rw [e1] at hnd2
    obtain ⟨_, ho2, hav, hex, _, _, hhi3⟩ := hfit_get hfx2
    have hhi4 := hhi3 hxm
    rw [Nat.zero_add] at hhi4
    have hne := hnodup_get hnd2
    have hnone : getF A x.1 = none := by
      cases hg : getF A x.1 with
      | none => rfl
      | some v => obtain ⟨y, hy, e⟩ := st.dom _ v hg; exact absurd e (hne y hy)
    have hil : x.1 < ops.toList.length := (List.getElem?_eq_some_iff.1 ho).1
    have hgo := st.go
    obtain ⟨i, av, ex, mv⟩ := x
    simp only at hxm hav hex ho hnone hne hil
    subst hxm hav hex
    simp only [hops] at hgo
    obtain ⟨o', ho', hgo⟩ := hgo.out
    rw [ho] at ho'
    simp only [Option.some.injEq] at ho'
    subst ho'
    obtain ⟨hp, hgo⟩ := bringA_to (m := ops.toList.length) pairs_lt hgo
    rw [← envOf_eq] at hgo
    have fin : ∀ (v : Value) (H' : Heap), (outOf GR i = true → Grow K H') → hops P ops.toList F (endsOf ops.toList) Q GR r ((i, v) :: A) H' →
        ∃ V', R (k + 1) V' H' ∧ V'.getD i undef = v ∧ ∀ (j : Nat), j < ops.size → loOf ops.toList (masks ops.toList) j ≤ k → j ≠ i → V'.getD j undef = (VA A ops.toList.length).getD j undef := by
      intro v H' g hg
      have tr : ∀ y ∈ pre, ∀ o1, ops.toList[y.1]? = some o1 → isMover o1 = false → hcmov (pre ++ [(i, pairsOf ops.toList (masks ops.toList) i, exOf ops.toList (masks ops.toList) i, true)]) ≤ hiOf ops.toList (masks ops.toList) y.1 → FH P ops.toList (masks ops.toList) F A y.1 o1 H' := by
        intro y hy o1 ho1 hm1 hh1
        rw [hcmov_append] at hh1
        simp only [hcmov] at hh1
        have hf1 := st.facts y hy o1 ho1 hm1 (by omega)
        cases hgr : outOf GR i with
        | true => exact hf1.grow (g hgr)
        | false =>
          have hst' := hst
          simp only [staysB, List.all_eq_true] at hst'
          have h2 := hst' i (mem_movers.2 ⟨o, ho, hmo⟩)
          simp only [hgr, Bool.false_or, List.all_eq_true] at h2
          have h3 := h2 y.1 (List.mem_range.2 (List.getElem?_eq_some_iff.1 ho1).1)
          simp only [ho1, hm1, Bool.false_or, Bool.or_eq_true, Bool.not_eq_true', Bool.and_eq_false_iff] at h3
          rcases h3 with h3 | h3
          · exact hf1.pure h3
          · exfalso
            obtain ⟨p1, p2, hp⟩ := List.append_of_mem hy
            have hfx3 := hfit
            rw [e1, hp, List.append_assoc, List.cons_append] at hfx3
            obtain ⟨_, _, _, _, _, hlo3, _⟩ := hfit_get hfx3
            simp only at hhi4
            rcases h3 with h3 | h3
            · have : ¬ (loOf ops.toList (masks ops.toList) y.1 ≤ hiOf ops.toList (masks ops.toList) i) := fun hle => by rw [Nat.ble_eq_true_of_le hle] at h3; simp at h3
              rw [hp, hcmov_append] at hhi4
              omega
            · have : ¬ (hiOf ops.toList (masks ops.toList) i + 1 ≤ hiOf ops.toList (masks ops.toList) y.1) := fun hle => by rw [Nat.ble_eq_true_of_le hle] at h3; simp at h3
              omega
      have hnew : SH P ops.toList (masks ops.toList) F (endsOf ops.toList) Q GR (pre ++ [(i, pairsOf ops.toList (masks ops.toList) i, exOf ops.toList (masks ops.toList) i, true)]) r ((i, v) :: A) H' := by
        refine ⟨fun j u hj => ?_, fun y hy o1 ho1 hm1 hh1 => ?_, hg⟩
        · simp only [getF] at hj
          split at hj
          · rename_i e; have := Nat.eq_of_beq_eq_true e; subst this; exact ⟨_, List.mem_append_right _ (List.mem_singleton.2 rfl), rfl⟩
          · obtain ⟨y, hy, e⟩ := st.dom j u hj; exact ⟨y, List.mem_append_left _ hy, e⟩
        · rcases List.mem_append.1 hy with hy | hy
          · exact (tr y hy o1 ho1 hm1 hh1).add (List.getElem?_eq_some_iff.1 ho1).1 hnone
          · rw [List.mem_singleton] at hy
            subst hy
            simp only at ho1
            rw [ho] at ho1
            simp only [Option.some.injEq] at ho1
            subst ho1
            rw [hmo] at hm1
            simp at hm1
      obtain ⟨pre', rest', A', f1, f2, f3, f4, f5⟩ := hnew.floats (by simpa using hfx2) (by simpa using hnd2)
      refine ⟨_, ⟨A', pre', rest', rfl, by rw [e1, ← f1]; simp, by rw [f2, hcmov_append, e2]; simp [hcmov], f3, f4⟩, ?_, fun j hj hloj hji => ?_⟩
      · rw [VA_get hil, f5 i ⟨_, List.mem_append_right _ (List.mem_singleton.2 rfl), rfl⟩]
        simp [getF]
      · have hjl : j < ops.toList.length := by simpa using hj
        rw [VA_get hjl, VA_get hjl]
        -- j stands ahead
        obtain ⟨a2, b2, x2, hab2, rfl⟩ := place j hjl
        have hin : x2 ∈ pre := by
          have hx : x2 ∈ pre ++ (i, pairsOf ops.toList (masks ops.toList) i, exOf ops.toList (masks ops.toList) i, true) :: r := by rw [← e1, hab2]; simp
          rcases List.mem_append.1 hx with hx | hx
          · exact hx
          · exfalso
            rcases List.mem_cons.1 hx with rfl | hx
            · exact hji rfl
            · obtain ⟨r1, r2, hr⟩ := List.append_of_mem hx
              have hfx3 := hfit
              rw [e1, hr, ← List.cons_append, ← List.append_assoc] at hfx3
              obtain ⟨_, _, _, _, _, hlo2, _⟩ := hfit_get hfx3
              rw [hcmov_append] at hlo2
              simp only [hcmov] at hlo2
              omega
        rw [f5 x2.1 ⟨x2, List.mem_append_left _ hin, rfl⟩]
        simp only [getF]
        split
        · rename_i e; exact absurd (Nat.eq_of_beq_eq_true e).symm hji
        · rfl
    rcases wantK_iff (show wantK ops.toList _ o.guard _ _ from hgo) with ⟨hgo, hw⟩ | ⟨hgo, hw⟩
    · refine hw _ _ (boper_mono (K := fun v H' => hkeep GR i true K H' (hops P ops.toList F (endsOf ops.toList) Q GR r ((i, v) :: A) H')) hgo fun v H' hk => ?_)
      cases hgr : outOf GR i with
      | true => simp only [hkeep, hgr] at hk; exact fin v H' (fun _ => hk.g) hk.x
      | false => simp only [hkeep, hgr] at hk; exact fin v H' (fun h => by rw [hgr] at h; simp at h) hk
    · exact hw _ _ (fin undef K (fun _ => .refl _) hgo)
  · -- the end
    rintro V K ⟨A, pre, rest, rfl, e1, e2, e3, st⟩
    have hr : rest = [] := by
      rcases e3 with e3 | ⟨y, r, e3, hy⟩
      · exact e3
      · exfalso
        rw [e1, hcmov_append, e3, e2] at hnm'
        obtain ⟨zi, za, ze, zm⟩ := y
        simp only at hy
        subst hy
        simp only [hcmov] at hnm'
        omega
    have hgo := st.go
    rw [hr] at hgo
    simp only [hops] at hgo
    obtain ⟨_, hgo⟩ := bringA_to (m := ops.toList.length) ends_lt hgo
    rw [endOf_eq]
    exact hgo
end Go.Proofs.YtmdpifedcaaobaaDoor.Ax
/- The abstract machine: strings gone through by runes; lists appended to one's own rows. -/
set_option linter.unusedVariables false
set_option linter.unusedSimpArgs false
namespace Go.Proofs.YtmdpifedcaaobaaDoor.Ax
open Go Go.RowKit
theorem Ob2.range {P : Program} {t : TypeId} {s : ByteArray} {H : Heap} {K : Value → Heap → Prop} (ht : P.underlying t = some .string)
    (k : ∀ q H', q = H.length → H'[q]? = some (.iter s 0) → Grow H H' → K (.pointer (some ⟨q, 0, none⟩)) H') : Ob2 (arange P t (.string s) H) K :=
  .of (a := .pointer (some ⟨H.length, 0, none⟩)) (b := H ++ [.iter s 0]) (by simp [arange, ht]) (k _ _ rfl (at_push _ _) (.push _ _))
theorem Ob2.next {b pos r w : Nat} {s : ByteArray} {H : Heap} {K : Value → Heap → Prop} (hb : H[b]? = some (.iter s pos)) (h : pos < s.size) (hd : Utf8.decode s pos = (r, w))
    (k : ∀ H', H'[b]? = some (.iter s (pos + w)) → But b H H' → H'.length = H.length → K (.tuple #[.bool true, .int .i64 (pos : Int), .int .i32 (r : Int)]) H') : Ob2 (anext (.pointer (some ⟨b, 0, none⟩)) true H) K :=
  .of (a := .tuple #[.bool true, .int .i64 pos, .int .i32 r]) (b := H.set b (.iter s (pos + w))) (by simp [anext, hb, h, hd]) (k _ (at_set hb) (.set _ _) (by simp))
theorem Ob2.nextEnd {b pos : Nat} {s : ByteArray} {H : Heap} {K : Value → Heap → Prop} (hb : H[b]? = some (.iter s pos)) (h : ¬ pos < s.size)
    (k : K (.tuple #[.bool false]) H) : Ob2 (anext (.pointer (some ⟨b, 0, none⟩)) true H) K :=
  .of (a := .tuple #[.bool false]) (b := H) (by simp [anext, hb, h]) k
theorem dec_ascii {s : ByteArray} {i n : Nat} (h : s.data[i]?.map UInt8.toNat = some n) (hn : n < 128) : Utf8.decode s i = (n, 1) := by
  have hg : (s.get! i).toNat = n := by
    cases hx : s.data[i]? with
    | none => rw [hx] at h; simp at h
    | some x =>
      rw [hx] at h
      simp only [Option.map_some, Option.some.injEq] at h
      rw [← h]
      show (s.data[i]!).toNat = _
      rw [getElem!_def, hx]
  simp [Utf8.decode, hg, hn]
/-- A list that lies in a row, as a source. -/
theorem RL.src {α : Type} {k : Nat} {f : Heap → List Value → α → Prop} {H : Heap} {sv : Value} {M : List α} (h0 : k ≠ 0) (h : RL k f H sv M) : srcOk sv k = true ∧ ∃ l, asrc k sv H = some (M.length, l) ∧ l.length = M.length * k ∧ ∀ (i : Nat) x, M[i]? = some x → ∃ w, slotsOf l (i * k) k = some w ∧ f H w x := by
  rcases h with ⟨rfl, rfl⟩ | ⟨b, rfl, rfl | ⟨m, c, h2, h3⟩⟩
  · exact ⟨by simp [srcOk], [], by simp [asrc], by simp, fun i x hx => by simp at hx⟩
  · exact ⟨by simp [srcOk], [], src_zero rfl, by simp, fun i x hx => by simp at hx⟩
  · refine ⟨by simp [srcOk], ?_⟩
    by_cases hM : M.length = 0
    · have : M = [] := List.length_eq_zero_iff.1 hM
      subst this
      exact ⟨[], src_zero rfl, by simp, fun i x hx => by simp at hx⟩
    · have hlen : M.length * k ≤ c.length := by
        obtain ⟨x, hx⟩ : ∃ x, M[M.length - 1]? = some x := ⟨_, List.getElem?_eq_getElem (by omega)⟩
        obtain ⟨w, hw, _⟩ := h3 _ x hx
        unfold slotsOf at hw
        split at hw
        · rename_i hle
          have : M.length * k = (M.length - 1) * k + k := by rw [← Nat.succ_mul]; congr 1; omega
          omega
        · simp at hw
      refine ⟨c.take (M.length * k), src_some (off := 0) hM (hblk_of h2) (by rw [slots_of (by omega), List.drop_zero]), by rw [List.length_take]; omega, fun i x hx => ?_⟩
      obtain ⟨w, hw, hf⟩ := h3 i x hx
      refine ⟨w, ?_, hf⟩
      have hi : i * k + k ≤ M.length * k := by rw [← Nat.succ_mul]; exact Nat.mul_le_mul_right _ (lt_of_get hx)
      rw [slots_of (by omega)] at hw
      rw [slots_of (by rw [List.length_take]; omega), ← hw]
      congr 1
      apply List.ext_getElem?
      intro j
      rw [List.getElem?_take, List.getElem?_take, List.getElem?_drop, List.getElem?_drop, List.getElem?_take]
      by_cases hj : j < k
      · rw [if_pos hj, if_pos hj, if_pos (by omega)]
      · rw [if_neg hj, if_neg hj]
/-- A list appended. -/
theorem OwnR.appendL {α : Type} {P : Program} {t tx e : TypeId} {k n : Nat} (ok : RowOK P t e k) (okx : RowOK P tx e k) {f : Heap → List Value → α → Prop} {H : Heap} {sv xv : Value} {L M : List α} (h : OwnR k e f H sv L)
    (hx : RL k f H xv M) (hsv : ∀ b, blkIs sv b → n ≤ b) (hn : n ≤ H.length) (hL : L.length + M.length ≤ 1000000) (hf : ∀ A B, FrR n e A B → ∀ l x, f A l x → f B l x) :
    ∃ sv' H', aappend P t tx sv xv H = some (sv', H') ∧ OwnR k e f H' sv' (L ++ M) ∧ FrR n e H H' ∧ (∀ b, blkIs sv' b → n ≤ b) := by
  obtain ⟨he, ⟨i, hi, hk, hby⟩, ⟨d, hd, hni⟩, h0, ⟨z, hz, hzl⟩⟩ := ok
  obtain ⟨_, _, ⟨dx, hdx, hnx⟩, _, _⟩ := okx
  obtain ⟨hsrc, l, hl, hll, hle⟩ := hx.src h0
  by_cases hM : M.length = 0
  · have : M = [] := List.length_eq_zero_iff.1 hM
    subst this
    refine ⟨sv, H, ?_, by rw [List.append_nil]; exact h, .refl _ _ _, hsv⟩
    have hl0 : asrc k xv H = some (0, l) := by simpa using hl
    rcases h with ⟨rfl, rfl⟩ | ⟨b, c, rfl, h2, h3, h4⟩
    · exact append_zero he hi hk hdx hnx h0 hsrc hz hzl hl0 (.inl ⟨rfl, rfl, rfl⟩)
    · exact append_zero he hi hk hdx hnx h0 hsrc hz hzl hl0 (.inr ⟨_, _, rfl⟩)
  · have bnd : ∀ m, m ≤ 1000000 → m * i.bytes ≤ 140737488355328 := fun m hm => by
      have : m * i.bytes ≤ 1000000 * 4096 := Nat.mul_le_mul hm hby
      omega
    rcases h with ⟨rfl, rfl⟩ | ⟨b, c, rfl, h2, h3, h4⟩
    · refine ⟨_, _, append_nil he hi hk hdx hnx h0 hsrc hz hzl hl hM (bnd _ (by omega)) (by unfold maxLen; omega), .inr ⟨H.length, l, by simp, at_push _ _, by simpa using hll, fun j x hj => ?_⟩, .of (.push _ _), fun b hb => ?_⟩
      · obtain ⟨w, h5, h6⟩ := hle j x (by simpa using hj)
        exact ⟨w, h5, hf _ _ (.of (.push _ _)) _ _ h6⟩
      · obtain ⟨_, _, e⟩ := hb
        simp only [Value.slice.injEq, Option.some.injEq, Addr.mk.injEq] at e
        omega
    · have hold : slotsOf c 0 (L.length * k) = some c := by rw [slots_of (by omega), List.drop_zero, List.take_of_length_le (by omega)]
      have hfr : FrR n e H (H.set b .dead ++ [.cells (.row e) (c ++ l)]) := by
        refine ⟨by simp, fun q X hq hX => ?_⟩
        have hqb : q ≠ b := by
          rintro rfl
          rcases hX with hX | hX
          · have := hsv q ⟨_, _, rfl⟩; omega
          · rw [h2] at hq; simp only [Option.some.injEq] at hq; exact hX c hq.symm
        rw [List.getElem?_append_left (by simpa using lt_at hq), List.getElem?_set_ne (by omega)]
        exact hq
      refine ⟨_, _, append_row he hi hk hdx hnx h0 hsrc hz hzl hl hM h2 hold (bnd _ (by omega)) (by unfold maxLen; omega), .inr ⟨H.length, c ++ l, by rw [List.length_append], ?_, by rw [List.length_append, List.length_append, h3, hll, Nat.add_mul], fun j x hj => ?_⟩, hfr, fun b' hb' => ?_⟩
      · rw [List.getElem?_append_right (by simp), List.length_set, Nat.sub_self]; rfl
      · by_cases hjl : j < L.length
        · rw [List.getElem?_append_left hjl] at hj
          obtain ⟨w, k1, k2⟩ := h4 j x hj
          refine ⟨w, ?_, hf _ _ hfr _ _ k2⟩
          have hle' : j * k + k ≤ c.length := by rw [h3, ← Nat.succ_mul]; exact Nat.mul_le_mul_right _ hjl
          rw [slots_of hle'] at k1
          rw [slots_of (by rw [List.length_append]; omega), ← k1, List.drop_append_of_le_length (by omega), List.take_append_of_le_length (by rw [List.length_drop]; omega)]
        · rw [List.getElem?_append_right (by omega)] at hj
          obtain ⟨w, k1, k2⟩ := hle _ x hj
          refine ⟨w, ?_, hf _ _ hfr _ _ k2⟩
          have hjm := lt_of_get hj
          have e1 : j * k = c.length + (j - L.length) * k := by rw [h3, ← Nat.add_mul]; congr 1; omega
          have hle' : (j - L.length) * k + k ≤ l.length := by rw [hll, ← Nat.succ_mul]; exact Nat.mul_le_mul_right _ hjm
          rw [slots_of hle'] at k1
          rw [slots_of (by rw [List.length_append]; omega), ← k1, e1, List.drop_append]
          have e2 : c.length + (j - L.length) * k - c.length = (j - L.length) * k := by omega
          rw [List.drop_of_length_le (by omega), e2, List.nil_append]
      · obtain ⟨_, _, e⟩ := hb'
        simp only [Value.slice.injEq, Option.some.injEq, Addr.mk.injEq] at e
        omega
end Go.Proofs.YtmdpifedcaaobaaDoor.Ax
/- The abstract machine: a region whose order is open, told by what is known of each operation's value; whatever is new may come in any order; the last operation comes behind all. -/
set_option linter.unusedVariables false
set_option linter.unusedSimpArgs false
namespace Go.Proofs.YtmdpifedcaaobaaDoor.Ax
open Go Go.RowKit
theorem mem_pairsOf {ops : List Oper} {ms : List Nat} {i d k : Nat} (h : (d, k) ∈ pairsOf ops ms i) : ahead ms i k = true := by
  unfold pairsOf at h
  rw [List.mem_filterMap] at h
  obtain ⟨y, hy, h⟩ := h
  split at h
  · split at h
    · rename_i hh
      simp only [Option.some.injEq, Prod.mk.injEq] at h
      obtain ⟨_, rfl⟩ := h
      exact hh
    · simp at h
  · simp at h
theorem masksFrom_len : ∀ (os : List Oper) (acc : List Nat), (masksFrom acc os).length = acc.length + os.length := by
  intro os
  induction os with
  | nil => intro acc; simp [masksFrom]
  | cons o os ih => intro acc; rw [masksFrom, ih]; simp; omega
theorem ahead_lt {ops : List Oper} {i j : Nat} (h : ahead (masks ops) i j = true) : i < ops.length := by
  refine Decidable.byContradiction fun hn => ?_
  have hz : (masks ops).getD i 0 = 0 := by
    rw [List.getD_eq_getElem?_getD, List.getElem?_eq_none (by unfold masks; rw [masksFrom_len]; simp; omega)]; rfl
  unfold ahead at h
  rw [hz] at h
  simp at h
theorem ahead_small {ms : List Nat} {N i j : Nat} (hms : ∀ m ∈ ms, Nat.blt m (2 ^ N) = true) (h : ahead ms i j = true) : j < N := by
  refine Decidable.byContradiction fun hn => ?_
  unfold ahead at h
  have hlt : ms.getD i 0 < 2 ^ j := by
    have h2 : 2 ^ N ≤ 2 ^ j := Nat.pow_le_pow_right (by decide) (by omega)
    rw [List.getD_eq_getElem?_getD]
    cases hx : ms[i]? with
    | none => simp only [Option.getD_none]; exact Nat.two_pow_pos j
    | some m =>
      have := hms m (List.mem_of_getElem? hx)
      rw [Nat.blt_eq] at this
      simp only [Option.getD_some]
      omega
  rw [Nat.testBit_lt_two_pow hlt] at h
  simp at h
theorem SW.drawP {P : Program} {n : Nat} {id : Nat} {ops : Array Oper} {Q : BPost} {fr : Fr} {H : Heap} (N : Nat) (T : Nat → Fr → Value → Heap → Prop) (hm : P.follows .mixedOrders = true)
    (hok : (drawOK2 n ops.toList && Nat.beq ops.size (N + 1) && ((List.range N).all fun j => ahead (masks ops.toList) N j) && (masks ops.toList).all fun m => Nat.blt m (2 ^ N)) = true)
    (mono : ∀ i F v K K', T i F v K → Grow K K' → T i F v K')
    (step : ∀ (i : Nat) (o : Oper) (V : List Value) (K : Heap), i < N → ops.toList[i]? = some o → Grow H K →
      (∀ j, ahead (masks ops.toList) i j = true → T j (valsOf V (pairsOf ops.toList (masks ops.toList) j) []) (V.getD j undef) K) →
      wantK ops.toList (envOf ops.toList (masks ops.toList) V fr i) o.guard
        (boper P o (envOf ops.toList (masks ops.toList) V fr i) K fun v H' => Grow K H' ∧ T i (valsOf V (pairsOf ops.toList (masks ops.toList) i) []) v H')
        (T i (valsOf V (pairsOf ops.toList (masks ops.toList) i) []) undef K))
    (last : ∀ (o : Oper) (V : List Value) (K : Heap), V.length = N + 1 → ops.toList[N]? = some o → Grow H K →
      (∀ j, j < N → T j (valsOf V (pairsOf ops.toList (masks ops.toList) j) []) (V.getD j undef) K) →
      wantK ops.toList (envOf ops.toList (masks ops.toList) V fr N) o.guard
        (boper P o (envOf ops.toList (masks ops.toList) V fr N) K fun v H' => Q .normal (endOf ops.toList (V.set N v) fr) H')
        (Q .normal (endOf ops.toList (V.set N undef) fr) K)) : SW P n (.region id ops true) Q fr H := by
  simp only [Bool.and_eq_true, List.all_eq_true, List.mem_range] at hok
  obtain ⟨⟨⟨hok, hsz⟩, hlast⟩, hms⟩ := hok
  have hsz := Nat.eq_of_beq_eq_true hsz
  refine SW.drawS (fun L V K => V.length = N + 1 ∧ (L N = false → Grow H K ∧ ∀ j, j < N → L j = true → T j (valsOf V (pairsOf ops.toList (masks ops.toList) j) []) (V.getD j undef) K) ∧ (L N = true → Q .normal (endOf ops.toList V fr) K)) hm hok
    ⟨List.replicate (N + 1) undef, by simp, fun _ => ⟨.refl _, fun j _ h => by simp at h⟩, fun h => by simp at h⟩ ?_ ?_
  · rintro i o L V K ho hl hah hbh ⟨hV, hR, _⟩
    have hi : i < N + 1 := by have := (List.getElem?_eq_some_iff.1 ho).1; simp at this; omega
    have hk : ∀ {X Y X' Y' : Prop}, (X → X') → (Y → Y') → wantK ops.toList (envOf ops.toList (masks ops.toList) V fr i) o.guard X Y → wantK ops.toList (envOf ops.toList (masks ops.toList) V fr i) o.guard X' Y' := by
      intro X Y X' Y' hX hY h
      unfold wantK at h ⊢
      split
      · rename_i hg; rw [hg] at h; exact hX h
      · rename_i j want hg
        rw [hg] at h
        simp only at h
        split
        · rename_i d hd
          rw [hd] at h
          obtain ⟨v, hv, h⟩ := getK_iff.1 h
          refine getK_iff.2 ⟨v, hv, ?_⟩
          split
          · simp only at h
            split
            · rcases h.out with ⟨rfl, h⟩ | ⟨rfl, h⟩
              · exact hX h
              · exact hY h
            · rcases h.out with ⟨rfl, h⟩ | ⟨rfl, h⟩
              · exact hY h
              · exact hX h
          · exact hY (by simpa using h)
        · rename_i hd
          rw [hd] at h
          exact hY h
    have set_same : ∀ v j, L j = true → (V.set i v).getD j undef = V.getD j undef := fun v j hj => by
      rw [getD_set (by omega), if_neg (fun e => by subst e; rw [hl] at hj; simp at hj)]
    have set_vals : ∀ v j, L j = true → valsOf (V.set i v) (pairsOf ops.toList (masks ops.toList) j) [] = valsOf V (pairsOf ops.toList (masks ops.toList) j) [] := fun v j hj =>
      valsOf_congr fun ⟨d, k⟩ hk => by
        have := mem_pairsOf hk
        show (V.set i v).getD k undef = V.getD k undef
        rw [getD_set (by omega), if_neg]
        rintro rfl
        have hjs : j < ops.size := by have := ahead_lt this; simpa using this
        rw [hbh j hjs this] at hj
        simp at hj
    have set_own : ∀ v, valsOf (V.set i v) (pairsOf ops.toList (masks ops.toList) i) [] = valsOf V (pairsOf ops.toList (masks ops.toList) i) [] := fun v =>
      valsOf_congr fun ⟨d, k⟩ hk => set_same v k (hah k (mem_pairsOf hk))
    by_cases hiN : i = N
    · subst hiN
      obtain ⟨hg, hT⟩ := hR hl
      have := last o V K hV ho hg fun j hj => hT j hj (hah j (hlast j hj))
      refine hk (fun h => boper_mono h fun v H' q => ⟨V.set i v, ⟨by simpa using hV, fun h => by simp at h, fun _ => q⟩, by rw [getD_set (by omega), if_pos rfl], fun j _ hj => set_same v j hj⟩)
        (fun q => ⟨V.set i undef, ⟨by simpa using hV, fun h => by simp at h, fun _ => q⟩, by rw [getD_set (by omega), if_pos rfl], fun j _ hj => set_same undef j hj⟩) this
    · have hlN : L N = false := hbh N (by omega) (hlast i (by omega))
      obtain ⟨hg, hT⟩ := hR hlN
      have hstep := step i o V K (by omega) ho hg fun j hj => hT j (ahead_small hms hj) (hah j hj)
      have fin : ∀ v H', Grow K H' → T i (valsOf V (pairsOf ops.toList (masks ops.toList) i) []) v H' → ∃ V', (V'.length = N + 1 ∧ ((L N || decide (N = i)) = false → Grow H H' ∧ ∀ j, j < N → (L j || decide (j = i)) = true → T j (valsOf V' (pairsOf ops.toList (masks ops.toList) j) []) (V'.getD j undef) H') ∧ ((L N || decide (N = i)) = true → Q .normal (endOf ops.toList V' fr) H')) ∧
          V'.getD i undef = v ∧ ∀ (j : Nat), j < ops.size → L j = true → V'.getD j undef = V.getD j undef := fun v H' g t => by
        refine ⟨V.set i v, ⟨by simpa using hV, fun _ => ⟨hg.trans g, fun j hj hL => ?_⟩, fun h => by simp [hlN, Ne.symm hiN] at h⟩, by rw [getD_set (by omega), if_pos rfl], fun j _ hj => set_same v j hj⟩
        by_cases e : j = i
        · subst e
          rw [set_own, getD_set (by omega), if_pos rfl]
          exact t
        · have hL' : L j = true := by simpa [e] using hL
          rw [set_vals v j hL', set_same v j hL']
          exact mono _ _ _ _ _ (hT j hj hL') g
      exact hk (fun h => boper_mono h fun v H' q => fin v H' q.1 q.2) (fun q => fin undef K (.refl _) q) hstep
  · rintro V H' ⟨_, _, h⟩
    exact h (by simp [hsz])
end Go.Proofs.YtmdpifedcaaobaaDoor.Ax
/- The abstract machine: a region whose order is open, told by what is known of each operation's value while it is kept: an operation may use up what an earlier one has laid. -/
set_option linter.unusedVariables false
set_option linter.unusedSimpArgs false
namespace Go.Proofs.YtmdpifedcaaobaaDoor.Ax
open Go Go.RowKit
/-- What operation i keeps: what may be there already, and is not used up by it. -/
def keepD (ms : List Nat) (D : Nat → Nat → Bool) (i k : Nat) : Bool := !ahead ms k i && !Nat.beq k i && !D i k
/-- What operation j may ask for: what is ahead of it, and is used up by none but itself, or one that comes later. -/
def needD (ms : List Nat) (N : Nat) (D : Nat → Nat → Bool) (j k : Nat) : Bool := ahead ms j k && (List.range N).all fun i => !D i k || Nat.beq i j || ahead ms i j
theorem SW.drawD {P : Program} {n : Nat} {id : Nat} {ops : Array Oper} {Q : BPost} {fr : Fr} {H : Heap} (N : Nat) (T : Nat → Fr → Value → Heap → Prop) (D : Nat → Nat → Bool) (hm : P.follows .mixedOrders = true)
    (hok : (drawOK2 n ops.toList && Nat.beq ops.size (N + 1) && ((List.range N).all fun j => ahead (masks ops.toList) N j) && (masks ops.toList).all fun m => Nat.blt m (2 ^ N)) = true)
    (step : ∀ (i : Nat) (o : Oper) (V : List Value) (K : Heap), i < N → ops.toList[i]? = some o → Grow H K →
      (∀ j, needD (masks ops.toList) N D i j = true → T j (valsOf V (pairsOf ops.toList (masks ops.toList) j) []) (V.getD j undef) K) →
      wantK ops.toList (envOf ops.toList (masks ops.toList) V fr i) o.guard
        (boper P o (envOf ops.toList (masks ops.toList) V fr i) K fun v H' => Grow H H' ∧ T i (valsOf V (pairsOf ops.toList (masks ops.toList) i) []) v H' ∧ ∀ k F v, keepD (masks ops.toList) D i k = true → T k F v K → T k F v H')
        (T i (valsOf V (pairsOf ops.toList (masks ops.toList) i) []) undef K))
    (last : ∀ (o : Oper) (V : List Value) (K : Heap), V.length = N + 1 → ops.toList[N]? = some o → Grow H K →
      (∀ j, j < N → ((List.range N).all fun i => !D i j) = true → T j (valsOf V (pairsOf ops.toList (masks ops.toList) j) []) (V.getD j undef) K) →
      wantK ops.toList (envOf ops.toList (masks ops.toList) V fr N) o.guard
        (boper P o (envOf ops.toList (masks ops.toList) V fr N) K fun v H' => Q .normal (endOf ops.toList (V.set N v) fr) H')
        (Q .normal (endOf ops.toList (V.set N undef) fr) K)) : SW P n (.region id ops true) Q fr H := by
  simp only [Bool.and_eq_true, List.all_eq_true, List.mem_range] at hok
  obtain ⟨⟨⟨hok, hsz⟩, hlast⟩, hms⟩ := hok
  have hsz := Nat.eq_of_beq_eq_true hsz
  refine SW.drawS (fun L V K => V.length = N + 1 ∧ (L N = false → Grow H K ∧ ∀ j, j < N → L j = true → (∀ i, i < N → D i j = true → L i = false) → T j (valsOf V (pairsOf ops.toList (masks ops.toList) j) []) (V.getD j undef) K) ∧ (L N = true → Q .normal (endOf ops.toList V fr) K)) hm hok
    ⟨List.replicate (N + 1) undef, by simp, fun _ => ⟨.refl _, fun j _ h => by simp at h⟩, fun h => by simp at h⟩ ?_ ?_
  · rintro i o L V K ho hl hah hbh ⟨hV, hR, _⟩
    have hi : i < N + 1 := by have := (List.getElem?_eq_some_iff.1 ho).1; simp at this; omega
    have hk : ∀ {X Y X' Y' : Prop}, (X → X') → (Y → Y') → wantK ops.toList (envOf ops.toList (masks ops.toList) V fr i) o.guard X Y → wantK ops.toList (envOf ops.toList (masks ops.toList) V fr i) o.guard X' Y' := by
      intro X Y X' Y' hX hY h
      unfold wantK at h ⊢
      split
      · rename_i hg; rw [hg] at h; exact hX h
      · rename_i j want hg
        rw [hg] at h
        simp only at h
        split
        · rename_i d hd
          rw [hd] at h
          obtain ⟨v, hv, h⟩ := getK_iff.1 h
          refine getK_iff.2 ⟨v, hv, ?_⟩
          split
          · simp only at h
            split
            · rcases h.out with ⟨rfl, h⟩ | ⟨rfl, h⟩
              · exact hX h
              · exact hY h
            · rcases h.out with ⟨rfl, h⟩ | ⟨rfl, h⟩
              · exact hY h
              · exact hX h
          · exact hY (by simpa using h)
        · rename_i hd
          rw [hd] at h
          exact hY h
    have set_same : ∀ v j, L j = true → (V.set i v).getD j undef = V.getD j undef := fun v j hj => by
      rw [getD_set (by omega), if_neg (fun e => by subst e; rw [hl] at hj; simp at hj)]
    have set_vals : ∀ v j, L j = true → valsOf (V.set i v) (pairsOf ops.toList (masks ops.toList) j) [] = valsOf V (pairsOf ops.toList (masks ops.toList) j) [] := fun v j hj =>
      valsOf_congr fun ⟨d, k⟩ hk => by
        have := mem_pairsOf hk
        show (V.set i v).getD k undef = V.getD k undef
        rw [getD_set (by omega), if_neg]
        rintro rfl
        have hjs : j < ops.size := by have := ahead_lt this; simpa using this
        rw [hbh j hjs this] at hj
        simp at hj
    have set_own : ∀ v, valsOf (V.set i v) (pairsOf ops.toList (masks ops.toList) i) [] = valsOf V (pairsOf ops.toList (masks ops.toList) i) [] := fun v =>
      valsOf_congr fun ⟨d, k⟩ hk => set_same v k (hah k (mem_pairsOf hk))
    by_cases hiN : i = N
    · subst hiN
      obtain ⟨hg, hT⟩ := hR hl
      have hlN : ∀ j, j < i → L j = true := fun j hj => hah j (hlast j hj)
      have := last o V K hV ho hg fun j hj hD => hT j hj (hlN j hj) fun i' hi' hd => by
        rw [List.all_eq_true] at hD
        have := hD i' (List.mem_range.2 hi')
        rw [hd] at this
        simp at this
      refine hk (fun h => boper_mono h fun v H' q => ⟨V.set i v, ⟨by simpa using hV, fun h => by simp at h, fun _ => q⟩, by rw [getD_set (by omega), if_pos rfl], fun j _ hj => set_same v j hj⟩)
        (fun q => ⟨V.set i undef, ⟨by simpa using hV, fun h => by simp at h, fun _ => q⟩, by rw [getD_set (by omega), if_pos rfl], fun j _ hj => set_same undef j hj⟩) this
    · have hlN : L N = false := hbh N (by omega) (hlast i (by omega))
      obtain ⟨hg, hT⟩ := hR hlN
      have hstep := step i o V K (by omega) ho hg fun j hj => by
        unfold needD at hj
        rw [Bool.and_eq_true, List.all_eq_true] at hj
        obtain ⟨hj, hD⟩ := hj
        refine hT j (ahead_small hms hj) (hah j hj) fun i' hi' hd => ?_
        have := hD i' (List.mem_range.2 hi')
        rw [hd] at this
        simp only [Bool.not_true, Bool.false_or, Bool.or_eq_true] at this
        rcases this with h | h
        · rw [Nat.eq_of_beq_eq_true h]; exact hl
        · exact hbh i' (by omega) h
      have fin : ∀ v H', Grow H H' → T i (valsOf V (pairsOf ops.toList (masks ops.toList) i) []) v H' → (∀ k F v, keepD (masks ops.toList) D i k = true → T k F v K → T k F v H') → ∃ V', (V'.length = N + 1 ∧ ((L N || decide (N = i)) = false → Grow H H' ∧ ∀ j, j < N → (L j || decide (j = i)) = true → (∀ i', i' < N → D i' j = true → (L i' || decide (i' = i)) = false) → T j (valsOf V' (pairsOf ops.toList (masks ops.toList) j) []) (V'.getD j undef) H') ∧ ((L N || decide (N = i)) = true → Q .normal (endOf ops.toList V' fr) H')) ∧
          V'.getD i undef = v ∧ ∀ (j : Nat), j < ops.size → L j = true → V'.getD j undef = V.getD j undef := fun v H' g t hkp => by
        refine ⟨V.set i v, ⟨by simpa using hV, fun _ => ⟨g, fun j hj hL hD => ?_⟩, fun h => by simp [hlN, Ne.symm hiN] at h⟩, by rw [getD_set (by omega), if_pos rfl], fun j _ hj => set_same v j hj⟩
        by_cases e : j = i
        · subst e
          rw [set_own, getD_set (by omega), if_pos rfl]
          exact t
        · have hL' : L j = true := by simpa [e] using hL
          rw [set_vals v j hL', set_same v j hL']
          refine hkp j _ _ ?_ (hT j hj hL' fun i' hi' hd => by have := hD i' hi' hd; simp only [Bool.or_eq_false_iff] at this; exact this.1)
          unfold keepD
          have e1 : ahead (masks ops.toList) j i = false := by
            cases ha : ahead (masks ops.toList) j i with
            | false => rfl
            | true => rw [hbh j (by omega) ha] at hL'; simp at hL'
          have e2 : Nat.beq j i = false := by
            cases hb : Nat.beq j i with
            | false => rfl
            | true => exact absurd (Nat.eq_of_beq_eq_true hb) e
          have e3 : D i j = false := by
            cases hd : D i j with
            | false => rfl
            | true => have := hD i (by omega) hd; simp at this
          rw [e1, e2, e3]
          rfl
      exact hk (fun h => boper_mono h fun v H' q => fin v H' q.1 q.2.1 q.2.2) (fun q => fin undef K hg q fun _ _ _ _ h => h) hstep
  · rintro V H' ⟨_, _, h⟩
    exact h (by simp [hsz])
end Go.Proofs.YtmdpifedcaaobaaDoor.Ax
/- The abstract machine: functions that go over functions (range over a func): the loop's record, its rounds, and what is left to be done at the return. -/
set_option linter.unusedVariables false
set_option linter.unusedSimpArgs false
namespace Go.Proofs.YtmdpifedcaaobaaDoor.Ax
open Go Go.RowKit
abbrev markD (l : Nat) : Deferred := { target := .collected l, args := #[] }
/-- The marks on a function's deferred calls, told by their blocks. -/
def DM (ι : List Pl) (ds : List Deferred) (M : List Nat) : Prop := ds.length = M.length ∧ ∀ (i q : Nat), M[i]? = some q → ∃ pl, ι[q]? = some pl ∧ ds[i]? = some (markD pl.blk)
theorem DM.nil (ι : List Pl) : DM ι [] [] := ⟨rfl, fun i q h => by simp at h⟩
theorem DM.ext {ι ι' : List Pl} {ds : List Deferred} {M : List Nat} (hx : Ext ι ι') (h : DM ι ds M) : DM ι' ds M := ⟨h.1, fun i q hq => let ⟨pl, h1, h2⟩ := h.2 i q hq; ⟨pl, hx _ _ h1, h2⟩⟩
theorem DM.cons {ι : List Pl} {ds : List Deferred} {M : List Nat} (h : DM ι ds M) {q : Nat} {pl : Pl} (hq : ι[q]? = some pl) : DM ι (markD pl.blk :: ds) (q :: M) :=
  ⟨by simp [h.1], fun i r hr => by
    cases i with
    | zero => simp only [List.getElem?_cons_zero, Option.some.injEq] at hr; subst hr; exact ⟨pl, hq, rfl⟩
    | succ i => simp only [List.getElem?_cons_succ] at hr ⊢; exact h.2 i r hr⟩
abbrev DPost := AExit → Fr → Heap → List Nat → Prop
def LD (P : Program) (n : Nat) (w0 : World) (ι : List Pl) (Q : DPost) (e : Exit) (a : Act) (w : World) : Prop :=
  ∃ ae, toA e = some ae ∧ ∃ fr H ι' M, Ext ι ι' ∧ WR P w0 ι' H w ∧ FB n ι' fr a ∧ DM ι' a.defers M ∧ Q ae fr H M
theorem LD.ext {P : Program} {n : Nat} {w0 : World} {ι ι' : List Pl} {Q : DPost} {e : Exit} {a : Act} {w : World} (hi : Ext ι ι') (h : LD P n w0 ι' Q e a w) : LD P n w0 ι Q e a w := by
  obtain ⟨ae, h1, fr, H, ι2, M, h2, r⟩ := h
  exact ⟨ae, h1, fr, H, ι2, M, hi.trans h2, r⟩
theorem LD.intro {P : Program} {n : Nat} {w0 : World} {ι : List Pl} {Q : DPost} {e : Exit} {ae : AExit} {a : Act} {w : World} {fr : Fr} {H : Heap} {M : List Nat} (he : toA e = some ae) (hw : WR P w0 ι H w) (hf : FB n ι fr a) (hd : DM ι a.defers M) (q : Q ae fr H M) : LD P n w0 ι Q e a w :=
  ⟨ae, he, fr, H, ι, M, .refl _, hw, hf, hd, q⟩
/-- A piece of a function's code, with the marks. -/
structure SD (P : Program) (n : Nat) (c : Code) (Q : DPost) (fr : Fr) (H : Heap) (M : List Nat) : Prop where
  out : ∀ (w0 : World) (ι : List Pl) (a : Act) (w : World), WR P w0 ι H w → FB n ι fr a → DM ι a.defers M → c.wpIn (rF none) 0 P (LD P n w0 ι Q) a w
theorem SD.of {P : Program} {n : Nat} {c : Code} {Q : DPost} {fr : Fr} {H : Heap} {M : List Nat} (h : SW P n c (fun e fr H => Q e fr H M) fr H) : SD P n c Q fr H M :=
  ⟨fun w0 ι a w hw hf hd => wpIn_mono (h.out none a.defers w0 ι a w hw hf rfl) fun e a' w' hq => by
    obtain ⟨ae, he, fr', H', ι', hx, hw', hf', hd', q⟩ := hq
    exact ⟨ae, he, fr', H', ι', M, hx, hw', hf', by rw [hd']; exact hd.ext hx, q⟩⟩
def thenD (K : Fr → Heap → List Nat → Prop) (Q : DPost) : DPost
  | .normal, fr, H, M => K fr H M
  | e, fr, H, M => Q e fr H M
def inBlD (id : Nat) (Q : DPost) : DPost
  | .exit id', fr, H, M => match Nat.beq id' id with | true => Q .normal fr H M | false => Q (.exit id') fr H M
  | e, fr, H, M => Q e fr H M
def dC (P : Program) (n : Nat) : Code → DPost → Fr → Heap → List Nat → Prop
  | .skip, Q => Q .normal
  | .label _, Q => Q .normal
  | .region id ops draw, Q => fun fr H M => match draw with | false => bops P n ops.toList (fun e fr H => Q e fr H M) ops.toList fr H | true => SW P n (.region id ops true) (fun e fr H => Q e fr H M) fr H
  | .seq x y, Q => dC P n x (thenD (dC P n y Q) Q)
  | .cond c x y, Q => fun fr H M => evK fr c fun v => match v with | .bool b => bIf b (dC P n x Q fr H M) (dC P n y Q fr H M) | _ => False
  | .block id x, Q => dC P n x (inBlD id Q)
  | .loop x, Q => SD P n (.loop x) Q
  | .exit id, Q => Q (.exit id)
  | .scope x, Q => SD P n (.scope x) Q
  | .goto l, Q => Q (.goto l)
  | .ret, Q => Q .ret
  | .rangeFunc f ps x y, Q => SD P n (.rangeFunc f ps x y) Q
  | .refuse _, _ => fun _ _ _ => False
theorem dC_sound {P : Program} {n : Nat} : ∀ (c : Code) (Q : DPost) (fr : Fr) (H : Heap) (M : List Nat), dC P n c Q fr H M → SD P n c Q fr H M := by
  intro c
  induction c with
  | skip => intro Q fr H M h; exact ⟨fun w0 ι a w hw hf hd => wpIn_skip (.intro rfl hw hf hd h)⟩
  | label l => intro Q fr H M h; exact ⟨fun w0 ι a w hw hf hd => wpIn_label (.intro rfl hw hf hd h)⟩
  | region id ops draw =>
    intro Q fr H M h
    cases draw with
    | false => exact .of (bC_sound (.region id ops false) _ fr H h)
    | true => exact .of h
  | seq x y ihx ihy =>
    intro Q fr H M h
    refine ⟨fun w0 ι a w hw hf hd => wpIn_seq (wpIn_mono ((ihx _ fr H M h).out w0 ι a w hw hf hd) fun e a' w' hq => ?_)⟩
    obtain ⟨ae, he, fr', H', ι', M', hx, hw', hf', hd', q⟩ := hq
    cases e with
    | normal =>
      simp only [toA, Option.some.injEq] at he; subst he
      exact wpIn_mono ((ihy _ fr' H' M' q).out w0 ι' a' w' hw' hf' hd') fun e a w hq => hq.ext hx
    | exit id => simp only [toA, Option.some.injEq] at he; subst he; exact ⟨_, rfl, fr', H', ι', M', hx, hw', hf', hd', q⟩
    | goto l => simp only [toA, Option.some.injEq] at he; subst he; exact ⟨_, rfl, fr', H', ι', M', hx, hw', hf', hd', q⟩
    | ret => simp only [toA, Option.some.injEq] at he; subst he; exact ⟨_, rfl, fr', H', ι', M', hx, hw', hf', hd', q⟩
    | panic ch => simp [toA] at he
    | outgrown => simp [toA] at he
  | cond c x y ihx ihy =>
    intro Q fr H M h
    refine ⟨fun w0 ι a w hw hf hd => ?_⟩
    obtain ⟨v, hv, h⟩ := evK_rel hf h
    split at h
    · rename_i b
      generalize hce : a.eval c = ce at hv
      cases hv
      rcases h.out with ⟨rfl, h⟩ | ⟨rfl, h⟩
      · exact wpIn_cond_true hce ((ihx _ fr H M h).out w0 ι a w hw hf hd)
      · exact wpIn_cond_false hce ((ihy _ fr H M h).out w0 ι a w hw hf hd)
    · exact h.elim
  | block id x ihx =>
    intro Q fr H M h
    refine ⟨fun w0 ι a w hw hf hd => wpIn_block (wpIn_mono ((ihx _ fr H M h).out w0 ι a w hw hf hd) fun e a' w' hq => ?_)⟩
    obtain ⟨ae, he, fr', H', ι', M', hx, hw', hf', hd', q⟩ := hq
    cases e with
    | normal => simp only [toA, Option.some.injEq] at he; subst he; exact ⟨_, rfl, fr', H', ι', M', hx, hw', hf', hd', q⟩
    | exit id' =>
      simp only [toA, Option.some.injEq] at he; subst he
      simp only [inBlD] at q
      simp only [Exit.inBlock]
      split at q
      · rename_i hid; rw [if_pos (Nat.eq_of_beq_eq_true hid)]; exact ⟨_, rfl, fr', H', ι', M', hx, hw', hf', hd', q⟩
      · rename_i hid; rw [if_neg (Nat.ne_of_beq_eq_false hid)]; exact ⟨_, rfl, fr', H', ι', M', hx, hw', hf', hd', q⟩
    | goto l => simp only [toA, Option.some.injEq] at he; subst he; exact ⟨_, rfl, fr', H', ι', M', hx, hw', hf', hd', q⟩
    | ret => simp only [toA, Option.some.injEq] at he; subst he; exact ⟨_, rfl, fr', H', ι', M', hx, hw', hf', hd', q⟩
    | panic ch => simp [toA] at he
    | outgrown => simp [toA] at he
  | loop x ihx => intro Q fr H M h; exact h
  | rangeFunc f ps x y => intro Q fr H M h; exact h
  | exit id => intro Q fr H M h; exact ⟨fun w0 ι a w hw hf hd => wpIn_exit (.intro rfl hw hf hd h)⟩
  | scope x ihx => intro Q fr H M h; exact h
  | goto l => intro Q fr H M h; exact ⟨fun w0 ι a w hw hf hd => wpIn_goto (.intro rfl hw hf hd h)⟩
  | ret => intro Q fr H M h; exact ⟨fun w0 ι a w hw hf hd => wpIn_ret (.intro rfl hw hf hd h)⟩
  | refuse s => intro Q fr H M h; exact h.elim
/-- A loop. -/
def roundD {α : Type} (F : α → Fr) (I : α → Heap → List Nat → Prop) (μ : α → Nat) (x : α) (Q : DPost) : DPost
  | .normal, fr, H, M => ∃ y, Has fr (F y) ∧ I y H M ∧ μ y < μ x
  | e, fr, H, M => Q e fr H M
theorem SD.loop {P : Program} {n : Nat} {c : Code} {Q : DPost} {fr : Fr} {H : Heap} {M : List Nat} {α : Type} (F : α → Fr) (I : α → Heap → List Nat → Prop) (μ : α → Nat) (h0 : ∃ x, Has fr (F x) ∧ I x H M)
    (step : ∀ x H M, I x H M → SD P n c (roundD F I μ x Q) (F x) H M) : SD P n (.loop c) Q fr H M := by
  refine ⟨fun w0 ι a w hw hf hd b k cs hro _ _ => ?_⟩
  have key : ∀ (m : Nat) (x : α) (H : Heap) (M : List Nat) (ι : List Pl) (a : Act) (w : World), μ x = m → I x H M → WR P w0 ι H w → FB n ι (F x) a → DM ι a.defers M →
      ∃ e a' w', LD P n w0 ι Q e a' w' ∧ ArrivesIn (Machine.fenced P (rF none)) P (lone (b.atR a (.code c :: .inLoop c :: k)) cs w) b k cs e a' w' := by
    intro m
    induction m using Nat.strongRecOn with
    | _ m ih =>
      intro x H M ι a w hm hI hw hf hd
      obtain ⟨e, a1, w1, ⟨ae, he, fr1, H1, ι1, M1, hx, hw1, hf1, hd1, q⟩, harr⟩ := (step x H M hI).out w0 ι a w hw hf hd b (.inLoop c :: k) cs hro trivial (room_wide _)
      have pass : Q ae fr1 H1 M1 → e ≠ .normal → ∃ e a' w', LD P n w0 ι Q e a' w' ∧ ArrivesIn (Machine.fenced P (rF none)) P (lone (b.atR a (.code c :: .inLoop c :: k)) cs w) b k cs e a' w' := fun q' hn =>
        ⟨e, a1, w1, ⟨ae, he, fr1, H1, ι1, M1, hx, hw1, hf1, hd1, q'⟩, .pass (x := .inLoop c) rfl (fun _ _ => .inl hn) harr⟩
      cases e with
      | normal =>
        simp only [toA, Option.some.injEq] at he
        subst he
        obtain ⟨y, hy, hIy, hlt⟩ := q
        obtain ⟨e2, a2, w2, q2, harr2⟩ := ih (μ y) (hm ▸ hlt) y H1 M1 ι1 a1 w1 rfl hIy hw1 ⟨hf1.size, fun t v ht => hf1.val t v (Sub.of hy t v ht)⟩ hd1
        exact ⟨e2, a2, w2, q2.ext hx, .of_steps (StepsIn.trans harr (.one (fenced_rF P none _) stepR_inLoop)) harr2⟩
      | exit id => simp only [toA, Option.some.injEq] at he; subst he; exact pass q (by simp)
      | goto l => simp only [toA, Option.some.injEq] at he; subst he; exact pass q (by simp)
      | ret => simp only [toA, Option.some.injEq] at he; subst he; exact pass q (by simp)
      | panic ch => simp [toA] at he
      | outgrown => simp [toA] at he
  obtain ⟨x, hx, hI⟩ := h0
  obtain ⟨e, a', w', q, harr⟩ := key _ x H M ι a w rfl hI hw ⟨hf.size, fun t v ht => hf.val t v (Sub.of hx t v ht)⟩ hd
  exact ⟨e, a', w', q, .of_steps (.one (fenced_rF P none _) stepR_loop) harr⟩

/-! ### The loop's record -/
theorem putObj_heap (w : World) (l : Nat) (o : Obj) (k : Nat) : (w.putObj l o).heap[k]? = if k = l ∧ l < w.heap.size then some o else w.heap[k]? := by
  by_cases h : k = l
  · subst h
    by_cases hl : k < w.heap.size
    · rw [if_pos ⟨rfl, hl⟩, World.putObj_heap_same hl]
    · rw [if_neg (fun h => hl h.2)]
      have : (w.putObj k o).heap.size = w.heap.size := by simp [World.putObj]
      rw [Array.getElem?_eq_none (by omega), Array.getElem?_eq_none (by omega)]
  · rw [if_neg (fun hh => h hh.1), World.putObj_heap_other h]
theorem WR.put {P : Program} {w0 w : World} {ι : List Pl} {H : Heap} (h : WR P w0 ι H w) {b : Nat} {B B' : Blk} {pl : Pl} (hb : H[b]? = some B) (hp : ι[b]? = some pl) (ho : B.own = true) (o : Obj)
    (hB : BR P w0 ι (w.putObj pl.blk o) pl B') : WR P w0 ι (H.set b B') (w.putObj pl.blk o) := by
  refine h.upd hb hp ho rfl rfl rfl (by simp [World.putObj]) (fun k hk hne => ?_) hB
  rw [World.putObj_heap_other hne]
theorem WR.setRec {P : Program} {w0 w : World} {ι : List Pl} {H : Heap} (h : WR P w0 ι H w) {q n : Nat} {fr : Fr} {st : LoopState} {pend : Option Code} {ps : Array Tmp} {assign body : Code} {pl : Pl} (hq : H[q]? = some (.lrec n fr st pend ps assign body)) (hp : ι[q]? = some pl) :
    ∃ fn tmps d, w.heap[pl.blk]? = some (.loop ⟨st, pend, fn, tmps, ps, assign, body, d⟩) ∧ (tmps.size = n ∧ ∀ (t : Nat) (v : Value), getF fr t = some v → t < n ∧ VR ι v (tmps.getD t undef)) ∧
      ∀ (st' : LoopState) (pend' : Option Code), WR P w0 ι (H.set q (.lrec n fr st' pend' ps assign body)) (w.putObj pl.blk (.loop ⟨st', pend', fn, tmps, ps, assign, body, d⟩)) ∧
        WR P w0 ι (H.set q .dead) (w.putObj pl.blk (.loop ⟨st', pend', fn, tmps, ps, assign, body, d⟩)) := by
  obtain ⟨fn, tmps, d, h1, h2, h3, h4⟩ := h.blk q _ pl hq hp
  have hlt := (Array.getElem?_eq_some_iff.1 h1).1
  refine ⟨fn, tmps, d, h1, ⟨h3, h4⟩, fun st' pend' => ⟨h.put hq hp rfl _ ⟨fn, tmps, d, World.putObj_heap_same hlt, h2, h3, h4⟩, h.put hq hp rfl _ trivial⟩⟩
/-- How a round may be left. -/
def roundQ (n q : Nat) (fr : Fr) (p : Nat) (assign body : Code) (K : Value → Heap → Prop) : BPost
  | .normal, _, Y => Y[q]? = some (.lrec n fr .busy none #[p] assign body) ∧ K (.bool true) (Y.set q (.lrec n fr .ready none #[p] assign body))
  | .ret, _, Y => Y[q]? = some (.lrec n fr .busy none #[p] assign body) ∧ K (.bool false) (Y.set q (.lrec n fr .done (some .ret) #[p] assign body))
  | .exit id, _, Y => Y[q]? = some (.lrec n fr .busy none #[p] assign body) ∧ K (.bool false) (Y.set q (.lrec n fr .done (some (.exit id)) #[p] assign body))
  | .goto t, _, Y => Y[q]? = some (.lrec n fr .busy none #[p] assign body) ∧ K (.bool false) (Y.set q (.lrec n fr .done (some (.goto t)) #[p] assign body))
def assignQ (P : Program) (n q : Nat) (fr : Fr) (p : Nat) (assign body : Code) (K : Value → Heap → Prop) : BPost
  | .normal, fr', X => X[q]? = some (.lrec n fr .ready none #[p] assign body) ∧ bC P n body (roundQ n q fr p assign body K) fr' (X.set q (.lrec n fr .busy none #[p] assign body))
  | _, _, _ => False
/-- A round. -/
theorem YX.round {P : Program} {n q p : Nat} {fr : Fr} {assign body : Code} {X : Heap} {v : Value} {K : Value → Heap → Prop} (hX : X[q]? = some (.lrec n fr .ready none #[p] assign body)) (hp : p < n)
    (ha : bC P n assign (assignQ P n q fr p assign body K) ((p, v) :: fr) X) : YX P q [v] X K := by
  refine ⟨fun w0 ι w pl cas hw hq hl => ?_⟩
  obtain ⟨fn, tmps, d, h1, ⟨h2, h3⟩, _⟩ := hw.setRec hX hq
  obtain ⟨cv, hcv, hvr⟩ := hl.one
  have hcas : cas = #[cv] := toList_one hcv
  subst hcas
  refine ⟨fn, tmps.setIfInBounds p cv, assign, body, (by have := run_yield (P := P) (args := #[cv]) h1 rfl; simpa using this), roundIn_of_wpIn trivial ?_⟩
  have hfb : FB n ι ((p, v) :: fr) { tmps := tmps.setIfInBounds p cv, defers := [] } :=
    FB.put (n := n) (ι := ι) (fr := fr) (a := { tmps := tmps, defers := [] }) ⟨h2, h3⟩ hvr hp
  have hs := (bC_sound assign _ _ _ ha).out (some pl.blk) [] w0 ι { tmps := tmps.setIfInBounds p cv, defers := [] } w hw hfb rfl
  refine wpIn_mono (F := rF (some pl.blk)) hs fun e a1 w1 hl1 => ?_
  obtain ⟨ae, he, fr1, X1, ι1, hx1, hw1, hf1, hd1, hQ⟩ := hl1
  cases e with
  | normal =>
    simp only [toA, Option.some.injEq] at he; subst he
    obtain ⟨hX1, hb⟩ := hQ
    have hq1 := hx1 _ _ hq
    obtain ⟨fn', tmps', d', k1, _, k3⟩ := hw1.setRec hX1 hq1
    refine ⟨_, run_beginRound k1 rfl, ?_⟩
    have hw2 := (k3 .busy none).1
    refine wpIn_mono (F := rF (some pl.blk)) ((bC_sound body _ _ _ hb).out (some pl.blk) [] w0 ι1 a1 _ hw2 hf1 hd1) fun e a2 w2 hl2 => ?_
    obtain ⟨ae, he, fr2, X2, ι2, hx2, hw3, hf2, hd2, hQ2⟩ := hl2
    have hq2 := hx2 _ _ hq1
    have fin : ∀ (jump : Option Code) (st' : LoopState), X2[q]? = some (.lrec n fr .busy none #[p] assign body) → st' = (if jump.isNone then LoopState.ready else .done) → K (.bool jump.isNone) (X2.set q (.lrec n fr st' jump #[p] assign body)) →
        ∃ v w', (Instr.endRound pl.blk jump).run P w2 = .ok v w' ∧ AEnd P w0 ι K (.returned v) w' := fun jump st' hr hst hk => by
      obtain ⟨fn2, tmps2, d2, m1, _, m3⟩ := hw3.setRec hr hq2
      subst hst
      exact ⟨_, _, run_endRound jump m1, _, _, ι2, hk, hx1.trans hx2, (m3 _ _).1, .bool _⟩
    cases e with
    | normal => simp only [toA, Option.some.injEq] at he; subst he; exact fin none .ready hQ2.1 rfl hQ2.2
    | ret => simp only [toA, Option.some.injEq] at he; subst he; exact fin (some .ret) .done hQ2.1 rfl hQ2.2
    | exit id => simp only [toA, Option.some.injEq] at he; subst he; exact fin (some (.exit id)) .done hQ2.1 rfl hQ2.2
    | goto t => simp only [toA, Option.some.injEq] at he; subst he; exact fin (some (.goto t)) .done hQ2.1 rfl hQ2.2
    | panic ch => simp [toA] at he
    | outgrown => simp [toA] at he
  | exit id => simp only [toA, Option.some.injEq] at he; subst he; exact hQ.elim
  | goto l => simp only [toA, Option.some.injEq] at he; subst he; exact hQ.elim
  | ret => simp only [toA, Option.some.injEq] at he; subst he; exact hQ.elim
  | panic ch => simp [toA] at he
  | outgrown => simp [toA] at he
/-- What is done behind the loop. -/
def afterQ (Q : DPost) (fr : Fr) (X : Heap) (M : List Nat) : Option Code → Prop
  | none => Q .normal fr X M
  | some .ret => Q .ret fr X M
  | some (.exit id) => Q (.exit id) fr X M
  | some (.goto t) => Q (.goto t) fr X M
  | _ => False
theorem SD.rangeFunc {P : Program} {n p : Nat} {g : Operand} {assign body : Code} {Q : DPost} {fr : Fr} {H : Heap} {M : List Nat} {gf : Nat} {cap : Array Value}
    (hg : evK fr g fun v => v = .func (.func gf) #[] cap)
    (hit : AX P gf (#[.func (.yield (H.length + 1)) #[] #[]] ++ cap) (H ++ [.defd] ++ [.lrec n fr .ready none #[p] assign body]) fun _ X =>
      ∃ st pend, X[H.length + 1]? = some (.lrec n fr st pend #[p] assign body) ∧ st ≠ .busy ∧ afterQ Q fr (X.set (H.length + 1) .dead) (H.length :: M) pend) : SD P n (.rangeFunc g #[p] assign body) Q fr H M := by
  refine ⟨fun w0 ι a w hw hf hd => wpIn_rangeFunc fun fn _ => ?_⟩
  obtain ⟨gv, hgv, rfl⟩ := evK_rel hf hg
  generalize hge : a.eval g = ge at hgv
  cases hgv with
  | func _ cfirst' cfirst _ ccap s1 s2 v1 v2 =>
  have hcf : cfirst = #[] := by
    have : cfirst.size = 0 := by simpa using s1.symm
    exact Array.eq_empty_of_size_eq_zero this
  subst hcf
  obtain ⟨⟨gfn, hgfn, hbody, hname⟩, hax⟩ := hit
  -- the two new blocks
  let pd : Pl := ⟨w.heap.size, 0, 0, 0⟩
  let pr : Pl := ⟨w.heap.size + 1, 0, 0, 0⟩
  have hw1 : WR P w0 (ι ++ [pd]) (H ++ [.defd]) (w.alloc (.deferred (some []))) := hw.fresh _ pd .defd rfl ⟨heap_alloc_self _ _, hw.below.size⟩
  have hx1 : Ext ι (ι ++ [pd]) := .push _ _
  have hsz : (w.alloc (.deferred (some []))).heap.size = w.heap.size + 1 := World.size_alloc _ _
  have hx2 : Ext (ι ++ [pd]) (ι ++ [pd] ++ [pr]) := .push _ _
  have hw2 : WR P w0 (ι ++ [pd] ++ [pr]) (H ++ [.defd] ++ [.lrec n fr .ready none #[p] assign body]) ((w.alloc (.deferred (some []))).alloc (.loop ⟨.ready, none, fn, a.tmps, #[p], assign, body, w.heap.size⟩)) := by
    refine hw1.fresh _ pr _ (by rw [hsz]) ⟨fn, a.tmps, w.heap.size, ?_, ?_, hf.size, fun t v ht => ⟨(hf.val t v ht).1, ((hf.val t v ht).2.ext hx1).ext hx2⟩⟩
    · have := heap_alloc_self (w.alloc (.deferred (some []))) (.loop ⟨.ready, none, fn, a.tmps, #[p], assign, body, w.heap.size⟩)
      rw [hsz] at this
      exact this
    · show w0.heap.size ≤ w.heap.size + 1
      have := hw.below.size
      omega
  have hx : Ext ι (ι ++ [pd] ++ [pr]) := hx1.trans hx2
  have hqr : (ι ++ [pd] ++ [pr])[H.length + 1]? = some pr := by rw [← hw.len]; simp
  have hqd : (ι ++ [pd] ++ [pr])[H.length]? = some pd := by rw [← hw.len]; simp
  have hargs : AsR (ι ++ [pd] ++ [pr]) (#[.func (.yield (H.length + 1)) #[] #[]] ++ cap) (#[.func (.yield (w.heap.size + 1)) #[] #[]] ++ ccap) := by
    have l1 : LR (ι ++ [pd] ++ [pr]) [.func (.yield (H.length + 1)) #[] #[]] [.func (.yield (w.heap.size + 1)) #[] #[]] := .cons (.yld _ pr hqr) (.nil _)
    have l2 : LR (ι ++ [pd] ++ [pr]) cap.toList ccap.toList := (LR.arr s2 v2).ext hx
    have l := l1.append l2
    have e1 : ([Value.func (.yield (H.length + 1)) #[] #[]] ++ cap.toList).toArray = #[Value.func (.yield (H.length + 1)) #[] #[]] ++ cap := by simp
    have e2 : ([Value.func (.yield (w.heap.size + 1)) #[] #[]] ++ ccap.toList).toArray = #[Value.func (.yield (w.heap.size + 1)) #[] #[]] ++ ccap := by simp
    rw [← e1, ← e2]
    exact .ofL l
  have hcalls := hax w0 _ _ _ hw2 hargs
  have hent := run_enterLoop_outer (P := P) (w := w) fn a.tmps #[p] assign body
  generalize hW : (w.alloc (.deferred (some []))).alloc (.loop ⟨.ready, none, fn, a.tmps, #[p], assign, body, w.heap.size⟩) = W2 at hw2 hcalls hent
  refine ⟨w.heap.size + 1, [{ target := .collected w.heap.size, args := #[] }], W2, { target := .fn (.func gf) ccap, args := #[.func (.yield (w.heap.size + 1)) #[] #[]] }, W2, gf, #[.func (.yield (w.heap.size + 1)) #[] #[]] ++ ccap, W2, hent, ?_, fun _ _ => trivial, ?_, (fun h => by simp at h), ?_⟩
  · simp only [resolve, hge]
    simp [go_sem]
  · have hb : gfn.body ≠ none := by intro hb; simp [hb] at hbody
    simp [invoke, callFunc, hgfn, hb, hname]
  · refine (callsIn_rF (ro := none) (n := 0 - 1)).2 ?_
    refine Calls.mono hcalls fun e w3 he => ?_
    cases e with
    | returned cv =>
      obtain ⟨v, X, ι3, ⟨st, pend, hr, hst, hQ⟩, hx3, hw3, _⟩ := he
      have hq3 := hx3 _ _ hqr
      obtain ⟨fn3, tmps3, d3, m1, _, m3⟩ := hw3.setRec hr hq3
      have hw4 := (m3 .exhausted pend).2
      have hx4 := hx.trans hx3
      have hf4 : FB n ι3 fr { a with defers := [{ target := .collected w.heap.size, args := #[] }] ++ a.defers } := ⟨hf.size, fun t v ht => ⟨(hf.val t v ht).1, (hf.val t v ht).2.ext hx4⟩⟩
      have hd4 : DM ι3 ([{ target := .collected w.heap.size, args := #[] }] ++ a.defers) (H.length :: M) := (hd.ext hx4).cons (hx3 _ _ hqd)
      refine ⟨pend, _, run_endLoop m1 hst, ?_⟩
      cases pend with
      | none => exact ⟨.normal, rfl, fr, _, ι3, _, hx4, hw4, hf4, hd4, hQ⟩
      | some c =>
        cases c with
        | ret => exact wpIn_ret ⟨.ret, rfl, fr, _, ι3, _, hx4, hw4, hf4, hd4, hQ⟩
        | exit id => exact wpIn_exit ⟨.exit id, rfl, fr, _, ι3, _, hx4, hw4, hf4, hd4, hQ⟩
        | goto t => exact wpIn_goto ⟨.goto t, rfl, fr, _, ι3, _, hx4, hw4, hf4, hd4, hQ⟩
        | _ => exact hQ.elim
    | panicked ch => exact he.elim
    | outgrown => exact he.elim

/-! ### Whole functions -/
/-- The marks' blocks are let go. -/
def killM : Heap → List Nat → Heap
  | H, [] => H
  | H, q :: M => killM (H.set q .dead) M
def dpost (P : Program) (rs : List ResultVar) (Q : Value → Heap → Prop) : DPost
  | .normal, fr, H, M => M.Nodup ∧ (∀ q ∈ M, H[q]? = some .defd) ∧ resK P fr (killM H M) rs fun vs => Q (oneOr vs) (killM H M)
  | .ret, fr, H, M => M.Nodup ∧ (∀ q ∈ M, H[q]? = some .defd) ∧ resK P fr (killM H M) rs fun vs => Q (oneOr vs) (killM H M)
  | _, _, _, _ => False
theorem leaves_marks {P : Program} {n : Nat} {w0 : World} {ι ι' : List Pl} {fr' : Fr} {tmps : Array Value} {fn : Func} {rs : List ResultVar} {Q : Value → Heap → Prop} (hrs : fn.results.toList = rs) (hx : Ext ι ι') : ∀ (M : List Nat) (H : Heap) (ds : List Deferred) (w : World),
    WR P w0 ι' H w → DM ι' ds M → M.Nodup → (∀ q ∈ M, H[q]? = some .defd) → (∀ ds, FB n ι' fr' { tmps := tmps, defers := ds }) → (resK P fr' (killM H M) rs fun vs => Q (oneOr vs) (killM H M)) →
    LeavesInM (rF none) 0 P fn tmps (AEnd P w0 ι Q) ds .returning w := by
  intro M
  induction M with
  | nil =>
    intro H ds w hw hd _ _ hf hq
    have : ds = [] := List.length_eq_zero_iff.1 hd.1
    subst this
    obtain ⟨v, h1, h2⟩ := results_run (fn := fn) hrs hx hw (hf []) hq
    exact ⟨v, h1, h2⟩
  | cons q M ih =>
    intro H ds w hw hd hn hall hf hq
    obtain ⟨pl, hp, hd0⟩ := hd.2 0 q rfl
    cases ds with
    | nil => simp at hd0
    | cons d ds =>
      simp only [List.getElem?_cons_zero, Option.some.injEq] at hd0
      subst hd0
      have hH := hall q (by simp)
      obtain ⟨h1, _⟩ := hw.blk q _ pl hH hp
      have hw' := hw.put (B' := .dead) hH hp rfl (.deferred none) trivial
      rw [List.nodup_cons] at hn
      refine ⟨by simp, .inl ⟨pl.blk, _, rfl, run_takeDeferred h1, ih (H.set q .dead) ds _ hw' ⟨by simpa using hd.1, fun i r hr => hd.2 (i + 1) r hr⟩ hn.2 (fun r hr => ?_) hf hq⟩⟩
      rw [List.getElem?_set_ne (by rintro rfl; exact hn.1 hr)]
      exact hall r (List.mem_cons_of_mem _ hr)
/-- A function by its body, marks and all. -/
theorem AX.bodyD {P : Program} {f : FuncId} {fn : Func} {c : Code} (hfn : P.funcs[f]? = some fn) (hb : fn.body = some c) (hname : fn.name ≠ "runtime.NumGoroutine") {args : List Value} {H : Heap} {Q : Value → Heap → Prop} {n : Nat} {rs : List ResultVar}
    (hn : args.length + (fn.ntmps - args.length) = n) (hrs : fn.results.toList = rs)
    (h : SD P n c (dpost P rs Q) (frame0 0 args) H []) : AX P f args.toArray H Q := by
  refine ⟨⟨fn, hfn, by simp [hb], hname⟩, fun w0 ι w cargs hw ha => ?_⟩
  have hs : cargs.size = args.length := by simpa using ha.1
  have hf : FB n ι (frame0 0 args) { tmps := cargs ++ Array.replicate (fn.ntmps - cargs.size) undef, defers := [] } := by
    refine ⟨by simp [hs]; omega, fun t v ht => ?_⟩
    obtain ⟨_, h2⟩ := frame0_get _ _ _ _ ht
    simp only [Nat.sub_zero] at h2
    have hlt : t < args.length := (List.getElem?_eq_some_iff.1 h2).1
    refine ⟨by omega, ?_⟩
    have := ha.2 t (by simpa using hlt)
    simp only
    rw [Array.getD_eq_getD_getElem?, Array.getElem?_append, if_pos (by omega)]
    rw [Array.getD_eq_getD_getElem?, Array.getD_eq_getD_getElem?] at this
    simpa [h2] using this
  refine callsIn_rF.1 (callsIn_of_wp_marks (F := rF none) (n := 0) hfn hb trivial (wpIn_mono (h.out w0 ι _ w hw hf (.nil ι)) fun e a' w' hq => ?_))
  obtain ⟨ae, he, fr', H', ι', M, hx, hw', hf', hd', q⟩ := hq
  have fin : (M.Nodup ∧ (∀ q ∈ M, H'[q]? = some .defd) ∧ resK P fr' (killM H' M) rs fun vs => Q (oneOr vs) (killM H' M)) → LeavesInM (rF none) 0 P fn a'.tmps (AEnd P w0 ι Q) a'.defers .returning w' := fun ⟨h1, h2, h3⟩ =>
    leaves_marks hrs hx M H' a'.defers w' hw' hd' h1 h2 (fun ds => ⟨hf'.size, hf'.val⟩) h3
  cases e with
  | normal => simp only [toA, Option.some.injEq] at he; subst he; exact fin q
  | ret => simp only [toA, Option.some.injEq] at he; subst he; exact fin q
  | exit id => simp only [toA, Option.some.injEq] at he; subst he; exact q.elim
  | goto l => simp only [toA, Option.some.injEq] at he; subst he; exact q.elim
  | panic ch => simp [toA] at he
  | outgrown => simp [toA] at he
end Go.Proofs.YtmdpifedcaaobaaDoor.Ax
/- The abstract machine: drawn regions that lay new blocks in any order, told by what is known of each operation's value; new blocks are not one. -/
set_option linter.unusedVariables false
set_option linter.unusedSimpArgs false
namespace Go.Proofs.YtmdpifedcaaobaaDoor.Ax
open Go Go.RowKit
/-- The block that a value points into. -/
def blk0 (v : Value) : Option Nat :=
  match v with
  | .slice (some ⟨b, _, _⟩) _ _ => some b
  | .pointer (some ⟨b, _, _⟩) => some b
  | _ => none
theorem SW.drawB {P : Program} {n : Nat} {id : Nat} {ops : Array Oper} {Q : BPost} {fr : Fr} {H : Heap} (N : Nat) (T : Nat → Fr → Value → Heap → Prop) (B : Nat → Bool) (hm : P.follows .mixedOrders = true)
    (hok : (drawOK2 n ops.toList && Nat.beq ops.size (N + 1) && ((List.range N).all fun j => ahead (masks ops.toList) N j) && (masks ops.toList).all fun m => Nat.blt m (2 ^ N)) = true)
    (mono : ∀ i F v K K', T i F v K → Grow K K' → T i F v K')
    (step : ∀ (i : Nat) (o : Oper) (V : List Value) (K : Heap), i < N → ops.toList[i]? = some o → Grow H K →
      (∀ j, ahead (masks ops.toList) i j = true → T j (valsOf V (pairsOf ops.toList (masks ops.toList) j) []) (V.getD j undef) K) →
      wantK ops.toList (envOf ops.toList (masks ops.toList) V fr i) o.guard
        (boper P o (envOf ops.toList (masks ops.toList) V fr i) K fun v H' => Grow K H' ∧ T i (valsOf V (pairsOf ops.toList (masks ops.toList) i) []) v H' ∧ (B i = true → ∀ b, blk0 v = some b → K.length ≤ b ∧ b < H'.length))
        (T i (valsOf V (pairsOf ops.toList (masks ops.toList) i) []) undef K))
    (last : ∀ (o : Oper) (V : List Value) (K : Heap), V.length = N + 1 → ops.toList[N]? = some o → Grow H K →
      (∀ j, j < N → T j (valsOf V (pairsOf ops.toList (masks ops.toList) j) []) (V.getD j undef) K) →
      (∀ i j b, i < N → j < N → B i = true → B j = true → blk0 (V.getD i undef) = some b → blk0 (V.getD j undef) = some b → i = j) →
      wantK ops.toList (envOf ops.toList (masks ops.toList) V fr N) o.guard
        (boper P o (envOf ops.toList (masks ops.toList) V fr N) K fun v H' => Q .normal (endOf ops.toList (V.set N v) fr) H')
        (Q .normal (endOf ops.toList (V.set N undef) fr) K)) : SW P n (.region id ops true) Q fr H := by
  simp only [Bool.and_eq_true, List.all_eq_true, List.mem_range] at hok
  obtain ⟨⟨⟨hok, hsz⟩, hlast⟩, hms⟩ := hok
  have hsz := Nat.eq_of_beq_eq_true hsz
  refine SW.drawS (fun L V K => V.length = N + 1 ∧ (L N = false → Grow H K ∧ (∀ j, j < N → L j = true → T j (valsOf V (pairsOf ops.toList (masks ops.toList) j) []) (V.getD j undef) K) ∧
      (∀ j, j < N → L j = true → B j = true → ∀ b, blk0 (V.getD j undef) = some b → b < K.length) ∧
      (∀ i j b, i < N → j < N → L i = true → L j = true → B i = true → B j = true → blk0 (V.getD i undef) = some b → blk0 (V.getD j undef) = some b → i = j)) ∧ (L N = true → Q .normal (endOf ops.toList V fr) K)) hm hok
    ⟨List.replicate (N + 1) undef, by simp, fun _ => ⟨.refl _, fun j _ h => by simp at h, fun j _ h => by simp at h, fun _ _ _ _ _ h => by simp at h⟩, fun h => by simp at h⟩ ?_ ?_
  · rintro i o L V K ho hl hah hbh ⟨hV, hR, _⟩
    have hi : i < N + 1 := by have := (List.getElem?_eq_some_iff.1 ho).1; simp at this; omega
    have hk : ∀ {X Y X' Y' : Prop}, (X → X') → (Y → Y') → wantK ops.toList (envOf ops.toList (masks ops.toList) V fr i) o.guard X Y → wantK ops.toList (envOf ops.toList (masks ops.toList) V fr i) o.guard X' Y' := by
      intro X Y X' Y' hX hY h
      unfold wantK at h ⊢
      split
      · rename_i hg; rw [hg] at h; exact hX h
      · rename_i j want hg
        rw [hg] at h
        simp only at h
        split
        · rename_i d hd
          rw [hd] at h
          obtain ⟨v, hv, h⟩ := getK_iff.1 h
          refine getK_iff.2 ⟨v, hv, ?_⟩
          split
          · simp only at h
            split
            · rcases h.out with ⟨rfl, h⟩ | ⟨rfl, h⟩
              · exact hX h
              · exact hY h
            · rcases h.out with ⟨rfl, h⟩ | ⟨rfl, h⟩
              · exact hY h
              · exact hX h
          · exact hY (by simpa using h)
        · rename_i hd
          rw [hd] at h
          exact hY h
    have set_same : ∀ v j, L j = true → (V.set i v).getD j undef = V.getD j undef := fun v j hj => by
      rw [getD_set (by omega), if_neg (fun e => by subst e; rw [hl] at hj; simp at hj)]
    have set_vals : ∀ v j, L j = true → valsOf (V.set i v) (pairsOf ops.toList (masks ops.toList) j) [] = valsOf V (pairsOf ops.toList (masks ops.toList) j) [] := fun v j hj =>
      valsOf_congr fun ⟨d, k⟩ hk => by
        have := mem_pairsOf hk
        show (V.set i v).getD k undef = V.getD k undef
        rw [getD_set (by omega), if_neg]
        rintro rfl
        have hjs : j < ops.size := by have := ahead_lt this; simpa using this
        rw [hbh j hjs this] at hj
        simp at hj
    have set_own : ∀ v, valsOf (V.set i v) (pairsOf ops.toList (masks ops.toList) i) [] = valsOf V (pairsOf ops.toList (masks ops.toList) i) [] := fun v =>
      valsOf_congr fun ⟨d, k⟩ hk => set_same v k (hah k (mem_pairsOf hk))
    by_cases hiN : i = N
    · subst hiN
      obtain ⟨hg, hT, hB, hD⟩ := hR hl
      have := last o V K hV ho hg (fun j hj => hT j hj (hah j (hlast j hj))) (fun a c b ha hc => hD a c b ha hc (hah a (hlast a ha)) (hah c (hlast c hc)))
      refine hk (fun h => boper_mono h fun v H' q => ⟨V.set i v, ⟨by simpa using hV, fun h => by simp at h, fun _ => q⟩, by rw [getD_set (by omega), if_pos rfl], fun j _ hj => set_same v j hj⟩)
        (fun q => ⟨V.set i undef, ⟨by simpa using hV, fun h => by simp at h, fun _ => q⟩, by rw [getD_set (by omega), if_pos rfl], fun j _ hj => set_same undef j hj⟩) this
    · have hlN : L N = false := hbh N (by omega) (hlast i (by omega))
      obtain ⟨hg, hT, hB, hD⟩ := hR hlN
      have hstep := step i o V K (by omega) ho hg fun j hj => hT j (ahead_small hms hj) (hah j hj)
      have fin : ∀ v H', Grow K H' → T i (valsOf V (pairsOf ops.toList (masks ops.toList) i) []) v H' → (B i = true → ∀ b, blk0 v = some b → K.length ≤ b ∧ b < H'.length) → ∃ V', (V'.length = N + 1 ∧ ((L N || decide (N = i)) = false → Grow H H' ∧ (∀ j, j < N → (L j || decide (j = i)) = true → T j (valsOf V' (pairsOf ops.toList (masks ops.toList) j) []) (V'.getD j undef) H') ∧
          (∀ j, j < N → (L j || decide (j = i)) = true → B j = true → ∀ b, blk0 (V'.getD j undef) = some b → b < H'.length) ∧
          (∀ a c b, a < N → c < N → (L a || decide (a = i)) = true → (L c || decide (c = i)) = true → B a = true → B c = true → blk0 (V'.getD a undef) = some b → blk0 (V'.getD c undef) = some b → a = c)) ∧ ((L N || decide (N = i)) = true → Q .normal (endOf ops.toList V' fr) H')) ∧
          V'.getD i undef = v ∧ ∀ (j : Nat), j < ops.size → L j = true → V'.getD j undef = V.getD j undef := fun v H' g t hb => by
        have own : (V.set i v).getD i undef = v := by rw [getD_set (by omega), if_pos rfl]
        refine ⟨V.set i v, ⟨by simpa using hV, fun _ => ⟨hg.trans g, fun j hj hL => ?_, fun j hj hL hBj b hb' => ?_, fun a c b ha hc hLa hLc hBa hBc h1 h2 => ?_⟩, fun h => by simp [hlN, Ne.symm hiN] at h⟩, own, fun j _ hj => set_same v j hj⟩
        · by_cases e : j = i
          · subst e
            rw [set_own, own]
            exact t
          · have hL' : L j = true := by simpa [e] using hL
            rw [set_vals v j hL', set_same v j hL']
            exact mono _ _ _ _ _ (hT j hj hL') g
        · by_cases e : j = i
          · subst e
            rw [own] at hb'
            exact (hb hBj b hb').2
          · have hL' : L j = true := by simpa [e] using hL
            rw [set_same v j hL'] at hb'
            have := hB j hj hL' hBj b hb'
            have := g.1
            omega
        · by_cases ea : a = i
          · by_cases ec : c = i
            · rw [ea, ec]
            · have hL' : L c = true := by simpa [ec] using hLc
              rw [set_same v c hL'] at h2
              subst ea
              rw [own] at h1
              have := hB c hc hL' hBc b h2
              have := (hb hBa b h1).1
              omega
          · have hL' : L a = true := by simpa [ea] using hLa
            rw [set_same v a hL'] at h1
            by_cases ec : c = i
            · subst ec
              rw [own] at h2
              have := hB a ha hL' hBa b h1
              have := (hb hBc b h2).1
              omega
            · have hL2 : L c = true := by simpa [ec] using hLc
              rw [set_same v c hL2] at h2
              exact hD a c b ha hc hL' hL2 hBa hBc h1 h2
      exact hk (fun h => boper_mono h fun v H' q => fin v H' q.1 q.2.1 q.2.2) (fun q => fin undef K (.refl _) q (fun _ b hb => by simp [undef, blk0] at hb)) hstep
  · rintro V H' ⟨_, _, h⟩
    exact h (by simp [hsz])
end Go.Proofs.YtmdpifedcaaobaaDoor.Ax
/- The abstract machine: steps told once: a lemma whose last premise is found by the steps themselves. -/
set_option linter.unusedVariables false
set_option linter.unusedSimpArgs false
namespace Go.Proofs.YtmdpifedcaaobaaDoor.Ax
open Go Go.RowKit
/-- What is left to be shown, out of sight. -/
structure Hide (Q : Prop) : Prop where
  out : Q
/-- One step, whatever the goal's head. -/
theorem step0 {P Q : Prop} (k : Q) (h : Hide Q → P := by
  intro hideq
  (first | (apply Ob.of; (first | with_reducible assumption | with_reducible exact ex20 _ _ | with_reducible exact ex21 _ _ | with_reducible exact ex30 _ _ _ | with_reducible exact ex31 _ _ _ | with_reducible exact ex32 _ _ _ | rfl | (exact ald rfl rfl (by assumption) rfl) | (exact ald_agg rfl rfl rfl (by assumption) rfl)); (conv => whnf)) | (apply bIf.yes; (first | assumption | rfl); (conv => whnf)) | (apply bIf.no; (first | assumption | rfl); (conv => whnf)) | ((with_reducible refine Ob.load (by with_unfolding_all assumption) ?_); (conv => whnf)) | (apply Grows.mk; (first | exact Grow.refl _ | assumption); (conv => whnf)))
  exact hideq.out) : P := h ⟨k⟩
/-- One step, but of a conjunction or of something that there is. -/
theorem step1 {P Q : Prop} (k : Q) (h : Hide Q → P := by
  intro hideq
  (fail_if_success (with_reducible refine And.intro ?_ ?_)); (fail_if_success (with_reducible refine Exists.intro ?_ ?_))
  (first | (apply Ob.of; (first | with_reducible assumption | with_reducible exact ex20 _ _ | with_reducible exact ex21 _ _ | with_reducible exact ex30 _ _ _ | with_reducible exact ex31 _ _ _ | with_reducible exact ex32 _ _ _ | rfl | (exact ald rfl rfl (by assumption) rfl) | (exact ald_agg rfl rfl rfl (by assumption) rfl)); (conv => whnf)) | (apply bIf.yes; (first | assumption | rfl); (conv => whnf)) | (apply bIf.no; (first | assumption | rfl); (conv => whnf)) | ((with_reducible refine Ob.load (by with_unfolding_all assumption) ?_); (conv => whnf)) | (apply Grows.mk; (first | exact Grow.refl _ | assumption); (conv => whnf)))
  exact hideq.out) : P := h ⟨k⟩
/-- As far as it goes. -/
theorem run {P Q : Prop} (k : Q) (h : Hide Q → P := by
  intro hideq
  (try (conv => whnf)); (repeat ((fail_if_success (with_reducible refine And.intro ?_ ?_)); (fail_if_success (with_reducible refine Exists.intro ?_ ?_)); (first | (apply Ob.of; (first | with_reducible assumption | with_reducible exact ex20 _ _ | with_reducible exact ex21 _ _ | with_reducible exact ex30 _ _ _ | with_reducible exact ex31 _ _ _ | with_reducible exact ex32 _ _ _ | rfl | (exact ald rfl rfl (by assumption) rfl) | (exact ald_agg rfl rfl rfl (by assumption) rfl)); (conv => whnf)) | (apply bIf.yes; (first | assumption | rfl); (conv => whnf)) | (apply bIf.no; (first | assumption | rfl); (conv => whnf)) | ((with_reducible refine Ob.load (by with_unfolding_all assumption) ?_); (conv => whnf)) | (apply Grows.mk; (first | exact Grow.refl _ | assumption); (conv => whnf)))))
  exact hideq.out) : P := h ⟨k⟩
end Go.Proofs.YtmdpifedcaaobaaDoor.Ax
