/- The abstract machine: a region whose order is open, that lays two new blocks and fills each with a value: what is known while it is under way. -/
import Derived.KernelRfl
import Derived.Test.YtdlanbfbbopfhaaJAx2
set_option linter.unusedVariables false
set_option linter.unusedSimpArgs false
namespace Go.Proofs.Ytdlanbfbbopfhaa.Ax
open Go Go.RowKit
/-- nf operations that only read, then two new blocks (numbers nf, nf + 1), then a store into each. -/
structure R2 (nf : Nat) (C : List Value) (H0 : Heap) (z1 z2 x1 x2 : List Value) (L : Nat → Bool) (V : List Value) (K : Heap) : Prop where
  len : V.length = nf + 4
  val : ∀ j, j < nf → L j = true → V.getD j undef = C.getD j undef
  grow : Grow H0 K
  fst : L nf = true → ∃ a, H0.length ≤ a ∧ V.getD nf undef = .pointer (some ⟨a, 0, none⟩) ∧ K[a]? = some (.cells .var (if L (nf + 2) then x1 else z1))
  snd : L (nf + 1) = true → ∃ a, H0.length ≤ a ∧ V.getD (nf + 1) undef = .pointer (some ⟨a, 0, none⟩) ∧ K[a]? = some (.cells .var (if L (nf + 3) then x2 else z2))
  ne : L nf = true → L (nf + 1) = true → V.getD nf undef ≠ V.getD (nf + 1) undef
theorem getD_set {V : List Value} {i j : Nat} {v : Value} (hi : i < V.length) : (V.set i v).getD j undef = if j = i then v else V.getD j undef := by
  rw [List.getD_eq_getElem?_getD, List.getElem?_set, List.getD_eq_getElem?_getD]
  by_cases h : i = j
  · subst h; simp [hi]
  · rw [if_neg h, if_neg (fun e => h e.symm)]
abbrev R2.Next (nf : Nat) (C : List Value) (H0 : Heap) (z1 z2 x1 x2 : List Value) (L : Nat → Bool) (V : List Value) (i size : Nat) (v : Value) (K : Heap) : Prop :=
  ∃ V', R2 nf C H0 z1 z2 x1 x2 (fun j => L j || decide (j = i)) V' K ∧ V'.getD i undef = v ∧ ∀ (j : Nat), j < size → L j = true → V'.getD j undef = V.getD j undef
section
variable {nf : Nat} {C : List Value} {H0 : Heap} {z1 z2 x1 x2 : List Value} {L : Nat → Bool} {V : List Value} {K : Heap} {i size : Nat}
theorem R2.init (nf : Nat) (C : List Value) (H0 : Heap) (z1 z2 x1 x2 : List Value) : ∃ V, R2 nf C H0 z1 z2 x1 x2 (fun _ => false) V H0 :=
  ⟨List.replicate (nf + 4) undef, by simp, fun _ _ h => by simp at h, .refl _, fun h => by simp at h, fun h => by simp at h, fun h => by simp at h⟩
theorem R2.rest (h : R2 nf C H0 z1 z2 x1 x2 L V K) (hl : L i = false) (hi : i < nf + 4) (v : Value) : ∀ (j : Nat), j < size → L j = true → (V.set i v).getD j undef = V.getD j undef := by
  intro j _ hj
  rw [getD_set (by have := h.len; omega), if_neg (fun e => by subst e; rw [hl] at hj; simp at hj)]
theorem R2.float (h : R2 nf C H0 z1 z2 x1 x2 L V K) (hl : L i = false) (hi : i < nf) {v : Value} (hv : C.getD i undef = v) : R2.Next nf C H0 z1 z2 x1 x2 L V i size v K := by
  have hs := h.len
  have ne : ∀ j, nf ≤ j → (L j || decide (j = i)) = L j := fun j hj => by simp [show j ≠ i by omega]
  refine ⟨V.set i v, ⟨by simp [hs], fun j hj hL => ?_, h.grow, fun hL => ?_, fun hL => ?_, fun hL hL' => ?_⟩, by rw [getD_set (by omega), if_pos rfl], h.rest hl (by omega) v⟩
  · rw [getD_set (by omega)]
    split
    · rename_i e; subst e; exact hv.symm
    · rename_i e; refine h.val j hj ?_; simpa [e] using hL
  · simp only [ne _ (Nat.le_refl nf)] at hL
    obtain ⟨a, h1, h2, h3⟩ := h.fst hL
    simp only [ne (nf + 2) (by omega)]
    exact ⟨a, h1, by rw [getD_set (by omega), if_neg (by omega)]; exact h2, h3⟩
  · simp only [ne (nf + 1) (by omega)] at hL
    obtain ⟨a, h1, h2, h3⟩ := h.snd hL
    simp only [ne (nf + 3) (by omega)]
    exact ⟨a, h1, by rw [getD_set (by omega), if_neg (by omega)]; exact h2, h3⟩
  · simp only [ne _ (Nat.le_refl nf)] at hL
    simp only [ne (nf + 1) (by omega)] at hL'
    rw [getD_set (by omega), if_neg (by omega), getD_set (by omega), if_neg (by omega)]
    exact h.ne hL hL'
theorem R2.allocA (h : R2 nf C H0 z1 z2 x1 x2 L V K) (hi : i = nf) (hl : L i = false) (hs : L (nf + 2) = false) : R2.Next nf C H0 z1 z2 x1 x2 L V i size (.pointer (some ⟨K.length, 0, none⟩)) (K ++ [.cells .var z1]) := by
  subst hi
  have hs' := h.len
  refine ⟨V.set i (.pointer (some ⟨K.length, 0, none⟩)), ⟨by simp [hs'], fun j hj hL => ?_, h.grow.trans (.push _ _), fun _ => ?_, fun hL => ?_, fun _ hL' => ?_⟩, by rw [getD_set (by omega), if_pos rfl], h.rest hl (by omega) _⟩
  · rw [getD_set (by omega), if_neg (by omega)]
    refine h.val j hj ?_
    simpa [show j ≠ i by omega] using hL
  · refine ⟨K.length, h.grow.1, by rw [getD_set (by omega), if_pos rfl], ?_⟩
    simp [hs]
  · simp only [show (decide (i + 1 = i)) = false by simp, Bool.or_false] at hL
    obtain ⟨a, h1, h2, h3⟩ := h.snd hL
    refine ⟨a, h1, by rw [getD_set (by omega), if_neg (by omega)]; exact h2, ?_⟩
    simp only [show (decide (i + 3 = i)) = false by simp, Bool.or_false]
    rw [List.getElem?_append_left (lt_at h3)]; exact h3
  · simp only [show (decide (i + 1 = i)) = false by simp, Bool.or_false] at hL'
    obtain ⟨a, h1, h2, h3⟩ := h.snd hL'
    rw [getD_set (by omega), if_pos rfl, getD_set (by omega), if_neg (by omega), h2]
    have := lt_at h3
    intro e
    simp only [Value.pointer.injEq, Option.some.injEq, Addr.mk.injEq, and_true] at e
    omega
theorem R2.allocB (h : R2 nf C H0 z1 z2 x1 x2 L V K) (hi : i = nf + 1) (hl : L i = false) (hs : L (nf + 3) = false) : R2.Next nf C H0 z1 z2 x1 x2 L V i size (.pointer (some ⟨K.length, 0, none⟩)) (K ++ [.cells .var z2]) := by
  subst hi
  have hs' := h.len
  refine ⟨V.set (nf + 1) (.pointer (some ⟨K.length, 0, none⟩)), ⟨by simp [hs'], fun j hj hL => ?_, h.grow.trans (.push _ _), fun hL => ?_, fun _ => ?_, fun hL _ => ?_⟩, by rw [getD_set (by omega), if_pos rfl], h.rest hl (by omega) _⟩
  · rw [getD_set (by omega), if_neg (by omega)]
    refine h.val j hj ?_
    simpa [show j ≠ nf + 1 by omega] using hL
  · simp only [show (decide (nf = nf + 1)) = false by simp, Bool.or_false] at hL
    obtain ⟨a, h1, h2, h3⟩ := h.fst hL
    refine ⟨a, h1, by rw [getD_set (by omega), if_neg (by omega)]; exact h2, ?_⟩
    simp only [show (decide (nf + 2 = nf + 1)) = false by simp, Bool.or_false]
    rw [List.getElem?_append_left (lt_at h3)]; exact h3
  · refine ⟨K.length, h.grow.1, by rw [getD_set (by omega), if_pos rfl], ?_⟩
    simp [hs]
  · simp only [show (decide (nf = nf + 1)) = false by simp, Bool.or_false] at hL
    obtain ⟨a, h1, h2, h3⟩ := h.fst hL
    rw [getD_set (by omega), if_neg (by omega), getD_set (by omega), if_pos rfl, h2]
    have := lt_at h3
    intro e
    simp only [Value.pointer.injEq, Option.some.injEq, Addr.mk.injEq, and_true] at e
    omega
theorem R2.storeA (h : R2 nf C H0 z1 z2 x1 x2 L V K) (hi : i = nf + 2) (hl : L i = false) (h0 : L nf = true) {a : Nat} (ha : V.getD nf undef = .pointer (some ⟨a, 0, none⟩)) {K' : Heap} (hK : K'[a]? = some (.cells .var x1)) (hB : But a K K') : R2.Next nf C H0 z1 z2 x1 x2 L V i size undef K' := by
  subst hi
  have hs' := h.len
  obtain ⟨a', h1, h2, h3⟩ := h.fst h0
  rw [ha] at h2
  simp only [Value.pointer.injEq, Option.some.injEq, Addr.mk.injEq, and_true] at h2
  subst h2
  refine ⟨V.set (nf + 2) undef, ⟨by simp [hs'], fun j hj hL => ?_, h.grow.but_new hB h1, fun _ => ?_, fun hL => ?_, fun _ hL' => ?_⟩, by rw [getD_set (by omega), if_pos rfl], h.rest hl (by omega) _⟩
  · rw [getD_set (by omega), if_neg (by omega)]
    refine h.val j hj ?_
    simpa [show j ≠ nf + 2 by omega] using hL
  · refine ⟨a, h1, by rw [getD_set (by omega), if_neg (by omega)]; exact ha, ?_⟩
    simpa using hK
  · simp only [show (decide (nf + 1 = nf + 2)) = false by simp, Bool.or_false] at hL
    obtain ⟨b, k1, k2, k3⟩ := h.snd hL
    refine ⟨b, k1, by rw [getD_set (by omega), if_neg (by omega)]; exact k2, ?_⟩
    simp only [show (decide (nf + 3 = nf + 2)) = false by simp, Bool.or_false]
    refine hB.at k3 fun e => h.ne h0 hL ?_
    rw [ha, k2, e]
  · simp only [show (decide (nf + 1 = nf + 2)) = false by simp, Bool.or_false] at hL'
    rw [getD_set (by omega), if_neg (by omega), getD_set (by omega), if_neg (by omega)]
    exact h.ne h0 hL'
theorem R2.storeB (h : R2 nf C H0 z1 z2 x1 x2 L V K) (hi : i = nf + 3) (hl : L i = false) (h0 : L (nf + 1) = true) {a : Nat} (ha : V.getD (nf + 1) undef = .pointer (some ⟨a, 0, none⟩)) {K' : Heap} (hK : K'[a]? = some (.cells .var x2)) (hB : But a K K') : R2.Next nf C H0 z1 z2 x1 x2 L V i size undef K' := by
  subst hi
  have hs' := h.len
  obtain ⟨a', h1, h2, h3⟩ := h.snd h0
  rw [ha] at h2
  simp only [Value.pointer.injEq, Option.some.injEq, Addr.mk.injEq, and_true] at h2
  subst h2
  refine ⟨V.set (nf + 3) undef, ⟨by simp [hs'], fun j hj hL => ?_, h.grow.but_new hB h1, fun hL => ?_, fun _ => ?_, fun hL _ => ?_⟩, by rw [getD_set (by omega), if_pos rfl], h.rest hl (by omega) _⟩
  · rw [getD_set (by omega), if_neg (by omega)]
    refine h.val j hj ?_
    simpa [show j ≠ nf + 3 by omega] using hL
  · simp only [show (decide (nf = nf + 3)) = false by simp, Bool.or_false] at hL
    obtain ⟨b, k1, k2, k3⟩ := h.fst hL
    refine ⟨b, k1, by rw [getD_set (by omega), if_neg (by omega)]; exact k2, ?_⟩
    simp only [show (decide (nf + 2 = nf + 3)) = false by simp, Bool.or_false]
    refine hB.at k3 fun e => h.ne hL h0 ?_
    rw [ha, k2, e]
  · refine ⟨a, h1, by rw [getD_set (by omega), if_neg (by omega)]; exact ha, ?_⟩
    simpa using hK
  · simp only [show (decide (nf = nf + 3)) = false by simp, Bool.or_false] at hL
    rw [getD_set (by omega), if_neg (by omega), getD_set (by omega), if_neg (by omega)]
    exact h.ne hL h0
end
end Go.Proofs.Ytdlanbfbbopfhaa.Ax
/- The abstract machine: a loop made by a label: what is ahead of the label, then each round from the label on. -/
set_option linter.unusedVariables false
set_option linter.unusedSimpArgs false
namespace Go.Proofs.Ytdlanbfbbopfhaa.Ax
open Go Go.RowKit
/-- What is behind a label. -/
def behind : Code → Nat → Option Code
  | .seq x y, l => match x with
    | .label l' => match Nat.beq l' l with | true => some y | false => none
    | .region _ _ _ => behind y l
    | _ => none
  | _, _ => none
theorem behind_find {l : Nat} : ∀ {c r : Code}, behind c l = some r → findLabel c l = some (.seq .skip r) := by
  intro c
  induction c with
  | seq x y ihx ihy =>
    intro r h
    cases x with
    | label l' =>
      simp only [behind] at h
      cases hb : Nat.beq l' l with
      | true =>
        simp only [hb, Option.some.injEq] at h
        subst h
        have := Nat.eq_of_beq_eq_true hb
        subst this
        simp [findLabel]
      | false => simp [hb] at h
    | region id ops d =>
      simp only [behind] at h
      simp [findLabel, ihy h]
    | _ => simp [behind] at h
  | _ => intro r h; simp [behind] at h
/-- Code up to a label; there M is to hold. -/
def bCut (P : Program) (n l : Nat) : Code → BPost → (Fr → Heap → Prop) → Fr → Heap → Prop
  | .seq x y, Q, M => match x with
    | .label l' => match Nat.beq l' l with | true => M | false => fun _ _ => False
    | .region id ops d => bC P n (.region id ops d) (thenB (bCut P n l y Q M) Q)
    | _ => fun _ _ => False
  | _, _, _ => fun _ _ => False
theorem bCut_sound {P : Program} {n l : Nat} : ∀ (c : Code) (Q : BPost) (M : Fr → Heap → Prop) (fr : Fr) (H : Heap), bCut P n l c Q M fr H →
    (∀ r fr H, behind c l = some r → M fr H → SW P n r Q fr H) → SW P n c Q fr H := by
  intro c
  induction c with
  | seq x y ihx ihy =>
    intro Q M fr H h hM
    cases x with
    | label l' =>
      simp only [bCut] at h
      cases hb : Nat.beq l' l with
      | true =>
        simp only [hb] at h
        have h1 := hM y fr H (by simp [behind, hb]) h
        exact SW.seq (fun fr' H' => fr' = fr ∧ H' = H) (bC_sound _ _ _ _ ⟨rfl, rfl⟩) fun fr' H' ⟨e1, e2⟩ => by subst e1 e2; exact h1
      | false => simp [hb] at h
    | region id ops d =>
      simp only [bCut] at h
      exact SW.seq (bCut P n l y Q M) (bC_sound _ _ _ _ h) fun fr H hb => ihy Q M fr H hb fun r fr H hr => hM r fr H (by simp [behind, hr])
    | _ => simp [bCut] at h
  | _ => intro Q M fr H h hM; exact h.elim
/-- A scope of one label that is come to again and again. -/
theorem SW.scopeC {P : Program} {n : Nat} {c : Code} {Q : BPost} {fr : Fr} {H : Heap} {α : Type} (l : Nat) (r : Code) (F : α → Fr) (I : α → Heap → Prop) (μ : α → Nat) (hr : behind c l = some r)
    (first : bCut P n l c (scopeP c (fun _ => l) F I (fun _ => True) Q) (fun fr H => ∃ x, Has fr (F x) ∧ I x H) fr H)
    (step : ∀ x H, I x H → SW P n r (scopeP c (fun _ => l) F I (fun y => μ y < μ x) Q) (F x) H) : SW P n (.scope c) Q fr H := by
  have hf := behind_find hr
  have weak : ∀ x, ∀ e fr H, scopeP c (fun _ => l) F I (fun y => μ y < μ x) Q e fr H → scopeP c (fun _ => l) F I (fun _ => True) Q e fr H := by
    intro x e fr H h
    cases e with
    | goto l' =>
      simp only [scopeP] at h ⊢
      cases hl : findLabel c l' with
      | none => simpa [hl] using h
      | some r' =>
        simp only [hl] at h ⊢
        obtain ⟨y, h1, h2, h3, h4⟩ := h
        exact ⟨y, h1, h2, h3, trivial⟩
    | _ => exact h
  refine SW.scope (fun _ => l) F I μ (bCut_sound _ _ _ _ _ first fun r' fr H hr' hM => ?_) fun x H r' hI hr' => ?_
  · rw [hr] at hr'
    simp only [Option.some.injEq] at hr'
    subst hr'
    obtain ⟨x, hx, hI⟩ := hM
    exact SW.sub ((step x H hI).mono (weak x)) (Sub.of hx)
  · rw [hf] at hr'
    simp only [Option.some.injEq] at hr'
    subst hr'
    exact SW.seq (fun fr' H' => fr' = F x ∧ H' = H) (bC_sound _ _ _ _ ⟨rfl, rfl⟩) fun fr' H' ⟨e1, e2⟩ => by subst e1 e2; exact step x _ hI
end Go.Proofs.Ytdlanbfbbopfhaa.Ax
/- The abstract machine: rows that are one's own, of elements of some cells: appended to, read and written; what stays, told by the types of rows. -/
set_option linter.unusedVariables false
set_option linter.unusedSimpArgs false
namespace Go.Proofs.Ytdlanbfbbopfhaa.Ax
open Go Go.RowKit
structure RowOK (P : Program) (t e : TypeId) (k : Nat) : Prop where
  el : sliceElem P t = some e
  inf : ∃ i, P.info? e = some i ∧ i.size = k ∧ i.bytes ≤ 4096
  und : ∃ d, P.underlying t = some d ∧ noInt d = true
  k0 : k ≠ 0
  zs : ∃ z, tzero P e = some z ∧ z.length = k
/-- No row of a type. -/
def NotRow (e : TypeId) (X : Blk) : Prop := ∀ c, X ≠ .cells (.row e) c
/-- All stays but rows of one type, from a block on. -/
def FrR (n : Nat) (e : TypeId) (A B : Heap) : Prop := A.length ≤ B.length ∧ ∀ q X, A[q]? = some X → q < n ∨ NotRow e X → B[q]? = some X
theorem FrR.refl (n : Nat) (e : TypeId) (A : Heap) : FrR n e A A := ⟨Nat.le_refl _, fun _ _ h _ => h⟩
theorem FrR.trans {n : Nat} {e : TypeId} {A B C : Heap} (h : FrR n e A B) (k : FrR n e B C) : FrR n e A C := ⟨Nat.le_trans h.1 k.1, fun q X hq hx => k.2 q X (h.2 q X hq hx) hx⟩
theorem FrR.of {n : Nat} {e : TypeId} {A B : Heap} (h : Grow A B) : FrR n e A B := ⟨h.1, fun q X hq _ => h.at hq⟩
theorem FrR.grow {n : Nat} {e : TypeId} {A0 A B : Heap} (g : Grow A0 A) (h : FrR n e A B) (hn : A0.length ≤ n) : Grow A0 B :=
  ⟨Nat.le_trans g.1 h.1, fun q hq => by
    have h1 := g.2 q hq
    cases hx : A[q]? with
    | none => have := List.getElem?_eq_none_iff.1 hx; have := g.1; omega
    | some X => rw [← h1, hx]; exact h.2 q X hx (.inl (by omega))⟩
/-- A list that lies in a row that is one's own. -/
def OwnR {α : Type} (k : Nat) (e : TypeId) (f : Heap → List Value → α → Prop) (H : Heap) (sv : Value) (L : List α) : Prop :=
  (sv = .slice none 0 0 ∧ L = []) ∨ ∃ b c, sv = .slice (some ⟨b, 0, none⟩) L.length k ∧ H[b]? = some (.cells (.row e) c) ∧ c.length = L.length * k ∧ ∀ (i : Nat) x, L[i]? = some x → ∃ l, slotsOf c (i * k) k = some l ∧ f H l x
theorem OwnR.rl {α : Type} {k : Nat} {e : TypeId} {f : Heap → List Value → α → Prop} {H : Heap} {sv : Value} {L : List α} (h : OwnR k e f H sv L) : RL k f H sv L := by
  rcases h with h | ⟨b, c, h1, h2, h3, h4⟩
  · exact .inl h
  · exact .inr ⟨b, h1, .inr ⟨_, c, h2, h4⟩⟩
theorem OwnR.form {α : Type} {k : Nat} {e : TypeId} {f : Heap → List Value → α → Prop} {H : Heap} {sv : Value} {L : List α} (h : OwnR k e f H sv L) : ∃ a n m, sv = .slice a n m := by
  rcases h with ⟨h, _⟩ | ⟨b, c, h, _⟩ <;> exact ⟨_, _, _, h⟩
/-- Where it lies. -/
def blkIs (sv : Value) (b : Nat) : Prop := ∃ n k, sv = .slice (some ⟨b, 0, none⟩) n k
theorem OwnR.keep {α : Type} {k : Nat} {e : TypeId} {f : Heap → List Value → α → Prop} {H H' : Heap} {sv : Value} {L : List α} (h : OwnR k e f H sv L) (hb : ∀ b c, blkIs sv b → H[b]? = some (.cells (.row e) c) → H'[b]? = some (.cells (.row e) c)) (hf : ∀ l x, x ∈ L → f H l x → f H' l x) : OwnR k e f H' sv L := by
  rcases h with h | ⟨b, c, h1, h2, h3, h4⟩
  · exact .inl h
  · exact .inr ⟨b, c, h1, hb b c ⟨_, _, h1⟩ h2, h3, fun i x hx => let ⟨l, k1, k2⟩ := h4 i x hx; ⟨l, k1, hf l x (List.mem_of_getElem? hx) k2⟩⟩
theorem OwnR.keepR {α : Type} {k n : Nat} {e e' : TypeId} {f : Heap → List Value → α → Prop} {H H' : Heap} {sv : Value} {L : List α} (h : OwnR k e f H sv L) (hF : FrR n e' H H') (hne : e ≠ e') (hf : ∀ l x, x ∈ L → f H l x → f H' l x) : OwnR k e f H' sv L :=
  h.keep (fun b c _ hb => hF.2 b _ hb (.inr fun c' e1 => by simp only [Blk.cells.injEq, Mode.row.injEq] at e1; exact hne e1.1)) hf
theorem slots_app {c l : List Value} {i k n : Nat} (hc : c.length = n * k) (hl : l.length = k) : (∀ j w, j < n → slotsOf c (j * k) k = some w → slotsOf (c ++ l) (j * k) k = some w) ∧ slotsOf (c ++ l) (n * k) k = some l := by
  refine ⟨fun j w hj hw => ?_, ?_⟩
  · have hle : j * k + k ≤ c.length := by rw [hc, ← Nat.succ_mul]; exact Nat.mul_le_mul_right _ hj
    rw [slots_of (by rw [List.length_append]; omega)]
    rw [slots_of hle] at hw
    rw [← hw]
    congr 1
    rw [List.drop_append_of_le_length (by omega), List.take_append_of_le_length (by rw [List.length_drop]; omega)]
  · rw [slots_of (by rw [List.length_append]; omega), List.drop_append_of_le_length (by omega), List.drop_of_length_le (by omega), List.nil_append, List.take_of_length_le (by omega)]
/-- One element more. -/
theorem OwnR.append {α : Type} {P : Program} {t tx e : TypeId} {k n : Nat} (ok : RowOK P t e k) (okx : RowOK P tx e k) {f : Heap → List Value → α → Prop} {H : Heap} {sv : Value} {L : List α} {x : α} {l : List Value} {m2 : Mode} {b2 : Nat} (h : OwnR k e f H sv L)
    (hb2 : H[b2]? = some (.cells m2 l)) (hl : l.length = k) (hx : f H l x) (hsv : ∀ b, blkIs sv b → n ≤ b) (hn : n ≤ H.length) (hL : L.length ≤ 1000000) (hf : ∀ A B, FrR n e A B → ∀ l x, f A l x → f B l x) :
    ∃ H', aappend P t tx sv (.slice (some ⟨b2, 0, none⟩) 1 k) H = some (.slice (some ⟨H.length, 0, none⟩) (L.length + 1) k, H') ∧ OwnR k e f H' (.slice (some ⟨H.length, 0, none⟩) (L.length + 1) k) (L ++ [x]) ∧ FrR n e H H' ∧ ∀ q X, H[q]? = some X → ¬ blkIs sv q → H'[q]? = some X := by
  obtain ⟨he, ⟨i, hi, hk, hby⟩, ⟨d, hd, hni⟩, h0, ⟨z, hz, hzl⟩⟩ := ok
  obtain ⟨_, _, ⟨dx, hdx, hnx⟩, _, _⟩ := okx
  have hsrc : asrc k (.slice (some ⟨b2, 0, none⟩) 1 k) H = some (1, l) := src_some (off := 0) (by decide) (hblk_of hb2) (by rw [Nat.one_mul, slots_of (by omega), List.drop_zero, List.take_of_length_le (by omega)])
  rcases h with ⟨rfl, rfl⟩ | ⟨b, c, rfl, h2, h3, h4⟩
  · refine ⟨H ++ [.cells (.row e) l], ?_, .inr ⟨H.length, l, rfl, at_push _ _, by simp [hl], fun i x' hx' => ?_⟩, .of (.push _ _), fun q X hq _ => (Grow.push _ _).at hq⟩
    · exact append_nil (n := 1) he hi hk hdx hnx h0 (by simp [srcOk]) hz hzl hsrc (by decide) (by omega) (by unfold maxLen; omega)
    · cases i with
      | zero =>
        simp only [List.nil_append, List.getElem?_cons_zero, Option.some.injEq] at hx'
        subst hx'
        exact ⟨l, by rw [Nat.zero_mul, slots_of (by omega), List.drop_zero, List.take_of_length_le (by omega)], hf _ _ (.of (.push _ _)) _ _ hx⟩
      | succ i => simp at hx'
  · have hold : slotsOf c 0 (L.length * k) = some c := by rw [slots_of (by omega), List.drop_zero, List.take_of_length_le (by omega)]
    have hfr : FrR n e H (H.set b .dead ++ [.cells (.row e) (c ++ l)]) := by
      refine ⟨by simp, fun q X hq hX => ?_⟩
      have hqb : q ≠ b := by
        rintro rfl
        rcases hX with hX | hX
        · have := hsv q ⟨_, _, rfl⟩; omega
        · rw [h2] at hq; simp only [Option.some.injEq] at hq; exact hX c hq.symm
      rw [List.getElem?_append_left (by simpa using lt_at hq), List.getElem?_set_ne (by omega)]
      exact hq
    refine ⟨H.set b .dead ++ [.cells (.row e) (c ++ l)], ?_, .inr ⟨H.length, c ++ l, by rw [List.length_append]; rfl, ?_, by rw [List.length_append, List.length_append, h3, hl, List.length_singleton, Nat.succ_mul], fun i x' hx' => ?_⟩, hfr, fun q X hq hb => ?_⟩
    · refine append_row he hi hk hdx hnx h0 (by simp [srcOk]) hz hzl hsrc (by decide) h2 hold ?_ (by unfold maxLen; omega)
      have : (L.length + 1) * i.bytes ≤ 1000001 * 4096 := Nat.mul_le_mul (by omega) hby
      omega
    · rw [List.getElem?_append_right (by simp), List.length_set, Nat.sub_self]; rfl
    rotate_left
    · have hqb : q ≠ b := by rintro rfl; exact hb ⟨_, _, rfl⟩
      rw [List.getElem?_append_left (by simpa using lt_at hq), List.getElem?_set_ne (by omega)]
      exact hq
    · by_cases hi' : i < L.length
      · rw [List.getElem?_append_left hi'] at hx'
        obtain ⟨w, k1, k2⟩ := h4 i x' hx'
        exact ⟨w, (slots_app h3 hl (i := 0)).1 i w hi' k1, hf _ _ hfr _ _ k2⟩
      · have hil : i = L.length := by
          have := lt_of_get hx'
          simp at this; omega
        subst hil
        rw [List.getElem?_append_right (by omega), Nat.sub_self] at hx'
        simp only [List.getElem?_cons_zero, Option.some.injEq] at hx'
        subst hx'
        exact ⟨l, (slots_app h3 hl (i := 0)).2, hf _ _ hfr _ _ hx⟩
end Go.Proofs.Ytdlanbfbbopfhaa.Ax
/- The abstract machine: a region whose order is open, done in its earliest order; a change may be of any kind where what reads the heap stays on its side of it. -/
set_option linter.unusedVariables false
set_option linter.unusedSimpArgs false
namespace Go.Proofs.Ytdlanbfbbopfhaa.Ax
open Go Go.RowKit

/-- An operation's place in the earliest order: its number, what is ahead of it, which slots are not settled, does it change the heap. -/
abbrev HDat := Nat × List (Nat × Nat) × List Nat × Bool
def isPureO (o : Oper) : Bool :=
  match o.op with
  | .move _ | .assign _ | .pick .. | .build .. | .nilCheck _ | .binOp .. | .unOp .. | .makeFunc .. | .slice .. | .fieldAddr .. | .field .. | .indexAddr .. | .index .. | .extract .. => true
  | _ => false
/-- What does not read the heap says the same in any heap. -/
theorem pure_mono {P : Program} {o : Oper} {fr : Fr} {H : Heap} {K : OpK} (hm : isPureO o = true) (h : boper P o fr H K) : ∃ v, K v H ∧ ∀ (H' : Heap) (K' : OpK), K' v H' → boper P o fr H' K' := by
  obtain ⟨dst, op, ty, pos, after, guard⟩ := o
  cases op with
  | move x => obtain ⟨v, h, k⟩ := evK_iff (show evK fr x _ from h); exact ⟨v, h, fun H' K' k' => k _ k'⟩
  | assign x => obtain ⟨v, h, k⟩ := evK_iff (show evK fr x _ from h); exact ⟨v, h, fun H' K' k' => k _ k'⟩
  | pick c a b =>
    obtain ⟨v, h, k⟩ := evK_iff (show evK fr c _ from h)
    split at h
    · rename_i t
      rcases h.out with ⟨rfl, h⟩ | ⟨rfl, h⟩
      · obtain ⟨u, h, k2⟩ := evK_iff h; exact ⟨u, h, fun H' K' k' => k _ (k2 _ k')⟩
      · obtain ⟨u, h, k2⟩ := evK_iff h; exact ⟨u, h, fun H' K' k' => k _ (k2 _ k')⟩
    · exact h.elim
  | build t ps => obtain ⟨v, h, k⟩ := evP_iff (show evP fr ps.toList _ from h); obtain ⟨r, hr, h⟩ := h.out; exact ⟨r, h, fun H' K' k' => k _ (.of hr k')⟩
  | nilCheck x =>
    obtain ⟨v, h, k⟩ := evK_iff (show evK fr x _ from h)
    split at h
    · exact ⟨_, h, fun H' K' k' => k _ k'⟩
    · exact ⟨_, h, fun H' K' k' => k _ k'⟩
    · exact h.elim
  | binOp bo t x y t2 => obtain ⟨v, h, k⟩ := evK_iff (show evK fr x _ from h); obtain ⟨u, h, k2⟩ := evK_iff h; obtain ⟨r, hr, h⟩ := h.out; exact ⟨r, h, fun H' K' k' => k _ (k2 _ (.of hr k'))⟩
  | unOp uo t x => obtain ⟨v, h, k⟩ := evK_iff (show evK fr x _ from h); obtain ⟨r, hr, h⟩ := h.out; exact ⟨r, h, fun H' K' k' => k _ (.of hr k')⟩
  | makeFunc f a b =>
    cases f with
    | func f => obtain ⟨v, h, k⟩ := evL_iff (show evL fr a.toList _ from h); obtain ⟨u, h, k2⟩ := evL_iff h; exact ⟨_, h, fun H' K' k' => k _ (k2 _ k')⟩
    | _ => exact False.elim h
  | slice t x lo hi mx =>
    obtain ⟨v, h, k⟩ := evK_iff (show evK fr x _ from h)
    obtain ⟨a, h, k1⟩ := evQ_iff h
    obtain ⟨b, h, k2⟩ := evQ_iff h
    obtain ⟨c, h, k3⟩ := evQ_iff h
    obtain ⟨r, hr, h⟩ := h.out
    exact ⟨r, h, fun H' K' k' => k _ (k1 _ (k2 _ (k3 _ (.of hr k'))))⟩
  | fieldAddr s x f => obtain ⟨v, h, k⟩ := evK_iff (show evK fr x _ from h); obtain ⟨r, hr, h⟩ := h.out; exact ⟨r, h, fun H' K' k' => k _ (.of hr k')⟩
  | field s x f => obtain ⟨v, h, k⟩ := evK_iff (show evK fr x _ from h); obtain ⟨r, hr, h⟩ := h.out; exact ⟨r, h, fun H' K' k' => k _ (.of hr k')⟩
  | indexAddr t x i => obtain ⟨v, h, k⟩ := evK_iff (show evK fr x _ from h); obtain ⟨u, h, k2⟩ := evK_iff h; obtain ⟨r, hr, h⟩ := h.out; exact ⟨r, h, fun H' K' k' => k _ (k2 _ (.of hr k'))⟩
  | index t x i => obtain ⟨v, h, k⟩ := evK_iff (show evK fr x _ from h); obtain ⟨u, h, k2⟩ := evK_iff h; obtain ⟨r, hr, h⟩ := h.out; exact ⟨r, h, fun H' K' k' => k _ (k2 _ (.of hr k'))⟩
  | extract x i => obtain ⟨v, h, k⟩ := evK_iff (show evK fr x _ from h); obtain ⟨r, hr, h⟩ := h.out; exact ⟨r, h, fun H' K' k' => k _ (.of hr k')⟩
  | _ => simp [isPureO] at hm
def hkeep (GR : List Nat) (i : Nat) (mv : Bool) (H H' : Heap) (X : Prop) : Prop := match mv with | true => (match outOf GR i with | true => Grows H H' X | false => X) | false => X
def hdo (P : Program) (GR : List Nat) (o : Oper) (env : Fr) (A : Fr) (H : Heap) (i : Nat) (mv w : Bool) (next : Fr → Heap → Prop) : Prop :=
  match w with
  | true => boper P o env H fun v H' => hkeep GR i mv H H' (next ((i, v) :: A) H')
  | false => next ((i, undef) :: A) H
def hops (P : Program) (ops : List Oper) (fr : Fr) (E : List (Nat × Nat)) (Q : BPost) (GR : List Nat) : List HDat → Fr → Heap → Prop
  | [] => fun A H => bringA A E fr fun fr' => Q .normal fr' H
  | (i, av, ex, mv) :: rest => fun A H => Ob ops[i]? fun o => bringA A av (cutF ex fr) fun env => wantB ops env o.guard fun w => hdo P GR o env A H i mv w (hops P ops fr E Q GR rest)

def hcmov : List HDat → Nat
  | [] => 0
  | (_, _, _, mv) :: r => (match mv with | true => 1 | false => 0) + hcmov r
theorem hcmov_append (a b : List HDat) : hcmov (a ++ b) = hcmov a + hcmov b := by
  induction a with
  | nil => simp [hcmov]
  | cons x a ih => obtain ⟨i, av, ex, mv⟩ := x; simp only [List.cons_append, hcmov, ih]; omega
/-- Each one fits: its data, and how many changes are ahead of it. -/
def hfit (ops : List Oper) (ms : List Nat) : List HDat → Nat → Bool
  | [], _ => true
  | (i, av, ex, mv) :: r, k => (match ops[i]? with
      | some o => decide (av = pairsOf ops ms i) && decide (ex = exOf ops ms i) && (mv == isMover o) && Nat.beq (loOf ops ms i) k && (!mv || Nat.beq (hiOf ops ms i) k)
      | none => false) && hfit ops ms r ((match mv with | true => 1 | false => 0) + k)
def hnodupB : List HDat → Bool
  | [] => true
  | x :: r => r.all (fun y => !Nat.beq x.1 y.1) && hnodupB r
/-- What reads the heap stays on its side of a change that is not among some. -/
def staysB (ops : List Oper) (ms : List Nat) (GR : List Nat) : Bool :=
  (movers ops).all fun i => outOf GR i || (List.range ops.length).all fun j => match ops[j]? with | some o => isMover o || isPureO o || !(Nat.ble (loOf ops ms j) (hiOf ops ms i) && Nat.ble (hiOf ops ms i + 1) (hiOf ops ms j)) | none => true
def hIs (n : Nat) (ops : List Oper) (L : List HDat) (E : List (Nat × Nat)) (GR : List Nat) : Bool :=
  staysB ops (masks ops) GR && drawOK n ops && hfit ops (masks ops) L 0 && hnodupB L && (List.range ops.length).all (fun i => L.any fun x => Nat.beq x.1 i) && decide (endsOf ops = E) && Nat.beq (hcmov L) (movers ops).length

theorem hfit_get {ops : List Oper} {ms : List Nat} : ∀ {pre rest : List HDat} {x : HDat} {k : Nat}, hfit ops ms (pre ++ x :: rest) k = true →
    ∃ o, ops[x.1]? = some o ∧ x.2.1 = pairsOf ops ms x.1 ∧ x.2.2.1 = exOf ops ms x.1 ∧ x.2.2.2 = isMover o ∧ loOf ops ms x.1 = k + hcmov pre ∧ (x.2.2.2 = true → hiOf ops ms x.1 = k + hcmov pre) := by
  intro pre
  induction pre with
  | nil =>
    intro rest x k h
    obtain ⟨i, av, ex, mv⟩ := x
    simp only [List.nil_append, hfit, Bool.and_eq_true] at h
    obtain ⟨h, _⟩ := h
    split at h
    · rename_i o ho
      simp only [Bool.and_eq_true, decide_eq_true_eq, beq_iff_eq, Bool.or_eq_true, Bool.not_eq_true'] at h
      obtain ⟨⟨⟨⟨h1, h2⟩, h3⟩, h4⟩, h5⟩ := h
      refine ⟨o, ho, h1, h2, h3, by simpa [hcmov] using Nat.eq_of_beq_eq_true h4, fun hm => ?_⟩
      rcases h5 with h5 | h5
      · exact absurd hm (by rw [show (i, av, ex, mv).2.2.2 = mv from rfl, h5]; simp)
      · simpa [hcmov] using Nat.eq_of_beq_eq_true h5
    · simp at h
  | cons y pre ih =>
    intro rest x k h
    obtain ⟨i, av, ex, mv⟩ := y
    simp only [List.cons_append, hfit, Bool.and_eq_true] at h
    obtain ⟨o, h1, h2, h3, h4, h5, h6⟩ := ih h.2
    refine ⟨o, h1, h2, h3, h4, by rw [h5]; simp only [hcmov]; omega, fun hm => by rw [h6 hm]; simp only [hcmov]; omega⟩
theorem hnodup_get : ∀ {pre rest : List HDat} {x : HDat}, hnodupB (pre ++ x :: rest) = true → ∀ y ∈ pre, y.1 ≠ x.1 := by
  intro pre
  induction pre with
  | nil => intro rest x h y hy; simp at hy
  | cons z pre ih =>
    intro rest x h y hy
    simp only [List.cons_append, hnodupB, Bool.and_eq_true, List.all_eq_true] at h
    rcases List.mem_cons.1 hy with rfl | hy
    · have := h.1 x (by simp)
      intro e
      rw [e] at this
      simp at this
    · exact ih h.2 y hy

/-- What is known of an operation that changes nothing, from a heap on. -/
def FH (P : Program) (ops : List Oper) (ms : List Nat) (fr : Fr) (A : Fr) (i : Nat) (o : Oper) (K : Heap) : Prop :=
  (∀ p ∈ pairsOf ops ms i, ∃ v, getF A p.2 = some v) ∧ (∃ v, getF A i = some v) ∧
  ∀ K', isPureO o = true ∨ Grow K K' → wantK ops (envOf ops ms (VA A ops.length) fr i) o.guard (boper P o (envOf ops ms (VA A ops.length) fr i) K' fun v H' => v = (VA A ops.length).getD i undef ∧ H' = K') ((VA A ops.length).getD i undef = undef)
theorem FH.grow {P : Program} {ops : List Oper} {ms : List Nat} {fr : Fr} {A : Fr} {i : Nat} {o : Oper} {K K' : Heap} (h : FH P ops ms fr A i o K) (g : Grow K K') : FH P ops ms fr A i o K' :=
  ⟨h.1, h.2.1, fun L gl => h.2.2 L (gl.imp id g.trans)⟩
theorem FH.pure {P : Program} {ops : List Oper} {ms : List Nat} {fr : Fr} {A : Fr} {i : Nat} {o : Oper} {K K' : Heap} (h : FH P ops ms fr A i o K) (hp : isPureO o = true) : FH P ops ms fr A i o K' :=
  ⟨h.1, h.2.1, fun L _ => h.2.2 L (.inl hp)⟩
theorem FH.add {P : Program} {ops : List Oper} {ms : List Nat} {fr : Fr} {A : Fr} {i : Nat} {o : Oper} {K : Heap} (hil : i < ops.length) (h : FH P ops ms fr A i o K) {j : Nat} {v : Value} (hj : getF A j = none) : FH P ops ms fr ((j, v) :: A) i o K := by
  have key : ∀ t u, getF A t = some u → getF ((j, v) :: A) t = some u := by
    intro t u h1
    simp only [getF]
    split
    · rename_i e; have := Nat.eq_of_beq_eq_true e; subst this; rw [hj] at h1; simp at h1
    · exact h1
  obtain ⟨h1, ⟨u, h2⟩, h3⟩ := h
  have e : envOf ops ms (VA ((j, v) :: A) ops.length) fr i = envOf ops ms (VA A ops.length) fr i := by
    rw [envOf_eq, envOf_eq]
    refine valsOf_congr fun p hp => ?_
    obtain ⟨x, hx⟩ := h1 p hp
    rw [VA_get (pairs_lt p hp), VA_get (pairs_lt p hp), hx, key _ _ hx]
  refine ⟨fun p hp => let ⟨x, hx⟩ := h1 p hp; ⟨x, key _ _ hx⟩, ⟨u, key _ _ h2⟩, fun K' g => ?_⟩
  have h4 := h3 K' g
  have e2 : (VA ((j, v) :: A) ops.length).getD i undef = (VA A ops.length).getD i undef := by rw [VA_get hil, VA_get hil, h2, key _ _ h2]
  rw [e, e2]
  exact h4
/-- How far a region has come in its earliest order. -/
structure SH (P : Program) (ops : List Oper) (ms : List Nat) (fr : Fr) (E : List (Nat × Nat)) (Q : BPost) (GR : List Nat) (pre rest : List HDat) (A : Fr) (K : Heap) : Prop where
  dom : ∀ j v, getF A j = some v → ∃ x ∈ pre, x.1 = j
  facts : ∀ x ∈ pre, ∀ o, ops[x.1]? = some o → isMover o = false → hcmov pre ≤ hiOf ops ms x.1 → FH P ops ms fr A x.1 o K
  go : hops P ops fr E Q GR rest A K

theorem SH.floats {P : Program} {ops : List Oper} {fr : Fr} {E : List (Nat × Nat)} {Q : BPost} {GR : List Nat} : ∀ {rest pre : List HDat} {A : Fr} {K : Heap}, hfit ops (masks ops) (pre ++ rest) 0 = true → hnodupB (pre ++ rest) = true → SH P ops (masks ops) fr E Q GR pre rest A K →
    ∃ pre' rest' A', pre ++ rest = pre' ++ rest' ∧ hcmov pre' = hcmov pre ∧ (rest' = [] ∨ ∃ x r, rest' = x :: r ∧ x.2.2.2 = true) ∧ SH P ops (masks ops) fr E Q GR pre' rest' A' K ∧ ∀ j, (∃ x ∈ pre, x.1 = j) → getF A' j = getF A j := by
  intro rest
  induction rest with
  | nil => intro pre A K hf hn h; exact ⟨pre, [], A, rfl, rfl, .inl rfl, h, fun _ _ => rfl⟩
  | cons x rest ih =>
    intro pre A K hf hn h
    cases hx : x.2.2.2 with
    | true => exact ⟨pre, x :: rest, A, rfl, rfl, .inr ⟨x, rest, rfl, hx⟩, h, fun _ _ => rfl⟩
    | false =>
      obtain ⟨o, ho, hav, hex, hmv, hlo, _⟩ := hfit_get hf
      have hnd := hnodup_get hn
      obtain ⟨i, av, ex, mv⟩ := x
      simp only at ho hav hex hmv hlo hx hnd
      subst hx hav hex
      have hil : i < ops.length := (List.getElem?_eq_some_iff.1 ho).1
      have hnone : getF A i = none := by
        cases hg : getF A i with
        | none => rfl
        | some v => obtain ⟨y, hy, e⟩ := h.dom i v hg; exact absurd e (hnd y hy)
      have hgo := h.go
      simp only [hops] at hgo
      obtain ⟨o', ho', hgo⟩ := hgo.out
      rw [ho] at ho'
      simp only [Option.some.injEq] at ho'
      subst ho'
      obtain ⟨hp, hgo⟩ := bringA_to (m := ops.length) pairs_lt hgo
      rw [← envOf_eq] at hgo
      have fin : ∀ v, hops P ops fr E Q GR rest ((i, v) :: A) K → (∀ K', isPureO o = true ∨ Grow K K' → wantK ops (envOf ops (masks ops) (VA A ops.length) fr i) o.guard (boper P o (envOf ops (masks ops) (VA A ops.length) fr i) K' fun u H' => u = v ∧ H' = K') (v = undef)) →
          ∃ pre' rest' A', pre ++ (i, pairsOf ops (masks ops) i, exOf ops (masks ops) i, false) :: rest = pre' ++ rest' ∧ hcmov pre' = hcmov pre ∧ (rest' = [] ∨ ∃ x r, rest' = x :: r ∧ x.2.2.2 = true) ∧ SH P ops (masks ops) fr E Q GR pre' rest' A' K ∧ ∀ j, (∃ x ∈ pre, x.1 = j) → getF A' j = getF A j := by
        intro v hg hff
        have hgi : getF ((i, v) :: A) i = some v := by simp [getF]
        have hkeep : ∀ t u, getF A t = some u → getF ((i, v) :: A) t = some u := by
          intro t u h1
          simp only [getF]
          split
          · rename_i e; have := Nat.eq_of_beq_eq_true e; subst this; rw [hnone] at h1; simp at h1
          · exact h1
        have hE : envOf ops (masks ops) (VA ((i, v) :: A) ops.length) fr i = envOf ops (masks ops) (VA A ops.length) fr i := by
          rw [envOf_eq, envOf_eq]
          refine valsOf_congr fun p hp' => ?_
          obtain ⟨x, hx⟩ := hp p hp'
          rw [VA_get (pairs_lt p hp'), VA_get (pairs_lt p hp'), hx, hkeep _ _ hx]
        have hnew : SH P ops (masks ops) fr E Q GR (pre ++ [(i, pairsOf ops (masks ops) i, exOf ops (masks ops) i, false)]) rest ((i, v) :: A) K := by
          refine ⟨fun j u hj => ?_, fun y hy o1 ho1 hm1 hh1 => ?_, hg⟩
          · simp only [getF] at hj
            split at hj
            · rename_i e; have := Nat.eq_of_beq_eq_true e; subst this; exact ⟨_, List.mem_append_right _ (List.mem_singleton.2 rfl), rfl⟩
            · obtain ⟨y, hy, e⟩ := h.dom j u hj; exact ⟨y, List.mem_append_left _ hy, e⟩
          · rcases List.mem_append.1 hy with hy | hy
            · exact (h.facts y hy o1 ho1 hm1 (by rw [hcmov_append] at hh1; omega)).add (List.getElem?_eq_some_iff.1 ho1).1 hnone
            · rw [List.mem_singleton] at hy
              subst hy
              simp only at ho1
              rw [ho] at ho1
              simp only [Option.some.injEq] at ho1
              subst ho1
              refine ⟨fun p hp' => let ⟨x, hx⟩ := hp p hp'; ⟨x, hkeep _ _ hx⟩, ⟨v, hgi⟩, fun K' g => ?_⟩
              have e2 : (VA ((i, v) :: A) ops.length).getD i undef = v := by rw [VA_get hil, hgi]; rfl
              simp only [hE, e2]
              exact hff K' g
        obtain ⟨pre', rest', A', e1, e2, e3, e4, e5⟩ := ih (by simpa using hf) (by simpa using hn) hnew
        refine ⟨pre', rest', A', by rw [← e1]; simp, by rw [e2, hcmov_append]; simp [hcmov], e3, e4, fun j hj => ?_⟩
        obtain ⟨y, hy, rfl⟩ := hj
        rw [e5 _ ⟨y, List.mem_append_left _ hy, rfl⟩]
        have : y.1 ≠ i := hnd y hy
        simp only [getF]
        split
        · rename_i e; exact absurd (Nat.eq_of_beq_eq_true e).symm this
        · rfl
      rcases wantK_iff (show wantK ops _ o.guard _ _ from hgo) with ⟨hgo, hw⟩ | ⟨hgo, hw⟩
      · cases hpo : isPureO o with
        | true =>
          obtain ⟨v, h1, h2⟩ := pure_mono hpo (show boper P o _ K _ from hgo)
          exact fin v h1 fun K' _ => hw _ _ (h2 K' _ ⟨rfl, rfl⟩)
        | false =>
          obtain ⟨v, h1, h2⟩ := float_mono hmv.symm (show boper P o _ K _ from hgo)
          exact fin v h1 fun K' g => hw _ _ (h2 K' (g.resolve_left (by simp [hpo])) _ ⟨rfl, rfl⟩)
      · exact fin undef hgo fun K' g => hw _ _ rfl

theorem SW.drawH {P : Program} {n : Nat} {id : Nat} {ops : Array Oper} {Q : BPost} {fr : Fr} {H : Heap} (L : List HDat) (E : List (Nat × Nat)) (GR : List Nat) (F : Fr) (hm : P.follows .mixedOrders = true) (hok : hIs n ops.toList L E GR = true) (hF : Has fr F)
    (h : hops P ops.toList F E Q GR L [] H) : SW P n (.region id ops true) Q fr H := by
  refine SW.sub ?_ (Sub.of hF)
  simp only [hIs, Bool.and_eq_true, List.all_eq_true, decide_eq_true_eq] at hok
  obtain ⟨⟨⟨⟨⟨⟨hst, h1⟩, hfit⟩, hnd⟩, hall⟩, rfl⟩, hnm⟩ := hok
  have hnm' := Nat.eq_of_beq_eq_true hnm
  let R : Nat → List Value → Heap → Prop := fun k V K => ∃ A pre rest, V = VA A ops.toList.length ∧ L = pre ++ rest ∧ hcmov pre = k ∧ (rest = [] ∨ ∃ x r, rest = x :: r ∧ x.2.2.2 = true) ∧ SH P ops.toList (masks ops.toList) F (endsOf ops.toList) Q GR pre rest A K
  have place : ∀ i, i < ops.toList.length → ∃ a b x, L = a ++ x :: b ∧ x.1 = i := by
    intro i hi
    have := hall i (List.mem_range.2 hi)
    rw [List.any_eq_true] at this
    obtain ⟨x, hx, e⟩ := this
    obtain ⟨a, b, hab⟩ := List.append_of_mem hx
    exact ⟨a, b, x, hab, Nat.eq_of_beq_eq_true e⟩
  refine SW.drawV R hm h1 ?_ ?_ ?_ ?_
  · have s0 : SH P ops.toList (masks ops.toList) F (endsOf ops.toList) Q GR [] L [] H := ⟨fun j v hj => by simp [getF] at hj, fun x hx => by simp at hx, h⟩
    obtain ⟨pre', rest', A', e1, e2, e3, e4, _⟩ := s0.floats (by simpa using hfit) (by simpa using hnd)
    exact ⟨_, A', pre', rest', rfl, by simpa using e1, by simpa [hcmov] using e2, e3, e4⟩
  · -- what changes nothing
    rintro i o k V K ho hmo hlo hhi ⟨A, pre, rest, rfl, e1, e2, e3, st⟩
    obtain ⟨a, b, x, hab, rfl⟩ := place i (List.getElem?_eq_some_iff.1 ho).1
    have hfx := hfit
    rw [hab] at hfx
    obtain ⟨o', ho', _, _, hmv, hlo', _⟩ := hfit_get hfx
    rw [ho] at ho'
    simp only [Option.some.injEq] at ho'
    subst ho'
    have hin : x ∈ pre := by
      -- else it stands in the rest, behind a change
      have hx : x ∈ pre ++ rest := by rw [← e1, hab]; simp
      rcases List.mem_append.1 hx with hx | hx
      · exact hx
      · exfalso
        obtain ⟨r1, r2, hr⟩ := List.append_of_mem hx
        rcases e3 with e3 | ⟨y, r, e3, hy⟩
        · rw [e3] at hx; simp at hx
        · have hfx2 := hfit
          rw [e1, hr, ← List.append_assoc] at hfx2
          obtain ⟨_, _, _, _, _, hlo2, _⟩ := hfit_get hfx2
          rw [hcmov_append] at hlo2
          cases r1 with
          | nil =>
            rw [List.nil_append, e3] at hr
            simp only [List.cons.injEq] at hr
            rw [hr.1, hmv, hmo] at hy
            simp at hy
          | cons z r1 =>
            rw [e3, List.cons_append] at hr
            simp only [List.cons.injEq] at hr
            obtain ⟨rfl, _⟩ := hr
            obtain ⟨zi, za, ze, zm⟩ := y
            simp only at hy
            subst hy
            simp only [hcmov] at hlo2
            omega
    exact (st.facts x hin o ho hmo (by omega)).2.2 K (.inr (.refl _))
  · -- what lays blocks
    rintro i o k V K ho hmo hlo hhi ⟨A, pre, rest, rfl, e1, e2, e3, st⟩
    obtain ⟨a, b, x, hab, rfl⟩ := place i (List.getElem?_eq_some_iff.1 ho).1
    have hfx := hfit
    rw [hab] at hfx
    obtain ⟨o', ho', _, _, hmv, hlo', hhi'⟩ := hfit_get hfx
    rw [ho] at ho'
    simp only [Option.some.injEq] at ho'
    subst ho'
    have hxm : x.2.2.2 = true := hmv.trans hmo
    have hhi2 := hhi' hxm
    -- it is the next one
    have hrest : ∃ r, rest = x :: r := by
      have hx : x ∈ pre ++ rest := by rw [← e1, hab]; simp
      rcases List.mem_append.1 hx with hx | hx
      · exfalso
        obtain ⟨p1, p2, hp⟩ := List.append_of_mem hx
        have hfx2 := hfit
        rw [e1, hp, List.append_assoc, List.cons_append] at hfx2
        obtain ⟨_, _, _, _, _, hlo2, _⟩ := hfit_get hfx2
        rw [hp, hcmov_append] at e2
        obtain ⟨zi, za, ze, zm⟩ := x
        simp only at hxm
        subst hxm
        simp only [hcmov] at e2
        simp only at hlo2 hlo' hlo hhi hhi2
        omega
      · obtain ⟨r1, r2, hr⟩ := List.append_of_mem hx
        rcases e3 with e3 | ⟨y, r, e3, hy⟩
        · rw [e3] at hx; simp at hx
        · have hfx2 := hfit
          rw [e1, hr, ← List.append_assoc] at hfx2
          obtain ⟨_, _, _, _, _, hlo2, _⟩ := hfit_get hfx2
          rw [hcmov_append] at hlo2
          cases r1 with
          | nil => exact ⟨r2, by simpa using hr⟩
          | cons z r1 =>
            exfalso
            rw [e3, List.cons_append] at hr
            simp only [List.cons.injEq] at hr
            obtain ⟨rfl, _⟩ := hr
            obtain ⟨zi, za, ze, zm⟩ := y
            simp only at hy
            subst hy
            simp only [hcmov] at hlo2
            omega
    obtain ⟨r, rfl⟩ := hrest
    have hfx2 := hfit
    rw [e1] at hfx2
    have hnd2 := hnd
    rw [e1] at hnd2
    obtain ⟨_, ho2, hav, hex, _, _, hhi3⟩ := hfit_get hfx2
    have hhi4 := hhi3 hxm
    rw [Nat.zero_add] at hhi4
    have hne := hnodup_get hnd2
    have hnone : getF A x.1 = none := by
      cases hg : getF A x.1 with
      | none => rfl
      | some v => obtain ⟨y, hy, e⟩ := st.dom _ v hg; exact absurd e (hne y hy)
    have hil : x.1 < ops.toList.length := (List.getElem?_eq_some_iff.1 ho).1
    have hgo := st.go
    obtain ⟨i, av, ex, mv⟩ := x
    simp only at hxm hav hex ho hnone hne hil
    subst hxm hav hex
    simp only [hops] at hgo
    obtain ⟨o', ho', hgo⟩ := hgo.out
    rw [ho] at ho'
    simp only [Option.some.injEq] at ho'
    subst ho'
    obtain ⟨hp, hgo⟩ := bringA_to (m := ops.toList.length) pairs_lt hgo
    rw [← envOf_eq] at hgo
    have fin : ∀ (v : Value) (H' : Heap), (outOf GR i = true → Grow K H') → hops P ops.toList F (endsOf ops.toList) Q GR r ((i, v) :: A) H' →
        ∃ V', R (k + 1) V' H' ∧ V'.getD i undef = v ∧ ∀ (j : Nat), j < ops.size → loOf ops.toList (masks ops.toList) j ≤ k → j ≠ i → V'.getD j undef = (VA A ops.toList.length).getD j undef := by
      intro v H' g hg
      have tr : ∀ y ∈ pre, ∀ o1, ops.toList[y.1]? = some o1 → isMover o1 = false → hcmov (pre ++ [(i, pairsOf ops.toList (masks ops.toList) i, exOf ops.toList (masks ops.toList) i, true)]) ≤ hiOf ops.toList (masks ops.toList) y.1 → FH P ops.toList (masks ops.toList) F A y.1 o1 H' := by
        intro y hy o1 ho1 hm1 hh1
        rw [hcmov_append] at hh1
        simp only [hcmov] at hh1
        have hf1 := st.facts y hy o1 ho1 hm1 (by omega)
        cases hgr : outOf GR i with
        | true => exact hf1.grow (g hgr)
        | false =>
          have hst' := hst
          simp only [staysB, List.all_eq_true] at hst'
          have h2 := hst' i (mem_movers.2 ⟨o, ho, hmo⟩)
          simp only [hgr, Bool.false_or, List.all_eq_true] at h2
          have h3 := h2 y.1 (List.mem_range.2 (List.getElem?_eq_some_iff.1 ho1).1)
          simp only [ho1, hm1, Bool.false_or, Bool.or_eq_true, Bool.not_eq_true', Bool.and_eq_false_iff] at h3
          rcases h3 with h3 | h3
          · exact hf1.pure h3
          · exfalso
            obtain ⟨p1, p2, hp⟩ := List.append_of_mem hy
            have hfx3 := hfit
            rw [e1, hp, List.append_assoc, List.cons_append] at hfx3
            obtain ⟨_, _, _, _, _, hlo3, _⟩ := hfit_get hfx3
            simp only at hhi4
            rcases h3 with h3 | h3
            · have : ¬ (loOf ops.toList (masks ops.toList) y.1 ≤ hiOf ops.toList (masks ops.toList) i) := fun hle => by rw [Nat.ble_eq_true_of_le hle] at h3; simp at h3
              rw [hp, hcmov_append] at hhi4
              omega
            · have : ¬ (hiOf ops.toList (masks ops.toList) i + 1 ≤ hiOf ops.toList (masks ops.toList) y.1) := fun hle => by rw [Nat.ble_eq_true_of_le hle] at h3; simp at h3
              omega
      have hnew : SH P ops.toList (masks ops.toList) F (endsOf ops.toList) Q GR (pre ++ [(i, pairsOf ops.toList (masks ops.toList) i, exOf ops.toList (masks ops.toList) i, true)]) r ((i, v) :: A) H' := by
        refine ⟨fun j u hj => ?_, fun y hy o1 ho1 hm1 hh1 => ?_, hg⟩
        · simp only [getF] at hj
          split at hj
          · rename_i e; have := Nat.eq_of_beq_eq_true e; subst this; exact ⟨_, List.mem_append_right _ (List.mem_singleton.2 rfl), rfl⟩
          · obtain ⟨y, hy, e⟩ := st.dom j u hj; exact ⟨y, List.mem_append_left _ hy, e⟩
        · rcases List.mem_append.1 hy with hy | hy
          · exact (tr y hy o1 ho1 hm1 hh1).add (List.getElem?_eq_some_iff.1 ho1).1 hnone
          · rw [List.mem_singleton] at hy
            subst hy
            simp only at ho1
            rw [ho] at ho1
            simp only [Option.some.injEq] at ho1
            subst ho1
            rw [hmo] at hm1
            simp at hm1
      obtain ⟨pre', rest', A', f1, f2, f3, f4, f5⟩ := hnew.floats (by simpa using hfx2) (by simpa using hnd2)
      refine ⟨_, ⟨A', pre', rest', rfl, by rw [e1, ← f1]; simp, by rw [f2, hcmov_append, e2]; simp [hcmov], f3, f4⟩, ?_, fun j hj hloj hji => ?_⟩
      · rw [VA_get hil, f5 i ⟨_, List.mem_append_right _ (List.mem_singleton.2 rfl), rfl⟩]
        simp [getF]
      · have hjl : j < ops.toList.length := by simpa using hj
        rw [VA_get hjl, VA_get hjl]
        -- j stands ahead
        obtain ⟨a2, b2, x2, hab2, rfl⟩ := place j hjl
        have hin : x2 ∈ pre := by
          have hx : x2 ∈ pre ++ (i, pairsOf ops.toList (masks ops.toList) i, exOf ops.toList (masks ops.toList) i, true) :: r := by rw [← e1, hab2]; simp
          rcases List.mem_append.1 hx with hx | hx
          · exact hx
          · exfalso
            rcases List.mem_cons.1 hx with rfl | hx
            · exact hji rfl
            · obtain ⟨r1, r2, hr⟩ := List.append_of_mem hx
              have hfx3 := hfit
              rw [e1, hr, ← List.cons_append, ← List.append_assoc] at hfx3
              obtain ⟨_, _, _, _, _, hlo2, _⟩ := hfit_get hfx3
              rw [hcmov_append] at hlo2
              simp only [hcmov] at hlo2
              omega
        rw [f5 x2.1 ⟨x2, List.mem_append_left _ hin, rfl⟩]
        simp only [getF]
        split
        · rename_i e; exact absurd (Nat.eq_of_beq_eq_true e).symm hji
        · rfl
    rcases wantK_iff (show wantK ops.toList _ o.guard _ _ from hgo) with ⟨hgo, hw⟩ | ⟨hgo, hw⟩
    · refine hw _ _ (boper_mono (K := fun v H' => hkeep GR i true K H' (hops P ops.toList F (endsOf ops.toList) Q GR r ((i, v) :: A) H')) hgo fun v H' hk => ?_)
      cases hgr : outOf GR i with
      | true => simp only [hkeep, hgr] at hk; exact fin v H' (fun _ => hk.g) hk.x
      | false => simp only [hkeep, hgr] at hk; exact fin v H' (fun h => by rw [hgr] at h; simp at h) hk
    · exact hw _ _ (fin undef K (fun _ => .refl _) hgo)
  · -- the end
    rintro V K ⟨A, pre, rest, rfl, e1, e2, e3, st⟩
    have hr : rest = [] := by
      rcases e3 with e3 | ⟨y, r, e3, hy⟩
      · exact e3
      · exfalso
        rw [e1, hcmov_append, e3, e2] at hnm'
        obtain ⟨zi, za, ze, zm⟩ := y
        simp only at hy
        subst hy
        simp only [hcmov] at hnm'
        omega
    have hgo := st.go
    rw [hr] at hgo
    simp only [hops] at hgo
    obtain ⟨_, hgo⟩ := bringA_to (m := ops.toList.length) ends_lt hgo
    rw [endOf_eq]
    exact hgo
end Go.Proofs.Ytdlanbfbbopfhaa.Ax
/- The abstract machine: strings gone through by runes; lists appended to one's own rows. -/
set_option linter.unusedVariables false
set_option linter.unusedSimpArgs false
namespace Go.Proofs.Ytdlanbfbbopfhaa.Ax
open Go Go.RowKit
theorem Ob2.range {P : Program} {t : TypeId} {s : ByteArray} {H : Heap} {K : Value → Heap → Prop} (ht : P.underlying t = some .string)
    (k : ∀ q H', q = H.length → H'[q]? = some (.iter s 0) → Grow H H' → K (.pointer (some ⟨q, 0, none⟩)) H') : Ob2 (arange P t (.string s) H) K :=
  .of (a := .pointer (some ⟨H.length, 0, none⟩)) (b := H ++ [.iter s 0]) (by simp [arange, ht]) (k _ _ rfl (at_push _ _) (.push _ _))
theorem Ob2.next {b pos r w : Nat} {s : ByteArray} {H : Heap} {K : Value → Heap → Prop} (hb : H[b]? = some (.iter s pos)) (h : pos < s.size) (hd : Utf8.decode s pos = (r, w))
    (k : ∀ H', H'[b]? = some (.iter s (pos + w)) → But b H H' → H'.length = H.length → K (.tuple #[.bool true, .int .i64 (pos : Int), .int .i32 (r : Int)]) H') : Ob2 (anext (.pointer (some ⟨b, 0, none⟩)) true H) K :=
  .of (a := .tuple #[.bool true, .int .i64 pos, .int .i32 r]) (b := H.set b (.iter s (pos + w))) (by simp [anext, hb, h, hd]) (k _ (at_set hb) (.set _ _) (by simp))
theorem Ob2.nextEnd {b pos : Nat} {s : ByteArray} {H : Heap} {K : Value → Heap → Prop} (hb : H[b]? = some (.iter s pos)) (h : ¬ pos < s.size)
    (k : K (.tuple #[.bool false]) H) : Ob2 (anext (.pointer (some ⟨b, 0, none⟩)) true H) K :=
  .of (a := .tuple #[.bool false]) (b := H) (by simp [anext, hb, h]) k
theorem dec_ascii {s : ByteArray} {i n : Nat} (h : s.data[i]?.map UInt8.toNat = some n) (hn : n < 128) : Utf8.decode s i = (n, 1) := by
  have hg : (s.get! i).toNat = n := by
    cases hx : s.data[i]? with
    | none => rw [hx] at h; simp at h
    | some x =>
      rw [hx] at h
      simp only [Option.map_some, Option.some.injEq] at h
      rw [← h]
      show (s.data[i]!).toNat = _
      rw [getElem!_def, hx]
  simp [Utf8.decode, hg, hn]
/-- A list that lies in a row, as a source. -/
theorem RL.src {α : Type} {k : Nat} {f : Heap → List Value → α → Prop} {H : Heap} {sv : Value} {M : List α} (h0 : k ≠ 0) (h : RL k f H sv M) : srcOk sv k = true ∧ ∃ l, asrc k sv H = some (M.length, l) ∧ l.length = M.length * k ∧ ∀ (i : Nat) x, M[i]? = some x → ∃ w, slotsOf l (i * k) k = some w ∧ f H w x := by
  rcases h with ⟨rfl, rfl⟩ | ⟨b, rfl, rfl | ⟨m, c, h2, h3⟩⟩
  · exact ⟨by simp [srcOk], [], by simp [asrc], by simp, fun i x hx => by simp at hx⟩
  · exact ⟨by simp [srcOk], [], src_zero rfl, by simp, fun i x hx => by simp at hx⟩
  · refine ⟨by simp [srcOk], ?_⟩
    by_cases hM : M.length = 0
    · have : M = [] := List.length_eq_zero_iff.1 hM
      subst this
      exact ⟨[], src_zero rfl, by simp, fun i x hx => by simp at hx⟩
    · have hlen : M.length * k ≤ c.length := by
        obtain ⟨x, hx⟩ : ∃ x, M[M.length - 1]? = some x := ⟨_, List.getElem?_eq_getElem (by omega)⟩
        obtain ⟨w, hw, _⟩ := h3 _ x hx
        unfold slotsOf at hw
        split at hw
        · rename_i hle
          have : M.length * k = (M.length - 1) * k + k := by rw [← Nat.succ_mul]; congr 1; omega
          omega
        · simp at hw
      refine ⟨c.take (M.length * k), src_some (off := 0) hM (hblk_of h2) (by rw [slots_of (by omega), List.drop_zero]), by rw [List.length_take]; omega, fun i x hx => ?_⟩
      obtain ⟨w, hw, hf⟩ := h3 i x hx
      refine ⟨w, ?_, hf⟩
      have hi : i * k + k ≤ M.length * k := by rw [← Nat.succ_mul]; exact Nat.mul_le_mul_right _ (lt_of_get hx)
      rw [slots_of (by omega)] at hw
      rw [slots_of (by rw [List.length_take]; omega), ← hw]
      congr 1
      apply List.ext_getElem?
      intro j
      rw [List.getElem?_take, List.getElem?_take, List.getElem?_drop, List.getElem?_drop, List.getElem?_take]
      by_cases hj : j < k
      · rw [if_pos hj, if_pos hj, if_pos (by omega)]
      · rw [if_neg hj, if_neg hj]
/-- A list appended. -/
theorem OwnR.appendL {α : Type} {P : Program} {t tx e : TypeId} {k n : Nat} (ok : RowOK P t e k) (okx : RowOK P tx e k) {f : Heap → List Value → α → Prop} {H : Heap} {sv xv : Value} {L M : List α} (h : OwnR k e f H sv L)
    (hx : RL k f H xv M) (hsv : ∀ b, blkIs sv b → n ≤ b) (hn : n ≤ H.length) (hL : L.length + M.length ≤ 1000000) (hf : ∀ A B, FrR n e A B → ∀ l x, f A l x → f B l x) :
    ∃ sv' H', aappend P t tx sv xv H = some (sv', H') ∧ OwnR k e f H' sv' (L ++ M) ∧ FrR n e H H' ∧ (∀ b, blkIs sv' b → n ≤ b) := by
  obtain ⟨he, ⟨i, hi, hk, hby⟩, ⟨d, hd, hni⟩, h0, ⟨z, hz, hzl⟩⟩ := ok
  obtain ⟨_, _, ⟨dx, hdx, hnx⟩, _, _⟩ := okx
  obtain ⟨hsrc, l, hl, hll, hle⟩ := hx.src h0
  by_cases hM : M.length = 0
  · have : M = [] := List.length_eq_zero_iff.1 hM
    subst this
    refine ⟨sv, H, ?_, by rw [List.append_nil]; exact h, .refl _ _ _, hsv⟩
    have hl0 : asrc k xv H = some (0, l) := by simpa using hl
    rcases h with ⟨rfl, rfl⟩ | ⟨b, c, rfl, h2, h3, h4⟩
    · exact append_zero he hi hk hdx hnx h0 hsrc hz hzl hl0 (.inl ⟨rfl, rfl, rfl⟩)
    · exact append_zero he hi hk hdx hnx h0 hsrc hz hzl hl0 (.inr ⟨_, _, rfl⟩)
  · have bnd : ∀ m, m ≤ 1000000 → m * i.bytes ≤ 140737488355328 := fun m hm => by
      have : m * i.bytes ≤ 1000000 * 4096 := Nat.mul_le_mul hm hby
      omega
    rcases h with ⟨rfl, rfl⟩ | ⟨b, c, rfl, h2, h3, h4⟩
    · refine ⟨_, _, append_nil he hi hk hdx hnx h0 hsrc hz hzl hl hM (bnd _ (by omega)) (by unfold maxLen; omega), .inr ⟨H.length, l, by simp, at_push _ _, by simpa using hll, fun j x hj => ?_⟩, .of (.push _ _), fun b hb => ?_⟩
      · obtain ⟨w, h5, h6⟩ := hle j x (by simpa using hj)
        exact ⟨w, h5, hf _ _ (.of (.push _ _)) _ _ h6⟩
      · obtain ⟨_, _, e⟩ := hb
        simp only [Value.slice.injEq, Option.some.injEq, Addr.mk.injEq] at e
        omega
    · have hold : slotsOf c 0 (L.length * k) = some c := by rw [slots_of (by omega), List.drop_zero, List.take_of_length_le (by omega)]
      have hfr : FrR n e H (H.set b .dead ++ [.cells (.row e) (c ++ l)]) := by
        refine ⟨by simp, fun q X hq hX => ?_⟩
        have hqb : q ≠ b := by
          rintro rfl
          rcases hX with hX | hX
          · have := hsv q ⟨_, _, rfl⟩; omega
          · rw [h2] at hq; simp only [Option.some.injEq] at hq; exact hX c hq.symm
        rw [List.getElem?_append_left (by simpa using lt_at hq), List.getElem?_set_ne (by omega)]
        exact hq
      refine ⟨_, _, append_row he hi hk hdx hnx h0 hsrc hz hzl hl hM h2 hold (bnd _ (by omega)) (by unfold maxLen; omega), .inr ⟨H.length, c ++ l, by rw [List.length_append], ?_, by rw [List.length_append, List.length_append, h3, hll, Nat.add_mul], fun j x hj => ?_⟩, hfr, fun b' hb' => ?_⟩
      · rw [List.getElem?_append_right (by simp), List.length_set, Nat.sub_self]; rfl
      · by_cases hjl : j < L.length
        · rw [List.getElem?_append_left hjl] at hj
          obtain ⟨w, k1, k2⟩ := h4 j x hj
          refine ⟨w, ?_, hf _ _ hfr _ _ k2⟩
          have hle' : j * k + k ≤ c.length := by rw [h3, ← Nat.succ_mul]; exact Nat.mul_le_mul_right _ hjl
          rw [slots_of hle'] at k1
          rw [slots_of (by rw [List.length_append]; omega), ← k1, List.drop_append_of_le_length (by omega), List.take_append_of_le_length (by rw [List.length_drop]; omega)]
        · rw [List.getElem?_append_right (by omega)] at hj
          obtain ⟨w, k1, k2⟩ := hle _ x hj
          refine ⟨w, ?_, hf _ _ hfr _ _ k2⟩
          have hjm := lt_of_get hj
          have e1 : j * k = c.length + (j - L.length) * k := by rw [h3, ← Nat.add_mul]; congr 1; omega
          have hle' : (j - L.length) * k + k ≤ l.length := by rw [hll, ← Nat.succ_mul]; exact Nat.mul_le_mul_right _ hjm
          rw [slots_of hle'] at k1
          rw [slots_of (by rw [List.length_append]; omega), ← k1, e1, List.drop_append]
          have e2 : c.length + (j - L.length) * k - c.length = (j - L.length) * k := by omega
          rw [List.drop_of_length_le (by omega), e2, List.nil_append]
      · obtain ⟨_, _, e⟩ := hb'
        simp only [Value.slice.injEq, Option.some.injEq, Addr.mk.injEq] at e
        omega
end Go.Proofs.Ytdlanbfbbopfhaa.Ax
/- The abstract machine: a region whose order is open, told by what is known of each operation's value; whatever is new may come in any order; the last operation comes behind all. -/
set_option linter.unusedVariables false
set_option linter.unusedSimpArgs false
namespace Go.Proofs.Ytdlanbfbbopfhaa.Ax
open Go Go.RowKit
theorem mem_pairsOf {ops : List Oper} {ms : List Nat} {i d k : Nat} (h : (d, k) ∈ pairsOf ops ms i) : ahead ms i k = true := by
  unfold pairsOf at h
  rw [List.mem_filterMap] at h
  obtain ⟨y, hy, h⟩ := h
  split at h
  · split at h
    · rename_i hh
      simp only [Option.some.injEq, Prod.mk.injEq] at h
      obtain ⟨_, rfl⟩ := h
      exact hh
    · simp at h
  · simp at h
theorem masksFrom_len : ∀ (os : List Oper) (acc : List Nat), (masksFrom acc os).length = acc.length + os.length := by
  intro os
  induction os with
  | nil => intro acc; simp [masksFrom]
  | cons o os ih => intro acc; rw [masksFrom, ih]; simp; omega
theorem ahead_lt {ops : List Oper} {i j : Nat} (h : ahead (masks ops) i j = true) : i < ops.length := by
  refine Decidable.byContradiction fun hn => ?_
  have hz : (masks ops).getD i 0 = 0 := by
    rw [List.getD_eq_getElem?_getD, List.getElem?_eq_none (by unfold masks; rw [masksFrom_len]; simp; omega)]; rfl
  unfold ahead at h
  rw [hz] at h
  simp at h
theorem ahead_small {ms : List Nat} {N i j : Nat} (hms : ∀ m ∈ ms, Nat.blt m (2 ^ N) = true) (h : ahead ms i j = true) : j < N := by
  refine Decidable.byContradiction fun hn => ?_
  unfold ahead at h
  have hlt : ms.getD i 0 < 2 ^ j := by
    have h2 : 2 ^ N ≤ 2 ^ j := Nat.pow_le_pow_right (by decide) (by omega)
    rw [List.getD_eq_getElem?_getD]
    cases hx : ms[i]? with
    | none => simp only [Option.getD_none]; exact Nat.two_pow_pos j
    | some m =>
      have := hms m (List.mem_of_getElem? hx)
      rw [Nat.blt_eq] at this
      simp only [Option.getD_some]
      omega
  rw [Nat.testBit_lt_two_pow hlt] at h
  simp at h
theorem SW.drawP {P : Program} {n : Nat} {id : Nat} {ops : Array Oper} {Q : BPost} {fr : Fr} {H : Heap} (N : Nat) (T : Nat → Fr → Value → Heap → Prop) (hm : P.follows .mixedOrders = true)
    (hok : (drawOK2 n ops.toList && Nat.beq ops.size (N + 1) && ((List.range N).all fun j => ahead (masks ops.toList) N j) && (masks ops.toList).all fun m => Nat.blt m (2 ^ N)) = true)
    (mono : ∀ i F v K K', T i F v K → Grow K K' → T i F v K')
    (step : ∀ (i : Nat) (o : Oper) (V : List Value) (K : Heap), i < N → ops.toList[i]? = some o → Grow H K →
      (∀ j, ahead (masks ops.toList) i j = true → T j (valsOf V (pairsOf ops.toList (masks ops.toList) j) []) (V.getD j undef) K) →
      wantK ops.toList (envOf ops.toList (masks ops.toList) V fr i) o.guard
        (boper P o (envOf ops.toList (masks ops.toList) V fr i) K fun v H' => Grow K H' ∧ T i (valsOf V (pairsOf ops.toList (masks ops.toList) i) []) v H')
        (T i (valsOf V (pairsOf ops.toList (masks ops.toList) i) []) undef K))
    (last : ∀ (o : Oper) (V : List Value) (K : Heap), V.length = N + 1 → ops.toList[N]? = some o → Grow H K →
      (∀ j, j < N → T j (valsOf V (pairsOf ops.toList (masks ops.toList) j) []) (V.getD j undef) K) →
      wantK ops.toList (envOf ops.toList (masks ops.toList) V fr N) o.guard
        (boper P o (envOf ops.toList (masks ops.toList) V fr N) K fun v H' => Q .normal (endOf ops.toList (V.set N v) fr) H')
        (Q .normal (endOf ops.toList (V.set N undef) fr) K)) : SW P n (.region id ops true) Q fr H := by
  simp only [Bool.and_eq_true, List.all_eq_true, List.mem_range] at hok
  obtain ⟨⟨⟨hok, hsz⟩, hlast⟩, hms⟩ := hok
  have hsz := Nat.eq_of_beq_eq_true hsz
  refine SW.drawS (fun L V K => V.length = N + 1 ∧ (L N = false → Grow H K ∧ ∀ j, j < N → L j = true → T j (valsOf V (pairsOf ops.toList (masks ops.toList) j) []) (V.getD j undef) K) ∧ (L N = true → Q .normal (endOf ops.toList V fr) K)) hm hok
    ⟨List.replicate (N + 1) undef, by simp, fun _ => ⟨.refl _, fun j _ h => by simp at h⟩, fun h => by simp at h⟩ ?_ ?_
  · rintro i o L V K ho hl hah hbh ⟨hV, hR, _⟩
    have hi : i < N + 1 := by have := (List.getElem?_eq_some_iff.1 ho).1; simp at this; omega
    have hk : ∀ {X Y X' Y' : Prop}, (X → X') → (Y → Y') → wantK ops.toList (envOf ops.toList (masks ops.toList) V fr i) o.guard X Y → wantK ops.toList (envOf ops.toList (masks ops.toList) V fr i) o.guard X' Y' := by
      intro X Y X' Y' hX hY h
      unfold wantK at h ⊢
      split
      · rename_i hg; rw [hg] at h; exact hX h
      · rename_i j want hg
        rw [hg] at h
        simp only at h
        split
        · rename_i d hd
          rw [hd] at h
          obtain ⟨v, hv, h⟩ := getK_iff.1 h
          refine getK_iff.2 ⟨v, hv, ?_⟩
          split
          · simp only at h
            split
            · rcases h.out with ⟨rfl, h⟩ | ⟨rfl, h⟩
              · exact hX h
              · exact hY h
            · rcases h.out with ⟨rfl, h⟩ | ⟨rfl, h⟩
              · exact hY h
              · exact hX h
          · exact hY (by simpa using h)
        · rename_i hd
          rw [hd] at h
          exact hY h
    have set_same : ∀ v j, L j = true → (V.set i v).getD j undef = V.getD j undef := fun v j hj => by
      rw [getD_set (by omega), if_neg (fun e => by subst e; rw [hl] at hj; simp at hj)]
    have set_vals : ∀ v j, L j = true → valsOf (V.set i v) (pairsOf ops.toList (masks ops.toList) j) [] = valsOf V (pairsOf ops.toList (masks ops.toList) j) [] := fun v j hj =>
      valsOf_congr fun ⟨d, k⟩ hk => by
        have := mem_pairsOf hk
        show (V.set i v).getD k undef = V.getD k undef
        rw [getD_set (by omega), if_neg]
        rintro rfl
        have hjs : j < ops.size := by have := ahead_lt this; simpa using this
        rw [hbh j hjs this] at hj
        simp at hj
    have set_own : ∀ v, valsOf (V.set i v) (pairsOf ops.toList (masks ops.toList) i) [] = valsOf V (pairsOf ops.toList (masks ops.toList) i) [] := fun v =>
      valsOf_congr fun ⟨d, k⟩ hk => set_same v k (hah k (mem_pairsOf hk))
    by_cases hiN : i = N
    · subst hiN
      obtain ⟨hg, hT⟩ := hR hl
      have := last o V K hV ho hg fun j hj => hT j hj (hah j (hlast j hj))
      refine hk (fun h => boper_mono h fun v H' q => ⟨V.set i v, ⟨by simpa using hV, fun h => by simp at h, fun _ => q⟩, by rw [getD_set (by omega), if_pos rfl], fun j _ hj => set_same v j hj⟩)
        (fun q => ⟨V.set i undef, ⟨by simpa using hV, fun h => by simp at h, fun _ => q⟩, by rw [getD_set (by omega), if_pos rfl], fun j _ hj => set_same undef j hj⟩) this
    · have hlN : L N = false := hbh N (by omega) (hlast i (by omega))
      obtain ⟨hg, hT⟩ := hR hlN
      have hstep := step i o V K (by omega) ho hg fun j hj => hT j (ahead_small hms hj) (hah j hj)
      have fin : ∀ v H', Grow K H' → T i (valsOf V (pairsOf ops.toList (masks ops.toList) i) []) v H' → ∃ V', (V'.length = N + 1 ∧ ((L N || decide (N = i)) = false → Grow H H' ∧ ∀ j, j < N → (L j || decide (j = i)) = true → T j (valsOf V' (pairsOf ops.toList (masks ops.toList) j) []) (V'.getD j undef) H') ∧ ((L N || decide (N = i)) = true → Q .normal (endOf ops.toList V' fr) H')) ∧
          V'.getD i undef = v ∧ ∀ (j : Nat), j < ops.size → L j = true → V'.getD j undef = V.getD j undef := fun v H' g t => by
        refine ⟨V.set i v, ⟨by simpa using hV, fun _ => ⟨hg.trans g, fun j hj hL => ?_⟩, fun h => by simp [hlN, Ne.symm hiN] at h⟩, by rw [getD_set (by omega), if_pos rfl], fun j _ hj => set_same v j hj⟩
        by_cases e : j = i
        · subst e
          rw [set_own, getD_set (by omega), if_pos rfl]
          exact t
        · have hL' : L j = true := by simpa [e] using hL
          rw [set_vals v j hL', set_same v j hL']
          exact mono _ _ _ _ _ (hT j hj hL') g
      exact hk (fun h => boper_mono h fun v H' q => fin v H' q.1 q.2) (fun q => fin undef K (.refl _) q) hstep
  · rintro V H' ⟨_, _, h⟩
    exact h (by simp [hsz])
end Go.Proofs.Ytdlanbfbbopfhaa.Ax
