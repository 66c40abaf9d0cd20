/- Trees in abstract memory: lists that lie from some place on; nodes. -/
import Derived.Test.YtmglmjbjgfbdjaaJAx3
set_option linter.unusedVariables false
set_option linter.unusedSimpArgs false
set_option maxRecDepth 20000
set_option maxHeartbeats 8000000
namespace Go.Proofs.Ytmglmjbjgfbdjaa
open Go Ax
/-- A list that lies in a row of cells, from some place on. -/
def RLo {α : Type} (k : Nat) (f : Heap → List Value → α → Prop) (H : Heap) (sv : Value) (L : List α) : Prop :=
  (sv = .slice none 0 0 ∧ L = []) ∨ ∃ b o, sv = .slice (some ⟨b, o * k, none⟩) L.length k ∧ (L = [] ∨ ∃ m c, H[b]? = some (.cells m c) ∧ ∀ (i : Nat) (x : α), L[i]? = some x → ∃ l, slotsOf c ((o + i) * k) k = some l ∧ f H l x)
theorem RLo.of {α : Type} {k : Nat} {f : Heap → List Value → α → Prop} {H : Heap} {sv : Value} {L : List α} (h : RL k f H sv L) : RLo k f H sv L := by
  rcases h with h | ⟨b, h1, h2⟩
  · exact .inl h
  · refine .inr ⟨b, 0, by rw [h1]; simp, ?_⟩
    rcases h2 with h2 | ⟨m, c, h2, h3⟩
    · exact .inl h2
    · exact .inr ⟨m, c, h2, fun i x hx => by rw [Nat.zero_add]; exact h3 i x hx⟩
theorem RLo.growM {α : Type} {k : Nat} {f f' : Heap → List Value → α → Prop} {H H' : Heap} {sv : Value} {L : List α} (h : RLo k f H sv L) (g : Grow H H') (hf : ∀ l x, x ∈ L → f H l x → f' H' l x) : RLo k f' H' sv L := by
  rcases h with h | ⟨b, o, h1, h2 | ⟨m, c, h2, h3⟩⟩
  · exact .inl h
  · exact .inr ⟨b, o, h1, .inl h2⟩
  · exact .inr ⟨b, o, h1, .inr ⟨m, c, g.at h2, fun i x hx => let ⟨l, h4, h5⟩ := h3 i x hx; ⟨l, h4, hf _ _ (List.mem_of_getElem? hx) h5⟩⟩⟩
theorem RLo.len {α : Type} {k : Nat} {f : Heap → List Value → α → Prop} {H : Heap} {sv : Value} {L : List α} (h : RLo k f H sv L) {P : Program} {t e : TypeId} (ht : P.underlying t = some (.slice e)) (H' : Heap) : alen P t sv H' = some (.int .i64 L.length) := by
  rcases h with ⟨rfl, rfl⟩ | ⟨b, o, rfl, _⟩ <;> simp [alen, ht]
theorem RLo.at {α : Type} {k : Nat} {f : Heap → List Value → α → Prop} {H : Heap} {sv : Value} {L : List α} (h : RLo k f H sv L) {P : Program} {t e : TypeId} (he : sliceElem P t = some e) (hk : tsize P e = some k) {i : Nat} {x : α} (hx : L[i]? = some x) :
    ∃ b o c l, aindexAddr P t sv (.int .i64 (i : Int)) = some (.pointer (some ⟨b, o, none⟩)) ∧ hblk H b = some c ∧ slotsOf c o k = some l ∧ f H l x := by
  have hl := (List.getElem?_eq_some_iff.1 hx).1
  rcases h with ⟨rfl, rfl⟩ | ⟨b, o, rfl, rfl | ⟨m, c, h2, h3⟩⟩
  · simp at hx
  · simp at hx
  · obtain ⟨l, h4, h5⟩ := h3 i x hx
    refine ⟨b, (o + i) * k, c, l, ?_, hblk_of h2, h4, h5⟩
    rw [idx_slice (off := o * k) (k := k) he hk (by omega) (by omega)]
    simp [Nat.add_mul]
theorem RLo.ldA {α : Type} {k : Nat} {f : Heap → List Value → α → Prop} {H : Heap} {sv : Value} {L : List α} (h : RLo k f H sv L) {P : Program} {t e : TypeId} {d : TypeDesc} (he : sliceElem P t = some e) (hk : tsize P e = some k) (hd : P.underlying e = some d) (ha : isAggD d = true) {i : Nat} {x : α} (hx : L[i]? = some x) :
    ∃ q l, aindexAddr P t sv (.int .i64 (i : Int)) = some q ∧ f H l x ∧ ∀ H', Grow H H' → aload P e q H' = some (.agg l.toArray) := by
  obtain ⟨b, o, c, l, h1, h2, h3, h4⟩ := h.at he hk hx
  exact ⟨_, l, h1, h4, fun H' gr => ald_agg hd ha hk (gr.hblk h2) h3⟩
theorem RLo.drop {α : Type} {k : Nat} {f : Heap → List Value → α → Prop} {H : Heap} {sv : Value} {L : List α} (h : RLo k f H sv L) {P : Program} {t e : TypeId} (he : sliceElem P t = some e) (hk : tsize P e = some k) {n : Nat} (h0 : 0 < n) (h1 : n ≤ L.length) :
    ∃ u, aslice P t sv (some (.int .i64 (n : Int))) none none = some u ∧ RLo k f H u (L.drop n) := by
  rcases h with ⟨rfl, rfl⟩ | ⟨b, o, rfl, h2⟩
  · simp at h1; omega
  · refine ⟨_, slice_lo he hk (by omega) (by omega), .inr ⟨b, o + n, ?_, ?_⟩⟩
    · simp [Nat.add_mul]
    · rcases h2 with h2 | ⟨m, c, h2, h3⟩
      · subst h2; simp at h1; omega
      · exact .inr ⟨m, c, h2, fun i x hx => by rw [Nat.add_assoc]; exact h3 (n + i) x (by rw [List.getElem?_drop] at hx; exact hx)⟩
theorem RLo.map {α β : Type} {k : Nat} {f : Heap → List Value → α → Prop} {f' : Heap → List Value → β → Prop} {H : Heap} {sv : Value} {L : List α} (h : RLo k f H sv L) (g : α → β) (hf : ∀ l x, x ∈ L → f H l x → f' H l (g x)) : RLo k f' H sv (L.map g) := by
  rcases h with ⟨h, rfl⟩ | ⟨b, o, h1, h2 | ⟨m, c, h2, h3⟩⟩
  · exact .inl ⟨h, rfl⟩
  · subst h2; exact .inr ⟨b, o, h1, .inl rfl⟩
  · refine .inr ⟨b, o, by rw [List.length_map]; exact h1, .inr ⟨m, c, h2, fun i x hx => ?_⟩⟩
    rw [List.getElem?_map] at hx
    cases hL : L[i]? with
    | none => rw [hL] at hx; simp at hx
    | some y =>
      rw [hL] at hx
      simp only [Option.map_some, Option.some.injEq] at hx
      subst hx
      obtain ⟨l, h4, h5⟩ := h3 i y hL
      exact ⟨l, h4, hf _ _ (List.mem_of_getElem? hL) h5⟩
theorem RLo.mono {α : Type} {k : Nat} {f f' : Heap → List Value → α → Prop} {H : Heap} {sv : Value} {L : List α} (h : RLo k f H sv L) (hf : ∀ l x, x ∈ L → f H l x → f' H l x) : RLo k f' H sv L := by
  have := h.map (f' := f') id hf
  rwa [List.map_id] at this
/-- What each element of a list has, it has at one depth. -/
theorem RLo.depth {α : Type} {k : Nat} {f : Nat → Heap → List Value → α → Prop} {H : Heap} {sv : Value} {L : List α} (up : ∀ d d' l x, d ≤ d' → f d H l x → f d' H l x) (h : RLo k (fun H l x => ∃ d, f d H l x) H sv L) : ∃ d, RLo k (f d) H sv L := by
  rcases h with h | ⟨b, o, h1, h2 | ⟨m, c, h2, h3⟩⟩
  · exact ⟨0, .inl h⟩
  · exact ⟨0, .inr ⟨b, o, h1, .inl h2⟩⟩
  · suffices hs : ∀ n, ∃ d, ∀ (i : Nat) (x : α), i < n → L[i]? = some x → ∃ l, slotsOf c ((o + i) * k) k = some l ∧ f d H l x by
      obtain ⟨d, hd⟩ := hs L.length
      exact ⟨d, .inr ⟨b, o, h1, .inr ⟨m, c, h2, fun i x hx => hd i x (List.getElem?_eq_some_iff.1 hx).1 hx⟩⟩⟩
    intro n
    induction n with
    | zero => exact ⟨0, fun i x h => by omega⟩
    | succ n ih =>
      obtain ⟨d, hd⟩ := ih
      cases hL : L[n]? with
      | none => exact ⟨d, fun i x hi hx => by
          by_cases e : i = n
          · subst e; rw [hL] at hx; simp at hx
          · exact hd i x (by omega) hx⟩
      | some y =>
        obtain ⟨l, h4, d', h5⟩ := h3 n y hL
        refine ⟨max d d', fun i x hi hx => ?_⟩
        by_cases e : i = n
        · subst e
          rw [hL] at hx
          simp only [Option.some.injEq] at hx
          subst hx
          exact ⟨l, h4, up _ _ _ _ (Nat.le_max_right ..) h5⟩
        · obtain ⟨l, h6, h7⟩ := hd i x (by omega) hx
          exact ⟨l, h6, up _ _ _ _ (Nat.le_max_left ..) h7⟩
/-- A tree. -/
inductive Tr where
  | mk (kind op num : Int) (str : ByteArray) (names : List ByteArray) (kids : List Tr) (pos : Int)
namespace Tr
def kind : Tr → Int | .mk k _ _ _ _ _ _ => k
def op : Tr → Int | .mk _ k _ _ _ _ _ => k
def num : Tr → Int | .mk _ _ k _ _ _ _ => k
def str : Tr → ByteArray | .mk _ _ _ k _ _ _ => k
def names : Tr → List ByteArray | .mk _ _ _ _ k _ _ => k
def kids : Tr → List Tr | .mk _ _ _ _ _ k _ => k
def pos : Tr → Int | .mk _ _ _ _ _ _ k => k
theorem ind {P : Tr → Prop} (h : ∀ x : Tr, (∀ k ∈ x.kids, P k) → P x) (x : Tr) : P x := by
  refine Tr.rec (motive_1 := P) (motive_2 := fun L => ∀ k ∈ L, P k) ?_ ?_ ?_ x
  · intro k o n s ns ks p hk
    exact h _ hk
  · intro k hk; simp at hk
  · intro a L ha hL k hk
    rcases List.mem_cons.1 hk with rfl | hk
    · exact ha
    · exact hL k hk
end Tr
/-- Sizes of a node's own fields. -/
def Own7 (x : Tr) : Prop := x.str.size ≤ maxLen ∧ x.names.length ≤ maxLen ∧ (∀ s ∈ x.names, s.size ≤ maxLen) ∧ x.kids.length ≤ maxLen
def nodeV (x : Tr) (sn sk : Value) : List Value := [.int .i64 x.kind, .int .i64 x.op, .int .i64 x.num, .string x.str, sn, sk, .int .i64 x.pos]
def ND : Nat → Heap → List Value → Tr → Prop
  | 0, _, _, _ => False
  | d + 1, H, l, x => Own7 x ∧ ∃ sn sk, l = nodeV x sn sk ∧ RL 1 strR H sn x.names ∧ RLo 7 (ND d) H sk x.kids
/-- How a tree lies. -/
def NodeR (H : Heap) (l : List Value) (x : Tr) : Prop := ∃ d, ND d H l x
theorem ND.up : ∀ d d' H l x, d ≤ d' → ND d H l x → ND d' H l x
  | 0, _, _, _, _, _, h => h.elim
  | d + 1, 0, _, _, _, e, _ => by omega
  | d + 1, d' + 1, H, l, x, e, ⟨h0, sn, sk, h1, h2, h3⟩ => ⟨h0, sn, sk, h1, h2, h3.mono fun l x _ h => ND.up d d' H l x (by omega) h⟩
theorem NodeR.inv {H : Heap} {l : List Value} {x : Tr} (h : NodeR H l x) : Own7 x ∧ ∃ sn sk, l = nodeV x sn sk ∧ RL 1 strR H sn x.names ∧ RLo 7 NodeR H sk x.kids := by
  obtain ⟨d, h⟩ := h
  cases d with
  | zero => exact h.elim
  | succ d =>
    obtain ⟨h0, sn, sk, h1, h2, h3⟩ := h
    exact ⟨h0, sn, sk, h1, h2, h3.mono fun l x _ h => ⟨d, h⟩⟩
theorem NodeR.mk {H : Heap} {x : Tr} {sn sk : Value} (h0 : Own7 x) (h2 : RL 1 strR H sn x.names) (h3 : RLo 7 NodeR H sk x.kids) : NodeR H (nodeV x sn sk) x := by
  obtain ⟨d, h⟩ := h3.depth fun d d' l x => ND.up d d' H l x
  exact ⟨d + 1, h0, sn, sk, rfl, h2, h⟩
theorem ND.grow : ∀ d {H H' : Heap} {l x}, Grow H H' → ND d H l x → ND d H' l x
  | 0, _, _, _, _, _, h => h.elim
  | d + 1, H, H', l, x, g, ⟨h0, sn, sk, h1, h2, h3⟩ => ⟨h0, sn, sk, h1, strR.grow h2 g, h3.growM g fun l x _ h => ND.grow d g h⟩
theorem NodeR.grow {H H' : Heap} {l : List Value} {x : Tr} (h : NodeR H l x) (g : Grow H H') : NodeR H' l x := let ⟨d, h⟩ := h; ⟨d, h.grow d g⟩
theorem NodeR.grows {H H' : Heap} {sv : Value} {L : List Tr} (h : RLo 7 NodeR H sv L) (g : Grow H H') : RLo 7 NodeR H' sv L := h.growM g fun _ _ _ h => h.grow g
end Go.Proofs.Ytmglmjbjgfbdjaa
