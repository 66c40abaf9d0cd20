/- Trees in abstract memory: lists that lie from some place on; nodes. -/
import Derived.Test.YtmdjepfpgmignaaProg
import Derived.Test.YtmdjepfpgmignaaJAx3
set_option linter.unusedVariables false
set_option linter.unusedSimpArgs false
set_option maxRecDepth 20000
set_option maxHeartbeats 8000000
namespace Go.Proofs.Ytmdjepfpgmignaa
open Go Ax
/-- A list that lies in a row of cells, from some place on. -/
def RLo {α : Type} (k : Nat) (f : Heap → List Value → α → Prop) (H : Heap) (sv : Value) (L : List α) : Prop :=
  (sv = .slice none 0 0 ∧ L = []) ∨ ∃ b o, sv = .slice (some ⟨b, o * k, none⟩) L.length k ∧ (L = [] ∨ ∃ m c, H[b]? = some (.cells m c) ∧ ∀ (i : Nat) (x : α), L[i]? = some x → ∃ l, slotsOf c ((o + i) * k) k = some l ∧ f H l x)
theorem RLo.of {α : Type} {k : Nat} {f : Heap → List Value → α → Prop} {H : Heap} {sv : Value} {L : List α} (h : RL k f H sv L) : RLo k f H sv L := by
  rcases h with h | ⟨b, h1, h2⟩
  · exact .inl h
  · refine .inr ⟨b, 0, by rw [h1]; simp, ?_⟩
    rcases h2 with h2 | ⟨m, c, h2, h3⟩
    · exact .inl h2
    · exact .inr ⟨m, c, h2, fun i x hx => by rw [Nat.zero_add]; exact h3 i x hx⟩
theorem RLo.growM {α : Type} {k : Nat} {f f' : Heap → List Value → α → Prop} {H H' : Heap} {sv : Value} {L : List α} (h : RLo k f H sv L) (g : Grow H H') (hf : ∀ l x, x ∈ L → f H l x → f' H' l x) : RLo k f' H' sv L := by
  rcases h with h | ⟨b, o, h1, h2 | ⟨m, c, h2, h3⟩⟩
  · exact .inl h
  · exact .inr ⟨b, o, h1, .inl h2⟩
  · exact .inr ⟨b, o, h1, .inr ⟨m, c, g.at h2, fun i x hx => let ⟨l, h4, h5⟩ := h3 i x hx; ⟨l, h4, hf _ _ (List.mem_of_getElem? hx) h5⟩⟩⟩
theorem RLo.len {α : Type} {k : Nat} {f : Heap → List Value → α → Prop} {H : Heap} {sv : Value} {L : List α} (h : RLo k f H sv L) {P : Program} {t e : TypeId} (ht : P.underlying t = some (.slice e)) (H' : Heap) : alen P t sv H' = some (.int .i64 L.length) := by
  rcases h with ⟨rfl, rfl⟩ | ⟨b, o, rfl, _⟩ <;> simp [alen, ht]
theorem RLo.at {α : Type} {k : Nat} {f : Heap → List Value → α → Prop} {H : Heap} {sv : Value} {L : List α} (h : RLo k f H sv L) {P : Program} {t e : TypeId} (he : sliceElem P t = some e) (hk : tsize P e = some k) {i : Nat} {x : α} (hx : L[i]? = some x) :
    ∃ b o c l, aindexAddr P t sv (.int .i64 (i : Int)) = some (.pointer (some ⟨b, o, none⟩)) ∧ hblk H b = some c ∧ slotsOf c o k = some l ∧ f H l x := by
  have hl := (List.getElem?_eq_some_iff.1 hx).1
  rcases h with ⟨rfl, rfl⟩ | ⟨b, o, rfl, rfl | ⟨m, c, h2, h3⟩⟩
  · simp at hx
  · simp at hx
  · obtain ⟨l, h4, h5⟩ := h3 i x hx
    refine ⟨b, (o + i) * k, c, l, ?_, hblk_of h2, h4, h5⟩
    rw [idx_slice (off := o * k) (k := k) he hk (by omega) (by omega)]
    simp [Nat.add_mul]
theorem RLo.ldA {α : Type} {k : Nat} {f : Heap → List Value → α → Prop} {H : Heap} {sv : Value} {L : List α} (h : RLo k f H sv L) {P : Program} {t e : TypeId} {d : TypeDesc} (he : sliceElem P t = some e) (hk : tsize P e = some k) (hd : P.underlying e = some d) (ha : isAggD d = true) {i : Nat} {x : α} (hx : L[i]? = some x) :
    ∃ q l, aindexAddr P t sv (.int .i64 (i : Int)) = some q ∧ f H l x ∧ ∀ H', Grow H H' → aload P e q H' = some (.agg l.toArray) := by
  obtain ⟨b, o, c, l, h1, h2, h3, h4⟩ := h.at he hk hx
  exact ⟨_, l, h1, h4, fun H' gr => ald_agg hd ha hk (gr.hblk h2) h3⟩
theorem RLo.drop {α : Type} {k : Nat} {f : Heap → List Value → α → Prop} {H : Heap} {sv : Value} {L : List α} (h : RLo k f H sv L) {P : Program} {t e : TypeId} (he : sliceElem P t = some e) (hk : tsize P e = some k) {n : Nat} (h0 : 0 < n) (h1 : n ≤ L.length) :
    ∃ u, aslice P t sv (some (.int .i64 (n : Int))) none none = some u ∧ RLo k f H u (L.drop n) := by
  rcases h with ⟨rfl, rfl⟩ | ⟨b, o, rfl, h2⟩
  · simp at h1; omega
  · refine ⟨_, slice_lo he hk (by omega) (by omega), .inr ⟨b, o + n, ?_, ?_⟩⟩
    · simp [Nat.add_mul]
    · rcases h2 with h2 | ⟨m, c, h2, h3⟩
      · subst h2; simp at h1; omega
      · exact .inr ⟨m, c, h2, fun i x hx => by rw [Nat.add_assoc]; exact h3 (n + i) x (by rw [List.getElem?_drop] at hx; exact hx)⟩
theorem RLo.map {α β : Type} {k : Nat} {f : Heap → List Value → α → Prop} {f' : Heap → List Value → β → Prop} {H : Heap} {sv : Value} {L : List α} (h : RLo k f H sv L) (g : α → β) (hf : ∀ l x, x ∈ L → f H l x → f' H l (g x)) : RLo k f' H sv (L.map g) := by
  rcases h with ⟨h, rfl⟩ | ⟨b, o, h1, h2 | ⟨m, c, h2, h3⟩⟩
  · exact .inl ⟨h, rfl⟩
  · subst h2; exact .inr ⟨b, o, h1, .inl rfl⟩
  · refine .inr ⟨b, o, by rw [List.length_map]; exact h1, .inr ⟨m, c, h2, fun i x hx => ?_⟩⟩
    rw [List.getElem?_map] at hx
    cases hL : L[i]? with
    | none => rw [hL] at hx; simp at hx
    | some y =>
      rw [hL] at hx
      simp only [Option.map_some, Option.some.injEq] at hx
      subst hx
      obtain ⟨l, h4, h5⟩ := h3 i y hL
      exact ⟨l, h4, hf _ _ (List.mem_of_getElem? hL) h5⟩
theorem RLo.mono {α : Type} {k : Nat} {f f' : Heap → List Value → α → Prop} {H : Heap} {sv : Value} {L : List α} (h : RLo k f H sv L) (hf : ∀ l x, x ∈ L → f H l x → f' H l x) : RLo k f' H sv L := by
  have := h.map (f' := f') id hf
  rwa [List.map_id] at this
/-- What each element of a list has, it has at one depth. -/
theorem RLo.depth {α : Type} {k : Nat} {f : Nat → Heap → List Value → α → Prop} {H : Heap} {sv : Value} {L : List α} (up : ∀ d d' l x, d ≤ d' → f d H l x → f d' H l x) (h : RLo k (fun H l x => ∃ d, f d H l x) H sv L) : ∃ d, RLo k (f d) H sv L := by
  rcases h with h | ⟨b, o, h1, h2 | ⟨m, c, h2, h3⟩⟩
  · exact ⟨0, .inl h⟩
  · exact ⟨0, .inr ⟨b, o, h1, .inl h2⟩⟩
  · suffices hs : ∀ n, ∃ d, ∀ (i : Nat) (x : α), i < n → L[i]? = some x → ∃ l, slotsOf c ((o + i) * k) k = some l ∧ f d H l x by
      obtain ⟨d, hd⟩ := hs L.length
      exact ⟨d, .inr ⟨b, o, h1, .inr ⟨m, c, h2, fun i x hx => hd i x (List.getElem?_eq_some_iff.1 hx).1 hx⟩⟩⟩
    intro n
    induction n with
    | zero => exact ⟨0, fun i x h => by omega⟩
    | succ n ih =>
      obtain ⟨d, hd⟩ := ih
      cases hL : L[n]? with
      | none => exact ⟨d, fun i x hi hx => by
          by_cases e : i = n
          · subst e; rw [hL] at hx; simp at hx
          · exact hd i x (by omega) hx⟩
      | some y =>
        obtain ⟨l, h4, d', h5⟩ := h3 n y hL
        refine ⟨max d d', fun i x hi hx => ?_⟩
        by_cases e : i = n
        · subst e
          rw [hL] at hx
          simp only [Option.some.injEq] at hx
          subst hx
          exact ⟨l, h4, up _ _ _ _ (Nat.le_max_right ..) h5⟩
        · obtain ⟨l, h6, h7⟩ := hd i x (by omega) hx
          exact ⟨l, h6, up _ _ _ _ (Nat.le_max_left ..) h7⟩
/-- A tree. -/
inductive Tr where
  | mk (kind op num : Int) (str : ByteArray) (names : List ByteArray) (kids : List Tr) (pos : Int)
namespace Tr
def kind : Tr → Int | .mk k _ _ _ _ _ _ => k
def op : Tr → Int | .mk _ k _ _ _ _ _ => k
def num : Tr → Int | .mk _ _ k _ _ _ _ => k
def str : Tr → ByteArray | .mk _ _ _ k _ _ _ => k
def names : Tr → List ByteArray | .mk _ _ _ _ k _ _ => k
def kids : Tr → List Tr | .mk _ _ _ _ _ k _ => k
def pos : Tr → Int | .mk _ _ _ _ _ _ k => k
theorem ind {P : Tr → Prop} (h : ∀ x : Tr, (∀ k ∈ x.kids, P k) → P x) (x : Tr) : P x := by
  refine Tr.rec (motive_1 := P) (motive_2 := fun L => ∀ k ∈ L, P k) ?_ ?_ ?_ x
  · intro k o n s ns ks p hk
    exact h _ hk
  · intro k hk; simp at hk
  · intro a L ha hL k hk
    rcases List.mem_cons.1 hk with rfl | hk
    · exact ha
    · exact hL k hk
end Tr
/-- Sizes of a node's own fields. -/
def Own7 (x : Tr) : Prop := x.str.size ≤ maxLen ∧ x.names.length ≤ maxLen ∧ (∀ s ∈ x.names, s.size ≤ maxLen) ∧ x.kids.length ≤ maxLen
def nodeV (x : Tr) (sn sk : Value) : List Value := [.int .i64 x.kind, .int .i64 x.op, .int .i64 x.num, .string x.str, sn, sk, .int .i64 x.pos]
def ND : Nat → Heap → List Value → Tr → Prop
  | 0, _, _, _ => False
  | d + 1, H, l, x => Own7 x ∧ ∃ sn sk, l = nodeV x sn sk ∧ RL 1 strR H sn x.names ∧ RLo 7 (ND d) H sk x.kids
/-- How a tree lies. -/
def NodeR (H : Heap) (l : List Value) (x : Tr) : Prop := ∃ d, ND d H l x
theorem ND.up : ∀ d d' H l x, d ≤ d' → ND d H l x → ND d' H l x
  | 0, _, _, _, _, _, h => h.elim
  | d + 1, 0, _, _, _, e, _ => by omega
  | d + 1, d' + 1, H, l, x, e, ⟨h0, sn, sk, h1, h2, h3⟩ => ⟨h0, sn, sk, h1, h2, h3.mono fun l x _ h => ND.up d d' H l x (by omega) h⟩
theorem NodeR.inv {H : Heap} {l : List Value} {x : Tr} (h : NodeR H l x) : Own7 x ∧ ∃ sn sk, l = nodeV x sn sk ∧ RL 1 strR H sn x.names ∧ RLo 7 NodeR H sk x.kids := by
  obtain ⟨d, h⟩ := h
  cases d with
  | zero => exact h.elim
  | succ d =>
    obtain ⟨h0, sn, sk, h1, h2, h3⟩ := h
    exact ⟨h0, sn, sk, h1, h2, h3.mono fun l x _ h => ⟨d, h⟩⟩
theorem NodeR.mk {H : Heap} {x : Tr} {sn sk : Value} (h0 : Own7 x) (h2 : RL 1 strR H sn x.names) (h3 : RLo 7 NodeR H sk x.kids) : NodeR H (nodeV x sn sk) x := by
  obtain ⟨d, h⟩ := h3.depth fun d d' l x => ND.up d d' H l x
  exact ⟨d + 1, h0, sn, sk, rfl, h2, h⟩
theorem ND.grow : ∀ d {H H' : Heap} {l x}, Grow H H' → ND d H l x → ND d H' l x
  | 0, _, _, _, _, _, h => h.elim
  | d + 1, H, H', l, x, g, ⟨h0, sn, sk, h1, h2, h3⟩ => ⟨h0, sn, sk, h1, strR.grow h2 g, h3.growM g fun l x _ h => ND.grow d g h⟩
theorem NodeR.grow {H H' : Heap} {l : List Value} {x : Tr} (h : NodeR H l x) (g : Grow H H') : NodeR H' l x := let ⟨d, h⟩ := h; ⟨d, h.grow d g⟩
theorem NodeR.grows {H H' : Heap} {sv : Value} {L : List Tr} (h : RLo 7 NodeR H sv L) (g : Grow H H') : RLo 7 NodeR H' sv L := h.growM g fun _ _ _ h => h.grow g
end Go.Proofs.Ytmdjepfpgmignaa
/- Trees that are few: the document's left, Few. -/
set_option linter.unusedVariables false
set_option linter.unusedSimpArgs false
set_option maxRecDepth 20000
set_option maxHeartbeats 8000000
namespace Go.Proofs.Ytmdjepfpgmignaa
open Go Ax
mutual
def Tr.left : Tr → Int → Int → Int
  | .mk _ _ _ s ns ks _, most, high => if high = 0 ∨ 600 < s.size ∨ 60 < ns.length ∨ ¬ (∀ n ∈ ns, n.size ≤ 100) then -1 else leftL ks (most - 1) (high - 1)
def leftL : List Tr → Int → Int → Int
  | [], most, _ => most
  | k :: ks, most, high => if most < 0 then most else leftL ks (k.left most high) high
end
theorem Tr.left_eq (x : Tr) (most high : Int) : x.left most high = if high = 0 ∨ 600 < x.str.size ∨ 60 < x.names.length ∨ ¬ (∀ n ∈ x.names, n.size ≤ 100) then -1 else leftL x.kids (most - 1) (high - 1) := by
  cases x; rw [Tr.left]; rfl
theorem leftL_neg {ks : List Tr} {m h : Int} (hm : m < 0) : leftL ks m h = m := by
  cases ks with
  | nil => rfl
  | cons k ks => rw [leftL, if_pos hm]
theorem leftL_le : ∀ (ks : List Tr), (∀ k ∈ ks, ∀ m h : Int, 0 ≤ m → -1 ≤ k.left m h ∧ k.left m h ≤ m - 1) → ∀ m h : Int, -1 ≤ m → -1 ≤ leftL ks m h ∧ leftL ks m h ≤ m
  | [], _, m, h, hm => ⟨hm, Int.le_refl _⟩
  | k :: ks, hk, m, h, hm => by
    rw [leftL]
    split
    · omega
    · have h1 := hk k (List.mem_cons_self ..) m h (by omega)
      have h2 := leftL_le ks (fun k h => hk k (List.mem_cons_of_mem _ h)) (k.left m h) h (by omega)
      omega
theorem Tr.left_le (x : Tr) : ∀ m h : Int, 0 ≤ m → -1 ≤ x.left m h ∧ x.left m h ≤ m - 1 := by
  induction x using Tr.ind with
  | h x ih =>
    intro m h hm
    rw [Tr.left_eq]
    split
    · omega
    · have := leftL_le x.kids ih (m - 1) (h - 1) (by omega)
      omega
theorem leftL_get {L : List Tr} {m : Int} {i : Nat} {x : Tr} {h : Int} (hx : L[i]? = some x) (hm : 0 ≤ m) : leftL (L.drop i) m h = leftL (L.drop (i + 1)) (x.left m h) h := by
  obtain ⟨hi, rfl⟩ := List.getElem?_eq_some_iff.1 hx
  rw [List.drop_eq_getElem_cons hi, leftL, if_neg (by omega)]
theorem ld_node {H : Heap} {sv : Value} {L : List Tr} (h : RLo 7 NodeR H sv L) {i : Nat} {x : Tr} (hx : L[i]? = some x) :
    ∃ q l, aindexAddr Try.prog 45 sv (.int .i64 (i : Int)) = some q ∧ NodeR H l x ∧ ∀ H', Grow H H' → aload Try.prog 50 q H' = some (.agg l.toArray) := h.ldA rfl rfl rfl rfl hx
theorem ld_strT {H : Heap} {sv : Value} {L : List ByteArray} (h : RL 1 strR H sv L) {i : Nat} {x : ByteArray} (hx : L[i]? = some x) :
    ∃ q, aindexAddr Try.prog 27 sv (.int .i64 (i : Int)) = some q ∧ ∀ H', Grow H H' → aload Try.prog 9 q H' = some (.string x) := h.ld1 (g := .string) (fun _ _ _ h => h) rfl rfl rfl rfl hx
theorem left_ax (x : Tr) : ∀ {H : Heap} {l : List Value}, NodeR H l x → ∀ (most high : Int), 0 ≤ most → most < 4294967296 → 0 ≤ high → high < 4294967296 →
    AX Try.prog 19 #[.agg l.toArray, .int .i64 most, .int .i64 high] H (fun v H' => v = .int .i64 (x.left most high) ∧ H' = H) := by
  induction x using Tr.ind with
  | h x ih =>
  intro H l R most high m0 m1 h0 h1
  obtain ⟨ow, sn, sk, rfl, rn, rk⟩ := R.inv
  refine AX.quiet ?_
  suffices hh : AX Try.prog 19 #[.agg (nodeV x sn sk).toArray, .int .i64 most, .int .i64 high] H (fun v H' => v = .int .i64 (x.left most high) ∧ Grow H H') from hh.mono fun v _ ⟨e, g⟩ => ⟨e ▸ plain_int _ _, e, g⟩
  refine AX.body (n := 60) (rs := [.tmp 6]) Try.func19 rfl (by decide) rfl rfl (bC_sound _ _ _ _ ?_)
  (conv => whnf)
  refine Ob2.box rfl fun q H1 hq a1 g1 => ?_
  have b1 := hblk_of a1
  have l1 : alen Try.prog 27 sn H1 = some (.int .i64 x.names.length) := rn.len rfl _
  have l2 : alen Try.prog 45 sk H1 = some (.int .i64 x.kids.length) := rk.len rfl _
  by_cases ca : high = 0
  · have he : x.left most high = -1 := by rw [Tr.left_eq, if_pos (.inl ca)]
    rw [he]
    subst ca
    refine run ?_
    exact ⟨rfl, g1⟩
  have c1 : (high == 0) = false := by rw [beq_eq_false_iff_ne]; omega
  by_cases cb : 600 < x.str.size
  · have he : x.left most high = -1 := by rw [Tr.left_eq, if_pos (.inr (.inl cb))]
    rw [he]
    have c2 : decide ((x.str.size : Int) > 600) = true := decide_eq_true (by omega)
    refine run ?_
    exact ⟨rfl, g1⟩
  have c2 : decide ((x.str.size : Int) > 600) = false := decide_eq_false (by omega)
  by_cases cc : 60 < x.names.length
  · have he : x.left most high = -1 := by rw [Tr.left_eq, if_pos (.inr (.inr (.inl cc)))]
    rw [he]
    have c3 : decide ((x.names.length : Int) > 60) = true := decide_eq_true (by omega)
    refine run ?_
    exact ⟨rfl, g1⟩
  have c3 : decide ((x.names.length : Int) > 60) = false := decide_eq_false (by omega)
  refine run ?_
  refine SW.loop (α := Nat) (fun k => [(1, .int .i64 most), (2, .int .i64 high), (3, .pointer (some ⟨q, 0, none⟩)), (7, .int .i64 (k : Int))]) (fun k H' => k ≤ x.names.length ∧ (∀ (i : Nat) s, i < k → x.names[i]? = some s → s.size ≤ 100) ∧ H' = H1) (fun k => x.names.length - k) ⟨0, ⟨rfl, rfl, rfl, rfl, trivial⟩, ⟨by omega, fun i s hi => by omega, rfl⟩⟩ ?_
  rintro k X ⟨hm, ht, e⟩
  subst X
  refine bC_sound _ _ _ _ ?_
  by_cases hml : k < x.names.length
  · have d1 : decide ((k : Int) < (x.names.length : Int)) = true := decide_eq_true (by omega)
    obtain ⟨s, hx⟩ := get_lt hml
    obtain ⟨p, i1, i2⟩ := ld_strT rn hx
    have i3 := i2 H1 g1
    by_cases hs : 100 < s.size
    · have d2 : decide ((s.size : Int) > 100) = true := decide_eq_true (by omega)
      refine run ?_
      have he : x.left most high = -1 := by
        rw [Tr.left_eq, if_pos (.inr (.inr (.inr fun h => by have := h s (List.mem_of_getElem? hx); omega)))]
      rw [he]
      exact ⟨rfl, g1⟩
    · have d2 : decide ((s.size : Int) > 100) = false := decide_eq_false (by omega)
      refine run ?_
      refine ⟨k + 1, ⟨rfl, rfl, rfl, congrArg (fun z => some (Value.int .i64 z)) (w_succ (by omega)), trivial⟩, ⟨hml, fun i t hi hd => ?_, rfl⟩, by show _ - (k + 1) < _ - k; omega⟩
      by_cases him : i = k
      · subst him; rw [hx] at hd; simp only [Option.some.injEq] at hd; subst hd; omega
      · exact ht i t (by omega) hd
  · have d1 : decide ((k : Int) < (x.names.length : Int)) = false := decide_eq_false (by omega)
    have he : x.left most high = leftL x.kids (most - 1) (high - 1) := by
      rw [Tr.left_eq, if_neg]
      rintro (h | h | h | h)
      · omega
      · omega
      · omega
      · refine h fun n hn => ?_
        obtain ⟨i, hi, rfl⟩ := List.getElem_of_mem hn
        exact ht i _ (by omega) (List.getElem?_eq_getElem hi)
    have w1 : IntKind.i64.wrap (most - 1) = most - 1 := by rw [wrap_i64 (by omega) (by omega)]
    refine run ?_
    have hkl := ow.2.2.2
    simp only [maxLen] at hkl
    refine SW.loop (α := Nat × Int) (fun y => [(1, .int .i64 y.2), (2, .int .i64 high), (3, .pointer (some ⟨q, 0, none⟩)), (8, .int .i64 (y.1 : Int))]) (fun y H' => y.1 ≤ x.kids.length ∧ -1 ≤ y.2 ∧ y.2 < most ∧ leftL (x.kids.drop y.1) y.2 (high - 1) = leftL x.kids (most - 1) (high - 1) ∧ H' = H1) (fun y => x.kids.length - y.1) ⟨(0, most - 1), ⟨congrArg (fun z => some (Value.int .i64 z)) w1, rfl, rfl, rfl, trivial⟩, by show 0 ≤ _; omega, by show -1 ≤ most - 1; omega, by show most - 1 < most; omega, rfl, rfl⟩ ?_
    rintro ⟨j, n⟩ X ⟨hj, hn, hn2, hl, e⟩
    subst X
    dsimp only at hj hn hn2 hl ⊢
    refine bC_sound _ _ _ _ ?_
    by_cases hjl : j < x.kids.length
    · have d3 : decide ((j : Int) < (x.kids.length : Int)) = true := decide_eq_true (by omega)
      by_cases hneg : n < 0
      · have d4 : decide (n ≥ 0) = false := decide_eq_false (by omega)
        refine run ?_
        rw [he, ← hl, leftL_neg hneg]
        exact ⟨rfl, g1⟩
      · have d4 : decide (n ≥ 0) = true := decide_eq_true (by omega)
        obtain ⟨y, hy⟩ := get_lt hjl
        obtain ⟨p, yl, i1, i2, i3⟩ := ld_node rk hy
        have i4 := i3 H1 g1
        have w2 : IntKind.i64.wrap (high - 1) = high - 1 := by rw [wrap_i64 (by omega) (by omega)]
        have hle := y.left_le n (high - 1) (by omega)
        have hcall := ih y (List.mem_of_getElem? hy) (i2.grow g1) n (high - 1) (by omega) (by omega) (by omega) (by omega)
        rw [← w2] at hcall
        refine run ?_
        refine hcall.mono ?_
        rintro _ X ⟨rfl, e⟩
        subst X
        rw [w2]
        refine run ?_
        refine ⟨(j + 1, y.left n (high - 1)), ⟨rfl, rfl, rfl, congrArg (fun z => some (Value.int .i64 z)) (w_succ (by omega)), trivial⟩, ⟨hjl, hle.1, by show y.left _ _ < _; omega, ?_, rfl⟩, by show _ - (j + 1) < _ - j; omega⟩
        rw [← hl, leftL_get hy (by omega)]
    · have d3 : decide ((j : Int) < (x.kids.length : Int)) = false := decide_eq_false (by omega)
      refine run ?_
      have : x.kids.drop j = [] := List.drop_eq_nil_of_le (by omega)
      rw [this, leftL] at hl
      rw [he, ← hl]
      exact ⟨rfl, g1⟩
end Go.Proofs.Ytmdjepfpgmignaa
/- Package slices: does a list hold one of which something is true? -/
set_option linter.unusedVariables false
set_option linter.unusedSimpArgs false
set_option maxRecDepth 20000
set_option maxHeartbeats 8000000
namespace Go.Proofs.Ytmdjepfpgmignaa
open Go Ax
theorem indexN0 {H : Heap} {u : Value} {L : List Tr} (hu : RLo 7 NodeR H u L) (hL : L.length ≤ maxLen) (g : Nat) (P : Tr → Prop)
    (hg : ∀ x ∈ L, ∀ l, NodeR H l x → AX Try.prog g #[.agg l.toArray] H (fun v H' => (∃ b, v = .bool b ∧ (b = true ↔ ¬ P x)) ∧ H' = H)) :
    AX Try.prog 29 #[u, .func (.func g) #[] #[]] H (fun v H' => (∃ i : Int, v = .int .i64 i ∧ (0 ≤ i ↔ ¬ ∀ x ∈ L, P x)) ∧ H' = H) := by
  simp only [maxLen] at hL
  refine AX.body (n := 19) (rs := [.tmp 4]) Try.func29 rfl (by decide) rfl rfl (bC_sound _ _ _ _ ?_)
  have l1 : alen Try.prog 45 u H = some (.int .i64 L.length) := hu.len rfl _
  refine run ?_
  refine SW.loop (α := Nat) (fun k => [(0, u), (1, .func (.func g) #[] #[]), (7, .int .i64 L.length), (8, .int .i64 (k : Int))]) (fun k H' => k ≤ L.length ∧ (∀ (i : Nat) x, i < k → L[i]? = some x → P x) ∧ H' = H) (fun k => L.length - k) ⟨0, ⟨rfl, rfl, rfl, rfl, trivial⟩, by omega, fun i s h => by omega, rfl⟩ ?_
  rintro k X ⟨hm, ht, e⟩
  subst X
  refine bC_sound _ _ _ _ ?_
  by_cases hml : k < L.length
  · have d1 : decide ((k : Int) < (L.length : Int)) = true := decide_eq_true (by omega)
    obtain ⟨x, hx⟩ := get_lt hml
    obtain ⟨p, xl, i1, i4, i2⟩ := ld_node hu hx
    obtain ⟨-, xn, xk, rfl, -, -⟩ := i4.inv
    have i3 := i2 H (.refl _)
    refine run ?_
    refine (hg x (List.mem_of_getElem? hx) _ i4).mono ?_
    rintro _ X ⟨⟨b, rfl, hb⟩, e⟩
    subst X
    cases b with
    | false =>
      have hp : P x := Classical.byContradiction fun h => by simpa using hb.2 h
      refine run ?_
      refine ⟨k + 1, ⟨rfl, rfl, rfl, congrArg (fun z => some (Value.int .i64 z)) (w_succ (by omega)), trivial⟩, ⟨hml, fun i s hi hs => ?_, rfl⟩, by show L.length - (k + 1) < L.length - k; omega⟩
      by_cases him : i = k
      · subst him; rw [hx] at hs; simp only [Option.some.injEq] at hs; subst hs; exact hp
      · exact ht i s (by omega) hs
    | true =>
      have hp := hb.1 rfl
      refine run ?_
      exact ⟨⟨k, rfl, fun _ h => hp (h x (List.mem_of_getElem? hx)), fun _ => by omega⟩, rfl⟩
  · have d1 : decide ((k : Int) < (L.length : Int)) = false := decide_eq_false (by omega)
    refine run ?_
    refine ⟨⟨-1, rfl, fun h => by omega, fun h => absurd (fun x hx => ?_) h⟩, rfl⟩
    obtain ⟨i, hi, rfl⟩ := List.getElem_of_mem hx
    exact ht i L[i] (by omega) (List.getElem?_eq_getElem hi)
theorem containsN0 {H : Heap} {u : Value} {L : List Tr} (hu : RLo 7 NodeR H u L) (hL : L.length ≤ maxLen) (g : Nat) (P : Tr → Prop)
    (hg : ∀ x ∈ L, ∀ l, NodeR H l x → AX Try.prog g #[.agg l.toArray] H (fun v H' => (∃ b, v = .bool b ∧ (b = true ↔ ¬ P x)) ∧ H' = H)) :
    AX Try.prog 20 #[u, .func (.func g) #[] #[]] H (fun v H' => (∃ b, v = .bool b ∧ (b = true ↔ ¬ ∀ x ∈ L, P x)) ∧ H' = H) := by
  refine AX.body (n := 9) (rs := [.tmp 4]) Try.func20 rfl (by decide) rfl rfl (bC_sound _ _ _ _ ?_)
  refine run ?_
  refine (indexN0 hu hL g P hg).mono ?_
  rintro _ X ⟨⟨i, rfl, hi⟩, e⟩
  subst X
  refine run ?_
  exact ⟨⟨_, rfl, by rw [decide_eq_true_eq]; exact hi⟩, rfl⟩
theorem indexN1 {H : Heap} {u : Value} {L : List Tr} (hu : RLo 7 NodeR H u L) (hL : L.length ≤ maxLen) (g : Nat) (cap : Value) (P : Tr → Prop)
    (hg : ∀ x ∈ L, ∀ l, NodeR H l x → AX Try.prog g #[.agg l.toArray, cap] H (fun v H' => (∃ b, v = .bool b ∧ (b = true ↔ ¬ P x)) ∧ H' = H)) :
    AX Try.prog 29 #[u, .func (.func g) #[] #[cap]] H (fun v H' => (∃ i : Int, v = .int .i64 i ∧ (0 ≤ i ↔ ¬ ∀ x ∈ L, P x)) ∧ H' = H) := by
  simp only [maxLen] at hL
  refine AX.body (n := 19) (rs := [.tmp 4]) Try.func29 rfl (by decide) rfl rfl (bC_sound _ _ _ _ ?_)
  have l1 : alen Try.prog 45 u H = some (.int .i64 L.length) := hu.len rfl _
  refine run ?_
  refine SW.loop (α := Nat) (fun k => [(0, u), (1, .func (.func g) #[] #[cap]), (7, .int .i64 L.length), (8, .int .i64 (k : Int))]) (fun k H' => k ≤ L.length ∧ (∀ (i : Nat) x, i < k → L[i]? = some x → P x) ∧ H' = H) (fun k => L.length - k) ⟨0, ⟨rfl, rfl, rfl, rfl, trivial⟩, by omega, fun i s h => by omega, rfl⟩ ?_
  rintro k X ⟨hm, ht, e⟩
  subst X
  refine bC_sound _ _ _ _ ?_
  by_cases hml : k < L.length
  · have d1 : decide ((k : Int) < (L.length : Int)) = true := decide_eq_true (by omega)
    obtain ⟨x, hx⟩ := get_lt hml
    obtain ⟨p, xl, i1, i4, i2⟩ := ld_node hu hx
    obtain ⟨-, xn, xk, rfl, -, -⟩ := i4.inv
    have i3 := i2 H (.refl _)
    refine run ?_
    refine (hg x (List.mem_of_getElem? hx) _ i4).mono ?_
    rintro _ X ⟨⟨b, rfl, hb⟩, e⟩
    subst X
    cases b with
    | false =>
      have hp : P x := Classical.byContradiction fun h => by simpa using hb.2 h
      refine run ?_
      refine ⟨k + 1, ⟨rfl, rfl, rfl, congrArg (fun z => some (Value.int .i64 z)) (w_succ (by omega)), trivial⟩, ⟨hml, fun i s hi hs => ?_, rfl⟩, by show L.length - (k + 1) < L.length - k; omega⟩
      by_cases him : i = k
      · subst him; rw [hx] at hs; simp only [Option.some.injEq] at hs; subst hs; exact hp
      · exact ht i s (by omega) hs
    | true =>
      have hp := hb.1 rfl
      refine run ?_
      exact ⟨⟨k, rfl, fun _ h => hp (h x (List.mem_of_getElem? hx)), fun _ => by omega⟩, rfl⟩
  · have d1 : decide ((k : Int) < (L.length : Int)) = false := decide_eq_false (by omega)
    refine run ?_
    refine ⟨⟨-1, rfl, fun h => by omega, fun h => absurd (fun x hx => ?_) h⟩, rfl⟩
    obtain ⟨i, hi, rfl⟩ := List.getElem_of_mem hx
    exact ht i L[i] (by omega) (List.getElem?_eq_getElem hi)
theorem containsN1 {H : Heap} {u : Value} {L : List Tr} (hu : RLo 7 NodeR H u L) (hL : L.length ≤ maxLen) (g : Nat) (cap : Value) (P : Tr → Prop)
    (hg : ∀ x ∈ L, ∀ l, NodeR H l x → AX Try.prog g #[.agg l.toArray, cap] H (fun v H' => (∃ b, v = .bool b ∧ (b = true ↔ ¬ P x)) ∧ H' = H)) :
    AX Try.prog 20 #[u, .func (.func g) #[] #[cap]] H (fun v H' => (∃ b, v = .bool b ∧ (b = true ↔ ¬ ∀ x ∈ L, P x)) ∧ H' = H) := by
  refine AX.body (n := 9) (rs := [.tmp 4]) Try.func20 rfl (by decide) rfl rfl (bC_sound _ _ _ _ ?_)
  refine run ?_
  refine (indexN1 hu hL g cap P hg).mono ?_
  rintro _ X ⟨⟨i, rfl, hi⟩, e⟩
  subst X
  refine run ?_
  exact ⟨⟨_, rfl, by rw [decide_eq_true_eq]; exact hi⟩, rfl⟩
theorem indexS1 {H : Heap} {u : Value} {L : List ByteArray} (hu : RL 1 strR H u L) (hL : L.length ≤ maxLen) (g : Nat) (cap : Value) (P : ByteArray → Prop)
    (hg : ∀ x ∈ L, AX Try.prog g #[.string x, cap] H (fun v H' => (∃ b, v = .bool b ∧ (b = true ↔ ¬ P x)) ∧ H' = H)) :
    AX Try.prog 26 #[u, .func (.func g) #[] #[cap]] H (fun v H' => (∃ i : Int, v = .int .i64 i ∧ (0 ≤ i ↔ ¬ ∀ x ∈ L, P x)) ∧ H' = H) := by
  simp only [maxLen] at hL
  refine AX.body (n := 19) (rs := [.tmp 4]) Try.func26 rfl (by decide) rfl rfl (bC_sound _ _ _ _ ?_)
  have l1 : alen Try.prog 27 u H = some (.int .i64 L.length) := hu.len rfl _
  refine run ?_
  refine SW.loop (α := Nat) (fun k => [(0, u), (1, .func (.func g) #[] #[cap]), (7, .int .i64 L.length), (8, .int .i64 (k : Int))]) (fun k H' => k ≤ L.length ∧ (∀ (i : Nat) x, i < k → L[i]? = some x → P x) ∧ H' = H) (fun k => L.length - k) ⟨0, ⟨rfl, rfl, rfl, rfl, trivial⟩, by omega, fun i s h => by omega, rfl⟩ ?_
  rintro k X ⟨hm, ht, e⟩
  subst X
  refine bC_sound _ _ _ _ ?_
  by_cases hml : k < L.length
  · have d1 : decide ((k : Int) < (L.length : Int)) = true := decide_eq_true (by omega)
    obtain ⟨x, hx⟩ := get_lt hml
    obtain ⟨p, i1, i2⟩ := ld_strT hu hx
    have i3 := i2 H (.refl _)
    refine run ?_
    refine (hg x (List.mem_of_getElem? hx)).mono ?_
    rintro _ X ⟨⟨b, rfl, hb⟩, e⟩
    subst X
    cases b with
    | false =>
      have hp : P x := Classical.byContradiction fun h => by simpa using hb.2 h
      refine run ?_
      refine ⟨k + 1, ⟨rfl, rfl, rfl, congrArg (fun z => some (Value.int .i64 z)) (w_succ (by omega)), trivial⟩, ⟨hml, fun i s hi hs => ?_, rfl⟩, by show L.length - (k + 1) < L.length - k; omega⟩
      by_cases him : i = k
      · subst him; rw [hx] at hs; simp only [Option.some.injEq] at hs; subst hs; exact hp
      · exact ht i s (by omega) hs
    | true =>
      have hp := hb.1 rfl
      refine run ?_
      exact ⟨⟨k, rfl, fun _ h => hp (h x (List.mem_of_getElem? hx)), fun _ => by omega⟩, rfl⟩
  · have d1 : decide ((k : Int) < (L.length : Int)) = false := decide_eq_false (by omega)
    refine run ?_
    refine ⟨⟨-1, rfl, fun h => by omega, fun h => absurd (fun x hx => ?_) h⟩, rfl⟩
    obtain ⟨i, hi, rfl⟩ := List.getElem_of_mem hx
    exact ht i L[i] (by omega) (List.getElem?_eq_getElem hi)
theorem containsS1 {H : Heap} {u : Value} {L : List ByteArray} (hu : RL 1 strR H u L) (hL : L.length ≤ maxLen) (g : Nat) (cap : Value) (P : ByteArray → Prop)
    (hg : ∀ x ∈ L, AX Try.prog g #[.string x, cap] H (fun v H' => (∃ b, v = .bool b ∧ (b = true ↔ ¬ P x)) ∧ H' = H)) :
    AX Try.prog 16 #[u, .func (.func g) #[] #[cap]] H (fun v H' => (∃ b, v = .bool b ∧ (b = true ↔ ¬ ∀ x ∈ L, P x)) ∧ H' = H) := by
  refine AX.body (n := 9) (rs := [.tmp 4]) Try.func16 rfl (by decide) rfl rfl (bC_sound _ _ _ _ ?_)
  refine run ?_
  refine (indexS1 hu hL g cap P hg).mono ?_
  rintro _ X ⟨⟨i, rfl, hi⟩, e⟩
  subst X
  refine run ?_
  exact ⟨⟨_, rfl, by rw [decide_eq_true_eq]; exact hi⟩, rfl⟩
end Go.Proofs.Ytmdjepfpgmignaa
