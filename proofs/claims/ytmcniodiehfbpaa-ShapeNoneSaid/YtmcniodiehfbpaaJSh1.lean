/- Package shape in plain data: a forest of shapes, and what asking for one does to it. -/
import Derived.Test.YtmcniodiehfbpaaProg
import Derived.Test.YtmcniodiehfbpaaJAx3
set_option linter.unusedVariables false
set_option linter.unusedSimpArgs false
set_option maxRecDepth 20000
set_option maxHeartbeats 4000000
namespace Go.Proofs.Ytmcniodiehfbpaa
open Go Ax
structure Shp where
  parent : Nat
  name : Int
  proto : Int
  names : List Int
instance : DecidableEq Shp := fun a b =>
  if h : a.parent = b.parent ∧ a.name = b.name ∧ a.proto = b.proto ∧ a.names = b.names then
    isTrue (by obtain ⟨_, _, _, _⟩ := a; obtain ⟨_, _, _, _⟩ := b; obtain ⟨h1, h2, h3, h4⟩ := h; subst h1 h2 h3 h4; rfl)
  else isFalse fun e => h (by subst e; exact ⟨rfl, rfl, rfl, rfl⟩)
abbrev Fo := List Shp
/-- The name by which a shape's parent knows it; a root's prototype. -/
def Shp.key (s : Shp) : Int := if s.parent = 0 then s.proto else s.name
/-- The shapes that come of one (0: the roots), with their numbers; k is the number ahead of the first. -/
def kidsF : Fo → Nat → Nat → List (Int × Nat)
  | [], _, _ => []
  | s :: G, k, i => if s.parent = i then (s.key, k + 1) :: kidsF G (k + 1) i else kidsF G (k + 1) i
theorem kidsF_app (s : Shp) : ∀ (G : Fo) (k i : Nat), kidsF (G ++ [s]) k i = kidsF G k i ++ if s.parent = i then [(s.key, k + G.length + 1)] else []
  | [], k, i => by simp only [List.nil_append, kidsF, List.length_nil, Nat.add_zero]
  | t :: G, k, i => by
    simp only [List.cons_append, kidsF, kidsF_app s G (k + 1) i, List.length_cons]
    rw [show k + 1 + G.length + 1 = k + (G.length + 1) + 1 by omega]
    split <;> simp
theorem mem_kidsF {n : Int} {j : Nat} : ∀ {G : Fo} {k i : Nat}, (n, j) ∈ kidsF G k i ↔ ∃ m s, G[m]? = some s ∧ s.parent = i ∧ s.key = n ∧ j = k + m + 1
  | [], k, i => by simp [kidsF]
  | t :: G, k, i => by
    simp only [kidsF]
    constructor
    · intro h
      split at h
      · rename_i ht
        rcases List.mem_cons.1 h with h | h
        · simp only [Prod.mk.injEq] at h
          exact ⟨0, t, rfl, ht, h.1.symm, by omega⟩
        · obtain ⟨m, s, h1, h2, h3, h4⟩ := mem_kidsF.1 h
          exact ⟨m + 1, s, by simpa using h1, h2, h3, by omega⟩
      · obtain ⟨m, s, h1, h2, h3, h4⟩ := mem_kidsF.1 h
        exact ⟨m + 1, s, by simpa using h1, h2, h3, by omega⟩
    · rintro ⟨m, s, h1, h2, h3, h4⟩
      cases m with
      | zero =>
        simp only [List.getElem?_cons_zero, Option.some.injEq] at h1
        subst h1
        rw [if_pos h2, h3, h4]
        exact List.mem_cons_self ..
      | succ m =>
        have := mem_kidsF.2 ⟨m, s, by simpa using h1, h2, h3, (by omega : j = (k + 1) + m + 1)⟩
        split
        · exact List.mem_cons_of_mem _ this
        · exact this
structure WF (G : Fo) : Prop where
  root : ∀ (k : Nat) (s : Shp), G[k]? = some s → s.parent = 0 → s.names = [] ∧ s.name = 0 ∧ 0 ≤ s.proto
  kid : ∀ (k : Nat) (s : Shp), G[k]? = some s → s.parent ≠ 0 → s.parent ≤ k ∧ ∃ t, G[s.parent - 1]? = some t ∧ t.proto = s.proto ∧ s.names = t.names ++ [s.name] ∧ s.name ∉ t.names
  few : ∀ (k : Nat) (s : Shp), G[k]? = some s → s.names.length ≤ 12
  uniq : ∀ (j k : Nat) (s t : Shp), G[j]? = some s → G[k]? = some t → s.parent = t.parent → s.key = t.key → j = k
  len : G.length ≤ 150
theorem WF.nil : WF [] := ⟨fun k s h => by simp at h, fun k s h => by simp at h, fun k s h => by simp at h, fun j k s t h => by simp at h, by simp⟩
theorem WF.names_nodup {G : Fo} (w : WF G) : ∀ (n k : Nat) (s : Shp), k ≤ n → G[k]? = some s → s.names.Nodup := by
  intro n
  induction n with
  | zero =>
    intro k s hk h
    by_cases hp : s.parent = 0
    · rw [(w.root k s h hp).1]; exact List.nodup_nil
    · have := (w.kid k s h hp).1; omega
  | succ n ih =>
    intro k s hk h
    by_cases hp : s.parent = 0
    · rw [(w.root k s h hp).1]; exact List.nodup_nil
    · obtain ⟨h1, t, h2, h3, h4, h5⟩ := w.kid k s h hp
      rw [h4, List.nodup_append]
      refine ⟨ih _ t (by omega) h2, by simp, fun a ha b hb => ?_⟩
      simp only [List.mem_singleton] at hb
      subst hb
      rintro rfl
      exact h5 ha
theorem WF.names_uniq {G : Fo} (w : WF G) : ∀ (n j k : Nat) (s t : Shp), s.names.length ≤ n → G[j]? = some s → G[k]? = some t → s.proto = t.proto → s.names = t.names → j = k := by
  intro n
  induction n with
  | zero =>
    intro j k s t hn hs ht hp he
    have e1 : s.names = [] := List.length_eq_zero_iff.1 (by omega)
    have p0 : ∀ i (u : Shp), G[i]? = some u → u.names = [] → u.parent = 0 := fun i u hu e => Decidable.byContradiction fun hne => by
      obtain ⟨_, v, _, _, h4, _⟩ := w.kid i u hu hne
      rw [h4] at e; simp at e
    have ps := p0 j s hs e1
    have pt := p0 k t ht (he ▸ e1)
    exact w.uniq j k s t hs ht (ps.trans pt.symm) (by unfold Shp.key; rw [if_pos ps, if_pos pt]; exact hp)
  | succ n ih =>
    intro j k s t hn hs ht hp he
    by_cases ps : s.parent = 0
    · have e1 := (w.root j s hs ps).1
      exact ih j k s t (by rw [e1]; simp) hs ht hp he
    · obtain ⟨h1, u, h2, h3, h4, h5⟩ := w.kid j s hs ps
      have pt : t.parent ≠ 0 := fun pt => by
        have := (w.root k t ht pt).1
        rw [← he, h4] at this; simp at this
      obtain ⟨k1, v, k2, k3, k4, k5⟩ := w.kid k t ht pt
      rw [h4, k4] at he
      have hne := List.append_inj_left' he rfl
      have hla := List.append_inj_right' he rfl
      simp only [List.cons.injEq, and_true] at hla
      have := ih _ _ u v (by rw [h4] at hn; simp at hn; omega) h2 k2 (by rw [h3, k3, hp]) hne
      refine w.uniq j k s t hs ht (by omega) ?_
      unfold Shp.key
      rw [if_neg ps, if_neg pt]
      exact hla
theorem WF.kids_nodup {G : Fo} (w : WF G) : ∀ (i : Nat), ((kidsF G 0 i).map Prod.fst).Nodup := by
  intro i
  have key : ∀ (L : Fo) (k : Nat), (∀ m s, L[m]? = some s → G[k + m]? = some s) → ((kidsF L k i).map Prod.fst).Nodup := by
    intro L
    induction L with
    | nil => intro k _; exact List.nodup_nil
    | cons t L ih =>
      intro k h
      have ih' := ih (k + 1) fun m s hm => by have := h (m + 1) s (by simpa using hm); rwa [show k + (m + 1) = k + 1 + m by omega] at this
      simp only [kidsF]
      split
      · rename_i ht
        rw [List.map_cons, List.nodup_cons]
        refine ⟨fun hmem => ?_, ih'⟩
        obtain ⟨⟨n, j⟩, hm, hn⟩ := List.mem_map.1 hmem
        simp only at hn
        obtain ⟨m, s, h1, h2, h3, h4⟩ := mem_kidsF.1 hm
        have a1 := h 0 t rfl
        have a2 := h (m + 1) s (by simpa using h1)
        have := w.uniq _ _ t s a1 a2 (by rw [ht, h2]) (by rw [h3, hn])
        omega
      · exact ih'
  exact key G 0 fun m s hm => by simpa using hm
/-- The shape with a number. -/
def atF (G : Fo) (id : Int) : Option Shp := if 1 ≤ id then G[id.toNat - 1]? else none
theorem atF_lt {G : Fo} {id : Int} {s : Shp} (h : atF G id = some s) : 1 ≤ id ∧ id ≤ G.length ∧ G[id.toNat - 1]? = some s := by
  unfold atF at h
  split at h
  · have := (List.getElem?_eq_some_iff.1 h).1
    exact ⟨by assumption, by omega, h⟩
  · simp at h
theorem atF_none {G : Fo} {id : Int} (h : ¬ (1 ≤ id ∧ id ≤ G.length)) : atF G id = none := by
  unfold atF
  split
  · rw [List.getElem?_eq_none (by omega)]
  · rfl
theorem atF_some {G : Fo} {id : Int} (h : 1 ≤ id ∧ id ≤ G.length) : ∃ s, atF G id = some s := by
  unfold atF
  rw [if_pos h.1]
  exact ⟨_, List.getElem?_eq_getElem (by omega)⟩
/-- What a list of names and numbers tells of a name. -/
def lookK (l : List (Int × Nat)) (n : Int) : Option Nat := (l.find? fun x => decide (x.1 = n)).map Prod.snd
theorem lookK_some {l : List (Int × Nat)} {n : Int} {j : Nat} (h : lookK l n = some j) : (n, j) ∈ l := by
  unfold lookK at h
  rw [Option.map_eq_some_iff] at h
  obtain ⟨⟨m, i⟩, h1, h2⟩ := h
  have := List.find?_some h1
  simp only [decide_eq_true_eq] at this
  subst this
  simp only at h2
  subst h2
  exact List.mem_of_find?_eq_some h1
theorem lookK_none {l : List (Int × Nat)} {n : Int} (h : lookK l n = none) (j : Nat) : (n, j) ∉ l := by
  unfold lookK at h
  rw [Option.map_eq_none_iff, List.find?_eq_none] at h
  intro hm
  have := h _ hm
  simp at this
theorem lookK_iff {G : Fo} (w : WF G) {i : Nat} {n : Int} {j : Nat} : lookK (kidsF G 0 i) n = some j ↔ ∃ s, 1 ≤ j ∧ G[j - 1]? = some s ∧ s.parent = i ∧ s.key = n := by
  constructor
  · intro h
    obtain ⟨m, s, h1, h2, h3, h4⟩ := mem_kidsF.1 (lookK_some h)
    exact ⟨s, by omega, by rw [h4]; simpa using h1, h2, h3⟩
  · rintro ⟨s, h0, h1, h2, h3⟩
    cases hl : lookK (kidsF G 0 i) n with
    | none => exact absurd (mem_kidsF.2 ⟨j - 1, s, h1, h2, h3, by omega⟩) (lookK_none hl j)
    | some j' =>
      obtain ⟨m, s', k1, k2, k3, k4⟩ := mem_kidsF.1 (lookK_some hl)
      have := w.uniq _ _ s s' h1 k1 (by rw [h2, k2]) (by rw [h3, k3])
      congr 1
      omega
/-- What becomes of a forest when a prototype's root is asked for. -/
def rootF (G : Fo) (most : Nat) (proto : Int) : Int × Fo :=
  if proto < 0 then (0, G) else match lookK (kidsF G 0 0) proto with
    | some j => ((j : Int), G)
    | none => if most ≤ G.length then (0, G) else (((G.length + 1 : Nat) : Int), G ++ [⟨0, 0, proto, []⟩])
/-- And when one name more is asked for. -/
def addF (G : Fo) (most : Nat) (id name : Int) : Int × Fo :=
  match atF G id with
  | none => (0, G)
  | some s => if 12 ≤ s.names.length ∨ name ∈ s.names then (0, G) else match lookK (kidsF G 0 id.toNat) name with
    | some j => ((j : Int), G)
    | none => if most ≤ G.length then (0, G) else (((G.length + 1 : Nat) : Int), G ++ [⟨id.toNat, name, s.proto, s.names ++ [name]⟩])
def addsF (G : Fo) (most : Nat) : Int → List Int → Int × Fo
  | to, [] => (to, G)
  | to, n :: L => let r := addF G most to n; addsF r.2 most r.1 L
def namesF (G : Fo) (id : Int) : List Int := match atF G id with | some s => s.names | none => []
def moveF (G : Fo) (most : Nat) (id proto : Int) : Int × Fo :=
  match atF G id with
  | none => (0, G)
  | some s => let r := rootF G most proto; addsF r.2 most r.1 s.names
end Go.Proofs.Ytmcniodiehfbpaa
/- Package shape in plain data: what asking for shapes does. -/
set_option linter.unusedVariables false
set_option linter.unusedSimpArgs false
set_option maxRecDepth 20000
set_option maxHeartbeats 4000000
namespace Go.Proofs.Ytmcniodiehfbpaa
open Go Ax
theorem get_app {G T : Fo} {k : Nat} {s : Shp} (h : G[k]? = some s) : (G ++ T)[k]? = some s := by
  rw [List.getElem?_append_left (lt_of_get h)]; exact h
theorem get_app1 {G : Fo} {x s : Shp} {k : Nat} (h : (G ++ [x])[k]? = some s) : G[k]? = some s ∨ k = G.length ∧ s = x := by
  by_cases hk : k < G.length
  · rw [List.getElem?_append_left hk] at h; exact .inl h
  · rw [List.getElem?_append_right (by omega)] at h
    have h0 : k - G.length = 0 := by have := lt_of_get h; simp at this; omega
    rw [h0] at h
    simp only [List.getElem?_cons_zero, Option.some.injEq] at h
    exact .inr ⟨by omega, h.symm⟩
theorem WF.app {G : Fo} (w : WF G) (x : Shp) (hl : G.length < 150)
    (h0 : x.parent = 0 → x.names = [] ∧ x.name = 0 ∧ 0 ≤ x.proto)
    (h1 : x.parent ≠ 0 → x.parent ≤ G.length ∧ ∃ t, G[x.parent - 1]? = some t ∧ t.proto = x.proto ∧ x.names = t.names ++ [x.name] ∧ x.name ∉ t.names) (h2 : x.names.length ≤ 12)
    (h3 : ∀ (k : Nat) (s : Shp), G[k]? = some s → s.parent = x.parent → s.key ≠ x.key) : WF (G ++ [x]) := by
  refine ⟨fun k s hs hp => ?_, fun k s hs hp => ?_, fun k s hs => ?_, fun j k s t hs ht hp he => ?_, by simp; omega⟩
  · rcases get_app1 hs with h | ⟨rfl, rfl⟩
    · exact w.root k s h hp
    · exact h0 hp
  · rcases get_app1 hs with h | ⟨rfl, rfl⟩
    · obtain ⟨a, t, b, c⟩ := w.kid k s h hp
      exact ⟨a, t, get_app b, c⟩
    · obtain ⟨a, t, b, c⟩ := h1 hp
      exact ⟨a, t, get_app b, c⟩
  · rcases get_app1 hs with h | ⟨rfl, rfl⟩
    · exact w.few k s h
    · exact h2
  · rcases get_app1 hs with h | ⟨rfl, rfl⟩
    · rcases get_app1 ht with h' | ⟨rfl, rfl⟩
      · exact w.uniq j k s t h h' hp he
      · exact absurd he (h3 j s h hp)
    · rcases get_app1 ht with h' | ⟨rfl, _⟩
      · exact absurd he.symm (h3 k t h' hp.symm)
      · rfl
structure Room (G : Fo) (most : Nat) : Prop where
  wf : WF G
  few : G.length ≤ most
  most : most ≤ 150
/-- A forest that has grown. -/
def Pre (G G' : Fo) : Prop := ∃ T, G' = G ++ T
theorem Pre.refl (G : Fo) : Pre G G := ⟨[], by simp⟩
theorem Pre.trans {A B C : Fo} (h : Pre A B) (k : Pre B C) : Pre A C := by
  obtain ⟨T, rfl⟩ := h
  obtain ⟨U, rfl⟩ := k
  exact ⟨T ++ U, by simp⟩
theorem Pre.get {G G' : Fo} (h : Pre G G') {k : Nat} {s : Shp} (hk : G[k]? = some s) : G'[k]? = some s := by
  obtain ⟨T, rfl⟩ := h
  exact get_app hk
theorem Pre.at {G G' : Fo} (h : Pre G G') {id : Int} {s : Shp} (hk : atF G id = some s) : atF G' id = some s := by
  obtain ⟨h1, h2, h3⟩ := atF_lt hk
  unfold atF
  rw [if_pos h1]
  exact h.get h3
theorem Pre.len {G G' : Fo} (h : Pre G G') : G.length ≤ G'.length := by
  obtain ⟨T, rfl⟩ := h
  simp
theorem atF_get {G : Fo} {k : Nat} {s : Shp} (h : G[k]? = some s) : atF G ((k : Int) + 1) = some s := by
  unfold atF
  rw [if_pos (by omega), show ((k : Int) + 1).toNat - 1 = k by omega]
  exact h
theorem atF_nat {G : Fo} {j : Nat} {s : Shp} (hj : 1 ≤ j) (h : G[j - 1]? = some s) : atF G (j : Int) = some s := by
  have := atF_get h
  rwa [show ((j - 1 : Nat) : Int) + 1 = (j : Int) by omega] at this
theorem rootF_ok {G : Fo} {most : Nat} (r : Room G most) (proto : Int) :
    Room (rootF G most proto).2 most ∧ Pre G (rootF G most proto).2 ∧ (∀ x, (rootF G most proto).1 = x → x ≠ 0 → ∃ s, atF (rootF G most proto).2 x = some s ∧ s.proto = proto ∧ s.names = [] ∧ s.parent = 0 ∧ 0 ≤ proto) ∧ ((rootF G most proto).1 = 0 → proto < 0 ∨ most ≤ (rootF G most proto).2.length) := by
  unfold rootF
  by_cases h0 : proto < 0
  · rw [if_pos h0]; exact ⟨r, .refl _, fun x h hx => absurd h.symm hx, fun _ => .inl h0⟩
  rw [if_neg h0]
  cases hl : lookK (kidsF G 0 0) proto with
  | some j =>
    obtain ⟨s, h1, h2, h3, h4⟩ := (lookK_iff r.wf).1 hl
    refine ⟨r, .refl _, fun x h hx => ?_, fun h => by simp only at h; omega⟩
    simp only at h
    subst h
    have hk : s.proto = proto := by unfold Shp.key at h4; rwa [if_pos h3] at h4
    exact ⟨s, atF_nat h1 h2, hk, (r.wf.root _ s h2 h3).1, h3, by omega⟩
  | none =>
    simp only
    by_cases hm : most ≤ G.length
    · rw [if_pos hm]; exact ⟨r, .refl _, fun x h hx => absurd h.symm hx, fun _ => .inr hm⟩
    · rw [if_neg hm]
      have wf' := r.wf.app ⟨0, 0, proto, []⟩ (by have := r.most; omega) (fun _ => ⟨rfl, rfl, by show 0 ≤ proto; omega⟩) (fun h => absurd rfl h) (by simp) (fun k s hs hp he => by
        have : (proto, k + 1) ∈ kidsF G 0 0 := mem_kidsF.2 ⟨k, s, hs, hp, by rw [he]; rfl, by omega⟩
        exact lookK_none hl _ this)
      refine ⟨⟨wf', by simp; omega, r.most⟩, ⟨_, rfl⟩, fun x h hx => ?_, fun h => by simp only at h; omega⟩
      simp only at h
      subst h
      exact ⟨⟨0, 0, proto, []⟩, atF_nat (by omega) (by simp), rfl, rfl, rfl, by omega⟩
theorem addF_ok {G : Fo} {most : Nat} (r : Room G most) (id name : Int) :
    Room (addF G most id name).2 most ∧ Pre G (addF G most id name).2 ∧
      (∀ s, atF G id = some s → s.names.length < 12 → name ∉ s.names → (∀ x, (addF G most id name).1 = x → x ≠ 0 → ∃ t, atF (addF G most id name).2 x = some t ∧ t.proto = s.proto ∧ t.names = s.names ++ [name]) ∧ ((addF G most id name).1 = 0 → most ≤ (addF G most id name).2.length)) := by
  unfold addF
  cases ha : atF G id with
  | none => exact ⟨r, .refl _, fun s h => by simp at h⟩
  | some s =>
    simp only
    by_cases h12 : 12 ≤ s.names.length ∨ name ∈ s.names
    · rw [if_pos h12]
      refine ⟨r, .refl _, fun t h h1 h2 => ?_⟩
      simp only [Option.some.injEq] at h
      subst h
      rcases h12 with h | h
      · omega
      · exact absurd h h2
    rw [if_neg h12]
    obtain ⟨a1, a2, a3⟩ := atF_lt ha
    cases hl : lookK (kidsF G 0 id.toNat) name with
    | some j =>
      obtain ⟨t, h1, h2, h3, h4⟩ := (lookK_iff r.wf).1 hl
      have hp : t.parent ≠ 0 := by omega
      obtain ⟨_, u, k2, k3, k4, _⟩ := r.wf.kid _ t h2 hp
      rw [h3, a3] at k2
      simp only [Option.some.injEq] at k2
      subst k2
      have hn : t.name = name := by unfold Shp.key at h4; rwa [if_neg hp] at h4
      refine ⟨r, .refl _, fun v hv _ _ => ⟨fun x h hx => ?_, fun h => by simp only at h; omega⟩⟩
      simp only [Option.some.injEq] at hv
      subst hv
      simp only at h
      subst h
      exact ⟨t, atF_nat h1 h2, k3.symm, by rw [k4, hn]⟩
    | none =>
      simp only
      by_cases hm : most ≤ G.length
      · rw [if_pos hm]; exact ⟨r, .refl _, fun v _ _ _ => ⟨fun x h hx => absurd h.symm hx, fun _ => hm⟩⟩
      · rw [if_neg hm]
        have wf' := r.wf.app ⟨id.toNat, name, s.proto, s.names ++ [name]⟩ (by have := r.most; omega) (fun h => by simp only at h; omega)
          (fun h => ⟨by show id.toNat ≤ _; omega, s, a3, rfl, rfl, fun h => h12 (.inr h)⟩) (by simp; omega) (fun k t ht hp he => by
            have hp : t.parent = id.toNat := hp
            have : (name, k + 1) ∈ kidsF G 0 id.toNat := mem_kidsF.2 ⟨k, t, ht, hp, by rw [he]; unfold Shp.key; rw [if_neg (by show id.toNat ≠ 0; omega)], by omega⟩
            exact lookK_none hl _ this)
        refine ⟨⟨wf', by simp; omega, r.most⟩, ⟨_, rfl⟩, fun v hv _ _ => ⟨fun x h hx => ?_, fun h => by simp only at h; omega⟩⟩
        simp only [Option.some.injEq] at hv
        subst hv
        simp only at h
        subst h
        exact ⟨⟨id.toNat, name, s.proto, s.names ++ [name]⟩, atF_nat (by omega) (by simp), rfl, rfl⟩
theorem addF_zero {G : Fo} {most : Nat} {name : Int} : addF G most 0 name = (0, G) := by unfold addF atF; rw [if_neg (by decide)]
theorem addsF_zero {G : Fo} {most : Nat} : ∀ (L : List Int), addsF G most 0 L = (0, G)
  | [] => rfl
  | n :: L => by simp only [addsF, addF_zero]; exact addsF_zero L
theorem addsF_ok {most : Nat} : ∀ (L : List Int) (G : Fo) (to : Int), Room G most →
    Room (addsF G most to L).2 most ∧ Pre G (addsF G most to L).2 ∧
      (∀ s, atF G to = some s → (s.names ++ L).length ≤ 12 → (s.names ++ L).Nodup → (∀ x, (addsF G most to L).1 = x → x ≠ 0 → ∃ t, atF (addsF G most to L).2 x = some t ∧ t.proto = s.proto ∧ t.names = s.names ++ L) ∧ ((addsF G most to L).1 = 0 → most ≤ (addsF G most to L).2.length))
  | [], G, to, r => by
    refine ⟨r, .refl _, fun s hs h1 h2 => ⟨fun x h hx => ?_, fun h => ?_⟩⟩
    · subst h; exact ⟨s, hs, rfl, by simp⟩
    · have h : to = 0 := h
      have := (atF_lt hs).1; omega
  | n :: L, G, to, r => by
    obtain ⟨r1, p1, q1⟩ := addF_ok r to n
    obtain ⟨r2, p2, q2⟩ := addsF_ok L _ (addF G most to n).1 r1
    simp only [addsF]
    refine ⟨r2, p1.trans p2, fun s hs h1 h2 => ?_⟩
    have hlen : s.names.length < 12 := by simp at h1; omega
    have hn : n ∉ s.names := fun hm => by
      rw [List.nodup_append] at h2
      exact h2.2.2 n hm n (by simp) rfl
    obtain ⟨q3, q4⟩ := q1 s hs hlen hn
    by_cases hz : (addF G most to n).1 = 0
    · rw [hz, addsF_zero]
      exact ⟨fun x h hx => absurd h.symm hx, fun _ => q4 hz⟩
    · obtain ⟨t, t1, t2, t3⟩ := q3 _ rfl hz
      have e : s.names ++ n :: L = t.names ++ L := by rw [t3]; simp
      obtain ⟨q5, q6⟩ := q2 t t1 (by rw [← e]; exact h1) (by rw [← e]; exact h2)
      refine ⟨fun x h hx => ?_, q6⟩
      obtain ⟨u, u1, u2, u3⟩ := q5 x h hx
      exact ⟨u, u1, u2.trans t2, by rw [u3, e]⟩
theorem moveF_ok {G : Fo} {most : Nat} (r : Room G most) (id proto : Int) :
    Room (moveF G most id proto).2 most ∧ Pre G (moveF G most id proto).2 ∧
      (∀ s, atF G id = some s → (∀ x, (moveF G most id proto).1 = x → x ≠ 0 → ∃ t, atF (moveF G most id proto).2 x = some t ∧ t.proto = proto ∧ t.names = s.names) ∧ ((moveF G most id proto).1 = 0 → proto < 0 ∨ most ≤ (moveF G most id proto).2.length)) := by
  unfold moveF
  cases ha : atF G id with
  | none => exact ⟨r, .refl _, fun s h => by simp at h⟩
  | some s =>
    simp only
    obtain ⟨r1, p1, q1, q1'⟩ := rootF_ok r proto
    obtain ⟨r2, p2, q2⟩ := addsF_ok s.names _ (rootF G most proto).1 r1
    refine ⟨r2, p1.trans p2, fun v hv => ?_⟩
    simp only [Option.some.injEq] at hv
    subst hv
    obtain ⟨_, _, a3⟩ := atF_lt ha
    by_cases hz : (rootF G most proto).1 = 0
    · rw [hz, addsF_zero]
      exact ⟨fun x h hx => absurd h.symm hx, fun _ => q1' hz⟩
    · obtain ⟨t, t1, t2, t3, _, _⟩ := q1 _ rfl hz
      obtain ⟨q3, q4⟩ := q2 t t1 (by rw [t3]; simpa using r.wf.few _ s a3) (by rw [t3]; simpa using r.wf.names_nodup _ _ s (Nat.le_refl _) a3)
      refine ⟨fun x h hx => ?_, fun h => .inr (q4 h)⟩
      obtain ⟨u, u1, u2, u3⟩ := q3 x h hx
      exact ⟨u, u1, u2.trans t2, by rw [u3, t3]; simp⟩
/-- The shapes that a shape comes from are there. -/
theorem WF.line {G : Fo} (w : WF G) : ∀ (n k : Nat) (s : Shp), k ≤ n → G[k]? = some s → 0 ≤ s.proto ∧ ∀ m, m ≤ s.names.length → ∃ (j : Nat) (u : Shp), G[j]? = some u ∧ u.proto = s.proto ∧ u.names = s.names.take m := by
  intro n
  induction n with
  | zero =>
    intro k s hk hs
    by_cases hp : s.parent = 0
    · obtain ⟨h1, _, h2⟩ := w.root k s hs hp
      exact ⟨h2, fun m hm => ⟨k, s, hs, rfl, by rw [h1]; simp⟩⟩
    · have := (w.kid k s hs hp).1; omega
  | succ n ih =>
    intro k s hk hs
    by_cases hp : s.parent = 0
    · obtain ⟨h1, _, h2⟩ := w.root k s hs hp
      exact ⟨h2, fun m hm => ⟨k, s, hs, rfl, by rw [h1]; simp⟩⟩
    · obtain ⟨h1, t, h2, h3, h4, h5⟩ := w.kid k s hs hp
      obtain ⟨k1, k2⟩ := ih _ t (by omega) h2
      refine ⟨h3 ▸ k1, fun m hm => ?_⟩
      by_cases hm' : m ≤ t.names.length
      · obtain ⟨j, u, u1, u2, u3⟩ := k2 m hm'
        exact ⟨j, u, u1, u2.trans h3, by rw [u3, h4, List.take_append_of_le_length hm']⟩
      · have : m = s.names.length := by rw [h4] at hm ⊢; simp at hm ⊢; omega
        exact ⟨k, s, hs, rfl, by rw [this, List.take_length]⟩
/-- What is there is found again. -/
theorem addsF_there {G : Fo} {most : Nat} (r : Room G most) {s : Shp} {k : Nat} (hs : G[k]? = some s) : ∀ (d m j : Nat) (u : Shp), s.names.length = m + d → G[j]? = some u → u.proto = s.proto → u.names = s.names.take m → addsF G most ((j : Int) + 1) (s.names.drop m) = ((k : Int) + 1, G) := by
  intro d
  induction d with
  | zero =>
    intro m j u hm hu hp hn
    rw [List.drop_of_length_le (by omega)]
    rw [List.take_of_length_le (by omega)] at hn
    have := r.wf.names_uniq _ j k u s (Nat.le_refl _) hu hs hp hn
    subst this
    rfl
  | succ d ih =>
    intro m j u hm hu hp hn
    obtain ⟨x, hx⟩ : ∃ x, s.names[m]? = some x := ⟨_, List.getElem?_eq_getElem (by omega)⟩
    have hd : s.names.drop m = x :: s.names.drop (m + 1) := by
      rw [List.drop_eq_getElem_cons (by omega)]
      congr 1
      rw [List.getElem?_eq_getElem (by omega)] at hx
      simpa using hx
    obtain ⟨j2, u2, v1, v2, v3⟩ := (r.wf.line _ k s (Nat.le_refl _) hs).2 (m + 1) (by omega)
    have ht : s.names.take (m + 1) = s.names.take m ++ [x] := by rw [List.take_add_one, hx]; rfl
    have hp2 : u2.parent ≠ 0 := fun h => by
      have := (r.wf.root _ u2 v1 h).1
      rw [v3, ht] at this
      simp at this
    obtain ⟨w1, t, w2, w3, w4, w5⟩ := r.wf.kid _ u2 v1 hp2
    rw [v3, ht] at w4
    have e1 : s.names.take m = t.names := List.append_inj_left' w4 rfl
    have e2 : x = u2.name := by have := List.append_inj_right' w4 rfl; simpa using this
    have hj : u2.parent - 1 = j := r.wf.names_uniq _ _ j t u (Nat.le_refl _) w2 hu (by rw [w3, v2, hp]) (by rw [hn, e1])
    have hnd := r.wf.names_nodup _ k s (Nat.le_refl _) hs
    have hxn : x ∉ u.names := by
      have h2 : (s.names.take (m + 1)).Nodup := hnd.sublist (List.take_sublist _ _)
      rw [ht, List.nodup_append] at h2
      rw [hn]
      exact fun hm' => h2.2.2 x hm' x (by simp) rfl
    have hfew := r.wf.few k s hs
    have hadd : addF G most ((j : Int) + 1) x = ((j2 : Int) + 1, G) := by
      unfold addF
      rw [atF_get hu]
      simp only
      have hul : u.names.length = m := by rw [hn, List.length_take]; omega
      rw [if_neg (by rintro (h | h); omega; exact hxn h)]
      have : lookK (kidsF G 0 ((j : Int) + 1).toNat) x = some (j2 + 1) := (lookK_iff r.wf).2 ⟨u2, by omega, by simpa using v1, by omega, by unfold Shp.key; rw [if_neg hp2]; exact e2.symm⟩
      rw [this]
      simp only
      congr 1
    rw [hd]
    simp only [addsF, hadd]
    exact ih (m + 1) j2 u2 (by omega) v1 v2 v3
theorem move_back {G : Fo} {most : Nat} (r : Room G most) {id to : Int} {s t : Shp} (hs : atF G id = some s) (ht : atF G to = some t) (hn : t.names = s.names) : moveF G most to s.proto = (id, G) := by
  obtain ⟨a1, a2, a3⟩ := atF_lt hs
  unfold moveF
  rw [ht]
  simp only
  obtain ⟨hp, hl⟩ := r.wf.line _ _ s (Nat.le_refl _) a3
  obtain ⟨j, u, u1, u2, u3⟩ := hl 0 (by omega)
  rw [List.take_zero] at u3
  have up : u.parent = 0 := Decidable.byContradiction fun h => by
    obtain ⟨_, v, _, _, h4, _⟩ := r.wf.kid _ u u1 h
    rw [h4] at u3; simp at u3
  have hr : rootF G most s.proto = ((j : Int) + 1, G) := by
    unfold rootF
    rw [if_neg (by omega)]
    have : lookK (kidsF G 0 0) s.proto = some (j + 1) := (lookK_iff r.wf).2 ⟨u, by omega, by simpa using u1, up, by unfold Shp.key; rw [if_pos up]; exact u2⟩
    rw [this]
    simp only
    congr 1
  rw [hr, hn]
  simp only
  have := addsF_there r a3 s.names.length 0 j u (by omega) u1 u2 (by rw [u3]; rfl)
  rw [List.drop_zero] at this
  rw [this]
  congr 1
  omega
end Go.Proofs.Ytmcniodiehfbpaa
/- Package shape: how a forest lies in abstract memory; maps of numbers; a shape found. -/
set_option linter.unusedVariables false
set_option linter.unusedSimpArgs false
set_option maxRecDepth 20000
set_option maxHeartbeats 4000000
namespace Go.Proofs.Ytmcniodiehfbpaa
open Go Ax
theorem slots_get {c l : List Value} {o n j : Nat} {v : Value} (h : slotsOf c o n = some l) (hv : l[j]? = some v) : c[o + j]? = some v := by
  unfold slotsOf at h
  split at h
  · simp only [Option.some.injEq] at h
    subst h
    rw [List.getElem?_take] at hv
    split at hv
    · rwa [List.getElem?_drop] at hv
    · simp at hv
  · simp at h
/-! Maps of numbers. -/
abbrev ents (em : List (Int × Nat)) : List (Value × Value) := em.map fun x => (.int .i64 x.1, .int .i64 (x.2 : Int))
theorem eqKey_int (a b : Int) : eqKey Try.prog 3 (.int .i64 a) (.int .i64 b) = some (decide (a = b)) := by
  simp only [eqKey, show Try.prog.underlying 3 = some (.int .i64) from rfl]
  congr 1
theorem mfind_i {n : Int} : ∀ (em : List (Int × Nat)) (i : Nat), (lookK em n = none ∧ mfind Try.prog 3 (.int .i64 n) (ents em) i = some none) ∨
    ∃ j k, em[j]? = some (n, k) ∧ lookK em n = some k ∧ mfind Try.prog 3 (.int .i64 n) (ents em) i = some (some (i + j)) := by
  intro em
  induction em with
  | nil => intro i; exact .inl ⟨rfl, rfl⟩
  | cons x em ih =>
    intro i
    obtain ⟨m, k⟩ := x
    by_cases h : n = m
    · subst h
      refine .inr ⟨0, k, rfl, by simp [lookK], ?_⟩
      simp only [ents, List.map_cons, mfind, eqKey_int, Option.bind_some, decide_true, if_true]
      rfl
    · have e1 : lookK ((m, k) :: em) n = lookK em n := by
        unfold lookK
        rw [List.find?_cons_of_neg (by simp; exact fun e => h e.symm)]
      rcases ih (i + 1) with ⟨h1, h2⟩ | ⟨j, k', h1, h2, h3⟩
      · refine .inl ⟨e1.trans h1, ?_⟩
        simp only [ents, List.map_cons, mfind, eqKey_int, decide_eq_false h, Option.bind_some]
        exact h2
      · refine .inr ⟨j + 1, k', by simpa using h1, e1.trans h2, ?_⟩
        simp only [ents, List.map_cons, mfind, eqKey_int, decide_eq_false h, Option.bind_some]
        rw [show i + (j + 1) = i + 1 + j by omega]
        exact h3
theorem mapOf_i : mapOf Try.prog 41 = some (3, 3) := rfl
theorem hmap_of {H : Heap} {b : Nat} {o : Bool} {es : List (Value × Value)} (h : H[b]? = some (.map o es)) : hmap H b = some es := by simp [hmap, h]
theorem look_i {H : Heap} {mb : Nat} {n : Int} {em : List (Int × Nat)} (hm : H[mb]? = some (.map true (ents em))) :
    (lookK em n = none ∧ alookup Try.prog 41 (.map (some mb)) (.int .i64 n) true H = some (.tuple #[.int .i64 0, .bool false])) ∨
      ∃ k, lookK em n = some k ∧ alookup Try.prog 41 (.map (some mb)) (.int .i64 n) true H = some (.tuple #[.int .i64 (k : Int), .bool true]) := by
  rcases mfind_i (n := n) em 0 with ⟨h1, h2⟩ | ⟨j, k, h1, h2, h3⟩
  · refine .inl ⟨h1, ?_⟩
    simp only [alookup, mapOf_i, Option.bind_some, mentries, hmap_of hm, akey, show plainKey Try.prog 3 (.int .i64 n) = true from rfl, if_true, h2]
    rfl
  · refine .inr ⟨k, h2, ?_⟩
    have h4 : (ents em)[0 + j]? = some (.int .i64 n, .int .i64 (k : Int)) := by simp [h1]
    simp only [alookup, mapOf_i, Option.bind_some, mentries, hmap_of hm, akey, show plainKey Try.prog 3 (.int .i64 n) = true from rfl, if_true, h3, h4]
    rfl
theorem look_0 {H : Heap} {n : Int} : alookup Try.prog 41 (.map none) (.int .i64 n) true H = some (.tuple #[.int .i64 0, .bool false]) := rfl
theorem upd_i {H : Heap} {mb : Nat} {n : Int} {em : List (Int × Nat)} {k : Nat} (hm : H[mb]? = some (.map true (ents em))) (h : lookK em n = none) :
    amapUpdate Try.prog 41 (.map (some mb)) (.int .i64 n) (.int .i64 (k : Int)) H = some (H.set mb (.map true (ents (em ++ [(n, k)])))) := by
  rcases mfind_i (n := n) em 0 with ⟨h1, h2⟩ | ⟨j, k, h1, h2, h3⟩
  · simp only [amapUpdate, mapOf_i, Option.bind_some, hm, akey, show plainKey Try.prog 3 (.int .i64 n) = true from rfl, if_true, h2]
    simp [ents]
  · rw [h] at h2; simp at h2
/-! A forest. -/
abbrev SX := Shp × Option Nat
abbrev oneV (x : SX) : Value := .agg #[.int .i64 (x.1.parent : Int), .int .i64 x.1.name, .int .i64 (x.1.names.length : Int), .int .i64 x.1.proto, .map x.2]
abbrev oneL (x : SX) : List Value := [.int .i64 (x.1.parent : Int), .int .i64 x.1.name, .int .i64 (x.1.names.length : Int), .int .i64 x.1.proto, .map x.2]
def oneR (_ : Heap) (l : List Value) (x : SX) : Prop := l = oneL x
def KidMap (H : Heap) (rb : Nat) (es : List (Int × Nat)) : Option Nat → Prop
  | none => es = []
  | some b => H[b]? = some (.map true (ents es)) ∧ b ≠ rb
structure FoR (H : Heap) (fb : Nat) (G : Fo) (most : Nat) (av : Value) (rb : Nat) (S : List SX) : Prop where
  blk : H[fb]? = some (.cells .var [av, .map (some rb), .int .i64 (most : Int)])
  row : OwnR 5 50 oneR H av S
  fst : S.map Prod.fst = G
  rts : H[rb]? = some (.map true (ents (kidsF G 0 0)))
  maps : ∀ (k : Nat) (s : Shp) (nx : Option Nat), S[k]? = some (s, nx) → KidMap H rb (kidsF G 0 (k + 1)) nx
  inj : ∀ (j k : Nat) (s t : Shp) (b : Nat), S[j]? = some (s, some b) → S[k]? = some (t, some b) → j = k
  room : Room G most
/-- What a forest is made of. -/
def ofFo (fb : Nat) (q : Nat) (X : Blk) : Prop := q = fb ∨ (∃ c, X = .cells (.row 50) c) ∨ ∃ es, X = .map true es
theorem FoR.keep {H H' : Heap} {fb : Nat} {G : Fo} {most : Nat} {av : Value} {rb : Nat} {S : List SX} (h : FoR H fb G most av rb S) (k : ∀ q X, H[q]? = some X → ofFo fb q X → H'[q]? = some X) : FoR H' fb G most av rb S where
  blk := k _ _ h.blk (.inl rfl)
  row := h.row.keep (fun b c _ hb => k b _ hb (.inr (.inl ⟨c, rfl⟩))) fun _ _ _ h => h
  fst := h.fst
  rts := k _ _ h.rts (.inr (.inr ⟨_, rfl⟩))
  maps := fun i s nx hi => by
    have := h.maps i s nx hi
    cases nx with
    | none => exact this
    | some b => exact ⟨k _ _ this.1 (.inr (.inr ⟨_, rfl⟩)), this.2⟩
  inj := h.inj
  room := h.room
theorem FoR.grow {H H' : Heap} {fb : Nat} {G : Fo} {most : Nat} {av : Value} {rb : Nat} {S : List SX} (h : FoR H fb G most av rb S) (g : Grow H H') : FoR H' fb G most av rb S := h.keep fun q X hq _ => g.at hq
/-- What asking a forest leaves as it was. -/
def FrF (fb : Nat) (A B : Heap) : Prop := A.length ≤ B.length ∧ ∀ q X, A[q]? = some X → ¬ ofFo fb q X → B[q]? = some X
theorem FrF.refl (fb : Nat) (A : Heap) : FrF fb A A := ⟨Nat.le_refl _, fun _ _ h _ => h⟩
theorem FrF.trans {fb : Nat} {A B C : Heap} (h : FrF fb A B) (k : FrF fb B C) : FrF fb A C := ⟨Nat.le_trans h.1 k.1, fun q X hq hx => k.2 q X (h.2 q X hq hx) hx⟩
theorem FrF.of {fb : Nat} {A B : Heap} (h : Grow A B) : FrF fb A B := ⟨h.1, fun q X hq _ => h.at hq⟩
theorem FoR.S_get {H : Heap} {fb : Nat} {G : Fo} {most : Nat} {av : Value} {rb : Nat} {S : List SX} (h : FoR H fb G most av rb S) {k : Nat} {s : Shp} (hk : G[k]? = some s) : ∃ nx, S[k]? = some (s, nx) := by
  rw [← h.fst, List.getElem?_map] at hk
  cases hs : S[k]? with
  | none => rw [hs] at hk; simp at hk
  | some x =>
    rw [hs] at hk
    simp only [Option.map_some, Option.some.injEq] at hk
    exact ⟨x.2, by rw [← hk]⟩
theorem FoR.G_get {H : Heap} {fb : Nat} {G : Fo} {most : Nat} {av : Value} {rb : Nat} {S : List SX} (h : FoR H fb G most av rb S) {k : Nat} {s : Shp} {nx : Option Nat} (hk : S[k]? = some (s, nx)) : G[k]? = some s := by
  rw [← h.fst, List.getElem?_map, hk]; rfl
theorem FoR.len {H : Heap} {fb : Nat} {G : Fo} {most : Nat} {av : Value} {rb : Nat} {S : List SX} (h : FoR H fb G most av rb S) : S.length = G.length := by rw [← h.fst, List.length_map]
/-- Where a shape stands. -/
def ShpAt (H : Heap) (av : Value) (S : List SX) (k : Nat) (x : SX) (v : Value) : Prop :=
  ∃ b c, av = .slice (some ⟨b, 0, none⟩) S.length 5 ∧ v = .pointer (some ⟨b, k * 5, none⟩) ∧ H[b]? = some (.cells (.row 50) c) ∧ slotsOf c (k * 5) 5 = some (oneL x) ∧ S[k]? = some x
theorem ShpAt.ld {H : Heap} {av : Value} {S : List SX} {k : Nat} {x : SX} {v : Value} (h : ShpAt H av S k x v) : ∃ b, v = .pointer (some ⟨b, k * 5, none⟩) ∧ aload Try.prog 50 (.pointer (some ⟨b, k * 5, none⟩)) H = some (oneV x) ∧
    aload Try.prog 3 (.pointer (some ⟨b, k * 5, none⟩)) H = some (.int .i64 (x.1.parent : Int)) ∧ aload Try.prog 3 (.pointer (some ⟨b, k * 5 + 1, none⟩)) H = some (.int .i64 x.1.name) ∧ aload Try.prog 3 (.pointer (some ⟨b, k * 5 + 2, none⟩)) H = some (.int .i64 (x.1.names.length : Int)) ∧
    aload Try.prog 3 (.pointer (some ⟨b, k * 5 + 3, none⟩)) H = some (.int .i64 x.1.proto) ∧ aload Try.prog 41 (.pointer (some ⟨b, k * 5 + 4, none⟩)) H = some (.map x.2) := by
  obtain ⟨b, c, _, h1, h2, h3, _⟩ := h
  have hb := hblk_of h2
  exact ⟨b, h1, ald_agg rfl rfl rfl hb h3, ald rfl rfl hb (slots_get (j := 0) h3 rfl), ald rfl rfl hb (slots_get (j := 1) h3 rfl), ald rfl rfl hb (slots_get (j := 2) h3 rfl), ald rfl rfl hb (slots_get (j := 3) h3 rfl), ald rfl rfl hb (slots_get (j := 4) h3 rfl)⟩
/-- What is found. -/
def FindV (H : Heap) (av : Value) (S : List SX) (id : Int) (v : Value) : Prop :=
  (¬ (1 ≤ id ∧ id ≤ S.length) ∧ v = .pointer none) ∨ ((1 ≤ id ∧ id ≤ S.length) ∧ ∃ x, ShpAt H av S (id.toNat - 1) x v)
theorem find0 {H : Heap} {fb : Nat} {av mv nv : Value} {S : List SX} (hb0 : H[fb]? = some (.cells .var [av, mv, nv])) (hrow : OwnR 5 50 oneR H av S) (hS : S.length ≤ 1000) (id : Int) (hi : -9223372036854775808 ≤ id) :
    AX Try.prog 21 #[.pointer (some ⟨fb, 0, none⟩), .int .i64 id] H (fun v H' => FindV H av S id v ∧ H' = H) := by
  have hb := hblk_of hb0
  have hl : alen Try.prog 40 av H = some (.int .i64 S.length) := hrow.rl.len rfl _
  refine AX.body (n := 27) (rs := [.tmp 4]) Try.func21 rfl (by decide) rfl rfl (bC_sound _ _ _ _ ?_)
  have bad : ¬ (1 ≤ id ∧ id ≤ S.length) → FindV H av S id (.pointer none) := fun h => .inl ⟨h, rfl⟩
  by_cases hid : 1 ≤ id ∧ id ≤ S.length
  · have d1 : decide (id < 1) = false := decide_eq_false (by omega)
    have d2 : decide (id > (S.length : Int)) = false := decide_eq_false (by omega)
    have hw : IntKind.i64.wrap (id - 1) = ((id.toNat - 1 : Nat) : Int) := by rw [wrap_i64 (by omega) (by omega)]; omega
    obtain ⟨x, hx⟩ := get_lt (L := S) (m := id.toNat - 1) (by omega)
    rcases hrow with ⟨_, e⟩ | ⟨b, c, e1, e2, e3, e4⟩
    · rw [e] at hx; simp at hx
    · obtain ⟨l, k1, k2⟩ := e4 _ x hx
      have k2 : l = oneL x := k2
      subst k2
      have ix : aindexAddr Try.prog 40 av (.int .i64 (IntKind.i64.wrap (id - 1))) = some (.pointer (some ⟨b, (id.toNat - 1) * 5, none⟩)) := by
        rw [hw, e1, idx_slice (off := 0) (k := 5) rfl rfl (by omega) (by omega)]
        simp
      (try (conv => whnf)); (repeat ((fail_if_success (with_reducible refine And.intro ?_ ?_)); (fail_if_success (with_reducible refine Exists.intro ?_ ?_)); (first | (apply Ob.of; (first | with_reducible assumption | with_reducible exact ex20 _ _ | with_reducible exact ex21 _ _ | with_reducible exact ex30 _ _ _ | with_reducible exact ex31 _ _ _ | with_reducible exact ex32 _ _ _ | rfl | (exact ald rfl rfl (by assumption) rfl) | (exact ald_agg rfl rfl rfl (by assumption) rfl)); (conv => whnf)) | (apply bIf.yes; (first | assumption | rfl); (conv => whnf)) | (apply bIf.no; (first | assumption | rfl); (conv => whnf)) | ((with_reducible refine Ob.load (by with_unfolding_all assumption) ?_); (conv => whnf)) | (apply Grows.mk; (first | exact Grow.refl _ | assumption); (conv => whnf)))))
      exact ⟨.inr ⟨hid, x, b, c, e1, rfl, e2, k1, hx⟩, rfl⟩
  · (try (conv => whnf)); (repeat' ((fail_if_success (with_reducible refine And.intro ?_ ?_)); (fail_if_success (with_reducible refine Exists.intro ?_ ?_)); (first | (first | (apply Ob.of; (first | with_reducible assumption | with_reducible exact ex20 _ _ | with_reducible exact ex21 _ _ | with_reducible exact ex30 _ _ _ | with_reducible exact ex31 _ _ _ | with_reducible exact ex32 _ _ _ | rfl | (exact ald rfl rfl (by assumption) rfl) | (exact ald_agg rfl rfl rfl (by assumption) rfl)); (conv => whnf)) | (apply bIf.yes; (first | assumption | rfl); (conv => whnf)) | (apply bIf.no; (first | assumption | rfl); (conv => whnf)) | ((with_reducible refine Ob.load (by with_unfolding_all assumption) ?_); (conv => whnf)) | (apply Grows.mk; (first | exact Grow.refl _ | assumption); (conv => whnf))) | (apply bIf.of <;> intro hc <;> (conv => whnf)))))
    all_goals first
      | exact ⟨bad hid, rfl⟩
      | (exfalso; clear hb hl bad; ((try (simp only [ba_ne_t, ba_ne_f, ba_eq_t, ba_eq_f, bne_iff_ne, bne_eq_false_iff_eq, decide_eq_true_eq, decide_eq_false_iff_not, beq_iff_eq, beq_eq_false_iff_ne, ne_eq, Bool.not_eq_true, Bool.not_eq_false, Bool.not_eq_true', Bool.not_eq_false'] at *)); (try simp only [Bool.false_eq_true, false_iff, true_iff, Classical.not_not, Bool.not_false, Bool.not_true] at *)); omega)
theorem find_ax {H : Heap} {fb : Nat} {G : Fo} {most : Nat} {av : Value} {rb : Nat} {S : List SX} (h : FoR H fb G most av rb S) (id : Int) (hi : -9223372036854775808 ≤ id) :
    AX Try.prog 21 #[.pointer (some ⟨fb, 0, none⟩), .int .i64 id] H (fun v H' => FindV H av S id v ∧ H' = H) :=
  find0 h.blk h.row (by have := h.len; have := h.room.few; have := h.room.most; omega) id hi
end Go.Proofs.Ytmcniodiehfbpaa
/- Package shape: a shape and those that it comes from, gone through. -/
set_option linter.unusedVariables false
set_option linter.unusedSimpArgs false
set_option maxRecDepth 20000
set_option maxHeartbeats 4000000
namespace Go.Proofs.Ytmcniodiehfbpaa
open Go Ax
theorem up_ax (H : Heap) (p : Option Addr) (id : Int) :
    AX Try.prog 22 #[.pointer p, .int .i64 id] H (fun r H' => ∃ a b, r = .func (.func 25) #[] #[.pointer (some ⟨a, 0, none⟩), .pointer (some ⟨b, 0, none⟩)] ∧ Grow H H' ∧ H'[a]? = some (.cells .var [.pointer p]) ∧ H'[b]? = some (.cells .var [.int .i64 id])) := by
  refine AX.body (n := 6) (rs := [.tmp 4]) Try.func22 rfl (by decide) rfl rfl (bC_sound _ _ _ _ ?_)
  (conv => whnf)
  refine Ob2.box rfl fun q1 H1 hq1 a1 g1 => ?_
  (conv => whnf)
  refine Ob2.box rfl fun q2 H2 hq2 a2 g2 => ?_
  (try (conv => whnf)); (repeat ((fail_if_success (with_reducible refine And.intro ?_ ?_)); (fail_if_success (with_reducible refine Exists.intro ?_ ?_)); (first | (apply Ob.of; (first | with_reducible assumption | with_reducible exact ex20 _ _ | with_reducible exact ex21 _ _ | with_reducible exact ex30 _ _ _ | with_reducible exact ex31 _ _ _ | with_reducible exact ex32 _ _ _ | rfl | (exact ald rfl rfl (by assumption) rfl) | (exact ald_agg rfl rfl rfl (by assumption) rfl)); (conv => whnf)) | (apply bIf.yes; (first | assumption | rfl); (conv => whnf)) | (apply bIf.no; (first | assumption | rfl); (conv => whnf)) | ((with_reducible refine Ob.load (by with_unfolding_all assumption) ?_); (conv => whnf)) | (apply Grows.mk; (first | exact Grow.refl _ | assumption); (conv => whnf)))))
  exact ⟨q1, q2, rfl, g1.trans g2, g2.at a1, a2⟩
theorem names_at {G : Fo} (w : WF G) {k : Nat} {s : Shp} (hs : G[k]? = some s) (hn : s.names ≠ []) : ∃ t, 1 ≤ s.parent ∧ G[s.parent - 1]? = some t ∧ t.proto = s.proto ∧ s.names = t.names ++ [s.name] := by
  have hp : s.parent ≠ 0 := fun h => hn (w.root k s hs h).1
  obtain ⟨_, t, h1, h2, h3, _⟩ := w.kid k s hs hp
  exact ⟨t, by omega, h1, h2, h3⟩
theorem up1_ax {q a b fb most rb : Nat} {G : Fo} {av : Value} {S : List SX} {id : Int} {J : Nat → Heap → Prop} {Jx : Heap → Prop} (hid : -9223372036854775808 ≤ id)
    (hJ : ∀ i X, J i X → FoR X fb G most av rb S ∧ hblk X a = some [.pointer (some ⟨fb, 0, none⟩)] ∧ hblk X b = some [.int .i64 id])
    (hy : ∀ (i : Nat) (X : Heap) (k : Nat) (x : SX), i < (namesF G id).length → J i X → S[k]? = some x → x.1.names.length = (namesF G id).length - i → (namesF G id)[(namesF G id).length - i - 1]? = some x.1.name →
      YX Try.prog q [oneV x] X (fun v Y => (v = .bool true ∧ J (i + 1) Y) ∨ (v = .bool false ∧ Jx Y)))
    {H : Heap} (h0 : J 0 H) : AX Try.prog 25 #[.func (.yield q) #[] #[], .pointer (some ⟨a, 0, none⟩), .pointer (some ⟨b, 0, none⟩)] H (fun _ Y => J (namesF G id).length Y ∨ Jx Y) := by
  obtain ⟨f0, a0, b0⟩ := hJ 0 H h0
  refine AX.body (n := 29) (rs := []) Try.func25 rfl (by decide) rfl rfl (bC_sound _ _ _ _ ?_)
  (try (conv => whnf)); (repeat ((fail_if_success (with_reducible refine And.intro ?_ ?_)); (fail_if_success (with_reducible refine Exists.intro ?_ ?_)); (first | (apply Ob.of; (first | with_reducible assumption | with_reducible exact ex20 _ _ | with_reducible exact ex21 _ _ | with_reducible exact ex30 _ _ _ | with_reducible exact ex31 _ _ _ | with_reducible exact ex32 _ _ _ | rfl | (exact ald rfl rfl (by assumption) rfl) | (exact ald_agg rfl rfl rfl (by assumption) rfl)); (conv => whnf)) | (apply bIf.yes; (first | assumption | rfl); (conv => whnf)) | (apply bIf.no; (first | assumption | rfl); (conv => whnf)) | ((with_reducible refine Ob.load (by with_unfolding_all assumption) ?_); (conv => whnf)) | (apply Grows.mk; (first | exact Grow.refl _ | assumption); (conv => whnf)))))
  refine (find_ax f0 id hid).mono ?_
  rintro v X ⟨hv, e⟩
  subst X
  generalize hNN : namesF G id = NN at hy ⊢
  (try (conv => whnf)); (repeat ((fail_if_success (with_reducible refine And.intro ?_ ?_)); (fail_if_success (with_reducible refine Exists.intro ?_ ?_)); (first | (apply Ob.of; (first | with_reducible assumption | with_reducible exact ex20 _ _ | with_reducible exact ex21 _ _ | with_reducible exact ex30 _ _ _ | with_reducible exact ex31 _ _ _ | with_reducible exact ex32 _ _ _ | rfl | (exact ald rfl rfl (by assumption) rfl) | (exact ald_agg rfl rfl rfl (by assumption) rfl)); (conv => whnf)) | (apply bIf.yes; (first | assumption | rfl); (conv => whnf)) | (apply bIf.no; (first | assumption | rfl); (conv => whnf)) | ((with_reducible refine Ob.load (by with_unfolding_all assumption) ?_); (conv => whnf)) | (apply Grows.mk; (first | exact Grow.refl _ | assumption); (conv => whnf)))))
  refine SW.loop (α := Nat × Value) (fun y => [(0, .func (.yield q) #[] #[]), (1, .pointer (some ⟨a, 0, none⟩)), (4, y.2)])
    (fun y X => J y.1 X ∧ y.1 ≤ NN.length ∧ ((y.1 = NN.length ∧ y.2 = .pointer none) ∨ ∃ k x, ShpAt X av S k x y.2 ∧ x.1.names = NN.take (NN.length - y.1))) (fun y => NN.length - y.1)
    ⟨(0, v), ⟨rfl, rfl, rfl, trivial⟩, h0, by show 0 ≤ _; omega, ?_⟩ ?_
  · rcases hv with ⟨h1, rfl⟩ | ⟨h1, x, hx⟩
    · refine .inl ⟨?_, rfl⟩
      rw [← hNN]
      unfold namesF
      rw [atF_none (by have := f0.len; omega)]
      rfl
    · refine .inr ⟨_, x, hx, ?_⟩
      obtain ⟨_, _, _, _, _, _, hS⟩ := hx
      have hG := f0.G_get (s := x.1) (nx := x.2) hS
      have : namesF G id = x.1.names := by
        unfold namesF
        have := atF_get hG
        rw [show ((id.toNat - 1 : Nat) : Int) + 1 = id by omega] at this
        rw [this]
      show x.1.names = NN.take (NN.length - 0)
      rw [← hNN, this]
      simp
  rintro ⟨i, v⟩ X ⟨hi, hil, hc⟩
  dsimp only at hi hil hc ⊢
  obtain ⟨f1, a1, b1⟩ := hJ i X hi
  refine bC_sound _ _ _ _ ?_
  rcases hc with ⟨rfl, rfl⟩ | ⟨k, x, hx, hn⟩
  · (try (conv => whnf)); (repeat ((fail_if_success (with_reducible refine And.intro ?_ ?_)); (fail_if_success (with_reducible refine Exists.intro ?_ ?_)); (first | (apply Ob.of; (first | with_reducible assumption | with_reducible exact ex20 _ _ | with_reducible exact ex21 _ _ | with_reducible exact ex30 _ _ _ | with_reducible exact ex31 _ _ _ | with_reducible exact ex32 _ _ _ | rfl | (exact ald rfl rfl (by assumption) rfl) | (exact ald_agg rfl rfl rfl (by assumption) rfl)); (conv => whnf)) | (apply bIf.yes; (first | assumption | rfl); (conv => whnf)) | (apply bIf.no; (first | assumption | rfl); (conv => whnf)) | ((with_reducible refine Ob.load (by with_unfolding_all assumption) ?_); (conv => whnf)) | (apply Grows.mk; (first | exact Grow.refl _ | assumption); (conv => whnf)))))
    exact .inl hi
  · obtain ⟨pb, rfl, i1, i2, i3, i4, i5, i6⟩ := hx.ld
    have hS : S[k]? = some x := by obtain ⟨_, _, _, _, _, _, h⟩ := hx; exact h
    have hG := f1.G_get (s := x.1) (nx := x.2) hS
    have hlen : x.1.names.length = NN.length - i := by rw [hn, List.length_take]; omega
    by_cases hz : i = NN.length
    · have d1 : decide ((x.1.names.length : Int) > 0) = false := decide_eq_false (by omega)
      (try (conv => whnf)); (repeat ((fail_if_success (with_reducible refine And.intro ?_ ?_)); (fail_if_success (with_reducible refine Exists.intro ?_ ?_)); (first | (apply Ob.of; (first | with_reducible assumption | with_reducible exact ex20 _ _ | with_reducible exact ex21 _ _ | with_reducible exact ex30 _ _ _ | with_reducible exact ex31 _ _ _ | with_reducible exact ex32 _ _ _ | rfl | (exact ald rfl rfl (by assumption) rfl) | (exact ald_agg rfl rfl rfl (by assumption) rfl)); (conv => whnf)) | (apply bIf.yes; (first | assumption | rfl); (conv => whnf)) | (apply bIf.no; (first | assumption | rfl); (conv => whnf)) | ((with_reducible refine Ob.load (by with_unfolding_all assumption) ?_); (conv => whnf)) | (apply Grows.mk; (first | exact Grow.refl _ | assumption); (conv => whnf)))))
      rw [hz] at hi
      exact .inl hi
    · have d1 : decide ((x.1.names.length : Int) > 0) = true := decide_eq_true (by omega)
      obtain ⟨t, p1, p2, p3, p4⟩ := names_at f1.room.wf hG (by intro e; rw [e] at hlen; simp at hlen; omega)
      have hnm : NN[NN.length - i - 1]? = some x.1.name := by
        have : (NN.take (NN.length - i))[NN.length - i - 1]? = some x.1.name := by
          rw [← hn, p4, List.getElem?_append_right (by rw [p4] at hlen; simp at hlen; omega)]
          have : NN.length - i - 1 - t.names.length = 0 := by rw [p4] at hlen; simp at hlen; omega
          rw [this]; rfl
        rwa [List.getElem?_take, if_pos (by omega)] at this
      (try (conv => whnf)); (repeat ((fail_if_success (with_reducible refine And.intro ?_ ?_)); (fail_if_success (with_reducible refine Exists.intro ?_ ?_)); (first | (apply Ob.of; (first | with_reducible assumption | with_reducible exact ex20 _ _ | with_reducible exact ex21 _ _ | with_reducible exact ex30 _ _ _ | with_reducible exact ex31 _ _ _ | with_reducible exact ex32 _ _ _ | rfl | (exact ald rfl rfl (by assumption) rfl) | (exact ald_agg rfl rfl rfl (by assumption) rfl)); (conv => whnf)) | (apply bIf.yes; (first | assumption | rfl); (conv => whnf)) | (apply bIf.no; (first | assumption | rfl); (conv => whnf)) | ((with_reducible refine Ob.load (by with_unfolding_all assumption) ?_); (conv => whnf)) | (apply Grows.mk; (first | exact Grow.refl _ | assumption); (conv => whnf)))))
      refine (hy i X k x (by omega) hi hS hlen hnm).mono ?_
      rintro r Y (⟨rfl, hY⟩ | ⟨rfl, hY⟩)
      · obtain ⟨f2, a2, b2⟩ := hJ (i + 1) Y hY
        -- where the shape stands
        have hx2 : ShpAt Y av S k x (.pointer (some ⟨pb, k * 5, none⟩)) := by
          obtain ⟨b', c', e1, e2, e3, e4, e5⟩ := hx
          rcases f2.row with ⟨r1, r2⟩ | ⟨b2', c2', r1, r2, r3, r4⟩
          · rw [r1] at e1; simp at e1
          · obtain ⟨l, l1, l2⟩ := r4 k x hS
            have l2 : l = oneL x := l2
            subst l2
            refine ⟨b2', c2', r1, ?_, r2, l1, hS⟩
            rw [e2]
            rw [e1] at r1
            simp only [Value.slice.injEq, Option.some.injEq, Addr.mk.injEq] at r1
            rw [r1.1.1]
        obtain ⟨pb', e, j1, j2, j3, j4, j5, j6⟩ := hx2.ld
        simp only [Value.pointer.injEq, Option.some.injEq, Addr.mk.injEq] at e
        obtain ⟨rfl, _⟩ := e
        (try (conv => whnf)); (repeat ((fail_if_success (with_reducible refine And.intro ?_ ?_)); (fail_if_success (with_reducible refine Exists.intro ?_ ?_)); (first | (apply Ob.of; (first | with_reducible assumption | with_reducible exact ex20 _ _ | with_reducible exact ex21 _ _ | with_reducible exact ex30 _ _ _ | with_reducible exact ex31 _ _ _ | with_reducible exact ex32 _ _ _ | rfl | (exact ald rfl rfl (by assumption) rfl) | (exact ald_agg rfl rfl rfl (by assumption) rfl)); (conv => whnf)) | (apply bIf.yes; (first | assumption | rfl); (conv => whnf)) | (apply bIf.no; (first | assumption | rfl); (conv => whnf)) | ((with_reducible refine Ob.load (by with_unfolding_all assumption) ?_); (conv => whnf)) | (apply Grows.mk; (first | exact Grow.refl _ | assumption); (conv => whnf)))))
        apply SW.drawG [(0, [], [18, 19, 20, 21], false), (1, [], [17], false), (2, [(18, 1)], [17, 18], false), (3, [(18, 1), (19, 2)], [17, 18, 19], false), (4, [(18, 1), (19, 2), (20, 3)], [17, 18, 19, 20], false), (5, [(17, 0), (18, 1), (19, 2), (20, 3), (21, 4)], [17, 18, 19, 20, 21], true), (6, [(17, 0), (18, 1), (19, 2), (20, 3), (21, 4), (22, 5)], [17, 18, 19, 20, 21, 22], false)]
          [(17, 0), (18, 1), (19, 2), (20, 3), (21, 4), (22, 5), (4, 6)]
          [(0, _), (1, _), (4, _)] rfl (by kernel_rfl)
        case hF => exact ⟨rfl, rfl, rfl, trivial⟩
        (try (conv => whnf)); (repeat ((fail_if_success (with_reducible refine And.intro ?_ ?_)); (fail_if_success (with_reducible refine Exists.intro ?_ ?_)); (first | (apply Ob.of; (first | with_reducible assumption | with_reducible exact ex20 _ _ | with_reducible exact ex21 _ _ | with_reducible exact ex30 _ _ _ | with_reducible exact ex31 _ _ _ | with_reducible exact ex32 _ _ _ | rfl | (exact ald rfl rfl (by assumption) rfl) | (exact ald_agg rfl rfl rfl (by assumption) rfl)); (conv => whnf)) | (apply bIf.yes; (first | assumption | rfl); (conv => whnf)) | (apply bIf.no; (first | assumption | rfl); (conv => whnf)) | ((with_reducible refine Ob.load (by with_unfolding_all assumption) ?_); (conv => whnf)) | (apply Grows.mk; (first | exact Grow.refl _ | assumption); (conv => whnf)))))
        refine (find_ax f2 (x.1.parent : Int) (by omega)).mono ?_
        rintro v2 X2 ⟨hv2, e⟩
        subst X2
        (try (conv => whnf)); (repeat ((fail_if_success (with_reducible refine And.intro ?_ ?_)); (fail_if_success (with_reducible refine Exists.intro ?_ ?_)); (first | (apply Ob.of; (first | with_reducible assumption | with_reducible exact ex20 _ _ | with_reducible exact ex21 _ _ | with_reducible exact ex30 _ _ _ | with_reducible exact ex31 _ _ _ | with_reducible exact ex32 _ _ _ | rfl | (exact ald rfl rfl (by assumption) rfl) | (exact ald_agg rfl rfl rfl (by assumption) rfl)); (conv => whnf)) | (apply bIf.yes; (first | assumption | rfl); (conv => whnf)) | (apply bIf.no; (first | assumption | rfl); (conv => whnf)) | ((with_reducible refine Ob.load (by with_unfolding_all assumption) ?_); (conv => whnf)) | (apply Grows.mk; (first | exact Grow.refl _ | assumption); (conv => whnf)))))
        refine ⟨(i + 1, v2), ⟨rfl, rfl, rfl, trivial⟩, ⟨hY, by omega, .inr ?_⟩, by show NN.length - (i + 1) < NN.length - i; omega⟩
        have hpl := lt_of_get p2
        rcases hv2 with ⟨h1, rfl⟩ | ⟨h1, y, hy2⟩
        · exact absurd ⟨by omega, by have := f2.len; omega⟩ h1
        · refine ⟨_, y, hy2, ?_⟩
          obtain ⟨_, _, _, _, _, _, hS2⟩ := hy2
          have hG2 := f2.G_get (s := y.1) (nx := y.2) hS2
          rw [Int.toNat_natCast, p2] at hG2
          simp only [Option.some.injEq] at hG2
          subst hG2
          have : y.1.names = (NN.take (NN.length - i)).take (NN.length - i - 1) := by
            rw [← hn, p4]
            have hl : NN.length - i - 1 = y.1.names.length := by rw [p4] at hlen; simp at hlen; omega
            rw [hl, List.take_left']
            rfl
          rw [this, List.take_take]
          congr 1
          show min (NN.length - i - 1) (NN.length - i) = NN.length - (i + 1)
          omega
      · (try (conv => whnf)); (repeat ((fail_if_success (with_reducible refine And.intro ?_ ?_)); (fail_if_success (with_reducible refine Exists.intro ?_ ?_)); (first | (apply Ob.of; (first | with_reducible assumption | with_reducible exact ex20 _ _ | with_reducible exact ex21 _ _ | with_reducible exact ex30 _ _ _ | with_reducible exact ex31 _ _ _ | with_reducible exact ex32 _ _ _ | rfl | (exact ald rfl rfl (by assumption) rfl) | (exact ald_agg rfl rfl rfl (by assumption) rfl)); (conv => whnf)) | (apply bIf.yes; (first | assumption | rfl); (conv => whnf)) | (apply bIf.no; (first | assumption | rfl); (conv => whnf)) | ((with_reducible refine Ob.load (by with_unfolding_all assumption) ?_); (conv => whnf)) | (apply Grows.mk; (first | exact Grow.refl _ | assumption); (conv => whnf)))))
        exact .inr hY
end Go.Proofs.Ytmcniodiehfbpaa
/- Package shape: a name's slot. -/
set_option linter.unusedVariables false
set_option linter.unusedSimpArgs false
set_option maxRecDepth 20000
set_option maxHeartbeats 4000000
namespace Go.Proofs.Ytmcniodiehfbpaa
open Go Ax
def slotF (L : List Int) (n : Int) : Int := if n ∈ L then (L.idxOf n : Int) else -1
theorem slotF_at {L : List Int} (hn : L.Nodup) {j : Nat} {n : Int} (h : L[j]? = some n) : slotF L n = j := by
  have hm := List.mem_of_getElem? h
  unfold slotF
  rw [if_pos hm]
  have hj := lt_of_get h
  rw [List.getElem?_eq_getElem hj, Option.some.injEq] at h
  rw [← h, hn.idxOf_getElem _ hj]
theorem slotF_no {L : List Int} {n : Int} (h : ∀ j : Nat, L[j]? ≠ some n) : slotF L n = -1 := by
  unfold slotF
  rw [if_neg fun hm => by obtain ⟨j, hj, e⟩ := List.getElem_of_mem hm; exact h j (by rw [List.getElem?_eq_getElem hj, e])]
theorem FoR.grow_set {H X : Heap} {q : Nat} {B : Blk} (g : Grow H X) (hq : H.length ≤ q) : Grow H (X.set q B) := ⟨by rw [List.length_set]; exact g.1, fun b hb => by rw [List.getElem?_set_ne (by omega)]; exact g.2 b hb⟩
theorem set_at {X : Heap} {q b : Nat} {B C : Blk} (h : X[b]? = some C) (hne : b ≠ q) : (X.set q B)[b]? = some C := by rw [List.getElem?_set_ne (fun e => hne e.symm)]; exact h
theorem set_self {X : Heap} {q : Nat} {B C : Blk} (h : X[q]? = some C) : (X.set q B)[q]? = some B := List.getElem?_set_self (lt_at h)
theorem Slot_ax {H : Heap} {fb most rb : Nat} {G : Fo} {av : Value} {S : List SX} (h : FoR H fb G most av rb S) (id name : Int) (hid : -9223372036854775808 ≤ id) :
    AX Try.prog 15 #[.pointer (some ⟨fb, 0, none⟩), .int .i64 id, .int .i64 name] H (fun v H' => v = .int .i64 (slotF (namesF G id) name) ∧ H' = H) := by
  refine AX.quiet ?_
  suffices hh : AX Try.prog 15 #[.pointer (some ⟨fb, 0, none⟩), .int .i64 id, .int .i64 name] H (fun v H' => v = .int .i64 (slotF (namesF G id) name) ∧ Grow H H') from hh.mono fun v _ ⟨e, g⟩ => ⟨e ▸ plain_int _ _, e, g⟩
  have hnd : (namesF G id).Nodup := by
    unfold namesF
    cases ha : atF G id with
    | none => exact List.nodup_nil
    | some s => exact h.room.wf.names_nodup _ _ s (Nat.le_refl _) (atF_lt ha).2.2
  have hfew : (namesF G id).length ≤ 12 := by
    unfold namesF
    cases ha : atF G id with
    | none => simp
    | some s => exact h.room.wf.few _ s (atF_lt ha).2.2
  refine AX.bodyD (n := 19) (rs := [.cell 6 3]) Try.func15 rfl (by decide) rfl rfl (dC_sound _ _ _ _ _ ?_)
  (conv => whnf)
  refine Ob2.box rfl fun q1 H1 hq1 a1 g1 => ?_
  (try (conv => whnf)); (repeat ((fail_if_success (with_reducible refine And.intro ?_ ?_)); (fail_if_success (with_reducible refine Exists.intro ?_ ?_)); (first | (apply Ob.of; (first | with_reducible assumption | with_reducible exact ex20 _ _ | with_reducible exact ex21 _ _ | with_reducible exact ex30 _ _ _ | with_reducible exact ex31 _ _ _ | with_reducible exact ex32 _ _ _ | rfl | (exact ald rfl rfl (by assumption) rfl) | (exact ald_agg rfl rfl rfl (by assumption) rfl)); (conv => whnf)) | (apply bIf.yes; (first | assumption | rfl); (conv => whnf)) | (apply bIf.no; (first | assumption | rfl); (conv => whnf)) | ((with_reducible refine Ob.load (by with_unfolding_all assumption) ?_); (conv => whnf)) | (apply Grows.mk; (first | exact Grow.refl _ | assumption); (conv => whnf)))))
  refine Ob2.alloc rfl fun q2 H2 hq2 a2 g2 => ?_
  (try (conv => whnf)); (repeat ((fail_if_success (with_reducible refine And.intro ?_ ?_)); (fail_if_success (with_reducible refine Exists.intro ?_ ?_)); (first | (apply Ob.of; (first | with_reducible assumption | with_reducible exact ex20 _ _ | with_reducible exact ex21 _ _ | with_reducible exact ex30 _ _ _ | with_reducible exact ex31 _ _ _ | with_reducible exact ex32 _ _ _ | rfl | (exact ald rfl rfl (by assumption) rfl) | (exact ald_agg rfl rfl rfl (by assumption) rfl)); (conv => whnf)) | (apply bIf.yes; (first | assumption | rfl); (conv => whnf)) | (apply bIf.no; (first | assumption | rfl); (conv => whnf)) | ((with_reducible refine Ob.load (by with_unfolding_all assumption) ?_); (conv => whnf)) | (apply Grows.mk; (first | exact Grow.refl _ | assumption); (conv => whnf)))))
  refine (up_ax H2 _ id).mono ?_
  rintro _ H3 ⟨a, b, rfl, g3, ha, hb⟩
  have c1 := g3.at (g2.at a1)
  have c2 := g3.at a2
  have g := (g1.trans g2).trans g3
  (try (conv => whnf)); (repeat ((fail_if_success (with_reducible refine And.intro ?_ ?_)); (fail_if_success (with_reducible refine Exists.intro ?_ ?_)); (first | (apply Ob.of; (first | with_reducible assumption | with_reducible exact ex20 _ _ | with_reducible exact ex21 _ _ | with_reducible exact ex30 _ _ _ | with_reducible exact ex31 _ _ _ | with_reducible exact ex32 _ _ _ | rfl | (exact ald rfl rfl (by assumption) rfl) | (exact ald_agg rfl rfl rfl (by assumption) rfl)); (conv => whnf)) | (apply bIf.yes; (first | assumption | rfl); (conv => whnf)) | (apply bIf.no; (first | assumption | rfl); (conv => whnf)) | ((with_reducible refine Ob.load (by with_unfolding_all assumption) ?_); (conv => whnf)) | (apply Grows.mk; (first | exact Grow.refl _ | assumption); (conv => whnf)))))
  have fo3 := h.grow g
  have hq1 : q1 < H3.length := lt_at c1
  have hq2 : q2 < H3.length := lt_at c2
  have hHl : H.length ≤ q2 := by have := g1.1; omega
  have ha3 : a < H3.length := lt_at ha
  have hb3 : b < H3.length := lt_at hb
  refine SD.rangeFunc (gf := 25) (cap := #[.pointer (some ⟨a, 0, none⟩), .pointer (some ⟨b, 0, none⟩)]) rfl ?_
  generalize hR : Blk.lrec 19 _ LoopState.ready none #[11] _ _ = R
  refine (up1_ax (q := H3.length + 1) (a := a) (b := b) (id := id) hid
    (J := fun i X => FoR X fb G most av rb S ∧ X[a]? = some (.cells .var [.pointer (some ⟨fb, 0, none⟩)]) ∧ X[b]? = some (.cells .var [.int .i64 id]) ∧ X[q1]? = some (.cells .var [.int .i64 name]) ∧ X[q2]? = some (.cells .var [.int .i64 0]) ∧
      X[H3.length]? = some .defd ∧ X[H3.length + 1]? = some R ∧ Grow H X ∧ ∀ j : Nat, (namesF G id).length - i ≤ j → (namesF G id)[j]? ≠ some name)
    (Jx := fun X => X[H3.length]? = some .defd ∧ X[q2]? = some (.cells .var [.int .i64 (slotF (namesF G id) name)]) ∧ Grow H X ∧ ∃ f an bd, R = .lrec 19 f .ready none #[11] an bd ∧ X[H3.length + 1]? = some (.lrec 19 f .done (some .ret) #[11] an bd))
    (fun i X hX => ⟨hX.1, hblk_of hX.2.1, hblk_of hX.2.2.1⟩) ?_ ?_).mono ?_
  · rintro i X k x hi ⟨f, ya, yb, y1, y2, yd, yr, yg, yn⟩ hS hlen hnm
    subst hR
    have hXl : H3.length + 2 ≤ X.length := by have := lt_of_get yr; omega
    refine YX.round yr (by decide) ?_
    (try (conv => whnf)); (repeat ((fail_if_success (with_reducible refine And.intro ?_ ?_)); (fail_if_success (with_reducible refine Exists.intro ?_ ?_)); (first | (apply Ob.of; (first | with_reducible assumption | with_reducible exact ex20 _ _ | with_reducible exact ex21 _ _ | with_reducible exact ex30 _ _ _ | with_reducible exact ex31 _ _ _ | with_reducible exact ex32 _ _ _ | rfl | (exact ald rfl rfl (by assumption) rfl) | (exact ald_agg rfl rfl rfl (by assumption) rfl)); (conv => whnf)) | (apply bIf.yes; (first | assumption | rfl); (conv => whnf)) | (apply bIf.no; (first | assumption | rfl); (conv => whnf)) | ((with_reducible refine Ob.load (by with_unfolding_all assumption) ?_); (conv => whnf)) | (apply Grows.mk; (first | exact Grow.refl _ | assumption); (conv => whnf)))))
    refine Ob2.alloc rfl fun q3 X3 hq3 a3 k3 => ?_
    (try (conv => whnf)); (repeat ((fail_if_success (with_reducible refine And.intro ?_ ?_)); (fail_if_success (with_reducible refine Exists.intro ?_ ?_)); (first | (apply Ob.of; (first | with_reducible assumption | with_reducible exact ex20 _ _ | with_reducible exact ex21 _ _ | with_reducible exact ex30 _ _ _ | with_reducible exact ex31 _ _ _ | with_reducible exact ex32 _ _ _ | rfl | (exact ald rfl rfl (by assumption) rfl) | (exact ald_agg rfl rfl rfl (by assumption) rfl)); (conv => whnf)) | (apply bIf.yes; (first | assumption | rfl); (conv => whnf)) | (apply bIf.no; (first | assumption | rfl); (conv => whnf)) | ((with_reducible refine Ob.load (by with_unfolding_all assumption) ?_); (conv => whnf)) | (apply Grows.mk; (first | exact Grow.refl _ | assumption); (conv => whnf)))))
    refine Ob.store rfl rfl rfl a3 rfl (by first | exact Nat.le_of_ble_eq_true rfl | simp) fun Z s3 s4 s5 => ?_
    (try (conv => whnf)); (repeat ((fail_if_success (with_reducible refine And.intro ?_ ?_)); (fail_if_success (with_reducible refine Exists.intro ?_ ?_)); (first | (apply Ob.of; (first | with_reducible assumption | with_reducible exact ex20 _ _ | with_reducible exact ex21 _ _ | with_reducible exact ex30 _ _ _ | with_reducible exact ex31 _ _ _ | with_reducible exact ex32 _ _ _ | rfl | (exact ald rfl rfl (by assumption) rfl) | (exact ald_agg rfl rfl rfl (by assumption) rfl)); (conv => whnf)) | (apply bIf.yes; (first | assumption | rfl); (conv => whnf)) | (apply bIf.no; (first | assumption | rfl); (conv => whnf)) | ((with_reducible refine Ob.load (by with_unfolding_all assumption) ?_); (conv => whnf)) | (apply Grows.mk; (first | exact Grow.refl _ | assumption); (conv => whnf)))))
    have kz : ∀ {p : Nat} {B : Blk}, p < q3 → X[p]? = some B → Z[p]? = some B := fun hp h => by rw [s4.2 _ (by have := lt_at (k3.at h); exact this) (by omega)]; exact k3.at h
    refine ⟨kz (by omega) yr, ?_⟩
    have hZl : H3.length + 2 ≤ Z.length := by have := k3.1; omega
    have w1 := kz (by omega) y1
    have w2 := kz (by omega) y2
    have wd := kz (by omega) yd
    have wr := kz (by omega) yr
    have wa := kz (by omega) ya
    have wb := kz (by omega) yb
    have wg : Grow X Z := ⟨by have := k3.1; omega, fun p hp => by rw [s4.2 p (by have := k3.1; omega) (by omega)]; exact k3.2 p hp⟩
    generalize hU : Z.set (H3.length + 1) _ = U
    have u0 : hblk U q3 = some (oneL x) := hblk_of (by rw [← hU]; exact set_at s3 (by omega))
    have u1 : hblk U q1 = some [.int .i64 name] := hblk_of (by rw [← hU]; exact set_at w1 (by omega))
    have u2 : U[q2]? = some (.cells .var [.int .i64 0]) := by rw [← hU]; exact set_at w2 (by omega)
    (try (conv => whnf)); (repeat ((fail_if_success (with_reducible refine And.intro ?_ ?_)); (fail_if_success (with_reducible refine Exists.intro ?_ ?_)); (first | (apply Ob.of; (first | with_reducible assumption | with_reducible exact ex20 _ _ | with_reducible exact ex21 _ _ | with_reducible exact ex30 _ _ _ | with_reducible exact ex31 _ _ _ | with_reducible exact ex32 _ _ _ | rfl | (exact ald rfl rfl (by assumption) rfl) | (exact ald_agg rfl rfl rfl (by assumption) rfl)); (conv => whnf)) | (apply bIf.yes; (first | assumption | rfl); (conv => whnf)) | (apply bIf.no; (first | assumption | rfl); (conv => whnf)) | ((with_reducible refine Ob.load (by with_unfolding_all assumption) ?_); (conv => whnf)) | (apply Grows.mk; (first | exact Grow.refl _ | assumption); (conv => whnf)))))
    have uS : ∀ {p : Nat} {B C : Blk}, p ≠ H3.length + 1 → Z[p]? = some B → (U.set (H3.length + 1) C)[p]? = some B := fun hp h => by rw [← hU]; exact set_at (set_at h hp) hp
    have uR : ∀ B : Blk, (U.set (H3.length + 1) B)[H3.length + 1]? = some B := fun B => by rw [← hU]; exact set_self (set_self wr)
    have uG : ∀ B : Blk, Grow H (U.set (H3.length + 1) B) := fun B => by rw [← hU]; exact FoR.grow_set (FoR.grow_set (yg.trans wg) (by omega)) (by omega)
    by_cases hx : x.1.name = name
    · have d1 : (x.1.name == name) = true := by simpa using hx
      have e1 : IntKind.i64.wrap ((x.1.names.length : Int) - 1) = slotF (namesF G id) name := by
        rw [wrap_i64 (by omega) (by omega), slotF_at hnd (hx ▸ hnm)]
        omega
      (try (conv => whnf)); (repeat ((fail_if_success (with_reducible refine And.intro ?_ ?_)); (fail_if_success (with_reducible refine Exists.intro ?_ ?_)); (first | (apply Ob.of; (first | with_reducible assumption | with_reducible exact ex20 _ _ | with_reducible exact ex21 _ _ | with_reducible exact ex30 _ _ _ | with_reducible exact ex31 _ _ _ | with_reducible exact ex32 _ _ _ | rfl | (exact ald rfl rfl (by assumption) rfl) | (exact ald_agg rfl rfl rfl (by assumption) rfl)); (conv => whnf)) | (apply bIf.yes; (first | assumption | rfl); (conv => whnf)) | (apply bIf.no; (first | assumption | rfl); (conv => whnf)) | ((with_reducible refine Ob.load (by with_unfolding_all assumption) ?_); (conv => whnf)) | (apply Grows.mk; (first | exact Grow.refl _ | assumption); (conv => whnf)))))
      refine Ob.store rfl rfl rfl u2 rfl (by first | exact Nat.le_of_ble_eq_true rfl | simp) fun V v3 v4 v5 => ?_
      have vR : V[H3.length + 1]? = U[H3.length + 1]? := v4.2 _ (by rw [← hU]; simp; omega) (by omega)
      have vG : Grow H V := ⟨by have := (yg.trans wg).1; rw [v5, ← hU]; simpa using this, fun p hp => by
        have h1 := (yg.trans wg).1
        rw [v4.2 p (by rw [← hU]; simp; omega) (by omega), ← hU, List.getElem?_set_ne (by omega)]
        exact (yg.trans wg).2 p hp⟩
      have vd : V[H3.length]? = some .defd := by rw [v4.2 _ (by rw [← hU]; simp; omega) (by omega), ← hU]; exact set_at wd (by omega)
      (try (conv => whnf)); (repeat ((fail_if_success (with_reducible refine And.intro ?_ ?_)); (fail_if_success (with_reducible refine Exists.intro ?_ ?_)); (first | (apply Ob.of; (first | with_reducible assumption | with_reducible exact ex20 _ _ | with_reducible exact ex21 _ _ | with_reducible exact ex30 _ _ _ | with_reducible exact ex31 _ _ _ | with_reducible exact ex32 _ _ _ | rfl | (exact ald rfl rfl (by assumption) rfl) | (exact ald_agg rfl rfl rfl (by assumption) rfl)); (conv => whnf)) | (apply bIf.yes; (first | assumption | rfl); (conv => whnf)) | (apply bIf.no; (first | assumption | rfl); (conv => whnf)) | ((with_reducible refine Ob.load (by with_unfolding_all assumption) ?_); (conv => whnf)) | (apply Grows.mk; (first | exact Grow.refl _ | assumption); (conv => whnf)))))
      refine ⟨vR.trans (by rw [← hU]; exact set_self wr), .inr ⟨rfl, set_at vd (by omega), ?_, FoR.grow_set vG (by omega), _, _, _, rfl, set_self (vR.trans (by rw [← hU]; exact set_self wr))⟩⟩
      rw [← e1]
      exact set_at v3 (by omega)
    · have d1 : (x.1.name == name) = false := by simpa using hx
      (try (conv => whnf)); (repeat ((fail_if_success (with_reducible refine And.intro ?_ ?_)); (fail_if_success (with_reducible refine Exists.intro ?_ ?_)); (first | (apply Ob.of; (first | with_reducible assumption | with_reducible exact ex20 _ _ | with_reducible exact ex21 _ _ | with_reducible exact ex30 _ _ _ | with_reducible exact ex31 _ _ _ | with_reducible exact ex32 _ _ _ | rfl | (exact ald rfl rfl (by assumption) rfl) | (exact ald_agg rfl rfl rfl (by assumption) rfl)); (conv => whnf)) | (apply bIf.yes; (first | assumption | rfl); (conv => whnf)) | (apply bIf.no; (first | assumption | rfl); (conv => whnf)) | ((with_reducible refine Ob.load (by with_unfolding_all assumption) ?_); (conv => whnf)) | (apply Grows.mk; (first | exact Grow.refl _ | assumption); (conv => whnf)))))
      refine ⟨by rw [← hU]; exact set_self wr, .inl ⟨rfl, h.grow (uG _), uS (by omega) wa, uS (by omega) wb, uS (by omega) w1, uS (by omega) w2, uS (by omega) wd, uR _, uG _, fun j hj he => ?_⟩⟩
      by_cases hj2 : (namesF G id).length - i ≤ j
      · exact yn j hj2 he
      · rw [show j = (namesF G id).length - i - 1 by omega, hnm] at he
        exact hx (by simpa using he)
  · have gg : Grow H3 (H3 ++ [.defd] ++ [R]) := (Grow.push _ _).trans (.push _ _)
    refine ⟨fo3.grow gg, gg.at ha, gg.at hb, gg.at c1, gg.at c2, by simp, by simp, g.trans gg, fun j hj hx => ?_⟩
    have := lt_of_get hx
    omega
  · rintro _ Y (⟨f, ya, yb, y1, y2, yd, yr, yg, yn⟩ | ⟨yd, y2, yg, f, an, bd, eR, yr⟩)
    · subst hR
      refine ⟨_, _, yr, by simp, ?_⟩
      (conv => whnf)
      have k2 : (Y.set (H3.length + 1) .dead)[q2]? = some (.cells .var [.int .i64 0]) := set_at y2 (by omega)
      have gY : Grow H (Y.set (H3.length + 1) .dead) := FoR.grow_set yg (by omega)
      have kd : (Y.set (H3.length + 1) .dead)[H3.length]? = some .defd := set_at yd (by omega)
      (try (conv => whnf)); (repeat ((fail_if_success (with_reducible refine And.intro ?_ ?_)); (fail_if_success (with_reducible refine Exists.intro ?_ ?_)); (first | (apply Ob.of; (first | with_reducible assumption | with_reducible exact ex20 _ _ | with_reducible exact ex21 _ _ | with_reducible exact ex30 _ _ _ | with_reducible exact ex31 _ _ _ | with_reducible exact ex32 _ _ _ | rfl | (exact ald rfl rfl (by assumption) rfl) | (exact ald_agg rfl rfl rfl (by assumption) rfl)); (conv => whnf)) | (apply bIf.yes; (first | assumption | rfl); (conv => whnf)) | (apply bIf.no; (first | assumption | rfl); (conv => whnf)) | ((with_reducible refine Ob.load (by with_unfolding_all assumption) ?_); (conv => whnf)) | (apply Grows.mk; (first | exact Grow.refl _ | assumption); (conv => whnf)))))
      refine Ob.store rfl rfl rfl k2 rfl (by first | exact Nat.le_of_ble_eq_true rfl | simp) fun Z s3 s4 s5 => ?_
      (try (conv => whnf)); (repeat ((fail_if_success (with_reducible refine And.intro ?_ ?_)); (fail_if_success (with_reducible refine Exists.intro ?_ ?_)); (first | (apply Ob.of; (first | with_reducible assumption | with_reducible exact ex20 _ _ | with_reducible exact ex21 _ _ | with_reducible exact ex30 _ _ _ | with_reducible exact ex31 _ _ _ | with_reducible exact ex32 _ _ _ | rfl | (exact ald rfl rfl (by assumption) rfl) | (exact ald_agg rfl rfl rfl (by assumption) rfl)); (conv => whnf)) | (apply bIf.yes; (first | assumption | rfl); (conv => whnf)) | (apply bIf.no; (first | assumption | rfl); (conv => whnf)) | ((with_reducible refine Ob.load (by with_unfolding_all assumption) ?_); (conv => whnf)) | (apply Grows.mk; (first | exact Grow.refl _ | assumption); (conv => whnf)))))
      have e1 : slotF (namesF G id) name = -1 := slotF_no fun j => yn j (by omega)
      have hYl := lt_of_get yr
      have zd : Z[H3.length]? = some .defd := by rw [s4.2 _ (by simp; omega) (by omega)]; exact kd
      have z2 : (Z.set H3.length .dead)[q2]? = some (.cells .var [.int .i64 (slotF (namesF G id) name)]) := by rw [e1]; exact set_at s3 (by omega)
      have zg : Grow H (Z.set H3.length .dead) := FoR.grow_set ⟨by have := gY.1; omega, fun p hp => by rw [s4.2 p (by have := gY.1; omega) (by omega)]; exact gY.2 p hp⟩ (by omega)
      refine ⟨by simp, by intro q hq; simp at hq; subst hq; exact zd, ?_⟩
      (conv => whnf)
      refine Ob.of (ald rfl rfl (hblk_of z2) rfl) ?_
      (conv => whnf)
      exact ⟨rfl, zg⟩
    · subst hR
      simp only [Blk.lrec.injEq] at eR
      obtain ⟨_, rfl, _, _, _, rfl, rfl⟩ := eR
      refine ⟨_, _, yr, by simp, ?_⟩
      (conv => whnf)
      have z2 : ((Y.set (H3.length + 1) .dead).set H3.length .dead)[q2]? = some (.cells .var [.int .i64 (slotF (namesF G id) name)]) := set_at (set_at y2 (by omega)) (by omega)
      have zg : Grow H ((Y.set (H3.length + 1) .dead).set H3.length .dead) := FoR.grow_set (FoR.grow_set yg (by omega)) (by omega)
      refine ⟨by simp, by intro q hq; simp at hq; subst hq; exact set_at yd (by omega), ?_⟩
      (conv => whnf)
      refine Ob.of (ald rfl rfl (hblk_of z2) rfl) ?_
      (conv => whnf)
      exact ⟨rfl, zg⟩
end Go.Proofs.Ytmcniodiehfbpaa
/- Package shape: slices.Reverse of numbers. -/
set_option linter.unusedVariables false
set_option linter.unusedSimpArgs false
set_option maxRecDepth 20000
set_option maxHeartbeats 4000000
namespace Go.Proofs.Ytmcniodiehfbpaa
open Go Ax
/-- A row of numbers that is one's own. -/
def IRow (H : Heap) (q : Nat) (L : List Int) : Prop := H[q]? = some (.cells (.row 3) (L.map (Value.int .i64)))
theorem put_at {L : List Int} {i : Nat} {d : Int} : putL (L.map (Value.int .i64)) i [.int .i64 d] = (L.set i d).map (Value.int .i64) := by
  apply List.ext_getElem?
  intro j
  rw [putL_get]
  simp only [List.length_singleton, List.length_map, List.getElem?_map, List.getElem?_set]
  by_cases hj : i = j
  · subst hj
    by_cases hl : i < L.length
    · simp [hl]
    · simp [hl]
  · rw [if_neg (by omega), if_neg hj]
theorem OwnR.toI {H : Heap} {v : Value} {L : List Int} (h : OwnR 1 3 intR H v L) : (v = .slice none 0 0 ∧ L = []) ∨ ∃ q, v = .slice (some ⟨q, 0, none⟩) L.length 1 ∧ IRow H q L := by
  rcases h with h | ⟨b, c, h1, h2, h3, h4⟩
  · exact .inl h
  · refine .inr ⟨b, h1, ?_⟩
    unfold IRow
    rw [h2]
    congr 2
    apply List.ext_getElem?
    intro i
    by_cases hi : i < L.length
    · obtain ⟨x, hx⟩ := get_lt hi
      obtain ⟨l, k1, k2⟩ := h4 i x hx
      have hl : l = [.int .i64 x] := k2
      subst hl
      have := slots_get (j := 0) k1 rfl
      rw [Nat.mul_one, Nat.add_zero] at this
      rw [this]; simp [hx]
    · rw [List.getElem?_eq_none (by omega), List.getElem?_eq_none (by simp; omega)]
theorem IRow.own {H : Heap} {q : Nat} {L : List Int} (h : IRow H q L) : OwnR 1 3 intR H (.slice (some ⟨q, 0, none⟩) L.length 1) L := by
  refine .inr ⟨q, _, rfl, h, by simp, fun i x hx => ⟨[.int .i64 x], ?_, rfl⟩⟩
  have hl := lt_of_get hx
  rw [slots_of (by simp; omega)]
  congr 1
  apply List.ext_getElem?
  intro j
  rw [List.getElem?_take, List.getElem?_drop]
  cases j with
  | zero => simp [hx]
  | succ j => simp
/-- How far the order is turned. -/
def Turned (L M : List Int) (i : Nat) : Prop := M.length = L.length ∧ ∀ t : Nat, t < L.length → M[t]? = if t < i ∨ L.length - 1 - i < t then L[L.length - 1 - t]? else L[t]?
theorem Turned.zero (L : List Int) : Turned L L 0 := ⟨rfl, fun t ht => by rw [if_neg (by omega)]⟩
theorem Turned.step {L M : List Int} {i : Nat} (h : Turned L M i) (hi : 2 * i + 1 < L.length) {x y : Int} (hx : M[i]? = some x) (hy : M[L.length - 1 - i]? = some y) : Turned L ((M.set i y).set (L.length - 1 - i) x) (i + 1) := by
  refine ⟨by simp [h.1], fun t ht => ?_⟩
  have h1 := h.2 i (by omega)
  rw [if_neg (by omega), hx] at h1
  have h2 := h.2 (L.length - 1 - i) (by omega)
  rw [if_neg (by omega), hy] at h2
  have ht' := h.2 t ht
  rw [List.getElem?_set, List.length_set, List.getElem?_set]
  by_cases e1 : L.length - 1 - i = t
  · rw [if_pos e1, if_pos (by rw [h.1]; omega), if_pos (by omega), show L.length - 1 - t = i by omega, h1]
  · rw [if_neg e1]
    by_cases e2 : i = t
    · rw [if_pos e2, if_pos (by rw [h.1]; omega), if_pos (by omega), show L.length - 1 - t = L.length - 1 - i by omega, h2]
    · rw [if_neg e2, ht']
      by_cases e3 : t < i ∨ L.length - 1 - i < t
      · rw [if_pos e3, if_pos (by omega)]
      · rw [if_neg e3, if_neg (by omega)]
theorem Turned.all {L M : List Int} {i : Nat} (h : Turned L M i) (hi : L.length ≤ 2 * i + 1) : M = L.reverse := by
  apply List.ext_getElem?
  intro t
  by_cases ht : t < L.length
  · rw [h.2 t ht, List.getElem?_reverse ht]
    by_cases e : t < i ∨ L.length - 1 - i < t
    · rw [if_pos e]
    · rw [if_neg e, show L.length - 1 - t = t by omega]
  · rw [List.getElem?_eq_none (by rw [h.1]; omega), List.getElem?_eq_none (by simp; omega)]
theorem Reverse_ax {H : Heap} {v : Value} {L : List Int} (h : OwnR 1 3 intR H v L) (hL : L.length ≤ 1000) :
    AX Try.prog 23 #[v] H (fun _ H' => OwnR 1 3 intR H' v L.reverse ∧ H'.length = H.length ∧ ∀ p, ¬ blkIs v p → H'[p]? = H[p]?) := by
  rcases OwnR.toI h with ⟨rfl, rfl⟩ | ⟨q, rfl, hq⟩
  · refine AX.body (n := 28) (rs := []) Try.func23 rfl (by decide) rfl rfl (bC_sound _ _ _ _ ?_)
    (try (conv => whnf)); (repeat ((fail_if_success (with_reducible refine And.intro ?_ ?_)); (fail_if_success (with_reducible refine Exists.intro ?_ ?_)); (first | (apply Ob.of; (first | with_reducible assumption | with_reducible exact ex20 _ _ | with_reducible exact ex21 _ _ | with_reducible exact ex30 _ _ _ | with_reducible exact ex31 _ _ _ | with_reducible exact ex32 _ _ _ | rfl | (exact ald rfl rfl (by assumption) rfl) | (exact ald_agg rfl rfl rfl (by assumption) rfl)); (conv => whnf)) | (apply bIf.yes; (first | assumption | rfl); (conv => whnf)) | (apply bIf.no; (first | assumption | rfl); (conv => whnf)) | ((with_reducible refine Ob.load (by with_unfolding_all assumption) ?_); (conv => whnf)) | (apply Grows.mk; (first | exact Grow.refl _ | assumption); (conv => whnf)))))
    refine SW.loop (α := Unit) (fun _ => [(0, .slice none 0 0), (2, .int .i64 0), (3, .int .i64 (-1))]) (fun _ X => X = H) (fun _ => 0) ⟨(), ⟨rfl, rfl, rfl, trivial⟩, rfl⟩ ?_
    rintro _ X rfl
    refine bC_sound _ _ _ _ ?_
    (try (conv => whnf)); (repeat ((fail_if_success (with_reducible refine And.intro ?_ ?_)); (fail_if_success (with_reducible refine Exists.intro ?_ ?_)); (first | (apply Ob.of; (first | with_reducible assumption | with_reducible exact ex20 _ _ | with_reducible exact ex21 _ _ | with_reducible exact ex30 _ _ _ | with_reducible exact ex31 _ _ _ | with_reducible exact ex32 _ _ _ | rfl | (exact ald rfl rfl (by assumption) rfl) | (exact ald_agg rfl rfl rfl (by assumption) rfl)); (conv => whnf)) | (apply bIf.yes; (first | assumption | rfl); (conv => whnf)) | (apply bIf.no; (first | assumption | rfl); (conv => whnf)) | ((with_reducible refine Ob.load (by with_unfolding_all assumption) ?_); (conv => whnf)) | (apply Grows.mk; (first | exact Grow.refl _ | assumption); (conv => whnf)))))
    exact ⟨.inl ⟨rfl, rfl⟩, rfl, fun _ _ => rfl⟩
  · generalize hn : L.length = n at hL ⊢
    refine AX.body (n := 28) (rs := []) Try.func23 rfl (by decide) rfl rfl (bC_sound _ _ _ _ ?_)
    have w0 : IntKind.i64.wrap ((n : Int) - 1) = (n : Int) - 1 - ((0 : Nat) : Int) := by rw [wrap_i64 (by omega) (by omega)]; omega
    (try (conv => whnf)); (repeat ((fail_if_success (with_reducible refine And.intro ?_ ?_)); (fail_if_success (with_reducible refine Exists.intro ?_ ?_)); (first | (apply Ob.of; (first | with_reducible assumption | with_reducible exact ex20 _ _ | with_reducible exact ex21 _ _ | with_reducible exact ex30 _ _ _ | with_reducible exact ex31 _ _ _ | with_reducible exact ex32 _ _ _ | rfl | (exact ald rfl rfl (by assumption) rfl) | (exact ald_agg rfl rfl rfl (by assumption) rfl)); (conv => whnf)) | (apply bIf.yes; (first | assumption | rfl); (conv => whnf)) | (apply bIf.no; (first | assumption | rfl); (conv => whnf)) | ((with_reducible refine Ob.load (by with_unfolding_all assumption) ?_); (conv => whnf)) | (apply Grows.mk; (first | exact Grow.refl _ | assumption); (conv => whnf)))))
    refine SW.loop (α := Nat × List Int) (fun y => [(0, .slice (some ⟨q, 0, none⟩) n 1), (2, .int .i64 (y.1 : Int)), (3, .int .i64 ((n : Int) - 1 - (y.1 : Int)))])
      (fun y X => IRow X q y.2 ∧ Turned L y.2 y.1 ∧ 2 * y.1 ≤ n + 1 ∧ X.length = H.length ∧ ∀ p, p ≠ q → X[p]? = H[p]?) (fun y => n - y.1)
      ⟨(0, L), ⟨rfl, rfl, congrArg (fun z => some (Value.int .i64 z)) w0, trivial⟩, hq, .zero L, by show 2 * 0 ≤ _; omega, rfl, fun _ _ => rfl⟩ ?_
    rintro ⟨i, M⟩ X ⟨x1, x2, x3, x4, x5⟩
    dsimp only at x1 x2 x3 x4 x5 ⊢
    have hMl := x2.1
    refine bC_sound _ _ _ _ ?_
    by_cases hi : 2 * i + 1 < n
    · have d1 : decide ((i : Int) < (n : Int) - 1 - (i : Int)) = true := decide_eq_true (by omega)
      obtain ⟨x, hx⟩ := get_lt (L := M) (m := i) (by omega)
      obtain ⟨y, hy⟩ := get_lt (L := M) (m := n - 1 - i) (by omega)
      have j1 : aindexAddr Try.prog 34 (.slice (some ⟨q, 0, none⟩) n 1) (.int .i64 (i : Int)) = some (.pointer (some ⟨q, i, none⟩)) := by
        rw [idx_slice (k := 1) rfl rfl (by omega) (by omega)]; simp
      have j2 : aindexAddr Try.prog 34 (.slice (some ⟨q, 0, none⟩) n 1) (.int .i64 ((n : Int) - 1 - (i : Int))) = some (.pointer (some ⟨q, n - 1 - i, none⟩)) := by
        rw [idx_slice (k := 1) rfl rfl (by omega) (by omega)]; congr 4; omega
      have l1 : aload Try.prog 3 (.pointer (some ⟨q, i, none⟩)) X = some (.int .i64 x) := ald rfl rfl (hblk_of x1) (by simp [hx])
      have l2 : aload Try.prog 3 (.pointer (some ⟨q, n - 1 - i, none⟩)) X = some (.int .i64 y) := ald rfl rfl (hblk_of x1) (by simp [hy])
      obtain ⟨X1, s1, a1, k1, e1⟩ := store_ex (P := Try.prog) (t := 3) (off := i) (v := .int .i64 y) (vs := [.int .i64 y]) rfl rfl rfl x1 rfl (by simp; omega)
      rw [put_at] at a1
      obtain ⟨X2, s2, a2, k2, e2⟩ := store_ex (P := Try.prog) (t := 3) (off := n - 1 - i) (v := .int .i64 x) (vs := [.int .i64 x]) rfl rfl rfl a1 rfl (by simp; omega)
      rw [put_at] at a2
      (try (conv => whnf)); (repeat ((fail_if_success (with_reducible refine And.intro ?_ ?_)); (fail_if_success (with_reducible refine Exists.intro ?_ ?_)); (first | (apply Ob.of; (first | with_reducible assumption | with_reducible exact ex20 _ _ | with_reducible exact ex21 _ _ | with_reducible exact ex30 _ _ _ | with_reducible exact ex31 _ _ _ | with_reducible exact ex32 _ _ _ | rfl | (exact ald rfl rfl (by assumption) rfl) | (exact ald_agg rfl rfl rfl (by assumption) rfl)); (conv => whnf)) | (apply bIf.yes; (first | assumption | rfl); (conv => whnf)) | (apply bIf.no; (first | assumption | rfl); (conv => whnf)) | ((with_reducible refine Ob.load (by with_unfolding_all assumption) ?_); (conv => whnf)) | (apply Grows.mk; (first | exact Grow.refl _ | assumption); (conv => whnf)))))
      apply SW.draw2 [([], [15, 16, 17, 18, 19, 20, 21, 22, 23, 24, 25], 0, 0, false), ([], [14, 16, 17, 18, 19, 20, 21, 22, 23, 24, 25], 0, 0, false), ([], [14, 15, 17, 18, 19, 20, 21, 22, 23, 24, 25, 26], 0, 1, false), ([], [14, 15, 16, 18, 19, 20, 21, 22, 23, 24, 25, 26], 0, 1, false), ([], [14, 15, 16, 17, 19, 22, 23, 24, 25], 0, 0, false), ([], [14, 15, 16, 17, 18, 22, 23, 24, 25], 0, 0, false), ([(18, 4), (19, 5)], [14, 15, 16, 17, 18, 19, 22, 23, 24, 25], 0, 0, false), ([(18, 4), (19, 5), (20, 6)], [14, 15, 16, 17, 18, 19, 20, 22, 23, 24, 25], 0, 0, false), ([], [14, 15, 16, 17, 18, 19, 20, 21, 23], 0, 0, false), ([], [14, 15, 16, 17, 18, 19, 20, 21, 22], 0, 0, false), ([(22, 8), (23, 9)], [14, 15, 16, 17, 18, 19, 20, 21, 22, 23], 0, 0, false), ([(22, 8), (23, 9), (24, 10)], [14, 15, 16, 17, 18, 19, 20, 21, 22, 23, 24], 0, 0, false), ([(14, 0), (15, 1), (18, 4), (19, 5), (20, 6), (21, 7), (22, 8), (23, 9), (24, 10), (25, 11)], [14, 15, 16, 17, 18, 19, 20, 21, 22, 23, 24, 25], 0, 0, false), ([(14, 0), (15, 1), (18, 4), (19, 5), (20, 6), (21, 7), (22, 8), (23, 9), (24, 10), (25, 11), (26, 12)], [14, 15, 16, 17, 18, 19, 20, 21, 22, 23, 24, 25, 26], 0, 0, true), ([(14, 0), (15, 1), (16, 2), (17, 3), (18, 4), (19, 5), (20, 6), (21, 7), (22, 8), (23, 9), (24, 10), (25, 11), (26, 12)], [14, 15, 16, 17, 18, 19, 20, 21, 22, 23, 24, 25, 26], 1, 0, false), ([(14, 0), (15, 1), (16, 2), (17, 3), (18, 4), (19, 5), (20, 6), (21, 7), (22, 8), (23, 9), (24, 10), (25, 11), (26, 12), (27, 14)], [14, 15, 16, 17, 18, 19, 20, 21, 22, 23, 24, 25, 26, 27], 1, 0, true)]
        [(14, 0), (15, 1), (16, 2), (17, 3), (18, 4), (19, 5), (20, 6), (21, 7), (22, 8), (23, 9), (24, 10), (25, 11), (26, 12), (27, 14)] 2
        [(0, _), (2, _), (3, _)] [_, _, _, _, _, _, _, _, _, _, _, _, _, _, _, _] [X, X1, X2] rfl (by kernel_rfl)
      case hF => exact ⟨rfl, rfl, rfl, trivial⟩
      case h0 => rfl
      case steps =>
        (try (conv => whnf)); repeat' (first | ((with_reducible refine Ob.of j1 ?_); (conv => whnf)) | ((with_reducible refine Ob.of j2 ?_); (conv => whnf)) | ((with_reducible refine Ob.of l1 ?_); (conv => whnf)) | ((with_reducible refine Ob.of l2 ?_); (conv => whnf)) | ((with_reducible refine Ob2.of j1 ?_); (conv => whnf)) | ((with_reducible refine Ob2.of j2 ?_); (conv => whnf)) | ((with_reducible refine Ob2.of l1 ?_); (conv => whnf)) | ((with_reducible refine Ob2.of l2 ?_); (conv => whnf)) | (refine And.intro ?_ ?_ <;> (conv => whnf)) | exact Leaf.mk rfl rfl | exact True.intro | (refine Ob.of s1 ?_; (conv => whnf)) | (refine Ob.of s2 ?_; (conv => whnf)) | (refine Ob.of rfl ?_; (conv => whnf)) | (refine Ob2.of (by rfl) ?_; (conv => whnf)) | ((fail_if_success (with_reducible refine And.intro ?_ ?_)); (fail_if_success (with_reducible refine Exists.intro ?_ ?_)); (first | (apply Ob.of; (first | with_reducible assumption | with_reducible exact ex20 _ _ | with_reducible exact ex21 _ _ | with_reducible exact ex30 _ _ _ | with_reducible exact ex31 _ _ _ | with_reducible exact ex32 _ _ _ | rfl | (exact ald rfl rfl (by assumption) rfl) | (exact ald_agg rfl rfl rfl (by assumption) rfl)); (conv => whnf)) | (apply bIf.yes; (first | assumption | rfl); (conv => whnf)) | (apply bIf.no; (first | assumption | rfl); (conv => whnf)) | ((with_reducible refine Ob.load (by with_unfolding_all assumption) ?_); (conv => whnf)) | (apply Grows.mk; (first | exact Grow.refl _ | assumption); (conv => whnf)))))
      (try (conv => whnf)); (repeat ((fail_if_success (with_reducible refine And.intro ?_ ?_)); (fail_if_success (with_reducible refine Exists.intro ?_ ?_)); (first | (apply Ob.of; (first | with_reducible assumption | with_reducible exact ex20 _ _ | with_reducible exact ex21 _ _ | with_reducible exact ex30 _ _ _ | with_reducible exact ex31 _ _ _ | with_reducible exact ex32 _ _ _ | rfl | (exact ald rfl rfl (by assumption) rfl) | (exact ald_agg rfl rfl rfl (by assumption) rfl)); (conv => whnf)) | (apply bIf.yes; (first | assumption | rfl); (conv => whnf)) | (apply bIf.no; (first | assumption | rfl); (conv => whnf)) | ((with_reducible refine Ob.load (by with_unfolding_all assumption) ?_); (conv => whnf)) | (apply Grows.mk; (first | exact Grow.refl _ | assumption); (conv => whnf)))))
      have w1 : IntKind.i64.wrap ((i : Int) + 1) = ((i + 1 : Nat) : Int) := by rw [wrap_i64 (by omega) (by omega)]; omega
      have w2 : IntKind.i64.wrap ((n : Int) - 1 - (i : Int) - 1) = (n : Int) - 1 - ((i + 1 : Nat) : Int) := by rw [wrap_i64 (by omega) (by omega)]; omega
      refine ⟨(i + 1, (M.set i y).set (n - 1 - i) x), ⟨rfl, congrArg (fun z => some (Value.int .i64 z)) w1, congrArg (fun z => some (Value.int .i64 z)) w2, trivial⟩, ⟨a2, ?_, by show 2 * (i + 1) ≤ _; omega, by rw [e2, e1, x4], fun p hp => ?_⟩, by show n - (i + 1) < n - i; omega⟩
      · subst hn; exact x2.step hi hx hy
      · by_cases hpl : p < X.length
        · rw [k2.2 p (by omega) hp, k1.2 p hpl hp]; exact x5 p hp
        · rw [List.getElem?_eq_none (by omega), List.getElem?_eq_none (by omega)]
    · have d1 : decide ((i : Int) < (n : Int) - 1 - (i : Int)) = false := decide_eq_false (by omega)
      (try (conv => whnf)); (repeat ((fail_if_success (with_reducible refine And.intro ?_ ?_)); (fail_if_success (with_reducible refine Exists.intro ?_ ?_)); (first | (apply Ob.of; (first | with_reducible assumption | with_reducible exact ex20 _ _ | with_reducible exact ex21 _ _ | with_reducible exact ex30 _ _ _ | with_reducible exact ex31 _ _ _ | with_reducible exact ex32 _ _ _ | rfl | (exact ald rfl rfl (by assumption) rfl) | (exact ald_agg rfl rfl rfl (by assumption) rfl)); (conv => whnf)) | (apply bIf.yes; (first | assumption | rfl); (conv => whnf)) | (apply bIf.no; (first | assumption | rfl); (conv => whnf)) | ((with_reducible refine Ob.load (by with_unfolding_all assumption) ?_); (conv => whnf)) | (apply Grows.mk; (first | exact Grow.refl _ | assumption); (conv => whnf)))))
      have hM := x2.all (by omega)
      subst hM
      refine ⟨?_, x4, fun p hp => x5 p fun e => hp (e ▸ ⟨_, _, rfl⟩)⟩
      have := x1.own
      rwa [List.length_reverse, hn] at this
end Go.Proofs.Ytmcniodiehfbpaa
/- Package shape: a shape's names. -/
set_option linter.unusedVariables false
set_option linter.unusedSimpArgs false
set_option maxRecDepth 20000
set_option maxHeartbeats 4000000
namespace Go.Proofs.Ytmcniodiehfbpaa
open Go Ax
theorem rowI : RowOK Try.prog 34 3 1 := ⟨rfl, ⟨_, rfl, rfl, by decide⟩, ⟨_, rfl, rfl⟩, by decide, ⟨_, rfl, rfl⟩⟩
theorem blk_lt {H : Heap} {v : Value} {L : List Int} (h : OwnR 1 3 intR H v L) {b : Nat} (hb : blkIs v b) : ∃ c, H[b]? = some (.cells (.row 3) c) := by
  obtain ⟨n, k, rfl⟩ := hb
  rcases h with ⟨h, _⟩ | ⟨b2, c, h1, h2, _⟩
  · simp at h
  · simp only [Value.slice.injEq, Option.some.injEq, Addr.mk.injEq, and_true] at h1
    obtain ⟨rfl, _⟩ := h1
    exact ⟨c, h2⟩
theorem Names_ax {H : Heap} {fb most rb : Nat} {G : Fo} {av : Value} {S : List SX} (h : FoR H fb G most av rb S) (id : Int) (hid : -9223372036854775808 ≤ id) :
    AX Try.prog 14 #[.pointer (some ⟨fb, 0, none⟩), .int .i64 id] H (fun v H' => OwnR 1 3 intR H' v (namesF G id) ∧ Grow H H' ∧ ∀ b, blkIs v b → H.length ≤ b) := by
  have hfew : (namesF G id).length ≤ 12 := by
    unfold namesF
    cases ha : atF G id with
    | none => simp
    | some s => exact h.room.wf.few _ s (atF_lt ha).2.2
  generalize hNN : namesF G id = NN at hfew ⊢
  refine AX.bodyD (n := 19) (rs := [.tmp 4]) Try.func14 rfl (by decide) rfl rfl (dC_sound _ _ _ _ _ ?_)
  (conv => whnf)
  (try (conv => whnf)); (repeat ((fail_if_success (with_reducible refine And.intro ?_ ?_)); (fail_if_success (with_reducible refine Exists.intro ?_ ?_)); (first | (apply Ob.of; (first | with_reducible assumption | with_reducible exact ex20 _ _ | with_reducible exact ex21 _ _ | with_reducible exact ex30 _ _ _ | with_reducible exact ex31 _ _ _ | with_reducible exact ex32 _ _ _ | rfl | (exact ald rfl rfl (by assumption) rfl) | (exact ald_agg rfl rfl rfl (by assumption) rfl)); (conv => whnf)) | (apply bIf.yes; (first | assumption | rfl); (conv => whnf)) | (apply bIf.no; (first | assumption | rfl); (conv => whnf)) | ((with_reducible refine Ob.load (by with_unfolding_all assumption) ?_); (conv => whnf)) | (apply Grows.mk; (first | exact Grow.refl _ | assumption); (conv => whnf)))))
  refine Ob2.alloc rfl fun q2 H2 hq2 a2 g2 => ?_
  (try (conv => whnf)); (repeat ((fail_if_success (with_reducible refine And.intro ?_ ?_)); (fail_if_success (with_reducible refine Exists.intro ?_ ?_)); (first | (apply Ob.of; (first | with_reducible assumption | with_reducible exact ex20 _ _ | with_reducible exact ex21 _ _ | with_reducible exact ex30 _ _ _ | with_reducible exact ex31 _ _ _ | with_reducible exact ex32 _ _ _ | rfl | (exact ald rfl rfl (by assumption) rfl) | (exact ald_agg rfl rfl rfl (by assumption) rfl)); (conv => whnf)) | (apply bIf.yes; (first | assumption | rfl); (conv => whnf)) | (apply bIf.no; (first | assumption | rfl); (conv => whnf)) | ((with_reducible refine Ob.load (by with_unfolding_all assumption) ?_); (conv => whnf)) | (apply Grows.mk; (first | exact Grow.refl _ | assumption); (conv => whnf)))))
  refine (up_ax H2 _ id).mono ?_
  rintro _ H3 ⟨a, b, rfl, g3, ha, hb⟩
  have c2 := g3.at a2
  have g := g2.trans g3
  (try (conv => whnf)); (repeat ((fail_if_success (with_reducible refine And.intro ?_ ?_)); (fail_if_success (with_reducible refine Exists.intro ?_ ?_)); (first | (apply Ob.of; (first | with_reducible assumption | with_reducible exact ex20 _ _ | with_reducible exact ex21 _ _ | with_reducible exact ex30 _ _ _ | with_reducible exact ex31 _ _ _ | with_reducible exact ex32 _ _ _ | rfl | (exact ald rfl rfl (by assumption) rfl) | (exact ald_agg rfl rfl rfl (by assumption) rfl)); (conv => whnf)) | (apply bIf.yes; (first | assumption | rfl); (conv => whnf)) | (apply bIf.no; (first | assumption | rfl); (conv => whnf)) | ((with_reducible refine Ob.load (by with_unfolding_all assumption) ?_); (conv => whnf)) | (apply Grows.mk; (first | exact Grow.refl _ | assumption); (conv => whnf)))))
  have fo3 := h.grow g
  have hq2 : q2 < H3.length := lt_at c2
  have hHl : H.length ≤ q2 := by omega
  have ha3 : a < H3.length := lt_at ha
  have hb3 : b < H3.length := lt_at hb
  have ea : a ≠ q2 := by rintro rfl; rw [c2] at ha; simp at ha
  have eb : b ≠ q2 := by rintro rfl; rw [c2] at hb; simp at hb
  refine SD.rangeFunc (gf := 25) (cap := #[.pointer (some ⟨a, 0, none⟩), .pointer (some ⟨b, 0, none⟩)]) rfl ?_
  generalize hR : Blk.lrec 19 _ LoopState.ready none #[10] _ _ = R
  refine (up1_ax (q := H3.length + 1) (a := a) (b := b) (id := id) hid
    (J := fun i X => FoR X fb G most av rb S ∧ X[a]? = some (.cells .var [.pointer (some ⟨fb, 0, none⟩)]) ∧ X[b]? = some (.cells .var [.int .i64 id]) ∧
      (∃ sv, X[q2]? = some (.cells .var [sv]) ∧ OwnR 1 3 intR X sv (NN.drop (NN.length - i)).reverse ∧ ∀ b, blkIs sv b → H3.length + 2 ≤ b) ∧
      X[H3.length]? = some .defd ∧ X[H3.length + 1]? = some R ∧ Grow H X)
    (Jx := fun X => False)
    (fun i X hX => ⟨hX.1, hblk_of hX.2.1, hblk_of hX.2.2.1⟩) ?_ ?_).mono ?_
  · rintro i X k x hi ⟨f, ya, yb, ⟨sv, y2, yo, ybk⟩, yd, yr, yg⟩ hS hlen hnm
    subst hR
    rw [hNN] at hi hlen hnm
    have hXl : H3.length + 2 ≤ X.length := by have := lt_of_get yr; omega
    refine YX.round yr (by decide) ?_
    (try (conv => whnf)); (repeat ((fail_if_success (with_reducible refine And.intro ?_ ?_)); (fail_if_success (with_reducible refine Exists.intro ?_ ?_)); (first | (apply Ob.of; (first | with_reducible assumption | with_reducible exact ex20 _ _ | with_reducible exact ex21 _ _ | with_reducible exact ex30 _ _ _ | with_reducible exact ex31 _ _ _ | with_reducible exact ex32 _ _ _ | rfl | (exact ald rfl rfl (by assumption) rfl) | (exact ald_agg rfl rfl rfl (by assumption) rfl)); (conv => whnf)) | (apply bIf.yes; (first | assumption | rfl); (conv => whnf)) | (apply bIf.no; (first | assumption | rfl); (conv => whnf)) | ((with_reducible refine Ob.load (by with_unfolding_all assumption) ?_); (conv => whnf)) | (apply Grows.mk; (first | exact Grow.refl _ | assumption); (conv => whnf)))))
    refine Ob2.alloc rfl fun q3 X3 hq3 a3 k3 => ?_
    (try (conv => whnf)); (repeat ((fail_if_success (with_reducible refine And.intro ?_ ?_)); (fail_if_success (with_reducible refine Exists.intro ?_ ?_)); (first | (apply Ob.of; (first | with_reducible assumption | with_reducible exact ex20 _ _ | with_reducible exact ex21 _ _ | with_reducible exact ex30 _ _ _ | with_reducible exact ex31 _ _ _ | with_reducible exact ex32 _ _ _ | rfl | (exact ald rfl rfl (by assumption) rfl) | (exact ald_agg rfl rfl rfl (by assumption) rfl)); (conv => whnf)) | (apply bIf.yes; (first | assumption | rfl); (conv => whnf)) | (apply bIf.no; (first | assumption | rfl); (conv => whnf)) | ((with_reducible refine Ob.load (by with_unfolding_all assumption) ?_); (conv => whnf)) | (apply Grows.mk; (first | exact Grow.refl _ | assumption); (conv => whnf)))))
    refine Ob.store rfl rfl rfl a3 rfl (by first | exact Nat.le_of_ble_eq_true rfl | simp) fun Z s3 s4 s5 => ?_
    (try (conv => whnf)); (repeat ((fail_if_success (with_reducible refine And.intro ?_ ?_)); (fail_if_success (with_reducible refine Exists.intro ?_ ?_)); (first | (apply Ob.of; (first | with_reducible assumption | with_reducible exact ex20 _ _ | with_reducible exact ex21 _ _ | with_reducible exact ex30 _ _ _ | with_reducible exact ex31 _ _ _ | with_reducible exact ex32 _ _ _ | rfl | (exact ald rfl rfl (by assumption) rfl) | (exact ald_agg rfl rfl rfl (by assumption) rfl)); (conv => whnf)) | (apply bIf.yes; (first | assumption | rfl); (conv => whnf)) | (apply bIf.no; (first | assumption | rfl); (conv => whnf)) | ((with_reducible refine Ob.load (by with_unfolding_all assumption) ?_); (conv => whnf)) | (apply Grows.mk; (first | exact Grow.refl _ | assumption); (conv => whnf)))))
    have kz : ∀ {p : Nat} {B : Blk}, p < q3 → X[p]? = some B → Z[p]? = some B := fun hp h => by rw [s4.2 _ (by have := lt_at (k3.at h); exact this) (by omega)]; exact k3.at h
    refine ⟨kz (by omega) yr, ?_⟩
    have hZl : X.length + 1 ≤ Z.length := by have := lt_at a3; omega
    have w2 := kz (by omega) y2
    have wd := kz (by omega) yd
    have wr := kz (by omega) yr
    have wa := kz (by omega) ya
    have wb := kz (by omega) yb
    have wg : Grow X Z := ⟨by have := k3.1; omega, fun p hp => by rw [s4.2 p (by have := k3.1; omega) (by omega)]; exact k3.2 p hp⟩
    have wo : OwnR 1 3 intR Z sv (NN.drop (NN.length - i)).reverse := yo.keep (fun b c _ hb => wg.at hb) fun _ _ _ h => h
    generalize hU : Z.set (H3.length + 1) _ = U
    have u0 : hblk U q3 = some (oneL x) := hblk_of (by rw [← hU]; exact set_at s3 (by omega))
    have u2 : hblk U q2 = some [sv] := hblk_of (by rw [← hU]; exact set_at w2 (by omega))
    have uo : OwnR 1 3 intR U sv (NN.drop (NN.length - i)).reverse := wo.keep (fun b c hb h => by rw [← hU]; exact set_at h (by have := ybk b hb; omega)) fun _ _ _ h => h
    obtain ⟨sa, sn, sm, rfl⟩ := wo.form
    (try (conv => whnf)); (repeat ((fail_if_success (with_reducible refine And.intro ?_ ?_)); (fail_if_success (with_reducible refine Exists.intro ?_ ?_)); (first | (apply Ob.of; (first | with_reducible assumption | with_reducible exact ex20 _ _ | with_reducible exact ex21 _ _ | with_reducible exact ex30 _ _ _ | with_reducible exact ex31 _ _ _ | with_reducible exact ex32 _ _ _ | rfl | (exact ald rfl rfl (by assumption) rfl) | (exact ald_agg rfl rfl rfl (by assumption) rfl)); (conv => whnf)) | (apply bIf.yes; (first | assumption | rfl); (conv => whnf)) | (apply bIf.no; (first | assumption | rfl); (conv => whnf)) | ((with_reducible refine Ob.load (by with_unfolding_all assumption) ?_); (conv => whnf)) | (apply Grows.mk; (first | exact Grow.refl _ | assumption); (conv => whnf)))))
    refine Ob2.lay (H := U) (.cells (.row 3) [.int .i64 x.1.name]) (.slice (some ⟨U.length, 0, none⟩) 1 1) rfl fun U2 b2 e2 l2 => ?_
    have hUl : U.length = Z.length := by rw [← hU]; simp
    obtain ⟨U3, ap, o3, f3, n3⟩ := OwnR.append (n := H3.length + 2) (x := x.1.name) rowI rowI (uo.keep (fun b c _ h => e2.at h) fun _ _ _ h => h) b2 rfl rfl ybk (by omega) (by simp; omega) (fun _ _ _ _ _ h => h)
    have uG : Grow H U := by rw [← hU]; exact FoR.grow_set (yg.trans wg) (by omega)
    have k3' : ∀ {p : Nat} {B : Blk}, p < H3.length + 2 → U[p]? = some B → U3[p]? = some B := fun hp h => f3.2 _ _ (e2.at h) (.inl hp)
    have v2 : U3[q2]? = some (.cells .var [.slice sa sn sm]) := k3' (by omega) (by rw [← hU]; exact set_at w2 (by omega))
    (try (conv => whnf)); (repeat ((fail_if_success (with_reducible refine And.intro ?_ ?_)); (fail_if_success (with_reducible refine Exists.intro ?_ ?_)); (first | (apply Ob.of; (first | with_reducible assumption | with_reducible exact ex20 _ _ | with_reducible exact ex21 _ _ | with_reducible exact ex30 _ _ _ | with_reducible exact ex31 _ _ _ | with_reducible exact ex32 _ _ _ | rfl | (exact ald rfl rfl (by assumption) rfl) | (exact ald_agg rfl rfl rfl (by assumption) rfl)); (conv => whnf)) | (apply bIf.yes; (first | assumption | rfl); (conv => whnf)) | (apply bIf.no; (first | assumption | rfl); (conv => whnf)) | ((with_reducible refine Ob.load (by with_unfolding_all assumption) ?_); (conv => whnf)) | (apply Grows.mk; (first | exact Grow.refl _ | assumption); (conv => whnf)))))
    refine Ob2.of ap ?_
    (try (conv => whnf)); (repeat ((fail_if_success (with_reducible refine And.intro ?_ ?_)); (fail_if_success (with_reducible refine Exists.intro ?_ ?_)); (first | (apply Ob.of; (first | with_reducible assumption | with_reducible exact ex20 _ _ | with_reducible exact ex21 _ _ | with_reducible exact ex30 _ _ _ | with_reducible exact ex31 _ _ _ | with_reducible exact ex32 _ _ _ | rfl | (exact ald rfl rfl (by assumption) rfl) | (exact ald_agg rfl rfl rfl (by assumption) rfl)); (conv => whnf)) | (apply bIf.yes; (first | assumption | rfl); (conv => whnf)) | (apply bIf.no; (first | assumption | rfl); (conv => whnf)) | ((with_reducible refine Ob.load (by with_unfolding_all assumption) ?_); (conv => whnf)) | (apply Grows.mk; (first | exact Grow.refl _ | assumption); (conv => whnf)))))
    refine Ob.store rfl rfl rfl v2 rfl (by first | exact Nat.le_of_ble_eq_true rfl | simp) fun V s3' s4' s5' => ?_
    have kV : ∀ {p : Nat} {B : Blk}, p < H3.length + 2 → p ≠ q2 → U[p]? = some B → V[p]? = some B := fun hp hq h => by rw [s4'.2 _ (lt_at (k3' hp h)) hq]; exact k3' hp h
    have gV : Grow H V := by
      have g3' := f3.grow (uG.trans e2) (by omega)
      exact ⟨by have := g3'.1; omega, fun p hp => by rw [s4'.2 p (by have := g3'.1; omega) (by omega)]; exact g3'.2 p hp⟩
    have vR := kV (p := H3.length + 1) (by omega) (by omega) (by rw [← hU]; exact set_self wr)
    have vo : OwnR 1 3 intR V (.slice (some ⟨U2.length, 0, none⟩) ((NN.drop (NN.length - i)).reverse.length + 1) 1) ((NN.drop (NN.length - i)).reverse ++ [x.1.name]) := o3.keep (fun b c hb h => by
      obtain ⟨n', k', hb⟩ := hb
      simp only [Value.slice.injEq, Option.some.injEq, Addr.mk.injEq, and_true] at hb
      rw [s4'.2 _ (lt_at h) (by omega)]; exact h) fun _ _ _ h => h
    have ed : (NN.drop (NN.length - (i + 1))).reverse = (NN.drop (NN.length - i)).reverse ++ [x.1.name] := by
      rw [show NN.length - (i + 1) = NN.length - i - 1 by omega, List.drop_eq_getElem_cons (by omega), List.reverse_cons, show NN.length - i - 1 + 1 = NN.length - i by omega]
      congr 2
      rw [List.getElem?_eq_getElem (by omega)] at hnm
      simpa using hnm
    (try (conv => whnf)); (repeat ((fail_if_success (with_reducible refine And.intro ?_ ?_)); (fail_if_success (with_reducible refine Exists.intro ?_ ?_)); (first | (apply Ob.of; (first | with_reducible assumption | with_reducible exact ex20 _ _ | with_reducible exact ex21 _ _ | with_reducible exact ex30 _ _ _ | with_reducible exact ex31 _ _ _ | with_reducible exact ex32 _ _ _ | rfl | (exact ald rfl rfl (by assumption) rfl) | (exact ald_agg rfl rfl rfl (by assumption) rfl)); (conv => whnf)) | (apply bIf.yes; (first | assumption | rfl); (conv => whnf)) | (apply bIf.no; (first | assumption | rfl); (conv => whnf)) | ((with_reducible refine Ob.load (by with_unfolding_all assumption) ?_); (conv => whnf)) | (apply Grows.mk; (first | exact Grow.refl _ | assumption); (conv => whnf)))))
    refine ⟨vR, .inl ⟨rfl, h.grow (FoR.grow_set gV (by omega)), set_at (kV (by omega) (by omega) (by rw [← hU]; exact set_at wa (by omega))) (by omega), set_at (kV (by omega) (by omega) (by rw [← hU]; exact set_at wb (by omega))) (by omega),
      ⟨_, set_at s3' (by omega), ?_, fun b hb => ?_⟩, set_at (kV (by omega) (by omega) (by rw [← hU]; exact set_at wd (by omega))) (by omega), set_self vR, FoR.grow_set gV (by omega)⟩⟩
    · rw [ed]
      exact vo.keep (fun b c hb h => set_at h (by
        obtain ⟨n', k', hb⟩ := hb
        simp only [Value.slice.injEq, Option.some.injEq, Addr.mk.injEq, and_true] at hb
        omega)) fun _ _ _ h => h
    · obtain ⟨n', k', hb⟩ := hb
      simp only [Value.slice.injEq, Option.some.injEq, Addr.mk.injEq, and_true] at hb
      omega
  · have gg : Grow H3 (H3 ++ [.defd] ++ [R]) := (Grow.push _ _).trans (.push _ _)
    refine ⟨fo3.grow gg, gg.at ha, gg.at hb, ⟨_, gg.at c2, ?_, fun b hb => ?_⟩, by simp, by simp, g.trans gg⟩
    · exact .inl ⟨rfl, by simp⟩
    · obtain ⟨n', k', hb⟩ := hb
      simp at hb
  · rintro _ Y (⟨f, ya, yb, ⟨sv, y2, yo, ybk⟩, yd, yr, yg⟩ | hF)
    · subst hR
      rw [hNN, Nat.sub_self, List.drop_zero] at yo
      have hYl := lt_of_get yr
      refine ⟨_, _, yr, by simp, ?_⟩
      obtain ⟨sa, sn, sm, rfl⟩ := yo.form
      generalize hW : Y.set (H3.length + 1) .dead = W
      have w2 : hblk W q2 = some [.slice sa sn sm] := hblk_of (by rw [← hW]; exact set_at y2 (by omega))
      have w2' : W[q2]? = some (.cells .var [.slice sa sn sm]) := by rw [← hW]; exact set_at y2 (by omega)
      have wd : W[H3.length]? = some .defd := by rw [← hW]; exact set_at yd (by omega)
      have wG : Grow H W := by rw [← hW]; exact FoR.grow_set yg (by omega)
      have wo : OwnR 1 3 intR W (.slice sa sn sm) NN.reverse := yo.keep (fun b c hb h => by rw [← hW]; exact set_at h (by have := ybk b hb; omega)) fun _ _ _ h => h
      (conv => whnf)
      (try (conv => whnf)); (repeat ((fail_if_success (with_reducible refine And.intro ?_ ?_)); (fail_if_success (with_reducible refine Exists.intro ?_ ?_)); (first | (apply Ob.of; (first | with_reducible assumption | with_reducible exact ex20 _ _ | with_reducible exact ex21 _ _ | with_reducible exact ex30 _ _ _ | with_reducible exact ex31 _ _ _ | with_reducible exact ex32 _ _ _ | rfl | (exact ald rfl rfl (by assumption) rfl) | (exact ald_agg rfl rfl rfl (by assumption) rfl)); (conv => whnf)) | (apply bIf.yes; (first | assumption | rfl); (conv => whnf)) | (apply bIf.no; (first | assumption | rfl); (conv => whnf)) | ((with_reducible refine Ob.load (by with_unfolding_all assumption) ?_); (conv => whnf)) | (apply Grows.mk; (first | exact Grow.refl _ | assumption); (conv => whnf)))))
      refine (Reverse_ax wo (by simp; omega)).mono ?_
      rintro _ V ⟨vo, vl, vk⟩
      have v2 : hblk V q2 = some [.slice sa sn sm] := hblk_of (by rw [vk q2 fun hb => by have := ybk q2 hb; omega]; exact w2')
      have vd : V[H3.length]? = some .defd := by rw [vk _ fun hb => by have := ybk _ hb; omega]; exact wd
      rw [List.reverse_reverse] at vo
      have vG : Grow H V := ⟨by rw [vl]; exact wG.1, fun p hp => by rw [vk p fun hb => by have := ybk p hb; omega]; exact wG.2 p hp⟩
      (try (conv => whnf)); (repeat ((fail_if_success (with_reducible refine And.intro ?_ ?_)); (fail_if_success (with_reducible refine Exists.intro ?_ ?_)); (first | (apply Ob.of; (first | with_reducible assumption | with_reducible exact ex20 _ _ | with_reducible exact ex21 _ _ | with_reducible exact ex30 _ _ _ | with_reducible exact ex31 _ _ _ | with_reducible exact ex32 _ _ _ | rfl | (exact ald rfl rfl (by assumption) rfl) | (exact ald_agg rfl rfl rfl (by assumption) rfl)); (conv => whnf)) | (apply bIf.yes; (first | assumption | rfl); (conv => whnf)) | (apply bIf.no; (first | assumption | rfl); (conv => whnf)) | ((with_reducible refine Ob.load (by with_unfolding_all assumption) ?_); (conv => whnf)) | (apply Grows.mk; (first | exact Grow.refl _ | assumption); (conv => whnf)))))
      refine ⟨by simp, by intro q hq; simp at hq; subst hq; exact vd, ?_⟩
      (conv => whnf)
      refine ⟨vo.keep (fun b c hb h => set_at h (by have := ybk b hb; omega)) fun _ _ _ h => h, FoR.grow_set vG (by omega), fun b hb => by have := ybk b hb; omega⟩
    · exact hF.elim
end Go.Proofs.Ytmcniodiehfbpaa
/- Package shape: a shape made; a prototype's shape. -/
set_option linter.unusedVariables false
set_option linter.unusedSimpArgs false
set_option maxRecDepth 20000
set_option maxHeartbeats 4000000
namespace Go.Proofs.Ytmcniodiehfbpaa
open Go Ax
theorem rowS : RowOK Try.prog 40 50 5 := ⟨rfl, ⟨_, rfl, rfl, by decide⟩, ⟨_, rfl, rfl⟩, by decide, ⟨_, rfl, rfl⟩⟩
/-- A shape more: the rows alone. -/
theorem grow_ax {H : Heap} {fb most rb : Nat} {av : Value} {S : List SX} (hb : H[fb]? = some (.cells .var [av, .map (some rb), .int .i64 (most : Int)])) (ho : OwnR 5 50 oneR H av S) (hS : S.length ≤ 150) (x : SX) :
    AX Try.prog 24 #[.pointer (some ⟨fb, 0, none⟩), oneV x] H (fun v H' => (most ≤ S.length ∧ v = .int .i64 0 ∧ Grow H H') ∨
      (S.length < most ∧ v = .int .i64 ((S.length + 1 : Nat) : Int) ∧ ∃ av', H'[fb]? = some (.cells .var [av', .map (some rb), .int .i64 (most : Int)]) ∧ OwnR 5 50 oneR H' av' (S ++ [x]) ∧ H.length ≤ H'.length ∧
        ∀ q X, H[q]? = some X → q ≠ fb → (∀ c, X ≠ .cells (.row 50) c) → H'[q]? = some X)) := by
  obtain ⟨sa, sn, sm, rfl⟩ := ho.form
  refine AX.body (n := 30) (rs := [.tmp 4]) Try.func24 rfl (by decide) rfl rfl (bC_sound _ _ _ _ ?_)
  (conv => whnf)
  refine Ob2.box rfl fun q1 H1 hq1 a1 g1 => ?_
  have b1 := hblk_of (g1.at hb)
  have ln := fun X => ho.rl.len (P := Try.prog) (t := 40) (e := 50) rfl X
  (try (conv => whnf)); (repeat ((fail_if_success (with_reducible refine And.intro ?_ ?_)); (fail_if_success (with_reducible refine Exists.intro ?_ ?_)); (first | (apply Ob.of; (first | with_reducible assumption | with_reducible exact ex20 _ _ | with_reducible exact ex21 _ _ | with_reducible exact ex30 _ _ _ | with_reducible exact ex31 _ _ _ | with_reducible exact ex32 _ _ _ | rfl | (exact ald rfl rfl (by assumption) rfl) | (exact ald_agg rfl rfl rfl (by assumption) rfl)); (conv => whnf)) | (apply bIf.yes; (first | assumption | rfl); (conv => whnf)) | (apply bIf.no; (first | assumption | rfl); (conv => whnf)) | ((with_reducible refine Ob.load (by with_unfolding_all assumption) ?_); (conv => whnf)) | (apply Grows.mk; (first | exact Grow.refl _ | assumption); (conv => whnf)))))
  apply SW.drawH [(0, [], [10, 11, 12, 13], false), (1, [(5, 0)], [5, 10, 11, 12, 13], false), (2, [(5, 0), (6, 1)], [5, 6, 10, 11, 12, 13], false), (3, [(5, 0), (6, 1), (7, 2)], [5, 6, 7, 10, 11, 12, 13], false), (4, [(5, 0), (6, 1), (7, 2), (8, 3)], [5, 6, 7, 8, 10, 11, 12, 13], false), (5, [], [5, 6, 7, 8, 9], false), (6, [(10, 5)], [5, 6, 7, 8, 9, 10], false), (7, [(10, 5), (11, 6)], [5, 6, 7, 8, 9, 10, 11], false), (8, [(10, 5), (11, 6), (12, 7)], [5, 6, 7, 8, 9, 10, 11, 12], false), (9, [(5, 0), (6, 1), (7, 2), (8, 3), (9, 4), (10, 5), (11, 6), (12, 7), (13, 8)], [5, 6, 7, 8, 9, 10, 11, 12, 13], false)]
    [(5, 0), (6, 1), (7, 2), (8, 3), (9, 4), (10, 5), (11, 6), (12, 7), (13, 8), (14, 9)] []
    [(0, _), (3, _)] rfl (by kernel_rfl)
  case hF => exact ⟨rfl, rfl, trivial⟩
  have ln1 := ln H1
  (try (conv => whnf)); (repeat ((fail_if_success (with_reducible refine And.intro ?_ ?_)); (fail_if_success (with_reducible refine Exists.intro ?_ ?_)); (first | (apply Ob.of; (first | with_reducible assumption | with_reducible exact ex20 _ _ | with_reducible exact ex21 _ _ | with_reducible exact ex30 _ _ _ | with_reducible exact ex31 _ _ _ | with_reducible exact ex32 _ _ _ | rfl | (exact ald rfl rfl (by assumption) rfl) | (exact ald_agg rfl rfl rfl (by assumption) rfl)); (conv => whnf)) | (apply bIf.yes; (first | assumption | rfl); (conv => whnf)) | (apply bIf.no; (first | assumption | rfl); (conv => whnf)) | ((with_reducible refine Ob.load (by with_unfolding_all assumption) ?_); (conv => whnf)) | (apply Grows.mk; (first | exact Grow.refl _ | assumption); (conv => whnf)))))
  by_cases hm : most ≤ S.length
  · have d1 : decide ((S.length : Int) ≥ (most : Int)) = true := decide_eq_true (by omega)
    (try (conv => whnf)); (repeat ((fail_if_success (with_reducible refine And.intro ?_ ?_)); (fail_if_success (with_reducible refine Exists.intro ?_ ?_)); (first | (apply Ob.of; (first | with_reducible assumption | with_reducible exact ex20 _ _ | with_reducible exact ex21 _ _ | with_reducible exact ex30 _ _ _ | with_reducible exact ex31 _ _ _ | with_reducible exact ex32 _ _ _ | rfl | (exact ald rfl rfl (by assumption) rfl) | (exact ald_agg rfl rfl rfl (by assumption) rfl)); (conv => whnf)) | (apply bIf.yes; (first | assumption | rfl); (conv => whnf)) | (apply bIf.no; (first | assumption | rfl); (conv => whnf)) | ((with_reducible refine Ob.load (by with_unfolding_all assumption) ?_); (conv => whnf)) | (apply Grows.mk; (first | exact Grow.refl _ | assumption); (conv => whnf)))))
    exact .inl ⟨hm, rfl, g1⟩
  · have d1 : decide ((S.length : Int) ≥ (most : Int)) = false := decide_eq_false (by omega)
    have c1 := hblk_of a1
    (try (conv => whnf)); (repeat ((fail_if_success (with_reducible refine And.intro ?_ ?_)); (fail_if_success (with_reducible refine Exists.intro ?_ ?_)); (first | (apply Ob.of; (first | with_reducible assumption | with_reducible exact ex20 _ _ | with_reducible exact ex21 _ _ | with_reducible exact ex30 _ _ _ | with_reducible exact ex31 _ _ _ | with_reducible exact ex32 _ _ _ | rfl | (exact ald rfl rfl (by assumption) rfl) | (exact ald_agg rfl rfl rfl (by assumption) rfl)); (conv => whnf)) | (apply bIf.yes; (first | assumption | rfl); (conv => whnf)) | (apply bIf.no; (first | assumption | rfl); (conv => whnf)) | ((with_reducible refine Ob.load (by with_unfolding_all assumption) ?_); (conv => whnf)) | (apply Grows.mk; (first | exact Grow.refl _ | assumption); (conv => whnf)))))
    apply SW.drawH [(0, [], [16, 17, 18, 19, 20, 21, 22], false), (1, [], [15, 20, 21], false), (2, [(16, 1)], [15, 16, 20, 21], false), (3, [(16, 1), (17, 2)], [15, 16, 17, 20, 21], false), (4, [(16, 1), (17, 2), (18, 3)], [15, 16, 17, 18, 20, 21], false), (5, [], [15, 16, 17, 18, 19], false), (6, [(20, 5)], [15, 16, 17, 18, 19, 20], true), (7, [(16, 1), (17, 2), (18, 3), (19, 4), (20, 5), (21, 6)], [15, 16, 17, 18, 19, 20, 21], true), (8, [(15, 0), (16, 1), (17, 2), (18, 3), (19, 4), (20, 5), (21, 6), (22, 7)], [15, 16, 17, 18, 19, 20, 21, 22], false), (9, [(15, 0), (16, 1), (17, 2), (18, 3), (19, 4), (20, 5), (21, 6), (22, 7), (23, 8)], [15, 16, 17, 18, 19, 20, 21, 22, 23], false), (10, [(15, 0), (16, 1), (17, 2), (18, 3), (19, 4), (20, 5), (21, 6), (22, 7), (23, 8), (24, 9)], [15, 16, 17, 18, 19, 20, 21, 22, 23, 24], true)]
      [(15, 0), (16, 1), (17, 2), (18, 3), (19, 4), (20, 5), (21, 6), (22, 7), (23, 8), (24, 9)] [6]
      [(0, _), (3, _)] rfl (by kernel_rfl)
    case hF => exact ⟨rfl, rfl, trivial⟩
    (try (conv => whnf)); (repeat ((fail_if_success (with_reducible refine And.intro ?_ ?_)); (fail_if_success (with_reducible refine Exists.intro ?_ ?_)); (first | (apply Ob.of; (first | with_reducible assumption | with_reducible exact ex20 _ _ | with_reducible exact ex21 _ _ | with_reducible exact ex30 _ _ _ | with_reducible exact ex31 _ _ _ | with_reducible exact ex32 _ _ _ | rfl | (exact ald rfl rfl (by assumption) rfl) | (exact ald_agg rfl rfl rfl (by assumption) rfl)); (conv => whnf)) | (apply bIf.yes; (first | assumption | rfl); (conv => whnf)) | (apply bIf.no; (first | assumption | rfl); (conv => whnf)) | ((with_reducible refine Ob.load (by with_unfolding_all assumption) ?_); (conv => whnf)) | (apply Grows.mk; (first | exact Grow.refl _ | assumption); (conv => whnf)))))
    refine Ob2.lay (H := H1) (.cells (.row 50) (oneL x)) (.slice (some ⟨H1.length, 0, none⟩) 1 5) rfl fun H2 a2 g2 l2 => ?_
    have g12 := g1.trans g2
    obtain ⟨H3, ap, o3, f3, n3⟩ := OwnR.append (n := 0) (x := x) (l := oneL x) (f := oneR) rowS rowS (ho.keep (fun b c _ h => g12.at h) fun _ _ _ h => h) a2 rfl rfl (fun _ _ => Nat.zero_le _) (Nat.zero_le _) (by omega) (fun _ _ _ _ _ h => h)
    have b3 := f3.2 fb _ (g12.at hb) (.inr fun c he => by simp at he)
    (try (conv => whnf)); (repeat ((fail_if_success (with_reducible refine And.intro ?_ ?_)); (fail_if_success (with_reducible refine Exists.intro ?_ ?_)); (first | (apply Ob.of; (first | with_reducible assumption | with_reducible exact ex20 _ _ | with_reducible exact ex21 _ _ | with_reducible exact ex30 _ _ _ | with_reducible exact ex31 _ _ _ | with_reducible exact ex32 _ _ _ | rfl | (exact ald rfl rfl (by assumption) rfl) | (exact ald_agg rfl rfl rfl (by assumption) rfl)); (conv => whnf)) | (apply bIf.yes; (first | assumption | rfl); (conv => whnf)) | (apply bIf.no; (first | assumption | rfl); (conv => whnf)) | ((with_reducible refine Ob.load (by with_unfolding_all assumption) ?_); (conv => whnf)) | (apply Grows.mk; (first | exact Grow.refl _ | assumption); (conv => whnf)))))
    refine Ob2.of ap ?_
    (try (conv => whnf)); (repeat ((fail_if_success (with_reducible refine And.intro ?_ ?_)); (fail_if_success (with_reducible refine Exists.intro ?_ ?_)); (first | (apply Ob.of; (first | with_reducible assumption | with_reducible exact ex20 _ _ | with_reducible exact ex21 _ _ | with_reducible exact ex30 _ _ _ | with_reducible exact ex31 _ _ _ | with_reducible exact ex32 _ _ _ | rfl | (exact ald rfl rfl (by assumption) rfl) | (exact ald_agg rfl rfl rfl (by assumption) rfl)); (conv => whnf)) | (apply bIf.yes; (first | assumption | rfl); (conv => whnf)) | (apply bIf.no; (first | assumption | rfl); (conv => whnf)) | ((with_reducible refine Ob.load (by with_unfolding_all assumption) ?_); (conv => whnf)) | (apply Grows.mk; (first | exact Grow.refl _ | assumption); (conv => whnf)))))
    refine Ob.store (b := fb) (off := 0) rfl rfl rfl b3 rfl (by first | exact Nat.le_of_ble_eq_true rfl | simp) fun H4 s4 k4 l4 => ?_
    have hf3 : ∀ q X, H[q]? = some X → q ≠ fb → (∀ c, X ≠ .cells (.row 50) c) → H4[q]? = some X := fun q X hq hne hX => by
      have := f3.2 q X (g12.at hq) (.inr hX)
      rw [k4.2 q (lt_at this) hne]
      exact this
    have b4 := hblk_of s4
    have o4 : OwnR 5 50 oneR H4 (.slice (some ⟨H2.length, 0, none⟩) (S.length + 1) 5) (S ++ [x]) := o3.keep (fun b c hb' h => by
      have hne : b ≠ fb := by rintro rfl; rw [b3] at h; simp at h
      rw [k4.2 b (lt_at h) hne]; exact h) fun _ _ _ h => h
    have ln4 := o4.rl.len (P := Try.prog) (t := 40) (e := 50) rfl H4
    rw [List.length_append, List.length_singleton] at ln4
    (try (conv => whnf)); (repeat ((fail_if_success (with_reducible refine And.intro ?_ ?_)); (fail_if_success (with_reducible refine Exists.intro ?_ ?_)); (first | (apply Ob.of; (first | with_reducible assumption | with_reducible exact ex20 _ _ | with_reducible exact ex21 _ _ | with_reducible exact ex30 _ _ _ | with_reducible exact ex31 _ _ _ | with_reducible exact ex32 _ _ _ | rfl | (exact ald rfl rfl (by assumption) rfl) | (exact ald_agg rfl rfl rfl (by assumption) rfl)); (conv => whnf)) | (apply bIf.yes; (first | assumption | rfl); (conv => whnf)) | (apply bIf.no; (first | assumption | rfl); (conv => whnf)) | ((with_reducible refine Ob.load (by with_unfolding_all assumption) ?_); (conv => whnf)) | (apply Grows.mk; (first | exact Grow.refl _ | assumption); (conv => whnf)))))
    exact .inr ⟨by omega, rfl, _, s4, o4, by have := g12.1; have := f3.1; omega, hf3⟩
theorem kids_new {G : Fo} (w : WF G) {i : Nat} (hi : G.length ≤ i) : kidsF G 0 (i + 1) = [] := by
  rw [List.eq_nil_iff_forall_not_mem]
  rintro ⟨n, j⟩ hm
  obtain ⟨m, s, h1, h2, _, _⟩ := mem_kidsF.1 hm
  have := lt_of_get h1
  have := (w.kid m s h1 (by omega)).1
  omega
theorem kids_other {G : Fo} {x : Shp} {i : Nat} (h : x.parent ≠ i) : kidsF (G ++ [x]) 0 i = kidsF G 0 i := by rw [kidsF_app, if_neg h, List.append_nil]
theorem kids_own {G : Fo} {x : Shp} {i : Nat} (h : x.parent = i) : kidsF (G ++ [x]) 0 i = kidsF G 0 i ++ [(x.key, G.length + 1)] := by rw [kidsF_app, if_pos h, Nat.zero_add]
theorem get_app2 {α : Type} {G : List α} {x s : α} {k : Nat} (h : (G ++ [x])[k]? = some s) : G[k]? = some s ∨ k = G.length ∧ s = x := by
  by_cases hk : k < G.length
  · rw [List.getElem?_append_left hk] at h; exact .inl h
  · rw [List.getElem?_append_right (by omega)] at h
    have h0 : k - G.length = 0 := by have := lt_of_get h; simp at this; omega
    rw [h0] at h
    simp only [List.getElem?_cons_zero, Option.some.injEq] at h
    exact .inr ⟨by omega, h.symm⟩
theorem FoR.made {H : Heap} {fb most rb : Nat} {G : Fo} {av : Value} {S : List SX} {x : Shp} (blk : H[fb]? = some (.cells .var [av, .map (some rb), .int .i64 (most : Int)])) (row : OwnR 5 50 oneR H av (S ++ [(x, none)])) (fst : S.map Prod.fst = G)
    (rts : H[rb]? = some (.map true (ents (kidsF (G ++ [x]) 0 0)))) (maps : ∀ (k : Nat) (s : Shp) (nx : Option Nat), S[k]? = some (s, nx) → KidMap H rb (kidsF (G ++ [x]) 0 (k + 1)) nx)
    (inj : ∀ (j k : Nat) (s t : Shp) (b : Nat), S[j]? = some (s, some b) → S[k]? = some (t, some b) → j = k) (w : WF G) (hx : x.parent ≤ G.length) (room : Room (G ++ [x]) most) : FoR H fb (G ++ [x]) most av rb (S ++ [(x, none)]) where
  blk := blk
  row := row
  fst := by rw [List.map_append, fst]; rfl
  rts := rts
  maps := fun k s nx h => by
    rcases get_app2 h with h | ⟨rfl, e⟩
    · exact maps k s nx h
    · simp only [Prod.mk.injEq] at e
      obtain ⟨rfl, rfl⟩ := e
      have hl : S.length = G.length := by rw [← fst, List.length_map]
      show kidsF _ 0 _ = []
      rw [kids_other (by omega), kids_new w (by omega)]
  inj := fun j k s t b hj hk => by
    rcases get_app2 hj with hj | ⟨_, e⟩
    · rcases get_app2 hk with hk | ⟨_, e⟩
      · exact inj j k s t b hj hk
      · simp at e
    · simp at e
  room := room
theorem Root_ax {H : Heap} {fb most rb : Nat} {G : Fo} {av : Value} {S : List SX} (h : FoR H fb G most av rb S) (proto : Int) :
    AX Try.prog 17 #[.pointer (some ⟨fb, 0, none⟩), .int .i64 proto] H (fun v H' => v = .int .i64 (rootF G most proto).1 ∧ (∃ av' S', FoR H' fb (rootF G most proto).2 most av' rb S') ∧ FrF fb H H') := by
  obtain ⟨r1, _⟩ := rootF_ok h.room proto
  have hlen := h.len
  have hr := h.room
  have b0 := hblk_of h.blk
  refine AX.body (n := 44) (rs := [.tmp 4]) Try.func17 rfl (by decide) rfl rfl (bC_sound _ _ _ _ ?_)
  by_cases h0 : proto < 0
  · have d0 : decide (proto < 0) = true := decide_eq_true h0
    have e0 : rootF G most proto = (0, G) := by unfold rootF; rw [if_pos h0]
    rw [e0]
    (try (conv => whnf)); (repeat ((fail_if_success (with_reducible refine And.intro ?_ ?_)); (fail_if_success (with_reducible refine Exists.intro ?_ ?_)); (first | (apply Ob.of; (first | with_reducible assumption | with_reducible exact ex20 _ _ | with_reducible exact ex21 _ _ | with_reducible exact ex30 _ _ _ | with_reducible exact ex31 _ _ _ | with_reducible exact ex32 _ _ _ | rfl | (exact ald rfl rfl (by assumption) rfl) | (exact ald_agg rfl rfl rfl (by assumption) rfl)); (conv => whnf)) | (apply bIf.yes; (first | assumption | rfl); (conv => whnf)) | (apply bIf.no; (first | assumption | rfl); (conv => whnf)) | ((with_reducible refine Ob.load (by with_unfolding_all assumption) ?_); (conv => whnf)) | (apply Grows.mk; (first | exact Grow.refl _ | assumption); (conv => whnf)))))
    exact ⟨rfl, ⟨_, _, h⟩, .refl _ _⟩
  · have d0 : decide (proto < 0) = false := decide_eq_false h0
    rcases look_i (n := proto) h.rts with ⟨hl, he⟩ | ⟨k, hl, he⟩
    · (try (conv => whnf)); (repeat ((fail_if_success (with_reducible refine And.intro ?_ ?_)); (fail_if_success (with_reducible refine Exists.intro ?_ ?_)); (first | (apply Ob.of; (first | with_reducible assumption | with_reducible exact ex20 _ _ | with_reducible exact ex21 _ _ | with_reducible exact ex30 _ _ _ | with_reducible exact ex31 _ _ _ | with_reducible exact ex32 _ _ _ | rfl | (exact ald rfl rfl (by assumption) rfl) | (exact ald_agg rfl rfl rfl (by assumption) rfl)); (conv => whnf)) | (apply bIf.yes; (first | assumption | rfl); (conv => whnf)) | (apply bIf.no; (first | assumption | rfl); (conv => whnf)) | ((with_reducible refine Ob.load (by with_unfolding_all assumption) ?_); (conv => whnf)) | (apply Grows.mk; (first | exact Grow.refl _ | assumption); (conv => whnf)))))
      refine (grow_ax h.blk h.row (by have := hr.few; have := hr.most; omega) (⟨0, 0, proto, []⟩, none)).mono ?_
      rintro _ H2 (⟨hm, rfl, g2⟩ | ⟨hm, rfl, av', b2, o2, l2, f2⟩)
      · have e0 : rootF G most proto = (0, G) := by unfold rootF; rw [if_neg h0, hl]; simp only; rw [if_pos (by omega)]
        rw [e0]
        (try (conv => whnf)); (repeat ((fail_if_success (with_reducible refine And.intro ?_ ?_)); (fail_if_success (with_reducible refine Exists.intro ?_ ?_)); (first | (apply Ob.of; (first | with_reducible assumption | with_reducible exact ex20 _ _ | with_reducible exact ex21 _ _ | with_reducible exact ex30 _ _ _ | with_reducible exact ex31 _ _ _ | with_reducible exact ex32 _ _ _ | rfl | (exact ald rfl rfl (by assumption) rfl) | (exact ald_agg rfl rfl rfl (by assumption) rfl)); (conv => whnf)) | (apply bIf.yes; (first | assumption | rfl); (conv => whnf)) | (apply bIf.no; (first | assumption | rfl); (conv => whnf)) | ((with_reducible refine Ob.load (by with_unfolding_all assumption) ?_); (conv => whnf)) | (apply Grows.mk; (first | exact Grow.refl _ | assumption); (conv => whnf)))))
        exact ⟨rfl, ⟨_, _, h.grow g2⟩, .of g2⟩
      · have e0 : rootF G most proto = (((G.length + 1 : Nat) : Int), G ++ [⟨0, 0, proto, []⟩]) := by unfold rootF; rw [if_neg h0, hl]; simp only; rw [if_neg (by omega)]
        rw [e0] at r1 ⊢
        have d1 : decide (((S.length + 1 : Nat) : Int) > 0) = true := decide_eq_true (by omega)
        have m2 := f2 rb _ h.rts (fun e => by have := h.rts; rw [e, h.blk] at this; simp at this) (fun c e => by simp at e)
        have up := upd_i (k := S.length + 1) m2 hl
        have c2 := hblk_of b2
        have hne : fb ≠ rb := fun e => by rw [← e, b2] at m2; simp at m2
        (try (conv => whnf)); (repeat ((fail_if_success (with_reducible refine And.intro ?_ ?_)); (fail_if_success (with_reducible refine Exists.intro ?_ ?_)); (first | (apply Ob.of; (first | with_reducible assumption | with_reducible exact ex20 _ _ | with_reducible exact ex21 _ _ | with_reducible exact ex30 _ _ _ | with_reducible exact ex31 _ _ _ | with_reducible exact ex32 _ _ _ | rfl | (exact ald rfl rfl (by assumption) rfl) | (exact ald_agg rfl rfl rfl (by assumption) rfl)); (conv => whnf)) | (apply bIf.yes; (first | assumption | rfl); (conv => whnf)) | (apply bIf.no; (first | assumption | rfl); (conv => whnf)) | ((with_reducible refine Ob.load (by with_unfolding_all assumption) ?_); (conv => whnf)) | (apply Grows.mk; (first | exact Grow.refl _ | assumption); (conv => whnf)))))
        refine ⟨by rw [hlen]; rfl, ⟨av', S ++ [(⟨0, 0, proto, []⟩, none)], .made (set_at b2 hne) (o2.keep (fun b c _ hb => set_at hb fun e => by rw [e, m2] at hb; simp at hb) fun _ _ _ h => h) h.fst ?_ (fun k s nx hk => ?_) h.inj hr.wf (Nat.zero_le _) r1⟩, by simp; omega, fun q X hq hX => ?_⟩
        · rw [set_self m2, kids_own rfl, hlen]; rfl
        · rw [kids_other (by show 0 ≠ k + 1; omega)]
          have := h.maps k s nx hk
          cases nx with
          | none => exact this
          | some b => exact ⟨set_at (f2 b _ this.1 (fun e => by have := this.1; rw [e, h.blk] at this; simp at this) (fun c e => by simp at e)) this.2, this.2⟩
        · have hq2 := f2 q X hq (fun e => hX (.inl e)) fun c e => hX (.inr (.inl ⟨c, e⟩))
          refine set_at hq2 fun e => ?_
          rw [e, m2] at hq2
          simp only [Option.some.injEq] at hq2
          exact hX (.inr (.inr ⟨_, hq2.symm⟩))
    · have e0 : rootF G most proto = ((k : Int), G) := by unfold rootF; rw [if_neg h0, hl]
      rw [e0]
      (try (conv => whnf)); (repeat ((fail_if_success (with_reducible refine And.intro ?_ ?_)); (fail_if_success (with_reducible refine Exists.intro ?_ ?_)); (first | (apply Ob.of; (first | with_reducible assumption | with_reducible exact ex20 _ _ | with_reducible exact ex21 _ _ | with_reducible exact ex30 _ _ _ | with_reducible exact ex31 _ _ _ | with_reducible exact ex32 _ _ _ | rfl | (exact ald rfl rfl (by assumption) rfl) | (exact ald_agg rfl rfl rfl (by assumption) rfl)); (conv => whnf)) | (apply bIf.yes; (first | assumption | rfl); (conv => whnf)) | (apply bIf.no; (first | assumption | rfl); (conv => whnf)) | ((with_reducible refine Ob.load (by with_unfolding_all assumption) ?_); (conv => whnf)) | (apply Grows.mk; (first | exact Grow.refl _ | assumption); (conv => whnf)))))
      exact ⟨rfl, ⟨_, _, h⟩, .refl _ _⟩
end Go.Proofs.Ytmcniodiehfbpaa
/- Package shape: one name more. -/
set_option linter.unusedVariables false
set_option linter.unusedSimpArgs false
set_option maxRecDepth 20000
set_option maxHeartbeats 4000000
namespace Go.Proofs.Ytmcniodiehfbpaa
open Go Ax
theorem names_of {H : Heap} {fb most rb : Nat} {G : Fo} {av : Value} {S : List SX} (h : FoR H fb G most av rb S) {id : Int} (hid : 1 ≤ id ∧ id ≤ S.length) {x : SX} (hx : S[id.toNat - 1]? = some x) : atF G id = some x.1 := by
  have := atF_get (h.G_get (s := x.1) (nx := x.2) hx)
  rwa [show ((id.toNat - 1 : Nat) : Int) + 1 = id by omega] at this
theorem ShpAt.get {H : Heap} {av : Value} {S : List SX} {k : Nat} {x : SX} {v : Value} (h : ShpAt H av S k x v) : S[k]? = some x := by obtain ⟨_, _, _, _, _, _, h⟩ := h; exact h
theorem Len_ax {H : Heap} {fb most rb : Nat} {G : Fo} {av : Value} {S : List SX} (h : FoR H fb G most av rb S) :
    AX Try.prog 9 #[.pointer (some ⟨fb, 0, none⟩)] H (fun v H' => v = .int .i64 (G.length : Int) ∧ H' = H) := by
  have hb := hblk_of h.blk
  have hl : alen Try.prog 40 av H = some (.int .i64 S.length) := h.row.rl.len rfl _
  rw [h.len] at hl
  refine AX.body (n := 10) (rs := [.tmp 2]) Try.func9 rfl (by decide) rfl rfl (bC_sound _ _ _ _ ?_)
  (try (conv => whnf)); (repeat ((fail_if_success (with_reducible refine And.intro ?_ ?_)); (fail_if_success (with_reducible refine Exists.intro ?_ ?_)); (first | (apply Ob.of; (first | with_reducible assumption | with_reducible exact ex20 _ _ | with_reducible exact ex21 _ _ | with_reducible exact ex30 _ _ _ | with_reducible exact ex31 _ _ _ | with_reducible exact ex32 _ _ _ | rfl | (exact ald rfl rfl (by assumption) rfl) | (exact ald_agg rfl rfl rfl (by assumption) rfl)); (conv => whnf)) | (apply bIf.yes; (first | assumption | rfl); (conv => whnf)) | (apply bIf.no; (first | assumption | rfl); (conv => whnf)) | ((with_reducible refine Ob.load (by with_unfolding_all assumption) ?_); (conv => whnf)) | (apply Grows.mk; (first | exact Grow.refl _ | assumption); (conv => whnf)))))
  exact ⟨rfl, rfl⟩
theorem Parent_ax {H : Heap} {fb most rb : Nat} {G : Fo} {av : Value} {S : List SX} (h : FoR H fb G most av rb S) (id : Int) (hid : -9223372036854775808 ≤ id) :
    AX Try.prog 16 #[.pointer (some ⟨fb, 0, none⟩), .int .i64 id] H (fun v H' => v = .int .i64 (match atF G id with | some s => (s.parent : Int) | none => 0) ∧ H' = H) := by
  refine AX.body (n := 15) (rs := [.tmp 4]) Try.func16 rfl (by decide) rfl rfl (bC_sound _ _ _ _ ?_)
  (try (conv => whnf)); (repeat ((fail_if_success (with_reducible refine And.intro ?_ ?_)); (fail_if_success (with_reducible refine Exists.intro ?_ ?_)); (first | (apply Ob.of; (first | with_reducible assumption | with_reducible exact ex20 _ _ | with_reducible exact ex21 _ _ | with_reducible exact ex30 _ _ _ | with_reducible exact ex31 _ _ _ | with_reducible exact ex32 _ _ _ | rfl | (exact ald rfl rfl (by assumption) rfl) | (exact ald_agg rfl rfl rfl (by assumption) rfl)); (conv => whnf)) | (apply bIf.yes; (first | assumption | rfl); (conv => whnf)) | (apply bIf.no; (first | assumption | rfl); (conv => whnf)) | ((with_reducible refine Ob.load (by with_unfolding_all assumption) ?_); (conv => whnf)) | (apply Grows.mk; (first | exact Grow.refl _ | assumption); (conv => whnf)))))
  refine (find_ax h id hid).mono ?_
  rintro v X ⟨hv, e⟩
  subst X
  rcases hv with ⟨h1, rfl⟩ | ⟨h1, x, hx⟩
  · rw [atF_none (by have := h.len; omega)]
    (try (conv => whnf)); (repeat ((fail_if_success (with_reducible refine And.intro ?_ ?_)); (fail_if_success (with_reducible refine Exists.intro ?_ ?_)); (first | (apply Ob.of; (first | with_reducible assumption | with_reducible exact ex20 _ _ | with_reducible exact ex21 _ _ | with_reducible exact ex30 _ _ _ | with_reducible exact ex31 _ _ _ | with_reducible exact ex32 _ _ _ | rfl | (exact ald rfl rfl (by assumption) rfl) | (exact ald_agg rfl rfl rfl (by assumption) rfl)); (conv => whnf)) | (apply bIf.yes; (first | assumption | rfl); (conv => whnf)) | (apply bIf.no; (first | assumption | rfl); (conv => whnf)) | ((with_reducible refine Ob.load (by with_unfolding_all assumption) ?_); (conv => whnf)) | (apply Grows.mk; (first | exact Grow.refl _ | assumption); (conv => whnf)))))
    exact ⟨rfl, rfl⟩
  · rw [names_of h h1 hx.get]
    obtain ⟨pb, rfl, i1, i2, i3, i4, i5, i6⟩ := hx.ld
    (try (conv => whnf)); (repeat ((fail_if_success (with_reducible refine And.intro ?_ ?_)); (fail_if_success (with_reducible refine Exists.intro ?_ ?_)); (first | (apply Ob.of; (first | with_reducible assumption | with_reducible exact ex20 _ _ | with_reducible exact ex21 _ _ | with_reducible exact ex30 _ _ _ | with_reducible exact ex31 _ _ _ | with_reducible exact ex32 _ _ _ | rfl | (exact ald rfl rfl (by assumption) rfl) | (exact ald_agg rfl rfl rfl (by assumption) rfl)); (conv => whnf)) | (apply bIf.yes; (first | assumption | rfl); (conv => whnf)) | (apply bIf.no; (first | assumption | rfl); (conv => whnf)) | ((with_reducible refine Ob.load (by with_unfolding_all assumption) ?_); (conv => whnf)) | (apply Grows.mk; (first | exact Grow.refl _ | assumption); (conv => whnf)))))
    exact ⟨rfl, rfl⟩
theorem Proto_ax {H : Heap} {fb most rb : Nat} {G : Fo} {av : Value} {S : List SX} (h : FoR H fb G most av rb S) (id : Int) (hid : -9223372036854775808 ≤ id) :
    AX Try.prog 12 #[.pointer (some ⟨fb, 0, none⟩), .int .i64 id] H (fun v H' => v = (match atF G id with | some s => .tuple #[.int .i64 s.proto, .bool true] | none => .tuple #[.int .i64 0, .bool false]) ∧ H' = H) := by
  refine AX.body (n := 16) (rs := [.tmp 4, .tmp 5]) Try.func12 rfl (by decide) rfl rfl (bC_sound _ _ _ _ ?_)
  (try (conv => whnf)); (repeat ((fail_if_success (with_reducible refine And.intro ?_ ?_)); (fail_if_success (with_reducible refine Exists.intro ?_ ?_)); (first | (apply Ob.of; (first | with_reducible assumption | with_reducible exact ex20 _ _ | with_reducible exact ex21 _ _ | with_reducible exact ex30 _ _ _ | with_reducible exact ex31 _ _ _ | with_reducible exact ex32 _ _ _ | rfl | (exact ald rfl rfl (by assumption) rfl) | (exact ald_agg rfl rfl rfl (by assumption) rfl)); (conv => whnf)) | (apply bIf.yes; (first | assumption | rfl); (conv => whnf)) | (apply bIf.no; (first | assumption | rfl); (conv => whnf)) | ((with_reducible refine Ob.load (by with_unfolding_all assumption) ?_); (conv => whnf)) | (apply Grows.mk; (first | exact Grow.refl _ | assumption); (conv => whnf)))))
  refine (find_ax h id hid).mono ?_
  rintro v X ⟨hv, e⟩
  subst X
  rcases hv with ⟨h1, rfl⟩ | ⟨h1, x, hx⟩
  · rw [atF_none (by have := h.len; omega)]
    (try (conv => whnf)); (repeat ((fail_if_success (with_reducible refine And.intro ?_ ?_)); (fail_if_success (with_reducible refine Exists.intro ?_ ?_)); (first | (apply Ob.of; (first | with_reducible assumption | with_reducible exact ex20 _ _ | with_reducible exact ex21 _ _ | with_reducible exact ex30 _ _ _ | with_reducible exact ex31 _ _ _ | with_reducible exact ex32 _ _ _ | rfl | (exact ald rfl rfl (by assumption) rfl) | (exact ald_agg rfl rfl rfl (by assumption) rfl)); (conv => whnf)) | (apply bIf.yes; (first | assumption | rfl); (conv => whnf)) | (apply bIf.no; (first | assumption | rfl); (conv => whnf)) | ((with_reducible refine Ob.load (by with_unfolding_all assumption) ?_); (conv => whnf)) | (apply Grows.mk; (first | exact Grow.refl _ | assumption); (conv => whnf)))))
    exact ⟨rfl, rfl⟩
  · rw [names_of h h1 hx.get]
    obtain ⟨pb, rfl, i1, i2, i3, i4, i5, i6⟩ := hx.ld
    (try (conv => whnf)); (repeat ((fail_if_success (with_reducible refine And.intro ?_ ?_)); (fail_if_success (with_reducible refine Exists.intro ?_ ?_)); (first | (apply Ob.of; (first | with_reducible assumption | with_reducible exact ex20 _ _ | with_reducible exact ex21 _ _ | with_reducible exact ex30 _ _ _ | with_reducible exact ex31 _ _ _ | with_reducible exact ex32 _ _ _ | rfl | (exact ald rfl rfl (by assumption) rfl) | (exact ald_agg rfl rfl rfl (by assumption) rfl)); (conv => whnf)) | (apply bIf.yes; (first | assumption | rfl); (conv => whnf)) | (apply bIf.no; (first | assumption | rfl); (conv => whnf)) | ((with_reducible refine Ob.load (by with_unfolding_all assumption) ?_); (conv => whnf)) | (apply Grows.mk; (first | exact Grow.refl _ | assumption); (conv => whnf)))))
    exact ⟨rfl, rfl⟩
theorem slots_set {c : List Value} {o k j : Nat} {v : Value} {l : List Value} (h : slotsOf c o k = some l) (hj : j < k) : slotsOf (c.set (o + j) v) o k = some (l.set j v) := by
  unfold slotsOf at h
  split at h
  · rename_i hle
    simp only [Option.some.injEq] at h
    subst h
    rw [slots_of (by simpa using hle)]
    congr 1
    apply List.ext_getElem?
    intro i
    rw [List.getElem?_take, List.getElem?_drop, List.getElem?_set, List.getElem?_set, List.getElem?_take, List.getElem?_drop]
    by_cases hi : i < k
    · by_cases hij : j = i
      · subst hij
        rw [if_pos hi, if_pos rfl, if_pos (by omega), if_pos rfl, if_pos (by rw [List.length_take, List.length_drop]; omega)]
      · simp [hi, hij]
    · have : j ≠ i := by omega
      simp [hi, this]
  · simp at h
theorem slots_set_ne {c : List Value} {o k p : Nat} {v : Value} (h : p < o ∨ o + k ≤ p) : slotsOf (c.set p v) o k = slotsOf c o k := by
  unfold slotsOf
  simp only [List.length_set]
  split
  · congr 1
    apply List.ext_getElem?
    intro i
    rw [List.getElem?_take, List.getElem?_take, List.getElem?_drop, List.getElem?_drop]
    by_cases hi : i < k
    · rw [if_pos hi, if_pos hi, List.getElem?_set_ne (by omega)]
    · rw [if_neg hi, if_neg hi]
  · rfl
/-- One cell of an element is written. -/
theorem OwnR.put1 {α : Type} {k : Nat} {e : TypeId} {f : Heap → List Value → α → Prop} {A B : Heap} {b i j : Nat} {c l : List Value} {L : List α} {x x' : α} {v : Value} (hc : c.length = L.length * k) (h4 : ∀ (i : Nat) x, L[i]? = some x → ∃ l, slotsOf c (i * k) k = some l ∧ f A l x)
    (hB : B[b]? = some (.cells (.row e) (putL c (i * k + j) [v]))) (hi : L[i]? = some x) (hl : slotsOf c (i * k) k = some l) (hj : j < k) (hx' : f B (l.set j v) x') (hf : ∀ l x, f A l x → f B l x) : OwnR k e f B (.slice (some ⟨b, 0, none⟩) L.length k) (L.set i x') := by
  have hil := lt_of_get hi
  refine .inr ⟨b, c.set (i * k + j) v, by simp, hB, by simp [hc], fun i' y hy => ?_⟩
  by_cases hii : i = i'
  · subst hii
    rw [List.getElem?_set_self hil] at hy
    simp only [Option.some.injEq] at hy
    subst hy
    exact ⟨_, slots_set hl hj, hx'⟩
  · rw [List.getElem?_set_ne hii] at hy
    obtain ⟨w, k1, k2⟩ := h4 i' y hy
    refine ⟨w, ?_, hf _ _ k2⟩
    rw [slots_set_ne]; exact k1
    rcases Nat.lt_or_gt_of_ne hii with h | h
    · left
      have : (i + 1) * k ≤ i' * k := Nat.mul_le_mul_right _ h
      rw [Nat.succ_mul] at this; omega
    · right
      have : (i' + 1) * k ≤ i * k := Nat.mul_le_mul_right _ h
      rw [Nat.succ_mul] at this; omega
theorem Add_ax {H : Heap} {fb most rb : Nat} {G : Fo} {av : Value} {S : List SX} (h : FoR H fb G most av rb S) (id name : Int) (hid : -9223372036854775808 ≤ id) :
    AX Try.prog 18 #[.pointer (some ⟨fb, 0, none⟩), .int .i64 id, .int .i64 name] H (fun v H' => v = .int .i64 (addF G most id name).1 ∧ (∃ av' S', FoR H' fb (addF G most id name).2 most av' rb S') ∧ FrF fb H H') := by
  have hlen := h.len
  have hr := h.room
  obtain ⟨r1, _⟩ := addF_ok hr id name
  have b0 := hblk_of h.blk
  refine AX.body (n := 76) (rs := [.tmp 6]) Try.func18 rfl (by decide) rfl rfl (bC_sound _ _ _ _ ?_)
  (try (conv => whnf)); (repeat ((fail_if_success (with_reducible refine And.intro ?_ ?_)); (fail_if_success (with_reducible refine Exists.intro ?_ ?_)); (first | (apply Ob.of; (first | with_reducible assumption | with_reducible exact ex20 _ _ | with_reducible exact ex21 _ _ | with_reducible exact ex30 _ _ _ | with_reducible exact ex31 _ _ _ | with_reducible exact ex32 _ _ _ | rfl | (exact ald rfl rfl (by assumption) rfl) | (exact ald_agg rfl rfl rfl (by assumption) rfl)); (conv => whnf)) | (apply bIf.yes; (first | assumption | rfl); (conv => whnf)) | (apply bIf.no; (first | assumption | rfl); (conv => whnf)) | ((with_reducible refine Ob.load (by with_unfolding_all assumption) ?_); (conv => whnf)) | (apply Grows.mk; (first | exact Grow.refl _ | assumption); (conv => whnf)))))
  refine (find_ax h id hid).mono ?_
  rintro v X ⟨hv, e⟩
  subst X
  rcases hv with ⟨h1, rfl⟩ | ⟨h1, x, hx⟩
  · have e0 : addF G most id name = (0, G) := by unfold addF; rw [atF_none (by omega)]
    rw [e0]
    (try (conv => whnf)); (repeat ((fail_if_success (with_reducible refine And.intro ?_ ?_)); (fail_if_success (with_reducible refine Exists.intro ?_ ?_)); (first | (apply Ob.of; (first | with_reducible assumption | with_reducible exact ex20 _ _ | with_reducible exact ex21 _ _ | with_reducible exact ex30 _ _ _ | with_reducible exact ex31 _ _ _ | with_reducible exact ex32 _ _ _ | rfl | (exact ald rfl rfl (by assumption) rfl) | (exact ald_agg rfl rfl rfl (by assumption) rfl)); (conv => whnf)) | (apply bIf.yes; (first | assumption | rfl); (conv => whnf)) | (apply bIf.no; (first | assumption | rfl); (conv => whnf)) | ((with_reducible refine Ob.load (by with_unfolding_all assumption) ?_); (conv => whnf)) | (apply Grows.mk; (first | exact Grow.refl _ | assumption); (conv => whnf)))))
    exact ⟨rfl, ⟨_, _, h⟩, .refl _ _⟩
  have hat := names_of h h1 hx.get
  obtain ⟨pb, rfl, i1, i2, i3, i4, i5, i6⟩ := hx.ld
  by_cases h12 : 12 ≤ x.1.names.length
  · have d1 : decide ((x.1.names.length : Int) ≥ 12) = true := decide_eq_true (by omega)
    have e0 : addF G most id name = (0, G) := by unfold addF; rw [hat]; simp only; rw [if_pos (.inl h12)]
    rw [e0]
    (try (conv => whnf)); (repeat ((fail_if_success (with_reducible refine And.intro ?_ ?_)); (fail_if_success (with_reducible refine Exists.intro ?_ ?_)); (first | (apply Ob.of; (first | with_reducible assumption | with_reducible exact ex20 _ _ | with_reducible exact ex21 _ _ | with_reducible exact ex30 _ _ _ | with_reducible exact ex31 _ _ _ | with_reducible exact ex32 _ _ _ | rfl | (exact ald rfl rfl (by assumption) rfl) | (exact ald_agg rfl rfl rfl (by assumption) rfl)); (conv => whnf)) | (apply bIf.yes; (first | assumption | rfl); (conv => whnf)) | (apply bIf.no; (first | assumption | rfl); (conv => whnf)) | ((with_reducible refine Ob.load (by with_unfolding_all assumption) ?_); (conv => whnf)) | (apply Grows.mk; (first | exact Grow.refl _ | assumption); (conv => whnf)))))
    exact ⟨rfl, ⟨_, _, h⟩, .refl _ _⟩
  have d1 : decide ((x.1.names.length : Int) ≥ 12) = false := decide_eq_false (by omega)
  have hnn : namesF G id = x.1.names := by unfold namesF; rw [hat]
  (try (conv => whnf)); (repeat ((fail_if_success (with_reducible refine And.intro ?_ ?_)); (fail_if_success (with_reducible refine Exists.intro ?_ ?_)); (first | (apply Ob.of; (first | with_reducible assumption | with_reducible exact ex20 _ _ | with_reducible exact ex21 _ _ | with_reducible exact ex30 _ _ _ | with_reducible exact ex31 _ _ _ | with_reducible exact ex32 _ _ _ | rfl | (exact ald rfl rfl (by assumption) rfl) | (exact ald_agg rfl rfl rfl (by assumption) rfl)); (conv => whnf)) | (apply bIf.yes; (first | assumption | rfl); (conv => whnf)) | (apply bIf.no; (first | assumption | rfl); (conv => whnf)) | ((with_reducible refine Ob.load (by with_unfolding_all assumption) ?_); (conv => whnf)) | (apply Grows.mk; (first | exact Grow.refl _ | assumption); (conv => whnf)))))
  refine (Slot_ax h id name hid).mono ?_
  rintro _ X ⟨rfl, e⟩
  subst X
  rw [hnn]
  by_cases hm : name ∈ x.1.names
  · have d2 : decide (slotF x.1.names name ≥ 0) = true := decide_eq_true (by unfold slotF; rw [if_pos hm]; omega)
    have e0 : addF G most id name = (0, G) := by unfold addF; rw [hat]; simp only; rw [if_pos (.inr hm)]
    rw [e0]
    (try (conv => whnf)); (repeat ((fail_if_success (with_reducible refine And.intro ?_ ?_)); (fail_if_success (with_reducible refine Exists.intro ?_ ?_)); (first | (apply Ob.of; (first | with_reducible assumption | with_reducible exact ex20 _ _ | with_reducible exact ex21 _ _ | with_reducible exact ex30 _ _ _ | with_reducible exact ex31 _ _ _ | with_reducible exact ex32 _ _ _ | rfl | (exact ald rfl rfl (by assumption) rfl) | (exact ald_agg rfl rfl rfl (by assumption) rfl)); (conv => whnf)) | (apply bIf.yes; (first | assumption | rfl); (conv => whnf)) | (apply bIf.no; (first | assumption | rfl); (conv => whnf)) | ((with_reducible refine Ob.load (by with_unfolding_all assumption) ?_); (conv => whnf)) | (apply Grows.mk; (first | exact Grow.refl _ | assumption); (conv => whnf)))))
    exact ⟨rfl, ⟨_, _, h⟩, .refl _ _⟩
  have d2 : decide (slotF x.1.names name ≥ 0) = false := decide_eq_false (by unfold slotF; rw [if_neg hm]; omega)
  have hcond : ¬ (12 ≤ x.1.names.length ∨ name ∈ x.1.names) := fun h => h.elim h12 hm
  have hmap := h.maps (id.toNat - 1) x.1 x.2 hx.get
  rw [show id.toNat - 1 + 1 = id.toNat by omega] at hmap
  have hS : S.length ≤ 150 := by have := hr.few; have := hr.most; omega
  have wsz : IntKind.i64.wrap ((x.1.names.length : Int) + 1) = ((x.1.names ++ [name]).length : Int) := by rw [wrap_i64 (by omega) (by omega)]; simp
  have hgx : oneV (⟨id.toNat, name, x.1.proto, x.1.names ++ [name]⟩, none) = .agg #[.int .i64 id, .int .i64 name, .int .i64 (IntKind.i64.wrap ((x.1.names.length : Int) + 1)), .int .i64 x.1.proto, .map none] := by
    rw [wsz]
    show Value.agg #[.int .i64 ((id.toNat : Nat) : Int), _, _, _, _] = _
    rw [show ((id.toNat : Nat) : Int) = id by omega]
  have hlook : (lookK (kidsF G 0 id.toNat) name = none ∧ alookup Try.prog 41 (.map x.2) (.int .i64 name) true H = some (.tuple #[.int .i64 0, .bool false])) ∨
      ∃ k, lookK (kidsF G 0 id.toNat) name = some k ∧ alookup Try.prog 41 (.map x.2) (.int .i64 name) true H = some (.tuple #[.int .i64 (k : Int), .bool true]) := by
    cases hx2 : x.2 with
    | none =>
      rw [hx2] at hmap
      have hmap : kidsF G 0 id.toNat = [] := hmap
      exact .inl ⟨by rw [hmap]; rfl, look_0⟩
    | some b =>
      rw [hx2] at hmap
      exact look_i hmap.1
  rcases hlook with ⟨hl, he⟩ | ⟨k, hl, he⟩
  rotate_left
  · have e0 : addF G most id name = ((k : Int), G) := by unfold addF; rw [hat]; simp only; rw [if_neg hcond, hl]
    rw [e0]
    (try (conv => whnf)); (repeat ((fail_if_success (with_reducible refine And.intro ?_ ?_)); (fail_if_success (with_reducible refine Exists.intro ?_ ?_)); (first | (apply Ob.of; (first | with_reducible assumption | with_reducible exact ex20 _ _ | with_reducible exact ex21 _ _ | with_reducible exact ex30 _ _ _ | with_reducible exact ex31 _ _ _ | with_reducible exact ex32 _ _ _ | rfl | (exact ald rfl rfl (by assumption) rfl) | (exact ald_agg rfl rfl rfl (by assumption) rfl)); (conv => whnf)) | (apply bIf.yes; (first | assumption | rfl); (conv => whnf)) | (apply bIf.no; (first | assumption | rfl); (conv => whnf)) | ((with_reducible refine Ob.load (by with_unfolding_all assumption) ?_); (conv => whnf)) | (apply Grows.mk; (first | exact Grow.refl _ | assumption); (conv => whnf)))))
    exact ⟨rfl, ⟨_, _, h⟩, .refl _ _⟩
  have gx := grow_ax h.blk h.row hS (⟨id.toNat, name, x.1.proto, x.1.names ++ [name]⟩, none)
  rw [hgx] at gx
  (try (conv => whnf)); (repeat ((fail_if_success (with_reducible refine And.intro ?_ ?_)); (fail_if_success (with_reducible refine Exists.intro ?_ ?_)); (first | (apply Ob.of; (first | with_reducible assumption | with_reducible exact ex20 _ _ | with_reducible exact ex21 _ _ | with_reducible exact ex30 _ _ _ | with_reducible exact ex31 _ _ _ | with_reducible exact ex32 _ _ _ | rfl | (exact ald rfl rfl (by assumption) rfl) | (exact ald_agg rfl rfl rfl (by assumption) rfl)); (conv => whnf)) | (apply bIf.yes; (first | assumption | rfl); (conv => whnf)) | (apply bIf.no; (first | assumption | rfl); (conv => whnf)) | ((with_reducible refine Ob.load (by with_unfolding_all assumption) ?_); (conv => whnf)) | (apply Grows.mk; (first | exact Grow.refl _ | assumption); (conv => whnf)))))
  apply SW.drawH [(0, [], [42, 43, 44, 45, 46, 47, 48, 49, 50, 51, 52, 53], false), (1, [], [41, 43, 44, 45, 46, 47, 48, 49, 50, 51, 52], false), (2, [], [41, 42, 44, 45, 46, 47, 48, 49, 50, 51, 52], false), (3, [], [41, 42, 43, 49, 50, 51, 52], false), (4, [(44, 3)], [41, 42, 43, 44, 49, 50, 51, 52], false), (5, [(44, 3), (45, 4)], [41, 42, 43, 44, 45, 49, 50, 51, 52], false), (6, [(44, 3), (45, 4), (46, 5)], [41, 42, 43, 44, 45, 46, 49, 50, 51, 52], false), (7, [(44, 3), (45, 4), (46, 5), (47, 6)], [41, 42, 43, 44, 45, 46, 47, 49, 50, 51, 52], false), (8, [], [41, 42, 43, 44, 45, 46, 47, 48], false), (9, [(49, 8)], [41, 42, 43, 44, 45, 46, 47, 48, 49], false), (10, [(49, 8), (50, 9)], [41, 42, 43, 44, 45, 46, 47, 48, 49, 50], false), (11, [(49, 8), (50, 9), (51, 10)], [41, 42, 43, 44, 45, 46, 47, 48, 49, 50, 51], false), (12, [(42, 1), (43, 2), (44, 3), (45, 4), (46, 5), (47, 6), (48, 7), (49, 8), (50, 9), (51, 10), (52, 11)], [41, 42, 43, 44, 45, 46, 47, 48, 49, 50, 51, 52], false), (13, [(41, 0), (42, 1), (43, 2), (44, 3), (45, 4), (46, 5), (47, 6), (48, 7), (49, 8), (50, 9), (51, 10), (52, 11), (53, 12)], [41, 42, 43, 44, 45, 46, 47, 48, 49, 50, 51, 52, 53], true), (14, [(41, 0), (42, 1), (43, 2), (44, 3), (45, 4), (46, 5), (47, 6), (48, 7), (49, 8), (50, 9), (51, 10), (52, 11), (53, 12), (54, 13)], [41, 42, 43, 44, 45, 46, 47, 48, 49, 50, 51, 52, 53, 54], false)]
    [(41, 0), (42, 1), (43, 2), (44, 3), (45, 4), (46, 5), (47, 6), (48, 7), (49, 8), (50, 9), (51, 10), (52, 11), (53, 12), (54, 13), (10, 14)] []
    [(0, _), (1, _), (2, _), (7, _)] rfl (by kernel_rfl)
  case hF => exact ⟨rfl, rfl, rfl, rfl, trivial⟩
  (try (conv => whnf)); (repeat ((fail_if_success (with_reducible refine And.intro ?_ ?_)); (fail_if_success (with_reducible refine Exists.intro ?_ ?_)); (first | (apply Ob.of; (first | with_reducible assumption | with_reducible exact ex20 _ _ | with_reducible exact ex21 _ _ | with_reducible exact ex30 _ _ _ | with_reducible exact ex31 _ _ _ | with_reducible exact ex32 _ _ _ | rfl | (exact ald rfl rfl (by assumption) rfl) | (exact ald_agg rfl rfl rfl (by assumption) rfl)); (conv => whnf)) | (apply bIf.yes; (first | assumption | rfl); (conv => whnf)) | (apply bIf.no; (first | assumption | rfl); (conv => whnf)) | ((with_reducible refine Ob.load (by with_unfolding_all assumption) ?_); (conv => whnf)) | (apply Grows.mk; (first | exact Grow.refl _ | assumption); (conv => whnf)))))
  refine gx.mono ?_
  rintro _ H2 (⟨hmo, rfl, g2⟩ | ⟨hmo, rfl, av', b2, o2, l2, f2⟩)
  · have e0 : addF G most id name = (0, G) := by unfold addF; rw [hat]; simp only; rw [if_neg hcond, hl]; simp only; rw [if_pos (by omega)]
    rw [e0]
    (try (conv => whnf)); (repeat ((fail_if_success (with_reducible refine And.intro ?_ ?_)); (fail_if_success (with_reducible refine Exists.intro ?_ ?_)); (first | (apply Ob.of; (first | with_reducible assumption | with_reducible exact ex20 _ _ | with_reducible exact ex21 _ _ | with_reducible exact ex30 _ _ _ | with_reducible exact ex31 _ _ _ | with_reducible exact ex32 _ _ _ | rfl | (exact ald rfl rfl (by assumption) rfl) | (exact ald_agg rfl rfl rfl (by assumption) rfl)); (conv => whnf)) | (apply bIf.yes; (first | assumption | rfl); (conv => whnf)) | (apply bIf.no; (first | assumption | rfl); (conv => whnf)) | ((with_reducible refine Ob.load (by with_unfolding_all assumption) ?_); (conv => whnf)) | (apply Grows.mk; (first | exact Grow.refl _ | assumption); (conv => whnf)))))
    exact ⟨rfl, ⟨_, _, h.grow g2⟩, .of g2⟩
  have e0 : addF G most id name = (((G.length + 1 : Nat) : Int), G ++ [⟨id.toNat, name, x.1.proto, x.1.names ++ [name]⟩]) := by unfold addF; rw [hat]; simp only; rw [if_neg hcond, hl]; simp only; rw [if_neg (by omega)]
  rw [e0] at r1 ⊢
  have d3 : (((S.length + 1 : Nat) : Int) == 0) = false := by simp; omega
  (try (conv => whnf)); (repeat ((fail_if_success (with_reducible refine And.intro ?_ ?_)); (fail_if_success (with_reducible refine Exists.intro ?_ ?_)); (first | (apply Ob.of; (first | with_reducible assumption | with_reducible exact ex20 _ _ | with_reducible exact ex21 _ _ | with_reducible exact ex30 _ _ _ | with_reducible exact ex31 _ _ _ | with_reducible exact ex32 _ _ _ | rfl | (exact ald rfl rfl (by assumption) rfl) | (exact ald_agg rfl rfl rfl (by assumption) rfl)); (conv => whnf)) | (apply bIf.yes; (first | assumption | rfl); (conv => whnf)) | (apply bIf.no; (first | assumption | rfl); (conv => whnf)) | ((with_reducible refine Ob.load (by with_unfolding_all assumption) ?_); (conv => whnf)) | (apply Grows.mk; (first | exact Grow.refl _ | assumption); (conv => whnf)))))
  refine (find0 b2 o2 (by simp; omega) id hid).mono ?_
  rintro v X ⟨hv, e⟩
  subst X
  rcases hv with ⟨hbad, _⟩ | ⟨_, y, hy⟩
  · exact absurd ⟨h1.1, by simp; omega⟩ hbad
  have hyx : y = x := by
    have e1 := hy.get
    rw [List.getElem?_append_left (by omega), hx.get] at e1
    simpa using e1.symm
  subst hyx
  have hrb : ∀ {b : Nat}, H[b]? = some (.map true (ents (kidsF G 0 0))) → b ≠ fb := fun hb e => by rw [e, h.blk] at hb; simp at hb
  have m0 := f2 rb _ h.rts (hrb h.rts) (fun c e => by simp at e)
  have hfr : fb ≠ rb := fun e => by rw [← e, b2] at m0; simp at m0
  have hid0 : id.toNat ≠ 0 := by omega
  have old : ∀ (k : Nat) (s : Shp) (b : Nat), S[k]? = some (s, some b) → H2[b]? = some (.map true (ents (kidsF G 0 (k + 1)))) ∧ b ≠ rb := fun k s b hk => by
    have := h.maps k s (some b) hk
    exact ⟨f2 b _ this.1 (fun e => by have := this.1; rw [e, h.blk] at this; simp at this) (fun c e => by simp at e), this.2⟩
  obtain ⟨pb', rfl, j1, j2, j3, j4, j5, j6⟩ := hy.ld
  cases hx2 : y.2 with
  | some mb =>
    rw [hx2] at hmap j6
    have m2 := (old (id.toNat - 1) y.1 mb (by rw [← hx2]; exact hx.get)).1
    rw [show id.toNat - 1 + 1 = id.toNat by omega] at m2
    have up := upd_i (k := S.length + 1) m2 hl
    have hfm : fb ≠ mb := fun e => by rw [← e, b2] at m2; simp at m2
    (try (conv => whnf)); (repeat ((fail_if_success (with_reducible refine And.intro ?_ ?_)); (fail_if_success (with_reducible refine Exists.intro ?_ ?_)); (first | (apply Ob.of; (first | with_reducible assumption | with_reducible exact ex20 _ _ | with_reducible exact ex21 _ _ | with_reducible exact ex30 _ _ _ | with_reducible exact ex31 _ _ _ | with_reducible exact ex32 _ _ _ | rfl | (exact ald rfl rfl (by assumption) rfl) | (exact ald_agg rfl rfl rfl (by assumption) rfl)); (conv => whnf)) | (apply bIf.yes; (first | assumption | rfl); (conv => whnf)) | (apply bIf.no; (first | assumption | rfl); (conv => whnf)) | ((with_reducible refine Ob.load (by with_unfolding_all assumption) ?_); (conv => whnf)) | (apply Grows.mk; (first | exact Grow.refl _ | assumption); (conv => whnf)))))
    refine ⟨by rw [hlen]; rfl, ⟨av', S ++ [(⟨id.toNat, name, y.1.proto, y.1.names ++ [name]⟩, none)], .made (set_at b2 hfm) (o2.keep (fun b c _ hb => set_at hb fun e => by rw [e, m2] at hb; simp at hb) fun _ _ _ h => h) h.fst ?_ (fun k s nx hk => ?_) h.inj hr.wf (by show id.toNat ≤ _; omega) r1⟩, by simp; omega, fun q X hq hX => ?_⟩
    · rw [kids_other (by show id.toNat ≠ 0; omega)]
      exact set_at m0 hmap.2.symm
    · by_cases hk1 : k = id.toNat - 1
      · subst hk1
        have e1 := hx.get
        rw [hk] at e1
        simp only [Option.some.injEq] at e1
        have e2 : nx = some mb := by rw [← hx2, ← e1]
        subst e2
        rw [kids_own (by show id.toNat = _; omega), show id.toNat - 1 + 1 = id.toNat by omega]
        refine ⟨?_, hmap.2⟩
        rw [set_self m2, hlen]
        show _ = some (Blk.map true (ents (_ ++ [(Shp.key _, _)])))
        unfold Shp.key
        rw [if_neg hid0]
      · rw [kids_other (by show id.toNat ≠ k + 1; omega)]
        cases nx with
        | none => exact h.maps k s none hk
        | some b =>
          refine ⟨set_at (old k s b hk).1 fun e => hk1 ?_, (old k s b hk).2⟩
          subst e
          exact h.inj k _ s y.1 b hk (by rw [← hx2]; exact hx.get)
    · have hq2 := f2 q X hq (fun e => hX (.inl e)) fun c e => hX (.inr (.inl ⟨c, e⟩))
      refine set_at hq2 fun e => ?_
      rw [e, m2] at hq2
      simp only [Option.some.injEq] at hq2
      exact hX (.inr (.inr ⟨_, hq2.symm⟩))
  | none =>
    rw [hx2] at hmap j6
    have hmap : kidsF G 0 id.toNat = [] := hmap
    (try (conv => whnf)); (repeat ((fail_if_success (with_reducible refine And.intro ?_ ?_)); (fail_if_success (with_reducible refine Exists.intro ?_ ?_)); (first | (apply Ob.of; (first | with_reducible assumption | with_reducible exact ex20 _ _ | with_reducible exact ex21 _ _ | with_reducible exact ex30 _ _ _ | with_reducible exact ex31 _ _ _ | with_reducible exact ex32 _ _ _ | rfl | (exact ald rfl rfl (by assumption) rfl) | (exact ald_agg rfl rfl rfl (by assumption) rfl)); (conv => whnf)) | (apply bIf.yes; (first | assumption | rfl); (conv => whnf)) | (apply bIf.no; (first | assumption | rfl); (conv => whnf)) | ((with_reducible refine Ob.load (by with_unfolding_all assumption) ?_); (conv => whnf)) | (apply Grows.mk; (first | exact Grow.refl _ | assumption); (conv => whnf)))))
    refine Ob2.lay (H := H2) (.map true []) (.map (some H2.length)) rfl fun H3 a3 g3 l3 => ?_
    obtain ⟨rb2, rc, e1, e2, e3, e4, e5⟩ := hy
    simp only [Value.pointer.injEq, Option.some.injEq, Addr.mk.injEq, and_true] at e2
    have e2 : pb' = rb2 := by first | exact e2 | exact e2.1
    subst e2
    have hcl : rc.length = (S.length + 1) * 5 ∧ ∀ (i : Nat) z, (S ++ [((⟨id.toNat, name, y.1.proto, y.1.names ++ [name]⟩ : Shp), (none : Option Nat))])[i]? = some z → ∃ l, slotsOf rc (i * 5) 5 = some l ∧ oneR H3 l z := by
      rcases o2 with ⟨_, e⟩ | ⟨b', c', k1, k2, k3, k4⟩
      · simp at e
      · rw [e1] at k1
        simp only [Value.slice.injEq, Option.some.injEq, Addr.mk.injEq, and_true] at k1
        have k1 : pb' = b' := by first | exact k1 | exact k1.1
        subst k1
        rw [e3] at k2
        simp only [Option.some.injEq, Blk.cells.injEq, true_and] at k2
        subst k2
        exact ⟨by simpa using k3, k4⟩
    have hil : (id.toNat - 1) * 5 + 5 ≤ rc.length := by
      rw [hcl.1]
      have : id.toNat - 1 + 1 ≤ S.length + 1 := by omega
      have := Nat.mul_le_mul_right 5 this
      omega
    (try (conv => whnf)); (repeat ((fail_if_success (with_reducible refine And.intro ?_ ?_)); (fail_if_success (with_reducible refine Exists.intro ?_ ?_)); (first | (apply Ob.of; (first | with_reducible assumption | with_reducible exact ex20 _ _ | with_reducible exact ex21 _ _ | with_reducible exact ex30 _ _ _ | with_reducible exact ex31 _ _ _ | with_reducible exact ex32 _ _ _ | rfl | (exact ald rfl rfl (by assumption) rfl) | (exact ald_agg rfl rfl rfl (by assumption) rfl)); (conv => whnf)) | (apply bIf.yes; (first | assumption | rfl); (conv => whnf)) | (apply bIf.no; (first | assumption | rfl); (conv => whnf)) | ((with_reducible refine Ob.load (by with_unfolding_all assumption) ?_); (conv => whnf)) | (apply Grows.mk; (first | exact Grow.refl _ | assumption); (conv => whnf)))))
    refine Ob.store (b := pb') (off := (id.toNat - 1) * 5 + 4) (vs := [.map (some H2.length)]) rfl rfl rfl (g3.at e3) rfl (by simp; omega) fun H4 s4 k4 l4 => ?_
    have hpl : pb' < H2.length := lt_at e3
    have m4 : H4[H2.length]? = some (.map true (ents ([] : List (Int × Nat)))) := by rw [k4.2 _ (lt_at a3) (by omega)]; exact a3
    have l7 : aload Try.prog 41 (.pointer (some ⟨pb', (id.toNat - 1) * 5 + 4, none⟩)) H4 = some (.map (some H2.length)) := ald rfl rfl (hblk_of s4) (by rw [putL_get, if_pos ⟨by omega, by simp, by omega⟩]; simp)
    have up := upd_i (k := S.length + 1) (n := name) m4 rfl
    have k24 : ∀ {q : Nat} {X : Blk}, H2[q]? = some X → q ≠ pb' → H4[q]? = some X := fun hq hne => by rw [k4.2 _ (lt_at (g3.at hq)) hne]; exact g3.at hq
    have hfp : fb ≠ pb' := fun e => by rw [← e, b2] at e3; simp at e3
    have hmp : ∀ {b : Nat} {es : List (Value × Value)}, H2[b]? = some (.map true es) → b ≠ pb' := fun hb e => by rw [e, e3] at hb; simp at hb
    have hrow : OwnR 5 50 oneR H4 av' (S.set (id.toNat - 1) (y.1, some H2.length) ++ [(⟨id.toNat, name, y.1.proto, y.1.names ++ [name]⟩, none)]) := by
      have := OwnR.put1 (B := H4) (x' := (y.1, some H2.length)) (j := 4) (v := .map (some H2.length)) (by rw [hcl.1]; simp) hcl.2 s4 (by rw [List.getElem?_append_left (by omega)]; exact hx.get) e4 (by decide) rfl (fun _ _ h => h)
      rw [List.set_append_left _ _ (by omega)] at this
      rw [e1]
      exact this
    have hset : ∀ (k : Nat) (s : Shp) (nx : Option Nat), (S.set (id.toNat - 1) (y.1, some H2.length))[k]? = some (s, nx) → (k = id.toNat - 1 ∧ nx = some H2.length) ∨ (k ≠ id.toNat - 1 ∧ S[k]? = some (s, nx)) := fun k s nx hk => by
      by_cases hk1 : id.toNat - 1 = k
      · subst hk1
        rw [List.getElem?_set_self (by omega)] at hk
        simp only [Option.some.injEq, Prod.mk.injEq] at hk
        exact .inl ⟨rfl, hk.2.symm⟩
      · rw [List.getElem?_set_ne hk1] at hk
        exact .inr ⟨fun e => hk1 e.symm, hk⟩
    (try (conv => whnf)); (repeat ((fail_if_success (with_reducible refine And.intro ?_ ?_)); (fail_if_success (with_reducible refine Exists.intro ?_ ?_)); (first | (apply Ob.of; (first | with_reducible assumption | with_reducible exact ex20 _ _ | with_reducible exact ex21 _ _ | with_reducible exact ex30 _ _ _ | with_reducible exact ex31 _ _ _ | with_reducible exact ex32 _ _ _ | rfl | (exact ald rfl rfl (by assumption) rfl) | (exact ald_agg rfl rfl rfl (by assumption) rfl)); (conv => whnf)) | (apply bIf.yes; (first | assumption | rfl); (conv => whnf)) | (apply bIf.no; (first | assumption | rfl); (conv => whnf)) | ((with_reducible refine Ob.load (by with_unfolding_all assumption) ?_); (conv => whnf)) | (apply Grows.mk; (first | exact Grow.refl _ | assumption); (conv => whnf)))))
    refine ⟨by rw [hlen]; rfl, ⟨av', S.set (id.toNat - 1) (y.1, some H2.length) ++ [(⟨id.toNat, name, y.1.proto, y.1.names ++ [name]⟩, none)], .made (set_at (k24 b2 hfp) (by have := lt_at b2; omega)) (hrow.keep (fun b c _ hb => set_at hb fun e => by rw [e, m4] at hb; simp at hb) fun _ _ _ h => h) ?_ ?_ (fun k s nx hk => ?_) ?_ hr.wf (by show id.toNat ≤ _; omega) r1⟩, by simp; have := g3.1; omega, fun q X hq hX => ?_⟩
    · rw [List.map_set, ← h.fst]
      apply List.ext_getElem?
      intro t
      by_cases ht : id.toNat - 1 = t
      · subst ht
        rw [List.getElem?_set_self (by simp; omega), List.getElem?_map, hx.get]; rfl
      · rw [List.getElem?_set_ne ht]
    · rw [kids_other (by show id.toNat ≠ 0; omega)]
      exact set_at (k24 m0 (hmp m0)) (by have := lt_at m0; omega)
    · rcases hset k s nx hk with ⟨rfl, rfl⟩ | ⟨hk1, hk2⟩
      · rw [kids_own (by show id.toNat = _; omega), show id.toNat - 1 + 1 = id.toNat by omega]
        refine ⟨?_, by have := lt_at m0; omega⟩
        rw [set_self m4, hlen, hmap]
        show _ = some (Blk.map true (ents (_ ++ [(Shp.key _, _)])))
        unfold Shp.key
        rw [if_neg hid0]
      · rw [kids_other (by show id.toNat ≠ k + 1; omega)]
        cases nx with
        | none => exact h.maps k s none hk2
        | some b =>
          have := old k s b hk2
          exact ⟨set_at (k24 this.1 (hmp this.1)) (by have := lt_at this.1; omega), this.2⟩
    · intro j k s t b hj hk
      rcases hset j s _ hj with ⟨rfl, e⟩ | ⟨hj1, hj2⟩
      · rcases hset k t _ hk with ⟨rfl, _⟩ | ⟨_, hk2⟩
        · rfl
        · simp only [Option.some.injEq] at e
          have := lt_at (old k t b hk2).1
          omega
      · rcases hset k t _ hk with ⟨rfl, e⟩ | ⟨_, hk2⟩
        · simp only [Option.some.injEq] at e
          have := lt_at (old j s b hj2).1
          omega
        · exact h.inj j k s t b hj2 hk2
    · have hq2 := f2 q X hq (fun e => hX (.inl e)) fun c e => hX (.inr (.inl ⟨c, e⟩))
      refine set_at (k24 hq2 fun e => ?_) (by have := lt_at hq2; omega)
      rw [e, e3] at hq2
      simp only [Option.some.injEq] at hq2
      exact hX (.inr (.inl ⟨_, hq2.symm⟩))
end Go.Proofs.Ytmcniodiehfbpaa
/- Package shape: a shape with another prototype; new forests. -/
set_option linter.unusedVariables false
set_option linter.unusedSimpArgs false
set_option maxRecDepth 20000
set_option maxHeartbeats 4000000
namespace Go.Proofs.Ytmcniodiehfbpaa
open Go Ax
theorem rootF_pos (G : Fo) (most : Nat) (proto : Int) : 0 ≤ (rootF G most proto).1 := by
  unfold rootF
  split
  · exact Int.le_refl _
  · split
    · exact Int.natCast_nonneg _
    · split
      · exact Int.le_refl _
      · exact Int.natCast_nonneg _
theorem addF_pos (G : Fo) (most : Nat) (id name : Int) : 0 ≤ (addF G most id name).1 := by
  unfold addF
  split
  · exact Int.le_refl _
  · split
    · exact Int.le_refl _
    · split
      · exact Int.natCast_nonneg _
      · split
        · exact Int.le_refl _
        · exact Int.natCast_nonneg _
theorem addsF_pos {most : Nat} : ∀ (L : List Int) (G : Fo) (to : Int), 0 ≤ to → 0 ≤ (addsF G most to L).1
  | [], G, to, h => h
  | n :: L, G, to, h => addsF_pos L _ _ (addF_pos G most to n)
theorem moveF_pos (G : Fo) (most : Nat) (id proto : Int) : 0 ≤ (moveF G most id proto).1 := by
  unfold moveF
  split
  · exact Int.le_refl _
  · exact addsF_pos _ _ _ (rootF_pos _ _ _)
theorem OwnR.frF {H H' X : Heap} {fb : Nat} {G : Fo} {most : Nat} {av : Value} {rb : Nat} {S : List SX} (h : FoR H fb G most av rb S) {v : Value} {L : List Int} (o : OwnR 1 3 intR H v L) (g : FrF fb H H') : OwnR 1 3 intR H' v L :=
  o.keep (fun b c _ hb => g.2 b _ hb fun e => by
    rcases e with e | ⟨c', e⟩ | ⟨es, e⟩
    · rw [e, h.blk] at hb; simp at hb
    · simp at e
    · simp at e) fun _ _ _ h => h
theorem Move_ax {H : Heap} {fb most rb : Nat} {G : Fo} {av : Value} {S : List SX} (h : FoR H fb G most av rb S) (id proto : Int) (hid : -9223372036854775808 ≤ id) :
    AX Try.prog 11 #[.pointer (some ⟨fb, 0, none⟩), .int .i64 id, .int .i64 proto] H (fun v H' => v = .int .i64 (moveF G most id proto).1 ∧ (∃ av' S', FoR H' fb (moveF G most id proto).2 most av' rb S') ∧ FrF fb H H') := by
  have hlen := h.len
  refine AX.body (n := 31) (rs := [.tmp 6]) Try.func11 rfl (by decide) rfl rfl (bC_sound _ _ _ _ ?_)
  (try (conv => whnf)); (repeat ((fail_if_success (with_reducible refine And.intro ?_ ?_)); (fail_if_success (with_reducible refine Exists.intro ?_ ?_)); (first | (apply Ob.of; (first | with_reducible assumption | with_reducible exact ex20 _ _ | with_reducible exact ex21 _ _ | with_reducible exact ex30 _ _ _ | with_reducible exact ex31 _ _ _ | with_reducible exact ex32 _ _ _ | rfl | (exact ald rfl rfl (by assumption) rfl) | (exact ald_agg rfl rfl rfl (by assumption) rfl)); (conv => whnf)) | (apply bIf.yes; (first | assumption | rfl); (conv => whnf)) | (apply bIf.no; (first | assumption | rfl); (conv => whnf)) | ((with_reducible refine Ob.load (by with_unfolding_all assumption) ?_); (conv => whnf)) | (apply Grows.mk; (first | exact Grow.refl _ | assumption); (conv => whnf)))))
  refine (find_ax h id hid).mono ?_
  rintro v X ⟨hv, e⟩
  subst X
  rcases hv with ⟨h1, rfl⟩ | ⟨h1, x, hx⟩
  · have e0 : moveF G most id proto = (0, G) := by unfold moveF; rw [atF_none (by omega)]
    rw [e0]
    (try (conv => whnf)); (repeat ((fail_if_success (with_reducible refine And.intro ?_ ?_)); (fail_if_success (with_reducible refine Exists.intro ?_ ?_)); (first | (apply Ob.of; (first | with_reducible assumption | with_reducible exact ex20 _ _ | with_reducible exact ex21 _ _ | with_reducible exact ex30 _ _ _ | with_reducible exact ex31 _ _ _ | with_reducible exact ex32 _ _ _ | rfl | (exact ald rfl rfl (by assumption) rfl) | (exact ald_agg rfl rfl rfl (by assumption) rfl)); (conv => whnf)) | (apply bIf.yes; (first | assumption | rfl); (conv => whnf)) | (apply bIf.no; (first | assumption | rfl); (conv => whnf)) | ((with_reducible refine Ob.load (by with_unfolding_all assumption) ?_); (conv => whnf)) | (apply Grows.mk; (first | exact Grow.refl _ | assumption); (conv => whnf)))))
    exact ⟨rfl, ⟨_, _, h⟩, .refl _ _⟩
  have hat := names_of h h1 hx.get
  obtain ⟨pb, rfl, _⟩ := hx.ld
  have p1 := (rootF_ok h.room proto).2.1
  (try (conv => whnf)); (repeat ((fail_if_success (with_reducible refine And.intro ?_ ?_)); (fail_if_success (with_reducible refine Exists.intro ?_ ?_)); (first | (apply Ob.of; (first | with_reducible assumption | with_reducible exact ex20 _ _ | with_reducible exact ex21 _ _ | with_reducible exact ex30 _ _ _ | with_reducible exact ex31 _ _ _ | with_reducible exact ex32 _ _ _ | rfl | (exact ald rfl rfl (by assumption) rfl) | (exact ald_agg rfl rfl rfl (by assumption) rfl)); (conv => whnf)) | (apply bIf.yes; (first | assumption | rfl); (conv => whnf)) | (apply bIf.no; (first | assumption | rfl); (conv => whnf)) | ((with_reducible refine Ob.load (by with_unfolding_all assumption) ?_); (conv => whnf)) | (apply Grows.mk; (first | exact Grow.refl _ | assumption); (conv => whnf)))))
  refine (Root_ax h proto).mono ?_
  rintro _ H1 ⟨rfl, ⟨av1, S1, f1⟩, k1⟩
  (try (conv => whnf)); (repeat ((fail_if_success (with_reducible refine And.intro ?_ ?_)); (fail_if_success (with_reducible refine Exists.intro ?_ ?_)); (first | (apply Ob.of; (first | with_reducible assumption | with_reducible exact ex20 _ _ | with_reducible exact ex21 _ _ | with_reducible exact ex30 _ _ _ | with_reducible exact ex31 _ _ _ | with_reducible exact ex32 _ _ _ | rfl | (exact ald rfl rfl (by assumption) rfl) | (exact ald_agg rfl rfl rfl (by assumption) rfl)); (conv => whnf)) | (apply bIf.yes; (first | assumption | rfl); (conv => whnf)) | (apply bIf.no; (first | assumption | rfl); (conv => whnf)) | ((with_reducible refine Ob.load (by with_unfolding_all assumption) ?_); (conv => whnf)) | (apply Grows.mk; (first | exact Grow.refl _ | assumption); (conv => whnf)))))
  have hn1 : namesF (rootF G most proto).2 id = x.1.names := by unfold namesF; rw [p1.at hat]
  have hm : moveF G most id proto = addsF (rootF G most proto).2 most (rootF G most proto).1 x.1.names := by unfold moveF; rw [hat]
  refine (Names_ax f1 id hid).mono ?_
  rintro nv H2 ⟨o2, g2, nb2⟩
  rw [hn1] at o2
  have ln : ∀ X, alen Try.prog 34 nv X = some (.int .i64 (x.1.names.length : Int)) := fun X => o2.rl.len rfl X
  have ln2 := ln H2
  have hfew : x.1.names.length ≤ 12 := by
    obtain ⟨_, _, a3⟩ := atF_lt hat
    exact h.room.wf.few _ _ a3
  obtain ⟨na, nn, nk, rfl⟩ := o2.form
  (try (conv => whnf)); (repeat ((fail_if_success (with_reducible refine And.intro ?_ ?_)); (fail_if_success (with_reducible refine Exists.intro ?_ ?_)); (first | (apply Ob.of; (first | with_reducible assumption | with_reducible exact ex20 _ _ | with_reducible exact ex21 _ _ | with_reducible exact ex30 _ _ _ | with_reducible exact ex31 _ _ _ | with_reducible exact ex32 _ _ _ | rfl | (exact ald rfl rfl (by assumption) rfl) | (exact ald_agg rfl rfl rfl (by assumption) rfl)); (conv => whnf)) | (apply bIf.yes; (first | assumption | rfl); (conv => whnf)) | (apply bIf.no; (first | assumption | rfl); (conv => whnf)) | ((with_reducible refine Ob.load (by with_unfolding_all assumption) ?_); (conv => whnf)) | (apply Grows.mk; (first | exact Grow.refl _ | assumption); (conv => whnf)))))
  rw [hm]
  refine SW.loop (α := Nat × Int × Fo) (fun y => [(0, .pointer (some ⟨fb, 0, none⟩)), (7, .int .i64 y.2.1), (19, .slice na nn nk), (20, .int .i64 (x.1.names.length : Int)), (21, .int .i64 (y.1 : Int))])
    (fun y X => (∃ av' S', FoR X fb y.2.2 most av' rb S') ∧ FrF fb H X ∧ OwnR 1 3 intR X (.slice na nn nk) x.1.names ∧ y.1 ≤ x.1.names.length ∧ 0 ≤ y.2.1 ∧ addsF y.2.2 most y.2.1 (x.1.names.drop y.1) = addsF (rootF G most proto).2 most (rootF G most proto).1 x.1.names) (fun y => x.1.names.length - y.1)
    ⟨(0, (rootF G most proto).1, (rootF G most proto).2), ⟨rfl, rfl, rfl, rfl, rfl, trivial⟩, ⟨_, _, f1.grow g2⟩, k1.trans (.of g2), o2, Nat.zero_le _, rootF_pos _ _ _, rfl⟩ ?_
  rintro ⟨i, to, Gi⟩ X ⟨⟨av', S', fX⟩, kX, oX, hi, hto, hadd⟩
  dsimp only at fX kX oX hi hto hadd ⊢
  refine bC_sound _ _ _ _ ?_
  by_cases hil : i < x.1.names.length
  · have d1 : decide ((i : Int) < (x.1.names.length : Int)) = true := decide_eq_true (by omega)
    obtain ⟨n, hn⟩ := get_lt (L := x.1.names) (m := i) hil
    obtain ⟨bq, cq, lq, q1, q2, q3, q4⟩ := oX.rl.at (P := Try.prog) (t := 34) (e := 3) rfl rfl hn
    have q4 : lq = [.int .i64 n] := q4
    subst q4
    have q5 : aload Try.prog 3 (.pointer (some ⟨bq, i * 1, none⟩)) X = some (.int .i64 n) := ald rfl rfl q2 (slots_get (j := 0) q3 rfl)
    (try (conv => whnf)); (repeat ((fail_if_success (with_reducible refine And.intro ?_ ?_)); (fail_if_success (with_reducible refine Exists.intro ?_ ?_)); (first | (apply Ob.of; (first | with_reducible assumption | with_reducible exact ex20 _ _ | with_reducible exact ex21 _ _ | with_reducible exact ex30 _ _ _ | with_reducible exact ex31 _ _ _ | with_reducible exact ex32 _ _ _ | rfl | (exact ald rfl rfl (by assumption) rfl) | (exact ald_agg rfl rfl rfl (by assumption) rfl)); (conv => whnf)) | (apply bIf.yes; (first | assumption | rfl); (conv => whnf)) | (apply bIf.no; (first | assumption | rfl); (conv => whnf)) | ((with_reducible refine Ob.load (by with_unfolding_all assumption) ?_); (conv => whnf)) | (apply Grows.mk; (first | exact Grow.refl _ | assumption); (conv => whnf)))))
    refine (Add_ax fX to n (by omega)).mono ?_
    rintro _ Y ⟨rfl, ⟨av2, S2, fY⟩, kY⟩
    have w1 : IntKind.i64.wrap ((i : Int) + 1) = ((i + 1 : Nat) : Int) := by rw [wrap_i64 (by omega) (by omega)]; omega
    (try (conv => whnf)); (repeat ((fail_if_success (with_reducible refine And.intro ?_ ?_)); (fail_if_success (with_reducible refine Exists.intro ?_ ?_)); (first | (apply Ob.of; (first | with_reducible assumption | with_reducible exact ex20 _ _ | with_reducible exact ex21 _ _ | with_reducible exact ex30 _ _ _ | with_reducible exact ex31 _ _ _ | with_reducible exact ex32 _ _ _ | rfl | (exact ald rfl rfl (by assumption) rfl) | (exact ald_agg rfl rfl rfl (by assumption) rfl)); (conv => whnf)) | (apply bIf.yes; (first | assumption | rfl); (conv => whnf)) | (apply bIf.no; (first | assumption | rfl); (conv => whnf)) | ((with_reducible refine Ob.load (by with_unfolding_all assumption) ?_); (conv => whnf)) | (apply Grows.mk; (first | exact Grow.refl _ | assumption); (conv => whnf)))))
    refine ⟨(i + 1, (addF Gi most to n).1, (addF Gi most to n).2), ⟨rfl, rfl, rfl, rfl, congrArg (fun z => some (Value.int .i64 z)) w1, trivial⟩, ⟨⟨_, _, fY⟩, kX.trans kY, OwnR.frF (X := Y) fX oX kY, by show i + 1 ≤ _; omega, addF_pos _ _ _ _, ?_⟩, by show _ - (i + 1) < _ - i; omega⟩
    rw [← hadd]
    show _ = addsF Gi most to (x.1.names.drop i)
    rw [List.drop_eq_getElem_cons hil]
    rw [List.getElem?_eq_getElem hil, Option.some.injEq] at hn
    rw [hn]
    rfl
  · have d1 : decide ((i : Int) < (x.1.names.length : Int)) = false := decide_eq_false (by omega)
    rw [List.drop_of_length_le (by omega)] at hadd
    (try (conv => whnf)); (repeat ((fail_if_success (with_reducible refine And.intro ?_ ?_)); (fail_if_success (with_reducible refine Exists.intro ?_ ?_)); (first | (apply Ob.of; (first | with_reducible assumption | with_reducible exact ex20 _ _ | with_reducible exact ex21 _ _ | with_reducible exact ex30 _ _ _ | with_reducible exact ex31 _ _ _ | with_reducible exact ex32 _ _ _ | rfl | (exact ald rfl rfl (by assumption) rfl) | (exact ald_agg rfl rfl rfl (by assumption) rfl)); (conv => whnf)) | (apply bIf.yes; (first | assumption | rfl); (conv => whnf)) | (apply bIf.no; (first | assumption | rfl); (conv => whnf)) | ((with_reducible refine Ob.load (by with_unfolding_all assumption) ?_); (conv => whnf)) | (apply Grows.mk; (first | exact Grow.refl _ | assumption); (conv => whnf)))))
    rw [← hadd]
    exact ⟨rfl, ⟨_, _, fX⟩, kX⟩
theorem New_ax (H : Heap) (m : Int) : AX Try.prog 7 #[.int .i64 m] H (fun v H' => ∃ fb rb, v = .pointer (some ⟨fb, 0, none⟩) ∧ FoR H' fb [] (max 0 (min m 150)).toNat (.slice none 0 0) rb [] ∧ Grow H H') := by
  refine AX.body (n := 9) (rs := [.tmp 2]) Try.func7 rfl (by decide) rfl rfl (bC_sound _ _ _ _ ?_)
  (try (conv => whnf)); (repeat ((fail_if_success (with_reducible refine And.intro ?_ ?_)); (fail_if_success (with_reducible refine Exists.intro ?_ ?_)); (first | (apply Ob.of; (first | with_reducible assumption | with_reducible exact ex20 _ _ | with_reducible exact ex21 _ _ | with_reducible exact ex30 _ _ _ | with_reducible exact ex31 _ _ _ | with_reducible exact ex32 _ _ _ | rfl | (exact ald rfl rfl (by assumption) rfl) | (exact ald_agg rfl rfl rfl (by assumption) rfl)); (conv => whnf)) | (apply bIf.yes; (first | assumption | rfl); (conv => whnf)) | (apply bIf.no; (first | assumption | rfl); (conv => whnf)) | ((with_reducible refine Ob.load (by with_unfolding_all assumption) ?_); (conv => whnf)) | (apply Grows.mk; (first | exact Grow.refl _ | assumption); (conv => whnf)))))
  refine Ob2.lay (H := H) (.map true []) (.map (some H.length)) rfl fun H1 a1 g1 l1 => ?_
  (try (conv => whnf)); (repeat ((fail_if_success (with_reducible refine And.intro ?_ ?_)); (fail_if_success (with_reducible refine Exists.intro ?_ ?_)); (first | (apply Ob.of; (first | with_reducible assumption | with_reducible exact ex20 _ _ | with_reducible exact ex21 _ _ | with_reducible exact ex30 _ _ _ | with_reducible exact ex31 _ _ _ | with_reducible exact ex32 _ _ _ | rfl | (exact ald rfl rfl (by assumption) rfl) | (exact ald_agg rfl rfl rfl (by assumption) rfl)); (conv => whnf)) | (apply bIf.yes; (first | assumption | rfl); (conv => whnf)) | (apply bIf.no; (first | assumption | rfl); (conv => whnf)) | ((with_reducible refine Ob.load (by with_unfolding_all assumption) ?_); (conv => whnf)) | (apply Grows.mk; (first | exact Grow.refl _ | assumption); (conv => whnf)))))
  refine Ob2.box rfl fun q2 H2 hq2 a2 g2 => ?_
  (try (conv => whnf)); (repeat ((fail_if_success (with_reducible refine And.intro ?_ ?_)); (fail_if_success (with_reducible refine Exists.intro ?_ ?_)); (first | (apply Ob.of; (first | with_reducible assumption | with_reducible exact ex20 _ _ | with_reducible exact ex21 _ _ | with_reducible exact ex30 _ _ _ | with_reducible exact ex31 _ _ _ | with_reducible exact ex32 _ _ _ | rfl | (exact ald rfl rfl (by assumption) rfl) | (exact ald_agg rfl rfl rfl (by assumption) rfl)); (conv => whnf)) | (apply bIf.yes; (first | assumption | rfl); (conv => whnf)) | (apply bIf.no; (first | assumption | rfl); (conv => whnf)) | ((with_reducible refine Ob.load (by with_unfolding_all assumption) ?_); (conv => whnf)) | (apply Grows.mk; (first | exact Grow.refl _ | assumption); (conv => whnf)))))
  have hm : (if (if 150 < m then 150 else m) > 0 then if 150 < m then 150 else m else 0 : Int) = (((max 0 (min m 150)).toNat : Nat) : Int) := by
    split
    · split <;> omega
    · omega
  have a3 : H2[q2]? = some (.cells .var [.slice none 0 0, .map (some H.length), .int .i64 (if (if 150 < m then 150 else m) > 0 then if 150 < m then 150 else m else 0 : Int)]) := a2
  rw [hm] at a3
  exact ⟨q2, H.length, rfl, ⟨a3, .inl ⟨rfl, rfl⟩, rfl, g2.at a1, fun k s nx h => by simp at h, fun j k s t b h => by simp at h, .nil, by simp, by omega⟩, g1.trans g2⟩
theorem numbers_ax {H : Heap} {a b : Value} {L M : List Int} (ha : RL 1 intR H a L) (hb : RL 1 intR H b M) (hL : L.length ≤ 1000) : AX Try.prog 13 #[a, b] H (fun v H' => v = .bool (decide (L = M)) ∧ H' = H) := by
  have la := fun X => ha.len (P := Try.prog) (t := 34) (e := 3) rfl X
  have lb := fun X => hb.len (P := Try.prog) (t := 34) (e := 3) rfl X
  have la0 := la H
  have lb0 := lb H
  refine AX.body (n := 26) (rs := [.tmp 4]) Try.func13 rfl (by decide) rfl rfl (bC_sound _ _ _ _ ?_)
  by_cases hl : L.length = M.length
  · have d1 : (!(((L.length : Int)) == (M.length : Int))) = false := by simp; omega
    (try (conv => whnf)); (repeat ((fail_if_success (with_reducible refine And.intro ?_ ?_)); (fail_if_success (with_reducible refine Exists.intro ?_ ?_)); (first | (apply Ob.of; (first | with_reducible assumption | with_reducible exact ex20 _ _ | with_reducible exact ex21 _ _ | with_reducible exact ex30 _ _ _ | with_reducible exact ex31 _ _ _ | with_reducible exact ex32 _ _ _ | rfl | (exact ald rfl rfl (by assumption) rfl) | (exact ald_agg rfl rfl rfl (by assumption) rfl)); (conv => whnf)) | (apply bIf.yes; (first | assumption | rfl); (conv => whnf)) | (apply bIf.no; (first | assumption | rfl); (conv => whnf)) | ((with_reducible refine Ob.load (by with_unfolding_all assumption) ?_); (conv => whnf)) | (apply Grows.mk; (first | exact Grow.refl _ | assumption); (conv => whnf)))))
    refine SW.loop (α := Nat) (fun i => [(0, a), (1, b), (5, .int .i64 (i : Int))]) (fun i X => X = H ∧ i ≤ L.length ∧ L.take i = M.take i) (fun i => L.length - i) ⟨0, ⟨rfl, rfl, rfl, trivial⟩, rfl, Nat.zero_le _, rfl⟩ ?_
    rintro i X ⟨rfl, hi, ht⟩
    refine bC_sound _ _ _ _ ?_
    by_cases hil : i < L.length
    · have d2 : decide ((i : Int) < (L.length : Int)) = true := decide_eq_true (by omega)
      obtain ⟨x, hx⟩ := get_lt (L := L) (m := i) hil
      obtain ⟨y, hy⟩ := get_lt (L := M) (m := i) (by omega)
      obtain ⟨bq, cq, lq, q1, q2, q3, q4⟩ := ha.at (P := Try.prog) (t := 34) (e := 3) rfl rfl hx
      have q4 : lq = [.int .i64 x] := q4
      subst q4
      have q5 : aload Try.prog 3 (.pointer (some ⟨bq, i * 1, none⟩)) X = some (.int .i64 x) := ald rfl rfl q2 (slots_get (j := 0) q3 rfl)
      obtain ⟨br, cr, lr, r1, r2, r3, r4⟩ := hb.at (P := Try.prog) (t := 34) (e := 3) rfl rfl hy
      have r4 : lr = [.int .i64 y] := r4
      subst r4
      have r5 : aload Try.prog 3 (.pointer (some ⟨br, i * 1, none⟩)) X = some (.int .i64 y) := ald rfl rfl r2 (slots_get (j := 0) r3 rfl)
      (try (conv => whnf)); (repeat ((fail_if_success (with_reducible refine And.intro ?_ ?_)); (fail_if_success (with_reducible refine Exists.intro ?_ ?_)); (first | (apply Ob.of; (first | with_reducible assumption | with_reducible exact ex20 _ _ | with_reducible exact ex21 _ _ | with_reducible exact ex30 _ _ _ | with_reducible exact ex31 _ _ _ | with_reducible exact ex32 _ _ _ | rfl | (exact ald rfl rfl (by assumption) rfl) | (exact ald_agg rfl rfl rfl (by assumption) rfl)); (conv => whnf)) | (apply bIf.yes; (first | assumption | rfl); (conv => whnf)) | (apply bIf.no; (first | assumption | rfl); (conv => whnf)) | ((with_reducible refine Ob.load (by with_unfolding_all assumption) ?_); (conv => whnf)) | (apply Grows.mk; (first | exact Grow.refl _ | assumption); (conv => whnf)))))
      apply SW.drawH [(0, [], [18, 21, 22, 23, 24], false), (1, [], [17, 21, 22, 23, 24], false), (2, [(17, 0), (18, 1)], [17, 18, 21, 22, 23, 24], false), (3, [(17, 0), (18, 1), (19, 2)], [17, 18, 19, 21, 22, 23, 24], false), (4, [], [17, 18, 19, 20, 22], false), (5, [], [17, 18, 19, 20, 21], false), (6, [(21, 4), (22, 5)], [17, 18, 19, 20, 21, 22], false), (7, [(21, 4), (22, 5), (23, 6)], [17, 18, 19, 20, 21, 22, 23], false), (8, [(17, 0), (18, 1), (19, 2), (20, 3), (21, 4), (22, 5), (23, 6), (24, 7)], [17, 18, 19, 20, 21, 22, 23, 24], false)]
        [(17, 0), (18, 1), (19, 2), (20, 3), (21, 4), (22, 5), (23, 6), (24, 7), (25, 8)] []
        [(0, _), (1, _), (5, _)] rfl (by kernel_rfl)
      case hF => exact ⟨rfl, rfl, rfl, trivial⟩
      (try (conv => whnf)); (repeat ((fail_if_success (with_reducible refine And.intro ?_ ?_)); (fail_if_success (with_reducible refine Exists.intro ?_ ?_)); (first | (apply Ob.of; (first | with_reducible assumption | with_reducible exact ex20 _ _ | with_reducible exact ex21 _ _ | with_reducible exact ex30 _ _ _ | with_reducible exact ex31 _ _ _ | with_reducible exact ex32 _ _ _ | rfl | (exact ald rfl rfl (by assumption) rfl) | (exact ald_agg rfl rfl rfl (by assumption) rfl)); (conv => whnf)) | (apply bIf.yes; (first | assumption | rfl); (conv => whnf)) | (apply bIf.no; (first | assumption | rfl); (conv => whnf)) | ((with_reducible refine Ob.load (by with_unfolding_all assumption) ?_); (conv => whnf)) | (apply Grows.mk; (first | exact Grow.refl _ | assumption); (conv => whnf)))))
      by_cases hxy : x = y
      · have d3 : (!(x == y)) = false := by simp [hxy]
        have w1 : IntKind.i64.wrap ((i : Int) + 1) = ((i + 1 : Nat) : Int) := by rw [wrap_i64 (by omega) (by omega)]; omega
        (try (conv => whnf)); (repeat ((fail_if_success (with_reducible refine And.intro ?_ ?_)); (fail_if_success (with_reducible refine Exists.intro ?_ ?_)); (first | (apply Ob.of; (first | with_reducible assumption | with_reducible exact ex20 _ _ | with_reducible exact ex21 _ _ | with_reducible exact ex30 _ _ _ | with_reducible exact ex31 _ _ _ | with_reducible exact ex32 _ _ _ | rfl | (exact ald rfl rfl (by assumption) rfl) | (exact ald_agg rfl rfl rfl (by assumption) rfl)); (conv => whnf)) | (apply bIf.yes; (first | assumption | rfl); (conv => whnf)) | (apply bIf.no; (first | assumption | rfl); (conv => whnf)) | ((with_reducible refine Ob.load (by with_unfolding_all assumption) ?_); (conv => whnf)) | (apply Grows.mk; (first | exact Grow.refl _ | assumption); (conv => whnf)))))
        refine ⟨i + 1, ⟨rfl, rfl, congrArg (fun z => some (Value.int .i64 z)) w1, trivial⟩, ⟨rfl, by omega, ?_⟩, by show L.length - (i + 1) < L.length - i; omega⟩
        rw [List.take_add_one, List.take_add_one, ht, hx, hy, hxy]
      · have d3 : (!(x == y)) = true := by simpa using hxy
        (try (conv => whnf)); (repeat ((fail_if_success (with_reducible refine And.intro ?_ ?_)); (fail_if_success (with_reducible refine Exists.intro ?_ ?_)); (first | (apply Ob.of; (first | with_reducible assumption | with_reducible exact ex20 _ _ | with_reducible exact ex21 _ _ | with_reducible exact ex30 _ _ _ | with_reducible exact ex31 _ _ _ | with_reducible exact ex32 _ _ _ | rfl | (exact ald rfl rfl (by assumption) rfl) | (exact ald_agg rfl rfl rfl (by assumption) rfl)); (conv => whnf)) | (apply bIf.yes; (first | assumption | rfl); (conv => whnf)) | (apply bIf.no; (first | assumption | rfl); (conv => whnf)) | ((with_reducible refine Ob.load (by with_unfolding_all assumption) ?_); (conv => whnf)) | (apply Grows.mk; (first | exact Grow.refl _ | assumption); (conv => whnf)))))
        exact ⟨by rw [decide_eq_false fun e => hxy (by rw [e, hy] at hx; simpa using hx.symm)]; rfl, rfl⟩
    · have d2 : decide ((i : Int) < (L.length : Int)) = false := decide_eq_false (by omega)
      (try (conv => whnf)); (repeat ((fail_if_success (with_reducible refine And.intro ?_ ?_)); (fail_if_success (with_reducible refine Exists.intro ?_ ?_)); (first | (apply Ob.of; (first | with_reducible assumption | with_reducible exact ex20 _ _ | with_reducible exact ex21 _ _ | with_reducible exact ex30 _ _ _ | with_reducible exact ex31 _ _ _ | with_reducible exact ex32 _ _ _ | rfl | (exact ald rfl rfl (by assumption) rfl) | (exact ald_agg rfl rfl rfl (by assumption) rfl)); (conv => whnf)) | (apply bIf.yes; (first | assumption | rfl); (conv => whnf)) | (apply bIf.no; (first | assumption | rfl); (conv => whnf)) | ((with_reducible refine Ob.load (by with_unfolding_all assumption) ?_); (conv => whnf)) | (apply Grows.mk; (first | exact Grow.refl _ | assumption); (conv => whnf)))))
      rw [List.take_of_length_le (by omega), List.take_of_length_le (by omega)] at ht
      exact ⟨by rw [decide_eq_true ht]; rfl, rfl⟩
  · have d1 : (!(((L.length : Int)) == (M.length : Int))) = true := by simp; omega
    (try (conv => whnf)); (repeat ((fail_if_success (with_reducible refine And.intro ?_ ?_)); (fail_if_success (with_reducible refine Exists.intro ?_ ?_)); (first | (apply Ob.of; (first | with_reducible assumption | with_reducible exact ex20 _ _ | with_reducible exact ex21 _ _ | with_reducible exact ex30 _ _ _ | with_reducible exact ex31 _ _ _ | with_reducible exact ex32 _ _ _ | rfl | (exact ald rfl rfl (by assumption) rfl) | (exact ald_agg rfl rfl rfl (by assumption) rfl)); (conv => whnf)) | (apply bIf.yes; (first | assumption | rfl); (conv => whnf)) | (apply bIf.no; (first | assumption | rfl); (conv => whnf)) | ((with_reducible refine Ob.load (by with_unfolding_all assumption) ?_); (conv => whnf)) | (apply Grows.mk; (first | exact Grow.refl _ | assumption); (conv => whnf)))))
    exact ⟨by rw [decide_eq_false fun e => hl (by rw [e])]; rfl, rfl⟩
theorem works_ax (H : Heap) : AX Try.prog 10 #[] H (fun v H' => v = .bool true) := by
  have e1 : rootF [] 9 0 = (1, [⟨0, 0, 0, []⟩]) := by decide
  have e2 : addF [⟨0, 0, 0, []⟩] 9 1 5 = (2, [⟨0, 0, 0, []⟩, ⟨1, 5, 0, [5]⟩]) := by decide
  have e3 : addF [⟨0, 0, 0, []⟩, ⟨1, 5, 0, [5]⟩] 9 2 6 = (3, [⟨0, 0, 0, []⟩, ⟨1, 5, 0, [5]⟩, ⟨2, 6, 0, [5, 6]⟩]) := by decide
  have e4 : addF [⟨0, 0, 0, []⟩, ⟨1, 5, 0, [5]⟩, ⟨2, 6, 0, [5, 6]⟩] 9 1 5 = (2, [⟨0, 0, 0, []⟩, ⟨1, 5, 0, [5]⟩, ⟨2, 6, 0, [5, 6]⟩]) := by decide
  refine AX.body (n := 44) (rs := [.tmp 0]) Try.func10 rfl (by decide) rfl rfl (bC_sound _ _ _ _ ?_)
  (try (conv => whnf)); (repeat ((fail_if_success (with_reducible refine And.intro ?_ ?_)); (fail_if_success (with_reducible refine Exists.intro ?_ ?_)); (first | (apply Ob.of; (first | with_reducible assumption | with_reducible exact ex20 _ _ | with_reducible exact ex21 _ _ | with_reducible exact ex30 _ _ _ | with_reducible exact ex31 _ _ _ | with_reducible exact ex32 _ _ _ | rfl | (exact ald rfl rfl (by assumption) rfl) | (exact ald_agg rfl rfl rfl (by assumption) rfl)); (conv => whnf)) | (apply bIf.yes; (first | assumption | rfl); (conv => whnf)) | (apply bIf.no; (first | assumption | rfl); (conv => whnf)) | ((with_reducible refine Ob.load (by with_unfolding_all assumption) ?_); (conv => whnf)) | (apply Grows.mk; (first | exact Grow.refl _ | assumption); (conv => whnf)))))
  refine (New_ax H 9).mono ?_
  rintro _ H1 ⟨fb, rb, rfl, f1, g1⟩
  rw [show (max 0 (min (9 : Int) 150)).toNat = 9 from rfl] at f1
  (try (conv => whnf)); (repeat ((fail_if_success (with_reducible refine And.intro ?_ ?_)); (fail_if_success (with_reducible refine Exists.intro ?_ ?_)); (first | (apply Ob.of; (first | with_reducible assumption | with_reducible exact ex20 _ _ | with_reducible exact ex21 _ _ | with_reducible exact ex30 _ _ _ | with_reducible exact ex31 _ _ _ | with_reducible exact ex32 _ _ _ | rfl | (exact ald rfl rfl (by assumption) rfl) | (exact ald_agg rfl rfl rfl (by assumption) rfl)); (conv => whnf)) | (apply bIf.yes; (first | assumption | rfl); (conv => whnf)) | (apply bIf.no; (first | assumption | rfl); (conv => whnf)) | ((with_reducible refine Ob.load (by with_unfolding_all assumption) ?_); (conv => whnf)) | (apply Grows.mk; (first | exact Grow.refl _ | assumption); (conv => whnf)))))
  refine (Root_ax f1 0).mono ?_
  rintro _ H2 ⟨rfl, ⟨av2, S2, f2⟩, k2⟩
  rw [e1] at f2 ⊢
  (try (conv => whnf)); (repeat ((fail_if_success (with_reducible refine And.intro ?_ ?_)); (fail_if_success (with_reducible refine Exists.intro ?_ ?_)); (first | (apply Ob.of; (first | with_reducible assumption | with_reducible exact ex20 _ _ | with_reducible exact ex21 _ _ | with_reducible exact ex30 _ _ _ | with_reducible exact ex31 _ _ _ | with_reducible exact ex32 _ _ _ | rfl | (exact ald rfl rfl (by assumption) rfl) | (exact ald_agg rfl rfl rfl (by assumption) rfl)); (conv => whnf)) | (apply bIf.yes; (first | assumption | rfl); (conv => whnf)) | (apply bIf.no; (first | assumption | rfl); (conv => whnf)) | ((with_reducible refine Ob.load (by with_unfolding_all assumption) ?_); (conv => whnf)) | (apply Grows.mk; (first | exact Grow.refl _ | assumption); (conv => whnf)))))
  refine (Add_ax f2 1 5 (by decide)).mono ?_
  rintro _ H3 ⟨rfl, ⟨av3, S3, f3⟩, k3⟩
  rw [e2] at f3 ⊢
  (try (conv => whnf)); (repeat ((fail_if_success (with_reducible refine And.intro ?_ ?_)); (fail_if_success (with_reducible refine Exists.intro ?_ ?_)); (first | (apply Ob.of; (first | with_reducible assumption | with_reducible exact ex20 _ _ | with_reducible exact ex21 _ _ | with_reducible exact ex30 _ _ _ | with_reducible exact ex31 _ _ _ | with_reducible exact ex32 _ _ _ | rfl | (exact ald rfl rfl (by assumption) rfl) | (exact ald_agg rfl rfl rfl (by assumption) rfl)); (conv => whnf)) | (apply bIf.yes; (first | assumption | rfl); (conv => whnf)) | (apply bIf.no; (first | assumption | rfl); (conv => whnf)) | ((with_reducible refine Ob.load (by with_unfolding_all assumption) ?_); (conv => whnf)) | (apply Grows.mk; (first | exact Grow.refl _ | assumption); (conv => whnf)))))
  refine (Add_ax f3 2 6 (by decide)).mono ?_
  rintro _ H4 ⟨rfl, ⟨av4, S4, f4⟩, k4⟩
  rw [e3] at f4 ⊢
  (try (conv => whnf)); (repeat ((fail_if_success (with_reducible refine And.intro ?_ ?_)); (fail_if_success (with_reducible refine Exists.intro ?_ ?_)); (first | (apply Ob.of; (first | with_reducible assumption | with_reducible exact ex20 _ _ | with_reducible exact ex21 _ _ | with_reducible exact ex30 _ _ _ | with_reducible exact ex31 _ _ _ | with_reducible exact ex32 _ _ _ | rfl | (exact ald rfl rfl (by assumption) rfl) | (exact ald_agg rfl rfl rfl (by assumption) rfl)); (conv => whnf)) | (apply bIf.yes; (first | assumption | rfl); (conv => whnf)) | (apply bIf.no; (first | assumption | rfl); (conv => whnf)) | ((with_reducible refine Ob.load (by with_unfolding_all assumption) ?_); (conv => whnf)) | (apply Grows.mk; (first | exact Grow.refl _ | assumption); (conv => whnf)))))
  refine (Add_ax f4 1 5 (by decide)).mono ?_
  rintro _ H5 ⟨rfl, ⟨av5, S5, f5⟩, k5⟩
  rw [e4] at f5 ⊢
  (try (conv => whnf)); (repeat ((fail_if_success (with_reducible refine And.intro ?_ ?_)); (fail_if_success (with_reducible refine Exists.intro ?_ ?_)); (first | (apply Ob.of; (first | with_reducible assumption | with_reducible exact ex20 _ _ | with_reducible exact ex21 _ _ | with_reducible exact ex30 _ _ _ | with_reducible exact ex31 _ _ _ | with_reducible exact ex32 _ _ _ | rfl | (exact ald rfl rfl (by assumption) rfl) | (exact ald_agg rfl rfl rfl (by assumption) rfl)); (conv => whnf)) | (apply bIf.yes; (first | assumption | rfl); (conv => whnf)) | (apply bIf.no; (first | assumption | rfl); (conv => whnf)) | ((with_reducible refine Ob.load (by with_unfolding_all assumption) ?_); (conv => whnf)) | (apply Grows.mk; (first | exact Grow.refl _ | assumption); (conv => whnf)))))
  refine (Slot_ax f5 3 6 (by decide)).mono ?_
  rintro _ X ⟨rfl, e⟩
  subst X
  rw [show slotF (namesF [⟨0, 0, 0, []⟩, ⟨1, 5, 0, [5]⟩, ⟨2, 6, 0, [5, 6]⟩] 3) 6 = 1 by decide]
  (try (conv => whnf)); (repeat ((fail_if_success (with_reducible refine And.intro ?_ ?_)); (fail_if_success (with_reducible refine Exists.intro ?_ ?_)); (first | (apply Ob.of; (first | with_reducible assumption | with_reducible exact ex20 _ _ | with_reducible exact ex21 _ _ | with_reducible exact ex30 _ _ _ | with_reducible exact ex31 _ _ _ | with_reducible exact ex32 _ _ _ | rfl | (exact ald rfl rfl (by assumption) rfl) | (exact ald_agg rfl rfl rfl (by assumption) rfl)); (conv => whnf)) | (apply bIf.yes; (first | assumption | rfl); (conv => whnf)) | (apply bIf.no; (first | assumption | rfl); (conv => whnf)) | ((with_reducible refine Ob.load (by with_unfolding_all assumption) ?_); (conv => whnf)) | (apply Grows.mk; (first | exact Grow.refl _ | assumption); (conv => whnf)))))
  refine (Slot_ax f5 3 7 (by decide)).mono ?_
  rintro _ X ⟨rfl, e⟩
  subst X
  rw [show slotF (namesF [⟨0, 0, 0, []⟩, ⟨1, 5, 0, [5]⟩, ⟨2, 6, 0, [5, 6]⟩] 3) 7 = -1 by decide]
  (try (conv => whnf)); (repeat ((fail_if_success (with_reducible refine And.intro ?_ ?_)); (fail_if_success (with_reducible refine Exists.intro ?_ ?_)); (first | (apply Ob.of; (first | with_reducible assumption | with_reducible exact ex20 _ _ | with_reducible exact ex21 _ _ | with_reducible exact ex30 _ _ _ | with_reducible exact ex31 _ _ _ | with_reducible exact ex32 _ _ _ | rfl | (exact ald rfl rfl (by assumption) rfl) | (exact ald_agg rfl rfl rfl (by assumption) rfl)); (conv => whnf)) | (apply bIf.yes; (first | assumption | rfl); (conv => whnf)) | (apply bIf.no; (first | assumption | rfl); (conv => whnf)) | ((with_reducible refine Ob.load (by with_unfolding_all assumption) ?_); (conv => whnf)) | (apply Grows.mk; (first | exact Grow.refl _ | assumption); (conv => whnf)))))
  refine (Len_ax f5).mono ?_
  rintro _ X ⟨rfl, e⟩
  subst X
  (try (conv => whnf)); (repeat ((fail_if_success (with_reducible refine And.intro ?_ ?_)); (fail_if_success (with_reducible refine Exists.intro ?_ ?_)); (first | (apply Ob.of; (first | with_reducible assumption | with_reducible exact ex20 _ _ | with_reducible exact ex21 _ _ | with_reducible exact ex30 _ _ _ | with_reducible exact ex31 _ _ _ | with_reducible exact ex32 _ _ _ | rfl | (exact ald rfl rfl (by assumption) rfl) | (exact ald_agg rfl rfl rfl (by assumption) rfl)); (conv => whnf)) | (apply bIf.yes; (first | assumption | rfl); (conv => whnf)) | (apply bIf.no; (first | assumption | rfl); (conv => whnf)) | ((with_reducible refine Ob.load (by with_unfolding_all assumption) ?_); (conv => whnf)) | (apply Grows.mk; (first | exact Grow.refl _ | assumption); (conv => whnf)))))
  rfl
end Go.Proofs.Ytmcniodiehfbpaa
