/- How high trees are; low; tidy trees. -/
import Derived.Test.YtmdjepfpgmignaaJSc1
set_option linter.unusedVariables false
set_option linter.unusedSimpArgs false
set_option maxRecDepth 20000
set_option maxHeartbeats 8000000
namespace Go.Proofs.Ytmdjepfpgmignaa
open Go Ax
mutual
def Tr.high : Tr → Nat
  | .mk _ _ _ _ _ ks _ => highs ks + 1
def highs : List Tr → Nat
  | [] => 0
  | k :: ks => max k.high (highs ks)
end
theorem Tr.high_eq (x : Tr) : x.high = highs x.kids + 1 := by cases x; rw [Tr.high]; rfl
theorem highs_le : ∀ {ks : List Tr} {n : Nat}, highs ks ≤ n ↔ ∀ k ∈ ks, k.high ≤ n
  | [], n => by simp [highs]
  | k :: ks, n => by rw [highs, Nat.max_le, highs_le]; simp
theorem highs_take {L : List Tr} {m : Nat} {x : Tr} (hx : L[m]? = some x) : highs (L.take (m + 1)) = max (highs (L.take m)) x.high := by
  have h1 : ∀ n, highs (L.take (m + 1)) ≤ n ↔ max (highs (L.take m)) x.high ≤ n := by
    intro n
    rw [highs_le, Nat.max_le, highs_le]
    have : L.take (m + 1) = L.take m ++ [x] := by rw [List.take_add_one, hx]; rfl
    rw [this]
    simp only [List.mem_append, List.mem_singleton]
    exact ⟨fun h => ⟨fun k hk => h k (.inl hk), h x (.inr rfl)⟩, fun h k hk => hk.elim (h.1 k) fun e => e ▸ h.2⟩
  exact Nat.le_antisymm ((h1 _).2 (Nat.le_refl _)) ((h1 _).1 (Nat.le_refl _))
theorem highs_take_le (L : List Tr) (m : Nat) : highs (L.take m) ≤ highs L := highs_le.2 fun k hk => (highs_le.1 (Nat.le_refl _)) k (List.mem_of_mem_take hk)
/-- Strings, names and parts are few and short, all down a tree. -/
inductive Tidy : Tr → Prop
  | mk {x : Tr} (h1 : x.str.size ≤ 600) (h2 : x.names.length ≤ 60) (h3 : ∀ n ∈ x.names, n.size ≤ 100) (h4 : x.kids.length ≤ 300) (h5 : ∀ k ∈ x.kids, Tidy k) : Tidy x
theorem Tidy.str {x : Tr} : Tidy x → x.str.size ≤ 600 | .mk h _ _ _ _ => h
theorem Tidy.names {x : Tr} : Tidy x → x.names.length ≤ 60 | .mk _ h _ _ _ => h
theorem Tidy.name {x : Tr} : Tidy x → ∀ n ∈ x.names, n.size ≤ 100 | .mk _ _ h _ _ => h
theorem Tidy.kids {x : Tr} : Tidy x → x.kids.length ≤ 300 | .mk _ _ _ h _ => h
theorem Tidy.kid {x : Tr} : Tidy x → ∀ k ∈ x.kids, Tidy k | .mk _ _ _ _ h => h
theorem leftL_tidy : ∀ (ks : List Tr), (∀ k ∈ ks, ∀ m h : Int, 0 ≤ m → m ≤ 300 → 0 ≤ h → 0 ≤ k.left m h → Tidy k ∧ (k.high : Int) ≤ h ∧ k.left m h ≤ m - 1) → ∀ m h : Int, m ≤ 300 → 0 ≤ h → 0 ≤ leftL ks m h → (∀ k ∈ ks, Tidy k) ∧ ((highs ks : Nat) : Int) ≤ h ∧ leftL ks m h + ks.length ≤ m
  | [], _, m, h, hm, hh, hl => by
    rw [leftL] at hl ⊢
    refine ⟨fun k hk => by simp at hk, by simp [highs]; omega, by simp⟩
  | k :: ks, hk, m, h, hm, hh, hl => by
    rw [leftL] at hl ⊢
    split at hl
    · omega
    · rename_i hm0
      rw [if_neg hm0]
      have hk0 : 0 ≤ k.left m h := by
        by_cases hc : k.left m h < 0
        · rw [leftL_neg hc] at hl; omega
        · omega
      obtain ⟨a1, a2, a3⟩ := hk k (List.mem_cons_self ..) m h (by omega) hm hh hk0
      obtain ⟨b1, b2, b3⟩ := leftL_tidy ks (fun k h => hk k (List.mem_cons_of_mem _ h)) (k.left m h) h (by omega) hh hl
      refine ⟨fun y hy => ?_, ?_, ?_⟩
      · rcases List.mem_cons.1 hy with rfl | hy
        · exact a1
        · exact b1 y hy
      · rw [highs]
        have := Nat.max_le (a := k.high) (b := highs ks) (c := h.toNat)
        omega
      · simp only [List.length_cons]; omega
theorem Tr.left_tidy (x : Tr) : ∀ m h : Int, 0 ≤ m → m ≤ 300 → 0 ≤ h → 0 ≤ x.left m h → Tidy x ∧ (x.high : Int) ≤ h ∧ x.left m h ≤ m - 1 := by
  induction x using Tr.ind with
  | h x ih =>
    intro m h hm hm3 hh hl
    have hle := (x.left_le m h hm).2
    rw [Tr.left_eq] at hl
    split at hl
    · omega
    · rename_i hc
      have hc1 : ¬ h = 0 := fun e => hc (.inl e)
      have hc2 : ¬ 600 < x.str.size := fun e => hc (.inr (.inl e))
      have hc3 : ¬ 60 < x.names.length := fun e => hc (.inr (.inr (.inl e)))
      have hc4 : ∀ n ∈ x.names, n.size ≤ 100 := Classical.byContradiction fun e => hc (.inr (.inr (.inr e)))
      obtain ⟨a1, a2, a3⟩ := leftL_tidy x.kids ih (m - 1) (h - 1) (by omega) (by omega) hl
      refine ⟨.mk (by omega) (by omega) hc4 (by omega) a1, ?_, hle⟩
      rw [Tr.high_eq]
      omega
/-- Few nodes. -/
def FewT (x : Tr) : Prop := Tidy x ∧ x.high ≤ 40
theorem few_of {x : Tr} (h : 0 ≤ x.left 300 40) : FewT x := by
  obtain ⟨h1, h2, -⟩ := x.left_tidy 300 40 (by omega) (by omega) (by omega) h
  exact ⟨h1, by omega⟩
theorem few06_ax {H : Heap} {l : List Value} {x : Tr} (R : NodeR H l x) : AX Try.prog 12 #[.agg l.toArray, .int .i64 300] H (fun v H' => (∃ b, v = .bool b ∧ (b = true → FewT x)) ∧ H' = H) := by
  obtain ⟨ow, sn, sk, rfl, -, -⟩ := R.inv
  refine AX.quiet ?_
  suffices hh : AX Try.prog 12 #[.agg (nodeV x sn sk).toArray, .int .i64 300] H (fun v H' => (∃ b, v = .bool b ∧ (b = true → FewT x)) ∧ Grow H H') from hh.mono fun v _ ⟨⟨b, e, k⟩, g⟩ => ⟨e ▸ plain_bool _, ⟨b, e, k⟩, g⟩
  refine AX.body (n := 9) (rs := [.tmp 4]) Try.func12 rfl (by decide) rfl rfl (bC_sound _ _ _ _ ?_)
  (conv => whnf)
  refine Ob2.box rfl fun q H1 hq a1 g1 => ?_
  have b1 := hblk_of a1
  refine run ?_
  refine (left_ax x (R.grow g1) 300 40 (by omega) (by omega) (by omega) (by omega)).mono ?_
  rintro _ X ⟨rfl, e⟩
  subst X
  refine run ?_
  exact ⟨⟨_, rfl, fun h => few_of (by simpa using h)⟩, g1⟩
end Go.Proofs.Ytmdjepfpgmignaa
