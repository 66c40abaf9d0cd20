/- The abstract machine: a loop made by a label: what is ahead of the label, then each round from the label on. -/
import Derived.Test.YtdlanbfbbopfhaaAx24
set_option linter.unusedVariables false
set_option linter.unusedSimpArgs false
namespace Go.Proofs.Ytdlanbfbbopfhaa.Ax
open Go Go.RowKit
/-- What is behind a label. -/
def behind : Code → Nat → Option Code
  | .seq x y, l => match x with
    | .label l' => match Nat.beq l' l with | true => some y | false => none
    | .region _ _ _ => behind y l
    | _ => none
  | _, _ => none
theorem behind_find {l : Nat} : ∀ {c r : Code}, behind c l = some r → findLabel c l = some (.seq .skip r) := by
  intro c
  induction c with
  | seq x y ihx ihy =>
    intro r h
    cases x with
    | label l' =>
      simp only [behind] at h
      cases hb : Nat.beq l' l with
      | true =>
        simp only [hb, Option.some.injEq] at h
        subst h
        have := Nat.eq_of_beq_eq_true hb
        subst this
        simp [findLabel]
      | false => simp [hb] at h
    | region id ops d =>
      simp only [behind] at h
      simp [findLabel, ihy h]
    | _ => simp [behind] at h
  | _ => intro r h; simp [behind] at h
/-- Code up to a label; there M is to hold. -/
def bCut (P : Program) (n l : Nat) : Code → BPost → (Fr → Heap → Prop) → Fr → Heap → Prop
  | .seq x y, Q, M => match x with
    | .label l' => match Nat.beq l' l with | true => M | false => fun _ _ => False
    | .region id ops d => bC P n (.region id ops d) (thenB (bCut P n l y Q M) Q)
    | _ => fun _ _ => False
  | _, _, _ => fun _ _ => False
theorem bCut_sound {P : Program} {n l : Nat} : ∀ (c : Code) (Q : BPost) (M : Fr → Heap → Prop) (fr : Fr) (H : Heap), bCut P n l c Q M fr H →
    (∀ r fr H, behind c l = some r → M fr H → SW P n r Q fr H) → SW P n c Q fr H := by
  intro c
  induction c with
  | seq x y ihx ihy =>
    intro Q M fr H h hM
    cases x with
    | label l' =>
      simp only [bCut] at h
      cases hb : Nat.beq l' l with
      | true =>
        simp only [hb] at h
        have h1 := hM y fr H (by simp [behind, hb]) h
        exact SW.seq (fun fr' H' => fr' = fr ∧ H' = H) (bC_sound _ _ _ _ ⟨rfl, rfl⟩) fun fr' H' ⟨e1, e2⟩ => by subst e1 e2; exact h1
      | false => simp [hb] at h
    | region id ops d =>
      simp only [bCut] at h
      exact SW.seq (bCut P n l y Q M) (bC_sound _ _ _ _ h) fun fr H hb => ihy Q M fr H hb fun r fr H hr => hM r fr H (by simp [behind, hr])
    | _ => simp [bCut] at h
  | _ => intro Q M fr H h hM; exact h.elim
/-- A scope of one label that is come to again and again. -/
theorem SW.scopeC {P : Program} {n : Nat} {c : Code} {Q : BPost} {fr : Fr} {H : Heap} {α : Type} (l : Nat) (r : Code) (F : α → Fr) (I : α → Heap → Prop) (μ : α → Nat) (hr : behind c l = some r)
    (first : bCut P n l c (scopeP c (fun _ => l) F I (fun _ => True) Q) (fun fr H => ∃ x, Has fr (F x) ∧ I x H) fr H)
    (step : ∀ x H, I x H → SW P n r (scopeP c (fun _ => l) F I (fun y => μ y < μ x) Q) (F x) H) : SW P n (.scope c) Q fr H := by
  have hf := behind_find hr
  have weak : ∀ x, ∀ e fr H, scopeP c (fun _ => l) F I (fun y => μ y < μ x) Q e fr H → scopeP c (fun _ => l) F I (fun _ => True) Q e fr H := by
    intro x e fr H h
    cases e with
    | goto l' =>
      simp only [scopeP] at h ⊢
      cases hl : findLabel c l' with
      | none => simpa [hl] using h
      | some r' =>
        simp only [hl] at h ⊢
        obtain ⟨y, h1, h2, h3, h4⟩ := h
        exact ⟨y, h1, h2, h3, trivial⟩
    | _ => exact h
  refine SW.scope (fun _ => l) F I μ (bCut_sound _ _ _ _ _ first fun r' fr H hr' hM => ?_) fun x H r' hI hr' => ?_
  · rw [hr] at hr'
    simp only [Option.some.injEq] at hr'
    subst hr'
    obtain ⟨x, hx, hI⟩ := hM
    exact SW.sub ((step x H hI).mono (weak x)) (Sub.of hx)
  · rw [hf] at hr'
    simp only [Option.some.injEq] at hr'
    subst hr'
    exact SW.seq (fun fr' H' => fr' = F x ∧ H' = H) (bC_sound _ _ _ _ ⟨rfl, rfl⟩) fun fr' H' ⟨e1, e2⟩ => by subst e1 e2; exact step x _ hI
end Go.Proofs.Ytdlanbfbbopfhaa.Ax
