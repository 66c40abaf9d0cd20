/- Package lift: how much a body holds. -/
import Derived.Test.YtdlanbfbbopfhaaJLi2
set_option linter.unusedVariables false
set_option linter.unusedSimpArgs false
set_option maxRecDepth 20000
set_option maxHeartbeats 8000000
namespace Go.Proofs.Ytdlanbfbbopfhaa
open Go Ax
theorem ite_ind {α : Type} {P : α → Prop} {c : Prop} [Decidable c] {a b : α} (ha : P a) (hb : P b) : P (if c then a else b) := by split <;> assumption
theorem one_regs (x : Ins) (t : Int) : (oneL x t).regs.length ≤ 8 := by
  have h := (eff_le x.1 x.2.1).2.1
  have hp : (took t (pops x)).length ≤ 8 := by unfold took pops; simp; omega
  show (fun o : OpT => o.regs.length ≤ 8) (oneL x t)
  unfold oneL
  repeat (refine ite_ind (P := fun o : OpT => o.regs.length ≤ 8) (by first | exact Nat.zero_le _ | exact hp) ?_)
  exact hp
theorem run_regs {pool : List ByteArray} {c : CodeT} {L : List Int} (hl : ∀ (i : Nat) (d : Int), L[i]? = some d → d ≤ 64) : ∀ (n : Nat) (o : OpT), o ∈ (runL pool c L n).ops → o.regs.length ≤ 64 ∧ o.map.length ≤ 64 := by
  intro n
  induction n with
  | zero => intro o ho; simp [runL] at ho
  | succ n ih =>
    intro o ho
    unfold runL at ho
    split at ho
    · rename_i x d hx hd
      have hd64 := hl n d hd
      have hm : (mapL c.2.1 d).length ≤ 64 := by unfold mapL; simp; omega
      unfold stepL at ho
      split at ho
      · exact ih o ho
      · unfold instrL at ho
        split at ho
        · exact ih o ho
        · split at ho
          · rename_i v hv
            simp only [putL_, List.mem_append, List.mem_singleton] at ho
            rcases ho with ho | rfl
            · exact ih o ho
            · exact ⟨by simp, hm⟩
          · rename_i h31 hcn
            simp only [putL_, List.mem_append, List.mem_singleton] at ho
            rcases ho with ho | rfl
            · exact ih o ho
            · exact ⟨by have := one_regs x (c.2.1 + d); show (oneL x (c.2.1 + d)).regs.length ≤ 64; omega, hm⟩
    · exact ih o ho
theorem body_regs {pool : List ByteArray} {c : CodeT} {L : List Int} (hl : ∀ (i : Nat) (d : Int), L[i]? = some d → d ≤ 64) (o : OpT) (ho : o ∈ (bodyL pool c L).ops) : o.regs.length ≤ 64 ∧ o.map.length ≤ 64 := by
  unfold bodyL at ho
  simp only [List.mem_map] at ho
  obtain ⟨o', ho', rfl⟩ := ho
  have := run_regs hl _ o' ho'
  unfold patch1
  split <;> exact this
abbrev opW (o : OpT) (rv mv : Value) : Value := .agg #[.int .i64 o.kind, .int .i64 o.a, .int .i64 o.b, .int .i64 o.c, .int .i64 o.d, rv, .slice none 0 0, .int .i64 o.pc, mv]
theorem places_len {pool : List ByteArray} {c : CodeT} {L : List Int} (h : Closed c L) : (bodyL pool c L).places.length = c.ins.length :=
  (run_len (pool := pool) (c := c) (L := L) c.ins.length (Nat.le_refl _) (by rw [h.inv.len]; exact Nat.le_refl _)).1
theorem LiftS.small {p : ProgT} {f F R e : Int} {s : LS} (h : LiftS p f F R s e) (hf : FewP p) : s.places.length < 4294967296 ∧ s.ops.length ≤ 400 ∧ s.consts.length ≤ 400 := by
  rcases h with ⟨c, L, h0, h1, h2, rfl, rfl, rfl, rfl⟩ | ⟨h0, rfl, rfl, rfl, rfl⟩
  · have := hf.2.2 c (List.mem_of_getElem? h1)
    have hr := run_len (pool := p.2.1) (c := c) (L := L) c.ins.length (Nat.le_refl _) (by rw [h2.inv.len]; exact Nat.le_refl _)
    rw [places_len h2]
    have ho : (bodyL p.2.1 c L).ops.length = (runL p.2.1 c L c.ins.length).ops.length := List.length_map ..
    have hc : (bodyL p.2.1 c L).consts = (runL p.2.1 c L c.ins.length).consts := rfl
    rw [ho, hc]
    have := hr.2
    omega
  · simp
theorem LiftS.regs {p : ProgT} {f F R e : Int} {s : LS} (h : LiftS p f F R s e) : ∀ o ∈ s.ops, o.regs.length ≤ 64 ∧ o.map.length ≤ 64 := by
  rcases h with ⟨c, L, h0, h1, h2, rfl, rfl, rfl, rfl⟩ | ⟨h0, rfl, rfl, rfl, rfl⟩
  · have hr := h0.2.2.2.2.2.2.2.2 _ c h1
    have hlim := hr.1
    unfold Lim at hlim
    have hll := h2.inv.len
    refine body_regs fun i d hd => ?_
    by_cases hd0 : d < 0
    · omega
    obtain ⟨x, hx⟩ := get_lt (L := c.ins) (m := i) (by have := lt_of_get hd; omega)
    have hfi := h2.fine i d x hd (by omega) hx
    have hdeep := (aims_right hr).2.2.2.1
    omega
  · intro o ho
    simp at ho
end Go.Proofs.Ytdlanbfbbopfhaa
