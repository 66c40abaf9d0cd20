/- Package lift: what the operations of a code are, one by one; where they stand. -/
import Derived.Test.YtdlanbfbbopfhaaJLiS1
set_option linter.unusedVariables false
set_option linter.unusedSimpArgs false
set_option maxRecDepth 20000
set_option maxHeartbeats 4000000
namespace Go.Proofs.Ytdlanbfbbopfhaa
open Go Ax
def hasOp (x : Ins) (d : Int) : Prop := 0 ≤ d ∧ x.1 ≠ 31
instance (x : Ins) (d : Int) : Decidable (hasOp x d) := by unfold hasOp; infer_instance
/-- The operation of an instruction. -/
def opOf (pool : List ByteArray) (loc : Int) (K : List V) (i : Nat) (x : Ins) (d : Int) : OpT :=
  match constL pool x with
  | some v => ⟨2, loc + d, (idV K v : Int), 0, 0, [], i, mapL loc d⟩
  | none => { oneL x (loc + d) with pc := i, map := mapL loc d }
def addC (pool : List ByteArray) (K : List V) (x : Ins) : List V := match constL pool x with | some v => addV K v | none => K
theorem step_ops (pool : List ByteArray) (loc : Int) (s : LS) (i : Nat) (x : Ins) (d : Int) : (stepL pool loc s i x d).ops = s.ops ++ if hasOp x d then [opOf pool loc s.consts i x d] else [] := by
  unfold stepL
  by_cases h : d < 0
  · rw [if_pos h, if_neg (fun k => by have := k.1; omega)]; simp
  · rw [if_neg h]
    unfold instrL
    by_cases h31 : x.1 = 31
    · rw [if_pos h31, if_neg (fun k => k.2 h31)]; simp
    · rw [if_neg h31, if_pos ⟨by omega, h31⟩]
      unfold opOf putL_
      cases constL pool x <;> rfl
theorem step_consts (pool : List ByteArray) (loc : Int) (s : LS) (i : Nat) (x : Ins) (d : Int) : (stepL pool loc s i x d).consts = if hasOp x d then addC pool s.consts x else s.consts := by
  unfold stepL
  by_cases h : d < 0
  · rw [if_pos h, if_neg (fun k => by have := k.1; omega)]
  · rw [if_neg h]
    unfold instrL
    by_cases h31 : x.1 = 31
    · rw [if_pos h31, if_neg (fun k => k.2 h31)]
    · rw [if_neg h31, if_pos ⟨by omega, h31⟩]
      unfold addC putL_
      cases constL pool x <;> rfl
theorem step_places (pool : List ByteArray) (loc : Int) (s : LS) (i : Nat) (x : Ins) (d : Int) : (stepL pool loc s i x d).places = s.places ++ [if d < 0 then -1 else (s.ops.length : Int)] := by
  unfold stepL
  by_cases h : d < 0
  · rw [if_pos h, if_pos h]
  · rw [if_neg h, if_neg h]
    unfold instrL
    by_cases h31 : x.1 = 31
    · rw [if_pos h31]
    · rw [if_neg h31]
      unfold putL_
      cases constL pool x <;> rfl
theorem run_succ {pool : List ByteArray} {c : CodeT} {L : List Int} {n : Nat} {x : Ins} {d : Int} (hx : c.ins[n]? = some x) (hd : L[n]? = some d) : runL pool c L (n + 1) = stepL pool c.2.1 (runL pool c L n) n x d := by rw [runL, hx, hd]
/-- How many operations are ahead of an instruction. -/
def cntL (pool : List ByteArray) (c : CodeT) (L : List Int) (i : Nat) : Nat := (runL pool c L i).ops.length
theorem cnt_succ {pool : List ByteArray} {c : CodeT} {L : List Int} {n : Nat} {x : Ins} {d : Int} (hx : c.ins[n]? = some x) (hd : L[n]? = some d) : cntL pool c L (n + 1) = cntL pool c L n + if hasOp x d then 1 else 0 := by
  unfold cntL
  rw [run_succ hx hd, step_ops, List.length_append]
  split <;> rfl
theorem addV_sub {l : List V} {v y : V} (h : y ∈ l) : y ∈ addV l v := by
  unfold addV
  split
  · exact h
  · exact List.mem_append_left _ h
theorem addV_mem {l : List V} {v y : V} (h : y ∈ addV l v) : y ∈ l ∨ y = v := by
  unfold addV at h
  split at h
  · exact .inl h
  · rcases List.mem_append.1 h with h | h
    · exact .inl h
    · exact .inr (by simpa using h)
theorem addV_len (l : List V) (v : V) : l.length ≤ (addV l v).length ∧ (addV l v).length ≤ l.length + 1 := by
  unfold addV
  split
  · omega
  · simp
theorem idV_lt (l : List V) (v : V) : idV l v < (addV l v).length := by
  unfold idV addV
  by_cases h : l.any (isV v) = true
  · rw [if_pos h]
    obtain ⟨x, h1, h2⟩ := List.any_eq_true.1 h
    exact List.findIdx_lt_length_of_exists ⟨x, h1, h2⟩
  · rw [if_neg h, List.length_append]
    have := List.findIdx_le_length (xs := l) (p := isV v)
    simp; omega
/-- What is known of a run. -/
structure RunI (pool : List ByteArray) (c : CodeT) (L : List Int) (n : Nat) : Prop where
  plen : (runL pool c L n).places.length = n
  pla : ∀ (i : Nat) (d : Int), i < n → L[i]? = some d → 0 ≤ d → (runL pool c L n).places[i]? = some (cntL pool c L i : Int)
  ops : ∀ (k : Nat) (o : OpT), (runL pool c L n).ops[k]? = some o → ∃ i x d K, i < n ∧ c.ins[i]? = some x ∧ L[i]? = some d ∧ hasOp x d ∧ cntL pool c L i = k ∧ o = opOf pool c.2.1 K i x d ∧ ((constL pool x).isSome → o.b < (runL pool c L n).consts.length)
  at_ : ∀ (i : Nat) (x : Ins) (d : Int), i < n → c.ins[i]? = some x → L[i]? = some d → hasOp x d → ∃ K, (runL pool c L n).ops[cntL pool c L i]? = some (opOf pool c.2.1 K i x d)
  con : ∀ v ∈ (runL pool c L n).consts, ∃ (i : Nat) (x : Ins), c.ins[i]? = some x ∧ constL pool x = some v
  clen : (runL pool c L n).consts.length ≤ n
  olen : (runL pool c L n).ops.length ≤ n
theorem run_inv {pool : List ByteArray} {c : CodeT} {L : List Int} (hl : L.length = c.ins.length) : ∀ n, n ≤ c.ins.length → RunI pool c L n := by
  intro n
  induction n with
  | zero =>
    intro _
    exact ⟨rfl, fun i d h => by omega, fun k o h => by simp [runL] at h, fun i x d h => by omega, fun v hv => by simp [runL] at hv, by simp [runL], by simp [runL]⟩
  | succ n ih =>
    intro hn
    obtain ⟨h1, h2, h3, h4, h5, h6, h7⟩ := ih (by omega)
    obtain ⟨x, hx⟩ := get_lt (L := c.ins) (m := n) (by omega)
    obtain ⟨d, hd⟩ := get_lt (L := L) (m := n) (by omega)
    have hr := run_succ (pool := pool) hx hd
    have eo := step_ops pool c.2.1 (runL pool c L n) n x d
    have ec := step_consts pool c.2.1 (runL pool c L n) n x d
    have ep := step_places pool c.2.1 (runL pool c L n) n x d
    rw [← hr] at eo ec ep
    have hcl : (runL pool c L n).consts.length ≤ (runL pool c L (n + 1)).consts.length := by
      rw [ec]
      split
      · unfold addC
        cases constL pool x with
        | none => exact Nat.le_refl _
        | some v => exact (addV_len _ v).1
      · exact Nat.le_refl _
    refine ⟨by rw [ep]; simp [h1], fun i d' hi hd' h0 => ?_, fun k o ho => ?_, fun i x' d' hi hx' hd' hh => ?_, fun v hv => ?_, ?_, ?_⟩
    · rw [ep]
      by_cases hin : i < n
      · rw [List.getElem?_append_left (by omega)]; exact h2 i d' hin hd' h0
      · have : i = n := by omega
        subst this
        rw [hd] at hd'
        simp only [Option.some.injEq] at hd'
        subst hd'
        rw [List.getElem?_append_right (by omega), h1, Nat.sub_self, if_neg (by omega)]
        rfl
    · rw [eo] at ho
      by_cases hk : k < (runL pool c L n).ops.length
      · rw [List.getElem?_append_left hk] at ho
        obtain ⟨i, x', d', K, a1, a2, a3, a4, a5, a6, a7⟩ := h3 k o ho
        exact ⟨i, x', d', K, by omega, a2, a3, a4, a5, a6, fun h => by have := a7 h; omega⟩
      · rw [List.getElem?_append_right (by omega)] at ho
        by_cases hh : hasOp x d
        · rw [if_pos hh] at ho
          have hk0 : k - (runL pool c L n).ops.length = 0 := by have := lt_of_get ho; simp at this; omega
          rw [hk0] at ho
          simp only [List.getElem?_cons_zero, Option.some.injEq] at ho
          refine ⟨n, x, d, _, by omega, hx, hd, hh, by unfold cntL; omega, ho.symm, fun hc => ?_⟩
          rw [← ho, ec, if_pos hh]
          unfold opOf addC
          cases hv : constL pool x with
          | none => rw [hv] at hc; simp at hc
          | some v =>
            have := idV_lt (runL pool c L n).consts v
            show ((idV _ v : Nat) : Int) < _
            exact Int.ofNat_lt.2 this
        · rw [if_neg hh] at ho; simp at ho
    · rw [eo]
      by_cases hin : i < n
      · obtain ⟨K, hK⟩ := h4 i x' d' hin hx' hd' hh
        exact ⟨K, by rw [List.getElem?_append_left (lt_of_get hK)]; exact hK⟩
      · have : i = n := by omega
        subst this
        rw [hd] at hd'
        rw [hx] at hx'
        simp only [Option.some.injEq] at hd' hx'
        subst hd' hx'
        refine ⟨(runL pool c L i).consts, ?_⟩
        rw [if_pos hh]
        unfold cntL
        simp
    · rw [ec] at hv
      split at hv
      · unfold addC at hv
        cases hcv : constL pool x with
        | none => rw [hcv] at hv; exact h5 v hv
        | some w =>
          rw [hcv] at hv
          rcases addV_mem hv with hv | rfl
          · exact h5 v hv
          · exact ⟨n, x, hx, hcv⟩
      · exact h5 v hv
    · rw [ec]
      split
      · unfold addC
        cases constL pool x with
        | none => show (runL pool c L n).consts.length ≤ _; omega
        | some w => have := (addV_len (runL pool c L n).consts w).2; show (addV _ w).length ≤ _; omega
      · omega
    · rw [eo, List.length_append]
      split <;> simp <;> omega
/-- The count does not fall. -/
theorem cnt_mono {pool : List ByteArray} {c : CodeT} {L : List Int} (hl : L.length = c.ins.length) {i : Nat} : ∀ {j : Nat}, i ≤ j → j ≤ c.ins.length → cntL pool c L i ≤ cntL pool c L j := by
  intro j
  induction j with
  | zero => intro h _; have : i = 0 := by omega
            subst this; exact Nat.le_refl _
  | succ j ih =>
    intro h hj
    by_cases hij : i = j + 1
    · subst hij; exact Nat.le_refl _
    · obtain ⟨x, hx⟩ := get_lt (L := c.ins) (m := j) (by omega)
      obtain ⟨d, hd⟩ := get_lt (L := L) (m := j) (by omega)
      have := cnt_succ (pool := pool) hx hd
      have := ih (by omega) (by omega)
      omega
theorem cnt_has {pool : List ByteArray} {c : CodeT} {L : List Int} {i : Nat} {x : Ins} {d : Int} (hl : L.length = c.ins.length) (hx : c.ins[i]? = some x) (hd : L[i]? = some d) (hh : hasOp x d) {j : Nat} (hij : i < j) (hj : j ≤ c.ins.length) : cntL pool c L i < cntL pool c L j := by
  have := cnt_succ (pool := pool) hx hd
  rw [if_pos hh] at this
  have := cnt_mono (pool := pool) hl (i := i + 1) (j := j) hij hj
  omega
end Go.Proofs.Ytdlanbfbbopfhaa
/- Package lift: where a code goes on; the last operation; where jumps go. -/
set_option linter.unusedVariables false
set_option linter.unusedSimpArgs false
set_option maxRecDepth 20000
set_option maxHeartbeats 4000000
namespace Go.Proofs.Ytdlanbfbbopfhaa
open Go Ax
theorem tgt_on {c : CodeT} {i : Nat} {x : Ins} (hn : c.ins.length ≤ 4000) (hx : c.ins[i]? = some x) : tgt c.ins (i : Int) = if x.1 = 32 then [] else if x.1 = 22 then [x.2.1] else if gos x.1 then [(i : Int) + 1, x.2.1] else [(i : Int) + 1] := by
  have hl := lt_of_get hx
  unfold tgt
  rw [if_neg (by omega), Int.toNat_natCast, hx, wrap_i64 (by omega) (by omega)]
theorem on_next {c : CodeT} {L : List Int} (h : Closed c L) (hn : c.ins.length ≤ 4000) {i : Nat} {x : Ins} {d : Int} (hx : c.ins[i]? = some x) (hd : L[i]? = some d) (h0 : 0 ≤ d) (h1 : x.1 ≠ 32) (h2 : x.1 ≠ 22) :
    i + 1 < c.ins.length ∧ nd x d 0 ≤ c.deep ∧ L[i + 1]? = some (nd x d 0) ∧ 0 ≤ nd x d 0 := by
  obtain ⟨k1, k2, k3⟩ := h.fine i d x hd h0 hx
  have ht : (tgt c.ins (i : Int))[0]? = some ((i : Int) + 1) := by
    rw [tgt_on hn hx, if_neg h1, if_neg h2]
    split <;> rfl
  obtain ⟨a1, a2, a3⟩ := k3 0 _ ht
  rw [show ((i : Int) + 1).toNat = i + 1 by omega] at a3
  exact ⟨by omega, a2, a3, (nd_le k1).1⟩
/-- From where one comes one comes to an operation. -/
theorem flow {pool : List ByteArray} {c : CodeT} {L : List Int} (h : Closed c L) (hn : c.ins.length ≤ 4000) : ∀ (m i : Nat) (d : Int), c.ins.length = i + m → L[i]? = some d → 0 ≤ d →
    ∃ j x d', i ≤ j ∧ c.ins[j]? = some x ∧ L[j]? = some d' ∧ hasOp x d' ∧ cntL pool c L j = cntL pool c L i := by
  intro m
  induction m with
  | zero => intro i d hi hd _; have := lt_of_get hd; have := h.inv.len; omega
  | succ m ih =>
    intro i d hi hd h0
    obtain ⟨x, hx⟩ := get_lt (L := c.ins) (m := i) (by omega)
    by_cases h31 : x.1 = 31
    · obtain ⟨a1, a2, a3, a4⟩ := on_next h hn hx hd h0 (by omega) (by omega)
      obtain ⟨j, y, d', b1, b2, b3, b4, b5⟩ := ih (i + 1) _ (by omega) a3 a4
      refine ⟨j, y, d', by omega, b2, b3, b4, ?_⟩
      rw [b5, cnt_succ hx hd, if_neg (fun k => k.2 h31)]
      rfl
    · exact ⟨i, x, d, Nat.le_refl _, hx, hd, ⟨h0, h31⟩, rfl⟩
theorem flow_lt {pool : List ByteArray} {c : CodeT} {L : List Int} (h : Closed c L) (hn : c.ins.length ≤ 4000) {i : Nat} {d : Int} (hd : L[i]? = some d) (h0 : 0 ≤ d) : cntL pool c L i < (runL pool c L c.ins.length).ops.length := by
  have hl := h.inv.len
  obtain ⟨j, x, d', b1, b2, b3, b4, b5⟩ := flow (pool := pool) h hn (c.ins.length - i) i d (by have := lt_of_get hd; omega) hd h0
  obtain ⟨K, hK⟩ := (run_inv (pool := pool) hl c.ins.length (Nat.le_refl _)).at_ j x d' (lt_of_get b2) b2 b3 b4
  have := lt_of_get hK
  omega
theorem run_ne {pool : List ByteArray} {c : CodeT} {L : List Int} (h : Closed c L) (hn : c.ins.length ≤ 4000) : 1 ≤ (runL pool c L c.ins.length).ops.length := by
  have := flow_lt (pool := pool) h hn h.inv.zero (Int.le_refl 0)
  omega
/-- The last operation goes nowhere else. -/
theorem last_op {pool : List ByteArray} {c : CodeT} {L : List Int} (h : Closed c L) (hn : c.ins.length ≤ 4000) {k : Nat} {i : Nat} {x : Ins} {d : Int} (hk : k + 1 = (runL pool c L c.ins.length).ops.length) (hx : c.ins[i]? = some x) (hd : L[i]? = some d) (hh : hasOp x d) (hc : cntL pool c L i = k) : x.1 = 22 ∨ x.1 = 32 := by
  refine Decidable.byContradiction fun hne => ?_
  obtain ⟨a1, a2, a3, a4⟩ := on_next h hn hx hd hh.1 (by omega) (by omega)
  have := flow_lt (pool := pool) h hn a3 a4
  have e := cnt_succ (pool := pool) hx hd
  rw [if_pos hh] at e
  omega
/-- Where a jump goes. -/
theorem jump_to {p : ProgT} {pool : List ByteArray} {c : CodeT} {L : List Int} (h : Closed c L) (hn : c.ins.length ≤ 4000) {i : Nat} {x : Ins} {d : Int} (hx : c.ins[i]? = some x) (hd : L[i]? = some d) (hh : hasOp x d) (hi : insP p c i x) (hg : gos x.1 = true) :
    ∃ n : Nat, (runL pool c L c.ins.length).places.getD x.2.1.toNat 0 = (n : Int) ∧ n < (runL pool c L c.ins.length).ops.length ∧ (cntL pool c L i < n ∨ ∃ K y d' t, (runL pool c L c.ins.length).ops[n]? = some (opOf pool c.2.1 K t y d') ∧ y.1 = 1) := by
  have hl := h.inv.len
  have hr := run_inv (pool := pool) hl c.ins.length (Nat.le_refl _)
  obtain ⟨k1, k2, k3⟩ := h.fine i d x hd hh.1 hx
  obtain ⟨a1, a2⟩ := arg_goes hi.1 hg
  -- the target
  obtain ⟨k, hk⟩ : ∃ k, (tgt c.ins (i : Int))[k]? = some x.2.1 := by
    rw [tgt_on hn hx]
    have hg' := hg
    unfold gos at hg'
    simp only [decide_eq_true_eq] at hg'
    rw [if_neg (by omega)]
    by_cases h22 : x.1 = 22
    · exact ⟨0, by rw [if_pos h22]; rfl⟩
    · exact ⟨1, by rw [if_neg h22, if_pos hg]; rfl⟩
  obtain ⟨b1, b2, b3⟩ := k3 k _ hk
  have hnn : 0 ≤ nd x d k := (nd_le k1).1
  have hpl := hr.pla x.2.1.toNat (nd x d k) (by omega) b3 hnn
  refine ⟨cntL pool c L x.2.1.toNat, by rw [List.getD_eq_getElem?_getD, hpl]; rfl, flow_lt h hn b3 hnn, ?_⟩
  rcases hi.2.2.2 hg with hf | hb
  · exact .inl (cnt_has hl hx hd hh (by omega) (by omega))
  · obtain ⟨y, hy⟩ := get_lt (L := c.ins) (m := x.2.1.toNat) (by omega)
    have hy1 : y.1 = 1 := by unfold opAt at hb; rw [hy] at hb; exact hb
    obtain ⟨K, hK⟩ := hr.at_ _ y _ (by omega) hy b3 ⟨hnn, by omega⟩
    exact .inr ⟨K, y, _, _, hK, hy1⟩
end Go.Proofs.Ytdlanbfbbopfhaa
