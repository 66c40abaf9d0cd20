/- The stack's depth in what is laid, plainly. -/
import Derived.Test.YtmdjepfpgmignaaJSs2
set_option linter.unusedVariables false
set_option linter.unusedSimpArgs false
set_option maxRecDepth 20000
set_option maxHeartbeats 8000000
namespace Go.Proofs.Ytmdjepfpgmignaa
open Go Ax
/-- How much deeper the stack is behind instructions, one behind the other. -/
def lin (c : List Ins) : Int := (c.map fun x => pushes x - pops x).sum
theorem lin_nil : lin [] = 0 := rfl
theorem lin_cons (x : Ins) (c : List Ins) : lin (x :: c) = pushes x - pops x + lin c := by unfold lin; simp
theorem lin_app (c d : List Ins) : lin (c ++ d) = lin c + lin d := by unfold lin; simp
def dep (c : List Ins) (i : Nat) : Int := lin (c.take i)
theorem dep_at {c l r : List Ins} {i : Nat} (h : c = l ++ r) (hi : i = l.length) : dep c i = lin l := by
  subst h hi
  unfold dep
  rw [List.take_left']
  rfl
theorem get_at {c l r : List Ins} {x : Ins} {i : Nat} (h : c = l ++ x :: r) (hi : i = l.length) : c[i]? = some x := by
  subst h hi
  rw [List.getElem?_append_right (Nat.le_refl _)]
  simp
theorem dep_succ {c : List Ins} {i : Nat} {x : Ins} (h : c[i]? = some x) : dep c (i + 1) = dep c i + (pushes x - pops x) := by
  unfold dep
  rw [List.take_add_one, h, lin_app]
  show _ + lin [x] = _
  rw [lin_cons, lin_nil]
  omega
/-- What is right of the stack at an instruction. -/
structure At (c : List Ins) (i : Nat) (x : Ins) : Prop where
  pop : pops x ≤ dep c i
  goes : gos x.1 = true → ∃ t : Nat, x.2.1 = (t : Int) ∧ t < c.length ∧ dep c t = nd x (dep c i) (if x.1 = 22 then 0 else 1) ∧ (i < t ∨ opAt c (t : Int) = 1)
/-- What is laid is right of the stack, wherever it stands, if so many values are there; and lays so many more. -/
def Seg (need net : Int) (g : GE) : Prop := ∀ (pre post : List Ins) (st : PS), post ≠ [] → need ≤ lin pre → lin (g pre.length st).1 = net ∧
  ∀ i x, pre.length ≤ i → i < pre.length + (g pre.length st).1.length → (pre ++ ((g pre.length st).1 ++ post))[i]? = some x → At (pre ++ ((g pre.length st).1 ++ post)) i x
theorem Seg.mono {n m e : Int} {g : GE} (h : Seg n e g) (hn : n ≤ m) : Seg m e g := fun pre post st hp hm => h pre post st hp (by omega)
theorem Seg.net {n e e' : Int} {g : GE} (h : Seg n e g) (he : e = e') : Seg n e' g := he ▸ h
theorem Seg.id : Seg 0 0 idE := fun pre post st hp hn => ⟨rfl, fun i x h1 h2 => by
  have : (idE pre.length st).1.length = 0 := rfl
  omega⟩
theorem one_at {pre post : List Ins} {y : Ins} {i : Nat} {x : Ins} (h1 : pre.length ≤ i) (h2 : i < pre.length + 1) (hx : (pre ++ (y :: post))[i]? = some x) : i = pre.length ∧ x = y := by
  have hi : i = pre.length := by omega
  have := get_at (c := pre ++ (y :: post)) rfl hi
  rw [hx] at this
  exact ⟨hi, by cases this; rfl⟩
/-- One instruction that does not go anywhere. -/
theorem Seg.ins {g : GE} {op a : Int} (hb : ∀ n st, ∃ a' b', (g n st).1 = [(op, a', b')] ∧ eff op a' = eff op a) (hg : gos op = false) : Seg (eff op a).1 ((eff op a).2 - (eff op a).1) g := by
  intro pre post st hp hn
  obtain ⟨a', b', e, ha⟩ := hb pre.length st
  rw [e]
  refine ⟨?_, fun i x h1 h2 hx => ?_⟩
  · rw [lin_cons, lin_nil]
    show (eff op a').2 - (eff op a').1 + 0 = _
    rw [ha]; omega
  · obtain ⟨rfl, rfl⟩ := one_at h1 h2 hx
    refine ⟨?_, fun h => by rw [hg] at h; simp at h⟩
    show (eff op a').1 ≤ _
    rw [ha, dep_at rfl rfl]
    exact hn
theorem Seg.one (op a b : Int) (hg : gos op = false) : Seg (eff op a).1 ((eff op a).2 - (eff op a).1) (oneE op a b) := Seg.ins (fun _ _ => ⟨a, b, rfl, rfl⟩) hg
theorem Seg.seq {n n2 e1 e2 : Int} {f g : GE} (hf : Seg n e1 f) (hg : Seg n2 e2 g) (h2 : n2 ≤ n + e1) : Seg n (e1 + e2) (seqE f g) := by
  intro pre post st hp hn
  unfold seqE
  dsimp only
  have F := hf pre
  generalize hpq : f pre.length st = p at F
  have G := hg (pre ++ p.1)
  rw [List.length_append] at G
  have G := G post p.2 hp
  generalize hq : g (pre.length + p.1.length) p.2 = q at G
  have F := F (q.1 ++ post) st (by simp [hp]) hn
  rw [hpq] at F
  have hl : lin (pre ++ p.1) = lin pre + e1 := by rw [lin_app, F.1]
  have G := G (by rw [hl]; omega)
  refine ⟨by rw [lin_app, F.1, G.1], fun i x h1 h3 hx => ?_⟩
  rw [List.length_append] at h3
  by_cases hi : i < pre.length + p.1.length
  · have := F.2 i x h1 hi
    rw [List.append_assoc] at hx ⊢
    exact this hx
  · have := G.2 i x (by omega) (by omega)
    rw [List.append_assoc] at this
    rw [List.append_assoc] at hx ⊢
    exact this hx
theorem Seg.all : ∀ {gs : List GE} {e : Int}, 0 ≤ e → (∀ g ∈ gs, Seg 0 e g) → Seg 0 (e * gs.length) (allE gs)
  | [], e, _, _ => Seg.id.net (by simp)
  | g :: gs, e, he, h => by
    refine (Seg.seq (h g (by simp)) (Seg.all he fun x hx => h x (List.mem_cons_of_mem _ hx)) (by omega)).net ?_
    rw [List.length_cons, Int.natCast_add, Int.mul_add, show ((1 : Nat) : Int) = 1 from rfl, Int.mul_one]
    omega
theorem Seg.init : ∀ {ns : List ByteArray} {gs : List GE}, (∀ g ∈ gs, Seg 0 1 g) → Seg 1 0 (initE ns gs)
  | [], _, _ => Seg.id.mono (by omega)
  | _ :: _, [], _ => Seg.id.mono (by omega)
  | n :: ns, g :: gs, h => by
    have h1 : Seg 2 (-1) (siteE 13 n) := Seg.ins (op := 13) (a := 0) (fun _ _ => ⟨_, _, rfl, rfl⟩) rfl
    have h2 : Seg 2 (-1) (seqE (siteE 13 n) (initE ns gs)) := (h1.seq (Seg.init fun x hx => h x (List.mem_cons_of_mem _ hx)) (by omega)).net (by omega)
    have h3 : Seg 1 1 g := (h g (by simp)).mono (by omega)
    exact (h3.seq h2 (by omega)).net (by omega)
theorem Seg.ite {n e : Int} {c : Prop} [Decidable c] {f g : GE} (hf : c → Seg n e f) (hg : ¬ c → Seg n e g) : Seg n e (if c then f else g) := by
  split
  · rename_i h; exact hf h
  · rename_i h; exact hg h
theorem nd_jump {op a : Int} (h : op = 23 ∨ op = 24 ∨ op = 25) (d : Int) : nd (op, a, 0) d (if op = 22 then 0 else 1) = d - 1 + (if op = 24 ∨ op = 25 then 1 else 0) := by
  rcases h with rfl | rfl | rfl <;> simp [nd, pops, pushes, eff]
theorem Seg.keep {op : Int} {f g : GE} (ho : op = 24 ∨ op = 25) (hf : Seg 0 1 f) (hg : Seg 0 1 g) : Seg 0 1 (keepE op f g) := by
  intro pre post st hp hn
  unfold keepE
  dsimp only
  have F := hf pre
  generalize hpq : f pre.length st = p at F
  generalize hq : g (pre.length + p.1.length + 1) p.2 = q
  generalize hT : ((pre.length + p.1.length + 1 + q.1.length : Nat) : Int) = T
  have F := F ((op, T, 0) :: q.1 ++ post) st (by simp) hn
  rw [hpq] at F
  have hl : lin (pre ++ p.1) = lin pre + 1 := by rw [lin_app, F.1]
  have hx1 : pushes (op, T, 0) - pops (op, T, 0) = -1 := by unfold pushes pops; rcases ho with rfl | rfl <;> simp [eff]
  have hl2 : lin (pre ++ p.1 ++ [(op, T, 0)]) = lin pre := by rw [lin_app, hl, lin_cons, lin_nil, hx1]; omega
  have G := hg (pre ++ p.1 ++ [(op, T, 0)]) post p.2 hp (by rw [hl2]; exact hn)
  have hlen : (pre ++ p.1 ++ [(op, T, 0)]).length = pre.length + p.1.length + 1 := by simp only [List.length_append, List.length_cons, List.length_nil]
  rw [hlen, hq] at G
  have E1 : pre ++ (p.1 ++ (op, T, 0) :: q.1 ++ post) = pre ++ (p.1 ++ ((op, T, 0) :: q.1 ++ post)) := by simp
  have E2 : pre ++ (p.1 ++ (op, T, 0) :: q.1 ++ post) = pre ++ p.1 ++ [(op, T, 0)] ++ (q.1 ++ post) := by simp
  have E3 : pre ++ (p.1 ++ (op, T, 0) :: q.1 ++ post) = (pre ++ p.1) ++ (op, T, 0) :: (q.1 ++ post) := by simp
  have E4 : pre ++ (p.1 ++ (op, T, 0) :: q.1 ++ post) = (pre ++ p.1 ++ [(op, T, 0)] ++ q.1) ++ post := by simp
  generalize pre ++ (p.1 ++ (op, T, 0) :: q.1 ++ post) = c at E1 E2 E3 E4 ⊢
  refine ⟨by rw [lin_app, lin_cons, F.1, G.1, hx1]; omega, fun i x h1 h3 hx => ?_⟩
  rw [List.length_append, List.length_cons] at h3
  by_cases hi : i < pre.length + p.1.length
  · rw [E1] at hx ⊢; exact F.2 i x h1 hi hx
  by_cases hi2 : i = pre.length + p.1.length
  · have hi3 : i = (pre ++ p.1).length := by rw [List.length_append]; exact hi2
    have := get_at E3 hi3
    rw [hx] at this
    cases this
    have hd := dep_at E3 hi3
    refine ⟨?_, fun _ => ⟨pre.length + p.1.length + 1 + q.1.length, hT.symm, ?_, ?_, .inl (by omega)⟩⟩
    · rw [hd, hl]; unfold pops; rcases ho with rfl | rfl <;> (simp [eff]; omega)
    · rw [E4]; simp only [List.length_append, List.length_cons, List.length_nil]
      have := List.length_pos_iff.2 hp
      omega
    · rw [hd, hl]
      show _ = nd (op, T, 0) _ (if op = 22 then 0 else 1)
      rw [nd_jump (.inr ho), if_pos ho, dep_at E4 (by simp only [List.length_append, List.length_cons, List.length_nil]), lin_app, hl2, G.1]
      omega
  · rw [E2] at hx ⊢
    exact G.2 i x (by omega) (by omega) hx
theorem Seg.choice {f g h : GE} (hf : Seg 0 1 f) (hg : Seg 0 0 g) (hh : Seg 0 0 h) : Seg 0 0 (choiceE f g h) := by
  intro pre post st hp hn
  unfold choiceE
  dsimp only
  have F := hf pre
  generalize hpq : f pre.length st = p at F
  generalize hq : g (pre.length + p.1.length + 1) p.2 = q
  generalize hr : h (pre.length + p.1.length + 1 + q.1.length + 1) q.2 = r
  generalize hT : ((pre.length + p.1.length + 1 + q.1.length + 1 : Nat) : Int) = T
  generalize hU : ((pre.length + p.1.length + 1 + q.1.length + 1 + r.1.length : Nat) : Int) = U
  have F := F ((23, T, 0) :: (q.1 ++ (22, U, 0) :: r.1) ++ post) st (by simp) hn
  rw [hpq] at F
  have hl : lin (pre ++ p.1) = lin pre + 1 := by rw [lin_app, F.1]
  have hx1 : pushes (23, T, 0) - pops (23, T, 0) = -1 := by unfold pushes pops; simp [eff]
  have hx2 : pushes (22, U, 0) - pops (22, U, 0) = 0 := by unfold pushes pops; simp [eff]
  have hl2 : lin (pre ++ p.1 ++ [(23, T, 0)]) = lin pre := by rw [lin_app, hl, lin_cons, lin_nil, hx1]; omega
  have G := hg (pre ++ p.1 ++ [(23, T, 0)]) ((22, U, 0) :: r.1 ++ post) p.2 (by simp) (by rw [hl2]; exact hn)
  have hlen : (pre ++ p.1 ++ [(23, T, 0)]).length = pre.length + p.1.length + 1 := by simp only [List.length_append, List.length_cons, List.length_nil]
  rw [hlen, hq] at G
  have hl3 : lin (pre ++ p.1 ++ [(23, T, 0)] ++ q.1) = lin pre := by rw [lin_app, hl2, G.1]; omega
  have hl4 : lin (pre ++ p.1 ++ [(23, T, 0)] ++ q.1 ++ [(22, U, 0)]) = lin pre := by rw [lin_app, hl3, lin_cons, lin_nil, hx2]; omega
  have R := hh (pre ++ p.1 ++ [(23, T, 0)] ++ q.1 ++ [(22, U, 0)]) post q.2 hp (by rw [hl4]; exact hn)
  have hlen2 : (pre ++ p.1 ++ [(23, T, 0)] ++ q.1 ++ [(22, U, 0)]).length = pre.length + p.1.length + 1 + q.1.length + 1 := by simp only [List.length_append, List.length_cons, List.length_nil]
  rw [hlen2, hr] at R
  have E1 : pre ++ (p.1 ++ (23, T, 0) :: (q.1 ++ (22, U, 0) :: r.1) ++ post) = pre ++ (p.1 ++ ((23, T, 0) :: (q.1 ++ (22, U, 0) :: r.1) ++ post)) := by simp
  have E2 : pre ++ (p.1 ++ (23, T, 0) :: (q.1 ++ (22, U, 0) :: r.1) ++ post) = (pre ++ p.1) ++ (23, T, 0) :: (q.1 ++ (22, U, 0) :: r.1 ++ post) := by simp
  have E3 : pre ++ (p.1 ++ (23, T, 0) :: (q.1 ++ (22, U, 0) :: r.1) ++ post) = pre ++ p.1 ++ [(23, T, 0)] ++ (q.1 ++ ((22, U, 0) :: r.1 ++ post)) := by simp
  have E4 : pre ++ (p.1 ++ (23, T, 0) :: (q.1 ++ (22, U, 0) :: r.1) ++ post) = (pre ++ p.1 ++ [(23, T, 0)] ++ q.1) ++ (22, U, 0) :: (r.1 ++ post) := by simp
  have E5 : pre ++ (p.1 ++ (23, T, 0) :: (q.1 ++ (22, U, 0) :: r.1) ++ post) = pre ++ p.1 ++ [(23, T, 0)] ++ q.1 ++ [(22, U, 0)] ++ (r.1 ++ post) := by simp
  have E6 : pre ++ (p.1 ++ (23, T, 0) :: (q.1 ++ (22, U, 0) :: r.1) ++ post) = (pre ++ p.1 ++ [(23, T, 0)] ++ q.1 ++ [(22, U, 0)] ++ r.1) ++ post := by simp
  generalize pre ++ (p.1 ++ (23, T, 0) :: (q.1 ++ (22, U, 0) :: r.1) ++ post) = c at E1 E2 E3 E4 E5 E6 ⊢
  have hlp := List.length_pos_iff.2 hp
  refine ⟨by rw [lin_app, lin_cons, lin_app, lin_cons, F.1, G.1, R.1, hx1, hx2]; omega, fun i x h1 h3 hx => ?_⟩
  simp only [List.length_append, List.length_cons] at h3
  have hcl : c.length = pre.length + p.1.length + 1 + q.1.length + 1 + r.1.length + post.length := by rw [E6]; simp only [List.length_append, List.length_cons, List.length_nil]
  by_cases hi : i < pre.length + p.1.length
  · rw [E1] at hx ⊢; exact F.2 i x h1 hi hx
  by_cases hi2 : i = pre.length + p.1.length
  · have hi3 : i = (pre ++ p.1).length := by rw [List.length_append]; exact hi2
    have := get_at E2 hi3
    rw [hx] at this
    cases this
    have hd := dep_at E2 hi3
    refine ⟨?_, fun _ => ⟨pre.length + p.1.length + 1 + q.1.length + 1, hT.symm, by omega, ?_, .inl (by omega)⟩⟩
    · rw [hd, hl]; unfold pops; simp [eff]; omega
    · rw [hd, hl]
      show _ = nd (23, T, 0) _ (if (23 : Int) = 22 then 0 else 1)
      rw [nd_jump (.inl rfl), if_neg (by omega), dep_at E5 (by simp only [List.length_append, List.length_cons, List.length_nil]), hl4]
      omega
  by_cases hi4 : i < pre.length + p.1.length + 1 + q.1.length
  · rw [E3] at hx ⊢
    exact G.2 i x (by omega) hi4 hx
  by_cases hi5 : i = pre.length + p.1.length + 1 + q.1.length
  · have hi6 : i = (pre ++ p.1 ++ [(23, T, 0)] ++ q.1).length := by simp only [List.length_append, List.length_cons, List.length_nil]; omega
    have := get_at E4 hi6
    rw [hx] at this
    cases this
    have hd := dep_at E4 hi6
    refine ⟨?_, fun _ => ⟨pre.length + p.1.length + 1 + q.1.length + 1 + r.1.length, hU.symm, by omega, ?_, .inl (by omega)⟩⟩
    · rw [hd, hl3]; unfold pops; simp [eff]; omega
    · rw [hd, hl3, dep_at E6 (by simp only [List.length_append, List.length_cons, List.length_nil]), lin_app, hl4, R.1]
      simp [nd, pops, pushes, eff]
  · rw [E5] at hx ⊢
    exact R.2 i x (by omega) (by omega) hx
theorem Seg.loop {f g : GE} (hf : Seg 0 1 f) (hg : Seg 0 0 g) (hs : ∀ n st, ∃ y r, (f n st).1 = y :: r ∧ y.1 = 1) : Seg 0 0 (loopE f g) := by
  intro pre post st hp hn
  unfold loopE
  dsimp only
  have F := hf pre
  obtain ⟨y, py, hy1, hy2⟩ := hs pre.length st
  generalize hpq : f pre.length st = p at F hy1
  generalize hq : g (pre.length + p.1.length + 1) p.2 = q
  generalize hT : ((pre.length + p.1.length + 1 + q.1.length + 1 : Nat) : Int) = T
  generalize hU : (pre.length : Int) = U
  have F := F ((23, T, 0) :: (q.1 ++ [(22, U, 0)]) ++ post) st (by simp) hn
  rw [hpq] at F
  have hl : lin (pre ++ p.1) = lin pre + 1 := by rw [lin_app, F.1]
  have hx1 : pushes (23, T, 0) - pops (23, T, 0) = -1 := by unfold pushes pops; simp [eff]
  have hx2 : pushes (22, U, 0) - pops (22, U, 0) = 0 := by unfold pushes pops; simp [eff]
  have hl2 : lin (pre ++ p.1 ++ [(23, T, 0)]) = lin pre := by rw [lin_app, hl, lin_cons, lin_nil, hx1]; omega
  have G := hg (pre ++ p.1 ++ [(23, T, 0)]) ((22, U, 0) :: post) p.2 (by simp) (by rw [hl2]; exact hn)
  have hlen : (pre ++ p.1 ++ [(23, T, 0)]).length = pre.length + p.1.length + 1 := by simp only [List.length_append, List.length_cons, List.length_nil]
  rw [hlen, hq] at G
  have hl3 : lin (pre ++ p.1 ++ [(23, T, 0)] ++ q.1) = lin pre := by rw [lin_app, hl2, G.1]; omega
  have hl4 : lin (pre ++ p.1 ++ [(23, T, 0)] ++ q.1 ++ [(22, U, 0)]) = lin pre := by rw [lin_app, hl3, lin_cons, lin_nil, hx2]; omega
  have E0 : pre ++ (p.1 ++ (23, T, 0) :: (q.1 ++ [(22, U, 0)]) ++ post) = pre ++ y :: (py ++ (23, T, 0) :: (q.1 ++ [(22, U, 0)]) ++ post) := by rw [hy1]; simp
  have E1 : pre ++ (p.1 ++ (23, T, 0) :: (q.1 ++ [(22, U, 0)]) ++ post) = pre ++ (p.1 ++ ((23, T, 0) :: (q.1 ++ [(22, U, 0)]) ++ post)) := by simp
  have E2 : pre ++ (p.1 ++ (23, T, 0) :: (q.1 ++ [(22, U, 0)]) ++ post) = (pre ++ p.1) ++ (23, T, 0) :: (q.1 ++ [(22, U, 0)] ++ post) := by simp
  have E3 : pre ++ (p.1 ++ (23, T, 0) :: (q.1 ++ [(22, U, 0)]) ++ post) = pre ++ p.1 ++ [(23, T, 0)] ++ (q.1 ++ ((22, U, 0) :: post)) := by simp
  have E4 : pre ++ (p.1 ++ (23, T, 0) :: (q.1 ++ [(22, U, 0)]) ++ post) = (pre ++ p.1 ++ [(23, T, 0)] ++ q.1) ++ (22, U, 0) :: post := by simp
  have E5 : pre ++ (p.1 ++ (23, T, 0) :: (q.1 ++ [(22, U, 0)]) ++ post) = pre ++ p.1 ++ [(23, T, 0)] ++ q.1 ++ [(22, U, 0)] ++ post := by simp
  have E7 : pre ++ (p.1 ++ (23, T, 0) :: (q.1 ++ [(22, U, 0)]) ++ post) = pre ++ (p.1 ++ ((23, T, 0) :: (q.1 ++ [(22, U, 0)]) ++ post)) := E1
  generalize pre ++ (p.1 ++ (23, T, 0) :: (q.1 ++ [(22, U, 0)]) ++ post) = c at E0 E1 E2 E3 E4 E5 E7 ⊢
  have hlp := List.length_pos_iff.2 hp
  refine ⟨by rw [lin_app, lin_cons, lin_app, lin_cons, lin_nil, F.1, G.1, hx1, hx2]; omega, fun i x h1 h3 hx => ?_⟩
  simp only [List.length_append, List.length_cons, List.length_nil] at h3
  have hcl : c.length = pre.length + p.1.length + 1 + q.1.length + 1 + post.length := by rw [E5]; simp only [List.length_append, List.length_cons, List.length_nil]
  by_cases hi : i < pre.length + p.1.length
  · rw [E1] at hx ⊢; exact F.2 i x h1 hi hx
  by_cases hi2 : i = pre.length + p.1.length
  · have hi3 : i = (pre ++ p.1).length := by rw [List.length_append]; exact hi2
    have := get_at E2 hi3
    rw [hx] at this
    cases this
    have hd := dep_at E2 hi3
    refine ⟨?_, fun _ => ⟨pre.length + p.1.length + 1 + q.1.length + 1, hT.symm, by omega, ?_, .inl (by omega)⟩⟩
    · rw [hd, hl]; unfold pops; simp [eff]; omega
    · rw [hd, hl]
      show _ = nd (23, T, 0) _ (if (23 : Int) = 22 then 0 else 1)
      rw [nd_jump (.inl rfl), if_neg (by omega), dep_at E5 (by simp only [List.length_append, List.length_cons, List.length_nil]), hl4]
      omega
  by_cases hi4 : i < pre.length + p.1.length + 1 + q.1.length
  · rw [E3] at hx ⊢
    exact G.2 i x (by omega) hi4 hx
  · have hi6 : i = (pre ++ p.1 ++ [(23, T, 0)] ++ q.1).length := by simp only [List.length_append, List.length_cons, List.length_nil]; omega
    have := get_at E4 hi6
    rw [hx] at this
    cases this
    have hd := dep_at E4 hi6
    refine ⟨?_, fun _ => ⟨pre.length, hU.symm, by omega, ?_, .inr ?_⟩⟩
    · rw [hd, hl3]; unfold pops; simp [eff]; omega
    · rw [hd, hl3, dep_at E0 rfl]
      simp [nd, pops, pushes, eff]
    · unfold opAt
      rw [Int.toNat_natCast, get_at E0 rfl]
      exact hy2
end Go.Proofs.Ytmdjepfpgmignaa
/- The code of a right tree is right of the stack, plainly. -/
set_option linter.unusedVariables false
set_option linter.unusedSimpArgs false
set_option maxRecDepth 20000
set_option maxHeartbeats 8000000
namespace Go.Proofs.Ytmdjepfpgmignaa
open Go Ax
theorem gen_tick (x : Tr) (n : Nat) (st : PS) : ∃ y r, (x.gen n st).1 = y :: r ∧ y.1 = 1 := by
  rw [Tr.gen_eq]
  unfold genF
  exact ⟨(1, 1, 0), _, rfl, rfl⟩
theorem Seg.one' {op a b n e : Int} (hg : gos op = false) (h1 : (eff op a).1 = n) (h2 : (eff op a).2 - (eff op a).1 = e) : Seg n e (oneE op a b) := by
  subst h1 h2
  exact Seg.one op a b hg
theorem Seg.site' {op n e : Int} {s : ByteArray} (hg : gos op = false) (h0 : ∀ a, eff op a = eff op 0) (h1 : (eff op 0).1 = n) (h2 : (eff op 0).2 - (eff op 0).1 = e) : Seg n e (siteE op s) := by
  subst h1 h2
  exact Seg.ins (op := op) (a := 0) (fun _ _ => ⟨_, _, rfl, h0 _⟩) hg
theorem Seg.pool' {op n e : Int} {s : ByteArray} (hg : gos op = false) (h0 : ∀ a, eff op a = eff op 0) (h1 : (eff op 0).1 = n) (h2 : (eff op 0).2 - (eff op 0).1 = e) : Seg n e (poolE op s) := by
  subst h1 h2
  exact Seg.ins (op := op) (a := 0) (fun _ _ => ⟨_, _, rfl, h0 _⟩) hg
theorem Seg.tick {e : Int} {g : GE} (h : Seg 0 e g) : Seg 0 e (seqE (oneE 1 1 0) g) :=
  ((Seg.one' (n := 0) (e := 0) rfl rfl rfl).seq h (by omega)).net (by omega)
theorem want_one {k : Int} (h : k ≠ 29 ∧ k ≠ 28 ∧ k ≠ 30) (j : Nat) : wantU k j = 1 := by
  unfold wantU
  rw [if_neg h.1, if_neg]
  rintro ⟨_, h' | h'⟩ <;> omega
theorem Seg.gen {c : UC} (x : Tr) : ∀ az, RightU c x az → Seg 0 (if az = 1 then 1 else 0) x.gen := by
  induction x using Tr.ind with
  | h x ih =>
    intro az R
    obtain ⟨h1, h2⟩ := rightU_iff.1 R
    have kid : ∀ j y, x.kids[j]? = some y → Seg 0 (if wantU x.kind j = 1 then 1 else 0) y.gen := fun j y hy => ih y (List.mem_of_getElem? hy) _ (h2 j y hy)
    have all1 : x.kind ≠ 29 ∧ x.kind ≠ 28 ∧ x.kind ≠ 30 → ∀ g ∈ x.kids.map Tr.gen, Seg 0 1 g := fun hw g hg => by
      obtain ⟨y, hy, rfl⟩ := List.mem_map.1 hg
      obtain ⟨j, hj⟩ := List.getElem?_of_mem hy
      have := kid j y hj
      rwa [want_one hw, if_pos rfl] at this
    have len : (x.kids.map Tr.gen).length = x.kids.length := List.length_map _
    have sum1 : x.kind ≠ 29 ∧ x.kind ≠ 28 ∧ x.kind ≠ 30 → Seg 0 (x.kids.length : Int) (allE (x.kids.map Tr.gen)) := fun hw => (Seg.all (by omega) (all1 hw)).net (by rw [len]; omega)
    rw [Tr.gen_eq]
    unfold OwnU at h1
    rcases h1 with ⟨rfl, h⟩ | ⟨rfl, h⟩ | ⟨rfl, h⟩
    · rw [if_pos rfl]
      unfold ExprU at h
      rcases h with ⟨hk | hk, _⟩ | ⟨hk, _⟩ | ⟨hk, _⟩ | ⟨hk, _⟩ | ⟨hk, _⟩ | ⟨hk, _⟩ | ⟨hk, _⟩ | ⟨hk, _, _, _, hn⟩ | ⟨hk, _, _, hn⟩ | ⟨hk, _, _, _, hn⟩ | ⟨hk | hk | hk, _, hn⟩ | ⟨hk, _, _, hn⟩ | ⟨hk, _, hn, hm⟩ | ⟨hk, _, _, hn, hm⟩ | ⟨hk, _, ho1, ho2, hn⟩
      · rw [hk]; exact Seg.tick (Seg.one' (op := 2) rfl rfl rfl)
      · rw [hk]; exact Seg.tick (Seg.one' (op := 6) rfl rfl rfl)
      · rw [hk]; exact Seg.tick (Seg.one' (op := 3) rfl rfl rfl)
      · rw [hk]; exact Seg.tick (Seg.one' (op := 4) rfl rfl rfl)
      · rw [hk]; exact Seg.tick (Seg.pool' (op := 5) rfl (fun _ => rfl) rfl rfl)
      · rw [hk]; exact Seg.tick (Seg.one' (op := 8) rfl rfl rfl)
      · rw [hk]; exact Seg.tick (Seg.one' (op := 10) rfl rfl rfl)
      · rw [hk]; exact Seg.tick (Seg.one' (op := 7) rfl rfl rfl)
      · have A := all1 (by omega)
        rw [hk]
        exact Seg.tick (((Seg.one' (op := 12) (a := 0) (b := 0) (n := 0) (e := 1) rfl rfl rfl).seq (Seg.init A) (by omega)).net (by omega))
      · have A := sum1 (by omega)
        rw [hk]
        exact Seg.tick ((A.seq (Seg.one' (op := 20) (a := x.op) (b := 0) (n := 1) (e := 0) rfl rfl rfl) (by omega)).net (by omega))
      · have A := sum1 (by omega)
        rw [hk]
        exact Seg.tick ((A.seq (Seg.one' (op := 21) (a := x.op) (b := 0) (n := 2) (e := -1) rfl rfl rfl) (by omega)).net (by omega))
      · obtain ⟨y, z, hks⟩ := two_of hn
        have A := all1 (by omega)
        rw [hks] at A ⊢
        rw [hk]
        exact Seg.tick (Seg.keep (.inl rfl) (A _ (by simp)) (A _ (by simp)))
      · obtain ⟨y, z, hks⟩ := two_of hn
        have A := all1 (by omega)
        rw [hks] at A ⊢
        rw [hk]
        exact Seg.tick (Seg.keep (.inr rfl) (A _ (by simp)) (A _ (by simp)))
      · have A := sum1 (by omega)
        rw [hk]
        exact Seg.tick ((A.seq (Seg.one' (op := 16) (a := 0) (b := 0) (n := 2) (e := -1) rfl rfl rfl) (by omega)).net (by omega))
      · have A := sum1 (by omega)
        rw [hk]
        exact Seg.tick ((A.seq (Seg.site' (op := 14) (s := x.str) (n := 1) (e := 0) rfl (fun _ => rfl) rfl rfl) (by omega)).net (by omega))
      · have A := sum1 (by omega)
        have E : eff 26 (((x.kids.map Tr.gen).length : Int) - 1) = ((x.kids.length : Int), 1) := by
          rw [len]
          unfold eff
          rw [if_neg (by omega), if_neg (by omega), if_neg (by omega), if_neg (by omega), if_neg (by omega), if_neg (by omega), if_neg (by omega), if_neg (by omega), if_pos (by omega)]
          simp
        rw [hk]
        exact Seg.tick ((A.seq (Seg.one' (op := 26) (a := ((x.kids.map Tr.gen).length : Int) - 1) (b := 0) (n := x.kids.length) (e := 1 - x.kids.length) rfl (by rw [E]) (by rw [E])) (by omega)).net (by omega))
      · obtain ⟨y, r, hks⟩ := some_of hn
        have A := all1 (by omega)
        have E : eff 28 (((x.kids.map Tr.gen).length : Int) - 1) = ((x.kids.length : Int) + 1, 1) := by
          rw [len]
          unfold eff
          rw [if_neg (by omega), if_neg (by omega), if_neg (by omega), if_neg (by omega), if_neg (by omega), if_neg (by omega), if_neg (by omega), if_neg (by omega), if_neg (by omega), if_pos (by omega)]
          simp
          omega
        rw [hk]
        have e0 : (x.kids.map Tr.gen).getD 0 idE = y.gen := by rw [hks]; rfl
        have B : Seg 0 1 y.gen := A _ (by rw [hks]; simp)
        have D : Seg 0 (x.kids.length - 1) (allE ((x.kids.map Tr.gen).drop 1)) := (Seg.all (e := 1) (by omega) fun g hg => A g (List.mem_of_mem_drop hg)).net (by rw [List.length_drop, len]; omega)
        rw [← e0] at B
        have G := Seg.one' (op := 28) (a := ((x.kids.map Tr.gen).length : Int) - 1) (b := 0) (n := x.kids.length + 1) (e := - x.kids.length) rfl (by rw [E]) (by rw [E]; dsimp only; omega)
        have F := Seg.site' (op := 27) (s := x.str) (n := 1) (e := 1) rfl (fun _ => rfl) rfl rfl
        exact Seg.tick ((B.seq (n2 := 1) (F.seq (((D.mono (m := 2) (by omega)).seq G (by omega))) (by omega)) (by omega)).net (by omega))
      · have A := sum1 (by omega)
        have E : eff 29 x.op = (builtN x.op, 1) := by
          unfold eff
          rw [if_neg (by omega), if_neg (by omega), if_neg (by omega), if_neg (by omega), if_neg (by omega), if_neg (by omega), if_neg (by omega), if_pos rfl, if_pos (by omega)]
        rw [hk]
        exact Seg.tick ((A.seq (Seg.one' (op := 29) (a := x.op) (b := 0) (n := builtN x.op) (e := 1 - builtN x.op) rfl (by rw [E]) (by rw [E])) (by omega)).net (by omega))
    · rw [if_neg (by omega)]
      unfold StmtU at h
      rcases h with ⟨hk, _, _, _, hn⟩ | ⟨hk, _, _, _, hn⟩ | ⟨hk, _, _, hn⟩ | ⟨hk, _, _, hn⟩ | ⟨_, ⟨hk, hn⟩ | ⟨hk, hn⟩ | ⟨hk | hk | hk, hn⟩ | ⟨hk, hn⟩ | ⟨hk, hn⟩⟩
      · have A := sum1 (by omega)
        rw [hk]
        exact Seg.tick ((A.seq (Seg.one' (op := 9) (a := x.num) (b := 0) (n := 1) (e := -1) rfl rfl rfl) (by omega)).net (by omega))
      · have A := sum1 (by omega)
        rw [hk]
        exact Seg.tick ((A.seq (Seg.one' (op := 11) (a := x.num) (b := 0) (n := 1) (e := -1) rfl rfl rfl) (by omega)).net (by omega))
      · have A := sum1 (by omega)
        rw [hk]
        exact Seg.tick ((A.seq (Seg.site' (op := 15) (s := x.str) (n := 2) (e := -2) rfl (fun _ => rfl) rfl rfl) (by omega)).net (by omega))
      · have A := sum1 (by omega)
        rw [hk]
        exact Seg.tick ((A.seq (Seg.pool' (op := 18) (s := x.str) (n := 1) (e := -1) rfl (fun _ => rfl) rfl rfl) (by omega)).net (by omega))
      · have A := sum1 (by omega)
        rw [hk]
        exact Seg.tick ((A.seq (Seg.one' (op := 17) (a := 0) (b := 0) (n := 3) (e := -3) rfl rfl rfl) (by omega)).net (by omega))
      · have A := sum1 (by omega)
        rw [hk]
        exact Seg.tick ((A.seq (Seg.one' (op := 19) (a := 0) (b := 0) (n := 2) (e := -2) rfl rfl rfl) (by omega)).net (by omega))
      · have A := sum1 (by omega)
        rw [hk]
        exact Seg.tick ((A.seq (Seg.one' (op := 30) (a := 0) (b := 0) (n := 1) (e := -1) rfl rfl rfl) (by omega)).net (by omega))
      · have A := sum1 (by omega)
        rw [hk]
        exact Seg.tick ((A.seq (Seg.one' (op := 32) (a := 0) (b := 0) (n := 1) (e := -1) rfl rfl rfl) (by omega)).net (by omega))
      · have A := sum1 (by omega)
        rw [hk]
        exact Seg.tick ((A.seq (Seg.one' (op := 31) (a := 0) (b := 0) (n := 1) (e := -1) rfl rfl rfl) (by omega)).net (by omega))
      · obtain ⟨y, z, u, hks⟩ := three_of hn
        have A0 := kid 0 y (by rw [hks]; rfl)
        have A1 := kid 1 z (by rw [hks]; rfl)
        have A2 := kid 2 u (by rw [hks]; rfl)
        rw [hk] at A0 A1 A2 ⊢
        rw [hks]
        exact Seg.tick (Seg.choice A0 A1 A2)
      · obtain ⟨y, z, hks⟩ := two_of hn
        have A0 := kid 0 y (by rw [hks]; rfl)
        have A1 := kid 1 z (by rw [hks]; rfl)
        rw [hk] at A0 A1 ⊢
        rw [hks]
        exact Seg.tick (Seg.loop A0 A1 (gen_tick y))
    · rw [if_neg (by omega)]
      obtain ⟨hk, _⟩ := h
      have A : ∀ g ∈ x.kids.map Tr.gen, Seg 0 0 g := fun g hg => by
        obtain ⟨y, hy, rfl⟩ := List.mem_map.1 hg
        obtain ⟨j, hj⟩ := List.getElem?_of_mem hy
        have := kid j y hj
        rwa [hk, if_neg (by unfold wantU; simp)] at this
      rw [hk]
      exact Seg.tick (((Seg.all (by omega) A).seq Seg.id (by omega)).net (by omega))
end Go.Proofs.Ytmdjepfpgmignaa
/- What is laid may be: arguments, strings, plainly. -/
set_option linter.unusedVariables false
set_option linter.unusedSimpArgs false
set_option maxRecDepth 20000
set_option maxHeartbeats 8000000
namespace Go.Proofs.Ytmdjepfpgmignaa
open Go Ax
/-- An instruction's argument may be, as far as it is told by the tree. -/
def InsA (c : UC) (i : Ins) : Prop := (usesP i.1 ∨ gos i.1 = true ∨ ∀ pl il : Int, argP pl c.fn c.gl c.lo il i.1 i.2.1) ∧ (¬ isSite i.1 → i.2.2 = 0)
structure AG (c : UC) (g : GE) : Prop where
  arg : ∀ a st, ∀ i ∈ (g a st).1, InsA c i
  str : ∀ a st, (∀ s ∈ st.1, s.size ≤ 256) → ∀ s ∈ (g a st).2.1, s.size ≤ 256
theorem AG.id {c : UC} : AG c idE := ⟨fun _ _ i h => by simp [idE] at h, fun _ _ h => h⟩
theorem AG.one {c : UC} {op a : Int} (h : ∀ pl il : Int, argP pl c.fn c.gl c.lo il op a) : AG c (oneE op a 0) := ⟨fun _ _ i hi => by
  have hi : i = (op, a, 0) := List.mem_singleton.1 hi
  subst hi
  exact ⟨.inr (.inr h), fun _ => rfl⟩, fun _ _ h => h⟩
theorem AG.seq {c : UC} {f g : GE} (hf : AG c f) (hg : AG c g) : AG c (seqE f g) := ⟨fun a st i hi => by
  rcases List.mem_append.1 hi with hi | hi
  · exact hf.arg _ _ i hi
  · exact hg.arg _ _ i hi, fun a st h => hg.str _ _ (hf.str _ _ h)⟩
theorem InsA.jump {c : UC} {op t : Int} (h : gos op = true) : InsA c (op, t, 0) := ⟨.inr (.inl h), fun _ => rfl⟩
theorem AG.keep {c : UC} {op : Int} {f g : GE} (h : gos op = true) (hf : AG c f) (hg : AG c g) : AG c (keepE op f g) := ⟨fun a st i hi => by
  rcases List.mem_append.1 hi with hi | hi
  · exact hf.arg _ _ i hi
  rcases List.mem_cons.1 hi with rfl | hi
  · exact .jump h
  · exact hg.arg _ _ i hi, fun a st h => hg.str _ _ (hf.str _ _ h)⟩
theorem AG.choice {c : UC} {f g h : GE} (hf : AG c f) (hg : AG c g) (hh : AG c h) : AG c (choiceE f g h) := ⟨fun a st i hi => by
  rcases List.mem_append.1 hi with hi | hi
  · exact hf.arg _ _ i hi
  rcases List.mem_cons.1 hi with rfl | hi
  · exact .jump rfl
  rcases List.mem_append.1 hi with hi | hi
  · exact hg.arg _ _ i hi
  rcases List.mem_cons.1 hi with rfl | hi
  · exact .jump rfl
  · exact hh.arg _ _ i hi, fun a st h => hh.str _ _ (hg.str _ _ (hf.str _ _ h))⟩
theorem AG.loop {c : UC} {f g : GE} (hf : AG c f) (hg : AG c g) : AG c (loopE f g) := ⟨fun a st i hi => by
  rcases List.mem_append.1 hi with hi | hi
  · exact hf.arg _ _ i hi
  rcases List.mem_cons.1 hi with rfl | hi
  · exact .jump rfl
  rcases List.mem_append.1 hi with hi | hi
  · exact hg.arg _ _ i hi
  rcases List.mem_cons.1 hi with rfl | hi
  · exact .jump rfl
  · simp at hi, fun a st h => hg.str _ _ (hf.str _ _ h)⟩
theorem poolF_str {L : List ByteArray} {s : ByteArray} (h : ∀ x ∈ L, x.size ≤ 256) (hs : s.size ≤ 256) : ∀ x ∈ (poolF L s).2, x.size ≤ 256 := by
  unfold poolF
  split
  · exact h
  · intro x hx
    rcases List.mem_append.1 hx with hx | hx
    · exact h x hx
    · rw [List.mem_singleton] at hx
      subst hx; exact hs
theorem AG.pool {c : UC} {op : Int} {s : ByteArray} (h : op = 5 ∨ op = 18) (hs : s.size ≤ 256) : AG c (poolE op s) := ⟨fun a st i hi => by
  have hi : i = (op, ((poolF st.1 s).1 : Int), 0) := List.mem_singleton.1 hi
  subst hi
  exact ⟨.inl (.inr h), fun _ => rfl⟩, fun a st h => poolF_str h hs⟩
theorem AG.site {c : UC} {op : Int} {s : ByteArray} (h : isSite op) (hs : s.size ≤ 256) : AG c (siteE op s) := ⟨fun a st i hi => by
  have hi : i = (op, ((poolF st.1 s).1 : Int), (st.2 : Int)) := List.mem_singleton.1 hi
  subst hi
  exact ⟨.inl (.inl h), fun h' => absurd h h'⟩, fun a st h => poolF_str h hs⟩
theorem AG.all {c : UC} : ∀ {gs : List GE}, (∀ g ∈ gs, AG c g) → AG c (allE gs)
  | [], _ => AG.id
  | g :: gs, h => (h g (by simp)).seq (AG.all fun x hx => h x (List.mem_cons_of_mem _ hx))
theorem AG.init {c : UC} : ∀ {ns : List ByteArray} {gs : List GE}, (∀ n ∈ ns, n.size ≤ 256) → (∀ g ∈ gs, AG c g) → AG c (initE ns gs)
  | [], _, _, _ => AG.id
  | _ :: _, [], _, _ => AG.id
  | n :: ns, g :: gs, hn, h => (h g (by simp)).seq (AG.seq (AG.site (by decide) (hn n (by simp))) (AG.init (fun x hx => hn x (List.mem_cons_of_mem _ hx)) fun x hx => h x (List.mem_cons_of_mem _ hx)))
theorem AG.tick {c : UC} {g : GE} (h : AG c g) : AG c (seqE (oneE 1 1 0) g) := (AG.one (fun _ _ => by unfold argP; simp <;> omega)).seq h
theorem ident_size {s : ByteArray} (h : IdentP s) : s.size ≤ 256 := by
  unfold IdentP nameS at h
  split at h
  · simp at h
  · rename_i c r e
    simp only [Bool.and_eq_true, decide_eq_true_eq] at h
    have h1 := h.1
    have : s.size = s.data.toList.length := by rw [Array.length_toList]; rfl
    omega
theorem AG.gen {c : UC} (x : Tr) : ∀ az, RightU c x az → AG c x.gen := by
  induction x using Tr.ind with
  | h x ih =>
    intro az R
    obtain ⟨h1, h2⟩ := rightU_iff.1 R
    have A : ∀ g ∈ x.kids.map Tr.gen, AG c g := fun g hg => by
      obtain ⟨y, hy, rfl⟩ := List.mem_map.1 hg
      obtain ⟨j, hj⟩ := List.getElem?_of_mem hy
      exact ih y hy _ (h2 j y hj)
    have D : ∀ i, AG c ((x.kids.map Tr.gen).getD i idE) := fun i => by
      rw [List.getD_eq_getElem?_getD]
      cases hg : (x.kids.map Tr.gen)[i]? with
      | none => exact AG.id
      | some g => exact A g (List.mem_of_getElem? hg)
    have len : (x.kids.map Tr.gen).length = x.kids.length := List.length_map _
    rw [Tr.gen_eq]
    unfold OwnU at h1
    rcases h1 with ⟨rfl, h⟩ | ⟨rfl, h⟩ | ⟨rfl, h⟩
    · unfold ExprU at h
      rcases h with ⟨hk | hk, hn⟩ | ⟨hk, hn⟩ | ⟨hk, hn⟩ | ⟨hk, _, hs, _⟩ | ⟨hk, hn⟩ | ⟨hk, hn⟩ | ⟨hk, hn⟩ | ⟨hk, _, _, hs, hn⟩ | ⟨hk, _, ho, hn⟩ | ⟨hk, _, ho1, ho2, hn⟩ | ⟨hk | hk | hk, _, hn⟩ | ⟨hk, _, hs, hn⟩ | ⟨hk, _, hn, hm⟩ | ⟨hk, _, hs, hn, hm⟩ | ⟨hk, _, ho1, ho2, hn⟩
      · rw [hk]; exact .tick (AG.one (op := 2) (a := 0) (fun _ _ => by unfold argP; simp <;> omega))
      · rw [hk]; exact .tick (AG.one (op := 6) (a := 0) (fun _ _ => by unfold argP; simp <;> omega))
      · rw [hk]; have := hn.2; exact .tick (AG.one (op := 3) (a := x.num) (fun _ _ => by unfold argP; simp <;> omega))
      · rw [hk]; have := hn.2; exact .tick (AG.one (op := 4) (a := x.num) (fun _ _ => by unfold argP; simp <;> omega))
      · rw [hk]; exact .tick (AG.pool (op := 5) (.inl rfl) hs)
      · rw [hk]; have := hn.2; exact .tick (AG.one (op := 8) (a := x.num) (fun _ _ => by unfold argP; simp <;> omega))
      · rw [hk]; have := hn.2; exact .tick (AG.one (op := 10) (a := x.num) (fun _ _ => by unfold argP; simp <;> omega))
      · rw [hk]; have := hn.2; exact .tick (AG.one (op := 7) (a := x.num) (fun _ _ => by unfold argP; simp <;> omega))
      · rw [hk]
        exact .tick ((AG.one (op := 12) (a := 0) (fun _ _ => by unfold argP; simp <;> omega)).seq (AG.init (fun s h => ident_size (hs s h)) A))
      · rw [hk]
        exact .tick ((AG.all A).seq (AG.one (op := 20) (a := x.op) (fun _ _ => by unfold argP; simp <;> omega)))
      · rw [hk]
        exact .tick ((AG.all A).seq (AG.one (op := 21) (a := x.op) (fun _ _ => by unfold argP; simp <;> omega)))
      · rw [hk]
        exact .tick (AG.keep (op := 24) rfl (D 0) (D 1))
      · rw [hk]
        exact .tick (AG.keep (op := 25) rfl (D 0) (D 1))
      · rw [hk]
        exact .tick ((AG.all A).seq (AG.one (op := 16) (a := 0) (fun _ _ => by unfold argP; simp <;> omega)))
      · rw [hk]
        exact .tick ((AG.all A).seq (AG.site (op := 14) (by decide) (ident_size hs)))
      · rw [hk]
        exact .tick ((AG.all A).seq (AG.one (op := 26) (a := ((x.kids.map Tr.gen).length : Int) - 1) (fun _ _ => by unfold argP; rw [len]; simp <;> omega)))
      · rw [hk]
        exact .tick ((D 0).seq ((AG.site (op := 27) (by decide) (ident_size hs)).seq ((AG.all fun g hg => A g (List.mem_of_mem_drop hg)).seq (AG.one (op := 28) (a := ((x.kids.map Tr.gen).length : Int) - 1) (fun _ _ => by unfold argP; rw [len]; simp <;> omega)))))
      · rw [hk]
        exact .tick ((AG.all A).seq (AG.one (op := 29) (a := x.op) (fun _ _ => by unfold argP; simp <;> omega)))
    · unfold StmtU at h
      rcases h with ⟨hk, _, hn⟩ | ⟨hk, _, hn⟩ | ⟨hk, _, hs, hn⟩ | ⟨hk, _, hs, hn⟩ | ⟨_, ⟨hk, hn⟩ | ⟨hk, hn⟩ | ⟨hk | hk | hk, hn⟩ | ⟨hk, hn⟩ | ⟨hk, hn⟩⟩
      · rw [hk]
        exact .tick ((AG.all A).seq (AG.one (op := 9) (a := x.num) (fun _ _ => by unfold argP; simp <;> omega)))
      · rw [hk]
        exact .tick ((AG.all A).seq (AG.one (op := 11) (a := x.num) (fun _ _ => by unfold argP; simp <;> omega)))
      · rw [hk]
        exact .tick ((AG.all A).seq (AG.site (op := 15) (by decide) (ident_size hs)))
      · rw [hk]
        exact .tick ((AG.all A).seq (AG.pool (op := 18) (.inr rfl) (ident_size hs)))
      · rw [hk]
        exact .tick ((AG.all A).seq (AG.one (op := 17) (a := 0) (fun _ _ => by unfold argP; simp <;> omega)))
      · rw [hk]
        exact .tick ((AG.all A).seq (AG.one (op := 19) (a := 0) (fun _ _ => by unfold argP; simp <;> omega)))
      · rw [hk]
        exact .tick ((AG.all A).seq (AG.one (op := 30) (a := 0) (fun _ _ => by unfold argP; simp <;> omega)))
      · rw [hk]
        exact .tick ((AG.all A).seq (AG.one (op := 32) (a := 0) (fun _ _ => by unfold argP; simp <;> omega)))
      · rw [hk]
        exact .tick ((AG.all A).seq (AG.one (op := 31) (a := 0) (fun _ _ => by unfold argP; simp <;> omega)))
      · rw [hk]
        exact .tick (AG.choice (D 0) (D 1) (D 2))
      · rw [hk]
        exact .tick (AG.loop (D 0) (D 1))
    · rw [h.1]
      exact .tick ((AG.all A).seq AG.id)
end Go.Proofs.Ytmdjepfpgmignaa
/- What comes of a unit may be, plainly. -/
set_option linter.unusedVariables false
set_option linter.unusedSimpArgs false
set_option maxRecDepth 20000
set_option maxHeartbeats 8000000
namespace Go.Proofs.Ytmdjepfpgmignaa
open Go Ax
theorem tgt_dep {cd : CodeT} (hl : cd.ins.length ≤ 4000) (h : ∀ i x, cd.ins[i]? = some x → At cd.ins i x) (hlast : ∀ i x, cd.ins[i]? = some x → x.1 ≠ 32 → i + 1 < cd.ins.length)
    {i : Nat} {x : Ins} (hx : cd.ins[i]? = some x) {k : Nat} {t : Int} (ht : (tgt cd.ins (i : Int))[k]? = some t) : ∃ m : Nat, t = (m : Int) ∧ m < cd.ins.length ∧ dep cd.ins m = nd x (dep cd.ins i) k := by
  rw [tgt_at hx hl] at ht
  have hA := (h i x hx).goes
  have hn := hlast i x hx
  have hd := dep_succ hx
  split at ht
  · simp at ht
  rename_i h32
  have hn := hn h32
  have S : ∃ m : Nat, ((i : Int) + 1) = (m : Int) ∧ m < cd.ins.length ∧ dep cd.ins m = nd x (dep cd.ins i) 0 := ⟨i + 1, by omega, hn, by rw [hd]; unfold nd; rw [if_neg (by omega)]; omega⟩
  split at ht
  · rename_i h22
    match k, ht with
    | 0, ht =>
      simp only [List.getElem?_cons_zero, Option.some.injEq] at ht
      subst ht
      obtain ⟨m, e1, e2, e3, -⟩ := hA (by rw [h22]; rfl)
      rw [if_pos h22] at e3
      exact ⟨m, e1, e2, e3⟩
    | k + 1, ht => simp at ht
  rename_i h22
  split at ht
  · rename_i hg
    match k, ht with
    | 0, ht =>
      simp only [List.getElem?_cons_zero, Option.some.injEq] at ht
      subst ht
      exact S
    | 1, ht =>
      simp only [List.getElem?_cons_succ, List.getElem?_cons_zero, Option.some.injEq] at ht
      subst ht
      obtain ⟨m, e1, e2, e3, -⟩ := hA hg
      rw [if_neg h22] at e3
      exact ⟨m, e1, e2, e3⟩
    | k + 2, ht => simp at ht
  · match k, ht with
    | 0, ht =>
      simp only [List.getElem?_cons_zero, Option.some.injEq] at ht
      subst ht
      exact S
    | k + 1, ht => simp at ht
theorem reach_dep {cd : CodeT} (hl : cd.ins.length ≤ 4000) (h : ∀ i x, cd.ins[i]? = some x → At cd.ins i x) (hlast : ∀ i x, cd.ins[i]? = some x → x.1 ≠ 32 → i + 1 < cd.ins.length)
    {i : Nat} {d : Int} (r : Reach cd i d) : d = dep cd.ins i := by
  induction r with
  | start => rfl
  | step r hx h1 h2 ht h3 h4 ih =>
    subst ih
    obtain ⟨m, rfl, -, e⟩ := tgt_dep hl h hlast hx ht
    rw [Int.toNat_natCast, e]
noncomputable def depL (cd : CodeT) : List Int := open Classical in (List.range cd.ins.length).map fun i => if Reach cd i (dep cd.ins i) then dep cd.ins i else -1
theorem depL_get {cd : CodeT} {i : Nat} {d : Int} (hd : (depL cd)[i]? = some d) : i < cd.ins.length ∧ (d = -1 ∨ (d = dep cd.ins i ∧ Reach cd i d)) := by
  unfold depL at hd
  rw [List.getElem?_map] at hd
  by_cases hi : i < cd.ins.length
  · rw [List.getElem?_range hi] at hd
    simp only [Option.map_some, Option.some.injEq] at hd
    refine ⟨hi, ?_⟩
    split at hd
    · rename_i h; exact .inr ⟨hd.symm, hd ▸ h⟩
    · exact .inl hd.symm
  · rw [List.getElem?_eq_none (by simp; omega)] at hd
    simp at hd
theorem depL_reach {cd : CodeT} {i : Nat} (hi : i < cd.ins.length) (hr : Reach cd i (dep cd.ins i)) : (depL cd)[i]? = some (dep cd.ins i) := by
  unfold depL
  rw [List.getElem?_map, List.getElem?_range hi]
  simp only [Option.map_some]
  rw [if_pos hr]
theorem closed_of {cd : CodeT} (hl : cd.ins.length ≤ 4000) (h0 : 0 < cd.ins.length) (h : ∀ i x, cd.ins[i]? = some x → At cd.ins i x) (hlast : ∀ i x, cd.ins[i]? = some x → x.1 ≠ 32 → i + 1 < cd.ins.length)
    (hm : ∀ i, i ≤ cd.ins.length → dep cd.ins i ≤ cd.deep) : ∃ L, Closed cd L := by
  refine ⟨depL cd, ⟨by unfold depL; simp, depL_reach h0 .start, fun i d hd => ?_⟩, fun i d x hd h1 hx => ?_⟩
  · obtain ⟨h1, h2 | ⟨h2, h3⟩⟩ := depL_get hd
    · exact .inl h2
    · exact .inr ⟨h3.nonneg, h3⟩
  · obtain ⟨h2, h3 | ⟨h3, h4⟩⟩ := depL_get hd
    · omega
    · subst h3
      have hA := (h i x hx).pop
      have hd := hm i (by omega)
      refine ⟨hA, hd, fun k t ht => ?_⟩
      obtain ⟨m, rfl, e1, e2⟩ := tgt_dep hl h hlast hx ht
      have hdm := hm m (by omega)
      rw [e2] at hdm
      have R := Reach.step h4 hx hA hd ht (by omega) hdm
      rw [Int.toNat_natCast] at R ⊢
      rw [← e2] at R ⊢
      exact ⟨by omega, by omega, depL_reach e1 R⟩
theorem dmF_le : ∀ (c : List Ins) (p : Int × Int), p.1 ≤ p.2 → p.2 ≤ (dmF p c).2 ∧ ∀ i, i ≤ c.length → p.1 + dep c i ≤ (dmF p c).2
  | [], p, h => ⟨Int.le_refl _, fun i hi => by
    have : dep [] i = 0 := by unfold dep; simp [lin_nil]
    rw [this]
    show p.1 + 0 ≤ p.2
    omega⟩
  | x :: c, p, h => by
    have h1 : (dm1 p x).1 = p.1 + ((eff x.1 x.2.1).2 - (eff x.1 x.2.1).1) := rfl
    have h2 : (dm1 p x).2 = max p.2 (p.1 + ((eff x.1 x.2.1).2 - (eff x.1 x.2.1).1)) := rfl
    obtain ⟨a, b⟩ := dmF_le c (dm1 p x) (by omega)
    have e : dmF p (x :: c) = dmF (dm1 p x) c := rfl
    rw [e]
    refine ⟨by omega, fun i hi => ?_⟩
    cases i with
    | zero =>
      have : dep (x :: c) 0 = 0 := rfl
      rw [this]; omega
    | succ i =>
      have : dep (x :: c) (i + 1) = pushes x - pops x + dep c i := by unfold dep; rw [List.take_succ_cons, lin_cons]
      rw [this]
      have := b i (by simpa using hi)
      rw [h1] at this
      unfold pushes pops
      omega
theorem sites_at : ∀ {s : Nat} {c : List Ins} {t : Nat}, SitesOK s c t → s ≤ t ∧ t ≤ s + c.length ∧ ∀ i ∈ c, isSite i.1 → 0 ≤ i.2.2 ∧ i.2.2 < (t : Int)
  | s, [], t, h => by
    have h : s = t := h
    subst h
    exact ⟨Nat.le_refl _, Nat.le_refl _, fun i hi => by simp at hi⟩
  | s, x :: c, t, h => by
    obtain ⟨h1, h2⟩ := h
    obtain ⟨a, b, d⟩ := sites_at h2
    rw [List.length_cons]
    by_cases hs : isSite x.1
    · rw [if_pos hs] at a b
      refine ⟨by omega, by omega, fun i hi hsi => ?_⟩
      rcases List.mem_cons.1 hi with rfl | hi
      · have := h1 hs; omega
      · exact d i hi hsi
    · rw [if_neg hs] at a b
      refine ⟨by omega, by omega, fun i hi hsi => ?_⟩
      rcases List.mem_cons.1 hi with rfl | hi
      · exact absurd hsi hs
      · exact d i hi hsi
/-- A function's code: each instruction is right of the stack, and the last one is a return. -/
theorem fn_at {c : UC} {f : FnT} (h : ∀ x ∈ f.2.2, RightU c x 2) (st : PS) : ∃ r, (fnG f 0 st).1 = r ++ [(32, 0, 0)] ∧ ∀ i x, (fnG f 0 st).1[i]? = some x → At (fnG f 0 st).1 i x := by
  have S : Seg 0 0 (allE (f.2.2.map Tr.gen)) := (Seg.all (e := 0) (by omega) fun g hg => by
    obtain ⟨y, hy, rfl⟩ := List.mem_map.1 hg
    exact Seg.gen y 2 (h y hy)).net (by omega)
  have F := S [] [(2, 0, 0), (32, 0, 0)] st (by simp) (by rw [lin_nil]; omega)
  have e : (fnG f 0 st).1 = (allE (f.2.2.map Tr.gen) 0 st).1 ++ [(2, 0, 0), (32, 0, 0)] := rfl
  rw [e]
  rw [show ([] : List Ins).length = 0 from rfl] at F
  generalize (allE (f.2.2.map Tr.gen) 0 st).1 = a at F
  simp only [List.nil_append] at F
  refine ⟨a ++ [(2, 0, 0)], by simp, fun i x hx => ?_⟩
  have hi := lt_of_get hx
  rw [List.length_append] at hi
  by_cases h1 : i < a.length
  · exact F.2 i x (by omega) (by omega) hx
  by_cases h2 : i = a.length
  · have := get_at (c := a ++ [(2, 0, 0), (32, 0, 0)]) rfl h2
    rw [hx] at this
    cases this
    refine ⟨?_, fun h => by simp [gos] at h⟩
    rw [dep_at (l := a) rfl h2, F.1]
    exact Int.le_refl 0
  · have h3 : i = (a ++ [(2, 0, 0)]).length := by rw [List.length_append]; simp at hi ⊢; omega
    have e2 : a ++ [(2, 0, 0), (32, 0, 0)] = (a ++ [(2, 0, 0)]) ++ (32, 0, 0) :: [] := by simp
    have := get_at e2 h3
    rw [hx] at this
    cases this
    refine ⟨?_, fun h => by simp [gos] at h⟩
    rw [dep_at e2 h3, lin_app, F.1]
    exact Int.le_refl 1
theorem unitE_zero : ∀ (fs : List FnT) (u : US), unitE u.1 fs = 0 → (fs.foldl stU u).1.length ≤ 120 ∧ ∀ k f, fs[k]? = some f → fnE (fnS ((fs.take k).foldl stU u).1 f) = 0
  | [], u, h => by
    unfold unitE at h
    split at h
    · simp at h
    · exact ⟨by show u.1.length ≤ 120; omega, fun k f hf => by simp at hf⟩
  | f :: fs, u, h => by
    unfold unitE at h
    split at h
    · rename_i h0
      obtain ⟨a, b⟩ := unitE_zero fs (stU u f) h
      refine ⟨a, fun k g hg => ?_⟩
      cases k with
      | zero => simp only [List.getElem?_cons_zero, Option.some.injEq] at hg; subst hg; exact h0
      | succ k => exact b k g (by simpa using hg)
    · rename_i h0; exact absurd h h0
theorem unitU_str {gl : Int} {fs : List FnT} (h : UnitP gl fs) : ∀ s ∈ (unitU fs).1, s.size ≤ 256 := by
  have : ∀ (gs : List FnT) (u : US), (∀ f ∈ gs, FnP gl fs.length f) → (∀ s ∈ u.1, s.size ≤ 256) → ∀ s ∈ (gs.foldl stU u).1, s.size ≤ 256 := by
    intro gs
    induction gs with
    | nil => intro u _ h; exact h
    | cons f gs ih =>
      intro u hf hu
      refine ih (stU u f) (fun g hg => hf g (List.mem_cons_of_mem _ hg)) ?_
      have A : AG ⟨gl, fs.length, f.2.1⟩ (fnG f) := (AG.all fun g hg => by
        obtain ⟨y, hy, rfl⟩ := List.mem_map.1 hg
        exact AG.gen y 2 ((hf f (by simp)).2.2.2.2.2 y hy)).seq ((AG.one (fun _ _ => by unfold argP; simp <;> omega)).seq (AG.one (fun _ _ => by unfold argP; simp <;> omega)))
      exact A.str 0 (u.1, 0) hu
  exact this fs ([], []) h.2 (fun s hs => by simp at hs)
theorem sit_site (op : Int) : sit op = decide (isSite op) := rfl
theorem unit_check {gl : Int} {fs : List FnT} (h : UnitP gl fs) (he : unitE [] fs = 0) : CheckP (gl, (unitU fs).1, (unitU fs).2) := by
  obtain ⟨hpl, hE⟩ := unitE_zero fs ([], []) he
  have hpl : (unitU fs).1.length ≤ 120 := hpl
  have hUU := unitU_uu fs
  have hln := unitU_len fs
  obtain ⟨g0, g1, g2, g3, g4⟩ := h.1
  refine ⟨g0, g1, by dsimp only; omega, by dsimp only; omega, hpl, unitU_str h, fun k c hc => ?_⟩
  have hc : (unitU fs).2[k]? = some c := hc
  have hkl := lt_of_get hc
  rw [hln] at hkl
  obtain ⟨f, hf⟩ := get_lt hkl
  have hm := List.mem_of_getElem? hc
  obtain ⟨t, ht, hs⟩ := hUU.sit c hm
  have hu := hUU.use c hm
  obtain ⟨s1, s2, s3⟩ := sites_at hs
  rw [unitU_get hf] at hc
  simp only [Option.some.injEq] at hc
  have hE := hE k f hf
  change fnE (fnS (unitU (fs.take k)).1 f) = 0 at hE
  generalize (unitU (fs.take k)).1 = L at hc hE
  have hfn := h.2 f (List.mem_of_getElem? hf)
  obtain ⟨p1, p2, p3, p4, p5, p6⟩ := hfn
  obtain ⟨r, hr1, hr2⟩ := fn_at p6 (L, 0)
  have A : AG ⟨gl, fs.length, f.2.1⟩ (fnG f) := (AG.all fun g hg => by
    obtain ⟨y, hy, rfl⟩ := List.mem_map.1 hg
    exact AG.gen y 2 (p6 y hy)).seq ((AG.one (fun _ _ => by unfold argP; simp <;> omega)).seq (AG.one (fun _ _ => by unfold argP; simp <;> omega)))
  have hins : c.ins = (fnG f 0 (L, 0)).1 := by rw [← hc, codeOf_ins]
  have hdeep : c.deep = (dmF (0, 0) (fnG f 0 (L, 0)).1).2 := by rw [← hc]; rfl
  rw [← hins] at hr1 hr2 hdeep
  have hA := A.arg 0 (L, 0)
  rw [← hins] at hA
  obtain ⟨-, hdm⟩ := dmF_le c.ins (0, 0) (Int.le_refl _)
  rw [← hdeep] at hdm
  have hdm : ∀ i, i ≤ c.ins.length → dep c.ins i ≤ c.deep := fun i hi => by have := hdm i hi; simpa using this
  have e1 : c.1 = f.1 := by rw [← hc]; rfl
  have e2 : c.2.1 = f.2.1 := by rw [← hc]; rfl
  have e3 : (fnS L f).ins = c.ins := by rw [← hc]; rfl
  have e4 : (fnS L f).most = c.deep := by rw [← hc]; rfl
  unfold fnE at hE
  rw [e3, e4] at hE
  have hl : c.ins.length ≤ 4000 := by
    split at hE
    · simp at hE
    · omega
  rw [if_neg (by omega)] at hE
  have hd : c.deep ≤ 64 := by
    split at hE
    · simp at hE
    · omega
  have hd0 : 0 ≤ c.deep := hdm 0 (Nat.zero_le _)
  have h0 : 1 ≤ c.ins.length := by rw [hr1, List.length_append]; simp
  refine ⟨⟨by omega, by omega, by omega, by omega, by omega, by omega, hd0, hd, h0, hl, fun hk => ?_⟩, fun i x _ hx => ?_, closed_of hl (by omega) hr2 (fun i x hx hn => ?_) hdm⟩
  · have hk : k = 0 := by omega
    subst hk
    have := g4 f hf
    omega
  · obtain ⟨a1, a2⟩ := hA x (List.mem_of_getElem? hx)
    have a3 := hr2 i x hx
    have a4 := hu x (List.mem_of_getElem? hx)
    have a5 := s3 x (List.mem_of_getElem? hx)
    refine ⟨?_, fun hsn => a2 (by rw [sit_site] at hsn; simpa using hsn), fun hsn => ?_, fun hg => ?_⟩
    · dsimp only
      rw [hln]
      rcases a1 with a1 | a1 | a1
      · have a4 := a4 a1
        unfold usesP isSite at a1
        unfold argP
        right; right; right; right; left
        omega
      · obtain ⟨m, b1, b2, b3, b4⟩ := a3.goes a1
        unfold gos at a1
        simp only [decide_eq_true_eq] at a1
        unfold argP
        have : (x.1 = 22 ∨ x.1 = 23 ∨ x.1 = 24 ∨ x.1 = 25) ∧ 0 ≤ x.2.1 ∧ x.2.1 < (c.ins.length : Int) := by omega
        simp only [this, true_and, true_or, or_true, and_self]
      · have := a1 (unitU fs).1.length c.ins.length
        rw [e2]
        exact this
    · have := a5 (by rw [sit_site] at hsn; simpa using hsn)
      omega
    · obtain ⟨m, b1, b2, b3, b4⟩ := a3.goes hg
      rw [b1]
      rcases b4 with b4 | b4
      · exact .inl (by omega)
      · exact .inr b4
  · have hi := lt_of_get hx
    rw [hr1, List.length_append, List.length_singleton] at hi ⊢
    by_cases hir : i = r.length
    · have := get_at (r := []) hr1 hir
      rw [hx] at this
      cases this
      exact absurd rfl hn
    · omega
end Go.Proofs.Ytmdjepfpgmignaa
