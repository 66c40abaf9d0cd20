/- Units that are parameters; a code in a list, and its fields; lists of bools. -/
import Derived.Test.YtmdjepfpgmignaaJTr3
set_option linter.unusedVariables false
set_option linter.unusedSimpArgs false
set_option maxRecDepth 20000
set_option maxHeartbeats 8000000
namespace Go.Proofs.Ytmdjepfpgmignaa
open Go Ax
theorem RL.mapM {α β : Type} {k : Nat} {f : Heap → List Value → α → Prop} {f' : Heap → List Value → β → Prop} {H : Heap} {sv : Value} {L : List α} (h : RL k f H sv L) (g : α → β) (hf : ∀ l x, x ∈ L → f H l x → f' H l (g x)) : RL k f' H sv (L.map g) := by
  rcases h with ⟨h, rfl⟩ | ⟨b, h1, h2 | ⟨m, c, h2, h3⟩⟩
  · exact .inl ⟨h, rfl⟩
  · subst h2; exact .inr ⟨b, h1, .inl rfl⟩
  · refine .inr ⟨b, by rw [List.length_map]; exact h1, .inr ⟨m, c, h2, fun i x hx => ?_⟩⟩
    rw [List.getElem?_map] at hx
    cases hL : L[i]? with
    | none => rw [hL] at hx; simp at hx
    | some y =>
      rw [hL] at hx
      simp only [Option.map_some, Option.some.injEq] at hx
      subst hx
      obtain ⟨l, h4, h5⟩ := h3 i y hL
      exact ⟨l, h4, hf _ _ (List.mem_of_getElem? hL) h5⟩
def fnOf (f : Int × Int × List Nd50) : FnT := (f.1, f.2.1, f.2.2.map trOf)
theorem fn_of {m : Nat} {H : Heap} {c : List Value} {x : Int × Int × List Nd50} (R : (ty47 m).R H c x) (o : (ty47 m).ok x) : fnR H c (fnOf x) := by
  obtain ⟨h1, h2, h3⟩ := R
  obtain ⟨o1, o2, o3⟩ := o
  obtain ⟨sk, e, r⟩ := RL.ofTy (f := (ty50 m).R) (fun l x h => h) h3
  refine ⟨sk, cons_of h1 (cons_of h2 e), ?_, ?_⟩
  · exact (RLo.of r).map _ fun l x hx h => ⟨m, node_of m h (o3.2 x hx)⟩
  · show (x.2.2.map trOf).length ≤ maxLen
    rw [List.length_map]
    exact o3.1
theorem unit_of {m : Nat} {H : Heap} {c : List Value} {x : Int × List (Int × Int × List Nd50)} (R : (ty24 m).R H c x) (o : (ty24 m).ok x) :
    ∃ sk, argS c = .agg #[.int .i64 x.1, sk] ∧ RL 3 fnR H sk (x.2.map fnOf) ∧ (x.2.map fnOf).length ≤ maxLen := by
  obtain ⟨h1, h2⟩ := R
  obtain ⟨o1, o2⟩ := o
  obtain ⟨sk, e, r⟩ := RL.ofTy (f := (ty47 m).R) (fun l x h => h) h2
  have hc : c = [.int .i64 x.1, sk] := cons_of h1 e
  refine ⟨sk, by rw [hc]; rfl, RL.mapM (k := 3) r fnOf fun l x hx h => fn_of h (o2.2 x hx), ?_⟩
  rw [List.length_map]
  exact o2.1
structure CodeAt (H : Heap) (sv : Value) (i : Nat) (c : CodeT) (b : Nat) (u : Value) : Prop where
  ix : aindexAddr Try.prog 28 sv (.int .i64 (i : Int)) = some (.pointer (some ⟨b, i * 5, none⟩))
  rk : RL 3 insR H u c.ins
  l0 : ∀ H', Grow H H' → aload Try.prog 3 (.pointer (some ⟨b, i * 5, none⟩)) H' = some (.int .i64 c.1)
  l1 : ∀ H', Grow H H' → aload Try.prog 3 (.pointer (some ⟨b, i * 5 + 1, none⟩)) H' = some (.int .i64 c.2.1)
  l2 : ∀ H', Grow H H' → aload Try.prog 3 (.pointer (some ⟨b, i * 5 + 2, none⟩)) H' = some (.int .i64 c.2.2.1)
  l4 : ∀ H', Grow H H' → aload Try.prog 35 (.pointer (some ⟨b, i * 5 + 4, none⟩)) H' = some u
theorem codeAt {H : Heap} {sv : Value} {L : List CodeT} (h : RL 5 codeR H sv L) (i : Nat) {x : CodeT} (hx : L[i]? = some x) : ∃ b u, CodeAt H sv i x b u := by
  obtain ⟨b, c, l, h1, h2, h3, u, rfl, h4⟩ := h.at (P := Try.prog) (t := 28) (e := 37) rfl rfl hx
  exact ⟨b, u, h1, h4, fun H' g => ald rfl rfl (g.hblk h2) (slots_get (j := 0) h3 rfl), fun H' g => ald rfl rfl (g.hblk h2) (slots_get (j := 1) h3 rfl), fun H' g => ald rfl rfl (g.hblk h2) (slots_get (j := 2) h3 rfl), fun H' g => ald rfl rfl (g.hblk h2) (slots_get (j := 4) h3 rfl)⟩
theorem fold_codes : ∀ (fs : List FnT) (u : US), ∃ M, (fs.foldl stU u).2 = u.2 ++ M ∧ M.length = fs.length
  | [], u => ⟨[], by simp, rfl⟩
  | f :: fs, u => by
    obtain ⟨M, h1, h2⟩ := fold_codes fs (stU u f)
    exact ⟨codeOf u.1 f :: M, by rw [List.foldl_cons, h1]; show (u.2 ++ [codeOf u.1 f]) ++ M = _; rw [List.append_assoc]; rfl, by rw [List.length_cons, List.length_cons, h2]⟩
theorem unitU_len (fs : List FnT) : (unitU fs).2.length = fs.length := by
  obtain ⟨M, h1, h2⟩ := fold_codes fs ([], [])
  unfold unitU
  rw [h1, List.length_append, h2]
  simp
theorem unitU_get {fs : List FnT} {k : Nat} {f : FnT} (hf : fs[k]? = some f) : (unitU fs).2[k]? = some (codeOf (unitU (fs.take k)).1 f) := by
  have hk := lt_of_get hf
  obtain ⟨M, h1, h2⟩ := fold_codes (fs.drop (k + 1)) (unitU (fs.take (k + 1)))
  have e : unitU fs = (fs.drop (k + 1)).foldl stU (unitU (fs.take (k + 1))) := by
    unfold unitU
    rw [← List.foldl_append, List.take_append_drop]
  rw [e, h1, unitU_snoc hf]
  show ((unitU (fs.take k)).2 ++ [codeOf (unitU (fs.take k)).1 f] ++ M)[k]? = _
  have hl : (unitU (fs.take k)).2.length = k := by rw [unitU_len, List.length_take]; omega
  rw [List.append_assoc, List.getElem?_append_right (by omega), hl]
  simp
theorem unitU_few {gl : Int} {fs : List FnT} (few : FewU fs) (h : checkU gl fs = 0) : (unitU fs).2.length ≤ 40 ∧ (unitU fs).1.length ≤ 10000 ∧ ∀ c ∈ (unitU fs).2, c.ins.length ≤ 10000 := by
  have ok := unitP_ok (checkU_zero.1 h).2
  have h5 := few.cnt
  have h6 := few.fns
  refine ⟨by rw [unitU_len]; omega, ?_, fun c hc => ?_⟩
  · have := unitU_pool ok fs.length (Nat.le_refl _)
    rw [List.take_length] at this
    omega
  · obtain ⟨k, hk⟩ := List.getElem?_of_mem hc
    have hkl := lt_of_get hk
    rw [unitU_len] at hkl
    obtain ⟨f, hf⟩ := get_lt hkl
    rw [unitU_get hf] at hk
    cases hk
    rw [codeOf_ins]
    have h1 := GB.fn (ok f (List.mem_of_getElem? hf)) 0 ((unitU (fs.take k)).1, 0)
    have h3 := cntU_take hf
    have h4 := cntU_le fs (k + 1)
    omega
theorem unitEc_zero {gl : Int} {fs : List FnT} (h : unitEc gl fs = 0) : checkU gl fs = 0 ∧ unitE [] fs = 0 := by
  unfold unitEc at h
  split at h
  · rename_i hc; exact ⟨hc, h⟩
  · rename_i hc; exact absurd h hc
end Go.Proofs.Ytmdjepfpgmignaa
