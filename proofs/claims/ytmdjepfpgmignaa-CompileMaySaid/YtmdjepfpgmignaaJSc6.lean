/- Package compile: Unit, for units of few nodes. -/
import Derived.Test.YtmdjepfpgmignaaJCp4
set_option linter.unusedVariables false
set_option linter.unusedSimpArgs false
set_option maxRecDepth 20000
set_option maxHeartbeats 8000000
namespace Go.Proofs.Ytmdjepfpgmignaa
open Go Ax
theorem ownU_ok {c : UC} {x : Tr} {az : Int} (h : OwnU c x az) : NodeOK x := by
  unfold OwnU ExprU StmtU at h
  unfold NodeOK
  rcases h with ⟨-, h⟩ | ⟨-, h⟩ | ⟨-, h⟩
  · rcases h with h | h | h | h | h | h | h | h | h | h | h | h | h | h | h <;> (refine ⟨fun _ => ?_, fun _ => ?_, fun _ => ?_, fun _ => ?_, fun _ => ?_⟩ <;> omega)
  · rcases h with h | h | h | h | h <;> (refine ⟨fun _ => ?_, fun _ => ?_, fun _ => ?_, fun _ => ?_, fun _ => ?_⟩ <;> omega)
  · refine ⟨fun _ => ?_, fun _ => ?_, fun _ => ?_, fun _ => ?_, fun _ => ?_⟩ <;> omega
theorem rightU_ok {c : UC} (x : Tr) : ∀ az, RightU c x az → OKT x := by
  induction x using Tr.ind with
  | h x ih =>
    intro az h
    obtain ⟨h1, h2⟩ := rightU_iff.1 h
    refine .mk (ownU_ok h1) fun k hk => ?_
    obtain ⟨j, hj⟩ := List.getElem?_of_mem hk
    exact ih k hk _ (h2 j k hj)
/-- What is laid is not longer than so. -/
def GB (n : Nat) (g : GE) : Prop := ∀ a st, (g a st).1.length ≤ n
theorem GB.le {n m : Nat} {g : GE} (h : GB n g) (hm : n ≤ m) : GB m g := fun a st => Nat.le_trans (h a st) hm
theorem GB.id : GB 0 idE := fun a st => Nat.le_refl _
theorem GB.one (op a b : Int) : GB 1 (oneE op a b) := fun _ _ => Nat.le_refl _
theorem GB.pool (op : Int) (s : ByteArray) : GB 1 (poolE op s) := fun _ _ => Nat.le_refl _
theorem GB.site (op : Int) (s : ByteArray) : GB 1 (siteE op s) := fun _ _ => Nat.le_refl _
theorem GB.seq {n m : Nat} {f g : GE} (hf : GB n f) (hg : GB m g) : GB (n + m) (seqE f g) := fun a st => by
  have h1 := hf a st
  have h2 := hg (a + (f a st).1.length) (f a st).2
  unfold seqE
  dsimp only
  rw [List.length_append]
  omega
theorem GB.keep {n m : Nat} {op : Int} {f g : GE} (hf : GB n f) (hg : GB m g) : GB (n + m + 1) (keepE op f g) := fun a st => by
  have h1 := hf a st
  have h2 := hg (a + (f a st).1.length + 1) (f a st).2
  unfold keepE
  dsimp only
  simp only [List.length_append, List.length_cons]
  omega
theorem GB.choice {n m k : Nat} {f g h : GE} (hf : GB n f) (hg : GB m g) (hh : GB k h) : GB (n + m + k + 2) (choiceE f g h) := fun a st => by
  have h1 := hf a st
  have h2 := hg (a + (f a st).1.length + 1) (f a st).2
  have h3 := hh (a + (f a st).1.length + 1 + (g (a + (f a st).1.length + 1) (f a st).2).1.length + 1) (g (a + (f a st).1.length + 1) (f a st).2).2
  unfold choiceE
  dsimp only
  simp only [List.length_append, List.length_cons]
  omega
theorem GB.loop {n m : Nat} {f g : GE} (hf : GB n f) (hg : GB m g) : GB (n + m + 2) (loopE f g) := fun a st => by
  have h1 := hf a st
  have h2 := hg (a + (f a st).1.length + 1) (f a st).2
  unfold loopE
  dsimp only
  simp only [List.length_append, List.length_cons, List.length_nil]
  omega
theorem GB.all : ∀ {ks : List Tr}, (∀ k ∈ ks, GB (4 * k.cnt - 1) k.gen) → GB (4 * cnts ks) (allE (ks.map Tr.gen))
  | [], _ => GB.id.le (Nat.zero_le _)
  | k :: ks, h => by
    rw [cnts]
    exact ((h k (by simp)).seq (GB.all fun x hx => h x (List.mem_cons_of_mem _ hx))).le (by omega)
theorem GB.init : ∀ {ns : List ByteArray} {ks : List Tr}, (∀ k ∈ ks, GB (4 * k.cnt - 1) k.gen) → GB (4 * cnts ks) (initE ns (ks.map Tr.gen))
  | [], _, _ => GB.id.le (Nat.zero_le _)
  | _ :: _, [], _ => GB.id.le (Nat.zero_le _)
  | n :: ns, k :: ks, h => by
    rw [cnts]
    have hc := k.cnt_eq
    exact ((h k (by simp)).seq ((GB.site 13 n).seq (GB.init fun x hx => h x (List.mem_cons_of_mem _ hx)))).le (by omega)
theorem GB.ite {n : Nat} {c : Prop} [Decidable c] {f g : GE} (hf : GB n f) (hg : GB n g) : GB n (if c then f else g) := by
  split
  · exact hf
  · exact hg
def GBo (o : Option GE) : Prop := ∀ g, o = some g → GB 1 g
theorem GBo.some {g : GE} (h : GB 1 g) : GBo (Option.some g) := fun g' e => by cases e; exact h
theorem GBo.ite {c : Prop} [Decidable c] {f g : Option GE} (hf : GBo f) (hg : GBo g) : GBo (if c then f else g) := by
  split
  · exact hf
  · exact hg
theorem GB.leaf (k n : Int) (s : ByteArray) : GBo (leafE k n s) := by
  unfold leafE
  repeat' (refine GBo.ite (.some ?_) ?_)
  all_goals first | exact GB.one _ _ _ | exact GB.pool _ _ | exact fun g h => by simp at h
theorem GB.end (k o n : Int) (s : ByteArray) (len : Nat) : GB 1 (endE k o n s len) := by
  unfold endE
  repeat' (refine GB.ite ?_ ?_)
  all_goals first | exact GB.id.le (by omega) | exact GB.one _ _ _ | exact GB.pool _ _ | exact GB.site _ _
theorem GB.gen (x : Tr) : OKT x → GB (4 * x.cnt - 1) x.gen := by
  induction x using Tr.ind with
  | h x ih =>
    intro ok
    have hk : ∀ k ∈ x.kids, GB (4 * k.cnt - 1) k.gen := fun k hk => ih k hk (ok.kid k hk)
    obtain ⟨-, o11, o16, o28, o30⟩ := ok.own
    rw [Tr.gen_eq, Tr.cnt_eq]
    unfold genF
    have hl := GB.leaf x.kind x.num x.str
    refine ((GB.one 1 1 0).seq (m := 4 * cnts x.kids + 2) ?_).le (by omega)
    cases hle : leafE x.kind x.num x.str with
    | some g => exact (hl g hle).le (by omega)
    | none =>
      dsimp only
      split
      · exact ((GB.one _ _ _).seq (GB.init hk)).le (by omega)
      split
      · rename_i h
        obtain ⟨y, z, e⟩ := two_of (o11 (.inl h))
        rw [e] at hk ⊢
        simp only [cnts]
        exact (GB.keep (hk y (by simp)) (hk z (by simp))).le (by omega)
      split
      · rename_i h
        obtain ⟨y, z, e⟩ := two_of (o11 (.inr h))
        rw [e] at hk ⊢
        simp only [cnts]
        exact (GB.keep (hk y (by simp)) (hk z (by simp))).le (by omega)
      split
      · rename_i h
        obtain ⟨y, r, e⟩ := some_of (o16 h)
        rw [e] at hk ⊢
        simp only [cnts]
        have hc := y.cnt_eq
        exact ((hk y (by simp)).seq ((GB.site _ _).seq ((GB.all fun k h => hk k (List.mem_cons_of_mem _ h)).seq (GB.one _ _ _)))).le (by omega)
      split
      · rename_i h
        obtain ⟨y, z, u, e⟩ := three_of (o28 h)
        rw [e] at hk ⊢
        simp only [cnts]
        have hc := y.cnt_eq
        have hc := z.cnt_eq
        exact (GB.choice (hk y (by simp)) (hk z (by simp)) (hk u (by simp))).le (by omega)
      split
      · rename_i h
        obtain ⟨y, z, e⟩ := two_of (o30 h)
        rw [e] at hk ⊢
        simp only [cnts]
        have hc := y.cnt_eq
        exact (GB.loop (hk y (by simp)) (hk z (by simp))).le (by omega)
      · exact ((GB.all hk).seq (GB.end _ _ _ _ _)).le (by omega)
theorem GB.fn {f : FnT} (ok : ∀ x ∈ f.2.2, OKT x) : GB (4 * cnts f.2.2 + 2) (fnG f) :=
  ((GB.all fun k hk => GB.gen k (ok k hk)).seq ((GB.one 2 0 0).seq (GB.one 32 0 0))).le (by omega)
theorem fnS_ins (L : List ByteArray) (f : FnT) : (fnS L f).ins = (fnG f 0 (L, 0)).1 := by
  unfold fnS CS.run CS.lay CS.new
  simp
theorem fnS_pool (L : List ByteArray) (f : FnT) : (fnS L f).pool = (fnG f 0 (L, 0)).2.1 := rfl
theorem unitU_pool {fs : List FnT} (ok : ∀ f ∈ fs, ∀ x ∈ f.2.2, OKT x) : ∀ k, k ≤ fs.length → (unitU (fs.take k)).1.length ≤ 4 * cntU (fs.take k) + 2 * k
  | 0, _ => Nat.zero_le _
  | k + 1, hk => by
    obtain ⟨f, hf⟩ := get_lt (L := fs) (m := k) (by omega)
    have ih := unitU_pool ok k (by omega)
    have h1 := GB.fn (ok f (List.mem_of_getElem? hf)) 0 ((unitU (fs.take k)).1, 0)
    have h2 := GOK.fn f 0 ((unitU (fs.take k)).1, 0)
    rw [unitU_snoc hf, cntU_take hf]
    show (fnS (unitU (fs.take k)).1 f).pool.length ≤ _
    rw [fnS_pool]
    dsimp only at h2
    omega
theorem cntU_le (fs : List FnT) (k : Nat) : cntU (fs.take k) ≤ cntU fs := by
  have : cntU fs = cntU (fs.take k) + cntU (fs.drop k) := by
    unfold cntU
    rw [← List.sum_append, ← List.map_append, List.take_append_drop]
  omega
theorem unit_room {fs : List FnT} (few : FewU fs) (ok : ∀ f ∈ fs, ∀ x ∈ f.2.2, OKT x) (k : Nat) (f : FnT) (hf : fs[k]? = some f) : Room (CS.new (unitU (fs.take k)).1) (fnG f) := by
  have hk := lt_of_get hf
  have h1 := GB.fn (ok f (List.mem_of_getElem? hf)) 0 ((unitU (fs.take k)).1, 0)
  have h2 := unitU_pool ok k (by omega)
  have h3 := cntU_take hf
  have h4 := cntU_le fs (k + 1)
  have h5 := few.cnt
  have h6 := few.fns
  unfold Room CS.new
  simp only [List.length_nil, Nat.zero_add]
  omega
theorem checkU_zero {gl : Int} {fs : List FnT} : checkU gl fs = 0 ↔ (∀ f ∈ fs, ∀ x ∈ f.2.2, x.high ≤ 12) ∧ UnitP gl fs := by
  unfold checkU
  split
  · rename_i h
    exact ⟨fun e => by simp at e, fun e => absurd e.1 h⟩
  · rename_i h
    split
    · rename_i h2; exact ⟨fun _ => ⟨Classical.not_not.1 h, h2⟩, fun _ => rfl⟩
    · rename_i h2; exact ⟨fun e => by simp at e, fun e => absurd e.2 h2⟩
theorem unitP_ok {gl : Int} {fs : List FnT} (h : UnitP gl fs) : ∀ f ∈ fs, ∀ x ∈ f.2.2, OKT x := fun f hf x hx => rightU_ok x 2 ((h.2 f hf).2.2.2.2.2 x hx)
noncomputable def unitEc (gl : Int) (fs : List FnT) : Int := if checkU gl fs = 0 then unitE [] fs else checkU gl fs
theorem fnR.grow {H H' : Heap} {sv : Value} {L : List FnT} (h : RL 3 fnR H sv L) (g : Grow H H') : RL 3 fnR H' sv L := RL.grow (fun l x ⟨sk, e, r, m⟩ => ⟨sk, e, NodeR.grows r g, m⟩) h g
theorem unitF_ax {H : Heap} {gl : Int} {sk : Value} {fs : List FnT} (rk : RL 3 fnR H sk fs) (few : FewU fs) :
    AX Try.prog 8 #[.agg #[.int .i64 gl, sk]] H (UnitQ H gl (unitEc gl fs) (unitU fs)) := by
  have h6 := few.fns
  exact unit_ax rk (by omega) (fun X g => scheck_ax (fnR.grow rk g) (by omega) fun f hf x hx => (few.node f hf x hx).1)
    (fun e => unitP_ok (checkU_zero.1 e).2) (fun e => unit_room few (unitP_ok (checkU_zero.1 e).2))
end Go.Proofs.Ytmdjepfpgmignaa
