/- Sites and strings of what is laid, plainly. -/
import Derived.Test.YtmdjepfpgmignaaJSc7
set_option linter.unusedVariables false
set_option linter.unusedSimpArgs false
set_option maxRecDepth 20000
set_option maxHeartbeats 8000000
namespace Go.Proofs.Ytmdjepfpgmignaa
open Go Ax
def isSite (op : Int) : Prop := op = 13 ∨ op = 14 ∨ op = 15 ∨ op = 27
def usesP (op : Int) : Prop := isSite op ∨ op = 5 ∨ op = 18
instance (op : Int) : Decidable (isSite op) := by unfold isSite; infer_instance
instance (op : Int) : Decidable (usesP op) := by unfold usesP; infer_instance
/-- Sites are numbered in their order. -/
def SitesOK : Nat → List Ins → Nat → Prop
  | s, [], t => s = t
  | s, i :: is, t => (isSite i.1 → i.2.2 = (s : Int)) ∧ SitesOK (if isSite i.1 then s + 1 else s) is t
theorem SitesOK.app : ∀ {s : Nat} {a b : List Ins} {m t : Nat}, SitesOK s a m → SitesOK m b t → SitesOK s (a ++ b) t
  | s, [], b, m, t, h, k => by
    have h : s = m := h
    subst h; exact k
  | s, i :: a, b, m, t, h, k => ⟨h.1, SitesOK.app h.2 k⟩
structure SR (st : PS) (r : List Ins × PS) : Prop where
  pre : ∃ M, r.2.1 = st.1 ++ M
  nod : st.1.Nodup → r.2.1.Nodup
  sit : SitesOK st.2 r.1 r.2.2
  use : ∀ i ∈ r.1, usesP i.1 → 0 ≤ i.2.1 ∧ i.2.1 < (r.2.1.length : Int)
  all : ∀ k, st.1.length ≤ k → k < r.2.1.length → ∃ i ∈ r.1, usesP i.1 ∧ i.2.1 = (k : Int)
theorem SR.app {st m t : PS} {a b : List Ins} (h : SR st (a, m)) (k : SR m (b, t)) : SR st (a ++ b, t) := by
  obtain ⟨M, hM⟩ := h.pre
  obtain ⟨K, hK⟩ := k.pre
  have hM : m.1 = st.1 ++ M := hM
  have hK : t.1 = m.1 ++ K := hK
  have hl : m.1.length ≤ t.1.length := by rw [hK, List.length_append]; omega
  refine ⟨⟨M ++ K, by show t.1 = _; rw [hK, hM, List.append_assoc]⟩, fun hn => k.nod (h.nod hn), h.sit.app k.sit, fun i hi hu => ?_, fun j h1 h2 => ?_⟩
  · rcases List.mem_append.1 hi with hi | hi
    · have := h.use i hi hu
      dsimp only at this ⊢
      omega
    · exact k.use i hi hu
  · by_cases hj : j < m.1.length
    · obtain ⟨i, hi, e⟩ := h.all j h1 hj
      exact ⟨i, List.mem_append_left _ hi, e⟩
    · obtain ⟨i, hi, e⟩ := k.all j (by omega) h2
      exact ⟨i, List.mem_append_right _ hi, e⟩
theorem SR.nil (st : PS) : SR st ([], st) := ⟨⟨[], by simp⟩, id, rfl, fun i hi => by simp at hi, fun k h1 h2 => by dsimp only at h2; omega⟩
theorem SR.one (st : PS) (i : Ins) (h : ¬ usesP i.1) : SR st ([i], st) := by
  have hs : ¬ isSite i.1 := fun e => h (.inl e)
  refine ⟨⟨[], by simp⟩, id, ⟨fun e => absurd e hs, ?_⟩, fun j hj hu => ?_, fun k h1 h2 => by dsimp only at h2; omega⟩
  · rw [if_neg hs]; exact rfl
  · simp only [List.mem_singleton] at hj
    subst hj
    exact absurd hu h
theorem poolF_spec (L : List ByteArray) (s : ByteArray) : (∃ M, (poolF L s).2 = L ++ M) ∧ (L.Nodup → (poolF L s).2.Nodup) ∧ (poolF L s).1 < (poolF L s).2.length ∧ ∀ k, L.length ≤ k → k < (poolF L s).2.length → k = (poolF L s).1 := by
  unfold poolF
  split
  · rename_i h
    obtain ⟨x, hx, h1⟩ := List.any_eq_true.1 h
    exact ⟨⟨[], by simp⟩, id, List.findIdx_lt_length_of_exists ⟨x, hx, h1⟩, fun k h1 h2 => by dsimp only at h2; omega⟩
  · rename_i h
    refine ⟨⟨[s], rfl⟩, fun hn => ?_, by dsimp only; rw [List.length_append]; simp, fun k h1 h2 => by dsimp only at h2 ⊢; rw [List.length_append] at h2; simp at h2; omega⟩
    dsimp only
    rw [List.nodup_append]
    refine ⟨hn, by simp, fun a ha b hb => ?_⟩
    simp only [List.mem_singleton] at hb
    subst hb
    rintro rfl
    exact h (List.any_eq_true.2 ⟨a, ha, isS_t.2 rfl⟩)
theorem SR.pool (op : Int) (s : ByteArray) (h : op = 5 ∨ op = 18) (a : Nat) (st : PS) : SR st (poolE op s a st) := by
  obtain ⟨h1, h2, h3, h4⟩ := poolF_spec st.1 s
  have hs : ¬ isSite op := by unfold isSite; omega
  refine ⟨h1, h2, ⟨fun e => absurd e hs, ?_⟩, fun j hj hu => ?_, fun k k1 k2 => ⟨_, List.mem_singleton.2 rfl, .inr h, ?_⟩⟩
  · rw [if_neg hs]; exact rfl
  · have hj : j = (op, ((poolF st.1 s).1 : Int), 0) := List.mem_singleton.1 hj
    subst hj
    show 0 ≤ ((poolF st.1 s).1 : Int) ∧ ((poolF st.1 s).1 : Int) < ((poolF st.1 s).2.length : Int)
    omega
  · have := h4 k k1 k2
    show ((poolF st.1 s).1 : Int) = k
    omega
theorem SR.site (op : Int) (s : ByteArray) (h : isSite op) (a : Nat) (st : PS) : SR st (siteE op s a st) := by
  obtain ⟨h1, h2, h3, h4⟩ := poolF_spec st.1 s
  refine ⟨h1, h2, ⟨fun e => rfl, ?_⟩, fun j hj hu => ?_, fun k k1 k2 => ⟨_, List.mem_singleton.2 rfl, .inl h, ?_⟩⟩
  · rw [if_pos h]; exact rfl
  · have hj : j = (op, ((poolF st.1 s).1 : Int), (st.2 : Int)) := List.mem_singleton.1 hj
    subst hj
    show 0 ≤ ((poolF st.1 s).1 : Int) ∧ ((poolF st.1 s).1 : Int) < ((poolF st.1 s).2.length : Int)
    omega
  · have := h4 k k1 k2
    show ((poolF st.1 s).1 : Int) = k
    omega
def SG (g : GE) : Prop := ∀ a st, SR st (g a st)
theorem SG.id : SG idE := fun _ st => .nil st
theorem SG.one {op a b : Int} (h : ¬ usesP op) : SG (oneE op a b) := fun _ st => .one st (op, a, b) h
theorem SG.seq {f g : GE} (hf : SG f) (hg : SG g) : SG (seqE f g) := fun a st => (hf a st).app (hg _ _)
theorem SG.keep {op : Int} {f g : GE} (h : ¬ usesP op) (hf : SG f) (hg : SG g) : SG (keepE op f g) := fun a st => (hf a st).app ((SR.one _ _ h).app (hg _ _))
theorem no23 : ¬ usesP 23 := by decide
theorem no22 : ¬ usesP 22 := by decide
theorem SG.choice {f g h : GE} (hf : SG f) (hg : SG g) (hh : SG h) : SG (choiceE f g h) := fun a st => (hf a st).app ((SR.one _ (23, _, 0) no23).app ((hg _ _).app ((SR.one _ (22, _, 0) no22).app (hh _ _))))
theorem SG.loop {f g : GE} (hf : SG f) (hg : SG g) : SG (loopE f g) := fun a st => (hf a st).app ((SR.one _ (23, _, 0) no23).app ((hg _ _).app (SR.one _ (22, _, 0) no22)))
theorem SG.all : ∀ {gs : List GE}, (∀ g ∈ gs, SG g) → SG (allE gs)
  | [], _ => SG.id
  | g :: gs, h => (h g (by simp)).seq (SG.all fun x hx => h x (List.mem_cons_of_mem _ hx))
theorem SG.init : ∀ {ns : List ByteArray} {gs : List GE}, (∀ g ∈ gs, SG g) → SG (initE ns gs)
  | [], _, _ => SG.id
  | _ :: _, [], _ => SG.id
  | n :: ns, g :: gs, h => (h g (by simp)).seq (SG.seq (fun a st => SR.site 13 n (by decide) a st) (SG.init fun x hx => h x (List.mem_cons_of_mem _ hx)))
theorem SG.ite {c : Prop} [Decidable c] {f g : GE} (hf : SG f) (hg : SG g) : SG (if c then f else g) := by
  split
  · exact hf
  · exact hg
theorem SG.getD {gs : List GE} {i : Nat} (h : ∀ g ∈ gs, SG g) : SG (gs.getD i idE) := by
  rw [List.getD_eq_getElem?_getD]
  cases hg : gs[i]? with
  | none => exact SG.id
  | some g => exact h g (List.mem_of_getElem? hg)
def SGo (o : Option GE) : Prop := ∀ g, o = some g → SG g
theorem SGo.some {g : GE} (h : SG g) : SGo (Option.some g) := fun g' e => by cases e; exact h
theorem SGo.ite {c : Prop} [Decidable c] {f g : Option GE} (hf : SGo f) (hg : SGo g) : SGo (if c then f else g) := by
  split
  · exact hf
  · exact hg
theorem SG.leaf (k n : Int) (s : ByteArray) : SGo (leafE k n s) := by
  unfold leafE
  repeat' (refine SGo.ite (.some ?_) ?_)
  all_goals first | exact SG.one (by decide) | exact SR.pool _ _ (by decide) | exact fun g h => by simp at h
theorem SG.end (k o n : Int) (s : ByteArray) (len : Nat) : SG (endE k o n s len) := by
  unfold endE
  repeat' (refine SG.ite ?_ ?_)
  all_goals first | exact SG.id | exact SG.one (by decide) | exact SR.pool _ _ (by decide) | exact SR.site _ _ (by decide)
theorem SG.gen (x : Tr) : SG x.gen := by
  induction x using Tr.ind with
  | h x ih =>
    rw [Tr.gen_eq]
    have hk : ∀ g ∈ x.kids.map Tr.gen, SG g := fun g hg => by
      obtain ⟨y, hy, rfl⟩ := List.mem_map.1 hg
      exact ih y hy
    unfold genF
    refine (SG.one (by decide)).seq ?_
    have hl := SG.leaf x.kind x.num x.str
    cases hle : leafE x.kind x.num x.str with
    | some g => exact hl g hle
    | none =>
      dsimp only
      exact .ite ((SG.one (by decide)).seq (SG.init hk)) (.ite (.keep (by decide) (SG.getD hk) (SG.getD hk)) (.ite (.keep (by decide) (SG.getD hk) (SG.getD hk)) (.ite ((SG.getD hk).seq (SG.seq (fun a st => SR.site 27 x.str (by decide) a st) ((SG.all fun g hg => hk g (List.mem_of_mem_drop hg)).seq (SG.one (by decide))))) (.ite (.choice (SG.getD hk) (SG.getD hk) (SG.getD hk)) (.ite (.loop (SG.getD hk) (SG.getD hk)) ((SG.all hk).seq (SG.end _ _ _ _ _)))))))
theorem SG.fn (f : FnT) : SG (fnG f) := (SG.all fun g hg => by
  obtain ⟨y, hy, rfl⟩ := List.mem_map.1 hg
  exact SG.gen y).seq ((SG.one (by decide)).seq (SG.one (by decide)))
structure UU (u : US) : Prop where
  nod : u.1.Nodup
  sit : ∀ c ∈ u.2, ∃ t : Nat, c.2.2.1 = (t : Int) ∧ SitesOK 0 c.ins t
  use : ∀ c ∈ u.2, ∀ i ∈ c.ins, usesP i.1 → 0 ≤ i.2.1 ∧ i.2.1 < (u.1.length : Int)
  all : ∀ k, k < u.1.length → ∃ c ∈ u.2, ∃ i ∈ c.ins, usesP i.1 ∧ i.2.1 = (k : Int)
theorem codeOf_ins (L : List ByteArray) (f : FnT) : (codeOf L f).ins = (fnG f 0 (L, 0)).1 := by
  show (fnS L f).ins = _
  unfold fnS CS.run CS.lay CS.new
  simp
theorem UU.st {u : US} (h : UU u) (f : FnT) : UU (stU u f) := by
  have r := SG.fn f 0 (u.1, 0)
  obtain ⟨M, hM⟩ := r.pre
  have hM : (fnS u.1 f).pool = u.1 ++ M := hM
  have hl : u.1.length ≤ (fnS u.1 f).pool.length := by rw [hM, List.length_append]; omega
  refine ⟨r.nod h.nod, fun c hc => ?_, fun c hc i hi hu => ?_, fun k hk => ?_⟩
  · rcases List.mem_append.1 hc with hc | hc
    · exact h.sit c hc
    · rw [List.mem_singleton] at hc
      subst hc
      refine ⟨(fnS u.1 f).sites, rfl, ?_⟩
      rw [codeOf_ins]
      exact r.sit
  · rcases List.mem_append.1 hc with hc | hc
    · have := h.use c hc i hi hu
      show 0 ≤ i.2.1 ∧ i.2.1 < ((fnS u.1 f).pool.length : Int)
      omega
    · rw [List.mem_singleton] at hc
      subst hc
      rw [codeOf_ins] at hi
      exact r.use i hi hu
  · by_cases hk1 : k < u.1.length
    · obtain ⟨c, hc, x⟩ := h.all k hk1
      exact ⟨c, List.mem_append_left _ hc, x⟩
    · obtain ⟨i, hi, e⟩ := r.all k (by dsimp only; omega) hk
      exact ⟨codeOf u.1 f, List.mem_append_right _ (List.mem_singleton.2 rfl), i, by rw [codeOf_ins]; exact hi, e⟩
theorem uu_fold : ∀ (fs : List FnT) (u : US), UU u → UU (fs.foldl stU u)
  | [], _, h => h
  | f :: fs, u, h => uu_fold fs (stU u f) (h.st f)
theorem unitU_uu (fs : List FnT) : UU (unitU fs) := uu_fold fs _ ⟨by simp, fun c hc => by simp at hc, fun c hc => by simp at hc, fun k hk => by simp at hk⟩
end Go.Proofs.Ytmdjepfpgmignaa
