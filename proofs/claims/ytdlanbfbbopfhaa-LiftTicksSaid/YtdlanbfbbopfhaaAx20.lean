/- The abstract machine: a region whose order is open, where all that changes the heap lays new blocks alone: the walk in its earliest order. -/
import Derived.Test.YtdlanbfbbopfhaaAx19
import Derived.KernelRfl
set_option linter.unusedVariables false
set_option linter.unusedSimpArgs false
namespace Go.Proofs.Ytdlanbfbbopfhaa.Ax
open Go Go.RowKit

theorem Grow.hmap {H H' : Heap} (h : Grow H H') {b : Nat} {es : List (Value × Value)} (hb : Ax.hmap H b = some es) : Ax.hmap H' b = some es := by
  unfold Ax.hmap at hb ⊢
  split at hb
  · rename_i o es' he
    rw [h.at he]; exact hb
  · simp at hb
theorem aload_grow {P : Program} {t : TypeId} {v r : Value} {H H' : Heap} (g : Grow H H') (h : aload P t v H = some r) : aload P t v H' = some r := by
  unfold aload at h ⊢
  split at h
  · simp only [Option.bind_eq_some_iff] at h ⊢
    obtain ⟨c, hc, h⟩ := h
    exact ⟨c, g.hblk hc, h⟩
  · simp at h
theorem alen_grow {P : Program} {t : TypeId} {v r : Value} {H H' : Heap} (g : Grow H H') (h : alen P t v H = some r) : alen P t v H' = some r := by
  unfold alen at h ⊢
  split at h
  · exact h
  · exact h
  · exact h
  · split at h
    · exact h
    · simp only [Option.map_eq_some_iff] at h ⊢
      obtain ⟨es, he, h⟩ := h
      exact ⟨es, g.hmap he, h⟩
    · simp at h
  · simp at h
theorem mentries_grow {m : Value} {es : List (Value × Value)} {H H' : Heap} (g : Grow H H') (h : mentries m H = some es) : mentries m H' = some es := by
  unfold mentries at h ⊢
  split at h
  · exact h
  · exact g.hmap h
  · simp at h
theorem alookup_grow {P : Program} {t : TypeId} {m k r : Value} {ok : Bool} {H H' : Heap} (g : Grow H H') (h : alookup P t m k ok H = some r) : alookup P t m k ok H' = some r := by
  unfold alookup at h ⊢
  simp only [Option.bind_eq_some_iff] at h ⊢
  obtain ⟨x, hx, es, he, h⟩ := h
  exact ⟨x, hx, es, mentries_grow g he, h⟩
theorem aconvert_grow {P : Program} {s d : TypeId} {v r : Value} {H H' : Heap} (g : Grow H H') (h : aconvert P s d v H = some r) : aconvert P s d v H' = some r := by
  unfold aconvert at h ⊢
  simp only [Option.bind_eq_some_iff] at h ⊢
  obtain ⟨ds, h1, dd, h2, h⟩ := h
  refine ⟨ds, h1, dd, h2, ?_⟩
  split at h
  · exact h
  · exact h
  · split at h
    · split at h
      · exact h
      · split at h
        · rename_i hn; rw [if_pos hn]; exact h
        · rename_i hn
          rw [if_neg hn]
          simp only [Option.bind_eq_some_iff] at h ⊢
          obtain ⟨c, hc, h⟩ := h
          exact ⟨c, g.hblk hc, h⟩
      · simp at h
    · simp at h
  · split at h
    · exact h
    · simp only [Option.bind_eq_some_iff] at h ⊢
      obtain ⟨j, hj, h⟩ := h
      refine ⟨j, hj, ?_⟩
      split at h
      · simp at h
      · rename_i hz
        rw [if_neg hz]
        split at h
        · rename_i T c hc
          rw [g.at hc]; exact h
        · simp at h
    · simp at h
  · split at h
    · exact h
    · simp only [Option.bind_eq_some_iff] at h ⊢
      obtain ⟨j, hj, h⟩ := h
      refine ⟨j, hj, ?_⟩
      split at h
      · rename_i T c hc
        rw [g.at hc]; exact h
      · simp at h
    · simp at h
  · first | exact h | (simp at h)

/-- An operation's operands, found. -/
theorem evK_iff {fr : Fr} {x : Operand} {K : Value → Prop} : evK fr x K → ∃ v, K v ∧ ∀ K', K' v → evK fr x K' := by
  cases x with
  | tmp t => intro h; obtain ⟨v, hv, k⟩ := getK_iff.1 h; exact ⟨v, k, fun K' k' => getK_iff.2 ⟨v, hv, k'⟩⟩
  | const v =>
    intro h
    simp only [evK] at h ⊢
    split at h
    · rename_i hc; exact ⟨v, h, fun K' k' => k'⟩
    · exact h.elim
  | func f => intro h; exact ⟨_, h, fun K' k' => k'⟩
  | global g => intro h; exact h.elim
theorem evL_iff {fr : Fr} : ∀ {l : List Operand} {K : List Value → Prop}, evL fr l K → ∃ v, K v ∧ ∀ K', K' v → evL fr l K' := by
  intro l
  induction l with
  | nil => intro K h; exact ⟨[], h, fun K' k => k⟩
  | cons x l ih =>
    intro K h
    obtain ⟨v, h, k⟩ := evK_iff h
    obtain ⟨vs, h, k2⟩ := ih h
    exact ⟨v :: vs, h, fun K' k' => k _ (k2 _ k')⟩
theorem evP_iff {fr : Fr} : ∀ {l : List (Nat × Operand)} {K : List (Nat × Value) → Prop}, evP fr l K → ∃ v, K v ∧ ∀ K', K' v → evP fr l K' := by
  intro l
  induction l with
  | nil => intro K h; exact ⟨[], h, fun K' k => k⟩
  | cons x l ih =>
    obtain ⟨i, x⟩ := x
    intro K h
    obtain ⟨v, h, k⟩ := evK_iff h
    obtain ⟨vs, h, k2⟩ := ih h
    exact ⟨(i, v) :: vs, h, fun K' k' => k _ (k2 _ k')⟩
theorem evQ_iff {fr : Fr} {x : Option Operand} {K : Option Value → Prop} (h : evQ fr x K) : ∃ v, K v ∧ ∀ K', K' v → evQ fr x K' := by
  cases x with
  | none => exact ⟨none, h, fun K' k => k⟩
  | some x => obtain ⟨v, h, k⟩ := evK_iff h; exact ⟨some v, h, fun K' k' => k _ k'⟩

/-- What changes nothing says the same in a heap that has grown. -/
theorem float_mono {P : Program} {o : Oper} {fr : Fr} {H : Heap} {K : OpK} (hm : isMover o = false) (h : boper P o fr H K) : ∃ v, K v H ∧ ∀ H', Grow H H' → ∀ K' : OpK, K' v H' → boper P o fr H' K' := by
  obtain ⟨dst, op, ty, pos, after, guard⟩ := o
  cases op with
  | move x => obtain ⟨v, h, k⟩ := evK_iff (show evK fr x _ from h); exact ⟨v, h, fun H' g K' k' => k _ k'⟩
  | assign x => obtain ⟨v, h, k⟩ := evK_iff (show evK fr x _ from h); exact ⟨v, h, fun H' g K' k' => k _ k'⟩
  | pick c a b =>
    obtain ⟨v, h, k⟩ := evK_iff (show evK fr c _ from h)
    split at h
    · rename_i t
      rcases h.out with ⟨rfl, h⟩ | ⟨rfl, h⟩
      · obtain ⟨u, h, k2⟩ := evK_iff h; exact ⟨u, h, fun H' g K' k' => k _ (k2 _ k')⟩
      · obtain ⟨u, h, k2⟩ := evK_iff h; exact ⟨u, h, fun H' g K' k' => k _ (k2 _ k')⟩
    · exact h.elim
  | build t ps => obtain ⟨v, h, k⟩ := evP_iff (show evP fr ps.toList _ from h); obtain ⟨r, hr, h⟩ := h.out; exact ⟨r, h, fun H' g K' k' => k _ (.of hr k')⟩
  | load t x => obtain ⟨v, h, k⟩ := evK_iff (show evK fr x _ from h); obtain ⟨r, hr, h⟩ := h.out; exact ⟨r, h, fun H' g K' k' => k _ (.of (aload_grow g hr) k')⟩
  | nilCheck x =>
    obtain ⟨v, h, k⟩ := evK_iff (show evK fr x _ from h)
    split at h
    · exact ⟨_, h, fun H' g K' k' => k _ k'⟩
    · exact ⟨_, h, fun H' g K' k' => k _ k'⟩
    · exact h.elim
  | binOp bo t x y t2 => obtain ⟨v, h, k⟩ := evK_iff (show evK fr x _ from h); obtain ⟨u, h, k2⟩ := evK_iff h; obtain ⟨r, hr, h⟩ := h.out; exact ⟨r, h, fun H' g K' k' => k _ (k2 _ (.of hr k'))⟩
  | unOp uo t x => obtain ⟨v, h, k⟩ := evK_iff (show evK fr x _ from h); obtain ⟨r, hr, h⟩ := h.out; exact ⟨r, h, fun H' g K' k' => k _ (.of hr k')⟩
  | convert s d x => obtain ⟨v, h, k⟩ := evK_iff (show evK fr x _ from h); obtain ⟨r, hr, h⟩ := h.out; exact ⟨r, h, fun H' g K' k' => k _ (.of (aconvert_grow g hr) k')⟩
  | makeFunc f a b => obtain ⟨v, h, k⟩ := evL_iff (show evL fr a.toList _ from h); obtain ⟨u, h, k2⟩ := evL_iff h; exact ⟨_, h, fun H' g K' k' => k _ (k2 _ k')⟩
  | slice t x lo hi mx =>
    obtain ⟨v, h, k⟩ := evK_iff (show evK fr x _ from h)
    obtain ⟨a, h, k1⟩ := evQ_iff h
    obtain ⟨b, h, k2⟩ := evQ_iff h
    obtain ⟨c, h, k3⟩ := evQ_iff h
    obtain ⟨r, hr, h⟩ := h.out
    exact ⟨r, h, fun H' g K' k' => k _ (k1 _ (k2 _ (k3 _ (.of hr k'))))⟩
  | fieldAddr s x f => obtain ⟨v, h, k⟩ := evK_iff (show evK fr x _ from h); obtain ⟨r, hr, h⟩ := h.out; exact ⟨r, h, fun H' g K' k' => k _ (.of hr k')⟩
  | field s x f => obtain ⟨v, h, k⟩ := evK_iff (show evK fr x _ from h); obtain ⟨r, hr, h⟩ := h.out; exact ⟨r, h, fun H' g K' k' => k _ (.of hr k')⟩
  | indexAddr t x i => obtain ⟨v, h, k⟩ := evK_iff (show evK fr x _ from h); obtain ⟨u, h, k2⟩ := evK_iff h; obtain ⟨r, hr, h⟩ := h.out; exact ⟨r, h, fun H' g K' k' => k _ (k2 _ (.of hr k'))⟩
  | index t x i => obtain ⟨v, h, k⟩ := evK_iff (show evK fr x _ from h); obtain ⟨u, h, k2⟩ := evK_iff h; obtain ⟨r, hr, h⟩ := h.out; exact ⟨r, h, fun H' g K' k' => k _ (k2 _ (.of hr k'))⟩
  | lookup t x i ok => obtain ⟨v, h, k⟩ := evK_iff (show evK fr x _ from h); obtain ⟨u, h, k2⟩ := evK_iff h; obtain ⟨r, hr, h⟩ := h.out; exact ⟨r, h, fun H' g K' k' => k _ (k2 _ (.of (alookup_grow g hr) k'))⟩
  | extract x i => obtain ⟨v, h, k⟩ := evK_iff (show evK fr x _ from h); obtain ⟨r, hr, h⟩ := h.out; exact ⟨r, h, fun H' g K' k' => k _ (.of hr k')⟩
  | call c =>
    obtain ⟨callee, args, tys⟩ := c
    cases callee with
    | value f => simp [isMover] at hm
    | invoke a b => simp [isMover] at hm
    | builtin b =>
      obtain ⟨vs, h, k⟩ := evL_iff (show evL fr args.toList (fun vs => builtinK P H b tys.toList vs K) from h)
      have key : ∃ v, K v H ∧ ∀ H', Grow H H' → ∀ K' : OpK, K' v H' → builtinK P H' b tys.toList vs K' := by
        unfold builtinK at h ⊢
        split at h
        all_goals first | (simp [isMover] at hm; done) | skip
        · obtain ⟨r, hr, h⟩ := h.out; exact ⟨r, h, fun H' g K' k' => .of (alen_grow g hr) k'⟩
        · obtain ⟨r, hr, h⟩ := h.out; exact ⟨r, h, fun H' g K' k' => .of hr k'⟩
        · obtain ⟨r, hr, h⟩ := h.out; exact ⟨r, h, fun H' g K' k' => .of hr k'⟩
        · obtain ⟨r, hr, h⟩ := h.out; exact ⟨r, h, fun H' g K' k' => .of hr k'⟩
        · exact h.elim
      obtain ⟨v, k1, k2⟩ := key
      exact ⟨v, k1, fun H' g K' k' => k _ (k2 H' g K' k')⟩
  | _ => simp [isMover] at hm
theorem Ob.mono {α : Type} {x : Option α} {K K' : α → Prop} (h : Ob x K) (k : ∀ a, K a → K' a) : Ob x K' := let ⟨a, h1, h2⟩ := h.out; ⟨a, h1, k a h2⟩
theorem Ob2.mono {α β : Type} {x : Option (α × β)} {K K' : α → β → Prop} (h : Ob2 x K) (k : ∀ a b, K a b → K' a b) : Ob2 x K' := let ⟨a, h1, h2⟩ := h.out; ⟨a, h1, k _ _ h2⟩
theorem evK_mono {fr : Fr} {x : Operand} {K K' : Value → Prop} (h : evK fr x K) (k : ∀ v, K v → K' v) : evK fr x K' := let ⟨v, h1, h2⟩ := evK_iff h; h2 _ (k v h1)
theorem evL_mono {fr : Fr} {x : List Operand} {K K' : List Value → Prop} (h : evL fr x K) (k : ∀ v, K v → K' v) : evL fr x K' := let ⟨v, h1, h2⟩ := evL_iff h; h2 _ (k v h1)
theorem evP_mono {fr : Fr} {x : List (Nat × Operand)} {K K' : List (Nat × Value) → Prop} (h : evP fr x K) (k : ∀ v, K v → K' v) : evP fr x K' := let ⟨v, h1, h2⟩ := evP_iff h; h2 _ (k v h1)
theorem evQ_mono {fr : Fr} {x : Option Operand} {K K' : Option Value → Prop} (h : evQ fr x K) (k : ∀ v, K v → K' v) : evQ fr x K' := let ⟨v, h1, h2⟩ := evQ_iff h; h2 _ (k v h1)
theorem builtinK_mono {P : Program} {H : Heap} {b : Builtin} {ts : List TypeId} {vs : List Value} {K K' : OpK} (h : builtinK P H b ts vs K) (k : ∀ v H', K v H' → K' v H') : builtinK P H b ts vs K' := by
  unfold builtinK at h ⊢
  split at h
  all_goals first | exact h.mono (fun r h => k _ _ h) | exact Ob2.mono h k | exact h.elim
theorem bop_mono {P : Program} {fr : Fr} {H : Heap} {op : Op} {K K' : OpK} (h : bop P fr H op K) (k : ∀ v H', K v H' → K' v H') : bop P fr H op K' := by
  unfold bop at h ⊢
  split at h
  · exact evK_mono h fun v h => k _ _ h
  · exact evK_mono h fun v h => k _ _ h
  · refine evK_mono h fun c h => ?_
    split at h
    · rcases h.out with ⟨rfl, h⟩ | ⟨rfl, h⟩
      · exact bIf.yes rfl (evK_mono h fun v h => k _ _ h)
      · exact bIf.no rfl (evK_mono h fun v h => k _ _ h)
    · exact h.elim
  · exact h.mono k
  · exact evK_mono h fun v h => Ob2.mono h k
  · exact evP_mono h fun v h => Ob.mono h fun r h => k _ _ h
  · exact evP_mono h fun v h => Ob2.mono h k
  · exact evK_mono h fun v h => Ob.mono h fun r h => k _ _ h
  · exact evK_mono h fun v h => evK_mono h fun v h => Ob.mono h fun r h => k _ _ h
  · refine evK_mono h fun c h => ?_
    split at h
    · exact k _ _ h
    · exact k _ _ h
    · exact h.elim
  · exact evK_mono h fun v h => evK_mono h fun v h => Ob.mono h fun r h => k _ _ h
  · exact evK_mono h fun v h => Ob.mono h fun r h => k _ _ h
  · exact evK_mono h fun v h => Ob.mono h fun r h => k _ _ h
  · exact evL_mono h fun v h => evL_mono h fun v h => k _ _ h
  · exact evQ_mono h fun v h => Ob2.mono h k
  · exact evK_mono h fun v h => evK_mono h fun v h => Ob2.mono h k
  · exact evK_mono h fun v h => evQ_mono h fun v h => evQ_mono h fun v h => evQ_mono h fun v h => Ob.mono h fun r h => k _ _ h
  · exact evK_mono h fun v h => Ob.mono h fun r h => k _ _ h
  · exact evK_mono h fun v h => Ob.mono h fun r h => k _ _ h
  · exact evK_mono h fun v h => evK_mono h fun v h => Ob.mono h fun r h => k _ _ h
  · exact evK_mono h fun v h => evK_mono h fun v h => Ob.mono h fun r h => k _ _ h
  · exact evK_mono h fun v h => evK_mono h fun v h => Ob.mono h fun r h => k _ _ h
  · exact evK_mono h fun v h => evK_mono h fun v h => evK_mono h fun v h => Ob.mono h fun r h => k _ _ h
  · exact evK_mono h fun v h => evK_mono h fun v h => evK_mono h fun v h => Ob.mono h fun r h => k _ _ h
  · exact evK_mono h fun v h => Ob.mono h fun r h => k _ _ h
  · exact evK_mono h fun v h => Ob.mono h fun r h => k _ _ h
  · exact evK_mono h fun v h => Ob.mono h fun r h => k _ _ h
  · split at h
    · exact evL_mono h fun v h => builtinK_mono h k
    · exact h.elim
  · exact h.elim
theorem boper_mono {P : Program} {o : Oper} {fr : Fr} {H : Heap} {K K' : OpK} (h : boper P o fr H K) (k : ∀ v H', K v H' → K' v H') : boper P o fr H K' := by
  unfold boper at h ⊢
  split at h
  · split at h
    · split at h
      · refine evL_mono h fun as h => ?_
        split at h
        · split at h
          · exact k _ _ h
          · exact h.elim
        · split at h
          · split at h
            · exact Ob2.mono h k
            · exact h.elim
          · exact h.mono k
      · refine evK_mono h fun f h => ?_
        split at h
        · exact evL_mono h fun as h => h.mono k
        · exact h.elim
    · exact bop_mono h k
    · exact h.elim
  · exact bop_mono h k
end Go.Proofs.Ytdlanbfbbopfhaa.Ax
