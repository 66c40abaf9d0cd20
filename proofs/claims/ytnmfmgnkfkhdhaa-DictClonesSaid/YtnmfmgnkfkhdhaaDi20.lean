/- A dict in abstract memory: what is apart from it stays. -/
import Derived.Test.YtnmfmgnkfkhdhaaDi19
set_option linter.unusedVariables false
set_option linter.unusedSimpArgs false
set_option maxRecDepth 20000
namespace Go.Proofs.Ytnmfmgnkfkhdhaa
open Go Ax
theorem Has9.same {H H' : Heap} {c N : Nat} {L : List (ByteArray × V)} (h : Has9 H c L N) (e : ∀ (k : Nat) (B : Blk), H[k]? = some B → (k = c ∨ Foot H c k) → H'[k]? = some B) : Has9 H' c L N := by
  obtain ⟨ps, ⟨mb, sv, em, g1, g2, g3, g4⟩, h2, h3⟩ := h
  refine ⟨ps, ⟨mb, sv, em, e _ _ g1 (.inl rfl), e _ _ g2 (.inr ⟨_, _, g1, .inl rfl⟩), g3, ?_⟩, h2, h3⟩
  rcases g4 with g4 | ⟨b, rest, rfl, g5⟩
  · exact .inl g4
  · exact .inr ⟨b, rest, rfl, e _ _ g5 (.inr ⟨_, _, g1, .inr ⟨_, _, rfl⟩⟩)⟩
theorem Has9.footLt {H : Heap} {c N : Nat} {L : List (ByteArray × V)} (h : Has9 H c L N) {k : Nat} (hk : Foot H c k) : k < H.length := by
  obtain ⟨ps, ⟨mb, sv, em, g1, g2, g3, g4⟩, _⟩ := h
  obtain ⟨mb', sv', h1, h2⟩ := hk
  rw [g1] at h1
  simp only [Option.some.injEq, Blk.cells.injEq, List.cons.injEq, Value.map.injEq, and_true, true_and] at h1
  obtain ⟨rfl, rfl⟩ := h1
  rcases h2 with rfl | ⟨n, e, h2⟩
  · exact lt_at g2
  · rcases g4 with ⟨rfl, _⟩ | ⟨b, rest, rfl, g5⟩
    · cases h2
    · cases h2; exact lt_at g5
theorem Has9.footNe {H : Heap} {c N : Nat} {L : List (ByteArray × V)} (h : Has9 H c L N) {k q : Nat} (hk : Foot H c k) (hq : ∃ x, H[q]? = some (.cells .var x)) : k ≠ q := by
  obtain ⟨x, hq⟩ := hq
  rintro rfl
  exact h.notFoot hq rfl hk
theorem foot_same {H H' : Heap} {c k : Nat} (e : H'[c]? = H[c]?) : Foot H' c k ↔ Foot H c k := by unfold Foot; rw [e]
/-- A dict, its clone and the document's, with acts on the one. -/
structure Trio (p c q : Nat) (L M : List (ByteArray × V)) (N : Nat) (H : Heap) : Prop where
  d : Has9 H p M N
  cl : Has9 H c L 60
  r : RD H q L
  pc : p ≠ c
  pq : p ≠ q
  cq : c ≠ q
  dj : ∀ k, Foot H c k → ¬ Foot H p k
theorem Trio.grow {p c q : Nat} {L M : List (ByteArray × V)} {N : Nat} {H H' : Heap} (h : Trio p c q L M N H) (g : Grow H H') : Trio p c q L M N H' :=
  ⟨h.d.grow g, h.cl.grow g, h.r.grow g, h.pc, h.pq, h.cq, fun k h1 h2 => h.dj k ((foot_same (g.2 _ h.cl.lt)).1 h1) ((foot_same (g.2 _ h.d.lt)).1 h2)⟩
theorem Trio.act {p c q q2 : Nat} {L M M' : List (ByteArray × V)} {N : Nat} {H H' : Heap} (h : Trio p c q L M N H) (f : FrX p q2 H H') (hd : Has9 H' p M' (N + 1)) (hq2 : RD H q2 []) (h0 : ∀ k, ¬ FootR H q2 k) (h1 : q2 ≠ c) (h2 : q2 ≠ q) (hp : p ≠ q2) : Trio p c q L M' (N + 1) H' := by
  obtain ⟨cc, hcv⟩ := h.cl.var
  obtain ⟨cq, hqv⟩ := h.r.var
  have hc' := f.2.1 c _ hcv (fun e => h.pc e.symm) (Ne.symm h1) (h.d.notFoot hcv rfl) (h0 c)
  have ec : H'[c]? = H[c]? := by rw [hc', hcv]
  refine ⟨hd, h.cl.same fun k B hk hor => ?_, ?_, h.pc, h.pq, h.cq, fun k k1 k2 => ?_⟩
  · rcases hor with rfl | hor
    · exact hc'.trans (by rw [← hk, hcv])
    · exact f.2.1 k B hk (h.cl.footNe hor h.d.var) (h.cl.footNe hor hq2.var) (h.dj k hor) (h0 k)
  · obtain ⟨nv, vv, r1, r2, r3⟩ := h.r
    obtain ⟨x, hpv⟩ := h.d.var
    obtain ⟨y, hyv⟩ := hq2.var
    refine ⟨nv, vv, f.2.1 q _ r1 (fun e => h.pq e.symm) (Ne.symm h2) (h.d.notFoot r1 rfl) (h0 q), r2.keep fun b c hb => f.2.1 b _ hb ?_ ?_ (h.d.notFoot hb rfl) (h0 b), r3.keep fun b c hb => f.2.1 b _ hb ?_ ?_ (h.d.notFoot hb rfl) (h0 b)⟩
    all_goals (rintro rfl; first | (rw [hpv] at hb; simp at hb; done) | (rw [hyv] at hb; simp at hb))
  · have k3 := (foot_same ec).1 k1
    exact h.dj k k3 (f.2.2.1 k (h.cl.footLt k3) k2)
end Go.Proofs.Ytnmfmgnkfkhdhaa
