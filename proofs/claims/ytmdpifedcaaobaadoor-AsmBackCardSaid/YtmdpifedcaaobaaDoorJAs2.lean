/- Package asm: the reader's state; begin. -/
import Derived.Test.YtmdpifedcaaobaaDoorJCpS1
set_option linter.unusedVariables false
set_option linter.unusedSimpArgs false
set_option maxRecDepth 20000
set_option maxHeartbeats 8000000
namespace Go.Proofs.YtmdpifedcaaobaaDoor
open Go Ax
theorem rowCo : RowOK Tryd.prog 23 45 5 := ⟨rfl, ⟨_, rfl, rfl, by decide⟩, ⟨_, rfl, rfl⟩, by decide, ⟨_, rfl, rfl⟩⟩
theorem rowIn : RowOK Tryd.prog 43 56 3 := ⟨rfl, ⟨_, rfl, rfl, by decide⟩, ⟨_, rfl, rfl⟩, by decide, ⟨_, rfl, rfl⟩⟩
/-- A code, and between which blocks its instructions lie. -/
abbrev CB := CodeT × Nat × Nat
def codeB (H : Heap) (l : List Value) (x : CB) : Prop := ∃ iv, l = [.int .i64 x.1.1, .int .i64 x.1.2.1, .int .i64 x.1.2.2.1, .int .i64 x.1.2.2.2.1, iv] ∧ OwnR 3 56 insR H iv x.1.2.2.2.2 ∧ ∀ b, blkIs iv b → x.2.1 ≤ b ∧ b < x.2.2
theorem codeB.keep {A B : Heap} {l : List Value} {x : CB} (h : codeB A l x) (k : ∀ (b : Nat) c, x.2.1 ≤ b → b < x.2.2 → A[b]? = some (Blk.cells (.row 56) c) → B[b]? = some (Blk.cells (.row 56) c)) : codeB B l x := by
  obtain ⟨iv, h1, h2, h3⟩ := h
  exact ⟨iv, h1, h2.keep (fun b c hb hc => k b c (h3 b hb).1 (h3 b hb).2 hc) fun _ _ _ h => h, h3⟩
/-- How a program lies while it is read. -/
structure PrS (n0 : Nat) (H : Heap) (pv cv : Value) (p : ProgT) : Prop where
  pool : OwnR 1 9 strR H pv p.2.1
  pb : ∀ q, blkIs pv q → n0 ≤ q
  cb : ∀ q, blkIs cv q → n0 ≤ q
  ex : ∃ CL : List CB, OwnR 5 45 codeB H cv CL ∧ CL.map (·.1) = p.2.2 ∧ (∀ x ∈ CL, n0 ≤ x.2.1 ∧ x.2.2 ≤ H.length) ∧ CL.Pairwise (fun x y => x.2.2 ≤ y.2.1)
theorem PrS.keep {n0 : Nat} {A B : Heap} {pv cv : Value} {p : ProgT} (h : PrS n0 A pv cv p) (hl : A.length ≤ B.length) (k : ∀ (b : Nat) e c, A[b]? = some (Blk.cells (.row e) c) → B[b]? = some (Blk.cells (.row e) c)) : PrS n0 B pv cv p := by
  obtain ⟨CL, h1, h2, h3, h4⟩ := h.ex
  exact ⟨h.pool.keep (fun b c _ hc => k b _ c hc) fun _ _ _ h => h, h.pb, h.cb, CL, h1.keep (fun b c _ hc => k b _ c hc) fun l x _ hx => hx.keep fun b c _ _ hc => k b _ c hc, h2, fun x hx => ⟨(h3 x hx).1, Nat.le_trans (h3 x hx).2 hl⟩, h4⟩
theorem PrS.grow {n0 : Nat} {A B : Heap} {pv cv : Value} {p : ProgT} (h : PrS n0 A pv cv p) (g : Grow A B) : PrS n0 B pv cv p := h.keep g.1 fun b e c hc => g.at hc
theorem PrS.but {n0 q : Nat} {A B : Heap} {pv cv : Value} {p : ProgT} {c : List Value} (h : PrS n0 A pv cv p) (hq : A[q]? = some (.cells .var c)) (g : But q A B) : PrS n0 B pv cv p :=
  h.keep g.1 fun b e c' hc => g.at hc (by rintro rfl; rw [hq] at hc; simp at hc)
theorem PrS.lens {n0 : Nat} {H : Heap} {pv cv : Value} {p : ProgT} (h : PrS n0 H pv cv p) : alen Tryd.prog 23 cv H = some (.int .i64 p.2.2.length) := by
  obtain ⟨CL, h1, h2, h3, h4⟩ := h.ex
  have := h1.rl.len (P := Tryd.prog) (t := 23) rfl H
  rwa [show CL.length = p.2.2.length by rw [← h2, List.length_map]] at this
theorem PrS.zero {n0 : Nat} (H : Heap) : PrS n0 H (.slice none 0 0) (.slice none 0 0) (0, [], []) :=
  ⟨.inl ⟨rfl, rfl⟩, fun q h => by obtain ⟨n, k, h⟩ := h; simp at h, fun q h => by obtain ⟨n, k, h⟩ := h; simp at h, [], .inl ⟨rfl, rfl⟩, rfl, by simp, by simp⟩
/-- What reading leaves. -/
def FrA (n0 b : Nat) (A B : Heap) : Prop := A.length ≤ B.length ∧ ∀ j X, A[j]? = some X → j < n0 ∨ (j ≠ b ∧ ∃ c, X = .cells .var c) → B[j]? = some X
theorem FrA.refl (n0 b : Nat) (A : Heap) : FrA n0 b A A := ⟨Nat.le_refl _, fun _ _ h _ => h⟩
theorem FrA.trans {n0 b : Nat} {A B C : Heap} (h : FrA n0 b A B) (k : FrA n0 b B C) : FrA n0 b A C := ⟨Nat.le_trans h.1 k.1, fun j X hx hj => k.2 j X (h.2 j X hx hj) hj⟩
theorem FrA.of {n0 b : Nat} {A B : Heap} (g : Grow A B) : FrA n0 b A B := ⟨g.1, fun j X hx _ => g.at hx⟩
theorem FrA.ofR {n0 b n : Nat} {e : TypeId} {A B : Heap} (f : FrR n e A B) (hn : n0 ≤ n) : FrA n0 b A B := ⟨f.1, fun j X hx hj => f.2 j X hx (by
  rcases hj with hj | ⟨_, c, rfl⟩
  · exact .inl (by omega)
  · exact .inr fun c' e => by simp at e)⟩
theorem FrA.but {n0 b : Nat} {A B : Heap} (f : But b A B) (hn : n0 ≤ b) : FrA n0 b A B := ⟨f.1, fun j X hx hj => f.at hx (by omega)⟩
/-- The codes with one more. -/
theorem PrS.code {n0 : Nat} {A : Heap} {pv cv : Value} {p : ProgT} (h : PrS n0 A pv cv p) (hn : n0 ≤ A.length) {b2 : Nat} {c : CodeT} (hc : c.ins = []) (h2 : A[b2]? = some (.cells (.row 45) [.int .i64 c.1, .int .i64 c.2.1, .int .i64 c.2.2.1, .int .i64 c.2.2.2.1, .slice none 0 0])) (hL : p.2.2.length ≤ 900000) :
    ∃ B, aappend Tryd.prog 23 23 cv (.slice (some ⟨b2, 0, none⟩) 1 5) A = some (.slice (some ⟨A.length, 0, none⟩) (p.2.2.length + 1) 5, B) ∧ PrS n0 B pv (.slice (some ⟨A.length, 0, none⟩) (p.2.2.length + 1) 5) (p.1, p.2.1, p.2.2 ++ [c]) ∧ FrR n0 45 A B := by
  obtain ⟨CL, h1, h2', h3, h4⟩ := h.ex
  have hl : CL.length = p.2.2.length := by rw [← h2', List.length_map]
  have hx : codeB A [.int .i64 c.1, .int .i64 c.2.1, .int .i64 c.2.2.1, .int .i64 c.2.2.2.1, .slice none 0 0] (c, A.length, A.length) := ⟨.slice none 0 0, rfl, .inl ⟨rfl, hc⟩, fun b h => by obtain ⟨n, k, h⟩ := h; simp at h⟩
  obtain ⟨B, ap, o, f, -⟩ := OwnR.append (n := n0) (x := ((c, A.length, A.length) : CB)) rowCo rowCo h1 h2 rfl hx h.cb hn (by omega) (fun A' B' hAB l x hx => by
    obtain ⟨iv, e1, e2, e3⟩ := hx
    exact ⟨iv, e1, e2.keepR hAB (by decide) fun _ _ _ h => h, e3⟩)
  rw [hl] at ap o
  refine ⟨B, ap, ⟨h.pool.keepR f (by decide) fun _ _ _ h => h, h.pb, fun q hq => by obtain ⟨n, k, hq⟩ := hq; simp at hq; omega, CL ++ [(c, A.length, A.length)], o, by simp [h2'], fun x hx => ?_, ?_⟩, f⟩
  · rcases List.mem_append.1 hx with hx | hx
    · exact ⟨(h3 x hx).1, Nat.le_trans (h3 x hx).2 f.1⟩
    · rw [List.mem_singleton] at hx
      subst hx
      exact ⟨hn, f.1⟩
  · rw [List.pairwise_append]
    refine ⟨h4, by simp, fun x hx y hy => ?_⟩
    rw [List.mem_singleton] at hy
    subst hy
    exact (h3 x hx).2
/-- The strings with one more. -/
theorem PrS.str {n0 : Nat} {A : Heap} {pv cv : Value} {p : ProgT} (h : PrS n0 A pv cv p) (hn : n0 ≤ A.length) {b2 : Nat} {s : ByteArray} (h2 : A[b2]? = some (.cells (.row 9) [.string s])) (hL : p.2.1.length ≤ 900000) :
    ∃ B, aappend Tryd.prog 22 22 pv (.slice (some ⟨b2, 0, none⟩) 1 1) A = some (.slice (some ⟨A.length, 0, none⟩) (p.2.1.length + 1) 1, B) ∧ PrS n0 B (.slice (some ⟨A.length, 0, none⟩) (p.2.1.length + 1) 1) cv (p.1, p.2.1 ++ [s], p.2.2) ∧ FrR n0 9 A B := by
  obtain ⟨B, ap, o, f, -⟩ := OwnR.append (n := n0) (x := s) rowS rowS h.pool h2 rfl rfl h.pb hn (by omega) (fun _ _ _ _ _ h => h)
  obtain ⟨CL, h1, h2', h3, h4⟩ := h.ex
  refine ⟨B, ap, ⟨o, fun q hq => by obtain ⟨n, k, hq⟩ := hq; simp at hq; omega, h.cb, CL, h1.keepR f (by decide) fun l x _ hx => ?_, h2', fun x hx => ⟨(h3 x hx).1, Nat.le_trans (h3 x hx).2 f.1⟩, h4⟩, f⟩
  obtain ⟨iv, e1, e2, e3⟩ := hx
  exact ⟨iv, e1, e2.keepR f (by decide) fun _ _ _ h => h, e3⟩
theorem putL_one (c : List Value) (i : Nat) (v : Value) : putL c i [v] = c.set i v := by
  simp [putL]
/-- A cell of an element is written; the other elements lie as they did. -/
theorem OwnR.putX {α : Type} {k : Nat} {e : TypeId} {f : Heap → List Value → α → Prop} {B : Heap} {b i j : Nat} {c l : List Value} {L : List α} {x' : α} {v : Value} (hc : c.length = L.length * k) (hB : B[b]? = some (.cells (.row e) (c.set (i * k + j) v))) (hi : i < L.length) (hl : slotsOf c (i * k) k = some l) (hj : j < k)
    (hx' : f B (l.set j v) x') (h4 : ∀ (i' : Nat) y, i' ≠ i → L[i']? = some y → ∃ w, slotsOf c (i' * k) k = some w ∧ f B w y) : OwnR k e f B (.slice (some ⟨b, 0, none⟩) L.length k) (L.set i x') := by
  refine .inr ⟨b, c.set (i * k + j) v, by simp, hB, by simp [hc], fun i' y hy => ?_⟩
  by_cases hii : i = i'
  · subst hii
    rw [List.getElem?_set_self hi] at hy
    simp only [Option.some.injEq] at hy
    subst hy
    exact ⟨_, slots_set hl hj, hx'⟩
  · rw [List.getElem?_set_ne hii] at hy
    obtain ⟨w, k1, k2⟩ := h4 i' y (fun e => hii e.symm) hy
    refine ⟨w, ?_, k2⟩
    rw [slots_set_ne]; exact k1
    rcases Nat.lt_or_gt_of_ne hii with h | h
    · left
      have : (i + 1) * k ≤ i' * k := Nat.mul_le_mul_right _ h
      rw [Nat.succ_mul] at this; omega
    · right
      have : (i' + 1) * k ≤ i * k := Nat.mul_le_mul_right _ h
      rw [Nat.succ_mul] at this; omega
end Go.Proofs.YtmdpifedcaaobaaDoor
/- Package asm: begin, pool, first. -/
set_option linter.unusedVariables false
set_option linter.unusedSimpArgs false
set_option maxRecDepth 20000
set_option maxHeartbeats 8000000
namespace Go.Proofs.YtmdpifedcaaobaaDoor
open Go Ax
def nextF (s : Nat) : FuncId := if s = 0 then 23 else if s = 1 then 38 else 75
/-- How the reader lies. -/
structure RdS (n0 b : Nat) (H : Heap) (r : RS) : Prop where
  lo : n0 ≤ b
  ln : n0 ≤ H.length
  ex : ∃ pv cv, H[b]? = some (.cells .var [.int .i64 r.p.1, pv, cv, fnV (nextF r.stage)]) ∧ PrS n0 H pv cv r.p
/-- What a step of the reader answers. -/
def StepQ (n0 b : Nat) (H : Heap) (o : Option RS) : Value → Heap → Prop := fun v H' => FrA n0 b H H' ∧ match o with
  | some r => v = .bool true ∧ RdS n0 b H' r
  | none => v = .bool false
theorem tk_len : ∀ (f : Nat) (L acc : List UInt8) (k : Nat) (x : List UInt8) (n : Nat), tkF f L k acc = (x, n, 0) → x.length + k ≤ acc.length + n := by
  intro f
  induction f with
  | zero => intro L acc k x n h; simp [tkF] at h
  | succ f ih =>
    intro L acc k x n h
    rcases tk_cases h with ⟨hc, rfl, rfl, _⟩ | ⟨c, hc, h34, hp, h0⟩ | ⟨hc, h1, h0⟩ | ⟨_, h1, _⟩
    · omega
    · have := ih L _ _ x n h0; simp at this; omega
    · have := ih L _ _ x n h0
      obtain ⟨p1, p2, p3⟩ := escS_pos L (k + 1)
      have := p3 h1
      simp at *
      omega
    · exact absurd h1 (by decide)
theorem take_len {L x : List UInt8} {n : Nat} (h : takeS L = (x, n, 0)) : x.length ≤ L.length := by
  obtain ⟨_, h2, _⟩ := take_good h
  unfold takeS at h
  cases hc : L[0]? with
  | none => simp [hc] at h
  | some c =>
    simp only [hc] at h
    split at h
    · have := tk_len _ L [] 1 x n h; simp at this; omega
    · simp at h
theorem numbers_len {L first : Bs} {many : Nat} {l : List Int} (h : numbersS L first many = some l) : l.length = many := by
  unfold numbersS at h
  split at h
  · rename_i hc
    have := numsS_len h
    rw [List.length_tail] at this; omega
  · simp at h
theorem four_of {l : List Int} (h : l.length = 4) : ∃ a b c d, l = [a, b, c, d] := by
  match l, h with
  | [a, b, c, d], _ => exact ⟨a, b, c, d, rfl⟩
theorem one_of {l : List Int} (h : l.length = 1) : ∃ a, l = [a] := by
  match l, h with
  | [a], _ => exact ⟨a, rfl⟩
theorem int_at {H : Heap} {u : Value} {l : List Int} (h : OwnR 1 3 intR H u l) {i : Nat} {x : Int} (hx : l[i]? = some x) :
    ∃ q, aindexAddr Tryd.prog 57 u (.int .i64 (i : Int)) = some q ∧ ∀ X, Grow H X → aload Tryd.prog 3 q X = some (.int .i64 x) := by
  obtain ⟨b, c, l', h1, h2, h3, rfl⟩ := h.rl.at (P := Tryd.prog) (t := 57) (e := 3) rfl rfl hx
  exact ⟨_, h1, fun X g => ald rfl rfl (g.hblk h2) (slots_get (j := 0) h3 rfl)⟩
theorem begin_ax {n0 b : Nat} {H : Heap} {r : RS} (S : RdS n0 b H r) {L : Bs} (hL : L.length ≤ 100000) (hsz : r.p.2.2.length ≤ 900000) : AX Tryd.prog 55 #[.pointer (some ⟨b, 0, none⟩), .string (bstr L)] H (StepQ n0 b H (r.begin L)) := by
  obtain ⟨hlo, hln, pv, cv, hb, hP⟩ := S
  refine AX.body (n := 41) (rs := [.tmp 4]) Tryd.func55 rfl (by decide) rfl rfl (bC_sound _ _ _ _ ?_)
  refine run ?_
  refine (asmNumbers_ax H codeW 4 hL (by decide)).mono ?_
  rintro v H1 ⟨hv, g1⟩
  unfold RS.begin
  cases hn : numbersS L codeW 4 with
  | none =>
    rw [hn] at hv
    obtain ⟨u, rfl⟩ := hv
    refine run ?_
    exact ⟨.of g1, rfl⟩
  | some l =>
  rw [hn] at hv
  obtain ⟨u, rfl, ho, hub⟩ := hv
  obtain ⟨x0, x1, x2, x3, rfl⟩ := four_of (numbers_len hn)
  obtain ⟨p0, i0, k0⟩ := int_at ho (i := 0) rfl
  obtain ⟨p1, i1, k1⟩ := int_at ho (i := 1) rfl
  obtain ⟨p2, i2, k2⟩ := int_at ho (i := 2) rfl
  obtain ⟨p3, i3, k3⟩ := int_at ho (i := 3) rfl
  have i0 : aindexAddr Tryd.prog 57 u (.int .i64 0) = some p0 := i0
  have i1 : aindexAddr Tryd.prog 57 u (.int .i64 1) = some p1 := i1
  have i2 : aindexAddr Tryd.prog 57 u (.int .i64 2) = some p2 := i2
  have i3 : aindexAddr Tryd.prog 57 u (.int .i64 3) = some p3 := i3
  have k0 := k0 H1 (.refl _)
  have k1 := k1 H1 (.refl _)
  have k2 := k2 H1 (.refl _)
  have k3 := k3 H1 (.refl _)
  have hb1 := g1.at hb
  have bb1 := hblk_of hb1
  have P1 := hP.grow g1
  refine run ?_
  apply SW.drawH [(0, [], [14, 15, 16, 17, 18, 19, 20, 21, 22, 23, 24, 25, 26, 27, 28, 29, 30, 31, 32, 33], false), (1, [], [13, 19, 20, 21, 22, 23, 24, 25, 26, 27, 28, 29, 30, 31, 32], false), (2, [(14, 1)], [13, 14, 19, 20, 21, 22, 23, 24, 25, 26, 27, 28, 29, 30, 31, 32], false), (3, [(14, 1), (15, 2)], [13, 14, 15, 19, 20, 21, 22, 23, 24, 25, 26, 27, 28, 29, 30, 31, 32], false), (4, [(14, 1), (15, 2), (16, 3)], [13, 14, 15, 16, 19, 20, 21, 22, 23, 24, 25, 26, 27, 28, 29, 30, 31, 32], false), (5, [(14, 1), (15, 2), (16, 3), (17, 4)], [13, 14, 15, 16, 17, 19, 20, 21, 22, 23, 24, 25, 26, 27, 28, 29, 30, 31, 32], false), (6, [], [13, 14, 15, 16, 17, 18, 22, 23, 24, 25, 26, 27, 28, 29, 30], false), (7, [(19, 6)], [13, 14, 15, 16, 17, 18, 19, 22, 23, 24, 25, 26, 27, 28, 29, 30], false), (8, [(19, 6), (20, 7)], [13, 14, 15, 16, 17, 18, 19, 20, 22, 23, 24, 25, 26, 27, 28, 29, 30], false), (9, [], [13, 14, 15, 16, 17, 18, 19, 20, 21, 25, 26, 27, 28, 29, 30], false), (10, [(22, 9)], [13, 14, 15, 16, 17, 18, 19, 20, 21, 22, 25, 26, 27, 28, 29, 30], false), (11, [(22, 9), (23, 10)], [13, 14, 15, 16, 17, 18, 19, 20, 21, 22, 23, 25, 26, 27, 28, 29, 30], false), (12, [], [13, 14, 15, 16, 17, 18, 19, 20, 21, 22, 23, 24, 28, 29, 30], false), (13, [(25, 12)], [13, 14, 15, 16, 17, 18, 19, 20, 21, 22, 23, 24, 25, 28, 29, 30], false), (14, [(25, 12), (26, 13)], [13, 14, 15, 16, 17, 18, 19, 20, 21, 22, 23, 24, 25, 26, 28, 29, 30], false), (15, [], [13, 14, 15, 16, 17, 18, 19, 20, 21, 22, 23, 24, 25, 26, 27], false), (16, [(28, 15)], [13, 14, 15, 16, 17, 18, 19, 20, 21, 22, 23, 24, 25, 26, 27, 28], false), (17, [(28, 15), (29, 16)], [13, 14, 15, 16, 17, 18, 19, 20, 21, 22, 23, 24, 25, 26, 27, 28, 29], false), (18, [(19, 6), (20, 7), (21, 8), (22, 9), (23, 10), (24, 11), (25, 12), (26, 13), (27, 14), (28, 15), (29, 16), (30, 17)], [13, 14, 15, 16, 17, 18, 19, 20, 21, 22, 23, 24, 25, 26, 27, 28, 29, 30], false), (19, [(19, 6), (20, 7), (21, 8), (22, 9), (23, 10), (24, 11), (25, 12), (26, 13), (27, 14), (28, 15), (29, 16), (30, 17), (31, 18)], [13, 14, 15, 16, 17, 18, 19, 20, 21, 22, 23, 24, 25, 26, 27, 28, 29, 30, 31], true), (20, [(14, 1), (15, 2), (16, 3), (17, 4), (18, 5), (19, 6), (20, 7), (21, 8), (22, 9), (23, 10), (24, 11), (25, 12), (26, 13), (27, 14), (28, 15), (29, 16), (30, 17), (31, 18), (32, 19)], [13, 14, 15, 16, 17, 18, 19, 20, 21, 22, 23, 24, 25, 26, 27, 28, 29, 30, 31, 32], true), (21, [(13, 0), (14, 1), (15, 2), (16, 3), (17, 4), (18, 5), (19, 6), (20, 7), (21, 8), (22, 9), (23, 10), (24, 11), (25, 12), (26, 13), (27, 14), (28, 15), (29, 16), (30, 17), (31, 18), (32, 19), (33, 20)], [13, 14, 15, 16, 17, 18, 19, 20, 21, 22, 23, 24, 25, 26, 27, 28, 29, 30, 31, 32, 33], false), (22, [(13, 0), (14, 1), (15, 2), (16, 3), (17, 4), (18, 5), (19, 6), (20, 7), (21, 8), (22, 9), (23, 10), (24, 11), (25, 12), (26, 13), (27, 14), (28, 15), (29, 16), (30, 17), (31, 18), (32, 19), (33, 20), (34, 21)], [13, 14, 15, 16, 17, 18, 19, 20, 21, 22, 23, 24, 25, 26, 27, 28, 29, 30, 31, 32, 33, 34], false), (23, [(13, 0), (14, 1), (15, 2), (16, 3), (17, 4), (18, 5), (19, 6), (20, 7), (21, 8), (22, 9), (23, 10), (24, 11), (25, 12), (26, 13), (27, 14), (28, 15), (29, 16), (30, 17), (31, 18), (32, 19), (33, 20), (34, 21), (35, 22)], [13, 14, 15, 16, 17, 18, 19, 20, 21, 22, 23, 24, 25, 26, 27, 28, 29, 30, 31, 32, 33, 34, 35], false), (24, [(13, 0), (14, 1), (15, 2), (16, 3), (17, 4), (18, 5), (19, 6), (20, 7), (21, 8), (22, 9), (23, 10), (24, 11), (25, 12), (26, 13), (27, 14), (28, 15), (29, 16), (30, 17), (31, 18), (32, 19), (33, 20), (34, 21), (35, 22), (36, 23)], [13, 14, 15, 16, 17, 18, 19, 20, 21, 22, 23, 24, 25, 26, 27, 28, 29, 30, 31, 32, 33, 34, 35, 36], true)]
    [(13, 0), (14, 1), (15, 2), (16, 3), (17, 4), (18, 5), (19, 6), (20, 7), (21, 8), (22, 9), (23, 10), (24, 11), (25, 12), (26, 13), (27, 14), (28, 15), (29, 16), (30, 17), (31, 18), (32, 19), (33, 20), (34, 21), (35, 22), (36, 23)] [19]
    [(0, _), (5, _), (6, _)] rfl (by kernel_rfl)
  case hF => exact ⟨rfl, rfl, rfl, trivial⟩
  refine run ?_
  refine Ob2.lay (.cells (.row 45) [.int .i64 x0, .int .i64 x1, .int .i64 x2, .int .i64 x3, .slice none 0 0]) (.slice (some ⟨H1.length, 0, none⟩) 1 5) rfl fun H2 a2 g2 _ => ?_
  have hb2 := g2.at hb1
  obtain ⟨H3, ap, P3, f3⟩ := (P1.grow g2).code (c := (x0, x1, x2, x3, [])) (by have := g1.1; have := g2.1; omega) rfl a2 hsz
  have hb3 := f3.2 b _ hb2 (.inr fun c e => by simp at e)
  refine run ?_
  refine Ob2.of ap ?_
  refine run ?_
  refine Ob.store rfl rfl rfl hb3 rfl (by first | exact Nat.le_of_ble_eq_true rfl | simp) fun H4 s4 b4 l4 => ?_
  have s4 : H4[b]? = some (.cells .var [.int .i64 r.p.1, pv, .slice (some ⟨H2.length, 0, none⟩) (r.p.2.2.length + 1) 5, fnV (nextF r.stage)]) := s4
  refine run ?_
  refine Ob.store rfl rfl rfl s4 rfl (by first | exact Nat.le_of_ble_eq_true rfl | simp) fun H5 s5 b5 l5 => ?_
  refine run ?_
  have F : FrA n0 b H H5 := ((((FrA.of g1).trans (.of g2)).trans (.ofR f3 (Nat.le_refl _))).trans (.but b4 hlo)).trans (.but b5 hlo)
  exact ⟨F, rfl, hlo, by have := F.1; omega, _, _, s5, (P3.but hb3 b4).but s4 b5⟩
theorem first_ax {n0 b : Nat} {H : Heap} {r : RS} (S : RdS n0 b H r) (hst : r.stage = 0) {L : Bs} (hL : L.length ≤ 100000) : AX Tryd.prog 23 #[.pointer (some ⟨b, 0, none⟩), .string (bstr L)] H (StepQ n0 b H (r.step L)) := by
  obtain ⟨hlo, hln, pv, cv, hb, hP⟩ := S
  refine AX.body (n := 24) (rs := [.tmp 4]) Tryd.func23 rfl (by decide) rfl rfl (bC_sound _ _ _ _ ?_)
  refine run ?_
  refine (asmNumbers_ax H globalsW 1 hL (by decide)).mono ?_
  rintro v H1 ⟨hv, g1⟩
  unfold RS.step
  rw [if_pos hst]
  cases hn : numbersS L globalsW 1 with
  | none =>
    rw [hn] at hv
    obtain ⟨u, rfl⟩ := hv
    refine run ?_
    exact ⟨.of g1, rfl⟩
  | some l =>
  rw [hn] at hv
  obtain ⟨u, rfl, ho, hub⟩ := hv
  obtain ⟨x0, rfl⟩ := one_of (numbers_len hn)
  obtain ⟨p0, i0, k0⟩ := int_at ho (i := 0) rfl
  have i0 : aindexAddr Tryd.prog 57 u (.int .i64 0) = some p0 := i0
  have k0 := k0 H1 (.refl _)
  have hb1 := g1.at hb
  have bb1 := hblk_of hb1
  have P1 := hP.grow g1
  refine run ?_
  refine Ob.store rfl rfl rfl hb1 rfl (by first | exact Nat.le_of_ble_eq_true rfl | simp) fun H4 s4 b4 l4 => ?_
  have s4 : H4[b]? = some (.cells .var [.int .i64 x0, pv, cv, fnV (nextF r.stage)]) := s4
  refine run ?_
  refine Ob.store rfl rfl rfl s4 rfl (by first | exact Nat.le_of_ble_eq_true rfl | simp) fun H5 s5 b5 l5 => ?_
  refine run ?_
  have F : FrA n0 b H H5 := ((FrA.of g1).trans (.but b4 hlo)).trans (.but b5 hlo)
  have P5 := (P1.but hb1 b4).but s4 b5
  exact ⟨F, rfl, hlo, by have := F.1; omega, _, _, s5, ⟨P5.pool, P5.pb, P5.cb, P5.ex⟩⟩
theorem pool_ax {n0 b : Nat} {H : Heap} {r : RS} (S : RdS n0 b H r) (hst : r.stage = 1) {L : Bs} (hL : L.length ≤ 100000) (hsz : r.p.2.2.length ≤ 900000) (hsp : r.p.2.1.length ≤ 900000) : AX Tryd.prog 38 #[.pointer (some ⟨b, 0, none⟩), .string (bstr L)] H (StepQ n0 b H (r.step L)) := by
  have S0 := S
  obtain ⟨hlo, hln, pv, cv, hb, hP⟩ := S
  refine AX.body (n := 52) (rs := [.tmp 4]) Tryd.func38 rfl (by decide) rfl rfl (bC_sound _ _ _ _ ?_)
  refine run ?_
  refine (cutP_ax H (L := L) (by omega) poolW (by decide)).mono ?_
  rintro _ X ⟨rfl, e⟩
  subst X
  unfold RS.step
  rw [if_neg (by omega), if_pos hst]
  by_cases hp : poolW.isPrefixOf L = true
  rotate_left
  · rw [if_neg hp]
    have ev : preV poolW L = .tuple #[.string (bstr L), .bool false] := if_neg hp
    rw [ev]
    refine run ?_
    refine (begin_ax S0 hL hsz).mono ?_
    rintro v X hv
    refine run ?_
    exact hv
  rw [if_pos hp]
  have ev : preV poolW L = .tuple #[.string (bstr (L.drop 5)), .bool true] := if_pos hp
  rw [ev]
  have hdl : (L.drop 5).length ≤ 100000 := by rw [List.length_drop]; omega
  have T := take_ax H (s := bstr (L.drop 5)) (by rw [bstr_size]; omega)
  rw [bstr_list] at T
  refine run ?_
  refine T.mono ?_
  rintro _ X ⟨rfl, e⟩
  subst X
  generalize hD : L.drop 5 = D at hdl T ⊢
  have hxl : (takeS D).1.length ≤ 100000 := by
    by_cases he : (takeS D).2.2 = 0
    · exact Nat.le_trans (take_len (n := (takeS D).2.1) (by rw [← he])) hdl
    · have := (take_bad (L := D) (x := (takeS D).1) (n := (takeS D).2.1) (e := (takeS D).2.2) rfl he).1
      rw [this]; simp
  by_cases h1 : (takeS D).2.2 = 0
  rotate_left
  · have d1 : ((takeS D).2.2 != 0) = true := bne_iff_ne.2 h1
    rw [if_neg fun h => h1 h.1]
    refine run ?_
    exact ⟨.refl _ _ _, rfl⟩
  have d1 : ((takeS D).2.2 != 0) = false := by rw [h1]; rfl
  have lD : alen Tryd.prog 9 (.string (bstr D)) H = some (.int .i64 (D.length : Int)) := rfl
  by_cases h2 : (takeS D).2.1 = D.length
  rotate_left
  · have d2 : (((takeS D).2.1 : Int) != (D.length : Int)) = true := bne_iff_ne.2 fun e => h2 (by omega)
    rw [if_neg fun h => h2 h.2.1]
    refine run ?_
    exact ⟨.refl _ _ _, rfl⟩
  have d2 : (((takeS D).2.1 : Int) != (D.length : Int)) = false := by rw [bne_eq_false_iff_eq]; omega
  have ne := str_neq (quoteS (takeS D).1) D
  refine run ?_
  refine (quote_ax H (s := ⟨(takeS D).1.toArray⟩) (by show (takeS D).1.toArray.size ≤ _; simpa using hxl)).mono ?_
  rintro _ X ⟨rfl, e⟩
  subst X
  have eq : (ByteArray.mk (quoteS (ByteArray.mk (takeS D).1.toArray).data.toList).toArray) = bstr (quoteS (takeS D).1) := by simp [bstr]
  rw [eq]
  by_cases h3 : quoteS (takeS D).1 = D
  rotate_left
  · rw [decide_eq_true h3] at ne
    rw [if_neg fun h => h3 h.2.2]
    refine run ?_
    exact ⟨.refl _ _ _, rfl⟩
  rw [decide_eq_false fun h => h h3] at ne
  rw [if_pos ⟨h1, h2, h3⟩]
  have bb := hblk_of hb
  refine run ?_
  refine Ob2.lay (.cells (.row 9) [.string (bstr (takeS D).1)]) (.slice (some ⟨H.length, 0, none⟩) 1 1) rfl fun H2 a2 g2 _ => ?_
  have hb2 := g2.at hb
  obtain ⟨H3, ap, P3, f3⟩ := (hP.grow g2).str (s := bstr (takeS D).1) (by have := g2.1; omega) a2 hsp
  have hb3 := f3.2 b _ hb2 (.inr fun c e => by simp at e)
  refine run ?_
  refine Ob2.of ap ?_
  refine run ?_
  refine Ob.store rfl rfl rfl hb3 rfl (by first | exact Nat.le_of_ble_eq_true rfl | simp) fun H4 s4 b4 l4 => ?_
  refine run ?_
  have F : FrA n0 b H H4 := ((FrA.of g2).trans (.ofR f3 (Nat.le_refl _))).trans (.but b4 hlo)
  have hs1 : nextF r.stage = nextF 1 := by rw [hst]
  have s4 : H4[b]? = some (.cells .var [.int .i64 r.p.1, .slice (some ⟨H2.length, 0, none⟩) (r.p.2.1.length + 1) 1, cv, fnV (nextF 1)]) := by rw [← hs1]; exact s4
  exact ⟨F, rfl, hlo, by have := F.1; omega, _, _, s4, P3.but hb3 b4⟩
end Go.Proofs.YtmdpifedcaaobaaDoor
/- Package asm: an instruction more. -/
set_option linter.unusedVariables false
set_option linter.unusedSimpArgs false
set_option maxRecDepth 20000
set_option maxHeartbeats 8000000
namespace Go.Proofs.YtmdpifedcaaobaaDoor
open Go Ax
theorem FrA.butR {n0 b cb : Nat} {e : TypeId} {c : List Value} {A B : Heap} (f : But cb A B) (hn : n0 ≤ cb) (hc : A[cb]? = some (.cells (.row e) c)) : FrA n0 b A B := ⟨f.1, fun j X hx hj => f.at hx (by
  rintro rfl
  rcases hj with hj | ⟨_, c', rfl⟩
  · omega
  · rw [hc] at hx; simp at hx)⟩
theorem addIns_last {cs : List CodeT} {c : CodeT} {x : Ins} : addIns (cs ++ [c]) x = cs ++ [(c.1, c.2.1, c.2.2.1, c.2.2.2.1, c.ins ++ [x])] := by
  unfold addIns
  simp
theorem findR {α : Type} {f : Nat → Option α} {n k : Nat} {b : α} (hk : k < n) (hb : f k = some b) (h : ∀ j, j < k → f j = none) : (List.range n).findSome? f = some b := by
  induction n with
  | zero => omega
  | succ n ih =>
    rw [List.range_succ, List.findSome?_append]
    by_cases hn : k < n
    · rw [ih hn]; rfl
    · obtain rfl : k = n := by omega
      have : (List.range k).findSome? f = none := by
        rw [List.findSome?_eq_none_iff]
        intro x hx
        exact h x (List.mem_range.1 hx)
      rw [this]
      simp [hb]
theorem findR_no {α : Type} {f : Nat → Option α} {n : Nat} (h : ∀ j, j < n → f j = none) : (List.range n).findSome? f = none := by
  rw [List.findSome?_eq_none_iff]
  intro x hx
  exact h x (List.mem_range.1 hx)
theorem opS_some {w : Bs} {k : Nat} (hk : k < 32) (hw : nameL ((k : Int) + 1) = w) (h : ∀ j : Nat, j < k → nameL ((j : Int) + 1) ≠ w) : opS w = some ((k : Int) + 1) :=
  findR (b := (k : Int) + 1) hk (if_pos hw) fun j hj => if_neg (h j hj)
theorem opS_none {w : Bs} (h : ∀ j : Nat, j < 32 → nameL ((j : Int) + 1) ≠ w) : opS w = none :=
  findR_no fun j hj => if_neg (h j hj)
theorem PrS.addI {n0 : Nat} {A : Heap} {pv cv : Value} {p : ProgT} (h : PrS n0 A pv cv p) (hn : n0 ≤ A.length) (hne : p.2.2 ≠ []) (hsz : ∀ c ∈ p.2.2, c.ins.length ≤ 900000) :
    ∃ cb m iv cells, cv = .slice (some ⟨cb, 0, none⟩) (m + 1) 5 ∧ p.2.2.length = m + 1 ∧ A[cb]? = some (.cells (.row 45) cells) ∧ cells.length = (m + 1) * 5 ∧ cells[m * 5 + 4]? = some iv ∧ n0 ≤ cb ∧
    ∀ (A2 : Heap) (b2 : Nat) (m2 : Ax.Mode) (x : Ins), Grow A A2 → A2[b2]? = some (.cells m2 [.int .i64 x.1, .int .i64 x.2.1, .int .i64 x.2.2]) →
      ∃ k B, aappend Tryd.prog 43 43 iv (.slice (some ⟨b2, 0, none⟩) 1 3) A2 = some (.slice (some ⟨A2.length, 0, none⟩) k 3, B) ∧ B[cb]? = some (.cells (.row 45) cells) ∧ FrR n0 56 A2 B ∧
        ∀ B', B'[cb]? = some (.cells (.row 45) (cells.set (m * 5 + 4) (.slice (some ⟨A2.length, 0, none⟩) k 3))) → But cb B B' → PrS n0 B' pv cv (p.1, p.2.1, addIns p.2.2 x) := by
  obtain ⟨CL, ho, hmap, hb, hpw⟩ := h.ex
  rcases List.eq_nil_or_concat CL with rfl | ⟨init, ⟨c, lo, hi⟩, rfl⟩
  · exact absurd (by rw [← hmap]; rfl) hne
  rw [List.concat_eq_append] at *
  have hcb0 := h.cb
  rcases ho with ⟨_, h0⟩ | ⟨cb, cells, rfl, hcb, hcl, hat⟩
  · simp at h0
  have hcbn := hcb0 cb ⟨_, _, rfl⟩
  have hlen : (init ++ [(c, lo, hi)]).length = init.length + 1 := by simp
  rw [hlen] at hcl
  obtain ⟨lx, hsl, iv, e1, e2, e3⟩ := hat init.length (c, lo, hi) (by simp)
  dsimp only at e1 e2 e3
  subst e1
  have hxb := hb (c, lo, hi) (by simp)
  have hiv : cells[init.length * 5 + 4]? = some iv := slots_get (j := 4) hsl rfl
  have hcm : c ∈ p.2.2 := by rw [← hmap]; simp
  refine ⟨cb, init.length, iv, cells, by rw [hlen], by rw [← hmap]; simp, hcb, hcl, hiv, hcbn, fun A2 b2 m2 x g hb2 => ?_⟩
  have o2 : OwnR 3 56 insR A2 iv c.ins := e2.keep (fun b c _ hc => g.at hc) fun _ _ _ h => h
  have hlo : ∀ q, blkIs iv q → n0 ≤ q := fun q hq => Nat.le_trans hxb.1 (e3 q hq).1
  obtain ⟨B, ap, o3, f3, keepq⟩ := OwnR.append (n := n0) (x := (x : Ins)) (f := insR) rowIn rowIn o2 hb2 rfl rfl hlo (by have := g.1; omega) (Nat.le_trans (hsz c hcm) (by decide)) (fun _ _ _ _ _ h => h)
  have hcbB : B[cb]? = some (.cells (.row 45) cells) := f3.2 cb _ (g.at hcb) (.inr fun c e => by simp at e)
  refine ⟨_, B, ap, hcbB, f3, fun B' hB' hBut => ?_⟩
  have hA2B' : ∀ q X, A2[q]? = some X → ¬ blkIs iv q → q ≠ cb → B'[q]? = some X := fun q X hq h1 h2 => hBut.at (keepq q X hq h1) h2
  have hlBB : B.length ≤ B'.length := hBut.1
  have hx3 : OwnR 3 56 insR B' (.slice (some ⟨A2.length, 0, none⟩) (c.ins.length + 1) 3) (c.ins ++ [x]) := o3.keep (fun b c' hb' hc' => hBut.at hc' (by rintro rfl; rw [hcbB] at hc'; simp at hc')) fun _ _ _ h => h
  have hil : init.length < (init ++ [(c, lo, hi)]).length := by simp
  have hput := OwnR.putX (f := codeB) (e := 45) (L := init ++ [(c, lo, hi)]) (j := 4) (x' := ((c.1, c.2.1, c.2.2.1, c.2.2.2.1, c.ins ++ [x]), min lo A2.length, B'.length)) (by rw [hlen]; exact hcl) hB' hil hsl (by decide)
    ⟨_, rfl, hx3, fun q hq => by
      obtain ⟨n, k, hq⟩ := hq
      simp at hq
      obtain ⟨rfl, -⟩ := hq
      refine ⟨Nat.min_le_right _ _, ?_⟩
      · have : A2.length < B.length := by
          rcases o3 with ⟨h0, _⟩ | ⟨bb, cc, h1, h2, _⟩
          · simp at h0
          · simp at h1
            obtain ⟨rfl, -⟩ := h1
            exact lt_of_get h2
        dsimp only; omega⟩
    (fun i' y hii hy => by
      obtain ⟨w, k1, k2⟩ := hat i' y hy
      refine ⟨w, k1, ?_⟩
      have hyi : y ∈ init := by
        have : i' < init.length := by
          have := lt_of_get hy
          simp at this; omega
        rw [List.getElem?_append_left this] at hy
        exact List.mem_of_getElem? hy
      refine k2.keep fun b c' hb1 hb2' hc' => hA2B' b _ (g.at hc') (fun hq => ?_) (by rintro rfl; rw [hcb] at hc'; simp at hc')
      have h4 := (List.pairwise_append.1 hpw).2.2 y hyi (c, lo, hi) (by simp)
      have := (e3 b hq).1
      dsimp only at h4; omega)
  rw [List.set_append_right _ _ (Nat.le_refl _), Nat.sub_self] at hput
  refine ⟨(h.pool.keep (fun b c' _ hc' => g.at hc') fun _ _ _ h => h).keep (fun b c' hb' hc' => ?_) fun _ _ _ h => h, h.pb, h.cb, init ++ [((c.1, c.2.1, c.2.2.1, c.2.2.2.1, c.ins ++ [x]), min lo A2.length, B'.length)], hput, ?_, ?_, ?_⟩
  · exact hBut.at (f3.2 b _ hc' (.inr fun c e => by simp at e)) (by rintro rfl; rw [f3.2 b _ hc' (.inr fun c e => by simp at e)] at hcbB; simp at hcbB)
  · rw [← hmap]
    rw [List.map_append, List.map_append]
    exact addIns_last.symm
  · intro y hy
    rcases List.mem_append.1 hy with hy | hy
    · have := hb y (List.mem_append_left _ hy)
      have h1 := g.1
      have h2 := f3.1
      omega
    · rw [List.mem_singleton] at hy
      subst hy
      exact ⟨Nat.le_min.2 ⟨hxb.1, by have := g.1; omega⟩, Nat.le_refl _⟩
  · rw [List.pairwise_append]
    refine ⟨(List.pairwise_append.1 hpw).1, by simp, fun y hy z hz => ?_⟩
    rw [List.mem_singleton] at hz
    subst hz
    refine Nat.le_min.2 ⟨(List.pairwise_append.1 hpw).2.2 y hy (c, lo, hi) (by simp), ?_⟩
    have := hb y (List.mem_append_left _ hy)
    have h1 := g.1
    omega
end Go.Proofs.YtmdpifedcaaobaaDoor
/- Package asm: instr. -/
set_option linter.unusedVariables false
set_option linter.unusedSimpArgs false
set_option maxRecDepth 20000
set_option maxHeartbeats 8000000
namespace Go.Proofs.YtmdpifedcaaobaaDoor
open Go Ax
theorem head_split (L : Bs) : (splitS L).headD [] = headC 32 L := by
  by_cases h : (32 : UInt8) ∈ L
  · rw [split_yes h]; rfl
  · rw [split_no h, (head_no h).1]; rfl
theorem ainstr_ax {n0 b : Nat} {H : Heap} {r : RS} (S : RdS n0 b H r) (hst : r.stage = 2) (hne : r.p.2.2 ≠ []) {L : Bs} (hL : L.length ≤ 100000) (hsz : r.p.2.2.length ≤ 900000) (hsi : ∀ c ∈ r.p.2.2, c.ins.length ≤ 900000) : AX Tryd.prog 75 #[.pointer (some ⟨b, 0, none⟩), .string (bstr L)] H (StepQ n0 b H (r.step L)) := by
  have S0 := S
  obtain ⟨hlo, hln, pv, cv, hb, hP⟩ := S
  refine AX.body (n := 81) (rs := [.tmp 4]) Tryd.func75 rfl (by decide) rfl rfl (bC_sound _ _ _ _ ?_)
  refine run ?_
  refine (cut_ax H (L := L) (by omega) 32).mono ?_
  rintro _ X ⟨rfl, e⟩
  subst X
  unfold RS.step
  rw [if_neg (by omega), if_neg (by omega), head_split]
  unfold cutV
  generalize hW : headC 32 L = W
  have hWl : W.length ≤ L.length := by rw [← hW]; exact head_len L
  refine run ?_
  refine SW.loop (α := Nat) (fun k => [(0, .pointer (some ⟨b, 0, none⟩)), (1, .string (bstr L)), (5, .string (bstr W)), (8, .int .i64 ((k : Int) + 1))])
    (fun k X => X = H ∧ k ≤ 32 ∧ ∀ j : Nat, j < k → nameL ((j : Int) + 1) ≠ W) (fun k => 33 - k)
    ⟨0, ⟨rfl, rfl, rfl, rfl, trivial⟩, rfl, by omega, fun j hj => absurd hj (Nat.not_lt_zero _)⟩ ?_
  rintro k X ⟨rfl, hk, hno⟩
  refine bC_sound _ _ _ _ ?_
  by_cases hkl : k < 32
  rotate_left
  · have d1 : decide (((k : Int) + 1) ≤ 32) = false := decide_eq_false (by omega)
    obtain rfl : k = 32 := by omega
    rw [opS_none hno]
    refine run ?_
    refine (begin_ax S0 hL hsz).mono ?_
    rintro v X hv
    refine run ?_
    exact hv
  have d1 : decide (((k : Int) + 1) ≤ 32) = true := decide_eq_true (by omega)
  have w1 : IntKind.i64.wrap ((k : Int) + 1 + 1) = ((k + 1 : Nat) : Int) + 1 := by rw [wrap_i64 (by omega) (by omega)]; omega
  refine run ?_
  refine (asmName_ax X ((k : Int) + 1) ⟨by omega, by omega⟩).mono ?_
  rintro _ Y ⟨rfl, e⟩
  subst Y
  have ne := str_neq (nameL ((k : Int) + 1)) W
  by_cases hnm : nameL ((k : Int) + 1) = W
  rotate_left
  · rw [decide_eq_true hnm] at ne
    refine run ?_
    exact ⟨k + 1, ⟨rfl, rfl, rfl, congrArg (fun z => some (Value.int .i64 z)) w1, trivial⟩, ⟨rfl, by omega, fun j hj => by
      by_cases hjk : j = k
      · subst hjk; exact hnm
      · exact hno j (by omega)⟩, by dsimp only; omega⟩
  rw [decide_eq_false fun h => h hnm] at ne
  rw [opS_some hkl hnm hno]
  dsimp only
  rw [hnm] at ne ⊢
  refine run ?_
  refine (asmParts_ax X ((k : Int) + 1)).mono ?_
  rintro _ Y ⟨rfl, e⟩
  subst Y
  refine run ?_
  have hpl := partsN_le ((k : Int) + 1)
  refine (asmNumbers_ax X W (partsN ((k : Int) + 1)) hL (by omega)).mono ?_
  rintro v H1 ⟨hv, g1⟩
  cases hn : numbersS L W (partsN ((k : Int) + 1)) with
  | none =>
    rw [hn] at hv
    obtain ⟨u, rfl⟩ := hv
    refine run ?_
    exact ⟨.of g1, rfl⟩
  | some l =>
  rw [hn] at hv
  obtain ⟨u, rfl, ho, hub⟩ := hv
  have hll := numbers_len hn
  have ln : ∀ Y, alen Tryd.prog 57 u Y = some (.int .i64 (l.length : Int)) := fun Y => ho.rl.len (P := Tryd.prog) (t := 57) rfl Y
  refine run ?_
  refine Ob2.alloc rfl fun q H0 hq a0 g0 => ?_
  subst hq
  refine run ?_
  refine Ob.store rfl rfl rfl a0 rfl (by first | exact Nat.le_of_ble_eq_true rfl | simp) fun H2 a2 b2 l2 => ?_
  have g2 : Grow H1 H2 := g0.but_new b2 (Nat.le_refl _)
  have ln2 := ln H2
  refine run ?_
  refine SW.loop (α := Nat) (fun i => [(0, .pointer (some ⟨b, 0, none⟩)), (11, .pointer (some ⟨H1.length, 0, none⟩)), (41, u), (42, .int .i64 (l.length : Int)), (43, .int .i64 (i : Int))])
    (fun i Y => i ≤ l.length ∧ Grow H1 Y ∧ Y[H1.length]? = some (.cells .var [.int .i64 ((k : Int) + 1), .int .i64 (if 0 < i then l.getD 0 0 else 0), .int .i64 (if 1 < i then l.getD 1 0 else 0)])) (fun i => l.length - i)
    ⟨0, ⟨rfl, rfl, rfl, rfl, rfl, trivial⟩, Nat.zero_le _, g2, a2⟩ ?_
  rintro i Y ⟨hi, gY, aY⟩
  refine bC_sound _ _ _ _ ?_
  have bY := hblk_of aY
  by_cases hil : i < l.length
  · have d2 : decide ((i : Int) < (l.length : Int)) = true := decide_eq_true (by omega)
    obtain ⟨x, hx⟩ := get_lt hil
    obtain ⟨q, ix, ld'⟩ := int_at ho hx
    have ld := ld' Y gY
    have w2 := w_succ (k := i) (by omega)
    have hgx : ∀ d, l.getD i d = x := fun d => by rw [List.getD_eq_getElem?_getD, hx]; rfl
    by_cases hi0 : i = 0
    · subst hi0
      refine run ?_
      refine Ob.store rfl rfl rfl aY rfl (by first | exact Nat.le_of_ble_eq_true rfl | simp) fun H4 s4 b4 l4 => ?_
      refine run ?_
      exact ⟨1, ⟨rfl, rfl, rfl, rfl, congrArg (fun z => some (Value.int .i64 z)) w2, trivial⟩, ⟨hil, gY.but_new b4 (Nat.le_refl _), by rw [s4]; simp [putL, hx]⟩, by dsimp only; omega⟩
    · obtain rfl : i = 1 := by omega
      have d3 : (((1 : Nat) : Int) == 0) = false := rfl
      refine run ?_
      refine Ob.store rfl rfl rfl aY rfl (by first | exact Nat.le_of_ble_eq_true rfl | simp) fun H4 s4 b4 l4 => ?_
      refine run ?_
      exact ⟨2, ⟨rfl, rfl, rfl, rfl, congrArg (fun z => some (Value.int .i64 z)) w2, trivial⟩, ⟨hil, gY.but_new b4 (Nat.le_refl _), by rw [s4]; simp [putL, hx]⟩, by dsimp only; omega⟩
  · have d2 : decide ((i : Int) < (l.length : Int)) = false := decide_eq_false (by omega)
    obtain rfl : i = l.length := by omega
    have aY : Y[H1.length]? = some (.cells .var [.int .i64 ((k : Int) + 1), .int .i64 (l.getD 0 0), .int .i64 (l.getD 1 0)]) := by
      rw [aY]
      have : ∀ j, (if j < l.length then l.getD j 0 else 0) = l.getD j 0 := fun j => by
        split
        · rfl
        · rw [List.getD_eq_getElem?_getD, List.getElem?_eq_none (by omega)]; rfl
      rw [this, this]
    have bY := hblk_of aY
    have gHY := g1.trans gY
    have hbY := gHY.at hb
    have bbY := hblk_of hbY
    obtain ⟨cb, m, iv, cells, rfl, hm, hcb, hcl, hiv, hcbn, hadd⟩ := (hP.grow gHY).addI (by have := gHY.1; omega) hne hsi
    have lnc : alen Tryd.prog 23 (.slice (some ⟨cb, 0, none⟩) (m + 1) 5) Y = some (.int .i64 ((m + 1 : Nat) : Int)) := rfl
    have wm : IntKind.i64.wrap (((m + 1 : Nat) : Int) - 1) = (m : Int) := by rw [wrap_i64 (by omega) (by omega)]; omega
    have ixc : aindexAddr Tryd.prog 23 (.slice (some ⟨cb, 0, none⟩) (m + 1) 5) (.int .i64 (m : Int)) = some (.pointer (some ⟨cb, m * 5, none⟩)) := by
      rw [idx_slice (off := 0) (k := 5) rfl rfl (by omega) (by omega)]; simp
    have bcb := hblk_of hcb
    have ldi : aload Tryd.prog 43 (.pointer (some ⟨cb, m * 5 + 4, none⟩)) Y = some iv := ald rfl rfl bcb hiv
    refine run ?_
    apply SW.drawH [(0, [], [60, 61, 62, 63, 64, 65, 66], false), (1, [(55, 0)], [55, 60, 61, 62, 63, 64, 65, 66], false), (2, [(55, 0), (56, 1)], [55, 56, 60, 61, 62, 63, 64, 65, 66], false), (3, [(55, 0), (56, 1), (57, 2)], [55, 56, 57, 60, 61, 62, 63, 64, 65, 66], false), (4, [(55, 0), (56, 1), (57, 2), (58, 3)], [55, 56, 57, 58, 60, 61, 62, 63, 64, 65, 66], false), (5, [], [55, 56, 57, 58, 59], false), (6, [(60, 5)], [55, 56, 57, 58, 59, 60], false), (7, [(60, 5), (61, 6)], [55, 56, 57, 58, 59, 60, 61], false), (8, [(60, 5), (61, 6), (62, 7)], [55, 56, 57, 58, 59, 60, 61, 62], false), (9, [(60, 5), (61, 6), (62, 7), (63, 8)], [55, 56, 57, 58, 59, 60, 61, 62, 63], false), (10, [(60, 5), (61, 6), (62, 7), (63, 8), (64, 9)], [55, 56, 57, 58, 59, 60, 61, 62, 63, 64], false), (11, [(60, 5), (61, 6), (62, 7), (63, 8), (64, 9), (65, 10)], [55, 56, 57, 58, 59, 60, 61, 62, 63, 64, 65], false), (12, [(55, 0), (56, 1), (57, 2), (58, 3), (59, 4), (60, 5), (61, 6), (62, 7), (63, 8), (64, 9), (65, 10), (66, 11)], [55, 56, 57, 58, 59, 60, 61, 62, 63, 64, 65, 66], false), (13, [(55, 0), (56, 1), (57, 2), (58, 3), (59, 4), (60, 5), (61, 6), (62, 7), (63, 8), (64, 9), (65, 10), (66, 11), (67, 12)], [55, 56, 57, 58, 59, 60, 61, 62, 63, 64, 65, 66, 67], false)]
      [(55, 0), (56, 1), (57, 2), (58, 3), (59, 4), (60, 5), (61, 6), (62, 7), (63, 8), (64, 9), (65, 10), (66, 11), (67, 12), (14, 13)] []
      [(0, _), (11, _)] rfl (by kernel_rfl)
    case hF => exact ⟨rfl, rfl, trivial⟩
    refine run ?_
    rw [wm]
    refine run ?_
    apply SW.drawH [(0, [], [69, 70, 71, 72, 73, 74, 75], false), (1, [], [68, 73, 74], false), (2, [(69, 1)], [68, 69, 73, 74], false), (3, [(69, 1), (70, 2)], [68, 69, 70, 73, 74], false), (4, [(69, 1), (70, 2), (71, 3)], [68, 69, 70, 71, 73, 74], false), (5, [], [68, 69, 70, 71, 72], false), (6, [(73, 5)], [68, 69, 70, 71, 72, 73], true), (7, [(69, 1), (70, 2), (71, 3), (72, 4), (73, 5), (74, 6)], [68, 69, 70, 71, 72, 73, 74], true), (8, [(68, 0), (69, 1), (70, 2), (71, 3), (72, 4), (73, 5), (74, 6), (75, 7)], [68, 69, 70, 71, 72, 73, 74, 75], false), (9, [(68, 0), (69, 1), (70, 2), (71, 3), (72, 4), (73, 5), (74, 6), (75, 7), (76, 8)], [68, 69, 70, 71, 72, 73, 74, 75, 76], false), (10, [(68, 0), (69, 1), (70, 2), (71, 3), (72, 4), (73, 5), (74, 6), (75, 7), (76, 8), (77, 9)], [68, 69, 70, 71, 72, 73, 74, 75, 76, 77], true)]
      [(68, 0), (69, 1), (70, 2), (71, 3), (72, 4), (73, 5), (74, 6), (75, 7), (76, 8), (77, 9)] [6]
      [(14, _), (11, _)] rfl (by kernel_rfl)
    case hF => exact ⟨rfl, rfl, trivial⟩
    refine run ?_
    refine Ob2.lay (.cells (.row 56) [.int .i64 ((k : Int) + 1), .int .i64 (l.getD 0 0), .int .i64 (l.getD 1 0)]) (.slice (some ⟨Y.length, 0, none⟩) 1 3) rfl fun Y2 c2 k2 _ => ?_
    obtain ⟨kk, B, ap, hcbB, f3, fin⟩ := hadd Y2 Y.length _ (argsI ((k : Int) + 1) l) k2 c2
    refine run ?_
    refine Ob2.of ap ?_
    refine run ?_
    refine Ob.store rfl rfl rfl hcbB rfl (by show m * 5 + 4 + 1 ≤ _; omega) fun H5 s5 b5 l5 => ?_
    have s5 : H5[cb]? = some (.cells (.row 45) (cells.set (m * 5 + 4) (.slice (some ⟨Y2.length, 0, none⟩) kk 3))) := by
      rw [s5]; congr 2
    have P5 := fin H5 s5 b5
    have F : FrA n0 b X H5 := ((FrA.of (gHY.trans k2)).trans (.ofR f3 (Nat.le_refl _))).trans (.butR b5 hcbn hcbB)
    have hbB := f3.2 b _ (k2.at hbY) (.inr fun c e => by simp at e)
    have hb5 := b5.at hbB (by rintro rfl; rw [hcbB] at hbB; simp at hbB)
    rw [hst] at hb5
    refine run ?_
    exact ⟨F, rfl, hlo, by have := F.1; omega, _, _, hb5, P5⟩
end Go.Proofs.YtmdpifedcaaobaaDoor
/- Package asm: facts of a reader's steps; the next line. -/
set_option linter.unusedVariables false
set_option linter.unusedSimpArgs false
set_option maxRecDepth 20000
set_option maxHeartbeats 8000000
namespace Go.Proofs.YtmdpifedcaaobaaDoor
open Go Ax
theorem RL.map1 {α β : Type} {k : Nat} {f : Heap → List Value → α → Prop} {f' : Heap → List Value → β → Prop} {H : Heap} {sv : Value} {L : List α} (h : RL k f H sv L) (g : α → β) (hf : ∀ l x, f H l x → f' H l (g x)) : RL k f' H sv (L.map g) := by
  rcases h with ⟨h, rfl⟩ | ⟨b, h1, h2 | ⟨m, c, h2, h3⟩⟩
  · exact .inl ⟨h, rfl⟩
  · subst h2
    exact .inr ⟨b, by simpa using h1, .inl rfl⟩
  · refine .inr ⟨b, by simpa using h1, .inr ⟨m, c, h2, fun i x hx => ?_⟩⟩
    rw [List.getElem?_map] at hx
    cases hL : L[i]? with
    | none => rw [hL] at hx; simp at hx
    | some y =>
      rw [hL] at hx
      simp only [Option.map_some, Option.some.injEq] at hx
      subst hx
      obtain ⟨l, k1, k2⟩ := h3 i y hL
      exact ⟨l, k1, hf l y k2⟩
theorem PrS.prog {n0 : Nat} {H : Heap} {pv cv : Value} {p : ProgT} (h : PrS n0 H pv cv p) : RL 1 strR H pv p.2.1 ∧ RL 5 codeR H cv p.2.2 := by
  obtain ⟨CL, h1, h2, -⟩ := h.ex
  refine ⟨h.pool.rl, ?_⟩
  rw [← h2]
  exact RL.map1 h1.rl _ fun l x ⟨iv, e1, e2, _⟩ => ⟨iv, e1, e2.rl⟩
/-- How much a program holds. -/
def cntP (p : ProgT) : Nat := p.2.1.length + p.2.2.length + (p.2.2.map (·.ins.length)).sum
theorem mem_le_sum : ∀ {l : List Nat} {x : Nat}, x ∈ l → x ≤ l.sum
  | a :: l, x, h => by
    rw [List.sum_cons]
    rcases List.mem_cons.1 h with rfl | h
    · omega
    · have := mem_le_sum h; omega
theorem ins_cnt {p : ProgT} {c : CodeT} (h : c ∈ p.2.2) : c.ins.length ≤ cntP p := by
  have : c.ins.length ≤ (p.2.2.map (·.ins.length)).sum := mem_le_sum (List.mem_map_of_mem h)
  unfold cntP; omega
theorem cnt_code {g : Int} {ps : List ByteArray} {cs : List CodeT} {a b c d : Int} : cntP (g, ps, cs ++ [(a, b, c, d, [])]) = cntP (g, ps, cs) + 1 := by
  unfold cntP
  simp [CodeT.ins]
  omega
theorem cnt_add {g : Int} {ps : List ByteArray} {cs : List CodeT} {x : Ins} (h : cs ≠ []) : cntP (g, ps, addIns cs x) = cntP (g, ps, cs) + 1 := by
  rcases List.eq_nil_or_concat cs with rfl | ⟨init, c, rfl⟩
  · exact absurd rfl h
  rw [List.concat_eq_append, addIns_last]
  unfold cntP
  simp [CodeT.ins]
  omega
theorem add_ne {cs : List CodeT} {x : Ins} (h : cs ≠ []) : addIns cs x ≠ [] := by
  rcases List.eq_nil_or_concat cs with rfl | ⟨init, c, rfl⟩
  · exact absurd rfl h
  rw [List.concat_eq_append, addIns_last]
  simp
theorem opS_of {w : Bs} {op : Int} (h : opS w = some op) : nameL op = w ∧ 1 ≤ op ∧ op ≤ 32 := by
  unfold opS at h
  obtain ⟨i, hi, h⟩ := List.exists_of_findSome?_eq_some h
  rw [List.mem_range] at hi
  split at h
  · rename_i hn
    simp only [Option.some.injEq] at h
    subst h
    exact ⟨hn, by omega, by omega⟩
  · simp at h
/-- What a step that is taken does. -/
inductive StepIs (r : RS) (line : Bs) : RS → Prop where
  | glob (g : Int) (h0 : r.stage = 0) (h1 : numbersS line globalsW 1 = some [g]) : StepIs r line ⟨1, (g, r.p.2.1, r.p.2.2)⟩
  | pool (h0 : r.stage = 1) (h1 : poolW.isPrefixOf line = true) (h2 : (takeS (line.drop 5)).2.2 = 0) (h3 : (takeS (line.drop 5)).2.1 = (line.drop 5).length) (h4 : quoteS (takeS (line.drop 5)).1 = line.drop 5) : StepIs r line ⟨1, (r.p.1, r.p.2.1 ++ [bstr (takeS (line.drop 5)).1], r.p.2.2)⟩
  | code (a b c d : Int) (h0 : r.stage ≠ 0) (h1 : numbersS line codeW 4 = some [a, b, c, d]) : StepIs r line ⟨2, (r.p.1, r.p.2.1, r.p.2.2 ++ [(a, b, c, d, [])])⟩
  | ins (op : Int) (l : List Int) (h0 : r.stage ≠ 0) (h1 : r.stage ≠ 1) (h2 : 1 ≤ op) (h3 : op ≤ 32) (h4 : numbersS line (nameL op) (partsN op) = some l) : StepIs r line ⟨2, (r.p.1, r.p.2.1, addIns r.p.2.2 (argsI op l))⟩
theorem begin_is {r r' : RS} {line : Bs} (h0 : r.stage ≠ 0) (h : r.begin line = some r') : StepIs r line r' := by
  unfold RS.begin at h
  split at h
  · rename_i a b c d hn
    simp only [Option.some.injEq] at h
    subst h
    exact .code a b c d h0 hn
  · simp at h
theorem step_is {r r' : RS} {line : Bs} (h : r.step line = some r') : StepIs r line r' := by
  unfold RS.step at h
  split at h
  · rename_i h0
    split at h
    · rename_i g hn
      simp only [Option.some.injEq] at h
      subst h
      exact .glob g h0 hn
    · simp at h
  · rename_i h0
    split at h
    · rename_i h1
      split at h
      · rename_i h2
        split at h
        · rename_i h3
          simp only [Option.some.injEq] at h
          subst h
          exact .pool h1 h2 h3.1 h3.2.1 h3.2.2
        · simp at h
      · exact begin_is h0 h
    · rename_i h1
      split at h
      · rename_i op ho
        split at h
        · rename_i l hn
          simp only [Option.some.injEq] at h
          subst h
          obtain ⟨_, o1, o2⟩ := opS_of ho
          exact .ins op l h0 h1 o1 o2 hn
        · simp at h
      · exact begin_is h0 h
theorem numbers_head {L first : Bs} {many : Nat} {l : List Int} (h : numbersS L first many = some l) (hf : first ≠ []) : L ≠ [] := by
  rintro rfl
  unfold numbersS at h
  split at h
  · rename_i hc
    simp [splitS] at hc
    exact hf hc.1
  · simp at h
theorem name_ne {op : Int} (h1 : 1 ≤ op) (h2 : op ≤ 32) : nameL op ≠ [] := by
  obtain ⟨n, rfl⟩ : ∃ n : Nat, op = (n : Int) + 1 := ⟨(op - 1).toNat, by omega⟩
  have hn : n < 32 := by omega
  clear h1 h2
  revert n
  decide
theorem step_ne {r r' : RS} {line : Bs} (h : r.step line = some r') : line ≠ [] := by
  cases step_is h with
  | glob g h0 h1 => exact numbers_head h1 (by decide)
  | pool h0 h1 => rintro rfl; exact absurd h1 (by decide)
  | code a b c d h0 h1 => exact numbers_head h1 (by decide)
  | ins op l h0 h1 h2 h3 h4 => exact numbers_head h4 (name_ne h2 h3)
/-- Where a reader can be. -/
def RIs (r : RS) : Prop := r.stage ≤ 2 ∧ (r.stage = 2 ↔ r.p.2.2 ≠ [])
theorem step_ri {r r' : RS} {line : Bs} (hi : RIs r) (h : r.step line = some r') : RIs r' ∧ 1 ≤ r'.stage ∧ cntP r'.p ≤ cntP r.p + 1 := by
  obtain ⟨h1, h2⟩ := hi
  cases step_is h with
  | glob g h0 h1 => exact ⟨⟨(by decide : (1 : Nat) ≤ 2), ⟨fun h => by simp at h, fun h => absurd (h2.2 h) (by omega)⟩⟩, Nat.le_refl _, by show cntP (g, r.p.2.1, r.p.2.2) ≤ _; unfold cntP; dsimp only; omega⟩
  | pool h0 h1 => exact ⟨⟨(by decide : (1 : Nat) ≤ 2), ⟨fun h => by simp at h, fun h => absurd (h2.2 h) (by omega)⟩⟩, Nat.le_refl _, by unfold cntP; simp; omega⟩
  | code a b c d h0 h1 => exact ⟨⟨(by decide : (2 : Nat) ≤ 2), by simp⟩, (by decide : (1 : Nat) ≤ 2), by rw [cnt_code]; exact Nat.le_refl _⟩
  | ins op l h0 h1 =>
    have hne := h2.1 (by omega)
    refine ⟨⟨Nat.le_refl _, ?_⟩, (by decide : (1 : Nat) ≤ 2), ?_⟩
    · exact ⟨fun _ => add_ne hne, fun _ => rfl⟩
    · rw [cnt_add hne]; exact Nat.le_refl _
theorem cut_some {s line rest : Bs} (h : cutS s = some (line, rest)) : s = line ++ 10 :: rest ∧ 10 ∉ line := by
  unfold cutS at h
  split at h
  · rename_i hm
    simp only [Option.some.injEq, Prod.mk.injEq] at h
    obtain ⟨h1, h2⟩ := h
    have := head_yes hm
    unfold headC restC at this
    rw [h1, h2] at this
    exact this
  · simp at h
theorem cut_of {line rest : Bs} (h : 10 ∉ line) : cutS (line ++ 10 :: rest) = some (line, rest) := by
  obtain ⟨h1, h2⟩ := head_of (B := rest) h
  unfold headC at h1
  unfold restC at h2
  unfold cutS
  rw [if_pos (by simp), h1, h2]
theorem readP_fuel : ∀ (f g : Nat) (r : RS) (n : Int) (s : Bs), s.length < f → s.length < g → readP f r n s = readP g r n s := by
  intro f
  induction f with
  | zero => intro g r n s h; omega
  | succ f ih =>
    intro g r n s hf hg
    cases g with
    | zero => omega
    | succ g =>
      unfold readP
      split
      · rfl
      · cases hc : cutS s with
        | none => rfl
        | some lr =>
          obtain ⟨line, rest⟩ := lr
          dsimp only
          cases r.step line with
          | none => rfl
          | some r' =>
            dsimp only
            have := congrArg List.length (cut_some hc).1
            rw [List.length_append, List.length_cons] at this
            exact ih g r' _ rest (by omega) (by omega)
/-- A text of lines that are not too long. -/
inductive LinesOK : Bs → Prop where
  | last {s : Bs} (h : 10 ∉ s) : LinesOK s
  | line {l rest : Bs} (hl : l.length ≤ 100000) (h : 10 ∉ l) (hr : LinesOK rest) : LinesOK (l ++ 10 :: rest)
theorem app_cons_inj {c : UInt8} : ∀ {a b x y : Bs}, c ∉ a → c ∉ x → a ++ c :: b = x ++ c :: y → a = x ∧ b = y := by
  intro a b x y ha hx e
  obtain ⟨h1, h2⟩ := head_of (B := b) ha
  obtain ⟨h3, h4⟩ := head_of (B := y) hx
  rw [e] at h1 h2
  exact ⟨h1.symm.trans h3, h2.symm.trans h4⟩
theorem LinesOK.cut {s line rest : Bs} (h : LinesOK s) (hc : cutS s = some (line, rest)) : line.length ≤ 100000 ∧ LinesOK rest := by
  obtain ⟨e, hn⟩ := cut_some hc
  cases h with
  | last h0 => rw [e] at h0; simp at h0
  | line hl h1 hr =>
    obtain ⟨rfl, rfl⟩ := app_cons_inj h1 hn e
    exact ⟨hl, hr⟩
theorem LinesOK.short : ∀ (n : Nat) (s : Bs), s.length ≤ n → n ≤ 100000 → LinesOK s := by
  intro n
  induction n with
  | zero => intro s h _; exact .last (by rw [List.length_eq_zero_iff.1 (Nat.le_zero.1 h)]; simp)
  | succ n ih =>
    intro s h hn
    by_cases hm : (10 : UInt8) ∈ s
    · obtain ⟨e, hh⟩ := head_yes hm
      have hl := rest_len hm
      rw [e]
      exact .line (by omega) hh (ih _ (by omega) (by omega))
    · exact .last hm
theorem next_ax {n0 b : Nat} {H : Heap} {r : RS} (S : RdS n0 b H r) (hi : RIs r) {L : Bs} (hL : L.length ≤ 100000) (hsz : cntP r.p ≤ 900000) : AX Tryd.prog (nextF r.stage) #[.pointer (some ⟨b, 0, none⟩), .string (bstr L)] H (StepQ n0 b H (r.step L)) := by
  have h1 : r.p.2.1.length ≤ 900000 := by unfold cntP at hsz; omega
  have h2 : r.p.2.2.length ≤ 900000 := by unfold cntP at hsz; omega
  obtain ⟨hs, hne⟩ := hi
  have : r.stage = 0 ∨ r.stage = 1 ∨ r.stage = 2 := by omega
  rcases this with h | h | h
  · have e : nextF r.stage = 23 := by rw [h]; rfl
    rw [e]
    exact first_ax S h hL
  · have e : nextF r.stage = 38 := by rw [h]; rfl
    rw [e]
    exact pool_ax S h hL h2 h1
  · have e : nextF r.stage = 75 := by rw [h]; rfl
    rw [e]
    exact ainstr_ax S h (hne.1 h) hL h2 fun c hc => Nat.le_trans (ins_cnt hc) hsz
end Go.Proofs.YtmdpifedcaaobaaDoor
/- Package asm: Read. -/
set_option linter.unusedVariables false
set_option linter.unusedSimpArgs false
set_option maxRecDepth 20000
set_option maxHeartbeats 8000000
namespace Go.Proofs.YtmdpifedcaaobaaDoor
open Go Ax
/-- What reading answers. -/
def ReadQ (H : Heap) (o : ProgT × Int × Int) : Value → Heap → Prop := fun v H' => (∃ w, v = .tuple #[w, .int .i64 o.2.1, .int .i64 o.2.2] ∧ ProgR H' w o.1) ∧ Grow H H'
theorem progR_zero (H : Heap) : ProgR H (.agg #[.int .i64 0, .slice none 0 0, .slice none 0 0]) (0, [], []) := ⟨_, _, rfl, .inl ⟨rfl, rfl⟩, .inl ⟨rfl, rfl⟩⟩
theorem FrA.grow {H A B : Heap} {b : Nat} (g : Grow H A) (f : FrA H.length b A B) : Grow H B := ⟨Nat.le_trans g.1 f.1, fun j hj => by
  have hjA : j < A.length := Nat.lt_of_lt_of_le hj g.1
  rw [f.2 j _ (List.getElem?_eq_getElem hjA) (.inl hj), ← List.getElem?_eq_getElem hjA]
  exact g.2 j hj⟩
theorem asmRead_ax (H : Heap) {s : Bs} (hL : s.length ≤ 1700000) (hlo : LinesOK s) : AX Tryd.prog 13 #[.string (bstr s)] H (ReadQ H (readS16 s)) := by
  refine AX.body (n := 61) (rs := [.cell 2 25, .tmp 3, .tmp 4]) Tryd.func13 rfl (by decide) rfl rfl (bC_sound _ _ _ _ ?_)
  refine run ?_
  refine Ob2.alloc rfl fun q1 H1 hq1 a1 g1 => ?_
  refine run ?_
  refine Ob2.box rfl fun q2 H2 hq2 a2 g2 => ?_
  refine run ?_
  have hz : (⟨#[]⟩ : ByteArray) = bstr [] := rfl
  refine SW.loop (α := Bs × Nat × RS) (fun y => [(0, .string (bstr y.1)), (2, .pointer (some ⟨q1, 0, none⟩)), (3, .int .i64 0), (4, .int .i64 0), (5, .pointer (some ⟨q2, 0, none⟩)), (6, .int .i64 (y.2.1 : Int))])
    (fun y X => readS16 s = readP (y.1.length + 1) y.2.2 (y.2.1 : Int) y.1 ∧ RdS H.length q2 X y.2.2 ∧ RIs y.2.2 ∧ 2 * cntP y.2.2.p + y.1.length ≤ s.length + 2 ∧ y.2.1 + y.1.length ≤ s.length ∧ LinesOK y.1 ∧ X[q1]? = some (.cells .var [.int .i64 0, .slice none 0 0, .slice none 0 0]) ∧ Grow H X) (fun y => y.1.length)
    ⟨(s, 0, ⟨0, (0, [], [])⟩), ⟨rfl, rfl, rfl, rfl, rfl, rfl, trivial⟩, rfl, ⟨by rw [hq2]; exact g1.1, by have := g1.1; have := g2.1; omega, _, _, a2, .zero _⟩, ⟨(by decide : (0 : Nat) ≤ 2), by simp⟩, by simp [cntP], by simp, hlo, g2.at a1, g1.trans g2⟩ ?_
  rintro ⟨t, n, r⟩ X ⟨heq, S, hi, hc, hn, hlk, aX, gX⟩
  dsimp only at heq S hi hc hn hlk aX ⊢
  have htl : t.length ≤ s.length := by omega
  have bX := hblk_of aX
  refine bC_sound _ _ _ _ ?_
  have ne := str_neq t []
  have hcnt : cntP r.p ≤ 900000 := by omega
  have w1 : IntKind.i64.wrap ((n : Int) + 1) = ((n + 1 : Nat) : Int) := w_succ (by omega)
  by_cases ht : t = []
  · subst ht
    have ne : abin Tryd.prog .neq 9 (.string (bstr [])) (.string ⟨#[]⟩) = some (.bool false) := ne
    obtain ⟨hlo', hln, pv, cv, hb, hP⟩ := S
    have bb := hblk_of hb
    have hlen := hP.lens
    unfold readP at heq
    rw [if_pos rfl] at heq
    refine run ?_
    by_cases hcs : r.p.2.2 = []
    · rw [if_pos hcs] at heq
      have d1 : ((r.p.2.2.length : Int) == 0) = true := by rw [hcs]; rfl
      rw [heq]
      refine run ?_
      refine Ob.store rfl rfl rfl aX rfl (by first | exact Nat.le_of_ble_eq_true rfl | simp) fun H5 s5 b5 l5 => ?_
      have s5 : H5[q1]? = some (.cells .var [.int .i64 0, .slice none 0 0, .slice none 0 0]) := s5
      have bb5 := hblk_of s5
      refine run ?_
      rw [w1]
      exact ⟨⟨_, rfl, progR_zero _⟩, gX.but_new b5 (by omega)⟩
    · rw [if_neg hcs] at heq
      have d1 : ((r.p.2.2.length : Int) == 0) = false := by
        rw [beq_eq_false_iff_ne]
        intro e
        exact hcs (List.length_eq_zero_iff.1 (by omega))
      refine run ?_
      obtain ⟨hp1, hp2⟩ := hP.prog
      refine (check_ax hp1 hp2 (by unfold cntP at hcnt; omega)).mono ?_
      rintro v Y ⟨hv, e⟩
      subst Y
      rcases hv with ⟨rfl, hC⟩ | ⟨rfl, hC⟩
      · have he : endS r.p = (r.p, 0, 0) := if_pos hC
        rw [he] at heq
        rw [heq]
        refine run ?_
        refine Ob.store rfl rfl rfl aX rfl (by first | exact Nat.le_of_ble_eq_true rfl | simp) fun H5 s5 b5 l5 => ?_
        have s5 : H5[q1]? = some (.cells .var [.int .i64 r.p.1, pv, cv]) := s5
        have bb5 := hblk_of s5
        obtain ⟨k1, k2⟩ := (hP.but aX b5).prog
        refine run ?_
        exact ⟨⟨_, rfl, _, _, rfl, k1, k2⟩, gX.but_new b5 (by omega)⟩
      · have he : endS r.p = ((0, [], []), 0, 16) := if_neg hC
        rw [he] at heq
        rw [heq]
        refine run ?_
        refine Ob.store rfl rfl rfl aX rfl (by first | exact Nat.le_of_ble_eq_true rfl | simp) fun H5 s5 b5 l5 => ?_
        have s5 : H5[q1]? = some (.cells .var [.int .i64 0, .slice none 0 0, .slice none 0 0]) := s5
        have bb5 := hblk_of s5
        refine run ?_
        exact ⟨⟨_, rfl, progR_zero _⟩, gX.but_new b5 (by omega)⟩
  have ne : abin Tryd.prog .neq 9 (.string (bstr t)) (.string ⟨#[]⟩) = some (.bool true) := by
    have h : abin Tryd.prog .neq 9 (.string (bstr t)) (.string ⟨#[]⟩) = some (.bool (decide (t ≠ []))) := ne
    rw [h, decide_eq_true ht]
  unfold readP at heq
  rw [if_neg ht] at heq
  refine run ?_
  rw [w1]
  refine run ?_
  refine (cut_ax X (L := t) (by omega) 10).mono ?_
  rintro _ Y ⟨rfl, e⟩
  subst Y
  unfold cutV
  have S0 := S
  obtain ⟨hlo', hln, pv, cv, hb, hP⟩ := S
  have bb := hblk_of hb
  cases hct : cutS t with
  | none =>
    have hm : ¬ (10 : UInt8) ∈ t := by
      unfold cutS at hct
      intro hm
      rw [if_pos hm] at hct
      simp at hct
    rw [hct] at heq
    rw [decide_eq_false hm, heq]
    refine run ?_
    refine Ob.store rfl rfl rfl aX rfl (by first | exact Nat.le_of_ble_eq_true rfl | simp) fun H5 s5 b5 l5 => ?_
    have s5 : H5[q1]? = some (.cells .var [.int .i64 0, .slice none 0 0, .slice none 0 0]) := s5
    have bb5 := hblk_of s5
    refine run ?_
    exact ⟨⟨_, rfl, progR_zero _⟩, gX.but_new b5 (by omega)⟩
  | some lr =>
  obtain ⟨line, rest⟩ := lr
  obtain ⟨et, hnl⟩ := cut_some hct
  obtain ⟨e1, e2⟩ := head_of (B := rest) hnl
  rw [← et] at e1 e2
  have hm : (10 : UInt8) ∈ t := by rw [et]; simp
  obtain ⟨hll, hlr⟩ := hlk.cut hct
  have htl2 := congrArg List.length et
  rw [List.length_append, List.length_cons] at htl2
  rw [hct] at heq
  dsimp only at heq
  rw [decide_eq_true hm, e1, e2]
  have nx := next_ax S0 hi hll hcnt
  refine run ?_
  refine nx.mono ?_
  rintro v Y ⟨hF, hv⟩
  have gY : Grow H Y := hF.grow gX
  have hq12 := lt_at a1
  have aY := hF.2 q1 _ aX (.inr ⟨by omega, _, rfl⟩)
  have bY := hblk_of aY
  cases hst : r.step line with
  | none =>
    rw [hst] at hv heq
    subst hv
    dsimp only at heq
    rw [heq]
    refine run ?_
    refine Ob.store rfl rfl rfl aY rfl (by first | exact Nat.le_of_ble_eq_true rfl | simp) fun H5 s5 b5 l5 => ?_
    have s5 : H5[q1]? = some (.cells .var [.int .i64 0, .slice none 0 0, .slice none 0 0]) := s5
    have bb5 := hblk_of s5
    refine run ?_
    exact ⟨⟨_, rfl, progR_zero _⟩, gY.but_new b5 (by omega)⟩
  | some r' =>
    rw [hst] at hv heq
    obtain ⟨rfl, S'⟩ := hv
    dsimp only at heq
    obtain ⟨hi', hs1, hc'⟩ := step_ri hi hst
    have hlne := List.length_pos_iff.2 (step_ne hst)
    refine run ?_
    refine ⟨(rest, n + 1, r'), ⟨rfl, rfl, rfl, rfl, rfl, rfl, trivial⟩, ⟨?_, S', hi', by dsimp only; omega, by dsimp only; omega, hlr, aY, gY⟩, by dsimp only; omega⟩
    rw [heq, readP_fuel (t.length) (rest.length + 1) r' _ rest (by omega) (by omega)]
    congr 1
end Go.Proofs.YtmdpifedcaaobaaDoor
/- The reference of asm: a line more. -/
set_option linter.unusedVariables false
set_option linter.unusedSimpArgs false
set_option maxRecDepth 20000
set_option maxHeartbeats 8000000
namespace Go.Proofs.YtmdpifedcaaobaaDoor
open Go Ax
/-- How the reference's program lies while it is read. -/
structure RdT (n0 b : Nat) (H : Heap) (r : RS) : Prop where
  lo : n0 ≤ b
  ln : n0 ≤ H.length
  ex : ∃ pv cv, H[b]? = some (.cells .var [.int .i64 r.p.1, pv, cv]) ∧ PrS n0 H pv cv r.p
def TakeQ (n0 b : Nat) (H : Heap) (o : Option RS) : Value → Heap → Prop := fun v H' => FrA n0 b H H' ∧ match o with
  | some r => v = .bool true ∧ RdT n0 b H' r
  | none => v = .bool false
theorem take0_ax {n0 b : Nat} {H : Heap} {r : RS} (S : RdT n0 b H r) (hst : r.stage = 0) {L : Bs} (hL : L.length ≤ 100000) : AX Tryd.prog 25 #[.pointer (some ⟨b, 0, none⟩), .string (bstr L), .int .i64 0] H (TakeQ n0 b H (r.step L)) := by
  obtain ⟨hlo, hln, pv, cv, hb, hP⟩ := S
  refine AX.body (n := 160) (rs := [.tmp 6]) Tryd.func25 rfl (by decide) rfl rfl (bC_sound _ _ _ _ ?_)
  refine run ?_
  refine (refNumbers_ax H globalsW 1 hL (by decide)).mono ?_
  rintro v H1 ⟨hv, g1⟩
  unfold RS.step
  rw [if_pos hst]
  cases hn : numbersS L globalsW 1 with
  | none =>
    rw [hn] at hv
    obtain ⟨u, rfl⟩ := hv
    refine run ?_
    exact ⟨.of g1, rfl⟩
  | some l =>
  rw [hn] at hv
  obtain ⟨u, rfl, ho, hub⟩ := hv
  obtain ⟨x0, rfl⟩ := one_of (numbers_len hn)
  obtain ⟨p0, i0, k0⟩ := int_at ho (i := 0) rfl
  have i0 : aindexAddr Tryd.prog 57 u (.int .i64 0) = some p0 := i0
  have k0 := k0 H1 (.refl _)
  have hb1 := g1.at hb
  have bb1 := hblk_of hb1
  have P1 := hP.grow g1
  refine run ?_
  refine Ob.store rfl rfl rfl hb1 rfl (by first | exact Nat.le_of_ble_eq_true rfl | simp) fun H4 s4 b4 l4 => ?_
  have s4 : H4[b]? = some (.cells .var [.int .i64 x0, pv, cv]) := s4
  refine run ?_
  have F : FrA n0 b H H4 := (FrA.of g1).trans (.but b4 hlo)
  have P4 := P1.but hb1 b4
  exact ⟨F, rfl, hlo, by have := F.1; omega, _, _, s4, ⟨P4.pool, P4.pb, P4.cb, P4.ex⟩⟩
theorem poolW_no : numbersS poolW codeW 4 = none := numbers_fail (by decide)
theorem take_nil : (takeS []).2.2 ≠ 0 := by decide
theorem pre5 {L : Bs} (hl : 5 < L.length) : decide (L.take 5 = poolW) = poolW.isPrefixOf L := by
  rw [Bool.eq_iff_iff, decide_eq_true_eq, pre_take]
  exact ⟨fun h => ⟨by show 5 ≤ _; omega, h⟩, fun h => h.2⟩
theorem pre5_short {L : Bs} (hl : ¬ 5 < L.length) (h : poolW.isPrefixOf L = true) : L = poolW := by
  rw [pre_take] at h
  obtain ⟨h1, h2⟩ := h
  have h1 : 5 ≤ L.length := h1
  have h2 : L.take 5 = poolW := h2
  rw [List.take_of_length_le (by omega)] at h2
  exact h2
theorem take1_ax {n0 b : Nat} {H : Heap} {r : RS} (S : RdT n0 b H r) (hst : r.stage = 1) (hcs : r.p.2.2 = []) {n : Nat} (hn0 : n ≠ 0) (hn1 : n ≤ 2000000) {L : Bs} (hL : L.length ≤ 100000) (hsz : cntP r.p ≤ 900000) : AX Tryd.prog 25 #[.pointer (some ⟨b, 0, none⟩), .string (bstr L), .int .i64 (n : Int)] H (TakeQ n0 b H (r.step L)) := by
  obtain ⟨hlo, hln, pv, cv, hb, hP⟩ := S
  have hsp : r.p.2.1.length ≤ 900000 := by unfold cntP at hsz; omega
  have hsc : r.p.2.2.length ≤ 900000 := by unfold cntP at hsz; omega
  have bb := hblk_of hb
  have hlen := hP.lens
  rw [hcs] at hlen
  have d0 : ((n : Int) == 0) = false := by rw [beq_eq_false_iff_ne]; omega
  have lL : ∀ X, alen Tryd.prog 9 (.string (bstr L)) X = some (.int .i64 (L.length : Int)) := fun X => rfl
  have lLH := lL H
  refine AX.body (n := 160) (rs := [.tmp 6]) Tryd.func25 rfl (by decide) rfl rfl (bC_sound _ _ _ _ ?_)
  refine run ?_
  unfold RS.step
  rw [if_neg (by omega), if_pos hst]
  by_cases h5 : 5 < L.length
  · have d5 : decide ((L.length : Int) > 5) = true := decide_eq_true (by omega)
    have sl5 : aslice Tryd.prog 9 (.string (bstr L)) none (some (.int .i64 5)) none = some (.string (bstr (L.take 5))) := by
      rw [slice_hi2 (by omega) (by rw [bstr_size]; omega), ext_bstr, bstr_list]
      rfl
    have sr5 : aslice Tryd.prog 9 (.string (bstr L)) (some (.int .i64 5)) none none = some (.string (bstr (L.drop 5))) := by
      rw [slice_lo2 (by omega) (by rw [bstr_size]; omega), ext_bstr, bstr_list, bstr_size]
      rw [List.take_of_length_le (by rw [List.length_drop]; omega)]
      rfl
    have eq5 := str_eql (L.take 5) poolW
    rw [pre5 h5] at eq5
    have eq5 : abin Tryd.prog .eql 9 (.string (bstr (L.take 5))) (.string ⟨#[112, 111, 111, 108, 32]⟩) = some (.bool (poolW.isPrefixOf L)) := eq5
    by_cases hp : poolW.isPrefixOf L = true
    rotate_left
    · have hp2 : poolW.isPrefixOf L = false := by rw [← Bool.not_eq_true]; exact hp
      rw [if_neg hp]
      refine run ?_
      refine (refNumbers_ax H codeW 4 hL (by decide)).mono ?_
      rintro v H1 ⟨hv, g1⟩
      cases hn : numbersS L codeW 4 with
      | none =>
        rw [hn] at hv
        obtain ⟨u, rfl⟩ := hv
        rw [show r.begin L = none by unfold RS.begin; rw [hn]]
        have dk : decide ((1 : Int) ≤ 32) = true := rfl
        refine run ?_
        refine SW.loop (α := Unit) (fun _ => [(9, .int .i64 0), (15, .int .i64 1)]) (fun _ X => X = H1) (fun _ => 0) ⟨(), ⟨rfl, rfl, trivial⟩, rfl⟩ ?_
        rintro ⟨⟩ X rfl
        refine bC_sound _ _ _ _ ?_
        refine run ?_
        exact ⟨.of g1, rfl⟩
      | some l =>
        rw [hn] at hv
        obtain ⟨u, rfl, ho, hub⟩ := hv
        obtain ⟨x0, x1, x2, x3, rfl⟩ := four_of (numbers_len hn)
        rw [show r.begin L = some ⟨2, (r.p.1, r.p.2.1, r.p.2.2 ++ [(x0, x1, x2, x3, [])])⟩ by unfold RS.begin; rw [hn]]
        obtain ⟨p0, i0, k0⟩ := int_at ho (i := 0) rfl
        obtain ⟨p1, i1, k1⟩ := int_at ho (i := 1) rfl
        obtain ⟨p2, i2, k2⟩ := int_at ho (i := 2) rfl
        obtain ⟨p3, i3, k3⟩ := int_at ho (i := 3) rfl
        have i0 : aindexAddr Tryd.prog 57 u (.int .i64 0) = some p0 := i0
        have i1 : aindexAddr Tryd.prog 57 u (.int .i64 1) = some p1 := i1
        have i2 : aindexAddr Tryd.prog 57 u (.int .i64 2) = some p2 := i2
        have i3 : aindexAddr Tryd.prog 57 u (.int .i64 3) = some p3 := i3
        have k0 := k0 H1 (.refl _)
        have k1 := k1 H1 (.refl _)
        have k2 := k2 H1 (.refl _)
        have k3 := k3 H1 (.refl _)
        have hb1 := g1.at hb
        have bb1 := hblk_of hb1
        have P1 := hP.grow g1
        refine run ?_
        apply SW.drawH [(0, [], [90, 91, 92, 93, 94, 95, 96, 97, 98, 99, 100, 101, 102, 103, 104, 105, 106, 107, 108], false), (1, [], [89, 94, 95, 96, 97, 98, 99, 100, 101, 102, 103, 104, 105, 106, 107], false), (2, [(90, 1)], [89, 90, 94, 95, 96, 97, 98, 99, 100, 101, 102, 103, 104, 105, 106, 107], false), (3, [(90, 1), (91, 2)], [89, 90, 91, 94, 95, 96, 97, 98, 99, 100, 101, 102, 103, 104, 105, 106, 107], false), (4, [(90, 1), (91, 2), (92, 3)], [89, 90, 91, 92, 94, 95, 96, 97, 98, 99, 100, 101, 102, 103, 104, 105, 106, 107], false), (5, [], [89, 90, 91, 92, 93, 97, 98, 99, 100, 101, 102, 103, 104, 105], false), (6, [(94, 5)], [89, 90, 91, 92, 93, 94, 97, 98, 99, 100, 101, 102, 103, 104, 105], false), (7, [(94, 5), (95, 6)], [89, 90, 91, 92, 93, 94, 95, 97, 98, 99, 100, 101, 102, 103, 104, 105], false), (8, [], [89, 90, 91, 92, 93, 94, 95, 96, 100, 101, 102, 103, 104, 105], false), (9, [(97, 8)], [89, 90, 91, 92, 93, 94, 95, 96, 97, 100, 101, 102, 103, 104, 105], false), (10, [(97, 8), (98, 9)], [89, 90, 91, 92, 93, 94, 95, 96, 97, 98, 100, 101, 102, 103, 104, 105], false), (11, [], [89, 90, 91, 92, 93, 94, 95, 96, 97, 98, 99, 103, 104, 105], false), (12, [(100, 11)], [89, 90, 91, 92, 93, 94, 95, 96, 97, 98, 99, 100, 103, 104, 105], false), (13, [(100, 11), (101, 12)], [89, 90, 91, 92, 93, 94, 95, 96, 97, 98, 99, 100, 101, 103, 104, 105], false), (14, [], [89, 90, 91, 92, 93, 94, 95, 96, 97, 98, 99, 100, 101, 102], false), (15, [(103, 14)], [89, 90, 91, 92, 93, 94, 95, 96, 97, 98, 99, 100, 101, 102, 103], false), (16, [(103, 14), (104, 15)], [89, 90, 91, 92, 93, 94, 95, 96, 97, 98, 99, 100, 101, 102, 103, 104], false), (17, [(94, 5), (95, 6), (96, 7), (97, 8), (98, 9), (99, 10), (100, 11), (101, 12), (102, 13), (103, 14), (104, 15), (105, 16)], [89, 90, 91, 92, 93, 94, 95, 96, 97, 98, 99, 100, 101, 102, 103, 104, 105], false), (18, [(94, 5), (95, 6), (96, 7), (97, 8), (98, 9), (99, 10), (100, 11), (101, 12), (102, 13), (103, 14), (104, 15), (105, 16), (106, 17)], [89, 90, 91, 92, 93, 94, 95, 96, 97, 98, 99, 100, 101, 102, 103, 104, 105, 106], true), (19, [(90, 1), (91, 2), (92, 3), (93, 4), (94, 5), (95, 6), (96, 7), (97, 8), (98, 9), (99, 10), (100, 11), (101, 12), (102, 13), (103, 14), (104, 15), (105, 16), (106, 17), (107, 18)], [89, 90, 91, 92, 93, 94, 95, 96, 97, 98, 99, 100, 101, 102, 103, 104, 105, 106, 107], true), (20, [(89, 0), (90, 1), (91, 2), (92, 3), (93, 4), (94, 5), (95, 6), (96, 7), (97, 8), (98, 9), (99, 10), (100, 11), (101, 12), (102, 13), (103, 14), (104, 15), (105, 16), (106, 17), (107, 18), (108, 19)], [89, 90, 91, 92, 93, 94, 95, 96, 97, 98, 99, 100, 101, 102, 103, 104, 105, 106, 107, 108], false), (21, [(89, 0), (90, 1), (91, 2), (92, 3), (93, 4), (94, 5), (95, 6), (96, 7), (97, 8), (98, 9), (99, 10), (100, 11), (101, 12), (102, 13), (103, 14), (104, 15), (105, 16), (106, 17), (107, 18), (108, 19), (109, 20)], [89, 90, 91, 92, 93, 94, 95, 96, 97, 98, 99, 100, 101, 102, 103, 104, 105, 106, 107, 108, 109], false), (22, [(89, 0), (90, 1), (91, 2), (92, 3), (93, 4), (94, 5), (95, 6), (96, 7), (97, 8), (98, 9), (99, 10), (100, 11), (101, 12), (102, 13), (103, 14), (104, 15), (105, 16), (106, 17), (107, 18), (108, 19), (109, 20), (110, 21)], [89, 90, 91, 92, 93, 94, 95, 96, 97, 98, 99, 100, 101, 102, 103, 104, 105, 106, 107, 108, 109, 110], true)]
          [(89, 0), (90, 1), (91, 2), (92, 3), (93, 4), (94, 5), (95, 6), (96, 7), (97, 8), (98, 9), (99, 10), (100, 11), (101, 12), (102, 13), (103, 14), (104, 15), (105, 16), (106, 17), (107, 18), (108, 19), (109, 20), (110, 21)] [18]
          [(0, _), (13, _)] rfl (by kernel_rfl)
        case hF => exact ⟨rfl, rfl, trivial⟩
        refine run ?_
        refine Ob2.lay (.cells (.row 45) [.int .i64 x0, .int .i64 x1, .int .i64 x2, .int .i64 x3, .slice none 0 0]) (.slice (some ⟨H1.length, 0, none⟩) 1 5) rfl fun H2 a2 g2 _ => ?_
        have hb2 := g2.at hb1
        obtain ⟨H3, ap, P3, f3⟩ := (P1.grow g2).code (c := (x0, x1, x2, x3, [])) (by have := g1.1; have := g2.1; omega) rfl a2 hsc
        have hb3 := f3.2 b _ hb2 (.inr fun c e => by simp at e)
        refine run ?_
        refine Ob2.of ap ?_
        refine run ?_
        refine Ob.store rfl rfl rfl hb3 rfl (by first | exact Nat.le_of_ble_eq_true rfl | simp) fun H4 s4 b4 l4 => ?_
        have s4 : H4[b]? = some (.cells .var [.int .i64 r.p.1, pv, .slice (some ⟨H2.length, 0, none⟩) (r.p.2.2.length + 1) 5]) := s4
        refine run ?_
        have F : FrA n0 b H H4 := (((FrA.of g1).trans (.of g2)).trans (.ofR f3 (Nat.le_refl _))).trans (.but b4 hlo)
        exact ⟨F, rfl, hlo, by have := F.1; omega, _, _, s4, P3.but hb3 b4⟩
    rw [if_pos hp]
    have hdl : (L.drop 5).length ≤ 100000 := by rw [List.length_drop]; omega
    have T := rtake_ax H (s := bstr (L.drop 5)) (by rw [bstr_size]; omega)
    rw [bstr_list] at T
    refine run ?_
    refine T.mono ?_
    rintro _ X ⟨rfl, e⟩
    subst X
    have hD5 : (L.drop 5).length + 5 = L.length := by rw [List.length_drop]; omega
    have w5 : IntKind.i64.wrap ((L.length : Int) - 5) = ((L.drop 5).length : Int) := by rw [wrap_i64 (by omega) (by omega)]; omega
    generalize hD : L.drop 5 = D at hdl T hD5 w5 sr5 ⊢
    have hxl : (takeS D).1.length ≤ 100000 := by
      by_cases he : (takeS D).2.2 = 0
      · exact Nat.le_trans (take_len (n := (takeS D).2.1) (by rw [← he])) hdl
      · have := (take_bad (L := D) (x := (takeS D).1) (n := (takeS D).2.1) (e := (takeS D).2.2) rfl he).1
        rw [this]; simp
    have Q := rquote_ax H (s := ⟨(takeS D).1.toArray⟩) (by show (takeS D).1.toArray.size ≤ _; simpa using hxl)
    have ne := str_neq (quoteS (takeS D).1) D
    have eqb : (ByteArray.mk (quoteS (ByteArray.mk (takeS D).1.toArray).data.toList).toArray) = bstr (quoteS (takeS D).1) := by simp [bstr]
    rw [eqb] at Q
    refine run ?_
    have lD : alen Tryd.prog 9 (.string (bstr L)) H = some (.int .i64 (L.length : Int)) := rfl
    by_cases h1 : (takeS D).2.2 = 0
    rotate_left
    · have d1 : ((takeS D).2.2 != 0) = true := bne_iff_ne.2 h1
      rw [if_neg fun h => h1 h.1]
      apply SW.drawG [(0, [], [], false), (1, [(57, 0)], [57], false), (2, [(57, 0), (58, 1)], [57, 58], false), (3, [(57, 0), (58, 1), (59, 2)], [57, 58, 59, 61, 62, 63], false), (4, [(57, 0), (58, 1), (59, 2)], [57, 58, 59, 60], false), (5, [(57, 0), (58, 1), (59, 2), (61, 4)], [57, 58, 59, 60, 61], false), (6, [(57, 0), (58, 1), (59, 2), (61, 4), (62, 5)], [57, 58, 59, 60, 61, 62], false), (7, [(57, 0), (58, 1), (59, 2), (60, 3), (61, 4), (62, 5), (63, 6)], [57, 58, 59, 60, 61, 62, 63], false), (8, [(57, 0), (58, 1), (59, 2), (60, 3), (61, 4), (62, 5), (63, 6), (64, 7)], [57, 58, 59, 60, 61, 62, 63, 64], false), (9, [(57, 0), (58, 1), (59, 2), (60, 3), (61, 4), (62, 5), (63, 6), (64, 7), (65, 8)], [57, 58, 59, 60, 61, 62, 63, 64, 65], false), (10, [(57, 0), (58, 1), (59, 2), (60, 3), (61, 4), (62, 5), (63, 6), (64, 7), (65, 8), (66, 9)], [57, 58, 59, 60, 61, 62, 63, 64, 65, 66, 69, 70], false), (12, [(57, 0), (58, 1), (59, 2), (60, 3), (61, 4), (62, 5), (63, 6), (64, 7), (65, 8), (66, 9)], [57, 58, 59, 60, 61, 62, 63, 64, 65, 66, 67, 68], false), (13, [(57, 0), (58, 1), (59, 2), (60, 3), (61, 4), (62, 5), (63, 6), (64, 7), (65, 8), (66, 9), (69, 12)], [57, 58, 59, 60, 61, 62, 63, 64, 65, 66, 67, 68, 69], false), (11, [(57, 0), (58, 1), (59, 2), (60, 3), (61, 4), (62, 5), (63, 6), (64, 7), (65, 8), (66, 9), (67, 10)], [57, 58, 59, 60, 61, 62, 63, 64, 65, 66, 67, 69, 70], true), (14, [(57, 0), (58, 1), (59, 2), (60, 3), (61, 4), (62, 5), (63, 6), (64, 7), (65, 8), (66, 9), (67, 10), (68, 11), (69, 12), (70, 13)], [57, 58, 59, 60, 61, 62, 63, 64, 65, 66, 67, 68, 69, 70], false), (15, [(57, 0), (58, 1), (59, 2), (60, 3), (61, 4), (62, 5), (63, 6), (64, 7), (65, 8), (66, 9), (67, 10), (68, 11), (69, 12), (70, 13), (71, 14)], [57, 58, 59, 60, 61, 62, 63, 64, 65, 66, 67, 68, 69, 70, 71], false)]
        [(57, 0), (58, 1), (59, 2), (60, 3), (61, 4), (62, 5), (63, 6), (64, 7), (65, 8), (66, 9), (67, 10), (68, 11), (69, 12), (70, 13), (71, 14), (72, 15)]
        [(0, _), (1, _), (10, _), (11, _), (12, _)] rfl (by kernel_rfl)
      case hF => exact ⟨rfl, rfl, rfl, rfl, rfl, trivial⟩
      refine run ?_
      exact ⟨.refl _ _ _, rfl⟩
    have d1 : ((takeS D).2.2 != 0) = false := by rw [h1]; rfl
    by_cases h2 : (takeS D).2.1 = D.length
    rotate_left
    · have d2 : (((takeS D).2.1 : Int) != (D.length : Int)) = true := bne_iff_ne.2 fun e => h2 (by omega)
      rw [if_neg fun h => h2 h.2.1]
      apply SW.drawG [(0, [], [], false), (1, [(57, 0)], [57], false), (2, [(57, 0), (58, 1)], [57, 58], false), (3, [(57, 0), (58, 1), (59, 2)], [57, 58, 59, 61, 62, 63], false), (4, [(57, 0), (58, 1), (59, 2)], [57, 58, 59, 60], false), (5, [(57, 0), (58, 1), (59, 2), (61, 4)], [57, 58, 59, 60, 61], false), (6, [(57, 0), (58, 1), (59, 2), (61, 4), (62, 5)], [57, 58, 59, 60, 61, 62], false), (7, [(57, 0), (58, 1), (59, 2), (60, 3), (61, 4), (62, 5), (63, 6)], [57, 58, 59, 60, 61, 62, 63], false), (8, [(57, 0), (58, 1), (59, 2), (60, 3), (61, 4), (62, 5), (63, 6), (64, 7)], [57, 58, 59, 60, 61, 62, 63, 64], false), (9, [(57, 0), (58, 1), (59, 2), (60, 3), (61, 4), (62, 5), (63, 6), (64, 7), (65, 8)], [57, 58, 59, 60, 61, 62, 63, 64, 65], false), (10, [(57, 0), (58, 1), (59, 2), (60, 3), (61, 4), (62, 5), (63, 6), (64, 7), (65, 8), (66, 9)], [57, 58, 59, 60, 61, 62, 63, 64, 65, 66, 69, 70], false), (12, [(57, 0), (58, 1), (59, 2), (60, 3), (61, 4), (62, 5), (63, 6), (64, 7), (65, 8), (66, 9)], [57, 58, 59, 60, 61, 62, 63, 64, 65, 66, 67, 68], false), (13, [(57, 0), (58, 1), (59, 2), (60, 3), (61, 4), (62, 5), (63, 6), (64, 7), (65, 8), (66, 9), (69, 12)], [57, 58, 59, 60, 61, 62, 63, 64, 65, 66, 67, 68, 69], false), (11, [(57, 0), (58, 1), (59, 2), (60, 3), (61, 4), (62, 5), (63, 6), (64, 7), (65, 8), (66, 9), (67, 10)], [57, 58, 59, 60, 61, 62, 63, 64, 65, 66, 67, 69, 70], true), (14, [(57, 0), (58, 1), (59, 2), (60, 3), (61, 4), (62, 5), (63, 6), (64, 7), (65, 8), (66, 9), (67, 10), (68, 11), (69, 12), (70, 13)], [57, 58, 59, 60, 61, 62, 63, 64, 65, 66, 67, 68, 69, 70], false), (15, [(57, 0), (58, 1), (59, 2), (60, 3), (61, 4), (62, 5), (63, 6), (64, 7), (65, 8), (66, 9), (67, 10), (68, 11), (69, 12), (70, 13), (71, 14)], [57, 58, 59, 60, 61, 62, 63, 64, 65, 66, 67, 68, 69, 70, 71], false)]
        [(57, 0), (58, 1), (59, 2), (60, 3), (61, 4), (62, 5), (63, 6), (64, 7), (65, 8), (66, 9), (67, 10), (68, 11), (69, 12), (70, 13), (71, 14), (72, 15)]
        [(0, _), (1, _), (10, _), (11, _), (12, _)] rfl (by kernel_rfl)
      case hF => exact ⟨rfl, rfl, rfl, rfl, rfl, trivial⟩
      refine run ?_
      rw [w5]
      refine run ?_
      exact ⟨.refl _ _ _, rfl⟩
    have d2 : (((takeS D).2.1 : Int) != (D.length : Int)) = false := by rw [bne_eq_false_iff_eq]; omega
    by_cases h3 : quoteS (takeS D).1 = D
    rotate_left
    · rw [decide_eq_true h3] at ne
      rw [if_neg fun h => h3 h.2.2]
      apply SW.drawG [(0, [], [], false), (1, [(57, 0)], [57], false), (2, [(57, 0), (58, 1)], [57, 58], false), (3, [(57, 0), (58, 1), (59, 2)], [57, 58, 59, 61, 62, 63], false), (4, [(57, 0), (58, 1), (59, 2)], [57, 58, 59, 60], false), (5, [(57, 0), (58, 1), (59, 2), (61, 4)], [57, 58, 59, 60, 61], false), (6, [(57, 0), (58, 1), (59, 2), (61, 4), (62, 5)], [57, 58, 59, 60, 61, 62], false), (7, [(57, 0), (58, 1), (59, 2), (60, 3), (61, 4), (62, 5), (63, 6)], [57, 58, 59, 60, 61, 62, 63], false), (8, [(57, 0), (58, 1), (59, 2), (60, 3), (61, 4), (62, 5), (63, 6), (64, 7)], [57, 58, 59, 60, 61, 62, 63, 64], false), (9, [(57, 0), (58, 1), (59, 2), (60, 3), (61, 4), (62, 5), (63, 6), (64, 7), (65, 8)], [57, 58, 59, 60, 61, 62, 63, 64, 65], false), (10, [(57, 0), (58, 1), (59, 2), (60, 3), (61, 4), (62, 5), (63, 6), (64, 7), (65, 8), (66, 9)], [57, 58, 59, 60, 61, 62, 63, 64, 65, 66, 69, 70], false), (12, [(57, 0), (58, 1), (59, 2), (60, 3), (61, 4), (62, 5), (63, 6), (64, 7), (65, 8), (66, 9)], [57, 58, 59, 60, 61, 62, 63, 64, 65, 66, 67, 68], false), (13, [(57, 0), (58, 1), (59, 2), (60, 3), (61, 4), (62, 5), (63, 6), (64, 7), (65, 8), (66, 9), (69, 12)], [57, 58, 59, 60, 61, 62, 63, 64, 65, 66, 67, 68, 69], false), (11, [(57, 0), (58, 1), (59, 2), (60, 3), (61, 4), (62, 5), (63, 6), (64, 7), (65, 8), (66, 9), (67, 10)], [57, 58, 59, 60, 61, 62, 63, 64, 65, 66, 67, 69, 70], true), (14, [(57, 0), (58, 1), (59, 2), (60, 3), (61, 4), (62, 5), (63, 6), (64, 7), (65, 8), (66, 9), (67, 10), (68, 11), (69, 12), (70, 13)], [57, 58, 59, 60, 61, 62, 63, 64, 65, 66, 67, 68, 69, 70], false), (15, [(57, 0), (58, 1), (59, 2), (60, 3), (61, 4), (62, 5), (63, 6), (64, 7), (65, 8), (66, 9), (67, 10), (68, 11), (69, 12), (70, 13), (71, 14)], [57, 58, 59, 60, 61, 62, 63, 64, 65, 66, 67, 68, 69, 70, 71], false)]
        [(57, 0), (58, 1), (59, 2), (60, 3), (61, 4), (62, 5), (63, 6), (64, 7), (65, 8), (66, 9), (67, 10), (68, 11), (69, 12), (70, 13), (71, 14), (72, 15)]
        [(0, _), (1, _), (10, _), (11, _), (12, _)] rfl (by kernel_rfl)
      case hF => exact ⟨rfl, rfl, rfl, rfl, rfl, trivial⟩
      refine run ?_
      rw [w5]
      refine run ?_
      refine Q.mono ?_
      rintro _ X ⟨rfl, e⟩
      subst X
      refine run ?_
      exact ⟨.refl _ _ _, rfl⟩
    rw [decide_eq_false fun h => h h3] at ne
    rw [if_pos ⟨h1, h2, h3⟩]
    apply SW.drawG [(0, [], [], false), (1, [(57, 0)], [57], false), (2, [(57, 0), (58, 1)], [57, 58], false), (3, [(57, 0), (58, 1), (59, 2)], [57, 58, 59, 61, 62, 63], false), (4, [(57, 0), (58, 1), (59, 2)], [57, 58, 59, 60], false), (5, [(57, 0), (58, 1), (59, 2), (61, 4)], [57, 58, 59, 60, 61], false), (6, [(57, 0), (58, 1), (59, 2), (61, 4), (62, 5)], [57, 58, 59, 60, 61, 62], false), (7, [(57, 0), (58, 1), (59, 2), (60, 3), (61, 4), (62, 5), (63, 6)], [57, 58, 59, 60, 61, 62, 63], false), (8, [(57, 0), (58, 1), (59, 2), (60, 3), (61, 4), (62, 5), (63, 6), (64, 7)], [57, 58, 59, 60, 61, 62, 63, 64], false), (9, [(57, 0), (58, 1), (59, 2), (60, 3), (61, 4), (62, 5), (63, 6), (64, 7), (65, 8)], [57, 58, 59, 60, 61, 62, 63, 64, 65], false), (10, [(57, 0), (58, 1), (59, 2), (60, 3), (61, 4), (62, 5), (63, 6), (64, 7), (65, 8), (66, 9)], [57, 58, 59, 60, 61, 62, 63, 64, 65, 66, 69, 70], false), (12, [(57, 0), (58, 1), (59, 2), (60, 3), (61, 4), (62, 5), (63, 6), (64, 7), (65, 8), (66, 9)], [57, 58, 59, 60, 61, 62, 63, 64, 65, 66, 67, 68], false), (13, [(57, 0), (58, 1), (59, 2), (60, 3), (61, 4), (62, 5), (63, 6), (64, 7), (65, 8), (66, 9), (69, 12)], [57, 58, 59, 60, 61, 62, 63, 64, 65, 66, 67, 68, 69], false), (11, [(57, 0), (58, 1), (59, 2), (60, 3), (61, 4), (62, 5), (63, 6), (64, 7), (65, 8), (66, 9), (67, 10)], [57, 58, 59, 60, 61, 62, 63, 64, 65, 66, 67, 69, 70], true), (14, [(57, 0), (58, 1), (59, 2), (60, 3), (61, 4), (62, 5), (63, 6), (64, 7), (65, 8), (66, 9), (67, 10), (68, 11), (69, 12), (70, 13)], [57, 58, 59, 60, 61, 62, 63, 64, 65, 66, 67, 68, 69, 70], false), (15, [(57, 0), (58, 1), (59, 2), (60, 3), (61, 4), (62, 5), (63, 6), (64, 7), (65, 8), (66, 9), (67, 10), (68, 11), (69, 12), (70, 13), (71, 14)], [57, 58, 59, 60, 61, 62, 63, 64, 65, 66, 67, 68, 69, 70, 71], false)]
      [(57, 0), (58, 1), (59, 2), (60, 3), (61, 4), (62, 5), (63, 6), (64, 7), (65, 8), (66, 9), (67, 10), (68, 11), (69, 12), (70, 13), (71, 14), (72, 15)]
      [(0, _), (1, _), (10, _), (11, _), (12, _)] rfl (by kernel_rfl)
    case hF => exact ⟨rfl, rfl, rfl, rfl, rfl, trivial⟩
    refine run ?_
    rw [w5]
    refine run ?_
    refine Q.mono ?_
    rintro _ X ⟨rfl, e⟩
    subst X
    refine run ?_
    refine Ob2.lay (.cells (.row 9) [.string (bstr (takeS D).1)]) (.slice (some ⟨H.length, 0, none⟩) 1 1) rfl fun H2 a2 g2 _ => ?_
    have hb2 := g2.at hb
    obtain ⟨H3, ap, P3, f3⟩ := (hP.grow g2).str (s := bstr (takeS D).1) (by have := g2.1; omega) a2 hsp
    have hb3 := f3.2 b _ hb2 (.inr fun c e => by simp at e)
    refine run ?_
    refine Ob2.of ap ?_
    refine run ?_
    refine Ob.store rfl rfl rfl hb3 rfl (by first | exact Nat.le_of_ble_eq_true rfl | simp) fun H4 s4 b4 l4 => ?_
    have s4 : H4[b]? = some (.cells .var [.int .i64 r.p.1, .slice (some ⟨H2.length, 0, none⟩) (r.p.2.1.length + 1) 1, cv]) := s4
    refine run ?_
    have F : FrA n0 b H H4 := ((FrA.of g2).trans (.ofR f3 (Nat.le_refl _))).trans (.but b4 hlo)
    exact ⟨F, rfl, hlo, by have := F.1; omega, _, _, s4, P3.but hb3 b4⟩
  · have hp5 : decide ((L.length : Int) > 5) = false := decide_eq_false (by omega)
    have hstep : (if poolW.isPrefixOf L = true then (if (takeS (L.drop 5)).2.2 = 0 ∧ (takeS (L.drop 5)).2.1 = (L.drop 5).length ∧ quoteS (takeS (L.drop 5)).1 = L.drop 5 then some (⟨1, (r.p.1, r.p.2.1 ++ [bstr (takeS (L.drop 5)).1], r.p.2.2)⟩ : RS) else none) else r.begin L) = r.begin L := by
      by_cases hp : poolW.isPrefixOf L = true
      · rw [if_pos hp]
        have e := pre5_short h5 hp
        subst e
        rw [if_neg fun h => take_nil h.1]
        unfold RS.begin
        rw [poolW_no]
      · rw [if_neg hp]
    rw [hstep]
    refine run ?_
    refine (refNumbers_ax H codeW 4 hL (by decide)).mono ?_
    rintro v H1 ⟨hv, g1⟩
    cases hn : numbersS L codeW 4 with
    | none =>
      rw [hn] at hv
      obtain ⟨u, rfl⟩ := hv
      rw [show r.begin L = none by unfold RS.begin; rw [hn]]
      have dk : decide ((1 : Int) ≤ 32) = true := rfl
      refine run ?_
      refine SW.loop (α := Unit) (fun _ => [(9, .int .i64 0), (15, .int .i64 1)]) (fun _ X => X = H1) (fun _ => 0) ⟨(), ⟨rfl, rfl, trivial⟩, rfl⟩ ?_
      rintro ⟨⟩ X rfl
      refine bC_sound _ _ _ _ ?_
      refine run ?_
      exact ⟨.of g1, rfl⟩
    | some l =>
      rw [hn] at hv
      obtain ⟨u, rfl, ho, hub⟩ := hv
      obtain ⟨x0, x1, x2, x3, rfl⟩ := four_of (numbers_len hn)
      rw [show r.begin L = some ⟨2, (r.p.1, r.p.2.1, r.p.2.2 ++ [(x0, x1, x2, x3, [])])⟩ by unfold RS.begin; rw [hn]]
      obtain ⟨p0, i0, k0⟩ := int_at ho (i := 0) rfl
      obtain ⟨p1, i1, k1⟩ := int_at ho (i := 1) rfl
      obtain ⟨p2, i2, k2⟩ := int_at ho (i := 2) rfl
      obtain ⟨p3, i3, k3⟩ := int_at ho (i := 3) rfl
      have i0 : aindexAddr Tryd.prog 57 u (.int .i64 0) = some p0 := i0
      have i1 : aindexAddr Tryd.prog 57 u (.int .i64 1) = some p1 := i1
      have i2 : aindexAddr Tryd.prog 57 u (.int .i64 2) = some p2 := i2
      have i3 : aindexAddr Tryd.prog 57 u (.int .i64 3) = some p3 := i3
      have k0 := k0 H1 (.refl _)
      have k1 := k1 H1 (.refl _)
      have k2 := k2 H1 (.refl _)
      have k3 := k3 H1 (.refl _)
      have hb1 := g1.at hb
      have bb1 := hblk_of hb1
      have P1 := hP.grow g1
      refine run ?_
      apply SW.drawH [(0, [], [90, 91, 92, 93, 94, 95, 96, 97, 98, 99, 100, 101, 102, 103, 104, 105, 106, 107, 108], false), (1, [], [89, 94, 95, 96, 97, 98, 99, 100, 101, 102, 103, 104, 105, 106, 107], false), (2, [(90, 1)], [89, 90, 94, 95, 96, 97, 98, 99, 100, 101, 102, 103, 104, 105, 106, 107], false), (3, [(90, 1), (91, 2)], [89, 90, 91, 94, 95, 96, 97, 98, 99, 100, 101, 102, 103, 104, 105, 106, 107], false), (4, [(90, 1), (91, 2), (92, 3)], [89, 90, 91, 92, 94, 95, 96, 97, 98, 99, 100, 101, 102, 103, 104, 105, 106, 107], false), (5, [], [89, 90, 91, 92, 93, 97, 98, 99, 100, 101, 102, 103, 104, 105], false), (6, [(94, 5)], [89, 90, 91, 92, 93, 94, 97, 98, 99, 100, 101, 102, 103, 104, 105], false), (7, [(94, 5), (95, 6)], [89, 90, 91, 92, 93, 94, 95, 97, 98, 99, 100, 101, 102, 103, 104, 105], false), (8, [], [89, 90, 91, 92, 93, 94, 95, 96, 100, 101, 102, 103, 104, 105], false), (9, [(97, 8)], [89, 90, 91, 92, 93, 94, 95, 96, 97, 100, 101, 102, 103, 104, 105], false), (10, [(97, 8), (98, 9)], [89, 90, 91, 92, 93, 94, 95, 96, 97, 98, 100, 101, 102, 103, 104, 105], false), (11, [], [89, 90, 91, 92, 93, 94, 95, 96, 97, 98, 99, 103, 104, 105], false), (12, [(100, 11)], [89, 90, 91, 92, 93, 94, 95, 96, 97, 98, 99, 100, 103, 104, 105], false), (13, [(100, 11), (101, 12)], [89, 90, 91, 92, 93, 94, 95, 96, 97, 98, 99, 100, 101, 103, 104, 105], false), (14, [], [89, 90, 91, 92, 93, 94, 95, 96, 97, 98, 99, 100, 101, 102], false), (15, [(103, 14)], [89, 90, 91, 92, 93, 94, 95, 96, 97, 98, 99, 100, 101, 102, 103], false), (16, [(103, 14), (104, 15)], [89, 90, 91, 92, 93, 94, 95, 96, 97, 98, 99, 100, 101, 102, 103, 104], false), (17, [(94, 5), (95, 6), (96, 7), (97, 8), (98, 9), (99, 10), (100, 11), (101, 12), (102, 13), (103, 14), (104, 15), (105, 16)], [89, 90, 91, 92, 93, 94, 95, 96, 97, 98, 99, 100, 101, 102, 103, 104, 105], false), (18, [(94, 5), (95, 6), (96, 7), (97, 8), (98, 9), (99, 10), (100, 11), (101, 12), (102, 13), (103, 14), (104, 15), (105, 16), (106, 17)], [89, 90, 91, 92, 93, 94, 95, 96, 97, 98, 99, 100, 101, 102, 103, 104, 105, 106], true), (19, [(90, 1), (91, 2), (92, 3), (93, 4), (94, 5), (95, 6), (96, 7), (97, 8), (98, 9), (99, 10), (100, 11), (101, 12), (102, 13), (103, 14), (104, 15), (105, 16), (106, 17), (107, 18)], [89, 90, 91, 92, 93, 94, 95, 96, 97, 98, 99, 100, 101, 102, 103, 104, 105, 106, 107], true), (20, [(89, 0), (90, 1), (91, 2), (92, 3), (93, 4), (94, 5), (95, 6), (96, 7), (97, 8), (98, 9), (99, 10), (100, 11), (101, 12), (102, 13), (103, 14), (104, 15), (105, 16), (106, 17), (107, 18), (108, 19)], [89, 90, 91, 92, 93, 94, 95, 96, 97, 98, 99, 100, 101, 102, 103, 104, 105, 106, 107, 108], false), (21, [(89, 0), (90, 1), (91, 2), (92, 3), (93, 4), (94, 5), (95, 6), (96, 7), (97, 8), (98, 9), (99, 10), (100, 11), (101, 12), (102, 13), (103, 14), (104, 15), (105, 16), (106, 17), (107, 18), (108, 19), (109, 20)], [89, 90, 91, 92, 93, 94, 95, 96, 97, 98, 99, 100, 101, 102, 103, 104, 105, 106, 107, 108, 109], false), (22, [(89, 0), (90, 1), (91, 2), (92, 3), (93, 4), (94, 5), (95, 6), (96, 7), (97, 8), (98, 9), (99, 10), (100, 11), (101, 12), (102, 13), (103, 14), (104, 15), (105, 16), (106, 17), (107, 18), (108, 19), (109, 20), (110, 21)], [89, 90, 91, 92, 93, 94, 95, 96, 97, 98, 99, 100, 101, 102, 103, 104, 105, 106, 107, 108, 109, 110], true)]
        [(89, 0), (90, 1), (91, 2), (92, 3), (93, 4), (94, 5), (95, 6), (96, 7), (97, 8), (98, 9), (99, 10), (100, 11), (101, 12), (102, 13), (103, 14), (104, 15), (105, 16), (106, 17), (107, 18), (108, 19), (109, 20), (110, 21)] [18]
        [(0, _), (13, _)] rfl (by kernel_rfl)
      case hF => exact ⟨rfl, rfl, trivial⟩
      refine run ?_
      refine Ob2.lay (.cells (.row 45) [.int .i64 x0, .int .i64 x1, .int .i64 x2, .int .i64 x3, .slice none 0 0]) (.slice (some ⟨H1.length, 0, none⟩) 1 5) rfl fun H2 a2 g2 _ => ?_
      have hb2 := g2.at hb1
      obtain ⟨H3, ap, P3, f3⟩ := (P1.grow g2).code (c := (x0, x1, x2, x3, [])) (by have := g1.1; have := g2.1; omega) rfl a2 hsc
      have hb3 := f3.2 b _ hb2 (.inr fun c e => by simp at e)
      refine run ?_
      refine Ob2.of ap ?_
      refine run ?_
      refine Ob.store rfl rfl rfl hb3 rfl (by first | exact Nat.le_of_ble_eq_true rfl | simp) fun H4 s4 b4 l4 => ?_
      have s4 : H4[b]? = some (.cells .var [.int .i64 r.p.1, pv, .slice (some ⟨H2.length, 0, none⟩) (r.p.2.2.length + 1) 5]) := s4
      refine run ?_
      have F : FrA n0 b H H4 := (((FrA.of g1).trans (.of g2)).trans (.ofR f3 (Nat.le_refl _))).trans (.but b4 hlo)
      exact ⟨F, rfl, hlo, by have := F.1; omega, _, _, s4, P3.but hb3 b4⟩
theorem numbers_hd {L first : Bs} {many : Nat} {l : List Int} (h : numbersS L first many = some l) : (splitS L).headD [] = first := by
  unfold numbersS at h
  split at h
  · rename_i hc
    rw [List.headD_eq_head?_getD, hc.1]; rfl
  · simp at h
theorem op_code : opS codeW = none := by decide
theorem names_inj : ∀ i : Nat, i < 32 → ∀ j : Nat, j < 32 → nameL ((i : Int) + 1) = nameL ((j : Int) + 1) → i = j := by decide
theorem step_code {r : RS} {L : Bs} {a b c d : Int} (h2 : r.stage = 2) (hn : numbersS L codeW 4 = some [a, b, c, d]) : r.step L = some ⟨2, (r.p.1, r.p.2.1, r.p.2.2 ++ [(a, b, c, d, [])])⟩ := by
  unfold RS.step
  rw [if_neg (by omega), if_neg (by omega), numbers_hd hn, op_code]
  dsimp only
  unfold RS.begin
  rw [hn]
theorem step_op {r : RS} {L : Bs} {k : Nat} {l : List Int} (h2 : r.stage = 2) (hk : k < 32) (hn : numbersS L (nameL ((k : Int) + 1)) (partsN ((k : Int) + 1)) = some l) : r.step L = some ⟨2, (r.p.1, r.p.2.1, addIns r.p.2.2 (argsI ((k : Int) + 1) l))⟩ := by
  unfold RS.step
  rw [if_neg (by omega), if_neg (by omega), numbers_hd hn, opS_some hk rfl fun j hj e => by have := names_inj j (by omega) k hk e; omega]
  dsimp only
  rw [hn]
theorem step_no {r : RS} {L : Bs} (h2 : r.stage = 2) (hc : numbersS L codeW 4 = none) (h : ∀ j : Nat, j < 32 → numbersS L (nameL ((j : Int) + 1)) (partsN ((j : Int) + 1)) = none) : r.step L = none := by
  unfold RS.step
  rw [if_neg (by omega), if_neg (by omega)]
  cases ho : opS ((splitS L).headD []) with
  | none =>
    dsimp only
    unfold RS.begin
    rw [hc]
  | some op =>
    obtain ⟨_, o1, o2⟩ := opS_of ho
    have := h (op - 1).toNat (by omega)
    rw [show (((op - 1).toNat : Nat) : Int) + 1 = op by omega] at this
    dsimp only
    rw [this]
theorem take2_ax {n0 b : Nat} {H : Heap} {r : RS} (S : RdT n0 b H r) (h2 : r.stage = 2) (hne : r.p.2.2 ≠ []) {n : Nat} (hn0 : n ≠ 0) (hn1 : n ≤ 2000000) {L : Bs} (hL : L.length ≤ 100000) (hsz : cntP r.p ≤ 900000) : AX Tryd.prog 25 #[.pointer (some ⟨b, 0, none⟩), .string (bstr L), .int .i64 (n : Int)] H (TakeQ n0 b H (r.step L)) := by
  obtain ⟨hlo, hln, pv, cv, hb, hP⟩ := S
  have hsc : r.p.2.2.length ≤ 900000 := by unfold cntP at hsz; omega
  have hcp : 0 < r.p.2.2.length := List.length_pos_iff.2 hne
  have bb := hblk_of hb
  have hlen := hP.lens
  have d0 : ((n : Int) == 0) = false := by rw [beq_eq_false_iff_ne]; omega
  have dc : ((r.p.2.2.length : Int) == 0) = false := by rw [beq_eq_false_iff_ne]; omega
  have dg : decide ((r.p.2.2.length : Int) > 0) = true := decide_eq_true (by omega)
  refine AX.body (n := 160) (rs := [.tmp 6]) Tryd.func25 rfl (by decide) rfl rfl (bC_sound _ _ _ _ ?_)
  refine run ?_
  refine (refNumbers_ax H codeW 4 hL (by decide)).mono ?_
  rintro v H1 ⟨hv, g1⟩
  cases hn : numbersS L codeW 4 with
  | none =>
    rw [hn] at hv
    obtain ⟨u, rfl⟩ := hv
    refine run ?_
    refine SW.loop (α := Nat) (fun k => [(0, .pointer (some ⟨b, 0, none⟩)), (1, .string (bstr L)), (9, .int .i64 (r.p.2.2.length : Int)), (15, .int .i64 ((k : Int) + 1))])
      (fun k X => k ≤ 32 ∧ Grow H X ∧ ∀ j : Nat, j < k → numbersS L (nameL ((j : Int) + 1)) (partsN ((j : Int) + 1)) = none) (fun k => 32 - k)
      ⟨0, ⟨rfl, rfl, rfl, rfl, trivial⟩, Nat.zero_le _, g1, fun j hj => absurd hj (Nat.not_lt_zero _)⟩ ?_
    rintro k X ⟨hk, gX, hno⟩
    refine bC_sound _ _ _ _ ?_
    by_cases hkl : k < 32
    rotate_left
    · obtain rfl : k = 32 := by omega
      rw [step_no h2 hn hno]
      have dk : decide (((32 : Nat) : Int) + 1 ≤ 32) = false := rfl
      refine run ?_
      exact ⟨.of gX, rfl⟩
    have dk : decide ((k : Int) + 1 ≤ 32) = true := decide_eq_true (by omega)
    have w1 : IntKind.i64.wrap ((k : Int) + 1 + 1) = ((k + 1 : Nat) : Int) + 1 := by rw [wrap_i64 (by omega) (by omega)]; omega
    have hpl := partsN_le ((k : Int) + 1)
    refine run ?_
    refine (refName_ax X ((k : Int) + 1) ⟨by omega, by omega⟩).mono ?_
    rintro _ Y ⟨rfl, e⟩
    subst Y
    refine run ?_
    refine (refParts_ax X ((k : Int) + 1)).mono ?_
    rintro _ Y ⟨rfl, e⟩
    subst Y
    refine run ?_
    refine (refNumbers_ax X (nameL ((k : Int) + 1)) (partsN ((k : Int) + 1)) hL (by omega)).mono ?_
    rintro v Z ⟨hv, gZ⟩
    have gHZ := gX.trans gZ
    cases hm : numbersS L (nameL ((k : Int) + 1)) (partsN ((k : Int) + 1)) with
    | none =>
      rw [hm] at hv
      obtain ⟨u2, rfl⟩ := hv
      refine run ?_
      exact ⟨k + 1, ⟨rfl, rfl, rfl, congrArg (fun z => some (Value.int .i64 z)) w1, trivial⟩, ⟨by omega, gHZ, fun j hj => by
        by_cases hjk : j = k
        · subst hjk; exact hm
        · exact hno j (by omega)⟩, by dsimp only; omega⟩
    | some l =>
    rw [hm] at hv
    obtain ⟨u2, rfl, ho, hub⟩ := hv
    have hll := numbers_len hm
    rw [step_op h2 hkl hm]
    refine run ?_
    refine Ob2.lay (.cells (.row 3) [.int .i64 0, .int .i64 0]) (.slice (some ⟨Z.length, 0, none⟩) 2 1) rfl fun Z2 z2 k2 _ => ?_
    have o2 : OwnR 1 3 intR Z2 u2 l := ho.keep (fun b c _ hc => k2.at hc) fun _ _ _ h => h
    have r2 : RL 1 intR Z2 (.slice (some ⟨Z.length, 0, none⟩) 2 1) ([0, 0] : List Int) := RL.own (g := Value.int .i64) (L := ([0, 0] : List Int)) (f := intR) (fun _ _ => rfl) z2
    obtain ⟨sv, Z3, ap, o3, f3, -⟩ := OwnR.appendL (n := X.length) rowI rowI o2 r2 hub (by have := gZ.1; have := k2.1; omega) (by simp; omega) (fun _ _ _ _ _ h => h)
    have gZ3 : Grow X Z3 := FrR.grow (gZ.trans k2) f3 (Nat.le_refl _)
    have gH3 := gX.trans gZ3
    refine run ?_
    refine Ob2.of ap ?_
    have e0 : (l ++ [0, 0])[0]? = some (l.getD 0 0) := by
      match l, hll with
      | [], _ => rfl
      | a :: t, _ => rfl
    have e1 : (l ++ [0, 0])[1]? = some (l.getD 1 0) := by
      match l, hll with
      | [], _ => rfl
      | [a], _ => rfl
      | a :: b :: t, _ => rfl
    obtain ⟨p0, i0, k0⟩ := int_at o3 e0
    obtain ⟨p1, i1, k1⟩ := int_at o3 e1
    have i0 : aindexAddr Tryd.prog 57 sv (.int .i64 0) = some p0 := i0
    have i1 : aindexAddr Tryd.prog 57 sv (.int .i64 1) = some p1 := i1
    have k0 := k0 Z3 (.refl _)
    have k1 := k1 Z3 (.refl _)
    have hb3 := gH3.at hb
    have bb3 := hblk_of hb3
    obtain ⟨cb, m, iv, cells, rfl, hm1, hcb, hcl, hiv, hcbn, hadd⟩ := (hP.grow gH3).addI (by have := gH3.1; omega) hne fun c hc => Nat.le_trans (ins_cnt hc) hsz
    have wm : IntKind.i64.wrap ((r.p.2.2.length : Int) - 1) = (m : Int) := by rw [wrap_i64 (by omega) (by omega)]; omega
    have ixc : aindexAddr Tryd.prog 23 (.slice (some ⟨cb, 0, none⟩) (m + 1) 5) (.int .i64 (m : Int)) = some (.pointer (some ⟨cb, m * 5, none⟩)) := by
      rw [idx_slice (off := 0) (k := 5) rfl rfl (by omega) (by omega)]; simp
    have bcb := hblk_of hcb
    have ldi : aload Tryd.prog 43 (.pointer (some ⟨cb, m * 5 + 4, none⟩)) Z3 = some iv := ald rfl rfl bcb hiv
    obtain ⟨Y2, eb, c2, q2⟩ : ∃ Y2, abuildSlice Tryd.prog 43 1 [(0, .agg #[.int .i64 ((k : Int) + 1), .int .i64 (l.getD 0 0), .int .i64 (l.getD 1 0)])] Z3 = some (.slice (some ⟨Z3.length, 0, none⟩) 1 3, Y2) ∧ Y2[Z3.length]? = some (.cells (.row 56) [.int .i64 ((k : Int) + 1), .int .i64 (l.getD 0 0), .int .i64 (l.getD 1 0)]) ∧ Grow Z3 Y2 := ⟨_, rfl, at_push _ _, .push _ _⟩
    obtain ⟨kk, B, ap2, hcbB, f4, fin⟩ := hadd Y2 Z3.length _ (argsI ((k : Int) + 1) l) q2 c2
    obtain ⟨H5, hst, s5, b5, l5⟩ := store_ex (P := Tryd.prog) (t := 43) (off := m * 5 + 4) (v := .slice (some ⟨Y2.length, 0, none⟩) kk 3) rfl rfl rfl hcbB rfl (by show m * 5 + 4 + 1 ≤ _; omega)
    have ixw : aindexAddr Tryd.prog 23 (.slice (some ⟨cb, 0, none⟩) (m + 1) 5) (.int .i64 (IntKind.i64.wrap ((r.p.2.2.length : Int) - 1))) = some (.pointer (some ⟨cb, m * 5, none⟩)) := by rw [wm]; exact ixc
    have ldi2 : aload Tryd.prog 43 (.pointer (some ⟨cb, m * 5 + 4, none⟩)) Y2 = some iv := ald rfl rfl (q2.hblk bcb) hiv
    have bbY := q2.hblk bb3
    have hbB := f4.2 b _ (q2.at hb3) (.inr fun c e => by simp at e)
    have bbB := hblk_of hbB
    refine run ?_
    apply SW.draw2 [([], [137, 138, 139, 140, 141, 142, 143, 144, 145, 146, 147, 148, 149, 150, 151, 152, 153, 154, 155, 156, 157], 0, 2, false), ([(133, 0)], [133, 137, 138, 139, 140, 141, 142, 143, 144, 145, 146, 147, 148, 149, 150, 151, 152, 153, 154, 155, 156, 157], 0, 2, false), ([(133, 0), (134, 1)], [133, 134, 137, 138, 139, 140, 141, 142, 143, 144, 145, 146, 147, 148, 149, 150, 151, 152, 153, 154, 155, 156, 157], 0, 2, false), ([(133, 0), (134, 1), (135, 2)], [133, 134, 135, 137, 138, 139, 140, 141, 142, 143, 144, 145, 146, 147, 148, 149, 150, 151, 152, 153, 154, 155, 156, 157], 0, 2, false), ([], [133, 134, 135, 136, 139, 140, 141, 142, 143, 144, 145, 146, 147, 148, 149, 150, 151, 152, 153, 154, 155, 156, 157], 0, 2, false), ([(137, 4)], [133, 134, 135, 136, 137, 139, 140, 141, 142, 143, 144, 145, 146, 147, 148, 149, 150, 151, 152, 153, 154, 155, 156, 157], 0, 2, false), ([], [133, 134, 135, 136, 137, 138, 143, 144, 148, 149, 150, 151, 152, 153, 154, 155, 156], 0, 1, false), ([(139, 6)], [133, 134, 135, 136, 137, 138, 139, 143, 144, 148, 149, 150, 151, 152, 153, 154, 155, 156], 0, 1, false), ([(139, 6), (140, 7)], [133, 134, 135, 136, 137, 138, 139, 140, 143, 144, 148, 149, 150, 151, 152, 153, 154, 155, 156], 0, 1, false), ([(139, 6), (140, 7), (141, 8)], [133, 134, 135, 136, 137, 138, 139, 140, 141, 143, 144, 148, 149, 150, 151, 152, 153, 154, 155, 156], 0, 1, false), ([], [133, 134, 135, 136, 137, 138, 139, 140, 141, 142, 148, 149, 150, 151, 152, 153, 154, 155, 156], 0, 1, false), ([(143, 10)], [133, 134, 135, 136, 137, 138, 139, 140, 141, 142, 143, 148, 149, 150, 151, 152, 153, 154, 155, 156], 0, 1, false), ([(139, 6), (140, 7), (141, 8), (142, 9), (143, 10), (144, 11)], [133, 134, 135, 136, 137, 138, 139, 140, 141, 142, 143, 144, 148, 149, 150, 151, 152, 153, 154, 155, 156], 0, 1, false), ([(139, 6), (140, 7), (141, 8), (142, 9), (143, 10), (144, 11), (145, 12)], [133, 134, 135, 136, 137, 138, 139, 140, 141, 142, 143, 144, 145, 148, 149, 150, 151, 152, 153, 154, 155, 156], 0, 1, false), ([(139, 6), (140, 7), (141, 8), (142, 9), (143, 10), (144, 11), (145, 12), (146, 13)], [133, 134, 135, 136, 137, 138, 139, 140, 141, 142, 143, 144, 145, 146, 148, 149, 150, 151, 152, 153, 154, 155, 156], 0, 1, false), ([], [133, 134, 135, 136, 137, 138, 139, 140, 141, 142, 143, 144, 145, 146, 147, 149, 150, 151, 152, 153, 154], 0, 0, false), ([], [133, 134, 135, 136, 137, 138, 139, 140, 141, 142, 143, 144, 145, 146, 147, 148, 152, 153, 154], 0, 0, false), ([(149, 16)], [133, 134, 135, 136, 137, 138, 139, 140, 141, 142, 143, 144, 145, 146, 147, 148, 149, 152, 153, 154], 0, 0, false), ([(149, 16), (150, 17)], [133, 134, 135, 136, 137, 138, 139, 140, 141, 142, 143, 144, 145, 146, 147, 148, 149, 150, 152, 153, 154], 0, 0, false), ([], [133, 134, 135, 136, 137, 138, 139, 140, 141, 142, 143, 144, 145, 146, 147, 148, 149, 150, 151], 0, 0, false), ([(152, 19)], [133, 134, 135, 136, 137, 138, 139, 140, 141, 142, 143, 144, 145, 146, 147, 148, 149, 150, 151, 152], 0, 0, false), ([(152, 19), (153, 20)], [133, 134, 135, 136, 137, 138, 139, 140, 141, 142, 143, 144, 145, 146, 147, 148, 149, 150, 151, 152, 153], 0, 0, false), ([(148, 15), (149, 16), (150, 17), (151, 18), (152, 19), (153, 20), (154, 21)], [133, 134, 135, 136, 137, 138, 139, 140, 141, 142, 143, 144, 145, 146, 147, 148, 149, 150, 151, 152, 153, 154], 0, 0, false), ([(148, 15), (149, 16), (150, 17), (151, 18), (152, 19), (153, 20), (154, 21), (155, 22)], [133, 134, 135, 136, 137, 138, 139, 140, 141, 142, 143, 144, 145, 146, 147, 148, 149, 150, 151, 152, 153, 154, 155], 0, 0, true), ([(139, 6), (140, 7), (141, 8), (142, 9), (143, 10), (144, 11), (145, 12), (146, 13), (147, 14), (148, 15), (149, 16), (150, 17), (151, 18), (152, 19), (153, 20), (154, 21), (155, 22), (156, 23)], [133, 134, 135, 136, 137, 138, 139, 140, 141, 142, 143, 144, 145, 146, 147, 148, 149, 150, 151, 152, 153, 154, 155, 156], 1, 0, true), ([(133, 0), (134, 1), (135, 2), (136, 3), (137, 4), (138, 5), (139, 6), (140, 7), (141, 8), (142, 9), (143, 10), (144, 11), (145, 12), (146, 13), (147, 14), (148, 15), (149, 16), (150, 17), (151, 18), (152, 19), (153, 20), (154, 21), (155, 22), (156, 23), (157, 24)], [133, 134, 135, 136, 137, 138, 139, 140, 141, 142, 143, 144, 145, 146, 147, 148, 149, 150, 151, 152, 153, 154, 155, 156, 157], 2, 0, false), ([(133, 0), (134, 1), (135, 2), (136, 3), (137, 4), (138, 5), (139, 6), (140, 7), (141, 8), (142, 9), (143, 10), (144, 11), (145, 12), (146, 13), (147, 14), (148, 15), (149, 16), (150, 17), (151, 18), (152, 19), (153, 20), (154, 21), (155, 22), (156, 23), (157, 24), (158, 25)], [133, 134, 135, 136, 137, 138, 139, 140, 141, 142, 143, 144, 145, 146, 147, 148, 149, 150, 151, 152, 153, 154, 155, 156, 157, 158], 2, 0, false), ([(133, 0), (134, 1), (135, 2), (136, 3), (137, 4), (138, 5), (139, 6), (140, 7), (141, 8), (142, 9), (143, 10), (144, 11), (145, 12), (146, 13), (147, 14), (148, 15), (149, 16), (150, 17), (151, 18), (152, 19), (153, 20), (154, 21), (155, 22), (156, 23), (157, 24), (158, 25), (159, 26)], [133, 134, 135, 136, 137, 138, 139, 140, 141, 142, 143, 144, 145, 146, 147, 148, 149, 150, 151, 152, 153, 154, 155, 156, 157, 158, 159], 2, 0, true)]
      [(133, 0), (134, 1), (135, 2), (136, 3), (137, 4), (138, 5), (139, 6), (140, 7), (141, 8), (142, 9), (143, 10), (144, 11), (145, 12), (146, 13), (147, 14), (148, 15), (149, 16), (150, 17), (151, 18), (152, 19), (153, 20), (154, 21), (155, 22), (156, 23), (157, 24), (158, 25), (159, 26)] 3
      [(0, _), (9, _), (15, _), (16, _)] [_, _, _, _, _, _, _, _, _, _, _, _, _, _, _, _, _, _, _, _, _, _, _, _, _, _, _, _] [Z3, Y2, B, H5] rfl (by kernel_rfl)
    case hF => exact ⟨rfl, rfl, rfl, rfl, trivial⟩
    case h0 => rfl
    case steps =>
      (try (conv => whnf)); repeat' (first | ((with_reducible refine Ob.of ixw ?_); (conv => whnf)) | ((with_reducible refine Ob.of ldi ?_); (conv => whnf)) | ((with_reducible refine Ob.of ldi2 ?_); (conv => whnf)) | ((with_reducible refine Ob.of i0 ?_); (conv => whnf)) | ((with_reducible refine Ob.of i1 ?_); (conv => whnf)) | ((with_reducible refine Ob.of k0 ?_); (conv => whnf)) | ((with_reducible refine Ob.of k1 ?_); (conv => whnf)) | ((with_reducible refine Ob.of ap2 ?_); (conv => whnf)) | ((with_reducible refine Ob2.of ixw ?_); (conv => whnf)) | ((with_reducible refine Ob2.of ldi ?_); (conv => whnf)) | ((with_reducible refine Ob2.of ldi2 ?_); (conv => whnf)) | ((with_reducible refine Ob2.of i0 ?_); (conv => whnf)) | ((with_reducible refine Ob2.of i1 ?_); (conv => whnf)) | ((with_reducible refine Ob2.of k0 ?_); (conv => whnf)) | ((with_reducible refine Ob2.of k1 ?_); (conv => whnf)) | ((with_reducible refine Ob2.of ap2 ?_); (conv => whnf)) | (refine And.intro ?_ ?_ <;> (conv => whnf)) | exact Leaf.mk rfl rfl | exact True.intro | (refine Ob2.of eb ?_; (conv => whnf)) | (refine Ob2.of ap2 ?_; (conv => whnf)) | (refine Ob.of hst ?_; (conv => whnf)) | (refine Ob.of rfl ?_; (conv => whnf)) | (refine Ob2.of (by rfl) ?_; (conv => whnf)) | (refine step1 ?_))
    refine run ?_
    have s5 : H5[cb]? = some (.cells (.row 45) (cells.set (m * 5 + 4) (.slice (some ⟨Y2.length, 0, none⟩) kk 3))) := by
      rw [s5]; congr 2
    have P5 := fin H5 s5 b5
    have F : FrA n0 b H H5 := ((FrA.of (gH3.trans q2)).trans (.ofR f4 (Nat.le_refl _))).trans (.butR b5 hcbn hcbB)
    have hb5 := b5.at hbB (by rintro rfl; rw [hcbB] at hbB; simp at hbB)
    exact ⟨F, rfl, hlo, by have := F.1; omega, _, _, hb5, P5⟩
  | some l =>
    rw [hn] at hv
    obtain ⟨u, rfl, ho, hub⟩ := hv
    obtain ⟨x0, x1, x2, x3, rfl⟩ := four_of (numbers_len hn)
    rw [step_code h2 hn]
    obtain ⟨p0, i0, k0⟩ := int_at ho (i := 0) rfl
    obtain ⟨p1, i1, k1⟩ := int_at ho (i := 1) rfl
    obtain ⟨p2, i2, k2⟩ := int_at ho (i := 2) rfl
    obtain ⟨p3, i3, k3⟩ := int_at ho (i := 3) rfl
    have i0 : aindexAddr Tryd.prog 57 u (.int .i64 0) = some p0 := i0
    have i1 : aindexAddr Tryd.prog 57 u (.int .i64 1) = some p1 := i1
    have i2 : aindexAddr Tryd.prog 57 u (.int .i64 2) = some p2 := i2
    have i3 : aindexAddr Tryd.prog 57 u (.int .i64 3) = some p3 := i3
    have k0 := k0 H1 (.refl _)
    have k1 := k1 H1 (.refl _)
    have k2 := k2 H1 (.refl _)
    have k3 := k3 H1 (.refl _)
    have hb1 := g1.at hb
    have bb1 := hblk_of hb1
    have P1 := hP.grow g1
    refine run ?_
    apply SW.drawH [(0, [], [90, 91, 92, 93, 94, 95, 96, 97, 98, 99, 100, 101, 102, 103, 104, 105, 106, 107, 108], false), (1, [], [89, 94, 95, 96, 97, 98, 99, 100, 101, 102, 103, 104, 105, 106, 107], false), (2, [(90, 1)], [89, 90, 94, 95, 96, 97, 98, 99, 100, 101, 102, 103, 104, 105, 106, 107], false), (3, [(90, 1), (91, 2)], [89, 90, 91, 94, 95, 96, 97, 98, 99, 100, 101, 102, 103, 104, 105, 106, 107], false), (4, [(90, 1), (91, 2), (92, 3)], [89, 90, 91, 92, 94, 95, 96, 97, 98, 99, 100, 101, 102, 103, 104, 105, 106, 107], false), (5, [], [89, 90, 91, 92, 93, 97, 98, 99, 100, 101, 102, 103, 104, 105], false), (6, [(94, 5)], [89, 90, 91, 92, 93, 94, 97, 98, 99, 100, 101, 102, 103, 104, 105], false), (7, [(94, 5), (95, 6)], [89, 90, 91, 92, 93, 94, 95, 97, 98, 99, 100, 101, 102, 103, 104, 105], false), (8, [], [89, 90, 91, 92, 93, 94, 95, 96, 100, 101, 102, 103, 104, 105], false), (9, [(97, 8)], [89, 90, 91, 92, 93, 94, 95, 96, 97, 100, 101, 102, 103, 104, 105], false), (10, [(97, 8), (98, 9)], [89, 90, 91, 92, 93, 94, 95, 96, 97, 98, 100, 101, 102, 103, 104, 105], false), (11, [], [89, 90, 91, 92, 93, 94, 95, 96, 97, 98, 99, 103, 104, 105], false), (12, [(100, 11)], [89, 90, 91, 92, 93, 94, 95, 96, 97, 98, 99, 100, 103, 104, 105], false), (13, [(100, 11), (101, 12)], [89, 90, 91, 92, 93, 94, 95, 96, 97, 98, 99, 100, 101, 103, 104, 105], false), (14, [], [89, 90, 91, 92, 93, 94, 95, 96, 97, 98, 99, 100, 101, 102], false), (15, [(103, 14)], [89, 90, 91, 92, 93, 94, 95, 96, 97, 98, 99, 100, 101, 102, 103], false), (16, [(103, 14), (104, 15)], [89, 90, 91, 92, 93, 94, 95, 96, 97, 98, 99, 100, 101, 102, 103, 104], false), (17, [(94, 5), (95, 6), (96, 7), (97, 8), (98, 9), (99, 10), (100, 11), (101, 12), (102, 13), (103, 14), (104, 15), (105, 16)], [89, 90, 91, 92, 93, 94, 95, 96, 97, 98, 99, 100, 101, 102, 103, 104, 105], false), (18, [(94, 5), (95, 6), (96, 7), (97, 8), (98, 9), (99, 10), (100, 11), (101, 12), (102, 13), (103, 14), (104, 15), (105, 16), (106, 17)], [89, 90, 91, 92, 93, 94, 95, 96, 97, 98, 99, 100, 101, 102, 103, 104, 105, 106], true), (19, [(90, 1), (91, 2), (92, 3), (93, 4), (94, 5), (95, 6), (96, 7), (97, 8), (98, 9), (99, 10), (100, 11), (101, 12), (102, 13), (103, 14), (104, 15), (105, 16), (106, 17), (107, 18)], [89, 90, 91, 92, 93, 94, 95, 96, 97, 98, 99, 100, 101, 102, 103, 104, 105, 106, 107], true), (20, [(89, 0), (90, 1), (91, 2), (92, 3), (93, 4), (94, 5), (95, 6), (96, 7), (97, 8), (98, 9), (99, 10), (100, 11), (101, 12), (102, 13), (103, 14), (104, 15), (105, 16), (106, 17), (107, 18), (108, 19)], [89, 90, 91, 92, 93, 94, 95, 96, 97, 98, 99, 100, 101, 102, 103, 104, 105, 106, 107, 108], false), (21, [(89, 0), (90, 1), (91, 2), (92, 3), (93, 4), (94, 5), (95, 6), (96, 7), (97, 8), (98, 9), (99, 10), (100, 11), (101, 12), (102, 13), (103, 14), (104, 15), (105, 16), (106, 17), (107, 18), (108, 19), (109, 20)], [89, 90, 91, 92, 93, 94, 95, 96, 97, 98, 99, 100, 101, 102, 103, 104, 105, 106, 107, 108, 109], false), (22, [(89, 0), (90, 1), (91, 2), (92, 3), (93, 4), (94, 5), (95, 6), (96, 7), (97, 8), (98, 9), (99, 10), (100, 11), (101, 12), (102, 13), (103, 14), (104, 15), (105, 16), (106, 17), (107, 18), (108, 19), (109, 20), (110, 21)], [89, 90, 91, 92, 93, 94, 95, 96, 97, 98, 99, 100, 101, 102, 103, 104, 105, 106, 107, 108, 109, 110], true)]
      [(89, 0), (90, 1), (91, 2), (92, 3), (93, 4), (94, 5), (95, 6), (96, 7), (97, 8), (98, 9), (99, 10), (100, 11), (101, 12), (102, 13), (103, 14), (104, 15), (105, 16), (106, 17), (107, 18), (108, 19), (109, 20), (110, 21)] [18]
      [(0, _), (13, _)] rfl (by kernel_rfl)
    case hF => exact ⟨rfl, rfl, trivial⟩
    refine run ?_
    refine Ob2.lay (.cells (.row 45) [.int .i64 x0, .int .i64 x1, .int .i64 x2, .int .i64 x3, .slice none 0 0]) (.slice (some ⟨H1.length, 0, none⟩) 1 5) rfl fun H2 a2 g2 _ => ?_
    have hb2 := g2.at hb1
    obtain ⟨H3, ap, P3, f3⟩ := (P1.grow g2).code (c := (x0, x1, x2, x3, [])) (by have := g1.1; have := g2.1; omega) rfl a2 hsc
    have hb3 := f3.2 b _ hb2 (.inr fun c e => by simp at e)
    refine run ?_
    refine Ob2.of ap ?_
    refine run ?_
    refine Ob.store rfl rfl rfl hb3 rfl (by first | exact Nat.le_of_ble_eq_true rfl | simp) fun H4 s4 b4 l4 => ?_
    have s4 : H4[b]? = some (.cells .var [.int .i64 r.p.1, pv, .slice (some ⟨H2.length, 0, none⟩) (r.p.2.2.length + 1) 5]) := s4
    refine run ?_
    have F : FrA n0 b H H4 := (((FrA.of g1).trans (.of g2)).trans (.ofR f3 (Nat.le_refl _))).trans (.but b4 hlo)
    exact ⟨F, rfl, hlo, by have := F.1; omega, _, _, s4, P3.but hb3 b4⟩
end Go.Proofs.YtmdpifedcaaobaaDoor
/- The reference of asm: Read. -/
set_option linter.unusedVariables false
set_option linter.unusedSimpArgs false
set_option maxRecDepth 20000
set_option maxHeartbeats 8000000
namespace Go.Proofs.YtmdpifedcaaobaaDoor
open Go Ax
theorem take_any {n0 b : Nat} {H : Heap} {r : RS} (S : RdT n0 b H r) (hi : RIs r) {n : Nat} (hn0 : n = 0 ↔ r.stage = 0) (hn1 : n ≤ 2000000) {L : Bs} (hL : L.length ≤ 100000) (hsz : cntP r.p ≤ 900000) : AX Tryd.prog 25 #[.pointer (some ⟨b, 0, none⟩), .string (bstr L), .int .i64 (n : Int)] H (TakeQ n0 b H (r.step L)) := by
  obtain ⟨hs, hne⟩ := hi
  have : r.stage = 0 ∨ r.stage = 1 ∨ r.stage = 2 := by omega
  rcases this with h | h | h
  · obtain rfl := hn0.2 h
    exact take0_ax S h hL
  · exact take1_ax S h (Classical.byContradiction fun hc => by have := hne.2 hc; omega) (fun e => by have := hn0.1 e; omega) hn1 hL hsz
  · exact take2_ax S h (hne.1 h) (fun e => by have := hn0.1 e; omega) hn1 hL hsz
theorem refRead16_ax (H : Heap) {s : Bs} (hL : s.length ≤ 1000000) (hlo : LinesOK s) : AX Tryd.prog 14 #[.string (bstr s)] H (ReadQ H (readS16 s)) := by
  have lL : ∀ X, alen Tryd.prog 9 (.string (bstr s)) X = some (.int .i64 (s.length : Int)) := fun X => rfl
  refine AX.body (n := 54) (rs := [.cell 2 25, .tmp 3, .tmp 4]) Tryd.func14 rfl (by decide) rfl rfl (bC_sound _ _ _ _ ?_)
  refine run ?_
  refine Ob2.alloc rfl fun q1 H1 hq1 a1 g1 => ?_
  refine run ?_
  refine Ob2.alloc rfl fun q2 H2 hq2 a2 g2 => ?_
  refine run ?_
  refine SW.loop (α := Nat × Nat × Nat × RS) (fun y => [(0, .string (bstr s)), (2, .pointer (some ⟨q1, 0, none⟩)), (3, .int .i64 0), (4, .int .i64 0), (5, .pointer (some ⟨q2, 0, none⟩)), (6, .int .i64 (y.2.2.1 : Int)), (7, .int .i64 (y.1 : Int)), (8, .int .i64 (y.2.1 : Int))])
    (fun y X => (y.1 ≤ y.2.1 ∧ y.2.1 ≤ s.length ∧ (10 : UInt8) ∉ (s.drop y.1).take (y.2.1 - y.1)) ∧ readS16 s = readP ((s.drop y.1).length + 1) y.2.2.2 (y.2.2.1 : Int) (s.drop y.1) ∧ RdT H.length q2 X y.2.2.2 ∧ RIs y.2.2.2 ∧ (y.2.2.1 = 0 ↔ y.2.2.2.stage = 0) ∧ cntP y.2.2.2.p ≤ y.2.2.1 ∧ y.2.2.1 ≤ y.1 ∧ 2 * cntP y.2.2.2.p ≤ y.1 + 2 ∧ LinesOK (s.drop y.1) ∧ X[q1]? = some (.cells .var [.int .i64 0, .slice none 0 0, .slice none 0 0]) ∧ Grow H X) (fun y => s.length - y.2.1)
    ⟨(0, 0, 0, ⟨0, (0, [], [])⟩), ⟨rfl, rfl, rfl, rfl, rfl, rfl, rfl, rfl, trivial⟩, ⟨Nat.le_refl _, Nat.zero_le _, by simp⟩, rfl, ⟨by rw [hq2]; exact g1.1, by have := g1.1; have := g2.1; omega, _, _, a2, .zero _⟩, ⟨(by decide : (0 : Nat) ≤ 2), by simp⟩, by simp, by simp [cntP], Nat.le_refl _, by simp [cntP], hlo, g2.at a1, g1.trans g2⟩ ?_
  rintro ⟨a, k, n, r⟩ X ⟨⟨hak, hkl, hno⟩, heq, S, hi, hn0, hc1, hna, hc2, hlk, aX, gX⟩
  dsimp only at hak hkl hno heq S hi hn0 hc1 hna hc2 hlk aX ⊢
  have bX := hblk_of aX
  have lX := lL X
  refine bC_sound _ _ _ _ ?_
  have hcnt : cntP r.p ≤ 900000 := by omega
  have w1 : IntKind.i64.wrap ((n : Int) + 1) = ((n + 1 : Nat) : Int) := w_succ (by omega)
  have w2 : IntKind.i64.wrap ((k : Int) + 1) = ((k + 1 : Nat) : Int) := w_succ (by omega)
  by_cases hk : k < s.length
  rotate_left
  · obtain rfl : k = s.length := by omega
    have d1 : decide ((s.length : Int) < (s.length : Int)) = false := decide_eq_false (by omega)
    obtain ⟨hlo', hln, pv, cv, hb, hP⟩ := S
    have bb := hblk_of hb
    have hlen := hP.lens
    by_cases hal : a < s.length
    · have d2 : decide ((a : Int) < (s.length : Int)) = true := decide_eq_true (by omega)
      have hdn : s.drop a ≠ [] := fun e => by have := congrArg List.length e; rw [List.length_drop] at this; simp at this; omega
      have hcn : cutS (s.drop a) = none := by
        unfold cutS
        rw [List.take_of_length_le (by rw [List.length_drop]; omega)] at hno
        rw [if_neg hno]
      unfold readP at heq
      rw [if_neg hdn, hcn] at heq
      rw [heq]
      refine run ?_
      refine Ob.store rfl rfl rfl aX rfl (by first | exact Nat.le_of_ble_eq_true rfl | simp) fun H5 s5 b5 l5 => ?_
      have s5 : H5[q1]? = some (.cells .var [.int .i64 0, .slice none 0 0, .slice none 0 0]) := s5
      have bb5 := hblk_of s5
      refine run ?_
      rw [w1]
      exact ⟨⟨_, rfl, progR_zero _⟩, gX.but_new b5 (by omega)⟩
    obtain rfl : a = s.length := by omega
    have d2 : decide ((s.length : Int) < (s.length : Int)) = false := d1
    have hdn : s.drop s.length = [] := List.drop_length
    unfold readP at heq
    rw [if_pos hdn] at heq
    by_cases hcs : r.p.2.2 = []
    · rw [if_pos hcs] at heq
      have d3 : ((r.p.2.2.length : Int) == 0) = true := by rw [hcs]; rfl
      rw [heq]
      refine run ?_
      refine Ob.store rfl rfl rfl aX rfl (by first | exact Nat.le_of_ble_eq_true rfl | simp) fun H5 s5 b5 l5 => ?_
      have s5 : H5[q1]? = some (.cells .var [.int .i64 0, .slice none 0 0, .slice none 0 0]) := s5
      have bb5 := hblk_of s5
      refine run ?_
      rw [w1]
      exact ⟨⟨_, rfl, progR_zero _⟩, gX.but_new b5 (by omega)⟩
    rw [if_neg hcs] at heq
    have d3 : ((r.p.2.2.length : Int) == 0) = false := by
      rw [beq_eq_false_iff_ne]
      intro e
      exact hcs (List.length_eq_zero_iff.1 (by omega))
    refine run ?_
    obtain ⟨hp1, hp2⟩ := hP.prog
    refine (rcheck_ax hp1 hp2 (by unfold cntP at hcnt; omega)).mono ?_
    rintro v Y ⟨hv, e⟩
    subst Y
    rcases hv with ⟨rfl, hC⟩ | ⟨rfl, hC⟩
    · have he : endS r.p = (r.p, 0, 0) := if_pos hC
      rw [he] at heq
      rw [heq]
      refine run ?_
      refine Ob.store rfl rfl rfl aX rfl (by first | exact Nat.le_of_ble_eq_true rfl | simp) fun H5 s5 b5 l5 => ?_
      have s5 : H5[q1]? = some (.cells .var [.int .i64 r.p.1, pv, cv]) := s5
      have bb5 := hblk_of s5
      obtain ⟨k1, k2⟩ := (hP.but aX b5).prog
      refine run ?_
      exact ⟨⟨_, rfl, _, _, rfl, k1, k2⟩, gX.but_new b5 (by omega)⟩
    · have he : endS r.p = ((0, [], []), 0, 16) := if_neg hC
      rw [he] at heq
      rw [heq]
      refine run ?_
      refine Ob.store rfl rfl rfl aX rfl (by first | exact Nat.le_of_ble_eq_true rfl | simp) fun H5 s5 b5 l5 => ?_
      have s5 : H5[q1]? = some (.cells .var [.int .i64 0, .slice none 0 0, .slice none 0 0]) := s5
      have bb5 := hblk_of s5
      refine run ?_
      exact ⟨⟨_, rfl, progR_zero _⟩, gX.but_new b5 (by omega)⟩
  have d1 : decide ((k : Int) < (s.length : Int)) = true := decide_eq_true (by omega)
  obtain ⟨c, hc⟩ := get_lt hk
  have ix : aindex Tryd.prog 9 (.string (bstr s)) (.int .i64 (k : Int)) = some (u8 c) := aix (s := bstr s) (by rw [bstr_list]; exact hc)
  by_cases hcb : c = 10
  rotate_left
  · have d3 : ((c.toNat : Int) != 10) = true := by
      rw [bne_iff_ne]
      intro e
      exact hcb (UInt8.toNat.inj (by simpa using (by omega : c.toNat = 10)))
    refine run ?_
    refine ⟨(a, k + 1, n, r), ⟨rfl, rfl, rfl, rfl, rfl, rfl, rfl, congrArg (fun z => some (Value.int .i64 z)) w2, trivial⟩, ⟨⟨by dsimp only; omega, hk, ?_⟩, heq, S, hi, hn0, hc1, hna, hc2, hlk, aX, gX⟩, by dsimp only; omega⟩
    dsimp only
    rw [show k + 1 - a = (k - a) + 1 by omega, List.take_add_one, List.getElem?_drop, show a + (k - a) = k by omega, hc]
    intro hm
    rcases List.mem_append.1 hm with hm | hm
    · exact hno hm
    · simp at hm; exact hcb hm.symm
  subst hcb
  have d3 : (((10 : UInt8).toNat : Int) != 10) = false := rfl
  have sl := slice_mid s hak hkl hL
  have e : s.drop a = (s.drop a).take (k - a) ++ 10 :: s.drop (k + 1) := by
    conv => lhs; rw [← List.take_append_drop (k - a) (s.drop a)]
    congr 1
    rw [List.drop_drop, show a + (k - a) = k by omega]
    exact drop_cons' hc
  have hct : cutS (s.drop a) = some ((s.drop a).take (k - a), s.drop (k + 1)) := by
    have := cut_of (rest := s.drop (k + 1)) hno
    rwa [← e] at this
  obtain ⟨hll, hlr⟩ := hlk.cut hct
  unfold readP at heq
  rw [if_neg (fun h => by rw [h] at hct; simp [cutS] at hct), hct] at heq
  dsimp only at heq
  generalize hl : (s.drop a).take (k - a) = line at *
  have nx := take_any S hi hn0 (by omega) hll hcnt
  refine run ?_
  refine nx.mono ?_
  rintro v Y ⟨hF, hv⟩
  have gY : Grow H Y := hF.grow gX
  have hq12 := lt_at a1
  have aY := hF.2 q1 _ aX (.inr ⟨by omega, _, rfl⟩)
  have bY := hblk_of aY
  cases hst : r.step line with
  | none =>
    rw [hst] at hv heq
    subst hv
    dsimp only at heq
    rw [heq]
    refine run ?_
    refine Ob.store rfl rfl rfl aY rfl (by first | exact Nat.le_of_ble_eq_true rfl | simp) fun H5 s5 b5 l5 => ?_
    have s5 : H5[q1]? = some (.cells .var [.int .i64 0, .slice none 0 0, .slice none 0 0]) := s5
    have bb5 := hblk_of s5
    refine run ?_
    rw [w1]
    exact ⟨⟨_, rfl, progR_zero _⟩, gY.but_new b5 (by omega)⟩
  | some r' =>
    rw [hst] at hv heq
    obtain ⟨rfl, S'⟩ := hv
    dsimp only at heq
    obtain ⟨hi', hs1, hc'⟩ := step_ri hi hst
    have hlne := List.length_pos_iff.2 (step_ne hst)
    have hll2 : line.length = k - a := by rw [← hl, List.length_take, List.length_drop]; omega
    refine run ?_
    refine ⟨(k + 1, k + 1, n + 1, r'), ⟨rfl, rfl, rfl, rfl, rfl, congrArg (fun z => some (Value.int .i64 z)) w1, congrArg (fun z => some (Value.int .i64 z)) w2, congrArg (fun z => some (Value.int .i64 z)) w2, trivial⟩, ⟨⟨Nat.le_refl _, hk, by simp⟩, ?_, S', hi', by dsimp only; omega, by dsimp only; omega, by dsimp only; omega, by dsimp only; omega, hlr, aY, gY⟩, by dsimp only; omega⟩
    dsimp only
    rw [heq]
    exact readP_fuel (s.drop a).length ((s.drop (k + 1)).length + 1) r' _ _ (by rw [List.length_drop, List.length_drop]; omega) (by omega)
end Go.Proofs.YtmdpifedcaaobaaDoor
/- The statements of package asm: the small program. -/
set_option linter.unusedVariables false
set_option linter.unusedSimpArgs false
set_option maxRecDepth 20000
set_option maxHeartbeats 8000000
namespace Go.Proofs.YtmdpifedcaaobaaDoor
open Go Ax
def workW : Bs := [103, 108, 111, 98, 97, 108, 115, 32, 48, 10, 99, 111, 100, 101, 32, 48, 32, 48, 32, 48, 32, 49, 10, 110, 117, 108, 108, 10, 114, 101, 116, 10]
theorem work_read : readS16 workW = (p1, 0, 0) := by
  have e : readS16 workW = endS p1 := by kernel_rfl
  rw [e]
  exact if_pos p1_ok
theorem work_prog : progL p1 = workW := by decide
theorem work_print : printA p1 = (bstr workW, 0) := by
  rw [← work_prog]
  exact if_pos p1_ok
theorem work_lines : LinesOK workW := .short 32 _ (by decide) (by decide)
theorem works16_ax (H : Heap) : AX Tryd.prog 8 #[] H (fun r H' => r = .bool true ∧ H' = H) := by
  refine AX.quiet ?_
  suffices hh : AX Tryd.prog 8 #[] H (fun v H' => v = .bool true ∧ Grow H H') from hh.mono fun v _ ⟨e, g⟩ => ⟨e ▸ plain_bool _, e, g⟩
  refine AX.body (n := 49) (rs := [.tmp 0]) Tryd.func8 rfl (by decide) rfl rfl (bC_sound _ _ _ _ ?_)
  refine run ?_
  refine (asmRead_ax H (s := workW) (by decide) work_lines).mono ?_
  rw [work_read]
  rintro _ H1 ⟨⟨_, rfl, ps, cs, rfl, hp, hc⟩, g1⟩
  refine run ?_
  refine Ob2.alloc rfl fun q H2 hq a2 g2 => ?_
  refine run ?_
  refine Ob.store rfl rfl rfl a2 rfl (by first | exact Nat.le_of_ble_eq_true rfl | simp) fun H3 s3 b3 l3 => ?_
  have g3 : Grow H1 H3 := g2.but_new b3 (by omega)
  have s3 : H3[q]? = some (.cells .var [.int .i64 0, ps, cs]) := s3
  have bb := hblk_of s3
  have hp3 := strR.grow hp g3
  have hc3 := codeR.grow hc g3
  have P := asmPrint_ax hp3 hc3 (by decide)
  rw [work_print] at P
  refine run ?_
  refine P.mono ?_
  rintro _ X ⟨rfl, e⟩
  subst X
  have ln := hc3.len (P := Tryd.prog) (t := 23) rfl H3
  have ln : alen Tryd.prog 23 cs H3 = some (.int .i64 1) := ln
  obtain ⟨cb, cells, l, ix, hb, hsl, sv, rfl, hsv⟩ := hc3.at (P := Tryd.prog) (t := 23) (e := 45) rfl rfl (i := 0) (x := c1) rfl
  have ix : aindexAddr Tryd.prog 23 cs (.int .i64 0) = some (.pointer (some ⟨cb, 0, none⟩)) := by rw [Nat.zero_mul] at ix; exact ix
  have ld : aload Tryd.prog 43 (.pointer (some ⟨cb, 0 + 4, none⟩)) H3 = some sv := ald rfl rfl hb (by have := slots_get (j := 4) hsl rfl; simpa using this)
  have ln2 : alen Tryd.prog 43 sv H3 = some (.int .i64 2) := hsv.len (P := Tryd.prog) (t := 43) rfl H3
  refine run ?_
  refine (asmName_ax H3 24 ⟨by decide, by decide⟩).mono ?_
  rintro _ X ⟨rfl, e⟩
  subst X
  refine run ?_
  exact ⟨rfl, g1.trans g3⟩
end Go.Proofs.YtmdpifedcaaobaaDoor
