/- Package code: instructions, codes and programs in abstract memory, and the smaller functions. -/
import Derived.Test.YtmdpifedcaaobaaDoorJTy1
set_option linter.unusedVariables false
set_option linter.unusedSimpArgs false
set_option maxRecDepth 20000
set_option maxHeartbeats 8000000
namespace Go.Proofs.YtmdpifedcaaobaaDoor
open Go Ax
abbrev Ins := Int × Int × Int
abbrev CodeT := Int × Int × Int × Int × List Ins
abbrev ProgT := Int × List ByteArray × List CodeT
def insR (_ : Heap) (l : List Value) (x : Ins) : Prop := l = [.int .i64 x.1, .int .i64 x.2.1, .int .i64 x.2.2]
abbrev CodeT.ins (c : CodeT) : List Ins := c.2.2.2.2
abbrev CodeT.deep (c : CodeT) : Int := c.2.2.2.1
abbrev codeV (c : CodeT) (sv : Value) : Value := .agg #[.int .i64 c.1, .int .i64 c.2.1, .int .i64 c.2.2.1, .int .i64 c.2.2.2.1, sv]
def codeR (H : Heap) (l : List Value) (c : CodeT) : Prop := ∃ sv, l = [.int .i64 c.1, .int .i64 c.2.1, .int .i64 c.2.2.1, .int .i64 c.2.2.2.1, sv] ∧ RL 3 insR H sv c.ins
def ProgR (H : Heap) (v : Value) (p : ProgT) : Prop := ∃ ps cs, v = .agg #[.int .i64 p.1, ps, cs] ∧ RL 1 strR H ps p.2.1 ∧ RL 5 codeR H cs p.2.2
theorem insR.grow {H H' : Heap} {sv : Value} {L : List Ins} (h : RL 3 insR H sv L) (g : Grow H H') : RL 3 insR H' sv L := RL.grow (fun l x (h : insR H l x) => (h : insR H' l x)) h g
theorem codeR.grow {H H' : Heap} {sv : Value} {L : List CodeT} (h : RL 5 codeR H sv L) (g : Grow H H') : RL 5 codeR H' sv L := RL.grow (fun _ _ ⟨s, h1, h2⟩ => ⟨s, h1, insR.grow h2 g⟩) h g
theorem ProgR.grow {H H' : Heap} {v : Value} {p : ProgT} (h : ProgR H v p) (g : Grow H H') : ProgR H' v p := by
  obtain ⟨ps, cs, h1, h2, h3⟩ := h
  exact ⟨ps, cs, h1, strR.grow h2 g, codeR.grow h3 g⟩
theorem ins_of {H : Heap} {c : List Value} {x : Ins} (R : ty56.R H c x) : insR H c x := by
  obtain ⟨h1, h2, h3⟩ := R
  exact cons_of h1 (cons_of h2 h3)
theorem code_of {H : Heap} {c : List Value} {x : CodeT} (R : ty45.R H c x) : codeR H c x := by
  obtain ⟨h1, h2, h3, h4, h5⟩ := R
  obtain ⟨sv, h6, h7⟩ := RL.ofTy (f := insR) (fun l x h => ins_of h) h5
  exact ⟨sv, cons_of h1 (cons_of h2 (cons_of h3 (cons_of h4 h6))), h7⟩
theorem prog_of {H : Heap} {c : List Value} {x : ProgT} (R : ty25.R H c x) : ProgR H (argS c) x := by
  obtain ⟨h1, h2, h3⟩ := R
  obtain ⟨ps, h6, h7⟩ := RL.ofTy (f := strR) (fun l x h => h) h2
  obtain ⟨cs, h8, h9⟩ := RL.ofTy (f := codeR) (fun l x h => code_of h) h3
  have hc : c = [.int .i64 x.1, ps, cs] := cons_of h1 (cons_of h6 h8)
  exact ⟨ps, cs, by rw [hc]; rfl, h7, h9⟩
end Go.Proofs.YtmdpifedcaaobaaDoor
/- Package code and its document: which instructions go somewhere, and what comes behind one. -/
set_option linter.unusedVariables false
set_option linter.unusedSimpArgs false
set_option maxRecDepth 20000
set_option maxHeartbeats 8000000
namespace Go.Proofs.YtmdpifedcaaobaaDoor
open Go Ax
def gos (op : Int) : Bool := decide (22 ≤ op ∧ op ≤ 25)
theorem goes_ax (H : Heap) (op : Int) : AX Tryd.prog 66 #[.int .i64 op] H (fun v H' => v = .bool (gos op) ∧ H' = H) := by
  refine AX.body (n := 17) (rs := [.tmp 2]) Tryd.func66 rfl (by decide) rfl rfl (bC_sound _ _ _ _ ?_)
  by_cases h : 22 ≤ op ∧ op ≤ 25
  · have hc : op = 22 ∨ op = 23 ∨ op = 24 ∨ op = 25 := by omega
    rcases hc with rfl | rfl | rfl | rfl <;> (refine run ?_; exact ⟨rfl, rfl⟩)
  · have hg : gos op = false := decide_eq_false h
    have e1 : (op == 22) = false := by rw [beq_eq_false_iff_ne]; omega
    have e2 : (op == 23) = false := by rw [beq_eq_false_iff_ne]; omega
    have e3 : (op == 24) = false := by rw [beq_eq_false_iff_ne]; omega
    have e4 : (op == 25) = false := by rw [beq_eq_false_iff_ne]; omega
    rw [hg]
    refine run ?_
    exact ⟨congrArg Value.bool e4, rfl⟩
theorem rgoes_ax (H : Heap) (op : Int) : AX Tryd.prog 44 #[.int .i64 op] H (fun v H' => v = .bool (gos op) ∧ H' = H) := by
  refine AX.body (n := 9) (rs := [.tmp 2]) Tryd.func44 rfl (by decide) rfl rfl (bC_sound _ _ _ _ ?_)
  by_cases h : 22 ≤ op
  · have d1 : decide (op ≥ 22) = true := decide_eq_true h
    refine run ?_
    exact ⟨congrArg Value.bool (by unfold gos; rw [Bool.eq_iff_iff]; simp; omega), rfl⟩
  · have d1 : decide (op ≥ 22) = false := decide_eq_false h
    have hg : gos op = false := decide_eq_false (by omega)
    rw [hg]
    refine run ?_
    exact ⟨rfl, rfl⟩
def sit (op : Int) : Bool := decide (op = 13 ∨ op = 14 ∨ op = 15 ∨ op = 27)
theorem site_ax (H : Heap) (op : Int) : AX Tryd.prog 64 #[.int .i64 op] H (fun v H' => v = .bool (sit op) ∧ H' = H) := by
  refine AX.body (n := 17) (rs := [.tmp 2]) Tryd.func64 rfl (by decide) rfl rfl (bC_sound _ _ _ _ ?_)
  by_cases h : op = 13 ∨ op = 14 ∨ op = 15 ∨ op = 27
  · rcases h with rfl | rfl | rfl | rfl <;> (refine run ?_; exact ⟨rfl, rfl⟩)
  · have hg : sit op = false := decide_eq_false h
    have e1 : (op == 13) = false := by rw [beq_eq_false_iff_ne]; omega
    have e2 : (op == 14) = false := by rw [beq_eq_false_iff_ne]; omega
    have e3 : (op == 15) = false := by rw [beq_eq_false_iff_ne]; omega
    have e4 : (op == 27) = false := by rw [beq_eq_false_iff_ne]; omega
    rw [hg]
    refine run ?_
    exact ⟨congrArg Value.bool e4, rfl⟩
theorem below_ax (H : Heap) (n m : Int) : AX Tryd.prog 65 #[.int .i64 n, .int .i64 m] H (fun v H' => v = .bool (decide (0 ≤ n ∧ n < m)) ∧ H' = H) := by
  refine AX.body (n := 12) (rs := [.tmp 4]) Tryd.func65 rfl (by decide) rfl rfl (bC_sound _ _ _ _ ?_)
  by_cases h : 0 ≤ n
  · have d1 : decide (n ≥ 0) = true := decide_eq_true h
    refine run ?_
    exact ⟨congrArg Value.bool (by rw [Bool.eq_iff_iff]; simp; omega), rfl⟩
  · have d1 : decide (n ≥ 0) = false := decide_eq_false h
    have hg : decide (0 ≤ n ∧ n < m) = false := decide_eq_false (by omega)
    rw [hg]
    refine run ?_
    exact ⟨rfl, rfl⟩
/-- A list of numbers that was made. -/
def Nums (n : Nat) (H : Heap) (sv : Value) (L : List Int) : Prop := (sv = .slice none 0 0 ∧ L = []) ∨ ∃ b, n ≤ b ∧ sv = .slice (some ⟨b, 0, none⟩) L.length 1 ∧ H[b]? = some (.cells (.row 3) (L.map (.int .i64)))
theorem Nums.len {n : Nat} {H : Heap} {sv : Value} {L : List Int} (h : Nums n H sv L) (H' : Heap) : alen Tryd.prog 57 sv H' = some (.int .i64 L.length) := by
  rcases h with ⟨rfl, rfl⟩ | ⟨b, h0, rfl, h1⟩ <;> rfl
theorem Nums.at {n : Nat} {H : Heap} {sv : Value} {L : List Int} (h : Nums n H sv L) {j : Nat} {t : Int} (ht : L[j]? = some t) :
    ∃ b, n ≤ b ∧ b < H.length ∧ aindexAddr Tryd.prog 57 sv (.int .i64 (j : Int)) = some (.pointer (some ⟨b, j, none⟩)) ∧ ∀ H', H'[b]? = H[b]? → aload Tryd.prog 3 (.pointer (some ⟨b, j, none⟩)) H' = some (.int .i64 t) := by
  have hl := lt_of_get ht
  rcases h with ⟨rfl, rfl⟩ | ⟨b, h0, rfl, h1⟩
  · simp at ht
  · have := idx_slice (P := Tryd.prog) (t := 57) (b := b) (off := 0) (len := L.length) (es := 1) (kd := .i64) (n := (j : Int)) rfl (k := 1) rfl (by omega) (by omega)
    exact ⟨b, h0, lt_at h1, by simpa using this, fun H' e => ald rfl rfl (hblk_of (e.trans h1)) (by simp [ht])⟩
theorem Nums.intR {n : Nat} {H : Heap} {sv : Value} {L : List Int} (h : Nums n H sv L) : RL 1 intR H sv L := by
  rcases h with ⟨rfl, rfl⟩ | ⟨b, h0, rfl, h1⟩
  · exact .inl ⟨rfl, rfl⟩
  · exact RL.own (g := Value.int .i64) (fun _ _ => rfl) h1
/-- What comes behind an instruction. -/
def tgt (ins : List Ins) (at_ : Int) : List Int :=
  if at_ < 0 ∨ (ins.length : Int) ≤ at_ then [] else
  match ins[at_.toNat]? with
  | none => []
  | some x => if x.1 = 32 then [] else if x.1 = 22 then [x.2.1] else if gos x.1 then [IntKind.i64.wrap (at_ + 1), x.2.1] else [IntKind.i64.wrap (at_ + 1)]
theorem ld_ins {H : Heap} {sv : Value} {L : List Ins} (h : RL 3 insR H sv L) {i : Nat} {x : Ins} (hx : L[i]? = some x) :
    ∃ b, aindexAddr Tryd.prog 43 sv (.int .i64 (i : Int)) = some (.pointer (some ⟨b, i * 3, none⟩)) ∧ ∀ H', Grow H H' → aload Tryd.prog 56 (.pointer (some ⟨b, i * 3, none⟩)) H' = some (insV x.1 x.2.1 x.2.2) := by
  obtain ⟨b, c, l, h1, h2, h3, rfl⟩ := h.at (P := Tryd.prog) (t := 43) (e := 56) rfl rfl hx
  exact ⟨b, h1, fun H' g => ald_agg rfl rfl rfl (g.hblk h2) h3⟩
theorem ld_op {H : Heap} {sv : Value} {L : List Ins} (h : RL 3 insR H sv L) {i b : Nat} {x : Ins} (hx : L[i]? = some x) (hi : aindexAddr Tryd.prog 43 sv (.int .i64 (i : Int)) = some (.pointer (some ⟨b, i * 3, none⟩))) :
    ∀ H', Grow H H' → aload Tryd.prog 3 (.pointer (some ⟨b, i * 3, none⟩)) H' = some (.int .i64 x.1) := by
  obtain ⟨b', c, l, h1, h2, h3, rfl⟩ := h.at (P := Tryd.prog) (t := 43) (e := 56) rfl rfl hx
  rw [h1] at hi
  simp only [Option.some.injEq, Value.pointer.injEq, Addr.mk.injEq, and_true] at hi
  subst hi
  refine fun H' g => ald rfl rfl (g.hblk h2) ?_
  unfold slotsOf at h3
  split at h3
  · simp only [Option.some.injEq] at h3
    have := congrArg (·[0]?) h3
    simpa [List.getElem?_take, List.getElem?_drop] using this
  · simp at h3
theorem targets_ax {H : Heap} {c : CodeT} {sv : Value} (hs : RL 3 insR H sv c.ins) (at_ : Int) : AX Tryd.prog 69 #[codeV c sv, .int .i64 at_] H (fun v H' => Nums H.length H' v (tgt c.ins at_) ∧ Grow H H') := by
  refine AX.body (n := 43) (rs := [.tmp 4]) Tryd.func69 rfl (by decide) rfl rfl (bC_sound _ _ _ _ ?_)
  (conv => whnf)
  refine Ob2.box rfl fun q H1 hq k1 k2 => ?_
  have hb := hblk_of k1
  have hlen : alen Tryd.prog 43 sv H1 = some (.int .i64 c.ins.length) := hs.len rfl _
  by_cases h0 : at_ < 0
  · have d1 : decide (at_ < 0) = true := decide_eq_true h0
    refine run ?_
    refine ⟨.inl ⟨rfl, ?_⟩, k2⟩
    unfold tgt; rw [if_pos (.inl h0)]
  have d1 : decide (at_ < 0) = false := decide_eq_false h0
  by_cases h1 : (c.ins.length : Int) ≤ at_
  · have d2 : decide (at_ ≥ (c.ins.length : Int)) = true := decide_eq_true h1
    refine run ?_
    refine ⟨.inl ⟨rfl, ?_⟩, k2⟩
    unfold tgt; rw [if_pos (.inr h1)]
  have d2 : decide (at_ ≥ (c.ins.length : Int)) = false := decide_eq_false h1
  obtain ⟨i, rfl⟩ : ∃ i : Nat, at_ = (i : Int) := ⟨at_.toNat, by omega⟩
  obtain ⟨x, hx⟩ : ∃ x, c.ins[i]? = some x := ⟨_, List.getElem?_eq_getElem (by omega)⟩
  obtain ⟨b, i1, i2⟩ := ld_ins hs hx
  have i3 := i2 _ k2
  have ht : tgt c.ins (i : Int) = if x.1 = 32 then [] else if x.1 = 22 then [x.2.1] else if gos x.1 then [IntKind.i64.wrap ((i : Int) + 1), x.2.1] else [IntKind.i64.wrap ((i : Int) + 1)] := by
    unfold tgt; rw [if_neg (by omega), Int.toNat_natCast, hx]
  rw [ht]
  refine run ?_
  refine Ob2.alloc rfl fun q2 H2 hq2 a1 a2 => ?_
  refine run ?_
  refine Ob.store rfl rfl rfl a1 rfl (by first | exact Nat.le_of_ble_eq_true rfl | simp) fun H3 b1 b2 b3 => ?_
  have g3 : Grow H H3 := k2.trans (a2.but_new b2 (by omega))
  have hb3 := hblk_of b1
  by_cases h32 : x.1 = 32
  · rw [h32] at hb3
    rw [if_pos h32]
    refine run ?_
    exact ⟨.inl ⟨rfl, rfl⟩, g3⟩
  have e32 : (x.1 == 32) = false := by rw [beq_eq_false_iff_ne]; exact h32
  rw [if_neg h32]
  by_cases h22 : x.1 = 22
  · rw [h22] at hb3
    rw [if_pos h22]
    refine run ?_
    refine Ob2.of (a := .slice (some ⟨H3.length, 0, none⟩) 1 1) (b := H3 ++ [.cells (.row 3) [.int .i64 x.2.1]]) rfl ?_
    refine run ?_
    exact ⟨.inr ⟨_, g3.1, rfl, at_push _ _⟩, g3.trans (.push _ _)⟩
  have e22 : (x.1 == 22) = false := by rw [beq_eq_false_iff_ne]; exact h22
  rw [if_neg h22]
  refine run ?_
  refine (goes_ax H3 x.1).mono ?_
  rintro _ X ⟨rfl, e⟩
  subst X
  cases hg : gos x.1 with
  | true =>
    rw [if_pos rfl]
    refine run ?_
    refine Ob2.of (a := .slice (some ⟨H3.length, 0, none⟩) 2 1) (b := H3 ++ [.cells (.row 3) [.int .i64 (IntKind.i64.wrap ((i : Int) + 1)), .int .i64 x.2.1]]) rfl ?_
    refine run ?_
    exact ⟨.inr ⟨_, g3.1, rfl, at_push _ _⟩, g3.trans (.push _ _)⟩
  | false =>
    rw [if_neg (by decide)]
    refine run ?_
    refine Ob2.of (a := .slice (some ⟨H3.length, 0, none⟩) 1 1) (b := H3 ++ [.cells (.row 3) [.int .i64 (IntKind.i64.wrap ((i : Int) + 1))]]) rfl ?_
    refine run ?_
    exact ⟨.inr ⟨_, g3.1, rfl, at_push _ _⟩, g3.trans (.push _ _)⟩
theorem rtargets_ax {H : Heap} {c : CodeT} {sv : Value} (hs : RL 3 insR H sv c.ins) (at_ : Int) : AX Tryd.prog 62 #[codeV c sv, .int .i64 at_] H (fun v H' => Nums H.length H' v (tgt c.ins at_) ∧ Grow H H') := by
  refine AX.body (n := 46) (rs := [.tmp 4]) Tryd.func62 rfl (by decide) rfl rfl (bC_sound _ _ _ _ ?_)
  (conv => whnf)
  refine Ob2.box rfl fun q H1 hq k1 k2 => ?_
  have hb := hblk_of k1
  have hlen : alen Tryd.prog 43 sv H1 = some (.int .i64 c.ins.length) := hs.len rfl _
  by_cases h0 : at_ < 0
  · have d1 : decide (at_ < 0) = true := decide_eq_true h0
    refine run ?_
    refine ⟨.inl ⟨rfl, ?_⟩, k2⟩
    unfold tgt; rw [if_pos (.inl h0)]
  have d1 : decide (at_ < 0) = false := decide_eq_false h0
  by_cases h1 : (c.ins.length : Int) ≤ at_
  · have d2 : decide (at_ ≥ (c.ins.length : Int)) = true := decide_eq_true h1
    refine run ?_
    refine ⟨.inl ⟨rfl, ?_⟩, k2⟩
    unfold tgt; rw [if_pos (.inr h1)]
  have d2 : decide (at_ ≥ (c.ins.length : Int)) = false := decide_eq_false h1
  obtain ⟨i, rfl⟩ : ∃ i : Nat, at_ = (i : Int) := ⟨at_.toNat, by omega⟩
  obtain ⟨x, hx⟩ : ∃ x, c.ins[i]? = some x := ⟨_, List.getElem?_eq_getElem (by omega)⟩
  obtain ⟨b, i1, i2⟩ := ld_ins hs hx
  have i3 := i2 _ k2
  have i4 := ld_op hs hx i1 _ k2
  have ht : tgt c.ins (i : Int) = if x.1 = 32 then [] else if x.1 = 22 then [x.2.1] else if gos x.1 then [IntKind.i64.wrap ((i : Int) + 1), x.2.1] else [IntKind.i64.wrap ((i : Int) + 1)] := by
    unfold tgt; rw [if_neg (by omega), Int.toNat_natCast, hx]
  rw [ht]
  by_cases h32 : x.1 = 32
  · rw [h32] at i4
    rw [if_pos h32]
    refine run ?_
    exact ⟨.inl ⟨rfl, rfl⟩, k2⟩
  have e32 : (x.1 == 32) = false := by rw [beq_eq_false_iff_ne]; exact h32
  rw [if_neg h32]
  refine run ?_
  refine Ob2.alloc rfl fun q2 H2 hq2 a1 a2 => ?_
  refine run ?_
  refine Ob.store rfl rfl rfl a1 rfl (by first | exact Nat.le_of_ble_eq_true rfl | simp) fun H3 b1 b2 b3 => ?_
  have g3 : Grow H H3 := k2.trans (a2.but_new b2 (by omega))
  have hb3 := hblk_of b1
  by_cases h22 : x.1 = 22
  · rw [h22] at hb3
    rw [if_pos h22]
    refine run ?_
    refine Ob2.of (a := .slice (some ⟨H3.length, 0, none⟩) 1 1) (b := H3 ++ [.cells (.row 3) [.int .i64 x.2.1]]) rfl ?_
    refine run ?_
    exact ⟨.inr ⟨_, g3.1, rfl, at_push _ _⟩, g3.trans (.push _ _)⟩
  have e22 : (x.1 == 22) = false := by rw [beq_eq_false_iff_ne]; exact h22
  rw [if_neg h22]
  refine run ?_
  refine (rgoes_ax H3 x.1).mono ?_
  rintro _ X ⟨rfl, e⟩
  subst X
  cases hg : gos x.1 with
  | true =>
    rw [if_pos rfl]
    refine run ?_
    refine Ob2.of (a := .slice (some ⟨H3.length, 0, none⟩) 2 1) (b := H3 ++ [.cells (.row 3) [.int .i64 (IntKind.i64.wrap ((i : Int) + 1)), .int .i64 x.2.1]]) rfl ?_
    refine run ?_
    exact ⟨.inr ⟨_, g3.1, rfl, at_push _ _⟩, g3.trans (.push _ _)⟩
  | false =>
    rw [if_neg (by decide)]
    refine run ?_
    refine Ob2.of (a := .slice (some ⟨H3.length, 0, none⟩) 1 1) (b := H3 ++ [.cells (.row 3) [.int .i64 (IntKind.i64.wrap ((i : Int) + 1))]]) rfl ?_
    refine run ?_
    exact ⟨.inr ⟨_, g3.1, rfl, at_push _ _⟩, g3.trans (.push _ _)⟩
end Go.Proofs.YtmdpifedcaaobaaDoor
/- Package code: operators' signs, and which arguments an instruction may have. -/
set_option linter.unusedVariables false
set_option linter.unusedSimpArgs false
set_option maxRecDepth 20000
set_option maxHeartbeats 8000000
namespace Go.Proofs.YtmdpifedcaaobaaDoor
open Go Ax
def signL : List ByteArray := [.empty, ⟨#[43]⟩, ⟨#[45]⟩, ⟨#[42]⟩, ⟨#[47]⟩, ⟨#[37]⟩, ⟨#[60]⟩, ⟨#[60, 61]⟩, ⟨#[62]⟩, ⟨#[62, 61]⟩, ⟨#[61, 61]⟩, ⟨#[33, 61]⟩]
def signS (a : Int) : ByteArray := signL.getD a.toNat .empty
theorem eleven {a : Int} (h1 : 1 ≤ a) (h7 : a < 12) : a = 1 ∨ a = 2 ∨ a = 3 ∨ a = 4 ∨ a = 5 ∨ a = 6 ∨ a = 7 ∨ a = 8 ∨ a = 9 ∨ a = 10 ∨ a = 11 := by omega
theorem sign_no {a : Int} (h : ¬ (1 ≤ a ∧ a < 12)) : signS a = .empty := by
  unfold signS
  by_cases h0 : a < 1
  · rw [show a.toNat = 0 by omega]; rfl
  · rw [List.getD_eq_getElem?_getD, List.getElem?_eq_none (by simp [signL]; omega)]; rfl
theorem sign_ax (H : Heap) (a : Int) : AX Tryd.prog 84 #[.int .i64 a] H (fun v H' => v = .string (signS a) ∧ H' = H) := by
  refine AX.quiet ?_
  suffices hh : AX Tryd.prog 84 #[.int .i64 a] H (fun v H' => v = .string (signS a) ∧ Grow H H') from hh.mono fun v _ ⟨e, g⟩ => ⟨e ▸ plain_str _, e, g⟩
  refine AX.body (n := 14) (rs := [.tmp 2]) Tryd.func84 rfl (by decide) rfl rfl (bC_sound _ _ _ _ ?_)
  refine run ?_
  refine Ob2.alloc rfl fun q H1 hq a1 k1 => ?_
  refine run ?_
  refine Ob.store rfl rfl rfl a1 rfl (by first | exact Nat.le_of_ble_eq_true rfl | simp) fun H2 b1 b2 b3 => ?_
  have g2 : Grow H H2 := k1.but_new b2 (by omega)
  have hb := hblk_of b1
  by_cases h : 1 ≤ a ∧ a < 12
  · rcases eleven h.1 h.2 with rfl | rfl | rfl | rfl | rfl | rfl | rfl | rfl | rfl | rfl | rfl <;> (refine run ?_; exact ⟨rfl, g2⟩)
  · rw [sign_no h]
    (try (conv => whnf)); (repeat' ((fail_if_success (with_reducible refine And.intro ?_ ?_)); (fail_if_success (with_reducible refine Exists.intro ?_ ?_)); (first | (refine step0 ?_) | (apply bIf.of <;> intro hc <;> (conv => whnf)))))
    all_goals first | exact ⟨rfl, g2⟩ | (exfalso; (simp only [ba_ne_t, ba_ne_f, ba_eq_t, ba_eq_f, bne_iff_ne, bne_eq_false_iff_eq, decide_eq_true_eq, decide_eq_false_iff_not, beq_iff_eq, beq_eq_false_iff_ne, ne_eq, Bool.not_eq_true, Bool.not_eq_false, Bool.not_eq_true', Bool.not_eq_false'] at *); omega)
end Go.Proofs.YtmdpifedcaaobaaDoor
/- Package code: which arguments an instruction may have. -/
set_option linter.unusedVariables false
set_option linter.unusedSimpArgs false
set_option maxRecDepth 20000
set_option maxHeartbeats 8000000
namespace Go.Proofs.YtmdpifedcaaobaaDoor
open Go Ax
def argP (pl cl gl lc il op a : Int) : Prop :=
  (op = 2 ∨ op = 6 ∨ op = 12 ∨ op = 16 ∨ op = 17 ∨ op = 19 ∨ op = 30 ∨ op = 31 ∨ op = 32) ∧ a = 0 ∨ op = 1 ∧ 1 ≤ a ∧ a ≤ 1000 ∨ op = 3 ∧ 0 ≤ a ∧ a < 2 ∨ op = 4 ∧ -4611686018427387904 ≤ a ∧ a ≤ 4611686018427387903 ∨
  (op = 5 ∨ op = 13 ∨ op = 14 ∨ op = 15 ∨ op = 18 ∨ op = 27) ∧ 0 ≤ a ∧ a < pl ∨ op = 7 ∧ 0 ≤ a ∧ a < cl ∨ (op = 8 ∨ op = 9) ∧ 0 ≤ a ∧ a < lc ∨ (op = 10 ∨ op = 11) ∧ 0 ≤ a ∧ a < gl ∨ op = 20 ∧ 1 ≤ a ∧ a ≤ 2 ∨ op = 21 ∧ 1 ≤ a ∧ a ≤ 11 ∨
  (op = 22 ∨ op = 23 ∨ op = 24 ∨ op = 25) ∧ 0 ≤ a ∧ a < il ∨ (op = 26 ∨ op = 28) ∧ 0 ≤ a ∧ a < 7 ∨ op = 29 ∧ 1 ≤ a ∧ a ≤ 7
instance (pl cl gl lc il op a : Int) : Decidable (argP pl cl gl lc il op a) := by unfold argP; infer_instance
theorem sign_some (a : Int) : (signS a != ⟨#[]⟩) = decide (1 ≤ a ∧ a ≤ 11) := by
  by_cases h : 1 ≤ a ∧ a < 12
  · rcases eleven h.1 h.2 with rfl | rfl | rfl | rfl | rfl | rfl | rfl | rfl | rfl | rfl | rfl <;> rfl
  · rw [sign_no h, decide_eq_false (by omega)]; rfl
theorem built_some (a : Int) : (builtS a != ⟨#[]⟩) = decide (1 ≤ a ∧ a ≤ 7) := by
  by_cases h : 1 ≤ a ∧ a ≤ 7
  · rcases seven h.1 h.2 with rfl | rfl | rfl | rfl | rfl | rfl | rfl <;> rfl
  · have hs : builtS a = .empty := by unfold builtS; rw [if_neg (by omega), if_neg (by omega), if_neg (by omega), if_neg (by omega), if_neg (by omega), if_neg (by omega), if_neg (by omega)]
    rw [hs, decide_eq_false h]; rfl
abbrev progV (p : ProgT) (ps cs : Value) : Value := .agg #[.int .i64 p.1, ps, cs]
theorem arg_ax {H : Heap} {p : ProgT} {ps cs sv : Value} {c : CodeT} (hp : RL 1 strR H ps p.2.1) (hc : RL 5 codeR H cs p.2.2) (hs : RL 3 insR H sv c.ins) (op a b : Int) :
    AX Tryd.prog 63 #[progV p ps cs, codeV c sv, insV op a b] H (fun v H' => v = .bool (decide (argP p.2.1.length p.2.2.length p.1 c.2.1 c.ins.length op a)) ∧ H' = H) := by
  refine AX.quiet ?_
  suffices hh : AX Tryd.prog 63 #[progV p ps cs, codeV c sv, insV op a b] H (fun v H' => v = .bool (decide (argP p.2.1.length p.2.2.length p.1 c.2.1 c.ins.length op a)) ∧ Grow H H') from hh.mono fun v _ ⟨e, g⟩ => ⟨e ▸ plain_bool _, e, g⟩
  refine AX.body (n := 129) (rs := [.tmp 6]) Tryd.func63 rfl (by decide) rfl rfl (bC_sound _ _ _ _ ?_)
  (conv => whnf)
  refine Ob2.box rfl fun q1 H1 hq1 a1 g1 => ?_
  (conv => whnf)
  refine Ob2.box rfl fun q2 H2 hq2 a2 g2 => ?_
  (conv => whnf)
  refine Ob2.box rfl fun q3 H3 hq3 a3 g3 => ?_
  have b1 := hblk_of (g3.at (g2.at a1))
  have b2 := hblk_of (g3.at a2)
  have b3 := hblk_of a3
  have l1 : alen Tryd.prog 22 ps H3 = some (.int .i64 p.2.1.length) := hp.len rfl _
  have l2 : alen Tryd.prog 23 cs H3 = some (.int .i64 p.2.2.length) := hc.len rfl _
  have l3 : alen Tryd.prog 43 sv H3 = some (.int .i64 c.ins.length) := hs.len rfl _
  have g : Grow H H3 := (g1.trans g2).trans g3
  clear g1 g2 g3 a1 a2 a3 hp hs
  (try (conv => whnf)); (repeat' ((fail_if_success (with_reducible refine And.intro ?_ ?_)); (fail_if_success (with_reducible refine Exists.intro ?_ ?_)); (first | ((with_reducible refine AX.id ?_); (first | (refine (below_ax _ _ _).mono ?_; (rintro _ X ⟨rfl, eX⟩; subst X; (conv => whnf))) | (refine (sign_ax _ _).mono ?_; (rintro _ X ⟨rfl, eX⟩; subst X; (conv => whnf))) | (refine (built_ax _ _).mono ?_; (rintro _ X ⟨rfl, eX⟩; subst X; (conv => whnf))) | (refine (goes_ax _ _).mono ?_; (rintro _ X ⟨rfl, eX⟩; subst X; (conv => whnf))))) | (refine step0 ?_) | (apply bIf.of <;> intro hc <;> (conv => whnf)))))
  all_goals refine ⟨congrArg Value.bool ?_, g⟩
  all_goals (simp only [ba_ne_t, ba_ne_f, ba_eq_t, ba_eq_f, bne_iff_ne, bne_eq_false_iff_eq, decide_eq_true_eq, decide_eq_false_iff_not, beq_iff_eq, beq_eq_false_iff_ne, ne_eq, Bool.not_eq_true, Bool.not_eq_false, Bool.not_eq_true', Bool.not_eq_false'] at *)
  all_goals first | rw [sign_some] | rw [built_some] | skip
  all_goals rw [Bool.eq_iff_iff]
  all_goals simp only [gos, decide_eq_true_eq, beq_iff_eq, decide_eq_false_iff_not, Bool.false_eq_true, reduceCtorEq, false_iff, true_iff] at *
  all_goals clear b1 b2 b3 l1 l2 l3 g
  all_goals subst_vars
  all_goals first | (simp [argP]; done) | (simp [argP] <;> omega) | (simp [argP, *] <;> omega)
theorem rarg_ax {H : Heap} {p : ProgT} {ps cs sv : Value} {c : CodeT} (hp : RL 1 strR H ps p.2.1) (hc : RL 5 codeR H cs p.2.2) (hs : RL 3 insR H sv c.ins) (op a b : Int)
    (k1 : p.2.1.length < 4294967296) (k2 : p.2.2.length < 4294967296) (k3 : c.ins.length < 4294967296) (k4 : 0 ≤ p.1 ∧ p.1 ≤ 24) (k5 : 0 ≤ c.2.1 ∧ c.2.1 ≤ 24) :
    AX Tryd.prog 43 #[progV p ps cs, codeV c sv, insV op a b] H (fun v H' => v = .bool (decide (argP p.2.1.length p.2.2.length p.1 c.2.1 c.ins.length op a)) ∧ H' = H) := by
  refine AX.quiet ?_
  suffices hh : AX Tryd.prog 43 #[progV p ps cs, codeV c sv, insV op a b] H (fun v H' => v = .bool (decide (argP p.2.1.length p.2.2.length p.1 c.2.1 c.ins.length op a)) ∧ Grow H H') from hh.mono fun v _ ⟨e, g⟩ => ⟨e ▸ plain_bool _, e, g⟩
  refine AX.body (n := 84) (rs := [.tmp 6]) Tryd.func43 rfl (by decide) rfl rfl (bC_sound _ _ _ _ ?_)
  (conv => whnf)
  refine Ob2.box rfl fun q1 H1 hq1 a1 g1 => ?_
  (conv => whnf)
  refine Ob2.box rfl fun q2 H2 hq2 a2 g2 => ?_
  (conv => whnf)
  refine Ob2.box rfl fun q3 H3 hq3 a3 g3 => ?_
  have b1 := hblk_of (g3.at (g2.at a1))
  have b2 := hblk_of (g3.at a2)
  have b3 := hblk_of a3
  have l1 : alen Tryd.prog 22 ps H3 = some (.int .i64 p.2.1.length) := hp.len rfl _
  have l2 : alen Tryd.prog 23 cs H3 = some (.int .i64 p.2.2.length) := hc.len rfl _
  have l3 : alen Tryd.prog 43 sv H3 = some (.int .i64 c.ins.length) := hs.len rfl _
  have w1 : IntKind.i64.wrap ((p.2.1.length : Int) - 1) = (p.2.1.length : Int) - 1 := wrap_i64 (by omega) (by omega)
  have w2 : IntKind.i64.wrap ((p.2.2.length : Int) - 1) = (p.2.2.length : Int) - 1 := wrap_i64 (by omega) (by omega)
  have w3 : IntKind.i64.wrap ((c.ins.length : Int) - 1) = (c.ins.length : Int) - 1 := wrap_i64 (by omega) (by omega)
  have w4 : IntKind.i64.wrap (p.1 - 1) = p.1 - 1 := wrap_i64 (by omega) (by omega)
  have w5 : IntKind.i64.wrap (c.2.1 - 1) = c.2.1 - 1 := wrap_i64 (by omega) (by omega)
  have g : Grow H H3 := (g1.trans g2).trans g3
  clear g1 g2 g3 a1 a2 a3 hp hs
  (try (conv => whnf)); (repeat' ((fail_if_success (with_reducible refine And.intro ?_ ?_)); (fail_if_success (with_reducible refine Exists.intro ?_ ?_)); (first | (refine step0 ?_) | (apply bIf.of <;> intro hc <;> (conv => whnf)))))
  all_goals refine ⟨congrArg Value.bool ?_, g⟩
  all_goals (simp only [ba_ne_t, ba_ne_f, ba_eq_t, ba_eq_f, bne_iff_ne, bne_eq_false_iff_eq, decide_eq_true_eq, decide_eq_false_iff_not, beq_iff_eq, beq_eq_false_iff_ne, ne_eq, Bool.not_eq_true, Bool.not_eq_false, Bool.not_eq_true', Bool.not_eq_false'] at *)
  all_goals rw [Bool.eq_iff_iff]
  all_goals simp only [w1, w2, w3, w4, w5, gos, decide_eq_true_eq, beq_iff_eq, decide_eq_false_iff_not, Bool.false_eq_true, reduceCtorEq, false_iff, true_iff] at *
  all_goals clear b1 b2 b3 l1 l2 l3 g
  all_goals subst_vars
  all_goals first | (simp [argP]; done) | (simp [argP] <;> omega) | (simp [argP, *] <;> omega)
end Go.Proofs.YtmdpifedcaaobaaDoor
/- Package slices: are two lists alike? -/
set_option linter.unusedVariables false
set_option linter.unusedSimpArgs false
set_option maxRecDepth 20000
set_option maxHeartbeats 8000000
namespace Go.Proofs.YtmdpifedcaaobaaDoor
open Go Ax
/-- A string of a list of strings. -/
theorem ld_str {H : Heap} {sv : Value} {L : List ByteArray} (h : RL 1 strR H sv L) {i : Nat} {x : ByteArray} (hx : L[i]? = some x) :
    ∃ q, aindexAddr Tryd.prog 22 sv (.int .i64 (i : Int)) = some q ∧ ∀ H', Grow H H' → aload Tryd.prog 9 q H' = some (.string x) :=
  h.ld1 (fun _ _ _ h => h) rfl rfl rfl rfl hx
end Go.Proofs.YtmdpifedcaaobaaDoor
/- Package code: are two programs alike? -/
set_option linter.unusedVariables false
set_option linter.unusedSimpArgs false
set_option maxRecDepth 20000
set_option maxHeartbeats 8000000
namespace Go.Proofs.YtmdpifedcaaobaaDoor
open Go Ax
theorem ins_neq (x y : Ins) : abin Tryd.prog .neq 56 (insV x.1 x.2.1 x.2.2) (insV y.1 y.2.1 y.2.2) = some (.bool (decide (x ≠ y))) := by
  have h : abin Tryd.prog .neq 56 (insV x.1 x.2.1 x.2.2) (insV y.1 y.2.1 y.2.2) = some (.bool (!(x.1 == y.1 && (x.2.1 == y.2.1 && (x.2.2 == y.2.2 && true))))) := by kernel_rfl
  rw [h]
  obtain ⟨a, b, c⟩ := x
  obtain ⟨a', b', c'⟩ := y
  congr 2
  rw [Bool.eq_iff_iff]
  simp
theorem code_eq {c d : CodeT} : c = d ↔ c.1 = d.1 ∧ c.2.1 = d.2.1 ∧ c.2.2.1 = d.2.2.1 ∧ c.2.2.2.1 = d.2.2.2.1 ∧ c.2.2.2.2 = d.2.2.2.2 := by
  obtain ⟨a, b, c, e, f⟩ := c
  obtain ⟨a', b', c', e', f'⟩ := d
  simp
instance : DecidableEq CodeT := fun c d => decidable_of_iff _ (code_eq (c := c) (d := d)).symm
theorem ld_code {H : Heap} {sv : Value} {L : List CodeT} (h : RL 5 codeR H sv L) {i : Nat} {x : CodeT} (hx : L[i]? = some x) :
    ∃ q u, aindexAddr Tryd.prog 23 sv (.int .i64 (i : Int)) = some q ∧ RL 3 insR H u x.ins ∧ ∀ H', Grow H H' → aload Tryd.prog 45 q H' = some (codeV x u) := by
  obtain ⟨q, l, h1, ⟨u, rfl, h3⟩, h4⟩ := h.ldA (P := Tryd.prog) (t := 23) (e := 45) rfl rfl rfl rfl hx
  exact ⟨q, u, h1, h3, h4⟩
theorem prog_eq {c d : ProgT} : c = d ↔ c.1 = d.1 ∧ c.2.1 = d.2.1 ∧ c.2.2 = d.2.2 := by
  obtain ⟨a, b, c⟩ := c
  obtain ⟨a', b', c'⟩ := d
  simp
instance : DecidableEq ProgT := fun c d => decidable_of_iff _ (prog_eq (c := c) (d := d)).symm
/-- What a program's lists are at most. -/
def Small (p : ProgT) : Prop := p.2.1.length < 4294967296 ∧ p.2.2.length < 4294967296 ∧ ∀ c ∈ p.2.2, c.ins.length < 4294967296
end Go.Proofs.YtmdpifedcaaobaaDoor
/- The document of package code: are two programs alike? -/
set_option linter.unusedVariables false
set_option linter.unusedSimpArgs false
set_option maxRecDepth 20000
set_option maxHeartbeats 8000000
namespace Go.Proofs.YtmdpifedcaaobaaDoor
open Go Ax
theorem rsame_ax {H : Heap} {p q : ProgT} {ps cs qs ds : Value} (h1 : RL 1 strR H ps p.2.1) (h2 : RL 5 codeR H cs p.2.2) (h3 : RL 1 strR H qs q.2.1) (h4 : RL 5 codeR H ds q.2.2) (hs : Small p) :
    AX Tryd.prog 15 #[progV p ps cs, progV q qs ds] H (fun r H' => r = .bool (decide (p = q)) ∧ H' = H) := by
  refine AX.quiet ?_
  suffices hh : AX Tryd.prog 15 #[progV p ps cs, progV q qs ds] H (fun r H' => r = .bool (decide (p = q)) ∧ Grow H H') from hh.mono fun v _ ⟨e, g⟩ => ⟨e ▸ plain_bool _, e, g⟩
  refine AX.body (n := 121) (rs := [.tmp 4]) Tryd.func15 rfl (by decide) rfl rfl (bC_sound _ _ _ _ ?_)
  (conv => whnf)
  refine Ob2.box rfl fun q1 H1 hq1 a1 g1 => ?_
  (conv => whnf)
  refine Ob2.box rfl fun q2 H2 hq2 a2 g2 => ?_
  have b1 := hblk_of (g2.at a1)
  have b2 := hblk_of a2
  have g : Grow H H2 := g1.trans g2
  have l1 : alen Tryd.prog 22 ps H2 = some (.int .i64 p.2.1.length) := h1.len rfl _
  have l2 : alen Tryd.prog 22 qs H2 = some (.int .i64 q.2.1.length) := h3.len rfl _
  have l3 : alen Tryd.prog 23 cs H2 = some (.int .i64 p.2.2.length) := h2.len rfl _
  have l4 : alen Tryd.prog 23 ds H2 = some (.int .i64 q.2.2.length) := h4.len rfl _
  clear a1 a2
  (try (conv => whnf)); (repeat' ((fail_if_success (with_reducible refine And.intro ?_ ?_)); (fail_if_success (with_reducible refine Exists.intro ?_ ?_)); (first | (refine step0 ?_) | (apply bIf.of <;> intro hc <;> (conv => whnf)))))
  rotate_right
  all_goals try (refine ⟨congrArg Value.bool (decide_eq_false fun h => ?_).symm, g⟩; subst h; simp at *; done)
  have hG : p.1 = q.1 := by (simp only [ba_ne_t, ba_ne_f, ba_eq_t, ba_eq_f, bne_iff_ne, bne_eq_false_iff_eq, decide_eq_true_eq, decide_eq_false_iff_not, beq_iff_eq, beq_eq_false_iff_ne, ne_eq, Bool.not_eq_true, Bool.not_eq_false, Bool.not_eq_true', Bool.not_eq_false'] at *); omega
  have hlen : p.2.1.length = q.2.1.length := by (simp only [ba_ne_t, ba_ne_f, ba_eq_t, ba_eq_f, bne_iff_ne, bne_eq_false_iff_eq, decide_eq_true_eq, decide_eq_false_iff_not, beq_iff_eq, beq_eq_false_iff_ne, ne_eq, Bool.not_eq_true, Bool.not_eq_false, Bool.not_eq_true', Bool.not_eq_false'] at *); omega
  have hlen2 : p.2.2.length = q.2.2.length := by (simp only [ba_ne_t, ba_ne_f, ba_eq_t, ba_eq_f, bne_iff_ne, bne_eq_false_iff_eq, decide_eq_true_eq, decide_eq_false_iff_not, beq_iff_eq, beq_eq_false_iff_ne, ne_eq, Bool.not_eq_true, Bool.not_eq_false, Bool.not_eq_true', Bool.not_eq_false'] at *); omega
  clear hc
  refine SW.loop (α := Nat) (fun m => [(2, .pointer (some ⟨q1, 0, none⟩)), (3, .pointer (some ⟨q2, 0, none⟩)), (5, .int .i64 (m : Int))]) (fun m H' => m ≤ p.2.1.length ∧ p.2.1.take m = q.2.1.take m ∧ H' = H2) (fun m => p.2.1.length - m) ⟨0, ⟨rfl, rfl, rfl, trivial⟩, by omega, rfl, rfl⟩ ?_
  rintro m X ⟨hm, ht, e⟩
  subst X
  refine bC_sound _ _ _ _ ?_
  by_cases hml : m < p.2.1.length
  · have d1 : decide ((m : Int) < (p.2.1.length : Int)) = true := decide_eq_true (by omega)
    obtain ⟨x, hx⟩ := get_lt hml
    obtain ⟨y, hy⟩ := get_lt (L := q.2.1) (m := m) (by omega)
    obtain ⟨u, i1, i2⟩ := ld_str h1 hx
    obtain ⟨v, j1, j2⟩ := ld_str h3 hy
    have i3 := i2 H2 g
    have j3 := j2 H2 g
    refine run ?_
    apply SW.drawG [(0, [], [42, 45, 46, 47, 48, 49], false), (1, [(40, 0)], [40, 42, 45, 46, 47, 48, 49], false), (2, [], [40, 41, 45, 46, 47, 48, 49], false), (3, [(40, 0), (41, 1), (42, 2)], [40, 41, 42, 45, 46, 47, 48, 49], false), (4, [(40, 0), (41, 1), (42, 2), (43, 3)], [40, 41, 42, 43, 45, 46, 47, 48, 49], false), (5, [], [40, 41, 42, 43, 44, 47], false), (6, [(45, 5)], [40, 41, 42, 43, 44, 45, 47], false), (7, [], [40, 41, 42, 43, 44, 45, 46], false), (8, [(45, 5), (46, 6), (47, 7)], [40, 41, 42, 43, 44, 45, 46, 47], false), (9, [(45, 5), (46, 6), (47, 7), (48, 8)], [40, 41, 42, 43, 44, 45, 46, 47, 48], false), (10, [(40, 0), (41, 1), (42, 2), (43, 3), (44, 4), (45, 5), (46, 6), (47, 7), (48, 8), (49, 9)], [40, 41, 42, 43, 44, 45, 46, 47, 48, 49], false)]
      [(40, 0), (41, 1), (42, 2), (43, 3), (44, 4), (45, 5), (46, 6), (47, 7), (48, 8), (49, 9), (50, 10)]
      [(2, _), (3, _), (5, _)] rfl (by kernel_rfl)
    case hF => exact ⟨rfl, rfl, rfl, trivial⟩
    (try (conv => whnf)); (repeat' ((fail_if_success (with_reducible refine And.intro ?_ ?_)); (fail_if_success (with_reducible refine Exists.intro ?_ ?_)); (first | (refine step0 ?_) | (apply bIf.of <;> intro hc <;> (conv => whnf)))))
    · have hne := ba_ne_t.1 hc
      refine ⟨congrArg Value.bool (decide_eq_false fun h => hne ?_).symm, g⟩
      subst h
      rw [hx] at hy
      simpa using hy
    · have hxy : x = y := ba_ne_f.1 hc
      subst hxy
      exact ⟨m + 1, ⟨rfl, rfl, congrArg (fun z => some (Value.int .i64 z)) (w_succ (by have := hs.1; omega)), trivial⟩, ⟨hml, take_next ht hx hy, rfl⟩, by show p.2.1.length - (m + 1) < p.2.1.length - m; omega⟩
  have d1 : decide ((m : Int) < (p.2.1.length : Int)) = false := decide_eq_false (by omega)
  have hLM : p.2.1 = q.2.1 := by rwa [List.take_of_length_le (by omega), List.take_of_length_le (by omega)] at ht
  clear ht
  refine run ?_
  refine SW.loop (α := Nat) (fun m => [(2, .pointer (some ⟨q1, 0, none⟩)), (3, .pointer (some ⟨q2, 0, none⟩)), (6, .int .i64 (m : Int))]) (fun m H' => m ≤ p.2.2.length ∧ p.2.2.take m = q.2.2.take m ∧ Grow H2 H') (fun m => p.2.2.length - m) ⟨0, ⟨rfl, rfl, rfl, trivial⟩, by omega, rfl, .refl _⟩ ?_
  clear d1 hm hml m
  rintro m H3 ⟨hm, ht, g3⟩
  refine bC_sound _ _ _ _ ?_
  have c1 := g3.hblk b1
  have c2 := g3.hblk b2
  have gg := g.trans g3
  have l3 : alen Tryd.prog 23 cs H3 = some (.int .i64 p.2.2.length) := h2.len rfl _
  by_cases hml : m < p.2.2.length
  · have d1 : decide ((m : Int) < (p.2.2.length : Int)) = true := decide_eq_true (by omega)
    obtain ⟨x, hx⟩ := get_lt hml
    obtain ⟨y, hy⟩ := get_lt (L := q.2.2) (m := m) (by omega)
    obtain ⟨u, su, i1, i4, i2⟩ := ld_code h2 hx
    obtain ⟨v, sv, j1, j4, j2⟩ := ld_code h4 hy
    have hxl := hs.2.2 x (List.mem_of_getElem? hx)
    refine run ?_
    have hlx : alen Tryd.prog 43 su H3 = some (.int .i64 x.ins.length) := i4.len rfl _
    refine SW.sub (F := [(2, _), (3, _), (6, _)]) ?_ (Sub.of ⟨rfl, rfl, rfl, trivial⟩)
    refine SW.drawS (R2 10 [.pointer (some ⟨q1, 2, none⟩), cs, .int .i64 (m : Int), u, codeV x su, .pointer (some ⟨q2, 2, none⟩), ds, .int .i64 (m : Int), v, codeV y sv] H3 [.int .i64 0, .int .i64 0, .int .i64 0, .int .i64 0, .slice none 0 0] [.int .i64 0, .int .i64 0, .int .i64 0, .int .i64 0, .slice none 0 0] [.int .i64 x.1, .int .i64 x.2.1, .int .i64 x.2.2.1, .int .i64 x.2.2.2.1, su] [.int .i64 y.1, .int .i64 y.2.1, .int .i64 y.2.2.1, .int .i64 y.2.2.2.1, sv]) rfl (by kernel_rfl) (R2.init ..) ?_ ?_
    · intro i o L V K ho hl hah hbh hR
      have hk := hR.grow
      have c1 := hk.hblk c1
      have c2 := hk.hblk c2
      have i3 := i2 K (gg.trans hk)
      have j3 := j2 K (gg.trans hk)
      match i, ho, hl, hah, hbh with
      | 0, ho, hl, hah, hbh =>
        obtain rfl := Option.some.inj ho
        rw [envOf_eq, show pairsOf _ _ 0 = [] from by kernel_rfl, show exOf _ _ 0 = [60, 63, 64, 65, 66, 67, 7, 8] from by kernel_rfl]
        try simp only [valsOf]
        refine run ?_
        exact hR.float hl (by decide) rfl
      | 1, ho, hl, hah, hbh =>
        obtain rfl := Option.some.inj ho
        have e0 : V.getD 0 undef = .pointer (some ⟨q1, 2, none⟩) := hR.val 0 (by decide) (hah 0 (by kernel_rfl))
        rw [envOf_eq, show pairsOf _ _ 1 = [(58, 0)] from by kernel_rfl, show exOf _ _ 1 = [58, 60, 63, 64, 65, 66, 67, 7, 8] from by kernel_rfl]
        try simp only [valsOf, e0]
        refine run ?_
        exact hR.float hl (by decide) rfl
      | 2, ho, hl, hah, hbh =>
        obtain rfl := Option.some.inj ho
        rw [envOf_eq, show pairsOf _ _ 2 = [] from by kernel_rfl, show exOf _ _ 2 = [58, 59, 63, 64, 65, 66, 67, 7, 8] from by kernel_rfl]
        try simp only [valsOf]
        refine run ?_
        exact hR.float hl (by decide) rfl
      | 3, ho, hl, hah, hbh =>
        obtain rfl := Option.some.inj ho
        have e0 : V.getD 0 undef = .pointer (some ⟨q1, 2, none⟩) := hR.val 0 (by decide) (hah 0 (by kernel_rfl))
        have e1 : V.getD 1 undef = cs := hR.val 1 (by decide) (hah 1 (by kernel_rfl))
        have e2 : V.getD 2 undef = .int .i64 (m : Int) := hR.val 2 (by decide) (hah 2 (by kernel_rfl))
        rw [envOf_eq, show pairsOf _ _ 3 = [(58, 0), (59, 1), (60, 2)] from by kernel_rfl, show exOf _ _ 3 = [58, 59, 60, 63, 64, 65, 66, 67, 7, 8] from by kernel_rfl]
        try simp only [valsOf, e0, e1, e2]
        refine run ?_
        exact hR.float hl (by decide) rfl
      | 4, ho, hl, hah, hbh =>
        obtain rfl := Option.some.inj ho
        have e0 : V.getD 0 undef = .pointer (some ⟨q1, 2, none⟩) := hR.val 0 (by decide) (hah 0 (by kernel_rfl))
        have e1 : V.getD 1 undef = cs := hR.val 1 (by decide) (hah 1 (by kernel_rfl))
        have e2 : V.getD 2 undef = .int .i64 (m : Int) := hR.val 2 (by decide) (hah 2 (by kernel_rfl))
        have e3 : V.getD 3 undef = u := hR.val 3 (by decide) (hah 3 (by kernel_rfl))
        rw [envOf_eq, show pairsOf _ _ 4 = [(58, 0), (59, 1), (60, 2), (61, 3)] from by kernel_rfl, show exOf _ _ 4 = [58, 59, 60, 61, 63, 64, 65, 66, 67, 7, 8] from by kernel_rfl]
        try simp only [valsOf, e0, e1, e2, e3]
        refine run ?_
        exact hR.float hl (by decide) rfl
      | 5, ho, hl, hah, hbh =>
        obtain rfl := Option.some.inj ho
        rw [envOf_eq, show pairsOf _ _ 5 = [] from by kernel_rfl, show exOf _ _ 5 = [58, 59, 60, 61, 62, 65, 7, 8] from by kernel_rfl]
        try simp only [valsOf]
        refine run ?_
        exact hR.float hl (by decide) rfl
      | 6, ho, hl, hah, hbh =>
        obtain rfl := Option.some.inj ho
        have e5 : V.getD 5 undef = .pointer (some ⟨q2, 2, none⟩) := hR.val 5 (by decide) (hah 5 (by kernel_rfl))
        rw [envOf_eq, show pairsOf _ _ 6 = [(63, 5)] from by kernel_rfl, show exOf _ _ 6 = [58, 59, 60, 61, 62, 63, 65, 7, 8] from by kernel_rfl]
        try simp only [valsOf, e5]
        refine run ?_
        exact hR.float hl (by decide) rfl
      | 7, ho, hl, hah, hbh =>
        obtain rfl := Option.some.inj ho
        rw [envOf_eq, show pairsOf _ _ 7 = [] from by kernel_rfl, show exOf _ _ 7 = [58, 59, 60, 61, 62, 63, 64, 7, 8] from by kernel_rfl]
        try simp only [valsOf]
        refine run ?_
        exact hR.float hl (by decide) rfl
      | 8, ho, hl, hah, hbh =>
        obtain rfl := Option.some.inj ho
        have e5 : V.getD 5 undef = .pointer (some ⟨q2, 2, none⟩) := hR.val 5 (by decide) (hah 5 (by kernel_rfl))
        have e6 : V.getD 6 undef = ds := hR.val 6 (by decide) (hah 6 (by kernel_rfl))
        have e7 : V.getD 7 undef = .int .i64 (m : Int) := hR.val 7 (by decide) (hah 7 (by kernel_rfl))
        rw [envOf_eq, show pairsOf _ _ 8 = [(63, 5), (64, 6), (65, 7)] from by kernel_rfl, show exOf _ _ 8 = [58, 59, 60, 61, 62, 63, 64, 65, 7, 8] from by kernel_rfl]
        try simp only [valsOf, e5, e6, e7]
        refine run ?_
        exact hR.float hl (by decide) rfl
      | 9, ho, hl, hah, hbh =>
        obtain rfl := Option.some.inj ho
        have e5 : V.getD 5 undef = .pointer (some ⟨q2, 2, none⟩) := hR.val 5 (by decide) (hah 5 (by kernel_rfl))
        have e6 : V.getD 6 undef = ds := hR.val 6 (by decide) (hah 6 (by kernel_rfl))
        have e7 : V.getD 7 undef = .int .i64 (m : Int) := hR.val 7 (by decide) (hah 7 (by kernel_rfl))
        have e8 : V.getD 8 undef = v := hR.val 8 (by decide) (hah 8 (by kernel_rfl))
        rw [envOf_eq, show pairsOf _ _ 9 = [(63, 5), (64, 6), (65, 7), (66, 8)] from by kernel_rfl, show exOf _ _ 9 = [58, 59, 60, 61, 62, 63, 64, 65, 66, 7, 8] from by kernel_rfl]
        try simp only [valsOf, e5, e6, e7, e8]
        refine run ?_
        exact hR.float hl (by decide) rfl
      | 10, ho, hl, hah, hbh =>
        obtain rfl := Option.some.inj ho
        rw [envOf_eq, show pairsOf _ _ 10 = [] from by kernel_rfl, show exOf _ _ 10 = [58, 59, 60, 61, 62, 63, 64, 65, 66, 67, 8] from by kernel_rfl]
        try simp only [valsOf]
        (conv => whnf)
        exact Ob2.of (b := K ++ [.cells .var [.int .i64 0, .int .i64 0, .int .i64 0, .int .i64 0, .slice none 0 0]]) rfl (hR.allocA rfl hl (hbh 12 (by decide) (by kernel_rfl)))
      | 11, ho, hl, hah, hbh =>
        obtain rfl := Option.some.inj ho
        rw [envOf_eq, show pairsOf _ _ 11 = [] from by kernel_rfl, show exOf _ _ 11 = [58, 59, 60, 61, 62, 63, 64, 65, 66, 67, 7] from by kernel_rfl]
        try simp only [valsOf]
        (conv => whnf)
        exact Ob2.of (b := K ++ [.cells .var [.int .i64 0, .int .i64 0, .int .i64 0, .int .i64 0, .slice none 0 0]]) rfl (hR.allocB rfl hl (hbh 13 (by decide) (by kernel_rfl)))
      | 12, ho, hl, hah, hbh =>
        obtain rfl := Option.some.inj ho
        have e0 : V.getD 0 undef = .pointer (some ⟨q1, 2, none⟩) := hR.val 0 (by decide) (hah 0 (by kernel_rfl))
        have e1 : V.getD 1 undef = cs := hR.val 1 (by decide) (hah 1 (by kernel_rfl))
        have e2 : V.getD 2 undef = .int .i64 (m : Int) := hR.val 2 (by decide) (hah 2 (by kernel_rfl))
        have e3 : V.getD 3 undef = u := hR.val 3 (by decide) (hah 3 (by kernel_rfl))
        have e4 : V.getD 4 undef = codeV x su := hR.val 4 (by decide) (hah 4 (by kernel_rfl))
        obtain ⟨a, a1, a2, a3⟩ := hR.fst (hah 10 (by kernel_rfl))
        obtain ⟨b, b1, b2, b3⟩ := hR.snd (hah 11 (by kernel_rfl))
        rw [envOf_eq, show pairsOf _ _ 12 = [(58, 0), (59, 1), (60, 2), (61, 3), (62, 4), (7, 10), (8, 11)] from by kernel_rfl, show exOf _ _ 12 = [58, 59, 60, 61, 62, 63, 64, 65, 66, 67, 7, 8] from by kernel_rfl]
        have b2 : V.getD 11 undef = .pointer (some ⟨b, 0, none⟩) := b2
        try simp only [valsOf, e0, e1, e2, e3, e4, a2, b2]
        rw [if_neg (by simp [hl])] at a3
        (conv => whnf)
        exact Ob.store rfl rfl rfl a3 rfl (by first | exact Nat.le_of_ble_eq_true rfl | simp) fun K1 k1 k2 k3 => hR.storeA rfl hl (hah 10 (by kernel_rfl)) a2 k1 k2
      | 13, ho, hl, hah, hbh =>
        obtain rfl := Option.some.inj ho
        have e0 : V.getD 0 undef = .pointer (some ⟨q1, 2, none⟩) := hR.val 0 (by decide) (hah 0 (by kernel_rfl))
        have e1 : V.getD 1 undef = cs := hR.val 1 (by decide) (hah 1 (by kernel_rfl))
        have e2 : V.getD 2 undef = .int .i64 (m : Int) := hR.val 2 (by decide) (hah 2 (by kernel_rfl))
        have e3 : V.getD 3 undef = u := hR.val 3 (by decide) (hah 3 (by kernel_rfl))
        have e4 : V.getD 4 undef = codeV x su := hR.val 4 (by decide) (hah 4 (by kernel_rfl))
        have e5 : V.getD 5 undef = .pointer (some ⟨q2, 2, none⟩) := hR.val 5 (by decide) (hah 5 (by kernel_rfl))
        have e6 : V.getD 6 undef = ds := hR.val 6 (by decide) (hah 6 (by kernel_rfl))
        have e7 : V.getD 7 undef = .int .i64 (m : Int) := hR.val 7 (by decide) (hah 7 (by kernel_rfl))
        have e8 : V.getD 8 undef = v := hR.val 8 (by decide) (hah 8 (by kernel_rfl))
        have e9 : V.getD 9 undef = codeV y sv := hR.val 9 (by decide) (hah 9 (by kernel_rfl))
        obtain ⟨a, a1, a2, a3⟩ := hR.fst (hah 10 (by kernel_rfl))
        obtain ⟨b, b1, b2, b3⟩ := hR.snd (hah 11 (by kernel_rfl))
        rw [envOf_eq, show pairsOf _ _ 13 = [(58, 0), (59, 1), (60, 2), (61, 3), (62, 4), (63, 5), (64, 6), (65, 7), (66, 8), (67, 9), (7, 10), (8, 11)] from by kernel_rfl, show exOf _ _ 13 = [58, 59, 60, 61, 62, 63, 64, 65, 66, 67, 7, 8] from by kernel_rfl]
        have b2 : V.getD 11 undef = .pointer (some ⟨b, 0, none⟩) := b2
        try simp only [valsOf, e0, e1, e2, e3, e4, e5, e6, e7, e8, e9, a2, b2]
        rw [if_neg (by simp [hl])] at b3
        (conv => whnf)
        exact Ob.store rfl rfl rfl b3 rfl (by first | exact Nat.le_of_ble_eq_true rfl | simp) fun K1 k1 k2 k3 => hR.storeB rfl hl (hah 11 (by kernel_rfl)) b2 k1 k2
      | i + 14, ho, hl, hah, hbh => exact absurd ho (by simp)
    intro V K hR
    have hk := hR.grow
    obtain ⟨pa, a1, a2, a3⟩ := hR.fst rfl
    obtain ⟨pb, b1, b2, b3⟩ := hR.snd rfl
    have a2 : V.getD 10 undef = .pointer (some ⟨pa, 0, none⟩) := a2
    have b2 : V.getD 11 undef = .pointer (some ⟨pb, 0, none⟩) := b2
    have hne : V.getD 10 undef ≠ V.getD 11 undef := hR.ne rfl rfl
    rw [endOf_eq, show endsOf _ = [(58, 0), (59, 1), (60, 2), (61, 3), (62, 4), (63, 5), (64, 6), (65, 7), (66, 8), (67, 9), (7, 10), (8, 11)] from by kernel_rfl]
    simp only [valsOf, a2, b2]
    rw [a2, b2] at hne
    have a3 : K[pa]? = some (.cells .var [.int .i64 x.1, .int .i64 x.2.1, .int .i64 x.2.2.1, .int .i64 x.2.2.2.1, su]) := a3
    have b3 : K[pb]? = some (.cells .var [.int .i64 y.1, .int .i64 y.2.1, .int .i64 y.2.2.1, .int .i64 y.2.2.2.1, sv]) := b3
    clear hR
    have ha := hblk_of a3
    have hb := hblk_of b3
    have lx : alen Tryd.prog 43 su K = some (.int .i64 x.ins.length) := i4.len rfl _
    have ly : alen Tryd.prog 43 sv K = some (.int .i64 y.ins.length) := j4.len rfl _
    clear hc
    have key : p = q → x = y := fun h => by
      subst h
      rw [hx] at hy
      simpa using hy
    (try (conv => whnf)); (repeat' ((fail_if_success (with_reducible refine And.intro ?_ ?_)); (fail_if_success (with_reducible refine Exists.intro ?_ ?_)); (first | (refine step0 ?_) | (apply bIf.of <;> intro hc <;> (conv => whnf)))))
    rotate_right
    rename_i hc4 hc3 hc2 hc1
    rotate_left
    rotate_right
    all_goals try (refine ⟨congrArg Value.bool (decide_eq_false fun h => ?_).symm, gg.trans hk⟩; have e := key h; subst e; simp at hc; done)
    have e1 : x.1 = y.1 := by simpa using hc4
    have e2 : x.2.1 = y.2.1 := by simpa using hc3
    have e3 : x.2.2.1 = y.2.2.1 := by simpa using hc2
    have e4 : x.2.2.2.1 = y.2.2.2.1 := by simpa using hc1
    have e5 : x.ins.length = y.ins.length := by (simp only [ba_ne_t, ba_ne_f, ba_eq_t, ba_eq_f, bne_iff_ne, bne_eq_false_iff_eq, decide_eq_true_eq, decide_eq_false_iff_not, beq_iff_eq, beq_eq_false_iff_ne, ne_eq, Bool.not_eq_true, Bool.not_eq_false, Bool.not_eq_true', Bool.not_eq_false'] at *); omega
    clear hc
    refine SW.loop (α := Nat) (fun k => [(2, .pointer (some ⟨q1, 0, none⟩)), (3, .pointer (some ⟨q2, 0, none⟩)), (6, .int .i64 (m : Int)), (7, .pointer (some ⟨pa, 0, none⟩)), (8, .pointer (some ⟨pb, 0, none⟩)), (9, .int .i64 (k : Int))]) (fun k H' => k ≤ x.ins.length ∧ x.ins.take k = y.ins.take k ∧ H' = K) (fun k => x.ins.length - k) ⟨0, ⟨rfl, rfl, rfl, rfl, rfl, rfl, trivial⟩, by omega, rfl, rfl⟩ ?_
    rintro k X ⟨hk1, hk2, e⟩
    subst X
    refine bC_sound _ _ _ _ ?_
    by_cases hkl : k < x.ins.length
    · have d2 : decide ((k : Int) < (x.ins.length : Int)) = true := decide_eq_true (by omega)
      obtain ⟨xi, hxi⟩ := get_lt hkl
      obtain ⟨yi, hyi⟩ := get_lt (L := y.ins) (m := k) (by omega)
      obtain ⟨u', i5, i6⟩ := ld_ins i4 hxi
      obtain ⟨v', j5, j6⟩ := ld_ins j4 hyi
      have i7 := i6 K (gg.trans hk)
      have j7 := j6 K (gg.trans hk)
      have ne := ins_neq xi yi
      refine run ?_
      apply SW.drawG [(0, [], [112, 115, 116, 117, 118, 119], false), (1, [(110, 0)], [110, 112, 115, 116, 117, 118, 119], false), (2, [], [110, 111, 115, 116, 117, 118, 119], false), (3, [(110, 0), (111, 1), (112, 2)], [110, 111, 112, 115, 116, 117, 118, 119], false), (4, [(110, 0), (111, 1), (112, 2), (113, 3)], [110, 111, 112, 113, 115, 116, 117, 118, 119], false), (5, [], [110, 111, 112, 113, 114, 117], false), (6, [(115, 5)], [110, 111, 112, 113, 114, 115, 117], false), (7, [], [110, 111, 112, 113, 114, 115, 116], false), (8, [(115, 5), (116, 6), (117, 7)], [110, 111, 112, 113, 114, 115, 116, 117], false), (9, [(115, 5), (116, 6), (117, 7), (118, 8)], [110, 111, 112, 113, 114, 115, 116, 117, 118], false), (10, [(110, 0), (111, 1), (112, 2), (113, 3), (114, 4), (115, 5), (116, 6), (117, 7), (118, 8), (119, 9)], [110, 111, 112, 113, 114, 115, 116, 117, 118, 119], false)]
        [(110, 0), (111, 1), (112, 2), (113, 3), (114, 4), (115, 5), (116, 6), (117, 7), (118, 8), (119, 9), (120, 10)]
        [(2, _), (3, _), (6, _), (7, _), (8, _), (9, _)] rfl (by kernel_rfl)
      case hF => exact ⟨rfl, rfl, rfl, rfl, rfl, rfl, trivial⟩
      (try (conv => whnf)); (repeat' ((fail_if_success (with_reducible refine And.intro ?_ ?_)); (fail_if_success (with_reducible refine Exists.intro ?_ ?_)); (first | (refine step0 ?_) | (apply bIf.of <;> intro hc <;> (conv => whnf)))))
      · have hni : xi ≠ yi := by simpa using hc
        refine ⟨congrArg Value.bool (decide_eq_false fun h => hni ?_).symm, gg.trans hk⟩
        have e := key h
        subst e
        rw [hxi] at hyi
        simpa using hyi
      · have hxy : xi = yi := by simpa using hc
        subst hxy
        exact ⟨k + 1, ⟨rfl, rfl, rfl, rfl, rfl, congrArg (fun z => some (Value.int .i64 z)) (w_succ (by omega)), trivial⟩, ⟨hkl, take_next hk2 hxi hyi, rfl⟩, by show x.ins.length - (k + 1) < x.ins.length - k; omega⟩
    · have d2 : decide ((k : Int) < (x.ins.length : Int)) = false := decide_eq_false (by omega)
      have hLM3 : x.ins = y.ins := by rwa [List.take_of_length_le (by omega), List.take_of_length_le (by omega)] at hk2
      have hxy : x = y := code_eq.2 ⟨e1, e2, e3, e4, hLM3⟩
      subst hxy
      refine run ?_
      exact ⟨m + 1, ⟨rfl, rfl, congrArg (fun z => some (Value.int .i64 z)) (w_succ (by have := hs.2.1; omega)), trivial⟩, ⟨hml, take_next ht hx hy, g3.trans hk⟩, by show p.2.2.length - (m + 1) < p.2.2.length - m; omega⟩
  · have d1 : decide ((m : Int) < (p.2.2.length : Int)) = false := decide_eq_false (by omega)
    have hLM2 : p.2.2 = q.2.2 := by rwa [List.take_of_length_le (by omega), List.take_of_length_le (by omega)] at ht
    rw [decide_eq_true (prog_eq.2 ⟨hG, hLM, hLM2⟩)]
    refine run ?_
    exact ⟨rfl, g.trans g3⟩
end Go.Proofs.YtmdpifedcaaobaaDoor
/- Package code: may an instruction be? -/
set_option linter.unusedVariables false
set_option linter.unusedSimpArgs false
set_option maxRecDepth 20000
set_option maxHeartbeats 8000000
namespace Go.Proofs.YtmdpifedcaaobaaDoor
open Go Ax
def opAt (L : List Ins) (a : Int) : Int := match L[a.toNat]? with | some x => x.1 | none => 0
def insP (p : ProgT) (c : CodeT) (at_ : Int) (x : Ins) : Prop :=
  argP p.2.1.length p.2.2.length p.1 c.2.1 c.ins.length x.1 x.2.1 ∧ (sit x.1 = false → x.2.2 = 0) ∧ (sit x.1 = true → 0 ≤ x.2.2 ∧ x.2.2 < c.2.2.1) ∧ (gos x.1 = true → at_ < x.2.1 ∨ opAt c.ins x.2.1 = 1)
instance (p : ProgT) (c : CodeT) (at_ : Int) (x : Ins) : Decidable (insP p c at_ x) := by unfold insP; infer_instance
theorem arg_goes {pl cl gl lc il op a : Int} (h : argP pl cl gl lc il op a) (hg : gos op = true) : 0 ≤ a ∧ a < il := by
  unfold gos at hg
  simp only [decide_eq_true_eq] at hg
  unfold argP at h
  omega
theorem instr_ax {H : Heap} {p : ProgT} {ps cs sv : Value} {c : CodeT} (hp : RL 1 strR H ps p.2.1) (hc : RL 5 codeR H cs p.2.2) (hs : RL 3 insR H sv c.ins) {i : Nat} {x : Ins} (hx : c.ins[i]? = some x) :
    AX Tryd.prog 47 #[progV p ps cs, codeV c sv, .int .i64 (i : Int)] H (fun v H' => v = .bool (decide (insP p c i x)) ∧ H' = H) := by
  refine AX.quiet ?_
  suffices hh : AX Tryd.prog 47 #[progV p ps cs, codeV c sv, .int .i64 (i : Int)] H (fun v H' => v = .bool (decide (insP p c i x)) ∧ Grow H H') from hh.mono fun v _ ⟨e, g⟩ => ⟨e ▸ plain_bool _, e, g⟩
  refine AX.body (n := 62) (rs := [.tmp 6]) Tryd.func47 rfl (by decide) rfl rfl (bC_sound _ _ _ _ ?_)
  (conv => whnf)
  refine Ob2.box rfl fun q1 H1 hq1 a1 g1 => ?_
  (conv => whnf)
  refine Ob2.box rfl fun q2 H2 hq2 a2 g2 => ?_
  have b1 := hblk_of (g2.at a1)
  have b2 := hblk_of a2
  have g : Grow H H2 := g1.trans g2
  obtain ⟨b, i1, i2⟩ := ld_ins hs hx
  have i3 := i2 H2 g
  refine run ?_
  refine Ob2.alloc rfl fun q3 H3 hq3 a3 g3 => ?_
  refine run ?_
  refine Ob.store rfl rfl rfl a3 rfl (by first | exact Nat.le_of_ble_eq_true rfl | simp) fun H4 s1 s2 s3 => ?_
  have g4 : Grow H2 H4 := g3.but_new s2 (by omega)
  have b1 := g4.hblk b1
  have b2 := g4.hblk b2
  have b3 := hblk_of s1
  have gg := g.trans g4
  have e1 := strR.grow hp gg
  have e2 := codeR.grow hc gg
  have e3 := insR.grow hs gg
  clear a1 a2 g1 g2 g3 a3 s1 s2 s3 i3
  by_cases hA : argP p.2.1.length p.2.2.length p.1 c.2.1 c.ins.length x.1 x.2.1 ∧ gos x.1 = true
  · obtain ⟨k1, k2⟩ := arg_goes hA.1 hA.2
    obtain ⟨j, hj⟩ : ∃ j : Nat, x.2.1 = (j : Int) := ⟨x.2.1.toNat, by omega⟩
    obtain ⟨y, hy⟩ : ∃ y, c.ins[j]? = some y := get_lt (by omega)
    obtain ⟨b', j1, j2⟩ := ld_ins hs hy
    have j3 := ld_op hs hy j1 H4 gg
    have ho : opAt c.ins x.2.1 = y.1 := by unfold opAt; rw [hj, Int.toNat_natCast, hy]
    rw [← hj] at j1
    (try (conv => whnf)); (repeat' ((fail_if_success (with_reducible refine And.intro ?_ ?_)); (fail_if_success (with_reducible refine Exists.intro ?_ ?_)); (first | ((with_reducible refine AX.id ?_); (first | (refine (arg_ax e1 e2 e3 _ _ _).mono ?_; (rintro _ X ⟨rfl, eX⟩; subst X; (conv => whnf))) | (refine (site_ax _ _).mono ?_; (rintro _ X ⟨rfl, eX⟩; subst X; (conv => whnf))) | (refine (below_ax _ _ _).mono ?_; (rintro _ X ⟨rfl, eX⟩; subst X; (conv => whnf))) | (refine (goes_ax _ _).mono ?_; (rintro _ X ⟨rfl, eX⟩; subst X; (conv => whnf))))) | (refine step0 ?_) | (apply bIf.of <;> intro hc <;> (conv => whnf)))))
    all_goals refine ⟨congrArg Value.bool ?_, gg⟩
    all_goals clear b1 b2 b3 e1 e2 e3 j1 j2 j3 i1 i2
    all_goals grind [insP]
  · (try (conv => whnf)); (repeat' ((fail_if_success (with_reducible refine And.intro ?_ ?_)); (fail_if_success (with_reducible refine Exists.intro ?_ ?_)); (first | ((with_reducible refine AX.id ?_); (first | (refine (arg_ax e1 e2 e3 _ _ _).mono ?_; (rintro _ X ⟨rfl, eX⟩; subst X; (conv => whnf))) | (refine (site_ax _ _).mono ?_; (rintro _ X ⟨rfl, eX⟩; subst X; (conv => whnf))) | (refine (below_ax _ _ _).mono ?_; (rintro _ X ⟨rfl, eX⟩; subst X; (conv => whnf))) | (refine (goes_ax _ _).mono ?_; (rintro _ X ⟨rfl, eX⟩; subst X; (conv => whnf))))) | (refine step0 ?_) | (apply bIf.of <;> intro hc <;> (conv => whnf)))))
    all_goals first | refine ⟨congrArg Value.bool ?_, gg⟩ | (exfalso; clear b1 b2 b3 e1 e2 e3 i1 i2; grind)
    all_goals clear b1 b2 b3 e1 e2 e3 i1 i2
    all_goals grind [insP]
end Go.Proofs.YtmdpifedcaaobaaDoor
/- Package slices: a list of one number over and over. -/
set_option linter.unusedVariables false
set_option linter.unusedSimpArgs false
set_option maxRecDepth 20000
set_option maxHeartbeats 8000000
namespace Go.Proofs.YtmdpifedcaaobaaDoor
open Go Ax
theorem and32 {n : Nat} (hn : n < 4294967296) : ((BitVec.ofInt IntKind.u64.bits (n : Int) &&& BitVec.ofInt IntKind.u64.bits 4294967295).toNat : Int) = n := by
  show ((BitVec.ofInt 64 (n : Int) &&& BitVec.ofInt 64 4294967295).toNat : Int) = n
  have e : BitVec.ofInt 64 4294967295 = BitVec.ofNat 64 4294967295 := rfl
  have e2 : BitVec.ofInt 64 (n : Int) = BitVec.ofNat 64 n := BitVec.ofInt_natCast ..
  rw [e, e2, BitVec.toNat_and, BitVec.toNat_ofNat, BitVec.toNat_ofNat, Nat.mod_eq_of_lt (by omega : n < 2 ^ 64), show 4294967295 % 2 ^ 64 = 2 ^ 32 - 1 from rfl, Nat.and_two_pow_sub_one_eq_mod, Nat.mod_eq_of_lt (by omega)]
theorem fdiv32 {n : Int} (h0 : 0 ≤ n) (hn : n < 4294967296) : n.fdiv (2 ^ min (Int.toNat 32) IntKind.u64.bits) = 0 := by
  show n.fdiv 4294967296 = 0
  rw [Int.fdiv_eq_ediv_of_nonneg _ (by omega)]
  omega
theorem wu64 {n : Int} (h0 : 0 ≤ n) (h1 : n ≤ 18446744073709551615) : IntKind.u64.wrap n = n := IntWalk.u64_in _ ⟨h0, h1⟩
theorem mul64_ax (H : Heap) (n : Nat) (hn : n < 4294967296) : AX Tryd.prog 96 #[.int .u64 1, .int .u64 (n : Int)] H (fun v H' => v = .tuple #[.int .u64 0, .int .u64 (n : Int)] ∧ H' = H) := by
  refine AX.body (n := 51) (rs := [.tmp 4, .tmp 5]) Tryd.func96 rfl (by decide) rfl rfl (bC_sound _ _ _ _ ?_)
  (try (conv => whnf)); (repeat' ((fail_if_success (with_reducible refine And.intro ?_ ?_)); (fail_if_success (with_reducible refine Exists.intro ?_ ?_)); (first | (refine step0 ?_) | (apply bIf.of <;> intro hc <;> (conv => whnf)))))
  refine ⟨?_, rfl⟩
  have a1 := and32 hn
  have a2 : ((BitVec.ofInt IntKind.u64.bits 1 &&& BitVec.ofInt IntKind.u64.bits 4294967295).toNat : Int) = 1 := and32 (n := 1) (by omega)
  have f1 : Int.fdiv 1 (2 ^ min (Int.toNat 32) IntKind.u64.bits) = 0 := fdiv32 (by omega) (by omega)
  have f2 : (n : Int).fdiv (2 ^ min (Int.toNat 32) IntKind.u64.bits) = 0 := fdiv32 (by omega) (by omega)
  have w1 : IntKind.u64.wrap (n : Int) = n := wu64 (by omega) (by omega)
  have w2 : IntKind.u64.wrap 0 = 0 := wu64 (by omega) (by omega)
  have w3 : IntKind.u64.wrap 1 = 1 := wu64 (by omega) (by omega)
  have f3 : Int.fdiv 0 (2 ^ min (Int.toNat 32) IntKind.u64.bits) = 0 := fdiv32 (by omega) (by omega)
  have a3 : ((BitVec.ofInt IntKind.u64.bits 0 &&& BitVec.ofInt IntKind.u64.bits 4294967295).toNat : Int) = 0 := and32 (n := 0) (by omega)
  show Value.tuple _ = _
  simp only [a1, a2, f1, f2, f3, w1, w2, w3, a3, Int.zero_mul, Int.one_mul, Int.mul_zero, Int.zero_add, Int.add_zero]
theorem mul_ax (H : Heap) (n : Nat) (hn : n < 4294967296) : AX Tryd.prog 86 #[.int .u64 1, .int .u64 (n : Int)] H (fun v H' => v = .tuple #[.int .u64 0, .int .u64 (n : Int)] ∧ H' = H) := by
  refine AX.body (n := 30) (rs := [.tmp 4, .tmp 5]) Tryd.func86 rfl (by decide) rfl rfl (bC_sound _ _ _ _ ?_)
  (try (conv => whnf)); (repeat' ((fail_if_success (with_reducible refine And.intro ?_ ?_)); (fail_if_success (with_reducible refine Exists.intro ?_ ?_)); (first | ((with_reducible refine AX.id ?_); (first | (refine (mul64_ax _ n hn).mono ?_; (rintro _ X ⟨rfl, eX⟩; subst X; (conv => whnf))))) | (refine step0 ?_) | (apply bIf.of <;> intro hc <;> (conv => whnf)))))
  exact ⟨rfl, rfl⟩
/-- A list of one number over and over; it is one's own. -/
def OwnI (H : Heap) (b : Nat) (L : List Int) : Prop := H[b]? = some (.cells (.row 3) (L.map (.int .i64)))
def rowN (v z : Value) (k n : Nat) : List Value := List.replicate k v ++ List.replicate (n - k) z
theorem rowN_len (v z : Value) {k n : Nat} (h : k ≤ n) : (rowN v z k n).length = n := by simp [rowN]; omega
theorem rowN_get (v z : Value) {k n i : Nat} (h : k ≤ n) (hi : i < n) : (rowN v z k n)[i]? = some (if i < k then v else z) := by
  unfold rowN
  by_cases h1 : i < k
  · rw [List.getElem?_append_left (by simpa using h1), if_pos h1]; simp [h1]
  · rw [List.getElem?_append_right (by simp; omega), if_neg h1, List.length_replicate, List.getElem?_replicate, if_pos (by omega)]
theorem rowN_put (v z : Value) {k m n : Nat} (h : k + m ≤ n) : putL (rowN v z k n) k (List.replicate m v) = rowN v z (k + m) n := by
  apply List.ext_getElem?
  intro i
  rw [putL_get, rowN_len v z (by omega), List.length_replicate]
  by_cases hi : i < n
  · rw [rowN_get v z h hi, rowN_get v z (by omega) hi]
    by_cases h1 : k ≤ i ∧ i < k + m ∧ i < n
    · rw [if_pos h1, if_pos (by omega), List.getElem?_replicate, if_pos (by omega)]
    · rw [if_neg h1]
      congr 1
      by_cases h2 : i < k
      · rw [if_pos h2, if_pos (by omega)]
      · rw [if_neg h2, if_neg (by omega)]
  · rw [if_neg (by omega), List.getElem?_eq_none (by rw [rowN_len v z (by omega)]; omega), List.getElem?_eq_none (by rw [rowN_len v z (by omega)]; omega)]
theorem copy_row {H : Heap} {q k n : Nat} {v z : Value} {m : Ax.Mode} (hm : m.own = true) (hb : H[q]? = some (.cells m (rowN v z k n))) (h1 : 1 ≤ k) (h2 : k < n) :
    acopy Tryd.prog 57 (.slice (some ⟨q, 0 + k * 1, none⟩) (n - k) 1) (.slice (some ⟨q, 0, none⟩) k 1) H = some (.int .i64 ((min k (n - k) : Nat) : Int), H.set q (.cells m (rowN v z (k + min k (n - k)) n))) := by
  have hs : sliceElem Tryd.prog 57 = some 3 := rfl
  have ht : tsize Tryd.prog 3 = some 1 := rfl
  have hl := rowN_len v z (show k ≤ n by omega)
  have hsl : slotsOf (rowN v z k n) 0 (min k (n - k) * 1) = some (List.replicate (min k (n - k)) v) := by
    rw [slots_of (by omega)]
    congr 1
    apply List.ext_getElem?
    intro i
    rw [List.getElem?_take, List.drop_zero]
    by_cases hi : i < min k (n - k) * 1
    · rw [if_pos hi, rowN_get v z (by omega) (by omega), if_pos (by omega), List.getElem?_replicate, if_pos (by omega)]
    · rw [if_neg hi, List.getElem?_replicate, if_neg (by omega)]
  have hp : hput H q (0 + k * 1) (List.replicate (min k (n - k)) v) = some (H.set q (.cells m (rowN v z (k + min k (n - k)) n))) := by
    unfold hput
    rw [hb]
    simp only
    rw [if_pos ⟨hm, by rw [List.length_replicate, hl]; omega⟩, show 0 + k * 1 = k by omega, rowN_put v z (by omega)]
  unfold acopy
  simp only [hs, ht, Option.bind_some, if_neg (show ¬ min k (n - k) = 0 by omega), and_self, if_true, hblk_of hb, hsl, hp, Option.map_some]
theorem repeat_ax (H : Heap) {b : Nat} {x : Int} (hb : hblk H b = some [.int .i64 x]) (n : Nat) (h1 : 1 ≤ n) (hn : n < 65536) :
    AX Tryd.prog 67 #[.slice (some ⟨b, 0, none⟩) 1 1, .int .i64 (n : Int)] H (fun v H' => ∃ q, v = .slice (some ⟨q, 0, none⟩) n 1 ∧ H.length ≤ q ∧ OwnI H' q (List.replicate n x) ∧ Grow H H') := by
  refine AX.body (n := 48) (rs := [.tmp 4]) Tryd.func67 rfl (by decide) rfl rfl (bC_sound _ _ _ _ ?_)
  have d1 : decide ((n : Int) < 0) = false := decide_eq_false (by omega)
  have w1 : IntKind.u64.wrap (n : Int) = n := wu64 (by omega) (by omega)
  have w3 : IntKind.u64.wrap ((1 : Nat) : Int) = 1 := wu64 (by omega) (by omega)
  have w2 : IntKind.i64.wrap (n : Int) = n := wrap_i64 (by omega) (by omega)
  refine run ?_
  rw [w1, w3]
  refine (mul_ax H n (by omega)).mono ?_
  rintro _ X ⟨rfl, e⟩
  subst X
  have d2 : decide ((n : Int) > 9223372036854775807) = false := decide_eq_false (by omega)
  refine run ?_
  rw [w2]
  refine Ob2.of (make_slice rfl rfl rfl rfl (by decide) rfl (by omega) (by omega) (by show 8 * (n : Int) ≤ _; omega)) ?_
  rw [zeros_one, Int.toNat_natCast]
  have g1 : Grow H (H ++ [.cells (.row 3) (List.replicate n (.int .i64 0))]) := .push _ _
  have hb1 := g1.hblk hb
  have a1 : (H ++ [.cells (.row 3) (List.replicate n (.int .i64 0))])[H.length]? = some (.cells (.row 3) (List.replicate n (.int .i64 0))) := at_push _ _
  revert g1 hb1 a1
  generalize H ++ [.cells (.row 3) (List.replicate n (.int .i64 0))] = H1
  intro g1 hb1 a1
  refine run ?_
  have hc : acopy Tryd.prog 57 (.slice (some ⟨H.length, 0, none⟩) n 1) (.slice (some ⟨b, 0, none⟩) 1 1) H1 = some (.int .i64 1, H1.set H.length (.cells (.row 3) (rowN (.int .i64 x) (.int .i64 0) 1 n))) := by
    have hs : sliceElem Tryd.prog 57 = some 3 := rfl
    have ht : tsize Tryd.prog 3 = some 1 := rfl
    have hm : min 1 n = 1 := by omega
    have hp : hput H1 H.length 0 [.int .i64 x] = some (H1.set H.length (.cells (.row 3) (rowN (.int .i64 x) (.int .i64 0) 1 n))) := by
      unfold hput
      rw [a1]
      simp only
      rw [if_pos ⟨rfl, by simp; omega⟩]
      have := rowN_put (.int .i64 x) (.int .i64 0) (k := 0) (m := 1) (n := n) (by omega)
      simp only [rowN, List.replicate_zero, List.nil_append, Nat.sub_zero, Nat.zero_add, List.replicate_one] at this
      rw [this]; rfl
    unfold acopy
    simp only [hs, ht, Option.bind_some, hm, if_neg (show ¬ (1 = 0) by omega), and_self, if_true, hb1]
    simp [slotsOf, hp]
  refine Ob2.of hc ?_
  have hlt : H.length < H1.length := lt_at a1
  have g2 : Grow H (H1.set H.length (.cells (.row 3) (rowN (.int .i64 x) (.int .i64 0) 1 n))) := g1.set (by omega) _
  have a2 : (H1.set H.length (.cells (.row 3) (rowN (.int .i64 x) (.int .i64 0) 1 n)))[H.length]? = some (.cells (.row 3) (rowN (.int .i64 x) (.int .i64 0) 1 n)) := at_set a1
  revert g2 a2
  generalize H1.set H.length (.cells (.row 3) (rowN (.int .i64 x) (.int .i64 0) 1 n)) = H2
  intro g2 a2
  refine run ?_
  refine SW.loop (α := Nat) (fun k => [(7, .slice (some ⟨H.length, 0, none⟩) n 1), (8, .int .i64 (k : Int))]) (fun k H' => 1 ≤ k ∧ k ≤ n ∧ Grow H H' ∧ H'[H.length]? = some (.cells (.row 3) (rowN (.int .i64 x) (.int .i64 0) k n))) (fun k => n - k) ⟨1, ⟨rfl, rfl, trivial⟩, by omega, by omega, g2, a2⟩ ?_
  rintro k H3 ⟨k1, k2, g3, a3⟩
  refine bC_sound _ _ _ _ ?_
  by_cases hk : k < n
  · have d3 : decide ((k : Int) < (n : Int)) = true := decide_eq_true (by omega)
    refine run ?_
    have s1 : aslice Tryd.prog 57 (.slice (some ⟨H.length, 0, none⟩) n 1) (some (.int .i64 (k : Int))) none none = some (.slice (some ⟨H.length, 0 + k * 1, none⟩) (n - k) 1) := by
      have := slice_lo (P := Tryd.prog) (t := 57) (b := H.length) (off := 0) (len := n) (kd := .i64) (n := (k : Int)) rfl (k := 1) rfl (by omega) (by omega)
      rwa [Int.toNat_natCast] at this
    have s2 : aslice Tryd.prog 57 (.slice (some ⟨H.length, 0, none⟩) n 1) none (some (.int .i64 (k : Int))) none = some (.slice (some ⟨H.length, 0, none⟩) k 1) := by
      have := slice_hi (P := Tryd.prog) (t := 57) (b := H.length) (off := 0) (len := n) (kd := .i64) (n := (k : Int)) rfl (k := 1) rfl (by omega) (by omega)
      rwa [Int.toNat_natCast] at this
    have s3 := copy_row rfl a3 k1 hk
    apply SW.draw2 [([], [39, 40, 41, 42, 43, 44, 45], 0, 1, false), ([], [38, 40, 42, 43, 44], 0, 0, false), ([], [38, 39, 42, 43, 44], 0, 0, false), ([(39, 1), (40, 2)], [38, 39, 40, 42, 43, 44], 0, 0, false), ([], [38, 39, 40, 41, 43], 0, 0, false), ([], [38, 39, 40, 41, 42], 0, 0, false), ([(42, 4), (43, 5)], [38, 39, 40, 41, 42, 43], 0, 0, false), ([(39, 1), (40, 2), (41, 3), (42, 4), (43, 5), (44, 6)], [38, 39, 40, 41, 42, 43, 44], 0, 0, true), ([(38, 0), (39, 1), (40, 2), (41, 3), (42, 4), (43, 5), (44, 6), (45, 7)], [38, 39, 40, 41, 42, 43, 44, 45], 1, 0, false), ([(38, 0), (39, 1), (40, 2), (41, 3), (42, 4), (43, 5), (44, 6), (45, 7), (46, 8)], [38, 39, 40, 41, 42, 43, 44, 45, 46], 1, 0, false)]
      [(38, 0), (39, 1), (40, 2), (41, 3), (42, 4), (43, 5), (44, 6), (45, 7), (46, 8), (8, 9)] 1
      [(7, _), (8, _)] [_, _, _, _, _, _, _, _, _, _] [H3, H3.set H.length (.cells (.row 3) (rowN (.int .i64 x) (.int .i64 0) (k + min k (n - k)) n))] rfl (by kernel_rfl)
    case hF => exact ⟨rfl, rfl, trivial⟩
    case h0 => rfl
    case steps =>
      (try (conv => whnf)); repeat' (first | ((with_reducible refine Ob.of s1 ?_); (conv => whnf)) | ((with_reducible refine Ob.of s2 ?_); (conv => whnf)) | ((with_reducible refine Ob.of s3 ?_); (conv => whnf)) | ((with_reducible refine Ob2.of s1 ?_); (conv => whnf)) | ((with_reducible refine Ob2.of s2 ?_); (conv => whnf)) | ((with_reducible refine Ob2.of s3 ?_); (conv => whnf)) | (refine And.intro ?_ ?_ <;> (conv => whnf)) | exact Leaf.mk rfl rfl | exact True.intro | (refine Ob.of rfl ?_; (conv => whnf)) | (refine Ob2.of (by rfl) ?_; (conv => whnf)) | (refine step1 ?_))
    refine run ?_
    have w : IntKind.i64.wrap ((k : Int) + ((min k (n - k) : Nat) : Int)) = ((k + min k (n - k) : Nat) : Int) := by rw [wrap_i64 (by omega) (by omega)]; omega
    exact ⟨k + min k (n - k), ⟨rfl, congrArg (fun z => some (Value.int .i64 z)) w, trivial⟩, ⟨by show 1 ≤ _; omega, by show _ ≤ n; omega, g3.set (by omega) _, at_set a3⟩, by show n - (k + min k (n - k)) < n - k; omega⟩
  · have d3 : decide ((k : Int) < (n : Int)) = false := decide_eq_false (by omega)
    have : k = n := by omega
    subst this
    refine run ?_
    refine ⟨H.length, rfl, Nat.le_refl _, ?_, g3⟩
    unfold OwnI
    rw [a3, List.map_replicate]
    simp [rowN]
end Go.Proofs.YtmdpifedcaaobaaDoor
/- Plain law: the depths of a code's stack, told by what can be reached. -/
set_option linter.unusedVariables false
set_option linter.unusedSimpArgs false
set_option maxRecDepth 20000
set_option maxHeartbeats 4000000
namespace Go.Proofs.YtmdpifedcaaobaaDoor
open Go Ax
def pops (x : Ins) : Int := (eff x.1 x.2.1).1
def pushes (x : Ins) : Int := (eff x.1 x.2.1).2
/-- The depth at target k. -/
def nd (x : Ins) (d : Int) (k : Nat) : Int := d - pops x + pushes x + (if k = 1 ∧ (x.1 = 24 ∨ x.1 = 25) then 1 else 0)
theorem built_le (a : Int) : 0 ≤ builtN a ∧ builtN a ≤ 2 := by unfold builtN; split <;> (try split) <;> omega
theorem eff_le (op a : Int) : 0 ≤ (eff op a).1 ∧ (eff op a).1 ≤ 8 ∧ 0 ≤ (eff op a).2 ∧ (eff op a).2 ≤ 2 := by
  have := built_le a
  unfold eff
  repeat' split
  all_goals simp only
  all_goals omega
theorem pops_le (x : Ins) : 0 ≤ pops x ∧ pops x ≤ 8 := ⟨(eff_le _ _).1, (eff_le _ _).2.1⟩
theorem pushes_le (x : Ins) : 0 ≤ pushes x ∧ pushes x ≤ 2 := ⟨(eff_le _ _).2.2.1, (eff_le _ _).2.2.2⟩
theorem nd_le {x : Ins} {d : Int} {k : Nat} (h : pops x ≤ d) : 0 ≤ nd x d k ∧ nd x d k ≤ d + 3 := by
  have h1 := pops_le x
  have h2 := pushes_le x
  unfold nd
  split <;> omega
/-- Targets are where they can be. -/
def Aims (c : CodeT) : Prop := c.ins.length ≤ 4000 ∧ 0 < c.ins.length ∧ 0 ≤ c.deep ∧ c.deep ≤ 64 ∧ ∀ (i : Nat) (x : Ins), c.ins[i]? = some x → gos x.1 = true → 0 ≤ x.2.1 ∧ x.2.1 < c.ins.length
theorem tgt_at {c : CodeT} {i : Nat} {x : Ins} (hx : c.ins[i]? = some x) (h : c.ins.length ≤ 4000) : tgt c.ins (i : Int) = if x.1 = 32 then [] else if x.1 = 22 then [x.2.1] else if gos x.1 then [(i : Int) + 1, x.2.1] else [(i : Int) + 1] := by
  have := lt_of_get hx
  unfold tgt
  rw [if_neg (by omega), Int.toNat_natCast, hx]
  simp only [wrap_i64 (n := (i : Int) + 1) (by omega) (by omega)]
theorem tgt_nonneg {c : CodeT} (ha : Aims c) {i : Nat} {k : Nat} {t : Int} (h : (tgt c.ins (i : Int))[k]? = some t) : 0 ≤ t ∧ t ≤ c.ins.length := by
  cases hx : c.ins[i]? with
  | none =>
    have := List.getElem?_eq_none_iff.1 hx
    unfold tgt at h
    rw [if_pos (by omega)] at h
    simp at h
  | some x =>
    have hl := lt_of_get hx
    rw [tgt_at hx ha.1] at h
    have hg := ha.2.2.2.2 i x hx
    split at h
    · simp at h
    split at h
    · rename_i h22
      have := hg (by unfold gos; simp [h22])
      match k with
      | 0 => simp at h; omega
      | k + 1 => simp at h
    split at h
    · rename_i hgo
      have := hg hgo
      match k with
      | 0 => simp at h; omega
      | 1 => simp at h; omega
      | k + 2 => simp at h
    · match k with
      | 0 => simp at h; omega
      | k + 1 => simp at h
theorem tgt_len {c : CodeT} (ha : Aims c) (i : Nat) : (tgt c.ins (i : Int)).length ≤ 2 := by
  unfold tgt
  repeat' split
  all_goals simp
inductive Reach (c : CodeT) : Nat → Int → Prop
  | start : Reach c 0 0
  | step {i : Nat} {d : Int} {x : Ins} {k : Nat} {t : Int} : Reach c i d → c.ins[i]? = some x → pops x ≤ d → d ≤ c.deep → (tgt c.ins (i : Int))[k]? = some t → t < c.ins.length → nd x d k ≤ c.deep → Reach c t.toNat (nd x d k)
theorem Reach.nonneg {c : CodeT} {i : Nat} {d : Int} (h : Reach c i d) : 0 ≤ d := by
  cases h with
  | start => omega
  | step h1 h2 h3 => exact (nd_le h3).1
/-- Nothing is wrong at an instruction. -/
def Fine (c : CodeT) (L : List Int) (i : Nat) : Prop := ∀ (d : Int) (x : Ins), L[i]? = some d → 0 ≤ d → c.ins[i]? = some x → pops x ≤ d ∧ d ≤ c.deep ∧
  ∀ (k : Nat) (t : Int), (tgt c.ins (i : Int))[k]? = some t → t < c.ins.length ∧ nd x d k ≤ c.deep ∧ L[t.toNat]? = some (nd x d k)
structure Inv (c : CodeT) (L : List Int) : Prop where
  len : L.length = c.ins.length
  zero : L[0]? = some 0
  val : ∀ (i : Nat) (d : Int), L[i]? = some d → d = -1 ∨ (0 ≤ d ∧ Reach c i d)
structure Closed (c : CodeT) (L : List Int) : Prop where
  inv : Inv c L
  fine : ∀ i, Fine c L i
def Bad (c : CodeT) : Prop :=
  (∃ i d x, Reach c i d ∧ c.ins[i]? = some x ∧ (d < pops x ∨ c.deep < d ∨ ∃ (k : Nat) (t : Int), (tgt c.ins (i : Int))[k]? = some t ∧ ((c.ins.length : Int) ≤ t ∨ c.deep < nd x d k))) ∨ ∃ i d d', Reach c i d ∧ Reach c i d' ∧ d ≠ d'
theorem Closed.reach {c : CodeT} {L : List Int} (h : Closed c L) {i : Nat} {d : Int} (r : Reach c i d) : L[i]? = some d := by
  induction r with
  | start => exact h.inv.zero
  | step r1 h2 h3 h4 h5 h6 h7 ih => exact (h.fine _ _ _ ih r1.nonneg h2).2.2 _ _ h5 |>.2.2
theorem Closed.good {c : CodeT} {L : List Int} (h : Closed c L) : ¬ Bad c := by
  rintro (⟨i, d, x, r, hx, hb⟩ | ⟨i, d, d', r, r', hne⟩)
  · obtain ⟨h1, h2, h3⟩ := h.fine i d x (h.reach r) r.nonneg hx
    rcases hb with hb | hb | ⟨k, t, ht, hb⟩
    · omega
    · omega
    · have := h3 k t ht
      omega
  · have h1 := h.reach r
    rw [h.reach r'] at h1
    simp only [Option.some.injEq] at h1
    exact hne h1.symm
theorem Closed.uniq {c : CodeT} {L M : List Int} (h : Closed c L) (k : Closed c M) : L = M := by
  apply List.ext_getElem?
  intro i
  by_cases hi : i < c.ins.length
  · obtain ⟨d, hd⟩ := get_lt (L := L) (m := i) (by rw [h.inv.len]; exact hi)
    obtain ⟨e, he⟩ := get_lt (L := M) (m := i) (by rw [k.inv.len]; exact hi)
    rcases h.inv.val i d hd with rfl | ⟨h1, h2⟩
    · rcases k.inv.val i e he with rfl | ⟨k1, k2⟩
      · rw [hd, he]
      · have := h.reach k2
        rw [hd] at this
        simp only [Option.some.injEq] at this
        omega
    · rw [hd, k.reach h2]
  · rw [List.getElem?_eq_none (by rw [h.inv.len]; omega), List.getElem?_eq_none (by rw [k.inv.len]; omega)]
/-- What is found: the depths, or that there are none. -/
def DS (c : CodeT) : Option (List Int) → Prop
  | none => Bad c
  | some L => Closed c L
theorem DS.uniq {c : CodeT} {r s : Option (List Int)} (h : DS c r) (k : DS c s) : r = s := by
  cases r with
  | none => cases s with
    | none => rfl
    | some M => exact absurd h (Closed.good k)
  | some L => cases s with
    | none => exact absurd k (Closed.good h)
    | some M => exact congrArg some (Closed.uniq h k)
/-- How many are not come to. -/
def cnt (L : List Int) : Nat := L.countP fun d => d == -1
theorem cnt_set {L : List Int} {j : Nat} {d : Int} (h : L[j]? = some (-1)) (hd : 0 ≤ d) : cnt (L.set j d) + 1 = cnt L := by
  unfold cnt
  induction L generalizing j with
  | nil => simp at h
  | cons a L ih =>
    cases j with
    | zero =>
      simp only [List.getElem?_cons_zero, Option.some.injEq] at h
      subst h
      simp only [List.set_cons_zero, List.countP_cons]
      have : (d == -1) = false := by rw [beq_eq_false_iff_ne]; omega
      simp [this]
    | succ j =>
      simp only [List.getElem?_cons_succ] at h
      simp only [List.set_cons_succ, List.countP_cons]
      have := ih h
      omega
theorem Inv.mark {c : CodeT} {L : List Int} (h : Inv c L) {j : Nat} {d : Int} (hj : L[j]? = some (-1)) (r : Reach c j d) : Inv c (L.set j d) := by
  have hlt := lt_of_get hj
  refine ⟨by simp [h.len], ?_, fun i e he => ?_⟩
  · rw [List.getElem?_set_ne]; exact h.zero
    intro e; subst e; rw [h.zero] at hj; simp at hj
  · by_cases hij : j = i
    · subst hij
      rw [List.getElem?_set_self hlt] at he
      simp only [Option.some.injEq] at he
      subst he
      exact .inr ⟨r.nonneg, r⟩
    · rw [List.getElem?_set_ne hij] at he
      exact h.val i e he
theorem Fine.mark {c : CodeT} {L : List Int} {i j : Nat} {d e : Int} (h : Fine c L i) (hj : L[j]? = some (-1)) (hi : L[i]? = some e) (he : 0 ≤ e) (ha : Aims c) : Fine c (L.set j d) i := by
  have hne : j ≠ i := fun h' => by subst h'; rw [hj] at hi; simp only [Option.some.injEq] at hi; omega
  intro d' x h1 h2 h3
  rw [List.getElem?_set_ne hne] at h1
  obtain ⟨k1, k2, k3⟩ := h d' x h1 h2 h3
  refine ⟨k1, k2, fun k t ht => ?_⟩
  obtain ⟨m1, m2, m3⟩ := k3 k t ht
  refine ⟨m1, m2, ?_⟩
  rw [List.getElem?_set_ne]; exact m3
  intro h'; subst h'
  rw [hj] at m3
  simp only [Option.some.injEq] at m3
  have := (nd_le (k := k) k1).1
  omega
theorem Fine.mark' {c : CodeT} {L : List Int} {i j : Nat} {d : Int} (h : Fine c L i) (hj : L[j]? = some (-1)) (hne : i ≠ j) (ha : Aims c) : Fine c (L.set j d) i := by
  cases hi : L[i]? with
  | none =>
    intro d' x h1
    rw [List.getElem?_set_ne (by omega), hi] at h1
    simp at h1
  | some e =>
    by_cases he : 0 ≤ e
    · exact h.mark hj hi he ha
    · intro d' x h1 h2
      rw [List.getElem?_set_ne (by omega), hi] at h1
      simp only [Option.some.injEq] at h1
      omega
end Go.Proofs.YtmdpifedcaaobaaDoor
/- Package code: the depths of a code's stack. -/
set_option linter.unusedVariables false
set_option linter.unusedSimpArgs false
set_option maxRecDepth 20000
set_option maxHeartbeats 8000000
namespace Go.Proofs.YtmdpifedcaaobaaDoor
open Go Ax
/-- All blocks but two stay. -/
def But2 (p r : Nat) (A B : Heap) : Prop := A.length ≤ B.length ∧ ∀ k, k < A.length → k ≠ p → k ≠ r → B[k]? = A[k]?
theorem But2.refl (p r : Nat) (A : Heap) : But2 p r A A := ⟨Nat.le_refl _, fun _ _ _ _ => rfl⟩
theorem But2.step {p r x : Nat} {A B C : Heap} (h : But2 p r A B) (k : But x B C) (hx : x = p ∨ x = r ∨ A.length ≤ x) : But2 p r A C :=
  ⟨Nat.le_trans h.1 k.1, fun i hi h1 h2 => (k.2 i (Nat.lt_of_lt_of_le hi h.1) (by omega)).trans (h.2 i hi h1 h2)⟩
theorem But2.grow {p r : Nat} {A0 A B : Heap} (g : Grow A0 A) (h : But2 p r A B) (hp : A0.length ≤ p) (hr : A0.length ≤ r) : Grow A0 B :=
  ⟨Nat.le_trans g.1 h.1, fun i hi => (h.2 i (Nat.lt_of_lt_of_le hi g.1) (by omega) (by omega)).trans (g.2 i hi)⟩
theorem But2.at {p r : Nat} {A B : Heap} (h : But2 p r A B) {k : Nat} {X : Blk} (hk : A[k]? = some X) (h1 : k ≠ p) (h2 : k ≠ r) : B[k]? = some X := (h.2 k (lt_at hk) h1 h2).trans hk
theorem own_idx {q n i : Nat} (h : i < n) : aindexAddr Tryd.prog 57 (.slice (some ⟨q, 0, none⟩) n 1) (.int .i64 (i : Int)) = some (.pointer (some ⟨q, i, none⟩)) := by
  have := idx_slice (P := Tryd.prog) (t := 57) (b := q) (off := 0) (len := n) (es := 1) (kd := .i64) (n := (i : Int)) rfl (k := 1) rfl (by omega) (by omega)
  simpa using this
theorem own_ld {H : Heap} {q i : Nat} {L : List Int} {d : Int} (h : OwnI H q L) (hi : L[i]? = some d) : aload Tryd.prog 3 (.pointer (some ⟨q, i, none⟩)) H = some (.int .i64 d) :=
  ald rfl rfl (hblk_of h) (by simp [hi])
theorem putL_set {L : List Int} {i : Nat} {d : Int} : putL (L.map (Value.int .i64)) i [.int .i64 d] = (L.set i d).map (Value.int .i64) := by
  rw [List.map_set]; rfl
theorem Ob.storeI {H : Heap} {q i : Nat} {L : List Int} {d : Int} {K : Heap → Prop} (h : OwnI H q L) (hi : i < L.length) (k : ∀ H', OwnI H' q (L.set i d) → But q H H' → H'.length = H.length → K H') :
    Ob (astore Tryd.prog 3 (.pointer (some ⟨q, i, none⟩)) (.int .i64 d) H) K := by
  refine Ob.store (vs := [.int .i64 d]) rfl rfl rfl h rfl (by simp; omega) fun H' h1 h2 h3 => k H' ?_ h2 h3
  unfold OwnI
  rw [h1, putL_set]
/-- What is still to be done. -/
def TodoR (H : Heap) (b : Nat) (T : List Nat) : Prop := ∃ c, H[b]? = some (.cells (.row 3) c) ∧ slotsOf c 0 T.length = some (T.map fun i => .int .i64 (i : Int))
theorem TodoR.last {H : Heap} {b i : Nat} {T : List Nat} (h : TodoR H b (T ++ [i])) : TodoR H b T ∧ aload Tryd.prog 3 (.pointer (some ⟨b, T.length, none⟩)) H = some (.int .i64 (i : Int)) := by
  obtain ⟨c, h1, h2⟩ := h
  unfold slotsOf at h2
  split at h2
  · rename_i hle
    simp only [List.length_append, List.length_singleton, List.drop_zero, Nat.zero_add, Option.some.injEq, List.map_append, List.map_cons, List.map_nil] at h2 hle
    refine ⟨⟨c, h1, ?_⟩, ald rfl rfl (hblk_of h1) ?_⟩
    · rw [slots_of (by omega)]
      have := congrArg (List.take T.length) h2
      rw [List.take_take, Nat.min_eq_left (by omega), List.take_left' (by simp)] at this
      rw [List.drop_zero, this]
    · have := congrArg (·[T.length]?) h2
      simpa [List.getElem?_take] using this
  · simp at h2
theorem todo_append {H : Heap} {b b2 i : Nat} {T : List Nat} (h : TodoR H b T) (h2 : H[b2]? = some (.cells (.row 3) [.int .i64 (i : Int)])) (hl : T.length ≤ 100000) :
    ∃ H', aappend Tryd.prog 57 57 (.slice (some ⟨b, 0, none⟩) T.length 1) (.slice (some ⟨b2, 0, none⟩) 1 1) H = some (.slice (some ⟨H.length, 0, none⟩) (T ++ [i]).length 1, H') ∧ TodoR H' H.length (T ++ [i]) ∧ But b H H' := by
  obtain ⟨c, h1, h3⟩ := h
  have hsrc : asrc 1 (.slice (some ⟨b2, 0, none⟩) 1 1) H = some (1, [.int .i64 (i : Int)]) := src_some (off := 0) (by decide) (hblk_of h2) rfl
  rw [show (T ++ [i]).length = T.length + 1 by simp]
  refine ⟨_, append_row (P := Tryd.prog) (t := 57) (tx := 57) (b := b) (off := 0) (m := T.length) (n := 1) (k := 1) rfl rfl rfl rfl rfl (by decide) rfl rfl rfl hsrc (by decide) h1 (by simpa using h3) (by show (T.length + 1) * 8 ≤ _; omega) (by show T.length + 1 ≤ _; unfold maxLen; omega), ⟨(T.map fun i : Nat => Value.int .i64 (i : Int)) ++ [.int .i64 (i : Int)], ?_, ?_⟩, (But.set H .dead).trans (.push _ _)⟩
  · rw [List.getElem?_append_right (by simp), List.length_set, Nat.sub_self]; rfl
  · rw [slots_of (by simp), List.drop_zero, List.take_of_length_le (by simp), List.map_append]; rfl
abbrev rowV (q n : Nat) : Value := .slice (some ⟨q, 0, none⟩) n 1
def DV (H : Heap) (v : Value) : Option (List Int) → Prop
  | none => v = .tuple #[.slice none 0 0, .bool false]
  | some L => ∃ q, v = .tuple #[rowV q L.length, .bool true] ∧ OwnI H q L
abbrev DSt := Nat × Nat × List Int × List Nat
structure DI (c : CodeT) (H1 : Heap) (q b : Nat) (L : List Int) (T : List Nat) (H : Heap) : Prop where
  grow : Grow H1 H
  q0 : H1.length ≤ q
  b0 : H1.length ≤ b
  ne : q ≠ b
  own : OwnI H q L
  todo : TodoR H b T
  inv : Inv c L
  bound : 2 * cnt L + T.length ≤ 10000
  mem : ∀ i ∈ T, ∃ d, L[i]? = some d ∧ 0 ≤ d
  fine : ∀ i, i ∉ T → Fine c L i
theorem depths_ax {H : Heap} {c : CodeT} {sv : Value} (hs : RL 3 insR H sv c.ins) (ha : Aims c) :
    AX Tryd.prog 48 #[codeV c sv] H (fun v H' => ∃ r, DS c r ∧ DV H' v r ∧ Grow H H') := by
  have hn := ha.1
  have hn0 := ha.2.1
  refine AX.body (n := 132) (rs := [.tmp 2, .tmp 3]) Tryd.func48 rfl (by decide) rfl rfl (bC_sound _ _ _ _ ?_)
  (conv => whnf)
  refine Ob2.box rfl fun q1 H1 hq1 a1 g1 => ?_
  have b1 := hblk_of a1
  have hl1 : q1 < H1.length := lt_at a1
  refine run ?_
  refine SW.scopeC (α := DSt) 0 _ (fun x => [(1, .pointer (some ⟨q1, 0, none⟩)), (4, rowV x.1 c.ins.length), (5, rowV x.2.1 x.2.2.2.length)]) (fun x H' => DI c H1 x.1 x.2.1 x.2.2.1 x.2.2.2 H') (fun x => 2 * cnt x.2.2.1 + x.2.2.2.length) rfl ?_ ?_
  · have hlen : ∀ H', alen Tryd.prog 43 sv H' = some (.int .i64 c.ins.length) := fun H' => hs.len rfl _
    refine run ?_
    refine Ob2.of (a := rowV H1.length 1) (b := H1 ++ [Blk.cells (.row 3) [.int .i64 (-1)]]) rfl ?_
    have b2 : hblk (H1 ++ [Blk.cells (.row 3) [.int .i64 (-1)]]) H1.length = some [.int .i64 (-1)] := hblk_of (at_push _ _)
    have g2 : Grow H1 (H1 ++ [Blk.cells (.row 3) [.int .i64 (-1)]]) := .push _ _
    have hl2 : (H1 ++ [Blk.cells (.row 3) [.int .i64 (-1)]]).length = H1.length + 1 := by simp
    revert b2 g2 hl2
    generalize H1 ++ [Blk.cells (.row 3) [.int .i64 (-1)]] = H2
    intro b2 g2 hl2
    have b1 := g2.hblk b1
    have hlen2 := hlen H2
    refine run ?_
    refine (repeat_ax H2 b2 c.ins.length hn0 (by omega)).mono ?_
    rintro _ H3 ⟨q, rfl, hq, ho, g3⟩
    have i0 : aindexAddr Tryd.prog 57 (rowV q c.ins.length) (.int .i64 0) = some (.pointer (some ⟨q, 0, none⟩)) := own_idx hn0
    refine run ?_
    refine Ob.storeI ho (by simpa using hn0) fun H4 ho4 k4 l4 => ?_
    refine run ?_
    refine Ob2.of (a := rowV H4.length 1) (b := H4 ++ [Blk.cells (.row 3) [.int .i64 0]]) rfl ?_
    refine run ?_
    have hgr : Grow H1 (H4 ++ [Blk.cells (.row 3) [.int .i64 0]]) := ((g2.trans g3).but_new k4 (by omega)).trans (.push _ _)
    have hq4 : q < H4.length := lt_at ho4
    have hrep : ∀ (i : Nat) (d : Int), ((List.replicate c.ins.length (-1 : Int)).set 0 0)[i]? = some d → i = 0 ∧ d = 0 ∨ d = -1 := by
      intro i d h
      cases i with
      | zero => rw [List.getElem?_set_self (by simpa using hn0)] at h; simp at h; omega
      | succ i => rw [List.getElem?_set_ne (by omega), List.getElem?_replicate] at h; split at h <;> simp at h; omega
    refine ⟨(q, H4.length, (List.replicate c.ins.length (-1)).set 0 0, [0]), ⟨rfl, rfl, rfl, trivial⟩, hgr, by show _ ≤ q; omega, by show _ ≤ H4.length; omega, by show q ≠ H4.length; omega, ?_, ⟨_, at_push _ _, rfl⟩, ⟨by simp, ?_, ?_⟩, ?_, ?_, ?_⟩
    · unfold OwnI; rw [List.getElem?_append_left hq4]; exact ho4
    · exact List.getElem?_set_self (by simpa using hn0)
    · intro i d h
      rcases hrep i d h with ⟨rfl, rfl⟩ | rfl
      · exact .inr ⟨by omega, .start⟩
      · exact .inl rfl
    · have := List.countP_le_length (p := fun d : Int => d == -1) (l := (List.replicate c.ins.length (-1 : Int)).set 0 0)
      simp only [List.length_set, List.length_replicate] at this
      show 2 * cnt ((List.replicate c.ins.length (-1 : Int)).set 0 0) + 1 ≤ _
      unfold cnt
      omega
    · intro i hi
      simp only [List.mem_singleton] at hi
      subst hi
      exact ⟨0, List.getElem?_set_self (by simpa using hn0), by omega⟩
    · intro i hi d x h1 h2 h3
      rcases hrep i d h1 with ⟨rfl, rfl⟩ | rfl
      · exact absurd (List.mem_singleton.2 rfl) hi
      · omega
  · rintro ⟨q, b, L, T⟩ H2 hI
    dsimp only at hI ⊢
    refine bC_sound _ _ _ _ ?_
    have b2 := hI.grow.hblk b1
    have gH := g1.trans hI.grow
    rcases List.eq_nil_or_concat T with rfl | ⟨T, i0, rfl⟩
    · refine run ?_
      exact ⟨some L, ⟨hI.inv, fun i => hI.fine i (by simp)⟩, ⟨q, by rw [hI.inv.len]; rfl, hI.own⟩, gH⟩
    rw [List.concat_eq_append] at hI
    simp only [List.concat_eq_append]
    have tl : (T ++ [i0]).length = T.length + 1 := by simp
    have hb := hI.bound
    rw [tl] at hb ⊢
    have t1 : (((T.length + 1 : Nat) : Int) == 0) = false := by rw [beq_eq_false_iff_ne]; omega
    have w1 : IntKind.i64.wrap (((T.length + 1 : Nat) : Int) - 1) = (T.length : Int) := by rw [wrap_i64 (by omega) (by omega)]; omega
    obtain ⟨ht1, ht2⟩ := hI.todo.last
    obtain ⟨d, hd, hd0⟩ := hI.mem i0 (by simp)
    have hi0 : i0 < c.ins.length := by rw [← hI.inv.len]; exact lt_of_get hd
    obtain ⟨x, hx⟩ := get_lt hi0
    have hr : Reach c i0 d := by
      rcases hI.inv.val i0 d hd with h | h
      · omega
      · exact h.2
    have i1 : aindexAddr Tryd.prog 57 (rowV b (T.length + 1)) (.int .i64 (IntKind.i64.wrap (((T.length + 1 : Nat) : Int) - 1))) = some (.pointer (some ⟨b, T.length, none⟩)) := by rw [w1]; exact own_idx (by omega)
    have s1 : aslice Tryd.prog 57 (rowV b (T.length + 1)) none (some (.int .i64 (IntKind.i64.wrap (((T.length + 1 : Nat) : Int) - 1)))) none = some (rowV b T.length) := by
      rw [w1]
      have := slice_hi (P := Tryd.prog) (t := 57) (b := b) (off := 0) (len := T.length + 1) (kd := .i64) (n := (T.length : Int)) rfl (k := 1) rfl (by omega) (by omega)
      rwa [Int.toNat_natCast] at this
    obtain ⟨bi, i2, i3⟩ := ld_ins hs hx
    have i4 := i3 H2 gH
    refine run ?_
    refine Ob2.alloc rfl fun q7 H3 hq7 a7 g7 => ?_
    refine run ?_
    refine Ob.store rfl rfl rfl a7 rfl (by first | exact Nat.le_of_ble_eq_true rfl | simp) fun H4 s4 k4 l4 => ?_
    have g4 : Grow H2 H4 := g7.but_new k4 (by omega)
    have b7 := hblk_of s4
    have b4 := g4.hblk b2
    have ho4 : OwnI H4 q L := g4.at hI.own
    refine run ?_
    refine (effect_ax _ _ _ _).mono ?_
    rintro _ X ⟨rfl, e⟩
    subst X
    have hqi : aindexAddr Tryd.prog 57 (rowV q c.ins.length) (.int .i64 (i0 : Int)) = some (.pointer (some ⟨q, i0, none⟩)) := own_idx hi0
    have hql := own_ld ho4 hd
    have hpp := pops_le x
    have hpu := pushes_le x
    change 0 ≤ (eff x.1 x.2.1).1 ∧ (eff x.1 x.2.1).1 ≤ 8 at hpp
    change 0 ≤ (eff x.1 x.2.1).2 ∧ (eff x.1 x.2.1).2 ≤ 2 at hpu
    refine run ?_
    apply SW.drawG [(0, [], [47, 50], false), (1, [], [46, 50], false), (2, [(46, 0), (47, 1)], [46, 47, 50], false), (3, [(46, 0), (47, 1), (48, 2)], [46, 47, 48, 50], false), (4, [], [46, 47, 48, 49], false), (5, [(46, 0), (47, 1), (48, 2), (49, 3), (50, 4)], [46, 47, 48, 49, 50], false), (6, [(46, 0), (47, 1), (48, 2), (49, 3), (50, 4), (51, 5)], [46, 47, 48, 49, 50, 51], false), (7, [(46, 0), (47, 1), (48, 2), (49, 3), (50, 4), (51, 5), (52, 6)], [46, 47, 48, 49, 50, 51, 52, 54, 57, 58], false), (8, [(46, 0), (47, 1), (48, 2), (49, 3), (50, 4), (51, 5), (52, 6)], [46, 47, 48, 49, 50, 51, 52, 53, 57, 58], false), (9, [(46, 0), (47, 1), (48, 2), (49, 3), (50, 4), (51, 5), (52, 6), (53, 7), (54, 8)], [46, 47, 48, 49, 50, 51, 52, 53, 54, 57, 58], false), (10, [(46, 0), (47, 1), (48, 2), (49, 3), (50, 4), (51, 5), (52, 6), (53, 7), (54, 8), (55, 9)], [46, 47, 48, 49, 50, 51, 52, 53, 54, 55, 57, 58], false), (11, [(46, 0), (47, 1), (48, 2), (49, 3), (50, 4), (51, 5), (52, 6)], [46, 47, 48, 49, 50, 51, 52, 53, 54, 55, 56], false), (12, [(46, 0), (47, 1), (48, 2), (49, 3), (50, 4), (51, 5), (52, 6), (57, 11)], [46, 47, 48, 49, 50, 51, 52, 53, 54, 55, 56, 57], false), (13, [(46, 0), (47, 1), (48, 2), (49, 3), (50, 4), (51, 5), (52, 6), (53, 7), (54, 8), (55, 9), (56, 10), (57, 11), (58, 12)], [46, 47, 48, 49, 50, 51, 52, 53, 54, 55, 56, 57, 58], false), (14, [(46, 0), (47, 1), (48, 2), (49, 3), (50, 4), (51, 5), (52, 6), (53, 7), (54, 8), (55, 9), (56, 10), (57, 11), (58, 12), (59, 13)], [46, 47, 48, 49, 50, 51, 52, 53, 54, 55, 56, 57, 58, 59], false)]
      [(46, 0), (47, 1), (48, 2), (49, 3), (50, 4), (51, 5), (52, 6), (53, 7), (54, 8), (55, 9), (56, 10), (57, 11), (58, 12), (59, 13), (60, 14)]
      [(1, _), (4, _), (5, _), (6, _), (7, _), (8, _), (9, _)] rfl (by kernel_rfl)
    case hF => exact ⟨rfl, rfl, rfl, rfl, rfl, rfl, rfl, trivial⟩
    (try (conv => whnf)); (repeat' ((fail_if_success (with_reducible refine And.intro ?_ ?_)); (fail_if_success (with_reducible refine Exists.intro ?_ ?_)); (first | (refine step0 ?_) | (apply bIf.of <;> intro hc <;> (conv => whnf)))))
    · exact ⟨none, .inl ⟨i0, d, x, hr, hx, .inl (of_decide_eq_true hc)⟩, rfl, gH.trans g4⟩
    · exact ⟨none, .inl ⟨i0, d, x, hr, hx, .inr (.inl (of_decide_eq_true hc))⟩, rfl, gH.trans g4⟩
    have hdd : d ≤ c.deep := by have := of_decide_eq_false hc; show d ≤ c.2.2.2.1; omega
    clear hc
    have hpd : pops x ≤ d := by have := of_decide_eq_false hc; unfold pops; omega
    clear hc hql ht2 i4 b2 i1 s1 a7 s4
    refine (targets_ax (insR.grow hs (gH.trans g4)) (i0 : Int)).mono ?_
    rintro tv H5 ⟨hT, g5⟩
    have b5 := g5.hblk b4
    have b75 := g5.hblk b7
    have ho5 : OwnI H5 q L := g5.at ho4
    have ht5 : TodoR H5 b T := by obtain ⟨cc, e1, e2⟩ := ht1; exact ⟨cc, g5.at (g4.at e1), e2⟩
    have hq2 : q < H4.length := lt_at ho4
    have hb2 : b < H4.length := by obtain ⟨cc, e1, e2⟩ := ht1; exact lt_at (g4.at e1)
    have hl4 : H2.length ≤ H4.length := g4.1
    have hl5 : H4.length ≤ H5.length := g5.1
    have hTl := tgt_len ha i0
    have n0 := hT.len H5
    refine run ?_
    refine SW.loop (α := DSt) (fun y => [(1, .pointer (some ⟨q1, 0, none⟩)), (4, rowV q c.ins.length), (5, rowV y.2.1 y.2.2.2.length), (6, .int .i64 (i0 : Int)), (7, .pointer (some ⟨q7, 0, none⟩)), (8, .int .i64 (eff x.1 x.2.1).1), (9, .int .i64 (eff x.1 x.2.1).2), (63, tv), (64, .int .i64 ((tgt c.ins (i0 : Int)).length : Int)), (65, .int .i64 (y.1 : Int))])
      (fun y H' => y.1 ≤ (tgt c.ins (i0 : Int)).length ∧ But2 q b H5 H' ∧ OwnI H' q y.2.2.1 ∧ TodoR H' y.2.1 y.2.2.2 ∧ (y.2.1 = b ∨ H5.length ≤ y.2.1) ∧ Inv c y.2.2.1 ∧ y.2.2.1[i0]? = some d ∧ (∀ i ∈ y.2.2.2, ∃ d, y.2.2.1[i]? = some d ∧ 0 ≤ d) ∧ (∀ i, i ≠ i0 → i ∉ y.2.2.2 → Fine c y.2.2.1 i) ∧
        (∀ (k : Nat) (t : Int), k < y.1 → (tgt c.ins (i0 : Int))[k]? = some t → t < c.ins.length ∧ nd x d k ≤ c.deep ∧ y.2.2.1[t.toNat]? = some (nd x d k)) ∧ 2 * cnt y.2.2.1 + y.2.2.2.length ≤ 2 * cnt L + T.length)
      (fun y => (tgt c.ins (i0 : Int)).length - y.1) ⟨(0, b, L, T), ⟨rfl, rfl, rfl, rfl, rfl, rfl, rfl, rfl, rfl, rfl, trivial⟩, by omega, .refl _ _ _, ho5, ht5, .inl rfl, hI.inv, hd, fun i hi => hI.mem i (by simp [hi]), fun i hi hn => hI.fine i (by simp [hi, hn]), fun k t hk => by simp at hk, Nat.le_refl _⟩ ?_
    rintro ⟨j, b', L', T'⟩ H6 ⟨hj, k2, ho6, ht6, hbb, hv, hdi, hm, hf, hdone, hcnt⟩
    dsimp only at hj k2 ho6 ht6 hbb hv hdi hm hf hdone hcnt ⊢
    refine bC_sound _ _ _ _ ?_
    have hbq : b' ≠ q := by
      have := hI.ne
      rcases hbb with h | h
      · omega
      · omega
    by_cases hjl : j < (tgt c.ins (i0 : Int)).length
    · have dj : decide ((j : Int) < ((tgt c.ins (i0 : Int)).length : Int)) = true := decide_eq_true (by omega)
      obtain ⟨t, ht⟩ := get_lt hjl
      obtain ⟨pb, p1, p2, p3, p4⟩ := hT.at ht
      have p5 := p4 H6 (k2.2 pb p2 (by omega) (by omega))
      have hne1 := hI.q0
      have hne2 := hI.b0
      have b6 : hblk H6 q1 = _ := hblk_of (k2.at (g5.at (g4.at (hI.grow.at a1))) (by omega) (by omega))
      have b76 : hblk H6 q7 = some [.int .i64 x.1, .int .i64 x.2.1, .int .i64 x.2.2] := by
        obtain ⟨m, hm7⟩ := hblk_some b75
        have hq2' := hq2
        have : q < H2.length := lt_at hI.own
        have : b < H2.length := by obtain ⟨cc, e1, e2⟩ := ht1; exact lt_at e1
        exact hblk_of (k2.at hm7 (by omega) (by omega))
      have hql6 := own_ld ho6 hdi
      have gH6 : Grow H1 H6 := k2.grow ((hI.grow.trans g4).trans g5) hne1 hne2
      have hlen6 : alen Tryd.prog 43 sv H6 = some (.int .i64 c.ins.length) := hs.len rfl _
      obtain ⟨tn, htn⟩ : ∃ tn : Nat, t = (tn : Int) := ⟨t.toNat, by have := (tgt_nonneg ha ht).1; omega⟩
      subst htn
      have hnd := nd_le (k := j) hpd
      have hw : IntKind.i64.wrap (IntKind.i64.wrap (d - (eff x.1 x.2.1).1) + (eff x.1 x.2.1).2) = d - pops x + pushes x := by
        have := ha.2.2.2.1
        rw [wrap_i64 (n := d - (eff x.1 x.2.1).1) (by omega) (by omega), wrap_i64 (by omega) (by omega)]; rfl
      have hw1 : IntKind.i64.wrap (d - pops x + pushes x + 1) = d - pops x + pushes x + 1 := by
        have := ha.2.2.2.1
        have := pops_le x
        have := pushes_le x
        rw [wrap_i64 (by omega) (by omega)]
      by_cases htl : tn < c.ins.length
      · have dt : decide ((tn : Int) ≥ (c.ins.length : Int)) = false := decide_eq_false (by omega)
        obtain ⟨e, he⟩ := get_lt (L := L') (m := tn) (by rw [hv.len]; exact htl)
        have hti : aindexAddr Tryd.prog 57 (rowV q c.ins.length) (.int .i64 (tn : Int)) = some (.pointer (some ⟨q, tn, none⟩)) := own_idx htl
        have htl6 := own_ld ho6 he
        have hre : 0 ≤ e → Reach c tn e := fun h => by
          rcases hv.val tn e he with h1 | h1
          · omega
          · exact h1.2
        have rnd : nd x d j ≤ c.deep → Reach c tn (nd x d j) := fun h => by
          have := Reach.step hr hx hpd hdd ht (by omega) h
          rwa [Int.toNat_natCast] at this
        have hcase : (decide ((j : Int) > 0) = false ∧ nd x d j = d - pops x + pushes x) ∨ (decide ((j : Int) > 0) = true ∧ (x.1 == 24) = true ∧ nd x d j = d - pops x + pushes x + 1) ∨ (decide ((j : Int) > 0) = true ∧ (x.1 == 24) = false ∧ (x.1 == 25) = true ∧ nd x d j = d - pops x + pushes x + 1) ∨
            (decide ((j : Int) > 0) = true ∧ (x.1 == 24) = false ∧ (x.1 == 25) = false ∧ nd x d j = d - pops x + pushes x) := by
          unfold nd
          simp only [decide_eq_true_eq, decide_eq_false_iff_not, beq_iff_eq, beq_eq_false_iff_ne]
          by_cases h0 : j = 0
          · left; rw [if_neg (by omega)]; omega
          · right
            by_cases h24 : x.1 = 24
            · left; rw [if_pos (by omega)]; omega
            · right
              by_cases h25 : x.1 = 25
              · left; rw [if_pos (by omega)]; omega
              · right; rw [if_neg (by omega)]; omega
        rcases hcase with ⟨z1, z2⟩ | ⟨z1, z3, z2⟩ | ⟨z1, z3, z4, z2⟩ | ⟨z1, z3, z4, z2⟩
        all_goals refine run ?_
        all_goals rw [hw]
        all_goals try rw [hw1]
        all_goals rw [← z2]
        all_goals ((try (conv => whnf)); (repeat' ((fail_if_success (with_reducible refine And.intro ?_ ?_)); (fail_if_success (with_reducible refine Exists.intro ?_ ?_)); (first | (refine step0 ?_) | (apply bIf.of <;> intro hc <;> (conv => whnf))))))
        all_goals first
          | (refine ⟨none, .inl ⟨i0, d, x, hr, hx, .inr (.inr ⟨j, _, ht, .inr ?_⟩)⟩, rfl, g1.trans gH6⟩; exact of_decide_eq_true hc)
          | (refine ⟨none, .inr ⟨tn, e, nd x d j, hre ?_, rnd ?_, ?_⟩, rfl, g1.trans gH6⟩ <;> ((simp only [ba_ne_t, ba_ne_f, ba_eq_t, ba_eq_f, bne_iff_ne, bne_eq_false_iff_eq, decide_eq_true_eq, decide_eq_false_iff_not, beq_iff_eq, beq_eq_false_iff_ne, ne_eq, Bool.not_eq_true, Bool.not_eq_false, Bool.not_eq_true', Bool.not_eq_false'] at *); show _; first | assumption | (simp only [CodeT.deep] at *; omega)))
          | (exfalso; clear b6 b76 hql6 htl6 hti p5 hlen6 hT p3 p4 n0 b5 b75 ho5 ht5 ho6 ht6; (simp only [ba_ne_t, ba_ne_f, ba_eq_t, ba_eq_f, bne_iff_ne, bne_eq_false_iff_eq, decide_eq_true_eq, decide_eq_false_iff_not, beq_iff_eq, beq_eq_false_iff_ne, ne_eq, Bool.not_eq_true, Bool.not_eq_false, Bool.not_eq_true', Bool.not_eq_false'] at *); omega)
          | skip
        all_goals have hnd1 : nd x d j ≤ c.deep := by clear b6 b76 hql6 htl6 hti p5 hlen6 hT p3 p4 n0 b5 b75 ho5 ht5 ho6 ht6; (simp only [ba_ne_t, ba_ne_f, ba_eq_t, ba_eq_f, bne_iff_ne, bne_eq_false_iff_eq, decide_eq_true_eq, decide_eq_false_iff_not, beq_iff_eq, beq_eq_false_iff_ne, ne_eq, Bool.not_eq_true, Bool.not_eq_false, Bool.not_eq_true', Bool.not_eq_false'] at *); simp only [CodeT.deep] at *; omega
        all_goals rcases Int.lt_or_le e 0 with he0 | he0
        all_goals first
          | (exfalso; clear b6 b76 hql6 htl6 hti p5 hlen6 hT p3 p4 n0 b5 b75 ho5 ht5 ho6 ht6; (simp only [ba_ne_t, ba_ne_f, ba_eq_t, ba_eq_f, bne_iff_ne, bne_eq_false_iff_eq, decide_eq_true_eq, decide_eq_false_iff_not, beq_iff_eq, beq_eq_false_iff_ne, ne_eq, Bool.not_eq_true, Bool.not_eq_false, Bool.not_eq_true', Bool.not_eq_false'] at *); omega)
          | skip
        all_goals first
          | (have he2 : e = nd x d j := by clear b6 b76 hql6 htl6 hti p5 hlen6 hT p3 p4 n0 b5 b75 ho5 ht5 ho6 ht6; (simp only [ba_ne_t, ba_ne_f, ba_eq_t, ba_eq_f, bne_iff_ne, bne_eq_false_iff_eq, decide_eq_true_eq, decide_eq_false_iff_not, beq_iff_eq, beq_eq_false_iff_ne, ne_eq, Bool.not_eq_true, Bool.not_eq_false, Bool.not_eq_true', Bool.not_eq_false'] at *); omega
             refine ⟨(j + 1, b', L', T'), ⟨rfl, rfl, rfl, rfl, rfl, rfl, rfl, rfl, rfl, congrArg (fun z => some (Value.int .i64 z)) (w_succ (by omega)), trivial⟩, ⟨by show j + 1 ≤ _; omega, k2, ho6, ht6, hbb, hv, hdi, hm, hf, ?_, hcnt⟩, by show _ - (j + 1) < _ - j; omega⟩
             intro k t' hk ht'
             by_cases hkj : k = j
             · subst hkj
               rw [ht] at ht'
               simp only [Option.some.injEq] at ht'
               subst ht'
               refine ⟨by omega, hnd1, ?_⟩
               rw [Int.toNat_natCast, he, he2]
             · exact hdone k t' (by omega) ht')
          | skip
        all_goals
          have he1 : L'[tn]? = some (-1) := by
            rcases hv.val tn e he with h1 | h1
            · rw [he, h1]
            · omega
          refine Ob.storeI ho6 (by rw [hv.len]; exact htl) fun H7 o7 k7 l7 => ?_
          refine run ?_
          refine Ob2.of (a := rowV H7.length 1) (b := H7 ++ [Blk.cells (.row 3) [.int .i64 (tn : Int)]]) rfl ?_
          have td7 : TodoR (H7 ++ [Blk.cells (.row 3) [.int .i64 (tn : Int)]]) b' T' := by
            obtain ⟨cc, e1, e2⟩ := ht6
            exact ⟨cc, (Grow.push _ _).at (k7.at e1 hbq), e2⟩
          have o8 : OwnI (H7 ++ [Blk.cells (.row 3) [.int .i64 (tn : Int)]]) q (L'.set tn (nd x d j)) := (Grow.push _ _).at o7
          obtain ⟨H9, ap, td9, bt9⟩ := todo_append td7 (at_push _ _) (by omega)
          have k9 : But2 q b H5 H9 := ((k2.step k7 (.inl rfl)).step (But.push (p := q) H7 _) (.inl rfl)).step bt9 (by omega)
          have hl6 : H5.length ≤ H6.length := k2.1
          have c9 := cnt_set he1 hnd.1
          refine run ?_
          refine Ob2.of ap ?_
          refine run ?_
          refine ⟨(j + 1, (H7 ++ [Blk.cells (.row 3) [.int .i64 (tn : Int)]]).length, L'.set tn (nd x d j), T' ++ [tn]), ⟨rfl, rfl, rfl, rfl, rfl, rfl, rfl, rfl, rfl, congrArg (fun z => some (Value.int .i64 z)) (w_succ (by omega)), trivial⟩,
            ⟨by show j + 1 ≤ _; omega, k9, bt9.at o8 (fun h => hbq h.symm), td9, ?_, hv.mark he1 (rnd hnd1), ?_, ?_, ?_, ?_, ?_⟩, by show _ - (j + 1) < _ - j; omega⟩
          · right; simp only [List.length_append, List.length_singleton]; omega
          · rw [List.getElem?_set_ne]; exact hdi
            intro h; subst h; rw [hdi] at he1; simp only [Option.some.injEq] at he1; omega
          · intro i hi
            rcases List.mem_append.1 hi with hi | hi
            · obtain ⟨d', e1, e2⟩ := hm i hi
              refine ⟨d', ?_, e2⟩
              rw [List.getElem?_set_ne]; exact e1
              intro h; subst h; rw [e1] at he1; simp only [Option.some.injEq] at he1; omega
            · simp only [List.mem_singleton] at hi
              subst hi
              exact ⟨_, List.getElem?_set_self (lt_of_get he1), hnd.1⟩
          · intro i hi1 hi2
            simp only [List.mem_append, List.mem_singleton, not_or] at hi2
            exact (hf i hi1 hi2.1).mark' he1 hi2.2 ha
          · intro k t' hk ht'
            by_cases hkj : k = j
            · subst hkj
              rw [ht] at ht'
              simp only [Option.some.injEq] at ht'
              subst ht'
              refine ⟨by omega, hnd1, ?_⟩
              rw [Int.toNat_natCast]
              exact List.getElem?_set_self (lt_of_get he1)
            · obtain ⟨e1, e2, e3⟩ := hdone k t' (by omega) ht'
              refine ⟨e1, e2, ?_⟩
              rw [List.getElem?_set_ne]; exact e3
              intro h; subst h; rw [e3] at he1; simp only [Option.some.injEq] at he1
              have := (nd_le (k := k) hpd).1
              omega
          · show 2 * cnt (L'.set tn (nd x d j)) + (T' ++ [tn]).length ≤ _
            simp only [List.length_append, List.length_singleton]
            omega
      · have dt : decide ((tn : Int) ≥ (c.ins.length : Int)) = true := decide_eq_true (by omega)
        (try (conv => whnf)); (repeat' ((fail_if_success (with_reducible refine And.intro ?_ ?_)); (fail_if_success (with_reducible refine Exists.intro ?_ ?_)); (first | (refine step0 ?_) | (apply bIf.of <;> intro hc <;> (conv => whnf)))))
        all_goals exact ⟨none, .inl ⟨i0, d, x, hr, hx, .inr (.inr ⟨j, _, ht, .inl (by omega)⟩)⟩, rfl, g1.trans gH6⟩
    · have dj : decide ((j : Int) < ((tgt c.ins (i0 : Int)).length : Int)) = false := decide_eq_false (by omega)
      refine run ?_
      refine ⟨(q, b', L', T'), rfl, ⟨rfl, rfl, rfl, trivial⟩, ⟨k2.grow ((hI.grow.trans g4).trans g5) hI.q0 hI.b0, hI.q0, ?_, fun h => hbq h.symm, ho6, ht6, hv, ?_, hm, fun i hi => ?_⟩, ?_⟩
      · have := hI.b0
        have := hI.grow.1
        show H1.length ≤ b'
        omega
      · show 2 * cnt L' + T'.length ≤ 10000
        omega
      · by_cases hi0' : i = i0
        · subst hi0'
          intro d' x' h1 h2 h3
          rw [hdi] at h1
          simp only [Option.some.injEq] at h1
          rw [hx] at h3
          simp only [Option.some.injEq] at h3
          subst h1 h3
          exact ⟨hpd, hdd, fun k t ht => hdone k t (by have := lt_of_get ht; omega) ht⟩
        · exact hf i hi0' hi
      · show 2 * cnt L' + T'.length < 2 * cnt L + (T.length + 1)
        omega
end Go.Proofs.YtmdpifedcaaobaaDoor
/- The document of package code: the depths of a code's stack. -/
set_option linter.unusedVariables false
set_option linter.unusedSimpArgs false
set_option maxRecDepth 20000
set_option maxHeartbeats 8000000
namespace Go.Proofs.YtmdpifedcaaobaaDoor
open Go Ax
theorem tgt_one {c : CodeT} (ha : Aims c) {i : Nat} {x : Ins} (hx : c.ins[i]? = some x) {t : Int} (h : (tgt c.ins (i : Int))[1]? = some t) : x.1 = 23 ∨ x.1 = 24 ∨ x.1 = 25 := by
  rw [tgt_at hx ha.1] at h
  split at h
  · simp at h
  split at h
  · simp at h
  split at h
  · rename_i h1 h2 h3
    unfold gos at h3
    simp only [decide_eq_true_eq] at h3
    omega
  · simp at h
theorem set_same {α : Type} {L : List α} {i : Nat} {a : α} (h : L[i]? = some a) : L.set i a = L := by
  apply List.ext_getElem?
  intro j
  by_cases hij : i = j
  · subst hij; rw [List.getElem?_set_self (lt_of_get h), h]
  · rw [List.getElem?_set_ne hij]
structure RI (c : CodeT) (H1 : Heap) (q : Nat) (L : List Int) (H : Heap) : Prop where
  grow : Grow H1 H
  own : OwnI H q L
  inv : Inv c L
theorem rep_set {n : Nat} {L : List Int} {k : Nat} (hL : L.length = n) (hk : k < n) (h1 : ∀ i, 1 ≤ i → i < k → L[i]? = some (-1)) : ∀ i, 1 ≤ i → i < k + 1 → (L.set k (-1))[i]? = some (-1) := by
  intro i hi1 hi2
  by_cases hik : k = i
  · subst hik; exact List.getElem?_set_self (by omega)
  · rw [List.getElem?_set_ne hik]; exact h1 i hi1 (by omega)
theorem cnt_first {L : List Int} (h0 : L[0]? = some 0) : cnt L + 1 ≤ L.length := by
  cases L with
  | nil => simp at h0
  | cons a L =>
    simp only [List.getElem?_cons_zero, Option.some.injEq] at h0
    subst h0
    have := List.countP_le_length (p := fun d : Int => d == -1) (l := L)
    show List.countP _ _ + 1 ≤ _
    simp only [List.countP_cons, List.length_cons]
    have h : ((0 : Int) == -1) = false := rfl
    simp only [h]
    simp
    exact this
theorem rdepths_ax {H : Heap} {c : CodeT} {sv : Value} (hs : RL 3 insR H sv c.ins) (ha : Aims c) :
    AX Tryd.prog 45 #[codeV c sv] H (fun v H' => ∃ r, DS c r ∧ DV H' v r ∧ Grow H H') := by
  have hn := ha.1
  have hn0 := ha.2.1
  refine AX.body (n := 155) (rs := [.tmp 2, .tmp 3]) Tryd.func45 rfl (by decide) rfl rfl (bC_sound _ _ _ _ ?_)
  (conv => whnf)
  refine Ob2.box rfl fun q1 H1 hq1 a1 g1 => ?_
  have b1 := hblk_of a1
  have hl1 : q1 < H1.length := lt_at a1
  have hlen : ∀ H', alen Tryd.prog 43 sv H' = some (.int .i64 c.ins.length) := fun H' => hs.len rfl _
  have hlen1 := hlen H1
  refine run ?_
  refine Ob2.of (make_slice rfl rfl rfl rfl (by decide) rfl (by omega) (by omega) (by show 8 * (c.ins.length : Int) ≤ _; omega)) ?_
  rw [zeros_one, Int.toNat_natCast]
  have g2 : Grow H1 (H1 ++ [Blk.cells (.row 3) (List.replicate c.ins.length (.int .i64 0))]) := .push _ _
  have o2 : OwnI (H1 ++ [Blk.cells (.row 3) (List.replicate c.ins.length (.int .i64 0))]) H1.length (List.replicate c.ins.length 0) := by
    unfold OwnI; rw [List.map_replicate]; exact at_push _ _
  revert g2 o2
  generalize H1 ++ [Blk.cells (.row 3) (List.replicate c.ins.length (.int .i64 0))] = H2
  generalize hqd : H1.length = q
  intro g2 o2
  refine run ?_
  refine SW.loop (α := Nat × List Int) (fun y => [(1, .pointer (some ⟨q1, 0, none⟩)), (4, rowV q c.ins.length), (5, .int .i64 (y.1 : Int))]) (fun y H' => Grow H1 H' ∧ OwnI H' q y.2 ∧ y.2.length = c.ins.length ∧ 1 ≤ y.1 ∧ y.1 ≤ c.ins.length ∧ y.2[0]? = some 0 ∧ ∀ i, 1 ≤ i → i < y.1 → y.2[i]? = some (-1)) (fun y => c.ins.length - y.1)
    ⟨(1, List.replicate c.ins.length 0), ⟨rfl, rfl, rfl, trivial⟩, g2, o2, by simp, Nat.le_refl _, by show 1 ≤ _; omega, by simp [hn0], fun i h1 h2 => by dsimp only at h2; omega⟩ ?_
  rintro ⟨k, L⟩ H3 ⟨g3, o3, hL, hk1, hk2, hz, hm⟩
  dsimp only at g3 o3 hL hk1 hk2 hz hm ⊢
  refine bC_sound _ _ _ _ ?_
  have b3 := g3.hblk b1
  have hlen3 := hlen H3
  by_cases hkn : k < c.ins.length
  · have d1 : decide ((k : Int) < (c.ins.length : Int)) = true := decide_eq_true (by omega)
    have i1 : aindexAddr Tryd.prog 57 (rowV q c.ins.length) (.int .i64 (k : Int)) = some (.pointer (some ⟨q, k, none⟩)) := own_idx hkn
    refine run ?_
    refine Ob.storeI o3 (by omega) fun H4 o4 k4 l4 => ?_
    refine run ?_
    exact ⟨(k + 1, L.set k (-1)), ⟨rfl, rfl, congrArg (fun z => some (Value.int .i64 z)) (w_succ (by omega)), trivial⟩, ⟨g3.but_new k4 (by omega), o4, by simp [hL], by show 1 ≤ k + 1; omega, by show k + 1 ≤ _; omega, by rw [List.getElem?_set_ne (by omega)]; exact hz, rep_set hL hkn hm⟩, by show _ - (k + 1) < _ - k; omega⟩
  have d1 : decide ((k : Int) < (c.ins.length : Int)) = false := decide_eq_false (by omega)
  have hkn' : k = c.ins.length := by omega
  subst hkn'
  have hinv : Inv c L := ⟨hL, hz, fun i d h => by
    by_cases hi : i = 0
    · subst hi
      rw [hz] at h
      simp only [Option.some.injEq] at h
      subst h
      exact .inr ⟨Int.le_refl _, .start⟩
    · rw [hm i (by omega) (by have := lt_of_get h; omega)] at h
      simp only [Option.some.injEq] at h
      exact .inl h.symm⟩
  have hc0 := cnt_first hz
  refine run ?_
  refine SW.loop (α := Nat × Bool × List Int) (fun y => [(1, .pointer (some ⟨q1, 0, none⟩)), (4, rowV q c.ins.length), (6, .bool y.2.1), (7, .int .i64 (y.1 : Int))]) (fun y H' => RI c H1 q y.2.2 H' ∧ y.1 ≤ c.ins.length + 1 ∧ (y.2.1 = true → cnt y.2.2 + y.1 + 1 ≤ c.ins.length) ∧ (y.2.1 = false → ∀ i, Fine c y.2.2 i)) (fun y => c.ins.length + 1 - y.1)
    ⟨(0, true, L), ⟨rfl, rfl, rfl, rfl, trivial⟩, ⟨g3, o3, hinv⟩, by show 0 ≤ _; omega, fun _ => by show cnt L + 0 + 1 ≤ _; omega, fun h => by simp at h⟩ ?_
  clear hc0 hinv hm hz hL o3 g3 hk1 hk2 hkn b3 hlen3 d1 L H3 o2 g2 H2 hlen1
  rintro ⟨turn, gr, L⟩ H3 ⟨⟨g3, o3, hv⟩, htn, hgt, hgf⟩
  dsimp only at g3 o3 hv htn hgt hgf ⊢
  refine bC_sound _ _ _ _ ?_
  have b3 := g3.hblk b1
  have hlen3 := hlen H3
  cases gr with
  | false =>
    have hcl : Closed c L := ⟨hv, hgf rfl⟩
    (try (conv => whnf)); (repeat' ((fail_if_success (with_reducible refine And.intro ?_ ?_)); (fail_if_success (with_reducible refine Exists.intro ?_ ?_)); (first | (refine step0 ?_) | (apply bIf.of <;> intro hc <;> (conv => whnf)))))
    all_goals exact ⟨some L, hcl, ⟨q, by rw [hv.len]; rfl, o3⟩, g1.trans g3⟩
  | true =>
    replace hgt := hgt rfl
    have d1 : decide ((turn : Int) ≤ (c.ins.length : Int)) = true := decide_eq_true (by omega)
    refine run ?_
    refine SW.loop (α := Nat × Bool × List Int) (fun y => [(1, .pointer (some ⟨q1, 0, none⟩)), (4, rowV q c.ins.length), (6, .bool y.2.1), (7, .int .i64 (turn : Int)), (8, .int .i64 (y.1 : Int))]) (fun y H' => RI c H1 q y.2.2 H' ∧ y.1 ≤ c.ins.length ∧ (y.2.1 = true → cnt y.2.2 + turn + 2 ≤ c.ins.length) ∧ (y.2.1 = false → cnt y.2.2 + turn + 1 ≤ c.ins.length ∧ ∀ i, i < y.1 → Fine c y.2.2 i)) (fun y => c.ins.length - y.1)
      ⟨(0, false, L), ⟨rfl, rfl, rfl, rfl, rfl, trivial⟩, ⟨g3, o3, hv⟩, by show 0 ≤ _; omega, fun h => by simp at h, fun _ => ⟨hgt, fun i h => by dsimp only at h; omega⟩⟩ ?_
    have htn' : turn + 1 ≤ c.ins.length := by omega
    clear d1 hlen3 b3 hgt hgf hv o3 g3
    rintro ⟨i0, gr, L⟩ H3 ⟨⟨g3, o3, hv⟩, hi0, hgt, hgf⟩
    dsimp only at g3 o3 hv hi0 hgt hgf ⊢
    refine bC_sound _ _ _ _ ?_
    have b3 := g3.hblk b1
    have hlen3 := hlen H3
    by_cases hi : i0 < c.ins.length
    · have d1 : decide ((i0 : Int) < (c.ins.length : Int)) = true := decide_eq_true (by omega)
      obtain ⟨d, hd⟩ := get_lt (L := L) (m := i0) (by rw [hv.len]; exact hi)
      obtain ⟨x, hx⟩ := get_lt hi
      have hqi : aindexAddr Tryd.prog 57 (rowV q c.ins.length) (.int .i64 (i0 : Int)) = some (.pointer (some ⟨q, i0, none⟩)) := own_idx hi
      have hql := own_ld o3 hd
      have ws : IntKind.i64.wrap ((i0 : Int) + 1) = ((i0 + 1 : Nat) : Int) := w_succ (by omega)
      by_cases hd0 : d < 0
      · have d2 : decide (d < 0) = true := decide_eq_true hd0
        refine run ?_
        refine ⟨(i0 + 1, gr, L), ⟨rfl, rfl, rfl, rfl, congrArg (fun z => some (Value.int .i64 z)) ws, trivial⟩, ⟨⟨g3, o3, hv⟩, hi, hgt, fun h => ⟨(hgf h).1, fun i hlt => ?_⟩⟩, by show _ - (i0 + 1) < _ - i0; omega⟩
        by_cases hii : i = i0
        · subst hii
          intro d' x' h1 h2
          rw [hd] at h1
          simp only [Option.some.injEq] at h1
          omega
        · exact (hgf h).2 i (by dsimp only at hlt; omega)
      · have d2 : decide (d < 0) = false := decide_eq_false hd0
        have hr : Reach c i0 d := by
          rcases hv.val i0 d hd with h | h
          · omega
          · exact h.2
        obtain ⟨bi, i2, i3⟩ := ld_ins hs hx
        have i4 := i3 H3 (g1.trans g3)
        have hpp := pops_le x
        have hpu := pushes_le x
        change 0 ≤ (eff x.1 x.2.1).1 ∧ (eff x.1 x.2.1).1 ≤ 8 at hpp
        change 0 ≤ (eff x.1 x.2.1).2 ∧ (eff x.1 x.2.1).2 ≤ 2 at hpu
        refine run ?_
        refine (reffect_ax _ _ _ _).mono ?_
        rintro _ X ⟨rfl, e⟩
        subst X
        refine run ?_
        apply SW.drawG [(0, [], [60, 63], false), (1, [], [59, 63], false), (2, [(59, 0), (60, 1)], [59, 60, 63], false), (3, [(59, 0), (60, 1), (61, 2)], [59, 60, 61, 63], false), (4, [], [59, 60, 61, 62], false), (5, [(59, 0), (60, 1), (61, 2), (62, 3), (63, 4)], [59, 60, 61, 62, 63], false), (6, [(59, 0), (60, 1), (61, 2), (62, 3), (63, 4), (64, 5)], [59, 60, 61, 62, 63, 64], false), (7, [(59, 0), (60, 1), (61, 2), (62, 3), (63, 4), (64, 5), (65, 6)], [59, 60, 61, 62, 63, 64, 65, 67, 70, 71], false), (8, [(59, 0), (60, 1), (61, 2), (62, 3), (63, 4), (64, 5), (65, 6)], [59, 60, 61, 62, 63, 64, 65, 66, 70, 71], false), (9, [(59, 0), (60, 1), (61, 2), (62, 3), (63, 4), (64, 5), (65, 6), (66, 7), (67, 8)], [59, 60, 61, 62, 63, 64, 65, 66, 67, 70, 71], false), (10, [(59, 0), (60, 1), (61, 2), (62, 3), (63, 4), (64, 5), (65, 6), (66, 7), (67, 8), (68, 9)], [59, 60, 61, 62, 63, 64, 65, 66, 67, 68, 70, 71], false), (11, [(59, 0), (60, 1), (61, 2), (62, 3), (63, 4), (64, 5), (65, 6)], [59, 60, 61, 62, 63, 64, 65, 66, 67, 68, 69], false), (12, [(59, 0), (60, 1), (61, 2), (62, 3), (63, 4), (64, 5), (65, 6), (70, 11)], [59, 60, 61, 62, 63, 64, 65, 66, 67, 68, 69, 70], false), (13, [(59, 0), (60, 1), (61, 2), (62, 3), (63, 4), (64, 5), (65, 6), (66, 7), (67, 8), (68, 9), (69, 10), (70, 11), (71, 12)], [59, 60, 61, 62, 63, 64, 65, 66, 67, 68, 69, 70, 71], false), (14, [(59, 0), (60, 1), (61, 2), (62, 3), (63, 4), (64, 5), (65, 6), (66, 7), (67, 8), (68, 9), (69, 10), (70, 11), (71, 12), (72, 13)], [59, 60, 61, 62, 63, 64, 65, 66, 67, 68, 69, 70, 71, 72], false)]
          [(59, 0), (60, 1), (61, 2), (62, 3), (63, 4), (64, 5), (65, 6), (66, 7), (67, 8), (68, 9), (69, 10), (70, 11), (71, 12), (72, 13), (73, 14)]
          [(1, _), (4, _), (6, _), (7, _), (8, _), (9, _), (10, _)] rfl (by kernel_rfl)
        case hF => exact ⟨rfl, rfl, rfl, rfl, rfl, rfl, rfl, trivial⟩
        (try (conv => whnf)); (repeat' ((fail_if_success (with_reducible refine And.intro ?_ ?_)); (fail_if_success (with_reducible refine Exists.intro ?_ ?_)); (first | (refine step0 ?_) | (apply bIf.of <;> intro hc <;> (conv => whnf)))))
        · exact ⟨none, .inl ⟨i0, d, x, hr, hx, .inl (of_decide_eq_true hc)⟩, rfl, g1.trans g3⟩
        · exact ⟨none, .inl ⟨i0, d, x, hr, hx, .inr (.inl (of_decide_eq_true hc))⟩, rfl, g1.trans g3⟩
        have hdd : d ≤ c.deep := by have := of_decide_eq_false hc; show d ≤ c.2.2.2.1; omega
        clear hc
        have hpd : pops x ≤ d := by have := of_decide_eq_false hc; unfold pops; omega
        clear hc hql
        refine (rtargets_ax (insR.grow hs (g1.trans g3)) (i0 : Int)).mono ?_
        rintro tv H5 ⟨hT, g5⟩
        have o5 : OwnI H5 q L := g5.at o3
        have hq2 : q < H3.length := lt_at o3
        have hTl := tgt_len ha i0
        refine run ?_
        refine SW.loop (α := Nat × Bool × List Int) (fun y => [(1, .pointer (some ⟨q1, 0, none⟩)), (4, rowV q c.ins.length), (6, .bool y.2.1), (7, .int .i64 (turn : Int)), (8, .int .i64 (i0 : Int)), (9, .int .i64 (eff x.1 x.2.1).1), (10, .int .i64 (eff x.1 x.2.1).2), (11, tv), (12, .int .i64 (y.1 : Int))])
          (fun y H' => (But q H5 H' ∧ OwnI H' q y.2.2 ∧ Inv c y.2.2 ∧ y.2.2[i0]? = some d) ∧ y.1 ≤ (tgt c.ins (i0 : Int)).length ∧ (y.2.1 = true → cnt y.2.2 + turn + 2 ≤ c.ins.length) ∧
            (y.2.1 = false → cnt y.2.2 + turn + 1 ≤ c.ins.length ∧ (∀ i, i < i0 → Fine c y.2.2 i) ∧ ∀ (k : Nat) (t : Int), k < y.1 → (tgt c.ins (i0 : Int))[k]? = some t → t < c.ins.length ∧ nd x d k ≤ c.deep ∧ y.2.2[t.toNat]? = some (nd x d k))) (fun y => (tgt c.ins (i0 : Int)).length - y.1)
          ⟨(0, gr, L), ⟨rfl, rfl, rfl, rfl, rfl, rfl, rfl, rfl, rfl, trivial⟩, ⟨.refl _ _, o5, hv, hd⟩, by show 0 ≤ _; omega, hgt, fun h => ⟨(hgf h).1, (hgf h).2, fun k t hk => by dsimp only at hk; omega⟩⟩ ?_
        clear hgt hgf hd hv o5 i4 hqi d1 d2 hi0 b3 hlen3
        have o3' : q < H3.length := hq2
        clear o3
        rintro ⟨j, gr, L⟩ H6 ⟨⟨k6, o6, hv, hd⟩, hj, hgt, hgf⟩
        dsimp only at k6 o6 hv hd hj hgt hgf ⊢
        refine bC_sound _ _ _ _ ?_
        have gH6 : Grow H1 H6 := (g3.trans g5).but_new k6 (by omega)
        have n0 := hT.len H6
        have ws6 : IntKind.i64.wrap ((j : Int) + 1) = ((j + 1 : Nat) : Int) := by
          have := tgt_len ha i0
          exact w_succ (by omega)
        by_cases hjl : j < (tgt c.ins (i0 : Int)).length
        · have dj : decide ((j : Int) < ((tgt c.ins (i0 : Int)).length : Int)) = true := decide_eq_true (by omega)
          obtain ⟨t, ht⟩ := get_lt hjl
          obtain ⟨pb, p1, p2, p3, p4⟩ := hT.at ht
          have p5 := p4 H6 (k6.2 pb p2 (by omega))
          have b6 := gH6.hblk b1
          have hlen6 := hlen H6
          have hqi : aindexAddr Tryd.prog 57 (rowV q c.ins.length) (.int .i64 (i0 : Int)) = some (.pointer (some ⟨q, i0, none⟩)) := own_idx hi
          have hql6 := own_ld o6 hd
          have i6 := ld_op hs hx i2 H6 (g1.trans gH6)
          obtain ⟨tn, htn⟩ : ∃ tn : Nat, t = (tn : Int) := ⟨t.toNat, by have := (tgt_nonneg ha ht).1; omega⟩
          subst htn
          have hnd := nd_le (k := j) hpd
          have hw : IntKind.i64.wrap (IntKind.i64.wrap (d - (eff x.1 x.2.1).1) + (eff x.1 x.2.1).2) = d - pops x + pushes x := by
            have := ha.2.2.2.1
            rw [wrap_i64 (n := d - (eff x.1 x.2.1).1) (by omega) (by omega), wrap_i64 (by omega) (by omega)]; rfl
          have hw1 : IntKind.i64.wrap (d - pops x + pushes x + 1) = d - pops x + pushes x + 1 := by
            have := ha.2.2.2.1
            have := pops_le x
            have := pushes_le x
            rw [wrap_i64 (by omega) (by omega)]
          by_cases htl : tn < c.ins.length
          · have dt : decide ((tn : Int) ≥ (c.ins.length : Int)) = false := decide_eq_false (by omega)
            obtain ⟨e, he⟩ := get_lt (L := L) (m := tn) (by rw [hv.len]; exact htl)
            have hti : aindexAddr Tryd.prog 57 (rowV q c.ins.length) (.int .i64 (tn : Int)) = some (.pointer (some ⟨q, tn, none⟩)) := own_idx htl
            have htl6 := own_ld o6 he
            have hre : 0 ≤ e → Reach c tn e := fun h => by
              rcases hv.val tn e he with h1 | h1
              · omega
              · exact h1.2
            have rnd : nd x d j ≤ c.deep → Reach c tn (nd x d j) := fun h => by
              have := Reach.step hr hx hpd hdd ht (by omega) h
              rwa [Int.toNat_natCast] at this
            have hcase : (((j : Int) == 1) = false ∧ nd x d j = d - pops x + pushes x) ∨ (((j : Int) == 1) = true ∧ decide (x.1 > 23) = true ∧ nd x d j = d - pops x + pushes x + 1) ∨ (((j : Int) == 1) = true ∧ decide (x.1 > 23) = false ∧ nd x d j = d - pops x + pushes x) := by
              unfold nd
              simp only [decide_eq_true_eq, decide_eq_false_iff_not, beq_iff_eq, beq_eq_false_iff_ne]
              by_cases h0 : j = 1
              · right
                subst h0
                have := tgt_one ha hx ht
                by_cases h24 : x.1 > 23
                · left; rw [if_pos (by omega)]; omega
                · right; rw [if_neg (by omega)]; omega
              · left; rw [if_neg (by omega)]; omega
            rcases hcase with ⟨z1, z2⟩ | ⟨z1, z3, z2⟩ | ⟨z1, z3, z2⟩
            all_goals refine run ?_
            all_goals
              rw [hw]
              try rw [hw1]
              rw [← z2]
              apply SW.drawG [(0, [], [105, 108, 109, 110], false), (1, [], [104, 108, 109, 110], false), (2, [(104, 0), (105, 1)], [104, 105, 108, 109, 110], false), (3, [(104, 0), (105, 1), (106, 2)], [104, 105, 106, 108, 109, 110], false), (4, [], [104, 105, 106, 107], false), (5, [(108, 4)], [104, 105, 106, 107, 108], false), (6, [(108, 4), (109, 5)], [104, 105, 106, 107, 108, 109], false), (7, [(104, 0), (105, 1), (106, 2), (107, 3), (108, 4), (109, 5), (110, 6)], [104, 105, 106, 107, 108, 109, 110], false), (8, [(104, 0), (105, 1), (106, 2), (107, 3), (108, 4), (109, 5), (110, 6), (111, 7)], [104, 105, 106, 107, 108, 109, 110, 111], false), (9, [(104, 0), (105, 1), (106, 2), (107, 3), (108, 4), (109, 5), (110, 6), (111, 7), (112, 8)], [104, 105, 106, 107, 108, 109, 110, 111, 112, 114, 115], false), (10, [(104, 0), (105, 1), (106, 2), (107, 3), (108, 4), (109, 5), (110, 6), (111, 7), (112, 8)], [104, 105, 106, 107, 108, 109, 110, 111, 112, 113], false), (11, [(104, 0), (105, 1), (106, 2), (107, 3), (108, 4), (109, 5), (110, 6), (111, 7), (112, 8), (114, 10)], [104, 105, 106, 107, 108, 109, 110, 111, 112, 113, 114], false), (12, [(104, 0), (105, 1), (106, 2), (107, 3), (108, 4), (109, 5), (110, 6), (111, 7), (112, 8), (113, 9), (114, 10), (115, 11)], [104, 105, 106, 107, 108, 109, 110, 111, 112, 113, 114, 115], false), (13, [(104, 0), (105, 1), (106, 2), (107, 3), (108, 4), (109, 5), (110, 6), (111, 7), (112, 8), (113, 9), (114, 10), (115, 11), (116, 12)], [104, 105, 106, 107, 108, 109, 110, 111, 112, 113, 114, 115, 116], false), (14, [(104, 0), (105, 1), (106, 2), (107, 3), (108, 4), (109, 5), (110, 6), (111, 7), (112, 8), (113, 9), (114, 10), (115, 11), (116, 12), (117, 13)], [104, 105, 106, 107, 108, 109, 110, 111, 112, 113, 114, 115, 116, 117], false), (15, [(104, 0), (105, 1), (106, 2), (107, 3), (108, 4), (109, 5), (110, 6), (111, 7), (112, 8), (113, 9), (114, 10), (115, 11), (116, 12), (117, 13), (118, 14)], [104, 105, 106, 107, 108, 109, 110, 111, 112, 113, 114, 115, 116, 117, 118, 120, 121, 122, 123], false), (16, [(104, 0), (105, 1), (106, 2), (107, 3), (108, 4), (109, 5), (110, 6), (111, 7), (112, 8), (113, 9), (114, 10), (115, 11), (116, 12), (117, 13), (118, 14)], [104, 105, 106, 107, 108, 109, 110, 111, 112, 113, 114, 115, 116, 117, 118, 119, 121], false), (17, [(104, 0), (105, 1), (106, 2), (107, 3), (108, 4), (109, 5), (110, 6), (111, 7), (112, 8), (113, 9), (114, 10), (115, 11), (116, 12), (117, 13), (118, 14)], [104, 105, 106, 107, 108, 109, 110, 111, 112, 113, 114, 115, 116, 117, 118, 119, 120], false), (18, [(104, 0), (105, 1), (106, 2), (107, 3), (108, 4), (109, 5), (110, 6), (111, 7), (112, 8), (113, 9), (114, 10), (115, 11), (116, 12), (117, 13), (118, 14), (120, 16), (121, 17)], [104, 105, 106, 107, 108, 109, 110, 111, 112, 113, 114, 115, 116, 117, 118, 119, 120, 121], false), (19, [(104, 0), (105, 1), (106, 2), (107, 3), (108, 4), (109, 5), (110, 6), (111, 7), (112, 8), (113, 9), (114, 10), (115, 11), (116, 12), (117, 13), (118, 14), (120, 16), (121, 17), (122, 18)], [104, 105, 106, 107, 108, 109, 110, 111, 112, 113, 114, 115, 116, 117, 118, 119, 120, 121, 122], false), (20, [(104, 0), (105, 1), (106, 2), (107, 3), (108, 4), (109, 5), (110, 6), (111, 7), (112, 8), (113, 9), (114, 10), (115, 11), (116, 12), (117, 13), (118, 14), (119, 15), (120, 16), (121, 17), (122, 18), (123, 19)], [104, 105, 106, 107, 108, 109, 110, 111, 112, 113, 114, 115, 116, 117, 118, 119, 120, 121, 122, 123], false), (21, [(104, 0), (105, 1), (106, 2), (107, 3), (108, 4), (109, 5), (110, 6), (111, 7), (112, 8), (113, 9), (114, 10), (115, 11), (116, 12), (117, 13), (118, 14), (119, 15), (120, 16), (121, 17), (122, 18), (123, 19), (124, 20)], [104, 105, 106, 107, 108, 109, 110, 111, 112, 113, 114, 115, 116, 117, 118, 119, 120, 121, 122, 123, 124], false), (22, [(104, 0), (105, 1), (106, 2), (107, 3), (108, 4), (109, 5), (110, 6), (111, 7), (112, 8), (113, 9), (114, 10), (115, 11), (116, 12), (117, 13), (118, 14), (119, 15), (120, 16), (121, 17), (122, 18), (123, 19), (124, 20), (125, 21)], [104, 105, 106, 107, 108, 109, 110, 111, 112, 113, 114, 115, 116, 117, 118, 119, 120, 121, 122, 123, 124, 125], false), (23, [(104, 0), (105, 1), (106, 2), (107, 3), (108, 4), (109, 5), (110, 6), (111, 7), (112, 8), (113, 9), (114, 10), (115, 11), (116, 12), (117, 13), (118, 14), (119, 15), (120, 16), (121, 17), (122, 18), (123, 19), (124, 20), (125, 21), (126, 22)], [104, 105, 106, 107, 108, 109, 110, 111, 112, 113, 114, 115, 116, 117, 118, 119, 120, 121, 122, 123, 124, 125, 126], false), (24, [(104, 0), (105, 1), (106, 2), (107, 3), (108, 4), (109, 5), (110, 6), (111, 7), (112, 8), (113, 9), (114, 10), (115, 11), (116, 12), (117, 13), (118, 14), (119, 15), (120, 16), (121, 17), (122, 18), (123, 19), (124, 20), (125, 21), (126, 22), (127, 23)], [104, 105, 106, 107, 108, 109, 110, 111, 112, 113, 114, 115, 116, 117, 118, 119, 120, 121, 122, 123, 124, 125, 126, 127, 129, 130, 131, 132, 135], false), (25, [(104, 0), (105, 1), (106, 2), (107, 3), (108, 4), (109, 5), (110, 6), (111, 7), (112, 8), (113, 9), (114, 10), (115, 11), (116, 12), (117, 13), (118, 14), (119, 15), (120, 16), (121, 17), (122, 18), (123, 19), (124, 20), (125, 21), (126, 22), (127, 23)], [104, 105, 106, 107, 108, 109, 110, 111, 112, 113, 114, 115, 116, 117, 118, 119, 120, 121, 122, 123, 124, 125, 126, 127, 128, 130, 135], false), (26, [(104, 0), (105, 1), (106, 2), (107, 3), (108, 4), (109, 5), (110, 6), (111, 7), (112, 8), (113, 9), (114, 10), (115, 11), (116, 12), (117, 13), (118, 14), (119, 15), (120, 16), (121, 17), (122, 18), (123, 19), (124, 20), (125, 21), (126, 22), (127, 23)], [104, 105, 106, 107, 108, 109, 110, 111, 112, 113, 114, 115, 116, 117, 118, 119, 120, 121, 122, 123, 124, 125, 126, 127, 128, 129, 135], false), (27, [(104, 0), (105, 1), (106, 2), (107, 3), (108, 4), (109, 5), (110, 6), (111, 7), (112, 8), (113, 9), (114, 10), (115, 11), (116, 12), (117, 13), (118, 14), (119, 15), (120, 16), (121, 17), (122, 18), (123, 19), (124, 20), (125, 21), (126, 22), (127, 23), (129, 25), (130, 26)], [104, 105, 106, 107, 108, 109, 110, 111, 112, 113, 114, 115, 116, 117, 118, 119, 120, 121, 122, 123, 124, 125, 126, 127, 128, 129, 130, 135], false), (28, [(104, 0), (105, 1), (106, 2), (107, 3), (108, 4), (109, 5), (110, 6), (111, 7), (112, 8), (113, 9), (114, 10), (115, 11), (116, 12), (117, 13), (118, 14), (119, 15), (120, 16), (121, 17), (122, 18), (123, 19), (124, 20), (125, 21), (126, 22), (127, 23), (129, 25), (130, 26), (131, 27)], [104, 105, 106, 107, 108, 109, 110, 111, 112, 113, 114, 115, 116, 117, 118, 119, 120, 121, 122, 123, 124, 125, 126, 127, 128, 129, 130, 131, 135], false), (29, [(104, 0), (105, 1), (106, 2), (107, 3), (108, 4), (109, 5), (110, 6), (111, 7), (112, 8), (113, 9), (114, 10), (115, 11), (116, 12), (117, 13), (118, 14), (119, 15), (120, 16), (121, 17), (122, 18), (123, 19), (124, 20), (125, 21), (126, 22), (127, 23), (128, 24), (129, 25), (130, 26), (131, 27), (132, 28)], [104, 105, 106, 107, 108, 109, 110, 111, 112, 113, 114, 115, 116, 117, 118, 119, 120, 121, 122, 123, 124, 125, 126, 127, 128, 129, 130, 131, 132, 135], false), (30, [(104, 0), (105, 1), (106, 2), (107, 3), (108, 4), (109, 5), (110, 6), (111, 7), (112, 8), (113, 9), (114, 10), (115, 11), (116, 12), (117, 13), (118, 14), (119, 15), (120, 16), (121, 17), (122, 18), (123, 19), (124, 20), (125, 21), (126, 22), (127, 23), (128, 24), (129, 25), (130, 26), (131, 27), (132, 28), (133, 29)], [104, 105, 106, 107, 108, 109, 110, 111, 112, 113, 114, 115, 116, 117, 118, 119, 120, 121, 122, 123, 124, 125, 126, 127, 128, 129, 130, 131, 132, 133, 135], false), (31, [(104, 0), (105, 1), (106, 2), (107, 3), (108, 4), (109, 5), (110, 6), (111, 7), (112, 8), (113, 9), (114, 10), (115, 11), (116, 12), (117, 13), (118, 14), (119, 15), (120, 16), (121, 17), (122, 18), (123, 19), (124, 20), (125, 21), (126, 22), (127, 23)], [104, 105, 106, 107, 108, 109, 110, 111, 112, 113, 114, 115, 116, 117, 118, 119, 120, 121, 122, 123, 124, 125, 126, 127, 128, 129, 130, 131, 132, 133, 134], false), (32, [(104, 0), (105, 1), (106, 2), (107, 3), (108, 4), (109, 5), (110, 6), (111, 7), (112, 8), (113, 9), (114, 10), (115, 11), (116, 12), (117, 13), (118, 14), (119, 15), (120, 16), (121, 17), (122, 18), (123, 19), (124, 20), (125, 21), (126, 22), (127, 23), (128, 24), (129, 25), (130, 26), (131, 27), (132, 28), (133, 29), (134, 30), (135, 31)], [104, 105, 106, 107, 108, 109, 110, 111, 112, 113, 114, 115, 116, 117, 118, 119, 120, 121, 122, 123, 124, 125, 126, 127, 128, 129, 130, 131, 132, 133, 134, 135], false), (33, [(104, 0), (105, 1), (106, 2), (107, 3), (108, 4), (109, 5), (110, 6), (111, 7), (112, 8), (113, 9), (114, 10), (115, 11), (116, 12), (117, 13), (118, 14), (119, 15), (120, 16), (121, 17), (122, 18), (123, 19), (124, 20), (125, 21), (126, 22), (127, 23), (128, 24), (129, 25), (130, 26), (131, 27), (132, 28), (133, 29), (134, 30), (135, 31), (136, 32)], [104, 105, 106, 107, 108, 109, 110, 111, 112, 113, 114, 115, 116, 117, 118, 119, 120, 121, 122, 123, 124, 125, 126, 127, 128, 129, 130, 131, 132, 133, 134, 135, 136], false), (34, [(104, 0), (105, 1), (106, 2), (107, 3), (108, 4), (109, 5), (110, 6), (111, 7), (112, 8), (113, 9), (114, 10), (115, 11), (116, 12), (117, 13), (118, 14), (119, 15), (120, 16), (121, 17), (122, 18), (123, 19), (124, 20), (125, 21), (126, 22), (127, 23), (128, 24), (129, 25), (130, 26), (131, 27), (132, 28), (133, 29), (134, 30), (135, 31), (136, 32), (137, 33)], [104, 105, 106, 107, 108, 109, 110, 111, 112, 113, 114, 115, 116, 117, 118, 119, 120, 121, 122, 123, 124, 125, 126, 127, 128, 129, 130, 131, 132, 133, 134, 135, 136, 137], false)]
                [(104, 0), (105, 1), (106, 2), (107, 3), (108, 4), (109, 5), (110, 6), (111, 7), (112, 8), (113, 9), (114, 10), (115, 11), (116, 12), (117, 13), (118, 14), (119, 15), (120, 16), (121, 17), (122, 18), (123, 19), (124, 20), (125, 21), (126, 22), (127, 23), (128, 24), (129, 25), (130, 26), (131, 27), (132, 28), (133, 29), (134, 30), (135, 31), (136, 32), (137, 33), (138, 34)]
                [(1, _), (4, _), (6, _), (7, _), (8, _), (9, _), (10, _), (11, _), (12, _), (13, _)] rfl (by kernel_rfl)
              case hF => exact ⟨rfl, rfl, rfl, rfl, rfl, rfl, rfl, rfl, rfl, rfl, trivial⟩
              (try (conv => whnf)); (repeat' ((fail_if_success (with_reducible refine And.intro ?_ ?_)); (fail_if_success (with_reducible refine Exists.intro ?_ ?_)); (first | (refine step0 ?_) | (apply bIf.of <;> intro hc <;> (conv => whnf)))))
            all_goals first
              | (refine ⟨none, .inl ⟨i0, d, x, hr, hx, .inr (.inr ⟨j, _, ht, .inr ?_⟩)⟩, rfl, g1.trans gH6⟩; exact of_decide_eq_true hc)
              | (refine ⟨none, .inr ⟨tn, e, nd x d j, hre ?_, rnd ?_, ?_⟩, rfl, g1.trans gH6⟩ <;> (clear b6 hql6 htl6 hti p5 hlen6 hT p3 p4 n0 o6 i6 hqi; (simp only [ba_ne_t, ba_ne_f, ba_eq_t, ba_eq_f, bne_iff_ne, bne_eq_false_iff_eq, decide_eq_true_eq, decide_eq_false_iff_not, beq_iff_eq, beq_eq_false_iff_ne, ne_eq, Bool.not_eq_true, Bool.not_eq_false, Bool.not_eq_true', Bool.not_eq_false'] at *); show _; first | assumption | (simp only [CodeT.deep] at *; omega)))
              | (exfalso; clear b6 hql6 htl6 hti p5 hlen6 hT p3 p4 n0 o6 i6 hqi; (simp only [ba_ne_t, ba_ne_f, ba_eq_t, ba_eq_f, bne_iff_ne, bne_eq_false_iff_eq, decide_eq_true_eq, decide_eq_false_iff_not, beq_iff_eq, beq_eq_false_iff_ne, ne_eq, Bool.not_eq_true, Bool.not_eq_false, Bool.not_eq_true', Bool.not_eq_false'] at *); omega)
              | skip
            all_goals have hnd1 : nd x d j ≤ c.deep := by clear b6 hql6 htl6 hti p5 hlen6 hT p3 p4 n0 o6 i6 hqi; (simp only [ba_ne_t, ba_ne_f, ba_eq_t, ba_eq_f, bne_iff_ne, bne_eq_false_iff_eq, decide_eq_true_eq, decide_eq_false_iff_not, beq_iff_eq, beq_eq_false_iff_ne, ne_eq, Bool.not_eq_true, Bool.not_eq_false, Bool.not_eq_true', Bool.not_eq_false'] at *); simp only [CodeT.deep] at *; omega
            all_goals rcases Int.lt_or_le e 0 with he0 | he0
            all_goals first
              | (exfalso; clear b6 hql6 htl6 hti p5 hlen6 hT p3 p4 n0 o6 i6 hqi; (simp only [ba_ne_t, ba_ne_f, ba_eq_t, ba_eq_f, bne_iff_ne, bne_eq_false_iff_eq, decide_eq_true_eq, decide_eq_false_iff_not, beq_iff_eq, beq_eq_false_iff_ne, ne_eq, Bool.not_eq_true, Bool.not_eq_false, Bool.not_eq_true', Bool.not_eq_false'] at *); omega)
              | skip
            all_goals refine Ob.storeI o6 (by rw [hv.len]; exact htl) fun H7 o7 k7 l7 => ?_
            all_goals refine run ?_
            all_goals first
              | (have he2 : e = nd x d j := by clear b6 hql6 htl6 hti p5 hlen6 hT p3 p4 n0 o6 i6 hqi; (simp only [ba_ne_t, ba_ne_f, ba_eq_t, ba_eq_f, bne_iff_ne, bne_eq_false_iff_eq, decide_eq_true_eq, decide_eq_false_iff_not, beq_iff_eq, beq_eq_false_iff_ne, ne_eq, Bool.not_eq_true, Bool.not_eq_false, Bool.not_eq_true', Bool.not_eq_false'] at *); omega
                 rw [set_same (he2 ▸ he)] at o7
                 refine ⟨(j + 1, gr, L), ⟨rfl, rfl, rfl, rfl, rfl, rfl, rfl, rfl, congrArg (fun z => some (Value.int .i64 z)) ws6, trivial⟩, ⟨⟨k6.trans k7, o7, hv, hd⟩, by show j + 1 ≤ _; omega, hgt, fun h => ⟨(hgf h).1, (hgf h).2.1, ?_⟩⟩, by show _ - (j + 1) < _ - j; omega⟩
                 intro k t' hk ht'
                 by_cases hkj : k = j
                 · subst hkj
                   rw [ht] at ht'
                   simp only [Option.some.injEq] at ht'
                   subst ht'
                   refine ⟨by omega, hnd1, ?_⟩
                   rw [Int.toNat_natCast, he, he2]
                 · exact (hgf h).2.2 k t' (by dsimp only at hk; omega) ht')
              | skip
            all_goals
              have he1 : L[tn]? = some (-1) := by
                rcases hv.val tn e he with h1 | h1
                · rw [he, h1]
                · omega
              have c9 := cnt_set he1 hnd.1
              have hgc : cnt L + turn + 1 ≤ c.ins.length := by
                cases gr with
                | true => have := hgt rfl; omega
                | false => exact (hgf rfl).1
              refine ⟨(j + 1, true, L.set tn (nd x d j)), ⟨rfl, rfl, rfl, rfl, rfl, rfl, rfl, rfl, congrArg (fun z => some (Value.int .i64 z)) ws6, trivial⟩, ⟨⟨k6.trans k7, o7, hv.mark he1 (rnd hnd1), ?_⟩, by show j + 1 ≤ _; omega, fun _ => by show cnt (L.set tn (nd x d j)) + turn + 2 ≤ _; omega, fun h => by simp at h⟩, by show _ - (j + 1) < _ - j; omega⟩
              rw [List.getElem?_set_ne]; exact hd
              intro h; subst h; rw [hd] at he1; simp only [Option.some.injEq] at he1; omega
          · have dt : decide ((tn : Int) ≥ (c.ins.length : Int)) = true := decide_eq_true (by omega)
            (try (conv => whnf)); (repeat' ((fail_if_success (with_reducible refine And.intro ?_ ?_)); (fail_if_success (with_reducible refine Exists.intro ?_ ?_)); (first | (refine step0 ?_) | (apply bIf.of <;> intro hc <;> (conv => whnf)))))
            all_goals
              apply SW.drawG [(0, [], [105, 108, 109, 110], false), (1, [], [104, 108, 109, 110], false), (2, [(104, 0), (105, 1)], [104, 105, 108, 109, 110], false), (3, [(104, 0), (105, 1), (106, 2)], [104, 105, 106, 108, 109, 110], false), (4, [], [104, 105, 106, 107], false), (5, [(108, 4)], [104, 105, 106, 107, 108], false), (6, [(108, 4), (109, 5)], [104, 105, 106, 107, 108, 109], false), (7, [(104, 0), (105, 1), (106, 2), (107, 3), (108, 4), (109, 5), (110, 6)], [104, 105, 106, 107, 108, 109, 110], false), (8, [(104, 0), (105, 1), (106, 2), (107, 3), (108, 4), (109, 5), (110, 6), (111, 7)], [104, 105, 106, 107, 108, 109, 110, 111], false), (9, [(104, 0), (105, 1), (106, 2), (107, 3), (108, 4), (109, 5), (110, 6), (111, 7), (112, 8)], [104, 105, 106, 107, 108, 109, 110, 111, 112, 114, 115], false), (10, [(104, 0), (105, 1), (106, 2), (107, 3), (108, 4), (109, 5), (110, 6), (111, 7), (112, 8)], [104, 105, 106, 107, 108, 109, 110, 111, 112, 113], false), (11, [(104, 0), (105, 1), (106, 2), (107, 3), (108, 4), (109, 5), (110, 6), (111, 7), (112, 8), (114, 10)], [104, 105, 106, 107, 108, 109, 110, 111, 112, 113, 114], false), (12, [(104, 0), (105, 1), (106, 2), (107, 3), (108, 4), (109, 5), (110, 6), (111, 7), (112, 8), (113, 9), (114, 10), (115, 11)], [104, 105, 106, 107, 108, 109, 110, 111, 112, 113, 114, 115], false), (13, [(104, 0), (105, 1), (106, 2), (107, 3), (108, 4), (109, 5), (110, 6), (111, 7), (112, 8), (113, 9), (114, 10), (115, 11), (116, 12)], [104, 105, 106, 107, 108, 109, 110, 111, 112, 113, 114, 115, 116], false), (14, [(104, 0), (105, 1), (106, 2), (107, 3), (108, 4), (109, 5), (110, 6), (111, 7), (112, 8), (113, 9), (114, 10), (115, 11), (116, 12), (117, 13)], [104, 105, 106, 107, 108, 109, 110, 111, 112, 113, 114, 115, 116, 117], false), (15, [(104, 0), (105, 1), (106, 2), (107, 3), (108, 4), (109, 5), (110, 6), (111, 7), (112, 8), (113, 9), (114, 10), (115, 11), (116, 12), (117, 13), (118, 14)], [104, 105, 106, 107, 108, 109, 110, 111, 112, 113, 114, 115, 116, 117, 118, 120, 121, 122, 123], false), (16, [(104, 0), (105, 1), (106, 2), (107, 3), (108, 4), (109, 5), (110, 6), (111, 7), (112, 8), (113, 9), (114, 10), (115, 11), (116, 12), (117, 13), (118, 14)], [104, 105, 106, 107, 108, 109, 110, 111, 112, 113, 114, 115, 116, 117, 118, 119, 121], false), (17, [(104, 0), (105, 1), (106, 2), (107, 3), (108, 4), (109, 5), (110, 6), (111, 7), (112, 8), (113, 9), (114, 10), (115, 11), (116, 12), (117, 13), (118, 14)], [104, 105, 106, 107, 108, 109, 110, 111, 112, 113, 114, 115, 116, 117, 118, 119, 120], false), (18, [(104, 0), (105, 1), (106, 2), (107, 3), (108, 4), (109, 5), (110, 6), (111, 7), (112, 8), (113, 9), (114, 10), (115, 11), (116, 12), (117, 13), (118, 14), (120, 16), (121, 17)], [104, 105, 106, 107, 108, 109, 110, 111, 112, 113, 114, 115, 116, 117, 118, 119, 120, 121], false), (19, [(104, 0), (105, 1), (106, 2), (107, 3), (108, 4), (109, 5), (110, 6), (111, 7), (112, 8), (113, 9), (114, 10), (115, 11), (116, 12), (117, 13), (118, 14), (120, 16), (121, 17), (122, 18)], [104, 105, 106, 107, 108, 109, 110, 111, 112, 113, 114, 115, 116, 117, 118, 119, 120, 121, 122], false), (20, [(104, 0), (105, 1), (106, 2), (107, 3), (108, 4), (109, 5), (110, 6), (111, 7), (112, 8), (113, 9), (114, 10), (115, 11), (116, 12), (117, 13), (118, 14), (119, 15), (120, 16), (121, 17), (122, 18), (123, 19)], [104, 105, 106, 107, 108, 109, 110, 111, 112, 113, 114, 115, 116, 117, 118, 119, 120, 121, 122, 123], false), (21, [(104, 0), (105, 1), (106, 2), (107, 3), (108, 4), (109, 5), (110, 6), (111, 7), (112, 8), (113, 9), (114, 10), (115, 11), (116, 12), (117, 13), (118, 14), (119, 15), (120, 16), (121, 17), (122, 18), (123, 19), (124, 20)], [104, 105, 106, 107, 108, 109, 110, 111, 112, 113, 114, 115, 116, 117, 118, 119, 120, 121, 122, 123, 124], false), (22, [(104, 0), (105, 1), (106, 2), (107, 3), (108, 4), (109, 5), (110, 6), (111, 7), (112, 8), (113, 9), (114, 10), (115, 11), (116, 12), (117, 13), (118, 14), (119, 15), (120, 16), (121, 17), (122, 18), (123, 19), (124, 20), (125, 21)], [104, 105, 106, 107, 108, 109, 110, 111, 112, 113, 114, 115, 116, 117, 118, 119, 120, 121, 122, 123, 124, 125], false), (23, [(104, 0), (105, 1), (106, 2), (107, 3), (108, 4), (109, 5), (110, 6), (111, 7), (112, 8), (113, 9), (114, 10), (115, 11), (116, 12), (117, 13), (118, 14), (119, 15), (120, 16), (121, 17), (122, 18), (123, 19), (124, 20), (125, 21), (126, 22)], [104, 105, 106, 107, 108, 109, 110, 111, 112, 113, 114, 115, 116, 117, 118, 119, 120, 121, 122, 123, 124, 125, 126], false), (24, [(104, 0), (105, 1), (106, 2), (107, 3), (108, 4), (109, 5), (110, 6), (111, 7), (112, 8), (113, 9), (114, 10), (115, 11), (116, 12), (117, 13), (118, 14), (119, 15), (120, 16), (121, 17), (122, 18), (123, 19), (124, 20), (125, 21), (126, 22), (127, 23)], [104, 105, 106, 107, 108, 109, 110, 111, 112, 113, 114, 115, 116, 117, 118, 119, 120, 121, 122, 123, 124, 125, 126, 127, 129, 130, 131, 132, 135], false), (25, [(104, 0), (105, 1), (106, 2), (107, 3), (108, 4), (109, 5), (110, 6), (111, 7), (112, 8), (113, 9), (114, 10), (115, 11), (116, 12), (117, 13), (118, 14), (119, 15), (120, 16), (121, 17), (122, 18), (123, 19), (124, 20), (125, 21), (126, 22), (127, 23)], [104, 105, 106, 107, 108, 109, 110, 111, 112, 113, 114, 115, 116, 117, 118, 119, 120, 121, 122, 123, 124, 125, 126, 127, 128, 130, 135], false), (26, [(104, 0), (105, 1), (106, 2), (107, 3), (108, 4), (109, 5), (110, 6), (111, 7), (112, 8), (113, 9), (114, 10), (115, 11), (116, 12), (117, 13), (118, 14), (119, 15), (120, 16), (121, 17), (122, 18), (123, 19), (124, 20), (125, 21), (126, 22), (127, 23)], [104, 105, 106, 107, 108, 109, 110, 111, 112, 113, 114, 115, 116, 117, 118, 119, 120, 121, 122, 123, 124, 125, 126, 127, 128, 129, 135], false), (27, [(104, 0), (105, 1), (106, 2), (107, 3), (108, 4), (109, 5), (110, 6), (111, 7), (112, 8), (113, 9), (114, 10), (115, 11), (116, 12), (117, 13), (118, 14), (119, 15), (120, 16), (121, 17), (122, 18), (123, 19), (124, 20), (125, 21), (126, 22), (127, 23), (129, 25), (130, 26)], [104, 105, 106, 107, 108, 109, 110, 111, 112, 113, 114, 115, 116, 117, 118, 119, 120, 121, 122, 123, 124, 125, 126, 127, 128, 129, 130, 135], false), (28, [(104, 0), (105, 1), (106, 2), (107, 3), (108, 4), (109, 5), (110, 6), (111, 7), (112, 8), (113, 9), (114, 10), (115, 11), (116, 12), (117, 13), (118, 14), (119, 15), (120, 16), (121, 17), (122, 18), (123, 19), (124, 20), (125, 21), (126, 22), (127, 23), (129, 25), (130, 26), (131, 27)], [104, 105, 106, 107, 108, 109, 110, 111, 112, 113, 114, 115, 116, 117, 118, 119, 120, 121, 122, 123, 124, 125, 126, 127, 128, 129, 130, 131, 135], false), (29, [(104, 0), (105, 1), (106, 2), (107, 3), (108, 4), (109, 5), (110, 6), (111, 7), (112, 8), (113, 9), (114, 10), (115, 11), (116, 12), (117, 13), (118, 14), (119, 15), (120, 16), (121, 17), (122, 18), (123, 19), (124, 20), (125, 21), (126, 22), (127, 23), (128, 24), (129, 25), (130, 26), (131, 27), (132, 28)], [104, 105, 106, 107, 108, 109, 110, 111, 112, 113, 114, 115, 116, 117, 118, 119, 120, 121, 122, 123, 124, 125, 126, 127, 128, 129, 130, 131, 132, 135], false), (30, [(104, 0), (105, 1), (106, 2), (107, 3), (108, 4), (109, 5), (110, 6), (111, 7), (112, 8), (113, 9), (114, 10), (115, 11), (116, 12), (117, 13), (118, 14), (119, 15), (120, 16), (121, 17), (122, 18), (123, 19), (124, 20), (125, 21), (126, 22), (127, 23), (128, 24), (129, 25), (130, 26), (131, 27), (132, 28), (133, 29)], [104, 105, 106, 107, 108, 109, 110, 111, 112, 113, 114, 115, 116, 117, 118, 119, 120, 121, 122, 123, 124, 125, 126, 127, 128, 129, 130, 131, 132, 133, 135], false), (31, [(104, 0), (105, 1), (106, 2), (107, 3), (108, 4), (109, 5), (110, 6), (111, 7), (112, 8), (113, 9), (114, 10), (115, 11), (116, 12), (117, 13), (118, 14), (119, 15), (120, 16), (121, 17), (122, 18), (123, 19), (124, 20), (125, 21), (126, 22), (127, 23)], [104, 105, 106, 107, 108, 109, 110, 111, 112, 113, 114, 115, 116, 117, 118, 119, 120, 121, 122, 123, 124, 125, 126, 127, 128, 129, 130, 131, 132, 133, 134], false), (32, [(104, 0), (105, 1), (106, 2), (107, 3), (108, 4), (109, 5), (110, 6), (111, 7), (112, 8), (113, 9), (114, 10), (115, 11), (116, 12), (117, 13), (118, 14), (119, 15), (120, 16), (121, 17), (122, 18), (123, 19), (124, 20), (125, 21), (126, 22), (127, 23), (128, 24), (129, 25), (130, 26), (131, 27), (132, 28), (133, 29), (134, 30), (135, 31)], [104, 105, 106, 107, 108, 109, 110, 111, 112, 113, 114, 115, 116, 117, 118, 119, 120, 121, 122, 123, 124, 125, 126, 127, 128, 129, 130, 131, 132, 133, 134, 135], false), (33, [(104, 0), (105, 1), (106, 2), (107, 3), (108, 4), (109, 5), (110, 6), (111, 7), (112, 8), (113, 9), (114, 10), (115, 11), (116, 12), (117, 13), (118, 14), (119, 15), (120, 16), (121, 17), (122, 18), (123, 19), (124, 20), (125, 21), (126, 22), (127, 23), (128, 24), (129, 25), (130, 26), (131, 27), (132, 28), (133, 29), (134, 30), (135, 31), (136, 32)], [104, 105, 106, 107, 108, 109, 110, 111, 112, 113, 114, 115, 116, 117, 118, 119, 120, 121, 122, 123, 124, 125, 126, 127, 128, 129, 130, 131, 132, 133, 134, 135, 136], false), (34, [(104, 0), (105, 1), (106, 2), (107, 3), (108, 4), (109, 5), (110, 6), (111, 7), (112, 8), (113, 9), (114, 10), (115, 11), (116, 12), (117, 13), (118, 14), (119, 15), (120, 16), (121, 17), (122, 18), (123, 19), (124, 20), (125, 21), (126, 22), (127, 23), (128, 24), (129, 25), (130, 26), (131, 27), (132, 28), (133, 29), (134, 30), (135, 31), (136, 32), (137, 33)], [104, 105, 106, 107, 108, 109, 110, 111, 112, 113, 114, 115, 116, 117, 118, 119, 120, 121, 122, 123, 124, 125, 126, 127, 128, 129, 130, 131, 132, 133, 134, 135, 136, 137], false)]
                [(104, 0), (105, 1), (106, 2), (107, 3), (108, 4), (109, 5), (110, 6), (111, 7), (112, 8), (113, 9), (114, 10), (115, 11), (116, 12), (117, 13), (118, 14), (119, 15), (120, 16), (121, 17), (122, 18), (123, 19), (124, 20), (125, 21), (126, 22), (127, 23), (128, 24), (129, 25), (130, 26), (131, 27), (132, 28), (133, 29), (134, 30), (135, 31), (136, 32), (137, 33), (138, 34)]
                [(1, _), (4, _), (6, _), (7, _), (8, _), (9, _), (10, _), (11, _), (12, _), (13, _)] rfl (by kernel_rfl)
              case hF => exact ⟨rfl, rfl, rfl, rfl, rfl, rfl, rfl, rfl, rfl, rfl, trivial⟩
              (try (conv => whnf)); (repeat' ((fail_if_success (with_reducible refine And.intro ?_ ?_)); (fail_if_success (with_reducible refine Exists.intro ?_ ?_)); (first | (refine step0 ?_) | (apply bIf.of <;> intro hc <;> (conv => whnf)))))
            all_goals exact ⟨none, .inl ⟨i0, d, x, hr, hx, .inr (.inr ⟨j, _, ht, .inl (by omega)⟩)⟩, rfl, g1.trans gH6⟩
        · have dj : decide ((j : Int) < ((tgt c.ins (i0 : Int)).length : Int)) = false := decide_eq_false (by omega)
          refine run ?_
          refine ⟨(i0 + 1, gr, L), ⟨rfl, rfl, rfl, rfl, congrArg (fun z => some (Value.int .i64 z)) ws, trivial⟩, ⟨⟨gH6, o6, hv⟩, hi, hgt, fun h => ⟨(hgf h).1, fun i hlt => ?_⟩⟩, by show _ - (i0 + 1) < _ - i0; omega⟩
          by_cases hii : i = i0
          · subst hii
            intro d' x' h1 h2 h3
            rw [hd] at h1
            simp only [Option.some.injEq] at h1
            rw [hx] at h3
            simp only [Option.some.injEq] at h3
            subst h1 h3
            exact ⟨hpd, hdd, fun k t ht => (hgf h).2.2 k t (by have := lt_of_get ht; omega) ht⟩
          · exact (hgf h).2.1 i (by dsimp only at hlt; omega)
    · have d1 : decide ((i0 : Int) < (c.ins.length : Int)) = false := decide_eq_false (by omega)
      refine run ?_
      refine ⟨(turn + 1, gr, L), ⟨rfl, rfl, rfl, congrArg (fun z => some (Value.int .i64 z)) (w_succ (by omega)), trivial⟩, ⟨⟨g3, o3, hv⟩, by show turn + 1 ≤ _; omega, fun h => by have := hgt h; show cnt L + (turn + 1) + 1 ≤ _; omega, fun h i => ?_⟩, by show _ - (turn + 1) < _ - turn; omega⟩
      by_cases hil : i < c.ins.length
      · exact (hgf h).2 i (by omega)
      · intro d x h1
        have := lt_of_get h1
        rw [hv.len] at this
        omega
end Go.Proofs.YtmdpifedcaaobaaDoor
/- Package code and its document: may a code be? -/
set_option linter.unusedVariables false
set_option linter.unusedSimpArgs false
set_option maxRecDepth 20000
set_option maxHeartbeats 8000000
namespace Go.Proofs.YtmdpifedcaaobaaDoor
open Go Ax
def Lim (f : Int) (c : CodeT) : Prop := 0 ≤ c.1 ∧ c.1 ≤ 6 ∧ c.1 ≤ c.2.1 ∧ c.2.1 ≤ 24 ∧ 0 ≤ c.2.2.1 ∧ c.2.2.1 ≤ 4000 ∧ 0 ≤ c.2.2.2.1 ∧ c.2.2.2.1 ≤ 64 ∧ 1 ≤ c.ins.length ∧ c.ins.length ≤ 4000 ∧ (f = 0 → c.2.1 ≤ 0)
def AllIns (p : ProgT) (c : CodeT) (n : Nat) : Prop := ∀ (i : Nat) (x : Ins), i < n → c.ins[i]? = some x → insP p c i x
def RightP (p : ProgT) (f : Int) (c : CodeT) : Prop := Lim f c ∧ AllIns p c c.ins.length ∧ ∃ L, Closed c L
theorem aims_of {p : ProgT} {f : Int} {c : CodeT} (h : Lim f c) (k : AllIns p c c.ins.length) : Aims c := by
  obtain ⟨h1, h2, h3, h4, h5, h6, h7, h8, h9, h10, h11⟩ := h
  refine ⟨h10, by omega, h7, h8, fun i x hx hg => ?_⟩
  exact arg_goes (k i x (lt_of_get hx) hx).1 hg
theorem right_of {p : ProgT} {f : Int} {c : CodeT} {r : Option (List Int)} (h : Lim f c) (k : AllIns p c c.ins.length) (d : DS c r) : r.isSome = true ↔ RightP p f c := by
  cases r with
  | none => exact ⟨fun h => by simp at h, fun ⟨_, _, L, hL⟩ => absurd d hL.good⟩
  | some L => exact ⟨fun _ => ⟨h, k, L, d⟩, fun _ => rfl⟩
theorem DV.ok {H : Heap} {v : Value} {r : Option (List Int)} (h : DV H v r) : ∃ sv, v = .tuple #[sv, .bool r.isSome] := by
  cases r with
  | none => exact ⟨_, h⟩
  | some L => obtain ⟨q, h, _⟩ := h; exact ⟨_, h⟩
theorem all_next {p : ProgT} {c : CodeT} {m : Nat} {x : Ins} (h : AllIns p c m) (hx : c.ins[m]? = some x) (hp : insP p c m x) : AllIns p c (m + 1) := by
  intro i y hi hy
  by_cases him : i = m
  · subst him; rw [hx] at hy; simp only [Option.some.injEq] at hy; subst hy; exact hp
  · exact h i y (by omega) hy
theorem right_ax {H : Heap} {p : ProgT} {ps cs : Value} (hp : RL 1 strR H ps p.2.1) (hcs : RL 5 codeR H cs p.2.2) {f : Nat} {c : CodeT} (hf : p.2.2[f]? = some c) :
    AX Tryd.prog 29 #[progV p ps cs, .int .i64 (f : Int)] H (fun v H' => (∃ b, v = .bool b ∧ (b = true ↔ RightP p f c)) ∧ H' = H) := by
  refine AX.quiet ?_
  suffices hh : AX Tryd.prog 29 #[progV p ps cs, .int .i64 (f : Int)] H (fun v H' => (∃ b, v = .bool b ∧ (b = true ↔ RightP p f c)) ∧ Grow H H') from hh.mono fun v _ ⟨⟨b, e, k⟩, g⟩ => ⟨e ▸ plain_bool _, ⟨b, e, k⟩, g⟩
  refine AX.body (n := 93) (rs := [.tmp 4]) Tryd.func29 rfl (by decide) rfl rfl (bC_sound _ _ _ _ ?_)
  (conv => whnf)
  refine Ob2.box rfl fun q1 H1 hq1 a1 g1 => ?_
  have b1 := hblk_of a1
  obtain ⟨q, sv, i1, hs, i2⟩ := ld_code hcs hf
  have i3 := i2 H1 g1
  refine run ?_
  refine Ob2.alloc rfl fun q2 H2 hq2 a2 g2 => ?_
  refine run ?_
  refine Ob.store rfl rfl rfl a2 rfl (by first | exact Nat.le_of_ble_eq_true rfl | simp) fun H3 s1 s2 s3 => ?_
  have g3 : Grow H1 H3 := g2.but_new s2 (by omega)
  have b3 := g3.hblk b1
  have b4 := hblk_of s1
  have g : Grow H H3 := g1.trans g3
  have l1 : alen Tryd.prog 43 sv H3 = some (.int .i64 c.ins.length) := hs.len rfl _
  clear a1 a2 s1 s2 g2 i3
  (try (conv => whnf)); (repeat' ((fail_if_success (with_reducible refine And.intro ?_ ?_)); (fail_if_success (with_reducible refine Exists.intro ?_ ?_)); (first | (refine step0 ?_) | (apply bIf.of <;> intro hc <;> (conv => whnf)))))
  rotate_right
  rotate_left
  all_goals first
    | (refine ⟨⟨false, rfl, fun h => by simp at h, fun h => ?_⟩, g⟩
       exfalso
       obtain ⟨⟨h1, h2, h3, h4, h5, h6, h7, h8, h9, h10, h11⟩, _⟩ := h
       clear b3 b4 l1 i1 i2 hs b1
       (simp only [ba_ne_t, ba_ne_f, ba_eq_t, ba_eq_f, bne_iff_ne, bne_eq_false_iff_eq, decide_eq_true_eq, decide_eq_false_iff_not, beq_iff_eq, beq_eq_false_iff_ne, ne_eq, Bool.not_eq_true, Bool.not_eq_false, Bool.not_eq_true', Bool.not_eq_false'] at *)
       omega)
    | skip
  all_goals
    have hl : Lim f c := by
      clear b3 b4 l1 i1 i2 hs b1
      unfold Lim
      (simp only [ba_ne_t, ba_ne_f, ba_eq_t, ba_eq_f, bne_iff_ne, bne_eq_false_iff_eq, decide_eq_true_eq, decide_eq_false_iff_not, beq_iff_eq, beq_eq_false_iff_ne, ne_eq, Bool.not_eq_true, Bool.not_eq_false, Bool.not_eq_true', Bool.not_eq_false'] at *)
      omega
    refine SW.loop (α := Nat) (fun m => [(2, .pointer (some ⟨q1, 0, none⟩)), (5, .pointer (some ⟨q2, 0, none⟩)), (77, .int .i64 (c.ins.length : Int)), (78, .int .i64 (m : Int))]) (fun m H' => m ≤ c.ins.length ∧ AllIns p c m ∧ H' = H3) (fun m => c.ins.length - m) ⟨0, ⟨rfl, rfl, rfl, rfl, trivial⟩, by omega, fun i x hi => by omega, rfl⟩ ?_
    rintro m X ⟨hm, ht, e⟩
    subst X
    refine bC_sound _ _ _ _ ?_
    by_cases hml : m < c.ins.length
    · have d1 : decide ((m : Int) < (c.ins.length : Int)) = true := decide_eq_true (by omega)
      obtain ⟨x, hx⟩ := get_lt hml
      refine run ?_
      refine (instr_ax (strR.grow hp g) (codeR.grow hcs g) (insR.grow hs g) hx).mono ?_
      rintro _ X ⟨rfl, e⟩
      subst X
      by_cases hi : insP p c m x
      · rw [decide_eq_true hi]
        refine run ?_
        exact ⟨m + 1, ⟨rfl, rfl, rfl, congrArg (fun z => some (Value.int .i64 z)) (w_succ (by have := hl; unfold Lim at this; omega)), trivial⟩, ⟨hml, all_next ht hx hi, rfl⟩, by show c.ins.length - (m + 1) < c.ins.length - m; omega⟩
      · rw [decide_eq_false hi]
        refine run ?_
        exact ⟨⟨false, rfl, fun h => by simp at h, fun h => absurd (h.2.1 m x hml hx) hi⟩, g⟩
    · have d1 : decide ((m : Int) < (c.ins.length : Int)) = false := decide_eq_false (by omega)
      have hme : m = c.ins.length := by omega
      rw [hme] at ht
      refine run ?_
      refine (depths_ax (insR.grow hs g) (aims_of hl ht)).mono ?_
      rintro v H5 ⟨r, hr, hv, g5⟩
      obtain ⟨sv', rfl⟩ := hv.ok
      refine run ?_
      exact ⟨⟨r.isSome, rfl, right_of hl ht hr⟩, g.trans g5⟩
end Go.Proofs.YtmdpifedcaaobaaDoor
/- The document of package code: may a code be? -/
set_option linter.unusedVariables false
set_option linter.unusedSimpArgs false
set_option maxRecDepth 20000
set_option maxHeartbeats 8000000
namespace Go.Proofs.YtmdpifedcaaobaaDoor
open Go Ax
theorem rright_ax {H : Heap} {p : ProgT} {ps cs : Value} (hp : RL 1 strR H ps p.2.1) (hcs : RL 5 codeR H cs p.2.2) {f : Nat} {c : CodeT} (hf : p.2.2[f]? = some c) (k1 : p.2.1.length < 4294967296) (k2 : p.2.2.length < 4294967296) (k4 : 0 ≤ p.1 ∧ p.1 ≤ 24) :
    AX Tryd.prog 26 #[progV p ps cs, .int .i64 (f : Int)] H (fun v H' => (∃ b, v = .bool b ∧ (b = true ↔ RightP p f c)) ∧ H' = H) := by
  refine AX.quiet ?_
  suffices hh : AX Tryd.prog 26 #[progV p ps cs, .int .i64 (f : Int)] H (fun v H' => (∃ b, v = .bool b ∧ (b = true ↔ RightP p f c)) ∧ Grow H H') from hh.mono fun v _ ⟨⟨b, e, k⟩, g⟩ => ⟨e ▸ plain_bool _, ⟨b, e, k⟩, g⟩
  refine AX.body (n := 161) (rs := [.tmp 4]) Tryd.func26 rfl (by decide) rfl rfl (bC_sound _ _ _ _ ?_)
  (conv => whnf)
  refine Ob2.box rfl fun q1 H1 hq1 a1 g1 => ?_
  have b1 := hblk_of a1
  obtain ⟨q, sv, i1, hs, i2⟩ := ld_code hcs hf
  have i3 := i2 H1 g1
  refine run ?_
  refine Ob2.alloc rfl fun q2 H2 hq2 a2 g2 => ?_
  refine run ?_
  refine Ob.store rfl rfl rfl a2 rfl (by first | exact Nat.le_of_ble_eq_true rfl | simp) fun H3 s1 s2 s3 => ?_
  have g3 : Grow H1 H3 := g2.but_new s2 (by omega)
  have b3 := g3.hblk b1
  have b4 := hblk_of s1
  have g : Grow H H3 := g1.trans g3
  have l1 : alen Tryd.prog 43 sv H3 = some (.int .i64 c.ins.length) := hs.len rfl _
  clear a1 a2 s1 s2 g2 i3
  (try (conv => whnf)); (repeat' ((fail_if_success (with_reducible refine And.intro ?_ ?_)); (fail_if_success (with_reducible refine Exists.intro ?_ ?_)); (first | (refine step0 ?_) | (apply bIf.of <;> intro hc <;> (conv => whnf)))))
  rotate_right
  rotate_left
  all_goals first
    | (refine ⟨⟨false, rfl, fun h => by simp at h, fun h => ?_⟩, g⟩
       exfalso
       obtain ⟨⟨h1, h2, h3, h4, h5, h6, h7, h8, h9, h10, h11⟩, _⟩ := h
       clear b3 b4 l1 i1 i2 hs b1
       (simp only [ba_ne_t, ba_ne_f, ba_eq_t, ba_eq_f, bne_iff_ne, bne_eq_false_iff_eq, decide_eq_true_eq, decide_eq_false_iff_not, beq_iff_eq, beq_eq_false_iff_ne, ne_eq, Bool.not_eq_true, Bool.not_eq_false, Bool.not_eq_true', Bool.not_eq_false'] at *)
       omega)
    | skip
  all_goals
    have hl : Lim f c := by
      clear b3 b4 l1 i1 i2 hs b1
      unfold Lim
      (simp only [ba_ne_t, ba_ne_f, ba_eq_t, ba_eq_f, bne_iff_ne, bne_eq_false_iff_eq, decide_eq_true_eq, decide_eq_false_iff_not, beq_iff_eq, beq_eq_false_iff_ne, ne_eq, Bool.not_eq_true, Bool.not_eq_false, Bool.not_eq_true', Bool.not_eq_false'] at *)
      omega
    have hl' := hl
    unfold Lim at hl'
    refine run ?_
    refine SW.loop (α := Nat) (fun m => [(2, .pointer (some ⟨q1, 0, none⟩)), (5, .pointer (some ⟨q2, 0, none⟩)), (6, .int .i64 (m : Int))]) (fun m H' => m ≤ c.ins.length ∧ AllIns p c m ∧ Grow H3 H') (fun m => c.ins.length - m) ⟨0, ⟨rfl, rfl, rfl, trivial⟩, by omega, fun i x hi => by omega, .refl _⟩ ?_
    rintro m H4 ⟨hm, ht, g4⟩
    refine bC_sound _ _ _ _ ?_
    have b5 := g4.hblk b3
    have b6 := g4.hblk b4
    have l4 : alen Tryd.prog 43 sv H4 = some (.int .i64 c.ins.length) := hs.len rfl _
    by_cases hml : m < c.ins.length
    · have d1 : decide ((m : Int) < (c.ins.length : Int)) = true := decide_eq_true (by omega)
      obtain ⟨x, hx⟩ := get_lt hml
      obtain ⟨bi, i4, i5⟩ := ld_ins hs hx
      have i6 := i5 H4 (g.trans g4)
      clear hc
      refine run ?_
      refine Ob2.alloc rfl fun q3 H5 hq3 a3 g5 => ?_
      refine run ?_
      refine Ob.store rfl rfl rfl a3 rfl (by first | exact Nat.le_of_ble_eq_true rfl | simp) fun H6 t1 t2 t3 => ?_
      have g6 : Grow H4 H6 := g5.but_new t2 (by omega)
      have gg : Grow H H6 := (g.trans g4).trans g6
      have c1 := g6.hblk b5
      have c2 := g6.hblk b6
      have c3 := hblk_of t1
      have e1 := strR.grow hp gg
      have e2 := codeR.grow hcs gg
      have e3 := insR.grow hs gg
      clear a3 t1 t2 g5 i6 b5 b6 b3 b4
      have fin : insP p c m x → ∃ y : Nat, Has [(2, .pointer (some ⟨q1, 0, none⟩)), (5, .pointer (some ⟨q2, 0, none⟩)), (6, .int .i64 (IntKind.i64.wrap ((m : Int) + 1)))] [(2, .pointer (some ⟨q1, 0, none⟩)), (5, .pointer (some ⟨q2, 0, none⟩)), (6, .int .i64 (y : Int))] ∧ (y ≤ c.ins.length ∧ AllIns p c y ∧ Grow H3 H6) ∧ c.ins.length - y < c.ins.length - m := fun hi =>
        ⟨m + 1, ⟨rfl, rfl, congrArg (fun z => some (Value.int .i64 z)) (w_succ (by omega)), trivial⟩, ⟨hml, all_next ht hx hi, g4.trans g6⟩, by omega⟩
      have bad : ¬ insP p c m x → ((∃ b, Value.bool false = .bool b ∧ (b = true ↔ RightP p f c)) ∧ Grow H H6) := fun hi => ⟨⟨false, rfl, fun h => by simp at h, fun h => absurd (h.2.1 m x hml hx) hi⟩, gg⟩
      have ra := fun op a b => rarg_ax e1 e2 e3 op a b k1 k2 (by omega) k4 (by omega)
      obtain ⟨op, a, b⟩ := x
      by_cases hsit : op = 13 ∨ op = 14 ∨ op = 15 ∨ op = 27
      · have hst : sit op = true := decide_eq_true hsit
        have hgo : gos op = false := by unfold gos; exact decide_eq_false (by omega)
        have hin : insP p c m (op, a, b) ↔ argP p.2.1.length p.2.2.length p.1 c.2.1 c.ins.length op a ∧ 0 ≤ b ∧ b < c.2.2.1 := by
          unfold insP; simp [hst, hgo]
        clear hst hgo
        by_cases hin' : insP p c m (op, a, b)
        · have ha := decide_eq_true (hin.1 hin').1
          have hb1 : decide (b < 0) = false := decide_eq_false (by have := (hin.1 hin').2; omega)
          have hb2 : decide (b ≥ c.2.2.1) = false := decide_eq_false (by have := (hin.1 hin').2; omega)
          replace fin := fin hin'
          clear hin hin' bad hl' hx hl ht i4 i5
          rcases hsit with rfl | rfl | rfl | rfl
          all_goals refine run ?_
          all_goals refine (ra _ _ _).mono ?_
          all_goals
            rintro _ X ⟨rfl, eX⟩
            subst X
            rw [ha]
            refine run ?_
            refine (rgoes_ax _ _).mono ?_
            rintro _ X ⟨rfl, eX⟩
            subst X
            refine run ?_
            exact fin
        · replace bad := bad hin'
          rcases hsit with rfl | rfl | rfl | rfl
          all_goals (try (conv => whnf)); (repeat' ((fail_if_success (with_reducible refine And.intro ?_ ?_)); (fail_if_success (with_reducible refine Exists.intro ?_ ?_)); (first | ((with_reducible refine AX.id ?_); (first | (refine (ra _ _ _).mono ?_; (rintro _ X ⟨rfl, eX⟩; subst X; (conv => whnf))))) | (refine step0 ?_) | (apply bIf.of <;> intro hc <;> (conv => whnf)))))
          all_goals first | exact bad | (exfalso; refine hin' (hin.2 ?_); clear hin hin' bad hl' hx hl ht i4 i5 c1 c2 c3 e1 e2 e3 l4 ra fin; (simp only [ba_ne_t, ba_ne_f, ba_eq_t, ba_eq_f, bne_iff_ne, bne_eq_false_iff_eq, decide_eq_true_eq, decide_eq_false_iff_not, beq_iff_eq, beq_eq_false_iff_ne, ne_eq, Bool.not_eq_true, Bool.not_eq_false, Bool.not_eq_true', Bool.not_eq_false'] at *); refine ⟨by assumption, by omega, by omega⟩)
      · have hst : sit op = false := decide_eq_false hsit
        have e13 : (op == 13) = false := by rw [beq_eq_false_iff_ne]; omega
        have e14 : (op == 14) = false := by rw [beq_eq_false_iff_ne]; omega
        have e15 : (op == 15) = false := by rw [beq_eq_false_iff_ne]; omega
        have e27 : (op == 27) = false := by rw [beq_eq_false_iff_ne]; omega
        have hin : insP p c m (op, a, b) ↔ argP p.2.1.length p.2.2.length p.1 c.2.1 c.ins.length op a ∧ b = 0 ∧ (gos op = true → (m : Int) < a ∨ opAt c.ins a = 1) := by
          unfold insP; simp [hst]
        by_cases hA : argP p.2.1.length p.2.2.length p.1 c.2.1 c.ins.length op a ∧ gos op = true
        · obtain ⟨k1', k2'⟩ := arg_goes hA.1 hA.2
          obtain ⟨j, rfl⟩ : ∃ j : Nat, a = (j : Int) := ⟨a.toNat, by omega⟩
          obtain ⟨y, hy⟩ : ∃ y, c.ins[j]? = some y := get_lt (by omega)
          obtain ⟨b', j1, j2⟩ := ld_ins hs hy
          have j3 := ld_op hs hy j1 H6 gg
          have ho : opAt c.ins (j : Int) = y.1 := by unfold opAt; rw [Int.toNat_natCast, hy]
          rw [ho] at hin
          (try (conv => whnf)); (repeat' ((fail_if_success (with_reducible refine And.intro ?_ ?_)); (fail_if_success (with_reducible refine Exists.intro ?_ ?_)); (first | ((with_reducible refine AX.id ?_); (first | (refine (ra _ _ _).mono ?_; (rintro _ X ⟨rfl, eX⟩; subst X; (conv => whnf))) | (refine (rgoes_ax _ _).mono ?_; (rintro _ X ⟨rfl, eX⟩; subst X; (conv => whnf))))) | (refine step0 ?_) | (apply bIf.of <;> intro hc <;> (conv => whnf)))))
          all_goals first
            | (refine bad fun hi => ?_; replace hi := hin.1 hi; clear hin bad fin hl' hx hl ht i4 i5 c1 c2 c3 e1 e2 e3 l4 ra j1 j2 j3 hy ho hs hp hcs; grind)
            | (refine fin (hin.2 ?_); clear hin bad fin hl' hx hl ht i4 i5 c1 c2 c3 e1 e2 e3 l4 ra j1 j2 j3 hy ho hs hp hcs; grind)
        · (try (conv => whnf)); (repeat' ((fail_if_success (with_reducible refine And.intro ?_ ?_)); (fail_if_success (with_reducible refine Exists.intro ?_ ?_)); (first | ((with_reducible refine AX.id ?_); (first | (refine (ra _ _ _).mono ?_; (rintro _ X ⟨rfl, eX⟩; subst X; (conv => whnf))) | (refine (rgoes_ax _ _).mono ?_; (rintro _ X ⟨rfl, eX⟩; subst X; (conv => whnf))))) | (refine step0 ?_) | (apply bIf.of <;> intro hc <;> (conv => whnf)))))
          all_goals first
            | (exfalso; clear hin bad fin hl' hx hl ht i4 i5 c1 c2 c3 e1 e2 e3 l4 ra hs hp hcs; grind)
            | (refine bad fun hi => ?_; replace hi := hin.1 hi; clear hin bad fin hl' hx hl ht i4 i5 c1 c2 c3 e1 e2 e3 l4 ra hs hp hcs; grind)
            | (refine fin (hin.2 ?_); clear hin bad fin hl' hx hl ht i4 i5 c1 c2 c3 e1 e2 e3 l4 ra hs hp hcs; grind)
    · have d1 : decide ((m : Int) < (c.ins.length : Int)) = false := decide_eq_false (by omega)
      have hme : m = c.ins.length := by omega
      rw [hme] at ht
      refine run ?_
      refine (rdepths_ax (insR.grow hs (g.trans g4)) (aims_of hl ht)).mono ?_
      rintro v H5 ⟨r, hr, hv, g5⟩
      obtain ⟨sv', rfl⟩ := hv.ok
      refine run ?_
      exact ⟨⟨r.isSome, rfl, right_of hl ht hr⟩, (g.trans g4).trans g5⟩
end Go.Proofs.YtmdpifedcaaobaaDoor
/- Package code and its document: may a program be, and its depths. -/
set_option linter.unusedVariables false
set_option linter.unusedSimpArgs false
set_option maxRecDepth 20000
set_option maxHeartbeats 8000000
namespace Go.Proofs.YtmdpifedcaaobaaDoor
open Go Ax
abbrev fnV (f : Nat) : Value := .func (.func f) #[] #[]
theorem chk1_ax (H : Heap) (s : ByteArray) : AX Tryd.prog 28 #[.string s] H (fun v H' => v = .bool (decide ((s.size : Int) > 256)) ∧ H' = H) := by
  refine AX.body (n := 6) (rs := [.tmp 2]) Tryd.func28 rfl (by decide) rfl rfl (bC_sound _ _ _ _ ?_)
  refine run ?_
  exact ⟨rfl, rfl⟩
theorem indexf_ax {H : Heap} {u : Value} {L : List ByteArray} (hu : RL 1 strR H u L) (hL : L.length < 4294967296) :
    AX Tryd.prog 46 #[u, fnV 28] H (fun v H' => (∃ i : Int, v = .int .i64 i ∧ (0 ≤ i ↔ ∃ s ∈ L, 256 < s.size)) ∧ H' = H) := by
  refine AX.body (n := 19) (rs := [.tmp 4]) Tryd.func46 rfl (by decide) rfl rfl (bC_sound _ _ _ _ ?_)
  have l1 : alen Tryd.prog 22 u H = some (.int .i64 L.length) := hu.len rfl _
  refine run ?_
  refine SW.loop (α := Nat) (fun m => [(0, u), (1, fnV 28), (7, .int .i64 L.length), (8, .int .i64 (m : Int))]) (fun m H' => m ≤ L.length ∧ (∀ (i : Nat) s, i < m → L[i]? = some s → s.size ≤ 256) ∧ H' = H) (fun m => L.length - m) ⟨0, ⟨rfl, rfl, rfl, rfl, trivial⟩, by omega, fun i s h => by omega, rfl⟩ ?_
  rintro m X ⟨hm, ht, e⟩
  subst X
  refine bC_sound _ _ _ _ ?_
  by_cases hml : m < L.length
  · have d1 : decide ((m : Int) < (L.length : Int)) = true := decide_eq_true (by omega)
    obtain ⟨x, hx⟩ := get_lt hml
    obtain ⟨p, i1, i2⟩ := ld_str hu hx
    have i3 := i2 H (.refl _)
    refine run ?_
    refine (chk1_ax H x).mono ?_
    rintro _ X ⟨rfl, e⟩
    subst X
    (try (conv => whnf)); (repeat' ((fail_if_success (with_reducible refine And.intro ?_ ?_)); (fail_if_success (with_reducible refine Exists.intro ?_ ?_)); (first | (refine step0 ?_) | (apply bIf.of <;> intro hc <;> (conv => whnf)))))
    · exact ⟨⟨m, rfl, fun _ => ⟨x, List.mem_of_getElem? hx, by (simp only [ba_ne_t, ba_ne_f, ba_eq_t, ba_eq_f, bne_iff_ne, bne_eq_false_iff_eq, decide_eq_true_eq, decide_eq_false_iff_not, beq_iff_eq, beq_eq_false_iff_ne, ne_eq, Bool.not_eq_true, Bool.not_eq_false, Bool.not_eq_true', Bool.not_eq_false'] at *); omega⟩, fun _ => by omega⟩, rfl⟩
    · refine ⟨m + 1, ⟨rfl, rfl, rfl, congrArg (fun z => some (Value.int .i64 z)) (w_succ (by omega)), trivial⟩, ⟨hml, fun i s hi hs => ?_, rfl⟩, by show L.length - (m + 1) < L.length - m; omega⟩
      by_cases him : i = m
      · subst him; rw [hx] at hs; simp only [Option.some.injEq] at hs; subst hs; (simp only [ba_ne_t, ba_ne_f, ba_eq_t, ba_eq_f, bne_iff_ne, bne_eq_false_iff_eq, decide_eq_true_eq, decide_eq_false_iff_not, beq_iff_eq, beq_eq_false_iff_ne, ne_eq, Bool.not_eq_true, Bool.not_eq_false, Bool.not_eq_true', Bool.not_eq_false'] at *); omega
      · exact ht i s (by omega) hs
  · have d1 : decide ((m : Int) < (L.length : Int)) = false := decide_eq_false (by omega)
    refine run ?_
    refine ⟨⟨-1, rfl, fun h => by omega, fun ⟨s, hs, h⟩ => ?_⟩, rfl⟩
    obtain ⟨i, hi, rfl⟩ := List.getElem_of_mem hs
    have := ht i L[i] (by omega) (List.getElem?_eq_getElem hi)
    omega
theorem containsf_ax {H : Heap} {u : Value} {L : List ByteArray} (hu : RL 1 strR H u L) (hL : L.length < 4294967296) :
    AX Tryd.prog 27 #[u, fnV 28] H (fun v H' => (∃ b, v = .bool b ∧ (b = true ↔ ∃ s ∈ L, 256 < s.size)) ∧ H' = H) := by
  refine AX.body (n := 9) (rs := [.tmp 4]) Tryd.func27 rfl (by decide) rfl rfl (bC_sound _ _ _ _ ?_)
  refine run ?_
  refine (indexf_ax hu hL).mono ?_
  rintro _ X ⟨⟨i, rfl, hi⟩, e⟩
  subst X
  refine run ?_
  exact ⟨⟨_, rfl, by rw [decide_eq_true_eq]; exact hi⟩, rfl⟩
def CheckP (p : ProgT) : Prop := 0 ≤ p.1 ∧ p.1 ≤ 24 ∧ 1 ≤ p.2.2.length ∧ p.2.2.length ≤ 32 ∧ p.2.1.length ≤ 120 ∧ (∀ s ∈ p.2.1, s.size ≤ 256) ∧ ∀ (f : Nat) c, p.2.2[f]? = some c → RightP p f c
def ChkV (p : ProgT) (v : Value) : Prop := (v = .int .i64 0 ∧ CheckP p) ∨ (v = .int .i64 16 ∧ ¬ CheckP p)
theorem ChkV.plain {p : ProgT} {v : Value} (h : ChkV p v) : plain v := by rcases h with ⟨rfl, _⟩ | ⟨rfl, _⟩ <;> exact plain_int _ _
theorem check_ax {H : Heap} {p : ProgT} {ps cs : Value} (hp : RL 1 strR H ps p.2.1) (hcs : RL 5 codeR H cs p.2.2) (hL : p.2.1.length < 4294967296) :
    AX Tryd.prog 17 #[progV p ps cs] H (fun v H' => ChkV p v ∧ H' = H) := by
  refine AX.quiet ?_
  suffices hh : AX Tryd.prog 17 #[progV p ps cs] H (fun v H' => ChkV p v ∧ Grow H H') from hh.mono fun v _ ⟨e, g⟩ => ⟨e.plain, e, g⟩
  refine AX.body (n := 46) (rs := [.tmp 2]) Tryd.func17 rfl (by decide) rfl rfl (bC_sound _ _ _ _ ?_)
  (conv => whnf)
  refine Ob2.box rfl fun q1 H1 hq1 a1 g1 => ?_
  have b1 := hblk_of a1
  have l1 : alen Tryd.prog 22 ps H1 = some (.int .i64 p.2.1.length) := hp.len rfl _
  have l2 : alen Tryd.prog 23 cs H1 = some (.int .i64 p.2.2.length) := hcs.len rfl _
  clear a1
  (try (conv => whnf)); (repeat' ((fail_if_success (with_reducible refine And.intro ?_ ?_)); (fail_if_success (with_reducible refine Exists.intro ?_ ?_)); (first | (refine step0 ?_) | (apply bIf.of <;> intro hc <;> (conv => whnf)))))
  rotate_right
  all_goals first
    | (refine ⟨.inr ⟨rfl, fun h => ?_⟩, g1⟩
       obtain ⟨h1, h2, h3, h4, h5, h6, h7⟩ := h
       clear l1 l2 b1 hp hcs h6 h7
       (simp only [ba_ne_t, ba_ne_f, ba_eq_t, ba_eq_f, bne_iff_ne, bne_eq_false_iff_eq, decide_eq_true_eq, decide_eq_false_iff_not, beq_iff_eq, beq_eq_false_iff_ne, ne_eq, Bool.not_eq_true, Bool.not_eq_false, Bool.not_eq_true', Bool.not_eq_false'] at *)
       omega)
    | skip
  have hbs : 0 ≤ p.1 ∧ p.1 ≤ 24 ∧ 1 ≤ p.2.2.length ∧ p.2.2.length ≤ 32 ∧ p.2.1.length ≤ 120 := by
    clear l1 l2 b1 hp hcs
    (simp only [ba_ne_t, ba_ne_f, ba_eq_t, ba_eq_f, bne_iff_ne, bne_eq_false_iff_eq, decide_eq_true_eq, decide_eq_false_iff_not, beq_iff_eq, beq_eq_false_iff_ne, ne_eq, Bool.not_eq_true, Bool.not_eq_false, Bool.not_eq_true', Bool.not_eq_false'] at *)
    omega
  refine (containsf_ax (strR.grow hp g1) hL).mono ?_
  rintro _ X ⟨⟨bb, rfl, hb⟩, e⟩
  subst X
  cases bb with
  | true =>
    refine run ?_
    obtain ⟨s, hs, h⟩ := hb.1 rfl
    exact ⟨.inr ⟨rfl, fun h' => by have := h'.2.2.2.2.2.1 s hs; omega⟩, g1⟩
  | false =>
    have hst : ∀ s ∈ p.2.1, s.size ≤ 256 := fun s hs => by
      by_cases h : 256 < s.size
      · have := hb.2 ⟨s, hs, h⟩; simp at this
      · omega
    refine run ?_
    refine SW.loop (α := Nat) (fun m => [(1, .pointer (some ⟨q1, 0, none⟩)), (37, .int .i64 (p.2.2.length : Int)), (38, .int .i64 (m : Int))]) (fun m H' => m ≤ p.2.2.length ∧ (∀ (f : Nat) c, f < m → p.2.2[f]? = some c → RightP p f c) ∧ H' = H1) (fun m => p.2.2.length - m) ⟨0, ⟨rfl, rfl, rfl, trivial⟩, by omega, fun i x hi => by omega, rfl⟩ ?_
    rintro m X ⟨hm, ht, e⟩
    subst X
    refine bC_sound _ _ _ _ ?_
    by_cases hml : m < p.2.2.length
    · have d1 : decide ((m : Int) < (p.2.2.length : Int)) = true := decide_eq_true (by omega)
      obtain ⟨x, hx⟩ := get_lt hml
      refine run ?_
      refine (right_ax (strR.grow hp g1) (codeR.grow hcs g1) hx).mono ?_
      rintro _ X ⟨⟨b, rfl, hb⟩, e⟩
      subst X
      cases b with
      | true =>
        refine run ?_
        refine ⟨m + 1, ⟨rfl, rfl, congrArg (fun z => some (Value.int .i64 z)) (w_succ (by omega)), trivial⟩, ⟨hml, fun f c hf hcc => ?_, rfl⟩, by show _ - (m + 1) < _ - m; omega⟩
        by_cases hfm : f = m
        · subst hfm; rw [hx] at hcc; simp only [Option.some.injEq] at hcc; subst hcc; exact hb.1 rfl
        · exact ht f c (by omega) hcc
      | false =>
        refine run ?_
        exact ⟨.inr ⟨rfl, fun h => by have := hb.2 (h.2.2.2.2.2.2 m x hx); simp at this⟩, g1⟩
    · have d1 : decide ((m : Int) < (p.2.2.length : Int)) = false := decide_eq_false (by omega)
      refine run ?_
      exact ⟨.inl ⟨rfl, hbs.1, hbs.2.1, hbs.2.2.1, hbs.2.2.2.1, hbs.2.2.2.2, hst, fun f c hf => ht f c (by have := lt_of_get hf; omega) hf⟩, g1⟩
theorem rcheck_ax {H : Heap} {p : ProgT} {ps cs : Value} (hp : RL 1 strR H ps p.2.1) (hcs : RL 5 codeR H cs p.2.2) (hL : p.2.1.length < 4294967296) :
    AX Tryd.prog 16 #[progV p ps cs] H (fun v H' => ChkV p v ∧ H' = H) := by
  refine AX.quiet ?_
  suffices hh : AX Tryd.prog 16 #[progV p ps cs] H (fun v H' => ChkV p v ∧ Grow H H') from hh.mono fun v _ ⟨e, g⟩ => ⟨e.plain, e, g⟩
  refine AX.body (n := 56) (rs := [.tmp 2]) Tryd.func16 rfl (by decide) rfl rfl (bC_sound _ _ _ _ ?_)
  (conv => whnf)
  refine Ob2.box rfl fun q1 H1 hq1 a1 g1 => ?_
  have b1 := hblk_of a1
  have l1 : alen Tryd.prog 22 ps H1 = some (.int .i64 p.2.1.length) := hp.len rfl _
  have l2 : alen Tryd.prog 23 cs H1 = some (.int .i64 p.2.2.length) := hcs.len rfl _
  clear a1
  (try (conv => whnf)); (repeat' ((fail_if_success (with_reducible refine And.intro ?_ ?_)); (fail_if_success (with_reducible refine Exists.intro ?_ ?_)); (first | (refine step0 ?_) | (apply bIf.of <;> intro hc <;> (conv => whnf)))))
  rotate_right
  all_goals first
    | (refine ⟨.inr ⟨rfl, fun h => ?_⟩, g1⟩
       obtain ⟨h1, h2, h3, h4, h5, h6, h7⟩ := h
       clear l1 l2 b1 hp hcs h6 h7
       (simp only [ba_ne_t, ba_ne_f, ba_eq_t, ba_eq_f, bne_iff_ne, bne_eq_false_iff_eq, decide_eq_true_eq, decide_eq_false_iff_not, beq_iff_eq, beq_eq_false_iff_ne, ne_eq, Bool.not_eq_true, Bool.not_eq_false, Bool.not_eq_true', Bool.not_eq_false'] at *)
       omega)
    | skip
  have hbs : 0 ≤ p.1 ∧ p.1 ≤ 24 ∧ 1 ≤ p.2.2.length ∧ p.2.2.length ≤ 32 ∧ p.2.1.length ≤ 120 := by
    clear l1 l2 b1 hp hcs
    (simp only [ba_ne_t, ba_ne_f, ba_eq_t, ba_eq_f, bne_iff_ne, bne_eq_false_iff_eq, decide_eq_true_eq, decide_eq_false_iff_not, beq_iff_eq, beq_eq_false_iff_ne, ne_eq, Bool.not_eq_true, Bool.not_eq_false, Bool.not_eq_true', Bool.not_eq_false'] at *)
    omega
  clear hc
  refine SW.loop (α := Nat) (fun m => [(1, .pointer (some ⟨q1, 0, none⟩)), (3, .int .i64 (m : Int))]) (fun m H' => m ≤ p.2.1.length ∧ (∀ (i : Nat) s, i < m → p.2.1[i]? = some s → s.size ≤ 256) ∧ H' = H1) (fun m => p.2.1.length - m) ⟨0, ⟨rfl, rfl, trivial⟩, by omega, fun i x hi => by omega, rfl⟩ ?_
  rintro m X ⟨hm, ht, e⟩
  subst X
  refine bC_sound _ _ _ _ ?_
  by_cases hml : m < p.2.1.length
  · have d1 : decide ((m : Int) < (p.2.1.length : Int)) = true := decide_eq_true (by omega)
    obtain ⟨x, hx⟩ := get_lt hml
    obtain ⟨u, i1, i2⟩ := ld_str hp hx
    have i3 := i2 H1 g1
    (try (conv => whnf)); (repeat' ((fail_if_success (with_reducible refine And.intro ?_ ?_)); (fail_if_success (with_reducible refine Exists.intro ?_ ?_)); (first | (refine step0 ?_) | (apply bIf.of <;> intro hc <;> (conv => whnf)))))
    · exact ⟨.inr ⟨rfl, fun h => by have := h.2.2.2.2.2.1 x (List.mem_of_getElem? hx); (simp only [ba_ne_t, ba_ne_f, ba_eq_t, ba_eq_f, bne_iff_ne, bne_eq_false_iff_eq, decide_eq_true_eq, decide_eq_false_iff_not, beq_iff_eq, beq_eq_false_iff_ne, ne_eq, Bool.not_eq_true, Bool.not_eq_false, Bool.not_eq_true', Bool.not_eq_false'] at *); omega⟩, g1⟩
    · refine ⟨m + 1, ⟨rfl, congrArg (fun z => some (Value.int .i64 z)) (w_succ (by omega)), trivial⟩, ⟨hml, fun i s hi hs => ?_, rfl⟩, by show _ - (m + 1) < _ - m; omega⟩
      by_cases him : i = m
      · subst him; rw [hx] at hs; simp only [Option.some.injEq] at hs; subst hs; clear ht l1 l2; (simp only [ba_ne_t, ba_ne_f, ba_eq_t, ba_eq_f, bne_iff_ne, bne_eq_false_iff_eq, decide_eq_true_eq, decide_eq_false_iff_not, beq_iff_eq, beq_eq_false_iff_ne, ne_eq, Bool.not_eq_true, Bool.not_eq_false, Bool.not_eq_true', Bool.not_eq_false'] at *); omega
      · exact ht i s (by omega) hs
  have d1 : decide ((m : Int) < (p.2.1.length : Int)) = false := decide_eq_false (by omega)
  have hst : ∀ s ∈ p.2.1, s.size ≤ 256 := fun s hs => by
    obtain ⟨i, hi, rfl⟩ := List.getElem_of_mem hs
    exact ht i _ (by omega) (List.getElem?_eq_getElem hi)
  clear hml ht
  refine run ?_
  refine SW.loop (α := Nat) (fun m => [(1, .pointer (some ⟨q1, 0, none⟩)), (4, .int .i64 (m : Int))]) (fun m H' => m ≤ p.2.2.length ∧ (∀ (f : Nat) c, f < m → p.2.2[f]? = some c → RightP p f c) ∧ H' = H1) (fun m => p.2.2.length - m) ⟨0, ⟨rfl, rfl, trivial⟩, by omega, fun i x hi => by omega, rfl⟩ ?_
  clear d1 hm m
  rintro m X ⟨hm, ht, e⟩
  subst X
  refine bC_sound _ _ _ _ ?_
  by_cases hml : m < p.2.2.length
  · have d1 : decide ((m : Int) < (p.2.2.length : Int)) = true := decide_eq_true (by omega)
    obtain ⟨x, hx⟩ := get_lt hml
    refine run ?_
    refine (rright_ax (strR.grow hp g1) (codeR.grow hcs g1) hx hL (by omega) ⟨hbs.1, hbs.2.1⟩).mono ?_
    rintro _ X ⟨⟨b, rfl, hb⟩, e⟩
    subst X
    cases b with
    | true =>
      refine run ?_
      refine ⟨m + 1, ⟨rfl, congrArg (fun z => some (Value.int .i64 z)) (w_succ (by omega)), trivial⟩, ⟨hml, fun f c hf hcc => ?_, rfl⟩, by show _ - (m + 1) < _ - m; omega⟩
      by_cases hfm : f = m
      · subst hfm; rw [hx] at hcc; simp only [Option.some.injEq] at hcc; subst hcc; exact hb.1 rfl
      · exact ht f c (by omega) hcc
    | false =>
      refine run ?_
      exact ⟨.inr ⟨rfl, fun h => by have := hb.2 (h.2.2.2.2.2.2 m x hx); simp at this⟩, g1⟩
  · have d1 : decide ((m : Int) < (p.2.2.length : Int)) = false := decide_eq_false (by omega)
    refine run ?_
    exact ⟨.inl ⟨rfl, hbs.1, hbs.2.1, hbs.2.2.1, hbs.2.2.2.1, hbs.2.2.2.2, hst, fun f c hf => ht f c (by have := lt_of_get hf; omega) hf⟩, g1⟩
end Go.Proofs.YtmdpifedcaaobaaDoor
/- The statements of package code: lists of numbers compared, and the two small programs. -/
set_option linter.unusedVariables false
set_option linter.unusedSimpArgs false
set_option maxRecDepth 20000
set_option maxHeartbeats 8000000
namespace Go.Proofs.YtmdpifedcaaobaaDoor
open Go Ax
theorem ld_int {H : Heap} {sv : Value} {L : List Int} (h : RL 1 intR H sv L) {i : Nat} {x : Int} (hx : L[i]? = some x) :
    ∃ q, aindexAddr Tryd.prog 57 sv (.int .i64 (i : Int)) = some q ∧ ∀ H', Grow H H' → aload Tryd.prog 3 q H' = some (.int .i64 x) :=
  h.ld1 (fun _ _ _ h => h) rfl rfl rfl rfl hx
def c1 : CodeT := (0, 0, 0, 1, [(2, 0, 0), (32, 0, 0)])
def c2 : CodeT := (0, 0, 0, 1, [(31, 0, 0), (2, 0, 0), (32, 0, 0)])
def p1 : ProgT := (0, [], [c1])
def p2 : ProgT := (0, [], [c2])
theorem p1_ok : CheckP p1 := by
  refine ⟨by decide, by decide, by decide, by decide, by decide, fun s hs => by simp [p1] at hs, fun f c hc => ?_⟩
  have : f = 0 ∧ c = c1 := by
    cases f with
    | zero => simp [p1] at hc; exact ⟨rfl, hc.symm⟩
    | succ f => simp [p1] at hc
  obtain ⟨rfl, rfl⟩ := this
  have key : ∀ (i : Nat) (x : Ins), c1.ins[i]? = some x → i = 0 ∧ x = (2, 0, 0) ∨ i = 1 ∧ x = (32, 0, 0) := by
    intro i x hx
    match i, hx with
    | 0, hx => simp [c1, CodeT.ins] at hx; exact .inl ⟨rfl, hx.symm⟩
    | 1, hx => simp [c1, CodeT.ins] at hx; exact .inr ⟨rfl, hx.symm⟩
    | i + 2, hx => simp [c1, CodeT.ins] at hx
  refine ⟨by unfold Lim; simp [c1, CodeT.ins], fun i x hi hx => ?_, [0, 1], ⟨rfl, rfl, fun i d hd => ?_⟩, fun i d x hd h0 hx => ?_⟩
  · rcases key i x hx with ⟨rfl, rfl⟩ | ⟨rfl, rfl⟩ <;> decide
  · match i, hd with
    | 0, hd => simp at hd; subst hd; exact .inr ⟨by decide, .start⟩
    | 1, hd =>
      simp at hd; subst hd
      have := Reach.step (c := c1) (i := 0) (d := 0) (x := (2, 0, 0)) (k := 0) (t := 1) .start rfl (by decide) (by decide) (by decide) (by decide) (by decide)
      exact .inr ⟨by decide, this⟩
    | i + 2, hd => simp at hd
  · rcases key i x hx with ⟨rfl, rfl⟩ | ⟨rfl, rfl⟩
    · simp at hd
      subst hd
      refine ⟨by decide, by decide, fun k t ht => ?_⟩
      match k, ht with
      | 0, ht =>
        have : t = 1 := by have h : (tgt c1.ins ((0 : Nat) : Int))[0]? = some 1 := by decide
                           rw [h] at ht; simpa using ht.symm
        subst this
        decide
      | k + 1, ht =>
        have h : (tgt c1.ins ((0 : Nat) : Int)).length = 1 := by decide
        rw [List.getElem?_eq_none (by omega)] at ht
        simp at ht
    · simp at hd
      subst hd
      refine ⟨by decide, by decide, fun k t ht => ?_⟩
      have h : (tgt c1.ins ((1 : Nat) : Int)).length = 0 := by decide
      rw [List.getElem?_eq_none (by omega)] at ht
      simp at ht
theorem p2_no : ¬ CheckP p2 := fun h => by
  obtain ⟨L, hL⟩ := (h.2.2.2.2.2.2 0 c2 rfl).2.2
  exact hL.good (.inl ⟨0, 0, (31, 0, 0), .start, rfl, .inl (by decide)⟩)
end Go.Proofs.YtmdpifedcaaobaaDoor
/- The statements of package code: few instructions, and the depths of a program's code. -/
set_option linter.unusedVariables false
set_option linter.unusedSimpArgs false
set_option maxRecDepth 20000
set_option maxHeartbeats 8000000
namespace Go.Proofs.YtmdpifedcaaobaaDoor
open Go Ax
theorem slots_get {c l : List Value} {o n j : Nat} {v : Value} (h : slotsOf c o n = some l) (hv : l[j]? = some v) : c[o + j]? = some v := by
  unfold slotsOf at h
  split at h
  · simp only [Option.some.injEq] at h
    subst h
    rw [List.getElem?_take] at hv
    split at hv
    · rwa [List.getElem?_drop] at hv
    · simp at hv
  · simp at h
theorem ld_codeF {H : Heap} {sv : Value} {L : List CodeT} (h : RL 5 codeR H sv L) {i : Nat} {x : CodeT} (hx : L[i]? = some x) :
    ∃ b u, aindexAddr Tryd.prog 23 sv (.int .i64 (i : Int)) = some (.pointer (some ⟨b, i * 5, none⟩)) ∧ RL 3 insR H u x.ins ∧ ∀ H', Grow H H' → aload Tryd.prog 43 (.pointer (some ⟨b, i * 5 + 4, none⟩)) H' = some u := by
  obtain ⟨b, c, l, h1, h2, h3, u, rfl, h4⟩ := h.at (P := Tryd.prog) (t := 23) (e := 45) rfl rfl hx
  exact ⟨b, u, h1, h4, fun H' g => ald rfl rfl (g.hblk h2) (slots_get (j := 4) h3 rfl)⟩
def FewP (p : ProgT) : Prop := p.2.2.length ≤ 40 ∧ p.2.1.length ≤ 130 ∧ ∀ c ∈ p.2.2, c.ins.length ≤ 400
theorem FewP.small {p : ProgT} (h : FewP p) : Small p := ⟨by have := h.2.1; omega, by have := h.1; omega, fun c hc => by have := h.2.2 c hc; omega⟩
theorem fewN_ax {H : Heap} (n0 : Nat) (hn0 : n0 ≤ 400) {p : ProgT} {ps cs : Value} (hp : RL 1 strR H ps p.2.1) (hcs : RL 5 codeR H cs p.2.2) :
    AX Tryd.prog 7 #[progV p ps cs, .int .i64 (n0 : Int)] H (fun v H' => (∃ b, v = .bool b ∧ (b = true → FewP p)) ∧ H' = H) := by
  refine AX.quiet ?_
  suffices hh : AX Tryd.prog 7 #[progV p ps cs, .int .i64 (n0 : Int)] H (fun v H' => (∃ b, v = .bool b ∧ (b = true → FewP p)) ∧ Grow H H') from hh.mono fun v _ ⟨⟨b, e, k⟩, g⟩ => ⟨e ▸ plain_bool _, ⟨b, e, k⟩, g⟩
  refine AX.body (n := 45) (rs := [.tmp 4]) Tryd.func7 rfl (by decide) rfl rfl (bC_sound _ _ _ _ ?_)
  (conv => whnf)
  refine Ob2.box rfl fun q1 H1 hq1 a1 g1 => ?_
  have b1 := hblk_of a1
  have l1 : alen Tryd.prog 22 ps H1 = some (.int .i64 p.2.1.length) := hp.len rfl _
  have l2 : alen Tryd.prog 23 cs H1 = some (.int .i64 p.2.2.length) := hcs.len rfl _
  (try (conv => whnf)); (repeat' ((fail_if_success (with_reducible refine And.intro ?_ ?_)); (fail_if_success (with_reducible refine Exists.intro ?_ ?_)); (first | (refine step0 ?_) | (apply bIf.of <;> intro hc <;> (conv => whnf)))))
  · exact ⟨⟨false, rfl, fun h => by simp at h⟩, g1⟩
  · exact ⟨⟨false, rfl, fun h => by simp at h⟩, g1⟩
  have hb : p.2.2.length ≤ 40 ∧ p.2.1.length ≤ 130 := by clear l1 l2 b1 a1 hp hcs; (simp only [ba_ne_t, ba_ne_f, ba_eq_t, ba_eq_f, bne_iff_ne, bne_eq_false_iff_eq, decide_eq_true_eq, decide_eq_false_iff_not, beq_iff_eq, beq_eq_false_iff_ne, ne_eq, Bool.not_eq_true, Bool.not_eq_false, Bool.not_eq_true', Bool.not_eq_false'] at *); omega
  refine SW.loop (α := Nat × Nat) (fun y => [(1, .int .i64 (y.2 : Int)), (2, .pointer (some ⟨q1, 0, none⟩)), (5, .int .i64 (y.1 : Int))]) (fun y H' => y.1 ≤ p.2.2.length ∧ y.2 ≤ 400 ∧ (∀ (i : Nat) c, i < y.1 → p.2.2[i]? = some c → c.ins.length ≤ 400) ∧ H' = H1) (fun y => p.2.2.length - y.1) ⟨(0, n0), ⟨rfl, rfl, rfl, trivial⟩, by show 0 ≤ _; omega, by show n0 ≤ 400; omega, fun i x hi => by dsimp only at hi; omega, rfl⟩ ?_
  rintro ⟨m, n⟩ X ⟨hm, hn, ht, e⟩
  subst X
  dsimp only at hm hn ht ⊢
  refine bC_sound _ _ _ _ ?_
  have d0 : decide ((n : Int) ≥ 0) = true := decide_eq_true (by omega)
  by_cases hml : m < p.2.2.length
  · have d1 : decide ((m : Int) < (p.2.2.length : Int)) = true := decide_eq_true (by omega)
    obtain ⟨c, hx⟩ := get_lt hml
    obtain ⟨b, u, i1, i2, i3⟩ := ld_codeF hcs hx
    have i4 := i3 H1 g1
    have l3 : alen Tryd.prog 43 u H1 = some (.int .i64 c.ins.length) := i2.len rfl _
    by_cases hcl : n < c.ins.length
    · have d2 : decide ((c.ins.length : Int) > (n : Int)) = true := decide_eq_true (by omega)
      refine run ?_
      exact ⟨⟨false, rfl, fun h => by simp at h⟩, g1⟩
    · have d2 : decide ((c.ins.length : Int) > (n : Int)) = false := decide_eq_false (by omega)
      have w : IntKind.i64.wrap ((n : Int) - (c.ins.length : Int)) = ((n - c.ins.length : Nat) : Int) := by rw [wrap_i64 (by omega) (by omega)]; omega
      refine run ?_
      refine ⟨(m + 1, n - c.ins.length), ⟨congrArg (fun z => some (Value.int .i64 z)) w, rfl, congrArg (fun z => some (Value.int .i64 z)) (w_succ (by omega)), trivial⟩, ⟨hml, by show n - _ ≤ _; omega, fun i d hi hd => ?_, rfl⟩, by show _ - (m + 1) < _ - m; omega⟩
      by_cases him : i = m
      · subst him; rw [hx] at hd; simp only [Option.some.injEq] at hd; subst hd; omega
      · exact ht i d (by dsimp only at hi; omega) hd
  · have d1 : decide ((m : Int) < (p.2.2.length : Int)) = false := decide_eq_false (by omega)
    refine run ?_
    refine ⟨⟨true, rfl, fun _ => ⟨hb.1, hb.2, fun c hcc => ?_⟩⟩, g1⟩
    obtain ⟨i, hi, rfl⟩ := List.getElem_of_mem hcc
    exact ht i _ (by omega) (List.getElem?_eq_getElem hi)
theorem few_ax {H : Heap} {p : ProgT} {ps cs : Value} (hp : RL 1 strR H ps p.2.1) (hcs : RL 5 codeR H cs p.2.2) :
    AX Tryd.prog 7 #[progV p ps cs, .int .i64 400] H (fun v H' => (∃ b, v = .bool b ∧ (b = true → FewP p)) ∧ H' = H) :=
  fewN_ax 400 (by decide) hp hcs
/-- The depths of a program's code; none where there are none. -/
def DL (p : ProgT) (f : Int) (L : List Int) : Prop := (∃ c, 0 ≤ f ∧ p.2.2[f.toNat]? = some c ∧ CheckP p ∧ Closed c L) ∨ ((f < 0 ∨ (p.2.2.length : Int) ≤ f ∨ ¬ CheckP p) ∧ L = [])
theorem DL.uniq {p : ProgT} {f : Int} {L M : List Int} (h : DL p f L) (k : DL p f M) : L = M := by
  rcases h with ⟨c, h0, h1, h2, h3⟩ | ⟨h0, rfl⟩
  · rcases k with ⟨d, k0, k1, k2, k3⟩ | ⟨k0, rfl⟩
    · rw [h1] at k1
      simp only [Option.some.injEq] at k1
      subst k1
      exact h3.uniq k3
    · have := lt_of_get h1
      rcases k0 with k0 | k0 | k0
      · omega
      · omega
      · exact absurd h2 k0
  · rcases k with ⟨d, k0, k1, k2, k3⟩ | ⟨k0, rfl⟩
    · have := lt_of_get k1
      rcases h0 with h0 | h0 | h0
      · omega
      · omega
      · exact absurd k2 h0
    · rfl
theorem aims_right {p : ProgT} {f : Int} {c : CodeT} (h : RightP p f c) : Aims c := aims_of h.1 h.2.1
theorem dep_row {H : Heap} {q : Nat} {L : List Int} (h : OwnI H q L) : RL 1 intR H (rowV q L.length) L := RL.own (g := Value.int .i64) (fun _ _ => rfl) h
theorem dep_own {H : Heap} {q : Nat} {L : List Int} (h : OwnI H q L) : OwnR 1 3 intR H (rowV q L.length) L := by
  refine .inr ⟨q, _, rfl, h, by simp, fun i x hx => ⟨[.int .i64 x], ?_, rfl⟩⟩
  have hl := lt_of_get hx
  rw [slots_of (by simp; omega)]
  congr 1
  apply List.ext_getElem?
  intro j
  rw [List.getElem?_take, List.getElem?_drop]
  cases j with
  | zero => simp [hx]
  | succ j => simp
end Go.Proofs.YtmdpifedcaaobaaDoor
