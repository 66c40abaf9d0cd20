/- Package code: instructions, codes and programs in abstract memory, and the smaller functions. -/
import Derived.Test.YtmdjepfpgmignaaJTy1
set_option linter.unusedVariables false
set_option linter.unusedSimpArgs false
set_option maxRecDepth 20000
set_option maxHeartbeats 8000000
namespace Go.Proofs.Ytmdjepfpgmignaa
open Go Ax
abbrev Ins := Int × Int × Int
abbrev CodeT := Int × Int × Int × Int × List Ins
abbrev ProgT := Int × List ByteArray × List CodeT
def insR (_ : Heap) (l : List Value) (x : Ins) : Prop := l = [.int .i64 x.1, .int .i64 x.2.1, .int .i64 x.2.2]
abbrev CodeT.ins (c : CodeT) : List Ins := c.2.2.2.2
abbrev CodeT.deep (c : CodeT) : Int := c.2.2.2.1
abbrev codeV (c : CodeT) (sv : Value) : Value := .agg #[.int .i64 c.1, .int .i64 c.2.1, .int .i64 c.2.2.1, .int .i64 c.2.2.2.1, sv]
def codeR (H : Heap) (l : List Value) (c : CodeT) : Prop := ∃ sv, l = [.int .i64 c.1, .int .i64 c.2.1, .int .i64 c.2.2.1, .int .i64 c.2.2.2.1, sv] ∧ RL 3 insR H sv c.ins
def ProgR (H : Heap) (v : Value) (p : ProgT) : Prop := ∃ ps cs, v = .agg #[.int .i64 p.1, ps, cs] ∧ RL 1 strR H ps p.2.1 ∧ RL 5 codeR H cs p.2.2
theorem insR.grow {H H' : Heap} {sv : Value} {L : List Ins} (h : RL 3 insR H sv L) (g : Grow H H') : RL 3 insR H' sv L := RL.grow (fun l x (h : insR H l x) => (h : insR H' l x)) h g
theorem codeR.grow {H H' : Heap} {sv : Value} {L : List CodeT} (h : RL 5 codeR H sv L) (g : Grow H H') : RL 5 codeR H' sv L := RL.grow (fun _ _ ⟨s, h1, h2⟩ => ⟨s, h1, insR.grow h2 g⟩) h g
theorem ProgR.grow {H H' : Heap} {v : Value} {p : ProgT} (h : ProgR H v p) (g : Grow H H') : ProgR H' v p := by
  obtain ⟨ps, cs, h1, h2, h3⟩ := h
  exact ⟨ps, cs, h1, strR.grow h2 g, codeR.grow h3 g⟩
theorem ins_of {H : Heap} {c : List Value} {x : Ins} (R : ty39.R H c x) : insR H c x := by
  obtain ⟨h1, h2, h3⟩ := R
  exact cons_of h1 (cons_of h2 h3)
theorem code_of {H : Heap} {c : List Value} {x : CodeT} (R : ty37.R H c x) : codeR H c x := by
  obtain ⟨h1, h2, h3, h4, h5⟩ := R
  obtain ⟨sv, h6, h7⟩ := RL.ofTy (f := insR) (fun l x h => ins_of h) h5
  exact ⟨sv, cons_of h1 (cons_of h2 (cons_of h3 (cons_of h4 h6))), h7⟩
theorem prog_of {H : Heap} {c : List Value} {x : ProgT} (R : ty30.R H c x) : ProgR H (argS c) x := by
  obtain ⟨h1, h2, h3⟩ := R
  obtain ⟨ps, h6, h7⟩ := RL.ofTy (f := strR) (fun l x h => h) h2
  obtain ⟨cs, h8, h9⟩ := RL.ofTy (f := codeR) (fun l x h => code_of h) h3
  have hc : c = [.int .i64 x.1, ps, cs] := cons_of h1 (cons_of h6 h8)
  exact ⟨ps, cs, by rw [hc]; rfl, h7, h9⟩
end Go.Proofs.Ytmdjepfpgmignaa
/- Package code and its document: which instructions go somewhere, and what comes behind one. -/
set_option linter.unusedVariables false
set_option linter.unusedSimpArgs false
set_option maxRecDepth 20000
set_option maxHeartbeats 8000000
namespace Go.Proofs.Ytmdjepfpgmignaa
open Go Ax
def gos (op : Int) : Bool := decide (22 ≤ op ∧ op ≤ 25)
theorem goes_ax (H : Heap) (op : Int) : AX Try.prog 38 #[.int .i64 op] H (fun v H' => v = .bool (gos op) ∧ H' = H) := by
  refine AX.body (n := 17) (rs := [.tmp 2]) Try.func38 rfl (by decide) rfl rfl (bC_sound _ _ _ _ ?_)
  by_cases h : 22 ≤ op ∧ op ≤ 25
  · have hc : op = 22 ∨ op = 23 ∨ op = 24 ∨ op = 25 := by omega
    rcases hc with rfl | rfl | rfl | rfl <;> (refine run ?_; exact ⟨rfl, rfl⟩)
  · have hg : gos op = false := decide_eq_false h
    have e1 : (op == 22) = false := by rw [beq_eq_false_iff_ne]; omega
    have e2 : (op == 23) = false := by rw [beq_eq_false_iff_ne]; omega
    have e3 : (op == 24) = false := by rw [beq_eq_false_iff_ne]; omega
    have e4 : (op == 25) = false := by rw [beq_eq_false_iff_ne]; omega
    rw [hg]
    refine run ?_
    exact ⟨congrArg Value.bool e4, rfl⟩
def sit (op : Int) : Bool := decide (op = 13 ∨ op = 14 ∨ op = 15 ∨ op = 27)
theorem site_ax (H : Heap) (op : Int) : AX Try.prog 36 #[.int .i64 op] H (fun v H' => v = .bool (sit op) ∧ H' = H) := by
  refine AX.body (n := 17) (rs := [.tmp 2]) Try.func36 rfl (by decide) rfl rfl (bC_sound _ _ _ _ ?_)
  by_cases h : op = 13 ∨ op = 14 ∨ op = 15 ∨ op = 27
  · rcases h with rfl | rfl | rfl | rfl <;> (refine run ?_; exact ⟨rfl, rfl⟩)
  · have hg : sit op = false := decide_eq_false h
    have e1 : (op == 13) = false := by rw [beq_eq_false_iff_ne]; omega
    have e2 : (op == 14) = false := by rw [beq_eq_false_iff_ne]; omega
    have e3 : (op == 15) = false := by rw [beq_eq_false_iff_ne]; omega
    have e4 : (op == 27) = false := by rw [beq_eq_false_iff_ne]; omega
    rw [hg]
    refine run ?_
    exact ⟨congrArg Value.bool e4, rfl⟩
theorem below_ax (H : Heap) (n m : Int) : AX Try.prog 37 #[.int .i64 n, .int .i64 m] H (fun v H' => v = .bool (decide (0 ≤ n ∧ n < m)) ∧ H' = H) := by
  refine AX.body (n := 12) (rs := [.tmp 4]) Try.func37 rfl (by decide) rfl rfl (bC_sound _ _ _ _ ?_)
  by_cases h : 0 ≤ n
  · have d1 : decide (n ≥ 0) = true := decide_eq_true h
    refine run ?_
    exact ⟨congrArg Value.bool (by rw [Bool.eq_iff_iff]; simp; omega), rfl⟩
  · have d1 : decide (n ≥ 0) = false := decide_eq_false h
    have hg : decide (0 ≤ n ∧ n < m) = false := decide_eq_false (by omega)
    rw [hg]
    refine run ?_
    exact ⟨rfl, rfl⟩
/-- A list of numbers that was made. -/
def Nums (n : Nat) (H : Heap) (sv : Value) (L : List Int) : Prop := (sv = .slice none 0 0 ∧ L = []) ∨ ∃ b, n ≤ b ∧ sv = .slice (some ⟨b, 0, none⟩) L.length 1 ∧ H[b]? = some (.cells (.row 3) (L.map (.int .i64)))
theorem Nums.len {n : Nat} {H : Heap} {sv : Value} {L : List Int} (h : Nums n H sv L) (H' : Heap) : alen Try.prog 74 sv H' = some (.int .i64 L.length) := by
  rcases h with ⟨rfl, rfl⟩ | ⟨b, h0, rfl, h1⟩ <;> rfl
theorem Nums.at {n : Nat} {H : Heap} {sv : Value} {L : List Int} (h : Nums n H sv L) {j : Nat} {t : Int} (ht : L[j]? = some t) :
    ∃ b, n ≤ b ∧ b < H.length ∧ aindexAddr Try.prog 74 sv (.int .i64 (j : Int)) = some (.pointer (some ⟨b, j, none⟩)) ∧ ∀ H', H'[b]? = H[b]? → aload Try.prog 3 (.pointer (some ⟨b, j, none⟩)) H' = some (.int .i64 t) := by
  have hl := lt_of_get ht
  rcases h with ⟨rfl, rfl⟩ | ⟨b, h0, rfl, h1⟩
  · simp at ht
  · have := idx_slice (P := Try.prog) (t := 74) (b := b) (off := 0) (len := L.length) (es := 1) (kd := .i64) (n := (j : Int)) rfl (k := 1) rfl (by omega) (by omega)
    exact ⟨b, h0, lt_at h1, by simpa using this, fun H' e => ald rfl rfl (hblk_of (e.trans h1)) (by simp [ht])⟩
theorem Nums.intR {n : Nat} {H : Heap} {sv : Value} {L : List Int} (h : Nums n H sv L) : RL 1 intR H sv L := by
  rcases h with ⟨rfl, rfl⟩ | ⟨b, h0, rfl, h1⟩
  · exact .inl ⟨rfl, rfl⟩
  · exact RL.own (g := Value.int .i64) (fun _ _ => rfl) h1
/-- What comes behind an instruction. -/
def tgt (ins : List Ins) (at_ : Int) : List Int :=
  if at_ < 0 ∨ (ins.length : Int) ≤ at_ then [] else
  match ins[at_.toNat]? with
  | none => []
  | some x => if x.1 = 32 then [] else if x.1 = 22 then [x.2.1] else if gos x.1 then [IntKind.i64.wrap (at_ + 1), x.2.1] else [IntKind.i64.wrap (at_ + 1)]
theorem ld_ins {H : Heap} {sv : Value} {L : List Ins} (h : RL 3 insR H sv L) {i : Nat} {x : Ins} (hx : L[i]? = some x) :
    ∃ b, aindexAddr Try.prog 35 sv (.int .i64 (i : Int)) = some (.pointer (some ⟨b, i * 3, none⟩)) ∧ ∀ H', Grow H H' → aload Try.prog 39 (.pointer (some ⟨b, i * 3, none⟩)) H' = some (insV x.1 x.2.1 x.2.2) := by
  obtain ⟨b, c, l, h1, h2, h3, rfl⟩ := h.at (P := Try.prog) (t := 35) (e := 39) rfl rfl hx
  exact ⟨b, h1, fun H' g => ald_agg rfl rfl rfl (g.hblk h2) h3⟩
theorem ld_op {H : Heap} {sv : Value} {L : List Ins} (h : RL 3 insR H sv L) {i b : Nat} {x : Ins} (hx : L[i]? = some x) (hi : aindexAddr Try.prog 35 sv (.int .i64 (i : Int)) = some (.pointer (some ⟨b, i * 3, none⟩))) :
    ∀ H', Grow H H' → aload Try.prog 3 (.pointer (some ⟨b, i * 3, none⟩)) H' = some (.int .i64 x.1) := by
  obtain ⟨b', c, l, h1, h2, h3, rfl⟩ := h.at (P := Try.prog) (t := 35) (e := 39) rfl rfl hx
  rw [h1] at hi
  simp only [Option.some.injEq, Value.pointer.injEq, Addr.mk.injEq, and_true] at hi
  subst hi
  refine fun H' g => ald rfl rfl (g.hblk h2) ?_
  unfold slotsOf at h3
  split at h3
  · simp only [Option.some.injEq] at h3
    have := congrArg (·[0]?) h3
    simpa [List.getElem?_take, List.getElem?_drop] using this
  · simp at h3
theorem targets_ax {H : Heap} {c : CodeT} {sv : Value} (hs : RL 3 insR H sv c.ins) (at_ : Int) : AX Try.prog 40 #[codeV c sv, .int .i64 at_] H (fun v H' => Nums H.length H' v (tgt c.ins at_) ∧ Grow H H') := by
  refine AX.body (n := 43) (rs := [.tmp 4]) Try.func40 rfl (by decide) rfl rfl (bC_sound _ _ _ _ ?_)
  (conv => whnf)
  refine Ob2.box rfl fun q H1 hq k1 k2 => ?_
  have hb := hblk_of k1
  have hlen : alen Try.prog 35 sv H1 = some (.int .i64 c.ins.length) := hs.len rfl _
  by_cases h0 : at_ < 0
  · have d1 : decide (at_ < 0) = true := decide_eq_true h0
    refine run ?_
    refine ⟨.inl ⟨rfl, ?_⟩, k2⟩
    unfold tgt; rw [if_pos (.inl h0)]
  have d1 : decide (at_ < 0) = false := decide_eq_false h0
  by_cases h1 : (c.ins.length : Int) ≤ at_
  · have d2 : decide (at_ ≥ (c.ins.length : Int)) = true := decide_eq_true h1
    refine run ?_
    refine ⟨.inl ⟨rfl, ?_⟩, k2⟩
    unfold tgt; rw [if_pos (.inr h1)]
  have d2 : decide (at_ ≥ (c.ins.length : Int)) = false := decide_eq_false h1
  obtain ⟨i, rfl⟩ : ∃ i : Nat, at_ = (i : Int) := ⟨at_.toNat, by omega⟩
  obtain ⟨x, hx⟩ : ∃ x, c.ins[i]? = some x := ⟨_, List.getElem?_eq_getElem (by omega)⟩
  obtain ⟨b, i1, i2⟩ := ld_ins hs hx
  have i3 := i2 _ k2
  have ht : tgt c.ins (i : Int) = if x.1 = 32 then [] else if x.1 = 22 then [x.2.1] else if gos x.1 then [IntKind.i64.wrap ((i : Int) + 1), x.2.1] else [IntKind.i64.wrap ((i : Int) + 1)] := by
    unfold tgt; rw [if_neg (by omega), Int.toNat_natCast, hx]
  rw [ht]
  refine run ?_
  refine Ob2.alloc rfl fun q2 H2 hq2 a1 a2 => ?_
  refine run ?_
  refine Ob.store rfl rfl rfl a1 rfl (by first | exact Nat.le_of_ble_eq_true rfl | simp) fun H3 b1 b2 b3 => ?_
  have g3 : Grow H H3 := k2.trans (a2.but_new b2 (by omega))
  have hb3 := hblk_of b1
  by_cases h32 : x.1 = 32
  · rw [h32] at hb3
    rw [if_pos h32]
    refine run ?_
    exact ⟨.inl ⟨rfl, rfl⟩, g3⟩
  have e32 : (x.1 == 32) = false := by rw [beq_eq_false_iff_ne]; exact h32
  rw [if_neg h32]
  by_cases h22 : x.1 = 22
  · rw [h22] at hb3
    rw [if_pos h22]
    refine run ?_
    refine Ob2.of (a := .slice (some ⟨H3.length, 0, none⟩) 1 1) (b := H3 ++ [.cells (.row 3) [.int .i64 x.2.1]]) rfl ?_
    refine run ?_
    exact ⟨.inr ⟨_, g3.1, rfl, at_push _ _⟩, g3.trans (.push _ _)⟩
  have e22 : (x.1 == 22) = false := by rw [beq_eq_false_iff_ne]; exact h22
  rw [if_neg h22]
  refine run ?_
  refine (goes_ax H3 x.1).mono ?_
  rintro _ X ⟨rfl, e⟩
  subst X
  cases hg : gos x.1 with
  | true =>
    rw [if_pos rfl]
    refine run ?_
    refine Ob2.of (a := .slice (some ⟨H3.length, 0, none⟩) 2 1) (b := H3 ++ [.cells (.row 3) [.int .i64 (IntKind.i64.wrap ((i : Int) + 1)), .int .i64 x.2.1]]) rfl ?_
    refine run ?_
    exact ⟨.inr ⟨_, g3.1, rfl, at_push _ _⟩, g3.trans (.push _ _)⟩
  | false =>
    rw [if_neg (by decide)]
    refine run ?_
    refine Ob2.of (a := .slice (some ⟨H3.length, 0, none⟩) 1 1) (b := H3 ++ [.cells (.row 3) [.int .i64 (IntKind.i64.wrap ((i : Int) + 1))]]) rfl ?_
    refine run ?_
    exact ⟨.inr ⟨_, g3.1, rfl, at_push _ _⟩, g3.trans (.push _ _)⟩
end Go.Proofs.Ytmdjepfpgmignaa
/- Package code: operators' signs, and which arguments an instruction may have. -/
set_option linter.unusedVariables false
set_option linter.unusedSimpArgs false
set_option maxRecDepth 20000
set_option maxHeartbeats 8000000
namespace Go.Proofs.Ytmdjepfpgmignaa
open Go Ax
def signL : List ByteArray := [.empty, ⟨#[43]⟩, ⟨#[45]⟩, ⟨#[42]⟩, ⟨#[47]⟩, ⟨#[37]⟩, ⟨#[60]⟩, ⟨#[60, 61]⟩, ⟨#[62]⟩, ⟨#[62, 61]⟩, ⟨#[61, 61]⟩, ⟨#[33, 61]⟩]
def signS (a : Int) : ByteArray := signL.getD a.toNat .empty
theorem eleven {a : Int} (h1 : 1 ≤ a) (h7 : a < 12) : a = 1 ∨ a = 2 ∨ a = 3 ∨ a = 4 ∨ a = 5 ∨ a = 6 ∨ a = 7 ∨ a = 8 ∨ a = 9 ∨ a = 10 ∨ a = 11 := by omega
theorem sign_no {a : Int} (h : ¬ (1 ≤ a ∧ a < 12)) : signS a = .empty := by
  unfold signS
  by_cases h0 : a < 1
  · rw [show a.toNat = 0 by omega]; rfl
  · rw [List.getD_eq_getElem?_getD, List.getElem?_eq_none (by simp [signL]; omega)]; rfl
theorem sign_ax (H : Heap) (a : Int) : AX Try.prog 53 #[.int .i64 a] H (fun v H' => v = .string (signS a) ∧ H' = H) := by
  refine AX.quiet ?_
  suffices hh : AX Try.prog 53 #[.int .i64 a] H (fun v H' => v = .string (signS a) ∧ Grow H H') from hh.mono fun v _ ⟨e, g⟩ => ⟨e ▸ plain_str _, e, g⟩
  refine AX.body (n := 14) (rs := [.tmp 2]) Try.func53 rfl (by decide) rfl rfl (bC_sound _ _ _ _ ?_)
  refine run ?_
  refine Ob2.alloc rfl fun q H1 hq a1 k1 => ?_
  refine run ?_
  refine Ob.store rfl rfl rfl a1 rfl (by first | exact Nat.le_of_ble_eq_true rfl | simp) fun H2 b1 b2 b3 => ?_
  have g2 : Grow H H2 := k1.but_new b2 (by omega)
  have hb := hblk_of b1
  by_cases h : 1 ≤ a ∧ a < 12
  · rcases eleven h.1 h.2 with rfl | rfl | rfl | rfl | rfl | rfl | rfl | rfl | rfl | rfl | rfl <;> (refine run ?_; exact ⟨rfl, g2⟩)
  · rw [sign_no h]
    (try (conv => whnf)); (repeat' ((fail_if_success (with_reducible refine And.intro ?_ ?_)); (fail_if_success (with_reducible refine Exists.intro ?_ ?_)); (first | (refine step0 ?_) | (apply bIf.of <;> intro hc <;> (conv => whnf)))))
    all_goals first | exact ⟨rfl, g2⟩ | (exfalso; (simp only [ba_ne_t, ba_ne_f, ba_eq_t, ba_eq_f, bne_iff_ne, bne_eq_false_iff_eq, decide_eq_true_eq, decide_eq_false_iff_not, beq_iff_eq, beq_eq_false_iff_ne, ne_eq, Bool.not_eq_true, Bool.not_eq_false, Bool.not_eq_true', Bool.not_eq_false'] at *); omega)
end Go.Proofs.Ytmdjepfpgmignaa
