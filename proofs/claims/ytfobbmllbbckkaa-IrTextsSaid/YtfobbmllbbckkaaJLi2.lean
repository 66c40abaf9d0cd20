/- Package lift: an operation is laid. -/
import Derived.Test.YtfobbmllbbckkaaJIt1
set_option linter.unusedVariables false
set_option linter.unusedSimpArgs false
set_option maxRecDepth 20000
set_option maxHeartbeats 4000000
namespace Go.Proofs.Ytfobbmllbbckkaa
open Go Ax
/-- All blocks stay but bad ones. -/
def Kp (bad : Blk → Prop) (A B : Heap) : Prop := ∀ (q : Nat) (X : Blk), A[q]? = some X → ¬ bad X → B[q]? = some X
def badNo (_ : Blk) : Prop := False
def badRow (e : TypeId) (X : Blk) : Prop := ¬ NotRow e X
def badVar (X : Blk) : Prop := ∃ c, X = .cells .var c
def badMap (X : Blk) : Prop := ∃ o es, X = .map o es
theorem Kp.grow {A B : Heap} (g : Grow A B) : Kp badNo A B := fun q X h _ => g.at h
theorem Kp.row {n : Nat} {e : TypeId} {A B : Heap} (h : FrR n e A B) : Kp (badRow e) A B := fun q X hq hb => h.2 q X hq (.inr (Classical.not_not.1 hb))
theorem Kp.var {l : Nat} {c : List Value} {A B : Heap} (hl : A[l]? = some (.cells .var c)) (h : But l A B) : Kp badVar A B := fun q X hq hb => h.at hq (by rintro rfl; rw [hl] at hq; simp only [Option.some.injEq] at hq; exact hb ⟨c, hq.symm⟩)
theorem Kp.map {l : Nat} {o : Bool} {es : List (Value × Value)} {A B : Heap} (hl : A[l]? = some (.map o es)) (h : But l A B) : Kp badMap A B := fun q X hq hb => h.at hq (by rintro rfl; rw [hl] at hq; simp only [Option.some.injEq] at hq; exact hb ⟨o, es, hq.symm⟩)
theorem notRow_row {e e' : TypeId} {c : List Value} (h : e ≠ e') : NotRow e' (.cells (.row e) c) := fun c' he => by simp only [Blk.cells.injEq, Mode.row.injEq] at he; exact h he.1
theorem ok_no (X : Blk) : ¬ badNo X := fun h => h
theorem ok_row {e e' : TypeId} {c : List Value} (h : e ≠ e') : ¬ badRow e' (.cells (.row e) c) := fun hb => hb (notRow_row h)
theorem ok_var {e : TypeId} {c : List Value} : ¬ badVar (.cells (.row e) c) := fun ⟨c', h⟩ => by simp at h
theorem ok_map {m : Ax.Mode} {c : List Value} : ¬ badMap (.cells m c) := fun ⟨o, es, h⟩ => by simp at h
theorem Kp.own {α : Type} {k : Nat} {e : TypeId} {f : Heap → List Value → α → Prop} {bad : Blk → Prop} {A B : Heap} (h : Kp bad A B) (hb : ∀ c, ¬ bad (.cells (.row e) c)) (hf : ∀ l x, f A l x → f B l x) {sv : Value} {L : List α} (o : OwnR k e f A sv L) : OwnR k e f B sv L :=
  o.keep (fun b c _ hc => h b _ hc (hb c)) fun l x _ hx => hf l x hx
theorem Kp.int {bad : Blk → Prop} {A B : Heap} (h : Kp bad A B) (hb : ∀ c, ¬ bad (.cells (.row 3) c)) (av : Nat) : IntKeep av A B := fun q c hq _ => h q _ hq (hb c)
theorem LR.grow {K : LK} {A B : Heap} {s : LS} {at_ d : Int} {cv ov pv : Value} {mp pb : Nat} (h : LR K A s at_ d cv ov pv mp pb) (g : Grow A B) : LR K B s at_ d cv ov pv mp pb where
  blk := g.at h.blk
  l0 := h.l0
  con := (Kp.grow g).own (fun c => ok_no _) (fun _ _ h => h) h.con
  con0 := h.con0
  ops := (Kp.grow g).own (fun c => ok_no _) (fun _ _ k => k.keep ((Kp.grow g).int (fun c => ok_no _) _)) h.ops
  ops0 := h.ops0
  pla := (Kp.grow g).own (fun c => ok_no _) (fun _ _ h => h) h.pla
  pla0 := h.pla0
  map := g.at h.map
  map0 := h.map0
  nodup := h.nodup
  few := h.few
  top := Nat.lt_of_lt_of_le h.top g.1
abbrev mapN (loc : Int) (n : Nat) : List Int := (List.range n).map fun j : Nat => loc + (j : Int)
theorem mapN_succ (loc : Int) (n : Nat) : mapN loc (n + 1) = mapN loc n ++ [loc + (n : Int)] := by simp [mapN, List.range_succ]
end Go.Proofs.Ytfobbmllbbckkaa
/- Package lift: a constant is laid. -/
set_option linter.unusedVariables false
set_option linter.unusedSimpArgs false
set_option maxRecDepth 20000
set_option maxHeartbeats 4000000
namespace Go.Proofs.Ytfobbmllbbckkaa
open Go Ax
theorem eqKey_V (a b : V) : eqKey Try.prog 51 (valV a) (valV b) = some (isV a b) := by
  have h : eqKey Try.prog 51 (valV a) (valV b) = some (a.1 == b.1 && (a.2.1 == b.2.1 && (a.2.2 == b.2.2 && true))) := by kernel_rfl
  rw [h]
  congr 1
  unfold isV
  rw [Bool.eq_iff_iff]
  simp only [Bool.and_true, Bool.and_eq_true, beq_iff_eq, ba_eq_t, decide_eq_true_eq]
  rw [V_eq]
  constructor
  · rintro ⟨h1, h2, h3⟩; exact ⟨h1.symm, h2.symm, h3.symm⟩
  · rintro ⟨h1, h2, h3⟩; exact ⟨h1.symm, h2.symm, h3.symm⟩
theorem mfind_V {v : V} : ∀ (l : List V) (o i : Nat), mfind Try.prog 51 (valV v) ((l.zipIdx o).map fun x => (valV x.1, Value.int .i64 (x.2 : Int))) i = some (if l.any (isV v) then some (i + l.findIdx (isV v)) else none) := by
  intro l
  induction l with
  | nil => intro o i; rfl
  | cons x l ih =>
    intro o i
    simp only [List.zipIdx_cons, List.map_cons, mfind, eqKey_V, Option.bind_some, List.any_cons, List.findIdx_cons]
    cases h : isV v x with
    | true => simp
    | false => simp [ih, show ∀ n, i + 1 + n = i + (n + 1) from fun n => by omega]; rfl
theorem akey_V {v : V} (l : List V) : akey Try.prog 51 (valV v) (entsV l) = some (if l.any (isV v) then some (idV l v) else none) := by
  simp only [akey, show plainKey Try.prog 51 (valV v) = true from rfl, if_true]
  have := mfind_V (v := v) l 0 0
  simpa [idV] using this
theorem hmapV {H : Heap} {b : Nat} {o : Bool} {es : List (Value × Value)} (h : H[b]? = some (.map o es)) : hmap H b = some es := by simp [hmap, h]
theorem isV_t {v x : V} : isV v x = true ↔ x = v := by unfold isV; exact decide_eq_true_iff
end Go.Proofs.Ytfobbmllbbckkaa
/- Package lift: the registers that an instruction takes, and what it lays. (Printed by mk4.py.) -/
set_option linter.unusedVariables false
set_option linter.unusedSimpArgs false
set_option maxRecDepth 20000
set_option maxHeartbeats 8000000
namespace Go.Proofs.Ytfobbmllbbckkaa
open Go Ax
theorem took_succ (t n : Int) (j : Nat) : (List.range (j + 1)).map (fun k : Nat => t - n + (k : Int)) = (List.range j).map (fun k : Nat => t - n + (k : Int)) ++ [t - n + (j : Int)] := by simp [List.range_succ]
def isPush (op : Int) : Bool := decide (op = 2 ∨ op = 3 ∨ op = 4 ∨ op = 5 ∨ op = 7 ∨ op = 6 ∨ op = 12 ∨ op = 8 ∨ op = 10)
theorem noRegs (pb : Nat) (H : Heap) : IntRow pb H (.slice none 0 0) [] := ⟨.inl ⟨rfl, rfl⟩, fun b hb => by obtain ⟨n, k, hb⟩ := hb; simp at hb⟩
theorem instr_ops {pl cl gl lc il op a : Int} (h : argP pl cl gl lc il op a) (hp : isPush op = false) : op = 1 ∨ op = 9 ∨ op = 11 ∨ op = 13 ∨ op = 15 ∨ op = 14 ∨ op = 27 ∨ op = 16 ∨ op = 17 ∨ op = 18 ∨ op = 19 ∨ op = 20 ∨ op = 21 ∨ op = 22 ∨ op = 23 ∨ op = 24 ∨ op = 25 ∨ op = 26 ∨ op = 28 ∨ op = 29 ∨ op = 30 ∨ op = 32 ∨ op = 31 := by
  have := of_decide_eq_false hp
  unfold argP at h
  omega
end Go.Proofs.Ytfobbmllbbckkaa
/- Package lift: rows of numbers, depths that are one's own, and what is known of the operations. -/
set_option linter.unusedVariables false
set_option linter.unusedSimpArgs false
set_option maxRecDepth 20000
set_option maxHeartbeats 4000000
namespace Go.Proofs.Ytfobbmllbbckkaa
open Go Ax
theorem OwnR.toI {H : Heap} {v : Value} {L : List Int} (h : OwnR 1 3 intR H v L) : (v = .slice none 0 0 ∧ L = []) ∨ ∃ q, v = rowV q L.length ∧ OwnI H q L := by
  rcases h with h | ⟨b, c, h1, h2, h3, h4⟩
  · exact .inl h
  · refine .inr ⟨b, h1, ?_⟩
    unfold OwnI
    rw [h2]
    congr 2
    apply List.ext_getElem?
    intro i
    by_cases hi : i < L.length
    · obtain ⟨x, hx⟩ := get_lt hi
      obtain ⟨l, k1, k2⟩ := h4 i x hx
      have hl : l = [.int .i64 x] := k2
      subst hl
      have := slots_get (j := 0) k1 rfl
      rw [Nat.mul_one, Nat.add_zero] at this
      rw [this]; simp [hx]
    · rw [List.getElem?_eq_none (by omega), List.getElem?_eq_none (by simp; omega)]
theorem OwnR.ofI {H : Heap} {q : Nat} {L : List Int} (h : OwnI H q L) : OwnR 1 3 intR H (rowV q L.length) L := by
  refine .inr ⟨q, _, rfl, h, by simp, fun i x hx => ⟨[.int .i64 x], ?_, rfl⟩⟩
  have hl := lt_of_get hx
  rw [slots_of (by simp; omega)]
  congr 1
  apply List.ext_getElem?
  intro j
  rw [List.getElem?_take, List.getElem?_drop]
  cases j with
  | zero => simp [hx]
  | succ j => simp
theorem blkIs_row {q n b : Nat} : blkIs (rowV q n) b ↔ b = q := by
  constructor
  · rintro ⟨m, k, h⟩
    simp only [rowV, Value.slice.injEq, Option.some.injEq, Addr.mk.injEq, and_true] at h
    omega
  · rintro rfl; exact ⟨_, _, rfl⟩
theorem IntRow.lt {av : Nat} {H : Heap} {v : Value} {L : List Int} (h : IntRow av H v L) {b : Nat} (hb : blkIs v b) : b < H.length := by
  rcases h.1 with ⟨rfl, _⟩ | ⟨q, c, rfl, h2, _⟩
  · obtain ⟨n, k, hb⟩ := hb; simp at hb
  · obtain ⟨n, k, hb⟩ := hb
    simp only [Value.slice.injEq, Option.some.injEq, Addr.mk.injEq, and_true] at hb
    rw [← hb.1]; exact lt_at h2
/-- Another row is the one that changes: a new one. -/
theorem opR.fresh {av av' : Nat} {A B : Heap} {l : List Value} {o : OpT} (h : opR av A l o) (hk : ∀ q c, A[q]? = some (.cells (.row 3) c) → q ≠ av → B[q]? = some (.cells (.row 3) c)) (hav : A.length ≤ av') : opR av' B l o := by
  obtain ⟨rv, mv, h1, h2, h3⟩ := h
  have k2 := h2.keep hk
  have k3 := h3.keep hk
  exact ⟨rv, mv, h1, ⟨k2.1, fun b hb => by have := h2.lt hb; omega⟩, ⟨k3.1, fun b hb => by have := h3.lt hb; omega⟩⟩
theorem DepthsOwn_ax {H : Heap} {p : ProgT} {ps cs : Value} (hp : RL 1 strR H ps p.2.1) (hcs : RL 5 codeR H cs p.2.2) (hL : p.2.1.length < 4294967296) {f : Nat} {c : CodeT} (hc : p.2.2[f]? = some c) (hck : CheckP p) :
    AX Try.prog 25 #[progV p ps cs, .int .i64 (f : Int)] H (fun v H' => (∃ L q, Closed c L ∧ v = rowV q L.length ∧ OwnI H' q L) ∧ Grow H H') := by
  have hfl := lt_of_get hc
  refine AX.body (n := 31) (rs := [.tmp 4]) Try.func25 rfl (by decide) rfl rfl (bC_sound _ _ _ _ ?_)
  (conv => whnf)
  refine Ob2.box rfl fun q1 H1 hq1 a1 g1 => ?_
  have b1 := hblk_of a1
  have l2 : alen Try.prog 23 cs H1 = some (.int .i64 p.2.2.length) := hcs.len rfl _
  have d0 : decide ((f : Int) < 0) = false := decide_eq_false (by omega)
  have d1 : decide ((f : Int) ≥ (p.2.2.length : Int)) = false := decide_eq_false (by omega)
  refine run ?_
  refine (check_ax (strR.grow hp g1) (codeR.grow hcs g1) hL).mono ?_
  rintro v X ⟨hv, e⟩
  subst X
  rcases hv with ⟨rfl, hv⟩ | ⟨_, hv⟩
  rotate_left
  · exact absurd hck hv
  have hr := hck.2.2.2.2.2.2 f c hc
  obtain ⟨q, sv, i1, hs, i2⟩ := ld_code hcs hc
  have i3 := i2 H1 g1
  refine run ?_
  refine (depths_ax (insR.grow hs g1) (aims_right hr)).mono ?_
  rintro v H2 ⟨r, hr2, hv2, g2⟩
  cases r with
  | none => obtain ⟨L, hL2⟩ := hr.2.2; exact absurd hr2 hL2.good
  | some L =>
    obtain ⟨q2, rfl, ho⟩ := hv2
    refine run ?_
    exact ⟨⟨L, q2, hr2, rfl, ho⟩, g1.trans g2⟩
/-! What is known of the operations. -/
theorem one_jump {x : Ins} {t : Int} (h : isJump (oneL x t).kind = true) (ho : x.1 = 1 ∨ x.1 = 9 ∨ x.1 = 11 ∨ x.1 = 13 ∨ x.1 = 15 ∨ x.1 = 14 ∨ x.1 = 27 ∨ x.1 = 16 ∨ x.1 = 17 ∨ x.1 = 18 ∨ x.1 = 19 ∨ x.1 = 20 ∨ x.1 = 21 ∨ x.1 = 22 ∨ x.1 = 23 ∨ x.1 = 24 ∨ x.1 = 25 ∨ x.1 = 26 ∨ x.1 = 28 ∨ x.1 = 29 ∨ x.1 = 30 ∨ x.1 = 32 ∨ x.1 = 6 ∨ x.1 = 8 ∨ x.1 = 10 ∨ x.1 = 12) : (oneL x t).a = x.2.1 ∧ gos x.1 = true := by
  obtain ⟨op, a, b⟩ := x
  rcases ho with h1 | h1 | h1 | h1 | h1 | h1 | h1 | h1 | h1 | h1 | h1 | h1 | h1 | h1 | h1 | h1 | h1 | h1 | h1 | h1 | h1 | h1 | h1 | h1 | h1 | h1 <;> simp only at h1 <;> subst h1 <;> first | exact ⟨rfl, rfl⟩ | (exfalso; revert h; simp [oneL, isJump])
theorem run_jumps {pool : List ByteArray} {p : ProgT} {f : Int} {c : CodeT} {L : List Int} (hr : RightP p f c) : ∀ (n : Nat) (o : OpT), o ∈ (runL pool c L n).ops → isJump o.kind = true → 0 ≤ o.a ∧ o.a < c.ins.length := by
  intro n
  induction n with
  | zero => intro o ho; simp [runL] at ho
  | succ n ih =>
    intro o ho hj
    unfold runL at ho
    split at ho
    · rename_i x d hx hd
      unfold stepL at ho
      split at ho
      · exact ih o ho hj
      · unfold instrL at ho
        split at ho
        · exact ih o ho hj
        · have hi := hr.2.1 n x (lt_of_get hx) hx
          split at ho
          · rename_i v hv
            simp only [putL_, List.mem_append, List.mem_singleton] at ho
            rcases ho with ho | rfl
            · exact ih o ho hj
            · simp [isJump] at hj
          · rename_i h31 hcn
            simp only [putL_, List.mem_append, List.mem_singleton] at ho
            rcases ho with ho | rfl
            · exact ih o ho hj
            · have hops := hi.1
              have hj' : isJump (oneL x (c.2.1 + d)).kind = true := hj
              have hc2 : x.1 ≠ 2 ∧ x.1 ≠ 3 ∧ x.1 ≠ 4 ∧ x.1 ≠ 5 ∧ x.1 ≠ 7 := by
                unfold constL at hcn
                refine ⟨?_, ?_, ?_, ?_, ?_⟩ <;> (intro e; simp [e] at hcn)
              have ha := hops
              unfold argP at ha
              obtain ⟨e1, e2⟩ := one_jump hj' (by omega)
              show 0 ≤ (oneL x (c.2.1 + d)).a ∧ (oneL x (c.2.1 + d)).a < _
              rw [e1]
              exact arg_goes hops e2
    · exact ih o ho hj
theorem run_len {pool : List ByteArray} {c : CodeT} {L : List Int} : ∀ (n : Nat), n ≤ c.ins.length → n ≤ L.length → (runL pool c L n).places.length = n ∧ (runL pool c L n).ops.length ≤ n ∧ (runL pool c L n).consts.length ≤ n := by
  intro n
  induction n with
  | zero => intro _ _; exact ⟨rfl, Nat.le_refl _, Nat.le_refl _⟩
  | succ n ih =>
    intro h1 h2
    obtain ⟨i1, i2, i3⟩ := ih (by omega) (by omega)
    obtain ⟨x, hx⟩ := get_lt (L := c.ins) (m := n) (by omega)
    obtain ⟨d, hd⟩ := get_lt (L := L) (m := n) (by omega)
    unfold runL
    rw [hx, hd]
    simp only
    have key : ∀ (s s' : LS), s'.places = s.places → s'.ops.length ≤ s.ops.length + 1 → s'.consts.length ≤ s.consts.length + 1 → s.places.length = n + 1 → s.ops.length ≤ n → s.consts.length ≤ n → s'.places.length = n + 1 ∧ s'.ops.length ≤ n + 1 ∧ s'.consts.length ≤ n + 1 :=
      fun s s' e1 e2 e3 e4 e5 e6 => ⟨by rw [e1]; exact e4, by omega, by omega⟩
    unfold stepL
    split
    · exact key { runL pool c L n with places := (runL pool c L n).places ++ [-1] } _ rfl (Nat.le_succ _) (Nat.le_succ _) (by show ((runL pool c L n).places ++ [_]).length = _; simp [i1]) i2 i3
    · unfold instrL
      split
      · exact key { runL pool c L n with places := (runL pool c L n).places ++ [((runL pool c L n).ops.length : Int)] } _ rfl (Nat.le_succ _) (Nat.le_succ _) (by show ((runL pool c L n).places ++ [_]).length = _; simp [i1]) i2 i3
      · split
        · refine key { runL pool c L n with places := (runL pool c L n).places ++ [((runL pool c L n).ops.length : Int)] } _ rfl (by simp [putL_]) ?_ (by show ((runL pool c L n).places ++ [_]).length = _; simp [i1]) i2 i3
          show (addV (runL pool c L n).consts _).length ≤ _
          unfold addV
          split
          · exact Nat.le_succ _
          · simp
        · exact key { runL pool c L n with places := (runL pool c L n).places ++ [((runL pool c L n).ops.length : Int)] } _ rfl (by simp [putL_]) (Nat.le_succ _) (by show ((runL pool c L n).places ++ [_]).length = _; simp [i1]) i2 i3
end Go.Proofs.Ytfobbmllbbckkaa
/- Package lift: all instructions are laid, and the jumps are led to where they go. -/
set_option linter.unusedVariables false
set_option linter.unusedSimpArgs false
set_option maxRecDepth 20000
set_option maxHeartbeats 8000000
namespace Go.Proofs.Ytfobbmllbbckkaa
open Go Ax
theorem OwnR.blk {α : Type} {k : Nat} {e : TypeId} {f : Heap → List Value → α → Prop} {H : Heap} {sv : Value} {L : List α} (h : OwnR k e f H sv L) {b : Nat} (hb : blkIs sv b) : ∃ c, H[b]? = some (.cells (.row e) c) := by
  rcases h with ⟨rfl, _⟩ | ⟨q, c, rfl, h2, _⟩
  · obtain ⟨n, k, hb⟩ := hb; simp at hb
  · obtain ⟨n, k, hb⟩ := hb
    simp only [Value.slice.injEq, Option.some.injEq, Addr.mk.injEq, and_true] at hb
    rw [← hb.1]; exact ⟨c, h2⟩
theorem slots_set {c : List Value} {o k j : Nat} {v : Value} {l : List Value} (h : slotsOf c o k = some l) (hj : j < k) : slotsOf (c.set (o + j) v) o k = some (l.set j v) := by
  unfold slotsOf at h
  split at h
  · rename_i hle
    simp only [Option.some.injEq] at h
    subst h
    rw [slots_of (by simpa using hle)]
    congr 1
    apply List.ext_getElem?
    intro i
    rw [List.getElem?_take, List.getElem?_drop, List.getElem?_set, List.getElem?_set, List.getElem?_take, List.getElem?_drop]
    by_cases hi : i < k
    · by_cases hij : j = i
      · subst hij
        rw [if_pos hi, if_pos rfl, if_pos (by omega), if_pos rfl, if_pos (by rw [List.length_take, List.length_drop]; omega)]
      · simp [hi, hij]
    · have : j ≠ i := by omega
      simp [hi, this]
  · simp at h
theorem slots_set_ne {c : List Value} {o k p : Nat} {v : Value} (h : p < o ∨ o + k ≤ p) : slotsOf (c.set p v) o k = slotsOf c o k := by
  unfold slotsOf
  simp only [List.length_set]
  split
  · congr 1
    apply List.ext_getElem?
    intro i
    rw [List.getElem?_take, List.getElem?_take, List.getElem?_drop, List.getElem?_drop]
    by_cases hi : i < k
    · rw [if_pos hi, if_pos hi, List.getElem?_set_ne (by omega)]
    · rw [if_neg hi, if_neg hi]
  · rfl
/-- One cell of an element is written. -/
theorem OwnR.put1 {α : Type} {k : Nat} {e : TypeId} {f : Heap → List Value → α → Prop} {A B : Heap} {b i j : Nat} {c l : List Value} {L : List α} {x x' : α} {v : Value} (hc : c.length = L.length * k) (h4 : ∀ (i : Nat) x, L[i]? = some x → ∃ l, slotsOf c (i * k) k = some l ∧ f A l x)
    (hB : B[b]? = some (.cells (.row e) (putL c (i * k + j) [v]))) (hi : L[i]? = some x) (hl : slotsOf c (i * k) k = some l) (hj : j < k) (hx' : f B (l.set j v) x') (hf : ∀ l x, f A l x → f B l x) : OwnR k e f B (.slice (some ⟨b, 0, none⟩) L.length k) (L.set i x') := by
  have hil := lt_of_get hi
  refine .inr ⟨b, c.set (i * k + j) v, by simp, hB, by simp [hc], fun i' y hy => ?_⟩
  by_cases hii : i = i'
  · subst hii
    rw [List.getElem?_set_self hil] at hy
    simp only [Option.some.injEq] at hy
    subst hy
    exact ⟨_, slots_set hl hj, hx'⟩
  · rw [List.getElem?_set_ne hii] at hy
    obtain ⟨w, k1, k2⟩ := h4 i' y hy
    refine ⟨w, ?_, hf _ _ k2⟩
    rw [slots_set_ne]; exact k1
    rcases Nat.lt_or_gt_of_ne hii with h | h
    · left
      have : (i + 1) * k ≤ i' * k := Nat.mul_le_mul_right _ h
      rw [Nat.succ_mul] at this; omega
    · right
      have : (i' + 1) * k ≤ i * k := Nat.mul_le_mul_right _ h
      rw [Nat.succ_mul] at this; omega
theorem OwnR.conv {α : Type} {k : Nat} {e : TypeId} {f f' : Heap → List Value → α → Prop} {H H' : Heap} {sv : Value} {L : List α} (h : OwnR k e f H sv L) (hb : ∀ b c, blkIs sv b → H[b]? = some (.cells (.row e) c) → H'[b]? = some (.cells (.row e) c)) (hf : ∀ l x, x ∈ L → f H l x → f' H' l x) : OwnR k e f' H' sv L := by
  rcases h with h | ⟨b, c, h1, h2, h3, h4⟩
  · exact .inl h
  · exact .inr ⟨b, c, h1, hb b c ⟨_, _, h1⟩ h2, h3, fun i x hx => let ⟨l, k1, k2⟩ := h4 i x hx; ⟨l, k1, hf l x (List.mem_of_getElem? hx) k2⟩⟩
theorem LR.setAt {K : LK} {A B : Heap} {s : LS} {at_ d at2 d2 : Int} {cv ov pv : Value} {mp pb : Nat} (h : LR K A s at_ d cv ov pv mp pb) (k : But K.l A B) (hb : B[K.l]? = some (.cells .var (cellsL K cv ov pv mp at2 d2))) : LR K B s at2 d2 cv ov pv mp pb := by
  have kp := Kp.var h.blk k
  have nel : mp ≠ K.l := by rintro e; have := h.map; rw [e, h.blk] at this; simp at this
  exact ⟨hb, h.l0, kp.own (fun _ => ok_var) (fun _ _ h => h) h.con, h.con0, kp.own (fun _ => ok_var) (fun _ _ h => h.keep (kp.int (fun _ => ok_var) _)) h.ops, h.ops0, kp.own (fun _ => ok_var) (fun _ _ h => h) h.pla, h.pla0, k.at h.map nel, h.map0, h.nodup, h.few, by have := h.top; have := k.1; omega⟩
theorem set_last {α : Type} (l : List α) (a b : α) : (l ++ [a]).set l.length b = l ++ [b] := by simp
def LI (K : LK) (H0 : Heap) (L : List Int) (qd n : Nat) (H : Heap) : Prop :=
  ∃ cv ov pv mp pb at_ d, LR K H (runL K.p.2.1 K.c L n) at_ d cv ov pv mp pb ∧ Grow H0 H ∧ OwnI H qd L ∧ qd ≠ pb ∧ pb < H.length
theorem FrL.own {K : LK} {A B : Heap} (h : FrL K A B) {q : Nat} {L : List Int} (ho : OwnI A q L) (hl : q ≠ K.l) : OwnI B q L :=
  h.2 q _ ho (.inr ⟨hl, fun c e => by simp at e, fun c e => by simp at e, fun es e => by simp at e⟩)
end Go.Proofs.Ytfobbmllbbckkaa
/- Package lift: Lift and Places, whole. -/
set_option linter.unusedVariables false
set_option linter.unusedSimpArgs false
set_option maxRecDepth 20000
set_option maxHeartbeats 8000000
namespace Go.Proofs.Ytfobbmllbbckkaa
open Go Ax
def Fit (p : ProgT) (f : Int) : Prop := 0 ≤ f ∧ f < p.2.2.length ∧ CheckP p
/-- A body of operations. -/
def BodyR (H : Heap) (v : Value) (F R : Int) (s : LS) : Prop :=
  ∃ cv ov pb, v = .agg #[.int .i64 F, .int .i64 R, cv, ov, .slice none 0 0] ∧ RL 3 valR H cv s.consts ∧ RL 9 (opR pb) H ov s.ops
/-- What comes of a code, or the error. -/
def LiftS (p : ProgT) (f F R : Int) (s : LS) (e : Int) : Prop :=
  (∃ c L, Fit p f ∧ p.2.2[f.toNat]? = some c ∧ Closed c L ∧ F = f ∧ R = c.2.1 + c.2.2.2.1 ∧ s = bodyL p.2.1 c L ∧ e = 0) ∨ (¬ Fit p f ∧ F = 0 ∧ R = 0 ∧ s = ⟨[], [], []⟩ ∧ e = 16)
theorem LiftS.uniq {p : ProgT} {f F R F' R' : Int} {s s' : LS} {e e' : Int} (h : LiftS p f F R s e) (k : LiftS p f F' R' s' e') : F = F' ∧ R = R' ∧ s = s' ∧ e = e' := by
  rcases h with ⟨c, L, h1, h2, h3, rfl, rfl, rfl, rfl⟩ | ⟨h1, rfl, rfl, rfl, rfl⟩
  · rcases k with ⟨c', L', k1, k2, k3, rfl, rfl, rfl, rfl⟩ | ⟨k1, _⟩
    · rw [h2] at k2
      simp only [Option.some.injEq] at k2
      subst k2
      rw [h3.uniq k3]
      exact ⟨rfl, rfl, rfl, rfl⟩
    · exact absurd h1 k1
  · rcases k with ⟨c', L', k1, _⟩ | ⟨k1, rfl, rfl, rfl, rfl⟩
    · exact absurd k1 h1
    · exact ⟨rfl, rfl, rfl, rfl⟩
end Go.Proofs.Ytfobbmllbbckkaa
/- Package lift: Places; the statements' own small functions. -/
set_option linter.unusedVariables false
set_option linter.unusedSimpArgs false
set_option maxRecDepth 20000
set_option maxHeartbeats 8000000
namespace Go.Proofs.Ytfobbmllbbckkaa
open Go Ax
theorem numbersR_ax {H : Heap} {u v : Value} {L M : List Int} (hu : RL 1 intR H u L) (hv : RL 1 intR H v M) (hL : L.length < 4294967296) :
    AX Try.prog 55 #[u, v] H (fun r H' => r = .bool (decide (L = M)) ∧ H' = H) := by
  refine AX.body (n := 26) (rs := [.tmp 4]) Try.func55 rfl (by decide) rfl rfl (bC_sound _ _ _ _ ?_)
  have l1 : alen Try.prog 38 u H = some (.int .i64 L.length) := hu.len rfl _
  have l2 : alen Try.prog 38 v H = some (.int .i64 M.length) := hv.len rfl _
  (try (conv => whnf)); (repeat' ((fail_if_success (with_reducible refine And.intro ?_ ?_)); (fail_if_success (with_reducible refine Exists.intro ?_ ?_)); (first | (refine step0 ?_) | (apply bIf.of <;> intro hc <;> (conv => whnf)))))
  · refine ⟨congrArg Value.bool (decide_eq_false fun h => ?_).symm, rfl⟩
    subst h
    simp at hc
  have hlen : L.length = M.length := by (simp only [ba_ne_t, ba_ne_f, ba_eq_t, ba_eq_f, bne_iff_ne, bne_eq_false_iff_eq, decide_eq_true_eq, decide_eq_false_iff_not, beq_iff_eq, beq_eq_false_iff_ne, ne_eq, Bool.not_eq_true, Bool.not_eq_false, Bool.not_eq_true', Bool.not_eq_false'] at *); omega
  clear hc
  refine SW.loop (α := Nat) (fun m => [(0, u), (1, v), (5, .int .i64 (m : Int))]) (fun m H' => m ≤ L.length ∧ L.take m = M.take m ∧ H' = H) (fun m => L.length - m) ⟨0, ⟨rfl, rfl, rfl, trivial⟩, by omega, rfl, rfl⟩ ?_
  rintro m X ⟨hm, ht, e⟩
  subst X
  refine bC_sound _ _ _ _ ?_
  by_cases hml : m < L.length
  · have d1 : decide ((m : Int) < (L.length : Int)) = true := decide_eq_true (by omega)
    obtain ⟨x, hx⟩ := get_lt hml
    obtain ⟨y, hy⟩ := get_lt (L := M) (m := m) (by omega)
    obtain ⟨p, i1, i2⟩ := ld_int hu hx
    obtain ⟨q, j1, j2⟩ := ld_int hv hy
    have i3 := i2 H (.refl _)
    have j3 := j2 H (.refl _)
    refine run ?_
    apply SW.drawG [(0, [], [18, 21, 22, 23, 24], false), (1, [], [17, 21, 22, 23, 24], false), (2, [(17, 0), (18, 1)], [17, 18, 21, 22, 23, 24], false), (3, [(17, 0), (18, 1), (19, 2)], [17, 18, 19, 21, 22, 23, 24], false), (4, [], [17, 18, 19, 20, 22], false), (5, [], [17, 18, 19, 20, 21], false), (6, [(21, 4), (22, 5)], [17, 18, 19, 20, 21, 22], false), (7, [(21, 4), (22, 5), (23, 6)], [17, 18, 19, 20, 21, 22, 23], false), (8, [(17, 0), (18, 1), (19, 2), (20, 3), (21, 4), (22, 5), (23, 6), (24, 7)], [17, 18, 19, 20, 21, 22, 23, 24], false)]
      [(17, 0), (18, 1), (19, 2), (20, 3), (21, 4), (22, 5), (23, 6), (24, 7), (25, 8)]
      [(0, _), (1, _), (5, _)] rfl (by kernel_rfl)
    case hF => exact ⟨rfl, rfl, rfl, trivial⟩
    (try (conv => whnf)); (repeat' ((fail_if_success (with_reducible refine And.intro ?_ ?_)); (fail_if_success (with_reducible refine Exists.intro ?_ ?_)); (first | (refine step0 ?_) | (apply bIf.of <;> intro hc <;> (conv => whnf)))))
    · have hne : x ≠ y := by simpa using hc
      refine ⟨congrArg Value.bool (decide_eq_false fun h => hne ?_).symm, rfl⟩
      subst h
      rw [hx] at hy
      simpa using hy
    · have hxy : x = y := by simpa using hc
      subst hxy
      exact ⟨m + 1, ⟨rfl, rfl, congrArg (fun z => some (Value.int .i64 z)) (w_succ (by omega)), trivial⟩, ⟨hml, take_next ht hx hy, rfl⟩, by show L.length - (m + 1) < L.length - m; omega⟩
  · have d1 : decide ((m : Int) < (L.length : Int)) = false := decide_eq_false (by omega)
    have hLM : L = M := by rwa [List.take_of_length_le (by omega), List.take_of_length_le (by omega)] at ht
    rw [decide_eq_true hLM]
    refine run ?_
    exact ⟨rfl, rfl⟩
def c3 : CodeT := (0, 0, 0, 1, [(4, 4, 0), (32, 0, 0)])
def p3 : ProgT := (0, [], [c3])
theorem c3_key : ∀ (i : Nat) (x : Ins), c3.ins[i]? = some x → i = 0 ∧ x = (4, 4, 0) ∨ i = 1 ∧ x = (32, 0, 0) := by
  intro i x hx
  match i, hx with
  | 0, hx => simp [c3, CodeT.ins] at hx; exact .inl ⟨rfl, hx.symm⟩
  | 1, hx => simp [c3, CodeT.ins] at hx; exact .inr ⟨rfl, hx.symm⟩
  | i + 2, hx => simp [c3, CodeT.ins] at hx
theorem c3_closed : Closed c3 [0, 1] := by
  refine ⟨⟨rfl, rfl, fun i d hd => ?_⟩, fun i d x hd h0 hx => ?_⟩
  · match i, hd with
    | 0, hd => simp at hd; subst hd; exact .inr ⟨by decide, .start⟩
    | 1, hd =>
      simp at hd; subst hd
      have := Reach.step (c := c3) (i := 0) (d := 0) (x := (4, 4, 0)) (k := 0) (t := 1) .start rfl (by decide) (by decide) (by decide) (by decide) (by decide)
      exact .inr ⟨by decide, this⟩
    | i + 2, hd => simp at hd
  · rcases c3_key i x hx with ⟨rfl, rfl⟩ | ⟨rfl, rfl⟩
    · simp at hd
      subst hd
      refine ⟨by decide, by decide, fun k t ht => ?_⟩
      match k, ht with
      | 0, ht =>
        have : t = 1 := by have h : (tgt c3.ins ((0 : Nat) : Int))[0]? = some 1 := by decide
                           rw [h] at ht; simpa using ht.symm
        subst this
        decide
      | k + 1, ht =>
        have h : (tgt c3.ins ((0 : Nat) : Int)).length = 1 := by decide
        rw [List.getElem?_eq_none (by omega)] at ht
        simp at ht
    · simp at hd
      subst hd
      refine ⟨by decide, by decide, fun k t ht => ?_⟩
      have h : (tgt c3.ins ((1 : Nat) : Int)).length = 0 := by decide
      rw [List.getElem?_eq_none (by omega)] at ht
      simp at ht
theorem p3_ok : CheckP p3 := by
  refine ⟨by decide, by decide, by decide, by decide, by decide, fun s hs => by simp [p3] at hs, fun f c hc => ?_⟩
  have : f = 0 ∧ c = c3 := by
    cases f with
    | zero => simp [p3] at hc; exact ⟨rfl, hc.symm⟩
    | succ f => simp [p3] at hc
  obtain ⟨rfl, rfl⟩ := this
  refine ⟨by unfold Lim; simp [c3, CodeT.ins], fun i x hi hx => ?_, [0, 1], c3_closed⟩
  rcases c3_key i x hx with ⟨rfl, rfl⟩ | ⟨rfl, rfl⟩ <;> decide
theorem body3 : bodyL [] c3 [0, 1] = ⟨[(2, 4, .empty)], [⟨2, 0, 0, 0, 0, [], 0, []⟩, ⟨24, 0, 0, 0, 0, [], 1, [0]⟩], [0, 1]⟩ := by rfl
theorem slots_one {c l : List Value} {k : Nat} (h : slotsOf c 0 k = some l) : ∃ r, c = l ++ r := by
  unfold slotsOf at h
  split at h
  · simp only [Option.some.injEq] at h
    exact ⟨c.drop k, by rw [← h]; simp⟩
  · simp at h
theorem slots_two {c l l' : List Value} {k : Nat} (h : slotsOf c 0 k = some l) (h' : slotsOf c (1 * k) k = some l') : ∃ r, c = l ++ (l' ++ r) := by
  unfold slotsOf at h h'
  split at h
  · split at h'
    · simp only [Option.some.injEq] at h h'
      refine ⟨(c.drop k).drop k, ?_⟩
      rw [← h, ← h']
      rw [List.drop_zero, Nat.one_mul, List.take_append_drop, List.take_append_drop]
    · simp at h'
  · simp at h
end Go.Proofs.Ytfobbmllbbckkaa
/- The reference of lift: depths in a row of their own, values compared and counted, what an instruction lays. -/
set_option linter.unusedVariables false
set_option linter.unusedSimpArgs false
set_option maxRecDepth 20000
set_option maxHeartbeats 8000000
namespace Go.Proofs.Ytfobbmllbbckkaa
open Go Ax
theorem rDepthsOwn_ax {H : Heap} {p : ProgT} {ps cs : Value} (hp : RL 1 strR H ps p.2.1) (hcs : RL 5 codeR H cs p.2.2) (hL : p.2.1.length < 4294967296) {f : Nat} {c : CodeT} (hc : p.2.2[f]? = some c) (hck : CheckP p) :
    AX Try.prog 30 #[progV p ps cs, .int .i64 (f : Int)] H (fun v H' => (∃ L q, Closed c L ∧ v = rowV q L.length ∧ OwnI H' q L) ∧ Grow H H') := by
  have hfl := lt_of_get hc
  refine AX.body (n := 31) (rs := [.tmp 4]) Try.func30 rfl (by decide) rfl rfl (bC_sound _ _ _ _ ?_)
  (conv => whnf)
  refine Ob2.box rfl fun q1 H1 hq1 a1 g1 => ?_
  have b1 := hblk_of a1
  have l2 : alen Try.prog 23 cs H1 = some (.int .i64 p.2.2.length) := hcs.len rfl _
  have d0 : decide ((f : Int) < 0) = false := decide_eq_false (by omega)
  have d1 : decide ((f : Int) ≥ (p.2.2.length : Int)) = false := decide_eq_false (by omega)
  refine run ?_
  refine (rcheck_ax (strR.grow hp g1) (codeR.grow hcs g1) hL).mono ?_
  rintro v X ⟨hv, e⟩
  subst X
  rcases hv with ⟨rfl, hv⟩ | ⟨_, hv⟩
  rotate_left
  · exact absurd hck hv
  have hr := hck.2.2.2.2.2.2 f c hc
  obtain ⟨q, sv, i1, hs, i2⟩ := ld_code hcs hc
  have i3 := i2 H1 g1
  refine run ?_
  refine (rdepths_ax (insR.grow hs g1) (aims_right hr)).mono ?_
  rintro v H2 ⟨r, hr2, hv2, g2⟩
  cases r with
  | none => obtain ⟨L, hL2⟩ := hr.2.2; exact absurd hr2 hL2.good
  | some L =>
    obtain ⟨q2, rfl, ho⟩ := hv2
    refine run ?_
    exact ⟨⟨L, q2, hr2, rfl, ho⟩, g1.trans g2⟩
theorem isV_f {v x : V} : isV v x = false ↔ x ≠ v := by unfold isV; exact decide_eq_false_iff_not
theorem SameV_ax (H : Heap) (a b : V) : AX Try.prog 79 #[valV a, valV b] H (fun r H' => r = .bool (isV b a) ∧ H' = H) := by
  refine AX.quiet ?_
  suffices hh : AX Try.prog 79 #[valV a, valV b] H (fun v H' => v = .bool (isV b a) ∧ Grow H H') from hh.mono fun v _ ⟨e, g⟩ => ⟨e ▸ plain_bool _, e, g⟩
  obtain ⟨a1, a2, a3⟩ := a
  obtain ⟨b1, b2, b3⟩ := b
  refine AX.body (n := 24) (rs := [.tmp 4]) Try.func79 rfl (by decide) rfl rfl (bC_sound _ _ _ _ ?_)
  (conv => whnf)
  refine Ob2.box rfl fun q1 H1 hq1 n1 g1 => ?_
  (conv => whnf)
  refine Ob2.box rfl fun q2 H2 hq2 n2 g2 => ?_
  have k1 := hblk_of (g2.at n1)
  have k2 := hblk_of n2
  have g := g1.trans g2
  by_cases h1 : a1 = b1
  · have e1 : (a1 == b1) = true := beq_iff_eq.2 h1
    by_cases h2 : a2 = b2
    · have e2 : (a2 == b2) = true := beq_iff_eq.2 h2
      by_cases h3 : a3 = b3
      · have e3 : (a3 == b3) = true := ba_eq_t.2 h3
        refine run ?_
        refine ⟨congrArg Value.bool ?_, g⟩
        subst h1 h2 h3
        exact (ba_eq_t.2 rfl).trans (isV_t.2 rfl).symm
      · have e3 : (a3 == b3) = false := ba_eq_f.2 h3
        refine run ?_
        refine ⟨congrArg Value.bool (Eq.symm ?_), g⟩
        exact (isV_f.2 fun h => h3 (congrArg (fun z : V => z.2.2) h)).trans e3.symm
    · have e2 : (a2 == b2) = false := beq_eq_false_iff_ne.2 h2
      refine run ?_
      refine ⟨congrArg Value.bool (Eq.symm ?_), g⟩
      exact isV_f.2 fun h => h2 (congrArg (fun z : V => z.2.1) h)
  · have e1 : (a1 == b1) = false := beq_eq_false_iff_ne.2 h1
    refine run ?_
    refine ⟨congrArg Value.bool (Eq.symm ?_), g⟩
    exact isV_f.2 fun h => h1 (congrArg (fun z : V => z.1) h)
theorem ld_val {H : Heap} {sv : Value} {L : List V} (h : RL 3 valR H sv L) {i : Nat} {x : V} (hx : L[i]? = some x) :
    ∃ q, aindexAddr Try.prog 26 sv (.int .i64 (i : Int)) = some q ∧ ∀ H', Grow H H' → aload Try.prog 51 q H' = some (valV x) := by
  obtain ⟨q, l, h1, h2, h3⟩ := h.ldA (P := Try.prog) (t := 26) (e := 51) rfl rfl rfl rfl hx
  refine ⟨q, h1, fun H' g => ?_⟩
  rw [h3 H' g, h2]
theorem valR_grow {H H' : Heap} {sv : Value} {L : List V} (h : RL 3 valR H sv L) (g : Grow H H') : RL 3 valR H' sv L := RL.grow (H := H) (H' := H') (fun _ _ h => h) h g
theorem SameList_ax {H : Heap} {u v : Value} {L M : List V} (hu : RL 3 valR H u L) (hv : RL 3 valR H v M) (hL : L.length < 4294967296) :
    AX Try.prog 54 #[u, v] H (fun r H' => (∃ b, r = .bool b ∧ (b = true ↔ L = M)) ∧ H' = H) := by
  refine AX.quiet ?_
  suffices hh : AX Try.prog 54 #[u, v] H (fun r H' => (∃ b, r = .bool b ∧ (b = true ↔ L = M)) ∧ Grow H H') from hh.mono fun v _ ⟨⟨b, e, k⟩, g⟩ => ⟨e ▸ plain_bool _, ⟨b, e, k⟩, g⟩
  refine AX.body (n := 27) (rs := [.tmp 4]) Try.func54 rfl (by decide) rfl rfl (bC_sound _ _ _ _ ?_)
  have l1 : alen Try.prog 26 u H = some (.int .i64 L.length) := hu.len rfl _
  have l2 : alen Try.prog 26 v H = some (.int .i64 M.length) := hv.len rfl _
  by_cases hlen : L.length = M.length
  rotate_left
  · have e1 : ((L.length : Int) != (M.length : Int)) = true := by rw [bne_iff_ne]; omega
    refine run ?_
    exact ⟨⟨false, rfl, fun h => by simp at h, fun h => absurd (congrArg _ h) hlen⟩, .refl _⟩
  have e1 : ((L.length : Int) != (M.length : Int)) = false := by rw [hlen, bne_self_eq_false]
  refine run ?_
  refine SW.loop (α := Nat) (fun m => [(0, u), (1, v), (5, .int .i64 (m : Int))]) (fun m H' => m ≤ L.length ∧ L.take m = M.take m ∧ Grow H H') (fun m => L.length - m) ⟨0, ⟨rfl, rfl, rfl, trivial⟩, by omega, rfl, .refl _⟩ ?_
  rintro m H2 ⟨hm, ht, g2⟩
  refine bC_sound _ _ _ _ ?_
  have l3 : alen Try.prog 26 u H2 = some (.int .i64 L.length) := hu.len rfl _
  by_cases hml : m < L.length
  · have d1 : decide ((m : Int) < (L.length : Int)) = true := decide_eq_true (by omega)
    obtain ⟨x, hx⟩ := get_lt hml
    obtain ⟨y, hy⟩ := get_lt (L := M) (m := m) (by omega)
    obtain ⟨p, i1, i2⟩ := ld_val hu hx
    obtain ⟨q, j1, j2⟩ := ld_val hv hy
    have i3 := i2 H2 g2
    have j3 := j2 H2 g2
    refine run ?_
    apply SW.drawG [(0, [], [18, 21, 22, 23, 24], false), (1, [], [17, 21, 22, 23, 24], false), (2, [(17, 0), (18, 1)], [17, 18, 21, 22, 23, 24], false), (3, [(17, 0), (18, 1), (19, 2)], [17, 18, 19, 21, 22, 23, 24], false), (4, [], [17, 18, 19, 20, 22], false), (5, [], [17, 18, 19, 20, 21], false), (6, [(21, 4), (22, 5)], [17, 18, 19, 20, 21, 22], false), (7, [(21, 4), (22, 5), (23, 6)], [17, 18, 19, 20, 21, 22, 23], false), (8, [(17, 0), (18, 1), (19, 2), (20, 3), (21, 4), (22, 5), (23, 6), (24, 7)], [17, 18, 19, 20, 21, 22, 23, 24], true), (9, [(17, 0), (18, 1), (19, 2), (20, 3), (21, 4), (22, 5), (23, 6), (24, 7), (25, 8)], [17, 18, 19, 20, 21, 22, 23, 24, 25], false)]
      [(17, 0), (18, 1), (19, 2), (20, 3), (21, 4), (22, 5), (23, 6), (24, 7), (25, 8), (26, 9)]
      [(0, _), (1, _), (5, _)] rfl (by kernel_rfl)
    case hF => exact ⟨rfl, rfl, rfl, trivial⟩
    refine run ?_
    refine (SameV_ax H2 x y).mono ?_
    rintro _ X ⟨rfl, e⟩
    subst X
    cases hxy : isV y x with
    | true =>
      have := isV_t.1 hxy
      subst this
      refine run ?_
      exact ⟨m + 1, ⟨rfl, rfl, congrArg (fun z => some (Value.int .i64 z)) (w_succ (by omega)), trivial⟩, ⟨hml, take_next ht hx hy, g2⟩, by show L.length - (m + 1) < L.length - m; omega⟩
    | false =>
      refine run ?_
      refine ⟨⟨false, rfl, fun h => by simp at h, fun h => ?_⟩, g2⟩
      subst h
      rw [hx] at hy
      simp only [Option.some.injEq] at hy
      rw [hy, isV_t.2 rfl] at hxy
      simp at hxy
  · have d1 : decide ((m : Int) < (L.length : Int)) = false := decide_eq_false (by omega)
    have hLM : L = M := by rwa [List.take_of_length_le (by omega), List.take_of_length_le (by omega)] at ht
    refine run ?_
    exact ⟨⟨true, rfl, fun _ => hLM, fun _ => rfl⟩, g2⟩
theorem any_take {v : V} {l : List V} {m : Nat} {x : V} (h : (l.take m).any (isV v) = false) (hx : l[m]? = some x) (hv : isV v x = false) : (l.take (m + 1)).any (isV v) = false := by
  rw [List.take_add_one, hx]
  simp [h, hv]
theorem idV_at {v : V} : ∀ {l : List V} {m : Nat} {x : V}, (l.take m).any (isV v) = false → l[m]? = some x → isV v x = true → idV l v = m ∧ addV l v = l := by
  intro l m x h hx hv
  refine ⟨?_, ?_⟩
  · unfold idV
    have hl := lt_of_get hx
    rw [List.findIdx_eq hl]
    refine ⟨by rw [List.getElem?_eq_getElem hl] at hx; simp only [Option.some.injEq] at hx; rw [hx]; exact hv, fun j hj => ?_⟩
    cases hc : isV v (l[j]'(by omega)) with
    | false => rfl
    | true =>
      have : (l.take m).any (isV v) = true := List.any_eq_true.2 ⟨_, List.mem_take_iff_getElem.2 ⟨j, by omega, rfl⟩, hc⟩
      rw [this] at h
      simp at h
  · unfold addV
    rw [if_pos (List.any_eq_true.2 ⟨x, List.mem_of_getElem? hx, hv⟩)]
theorem idV_none {v : V} {l : List V} (hv : l.any (isV v) = false) : idV l v = l.length ∧ addV l v = l ++ [v] := by
  refine ⟨List.findIdx_eq_length_of_false fun x hx => ?_, by unfold addV; rw [if_neg (by simp [hv])]⟩
  cases hx2 : isV v x with
  | false => rfl
  | true => have := List.any_eq_true.2 ⟨x, hx, hx2⟩; rw [hv] at this; simp at this
end Go.Proofs.Ytfobbmllbbckkaa
