/- A tree's text, plainly. -/
import Derived.Test.YtmglmjbjgfbdjaaProg
import Derived.KernelRfl
import Derived.Shelf.Strings.OnBuilder
import Derived.Test.YtmglmjbjgfbdjaaJLx3
set_option linter.unusedVariables false
set_option linter.unusedSimpArgs false
set_option maxRecDepth 20000
set_option maxHeartbeats 8000000
namespace Go.Proofs.Ytmglmjbjgfbdjaa
open Go Ax
abbrev Tx3 := List UInt8 × List UInt8 × List UInt8
def Tr.rank (x : Tr) : Int := rankP x.kind x.op
/-- The text of a part, in brackets if its rank is too low. -/
def atS (least : Int) (x : Tr) (t : List UInt8) : List UInt8 := if least ≤ x.rank then t else [40] ++ t ++ [41]
/-- Texts with a sign between. -/
def joinS (sep : List UInt8) : List (List UInt8) → List UInt8
  | [] => []
  | [t] => t
  | t :: u :: ts => t ++ sep ++ joinS sep (u :: ts)
abbrev commaS (ts : List (List UInt8)) : List UInt8 := joinS [44, 32] ts
theorem joinS_snoc (sep : List UInt8) : ∀ (L : List (List UInt8)) (t : List UInt8), joinS sep (L ++ [t]) = joinS sep L ++ (if L = [] then [] else sep) ++ t
  | [], t => by simp [joinS]
  | [u], t => by simp [joinS]
  | u :: v :: L, t => by
    have := joinS_snoc sep (v :: L) t
    simp only [List.cons_append, joinS, List.append_assoc] at this ⊢
    rw [this]
    simp
theorem joinS_take (sep : List UInt8) {L : List (List UInt8)} {i : Nat} {t : List UInt8} (h : L[i]? = some t) : joinS sep (L.take (i + 1)) = joinS sep (L.take i) ++ (if i = 0 then [] else sep) ++ t := by
  obtain ⟨hi, rfl⟩ := List.getElem?_eq_some_iff.1 h
  rw [List.take_succ_eq_append_getElem hi, joinS_snoc]
  have : (L.take i = []) ↔ i = 0 := by
    rw [List.take_eq_nil_iff]
    constructor
    · rintro (h | h)
      · exact h
      · subst h; simp at hi
    · exact .inl
  simp only [this]
theorem joinS_le (sep : List UInt8) (L : List (List UInt8)) (i : Nat) : (joinS sep (L.take i)).length ≤ (joinS sep L).length := by
  have key : ∀ d, (joinS sep (L.take (L.length - d))).length ≤ (joinS sep L).length := by
    intro d
    induction d with
    | zero => simp
    | succ d ih =>
      by_cases h : d < L.length
      · have hj : L[L.length - (d + 1)]? = some (L[L.length - (d + 1)]'(by omega)) := List.getElem?_eq_getElem _
        have := joinS_take sep hj
        rw [show L.length - (d + 1) + 1 = L.length - d from by omega] at this
        rw [this] at ih
        simp only [List.length_append] at ih
        omega
      · rw [show L.length - (d + 1) = L.length - d from by omega]; exact ih
  by_cases h : i ≤ L.length
  · have := key (L.length - i)
    rwa [show L.length - (L.length - i) = i from by omega] at this
  · rw [List.take_of_length_le (by omega)]; exact Nat.le_refl _
def fieldS : List ByteArray → List (List UInt8) → List (List UInt8)
  | n :: ns, t :: ts => (n.data.toList ++ [58, 32] ++ t) :: fieldS ns ts
  | _, _ => []
def spaceS : List (List UInt8) → List UInt8
  | [] => []
  | t :: ts => [32] ++ t ++ spaceS ts
def braceS (ts : List (List UInt8)) : List UInt8 := if ts = [] then [123, 125] else [123] ++ spaceS ts ++ [32, 125]
def noTr : Tr := .mk 0 0 0 ⟨#[]⟩ [] [] 0
def kidT (ks : List Tr) (i : Nat) : Tr := ks.getD i noTr
def exT (ts : List Tx3) (i : Nat) : List UInt8 := (ts.getD i ([], [], [])).1
def blT (ts : List Tx3) (i : Nat) : List UInt8 := (ts.getD i ([], [], [])).2.2
/-- An expression's text, of its parts' texts. -/
def exprF (k o n : Int) (s : ByteArray) (ns : List ByteArray) (ks : List Tr) (ts : List Tx3) : List UInt8 :=
  let r := rankP k o
  let a := fun i least => atS least (kidT ks i) (exT ts i)
  if k = 1 then [110, 117, 108, 108] else if k = 6 then [116, 104, 105, 115] else
  if k = 2 then (if n = 1 then [116, 114, 117, 101] else [102, 97, 108, 115, 101]) else
  if k = 3 then decL n.toNat else if k = 4 then quoteS s.data.toList else if k = 5 then s.data.toList else
  if k = 7 then [123] ++ commaS (fieldS ns (ts.map (·.1))) ++ [125] else
  if k = 8 then [102, 110, 40] ++ commaS (ns.map (·.data.toList)) ++ [41, 32] ++ braceS (ts.map (·.2.1)) else
  if k = 9 then (if o = 1 then [45] else [33]) ++ a 0 r else
  if k = 10 ∨ k = 11 ∨ k = 12 then a 0 r ++ [32] ++ (if k = 10 then (signT o).data.toList else if k = 11 then [38, 38] else [124, 124]) ++ [32] ++ a 1 (r + 1) else
  if k = 13 then a 0 8 ++ [46] ++ s.data.toList else if k = 14 then a 0 8 ++ [91] ++ exT ts 1 ++ [93] else
  if k = 15 then a 0 (if (kidT ks 0).kind = 13 then 9 else 8) ++ [40] ++ commaS ((ts.drop 1).map (·.1)) ++ [41] else
  if k = 16 then a 0 8 ++ [46] ++ s.data.toList ++ [40] ++ commaS ((ts.drop 1).map (·.1)) ++ [41] else
  if k = 17 then (builtS o).data.toList ++ [40] ++ commaS (ts.map (·.1)) ++ [41] else []
/-- A statement's text. -/
def stmtF (k : Int) (s : ByteArray) (ks : List Tr) (ts : List Tx3) : List UInt8 :=
  let a := atS 8 (kidT ks 0) (exT ts 0)
  if k = 28 then [105, 102, 32, 40] ++ exT ts 0 ++ [41, 32] ++ blT ts 1 ++ (if (kidT ks 2).kids = [] then [] else [32, 101, 108, 115, 101, 32] ++ blT ts 2) else
  if k = 30 then [119, 104, 105, 108, 101, 32, 40] ++ exT ts 0 ++ [41, 32] ++ blT ts 1 else
  if k = 21 then [108, 101, 116, 32] ++ s.data.toList ++ [32, 61, 32] ++ exT ts 0 ++ [59] else
  if k = 22 then s.data.toList ++ [32, 61, 32] ++ exT ts 0 ++ [59] else
  if k = 23 then a ++ [46] ++ s.data.toList ++ [32, 61, 32] ++ exT ts 1 ++ [59] else
  if k = 24 then a ++ [91] ++ exT ts 1 ++ [93] ++ [32, 61, 32] ++ exT ts 2 ++ [59] else
  if k = 25 then [100, 101, 108, 101, 116, 101, 32] ++ a ++ [46] ++ s.data.toList ++ [59] else
  if k = 26 then [100, 101, 108, 101, 116, 101, 32] ++ a ++ [91] ++ exT ts 1 ++ [93] ++ [59] else
  if k = 27 then [112, 114, 105, 110, 116, 32] ++ exT ts 0 ++ [59] else
  if k = 31 then [114, 101, 116, 117, 114, 110, 32] ++ exT ts 0 ++ [59] else exT ts 0 ++ [59]
mutual
/-- A tree's texts: as an expression, as a statement, and its parts' as a block. -/
def Tr.tx : Tr → Tx3
  | .mk k o n s ns ks _ => (exprF k o n s ns ks (txs ks), stmtF k s ks (txs ks), braceS ((txs ks).map (·.2.1)))
def txs : List Tr → List Tx3
  | [] => []
  | t :: ts => t.tx :: txs ts
end
theorem txs_map : ∀ ks, txs ks = ks.map Tr.tx
  | [] => rfl
  | k :: ks => by rw [txs, txs_map ks]; rfl
theorem Tr.tx_eq (x : Tr) : x.tx = (exprF x.kind x.op x.num x.str x.names x.kids (x.kids.map Tr.tx), stmtF x.kind x.str x.kids (x.kids.map Tr.tx), braceS (x.kids.map (·.tx.2.1))) := by
  cases x
  rw [Tr.tx, txs_map]
  simp [Tr.kind, Tr.op, Tr.num, Tr.str, Tr.names, Tr.kids, Function.comp_def]
end Go.Proofs.Ytmglmjbjgfbdjaa
/- The tree's writer: its state; at, two, list, block, object. -/
set_option linter.unusedVariables false
set_option linter.unusedSimpArgs false
set_option maxRecDepth 20000
set_option maxHeartbeats 8000000
namespace Go.Proofs.Ytmglmjbjgfbdjaa
open Go Ax
abbrev lim8 : Nat := 100000000
/-- The writer in block b, laid behind the heap H0, holds bs. -/
structure WS (H0 H : Heap) (b : Nat) (bs : List UInt8) : Prop where
  g : Grow H0 H
  bl : Bld H0.length H b 45 [] bs
def WQ (H0 : Heap) (b : Nat) (H : Heap) (bs : List UInt8) : Value → Heap → Prop := fun _ H' => WS H0 H' b bs ∧ FrW b H H'
theorem WS.grow {H0 H H' : Heap} {b : Nat} {bs : List UInt8} (S : WS H0 H b bs) (h : Grow H H') : WS H0 H' b bs := by
  obtain ⟨g, h1, h2, a, v, h3, h4, h5⟩ := S
  exact ⟨g.trans h, h1, Nat.le_trans h2 h.1, a, v, h.at h3, h4, h5.grow h⟩
theorem WS.ne {H0 H : Heap} {b q : Nat} {bs : List UInt8} (S : WS H0 H b bs) {m : Ax.Mode} {c : List Value} (h : H[q]? = some (.cells m c)) (hm : m ≠ .one 45) : q ≠ b := by
  obtain ⟨g, h1, h2, a, v, h3, h4, h5⟩ := S
  rintro rfl
  rw [h] at h3
  simp only [Option.some.injEq, Blk.cells.injEq] at h3
  exact hm h3.1
theorem WS.keep {H0 H H' : Heap} {b q : Nat} {bs : List UInt8} (S : WS H0 H b bs) (F : FrW b H H') {m : Ax.Mode} {c : List Value} (h : H[q]? = some (.cells m c)) (hm : m ≠ .one 45) (hr : m ≠ .row 5) : H'[q]? = some (.cells m c) :=
  F.2 q _ h (S.ne h hm) fun c' e => hr (Blk.cells.inj e).1
theorem WS.box {H0 H H' : Heap} {b q : Nat} {bs : List UInt8} (S : WS H0 H b bs) (F : FrW b H H') {c : List Value} (h : H[q]? = some (.cells .var c)) : H'[q]? = some (.cells .var c) := S.keep F h (by simp) (by simp)
theorem WS.put {H0 H : Heap} {b g : Nat} {bs t : List UInt8} (S : WS H0 H b bs) {L : List ByteArray} (hr : H[g]? = some (.cells (.row 9) (L.map Value.string))) (ht : catL L = t) (hL : L.length ≤ 8) (hl : bs.length + t.length ≤ lim8) :
    AX Try.prog 17 #[ptr b, .slice (some ⟨g, 0, none⟩) L.length 1] H (WQ H0 b H (bs ++ t)) := by
  subst ht
  refine (put_ax S.bl okB_writer (fun H' F => RL.own (g := Value.string) (fun _ _ => rfl) (S.keep F hr (by simp) (by simp))) (by simp only [maxLen]; omega) (by simp only [lim8] at hl; omega)).mono ?_
  rintro _ X ⟨h1, h2, h3⟩
  exact ⟨⟨S.g.keep (Nat.le_refl _) |>.trans h2 |> Keep.grow, h1⟩, h3⟩
/-- A function that writes a node. -/
def WrN (f : Nat) (t : List UInt8) (x : Tr) : Prop := ∀ {H0 : Heap} {l : List Value}, NodeR H0 l x → ∀ {H : Heap} {b : Nat} {bs : List UInt8}, WS H0 H b bs → bs.length + t.length ≤ lim8 → AX Try.prog f #[ptr b, .agg l.toArray] H (WQ H0 b H (bs ++ t))
theorem atW {x : Tr} {t : List UInt8} (h : WrN 28 t x) {H0 : Heap} {l : List Value} (R : NodeR H0 l x) {H : Heap} {b : Nat} {bs : List UInt8} (S : WS H0 H b bs) (least : Int) (hl : bs.length + (atS least x t).length ≤ lim8) :
    AX Try.prog 43 #[ptr b, .agg l.toArray, .int .i64 least] H (WQ H0 b H (bs ++ atS least x t)) := by
  obtain ⟨ow, sn, sk, rfl, rn, rk⟩ := R.inv
  refine AX.body (n := 22) (rs := []) Try.func43 rfl (by decide) rfl rfl (bC_sound _ _ _ _ ?_)
  (conv => whnf)
  refine Ob2.box rfl fun q H1 hq ab g1 => ?_
  have bb := hblk_of ab
  have F : FrW b H H1 := .of g1
  replace S := S.grow g1
  by_cases hr : least ≤ x.rank
  · have ht : atS least x t = t := if_pos hr
    rw [ht] at hl ⊢
    have d : decide (rankP x.kind x.op ≥ least) = true := decide_eq_true hr
    refine run ?_
    refine (rank_ax (R.grow S.g)).mono ?_
    rintro _ X ⟨rfl, e⟩
    subst X
    refine run ?_
    refine (h R S hl).mono ?_
    rintro _ X ⟨S', F'⟩
    (try replace ab := S.box F' ab)
    (try replace bb := hblk_of ab)
    (try replace ac := S.box F' ac)
    (try replace bc := hblk_of ac)
    replace F := F.trans F'
    replace S := S'
    clear S' F'
    refine run ?_
    exact ⟨S, F⟩
  · have ht : atS least x t = [40] ++ t ++ [41] := if_neg hr
    rw [ht] at hl ⊢
    have d : decide (rankP x.kind x.op ≥ least) = false := decide_eq_false hr
    refine run ?_
    refine (rank_ax (R.grow S.g)).mono ?_
    rintro _ X ⟨rfl, e⟩
    subst X
    refine run ?_
    refine Ob2.lay (.cells (.row 9) (List.map Value.string [⟨#[40]⟩])) (.slice (some ⟨_, 0, none⟩) _ 1) rfl fun U pa pg _ => ?_
    replace S := S.grow pg
    replace F := F.trans (.of pg)
    (try replace ab := pg.at ab)
    (try replace bb := hblk_of ab)
    (try replace ac := pg.at ac)
    (try replace bc := hblk_of ac)
    refine run ?_
    refine (S.put (t := [40]) pa (by simp [catL]) (by simp) (by ((try simp only [List.length_append, List.length_cons, List.length_nil, lim8, commaS] at hl ⊢); omega))).mono ?_
    rintro _ X ⟨S', F'⟩
    (try replace ab := S.box F' ab)
    (try replace bb := hblk_of ab)
    (try replace ac := S.box F' ac)
    (try replace bc := hblk_of ac)
    replace F := F.trans F'
    replace S := S'
    clear S' F'
    refine run ?_
    refine (h R S (by ((try simp only [List.length_append, List.length_cons, List.length_nil, lim8, commaS] at hl ⊢); omega))).mono ?_
    rintro _ X ⟨S', F'⟩
    (try replace ab := S.box F' ab)
    (try replace bb := hblk_of ab)
    (try replace ac := S.box F' ac)
    (try replace bc := hblk_of ac)
    replace F := F.trans F'
    replace S := S'
    clear S' F'
    refine run ?_
    refine Ob2.lay (.cells (.row 9) (List.map Value.string [⟨#[41]⟩])) (.slice (some ⟨_, 0, none⟩) _ 1) rfl fun U pa pg _ => ?_
    replace S := S.grow pg
    replace F := F.trans (.of pg)
    (try replace ab := pg.at ab)
    (try replace bb := hblk_of ab)
    (try replace ac := pg.at ac)
    (try replace bc := hblk_of ac)
    refine run ?_
    refine (S.put (t := [41]) pa (by simp [catL]) (by simp) (by ((try simp only [List.length_append, List.length_cons, List.length_nil, lim8, commaS] at hl ⊢); omega))).mono ?_
    rintro _ X ⟨S', F'⟩
    (try replace ab := S.box F' ab)
    (try replace bb := hblk_of ab)
    (try replace ac := S.box F' ac)
    (try replace bc := hblk_of ac)
    replace F := F.trans F'
    replace S := S'
    clear S' F'
    refine run ?_
    exact ⟨by simpa only [List.append_assoc] using S, F⟩
end Go.Proofs.Ytmglmjbjgfbdjaa
/- The tree's writer: list, block. -/
set_option linter.unusedVariables false
set_option linter.unusedSimpArgs false
set_option maxRecDepth 20000
set_option maxHeartbeats 8000000
namespace Go.Proofs.Ytmglmjbjgfbdjaa
open Go Ax
theorem map_at {α β : Type} {f : α → β} {L : List α} {i : Nat} {x : α} (h : L[i]? = some x) : (L.map f)[i]? = some (f x) := by simp [h]
theorem listW {H0 : Heap} {sk : Value} {ks : List Tr} (rk : RLo 7 NodeR H0 sk ks) (hk : ks.length ≤ maxLen) (he : ∀ y ∈ ks, WrN 28 y.tx.1 y) {H : Heap} {b : Nat} {bs : List UInt8} (S : WS H0 H b bs) (hL : bs.length + (commaS (ks.map (·.tx.1))).length ≤ lim8) :
    AX Try.prog 61 #[ptr b, sk] H (WQ H0 b H (bs ++ commaS (ks.map (·.tx.1)))) := by
  simp only [maxLen] at hk
  refine AX.body (n := 22) (rs := []) Try.func61 rfl (by decide) rfl rfl (bC_sound _ _ _ _ ?_)
  have l1 : alen Try.prog 23 sk H = some (.int .i64 ks.length) := rk.len rfl _
  refine run ?_
  refine SW.loop (α := Nat) (fun k => [(0, ptr b), (6, sk), (7, .int .i64 ks.length), (8, .int .i64 (k : Int))]) (fun k X => k ≤ ks.length ∧ WS H0 X b (bs ++ commaS ((ks.map (·.tx.1)).take k)) ∧ FrW b H X) (fun k => ks.length - k) ⟨0, ⟨rfl, rfl, rfl, rfl, trivial⟩, by omega, by simpa [joinS] using S, .refl _ _⟩ ?_
  clear S
  rintro k X ⟨hm, S, F⟩
  refine bC_sound _ _ _ _ ?_
  by_cases hml : k < ks.length
  · have d1 : decide ((k : Int) < (ks.length : Int)) = true := decide_eq_true (by omega)
    obtain ⟨y, hy⟩ := get_lt hml
    obtain ⟨p, yl, i1, i2, i3⟩ := ld_node rk hy
    have i4 := i3 X S.g
    obtain ⟨yo, yn, yk, rfl, -⟩ := i2.inv
    have hj := joinS_take [44, 32] (map_at (f := fun z : Tr => z.tx.1) hy)
    have hl := joinS_le [44, 32] (ks.map (·.tx.1)) (k + 1)
    rw [hj] at hl
    have hl := Nat.le_trans (Nat.add_le_add_left hl bs.length) hL
    by_cases h0 : k = 0
    · have d2 : decide ((k : Int) > 0) = false := decide_eq_false (by omega)
      rw [if_pos h0] at hj hl
      refine run ?_
      refine Ob2.alloc rfl fun qc X1 hqc ac gc => ?_
      refine run ?_
      refine Ob.store rfl rfl rfl ac rfl (by first | exact Nat.le_of_ble_eq_true rfl | simp) fun X2 s1 s2 s3 => ?_
      replace gc := gc.but_new s2 (Nat.le_of_eq hqc.symm)
      replace S := S.grow gc
      replace F := F.trans (.of gc)
      (try replace ab := gc.at ab)
      (try replace bb := hblk_of ab)
      replace ac := s1
      have bc := hblk_of ac
      clear s1 s2 s3 hqc
      refine run ?_
      refine (he y (List.mem_of_getElem? hy) i2 S (by ((try simp only [List.length_append, List.length_cons, List.length_nil, lim8, commaS] at hl ⊢); omega))).mono ?_
      rintro _ X ⟨S', F'⟩
      (try replace ab := S.box F' ab)
      (try replace bb := hblk_of ab)
      (try replace ac := S.box F' ac)
      (try replace bc := hblk_of ac)
      replace F := F.trans F'
      replace S := S'
      clear S' F'
      refine run ?_
      exact ⟨k + 1, ⟨rfl, rfl, rfl, congrArg (fun z => some (Value.int .i64 z)) (w_succ (by omega)), trivial⟩, ⟨hml, by rw [commaS, hj]; simpa only [List.append_assoc, List.append_nil] using S, F⟩, by show ks.length - (k + 1) < ks.length - k; omega⟩
    · have d2 : decide ((k : Int) > 0) = true := decide_eq_true (by omega)
      rw [if_neg h0] at hj hl
      refine run ?_
      refine Ob2.alloc rfl fun qc X1 hqc ac gc => ?_
      refine run ?_
      refine Ob.store rfl rfl rfl ac rfl (by first | exact Nat.le_of_ble_eq_true rfl | simp) fun X2 s1 s2 s3 => ?_
      replace gc := gc.but_new s2 (Nat.le_of_eq hqc.symm)
      replace S := S.grow gc
      replace F := F.trans (.of gc)
      (try replace ab := gc.at ab)
      (try replace bb := hblk_of ab)
      replace ac := s1
      have bc := hblk_of ac
      clear s1 s2 s3 hqc
      refine run ?_
      refine Ob2.lay (.cells (.row 9) (List.map Value.string [⟨#[44, 32]⟩])) (.slice (some ⟨_, 0, none⟩) _ 1) rfl fun U pa pg _ => ?_
      replace S := S.grow pg
      replace F := F.trans (.of pg)
      (try replace ab := pg.at ab)
      (try replace bb := hblk_of ab)
      (try replace ac := pg.at ac)
      (try replace bc := hblk_of ac)
      refine run ?_
      refine (S.put (t := [44, 32]) pa (by simp [catL]) (by simp) (by ((try simp only [List.length_append, List.length_cons, List.length_nil, lim8, commaS] at hl ⊢); omega))).mono ?_
      rintro _ X ⟨S', F'⟩
      (try replace ab := S.box F' ab)
      (try replace bb := hblk_of ab)
      (try replace ac := S.box F' ac)
      (try replace bc := hblk_of ac)
      replace F := F.trans F'
      replace S := S'
      clear S' F'
      refine run ?_
      refine (he y (List.mem_of_getElem? hy) i2 S (by ((try simp only [List.length_append, List.length_cons, List.length_nil, lim8, commaS] at hl ⊢); omega))).mono ?_
      rintro _ X ⟨S', F'⟩
      (try replace ab := S.box F' ab)
      (try replace bb := hblk_of ab)
      (try replace ac := S.box F' ac)
      (try replace bc := hblk_of ac)
      replace F := F.trans F'
      replace S := S'
      clear S' F'
      refine run ?_
      exact ⟨k + 1, ⟨rfl, rfl, rfl, congrArg (fun z => some (Value.int .i64 z)) (w_succ (by omega)), trivial⟩, ⟨hml, by rw [commaS, hj]; simpa only [List.append_assoc] using S, F⟩, by show ks.length - (k + 1) < ks.length - k; omega⟩
  · have d1 : decide ((k : Int) < (ks.length : Int)) = false := decide_eq_false (by omega)
    refine run ?_
    rw [List.take_of_length_le (by simp; omega)] at S
    exact ⟨S, F⟩
theorem spaceS_snoc : ∀ (L : List (List UInt8)) (t : List UInt8), spaceS (L ++ [t]) = spaceS L ++ [32] ++ t
  | [], t => by simp [spaceS]
  | u :: L, t => by
    have := spaceS_snoc L t
    simp only [List.cons_append, spaceS, List.append_assoc] at this ⊢
    rw [this]
theorem spaceS_take {L : List (List UInt8)} {i : Nat} {t : List UInt8} (h : L[i]? = some t) : spaceS (L.take (i + 1)) = spaceS (L.take i) ++ [32] ++ t := by
  obtain ⟨hi, rfl⟩ := List.getElem?_eq_some_iff.1 h
  rw [List.take_succ_eq_append_getElem hi, spaceS_snoc]
theorem spaceS_le : ∀ (L : List (List UInt8)) (i : Nat), (spaceS (L.take i)).length ≤ (spaceS L).length
  | [], i => by simp [spaceS]
  | t :: L, 0 => by simp [spaceS]
  | t :: L, i + 1 => by
    have := spaceS_le L i
    simp only [List.take_succ_cons, spaceS, List.length_append]
    omega
theorem blockW {H0 : Heap} {sk : Value} {ks : List Tr} (rk : RLo 7 NodeR H0 sk ks) (hk : ks.length ≤ maxLen) (he : ∀ y ∈ ks, WrN 18 y.tx.2.1 y) {H : Heap} {b : Nat} {bs : List UInt8} (S : WS H0 H b bs) (hl : bs.length + (braceS (ks.map (·.tx.2.1))).length ≤ lim8) :
    AX Try.prog 29 #[ptr b, sk] H (WQ H0 b H (bs ++ braceS (ks.map (·.tx.2.1)))) := by
  simp only [maxLen] at hk
  refine AX.body (n := 31) (rs := []) Try.func29 rfl (by decide) rfl rfl (bC_sound _ _ _ _ ?_)
  have l1 : ∀ H, alen Try.prog 23 sk H = some (.int .i64 ks.length) := fun H => rk.len rfl _
  have F : FrW b H H := .refl _ _
  have l2 := l1 H
  by_cases hn : ks = []
  · subst hn
    have d0 : ((([] : List Tr).length : Int) == 0) = true := rfl
    have ht : braceS (([] : List Tr).map fun z : Tr => z.tx.2.1) = [123, 125] := rfl
    rw [ht] at hl ⊢
    refine run ?_
    refine Ob2.lay (.cells (.row 9) (List.map Value.string [⟨#[123, 125]⟩])) (.slice (some ⟨_, 0, none⟩) _ 1) rfl fun U pa pg _ => ?_
    replace S := S.grow pg
    replace F := F.trans (.of pg)
    (try replace ab := pg.at ab)
    (try replace bb := hblk_of ab)
    (try replace ac := pg.at ac)
    (try replace bc := hblk_of ac)
    refine run ?_
    refine (S.put (t := [123, 125]) pa (by simp [catL]) (by simp) (by ((try simp only [List.length_append, List.length_cons, List.length_nil, lim8, commaS] at hl ⊢); omega))).mono ?_
    rintro _ X ⟨S', F'⟩
    (try replace ab := S.box F' ab)
    (try replace bb := hblk_of ab)
    (try replace ac := S.box F' ac)
    (try replace bc := hblk_of ac)
    replace F := F.trans F'
    replace S := S'
    clear S' F'
    refine run ?_
    exact ⟨S, F⟩
  have hp : 0 < ks.length := List.length_pos_iff.2 hn
  have d0 : ((ks.length : Int) == 0) = false := by rw [beq_eq_false_iff_ne]; omega
  have ht : braceS (ks.map (·.tx.2.1)) = [123] ++ spaceS (ks.map (·.tx.2.1)) ++ [32, 125] := if_neg (by simpa using hn)
  rw [ht] at hl ⊢
  have hL := hl
  refine run ?_
  refine Ob2.lay (.cells (.row 9) (List.map Value.string [⟨#[123]⟩])) (.slice (some ⟨_, 0, none⟩) _ 1) rfl fun U pa pg _ => ?_
  replace S := S.grow pg
  replace F := F.trans (.of pg)
  (try replace ab := pg.at ab)
  (try replace bb := hblk_of ab)
  (try replace ac := pg.at ac)
  (try replace bc := hblk_of ac)
  refine run ?_
  refine (S.put (t := [123]) pa (by simp [catL]) (by simp) (by ((try simp only [List.length_append, List.length_cons, List.length_nil, lim8, commaS] at hl ⊢); omega))).mono ?_
  rintro _ X ⟨S', F'⟩
  (try replace ab := S.box F' ab)
  (try replace bb := hblk_of ab)
  (try replace ac := S.box F' ac)
  (try replace bc := hblk_of ac)
  replace F := F.trans F'
  replace S := S'
  clear S' F'
  refine run ?_
  have l3 := l1 X
  refine run ?_
  refine SW.loop (α := Nat) (fun k => [(0, ptr b), (15, sk), (16, .int .i64 ks.length), (17, .int .i64 (k : Int))]) (fun k X => k ≤ ks.length ∧ WS H0 X b (bs ++ [123] ++ spaceS ((ks.map (·.tx.2.1)).take k)) ∧ FrW b H X) (fun k => ks.length - k) ⟨0, ⟨rfl, rfl, rfl, rfl, trivial⟩, by omega, by simpa [spaceS] using S, F⟩ ?_
  clear S F
  rintro k X ⟨hm, S, F⟩
  refine bC_sound _ _ _ _ ?_
  by_cases hml : k < ks.length
  · have d1 : decide ((k : Int) < (ks.length : Int)) = true := decide_eq_true (by omega)
    obtain ⟨y, hy⟩ := get_lt hml
    obtain ⟨p, yl, i1, i2, i3⟩ := ld_node rk hy
    have i4 := i3 X S.g
    obtain ⟨yo, yn, yk, rfl, -⟩ := i2.inv
    have hj := spaceS_take (map_at (f := fun z : Tr => z.tx.2.1) hy)
    have hl := spaceS_le (ks.map (·.tx.2.1)) (k + 1)
    rw [hj] at hl
    replace hl : bs.length + (([123] : List UInt8) ++ (spaceS ((ks.map fun z : Tr => z.tx.2.1).take k) ++ [32] ++ y.tx.2.1)).length ≤ lim8 := by
      simp only [List.length_append] at hL hl ⊢; omega
    refine run ?_
    refine Ob2.alloc rfl fun qc X1 hqc ac gc => ?_
    refine run ?_
    refine Ob.store rfl rfl rfl ac rfl (by first | exact Nat.le_of_ble_eq_true rfl | simp) fun X2 s1 s2 s3 => ?_
    replace gc := gc.but_new s2 (Nat.le_of_eq hqc.symm)
    replace S := S.grow gc
    replace F := F.trans (.of gc)
    (try replace ab := gc.at ab)
    (try replace bb := hblk_of ab)
    replace ac := s1
    have bc := hblk_of ac
    clear s1 s2 s3 hqc
    refine run ?_
    refine Ob2.lay (.cells (.row 9) (List.map Value.string [⟨#[32]⟩])) (.slice (some ⟨_, 0, none⟩) _ 1) rfl fun U pa pg _ => ?_
    replace S := S.grow pg
    replace F := F.trans (.of pg)
    (try replace ab := pg.at ab)
    (try replace bb := hblk_of ab)
    (try replace ac := pg.at ac)
    (try replace bc := hblk_of ac)
    refine run ?_
    refine (S.put (t := [32]) pa (by simp [catL]) (by simp) (by ((try simp only [List.length_append, List.length_cons, List.length_nil, lim8, commaS] at hl ⊢); omega))).mono ?_
    rintro _ X ⟨S', F'⟩
    (try replace ab := S.box F' ab)
    (try replace bb := hblk_of ab)
    (try replace ac := S.box F' ac)
    (try replace bc := hblk_of ac)
    replace F := F.trans F'
    replace S := S'
    clear S' F'
    refine run ?_
    refine (he y (List.mem_of_getElem? hy) i2 S (by ((try simp only [List.length_append, List.length_cons, List.length_nil, lim8, commaS] at hl ⊢); omega))).mono ?_
    rintro _ X ⟨S', F'⟩
    (try replace ab := S.box F' ab)
    (try replace bb := hblk_of ab)
    (try replace ac := S.box F' ac)
    (try replace bc := hblk_of ac)
    replace F := F.trans F'
    replace S := S'
    clear S' F'
    refine run ?_
    exact ⟨k + 1, ⟨rfl, rfl, rfl, congrArg (fun z => some (Value.int .i64 z)) (w_succ (by omega)), trivial⟩, ⟨hml, by rw [hj]; simpa only [List.append_assoc] using S, F⟩, by show ks.length - (k + 1) < ks.length - k; omega⟩
  · have d1 : decide ((k : Int) < (ks.length : Int)) = false := decide_eq_false (by omega)
    rw [List.take_of_length_le (by simp; omega)] at S
    refine run ?_
    refine Ob2.lay (.cells (.row 9) (List.map Value.string [⟨#[32, 125]⟩])) (.slice (some ⟨_, 0, none⟩) _ 1) rfl fun U pa pg _ => ?_
    replace S := S.grow pg
    replace F := F.trans (.of pg)
    (try replace ab := pg.at ab)
    (try replace bb := hblk_of ab)
    (try replace ac := pg.at ac)
    (try replace bc := hblk_of ac)
    refine run ?_
    refine (S.put (t := [32, 125]) pa (by simp [catL]) (by simp) (by ((try simp only [List.length_append, List.length_cons, List.length_nil, lim8, commaS] at hl ⊢); omega))).mono ?_
    rintro _ X ⟨S', F'⟩
    (try replace ab := S.box F' ab)
    (try replace bb := hblk_of ab)
    (try replace ac := S.box F' ac)
    (try replace bc := hblk_of ac)
    replace F := F.trans F'
    replace S := S'
    clear S' F'
    refine run ?_
    exact ⟨by simpa only [List.append_assoc] using S, F⟩
end Go.Proofs.Ytmglmjbjgfbdjaa
/- The tree's writer: two, object. -/
set_option linter.unusedVariables false
set_option linter.unusedSimpArgs false
set_option maxRecDepth 20000
set_option maxHeartbeats 8000000
namespace Go.Proofs.Ytmglmjbjgfbdjaa
open Go Ax
/-- A node in a list, and its fields. -/
structure KidAt (H : Heap) (sv : Value) (i : Value) (y : Tr) (p : Value) (p5 : Value) (sn sk : Value) : Prop where
  ix : aindexAddr Try.prog 23 sv i = some p
  nd : NodeR H (nodeV y sn sk) y
  ld : ∀ H', Grow H H' → aload Try.prog 25 p H' = some (.agg (nodeV y sn sk).toArray)
  kd : ∀ H', Grow H H' → aload Try.prog 3 p H' = some (.int .i64 y.kind)
  ks : ∀ H', Grow H H' → aload Try.prog 23 p5 H' = some sk
  rk : RLo 7 NodeR H sk y.kids
  ow : Own7 y
theorem kidAt {H : Heap} {sv : Value} {L : List Tr} (h : RLo 7 NodeR H sv L) (i : Nat) {y : Tr} (hx : L[i]? = some y) : ∃ b o sn sk, KidAt H sv (.int .i64 (i : Int)) y (.pointer (some ⟨b, o, none⟩)) (.pointer (some ⟨b, o + 5, none⟩)) sn sk := by
  obtain ⟨b, o, c, l, h1, h2, h3, h4⟩ := h.at (P := Try.prog) (t := 23) (e := 25) rfl rfl hx
  obtain ⟨ow, sn, sk, rfl, rn, rk⟩ := h4.inv
  have hlen : o + 7 ≤ c.length := by
    by_cases hh : o + 7 ≤ c.length
    · exact hh
    · simp [slotsOf, hh] at h3
  have h3' := h3
  rw [slots_of hlen] at h3'
  simp only [Option.some.injEq] at h3'
  have hj : ∀ j, j < 7 → c[o + j]? = (nodeV y sn sk)[j]? := fun j hj => by rw [← h3', List.getElem?_take, if_pos hj, List.getElem?_drop]
  have e0 : c[o]? = some (.int .i64 y.kind) := hj 0 (by omega)
  have e5 : c[o + 5]? = some sk := hj 5 (by omega)
  exact ⟨b, o, sn, sk, h1, h4, fun H' g => ald_agg rfl rfl rfl (g.hblk h2) h3, fun H' g => ald rfl rfl (g.hblk h2) e0, fun H' g => ald rfl rfl (g.hblk h2) e5, rk, ow⟩
theorem rank_lo (k o : Int) : 0 ≤ rankP k o ∧ rankP k o ≤ 9 := by unfold rankP; (repeat' split) <;> omega
theorem twoW {x y z : Tr} (hk : x.kids = [y, z]) (hy : WrN 28 y.tx.1 y) (hz : WrN 28 z.tx.1 z) (sg : ByteArray) {H0 : Heap} {l : List Value} (R : NodeR H0 l x) {H : Heap} {b : Nat} {bs : List UInt8} (S : WS H0 H b bs)
    (hl : bs.length + (atS (rankP x.kind x.op) y y.tx.1 ++ [32] ++ sg.data.toList ++ [32] ++ atS (rankP x.kind x.op + 1) z z.tx.1).length ≤ lim8) :
    AX Try.prog 45 #[ptr b, .agg l.toArray, .string sg] H (WQ H0 b H (bs ++ (atS (rankP x.kind x.op) y y.tx.1 ++ [32] ++ sg.data.toList ++ [32] ++ atS (rankP x.kind x.op + 1) z z.tx.1))) := by
  obtain ⟨ow, sn, sk, rfl, rn, rk⟩ := R.inv
  rw [hk] at rk
  obtain ⟨b0, o0, n0, k0, K0⟩ := kidAt rk 0 rfl
  obtain ⟨b1, o1, n1, k1, K1⟩ := kidAt rk 1 rfl
  have x0 : aindexAddr Try.prog 23 sk (.int .i64 0) = _ := K0.ix
  have x1 : aindexAddr Try.prog 23 sk (.int .i64 1) = _ := K1.ix
  have hr := rank_lo x.kind x.op
  have w1 : IntKind.i64.wrap (rankP x.kind x.op + 1) = rankP x.kind x.op + 1 := by rw [wrap_i64 (by omega) (by omega)]
  refine AX.body (n := 27) (rs := []) Try.func45 rfl (by decide) rfl rfl (bC_sound _ _ _ _ ?_)
  (conv => whnf)
  refine Ob2.box rfl fun q H1 hq ab g1 => ?_
  have bb := hblk_of ab
  have F : FrW b H H1 := .of g1
  replace S := S.grow g1
  have L0 := K0.ld _ S.g
  refine run ?_
  apply SW.drawH [(0, [], [7, 8, 9, 10, 11, 12], false), (1, [], [6, 11, 12], false), (2, [(7, 1)], [6, 7, 11, 12], false), (3, [(7, 1), (8, 2)], [6, 7, 8, 11, 12], false), (4, [(7, 1), (8, 2), (9, 3)], [6, 7, 8, 9, 11, 12], false), (5, [], [6, 7, 8, 9, 10], false), (6, [(11, 5)], [6, 7, 8, 9, 10, 11], true), (7, [(6, 0), (7, 1), (8, 2), (9, 3), (10, 4), (11, 5), (12, 6)], [6, 7, 8, 9, 10, 11, 12], true)]
    [(6, 0), (7, 1), (8, 2), (9, 3), (10, 4), (11, 5), (12, 6), (13, 7)] [6]
    [(0, _), (2, _), (4, _)] rfl (by kernel_rfl)
  case hF => exact ⟨rfl, rfl, rfl, trivial⟩
  refine run ?_
  refine (rank_ax (R.grow S.g)).mono ?_
  rintro _ X ⟨rfl, e⟩
  subst X
  refine run ?_
  refine (atW hy K0.nd S _ (by ((try simp only [List.length_append, List.length_cons, List.length_nil, lim8, commaS] at hl ⊢); omega))).mono ?_
  rintro _ X ⟨S', F'⟩
  (try replace ab := S.box F' ab)
  (try replace bb := hblk_of ab)
  (try replace ac := S.box F' ac)
  (try replace bc := hblk_of ac)
  replace F := F.trans F'
  replace S := S'
  clear S' F'
  refine run ?_
  refine Ob2.lay (.cells (.row 9) (List.map Value.string [⟨#[32]⟩, sg, ⟨#[32]⟩])) (.slice (some ⟨_, 0, none⟩) _ 1) rfl fun U pa pg _ => ?_
  replace S := S.grow pg
  replace F := F.trans (.of pg)
  (try replace ab := pg.at ab)
  (try replace bb := hblk_of ab)
  (try replace ac := pg.at ac)
  (try replace bc := hblk_of ac)
  refine run ?_
  refine (S.put (t := [32] ++ sg.data.toList ++ [32]) pa (by simp [catL]) (by simp) (by ((try simp only [List.length_append, List.length_cons, List.length_nil, lim8, commaS] at hl ⊢); omega))).mono ?_
  rintro _ X ⟨S', F'⟩
  (try replace ab := S.box F' ab)
  (try replace bb := hblk_of ab)
  (try replace ac := S.box F' ac)
  (try replace bc := hblk_of ac)
  replace F := F.trans F'
  replace S := S'
  clear S' F'
  refine run ?_
  have L1 := K1.ld _ S.g
  apply SW.drawH [(0, [], [19, 20, 21, 22, 23, 24, 25], false), (1, [], [18, 23, 24, 25], false), (2, [(19, 1)], [18, 19, 23, 24, 25], false), (3, [(19, 1), (20, 2)], [18, 19, 20, 23, 24, 25], false), (4, [(19, 1), (20, 2), (21, 3)], [18, 19, 20, 21, 23, 24, 25], false), (5, [], [18, 19, 20, 21, 22], false), (6, [(23, 5)], [18, 19, 20, 21, 22, 23], true), (7, [(23, 5), (24, 6)], [18, 19, 20, 21, 22, 23, 24], false), (8, [(18, 0), (19, 1), (20, 2), (21, 3), (22, 4), (23, 5), (24, 6), (25, 7)], [18, 19, 20, 21, 22, 23, 24, 25], true)]
    [(18, 0), (19, 1), (20, 2), (21, 3), (22, 4), (23, 5), (24, 6), (25, 7), (26, 8)] [6]
    [(0, _), (4, _)] rfl (by kernel_rfl)
  case hF => exact ⟨rfl, rfl, trivial⟩
  refine run ?_
  refine (rank_ax (R.grow S.g)).mono ?_
  rintro _ X ⟨rfl, e⟩
  subst X
  refine run ?_
  rw [w1]
  refine (atW hz K1.nd S _ (by ((try simp only [List.length_append, List.length_cons, List.length_nil, lim8, commaS] at hl ⊢); omega))).mono ?_
  rintro _ X ⟨S', F'⟩
  (try replace ab := S.box F' ab)
  (try replace bb := hblk_of ab)
  (try replace ac := S.box F' ac)
  (try replace bc := hblk_of ac)
  replace F := F.trans F'
  replace S := S'
  clear S' F'
  refine run ?_
  exact ⟨by simpa only [List.append_assoc] using S, F⟩
theorem fieldS_at : ∀ {ns : List ByteArray} {ts : List (List UInt8)} {i : Nat} {n : ByteArray} {t : List UInt8}, ns[i]? = some n → ts[i]? = some t → (fieldS ns ts)[i]? = some (n.data.toList ++ [58, 32] ++ t)
  | [], _, i, _, _, h, _ => by simp at h
  | a :: ns, [], i, _, _, _, h => by simp at h
  | a :: ns, u :: ts, 0, n, t, h, k => by simp at h k; subst h k; simp [fieldS]
  | a :: ns, u :: ts, i + 1, n, t, h, k => by
    rw [List.getElem?_cons_succ] at h k
    rw [fieldS, List.getElem?_cons_succ]
    exact fieldS_at h k
theorem fieldS_len : ∀ {ns : List ByteArray} {ts : List (List UInt8)}, ts.length = ns.length → (fieldS ns ts).length = ts.length
  | [], [], _ => rfl
  | [], _ :: _, h => by simp at h
  | _ :: _, [], h => by simp at h
  | a :: ns, u :: ts, h => by rw [fieldS, List.length_cons, fieldS_len (by simpa using h), List.length_cons]
theorem objectW {x : Tr} (hk : x.kids.length = x.names.length) (he : ∀ y ∈ x.kids, WrN 28 y.tx.1 y) {H0 : Heap} {l : List Value} (R : NodeR H0 l x) {H : Heap} {b : Nat} {bs : List UInt8} (S : WS H0 H b bs)
    (hL : bs.length + (([123] : List UInt8) ++ commaS (fieldS x.names (x.kids.map fun z : Tr => z.tx.1)) ++ [125]).length ≤ lim8) :
    AX Try.prog 41 #[ptr b, .agg l.toArray] H (WQ H0 b H (bs ++ (([123] : List UInt8) ++ commaS (fieldS x.names (x.kids.map fun z : Tr => z.tx.1)) ++ [125]))) := by
  obtain ⟨ow, sn, sk, rfl, rn, rk⟩ := R.inv
  have hkm := ow.2.2.2
  simp only [maxLen] at hkm
  have hl := hL
  have hf : (fieldS x.names (x.kids.map (·.tx.1))).length = x.kids.length := by rw [fieldS_len (by simpa using hk), List.length_map]
  refine AX.body (n := 37) (rs := []) Try.func41 rfl (by decide) rfl rfl (bC_sound _ _ _ _ ?_)
  (conv => whnf)
  refine Ob2.box rfl fun q H1 hq ab g1 => ?_
  have bb := hblk_of ab
  have F : FrW b H H1 := .of g1
  replace S := S.grow g1
  have l1 : ∀ H, alen Try.prog 23 sk H = some (.int .i64 x.kids.length) := fun H => rk.len rfl _
  refine run ?_
  refine Ob2.lay (.cells (.row 9) (List.map Value.string [⟨#[123]⟩])) (.slice (some ⟨_, 0, none⟩) _ 1) rfl fun U pa pg _ => ?_
  replace S := S.grow pg
  replace F := F.trans (.of pg)
  (try replace ab := pg.at ab)
  (try replace bb := hblk_of ab)
  (try replace ac := pg.at ac)
  (try replace bc := hblk_of ac)
  refine run ?_
  refine (S.put (t := [123]) pa (by simp [catL]) (by simp) (by ((try simp only [List.length_append, List.length_cons, List.length_nil, lim8, commaS] at hl ⊢); omega))).mono ?_
  rintro _ X ⟨S', F'⟩
  (try replace ab := S.box F' ab)
  (try replace bb := hblk_of ab)
  (try replace ac := S.box F' ac)
  (try replace bc := hblk_of ac)
  replace F := F.trans F'
  replace S := S'
  clear S' F'
  refine run ?_
  have l3 := l1 X
  refine run ?_
  refine SW.loop (α := Nat) (fun k => [(0, ptr b), (3, .pointer (some ⟨q, 0, none⟩)), (10, sk), (11, .int .i64 x.kids.length), (12, .int .i64 (k : Int))]) (fun k X => k ≤ x.kids.length ∧ WS H0 X b (bs ++ [123] ++ commaS ((fieldS x.names (x.kids.map (·.tx.1))).take k)) ∧ FrW b H X ∧ X[q]? = some (.cells .var (nodeV x sn sk))) (fun k => x.kids.length - k) ⟨0, ⟨rfl, rfl, rfl, rfl, rfl, trivial⟩, by omega, by simpa [joinS] using S, F, ab⟩ ?_
  clear S F ab bb l3
  rintro k X ⟨hm, S, F, ab⟩
  have bb := hblk_of ab
  refine bC_sound _ _ _ _ ?_
  by_cases hml : k < x.kids.length
  · have d1 : decide ((k : Int) < (x.kids.length : Int)) = true := decide_eq_true (by omega)
    obtain ⟨y, hy⟩ := get_lt hml
    obtain ⟨nm, hn⟩ := get_lt (show k < x.names.length by omega)
    obtain ⟨p, yl, i1, i2, i3⟩ := ld_node rk hy
    obtain ⟨p2, j1, j2⟩ := ld_strT rn hn
    have i4 := i3 X S.g
    obtain ⟨yo, yn, yk, rfl, -⟩ := i2.inv
    have hj := joinS_take [44, 32] (fieldS_at hn (map_at (f := fun z : Tr => z.tx.1) hy))
    have hl := joinS_le [44, 32] (fieldS x.names (x.kids.map (·.tx.1))) (k + 1)
    rw [hj] at hl
    replace hl : bs.length + (([123] : List UInt8) ++ (joinS [44, 32] ((fieldS x.names (x.kids.map fun z : Tr => z.tx.1)).take k) ++ (if k = 0 then [] else [44, 32]) ++ (nm.data.toList ++ [58, 32] ++ y.tx.1))).length ≤ lim8 := by
      simp only [List.length_append, commaS] at hL hl ⊢; omega
    by_cases h0 : k = 0
    · have d2 : decide ((k : Int) > 0) = false := decide_eq_false (by omega)
      rw [if_pos h0] at hj hl
      refine run ?_
      refine Ob2.alloc rfl fun qc X1 hqc ac gc => ?_
      refine run ?_
      refine Ob.store rfl rfl rfl ac rfl (by first | exact Nat.le_of_ble_eq_true rfl | simp) fun X2 s1 s2 s3 => ?_
      replace gc := gc.but_new s2 (Nat.le_of_eq hqc.symm)
      replace S := S.grow gc
      replace F := F.trans (.of gc)
      (try replace ab := gc.at ab)
      (try replace bb := hblk_of ab)
      replace ac := s1
      have bc := hblk_of ac
      clear s1 s2 s3 hqc
      refine run ?_
      have j3 := j2 _ S.g
      refine run ?_
      refine Ob2.lay (.cells (.row 9) (List.map Value.string [nm, ⟨#[58, 32]⟩])) (.slice (some ⟨_, 0, none⟩) _ 1) rfl fun U pa pg _ => ?_
      replace S := S.grow pg
      replace F := F.trans (.of pg)
      (try replace ab := pg.at ab)
      (try replace bb := hblk_of ab)
      (try replace ac := pg.at ac)
      (try replace bc := hblk_of ac)
      refine run ?_
      refine (S.put (t := nm.data.toList ++ [58, 32]) pa (by simp [catL]) (by simp) (by ((try simp only [List.length_append, List.length_cons, List.length_nil, lim8, commaS] at hl ⊢); omega))).mono ?_
      rintro _ X ⟨S', F'⟩
      (try replace ab := S.box F' ab)
      (try replace bb := hblk_of ab)
      (try replace ac := S.box F' ac)
      (try replace bc := hblk_of ac)
      replace F := F.trans F'
      replace S := S'
      clear S' F'
      refine run ?_
      refine (he y (List.mem_of_getElem? hy) i2 S (by ((try simp only [List.length_append, List.length_cons, List.length_nil, lim8, commaS] at hl ⊢); omega))).mono ?_
      rintro _ X ⟨S', F'⟩
      (try replace ab := S.box F' ab)
      (try replace bb := hblk_of ab)
      (try replace ac := S.box F' ac)
      (try replace bc := hblk_of ac)
      replace F := F.trans F'
      replace S := S'
      clear S' F'
      refine run ?_
      exact ⟨k + 1, ⟨rfl, rfl, rfl, rfl, congrArg (fun z => some (Value.int .i64 z)) (w_succ (by omega)), trivial⟩, ⟨hml, by rw [commaS, hj]; simpa only [List.append_assoc, List.append_nil] using S, F, ab⟩, by show x.kids.length - (k + 1) < x.kids.length - k; omega⟩
    · have d2 : decide ((k : Int) > 0) = true := decide_eq_true (by omega)
      rw [if_neg h0] at hj hl
      refine run ?_
      refine Ob2.alloc rfl fun qc X1 hqc ac gc => ?_
      refine run ?_
      refine Ob.store rfl rfl rfl ac rfl (by first | exact Nat.le_of_ble_eq_true rfl | simp) fun X2 s1 s2 s3 => ?_
      replace gc := gc.but_new s2 (Nat.le_of_eq hqc.symm)
      replace S := S.grow gc
      replace F := F.trans (.of gc)
      (try replace ab := gc.at ab)
      (try replace bb := hblk_of ab)
      replace ac := s1
      have bc := hblk_of ac
      clear s1 s2 s3 hqc
      refine run ?_
      refine Ob2.lay (.cells (.row 9) (List.map Value.string [⟨#[44, 32]⟩])) (.slice (some ⟨_, 0, none⟩) _ 1) rfl fun U pa pg _ => ?_
      replace S := S.grow pg
      replace F := F.trans (.of pg)
      (try replace ab := pg.at ab)
      (try replace bb := hblk_of ab)
      (try replace ac := pg.at ac)
      (try replace bc := hblk_of ac)
      refine run ?_
      refine (S.put (t := [44, 32]) pa (by simp [catL]) (by simp) (by ((try simp only [List.length_append, List.length_cons, List.length_nil, lim8, commaS] at hl ⊢); omega))).mono ?_
      rintro _ X ⟨S', F'⟩
      (try replace ab := S.box F' ab)
      (try replace bb := hblk_of ab)
      (try replace ac := S.box F' ac)
      (try replace bc := hblk_of ac)
      replace F := F.trans F'
      replace S := S'
      clear S' F'
      refine run ?_
      have j3 := j2 _ S.g
      refine run ?_
      refine Ob2.lay (.cells (.row 9) (List.map Value.string [nm, ⟨#[58, 32]⟩])) (.slice (some ⟨_, 0, none⟩) _ 1) rfl fun U pa pg _ => ?_
      replace S := S.grow pg
      replace F := F.trans (.of pg)
      (try replace ab := pg.at ab)
      (try replace bb := hblk_of ab)
      (try replace ac := pg.at ac)
      (try replace bc := hblk_of ac)
      refine run ?_
      refine (S.put (t := nm.data.toList ++ [58, 32]) pa (by simp [catL]) (by simp) (by ((try simp only [List.length_append, List.length_cons, List.length_nil, lim8, commaS] at hl ⊢); omega))).mono ?_
      rintro _ X ⟨S', F'⟩
      (try replace ab := S.box F' ab)
      (try replace bb := hblk_of ab)
      (try replace ac := S.box F' ac)
      (try replace bc := hblk_of ac)
      replace F := F.trans F'
      replace S := S'
      clear S' F'
      refine run ?_
      refine (he y (List.mem_of_getElem? hy) i2 S (by ((try simp only [List.length_append, List.length_cons, List.length_nil, lim8, commaS] at hl ⊢); omega))).mono ?_
      rintro _ X ⟨S', F'⟩
      (try replace ab := S.box F' ab)
      (try replace bb := hblk_of ab)
      (try replace ac := S.box F' ac)
      (try replace bc := hblk_of ac)
      replace F := F.trans F'
      replace S := S'
      clear S' F'
      refine run ?_
      exact ⟨k + 1, ⟨rfl, rfl, rfl, rfl, congrArg (fun z => some (Value.int .i64 z)) (w_succ (by omega)), trivial⟩, ⟨hml, by rw [commaS, hj]; simpa only [List.append_assoc] using S, F, ab⟩, by show x.kids.length - (k + 1) < x.kids.length - k; omega⟩
  · have d1 : decide ((k : Int) < (x.kids.length : Int)) = false := decide_eq_false (by omega)
    rw [List.take_of_length_le (by omega)] at S
    refine run ?_
    refine Ob2.lay (.cells (.row 9) (List.map Value.string [⟨#[125]⟩])) (.slice (some ⟨_, 0, none⟩) _ 1) rfl fun U pa pg _ => ?_
    replace S := S.grow pg
    replace F := F.trans (.of pg)
    (try replace ab := pg.at ab)
    (try replace bb := hblk_of ab)
    (try replace ac := pg.at ac)
    (try replace bc := hblk_of ac)
    refine run ?_
    refine (S.put (t := [125]) pa (by simp [catL]) (by simp) (by ((try simp only [List.length_append, List.length_cons, List.length_nil, lim8, commaS] at hl ⊢); omega))).mono ?_
    rintro _ X ⟨S', F'⟩
    (try replace ab := S.box F' ab)
    (try replace bb := hblk_of ab)
    (try replace ac := S.box F' ac)
    (try replace bc := hblk_of ac)
    replace F := F.trans F'
    replace S := S'
    clear S' F'
    refine run ?_
    exact ⟨by simpa only [List.append_assoc] using S, F⟩
end Go.Proofs.Ytmglmjbjgfbdjaa
/- How strings.Join lies in the seat's program; printed by lays.py. -/
set_option linter.unusedVariables false
set_option linter.unusedSimpArgs false
set_option maxRecDepth 20000
set_option maxHeartbeats 8000000
namespace Go.Proofs.Ytmglmjbjgfbdjaa
open Go Go.Shelf
def lay156 : Go.Shelf.Ren := ⟨fun n => if n = 156 then 42 else if n = 165 then 60 else if n = 166 then 27 else if n = 169 then 20 else if n = 240 then 38 else if n = 241 then 74 else if n = 276 then 57 else if n = 277 then 82 else n, fun n => if n = 0 then 0 else if n = 3 then 3 else if n = 4 then 4 else if n = 5 then 5 else if n = 9 then 9 else if n = 20 then 20 else if n = 31 then 22 else if n = 37 then 41 else if n = 70 then 40 else if n = 72 then 43 else if n = 75 then 54 else if n = 76 then 55 else if n = 80 then 49 else if n = 127 then 58 else if n = 164 then 73 else n, fun n => n⟩
theorem lays156 : Lays.n156 Try.prog lay156 where
  mixed := by kernel_rfl
  f156 := by kernel_rfl
  f165 := by kernel_rfl
  f166 := by kernel_rfl
  f169 := by kernel_rfl
  f240 := by kernel_rfl
  f241 := by kernel_rfl
  f276 := by kernel_rfl
  f277 := by kernel_rfl
  t0 := by kernel_rfl
  a0 := fun _ => rfl
  z0 := fun _ => rfl
  v0 := fun _ => rfl
  t3 := by kernel_rfl
  a3 := fun _ => rfl
  z3 := fun _ => rfl
  v3 := fun _ => rfl
  t4 := by kernel_rfl
  a4 := fun _ => rfl
  z4 := fun _ => rfl
  v4 := fun _ => rfl
  t9 := by kernel_rfl
  a9 := fun _ => rfl
  z9 := fun _ => rfl
  v9 := fun _ => rfl
  t20 := by kernel_rfl
  a20 := fun _ => rfl
  z20 := fun _ => rfl
  v20 := fun _ => rfl
  t31 := by kernel_rfl
  a31 := fun _ => rfl
  z31 := fun _ => rfl
  v31 := fun _ => rfl
  t37 := by kernel_rfl
  a37 := fun _ => rfl
  z37 := fun _ => rfl
  v37 := fun _ => rfl
  t70 := by kernel_rfl
  a70 := fun _ => rfl
  z70 := fun _ => rfl
  v70 := fun _ => rfl
  t72 := by kernel_rfl
  a72 := fun _ => rfl
  z72 := fun _ => rfl
  v72 := fun _ => rfl
  t75 := by kernel_rfl
  a75 := fun _ => rfl
  z75 := fun _ => rfl
  v75 := fun _ => rfl
  t76 := by kernel_rfl
  a76 := fun _ => rfl
  z76 := fun _ => rfl
  v76 := fun _ => rfl
  t127 := by kernel_rfl
  a127 := fun _ => rfl
  z127 := fun _ => rfl
  v127 := fun _ => rfl
  t164 := by kernel_rfl
  a164 := fun _ => rfl
  z164 := fun _ => rfl
  v164 := fun _ => rfl
theorem extra156 : Builder.Extra Try.prog lay156 where
  sizeBuilder := by kernel_rfl
  liesBuilder := by kernel_rfl
  t5 := by kernel_rfl
  a5 := fun _ => rfl
  z5 := fun _ => rfl
  v5 := fun _ => rfl
  infoByte := by kernel_rfl
  cellsByte := by kernel_rfl
  sizeByte := by kernel_rfl
  neB5 := by decide
end Go.Proofs.Ytmglmjbjgfbdjaa
/- strings.Join, by the shelf's contract. -/
set_option linter.unusedVariables false
set_option linter.unusedSimpArgs false
set_option maxRecDepth 20000
set_option maxHeartbeats 8000000
namespace Go.Proofs.Ytmglmjbjgfbdjaa
open Go Ax
theorem libJoin (sep : List UInt8) : ∀ L : List (List UInt8), Lib.join L sep = joinS sep L
  | [] => rfl
  | [t] => by rw [Lib.join_one]; rfl
  | t :: u :: ts => by
    have := libJoin sep (u :: ts)
    rw [Lib.join_cons] at this
    rw [Lib.join_cons, joinS, ← this]
    simp [Lib.joinTail]
theorem join_ax {H : Heap} {sn : Value} {ns : List ByteArray} (hn : RL 1 strR H sn ns) (hN : ns.length ≤ 140737488355328) (sep : ByteArray) (hl : (joinS sep.data.toList (ns.map (·.data.toList))).length ≤ 140737488355328) :
    AX Try.prog 42 #[sn, .string sep] H (fun v H' => v = .string ⟨(joinS sep.data.toList (ns.map (·.data.toList))).toArray⟩ ∧ H' = H) := by
  refine ⟨⟨_, rfl, rfl, by decide⟩, fun w0 ι w cargs hw ha => ?_⟩
  obtain ⟨a0, a1⟩ := ha
  obtain ⟨c0, c1, rfl⟩ : ∃ c0 c1, cargs = #[c0, c1] := by
    obtain ⟨l⟩ := cargs
    match l, a0 with
    | [x, y], _ => exact ⟨x, y, rfl⟩
  have h0 : VR ι sn c0 := a1 0 (Nat.zero_lt_succ 1)
  have h1 : VR ι (.string sep) c1 := a1 1 (Nat.lt_succ_self 1)
  cases h1
  rw [← libJoin] at hl ⊢
  have fin : ∀ {t : ByteArray} {e : Ending} {w' : World}, e = .returned (.string t) ∧ Go.RowKit.Below w.heap.size w w' → AEnd Try.prog w0 ι (fun v H' => v = .string t ∧ H' = H) e w' := by
    rintro t e w' ⟨rfl, hb⟩
    exact ⟨.string t, H, ι, ⟨rfl, rfl⟩, .refl _, hw.grow hb, .str t⟩
  by_cases hz : ns = []
  · subst hz
    obtain ⟨a, c, rfl⟩ : ∃ a c, c0 = .slice a 0 c := by
      rcases hn with ⟨rfl, -⟩ | ⟨b, rfl, -⟩
      · cases h0; exact ⟨_, _, rfl⟩
      · cases h0; exact ⟨_, _, rfl⟩
    exact (Any.strings_Join_none lays156 extra156 a c sep w).mono fun e w' ⟨he, hw'⟩ => fin ⟨he, hw' ▸ .refl _ _⟩
  · rcases hn with ⟨-, h⟩ | ⟨b, rfl, h | ⟨m, c, h2, h3⟩⟩
    · exact absurd h hz
    · exact absurd h hz
    · have hp : 0 < ns.length := List.length_pos_iff.2 hz
      cases h0 with
      | slice b off len es cap ca pl q1 q2 q3 q4 q5 =>
        obtain ⟨cc, e, fr, ⟨k1, k2, k3, k4⟩, -⟩ := hw.blk b _ pl h2 q1
        obtain rfl := q4 (by omega)
        refine (Any.strings_Join lays156 extra156 pl.blk pl.off cap ns sep w (fun j x hx => ?_) (Array.getElem?_eq_some_iff.1 k1).1 hN q2 hl).mono fun e w' hh => fin hh
        obtain ⟨l, hl1, hl2⟩ := h3 j x hx
        have hl2 : l = [.string x] := hl2
        subst hl2
        have hc : c[j]? = some (.string x) := by
          have hlen : j * 1 + 1 ≤ c.length := by
            by_cases hh : j * 1 + 1 ≤ c.length
            · exact hh
            · rw [slotsOf, if_neg hh] at hl1; exact absurd hl1 (by simp)
          rw [slots_of hlen] at hl1
          simp only [Option.some.injEq] at hl1
          have := congrArg (fun l : List Value => l[0]?) hl1
          rw [List.getElem?_take, if_pos (by omega), List.getElem?_drop] at this
          simpa using this
        obtain ⟨-, cv, e1, e2⟩ := k4 j _ hc
        cases e2
        rw [cell_of k1]; exact e1
end Go.Proofs.Ytmglmjbjgfbdjaa
/- The tree's writer: behind, expr. Printed by mk24.py. -/
set_option linter.unusedVariables false
set_option linter.unusedSimpArgs false
set_option maxRecDepth 20000
set_option maxHeartbeats 8000000
namespace Go.Proofs.Ytmglmjbjgfbdjaa
open Go Ax
theorem two_of {ks : List Tr} (h : ks.length = 2) : ∃ y z, ks = [y, z] := by
  match ks, h with
  | [y, z], _ => exact ⟨y, z, rfl⟩
theorem three_of {ks : List Tr} (h : ks.length = 3) : ∃ y z u, ks = [y, z, u] := by
  match ks, h with
  | [y, z, u], _ => exact ⟨y, z, u, rfl⟩
theorem some_of {ks : List Tr} (h : 1 ≤ ks.length) : ∃ y r, ks = y :: r := by
  match ks, h with
  | y :: r, _ => exact ⟨y, r, rfl⟩
theorem map_one {ks : List Tr} : (ks.map Tr.tx).map (·.1) = ks.map (·.tx.1) := by simp [Function.comp_def]
theorem dropK {H : Heap} {sk : Value} {y : Tr} {r : List Tr} (rk : RLo 7 NodeR H sk (y :: r)) : ∃ u, aslice Try.prog 23 sk (some (.int .i64 1)) none none = some u ∧ RLo 7 NodeR H u r := by
  have := rk.drop (P := Try.prog) (t := 23) (e := 25) rfl rfl (n := 1) (by omega) (by simp)
  exact this

theorem behindW {x : Tr} (hp : ExprP x) (h13 : 13 ≤ x.kind) (he : ∀ y ∈ x.kids, WrN 28 y.tx.1 y) : WrN 47 x.tx.1 x := by
  intro H0 l R H b bs S hl
  obtain ⟨ow, sn, sk, rfl, rn, rk⟩ := R.inv
  refine AX.body (n := 113) (rs := []) Try.func47 rfl (by decide) rfl rfl (bC_sound _ _ _ _ ?_)
  (conv => whnf)
  refine Ob2.box rfl fun q H1 hq ab g1 => ?_
  have bb := hblk_of ab
  have F : FrW b H H1 := .of g1
  replace S := S.grow g1
  have hkm := ow.2.2.2
  obtain h | h | h | h | h : (x.kind = 13 ∧ x.kids.length = 1) ∨ (x.kind = 14 ∧ x.kids.length = 2) ∨ (x.kind = 15 ∧ 1 ≤ x.kids.length) ∨ (x.kind = 16 ∧ 1 ≤ x.kids.length) ∨ x.kind = 17 := by
    unfold ExprP at hp
    rcases hp with h | h | h | h | h | h | h | h | h | h | h | h | h | h <;> omega
  · obtain ⟨hk, hn⟩ := h
    obtain ⟨y, hks⟩ := List.length_eq_one_iff.1 hn
    have t13 : (x.kind == 13) = true := by rw [hk]; rfl
    have ht : x.tx.1 = atS 8 y y.tx.1 ++ [46] ++ x.str.data.toList := by rw [Tr.tx_eq, hks, hk]; rfl
    rw [ht] at hl ⊢
    rw [hks] at rk he
    obtain ⟨b0, o0, n0, k0, K0⟩ := kidAt rk 0 (y := y) rfl
    have x0 : aindexAddr Try.prog 23 sk (.int .i64 0) = _ := K0.ix
    have L0 := K0.ld _ S.g
    refine run ?_
    refine (atW (he y (by simp)) K0.nd S 8 (by ((try simp only [List.length_append, List.length_cons, List.length_nil, lim8, commaS] at hl ⊢); omega))).mono ?_
    rintro _ X ⟨S', F'⟩
    (try replace ab := S.box F' ab)
    (try replace bb := hblk_of ab)
    (try replace ac := S.box F' ac)
    (try replace bc := hblk_of ac)
    replace F := F.trans F'
    replace S := S'
    clear S' F'
    refine run ?_
    refine Ob2.lay (.cells (.row 9) (List.map Value.string [⟨#[46]⟩, x.str])) (.slice (some ⟨_, 0, none⟩) _ 1) rfl fun U pa pg _ => ?_
    replace S := S.grow pg
    replace F := F.trans (.of pg)
    (try replace ab := pg.at ab)
    (try replace bb := hblk_of ab)
    (try replace ac := pg.at ac)
    (try replace bc := hblk_of ac)
    refine run ?_
    refine (S.put (t := [46] ++ x.str.data.toList) pa (by simp [catL]) (by simp) (by ((try simp only [List.length_append, List.length_cons, List.length_nil, lim8, commaS] at hl ⊢); omega))).mono ?_
    rintro _ X ⟨S', F'⟩
    (try replace ab := S.box F' ab)
    (try replace bb := hblk_of ab)
    (try replace ac := S.box F' ac)
    (try replace bc := hblk_of ac)
    replace F := F.trans F'
    replace S := S'
    clear S' F'
    refine run ?_
    exact ⟨by simpa only [List.append_assoc] using S, F⟩
  · obtain ⟨hk, hn⟩ := h
    obtain ⟨y, z, hks⟩ := two_of hn
    have t13 : (x.kind == 13) = false := by rw [hk]; rfl
    have t14 : (x.kind == 14) = true := by rw [hk]; rfl
    have ht : x.tx.1 = atS 8 y y.tx.1 ++ [91] ++ z.tx.1 ++ [93] := by rw [Tr.tx_eq, hks, hk]; rfl
    rw [ht] at hl ⊢
    rw [hks] at rk he
    obtain ⟨b0, o0, n0, k0, K0⟩ := kidAt rk 0 (y := y) rfl
    have x0 : aindexAddr Try.prog 23 sk (.int .i64 0) = _ := K0.ix
    obtain ⟨b1, o1, n1, k1, K1⟩ := kidAt rk 1 (y := z) rfl
    have x1 : aindexAddr Try.prog 23 sk (.int .i64 1) = _ := K1.ix
    have L0 := K0.ld _ S.g
    refine run ?_
    refine (atW (he y (by simp)) K0.nd S 8 (by ((try simp only [List.length_append, List.length_cons, List.length_nil, lim8, commaS] at hl ⊢); omega))).mono ?_
    rintro _ X ⟨S', F'⟩
    (try replace ab := S.box F' ab)
    (try replace bb := hblk_of ab)
    (try replace ac := S.box F' ac)
    (try replace bc := hblk_of ac)
    replace F := F.trans F'
    replace S := S'
    clear S' F'
    refine run ?_
    refine Ob2.lay (.cells (.row 9) (List.map Value.string [⟨#[91]⟩])) (.slice (some ⟨_, 0, none⟩) _ 1) rfl fun U pa pg _ => ?_
    replace S := S.grow pg
    replace F := F.trans (.of pg)
    (try replace ab := pg.at ab)
    (try replace bb := hblk_of ab)
    (try replace ac := pg.at ac)
    (try replace bc := hblk_of ac)
    refine run ?_
    refine (S.put (t := [91]) pa (by simp [catL]) (by simp) (by ((try simp only [List.length_append, List.length_cons, List.length_nil, lim8, commaS] at hl ⊢); omega))).mono ?_
    rintro _ X ⟨S', F'⟩
    (try replace ab := S.box F' ab)
    (try replace bb := hblk_of ab)
    (try replace ac := S.box F' ac)
    (try replace bc := hblk_of ac)
    replace F := F.trans F'
    replace S := S'
    clear S' F'
    refine run ?_
    have L1 := K1.ld _ S.g
    refine run ?_
    refine (he z (by simp) K1.nd S (by ((try simp only [List.length_append, List.length_cons, List.length_nil, lim8, commaS] at hl ⊢); omega))).mono ?_
    rintro _ X ⟨S', F'⟩
    (try replace ab := S.box F' ab)
    (try replace bb := hblk_of ab)
    (try replace ac := S.box F' ac)
    (try replace bc := hblk_of ac)
    replace F := F.trans F'
    replace S := S'
    clear S' F'
    refine run ?_
    refine Ob2.lay (.cells (.row 9) (List.map Value.string [⟨#[93]⟩])) (.slice (some ⟨_, 0, none⟩) _ 1) rfl fun U pa pg _ => ?_
    replace S := S.grow pg
    replace F := F.trans (.of pg)
    (try replace ab := pg.at ab)
    (try replace bb := hblk_of ab)
    (try replace ac := pg.at ac)
    (try replace bc := hblk_of ac)
    refine run ?_
    refine (S.put (t := [93]) pa (by simp [catL]) (by simp) (by ((try simp only [List.length_append, List.length_cons, List.length_nil, lim8, commaS] at hl ⊢); omega))).mono ?_
    rintro _ X ⟨S', F'⟩
    (try replace ab := S.box F' ab)
    (try replace bb := hblk_of ab)
    (try replace ac := S.box F' ac)
    (try replace bc := hblk_of ac)
    replace F := F.trans F'
    replace S := S'
    clear S' F'
    refine run ?_
    exact ⟨by simpa only [List.append_assoc] using S, F⟩
  · obtain ⟨hk, hn⟩ := h
    obtain ⟨y, r, hks⟩ := some_of hn
    have t13 : (x.kind == 13) = false := by rw [hk]; rfl
    have t14 : (x.kind == 14) = false := by rw [hk]; rfl
    have t15 : (x.kind == 15) = true := by rw [hk]; rfl
    have ht : x.tx.1 = atS (if y.kind = 13 then 9 else 8) y y.tx.1 ++ [40] ++ commaS (r.map (·.tx.1)) ++ [41] := by rw [Tr.tx_eq, hks, hk, ← map_one]; rfl
    rw [ht] at hl ⊢
    rw [hks] at rk he hkm
    obtain ⟨b0, o0, n0, k0, K0⟩ := kidAt rk 0 (y := y) rfl
    have x0 : aindexAddr Try.prog 23 sk (.int .i64 0) = _ := K0.ix
    obtain ⟨u, us, ur⟩ := dropK rk
    have L0 := K0.ld _ S.g
    have D0 := K0.kd _ S.g
    by_cases hy : y.kind = 13
    · have d13 : (y.kind == 13) = true := by rw [hy]; rfl
      rw [if_pos hy] at hl ⊢
      refine run ?_
      refine (atW (he y (by simp)) K0.nd S 9 (by ((try simp only [List.length_append, List.length_cons, List.length_nil, lim8, commaS] at hl ⊢); omega))).mono ?_
      rintro _ X ⟨S', F'⟩
      (try replace ab := S.box F' ab)
      (try replace bb := hblk_of ab)
      (try replace ac := S.box F' ac)
      (try replace bc := hblk_of ac)
      replace F := F.trans F'
      replace S := S'
      clear S' F'
      refine run ?_
      refine Ob2.lay (.cells (.row 9) (List.map Value.string [⟨#[40]⟩])) (.slice (some ⟨_, 0, none⟩) _ 1) rfl fun U pa pg _ => ?_
      replace S := S.grow pg
      replace F := F.trans (.of pg)
      (try replace ab := pg.at ab)
      (try replace bb := hblk_of ab)
      (try replace ac := pg.at ac)
      (try replace bc := hblk_of ac)
      refine run ?_
      refine (S.put (t := [40]) pa (by simp [catL]) (by simp) (by ((try simp only [List.length_append, List.length_cons, List.length_nil, lim8, commaS] at hl ⊢); omega))).mono ?_
      rintro _ X ⟨S', F'⟩
      (try replace ab := S.box F' ab)
      (try replace bb := hblk_of ab)
      (try replace ac := S.box F' ac)
      (try replace bc := hblk_of ac)
      replace F := F.trans F'
      replace S := S'
      clear S' F'
      refine run ?_
      refine (listW ur (Nat.le_of_succ_le hkm) (fun y hy => he y (by simp [hy])) S (by ((try simp only [List.length_append, List.length_cons, List.length_nil, lim8, commaS] at hl ⊢); omega))).mono ?_
      rintro _ X ⟨S', F'⟩
      (try replace ab := S.box F' ab)
      (try replace bb := hblk_of ab)
      (try replace ac := S.box F' ac)
      (try replace bc := hblk_of ac)
      replace F := F.trans F'
      replace S := S'
      clear S' F'
      refine run ?_
      refine Ob2.lay (.cells (.row 9) (List.map Value.string [⟨#[41]⟩])) (.slice (some ⟨_, 0, none⟩) _ 1) rfl fun U pa pg _ => ?_
      replace S := S.grow pg
      replace F := F.trans (.of pg)
      (try replace ab := pg.at ab)
      (try replace bb := hblk_of ab)
      (try replace ac := pg.at ac)
      (try replace bc := hblk_of ac)
      refine run ?_
      refine (S.put (t := [41]) pa (by simp [catL]) (by simp) (by ((try simp only [List.length_append, List.length_cons, List.length_nil, lim8, commaS] at hl ⊢); omega))).mono ?_
      rintro _ X ⟨S', F'⟩
      (try replace ab := S.box F' ab)
      (try replace bb := hblk_of ab)
      (try replace ac := S.box F' ac)
      (try replace bc := hblk_of ac)
      replace F := F.trans F'
      replace S := S'
      clear S' F'
      refine run ?_
      exact ⟨by simpa only [List.append_assoc] using S, F⟩
    · have d13 : (y.kind == 13) = false := by rw [beq_eq_false_iff_ne]; exact hy
      rw [if_neg hy] at hl ⊢
      refine run ?_
      refine (atW (he y (by simp)) K0.nd S 8 (by ((try simp only [List.length_append, List.length_cons, List.length_nil, lim8, commaS] at hl ⊢); omega))).mono ?_
      rintro _ X ⟨S', F'⟩
      (try replace ab := S.box F' ab)
      (try replace bb := hblk_of ab)
      (try replace ac := S.box F' ac)
      (try replace bc := hblk_of ac)
      replace F := F.trans F'
      replace S := S'
      clear S' F'
      refine run ?_
      refine Ob2.lay (.cells (.row 9) (List.map Value.string [⟨#[40]⟩])) (.slice (some ⟨_, 0, none⟩) _ 1) rfl fun U pa pg _ => ?_
      replace S := S.grow pg
      replace F := F.trans (.of pg)
      (try replace ab := pg.at ab)
      (try replace bb := hblk_of ab)
      (try replace ac := pg.at ac)
      (try replace bc := hblk_of ac)
      refine run ?_
      refine (S.put (t := [40]) pa (by simp [catL]) (by simp) (by ((try simp only [List.length_append, List.length_cons, List.length_nil, lim8, commaS] at hl ⊢); omega))).mono ?_
      rintro _ X ⟨S', F'⟩
      (try replace ab := S.box F' ab)
      (try replace bb := hblk_of ab)
      (try replace ac := S.box F' ac)
      (try replace bc := hblk_of ac)
      replace F := F.trans F'
      replace S := S'
      clear S' F'
      refine run ?_
      refine (listW ur (Nat.le_of_succ_le hkm) (fun y hy => he y (by simp [hy])) S (by ((try simp only [List.length_append, List.length_cons, List.length_nil, lim8, commaS] at hl ⊢); omega))).mono ?_
      rintro _ X ⟨S', F'⟩
      (try replace ab := S.box F' ab)
      (try replace bb := hblk_of ab)
      (try replace ac := S.box F' ac)
      (try replace bc := hblk_of ac)
      replace F := F.trans F'
      replace S := S'
      clear S' F'
      refine run ?_
      refine Ob2.lay (.cells (.row 9) (List.map Value.string [⟨#[41]⟩])) (.slice (some ⟨_, 0, none⟩) _ 1) rfl fun U pa pg _ => ?_
      replace S := S.grow pg
      replace F := F.trans (.of pg)
      (try replace ab := pg.at ab)
      (try replace bb := hblk_of ab)
      (try replace ac := pg.at ac)
      (try replace bc := hblk_of ac)
      refine run ?_
      refine (S.put (t := [41]) pa (by simp [catL]) (by simp) (by ((try simp only [List.length_append, List.length_cons, List.length_nil, lim8, commaS] at hl ⊢); omega))).mono ?_
      rintro _ X ⟨S', F'⟩
      (try replace ab := S.box F' ab)
      (try replace bb := hblk_of ab)
      (try replace ac := S.box F' ac)
      (try replace bc := hblk_of ac)
      replace F := F.trans F'
      replace S := S'
      clear S' F'
      refine run ?_
      exact ⟨by simpa only [List.append_assoc] using S, F⟩
  · obtain ⟨hk, hn⟩ := h
    obtain ⟨y, r, hks⟩ := some_of hn
    have t13 : (x.kind == 13) = false := by rw [hk]; rfl
    have t14 : (x.kind == 14) = false := by rw [hk]; rfl
    have t15 : (x.kind == 15) = false := by rw [hk]; rfl
    have t16 : (x.kind == 16) = true := by rw [hk]; rfl
    have ht : x.tx.1 = atS 8 y y.tx.1 ++ [46] ++ x.str.data.toList ++ [40] ++ commaS (r.map (·.tx.1)) ++ [41] := by rw [Tr.tx_eq, hks, hk, ← map_one]; rfl
    rw [ht] at hl ⊢
    rw [hks] at rk he hkm
    obtain ⟨b0, o0, n0, k0, K0⟩ := kidAt rk 0 (y := y) rfl
    have x0 : aindexAddr Try.prog 23 sk (.int .i64 0) = _ := K0.ix
    obtain ⟨u, us, ur⟩ := dropK rk
    have L0 := K0.ld _ S.g
    refine run ?_
    refine (atW (he y (by simp)) K0.nd S 8 (by ((try simp only [List.length_append, List.length_cons, List.length_nil, lim8, commaS] at hl ⊢); omega))).mono ?_
    rintro _ X ⟨S', F'⟩
    (try replace ab := S.box F' ab)
    (try replace bb := hblk_of ab)
    (try replace ac := S.box F' ac)
    (try replace bc := hblk_of ac)
    replace F := F.trans F'
    replace S := S'
    clear S' F'
    refine run ?_
    refine Ob2.lay (.cells (.row 9) (List.map Value.string [⟨#[46]⟩, x.str, ⟨#[40]⟩])) (.slice (some ⟨_, 0, none⟩) _ 1) rfl fun U pa pg _ => ?_
    replace S := S.grow pg
    replace F := F.trans (.of pg)
    (try replace ab := pg.at ab)
    (try replace bb := hblk_of ab)
    (try replace ac := pg.at ac)
    (try replace bc := hblk_of ac)
    refine run ?_
    refine (S.put (t := [46] ++ x.str.data.toList ++ [40]) pa (by simp [catL]) (by simp) (by ((try simp only [List.length_append, List.length_cons, List.length_nil, lim8, commaS] at hl ⊢); omega))).mono ?_
    rintro _ X ⟨S', F'⟩
    (try replace ab := S.box F' ab)
    (try replace bb := hblk_of ab)
    (try replace ac := S.box F' ac)
    (try replace bc := hblk_of ac)
    replace F := F.trans F'
    replace S := S'
    clear S' F'
    refine run ?_
    refine (listW ur (Nat.le_of_succ_le hkm) (fun y hy => he y (by simp [hy])) S (by ((try simp only [List.length_append, List.length_cons, List.length_nil, lim8, commaS] at hl ⊢); omega))).mono ?_
    rintro _ X ⟨S', F'⟩
    (try replace ab := S.box F' ab)
    (try replace bb := hblk_of ab)
    (try replace ac := S.box F' ac)
    (try replace bc := hblk_of ac)
    replace F := F.trans F'
    replace S := S'
    clear S' F'
    refine run ?_
    refine Ob2.lay (.cells (.row 9) (List.map Value.string [⟨#[41]⟩])) (.slice (some ⟨_, 0, none⟩) _ 1) rfl fun U pa pg _ => ?_
    replace S := S.grow pg
    replace F := F.trans (.of pg)
    (try replace ab := pg.at ab)
    (try replace bb := hblk_of ab)
    (try replace ac := pg.at ac)
    (try replace bc := hblk_of ac)
    refine run ?_
    refine (S.put (t := [41]) pa (by simp [catL]) (by simp) (by ((try simp only [List.length_append, List.length_cons, List.length_nil, lim8, commaS] at hl ⊢); omega))).mono ?_
    rintro _ X ⟨S', F'⟩
    (try replace ab := S.box F' ab)
    (try replace bb := hblk_of ab)
    (try replace ac := S.box F' ac)
    (try replace bc := hblk_of ac)
    replace F := F.trans F'
    replace S := S'
    clear S' F'
    refine run ?_
    exact ⟨by simpa only [List.append_assoc] using S, F⟩
  · have hk := h
    have t13 : (x.kind == 13) = false := by rw [hk]; rfl
    have t14 : (x.kind == 14) = false := by rw [hk]; rfl
    have t15 : (x.kind == 15) = false := by rw [hk]; rfl
    have t16 : (x.kind == 16) = false := by rw [hk]; rfl
    have t17 : (x.kind == 17) = true := by rw [hk]; rfl
    have ht : x.tx.1 = (builtS x.op).data.toList ++ [40] ++ commaS (x.kids.map (·.tx.1)) ++ [41] := by rw [Tr.tx_eq, hk, ← map_one]; rfl
    rw [ht] at hl ⊢
    refine run ?_
    refine (built_ax _ _).mono ?_
    rintro _ X ⟨rfl, e⟩
    subst X
    refine run ?_
    refine Ob2.lay (.cells (.row 9) (List.map Value.string [builtS x.op, ⟨#[40]⟩])) (.slice (some ⟨_, 0, none⟩) _ 1) rfl fun U pa pg _ => ?_
    replace S := S.grow pg
    replace F := F.trans (.of pg)
    (try replace ab := pg.at ab)
    (try replace bb := hblk_of ab)
    (try replace ac := pg.at ac)
    (try replace bc := hblk_of ac)
    refine run ?_
    refine (S.put (t := (builtS x.op).data.toList ++ [40]) pa (by simp [catL]) (by simp) (by ((try simp only [List.length_append, List.length_cons, List.length_nil, lim8, commaS] at hl ⊢); omega))).mono ?_
    rintro _ X ⟨S', F'⟩
    (try replace ab := S.box F' ab)
    (try replace bb := hblk_of ab)
    (try replace ac := S.box F' ac)
    (try replace bc := hblk_of ac)
    replace F := F.trans F'
    replace S := S'
    clear S' F'
    refine run ?_
    refine (listW rk hkm he S (by ((try simp only [List.length_append, List.length_cons, List.length_nil, lim8, commaS] at hl ⊢); omega))).mono ?_
    rintro _ X ⟨S', F'⟩
    (try replace ab := S.box F' ab)
    (try replace bb := hblk_of ab)
    (try replace ac := S.box F' ac)
    (try replace bc := hblk_of ac)
    replace F := F.trans F'
    replace S := S'
    clear S' F'
    refine run ?_
    refine Ob2.lay (.cells (.row 9) (List.map Value.string [⟨#[41]⟩])) (.slice (some ⟨_, 0, none⟩) _ 1) rfl fun U pa pg _ => ?_
    replace S := S.grow pg
    replace F := F.trans (.of pg)
    (try replace ab := pg.at ab)
    (try replace bb := hblk_of ab)
    (try replace ac := pg.at ac)
    (try replace bc := hblk_of ac)
    refine run ?_
    refine (S.put (t := [41]) pa (by simp [catL]) (by simp) (by ((try simp only [List.length_append, List.length_cons, List.length_nil, lim8, commaS] at hl ⊢); omega))).mono ?_
    rintro _ X ⟨S', F'⟩
    (try replace ab := S.box F' ab)
    (try replace bb := hblk_of ab)
    (try replace ac := S.box F' ac)
    (try replace bc := hblk_of ac)
    replace F := F.trans F'
    replace S := S'
    clear S' F'
    refine run ?_
    exact ⟨by simpa only [List.append_assoc] using S, F⟩
end Go.Proofs.Ytmglmjbjgfbdjaa
/- The tree's writer: expr. Printed by mk25.py. -/
set_option linter.unusedVariables false
set_option linter.unusedSimpArgs false
set_option maxRecDepth 20000
set_option maxHeartbeats 8000000
namespace Go.Proofs.Ytmglmjbjgfbdjaa
open Go Ax
theorem bstr_list (l : List UInt8) : (bstr l).data.toList = l := by simp [bstr]

theorem joinS_big (sep : List UInt8) (hs : 0 < sep.length) : ∀ L : List (List UInt8), L.length ≤ (joinS sep L).length + 1
  | [] => by simp [joinS]
  | [t] => by simp [joinS]
  | t :: u :: ts => by
    have := joinS_big sep hs (u :: ts)
    simp only [joinS, List.length_append, List.length_cons] at this ⊢
    omega
theorem exprW {x : Tr} (hp : ExprP x) (tx : Tidy x) (he : x.kind ≠ 8 → ∀ y ∈ x.kids, WrN 28 y.tx.1 y) (hs : x.kind = 8 → ∀ y ∈ x.kids, WrN 18 y.tx.2.1 y) : WrN 28 x.tx.1 x := by
  intro H0 l R H b bs S hl
  obtain ⟨ow, sn, sk, rfl, rn, rk⟩ := R.inv
  refine AX.body (n := 105) (rs := []) Try.func28 rfl (by decide) rfl rfl (bC_sound _ _ _ _ ?_)
  (conv => whnf)
  refine Ob2.box rfl fun q H1 hq ab g1 => ?_
  have bb := hblk_of ab
  have F : FrW b H H1 := .of g1
  replace S := S.grow g1
  have hkm := ow.2.2.2
  by_cases h13 : 13 ≤ x.kind
  · have e8 : x.kind ≠ 8 := by omega
    have t1 : (x.kind == 1) = false := by rw [beq_eq_false_iff_ne]; omega
    have t6 : (x.kind == 6) = false := by rw [beq_eq_false_iff_ne]; omega
    have t2 : (x.kind == 2) = false := by rw [beq_eq_false_iff_ne]; omega
    have t3 : (x.kind == 3) = false := by rw [beq_eq_false_iff_ne]; omega
    have t4 : (x.kind == 4) = false := by rw [beq_eq_false_iff_ne]; omega
    have t5 : (x.kind == 5) = false := by rw [beq_eq_false_iff_ne]; omega
    have t7 : (x.kind == 7) = false := by rw [beq_eq_false_iff_ne]; omega
    have t8 : (x.kind == 8) = false := by rw [beq_eq_false_iff_ne]; omega
    have t9 : (x.kind == 9) = false := by rw [beq_eq_false_iff_ne]; omega
    have t10 : (x.kind == 10) = false := by rw [beq_eq_false_iff_ne]; omega
    have t11 : (x.kind == 11) = false := by rw [beq_eq_false_iff_ne]; omega
    have t12 : (x.kind == 12) = false := by rw [beq_eq_false_iff_ne]; omega
    refine run ?_
    refine (behindW hp h13 (he e8) R S hl).mono ?_
    rintro _ X ⟨S', F'⟩
    (try replace ab := S.box F' ab)
    (try replace bb := hblk_of ab)
    (try replace ac := S.box F' ac)
    (try replace bc := hblk_of ac)
    replace F := F.trans F'
    replace S := S'
    clear S' F'
    refine run ?_
    exact ⟨S, F⟩
  unfold ExprP at hp
  rcases hp with h | h | h | h | h | h | h | h | h | h | h | h | h | h
  · obtain ⟨h, -⟩ := h
    rcases h with h | h
    · have hk : x.kind = 1 := h
      have t1 : (x.kind == 1) = true := by rw [hk]; rfl
      have ht : x.tx.1 = [110, 117, 108, 108] := by rw [Tr.tx_eq, hk]; rfl
      rw [ht] at hl ⊢
      refine run ?_
      refine Ob2.lay (.cells (.row 9) (List.map Value.string [⟨#[110, 117, 108, 108]⟩])) (.slice (some ⟨_, 0, none⟩) _ 1) rfl fun U pa pg _ => ?_
      replace S := S.grow pg
      replace F := F.trans (.of pg)
      (try replace ab := pg.at ab)
      (try replace bb := hblk_of ab)
      (try replace ac := pg.at ac)
      (try replace bc := hblk_of ac)
      refine run ?_
      refine (S.put (t := [110, 117, 108, 108]) pa (by simp [catL]) (by simp) (by ((try simp only [List.length_append, List.length_cons, List.length_nil, lim8, commaS] at hl ⊢); omega))).mono ?_
      rintro _ X ⟨S', F'⟩
      (try replace ab := S.box F' ab)
      (try replace bb := hblk_of ab)
      (try replace ac := S.box F' ac)
      (try replace bc := hblk_of ac)
      replace F := F.trans F'
      replace S := S'
      clear S' F'
      refine run ?_
      exact ⟨by simpa only [List.append_assoc] using S, F⟩
    · have hk : x.kind = 6 := h
      have t1 : (x.kind == 1) = false := by rw [hk]; rfl
      have t6 : (x.kind == 6) = true := by rw [hk]; rfl
      have ht : x.tx.1 = [116, 104, 105, 115] := by rw [Tr.tx_eq, hk]; rfl
      rw [ht] at hl ⊢
      refine run ?_
      refine Ob2.lay (.cells (.row 9) (List.map Value.string [⟨#[116, 104, 105, 115]⟩])) (.slice (some ⟨_, 0, none⟩) _ 1) rfl fun U pa pg _ => ?_
      replace S := S.grow pg
      replace F := F.trans (.of pg)
      (try replace ab := pg.at ab)
      (try replace bb := hblk_of ab)
      (try replace ac := pg.at ac)
      (try replace bc := hblk_of ac)
      refine run ?_
      refine (S.put (t := [116, 104, 105, 115]) pa (by simp [catL]) (by simp) (by ((try simp only [List.length_append, List.length_cons, List.length_nil, lim8, commaS] at hl ⊢); omega))).mono ?_
      rintro _ X ⟨S', F'⟩
      (try replace ab := S.box F' ab)
      (try replace bb := hblk_of ab)
      (try replace ac := S.box F' ac)
      (try replace bc := hblk_of ac)
      replace F := F.trans F'
      replace S := S'
      clear S' F'
      refine run ?_
      exact ⟨by simpa only [List.append_assoc] using S, F⟩
  · obtain ⟨hk, -, hb, -⟩ := h
    have t1 : (x.kind == 1) = false := by rw [hk]; rfl
    have t6 : (x.kind == 6) = false := by rw [hk]; rfl
    have t2 : (x.kind == 2) = true := by rw [hk]; rfl
    by_cases h1 : x.num = 1
    · have d : (x.num == 1) = true := by rw [h1]; rfl
      have ht : x.tx.1 = [116, 114, 117, 101] := by rw [Tr.tx_eq, hk]; exact if_pos h1
      rw [ht] at hl ⊢
      refine run ?_
      refine Ob2.lay (.cells (.row 9) (List.map Value.string [⟨#[116, 114, 117, 101]⟩])) (.slice (some ⟨_, 0, none⟩) _ 1) rfl fun U pa pg _ => ?_
      replace S := S.grow pg
      replace F := F.trans (.of pg)
      (try replace ab := pg.at ab)
      (try replace bb := hblk_of ab)
      (try replace ac := pg.at ac)
      (try replace bc := hblk_of ac)
      refine run ?_
      refine (S.put (t := [116, 114, 117, 101]) pa (by simp [catL]) (by simp) (by ((try simp only [List.length_append, List.length_cons, List.length_nil, lim8, commaS] at hl ⊢); omega))).mono ?_
      rintro _ X ⟨S', F'⟩
      (try replace ab := S.box F' ab)
      (try replace bb := hblk_of ab)
      (try replace ac := S.box F' ac)
      (try replace bc := hblk_of ac)
      replace F := F.trans F'
      replace S := S'
      clear S' F'
      refine run ?_
      exact ⟨by simpa only [List.append_assoc] using S, F⟩
    · have d : (x.num == 1) = false := by rw [beq_eq_false_iff_ne]; exact h1
      have ht : x.tx.1 = [102, 97, 108, 115, 101] := by rw [Tr.tx_eq, hk]; exact if_neg h1
      rw [ht] at hl ⊢
      refine run ?_
      refine Ob2.lay (.cells (.row 9) (List.map Value.string [⟨#[102, 97, 108, 115, 101]⟩])) (.slice (some ⟨_, 0, none⟩) _ 1) rfl fun U pa pg _ => ?_
      replace S := S.grow pg
      replace F := F.trans (.of pg)
      (try replace ab := pg.at ab)
      (try replace bb := hblk_of ab)
      (try replace ac := pg.at ac)
      (try replace bc := hblk_of ac)
      refine run ?_
      refine (S.put (t := [102, 97, 108, 115, 101]) pa (by simp [catL]) (by simp) (by ((try simp only [List.length_append, List.length_cons, List.length_nil, lim8, commaS] at hl ⊢); omega))).mono ?_
      rintro _ X ⟨S', F'⟩
      (try replace ab := S.box F' ab)
      (try replace bb := hblk_of ab)
      (try replace ac := S.box F' ac)
      (try replace bc := hblk_of ac)
      replace F := F.trans F'
      replace S := S'
      clear S' F'
      refine run ?_
      exact ⟨by simpa only [List.append_assoc] using S, F⟩
  · obtain ⟨hk, -, h0, h1, -⟩ := h
    have t1 : (x.kind == 1) = false := by rw [hk]; rfl
    have t6 : (x.kind == 6) = false := by rw [hk]; rfl
    have t2 : (x.kind == 2) = false := by rw [hk]; rfl
    have t3 : (x.kind == 3) = true := by rw [hk]; rfl
    obtain ⟨m, hm⟩ := Int.eq_ofNat_of_zero_le h0
    have ht : x.tx.1 = decL m := by rw [Tr.tx_eq, hk, hm]; rfl
    rw [ht] at hl ⊢
    have hc := numDigits_ax H1 (n0 := m) (by omega)
    rw [← hm] at hc
    refine run ?_
    refine hc.mono ?_
    rintro _ X ⟨rfl, e⟩
    subst X
    refine run ?_
    refine Ob2.lay (.cells (.row 9) (List.map Value.string [⟨(decL m).toArray⟩])) (.slice (some ⟨_, 0, none⟩) _ 1) rfl fun U pa pg _ => ?_
    replace S := S.grow pg
    replace F := F.trans (.of pg)
    (try replace ab := pg.at ab)
    (try replace bb := hblk_of ab)
    (try replace ac := pg.at ac)
    (try replace bc := hblk_of ac)
    refine run ?_
    refine (S.put (t := decL m) pa (by simp [catL]) (by simp) (by ((try simp only [List.length_append, List.length_cons, List.length_nil, lim8, commaS] at hl ⊢); omega))).mono ?_
    rintro _ X ⟨S', F'⟩
    (try replace ab := S.box F' ab)
    (try replace bb := hblk_of ab)
    (try replace ac := S.box F' ac)
    (try replace bc := hblk_of ac)
    replace F := F.trans F'
    replace S := S'
    clear S' F'
    refine run ?_
    exact ⟨by simpa only [List.append_assoc] using S, F⟩
  · obtain ⟨hk, -, h0, -⟩ := h
    have t1 : (x.kind == 1) = false := by rw [hk]; rfl
    have t6 : (x.kind == 6) = false := by rw [hk]; rfl
    have t2 : (x.kind == 2) = false := by rw [hk]; rfl
    have t3 : (x.kind == 3) = false := by rw [hk]; rfl
    have t4 : (x.kind == 4) = true := by rw [hk]; rfl
    have ht : x.tx.1 = quoteS x.str.data.toList := by rw [Tr.tx_eq, hk]; rfl
    rw [ht] at hl ⊢
    refine run ?_
    refine (quote_ax H1 (s := x.str) (by omega)).mono ?_
    rintro _ X ⟨rfl, e⟩
    subst X
    refine run ?_
    refine Ob2.lay (.cells (.row 9) (List.map Value.string [⟨(quoteS x.str.data.toList).toArray⟩])) (.slice (some ⟨_, 0, none⟩) _ 1) rfl fun U pa pg _ => ?_
    replace S := S.grow pg
    replace F := F.trans (.of pg)
    (try replace ab := pg.at ab)
    (try replace bb := hblk_of ab)
    (try replace ac := pg.at ac)
    (try replace bc := hblk_of ac)
    refine run ?_
    refine (S.put (t := quoteS x.str.data.toList) pa (by simp [catL]) (by simp) (by ((try simp only [List.length_append, List.length_cons, List.length_nil, lim8, commaS] at hl ⊢); omega))).mono ?_
    rintro _ X ⟨S', F'⟩
    (try replace ab := S.box F' ab)
    (try replace bb := hblk_of ab)
    (try replace ac := S.box F' ac)
    (try replace bc := hblk_of ac)
    replace F := F.trans F'
    replace S := S'
    clear S' F'
    refine run ?_
    exact ⟨by simpa only [List.append_assoc] using S, F⟩
  · obtain ⟨hk, -⟩ := h
    have t1 : (x.kind == 1) = false := by rw [hk]; rfl
    have t6 : (x.kind == 6) = false := by rw [hk]; rfl
    have t2 : (x.kind == 2) = false := by rw [hk]; rfl
    have t3 : (x.kind == 3) = false := by rw [hk]; rfl
    have t4 : (x.kind == 4) = false := by rw [hk]; rfl
    have t5 : (x.kind == 5) = true := by rw [hk]; rfl
    have ht : x.tx.1 = x.str.data.toList := by rw [Tr.tx_eq, hk]; rfl
    rw [ht] at hl ⊢
    refine run ?_
    refine Ob2.lay (.cells (.row 9) (List.map Value.string [x.str])) (.slice (some ⟨_, 0, none⟩) _ 1) rfl fun U pa pg _ => ?_
    replace S := S.grow pg
    replace F := F.trans (.of pg)
    (try replace ab := pg.at ab)
    (try replace bb := hblk_of ab)
    (try replace ac := pg.at ac)
    (try replace bc := hblk_of ac)
    refine run ?_
    refine (S.put (t := x.str.data.toList) pa (by simp [catL]) (by simp) (by ((try simp only [List.length_append, List.length_cons, List.length_nil, lim8, commaS] at hl ⊢); omega))).mono ?_
    rintro _ X ⟨S', F'⟩
    (try replace ab := S.box F' ab)
    (try replace bb := hblk_of ab)
    (try replace ac := S.box F' ac)
    (try replace bc := hblk_of ac)
    replace F := F.trans F'
    replace S := S'
    clear S' F'
    refine run ?_
    exact ⟨by simpa only [List.append_assoc] using S, F⟩
  · obtain ⟨hk, -, -, -, hn⟩ := h
    have t1 : (x.kind == 1) = false := by rw [hk]; rfl
    have t6 : (x.kind == 6) = false := by rw [hk]; rfl
    have t2 : (x.kind == 2) = false := by rw [hk]; rfl
    have t3 : (x.kind == 3) = false := by rw [hk]; rfl
    have t4 : (x.kind == 4) = false := by rw [hk]; rfl
    have t5 : (x.kind == 5) = false := by rw [hk]; rfl
    have t7 : (x.kind == 7) = true := by rw [hk]; rfl
    have ht : x.tx.1 = [123] ++ commaS (fieldS x.names (x.kids.map (·.tx.1))) ++ [125] := by rw [Tr.tx_eq, hk, ← map_one]; rfl
    rw [ht] at hl ⊢
    refine run ?_
    refine (objectW hn (he (by omega)) R S hl).mono ?_
    rintro _ X ⟨S', F'⟩
    (try replace ab := S.box F' ab)
    (try replace bb := hblk_of ab)
    (try replace ac := S.box F' ac)
    (try replace bc := hblk_of ac)
    replace F := F.trans F'
    replace S := S'
    clear S' F'
    refine run ?_
    exact ⟨S, F⟩
  · obtain ⟨hk, -, -, -, hn⟩ := h
    have t1 : (x.kind == 1) = false := by rw [hk]; rfl
    have t6 : (x.kind == 6) = false := by rw [hk]; rfl
    have t2 : (x.kind == 2) = false := by rw [hk]; rfl
    have t3 : (x.kind == 3) = false := by rw [hk]; rfl
    have t4 : (x.kind == 4) = false := by rw [hk]; rfl
    have t5 : (x.kind == 5) = false := by rw [hk]; rfl
    have t7 : (x.kind == 7) = false := by rw [hk]; rfl
    have t8 : (x.kind == 8) = true := by rw [hk]; rfl
    have ht : x.tx.1 = [102, 110, 40] ++ commaS (x.names.map (·.data.toList)) ++ [41, 32] ++ braceS (x.kids.map (·.tx.2.1)) := by
      have e : (x.kids.map Tr.tx).map (·.2.1) = x.kids.map (·.tx.2.1) := by simp [Function.comp_def]
      rw [Tr.tx_eq, hk, ← e]; rfl
    rw [ht] at hl ⊢
    refine run ?_
    refine (join_ax (strR.grow rn S.g) (by have := ow.2.1; simp only [lim8, List.length_append] at hl; have := joinS_big [44, 32] (by simp) (x.names.map (·.data.toList)); simp only [List.length_map] at this; simp only [commaS] at hl; omega) ⟨#[44, 32]⟩ (by simp only [lim8, List.length_append, commaS] at hl; show (joinS [44, 32] _).length ≤ _; omega)).mono ?_
    rintro _ X ⟨rfl, e⟩
    subst X
    refine run ?_
    refine Ob2.lay (.cells (.row 9) (List.map Value.string [⟨#[102, 110, 40]⟩, ⟨(joinS [44, 32] (x.names.map (·.data.toList))).toArray⟩, ⟨#[41, 32]⟩])) (.slice (some ⟨_, 0, none⟩) _ 1) rfl fun U pa pg _ => ?_
    replace S := S.grow pg
    replace F := F.trans (.of pg)
    (try replace ab := pg.at ab)
    (try replace bb := hblk_of ab)
    (try replace ac := pg.at ac)
    (try replace bc := hblk_of ac)
    refine run ?_
    refine (S.put (t := [102, 110, 40] ++ commaS (x.names.map (·.data.toList)) ++ [41, 32]) pa (by simp [catL]) (by simp) (by ((try simp only [List.length_append, List.length_cons, List.length_nil, lim8, commaS] at hl ⊢); omega))).mono ?_
    rintro _ X ⟨S', F'⟩
    (try replace ab := S.box F' ab)
    (try replace bb := hblk_of ab)
    (try replace ac := S.box F' ac)
    (try replace bc := hblk_of ac)
    replace F := F.trans F'
    replace S := S'
    clear S' F'
    refine run ?_
    refine (blockW rk hkm (hs hk) S (by ((try simp only [List.length_append, List.length_cons, List.length_nil, lim8, commaS] at hl ⊢); omega))).mono ?_
    rintro _ X ⟨S', F'⟩
    (try replace ab := S.box F' ab)
    (try replace bb := hblk_of ab)
    (try replace ac := S.box F' ac)
    (try replace bc := hblk_of ac)
    replace F := F.trans F'
    replace S := S'
    clear S' F'
    refine run ?_
    exact ⟨by simpa only [List.append_assoc] using S, F⟩
  · obtain ⟨hk, -, ho, hn⟩ := h
    have t1 : (x.kind == 1) = false := by rw [hk]; rfl
    have t6 : (x.kind == 6) = false := by rw [hk]; rfl
    have t2 : (x.kind == 2) = false := by rw [hk]; rfl
    have t3 : (x.kind == 3) = false := by rw [hk]; rfl
    have t4 : (x.kind == 4) = false := by rw [hk]; rfl
    have t5 : (x.kind == 5) = false := by rw [hk]; rfl
    have t7 : (x.kind == 7) = false := by rw [hk]; rfl
    have t8 : (x.kind == 8) = false := by rw [hk]; rfl
    have t9 : (x.kind == 9) = true := by rw [hk]; rfl
    obtain ⟨y, hks⟩ := List.length_eq_one_iff.1 hn
    have he' := he (by omega)
    rw [hks] at rk he'
    obtain ⟨b0, o0, n0, k0, K0⟩ := kidAt rk 0 (y := y) rfl
    have x0 : aindexAddr Try.prog 23 sk (.int .i64 0) = _ := K0.ix
    have hr : rankP x.kind x.op = 7 := by rw [hk]; rfl
    rcases ho with ho | ho
    · have ht : x.tx.1 = [45] ++ atS 7 y y.tx.1 := by rw [Tr.tx_eq, hks, hk, ho]; rfl
      rw [ht] at hl ⊢
      refine run ?_
      refine Ob.of (a := .string ⟨#[45]⟩) (by rw [ho]; rfl) ?_
      refine run ?_
      refine Ob2.lay (.cells (.row 9) (List.map Value.string [⟨#[45]⟩])) (.slice (some ⟨_, 0, none⟩) _ 1) rfl fun U pa pg _ => ?_
      replace S := S.grow pg
      replace F := F.trans (.of pg)
      (try replace ab := pg.at ab)
      (try replace bb := hblk_of ab)
      (try replace ac := pg.at ac)
      (try replace bc := hblk_of ac)
      refine run ?_
      refine (S.put (t := [45]) pa (by simp [catL]) (by simp) (by ((try simp only [List.length_append, List.length_cons, List.length_nil, lim8, commaS] at hl ⊢); omega))).mono ?_
      rintro _ X ⟨S', F'⟩
      (try replace ab := S.box F' ab)
      (try replace bb := hblk_of ab)
      (try replace ac := S.box F' ac)
      (try replace bc := hblk_of ac)
      replace F := F.trans F'
      replace S := S'
      clear S' F'
      refine run ?_
      have L0 := K0.ld _ S.g
      apply SW.drawH [(0, [], [80, 81, 82, 83, 84, 85], false), (1, [], [79, 84, 85], false), (2, [(80, 1)], [79, 80, 84, 85], false), (3, [(80, 1), (81, 2)], [79, 80, 81, 84, 85], false), (4, [(80, 1), (81, 2), (82, 3)], [79, 80, 81, 82, 84, 85], false), (5, [], [79, 80, 81, 82, 83], false), (6, [(84, 5)], [79, 80, 81, 82, 83, 84], true), (7, [(79, 0), (80, 1), (81, 2), (82, 3), (83, 4), (84, 5), (85, 6)], [79, 80, 81, 82, 83, 84, 85], true)]
        [(79, 0), (80, 1), (81, 2), (82, 3), (83, 4), (84, 5), (85, 6), (86, 7)] [6]
        [(0, _), (3, _)] rfl (by kernel_rfl)
      case hF => exact ⟨rfl, rfl, trivial⟩
      refine run ?_
      refine (rank_ax (R.grow S.g)).mono ?_
      rintro _ X ⟨rfl, e⟩
      subst X
      rw [hr]
      refine run ?_
      refine (atW (he' y (by simp)) K0.nd S 7 (by ((try simp only [List.length_append, List.length_cons, List.length_nil, lim8, commaS] at hl ⊢); omega))).mono ?_
      rintro _ X ⟨S', F'⟩
      (try replace ab := S.box F' ab)
      (try replace bb := hblk_of ab)
      (try replace ac := S.box F' ac)
      (try replace bc := hblk_of ac)
      replace F := F.trans F'
      replace S := S'
      clear S' F'
      refine run ?_
      exact ⟨by simpa only [List.append_assoc] using S, F⟩
    · have ht : x.tx.1 = [33] ++ atS 7 y y.tx.1 := by rw [Tr.tx_eq, hks, hk, ho]; rfl
      rw [ht] at hl ⊢
      refine run ?_
      refine Ob.of (a := .string ⟨#[33]⟩) (by rw [ho]; rfl) ?_
      refine run ?_
      refine Ob2.lay (.cells (.row 9) (List.map Value.string [⟨#[33]⟩])) (.slice (some ⟨_, 0, none⟩) _ 1) rfl fun U pa pg _ => ?_
      replace S := S.grow pg
      replace F := F.trans (.of pg)
      (try replace ab := pg.at ab)
      (try replace bb := hblk_of ab)
      (try replace ac := pg.at ac)
      (try replace bc := hblk_of ac)
      refine run ?_
      refine (S.put (t := [33]) pa (by simp [catL]) (by simp) (by ((try simp only [List.length_append, List.length_cons, List.length_nil, lim8, commaS] at hl ⊢); omega))).mono ?_
      rintro _ X ⟨S', F'⟩
      (try replace ab := S.box F' ab)
      (try replace bb := hblk_of ab)
      (try replace ac := S.box F' ac)
      (try replace bc := hblk_of ac)
      replace F := F.trans F'
      replace S := S'
      clear S' F'
      refine run ?_
      have L0 := K0.ld _ S.g
      apply SW.drawH [(0, [], [80, 81, 82, 83, 84, 85], false), (1, [], [79, 84, 85], false), (2, [(80, 1)], [79, 80, 84, 85], false), (3, [(80, 1), (81, 2)], [79, 80, 81, 84, 85], false), (4, [(80, 1), (81, 2), (82, 3)], [79, 80, 81, 82, 84, 85], false), (5, [], [79, 80, 81, 82, 83], false), (6, [(84, 5)], [79, 80, 81, 82, 83, 84], true), (7, [(79, 0), (80, 1), (81, 2), (82, 3), (83, 4), (84, 5), (85, 6)], [79, 80, 81, 82, 83, 84, 85], true)]
        [(79, 0), (80, 1), (81, 2), (82, 3), (83, 4), (84, 5), (85, 6), (86, 7)] [6]
        [(0, _), (3, _)] rfl (by kernel_rfl)
      case hF => exact ⟨rfl, rfl, trivial⟩
      refine run ?_
      refine (rank_ax (R.grow S.g)).mono ?_
      rintro _ X ⟨rfl, e⟩
      subst X
      rw [hr]
      refine run ?_
      refine (atW (he' y (by simp)) K0.nd S 7 (by ((try simp only [List.length_append, List.length_cons, List.length_nil, lim8, commaS] at hl ⊢); omega))).mono ?_
      rintro _ X ⟨S', F'⟩
      (try replace ab := S.box F' ab)
      (try replace bb := hblk_of ab)
      (try replace ac := S.box F' ac)
      (try replace bc := hblk_of ac)
      replace F := F.trans F'
      replace S := S'
      clear S' F'
      refine run ?_
      exact ⟨by simpa only [List.append_assoc] using S, F⟩
  · obtain ⟨hk, -, ho1, ho2, hn⟩ := h
    have t1 : (x.kind == 1) = false := by rw [hk]; rfl
    have t6 : (x.kind == 6) = false := by rw [hk]; rfl
    have t2 : (x.kind == 2) = false := by rw [hk]; rfl
    have t3 : (x.kind == 3) = false := by rw [hk]; rfl
    have t4 : (x.kind == 4) = false := by rw [hk]; rfl
    have t5 : (x.kind == 5) = false := by rw [hk]; rfl
    have t7 : (x.kind == 7) = false := by rw [hk]; rfl
    have t8 : (x.kind == 8) = false := by rw [hk]; rfl
    have t9 : (x.kind == 9) = false := by rw [hk]; rfl
    have t10 : (x.kind == 10) = true := by rw [hk]; rfl
    obtain ⟨y, z, hks⟩ := two_of hn
    have he' := he (by omega)
    rw [hks] at he'
    have ht : x.tx.1 = atS (rankP x.kind x.op) y y.tx.1 ++ [32] ++ (signT x.op).data.toList ++ [32] ++ atS (rankP x.kind x.op + 1) z z.tx.1 := by rw [Tr.tx_eq, hks, hk]; rfl
    rw [ht] at hl ⊢
    refine run ?_
    apply SW.drawH [(0, [], [90, 91, 92, 93], false), (1, [], [89, 91, 92, 93], false), (2, [], [89, 90], false), (3, [(91, 2)], [89, 90, 91], false), (4, [(91, 2), (92, 3)], [89, 90, 91, 92], true), (5, [(89, 0), (90, 1), (91, 2), (92, 3), (93, 4)], [89, 90, 91, 92, 93], true)]
      [(89, 0), (90, 1), (91, 2), (92, 3), (93, 4), (94, 5)] [4]
      [(0, _), (3, _)] rfl (by kernel_rfl)
    case hF => exact ⟨rfl, rfl, trivial⟩
    refine run ?_
    refine (sign_ax _ _).mono ?_
    rintro _ X ⟨rfl, e⟩
    subst X
    refine run ?_
    refine (twoW hks (he' y (by simp)) (he' z (by simp)) (signT x.op) R S hl).mono ?_
    rintro _ X ⟨S', F'⟩
    (try replace ab := S.box F' ab)
    (try replace bb := hblk_of ab)
    (try replace ac := S.box F' ac)
    (try replace bc := hblk_of ac)
    replace F := F.trans F'
    replace S := S'
    clear S' F'
    refine run ?_
    exact ⟨S, F⟩
  · obtain ⟨h, -, hn⟩ := h
    obtain ⟨y, z, hks⟩ := two_of hn
    have he' := he (by omega)
    rw [hks] at he'
    rcases h with hk | hk | hk
    · have ht : x.tx.1 = atS (rankP x.kind x.op) y y.tx.1 ++ [32] ++ [38, 38] ++ [32] ++ atS (rankP x.kind x.op + 1) z z.tx.1 := by rw [Tr.tx_eq, hks, hk]; rfl
      have t1 : (x.kind == 1) = false := by rw [hk]; rfl
      have t6 : (x.kind == 6) = false := by rw [hk]; rfl
      have t2 : (x.kind == 2) = false := by rw [hk]; rfl
      have t3 : (x.kind == 3) = false := by rw [hk]; rfl
      have t4 : (x.kind == 4) = false := by rw [hk]; rfl
      have t5 : (x.kind == 5) = false := by rw [hk]; rfl
      have t7 : (x.kind == 7) = false := by rw [hk]; rfl
      have t8 : (x.kind == 8) = false := by rw [hk]; rfl
      have t9 : (x.kind == 9) = false := by rw [hk]; rfl
      have t10 : (x.kind == 10) = false := by rw [hk]; rfl
      have t11 : (x.kind == 11) = true := by rw [hk]; rfl
      rw [ht] at hl ⊢
      refine run ?_
      refine (twoW hks (he' y (by simp)) (he' z (by simp)) ⟨#[38, 38]⟩ R S hl).mono ?_
      rintro _ X ⟨S', F'⟩
      (try replace ab := S.box F' ab)
      (try replace bb := hblk_of ab)
      (try replace ac := S.box F' ac)
      (try replace bc := hblk_of ac)
      replace F := F.trans F'
      replace S := S'
      clear S' F'
      refine run ?_
      exact ⟨S, F⟩
    · have ht : x.tx.1 = atS (rankP x.kind x.op) y y.tx.1 ++ [32] ++ [124, 124] ++ [32] ++ atS (rankP x.kind x.op + 1) z z.tx.1 := by rw [Tr.tx_eq, hks, hk]; rfl
      have t1 : (x.kind == 1) = false := by rw [hk]; rfl
      have t6 : (x.kind == 6) = false := by rw [hk]; rfl
      have t2 : (x.kind == 2) = false := by rw [hk]; rfl
      have t3 : (x.kind == 3) = false := by rw [hk]; rfl
      have t4 : (x.kind == 4) = false := by rw [hk]; rfl
      have t5 : (x.kind == 5) = false := by rw [hk]; rfl
      have t7 : (x.kind == 7) = false := by rw [hk]; rfl
      have t8 : (x.kind == 8) = false := by rw [hk]; rfl
      have t9 : (x.kind == 9) = false := by rw [hk]; rfl
      have t10 : (x.kind == 10) = false := by rw [hk]; rfl
      have t11 : (x.kind == 11) = false := by rw [hk]; rfl
      have t12 : (x.kind == 12) = true := by rw [hk]; rfl
      rw [ht] at hl ⊢
      refine run ?_
      refine (twoW hks (he' y (by simp)) (he' z (by simp)) ⟨#[124, 124]⟩ R S hl).mono ?_
      rintro _ X ⟨S', F'⟩
      (try replace ab := S.box F' ab)
      (try replace bb := hblk_of ab)
      (try replace ac := S.box F' ac)
      (try replace bc := hblk_of ac)
      replace F := F.trans F'
      replace S := S'
      clear S' F'
      refine run ?_
      exact ⟨S, F⟩
    · omega
  · omega
  · omega
  · omega
  · omega
end Go.Proofs.Ytmglmjbjgfbdjaa
/- The tree's writer: place, stmt; a right tree is written as its text. Printed by mk26.py. -/
set_option linter.unusedVariables false
set_option linter.unusedSimpArgs false
set_option maxRecDepth 20000
set_option maxHeartbeats 8000000
namespace Go.Proofs.Ytmglmjbjgfbdjaa
open Go Ax

theorem placeW {x : Tr} (hp : StmtP x) (hk : x.kind = 23 ∨ x.kind = 24 ∨ x.kind = 25 ∨ x.kind = 26) (he : ∀ y ∈ x.kids, WrN 28 y.tx.1 y) : WrN 30 x.tx.2.1 x := by
  intro H0 l R H b bs S hl
  obtain ⟨ow, sn, sk, rfl, rn, rk⟩ := R.inv
  refine AX.body (n := 70) (rs := []) Try.func30 rfl (by decide) rfl rfl (bC_sound _ _ _ _ ?_)
  (conv => whnf)
  refine Ob2.box rfl fun q H1 hq ab g1 => ?_
  have bb := hblk_of ab
  have F : FrW b H H1 := .of g1
  replace S := S.grow g1
  have hkm := ow.2.2.2
  obtain h | h | h | h : (x.kind = 23 ∧ x.kids.length = 2) ∨ (x.kind = 24 ∧ x.kids.length = 3) ∨ (x.kind = 25 ∧ x.kids.length = 1) ∨ (x.kind = 26 ∧ x.kids.length = 2) := by
    unfold StmtP at hp; omega
  · obtain ⟨hk, hn⟩ := h
    obtain ⟨y, z, hks⟩ := two_of hn
    have t23 : (x.kind == 23) = true := by rw [hk]; rfl
    have t24 : (x.kind == 24) = false := by rw [hk]; rfl
    have t25 : (x.kind == 25) = false := by rw [hk]; rfl
    have t26 : (x.kind == 26) = false := by rw [hk]; rfl
    have ht : x.tx.2.1 = atS 8 y y.tx.1 ++ [46] ++ x.str.data.toList ++ [32, 61, 32] ++ z.tx.1 ++ [59] := by rw [Tr.tx_eq, hks, hk]; rfl
    rw [ht] at hl ⊢
    rw [hks] at rk he
    obtain ⟨b0, o0, n0, k0, K0⟩ := kidAt rk 0 (y := y) rfl
    have x0 : aindexAddr Try.prog 23 sk (.int .i64 0) = _ := K0.ix
    obtain ⟨b1, o1, n1, k1, K1⟩ := kidAt rk 1 (y := z) rfl
    have x1 : aindexAddr Try.prog 23 sk (.int .i64 1) = _ := K1.ix
    refine run ?_
    have L0 := K0.ld _ S.g
    refine run ?_
    refine (atW (he y (by simp)) K0.nd S 8 (by ((try simp only [List.length_append, List.length_cons, List.length_nil, lim8, commaS] at hl ⊢); omega))).mono ?_
    rintro _ X ⟨S', F'⟩
    (try replace ab := S.box F' ab)
    (try replace bb := hblk_of ab)
    (try replace ac := S.box F' ac)
    (try replace bc := hblk_of ac)
    replace F := F.trans F'
    replace S := S'
    clear S' F'
    refine run ?_
    refine Ob2.lay (.cells (.row 9) (List.map Value.string [⟨#[46]⟩, x.str])) (.slice (some ⟨_, 0, none⟩) _ 1) rfl fun U pa pg _ => ?_
    replace S := S.grow pg
    replace F := F.trans (.of pg)
    (try replace ab := pg.at ab)
    (try replace bb := hblk_of ab)
    (try replace ac := pg.at ac)
    (try replace bc := hblk_of ac)
    refine run ?_
    refine (S.put (t := [46] ++ x.str.data.toList) pa (by simp [catL]) (by simp) (by ((try simp only [List.length_append, List.length_cons, List.length_nil, lim8, commaS] at hl ⊢); omega))).mono ?_
    rintro _ X ⟨S', F'⟩
    (try replace ab := S.box F' ab)
    (try replace bb := hblk_of ab)
    (try replace ac := S.box F' ac)
    (try replace bc := hblk_of ac)
    replace F := F.trans F'
    replace S := S'
    clear S' F'
    refine run ?_
    refine Ob2.lay (.cells (.row 9) (List.map Value.string [⟨#[32, 61, 32]⟩])) (.slice (some ⟨_, 0, none⟩) _ 1) rfl fun U pa pg _ => ?_
    replace S := S.grow pg
    replace F := F.trans (.of pg)
    (try replace ab := pg.at ab)
    (try replace bb := hblk_of ab)
    (try replace ac := pg.at ac)
    (try replace bc := hblk_of ac)
    refine run ?_
    refine (S.put (t := [32, 61, 32]) pa (by simp [catL]) (by simp) (by ((try simp only [List.length_append, List.length_cons, List.length_nil, lim8, commaS] at hl ⊢); omega))).mono ?_
    rintro _ X ⟨S', F'⟩
    (try replace ab := S.box F' ab)
    (try replace bb := hblk_of ab)
    (try replace ac := S.box F' ac)
    (try replace bc := hblk_of ac)
    replace F := F.trans F'
    replace S := S'
    clear S' F'
    refine run ?_
    have l1 : alen Try.prog 23 sk X = some (.int .i64 2) := rk.len rfl _
    have LL := K1.ld _ S.g
    refine run ?_
    refine Ob.of x1 ?_
    refine run ?_
    refine (he z (by simp) K1.nd S (by ((try simp only [List.length_append, List.length_cons, List.length_nil, lim8, commaS] at hl ⊢); omega))).mono ?_
    rintro _ X ⟨S', F'⟩
    (try replace ab := S.box F' ab)
    (try replace bb := hblk_of ab)
    (try replace ac := S.box F' ac)
    (try replace bc := hblk_of ac)
    replace F := F.trans F'
    replace S := S'
    clear S' F'
    refine run ?_
    refine Ob2.lay (.cells (.row 9) (List.map Value.string [⟨#[59]⟩])) (.slice (some ⟨_, 0, none⟩) _ 1) rfl fun U pa pg _ => ?_
    replace S := S.grow pg
    replace F := F.trans (.of pg)
    (try replace ab := pg.at ab)
    (try replace bb := hblk_of ab)
    (try replace ac := pg.at ac)
    (try replace bc := hblk_of ac)
    refine run ?_
    refine (S.put (t := [59]) pa (by simp [catL]) (by simp) (by ((try simp only [List.length_append, List.length_cons, List.length_nil, lim8, commaS] at hl ⊢); omega))).mono ?_
    rintro _ X ⟨S', F'⟩
    (try replace ab := S.box F' ab)
    (try replace bb := hblk_of ab)
    (try replace ac := S.box F' ac)
    (try replace bc := hblk_of ac)
    replace F := F.trans F'
    replace S := S'
    clear S' F'
    refine run ?_
    exact ⟨by simpa only [List.append_assoc] using S, F⟩
  · obtain ⟨hk, hn⟩ := h
    obtain ⟨y, z, u, hks⟩ := three_of hn
    have t23 : (x.kind == 23) = false := by rw [hk]; rfl
    have t24 : (x.kind == 24) = true := by rw [hk]; rfl
    have t25 : (x.kind == 25) = false := by rw [hk]; rfl
    have t26 : (x.kind == 26) = false := by rw [hk]; rfl
    have ht : x.tx.2.1 = atS 8 y y.tx.1 ++ [91] ++ z.tx.1 ++ [93] ++ [32, 61, 32] ++ u.tx.1 ++ [59] := by rw [Tr.tx_eq, hks, hk]; rfl
    rw [ht] at hl ⊢
    rw [hks] at rk he
    obtain ⟨b0, o0, n0, k0, K0⟩ := kidAt rk 0 (y := y) rfl
    have x0 : aindexAddr Try.prog 23 sk (.int .i64 0) = _ := K0.ix
    obtain ⟨b1, o1, n1, k1, K1⟩ := kidAt rk 1 (y := z) rfl
    have x1 : aindexAddr Try.prog 23 sk (.int .i64 1) = _ := K1.ix
    obtain ⟨b2, o2, n2, k2, K2⟩ := kidAt rk 2 (y := u) rfl
    have x2 : aindexAddr Try.prog 23 sk (.int .i64 2) = _ := K2.ix
    refine run ?_
    have L0 := K0.ld _ S.g
    refine run ?_
    refine (atW (he y (by simp)) K0.nd S 8 (by ((try simp only [List.length_append, List.length_cons, List.length_nil, lim8, commaS] at hl ⊢); omega))).mono ?_
    rintro _ X ⟨S', F'⟩
    (try replace ab := S.box F' ab)
    (try replace bb := hblk_of ab)
    (try replace ac := S.box F' ac)
    (try replace bc := hblk_of ac)
    replace F := F.trans F'
    replace S := S'
    clear S' F'
    refine run ?_
    refine Ob2.lay (.cells (.row 9) (List.map Value.string [⟨#[91]⟩])) (.slice (some ⟨_, 0, none⟩) _ 1) rfl fun U pa pg _ => ?_
    replace S := S.grow pg
    replace F := F.trans (.of pg)
    (try replace ab := pg.at ab)
    (try replace bb := hblk_of ab)
    (try replace ac := pg.at ac)
    (try replace bc := hblk_of ac)
    refine run ?_
    refine (S.put (t := [91]) pa (by simp [catL]) (by simp) (by ((try simp only [List.length_append, List.length_cons, List.length_nil, lim8, commaS] at hl ⊢); omega))).mono ?_
    rintro _ X ⟨S', F'⟩
    (try replace ab := S.box F' ab)
    (try replace bb := hblk_of ab)
    (try replace ac := S.box F' ac)
    (try replace bc := hblk_of ac)
    replace F := F.trans F'
    replace S := S'
    clear S' F'
    refine run ?_
    have L1 := K1.ld _ S.g
    refine run ?_
    refine (he z (by simp) K1.nd S (by ((try simp only [List.length_append, List.length_cons, List.length_nil, lim8, commaS] at hl ⊢); omega))).mono ?_
    rintro _ X ⟨S', F'⟩
    (try replace ab := S.box F' ab)
    (try replace bb := hblk_of ab)
    (try replace ac := S.box F' ac)
    (try replace bc := hblk_of ac)
    replace F := F.trans F'
    replace S := S'
    clear S' F'
    refine run ?_
    refine Ob2.lay (.cells (.row 9) (List.map Value.string [⟨#[93]⟩])) (.slice (some ⟨_, 0, none⟩) _ 1) rfl fun U pa pg _ => ?_
    replace S := S.grow pg
    replace F := F.trans (.of pg)
    (try replace ab := pg.at ab)
    (try replace bb := hblk_of ab)
    (try replace ac := pg.at ac)
    (try replace bc := hblk_of ac)
    refine run ?_
    refine (S.put (t := [93]) pa (by simp [catL]) (by simp) (by ((try simp only [List.length_append, List.length_cons, List.length_nil, lim8, commaS] at hl ⊢); omega))).mono ?_
    rintro _ X ⟨S', F'⟩
    (try replace ab := S.box F' ab)
    (try replace bb := hblk_of ab)
    (try replace ac := S.box F' ac)
    (try replace bc := hblk_of ac)
    replace F := F.trans F'
    replace S := S'
    clear S' F'
    refine run ?_
    refine Ob2.lay (.cells (.row 9) (List.map Value.string [⟨#[32, 61, 32]⟩])) (.slice (some ⟨_, 0, none⟩) _ 1) rfl fun U pa pg _ => ?_
    replace S := S.grow pg
    replace F := F.trans (.of pg)
    (try replace ab := pg.at ab)
    (try replace bb := hblk_of ab)
    (try replace ac := pg.at ac)
    (try replace bc := hblk_of ac)
    refine run ?_
    refine (S.put (t := [32, 61, 32]) pa (by simp [catL]) (by simp) (by ((try simp only [List.length_append, List.length_cons, List.length_nil, lim8, commaS] at hl ⊢); omega))).mono ?_
    rintro _ X ⟨S', F'⟩
    (try replace ab := S.box F' ab)
    (try replace bb := hblk_of ab)
    (try replace ac := S.box F' ac)
    (try replace bc := hblk_of ac)
    replace F := F.trans F'
    replace S := S'
    clear S' F'
    refine run ?_
    have l1 : alen Try.prog 23 sk X = some (.int .i64 3) := rk.len rfl _
    have LL := K2.ld _ S.g
    refine run ?_
    refine Ob.of x2 ?_
    refine run ?_
    refine (he u (by simp) K2.nd S (by ((try simp only [List.length_append, List.length_cons, List.length_nil, lim8, commaS] at hl ⊢); omega))).mono ?_
    rintro _ X ⟨S', F'⟩
    (try replace ab := S.box F' ab)
    (try replace bb := hblk_of ab)
    (try replace ac := S.box F' ac)
    (try replace bc := hblk_of ac)
    replace F := F.trans F'
    replace S := S'
    clear S' F'
    refine run ?_
    refine Ob2.lay (.cells (.row 9) (List.map Value.string [⟨#[59]⟩])) (.slice (some ⟨_, 0, none⟩) _ 1) rfl fun U pa pg _ => ?_
    replace S := S.grow pg
    replace F := F.trans (.of pg)
    (try replace ab := pg.at ab)
    (try replace bb := hblk_of ab)
    (try replace ac := pg.at ac)
    (try replace bc := hblk_of ac)
    refine run ?_
    refine (S.put (t := [59]) pa (by simp [catL]) (by simp) (by ((try simp only [List.length_append, List.length_cons, List.length_nil, lim8, commaS] at hl ⊢); omega))).mono ?_
    rintro _ X ⟨S', F'⟩
    (try replace ab := S.box F' ab)
    (try replace bb := hblk_of ab)
    (try replace ac := S.box F' ac)
    (try replace bc := hblk_of ac)
    replace F := F.trans F'
    replace S := S'
    clear S' F'
    refine run ?_
    exact ⟨by simpa only [List.append_assoc] using S, F⟩
  · obtain ⟨hk, hn⟩ := h
    obtain ⟨y, hks⟩ := List.length_eq_one_iff.1 hn
    have t23 : (x.kind == 23) = false := by rw [hk]; rfl
    have t24 : (x.kind == 24) = false := by rw [hk]; rfl
    have t25 : (x.kind == 25) = true := by rw [hk]; rfl
    have t26 : (x.kind == 26) = false := by rw [hk]; rfl
    have ht : x.tx.2.1 = [100, 101, 108, 101, 116, 101, 32] ++ atS 8 y y.tx.1 ++ [46] ++ x.str.data.toList ++ [59] := by rw [Tr.tx_eq, hks, hk]; rfl
    rw [ht] at hl ⊢
    rw [hks] at rk he
    obtain ⟨b0, o0, n0, k0, K0⟩ := kidAt rk 0 (y := y) rfl
    have x0 : aindexAddr Try.prog 23 sk (.int .i64 0) = _ := K0.ix
    refine run ?_
    refine Ob2.lay (.cells (.row 9) (List.map Value.string [⟨#[100, 101, 108, 101, 116, 101, 32]⟩])) (.slice (some ⟨_, 0, none⟩) _ 1) rfl fun U pa pg _ => ?_
    replace S := S.grow pg
    replace F := F.trans (.of pg)
    (try replace ab := pg.at ab)
    (try replace bb := hblk_of ab)
    (try replace ac := pg.at ac)
    (try replace bc := hblk_of ac)
    refine run ?_
    refine (S.put (t := [100, 101, 108, 101, 116, 101, 32]) pa (by simp [catL]) (by simp) (by ((try simp only [List.length_append, List.length_cons, List.length_nil, lim8, commaS] at hl ⊢); omega))).mono ?_
    rintro _ X ⟨S', F'⟩
    (try replace ab := S.box F' ab)
    (try replace bb := hblk_of ab)
    (try replace ac := S.box F' ac)
    (try replace bc := hblk_of ac)
    replace F := F.trans F'
    replace S := S'
    clear S' F'
    refine run ?_
    have L0 := K0.ld _ S.g
    refine run ?_
    refine (atW (he y (by simp)) K0.nd S 8 (by ((try simp only [List.length_append, List.length_cons, List.length_nil, lim8, commaS] at hl ⊢); omega))).mono ?_
    rintro _ X ⟨S', F'⟩
    (try replace ab := S.box F' ab)
    (try replace bb := hblk_of ab)
    (try replace ac := S.box F' ac)
    (try replace bc := hblk_of ac)
    replace F := F.trans F'
    replace S := S'
    clear S' F'
    refine run ?_
    refine Ob2.lay (.cells (.row 9) (List.map Value.string [⟨#[46]⟩, x.str])) (.slice (some ⟨_, 0, none⟩) _ 1) rfl fun U pa pg _ => ?_
    replace S := S.grow pg
    replace F := F.trans (.of pg)
    (try replace ab := pg.at ab)
    (try replace bb := hblk_of ab)
    (try replace ac := pg.at ac)
    (try replace bc := hblk_of ac)
    refine run ?_
    refine (S.put (t := [46] ++ x.str.data.toList) pa (by simp [catL]) (by simp) (by ((try simp only [List.length_append, List.length_cons, List.length_nil, lim8, commaS] at hl ⊢); omega))).mono ?_
    rintro _ X ⟨S', F'⟩
    (try replace ab := S.box F' ab)
    (try replace bb := hblk_of ab)
    (try replace ac := S.box F' ac)
    (try replace bc := hblk_of ac)
    replace F := F.trans F'
    replace S := S'
    clear S' F'
    refine run ?_
    refine Ob2.lay (.cells (.row 9) (List.map Value.string [⟨#[59]⟩])) (.slice (some ⟨_, 0, none⟩) _ 1) rfl fun U pa pg _ => ?_
    replace S := S.grow pg
    replace F := F.trans (.of pg)
    (try replace ab := pg.at ab)
    (try replace bb := hblk_of ab)
    (try replace ac := pg.at ac)
    (try replace bc := hblk_of ac)
    refine run ?_
    refine (S.put (t := [59]) pa (by simp [catL]) (by simp) (by ((try simp only [List.length_append, List.length_cons, List.length_nil, lim8, commaS] at hl ⊢); omega))).mono ?_
    rintro _ X ⟨S', F'⟩
    (try replace ab := S.box F' ab)
    (try replace bb := hblk_of ab)
    (try replace ac := S.box F' ac)
    (try replace bc := hblk_of ac)
    replace F := F.trans F'
    replace S := S'
    clear S' F'
    refine run ?_
    exact ⟨by simpa only [List.append_assoc] using S, F⟩
  · obtain ⟨hk, hn⟩ := h
    obtain ⟨y, z, hks⟩ := two_of hn
    have t23 : (x.kind == 23) = false := by rw [hk]; rfl
    have t24 : (x.kind == 24) = false := by rw [hk]; rfl
    have t25 : (x.kind == 25) = false := by rw [hk]; rfl
    have t26 : (x.kind == 26) = true := by rw [hk]; rfl
    have ht : x.tx.2.1 = [100, 101, 108, 101, 116, 101, 32] ++ atS 8 y y.tx.1 ++ [91] ++ z.tx.1 ++ [93] ++ [59] := by rw [Tr.tx_eq, hks, hk]; rfl
    rw [ht] at hl ⊢
    rw [hks] at rk he
    obtain ⟨b0, o0, n0, k0, K0⟩ := kidAt rk 0 (y := y) rfl
    have x0 : aindexAddr Try.prog 23 sk (.int .i64 0) = _ := K0.ix
    obtain ⟨b1, o1, n1, k1, K1⟩ := kidAt rk 1 (y := z) rfl
    have x1 : aindexAddr Try.prog 23 sk (.int .i64 1) = _ := K1.ix
    refine run ?_
    refine Ob2.lay (.cells (.row 9) (List.map Value.string [⟨#[100, 101, 108, 101, 116, 101, 32]⟩])) (.slice (some ⟨_, 0, none⟩) _ 1) rfl fun U pa pg _ => ?_
    replace S := S.grow pg
    replace F := F.trans (.of pg)
    (try replace ab := pg.at ab)
    (try replace bb := hblk_of ab)
    (try replace ac := pg.at ac)
    (try replace bc := hblk_of ac)
    refine run ?_
    refine (S.put (t := [100, 101, 108, 101, 116, 101, 32]) pa (by simp [catL]) (by simp) (by ((try simp only [List.length_append, List.length_cons, List.length_nil, lim8, commaS] at hl ⊢); omega))).mono ?_
    rintro _ X ⟨S', F'⟩
    (try replace ab := S.box F' ab)
    (try replace bb := hblk_of ab)
    (try replace ac := S.box F' ac)
    (try replace bc := hblk_of ac)
    replace F := F.trans F'
    replace S := S'
    clear S' F'
    refine run ?_
    have L0 := K0.ld _ S.g
    refine run ?_
    refine (atW (he y (by simp)) K0.nd S 8 (by ((try simp only [List.length_append, List.length_cons, List.length_nil, lim8, commaS] at hl ⊢); omega))).mono ?_
    rintro _ X ⟨S', F'⟩
    (try replace ab := S.box F' ab)
    (try replace bb := hblk_of ab)
    (try replace ac := S.box F' ac)
    (try replace bc := hblk_of ac)
    replace F := F.trans F'
    replace S := S'
    clear S' F'
    refine run ?_
    refine Ob2.lay (.cells (.row 9) (List.map Value.string [⟨#[91]⟩])) (.slice (some ⟨_, 0, none⟩) _ 1) rfl fun U pa pg _ => ?_
    replace S := S.grow pg
    replace F := F.trans (.of pg)
    (try replace ab := pg.at ab)
    (try replace bb := hblk_of ab)
    (try replace ac := pg.at ac)
    (try replace bc := hblk_of ac)
    refine run ?_
    refine (S.put (t := [91]) pa (by simp [catL]) (by simp) (by ((try simp only [List.length_append, List.length_cons, List.length_nil, lim8, commaS] at hl ⊢); omega))).mono ?_
    rintro _ X ⟨S', F'⟩
    (try replace ab := S.box F' ab)
    (try replace bb := hblk_of ab)
    (try replace ac := S.box F' ac)
    (try replace bc := hblk_of ac)
    replace F := F.trans F'
    replace S := S'
    clear S' F'
    refine run ?_
    have L1 := K1.ld _ S.g
    refine run ?_
    refine (he z (by simp) K1.nd S (by ((try simp only [List.length_append, List.length_cons, List.length_nil, lim8, commaS] at hl ⊢); omega))).mono ?_
    rintro _ X ⟨S', F'⟩
    (try replace ab := S.box F' ab)
    (try replace bb := hblk_of ab)
    (try replace ac := S.box F' ac)
    (try replace bc := hblk_of ac)
    replace F := F.trans F'
    replace S := S'
    clear S' F'
    refine run ?_
    refine Ob2.lay (.cells (.row 9) (List.map Value.string [⟨#[93]⟩])) (.slice (some ⟨_, 0, none⟩) _ 1) rfl fun U pa pg _ => ?_
    replace S := S.grow pg
    replace F := F.trans (.of pg)
    (try replace ab := pg.at ab)
    (try replace bb := hblk_of ab)
    (try replace ac := pg.at ac)
    (try replace bc := hblk_of ac)
    refine run ?_
    refine (S.put (t := [93]) pa (by simp [catL]) (by simp) (by ((try simp only [List.length_append, List.length_cons, List.length_nil, lim8, commaS] at hl ⊢); omega))).mono ?_
    rintro _ X ⟨S', F'⟩
    (try replace ab := S.box F' ab)
    (try replace bb := hblk_of ab)
    (try replace ac := S.box F' ac)
    (try replace bc := hblk_of ac)
    replace F := F.trans F'
    replace S := S'
    clear S' F'
    refine run ?_
    refine Ob2.lay (.cells (.row 9) (List.map Value.string [⟨#[59]⟩])) (.slice (some ⟨_, 0, none⟩) _ 1) rfl fun U pa pg _ => ?_
    replace S := S.grow pg
    replace F := F.trans (.of pg)
    (try replace ab := pg.at ab)
    (try replace bb := hblk_of ab)
    (try replace ac := pg.at ac)
    (try replace bc := hblk_of ac)
    refine run ?_
    refine (S.put (t := [59]) pa (by simp [catL]) (by simp) (by ((try simp only [List.length_append, List.length_cons, List.length_nil, lim8, commaS] at hl ⊢); omega))).mono ?_
    rintro _ X ⟨S', F'⟩
    (try replace ab := S.box F' ab)
    (try replace bb := hblk_of ab)
    (try replace ac := S.box F' ac)
    (try replace bc := hblk_of ac)
    replace F := F.trans F'
    replace S := S'
    clear S' F'
    refine run ?_
    exact ⟨by simpa only [List.append_assoc] using S, F⟩
theorem bl_tx (y : Tr) : y.tx.2.2 = braceS (y.kids.map (·.tx.2.1)) := by rw [Tr.tx_eq]
theorem stmtW {x : Tr} (hp : StmtP x) (hr : ∀ j y, x.kids[j]? = some y → RightT y (wantP x.kind j)) (he : ∀ y ∈ x.kids, RightT y 1 → WrN 28 y.tx.1 y) (hs : ∀ y ∈ x.kids, RightT y 3 → ∀ z ∈ y.kids, WrN 18 z.tx.2.1 z) : WrN 18 x.tx.2.1 x := by
  intro H0 l R H b bs S hl
  obtain ⟨ow, sn, sk, rfl, rn, rk⟩ := R.inv
  refine AX.body (n := 106) (rs := []) Try.func18 rfl (by decide) rfl rfl (bC_sound _ _ _ _ ?_)
  (conv => whnf)
  refine Ob2.box rfl fun q H1 hq ab g1 => ?_
  have bb := hblk_of ab
  have F : FrW b H H1 := .of g1
  replace S := S.grow g1
  have hkm := ow.2.2.2
  by_cases hpl : x.kind = 23 ∨ x.kind = 24 ∨ x.kind = 25 ∨ x.kind = 26
  · have e1 : ∀ y ∈ x.kids, WrN 28 y.tx.1 y := fun y hy => by
      obtain ⟨j, hj⟩ := List.getElem?_of_mem hy
      refine he y hy ?_
      have := hr j y hj
      rwa [show wantP x.kind j = 1 from by unfold wantP; rw [if_neg (by omega), if_neg (by omega)]] at this
    have t28 : (x.kind == 28) = false := by rw [beq_eq_false_iff_ne]; omega
    have t30 : (x.kind == 30) = false := by rw [beq_eq_false_iff_ne]; omega
    have t21 : (x.kind == 21) = false := by rw [beq_eq_false_iff_ne]; omega
    have t22 : (x.kind == 22) = false := by rw [beq_eq_false_iff_ne]; omega
    rcases hpl with hk | hk | hk | hk
    · have t23 : (x.kind == 23) = true := by rw [hk]; rfl
      refine run ?_
      refine (placeW hp (by omega) e1 R S hl).mono ?_
      rintro _ X ⟨S', F'⟩
      (try replace ab := S.box F' ab)
      (try replace bb := hblk_of ab)
      (try replace ac := S.box F' ac)
      (try replace bc := hblk_of ac)
      replace F := F.trans F'
      replace S := S'
      clear S' F'
      refine run ?_
      exact ⟨S, F⟩
    · have t24 : (x.kind == 24) = true := by rw [hk]; rfl
      have t23 : (x.kind == 23) = false := by rw [hk]; rfl
      refine run ?_
      refine (placeW hp (by omega) e1 R S hl).mono ?_
      rintro _ X ⟨S', F'⟩
      (try replace ab := S.box F' ab)
      (try replace bb := hblk_of ab)
      (try replace ac := S.box F' ac)
      (try replace bc := hblk_of ac)
      replace F := F.trans F'
      replace S := S'
      clear S' F'
      refine run ?_
      exact ⟨S, F⟩
    · have t25 : (x.kind == 25) = true := by rw [hk]; rfl
      have t23 : (x.kind == 23) = false := by rw [hk]; rfl
      have t24 : (x.kind == 24) = false := by rw [hk]; rfl
      refine run ?_
      refine (placeW hp (by omega) e1 R S hl).mono ?_
      rintro _ X ⟨S', F'⟩
      (try replace ab := S.box F' ab)
      (try replace bb := hblk_of ab)
      (try replace ac := S.box F' ac)
      (try replace bc := hblk_of ac)
      replace F := F.trans F'
      replace S := S'
      clear S' F'
      refine run ?_
      exact ⟨S, F⟩
    · have t26 : (x.kind == 26) = true := by rw [hk]; rfl
      have t23 : (x.kind == 23) = false := by rw [hk]; rfl
      have t24 : (x.kind == 24) = false := by rw [hk]; rfl
      have t25 : (x.kind == 25) = false := by rw [hk]; rfl
      refine run ?_
      refine (placeW hp (by omega) e1 R S hl).mono ?_
      rintro _ X ⟨S', F'⟩
      (try replace ab := S.box F' ab)
      (try replace bb := hblk_of ab)
      (try replace ac := S.box F' ac)
      (try replace bc := hblk_of ac)
      replace F := F.trans F'
      replace S := S'
      clear S' F'
      refine run ?_
      exact ⟨S, F⟩
  obtain h | h | h | h | h | h | h : (x.kind = 21 ∧ x.kids.length = 1) ∨ (x.kind = 22 ∧ x.kids.length = 1) ∨ (x.kind = 27 ∧ x.kids.length = 1) ∨ (x.kind = 31 ∧ x.kids.length = 1) ∨ (x.kind = 32 ∧ x.kids.length = 1) ∨ (x.kind = 28 ∧ x.kids.length = 3) ∨ (x.kind = 30 ∧ x.kids.length = 2) := by
    unfold StmtP at hp; omega
  · obtain ⟨hk, hn⟩ := h
    obtain ⟨y, hks⟩ := List.length_eq_one_iff.1 hn
    have t28 : (x.kind == 28) = false := by rw [hk]; rfl
    have t30 : (x.kind == 30) = false := by rw [hk]; rfl
    have t21 : (x.kind == 21) = true := by rw [hk]; rfl
    rw [hks, hk] at hr
    rw [hks] at rk he hs
    have r0 : RightT y 1 := hr 0 y rfl
    obtain ⟨b0, o0, n0, k0, K0⟩ := kidAt rk 0 (y := y) rfl
    have x0 : aindexAddr Try.prog 23 sk (.int .i64 0) = _ := K0.ix
    have ht : x.tx.2.1 = [108, 101, 116, 32] ++ x.str.data.toList ++ [32, 61, 32] ++ y.tx.1 ++ [59] := by rw [Tr.tx_eq, hks, hk]; rfl
    rw [ht] at hl ⊢
    refine run ?_
    refine Ob2.lay (.cells (.row 9) (List.map Value.string [⟨#[108, 101, 116, 32]⟩, x.str, ⟨#[32, 61, 32]⟩])) (.slice (some ⟨_, 0, none⟩) _ 1) rfl fun U pa pg _ => ?_
    replace S := S.grow pg
    replace F := F.trans (.of pg)
    (try replace ab := pg.at ab)
    (try replace bb := hblk_of ab)
    (try replace ac := pg.at ac)
    (try replace bc := hblk_of ac)
    refine run ?_
    refine (S.put (t := [108, 101, 116, 32] ++ x.str.data.toList ++ [32, 61, 32]) pa (by simp [catL]) (by simp) (by ((try simp only [List.length_append, List.length_cons, List.length_nil, lim8, commaS] at hl ⊢); omega))).mono ?_
    rintro _ X ⟨S', F'⟩
    (try replace ab := S.box F' ab)
    (try replace bb := hblk_of ab)
    (try replace ac := S.box F' ac)
    (try replace bc := hblk_of ac)
    replace F := F.trans F'
    replace S := S'
    clear S' F'
    refine run ?_
    have L0 := K0.ld _ S.g
    refine run ?_
    refine (he y (by simp) r0 K0.nd S (by ((try simp only [List.length_append, List.length_cons, List.length_nil, lim8, commaS] at hl ⊢); omega))).mono ?_
    rintro _ X ⟨S', F'⟩
    (try replace ab := S.box F' ab)
    (try replace bb := hblk_of ab)
    (try replace ac := S.box F' ac)
    (try replace bc := hblk_of ac)
    replace F := F.trans F'
    replace S := S'
    clear S' F'
    refine run ?_
    refine Ob2.lay (.cells (.row 9) (List.map Value.string [⟨#[59]⟩])) (.slice (some ⟨_, 0, none⟩) _ 1) rfl fun U pa pg _ => ?_
    replace S := S.grow pg
    replace F := F.trans (.of pg)
    (try replace ab := pg.at ab)
    (try replace bb := hblk_of ab)
    (try replace ac := pg.at ac)
    (try replace bc := hblk_of ac)
    refine run ?_
    refine (S.put (t := [59]) pa (by simp [catL]) (by simp) (by ((try simp only [List.length_append, List.length_cons, List.length_nil, lim8, commaS] at hl ⊢); omega))).mono ?_
    rintro _ X ⟨S', F'⟩
    (try replace ab := S.box F' ab)
    (try replace bb := hblk_of ab)
    (try replace ac := S.box F' ac)
    (try replace bc := hblk_of ac)
    replace F := F.trans F'
    replace S := S'
    clear S' F'
    refine run ?_
    exact ⟨by simpa only [List.append_assoc] using S, F⟩
  · obtain ⟨hk, hn⟩ := h
    obtain ⟨y, hks⟩ := List.length_eq_one_iff.1 hn
    have t28 : (x.kind == 28) = false := by rw [hk]; rfl
    have t30 : (x.kind == 30) = false := by rw [hk]; rfl
    have t21 : (x.kind == 21) = false := by rw [hk]; rfl
    have t22 : (x.kind == 22) = true := by rw [hk]; rfl
    rw [hks, hk] at hr
    rw [hks] at rk he hs
    have r0 : RightT y 1 := hr 0 y rfl
    obtain ⟨b0, o0, n0, k0, K0⟩ := kidAt rk 0 (y := y) rfl
    have x0 : aindexAddr Try.prog 23 sk (.int .i64 0) = _ := K0.ix
    have ht : x.tx.2.1 = x.str.data.toList ++ [32, 61, 32] ++ y.tx.1 ++ [59] := by rw [Tr.tx_eq, hks, hk]; rfl
    rw [ht] at hl ⊢
    refine run ?_
    refine Ob2.lay (.cells (.row 9) (List.map Value.string [x.str, ⟨#[32, 61, 32]⟩])) (.slice (some ⟨_, 0, none⟩) _ 1) rfl fun U pa pg _ => ?_
    replace S := S.grow pg
    replace F := F.trans (.of pg)
    (try replace ab := pg.at ab)
    (try replace bb := hblk_of ab)
    (try replace ac := pg.at ac)
    (try replace bc := hblk_of ac)
    refine run ?_
    refine (S.put (t := x.str.data.toList ++ [32, 61, 32]) pa (by simp [catL]) (by simp) (by ((try simp only [List.length_append, List.length_cons, List.length_nil, lim8, commaS] at hl ⊢); omega))).mono ?_
    rintro _ X ⟨S', F'⟩
    (try replace ab := S.box F' ab)
    (try replace bb := hblk_of ab)
    (try replace ac := S.box F' ac)
    (try replace bc := hblk_of ac)
    replace F := F.trans F'
    replace S := S'
    clear S' F'
    refine run ?_
    have L0 := K0.ld _ S.g
    refine run ?_
    refine (he y (by simp) r0 K0.nd S (by ((try simp only [List.length_append, List.length_cons, List.length_nil, lim8, commaS] at hl ⊢); omega))).mono ?_
    rintro _ X ⟨S', F'⟩
    (try replace ab := S.box F' ab)
    (try replace bb := hblk_of ab)
    (try replace ac := S.box F' ac)
    (try replace bc := hblk_of ac)
    replace F := F.trans F'
    replace S := S'
    clear S' F'
    refine run ?_
    refine Ob2.lay (.cells (.row 9) (List.map Value.string [⟨#[59]⟩])) (.slice (some ⟨_, 0, none⟩) _ 1) rfl fun U pa pg _ => ?_
    replace S := S.grow pg
    replace F := F.trans (.of pg)
    (try replace ab := pg.at ab)
    (try replace bb := hblk_of ab)
    (try replace ac := pg.at ac)
    (try replace bc := hblk_of ac)
    refine run ?_
    refine (S.put (t := [59]) pa (by simp [catL]) (by simp) (by ((try simp only [List.length_append, List.length_cons, List.length_nil, lim8, commaS] at hl ⊢); omega))).mono ?_
    rintro _ X ⟨S', F'⟩
    (try replace ab := S.box F' ab)
    (try replace bb := hblk_of ab)
    (try replace ac := S.box F' ac)
    (try replace bc := hblk_of ac)
    replace F := F.trans F'
    replace S := S'
    clear S' F'
    refine run ?_
    exact ⟨by simpa only [List.append_assoc] using S, F⟩
  · obtain ⟨hk, hn⟩ := h
    obtain ⟨y, hks⟩ := List.length_eq_one_iff.1 hn
    have t28 : (x.kind == 28) = false := by rw [hk]; rfl
    have t30 : (x.kind == 30) = false := by rw [hk]; rfl
    have t21 : (x.kind == 21) = false := by rw [hk]; rfl
    have t22 : (x.kind == 22) = false := by rw [hk]; rfl
    have t23 : (x.kind == 23) = false := by rw [hk]; rfl
    have t24 : (x.kind == 24) = false := by rw [hk]; rfl
    have t25 : (x.kind == 25) = false := by rw [hk]; rfl
    have t26 : (x.kind == 26) = false := by rw [hk]; rfl
    have t27 : (x.kind == 27) = true := by rw [hk]; rfl
    rw [hks, hk] at hr
    rw [hks] at rk he hs
    have r0 : RightT y 1 := hr 0 y rfl
    obtain ⟨b0, o0, n0, k0, K0⟩ := kidAt rk 0 (y := y) rfl
    have x0 : aindexAddr Try.prog 23 sk (.int .i64 0) = _ := K0.ix
    have ht : x.tx.2.1 = [112, 114, 105, 110, 116, 32] ++ y.tx.1 ++ [59] := by rw [Tr.tx_eq, hks, hk]; rfl
    rw [ht] at hl ⊢
    refine run ?_
    refine Ob2.lay (.cells (.row 9) (List.map Value.string [⟨#[112, 114, 105, 110, 116, 32]⟩])) (.slice (some ⟨_, 0, none⟩) _ 1) rfl fun U pa pg _ => ?_
    replace S := S.grow pg
    replace F := F.trans (.of pg)
    (try replace ab := pg.at ab)
    (try replace bb := hblk_of ab)
    (try replace ac := pg.at ac)
    (try replace bc := hblk_of ac)
    refine run ?_
    refine (S.put (t := [112, 114, 105, 110, 116, 32]) pa (by simp [catL]) (by simp) (by ((try simp only [List.length_append, List.length_cons, List.length_nil, lim8, commaS] at hl ⊢); omega))).mono ?_
    rintro _ X ⟨S', F'⟩
    (try replace ab := S.box F' ab)
    (try replace bb := hblk_of ab)
    (try replace ac := S.box F' ac)
    (try replace bc := hblk_of ac)
    replace F := F.trans F'
    replace S := S'
    clear S' F'
    refine run ?_
    have L0 := K0.ld _ S.g
    refine run ?_
    refine (he y (by simp) r0 K0.nd S (by ((try simp only [List.length_append, List.length_cons, List.length_nil, lim8, commaS] at hl ⊢); omega))).mono ?_
    rintro _ X ⟨S', F'⟩
    (try replace ab := S.box F' ab)
    (try replace bb := hblk_of ab)
    (try replace ac := S.box F' ac)
    (try replace bc := hblk_of ac)
    replace F := F.trans F'
    replace S := S'
    clear S' F'
    refine run ?_
    refine Ob2.lay (.cells (.row 9) (List.map Value.string [⟨#[59]⟩])) (.slice (some ⟨_, 0, none⟩) _ 1) rfl fun U pa pg _ => ?_
    replace S := S.grow pg
    replace F := F.trans (.of pg)
    (try replace ab := pg.at ab)
    (try replace bb := hblk_of ab)
    (try replace ac := pg.at ac)
    (try replace bc := hblk_of ac)
    refine run ?_
    refine (S.put (t := [59]) pa (by simp [catL]) (by simp) (by ((try simp only [List.length_append, List.length_cons, List.length_nil, lim8, commaS] at hl ⊢); omega))).mono ?_
    rintro _ X ⟨S', F'⟩
    (try replace ab := S.box F' ab)
    (try replace bb := hblk_of ab)
    (try replace ac := S.box F' ac)
    (try replace bc := hblk_of ac)
    replace F := F.trans F'
    replace S := S'
    clear S' F'
    refine run ?_
    exact ⟨by simpa only [List.append_assoc] using S, F⟩
  · obtain ⟨hk, hn⟩ := h
    obtain ⟨y, hks⟩ := List.length_eq_one_iff.1 hn
    have t28 : (x.kind == 28) = false := by rw [hk]; rfl
    have t30 : (x.kind == 30) = false := by rw [hk]; rfl
    have t21 : (x.kind == 21) = false := by rw [hk]; rfl
    have t22 : (x.kind == 22) = false := by rw [hk]; rfl
    have t23 : (x.kind == 23) = false := by rw [hk]; rfl
    have t24 : (x.kind == 24) = false := by rw [hk]; rfl
    have t25 : (x.kind == 25) = false := by rw [hk]; rfl
    have t26 : (x.kind == 26) = false := by rw [hk]; rfl
    have t27 : (x.kind == 27) = false := by rw [hk]; rfl
    have t31 : (x.kind == 31) = true := by rw [hk]; rfl
    rw [hks, hk] at hr
    rw [hks] at rk he hs
    have r0 : RightT y 1 := hr 0 y rfl
    obtain ⟨b0, o0, n0, k0, K0⟩ := kidAt rk 0 (y := y) rfl
    have x0 : aindexAddr Try.prog 23 sk (.int .i64 0) = _ := K0.ix
    have ht : x.tx.2.1 = [114, 101, 116, 117, 114, 110, 32] ++ y.tx.1 ++ [59] := by rw [Tr.tx_eq, hks, hk]; rfl
    rw [ht] at hl ⊢
    refine run ?_
    refine Ob2.lay (.cells (.row 9) (List.map Value.string [⟨#[114, 101, 116, 117, 114, 110, 32]⟩])) (.slice (some ⟨_, 0, none⟩) _ 1) rfl fun U pa pg _ => ?_
    replace S := S.grow pg
    replace F := F.trans (.of pg)
    (try replace ab := pg.at ab)
    (try replace bb := hblk_of ab)
    (try replace ac := pg.at ac)
    (try replace bc := hblk_of ac)
    refine run ?_
    refine (S.put (t := [114, 101, 116, 117, 114, 110, 32]) pa (by simp [catL]) (by simp) (by ((try simp only [List.length_append, List.length_cons, List.length_nil, lim8, commaS] at hl ⊢); omega))).mono ?_
    rintro _ X ⟨S', F'⟩
    (try replace ab := S.box F' ab)
    (try replace bb := hblk_of ab)
    (try replace ac := S.box F' ac)
    (try replace bc := hblk_of ac)
    replace F := F.trans F'
    replace S := S'
    clear S' F'
    refine run ?_
    have L0 := K0.ld _ S.g
    refine run ?_
    refine (he y (by simp) r0 K0.nd S (by ((try simp only [List.length_append, List.length_cons, List.length_nil, lim8, commaS] at hl ⊢); omega))).mono ?_
    rintro _ X ⟨S', F'⟩
    (try replace ab := S.box F' ab)
    (try replace bb := hblk_of ab)
    (try replace ac := S.box F' ac)
    (try replace bc := hblk_of ac)
    replace F := F.trans F'
    replace S := S'
    clear S' F'
    refine run ?_
    refine Ob2.lay (.cells (.row 9) (List.map Value.string [⟨#[59]⟩])) (.slice (some ⟨_, 0, none⟩) _ 1) rfl fun U pa pg _ => ?_
    replace S := S.grow pg
    replace F := F.trans (.of pg)
    (try replace ab := pg.at ab)
    (try replace bb := hblk_of ab)
    (try replace ac := pg.at ac)
    (try replace bc := hblk_of ac)
    refine run ?_
    refine (S.put (t := [59]) pa (by simp [catL]) (by simp) (by ((try simp only [List.length_append, List.length_cons, List.length_nil, lim8, commaS] at hl ⊢); omega))).mono ?_
    rintro _ X ⟨S', F'⟩
    (try replace ab := S.box F' ab)
    (try replace bb := hblk_of ab)
    (try replace ac := S.box F' ac)
    (try replace bc := hblk_of ac)
    replace F := F.trans F'
    replace S := S'
    clear S' F'
    refine run ?_
    exact ⟨by simpa only [List.append_assoc] using S, F⟩
  · obtain ⟨hk, hn⟩ := h
    obtain ⟨y, hks⟩ := List.length_eq_one_iff.1 hn
    have t28 : (x.kind == 28) = false := by rw [hk]; rfl
    have t30 : (x.kind == 30) = false := by rw [hk]; rfl
    have t21 : (x.kind == 21) = false := by rw [hk]; rfl
    have t22 : (x.kind == 22) = false := by rw [hk]; rfl
    have t23 : (x.kind == 23) = false := by rw [hk]; rfl
    have t24 : (x.kind == 24) = false := by rw [hk]; rfl
    have t25 : (x.kind == 25) = false := by rw [hk]; rfl
    have t26 : (x.kind == 26) = false := by rw [hk]; rfl
    have t27 : (x.kind == 27) = false := by rw [hk]; rfl
    have t31 : (x.kind == 31) = false := by rw [hk]; rfl
    rw [hks, hk] at hr
    rw [hks] at rk he hs
    have r0 : RightT y 1 := hr 0 y rfl
    obtain ⟨b0, o0, n0, k0, K0⟩ := kidAt rk 0 (y := y) rfl
    have x0 : aindexAddr Try.prog 23 sk (.int .i64 0) = _ := K0.ix
    have ht : x.tx.2.1 = y.tx.1 ++ [59] := by rw [Tr.tx_eq, hks, hk]; rfl
    rw [ht] at hl ⊢
    refine run ?_
    have L0 := K0.ld _ S.g
    refine run ?_
    refine (he y (by simp) r0 K0.nd S (by ((try simp only [List.length_append, List.length_cons, List.length_nil, lim8, commaS] at hl ⊢); omega))).mono ?_
    rintro _ X ⟨S', F'⟩
    (try replace ab := S.box F' ab)
    (try replace bb := hblk_of ab)
    (try replace ac := S.box F' ac)
    (try replace bc := hblk_of ac)
    replace F := F.trans F'
    replace S := S'
    clear S' F'
    refine run ?_
    refine Ob2.lay (.cells (.row 9) (List.map Value.string [⟨#[59]⟩])) (.slice (some ⟨_, 0, none⟩) _ 1) rfl fun U pa pg _ => ?_
    replace S := S.grow pg
    replace F := F.trans (.of pg)
    (try replace ab := pg.at ab)
    (try replace bb := hblk_of ab)
    (try replace ac := pg.at ac)
    (try replace bc := hblk_of ac)
    refine run ?_
    refine (S.put (t := [59]) pa (by simp [catL]) (by simp) (by ((try simp only [List.length_append, List.length_cons, List.length_nil, lim8, commaS] at hl ⊢); omega))).mono ?_
    rintro _ X ⟨S', F'⟩
    (try replace ab := S.box F' ab)
    (try replace bb := hblk_of ab)
    (try replace ac := S.box F' ac)
    (try replace bc := hblk_of ac)
    replace F := F.trans F'
    replace S := S'
    clear S' F'
    refine run ?_
    exact ⟨by simpa only [List.append_assoc] using S, F⟩
  · obtain ⟨hk, hn⟩ := h
    obtain ⟨y, z, u, hks⟩ := three_of hn
    have t28 : (x.kind == 28) = true := by rw [hk]; rfl
    rw [hks, hk] at hr
    rw [hks] at rk he hs
    have r0 : RightT y 1 := hr 0 y rfl
    obtain ⟨b0, o0, n0, k0, K0⟩ := kidAt rk 0 (y := y) rfl
    have x0 : aindexAddr Try.prog 23 sk (.int .i64 0) = _ := K0.ix
    obtain ⟨b1, o1, n1, k1, K1⟩ := kidAt rk 1 (y := z) rfl
    have x1 : aindexAddr Try.prog 23 sk (.int .i64 1) = _ := K1.ix
    obtain ⟨b2, o2, n2, k2, K2⟩ := kidAt rk 2 (y := u) rfl
    have x2 : aindexAddr Try.prog 23 sk (.int .i64 2) = _ := K2.ix
    have r1 : RightT z 3 := hr 1 z rfl
    have r2 : RightT u 3 := hr 2 u rfl
    have ht : x.tx.2.1 = [105, 102, 32, 40] ++ y.tx.1 ++ [41, 32] ++ braceS (z.kids.map (·.tx.2.1)) ++ (if u.kids = [] then [] else [32, 101, 108, 115, 101, 32] ++ braceS (u.kids.map (·.tx.2.1))) := by rw [Tr.tx_eq, hks, hk, ← bl_tx, ← bl_tx]; rfl
    rw [ht] at hl ⊢
    refine run ?_
    refine Ob2.lay (.cells (.row 9) (List.map Value.string [⟨#[105, 102, 32, 40]⟩])) (.slice (some ⟨_, 0, none⟩) _ 1) rfl fun U pa pg _ => ?_
    replace S := S.grow pg
    replace F := F.trans (.of pg)
    (try replace ab := pg.at ab)
    (try replace bb := hblk_of ab)
    (try replace ac := pg.at ac)
    (try replace bc := hblk_of ac)
    refine run ?_
    refine (S.put (t := [105, 102, 32, 40]) pa (by simp [catL]) (by simp) (by ((try simp only [List.length_append, List.length_cons, List.length_nil, lim8, commaS] at hl ⊢); omega))).mono ?_
    rintro _ X ⟨S', F'⟩
    (try replace ab := S.box F' ab)
    (try replace bb := hblk_of ab)
    (try replace ac := S.box F' ac)
    (try replace bc := hblk_of ac)
    replace F := F.trans F'
    replace S := S'
    clear S' F'
    refine run ?_
    have L0 := K0.ld _ S.g
    refine run ?_
    refine (he y (by simp) r0 K0.nd S (by ((try simp only [List.length_append, List.length_cons, List.length_nil, lim8, commaS] at hl ⊢); omega))).mono ?_
    rintro _ X ⟨S', F'⟩
    (try replace ab := S.box F' ab)
    (try replace bb := hblk_of ab)
    (try replace ac := S.box F' ac)
    (try replace bc := hblk_of ac)
    replace F := F.trans F'
    replace S := S'
    clear S' F'
    refine run ?_
    refine Ob2.lay (.cells (.row 9) (List.map Value.string [⟨#[41, 32]⟩])) (.slice (some ⟨_, 0, none⟩) _ 1) rfl fun U pa pg _ => ?_
    replace S := S.grow pg
    replace F := F.trans (.of pg)
    (try replace ab := pg.at ab)
    (try replace bb := hblk_of ab)
    (try replace ac := pg.at ac)
    (try replace bc := hblk_of ac)
    refine run ?_
    refine (S.put (t := [41, 32]) pa (by simp [catL]) (by simp) (by ((try simp only [List.length_append, List.length_cons, List.length_nil, lim8, commaS] at hl ⊢); omega))).mono ?_
    rintro _ X ⟨S', F'⟩
    (try replace ab := S.box F' ab)
    (try replace bb := hblk_of ab)
    (try replace ac := S.box F' ac)
    (try replace bc := hblk_of ac)
    replace F := F.trans F'
    replace S := S'
    clear S' F'
    refine run ?_
    have L1 := K1.ks _ S.g
    refine run ?_
    refine (blockW K1.rk K1.ow.2.2.2 (hs z (by simp) r1) S (by ((try simp only [List.length_append, List.length_cons, List.length_nil, lim8, commaS] at hl ⊢); omega))).mono ?_
    rintro _ X ⟨S', F'⟩
    (try replace ab := S.box F' ab)
    (try replace bb := hblk_of ab)
    (try replace ac := S.box F' ac)
    (try replace bc := hblk_of ac)
    replace F := F.trans F'
    replace S := S'
    clear S' F'
    refine run ?_
    have L2 := K2.ks _ S.g
    have l2 : alen Try.prog 23 k2 X = some (.int .i64 u.kids.length) := K2.rk.len rfl _
    by_cases hu : u.kids = []
    · have d : decide ((u.kids.length : Int) > 0) = false := by rw [hu]; rfl
      rw [if_pos hu] at hl ⊢
      refine run ?_
      exact ⟨by simpa only [List.append_assoc, List.append_nil] using S, F⟩
    · have d : decide ((u.kids.length : Int) > 0) = true := decide_eq_true (by have := List.length_pos_iff.2 hu; omega)
      rw [if_neg hu] at hl ⊢
      refine run ?_
      refine Ob2.lay (.cells (.row 9) (List.map Value.string [⟨#[32, 101, 108, 115, 101, 32]⟩])) (.slice (some ⟨_, 0, none⟩) _ 1) rfl fun U pa pg _ => ?_
      replace S := S.grow pg
      replace F := F.trans (.of pg)
      (try replace ab := pg.at ab)
      (try replace bb := hblk_of ab)
      (try replace ac := pg.at ac)
      (try replace bc := hblk_of ac)
      refine run ?_
      refine (S.put (t := [32, 101, 108, 115, 101, 32]) pa (by simp [catL]) (by simp) (by ((try simp only [List.length_append, List.length_cons, List.length_nil, lim8, commaS] at hl ⊢); omega))).mono ?_
      rintro _ X ⟨S', F'⟩
      (try replace ab := S.box F' ab)
      (try replace bb := hblk_of ab)
      (try replace ac := S.box F' ac)
      (try replace bc := hblk_of ac)
      replace F := F.trans F'
      replace S := S'
      clear S' F'
      refine run ?_
      have L3 := K2.ks _ S.g
      refine run ?_
      refine (blockW K2.rk K2.ow.2.2.2 (hs u (by simp) r2) S (by ((try simp only [List.length_append, List.length_cons, List.length_nil, lim8, commaS] at hl ⊢); omega))).mono ?_
      rintro _ X ⟨S', F'⟩
      (try replace ab := S.box F' ab)
      (try replace bb := hblk_of ab)
      (try replace ac := S.box F' ac)
      (try replace bc := hblk_of ac)
      replace F := F.trans F'
      replace S := S'
      clear S' F'
      refine run ?_
      exact ⟨by simpa only [List.append_assoc] using S, F⟩
  · obtain ⟨hk, hn⟩ := h
    obtain ⟨y, z, hks⟩ := two_of hn
    have t28 : (x.kind == 28) = false := by rw [hk]; rfl
    have t30 : (x.kind == 30) = true := by rw [hk]; rfl
    rw [hks, hk] at hr
    rw [hks] at rk he hs
    have r0 : RightT y 1 := hr 0 y rfl
    obtain ⟨b0, o0, n0, k0, K0⟩ := kidAt rk 0 (y := y) rfl
    have x0 : aindexAddr Try.prog 23 sk (.int .i64 0) = _ := K0.ix
    obtain ⟨b1, o1, n1, k1, K1⟩ := kidAt rk 1 (y := z) rfl
    have x1 : aindexAddr Try.prog 23 sk (.int .i64 1) = _ := K1.ix
    have r1 : RightT z 3 := hr 1 z rfl
    have ht : x.tx.2.1 = [119, 104, 105, 108, 101, 32, 40] ++ y.tx.1 ++ [41, 32] ++ braceS (z.kids.map (·.tx.2.1)) := by rw [Tr.tx_eq, hks, hk, ← bl_tx]; rfl
    rw [ht] at hl ⊢
    refine run ?_
    refine Ob2.lay (.cells (.row 9) (List.map Value.string [⟨#[119, 104, 105, 108, 101, 32, 40]⟩])) (.slice (some ⟨_, 0, none⟩) _ 1) rfl fun U pa pg _ => ?_
    replace S := S.grow pg
    replace F := F.trans (.of pg)
    (try replace ab := pg.at ab)
    (try replace bb := hblk_of ab)
    (try replace ac := pg.at ac)
    (try replace bc := hblk_of ac)
    refine run ?_
    refine (S.put (t := [119, 104, 105, 108, 101, 32, 40]) pa (by simp [catL]) (by simp) (by ((try simp only [List.length_append, List.length_cons, List.length_nil, lim8, commaS] at hl ⊢); omega))).mono ?_
    rintro _ X ⟨S', F'⟩
    (try replace ab := S.box F' ab)
    (try replace bb := hblk_of ab)
    (try replace ac := S.box F' ac)
    (try replace bc := hblk_of ac)
    replace F := F.trans F'
    replace S := S'
    clear S' F'
    refine run ?_
    have L0 := K0.ld _ S.g
    refine run ?_
    refine (he y (by simp) r0 K0.nd S (by ((try simp only [List.length_append, List.length_cons, List.length_nil, lim8, commaS] at hl ⊢); omega))).mono ?_
    rintro _ X ⟨S', F'⟩
    (try replace ab := S.box F' ab)
    (try replace bb := hblk_of ab)
    (try replace ac := S.box F' ac)
    (try replace bc := hblk_of ac)
    replace F := F.trans F'
    replace S := S'
    clear S' F'
    refine run ?_
    refine Ob2.lay (.cells (.row 9) (List.map Value.string [⟨#[41, 32]⟩])) (.slice (some ⟨_, 0, none⟩) _ 1) rfl fun U pa pg _ => ?_
    replace S := S.grow pg
    replace F := F.trans (.of pg)
    (try replace ab := pg.at ab)
    (try replace bb := hblk_of ab)
    (try replace ac := pg.at ac)
    (try replace bc := hblk_of ac)
    refine run ?_
    refine (S.put (t := [41, 32]) pa (by simp [catL]) (by simp) (by ((try simp only [List.length_append, List.length_cons, List.length_nil, lim8, commaS] at hl ⊢); omega))).mono ?_
    rintro _ X ⟨S', F'⟩
    (try replace ab := S.box F' ab)
    (try replace bb := hblk_of ab)
    (try replace ac := S.box F' ac)
    (try replace bc := hblk_of ac)
    replace F := F.trans F'
    replace S := S'
    clear S' F'
    refine run ?_
    have L1 := K1.ks _ S.g
    refine run ?_
    refine (blockW K1.rk K1.ow.2.2.2 (hs z (by simp) r1) S (by ((try simp only [List.length_append, List.length_cons, List.length_nil, lim8, commaS] at hl ⊢); omega))).mono ?_
    rintro _ X ⟨S', F'⟩
    (try replace ab := S.box F' ab)
    (try replace bb := hblk_of ab)
    (try replace ac := S.box F' ac)
    (try replace bc := hblk_of ac)
    replace F := F.trans F'
    replace S := S'
    clear S' F'
    refine run ?_
    exact ⟨by simpa only [List.append_assoc] using S, F⟩
theorem writes (x : Tr) : Tidy x → (RightT x 1 → WrN 28 x.tx.1 x) ∧ (RightT x 2 → WrN 18 x.tx.2.1 x) ∧ (RightT x 3 → ∀ y ∈ x.kids, WrN 18 y.tx.2.1 y) := by
  induction x using Tr.ind with
  | h x ih =>
    intro tx
    have i1 : ∀ y ∈ x.kids, RightT y 1 → WrN 28 y.tx.1 y := fun y hy => (ih y hy (tx.kid y hy)).1
    have i2 : ∀ y ∈ x.kids, RightT y 2 → WrN 18 y.tx.2.1 y := fun y hy => (ih y hy (tx.kid y hy)).2.1
    have i3 : ∀ y ∈ x.kids, RightT y 3 → ∀ z ∈ y.kids, WrN 18 z.tx.2.1 z := fun y hy => (ih y hy (tx.kid y hy)).2.2
    refine ⟨fun h => ?_, fun h => ?_, fun h => ?_⟩
    · rw [right_iff, own1_iff] at h
      have hk := h.1.kind
      have j1 : x.kind ≠ 8 → ∀ y ∈ x.kids, RightT y 1 := fun h8 y hy => by
        obtain ⟨j, hj⟩ := List.getElem?_of_mem hy
        have := h.2 j y hj
        rwa [show wantP x.kind j = 1 from by unfold wantP; rw [if_neg (by omega), if_neg (by omega)]] at this
      have j2 : x.kind = 8 → ∀ y ∈ x.kids, RightT y 2 := fun h8 y hy => by
        obtain ⟨j, hj⟩ := List.getElem?_of_mem hy
        have := h.2 j y hj
        rwa [show wantP x.kind j = 2 from by unfold wantP; rw [if_pos (by omega)]] at this
      exact @exprW x h.1 tx (fun h8 y hy => @i1 y hy (j1 h8 y hy)) (fun h8 y hy => @i2 y hy (j2 h8 y hy))
    · rw [right_iff, own2_iff] at h
      exact @stmtW x h.1 h.2 i1 i3
    · rw [right_iff, own3_iff] at h
      intro y hy
      have j2 : RightT y 2 := by
        obtain ⟨j, hj⟩ := List.getElem?_of_mem hy
        have := h.2 j y hj
        rwa [show wantP x.kind j = 2 from by unfold wantP; rw [if_pos (by omega)]] at this
      exact @i2 y hy j2
end Go.Proofs.Ytmglmjbjgfbdjaa
/- A tree's text and its size, plainly. -/
set_option linter.unusedVariables false
set_option linter.unusedSimpArgs false
set_option maxRecDepth 20000
set_option maxHeartbeats 8000000
namespace Go.Proofs.Ytmglmjbjgfbdjaa
open Go Ax
mutual
/-- How many nodes a tree has. -/
def Tr.cnt : Tr → Nat
  | .mk _ _ _ _ _ ks _ => 1 + cnts ks
def cnts : List Tr → Nat
  | [] => 0
  | t :: ts => t.cnt + cnts ts
end
def szs (ns : List ByteArray) : Nat := (ns.map (·.size)).sum
mutual
/-- How long a tree's strings are. -/
def Tr.strs : Tr → Nat
  | .mk _ _ _ s ns ks _ => s.size + szs ns + strss ks
def strss : List Tr → Nat
  | [] => 0
  | t :: ts => t.strs + strss ts
end
theorem Tr.cnt_eq (x : Tr) : x.cnt = 1 + cnts x.kids := by cases x; rw [Tr.cnt]; rfl
theorem Tr.strs_eq (x : Tr) : x.strs = x.str.size + szs x.names + strss x.kids := by cases x; rw [Tr.strs]; rfl
theorem leftL_cnt : ∀ (ks : List Tr), (∀ k ∈ ks, ∀ m h : Int, 0 ≤ m → 0 ≤ k.left m h → k.left m h ≤ m - k.cnt) → ∀ m h : Int, 0 ≤ leftL ks m h → leftL ks m h ≤ m - cnts ks
  | [], _, m, h, h0 => by simp [leftL, cnts]
  | k :: ks, hk, m, h, h0 => by
    rw [leftL] at h0 ⊢
    split at h0
    · omega
    · rename_i hm
      rw [if_neg hm]
      have h1 : 0 ≤ k.left m h := by
        by_cases hn : k.left m h < 0
        · rw [leftL_neg hn] at h0; exact h0
        · omega
      have h2 := leftL_cnt ks (fun k h => hk k (List.mem_cons_of_mem _ h)) _ h h0
      have h3 := hk k (List.mem_cons_self ..) m h (by omega) h1
      rw [cnts]
      omega
theorem Tr.left_cnt (x : Tr) : ∀ m h : Int, 0 ≤ m → 0 ≤ x.left m h → x.left m h ≤ m - x.cnt := by
  induction x using Tr.ind with
  | h x ih =>
    intro m h hm h0
    rw [Tr.left_eq] at h0 ⊢
    rw [Tr.cnt_eq]
    split at h0
    · omega
    · rename_i hh
      rw [if_neg hh]
      have := leftL_cnt x.kids ih (m - 1) (h - 1) h0
      omega
/-- What is left, as the program counts it. -/
def namesL (left : Int) (ns : List ByteArray) : Int := left - szs ns
mutual
def Tr.long : Tr → Int → Int
  | .mk _ _ _ s ns ks _, left => longL ks (left - (1 + s.size) - szs ns)
def longL : List Tr → Int → Int
  | [], left => left
  | k :: ks, left => if left < 0 then left else longL ks (k.long left)
end
theorem Tr.long_eq (x : Tr) (left : Int) : x.long left = longL x.kids (left - (1 + x.str.size) - szs x.names) := by cases x; rw [Tr.long]; rfl
theorem longL_neg {ks : List Tr} {m : Int} (h : m < 0) : longL ks m = m := by
  cases ks with
  | nil => rfl
  | cons k ks => rw [longL, if_pos h]
theorem longL_wt : ∀ (ks : List Tr), (∀ k ∈ ks, ∀ m : Int, 0 ≤ m → k.long m ≤ m ∧ (0 ≤ k.long m → k.long m = m - k.cnt - k.strs) ∧ (k.long m < 0 → m < k.cnt + k.strs)) → ∀ m : Int, longL ks m ≤ m ∧ (0 ≤ longL ks m → longL ks m = m - cnts ks - strss ks) ∧ (longL ks m < 0 → m < cnts ks + strss ks)
  | [], _, m => by simp [longL, cnts, strss]
  | k :: ks, hk, m => by
    rw [longL, cnts, strss]
    split
    · omega
    · have h1 := hk k (List.mem_cons_self ..) m (by omega)
      have h2 := longL_wt ks (fun k h => hk k (List.mem_cons_of_mem _ h)) (k.long m)
      refine ⟨by omega, fun h => by omega, fun h => ?_⟩
      by_cases h3 : k.long m < 0
      · omega
      · omega
theorem Tr.long_wt (x : Tr) : ∀ m : Int, 0 ≤ m → x.long m ≤ m ∧ (0 ≤ x.long m → x.long m = m - x.cnt - x.strs) ∧ (x.long m < 0 → m < x.cnt + x.strs) := by
  induction x using Tr.ind with
  | h x ih =>
    intro m hm
    rw [Tr.long_eq, Tr.cnt_eq, Tr.strs_eq]
    have := longL_wt x.kids ih (m - (1 + x.str.size) - szs x.names)
    omega
/-! ### How long a text is -/
def mx (t : Tx3) : Nat := max t.1.length (max t.2.1.length t.2.2.length)
theorem mx1 (t : Tx3) : t.1.length ≤ mx t ∧ t.2.1.length ≤ mx t ∧ t.2.2.length ≤ mx t := by unfold mx; omega
theorem joinS_up (sep : List UInt8) : ∀ L : List (List UInt8), (joinS sep L).length ≤ (L.map (·.length)).sum + L.length * sep.length
  | [] => by simp [joinS]
  | [t] => by simp [joinS]
  | t :: u :: ts => by
    have := joinS_up sep (u :: ts)
    simp only [joinS, List.length_append, List.map_cons, List.sum_cons, List.length_cons, Nat.add_mul] at this ⊢
    omega
theorem joinS_dn (sep : List UInt8) : ∀ L : List (List UInt8), (L.map (·.length)).sum ≤ (joinS sep L).length
  | [] => by simp [joinS]
  | [t] => by simp [joinS]
  | t :: u :: ts => by
    have := joinS_dn sep (u :: ts)
    simp only [joinS, List.length_append, List.map_cons, List.sum_cons, List.length_cons] at this ⊢
    omega
theorem spaceS_len : ∀ L : List (List UInt8), (spaceS L).length = (L.map (·.length)).sum + L.length
  | [] => by simp [spaceS]
  | t :: ts => by
    have := spaceS_len ts
    simp only [spaceS, List.length_append, List.map_cons, List.sum_cons, List.length_cons, List.length_nil] at this ⊢
    omega
theorem braceS_len (L : List (List UInt8)) : (L.map (·.length)).sum ≤ (braceS L).length ∧ (braceS L).length ≤ (L.map (·.length)).sum + L.length + 3 := by
  unfold braceS
  split
  · rename_i h; subst h; simp
  · simp only [List.length_append, spaceS_len, List.length_cons, List.length_nil]; omega
theorem fieldS_up : ∀ (ns : List ByteArray) (ts : List (List UInt8)), ((fieldS ns ts).map (·.length)).sum ≤ szs ns + 2 * ns.length + (ts.map (·.length)).sum ∧ (fieldS ns ts).length ≤ ns.length
  | [], _ => by simp [fieldS, szs]
  | n :: ns, [] => by simp [fieldS]
  | n :: ns, t :: ts => by
    have := fieldS_up ns ts
    simp only [fieldS, szs, List.length_append, List.map_cons, List.sum_cons, List.length_cons, List.length_nil] at this ⊢
    have e : n.data.toList.length = n.size := rfl
    omega
theorem fieldS_dn : ∀ (ns : List ByteArray) (ts : List (List UInt8)), ts.length = ns.length → szs ns + (ts.map (·.length)).sum ≤ ((fieldS ns ts).map (·.length)).sum
  | [], [], _ => by simp [fieldS, szs]
  | [], _ :: _, h => by simp at h
  | n :: ns, [], h => by simp at h
  | n :: ns, t :: ts, h => by
    have := fieldS_dn ns ts (by simpa using h)
    simp only [fieldS, szs, List.length_append, List.map_cons, List.sum_cons, List.length_cons, List.length_nil] at this ⊢
    have e : n.data.toList.length = n.size := rfl
    omega
theorem sum_names (ns : List ByteArray) : ((ns.map (·.data.toList)).map (·.length)).sum = szs ns := by
  rw [List.map_map]; rfl
theorem sum_mono {α : Type} {f g : α → Nat} : ∀ (L : List α), (∀ a ∈ L, f a ≤ g a) → (L.map f).sum ≤ (L.map g).sum
  | [], _ => by simp
  | a :: L, h => by
    have h1 := sum_mono L fun a ha => h a (List.mem_cons_of_mem _ ha)
    have h2 := h a (List.mem_cons_self ..)
    simp only [List.map_cons, List.sum_cons]
    omega
theorem atS_up (l : Int) (x : Tr) (t : List UInt8) : t.length ≤ (atS l x t).length ∧ (atS l x t).length ≤ t.length + 2 := by
  unfold atS; split <;> simp <;> omega
theorem szs_le {ns : List ByteArray} : (∀ n ∈ ns, n.size ≤ 100) → szs ns ≤ 100 * ns.length := by
  induction ns with
  | nil => intro _; simp [szs]
  | cons n ns ih =>
    intro h
    have h1 := ih fun n hn => h n (List.mem_cons_of_mem _ hn)
    have h2 := h n (List.mem_cons_self ..)
    simp only [szs, List.map_cons, List.sum_cons, List.length_cons] at h1 ⊢
    omega
theorem ex_get (ts : List Tx3) : (exT ts 0).length + (blT ts 1).length + (blT ts 2).length ≤ (ts.map mx).sum ∧ (exT ts 0).length + (exT ts 1).length + (exT ts 2).length ≤ (ts.map mx).sum := by
  match ts with
  | [] => simp [exT, blT]
  | [a] => have := mx1 a; simp [exT, blT]; omega
  | [a, b] => have := mx1 a; have := mx1 b; simp [exT, blT]; omega
  | a :: b :: c :: r => have := mx1 a; have := mx1 b; have := mx1 c; simp [exT, blT]; omega
theorem decF_len6 : ∀ (f n : Nat) (acc : Bs), (decF f n acc).length ≤ f + acc.length
  | 0, n, acc => by simp [decF]
  | f + 1, n, acc => by
    rw [decF]
    split
    · simp; omega
    · have := decF_len6 f (n / 10) (UInt8.ofNat (48 + n % 10) :: acc)
      simp only [List.length_cons] at this
      omega
theorem quoteS_up (L : List UInt8) : L.length ≤ (quoteS L).length ∧ (quoteS L).length ≤ 4 * L.length + 2 := by
  have h : ∀ L : List UInt8, L.length ≤ (L.flatMap quote1).length ∧ (L.flatMap quote1).length ≤ 4 * L.length := by
    intro L
    induction L with
    | nil => simp
    | cons c L ih =>
      have h1 := quote1_len c
      have h2 : 1 ≤ (quote1 c).length := by unfold quote1; split; simp; split <;> simp
      simp only [List.flatMap_cons, List.length_append, List.length_cons]
      omega
  have := h L
  simp only [quoteS, List.length_append, List.length_cons, List.length_nil]
  omega
theorem builtS_len (a : Int) : (builtS a).data.toList.length ≤ 8 := by
  unfold builtS; (repeat' split) <;> exact Nat.le_of_ble_eq_true rfl
theorem signT_len (a : Int) : (signT a).data.toList.length ≤ 2 := by
  unfold signT; (repeat' split) <;> simp
theorem tail_le {α : Type} (f : α → Nat) (L : List α) : ((L.drop 1).map f).sum ≤ (L.map f).sum := by
  cases L with
  | nil => simp
  | cons a L => simp
theorem ite_len {c : Prop} [Decidable c] {a b : List UInt8} {N : Nat} (h1 : c → a.length ≤ N) (h2 : ¬ c → b.length ≤ N) : (if c then a else b).length ≤ N := by
  split
  · exact h1 ‹_›
  · exact h2 ‹_›
theorem exprF_up (k o n : Int) (s : ByteArray) (ns : List ByteArray) (ks : List Tr) (ts : List Tx3) (h1 : s.size ≤ 600) (h2 : ns.length ≤ 60) (h3 : ∀ n ∈ ns, n.size ≤ 100) :
    (exprF k o n s ns ks ts).length ≤ (ts.map mx).sum + 2 * ts.length + 9000 := by
  have e1 := (ex_get ts).2
  have e2 := joinS_up [44, 32] (ts.map (·.1))
  have e3 := joinS_up [44, 32] ((ts.drop 1).map (·.1))
  have e4 := joinS_up [44, 32] (ns.map (·.data.toList))
  have e5 := joinS_up [44, 32] (fieldS ns (ts.map (·.1)))
  have e6 := fieldS_up ns (ts.map (·.1))
  have e7 := (braceS_len (ts.map (·.2.1))).2
  have e8 : (decL n.toNat).length ≤ 20 := decF_len6 20 n.toNat []
  have e9 := (quoteS_up s.data.toList).2
  have e10 := szs_le h3
  have e11 := builtS_len o
  have e12 := signT_len o
  have m1 : ((ts.map (·.1)).map (·.length)).sum ≤ (ts.map mx).sum := by rw [List.map_map]; exact sum_mono _ fun t _ => (mx1 t).1
  have m2 : ((ts.map (·.2.1)).map (·.length)).sum ≤ (ts.map mx).sum := by rw [List.map_map]; exact sum_mono _ fun t _ => (mx1 t).2.1
  have m3 : (exT ts 0).length + (((ts.drop 1).map (·.1)).map (·.length)).sum ≤ (ts.map mx).sum := by
    rw [List.map_map]
    cases ts with
    | nil => simp [exT]
    | cons t ts =>
      have h1 := (mx1 t).1
      have h2 := sum_mono (f := (fun l : List UInt8 => l.length) ∘ fun t : Tx3 => t.1) (g := mx) ts fun t _ => (mx1 t).1
      simp only [exT, List.getD_cons_zero, List.drop_succ_cons, List.drop_zero, List.map_cons, List.sum_cons]
      omega
  have es : s.data.toList.length = s.size := rfl
  rw [sum_names] at e4
  simp only [List.length_map, List.length_drop, List.length_cons, List.length_nil] at e2 e3 e4 e5 e7
  have a0 := fun l => (atS_up l (kidT ks 0) (exT ts 0)).2
  have a1 := fun l => (atS_up l (kidT ks 1) (exT ts 1)).2
  unfold exprF
  dsimp only
  generalize decL n.toNat = dd at e8 ⊢
  repeat' (refine ite_len (fun _ => ?_) (fun _ => ?_))
  all_goals (try simp only [List.length_append, List.length_cons, List.length_nil, commaS])
  all_goals have b0 := a0 (rankP k o)
  all_goals have b1 := a1 (rankP k o + 1)
  all_goals have b2 := a0 8
  all_goals have b3 := a0 9
  all_goals clear a0 a1
  all_goals (repeat' split) <;> (try simp only [List.length_append, List.length_cons, List.length_nil]) <;> omega
theorem stmtF_up (k : Int) (s : ByteArray) (ks : List Tr) (ts : List Tx3) (h1 : s.size ≤ 600) : (stmtF k s ks ts).length ≤ (ts.map mx).sum + 2 * ts.length + 9000 := by
  have e1 := ex_get ts
  have es : s.data.toList.length = s.size := rfl
  have a0 := (atS_up 8 (kidT ks 0) (exT ts 0)).2
  unfold stmtF
  dsimp only
  repeat' (refine ite_len (fun _ => ?_) (fun _ => ?_))
  all_goals (try simp only [List.length_append, List.length_cons, List.length_nil])
  all_goals (repeat' split) <;> (try simp only [List.length_append, List.length_cons, List.length_nil]) <;> omega
theorem cnts_sum : ∀ ks : List Tr, cnts ks = (ks.map Tr.cnt).sum
  | [] => rfl
  | k :: ks => by rw [cnts, cnts_sum ks]; rfl
theorem strss_sum : ∀ ks : List Tr, strss ks = (ks.map Tr.strs).sum
  | [] => rfl
  | k :: ks => by rw [strss, strss_sum ks]; rfl
/-- A text is not too long. -/
theorem tx_up (x : Tr) : Tidy x → mx x.tx + 100 ≤ 20000 * x.cnt := by
  induction x using Tr.ind with
  | h x ih =>
    intro tx
    have h1 := exprF_up x.kind x.op x.num x.str x.names x.kids (x.kids.map Tr.tx) tx.str tx.names tx.name
    have h2 := stmtF_up x.kind x.str x.kids (x.kids.map Tr.tx) tx.str
    have h3 := (braceS_len (x.kids.map (·.tx.2.1))).2
    have key : (x.kids.map fun y : Tr => mx y.tx + 100).sum ≤ 20000 * cnts x.kids := by
      rw [cnts_sum]
      have : 20000 * (x.kids.map Tr.cnt).sum = (x.kids.map fun y => 20000 * y.cnt).sum := by
        generalize x.kids = L
        induction L with
        | nil => rfl
        | cons a L ih => simp only [List.map_cons, List.sum_cons, Nat.mul_add, ih]
      rw [this]
      exact sum_mono _ fun y hy => ih y hy (tx.kid y hy)
    have k2 : (x.kids.map fun y : Tr => mx y.tx + 100).sum = ((x.kids.map Tr.tx).map mx).sum + 100 * x.kids.length := by
      generalize x.kids = L
      induction L with
      | nil => rfl
      | cons a L ih => simp only [List.map_cons, List.sum_cons, List.length_cons] at ih ⊢; omega
    have m2 : ((x.kids.map (·.tx.2.1)).map (·.length)).sum ≤ ((x.kids.map Tr.tx).map mx).sum := by rw [List.map_map, List.map_map]; exact sum_mono _ fun t _ => (mx1 t.tx).2.1
    rw [Tr.cnt_eq, Tr.tx_eq]
    simp only [List.length_map] at h1 h2 h3
    have hm : ∀ a b c : List UInt8, mx (a, b, c) = max a.length (max b.length c.length) := fun _ _ _ => rfl
    rw [hm]
    omega
end Go.Proofs.Ytmglmjbjgfbdjaa
/- A right tree's text is as long as its strings, plainly. -/
set_option linter.unusedVariables false
set_option linter.unusedSimpArgs false
set_option maxRecDepth 20000
set_option maxHeartbeats 8000000
namespace Go.Proofs.Ytmglmjbjgfbdjaa
open Go Ax
theorem str0 {s : ByteArray} (h : s = ⟨#[]⟩) : s.size = 0 := by rw [h]; rfl
theorem szs0 {ns : List ByteArray} (h : ns.length = 0) : szs ns = 0 := by rw [List.length_eq_zero_iff.1 h]; rfl
theorem strss0 {ks : List Tr} (h : ks.length = 0) : strss ks = 0 := by rw [List.length_eq_zero_iff.1 h]; rfl
theorem strs_list {ks : List Tr} (f : Tr → List UInt8) (h : ∀ y ∈ ks, y.strs ≤ (f y).length) : strss ks ≤ ((ks.map f).map (·.length)).sum := by
  rw [strss_sum, List.map_map]
  exact sum_mono ks h
theorem bl_tx6 (y : Tr) : y.tx.2.2 = braceS (y.kids.map (·.tx.2.1)) := by rw [Tr.tx_eq]
theorem blk_dn {x : Tr} (h : ∀ y ∈ x.kids, y.strs ≤ y.tx.2.1.length) : strss x.kids ≤ x.tx.2.2.length := by
  rw [bl_tx6]
  exact Nat.le_trans (strs_list (·.tx.2.1) h) (braceS_len _).1
theorem strs_dn (x : Tr) : (RightT x 1 → x.strs ≤ x.tx.1.length) ∧ (RightT x 2 → x.strs ≤ x.tx.2.1.length) ∧ (RightT x 3 → x.strs ≤ x.tx.2.2.length) := by
  induction x using Tr.ind with
  | h x ih =>
  have es : x.str.data.toList.length = x.str.size := rfl
  refine ⟨fun h => ?_, fun h => ?_, fun h => ?_⟩
  · rw [right_iff, own1_iff] at h
    obtain ⟨hp, hr⟩ := h
    have j1 : x.kind ≠ 8 → ∀ y ∈ x.kids, y.strs ≤ y.tx.1.length := fun h8 y hy => by
      obtain ⟨j, hj⟩ := List.getElem?_of_mem hy
      have := hr j y hj
      have hk := hp.kind
      rw [show wantP x.kind j = 1 from by unfold wantP; rw [if_neg (by omega), if_neg (by omega)]] at this
      exact (ih y hy).1 this
    have j2 : x.kind = 8 → ∀ y ∈ x.kids, y.strs ≤ y.tx.2.1.length := fun h8 y hy => by
      obtain ⟨j, hj⟩ := List.getElem?_of_mem hy
      have := hr j y hj
      rw [show wantP x.kind j = 2 from by unfold wantP; rw [if_pos (by omega)]] at this
      exact (ih y hy).2.1 this
    clear hr ih
    rw [Tr.strs_eq]
    rcases hp with ⟨hk, hb, hn⟩ | ⟨hk, hb, -, hn⟩ | ⟨hk, hb, -, -, hn⟩ | ⟨hk, hb, -, hn⟩ | ⟨hk, hb, -, hn⟩ | ⟨hk, hb, -, -, hn⟩ | ⟨hk, hb, -, -, hn⟩ | ⟨hk, hb, ho, hn⟩ | ⟨hk, hb, -, -, hn⟩ | ⟨hk, hb, hn⟩ | ⟨hk, hb, -, hn⟩ | ⟨hk, hb, hn, -⟩ | ⟨hk, hb, -, hn, -⟩ | ⟨hk, hb, -⟩
    · rw [str0 (hb.2.2.1 rfl), szs0 (hb.2.2.2 rfl), strss0 hn]; omega
    · rw [str0 (hb.2.2.1 rfl), szs0 (hb.2.2.2 rfl), strss0 hn]; omega
    · rw [str0 (hb.2.2.1 rfl), szs0 (hb.2.2.2 rfl), strss0 hn]; omega
    · have ht : x.tx.1 = quoteS x.str.data.toList := by rw [Tr.tx_eq, hk]; rfl
      rw [szs0 (hb.2.2.2 rfl), strss0 hn, ht]
      have := (quoteS_up x.str.data.toList).1
      omega
    · have ht : x.tx.1 = x.str.data.toList := by rw [Tr.tx_eq, hk]; rfl
      rw [szs0 (hb.2.2.2 rfl), strss0 hn, ht]
      omega
    · have ht : x.tx.1 = [123] ++ commaS (fieldS x.names (x.kids.map (·.tx.1))) ++ [125] := by rw [Tr.tx_eq, hk, ← map_one]; rfl
      rw [str0 (hb.2.2.1 rfl), ht]
      have h1 := strs_list (·.tx.1) (j1 (by omega))
      have h2 := fieldS_dn x.names (x.kids.map (·.tx.1)) (by simpa using hn)
      have h3 := joinS_dn [44, 32] (fieldS x.names (x.kids.map (·.tx.1)))
      simp only [List.length_append, commaS]
      omega
    · have ht : x.tx.1 = [102, 110, 40] ++ commaS (x.names.map (·.data.toList)) ++ [41, 32] ++ braceS (x.kids.map (·.tx.2.1)) := by
        have e : (x.kids.map Tr.tx).map (·.2.1) = x.kids.map (·.tx.2.1) := by simp [Function.comp_def]
        rw [Tr.tx_eq, hk, ← e]; rfl
      rw [str0 (hb.2.2.1 rfl), ht]
      have h1 := strs_list (·.tx.2.1) (j2 hk)
      have h2 := (braceS_len (x.kids.map (·.tx.2.1))).1
      have h3 := joinS_dn [44, 32] (x.names.map (·.data.toList))
      rw [sum_names] at h3
      simp only [List.length_append, commaS]
      omega
    · obtain ⟨y, hks⟩ := List.length_eq_one_iff.1 hn
      have j := j1 (by omega) y (by rw [hks]; simp)
      have ht : x.tx.1 = (if x.op = 1 then [45] else [33]) ++ atS (rankP x.kind x.op) y y.tx.1 := by rw [Tr.tx_eq, hks, hk]; rfl
      rw [str0 (hb.2.2.1 rfl), szs0 (hb.2.2.2 rfl), ht, hks]
      have h1 := (atS_up (rankP x.kind x.op) y y.tx.1).1
      simp only [List.length_append, strss]
      omega
    · obtain ⟨y, z, hks⟩ := two_of hn
      have j := j1 (by omega) y (by rw [hks]; simp)
      have j' := j1 (by omega) z (by rw [hks]; simp)
      have ht : x.tx.1 = atS (rankP x.kind x.op) y y.tx.1 ++ [32] ++ (signT x.op).data.toList ++ [32] ++ atS (rankP x.kind x.op + 1) z z.tx.1 := by rw [Tr.tx_eq, hks, hk]; rfl
      rw [str0 (hb.2.2.1 rfl), szs0 (hb.2.2.2 rfl), ht, hks]
      have h1 := (atS_up (rankP x.kind x.op) y y.tx.1).1
      have h2 := (atS_up (rankP x.kind x.op + 1) z z.tx.1).1
      simp only [List.length_append, strss]
      omega
    · obtain ⟨y, z, hks⟩ := two_of hn
      have j := j1 (by omega) y (by rw [hks]; simp)
      have j' := j1 (by omega) z (by rw [hks]; simp)
      have h1 := (atS_up (rankP x.kind x.op) y y.tx.1).1
      have h2 := (atS_up (rankP x.kind x.op + 1) z z.tx.1).1
      have h3 := (atS_up 8 y y.tx.1).1
      rw [str0 (hb.2.2.1 rfl), szs0 (hb.2.2.2 rfl)]
      rcases hk with hk | hk | hk
      · have ht : x.tx.1 = atS (rankP x.kind x.op) y y.tx.1 ++ [32] ++ [38, 38] ++ [32] ++ atS (rankP x.kind x.op + 1) z z.tx.1 := by rw [Tr.tx_eq, hks, hk]; rfl
        rw [ht, hks]
        simp only [List.length_append, strss]
        omega
      · have ht : x.tx.1 = atS (rankP x.kind x.op) y y.tx.1 ++ [32] ++ [124, 124] ++ [32] ++ atS (rankP x.kind x.op + 1) z z.tx.1 := by rw [Tr.tx_eq, hks, hk]; rfl
        rw [ht, hks]
        simp only [List.length_append, strss]
        omega
      · have ht : x.tx.1 = atS 8 y y.tx.1 ++ [91] ++ z.tx.1 ++ [93] := by rw [Tr.tx_eq, hks, hk]; rfl
        rw [ht, hks]
        simp only [List.length_append, strss]
        omega
    · obtain ⟨y, hks⟩ := List.length_eq_one_iff.1 hn
      have j := j1 (by omega) y (by rw [hks]; simp)
      have ht : x.tx.1 = atS 8 y y.tx.1 ++ [46] ++ x.str.data.toList := by rw [Tr.tx_eq, hks, hk]; rfl
      rw [szs0 (hb.2.2.2 rfl), ht, hks]
      have h1 := (atS_up 8 y y.tx.1).1
      simp only [List.length_append, strss]
      omega
    · obtain ⟨y, r, hks⟩ := some_of hn
      have j := j1 (by omega)
      rw [hks] at j
      have ht : x.tx.1 = atS (if y.kind = 13 then 9 else 8) y y.tx.1 ++ [40] ++ commaS (r.map (·.tx.1)) ++ [41] := by rw [Tr.tx_eq, hks, hk, ← map_one]; rfl
      rw [str0 (hb.2.2.1 rfl), szs0 (hb.2.2.2 rfl), ht, hks]
      have h1 := (atS_up (if y.kind = 13 then 9 else 8) y y.tx.1).1
      have h2 := strs_list (·.tx.1) fun y hy => j y (List.mem_cons_of_mem _ hy)
      have h3 := joinS_dn [44, 32] (r.map (·.tx.1))
      have h4 := j y (by simp)
      simp only [List.length_append, strss, commaS]
      omega
    · obtain ⟨y, r, hks⟩ := some_of hn
      have j := j1 (by omega)
      rw [hks] at j
      have ht : x.tx.1 = atS 8 y y.tx.1 ++ [46] ++ x.str.data.toList ++ [40] ++ commaS (r.map (·.tx.1)) ++ [41] := by rw [Tr.tx_eq, hks, hk, ← map_one]; rfl
      rw [szs0 (hb.2.2.2 rfl), ht, hks]
      have h1 := (atS_up 8 y y.tx.1).1
      have h2 := strs_list (·.tx.1) fun y hy => j y (List.mem_cons_of_mem _ hy)
      have h3 := joinS_dn [44, 32] (r.map (·.tx.1))
      have h4 := j y (by simp)
      simp only [List.length_append, strss, commaS]
      omega
    · have ht : x.tx.1 = (builtS x.op).data.toList ++ [40] ++ commaS (x.kids.map (·.tx.1)) ++ [41] := by rw [Tr.tx_eq, hk, ← map_one]; rfl
      rw [str0 (hb.2.2.1 rfl), szs0 (hb.2.2.2 rfl), ht]
      have h2 := strs_list (·.tx.1) (j1 (by omega))
      have h3 := joinS_dn [44, 32] (x.kids.map (·.tx.1))
      simp only [List.length_append, commaS]
      omega
  · rw [right_iff, own2_iff] at h
    obtain ⟨⟨hb, hp⟩, hr⟩ := h
    rw [Tr.strs_eq, szs0 (hb.2.2.2 rfl)]
    have r1 : ∀ {j y}, x.kids[j]? = some y → wantP x.kind j = 1 → y.strs ≤ y.tx.1.length := fun {j y} hj hw => (ih y (List.mem_of_getElem? hj)).1 (hw ▸ hr j y hj)
    have r3 : ∀ {j y}, x.kids[j]? = some y → wantP x.kind j = 3 → y.strs ≤ y.tx.2.2.length := fun {j y} hj hw => (ih y (List.mem_of_getElem? hj)).2.2 (hw ▸ hr j y hj)
    obtain ⟨hk, hn⟩ | ⟨hk, hn⟩ | ⟨hk, hn⟩ | ⟨hk, hn⟩ | ⟨hk, hz, hn⟩ | ⟨hk, hz, hn⟩ | ⟨hk, hz, hn⟩ | ⟨hk, hz, hn⟩ | ⟨hk, hz, hn⟩ | ⟨hk, hz, hn⟩ | ⟨hk, hz, hn⟩ : (x.kind = 21 ∧ x.kids.length = 1) ∨ (x.kind = 22 ∧ x.kids.length = 1) ∨ (x.kind = 23 ∧ x.kids.length = 2) ∨ (x.kind = 25 ∧ x.kids.length = 1) ∨ (x.kind = 24 ∧ x.str = ⟨#[]⟩ ∧ x.kids.length = 3) ∨ (x.kind = 26 ∧ x.str = ⟨#[]⟩ ∧ x.kids.length = 2) ∨ (x.kind = 27 ∧ x.str = ⟨#[]⟩ ∧ x.kids.length = 1) ∨ (x.kind = 31 ∧ x.str = ⟨#[]⟩ ∧ x.kids.length = 1) ∨ (x.kind = 32 ∧ x.str = ⟨#[]⟩ ∧ x.kids.length = 1) ∨ (x.kind = 28 ∧ x.str = ⟨#[]⟩ ∧ x.kids.length = 3) ∨ (x.kind = 30 ∧ x.str = ⟨#[]⟩ ∧ x.kids.length = 2) := by grind
    · obtain ⟨y, hks⟩ := List.length_eq_one_iff.1 hn
      have ht : x.tx.2.1 = [108, 101, 116, 32] ++ x.str.data.toList ++ [32, 61, 32] ++ y.tx.1 ++ [59] := by rw [Tr.tx_eq, hks, hk]; rfl
      have q0 := r1 (j := 0) (y := y) (by rw [hks]; rfl) (by rw [hk]; rfl)
      have h8 := (atS_up 8 y y.tx.1).1
      rw [ht, hks]
      simp only [List.length_append, strss]
      omega
    · obtain ⟨y, hks⟩ := List.length_eq_one_iff.1 hn
      have ht : x.tx.2.1 = x.str.data.toList ++ [32, 61, 32] ++ y.tx.1 ++ [59] := by rw [Tr.tx_eq, hks, hk]; rfl
      have q0 := r1 (j := 0) (y := y) (by rw [hks]; rfl) (by rw [hk]; rfl)
      have h8 := (atS_up 8 y y.tx.1).1
      rw [ht, hks]
      simp only [List.length_append, strss]
      omega
    · obtain ⟨y, z, hks⟩ := two_of hn
      have ht : x.tx.2.1 = atS 8 y y.tx.1 ++ [46] ++ x.str.data.toList ++ [32, 61, 32] ++ z.tx.1 ++ [59] := by rw [Tr.tx_eq, hks, hk]; rfl
      have q0 := r1 (j := 0) (y := y) (by rw [hks]; rfl) (by rw [hk]; rfl)
      have q1 := r1 (j := 1) (y := z) (by rw [hks]; rfl) (by rw [hk]; rfl)
      have h8 := (atS_up 8 y y.tx.1).1
      rw [ht, hks]
      simp only [List.length_append, strss]
      omega
    · obtain ⟨y, hks⟩ := List.length_eq_one_iff.1 hn
      have ht : x.tx.2.1 = [100, 101, 108, 101, 116, 101, 32] ++ atS 8 y y.tx.1 ++ [46] ++ x.str.data.toList ++ [59] := by rw [Tr.tx_eq, hks, hk]; rfl
      have q0 := r1 (j := 0) (y := y) (by rw [hks]; rfl) (by rw [hk]; rfl)
      have h8 := (atS_up 8 y y.tx.1).1
      rw [ht, hks]
      simp only [List.length_append, strss]
      omega
    · obtain ⟨y, z, u, hks⟩ := three_of hn
      have ht : x.tx.2.1 = atS 8 y y.tx.1 ++ [91] ++ z.tx.1 ++ [93] ++ [32, 61, 32] ++ u.tx.1 ++ [59] := by rw [Tr.tx_eq, hks, hk]; rfl
      have q0 := r1 (j := 0) (y := y) (by rw [hks]; rfl) (by rw [hk]; rfl)
      have q1 := r1 (j := 1) (y := z) (by rw [hks]; rfl) (by rw [hk]; rfl)
      have q2 := r1 (j := 2) (y := u) (by rw [hks]; rfl) (by rw [hk]; rfl)
      rw [str0 hz]
      have h8 := (atS_up 8 y y.tx.1).1
      rw [ht, hks]
      simp only [List.length_append, strss]
      omega
    · obtain ⟨y, z, hks⟩ := two_of hn
      have ht : x.tx.2.1 = [100, 101, 108, 101, 116, 101, 32] ++ atS 8 y y.tx.1 ++ [91] ++ z.tx.1 ++ [93] ++ [59] := by rw [Tr.tx_eq, hks, hk]; rfl
      have q0 := r1 (j := 0) (y := y) (by rw [hks]; rfl) (by rw [hk]; rfl)
      have q1 := r1 (j := 1) (y := z) (by rw [hks]; rfl) (by rw [hk]; rfl)
      rw [str0 hz]
      have h8 := (atS_up 8 y y.tx.1).1
      rw [ht, hks]
      simp only [List.length_append, strss]
      omega
    · obtain ⟨y, hks⟩ := List.length_eq_one_iff.1 hn
      have ht : x.tx.2.1 = [112, 114, 105, 110, 116, 32] ++ y.tx.1 ++ [59] := by rw [Tr.tx_eq, hks, hk]; rfl
      have q0 := r1 (j := 0) (y := y) (by rw [hks]; rfl) (by rw [hk]; rfl)
      rw [str0 hz]
      have h8 := (atS_up 8 y y.tx.1).1
      rw [ht, hks]
      simp only [List.length_append, strss]
      omega
    · obtain ⟨y, hks⟩ := List.length_eq_one_iff.1 hn
      have ht : x.tx.2.1 = [114, 101, 116, 117, 114, 110, 32] ++ y.tx.1 ++ [59] := by rw [Tr.tx_eq, hks, hk]; rfl
      have q0 := r1 (j := 0) (y := y) (by rw [hks]; rfl) (by rw [hk]; rfl)
      rw [str0 hz]
      have h8 := (atS_up 8 y y.tx.1).1
      rw [ht, hks]
      simp only [List.length_append, strss]
      omega
    · obtain ⟨y, hks⟩ := List.length_eq_one_iff.1 hn
      have ht : x.tx.2.1 = y.tx.1 ++ [59] := by rw [Tr.tx_eq, hks, hk]; rfl
      have q0 := r1 (j := 0) (y := y) (by rw [hks]; rfl) (by rw [hk]; rfl)
      rw [str0 hz]
      have h8 := (atS_up 8 y y.tx.1).1
      rw [ht, hks]
      simp only [List.length_append, strss]
      omega
    · obtain ⟨y, z, u, hks⟩ := three_of hn
      have ht : x.tx.2.1 = [105, 102, 32, 40] ++ y.tx.1 ++ [41, 32] ++ z.tx.2.2 ++ (if u.kids = [] then [] else [32, 101, 108, 115, 101, 32] ++ u.tx.2.2) := by rw [Tr.tx_eq, hks, hk]; rfl
      have q0 := r1 (j := 0) (y := y) (by rw [hks]; rfl) (by rw [hk]; rfl)
      have q1 := r3 (j := 1) (y := z) (by rw [hks]; rfl) (by rw [hk]; rfl)
      have q2 := r3 (j := 2) (y := u) (by rw [hks]; rfl) (by rw [hk]; rfl)
      rw [str0 hz]
      have h8 := (atS_up 8 y y.tx.1).1
      rw [ht, hks]
      by_cases hu : u.kids = []
      · have q3 : u.strs = 0 := by
          have := hr 2 u (by rw [hks]; rfl)
          rw [hk, show wantP 28 2 = 3 from rfl, right_iff, own3_iff] at this
          have hb := this.1.2.1
          rw [Tr.strs_eq, str0 (hb.2.2.1 rfl), szs0 (hb.2.2.2 rfl), hu]; rfl
        rw [if_pos hu]
        simp only [List.length_append, strss]; omega
      · rw [if_neg hu]
        simp only [List.length_append, strss]; omega
    · obtain ⟨y, z, hks⟩ := two_of hn
      have ht : x.tx.2.1 = [119, 104, 105, 108, 101, 32, 40] ++ y.tx.1 ++ [41, 32] ++ z.tx.2.2 := by rw [Tr.tx_eq, hks, hk]; rfl
      have q0 := r1 (j := 0) (y := y) (by rw [hks]; rfl) (by rw [hk]; rfl)
      have q1 := r3 (j := 1) (y := z) (by rw [hks]; rfl) (by rw [hk]; rfl)
      rw [str0 hz]
      have h8 := (atS_up 8 y y.tx.1).1
      rw [ht, hks]
      simp only [List.length_append, strss]
      omega
  · rw [right_iff, own3_iff] at h
    obtain ⟨⟨hk, hb, -⟩, hr⟩ := h
    rw [Tr.strs_eq, str0 (hb.2.2.1 rfl), szs0 (hb.2.2.2 rfl)]
    have := blk_dn (x := x) fun y hy => by
      obtain ⟨j, hj⟩ := List.getElem?_of_mem hy
      have := hr j y hj
      rw [show wantP x.kind j = 2 from by unfold wantP; rw [if_pos (by omega)]] at this
      exact (ih y hy).2.1 this
    omega
end Go.Proofs.Ytmglmjbjgfbdjaa
/- Package tree: long. -/
set_option linter.unusedVariables false
set_option linter.unusedSimpArgs false
set_option maxRecDepth 20000
set_option maxHeartbeats 8000000
namespace Go.Proofs.Ytmglmjbjgfbdjaa
open Go Ax
theorem szs_take {ns : List ByteArray} {i : Nat} {n : ByteArray} (h : ns[i]? = some n) : szs (ns.take (i + 1)) = szs (ns.take i) + n.size := by
  obtain ⟨hi, rfl⟩ := List.getElem?_eq_some_iff.1 h
  rw [List.take_succ_eq_append_getElem hi]
  unfold szs
  rw [List.map_append, List.sum_append]
  rfl
theorem szs_take_le (ns : List ByteArray) (i : Nat) : szs (ns.take i) ≤ szs ns := by
  have : szs ns = szs (ns.take i) + szs (ns.drop i) := by
    unfold szs
    rw [← List.sum_append, ← List.map_append, List.take_append_drop]
  omega
theorem longL_get {L : List Tr} {m : Int} {i : Nat} {x : Tr} (hx : L[i]? = some x) (hm : 0 ≤ m) : longL (L.drop i) m = longL (L.drop (i + 1)) (x.long m) := by
  obtain ⟨hi, rfl⟩ := List.getElem?_eq_some_iff.1 hx
  rw [List.drop_eq_getElem_cons hi, longL, if_neg (by omega)]
theorem longL_lo : ∀ (ks : List Tr), (∀ k ∈ ks, ∀ m : Int, 0 ≤ m → -7000 ≤ k.long m) → ∀ m : Int, -7000 ≤ m → -7000 ≤ longL ks m
  | [], _, m, h => h
  | k :: ks, hk, m, h => by
    rw [longL]
    split
    · exact h
    · exact longL_lo ks (fun k h => hk k (List.mem_cons_of_mem _ h)) _ (hk k (List.mem_cons_self ..) m (by omega))
theorem Tr.long_lo (x : Tr) : Tidy x → ∀ m : Int, 0 ≤ m → -7000 ≤ x.long m := by
  induction x using Tr.ind with
  | h x ih =>
    intro tx m hm
    rw [Tr.long_eq]
    have h1 := tx.str
    have h2 := szs_le tx.name
    have h3 := tx.names
    exact longL_lo x.kids (fun k hk => ih k hk (tx.kid k hk)) _ (by omega)
theorem long_ax (x : Tr) : Tidy x → ∀ {H : Heap} {l : List Value}, NodeR H l x → ∀ (left : Int), 0 ≤ left → left ≤ 4000 →
    AX Try.prog 16 #[.agg l.toArray, .int .i64 left] H (fun v H' => v = .int .i64 (x.long left) ∧ H' = H) := by
  induction x using Tr.ind with
  | h x ih =>
  intro tx H l R left h0 h1
  obtain ⟨ow, sn, sk, rfl, rn, rk⟩ := R.inv
  have ts := tx.str
  have tn := szs_le tx.name
  have tm := tx.names
  refine AX.quiet ?_
  suffices hh : AX Try.prog 16 #[.agg (nodeV x sn sk).toArray, .int .i64 left] H (fun v H' => v = .int .i64 (x.long left) ∧ Grow H H') from hh.mono fun v _ ⟨e, g⟩ => ⟨e ▸ plain_int _ _, e, g⟩
  refine AX.body (n := 42) (rs := [.tmp 4]) Try.func16 rfl (by decide) rfl rfl (bC_sound _ _ _ _ ?_)
  (conv => whnf)
  refine Ob2.box rfl fun q H1 hq a1 g1 => ?_
  have b1 := hblk_of a1
  have l1 : alen Try.prog 22 sn H1 = some (.int .i64 x.names.length) := rn.len rfl _
  have l2 : alen Try.prog 23 sk H1 = some (.int .i64 x.kids.length) := rk.len rfl _
  have w0 : IntKind.i64.wrap (left - IntKind.i64.wrap (1 + (x.str.size : Int))) = left - (1 + x.str.size) := by rw [wrap_i64 (show -9223372036854775808 ≤ 1 + (x.str.size : Int) by omega) (by omega), wrap_i64 (by omega) (by omega)]
  refine run ?_
  refine SW.loop (α := Nat) (fun k => [(1, .int .i64 (left - (1 + x.str.size) - szs (x.names.take k))), (2, .pointer (some ⟨q, 0, none⟩)), (16, sn), (17, .int .i64 x.names.length), (18, .int .i64 (k : Int))]) (fun k H' => k ≤ x.names.length ∧ H' = H1) (fun k => x.names.length - k) ⟨0, ⟨congrArg (fun z => some (Value.int .i64 z)) (by rw [w0]; simp [szs]), rfl, rfl, rfl, rfl, trivial⟩, by omega, rfl⟩ ?_
  rintro k X ⟨hm, e⟩
  subst X
  refine bC_sound _ _ _ _ ?_
  by_cases hml : k < x.names.length
  · have d1 : decide ((k : Int) < (x.names.length : Int)) = true := decide_eq_true (by omega)
    obtain ⟨s, hx⟩ := get_lt hml
    obtain ⟨p, i1, i2⟩ := ld_strT rn hx
    have i3 := i2 H1 g1
    have e1 := szs_take hx
    have e2 := szs_take_le x.names (k + 1)
    refine run ?_
    exact ⟨k + 1, ⟨congrArg (fun z => some (Value.int .i64 z)) (by rw [wrap_i64 (by omega) (by omega)]; omega), rfl, rfl, rfl, congrArg (fun z => some (Value.int .i64 z)) (w_succ (by omega)), trivial⟩, ⟨hml, rfl⟩, by show _ - (k + 1) < _ - k; omega⟩
  · have d1 : decide ((k : Int) < (x.names.length : Int)) = false := decide_eq_false (by omega)
    rw [List.take_of_length_le (by omega)]
    refine run ?_
    have hkl := ow.2.2.2
    simp only [maxLen] at hkl
    refine SW.loop (α := Nat × Int) (fun y => [(1, .int .i64 y.2), (28, sk), (29, .int .i64 x.kids.length), (30, .int .i64 (y.1 : Int))]) (fun y H' => y.1 ≤ x.kids.length ∧ -7000 ≤ y.2 ∧ y.2 ≤ 4000 ∧ longL (x.kids.drop y.1) y.2 = x.long left ∧ Grow H1 H') (fun y => x.kids.length - y.1) ⟨(0, left - (1 + x.str.size) - szs x.names), ⟨rfl, rfl, rfl, rfl, trivial⟩, by show 0 ≤ _; omega, by show -7000 ≤ _; omega, by show _ ≤ (4000 : Int); omega, by rw [Tr.long_eq]; rfl, .refl _⟩ ?_
    rintro ⟨j, n⟩ X ⟨hj, hn, hn2, hl, gX⟩
    dsimp only at hj hn hn2 hl ⊢
    refine bC_sound _ _ _ _ ?_
    by_cases hjl : j < x.kids.length
    · have d3 : decide ((j : Int) < (x.kids.length : Int)) = true := decide_eq_true (by omega)
      obtain ⟨y, hy⟩ := get_lt hjl
      obtain ⟨p, yl, i1, i2, i3⟩ := ld_node rk hy
      have i4 := i3 X (g1.trans gX)
      obtain ⟨yo, yn, yk, rfl, -⟩ := i2.inv
      refine run ?_
      refine Ob2.alloc rfl fun qc X1 hqc ac gc => ?_
      refine run ?_
      refine Ob.store rfl rfl rfl ac rfl (by first | exact Nat.le_of_ble_eq_true rfl | simp) fun X2 s1 s2 s3 => ?_
      replace gc := gc.but_new s2 (Nat.le_of_eq hqc.symm)
      have bc := hblk_of s1
      by_cases hneg : n < 0
      · have d4 : decide (n < 0) = true := decide_eq_true hneg
        refine run ?_
        rw [← hl, longL_neg hneg]
        exact ⟨rfl, g1.trans (gX.trans gc)⟩
      · have d4 : decide (n < 0) = false := decide_eq_false hneg
        have hy1 := y.long_lo (tx.kid y (List.mem_of_getElem? hy)) n (by omega)
        have hy2 := (y.long_wt n (by omega)).1
        refine run ?_
        refine (ih y (List.mem_of_getElem? hy) (tx.kid y (List.mem_of_getElem? hy)) (i2.grow (g1.trans (gX.trans gc))) n (by omega) (by omega)).mono ?_
        rintro _ X' ⟨rfl, e⟩
        subst X'
        refine run ?_
        refine ⟨(j + 1, y.long n), ⟨rfl, rfl, rfl, congrArg (fun z => some (Value.int .i64 z)) (w_succ (by omega)), trivial⟩, ⟨hjl, hy1, by show y.long n ≤ 4000; omega, ?_, gX.trans gc⟩, by show _ - (j + 1) < _ - j; omega⟩
        rw [← hl, longL_get hy (by omega)]
    · have d3 : decide ((j : Int) < (x.kids.length : Int)) = false := decide_eq_false (by omega)
      refine run ?_
      have : x.kids.drop j = [] := List.drop_eq_nil_of_le (by omega)
      rw [this, longL] at hl
      rw [← hl]
      exact ⟨rfl, g1.trans gX⟩
end Go.Proofs.Ytmglmjbjgfbdjaa
/- Package tree: Print. -/
set_option linter.unusedVariables false
set_option linter.unusedSimpArgs false
set_option maxRecDepth 20000
set_option maxHeartbeats 8000000
namespace Go.Proofs.Ytmglmjbjgfbdjaa
open Go Ax
theorem plain_si (a : ByteArray) (b : Int) : plain (.tuple #[.string a, .int .i64 b]) := plain_tuple (vs := [_, _]) fun x hx => by
  simp only [List.mem_cons, List.not_mem_nil, or_false] at hx
  rcases hx with rfl | rfl
  · exact plain_str _
  · exact plain_int _ _
/-- A program's text. -/
def Tr.txt (x : Tr) : List UInt8 := joinS [32] (x.kids.map (·.tx.2.1))
/-- What Print answers. -/
noncomputable def printP (x : Tr) : ByteArray × Int := if checkP x ≠ 0 then (⟨#[]⟩, checkP x) else if 2000 < x.txt.length then (⟨#[]⟩, 3) else (bstr x.txt, 0)
theorem checkP_right {x : Tr} (h : checkP x = 0) : RightT x 3 := by
  unfold checkP at h
  split at h
  · omega
  · split at h
    · assumption
    · omega
theorem txt_up {x : Tr} (tx : Tidy x) (hc : x.cnt ≤ 300) : x.txt.length ≤ lim8 := by
  have h1 := joinS_up [32] (x.kids.map (·.tx.2.1))
  have h2 : ((x.kids.map (·.tx.2.1)).map (·.length)).sum + 100 * x.kids.length ≤ 20000 * cnts x.kids := by
    rw [cnts_sum, List.map_map]
    have hk : ∀ y ∈ x.kids, y.tx.2.1.length + 100 ≤ 20000 * y.cnt := fun y hy => by
      have := tx_up y (tx.kid y hy)
      have := (mx1 y.tx).2.1
      omega
    revert hk
    generalize x.kids = L
    intro hk
    induction L with
    | nil => simp
    | cons a L ih =>
      have h1 := ih fun y hy => hk y (List.mem_cons_of_mem _ hy)
      have h2 := hk a (List.mem_cons_self ..)
      simp only [List.map_cons, List.sum_cons, List.length_cons, Function.comp_apply] at h1 ⊢
      omega
  rw [Tr.cnt_eq] at hc
  unfold Tr.txt
  simp only [List.length_map, List.length_cons, List.length_nil, lim8] at h1 ⊢
  omega
theorem txt_dn {x : Tr} (h : RightT x 3) : x.strs ≤ x.txt.length := by
  have h1 := joinS_dn [32] (x.kids.map (·.tx.2.1))
  rw [right_iff, own3_iff] at h
  obtain ⟨⟨hk, hb, -⟩, hr⟩ := h
  rw [Tr.strs_eq, str0 (hb.2.2.1 rfl), szs0 (hb.2.2.2 rfl)]
  have := strs_list (ks := x.kids) (·.tx.2.1) fun y hy => by
    obtain ⟨j, hj⟩ := List.getElem?_of_mem hy
    have := hr j y hj
    rw [show wantP x.kind j = 2 from by unfold wantP; rw [if_pos (by omega)]] at this
    exact (strs_dn y).2.1 this
  unfold Tr.txt
  omega
theorem right_kids {x : Tr} (h : RightT x 3) : ∀ y ∈ x.kids, RightT y 2 := by
  rw [right_iff, own3_iff] at h
  intro y hy
  obtain ⟨j, hj⟩ := List.getElem?_of_mem hy
  have := h.2 j y hj
  rwa [show wantP x.kind j = 2 from by unfold wantP; rw [if_pos (by omega)]] at this
theorem len_ax {B : Nat} {H : Heap} {b : Nat} {T : TypeId} {rest : List Value} {bs : List UInt8} (h : Bld B H b T rest bs) : AX Try.prog 19 #[ptr b] H (fun v H' => v = .int .i64 bs.length ∧ H' = H) := by
  obtain ⟨h1, h2, a, v, h3, h4, h5⟩ := h
  have hb := hblk_of h3
  have hl : alen Try.prog 41 v H = some (.int .i64 bs.length) := by
    rcases h5 with ⟨rfl, rfl⟩ | ⟨g, -, rfl, -, -⟩ <;> rfl
  refine AX.body (n := 8) (rs := [.tmp 2]) Try.func19 rfl (by decide) rfl rfl (bC_sound _ _ _ _ ?_)
  refine run ?_
  exact ⟨rfl, rfl⟩
theorem print_ax {H : Heap} {l : List Value} {x : Tr} (R : NodeR H l x) (tx : Tidy x) (hc : x.cnt ≤ 300) : AX Try.prog 8 #[.agg l.toArray] H (fun v H' => v = .tuple #[.string (printP x).1, .int .i64 (printP x).2] ∧ H' = H) := by
  obtain ⟨ow, sn, sk, rfl, rn, rk⟩ := R.inv
  have hkm := ow.2.2.2
  simp only [maxLen] at hkm
  refine AX.quiet ?_
  suffices hh : AX Try.prog 8 #[.agg (nodeV x sn sk).toArray] H (fun v H' => v = .tuple #[.string (printP x).1, .int .i64 (printP x).2] ∧ Grow H H') from hh.mono fun v _ ⟨e, g⟩ => ⟨e ▸ plain_si _ _, e, g⟩
  refine AX.body (n := 44) (rs := [.tmp 2, .tmp 3]) Try.func8 rfl (by decide) rfl rfl (bC_sound _ _ _ _ ?_)
  (conv => whnf)
  refine Ob2.box rfl fun q H1 hq ab g1 => ?_
  have bb := hblk_of ab
  have R1 := R.grow g1
  by_cases hch : checkP x ≠ 0
  · have d : (checkP x != 0) = true := by rw [bne_iff_ne]; exact hch
    have hp : printP x = (⟨#[]⟩, checkP x) := if_pos hch
    rw [hp]
    refine run ?_
    refine (treeCheck_ax R1 tx).mono ?_
    rintro _ X ⟨rfl, e⟩
    subst X
    refine run ?_
    exact ⟨rfl, g1⟩
  have hch0 : checkP x = 0 := Classical.not_not.1 hch
  have hr := checkP_right hch0
  have d : (checkP x != 0) = false := by rw [hch0]; rfl
  have hwt := x.long_wt 4000 (by omega)
  have hdn := txt_dn hr
  have hup := txt_up tx hc
  by_cases hlg : x.long 4000 < 0
  · have d2 : decide (x.long 4000 < 0) = true := decide_eq_true hlg
    have hp : printP x = (⟨#[]⟩, 3) := by
      unfold printP
      rw [if_neg hch, if_pos (by have := hwt.2.2 hlg; omega)]
    rw [hp]
    refine run ?_
    refine (treeCheck_ax R1 tx).mono ?_
    rintro _ X ⟨rfl, e⟩
    subst X
    refine run ?_
    refine (long_ax x tx R1 4000 (by omega) (by omega)).mono ?_
    rintro _ X ⟨rfl, e⟩
    subst X
    refine run ?_
    exact ⟨rfl, g1⟩
  have d2 : decide (x.long 4000 < 0) = false := decide_eq_false hlg
  have hp : printP x = if 2000 < x.txt.length then (⟨#[]⟩, 3) else (bstr x.txt, 0) := if_neg hch
  rw [hp]
  refine run ?_
  refine (treeCheck_ax R1 tx).mono ?_
  rintro _ X ⟨rfl, e⟩
  subst X
  refine run ?_
  refine (long_ax x tx R1 4000 (by omega) (by omega)).mono ?_
  rintro _ X ⟨rfl, e⟩
  subst X
  refine run ?_
  refine Ob2.boxM (.one 45) rfl rfl fun b H2 hb ba g2 => ?_
  have rk1 := NodeR.grows rk g1
  have S : WS H1 H2 b [] := ⟨g2, by omega, g2.1, _, _, ba, .inl rfl, .inl ⟨rfl, rfl⟩⟩
  have F : FrW b H2 H2 := .refl _ _
  have l1 : alen Try.prog 23 sk H2 = some (.int .i64 x.kids.length) := rk.len rfl _
  have ab := g2.at ab
  have bb := hblk_of ab
  have hw : ∀ y ∈ x.kids, WrN 18 y.tx.2.1 y := (writes x tx).2.2 hr
  refine run ?_
  refine SW.loop (α := Nat) (fun k => [(5, ptr b), (19, sk), (20, .int .i64 x.kids.length), (21, .int .i64 (k : Int))]) (fun k X => k ≤ x.kids.length ∧ WS H1 X b (joinS [32] ((x.kids.map (·.tx.2.1)).take k)) ∧ FrW b H2 X) (fun k => x.kids.length - k) ⟨0, ⟨rfl, rfl, rfl, rfl, trivial⟩, by omega, by simpa [joinS] using S, F⟩ ?_
  clear S F ab bb
  rintro k X ⟨hm, S, F⟩
  refine bC_sound _ _ _ _ ?_
  by_cases hml : k < x.kids.length
  · have d1 : decide ((k : Int) < (x.kids.length : Int)) = true := decide_eq_true (by omega)
    obtain ⟨y, hy⟩ := get_lt hml
    obtain ⟨p, yl, i1, i2, i3⟩ := ld_node rk1 hy
    have i4 := i3 X S.g
    obtain ⟨yo, yn, yk, rfl, -⟩ := i2.inv
    have hj := joinS_take [32] (map_at (f := fun z : Tr => z.tx.2.1) hy)
    have hl := joinS_le [32] (x.kids.map (·.tx.2.1)) (k + 1)
    rw [hj] at hl
    replace hl := Nat.le_trans hl hup
    by_cases h0 : k = 0
    · have d3 : decide ((k : Int) > 0) = false := decide_eq_false (by omega)
      rw [if_pos h0] at hj hl
      refine run ?_
      refine Ob2.alloc rfl fun qc X1 hqc ac gc => ?_
      refine run ?_
      refine Ob.store rfl rfl rfl ac rfl (by first | exact Nat.le_of_ble_eq_true rfl | simp) fun X2 s1 s2 s3 => ?_
      replace gc := gc.but_new s2 (Nat.le_of_eq hqc.symm)
      replace S := S.grow gc
      replace F := F.trans (.of gc)
      (try replace ab := gc.at ab)
      (try replace bb := hblk_of ab)
      replace ac := s1
      have bc := hblk_of ac
      clear s1 s2 s3 hqc
      refine run ?_
      refine (hw y (List.mem_of_getElem? hy) i2 S (by ((try simp only [List.length_append, List.length_cons, List.length_nil, lim8, commaS] at hl ⊢); omega))).mono ?_
      rintro _ X ⟨S', F'⟩
      (try replace ab := S.box F' ab)
      (try replace bb := hblk_of ab)
      (try replace ac := S.box F' ac)
      (try replace bc := hblk_of ac)
      replace F := F.trans F'
      replace S := S'
      clear S' F'
      refine run ?_
      exact ⟨k + 1, ⟨rfl, rfl, rfl, congrArg (fun z => some (Value.int .i64 z)) (w_succ (by omega)), trivial⟩, ⟨hml, by rw [hj]; simpa only [List.append_assoc, List.append_nil] using S, F⟩, by show x.kids.length - (k + 1) < x.kids.length - k; omega⟩
    · have d3 : decide ((k : Int) > 0) = true := decide_eq_true (by omega)
      rw [if_neg h0] at hj hl
      refine run ?_
      refine Ob2.alloc rfl fun qc X1 hqc ac gc => ?_
      refine run ?_
      refine Ob.store rfl rfl rfl ac rfl (by first | exact Nat.le_of_ble_eq_true rfl | simp) fun X2 s1 s2 s3 => ?_
      replace gc := gc.but_new s2 (Nat.le_of_eq hqc.symm)
      replace S := S.grow gc
      replace F := F.trans (.of gc)
      (try replace ab := gc.at ab)
      (try replace bb := hblk_of ab)
      replace ac := s1
      have bc := hblk_of ac
      clear s1 s2 s3 hqc
      refine run ?_
      refine Ob2.lay (.cells (.row 9) (List.map Value.string [⟨#[32]⟩])) (.slice (some ⟨_, 0, none⟩) _ 1) rfl fun U pa pg _ => ?_
      replace S := S.grow pg
      replace F := F.trans (.of pg)
      (try replace ab := pg.at ab)
      (try replace bb := hblk_of ab)
      (try replace ac := pg.at ac)
      (try replace bc := hblk_of ac)
      refine run ?_
      refine (S.put (t := [32]) pa (by simp [catL]) (by simp) (by ((try simp only [List.length_append, List.length_cons, List.length_nil, lim8, commaS] at hl ⊢); omega))).mono ?_
      rintro _ X ⟨S', F'⟩
      (try replace ab := S.box F' ab)
      (try replace bb := hblk_of ab)
      (try replace ac := S.box F' ac)
      (try replace bc := hblk_of ac)
      replace F := F.trans F'
      replace S := S'
      clear S' F'
      refine run ?_
      refine (hw y (List.mem_of_getElem? hy) i2 S (by ((try simp only [List.length_append, List.length_cons, List.length_nil, lim8, commaS] at hl ⊢); omega))).mono ?_
      rintro _ X ⟨S', F'⟩
      (try replace ab := S.box F' ab)
      (try replace bb := hblk_of ab)
      (try replace ac := S.box F' ac)
      (try replace bc := hblk_of ac)
      replace F := F.trans F'
      replace S := S'
      clear S' F'
      refine run ?_
      exact ⟨k + 1, ⟨rfl, rfl, rfl, congrArg (fun z => some (Value.int .i64 z)) (w_succ (by omega)), trivial⟩, ⟨hml, by rw [hj]; simpa only [List.append_assoc] using S, F⟩, by show x.kids.length - (k + 1) < x.kids.length - k; omega⟩
  · have d1 : decide ((k : Int) < (x.kids.length : Int)) = false := decide_eq_false (by omega)
    rw [List.take_of_length_le (by simp; omega)] at S
    have S : WS H1 X b x.txt := S
    have gX := g1.trans S.g
    by_cases hbig : 2000 < x.txt.length
    · have d4 : decide ((x.txt.length : Int) > 2000) = true := decide_eq_true (by omega)
      rw [if_pos hbig]
      refine run ?_
      refine (len_ax S.bl).mono ?_
      rintro _ X ⟨rfl, e⟩
      subst X
      refine run ?_
      exact ⟨rfl, gX⟩
    · have d4 : decide ((x.txt.length : Int) > 2000) = false := decide_eq_false (by omega)
      rw [if_neg hbig]
      refine run ?_
      refine (len_ax S.bl).mono ?_
      rintro _ X ⟨rfl, e⟩
      subst X
      refine run ?_
      refine (string_ax S.bl (by omega)).mono ?_
      rintro _ X ⟨rfl, hk⟩
      refine run ?_
      exact ⟨rfl, (Keep.trans ⟨gX.1, fun k hk => gX.2 k hk⟩ ⟨hk.1, fun j hj => hk.2 j (Nat.lt_of_lt_of_le hj g1.1)⟩ : Keep H.length H _)⟩
end Go.Proofs.Ytmglmjbjgfbdjaa
/- Package tree: Height, Count; works. -/
set_option linter.unusedVariables false
set_option linter.unusedSimpArgs false
set_option maxRecDepth 20000
set_option maxHeartbeats 8000000
namespace Go.Proofs.Ytmglmjbjgfbdjaa
open Go Ax
theorem cnts_take {L : List Tr} {i : Nat} {x : Tr} (h : L[i]? = some x) : cnts (L.take (i + 1)) = cnts (L.take i) + x.cnt := by
  obtain ⟨hi, rfl⟩ := List.getElem?_eq_some_iff.1 h
  rw [List.take_succ_eq_append_getElem hi, cnts_sum, cnts_sum, List.map_append, List.sum_append]
  simp
theorem cnts_take_le (L : List Tr) (i : Nat) : cnts (L.take i) ≤ cnts L := by
  have : cnts L = cnts (L.take i) + cnts (L.drop i) := by
    rw [cnts_sum, cnts_sum, cnts_sum, ← List.sum_append, ← List.map_append, List.take_append_drop]
  omega
theorem count_ax (x : Tr) : x.cnt ≤ 300 → ∀ {H : Heap} {l : List Value}, NodeR H l x →
    AX Try.prog 14 #[.agg l.toArray] H (fun v H' => v = .int .i64 (x.cnt : Int) ∧ H' = H) := by
  induction x using Tr.ind with
  | h x ih =>
  intro hc H l R
  obtain ⟨ow, sn, sk, rfl, rn, rk⟩ := R.inv
  refine AX.quiet ?_
  suffices hh : AX Try.prog 14 #[.agg (nodeV x sn sk).toArray] H (fun v H' => v = .int .i64 (x.cnt : Int) ∧ Grow H H') from hh.mono fun v _ ⟨e, g⟩ => ⟨e ▸ plain_int _ _, e, g⟩
  refine AX.body (n := 19) (rs := [.tmp 2]) Try.func14 rfl (by decide) rfl rfl (bC_sound _ _ _ _ ?_)
  (conv => whnf)
  refine Ob2.box rfl fun q H1 hq a1 g1 => ?_
  have b1 := hblk_of a1
  have hkl := ow.2.2.2
  simp only [maxLen] at hkl
  have l2 : alen Try.prog 23 sk H1 = some (.int .i64 x.kids.length) := rk.len rfl _
  rw [Tr.cnt_eq] at hc ⊢
  refine run ?_
  refine SW.loop (α := Nat) (fun k => [(3, .int .i64 ((1 + cnts (x.kids.take k) : Nat) : Int)), (7, sk), (8, .int .i64 x.kids.length), (9, .int .i64 (k : Int))]) (fun k H' => k ≤ x.kids.length ∧ Grow H1 H') (fun k => x.kids.length - k) ⟨0, ⟨rfl, rfl, rfl, rfl, trivial⟩, by omega, .refl _⟩ ?_
  rintro k X ⟨hj, gX⟩
  refine bC_sound _ _ _ _ ?_
  by_cases hjl : k < x.kids.length
  · have d3 : decide ((k : Int) < (x.kids.length : Int)) = true := decide_eq_true (by omega)
    obtain ⟨y, hy⟩ := get_lt hjl
    obtain ⟨p, yl, i1, i2, i3⟩ := ld_node rk hy
    have i4 := i3 X (g1.trans gX)
    have e1 := cnts_take hy
    have e2 := cnts_take_le x.kids (k + 1)
    obtain ⟨yo, yn, yk, rfl, -⟩ := i2.inv
    refine run ?_
    refine Ob2.alloc rfl fun qc X1 hqc ac gc => ?_
    refine run ?_
    refine Ob.store rfl rfl rfl ac rfl (by first | exact Nat.le_of_ble_eq_true rfl | simp) fun X2 s1 s2 s3 => ?_
    replace gc := gc.but_new s2 (Nat.le_of_eq hqc.symm)
    have bc := hblk_of s1
    refine run ?_
    refine (ih y (List.mem_of_getElem? hy) (by omega) (i2.grow (g1.trans (gX.trans gc)))).mono ?_
    rintro _ X' ⟨rfl, e⟩
    subst X'
    refine run ?_
    refine ⟨k + 1, ⟨congrArg (fun z => some (Value.int .i64 z)) (by rw [wrap_i64 (by omega) (by omega)]; omega), rfl, rfl, congrArg (fun z => some (Value.int .i64 z)) (w_succ (by omega)), trivial⟩, ⟨hjl, gX.trans gc⟩, by show _ - (k + 1) < _ - k; omega⟩
  · have d3 : decide ((k : Int) < (x.kids.length : Int)) = false := decide_eq_false (by omega)
    refine run ?_
    rw [List.take_of_length_le (by omega)]
    exact ⟨rfl, g1.trans gX⟩
theorem height_ax (x : Tr) : x.high ≤ 40 → ∀ {H : Heap} {l : List Value}, NodeR H l x →
    AX Try.prog 13 #[.agg l.toArray] H (fun v H' => v = .int .i64 (x.high : Int) ∧ H' = H) := by
  induction x using Tr.ind with
  | h x ih =>
  intro hc H l R
  obtain ⟨ow, sn, sk, rfl, rn, rk⟩ := R.inv
  refine AX.quiet ?_
  suffices hh : AX Try.prog 13 #[.agg (nodeV x sn sk).toArray] H (fun v H' => v = .int .i64 (x.high : Int) ∧ Grow H H') from hh.mono fun v _ ⟨e, g⟩ => ⟨e ▸ plain_int _ _, e, g⟩
  refine AX.body (n := 20) (rs := [.tmp 2]) Try.func13 rfl (by decide) rfl rfl (bC_sound _ _ _ _ ?_)
  (conv => whnf)
  refine Ob2.box rfl fun q H1 hq a1 g1 => ?_
  have b1 := hblk_of a1
  have hkl := ow.2.2.2
  simp only [maxLen] at hkl
  have l2 : alen Try.prog 23 sk H1 = some (.int .i64 x.kids.length) := rk.len rfl _
  rw [Tr.high_eq] at hc ⊢
  refine run ?_
  refine SW.loop (α := Nat) (fun k => [(3, .int .i64 ((highs (x.kids.take k) : Nat) : Int)), (7, sk), (8, .int .i64 x.kids.length), (9, .int .i64 (k : Int))]) (fun k H' => k ≤ x.kids.length ∧ Grow H1 H') (fun k => x.kids.length - k) ⟨0, ⟨rfl, rfl, rfl, rfl, trivial⟩, by omega, .refl _⟩ ?_
  rintro k X ⟨hj, gX⟩
  refine bC_sound _ _ _ _ ?_
  by_cases hjl : k < x.kids.length
  · have d3 : decide ((k : Int) < (x.kids.length : Int)) = true := decide_eq_true (by omega)
    obtain ⟨y, hy⟩ := get_lt hjl
    obtain ⟨p, yl, i1, i2, i3⟩ := ld_node rk hy
    have i4 := i3 X (g1.trans gX)
    have e1 := highs_take hy
    have e2 := highs_take_le x.kids (k + 1)
    obtain ⟨yo, yn, yk, rfl, -⟩ := i2.inv
    refine run ?_
    refine Ob2.alloc rfl fun qc X1 hqc ac gc => ?_
    refine run ?_
    refine Ob.store rfl rfl rfl ac rfl (by first | exact Nat.le_of_ble_eq_true rfl | simp) fun X2 s1 s2 s3 => ?_
    replace gc := gc.but_new s2 (Nat.le_of_eq hqc.symm)
    have bc := hblk_of s1
    refine run ?_
    refine (ih y (List.mem_of_getElem? hy) (by omega) (i2.grow (g1.trans (gX.trans gc)))).mono ?_
    rintro _ X' ⟨rfl, e⟩
    subst X'
    refine run ?_
    exact ⟨k + 1, ⟨congrArg (fun z => some (Value.int .i64 z)) (by rw [e1]; split <;> omega), rfl, rfl, congrArg (fun z => some (Value.int .i64 z)) (w_succ (by omega)), trivial⟩, ⟨hjl, gX.trans gc⟩, by show _ - (k + 1) < _ - k; omega⟩
  · have d3 : decide ((k : Int) < (x.kids.length : Int)) = false := decide_eq_false (by omega)
    rw [List.take_of_length_le (by omega)]
    have w1 : IntKind.i64.wrap ((highs x.kids : Int) + 1) = ((highs x.kids + 1 : Nat) : Int) := by rw [wrap_i64 (by omega) (by omega)]; omega
    refine run ?_
    rw [w1]
    exact ⟨rfl, g1.trans gX⟩
end Go.Proofs.Ytmglmjbjgfbdjaa
/- works() of chapter 6. -/
set_option linter.unusedVariables false
set_option linter.unusedSimpArgs false
set_option maxRecDepth 20000
set_option maxHeartbeats 8000000
namespace Go.Proofs.Ytmglmjbjgfbdjaa
open Go Ax
def wA : Tr := .mk 5 0 0 ⟨#[97]⟩ [] [] 0
def wG : Tr := .mk 13 0 0 ⟨#[102]⟩ [] [wA] 0
def wC : Tr := .mk 15 0 0 ⟨#[]⟩ [] [wG, wA] 0
def wE : Tr := .mk 32 0 0 ⟨#[]⟩ [] [wC] 0
def wB : Tr := .mk 29 0 0 ⟨#[]⟩ [] [wE] 0
theorem own_w (k : Int) (s : ByteArray) (ks : List Tr) (hs : s.size ≤ 10) (hk : ks.length ≤ 10) : Own7 (.mk k 0 0 s [] ks 0) :=
  ⟨by show s.size ≤ maxLen; unfold maxLen; omega, by show 0 ≤ maxLen; omega, fun s h => by simp [Tr.names] at h, by show ks.length ≤ maxLen; unfold maxLen; omega⟩
theorem nd_nil (k : Int) (s : ByteArray) (hs : s.size ≤ 10) (H : Heap) : NodeR H [.int .i64 k, .int .i64 0, .int .i64 0, .string s, .slice none 0 0, .slice none 0 0, .int .i64 0] (.mk k 0 0 s [] [] 0) :=
  NodeR.mk (x := .mk k 0 0 s [] [] 0) (sn := .slice none 0 0) (sk := .slice none 0 0) (own_w k s [] hs (by simp)) (.inl ⟨rfl, rfl⟩) (.inl ⟨rfl, rfl⟩)
theorem nd_one (k : Int) (s : ByteArray) (hs : s.size ≤ 10) {H : Heap} {g : Nat} {m : Ax.Mode} {l : List Value} {y : Tr} (h : H[g]? = some (.cells m l)) (hl : l.length = 7) (hy : NodeR H l y) :
    NodeR H [.int .i64 k, .int .i64 0, .int .i64 0, .string s, .slice none 0 0, .slice (some ⟨g, 0, none⟩) 1 7, .int .i64 0] (.mk k 0 0 s [] [y] 0) :=
  NodeR.mk (x := .mk k 0 0 s [] [y] 0) (sn := .slice none 0 0) (sk := .slice (some ⟨g, 0, none⟩) 1 7) (own_w k s [y] hs (by simp)) (.inl ⟨rfl, rfl⟩) (.inr ⟨g, 0, rfl, .inr ⟨m, l, h, fun i x hx => by
    match i, hx with
    | 0, hx =>
      simp only [Tr.kids, List.getElem?_cons_zero, Option.some.injEq] at hx
      subst hx
      exact ⟨l, by rw [slots_of (by omega)]; simp only [Nat.zero_add, Nat.zero_mul, List.drop_zero]; rw [List.take_of_length_le (by omega)], hy⟩
    | i + 1, hx => simp [Tr.kids] at hx⟩⟩)
theorem nd_two (k : Int) (s : ByteArray) (hs : s.size ≤ 10) {H : Heap} {g : Nat} {m : Ax.Mode} {l u : List Value} {y z : Tr} (h : H[g]? = some (.cells m (l ++ u))) (hl : l.length = 7) (hu : u.length = 7) (hy : NodeR H l y) (hz : NodeR H u z) :
    NodeR H [.int .i64 k, .int .i64 0, .int .i64 0, .string s, .slice none 0 0, .slice (some ⟨g, 0, none⟩) 2 7, .int .i64 0] (.mk k 0 0 s [] [y, z] 0) :=
  NodeR.mk (x := .mk k 0 0 s [] [y, z] 0) (sn := .slice none 0 0) (sk := .slice (some ⟨g, 0, none⟩) 2 7) (own_w k s [y, z] hs (by simp)) (.inl ⟨rfl, rfl⟩) (.inr ⟨g, 0, rfl, .inr ⟨m, l ++ u, h, fun i x hx => by
    match i, hx with
    | 0, hx =>
      simp only [Tr.kids, List.getElem?_cons_zero, Option.some.injEq] at hx
      subst hx
      exact ⟨l, by rw [slots_of (by simp; omega)]; simp only [Nat.zero_add, Nat.zero_mul, List.drop_zero]; rw [List.take_append_of_le_length (by omega), List.take_of_length_le (by omega)], hy⟩
    | 1, hx =>
      simp only [Tr.kids, List.getElem?_cons_succ, List.getElem?_cons_zero, Option.some.injEq] at hx
      subst hx
      exact ⟨u, by rw [slots_of (by simp; omega)]; simp only [Nat.zero_add, Nat.one_mul]; rw [List.drop_append, List.drop_of_length_le (by omega), hl, Nat.sub_self, List.drop_zero, List.nil_append, List.take_of_length_le (by omega)], hz⟩
    | i + 2, hx => simp [Tr.kids] at hx⟩⟩)
theorem wB_tidy : Tidy wB := by
  have a : Tidy wA := .mk (by decide) (by decide) (by decide) (by decide) (fun k hk => by simp [wA, Tr.kids] at hk)
  have g : Tidy wG := .mk (by decide) (by decide) (by decide) (by decide) (fun k hk => by simp [wG, Tr.kids] at hk; subst hk; exact a)
  have c : Tidy wC := .mk (by decide) (by decide) (by decide) (by decide) (fun k hk => by simp [wC, Tr.kids] at hk; rcases hk with rfl | rfl; exact g; exact a)
  have e : Tidy wE := .mk (by decide) (by decide) (by decide) (by decide) (fun k hk => by simp [wE, Tr.kids] at hk; subst hk; exact c)
  exact .mk (by decide) (by decide) (by decide) (by decide) (fun k hk => by simp [wB, Tr.kids] at hk; subst hk; exact e)
theorem wB_right : RightT wB 3 := by
  have na : nameS [97] = true := by decide
  have nf : nameS [102] = true := by decide
  have ka : keyS [97] = false := by decide
  have a : RightT wA 1 := by
    rw [right_iff, own1_iff]
    exact ⟨.inr (.inr (.inr (.inr (.inl ⟨rfl, ⟨fun _ => rfl, fun _ => rfl, fun h => by simp at h, fun _ => rfl⟩, ⟨na, ka⟩, rfl⟩)))), fun j y hy => by simp [wA, Tr.kids] at hy⟩
  have g : RightT wG 1 := by
    rw [right_iff, own1_iff]
    refine ⟨.inr (.inr (.inr (.inr (.inr (.inr (.inr (.inr (.inr (.inr (.inl ⟨rfl, ⟨fun _ => rfl, fun _ => rfl, fun h => by simp at h, fun _ => rfl⟩, nf, rfl⟩)))))))))), fun j y hy => ?_⟩
    match j, hy with
    | 0, hy => simp [wG, Tr.kids] at hy; subst hy; exact a
    | j + 1, hy => simp [wG, Tr.kids] at hy
  have c : RightT wC 1 := by
    rw [right_iff, own1_iff]
    refine ⟨.inr (.inr (.inr (.inr (.inr (.inr (.inr (.inr (.inr (.inr (.inr (.inl ⟨rfl, ⟨fun _ => rfl, fun _ => rfl, fun _ => rfl, fun _ => rfl⟩, by decide, by decide⟩))))))))))), fun j y hy => ?_⟩
    match j, hy with
    | 0, hy => simp [wC, Tr.kids] at hy; subst hy; exact g
    | 1, hy => simp [wC, Tr.kids] at hy; subst hy; exact a
    | j + 2, hy => simp [wC, Tr.kids] at hy
  have e : RightT wE 2 := by
    rw [right_iff, own2_iff]
    refine ⟨⟨⟨fun _ => rfl, fun _ => rfl, fun h => by simp at h, fun _ => rfl⟩, .inr (.inr (.inr ⟨rfl, .inr (.inr (.inl ⟨.inr (.inr rfl), rfl⟩))⟩))⟩, fun j y hy => ?_⟩
    match j, hy with
    | 0, hy => simp [wE, Tr.kids] at hy; subst hy; exact c
    | j + 1, hy => simp [wE, Tr.kids] at hy
  rw [right_iff, own3_iff]
  refine ⟨⟨rfl, ⟨fun _ => rfl, fun _ => rfl, fun _ => rfl, fun _ => rfl⟩, by decide⟩, fun j y hy => ?_⟩
  match j, hy with
  | 0, hy => simp [wB, Tr.kids] at hy; subst hy; exact e
  | j + 1, hy => simp [wB, Tr.kids] at hy
theorem wB_txt : wB.txt = [40, 97, 46, 102, 41, 40, 97, 41, 59] := by rfl
theorem wB_print : printP wB = (⟨#[40, 97, 46, 102, 41, 40, 97, 41, 59]⟩, 0) := by
  have hh : wB.high = 5 := by rfl
  have hc : checkP wB = 0 := by
    unfold checkP
    rw [if_neg (by rw [hh]; omega), if_pos wB_right]
  unfold printP
  rw [if_neg (by rw [hc]; simp), wB_txt, if_neg (by simp)]
  rfl
theorem works06_ax (H : Heap) : AX Try.prog 7 #[] H (fun v H' => v = .bool true ∧ H' = H) := by
  refine AX.quiet ?_
  suffices hh : AX Try.prog 7 #[] H (fun v H' => v = .bool true ∧ Grow H H') from hh.mono fun v _ ⟨e, g⟩ => ⟨e ▸ plain_bool _, e, g⟩
  refine AX.body (n := 37) (rs := [.tmp 0]) Try.func7 rfl (by decide) rfl rfl (bC_sound _ _ _ _ ?_)
  refine run ?_
  refine Ob2.alloc rfl fun q1 H1 hq1 a1 g1 => ?_
  refine run ?_
  refine Ob.store rfl rfl rfl a1 rfl (by first | exact Nat.le_of_ble_eq_true rfl | simp) fun H2 b1 b2 b3 => ?_
  replace g1 := g1.but_new b2 (Nat.le_of_eq hq1.symm)
  have b1 : H2[q1]? = some (.cells .var (nodeV wA (.slice none 0 0) (.slice none 0 0))) := b1
  have bb := hblk_of b1
  refine run ?_
  refine Ob2.lay (H := H2) (.cells (.row 25) (nodeV wA (.slice none 0 0) (.slice none 0 0))) (.slice (some ⟨H2.length, 0, none⟩) 1 7) rfl fun H3 a3 g3 l3 => ?_
  have bb3 := g3.hblk bb
  refine run ?_
  refine Ob2.lay (H := H3) (.cells (.row 25) (nodeV wG (.slice none 0 0) (.slice (some ⟨H2.length, 0, none⟩) 1 7) ++ nodeV wA (.slice none 0 0) (.slice none 0 0))) (.slice (some ⟨H3.length, 0, none⟩) 2 7) rfl fun H4 a4 g4 l4 => ?_
  refine run ?_
  refine Ob2.alloc rfl fun q2 H5 hq2 a5 g5 => ?_
  refine run ?_
  refine Ob.store rfl rfl rfl a5 rfl (by first | exact Nat.le_of_ble_eq_true rfl | simp) fun H6 c1 c2 c3 => ?_
  replace g5 := g5.but_new c2 (Nat.le_of_eq hq2.symm)
  have c1 : H6[q2]? = some (.cells .var (nodeV wC (.slice none 0 0) (.slice (some ⟨H3.length, 0, none⟩) 2 7))) := c1
  have bc := hblk_of c1
  refine run ?_
  refine Ob2.lay (H := H6) (.cells (.row 25) (nodeV wC (.slice none 0 0) (.slice (some ⟨H3.length, 0, none⟩) 2 7))) (.slice (some ⟨H6.length, 0, none⟩) 1 7) rfl fun H7 a7 g7 l7 => ?_
  refine run ?_
  refine Ob2.lay (H := H7) (.cells (.row 25) (nodeV wE (.slice none 0 0) (.slice (some ⟨H6.length, 0, none⟩) 1 7))) (.slice (some ⟨H7.length, 0, none⟩) 1 7) rfl fun H8 a8 g8 l8 => ?_
  have bd := g8.hblk (g7.hblk bc)
  have RA : NodeR H8 (nodeV wA (.slice none 0 0) (.slice none 0 0)) wA := nd_nil 5 _ (by decide) H8
  have RG : NodeR H8 (nodeV wG (.slice none 0 0) (.slice (some ⟨H2.length, 0, none⟩) 1 7)) wG := nd_one 13 _ (by decide) (g8.at (g7.at (g5.at (g4.at a3)))) rfl RA
  have RC : NodeR H8 (nodeV wC (.slice none 0 0) (.slice (some ⟨H3.length, 0, none⟩) 2 7)) wC := nd_two 15 _ (by decide) (g8.at (g7.at (g5.at a4))) rfl rfl RG RA
  have RE : NodeR H8 (nodeV wE (.slice none 0 0) (.slice (some ⟨H6.length, 0, none⟩) 1 7)) wE := nd_one 32 _ (by decide) (g8.at a7) rfl RC
  have RB : NodeR H8 (nodeV wB (.slice none 0 0) (.slice (some ⟨H7.length, 0, none⟩) 1 7)) wB := nd_one 29 _ (by decide) a8 rfl RE
  have hp := print_ax RB wB_tidy (by decide)
  rw [wB_print] at hp
  have hg := height_ax wC (by decide) RC
  have hn := count_ax wC (by decide) RC
  refine run ?_
  refine hp.mono ?_
  rintro _ X ⟨rfl, e⟩
  subst X
  refine run ?_
  refine hg.mono ?_
  rintro _ X ⟨rfl, e⟩
  subst X
  refine run ?_
  refine hn.mono ?_
  rintro _ X ⟨rfl, e⟩
  subst X
  refine run ?_
  exact ⟨rfl, g1.trans (g3.trans (g4.trans (g5.trans (g7.trans g8))))⟩
end Go.Proofs.Ytmglmjbjgfbdjaa
/- Trees that are parameters. -/
set_option linter.unusedVariables false
set_option linter.unusedSimpArgs false
set_option maxRecDepth 20000
set_option maxHeartbeats 8000000
namespace Go.Proofs.Ytmglmjbjgfbdjaa
open Go Ax
mutual
def trOf : Nd25 → Tr
  | .mk k o n s ns ks p => .mk k o n s ns (trsOf ks) p
def trsOf : List Nd25 → List Tr
  | [] => []
  | k :: ks => trOf k :: trsOf ks
end
theorem trsOf_map : ∀ ks, trsOf ks = ks.map trOf
  | [] => rfl
  | k :: ks => by rw [trsOf, trsOf_map ks]; rfl
theorem node_of : ∀ m {H : Heap} {c : List Value} {x : Nd25}, (ty25 m).R H c x → (ty25 m).ok x → ND m H c (trOf x)
  | 0, _, _, _, h, _ => h.elim
  | m + 1, H, c, .mk k o n s ns ks p, h, ho => by
    obtain ⟨h1, h2, h3, h4, h5, h6, h7⟩ := h
    obtain ⟨o1, o2, o3, o4, o5, o6, o7⟩ := ho
    obtain ⟨sn, e5, r5⟩ := RL.ofTy (f := strR) (fun l x h => h) h5
    obtain ⟨sk, e6, r6⟩ := RL.ofTy (f := (ty25 m).R) (fun l x h => h) h6
    refine ⟨⟨o4, o5.1, o5.2, ?_⟩, sn, sk, cons_of h1 (cons_of h2 (cons_of h3 (cons_of h4 (cons_of e5 (cons_of e6 h7))))), r5, ?_⟩
    · show (trsOf ks).length ≤ maxLen
      rw [trsOf_map, List.length_map]
      exact o6.1
    · show RLo 7 (ND m) H sk (trsOf ks)
      rw [trsOf_map]
      exact (RLo.of r6).map _ fun l x hx h => node_of m h (o6.2 x hx)
end Go.Proofs.Ytmglmjbjgfbdjaa
/- Are two trees alike? -/
set_option linter.unusedVariables false
set_option linter.unusedSimpArgs false
set_option maxRecDepth 20000
set_option maxHeartbeats 8000000
namespace Go.Proofs.Ytmglmjbjgfbdjaa
open Go Ax
mutual
/-- A tree without its places. -/
def Tr.flat : Tr → Tr
  | .mk k o n s ns ks _ => .mk k o n s ns (flats ks) 0
def flats : List Tr → List Tr
  | [] => []
  | k :: ks => k.flat :: flats ks
end
theorem flats_map : ∀ ks, flats ks = ks.map Tr.flat
  | [] => rfl
  | k :: ks => by rw [flats, flats_map ks]; rfl
theorem flat_eq {a b : Tr} : a.flat = b.flat ↔ a.kind = b.kind ∧ a.op = b.op ∧ a.num = b.num ∧ a.str = b.str ∧ a.names = b.names ∧ a.kids.map Tr.flat = b.kids.map Tr.flat := by
  cases a; cases b
  rw [Tr.flat, Tr.flat, flats_map, flats_map]
  simp [Tr.kind, Tr.op, Tr.num, Tr.str, Tr.names, Tr.kids]
theorem take_nextM {α β : Type} {f : α → β} {L M : List α} {m : Nat} {x y : α} (h : (L.map f).take m = (M.map f).take m) (hx : L[m]? = some x) (hy : M[m]? = some y) (e : f x = f y) : (L.map f).take (m + 1) = (M.map f).take (m + 1) :=
  take_next (x := f x) h (by rw [List.getElem?_map, hx]; rfl) (by rw [List.getElem?_map, hy, e]; rfl)
noncomputable instance (a b : Tr) : Decidable (a.flat = b.flat) := Classical.propDecidable _
theorem eqsT_ax {H : Heap} {u v : Value} {L M : List ByteArray} (hu : RL 1 strR H u L) (hv : RL 1 strR H v M) (hL : L.length ≤ maxLen) :
    AX Try.prog 23 #[u, v] H (fun r H' => (∃ b, r = .bool b ∧ (b = true ↔ L = M)) ∧ H' = H) := by
  simp only [maxLen] at hL
  refine AX.body (n := 26) (rs := [.tmp 4]) Try.func23 rfl (by decide) rfl rfl (bC_sound _ _ _ _ ?_)
  have l1 : alen Try.prog 22 u H = some (.int .i64 L.length) := hu.len rfl _
  have l2 : alen Try.prog 22 v H = some (.int .i64 M.length) := hv.len rfl _
  (try (conv => whnf)); (repeat' ((fail_if_success (with_reducible refine And.intro ?_ ?_)); (fail_if_success (with_reducible refine Exists.intro ?_ ?_)); (first | (refine step0 ?_) | (apply bIf.of <;> intro hc <;> (conv => whnf)))))
  · refine ⟨⟨false, rfl, by simp, fun h => ?_⟩, rfl⟩
    subst h
    simp at hc
  have hlen : L.length = M.length := by (simp only [ba_ne_t, ba_ne_f, ba_eq_t, ba_eq_f, bne_iff_ne, bne_eq_false_iff_eq, decide_eq_true_eq, decide_eq_false_iff_not, beq_iff_eq, beq_eq_false_iff_ne, ne_eq, Bool.not_eq_true, Bool.not_eq_false, Bool.not_eq_true', Bool.not_eq_false'] at *); omega
  refine SW.loop (α := Nat) (fun m => [(0, u), (1, v), (12, .int .i64 L.length), (13, .int .i64 (m : Int))]) (fun m H' => m ≤ L.length ∧ L.take m = M.take m ∧ H' = H) (fun m => L.length - m) ⟨0, ⟨rfl, rfl, rfl, rfl, trivial⟩, by omega, rfl, rfl⟩ ?_
  rintro m X ⟨hm, ht, e⟩
  subst X
  refine bC_sound _ _ _ _ ?_
  by_cases hml : m < L.length
  · have d1 : decide ((m : Int) < (L.length : Int)) = true := decide_eq_true (by omega)
    obtain ⟨x, hx⟩ := get_lt hml
    obtain ⟨y, hy⟩ := get_lt (L := M) (m := m) (by omega)
    obtain ⟨p, i1, i2⟩ := ld_strT hu hx
    obtain ⟨q, j1, j2⟩ := ld_strT hv hy
    have i3 := i2 H (.refl _)
    have j3 := j2 H (.refl _)
    refine run ?_
    apply SW.drawG [(0, [], [17, 20, 21, 22, 23], false), (1, [], [16, 20, 21, 22, 23], false), (2, [(16, 0), (17, 1)], [16, 17, 20, 21, 22, 23], false), (3, [(16, 0), (17, 1), (18, 2)], [16, 17, 18, 20, 21, 22, 23], false), (4, [], [16, 17, 18, 19, 21], false), (5, [], [16, 17, 18, 19, 20], false), (6, [(20, 4), (21, 5)], [16, 17, 18, 19, 20, 21], false), (7, [(20, 4), (21, 5), (22, 6)], [16, 17, 18, 19, 20, 21, 22], false), (8, [(16, 0), (17, 1), (18, 2), (19, 3), (20, 4), (21, 5), (22, 6), (23, 7)], [16, 17, 18, 19, 20, 21, 22, 23], false)]
      [(16, 0), (17, 1), (18, 2), (19, 3), (20, 4), (21, 5), (22, 6), (23, 7), (24, 8)]
      [(0, _), (1, _), (5, _), (12, _), (13, _)] rfl (by kernel_rfl)
    case hF => exact ⟨rfl, rfl, rfl, rfl, rfl, trivial⟩
    (try (conv => whnf)); (repeat' ((fail_if_success (with_reducible refine And.intro ?_ ?_)); (fail_if_success (with_reducible refine Exists.intro ?_ ?_)); (first | (refine step0 ?_) | (apply bIf.of <;> intro hc <;> (conv => whnf)))))
    · refine ⟨⟨false, rfl, by simp, fun h => ?_⟩, rfl⟩
      subst h
      rw [hx] at hy
      simp only [Option.some.injEq] at hy
      (simp only [ba_ne_t, ba_ne_f, ba_eq_t, ba_eq_f, bne_iff_ne, bne_eq_false_iff_eq, decide_eq_true_eq, decide_eq_false_iff_not, beq_iff_eq, beq_eq_false_iff_ne, ne_eq, Bool.not_eq_true, Bool.not_eq_false, Bool.not_eq_true', Bool.not_eq_false'] at *); contradiction
    · have hxy : x = y := ba_ne_f.1 hc
      subst hxy
      exact ⟨m + 1, ⟨rfl, rfl, rfl, congrArg (fun z => some (Value.int .i64 z)) (w_succ (by omega)), trivial⟩, ⟨hml, take_next ht hx hy, rfl⟩, by show L.length - (m + 1) < L.length - m; omega⟩
  · have d1 : decide ((m : Int) < (L.length : Int)) = false := decide_eq_false (by omega)
    have hLM : L = M := by rwa [List.take_of_length_le (by omega), List.take_of_length_le (by omega)] at ht
    refine run ?_
    exact ⟨⟨true, rfl, by simp [hLM]⟩, rfl⟩
theorem eqfT_ax {H : Heap} {u v : Value} {L M : List Tr} (hu : RLo 7 NodeR H u L) (hv : RLo 7 NodeR H v M) (hL : L.length ≤ maxLen)
    (hS : ∀ a ∈ L, ∀ b H' l m, NodeR H' l a → NodeR H' m b → AX Try.prog 10 #[.agg l.toArray, .agg m.toArray] H' (fun r H'' => (∃ t, r = .bool t ∧ (t = true ↔ a.flat = b.flat)) ∧ H'' = H')) :
    AX Try.prog 24 #[u, v, .func (.func 10) #[] #[]] H (fun r H' => (∃ b, r = .bool b ∧ (b = true ↔ L.map Tr.flat = M.map Tr.flat)) ∧ H' = H) := by
  simp only [maxLen] at hL
  refine AX.quiet ?_
  suffices hh : AX Try.prog 24 #[u, v, .func (.func 10) #[] #[]] H (fun r H' => (∃ b, r = .bool b ∧ (b = true ↔ L.map Tr.flat = M.map Tr.flat)) ∧ Grow H H') from hh.mono fun v _ ⟨⟨b, e, k⟩, g⟩ => ⟨e ▸ plain_bool _, ⟨b, e, k⟩, g⟩
  refine AX.body (n := 32) (rs := [.tmp 6]) Try.func24 rfl (by decide) rfl rfl (bC_sound _ _ _ _ ?_)
  have l1 : alen Try.prog 23 u H = some (.int .i64 L.length) := hu.len rfl _
  have l2 : alen Try.prog 23 v H = some (.int .i64 M.length) := hv.len rfl _
  (try (conv => whnf)); (repeat' ((fail_if_success (with_reducible refine And.intro ?_ ?_)); (fail_if_success (with_reducible refine Exists.intro ?_ ?_)); (first | (refine step0 ?_) | (apply bIf.of <;> intro hc <;> (conv => whnf)))))
  · refine ⟨⟨false, rfl, by simp, fun h => ?_⟩, .refl _⟩
    have := congrArg List.length h
    simp only [List.length_map] at this
    rw [this] at hc
    simp at hc
  have hlen : L.length = M.length := by (simp only [ba_ne_t, ba_ne_f, ba_eq_t, ba_eq_f, bne_iff_ne, bne_eq_false_iff_eq, decide_eq_true_eq, decide_eq_false_iff_not, beq_iff_eq, beq_eq_false_iff_ne, ne_eq, Bool.not_eq_true, Bool.not_eq_false, Bool.not_eq_true', Bool.not_eq_false'] at *); omega
  clear hc
  refine SW.loop (α := Nat) (fun m => [(0, u), (1, v), (2, .func (.func 10) #[] #[]), (15, u), (16, .int .i64 L.length), (17, .int .i64 (m : Int))]) (fun m H' => m ≤ L.length ∧ (L.map Tr.flat).take m = (M.map Tr.flat).take m ∧ Grow H H') (fun m => L.length - m) ⟨0, ⟨rfl, rfl, rfl, rfl, rfl, rfl, trivial⟩, by omega, rfl, .refl _⟩ ?_
  rintro m X ⟨hm, ht, g⟩
  refine bC_sound _ _ _ _ ?_
  by_cases hml : m < L.length
  · have d1 : decide ((m : Int) < (L.length : Int)) = true := decide_eq_true (by omega)
    obtain ⟨x, hx⟩ := get_lt hml
    obtain ⟨y, hy⟩ := get_lt (L := M) (m := m) (by omega)
    obtain ⟨p, xl, i1, i4, i2⟩ := ld_node hu hx
    obtain ⟨q, yl, j1, j4, j2⟩ := ld_node hv hy
    obtain ⟨-, xn, xk, rfl, -, -⟩ := i4.inv
    obtain ⟨-, yn, yk, rfl, -, -⟩ := j4.inv
    have i3 := i2 X g
    refine run ?_
    refine Ob2.alloc rfl fun q1 H1 hq1 a1 k1 => ?_
    refine run ?_
    refine Ob.store rfl rfl rfl a1 rfl (by first | exact Nat.le_of_ble_eq_true rfl | simp) fun H2 b1 b2 b3 => ?_
    have g2 : Grow X H2 := k1.but_new b2 (by omega)
    have j3 := j2 H2 (g.trans g2)
    refine run ?_
    refine Ob2.alloc rfl fun q3 H3 hq3 a3 k3 => ?_
    refine run ?_
    refine Ob.store rfl rfl rfl a3 rfl (by first | exact Nat.le_of_ble_eq_true rfl | simp) fun H4 b4 b5 b6 => ?_
    have g4 : Grow H2 H4 := k3.but_new b5 (by omega)
    have g5 : Grow H H4 := (g.trans g2).trans g4
    have e1 := hblk_of (g4.at b1)
    have e2 := hblk_of b4
    refine run ?_
    refine (hS x (List.mem_of_getElem? hx) y _ _ _ (i4.grow g5) (j4.grow g5)).mono ?_
    rintro _ X' ⟨⟨t, rfl, ht2⟩, e⟩
    subst X'
    cases t with
    | false =>
      refine run ?_
      refine ⟨⟨false, rfl, by simp, fun h => ?_⟩, g5⟩
      have h3 := congrArg (·[m]?) h
      simp only [List.getElem?_map, hx, hy, Option.map_some, Option.some.injEq] at h3
      exact absurd (ht2.2 h3) (by simp)
    | true =>
      refine run ?_
      exact ⟨m + 1, ⟨rfl, rfl, rfl, rfl, rfl, congrArg (fun z => some (Value.int .i64 z)) (w_succ (by omega)), trivial⟩, ⟨hml, take_nextM ht hx hy (ht2.1 rfl), g5⟩, by show L.length - (m + 1) < L.length - m; omega⟩
  · have d1 : decide ((m : Int) < (L.length : Int)) = false := decide_eq_false (by omega)
    have hLM : L.map Tr.flat = M.map Tr.flat := by rwa [List.take_of_length_le (by rw [List.length_map]; omega), List.take_of_length_le (by rw [List.length_map]; omega)] at ht
    refine run ?_
    exact ⟨⟨true, rfl, by simp [hLM]⟩, g⟩
theorem treeSame_ax (a : Tr) : ∀ (b : Tr) (H : Heap) (l m : List Value), NodeR H l a → NodeR H m b →
    AX Try.prog 10 #[.agg l.toArray, .agg m.toArray] H (fun r H' => (∃ t, r = .bool t ∧ (t = true ↔ a.flat = b.flat)) ∧ H' = H) := by
  induction a using Tr.ind with
  | h a ih =>
  intro b H l m ra rb
  obtain ⟨oa, an, ak, rfl, ran, rak⟩ := ra.inv
  obtain ⟨ob, bn, bk, rfl, rbn, rbk⟩ := rb.inv
  refine AX.quiet ?_
  suffices hh : AX Try.prog 10 #[.agg (nodeV a an ak).toArray, .agg (nodeV b bn bk).toArray] H (fun r H' => (∃ t, r = .bool t ∧ (t = true ↔ a.flat = b.flat)) ∧ Grow H H') from hh.mono fun v _ ⟨⟨b, e, k⟩, g⟩ => ⟨e ▸ plain_bool _, ⟨b, e, k⟩, g⟩
  refine AX.body (n := 45) (rs := [.tmp 4]) Try.func10 rfl (by decide) rfl rfl (bC_sound _ _ _ _ ?_)
  (conv => whnf)
  refine Ob2.box rfl fun p H1 hp a1 g1 => ?_
  refine run ?_
  refine Ob2.box rfl fun q H2 hq a2 g2 => ?_
  have b1 := hblk_of (g2.at a1)
  have b2 := hblk_of a2
  have g3 := g1.trans g2
  (try (conv => whnf)); (repeat' ((fail_if_success (with_reducible refine And.intro ?_ ?_)); (fail_if_success (with_reducible refine Exists.intro ?_ ?_)); (first | ((with_reducible refine AX.id ?_); (first | (refine (eqsT_ax (strR.grow ran g3) (strR.grow rbn g3) oa.2.1).mono ?_; (rintro _ X ⟨⟨bb, rfl, hb⟩, eX⟩; subst X; cases bb <;> (conv => whnf))) | (refine (eqfT_ax (NodeR.grows rak g3) (NodeR.grows rbk g3) oa.2.2.2 ih).mono ?_; (rintro _ X ⟨⟨bb, rfl, hb⟩, eX⟩; subst X; cases bb <;> (conv => whnf))))) | (refine step0 ?_) | (apply bIf.of <;> intro hc <;> (conv => whnf)))))
  all_goals refine ⟨⟨_, rfl, ?_⟩, g3⟩
  all_goals clear b1 a1 b2 a2
  all_goals rw [flat_eq]
  all_goals (simp only [ba_ne_t, ba_ne_f, ba_eq_t, ba_eq_f, bne_iff_ne, bne_eq_false_iff_eq, decide_eq_true_eq, decide_eq_false_iff_not, beq_iff_eq, beq_eq_false_iff_ne, ne_eq, Bool.not_eq_true, Bool.not_eq_false, Bool.not_eq_true', Bool.not_eq_false'] at *)
  all_goals grind
end Go.Proofs.Ytmglmjbjgfbdjaa
/- The document's Same. -/
set_option linter.unusedVariables false
set_option linter.unusedSimpArgs false
set_option maxRecDepth 20000
set_option maxHeartbeats 8000000
namespace Go.Proofs.Ytmglmjbjgfbdjaa
open Go Ax
theorem refSame_ax (a : Tr) : ∀ (b : Tr) (H : Heap) (l m : List Value), NodeR H l a → NodeR H m b →
    AX Try.prog 11 #[.agg l.toArray, .agg m.toArray] H (fun r H' => (∃ t, r = .bool t ∧ (t = true ↔ a.flat = b.flat)) ∧ H' = H) := by
  induction a using Tr.ind with
  | h a ih =>
  intro b H l m ra rb
  obtain ⟨oa, an, ak, rfl, ran, rak⟩ := ra.inv
  obtain ⟨ob, bn, bk, rfl, rbn, rbk⟩ := rb.inv
  refine AX.quiet ?_
  suffices hh : AX Try.prog 11 #[.agg (nodeV a an ak).toArray, .agg (nodeV b bn bk).toArray] H (fun r H' => (∃ t, r = .bool t ∧ (t = true ↔ a.flat = b.flat)) ∧ Grow H H') from hh.mono fun v _ ⟨⟨b, e, k⟩, g⟩ => ⟨e ▸ plain_bool _, ⟨b, e, k⟩, g⟩
  refine AX.body (n := 88) (rs := [.tmp 4]) Try.func11 rfl (by decide) rfl rfl (bC_sound _ _ _ _ ?_)
  (conv => whnf)
  refine Ob2.box rfl fun p H1 hp a1 g1 => ?_
  refine run ?_
  refine Ob2.box rfl fun q H2 hq a2 g2 => ?_
  have b1 := hblk_of (g2.at a1)
  have b2 := hblk_of a2
  have g3 := g1.trans g2
  have l1 : alen Try.prog 22 an H2 = some (.int .i64 a.names.length) := ran.len rfl _
  have l2 : alen Try.prog 22 bn H2 = some (.int .i64 b.names.length) := rbn.len rfl _
  have l3 : alen Try.prog 23 ak H2 = some (.int .i64 a.kids.length) := rak.len rfl _
  have l4 : alen Try.prog 23 bk H2 = some (.int .i64 b.kids.length) := rbk.len rfl _
  have hn := oa.2.1
  have hk := oa.2.2.2
  simp only [maxLen] at hn hk
  (try (conv => whnf)); (repeat' ((fail_if_success (with_reducible refine And.intro ?_ ?_)); (fail_if_success (with_reducible refine Exists.intro ?_ ?_)); (first | (refine step0 ?_) | (apply bIf.of <;> intro hc <;> (conv => whnf)))))
  any_goals
    refine ⟨⟨false, rfl, by simp, fun h => ?_⟩, g3⟩
    exfalso
    have h5 := congrArg List.length (flat_eq.1 h).2.2.2.2.2
    simp only [List.length_map] at h5
    rw [flat_eq] at h
    clear b1 a1 b2 a2 l1 l2 l3 l4
    (simp only [ba_ne_t, ba_ne_f, ba_eq_t, ba_eq_f, bne_iff_ne, bne_eq_false_iff_eq, decide_eq_true_eq, decide_eq_false_iff_not, beq_iff_eq, beq_eq_false_iff_ne, ne_eq, Bool.not_eq_true, Bool.not_eq_false, Bool.not_eq_true', Bool.not_eq_false'] at *)
    grind
  have hd : a.kind = b.kind ∧ a.op = b.op ∧ a.num = b.num ∧ a.str = b.str ∧ a.names.length = b.names.length ∧ a.kids.length = b.kids.length := by
    clear b1 a1 b2 a2 l1 l2 l3 l4
    (simp only [ba_ne_t, ba_ne_f, ba_eq_t, ba_eq_f, bne_iff_ne, bne_eq_false_iff_eq, decide_eq_true_eq, decide_eq_false_iff_not, beq_iff_eq, beq_eq_false_iff_ne, ne_eq, Bool.not_eq_true, Bool.not_eq_false, Bool.not_eq_true', Bool.not_eq_false'] at *)
    grind
  obtain ⟨e1, e2, e3, e4, e5, e6⟩ := hd
  refine SW.loop (α := Nat) (fun k => [(2, .pointer (some ⟨p, 0, none⟩)), (3, .pointer (some ⟨q, 0, none⟩)), (5, .int .i64 (k : Int))]) (fun k H' => k ≤ a.names.length ∧ a.names.take k = b.names.take k ∧ H' = H2) (fun k => a.names.length - k) ⟨0, ⟨rfl, rfl, rfl, trivial⟩, by omega, rfl, rfl⟩ ?_
  rintro k X ⟨hm, ht, e⟩
  subst X
  refine bC_sound _ _ _ _ ?_
  by_cases hml : k < a.names.length
  · have d1 : decide ((k : Int) < (a.names.length : Int)) = true := decide_eq_true (by omega)
    obtain ⟨x, hx⟩ := get_lt hml
    obtain ⟨y, hy⟩ := get_lt (L := b.names) (m := k) (by omega)
    obtain ⟨p1, i1, i2⟩ := ld_strT ran hx
    obtain ⟨p2, j1, j2⟩ := ld_strT rbn hy
    have i3 := i2 H2 g3
    have j3 := j2 H2 g3
    refine run ?_
    apply SW.drawG [(0, [], [60, 63, 64, 65, 66, 67], false), (1, [(58, 0)], [58, 60, 63, 64, 65, 66, 67], false), (2, [], [58, 59, 63, 64, 65, 66, 67], false), (3, [(58, 0), (59, 1), (60, 2)], [58, 59, 60, 63, 64, 65, 66, 67], false), (4, [(58, 0), (59, 1), (60, 2), (61, 3)], [58, 59, 60, 61, 63, 64, 65, 66, 67], false), (5, [], [58, 59, 60, 61, 62, 65], false), (6, [(63, 5)], [58, 59, 60, 61, 62, 63, 65], false), (7, [], [58, 59, 60, 61, 62, 63, 64], false), (8, [(63, 5), (64, 6), (65, 7)], [58, 59, 60, 61, 62, 63, 64, 65], false), (9, [(63, 5), (64, 6), (65, 7), (66, 8)], [58, 59, 60, 61, 62, 63, 64, 65, 66], false), (10, [(58, 0), (59, 1), (60, 2), (61, 3), (62, 4), (63, 5), (64, 6), (65, 7), (66, 8), (67, 9)], [58, 59, 60, 61, 62, 63, 64, 65, 66, 67], false)]
      [(58, 0), (59, 1), (60, 2), (61, 3), (62, 4), (63, 5), (64, 6), (65, 7), (66, 8), (67, 9), (68, 10)]
      [(2, _), (3, _), (5, _)] rfl (by kernel_rfl)
    case hF => exact ⟨rfl, rfl, rfl, trivial⟩
    by_cases hxy : x = y
    · have d2 : (x != y) = false := ba_ne_f.2 hxy
      refine run ?_
      subst hxy
      exact ⟨k + 1, ⟨rfl, rfl, congrArg (fun z => some (Value.int .i64 z)) (w_succ (by omega)), trivial⟩, ⟨hml, take_next ht hx hy, rfl⟩, by show a.names.length - (k + 1) < a.names.length - k; omega⟩
    · have d2 : (x != y) = true := ba_ne_t.2 hxy
      refine run ?_
      refine ⟨⟨false, rfl, by simp, fun h => ?_⟩, g3⟩
      have := (flat_eq.1 h).2.2.2.2.1
      rw [this] at hx
      rw [hx] at hy
      exact absurd (Option.some.inj hy) hxy
  · have d1 : decide ((k : Int) < (a.names.length : Int)) = false := decide_eq_false (by omega)
    have hns : a.names = b.names := by rwa [List.take_of_length_le (by omega), List.take_of_length_le (by omega)] at ht
    refine run ?_
    refine SW.loop (α := Nat) (fun k => [(2, .pointer (some ⟨p, 0, none⟩)), (3, .pointer (some ⟨q, 0, none⟩)), (6, .int .i64 (k : Int))]) (fun k H' => k ≤ a.kids.length ∧ (a.kids.map Tr.flat).take k = (b.kids.map Tr.flat).take k ∧ H' = H2) (fun k => a.kids.length - k) ⟨0, ⟨rfl, rfl, rfl, trivial⟩, by omega, rfl, rfl⟩ ?_
    clear ht hm hml d1
    rintro k X ⟨hm, ht, e⟩
    subst X
    refine bC_sound _ _ _ _ ?_
    by_cases hml : k < a.kids.length
    · have d1 : decide ((k : Int) < (a.kids.length : Int)) = true := decide_eq_true (by omega)
      obtain ⟨x, hx⟩ := get_lt hml
      obtain ⟨y, hy⟩ := get_lt (L := b.kids) (m := k) (by omega)
      obtain ⟨p1, xl, i1, i4, i2⟩ := ld_node rak hx
      obtain ⟨p2, yl, j1, j4, j2⟩ := ld_node rbk hy
      have i3 := i2 H2 g3
      have j3 := j2 H2 g3
      refine run ?_
      apply SW.drawG [(0, [], [78, 81, 82, 83, 84, 85], false), (1, [(76, 0)], [76, 78, 81, 82, 83, 84, 85], false), (2, [], [76, 77, 81, 82, 83, 84, 85], false), (3, [(76, 0), (77, 1), (78, 2)], [76, 77, 78, 81, 82, 83, 84, 85], false), (4, [(76, 0), (77, 1), (78, 2), (79, 3)], [76, 77, 78, 79, 81, 82, 83, 84, 85], false), (5, [], [76, 77, 78, 79, 80, 83], false), (6, [(81, 5)], [76, 77, 78, 79, 80, 81, 83], false), (7, [], [76, 77, 78, 79, 80, 81, 82], false), (8, [(81, 5), (82, 6), (83, 7)], [76, 77, 78, 79, 80, 81, 82, 83], false), (9, [(81, 5), (82, 6), (83, 7), (84, 8)], [76, 77, 78, 79, 80, 81, 82, 83, 84], false), (10, [(76, 0), (77, 1), (78, 2), (79, 3), (80, 4), (81, 5), (82, 6), (83, 7), (84, 8), (85, 9)], [76, 77, 78, 79, 80, 81, 82, 83, 84, 85], true), (11, [(76, 0), (77, 1), (78, 2), (79, 3), (80, 4), (81, 5), (82, 6), (83, 7), (84, 8), (85, 9), (86, 10)], [76, 77, 78, 79, 80, 81, 82, 83, 84, 85, 86], false)]
        [(76, 0), (77, 1), (78, 2), (79, 3), (80, 4), (81, 5), (82, 6), (83, 7), (84, 8), (85, 9), (86, 10), (87, 11)]
        [(2, _), (3, _), (6, _)] rfl (by kernel_rfl)
      case hF => exact ⟨rfl, rfl, rfl, trivial⟩
      refine run ?_
      refine (ih x (List.mem_of_getElem? hx) y _ _ _ (i4.grow g3) (j4.grow g3)).mono ?_
      rintro _ X' ⟨⟨t, rfl, ht2⟩, e⟩
      subst X'
      cases t with
      | false =>
        refine run ?_
        refine ⟨⟨false, rfl, by simp, fun h => ?_⟩, g3⟩
        have h3 := congrArg (·[k]?) (flat_eq.1 h).2.2.2.2.2
        simp only [List.getElem?_map, hx, hy, Option.map_some, Option.some.injEq] at h3
        exact absurd (ht2.2 h3) (by simp)
      | true =>
        refine run ?_
        exact ⟨k + 1, ⟨rfl, rfl, congrArg (fun z => some (Value.int .i64 z)) (w_succ (by omega)), trivial⟩, ⟨hml, take_nextM ht hx hy (ht2.1 rfl), rfl⟩, by show a.kids.length - (k + 1) < a.kids.length - k; omega⟩
    · have d1 : decide ((k : Int) < (a.kids.length : Int)) = false := decide_eq_false (by omega)
      have hLM : a.kids.map Tr.flat = b.kids.map Tr.flat := by rwa [List.take_of_length_le (by rw [List.length_map]; omega), List.take_of_length_le (by rw [List.length_map]; omega)] at ht
      refine run ?_
      exact ⟨⟨true, rfl, by simp [flat_eq, *]⟩, g3⟩
end Go.Proofs.Ytmglmjbjgfbdjaa
/- Few nodes: also how many. -/
set_option linter.unusedVariables false
set_option linter.unusedSimpArgs false
set_option maxRecDepth 20000
set_option maxHeartbeats 8000000
namespace Go.Proofs.Ytmglmjbjgfbdjaa
open Go Ax
def FewC (x : Tr) : Prop := FewT x ∧ x.cnt ≤ 300
theorem fewC_ax {H : Heap} {l : List Value} {x : Tr} (R : NodeR H l x) : AX Try.prog 6 #[.agg l.toArray, .int .i64 300] H (fun v H' => (∃ b, v = .bool b ∧ (b = true → FewC x)) ∧ H' = H) := by
  obtain ⟨ow, sn, sk, rfl, -, -⟩ := R.inv
  refine AX.quiet ?_
  suffices hh : AX Try.prog 6 #[.agg (nodeV x sn sk).toArray, .int .i64 300] H (fun v H' => (∃ b, v = .bool b ∧ (b = true → FewC x)) ∧ Grow H H') from hh.mono fun v _ ⟨⟨b, e, k⟩, g⟩ => ⟨e ▸ plain_bool _, ⟨b, e, k⟩, g⟩
  refine AX.body (n := 9) (rs := [.tmp 4]) Try.func6 rfl (by decide) rfl rfl (bC_sound _ _ _ _ ?_)
  (conv => whnf)
  refine Ob2.box rfl fun q H1 hq a1 g1 => ?_
  have b1 := hblk_of a1
  refine run ?_
  refine (left_ax x (R.grow g1) 300 40 (by omega) (by omega) (by omega) (by omega)).mono ?_
  rintro _ X ⟨rfl, e⟩
  subst X
  refine run ?_
  exact ⟨⟨_, rfl, fun h => by
    have h := of_decide_eq_true h
    have := x.left_cnt 300 40 (by omega) h
    exact ⟨few_of h, by omega⟩⟩, g1⟩
end Go.Proofs.Ytmglmjbjgfbdjaa
