/- Both Prints answer the same. -/
import Derived.Test.YtmglmjbjgfbdjaaJTr5
set_option linter.unusedVariables false
set_option linter.unusedSimpArgs false
set_option maxRecDepth 20000
set_option maxHeartbeats 8000000
namespace Go.Proofs.Ytmglmjbjgfbdjaa
open Go Ax
theorem plain_si (a : ByteArray) (b : Int) : plain (.tuple #[.string a, .int .i64 b]) := plain_tuple (vs := [_, _]) fun x hx => by
  simp only [List.mem_cons, List.not_mem_nil, or_false] at hx
  rcases hx with rfl | rfl
  · exact plain_str _
  · exact plain_int _ _
/-- A program's text. -/
def Tr.txt (x : Tr) : List UInt8 := joinS [32] (x.kids.map (·.tx.2.1))
/-- What Print answers. -/
noncomputable def printP (x : Tr) : ByteArray × Int := if checkP x ≠ 0 then (⟨#[]⟩, checkP x) else if 2000 < x.txt.length then (⟨#[]⟩, 3) else (bstr x.txt, 0)
theorem checkP_right {x : Tr} (h : checkP x = 0) : RightT x 3 := by
  unfold checkP at h
  split at h
  · omega
  · split at h
    · assumption
    · omega
theorem txt_up {x : Tr} (tx : Tidy x) (hc : x.cnt ≤ 300) : x.txt.length ≤ lim8 := by
  have h1 := joinS_up [32] (x.kids.map (·.tx.2.1))
  have h2 : ((x.kids.map (·.tx.2.1)).map (·.length)).sum + 100 * x.kids.length ≤ 20000 * cnts x.kids := by
    rw [cnts_sum, List.map_map]
    have hk : ∀ y ∈ x.kids, y.tx.2.1.length + 100 ≤ 20000 * y.cnt := fun y hy => by
      have := tx_up y (tx.kid y hy)
      have := (mx1 y.tx).2.1
      omega
    revert hk
    generalize x.kids = L
    intro hk
    induction L with
    | nil => simp
    | cons a L ih =>
      have h1 := ih fun y hy => hk y (List.mem_cons_of_mem _ hy)
      have h2 := hk a (List.mem_cons_self ..)
      simp only [List.map_cons, List.sum_cons, List.length_cons, Function.comp_apply] at h1 ⊢
      omega
  rw [Tr.cnt_eq] at hc
  unfold Tr.txt
  simp only [List.length_map, List.length_cons, List.length_nil, lim8] at h1 ⊢
  omega
theorem txt_dn {x : Tr} (h : RightT x 3) : x.strs ≤ x.txt.length := by
  have h1 := joinS_dn [32] (x.kids.map (·.tx.2.1))
  rw [right_iff, own3_iff] at h
  obtain ⟨⟨hk, hb, -⟩, hr⟩ := h
  rw [Tr.strs_eq, str0 (hb.2.2.1 rfl), szs0 (hb.2.2.2 rfl)]
  have := strs_list (ks := x.kids) (·.tx.2.1) fun y hy => by
    obtain ⟨j, hj⟩ := List.getElem?_of_mem hy
    have := hr j y hj
    rw [show wantP x.kind j = 2 from by unfold wantP; rw [if_pos (by omega)]] at this
    exact (strs_dn y).2.1 this
  unfold Tr.txt
  omega
theorem right_kids {x : Tr} (h : RightT x 3) : ∀ y ∈ x.kids, RightT y 2 := by
  rw [right_iff, own3_iff] at h
  intro y hy
  obtain ⟨j, hj⟩ := List.getElem?_of_mem hy
  have := h.2 j y hj
  rwa [show wantP x.kind j = 2 from by unfold wantP; rw [if_pos (by omega)]] at this
theorem len_ax {B : Nat} {H : Heap} {b : Nat} {T : TypeId} {rest : List Value} {bs : List UInt8} (h : Bld B H b T rest bs) : AX Try.prog 19 #[ptr b] H (fun v H' => v = .int .i64 bs.length ∧ H' = H) := by
  obtain ⟨h1, h2, a, v, h3, h4, h5⟩ := h
  have hb := hblk_of h3
  have hl : alen Try.prog 41 v H = some (.int .i64 bs.length) := by
    rcases h5 with ⟨rfl, rfl⟩ | ⟨g, -, rfl, -, -⟩ <;> rfl
  refine AX.body (n := 8) (rs := [.tmp 2]) Try.func19 rfl (by decide) rfl rfl (bC_sound _ _ _ _ ?_)
  refine run ?_
  exact ⟨rfl, rfl⟩
theorem print_ax {H : Heap} {l : List Value} {x : Tr} (R : NodeR H l x) (tx : Tidy x) (hc : x.cnt ≤ 300) : AX Try.prog 8 #[.agg l.toArray] H (fun v H' => v = .tuple #[.string (printP x).1, .int .i64 (printP x).2] ∧ H' = H) := by
  obtain ⟨ow, sn, sk, rfl, rn, rk⟩ := R.inv
  have hkm := ow.2.2.2
  simp only [maxLen] at hkm
  refine AX.quiet ?_
  suffices hh : AX Try.prog 8 #[.agg (nodeV x sn sk).toArray] H (fun v H' => v = .tuple #[.string (printP x).1, .int .i64 (printP x).2] ∧ Grow H H') from hh.mono fun v _ ⟨e, g⟩ => ⟨e ▸ plain_si _ _, e, g⟩
  refine AX.body (n := 44) (rs := [.tmp 2, .tmp 3]) Try.func8 rfl (by decide) rfl rfl (bC_sound _ _ _ _ ?_)
  (conv => whnf)
  refine Ob2.box rfl fun q H1 hq ab g1 => ?_
  have bb := hblk_of ab
  have R1 := R.grow g1
  by_cases hch : checkP x ≠ 0
  · have d : (checkP x != 0) = true := by rw [bne_iff_ne]; exact hch
    have hp : printP x = (⟨#[]⟩, checkP x) := if_pos hch
    rw [hp]
    refine run ?_
    refine (treeCheck_ax R1 tx).mono ?_
    rintro _ X ⟨rfl, e⟩
    subst X
    refine run ?_
    exact ⟨rfl, g1⟩
  have hch0 : checkP x = 0 := Classical.not_not.1 hch
  have hr := checkP_right hch0
  have d : (checkP x != 0) = false := by rw [hch0]; rfl
  have hwt := x.long_wt 4000 (by omega)
  have hdn := txt_dn hr
  have hup := txt_up tx hc
  by_cases hlg : x.long 4000 < 0
  · have d2 : decide (x.long 4000 < 0) = true := decide_eq_true hlg
    have hp : printP x = (⟨#[]⟩, 3) := by
      unfold printP
      rw [if_neg hch, if_pos (by have := hwt.2.2 hlg; omega)]
    rw [hp]
    refine run ?_
    refine (treeCheck_ax R1 tx).mono ?_
    rintro _ X ⟨rfl, e⟩
    subst X
    refine run ?_
    refine (long_ax x tx R1 4000 (by omega) (by omega)).mono ?_
    rintro _ X ⟨rfl, e⟩
    subst X
    refine run ?_
    exact ⟨rfl, g1⟩
  have d2 : decide (x.long 4000 < 0) = false := decide_eq_false hlg
  have hp : printP x = if 2000 < x.txt.length then (⟨#[]⟩, 3) else (bstr x.txt, 0) := if_neg hch
  rw [hp]
  refine run ?_
  refine (treeCheck_ax R1 tx).mono ?_
  rintro _ X ⟨rfl, e⟩
  subst X
  refine run ?_
  refine (long_ax x tx R1 4000 (by omega) (by omega)).mono ?_
  rintro _ X ⟨rfl, e⟩
  subst X
  refine run ?_
  refine Ob2.boxM (.one 45) rfl rfl fun b H2 hb ba g2 => ?_
  have rk1 := NodeR.grows rk g1
  have S : WS H1 H2 b [] := ⟨g2, by omega, g2.1, _, _, ba, .inl rfl, .inl ⟨rfl, rfl⟩⟩
  have F : FrW b H2 H2 := .refl _ _
  have l1 : alen Try.prog 23 sk H2 = some (.int .i64 x.kids.length) := rk.len rfl _
  have ab := g2.at ab
  have bb := hblk_of ab
  have hw : ∀ y ∈ x.kids, WrN 18 y.tx.2.1 y := (writes x tx).2.2 hr
  refine run ?_
  refine SW.loop (α := Nat) (fun k => [(5, ptr b), (19, sk), (20, .int .i64 x.kids.length), (21, .int .i64 (k : Int))]) (fun k X => k ≤ x.kids.length ∧ WS H1 X b (joinS [32] ((x.kids.map (·.tx.2.1)).take k)) ∧ FrW b H2 X) (fun k => x.kids.length - k) ⟨0, ⟨rfl, rfl, rfl, rfl, trivial⟩, by omega, by simpa [joinS] using S, F⟩ ?_
  clear S F ab bb
  rintro k X ⟨hm, S, F⟩
  refine bC_sound _ _ _ _ ?_
  by_cases hml : k < x.kids.length
  · have d1 : decide ((k : Int) < (x.kids.length : Int)) = true := decide_eq_true (by omega)
    obtain ⟨y, hy⟩ := get_lt hml
    obtain ⟨p, yl, i1, i2, i3⟩ := ld_node rk1 hy
    have i4 := i3 X S.g
    obtain ⟨yo, yn, yk, rfl, -⟩ := i2.inv
    have hj := joinS_take [32] (map_at (f := fun z : Tr => z.tx.2.1) hy)
    have hl := joinS_le [32] (x.kids.map (·.tx.2.1)) (k + 1)
    rw [hj] at hl
    replace hl := Nat.le_trans hl hup
    by_cases h0 : k = 0
    · have d3 : decide ((k : Int) > 0) = false := decide_eq_false (by omega)
      rw [if_pos h0] at hj hl
      refine run ?_
      refine Ob2.alloc rfl fun qc X1 hqc ac gc => ?_
      refine run ?_
      refine Ob.store rfl rfl rfl ac rfl (by first | exact Nat.le_of_ble_eq_true rfl | simp) fun X2 s1 s2 s3 => ?_
      replace gc := gc.but_new s2 (Nat.le_of_eq hqc.symm)
      replace S := S.grow gc
      replace F := F.trans (.of gc)
      (try replace ab := gc.at ab)
      (try replace bb := hblk_of ab)
      replace ac := s1
      have bc := hblk_of ac
      clear s1 s2 s3 hqc
      refine run ?_
      refine (hw y (List.mem_of_getElem? hy) i2 S (by ((try simp only [List.length_append, List.length_cons, List.length_nil, lim8, commaS] at hl ⊢); omega))).mono ?_
      rintro _ X ⟨S', F'⟩
      (try replace ab := S.box F' ab)
      (try replace bb := hblk_of ab)
      (try replace ac := S.box F' ac)
      (try replace bc := hblk_of ac)
      replace F := F.trans F'
      replace S := S'
      clear S' F'
      refine run ?_
      exact ⟨k + 1, ⟨rfl, rfl, rfl, congrArg (fun z => some (Value.int .i64 z)) (w_succ (by omega)), trivial⟩, ⟨hml, by rw [hj]; simpa only [List.append_assoc, List.append_nil] using S, F⟩, by show x.kids.length - (k + 1) < x.kids.length - k; omega⟩
    · have d3 : decide ((k : Int) > 0) = true := decide_eq_true (by omega)
      rw [if_neg h0] at hj hl
      refine run ?_
      refine Ob2.alloc rfl fun qc X1 hqc ac gc => ?_
      refine run ?_
      refine Ob.store rfl rfl rfl ac rfl (by first | exact Nat.le_of_ble_eq_true rfl | simp) fun X2 s1 s2 s3 => ?_
      replace gc := gc.but_new s2 (Nat.le_of_eq hqc.symm)
      replace S := S.grow gc
      replace F := F.trans (.of gc)
      (try replace ab := gc.at ab)
      (try replace bb := hblk_of ab)
      replace ac := s1
      have bc := hblk_of ac
      clear s1 s2 s3 hqc
      refine run ?_
      refine Ob2.lay (.cells (.row 9) (List.map Value.string [⟨#[32]⟩])) (.slice (some ⟨_, 0, none⟩) _ 1) rfl fun U pa pg _ => ?_
      replace S := S.grow pg
      replace F := F.trans (.of pg)
      (try replace ab := pg.at ab)
      (try replace bb := hblk_of ab)
      (try replace ac := pg.at ac)
      (try replace bc := hblk_of ac)
      refine run ?_
      refine (S.put (t := [32]) pa (by simp [catL]) (by simp) (by ((try simp only [List.length_append, List.length_cons, List.length_nil, lim8, commaS] at hl ⊢); omega))).mono ?_
      rintro _ X ⟨S', F'⟩
      (try replace ab := S.box F' ab)
      (try replace bb := hblk_of ab)
      (try replace ac := S.box F' ac)
      (try replace bc := hblk_of ac)
      replace F := F.trans F'
      replace S := S'
      clear S' F'
      refine run ?_
      refine (hw y (List.mem_of_getElem? hy) i2 S (by ((try simp only [List.length_append, List.length_cons, List.length_nil, lim8, commaS] at hl ⊢); omega))).mono ?_
      rintro _ X ⟨S', F'⟩
      (try replace ab := S.box F' ab)
      (try replace bb := hblk_of ab)
      (try replace ac := S.box F' ac)
      (try replace bc := hblk_of ac)
      replace F := F.trans F'
      replace S := S'
      clear S' F'
      refine run ?_
      exact ⟨k + 1, ⟨rfl, rfl, rfl, congrArg (fun z => some (Value.int .i64 z)) (w_succ (by omega)), trivial⟩, ⟨hml, by rw [hj]; simpa only [List.append_assoc] using S, F⟩, by show x.kids.length - (k + 1) < x.kids.length - k; omega⟩
  · have d1 : decide ((k : Int) < (x.kids.length : Int)) = false := decide_eq_false (by omega)
    rw [List.take_of_length_le (by simp; omega)] at S
    have S : WS H1 X b x.txt := S
    have gX := g1.trans S.g
    by_cases hbig : 2000 < x.txt.length
    · have d4 : decide ((x.txt.length : Int) > 2000) = true := decide_eq_true (by omega)
      rw [if_pos hbig]
      refine run ?_
      refine (len_ax S.bl).mono ?_
      rintro _ X ⟨rfl, e⟩
      subst X
      refine run ?_
      exact ⟨rfl, gX⟩
    · have d4 : decide ((x.txt.length : Int) > 2000) = false := decide_eq_false (by omega)
      rw [if_neg hbig]
      refine run ?_
      refine (len_ax S.bl).mono ?_
      rintro _ X ⟨rfl, e⟩
      subst X
      refine run ?_
      refine (string_ax S.bl (by omega)).mono ?_
      rintro _ X ⟨rfl, hk⟩
      refine run ?_
      exact ⟨rfl, (Keep.trans ⟨gX.1, fun k hk => gX.2 k hk⟩ ⟨hk.1, fun j hj => hk.2 j (Nat.lt_of_lt_of_le hj g1.1)⟩ : Keep H.length H _)⟩
theorem rtext_ax {H : Heap} {l : List Value} {x : Tr} (R : NodeR H l x) (hr : RightT x 3) (hL : x.txt.length ≤ lim8) : AX Try.prog 22 #[.agg l.toArray] H (fun v H' => v = .string (bstr x.txt) ∧ H' = H) := by
  obtain ⟨ow, sn, sk, rfl, rn, rk⟩ := R.inv
  have hkm := ow.2.2.2
  simp only [maxLen] at hkm
  refine AX.quiet ?_
  suffices hh : AX Try.prog 22 #[.agg (nodeV x sn sk).toArray] H (fun v H' => v = .string (bstr x.txt) ∧ Grow H H') from hh.mono fun v _ ⟨e, g⟩ => ⟨e ▸ plain_str _, e, g⟩
  refine AX.body (n := 25) (rs := [.tmp 2]) Try.func22 rfl (by decide) rfl rfl (bC_sound _ _ _ _ ?_)
  (conv => whnf)
  refine Ob2.box rfl fun q H1 hq ab g1 => ?_
  have bb := hblk_of ab
  replace rk := NodeR.grows rk g1
  have hw : ∀ y ∈ x.kids, RdN 33 y.tx.2.1 y := (reads x).2.2 hr
  have l1 : alen Try.prog 23 sk H1 = some (.int .i64 x.kids.length) := rk.len rfl _
  refine run ?_
  refine SW.loop (α := Nat) (fun k => [(1, .pointer (some ⟨q, 0, none⟩)), (3, .string (bstr (joinS [32] ((x.kids.map (·.tx.2.1)).take k)))), (4, .int .i64 (k : Int))]) (fun k X => k ≤ x.kids.length ∧ X = H1) (fun k => x.kids.length - k) ⟨0, ⟨rfl, rfl, rfl, trivial⟩, by omega, rfl⟩ ?_
  rintro k X ⟨hm, e⟩
  subst X
  refine bC_sound _ _ _ _ ?_
  by_cases hml : k < x.kids.length
  · have d1 : decide ((k : Int) < (x.kids.length : Int)) = true := decide_eq_true (by omega)
    obtain ⟨y, hy⟩ := get_lt hml
    obtain ⟨p, yl, i1, i2, i3⟩ := ld_node rk hy
    have i4 := i3 H1 (.refl _)
    have hj := joinS_take [32] (map_at (f := fun z : Tr => z.tx.2.1) hy)
    have hl := joinS_le [32] (x.kids.map (·.tx.2.1)) (k + 1)
    rw [hj] at hl
    replace hl := Nat.le_trans hl hL
    have hc := hw y (List.mem_of_getElem? hy) i2 (by simp only [List.length_append] at hl; omega)
    by_cases h0 : k = 0
    · have d2 : decide ((k : Int) > 0) = false := decide_eq_false (by omega)
      rw [if_pos h0] at hj hl
      rw [List.append_nil] at hj hl
      (try (conv => whnf)); (repeat' ((fail_if_success (with_reducible refine And.intro ?_ ?_)); (fail_if_success (with_reducible refine Exists.intro ?_ ?_)); (first | ((with_reducible refine AX.id ?_); (first | (refine (hc).mono ?_; (rintro _ X ⟨rfl, eX⟩; subst X; (conv => whnf))))) | ((with_reducible refine Ob.cat (by first | exact bstr_list _ | rfl) (by first | exact bstr_list _ | rfl) (by ((try simp only [List.length_append, List.length_cons, List.length_nil, lim8, commaS] at hl ⊢); omega)) ?_); (conv => whnf)) | (refine step0 ?_) | (apply bIf.of <;> intro hc <;> (conv => whnf)))))
      exact ⟨k + 1, ⟨rfl, congrArg (fun l => some (Value.string (bstr l))) (by rw [hj]), congrArg (fun z => some (Value.int .i64 z)) (w_succ (by omega)), trivial⟩, ⟨hml, rfl⟩, by show x.kids.length - (k + 1) < x.kids.length - k; omega⟩
    · have d2 : decide ((k : Int) > 0) = true := decide_eq_true (by omega)
      rw [if_neg h0] at hj hl
      (try (conv => whnf)); (repeat' ((fail_if_success (with_reducible refine And.intro ?_ ?_)); (fail_if_success (with_reducible refine Exists.intro ?_ ?_)); (first | ((with_reducible refine AX.id ?_); (first | (refine (hc).mono ?_; (rintro _ X ⟨rfl, eX⟩; subst X; (conv => whnf))))) | ((with_reducible refine Ob.cat (by first | exact bstr_list _ | rfl) (by first | exact bstr_list _ | rfl) (by ((try simp only [List.length_append, List.length_cons, List.length_nil, lim8, commaS] at hl ⊢); omega)) ?_); (conv => whnf)) | (refine step0 ?_) | (apply bIf.of <;> intro hc <;> (conv => whnf)))))
      exact ⟨k + 1, ⟨rfl, congrArg (fun l => some (Value.string (bstr l))) (by rw [hj]), congrArg (fun z => some (Value.int .i64 z)) (w_succ (by omega)), trivial⟩, ⟨hml, rfl⟩, by show x.kids.length - (k + 1) < x.kids.length - k; omega⟩
  · have d1 : decide ((k : Int) < (x.kids.length : Int)) = false := decide_eq_false (by omega)
    rw [List.take_of_length_le (by simp; omega)]
    (try (conv => whnf)); (repeat' ((fail_if_success (with_reducible refine And.intro ?_ ?_)); (fail_if_success (with_reducible refine Exists.intro ?_ ?_)); (first | ((with_reducible refine Ob.cat (by first | exact bstr_list _ | rfl) (by first | exact bstr_list _ | rfl) (by ((try simp only [List.length_append, List.length_cons, List.length_nil, lim8, commaS] at hl ⊢); omega)) ?_); (conv => whnf)) | (refine step0 ?_) | (apply bIf.of <;> intro hc <;> (conv => whnf)))))
    exact ⟨rfl, g1⟩
theorem rprint_ax {H : Heap} {l : List Value} {x : Tr} (R : NodeR H l x) (fx : FewT x) (hc : x.cnt ≤ 300) : AX Try.prog 9 #[.agg l.toArray] H (fun v H' => v = .tuple #[.string (printP x).1, .int .i64 (printP x).2] ∧ H' = H) := by
  obtain ⟨ow, sn, sk, rfl, rn, rk⟩ := R.inv
  refine AX.quiet ?_
  suffices hh : AX Try.prog 9 #[.agg (nodeV x sn sk).toArray] H (fun v H' => v = .tuple #[.string (printP x).1, .int .i64 (printP x).2] ∧ Grow H H') from hh.mono fun v _ ⟨e, g⟩ => ⟨e ▸ plain_si _ _, e, g⟩
  refine AX.body (n := 17) (rs := [.tmp 2, .tmp 3]) Try.func9 rfl (by decide) rfl rfl (bC_sound _ _ _ _ ?_)
  (conv => whnf)
  refine Ob2.box rfl fun q H1 hq ab g1 => ?_
  have bb := hblk_of ab
  have R1 := R.grow g1
  have c1 := refCheck06_ax R1 fx
  by_cases hch : checkP x ≠ 0
  · have d : (checkP x != 0) = true := by rw [bne_iff_ne]; exact hch
    have hp : printP x = (⟨#[]⟩, checkP x) := if_pos hch
    rw [hp]
    (try (conv => whnf)); (repeat' ((fail_if_success (with_reducible refine And.intro ?_ ?_)); (fail_if_success (with_reducible refine Exists.intro ?_ ?_)); (first | ((with_reducible refine AX.id ?_); (first | (refine (c1).mono ?_; (rintro _ X ⟨rfl, eX⟩; subst X; (conv => whnf))))) | ((with_reducible refine Ob.cat (by first | exact bstr_list _ | rfl) (by first | exact bstr_list _ | rfl) (by ((try simp only [List.length_append, List.length_cons, List.length_nil, lim8, commaS] at hl ⊢); omega)) ?_); (conv => whnf)) | (refine step0 ?_) | (apply bIf.of <;> intro hc <;> (conv => whnf)))))
    exact ⟨rfl, g1⟩
  have hch0 : checkP x = 0 := Classical.not_not.1 hch
  have hr := checkP_right hch0
  have d : (checkP x != 0) = false := by rw [hch0]; rfl
  have hup := txt_up fx.1 hc
  have c2 := rtext_ax R1 hr hup
  have hp : printP x = if 2000 < x.txt.length then (⟨#[]⟩, 3) else (bstr x.txt, 0) := if_neg hch
  rw [hp]
  have es : (bstr x.txt).size = x.txt.length := rfl
  by_cases hbig : 2000 < x.txt.length
  · have d4 : decide (((bstr x.txt).size : Int) > 2000) = true := decide_eq_true (by omega)
    rw [if_pos hbig]
    (try (conv => whnf)); (repeat' ((fail_if_success (with_reducible refine And.intro ?_ ?_)); (fail_if_success (with_reducible refine Exists.intro ?_ ?_)); (first | ((with_reducible refine AX.id ?_); (first | (refine (c1).mono ?_; (rintro _ X ⟨rfl, eX⟩; subst X; (conv => whnf))) | (refine (c2).mono ?_; (rintro _ X ⟨rfl, eX⟩; subst X; (conv => whnf))))) | ((with_reducible refine Ob.cat (by first | exact bstr_list _ | rfl) (by first | exact bstr_list _ | rfl) (by ((try simp only [List.length_append, List.length_cons, List.length_nil, lim8, commaS] at hl ⊢); omega)) ?_); (conv => whnf)) | (refine step0 ?_) | (apply bIf.of <;> intro hc <;> (conv => whnf)))))
    exact ⟨rfl, g1⟩
  · have d4 : decide (((bstr x.txt).size : Int) > 2000) = false := decide_eq_false (by omega)
    rw [if_neg hbig]
    (try (conv => whnf)); (repeat' ((fail_if_success (with_reducible refine And.intro ?_ ?_)); (fail_if_success (with_reducible refine Exists.intro ?_ ?_)); (first | ((with_reducible refine AX.id ?_); (first | (refine (c1).mono ?_; (rintro _ X ⟨rfl, eX⟩; subst X; (conv => whnf))) | (refine (c2).mono ?_; (rintro _ X ⟨rfl, eX⟩; subst X; (conv => whnf))))) | ((with_reducible refine Ob.cat (by first | exact bstr_list _ | rfl) (by first | exact bstr_list _ | rfl) (by ((try simp only [List.length_append, List.length_cons, List.length_nil, lim8, commaS] at hl ⊢); omega)) ?_); (conv => whnf)) | (refine step0 ?_) | (apply bIf.of <;> intro hc <;> (conv => whnf)))))
    exact ⟨rfl, g1⟩
end Go.Proofs.Ytmglmjbjgfbdjaa
/- Package tree: Height, Count; works. -/
set_option linter.unusedVariables false
set_option linter.unusedSimpArgs false
set_option maxRecDepth 20000
set_option maxHeartbeats 8000000
namespace Go.Proofs.Ytmglmjbjgfbdjaa
open Go Ax
theorem cnts_take {L : List Tr} {i : Nat} {x : Tr} (h : L[i]? = some x) : cnts (L.take (i + 1)) = cnts (L.take i) + x.cnt := by
  obtain ⟨hi, rfl⟩ := List.getElem?_eq_some_iff.1 h
  rw [List.take_succ_eq_append_getElem hi, cnts_sum, cnts_sum, List.map_append, List.sum_append]
  simp
theorem cnts_take_le (L : List Tr) (i : Nat) : cnts (L.take i) ≤ cnts L := by
  have : cnts L = cnts (L.take i) + cnts (L.drop i) := by
    rw [cnts_sum, cnts_sum, cnts_sum, ← List.sum_append, ← List.map_append, List.take_append_drop]
  omega
theorem count_ax (x : Tr) : x.cnt ≤ 300 → ∀ {H : Heap} {l : List Value}, NodeR H l x →
    AX Try.prog 14 #[.agg l.toArray] H (fun v H' => v = .int .i64 (x.cnt : Int) ∧ H' = H) := by
  induction x using Tr.ind with
  | h x ih =>
  intro hc H l R
  obtain ⟨ow, sn, sk, rfl, rn, rk⟩ := R.inv
  refine AX.quiet ?_
  suffices hh : AX Try.prog 14 #[.agg (nodeV x sn sk).toArray] H (fun v H' => v = .int .i64 (x.cnt : Int) ∧ Grow H H') from hh.mono fun v _ ⟨e, g⟩ => ⟨e ▸ plain_int _ _, e, g⟩
  refine AX.body (n := 19) (rs := [.tmp 2]) Try.func14 rfl (by decide) rfl rfl (bC_sound _ _ _ _ ?_)
  (conv => whnf)
  refine Ob2.box rfl fun q H1 hq a1 g1 => ?_
  have b1 := hblk_of a1
  have hkl := ow.2.2.2
  simp only [maxLen] at hkl
  have l2 : alen Try.prog 23 sk H1 = some (.int .i64 x.kids.length) := rk.len rfl _
  rw [Tr.cnt_eq] at hc ⊢
  refine run ?_
  refine SW.loop (α := Nat) (fun k => [(3, .int .i64 ((1 + cnts (x.kids.take k) : Nat) : Int)), (7, sk), (8, .int .i64 x.kids.length), (9, .int .i64 (k : Int))]) (fun k H' => k ≤ x.kids.length ∧ Grow H1 H') (fun k => x.kids.length - k) ⟨0, ⟨rfl, rfl, rfl, rfl, trivial⟩, by omega, .refl _⟩ ?_
  rintro k X ⟨hj, gX⟩
  refine bC_sound _ _ _ _ ?_
  by_cases hjl : k < x.kids.length
  · have d3 : decide ((k : Int) < (x.kids.length : Int)) = true := decide_eq_true (by omega)
    obtain ⟨y, hy⟩ := get_lt hjl
    obtain ⟨p, yl, i1, i2, i3⟩ := ld_node rk hy
    have i4 := i3 X (g1.trans gX)
    have e1 := cnts_take hy
    have e2 := cnts_take_le x.kids (k + 1)
    obtain ⟨yo, yn, yk, rfl, -⟩ := i2.inv
    refine run ?_
    refine Ob2.alloc rfl fun qc X1 hqc ac gc => ?_
    refine run ?_
    refine Ob.store rfl rfl rfl ac rfl (by first | exact Nat.le_of_ble_eq_true rfl | simp) fun X2 s1 s2 s3 => ?_
    replace gc := gc.but_new s2 (Nat.le_of_eq hqc.symm)
    have bc := hblk_of s1
    refine run ?_
    refine (ih y (List.mem_of_getElem? hy) (by omega) (i2.grow (g1.trans (gX.trans gc)))).mono ?_
    rintro _ X' ⟨rfl, e⟩
    subst X'
    refine run ?_
    refine ⟨k + 1, ⟨congrArg (fun z => some (Value.int .i64 z)) (by rw [wrap_i64 (by omega) (by omega)]; omega), rfl, rfl, congrArg (fun z => some (Value.int .i64 z)) (w_succ (by omega)), trivial⟩, ⟨hjl, gX.trans gc⟩, by show _ - (k + 1) < _ - k; omega⟩
  · have d3 : decide ((k : Int) < (x.kids.length : Int)) = false := decide_eq_false (by omega)
    refine run ?_
    rw [List.take_of_length_le (by omega)]
    exact ⟨rfl, g1.trans gX⟩
theorem height_ax (x : Tr) : x.high ≤ 40 → ∀ {H : Heap} {l : List Value}, NodeR H l x →
    AX Try.prog 13 #[.agg l.toArray] H (fun v H' => v = .int .i64 (x.high : Int) ∧ H' = H) := by
  induction x using Tr.ind with
  | h x ih =>
  intro hc H l R
  obtain ⟨ow, sn, sk, rfl, rn, rk⟩ := R.inv
  refine AX.quiet ?_
  suffices hh : AX Try.prog 13 #[.agg (nodeV x sn sk).toArray] H (fun v H' => v = .int .i64 (x.high : Int) ∧ Grow H H') from hh.mono fun v _ ⟨e, g⟩ => ⟨e ▸ plain_int _ _, e, g⟩
  refine AX.body (n := 20) (rs := [.tmp 2]) Try.func13 rfl (by decide) rfl rfl (bC_sound _ _ _ _ ?_)
  (conv => whnf)
  refine Ob2.box rfl fun q H1 hq a1 g1 => ?_
  have b1 := hblk_of a1
  have hkl := ow.2.2.2
  simp only [maxLen] at hkl
  have l2 : alen Try.prog 23 sk H1 = some (.int .i64 x.kids.length) := rk.len rfl _
  rw [Tr.high_eq] at hc ⊢
  refine run ?_
  refine SW.loop (α := Nat) (fun k => [(3, .int .i64 ((highs (x.kids.take k) : Nat) : Int)), (7, sk), (8, .int .i64 x.kids.length), (9, .int .i64 (k : Int))]) (fun k H' => k ≤ x.kids.length ∧ Grow H1 H') (fun k => x.kids.length - k) ⟨0, ⟨rfl, rfl, rfl, rfl, trivial⟩, by omega, .refl _⟩ ?_
  rintro k X ⟨hj, gX⟩
  refine bC_sound _ _ _ _ ?_
  by_cases hjl : k < x.kids.length
  · have d3 : decide ((k : Int) < (x.kids.length : Int)) = true := decide_eq_true (by omega)
    obtain ⟨y, hy⟩ := get_lt hjl
    obtain ⟨p, yl, i1, i2, i3⟩ := ld_node rk hy
    have i4 := i3 X (g1.trans gX)
    have e1 := highs_take hy
    have e2 := highs_take_le x.kids (k + 1)
    obtain ⟨yo, yn, yk, rfl, -⟩ := i2.inv
    refine run ?_
    refine Ob2.alloc rfl fun qc X1 hqc ac gc => ?_
    refine run ?_
    refine Ob.store rfl rfl rfl ac rfl (by first | exact Nat.le_of_ble_eq_true rfl | simp) fun X2 s1 s2 s3 => ?_
    replace gc := gc.but_new s2 (Nat.le_of_eq hqc.symm)
    have bc := hblk_of s1
    refine run ?_
    refine (ih y (List.mem_of_getElem? hy) (by omega) (i2.grow (g1.trans (gX.trans gc)))).mono ?_
    rintro _ X' ⟨rfl, e⟩
    subst X'
    refine run ?_
    exact ⟨k + 1, ⟨congrArg (fun z => some (Value.int .i64 z)) (by rw [e1]; split <;> omega), rfl, rfl, congrArg (fun z => some (Value.int .i64 z)) (w_succ (by omega)), trivial⟩, ⟨hjl, gX.trans gc⟩, by show _ - (k + 1) < _ - k; omega⟩
  · have d3 : decide ((k : Int) < (x.kids.length : Int)) = false := decide_eq_false (by omega)
    rw [List.take_of_length_le (by omega)]
    have w1 : IntKind.i64.wrap ((highs x.kids : Int) + 1) = ((highs x.kids + 1 : Nat) : Int) := by rw [wrap_i64 (by omega) (by omega)]; omega
    refine run ?_
    rw [w1]
    exact ⟨rfl, g1.trans gX⟩
end Go.Proofs.Ytmglmjbjgfbdjaa
/- works() of chapter 6. -/
set_option linter.unusedVariables false
set_option linter.unusedSimpArgs false
set_option maxRecDepth 20000
set_option maxHeartbeats 8000000
namespace Go.Proofs.Ytmglmjbjgfbdjaa
open Go Ax
def wA : Tr := .mk 5 0 0 ⟨#[97]⟩ [] [] 0
def wG : Tr := .mk 13 0 0 ⟨#[102]⟩ [] [wA] 0
def wC : Tr := .mk 15 0 0 ⟨#[]⟩ [] [wG, wA] 0
def wE : Tr := .mk 32 0 0 ⟨#[]⟩ [] [wC] 0
def wB : Tr := .mk 29 0 0 ⟨#[]⟩ [] [wE] 0
theorem own_w (k : Int) (s : ByteArray) (ks : List Tr) (hs : s.size ≤ 10) (hk : ks.length ≤ 10) : Own7 (.mk k 0 0 s [] ks 0) :=
  ⟨by show s.size ≤ maxLen; unfold maxLen; omega, by show 0 ≤ maxLen; omega, fun s h => by simp [Tr.names] at h, by show ks.length ≤ maxLen; unfold maxLen; omega⟩
theorem nd_nil (k : Int) (s : ByteArray) (hs : s.size ≤ 10) (H : Heap) : NodeR H [.int .i64 k, .int .i64 0, .int .i64 0, .string s, .slice none 0 0, .slice none 0 0, .int .i64 0] (.mk k 0 0 s [] [] 0) :=
  NodeR.mk (x := .mk k 0 0 s [] [] 0) (sn := .slice none 0 0) (sk := .slice none 0 0) (own_w k s [] hs (by simp)) (.inl ⟨rfl, rfl⟩) (.inl ⟨rfl, rfl⟩)
theorem nd_one (k : Int) (s : ByteArray) (hs : s.size ≤ 10) {H : Heap} {g : Nat} {m : Ax.Mode} {l : List Value} {y : Tr} (h : H[g]? = some (.cells m l)) (hl : l.length = 7) (hy : NodeR H l y) :
    NodeR H [.int .i64 k, .int .i64 0, .int .i64 0, .string s, .slice none 0 0, .slice (some ⟨g, 0, none⟩) 1 7, .int .i64 0] (.mk k 0 0 s [] [y] 0) :=
  NodeR.mk (x := .mk k 0 0 s [] [y] 0) (sn := .slice none 0 0) (sk := .slice (some ⟨g, 0, none⟩) 1 7) (own_w k s [y] hs (by simp)) (.inl ⟨rfl, rfl⟩) (.inr ⟨g, 0, rfl, .inr ⟨m, l, h, fun i x hx => by
    match i, hx with
    | 0, hx =>
      simp only [Tr.kids, List.getElem?_cons_zero, Option.some.injEq] at hx
      subst hx
      exact ⟨l, by rw [slots_of (by omega)]; simp only [Nat.zero_add, Nat.zero_mul, List.drop_zero]; rw [List.take_of_length_le (by omega)], hy⟩
    | i + 1, hx => simp [Tr.kids] at hx⟩⟩)
theorem nd_two (k : Int) (s : ByteArray) (hs : s.size ≤ 10) {H : Heap} {g : Nat} {m : Ax.Mode} {l u : List Value} {y z : Tr} (h : H[g]? = some (.cells m (l ++ u))) (hl : l.length = 7) (hu : u.length = 7) (hy : NodeR H l y) (hz : NodeR H u z) :
    NodeR H [.int .i64 k, .int .i64 0, .int .i64 0, .string s, .slice none 0 0, .slice (some ⟨g, 0, none⟩) 2 7, .int .i64 0] (.mk k 0 0 s [] [y, z] 0) :=
  NodeR.mk (x := .mk k 0 0 s [] [y, z] 0) (sn := .slice none 0 0) (sk := .slice (some ⟨g, 0, none⟩) 2 7) (own_w k s [y, z] hs (by simp)) (.inl ⟨rfl, rfl⟩) (.inr ⟨g, 0, rfl, .inr ⟨m, l ++ u, h, fun i x hx => by
    match i, hx with
    | 0, hx =>
      simp only [Tr.kids, List.getElem?_cons_zero, Option.some.injEq] at hx
      subst hx
      exact ⟨l, by rw [slots_of (by simp; omega)]; simp only [Nat.zero_add, Nat.zero_mul, List.drop_zero]; rw [List.take_append_of_le_length (by omega), List.take_of_length_le (by omega)], hy⟩
    | 1, hx =>
      simp only [Tr.kids, List.getElem?_cons_succ, List.getElem?_cons_zero, Option.some.injEq] at hx
      subst hx
      exact ⟨u, by rw [slots_of (by simp; omega)]; simp only [Nat.zero_add, Nat.one_mul]; rw [List.drop_append, List.drop_of_length_le (by omega), hl, Nat.sub_self, List.drop_zero, List.nil_append, List.take_of_length_le (by omega)], hz⟩
    | i + 2, hx => simp [Tr.kids] at hx⟩⟩)
theorem wB_tidy : Tidy wB := by
  have a : Tidy wA := .mk (by decide) (by decide) (by decide) (by decide) (fun k hk => by simp [wA, Tr.kids] at hk)
  have g : Tidy wG := .mk (by decide) (by decide) (by decide) (by decide) (fun k hk => by simp [wG, Tr.kids] at hk; subst hk; exact a)
  have c : Tidy wC := .mk (by decide) (by decide) (by decide) (by decide) (fun k hk => by simp [wC, Tr.kids] at hk; rcases hk with rfl | rfl; exact g; exact a)
  have e : Tidy wE := .mk (by decide) (by decide) (by decide) (by decide) (fun k hk => by simp [wE, Tr.kids] at hk; subst hk; exact c)
  exact .mk (by decide) (by decide) (by decide) (by decide) (fun k hk => by simp [wB, Tr.kids] at hk; subst hk; exact e)
theorem wB_right : RightT wB 3 := by
  have na : nameS [97] = true := by decide
  have nf : nameS [102] = true := by decide
  have ka : keyS [97] = false := by decide
  have a : RightT wA 1 := by
    rw [right_iff, own1_iff]
    exact ⟨.inr (.inr (.inr (.inr (.inl ⟨rfl, ⟨fun _ => rfl, fun _ => rfl, fun h => by simp at h, fun _ => rfl⟩, ⟨na, ka⟩, rfl⟩)))), fun j y hy => by simp [wA, Tr.kids] at hy⟩
  have g : RightT wG 1 := by
    rw [right_iff, own1_iff]
    refine ⟨.inr (.inr (.inr (.inr (.inr (.inr (.inr (.inr (.inr (.inr (.inl ⟨rfl, ⟨fun _ => rfl, fun _ => rfl, fun h => by simp at h, fun _ => rfl⟩, nf, rfl⟩)))))))))), fun j y hy => ?_⟩
    match j, hy with
    | 0, hy => simp [wG, Tr.kids] at hy; subst hy; exact a
    | j + 1, hy => simp [wG, Tr.kids] at hy
  have c : RightT wC 1 := by
    rw [right_iff, own1_iff]
    refine ⟨.inr (.inr (.inr (.inr (.inr (.inr (.inr (.inr (.inr (.inr (.inr (.inl ⟨rfl, ⟨fun _ => rfl, fun _ => rfl, fun _ => rfl, fun _ => rfl⟩, by decide, by decide⟩))))))))))), fun j y hy => ?_⟩
    match j, hy with
    | 0, hy => simp [wC, Tr.kids] at hy; subst hy; exact g
    | 1, hy => simp [wC, Tr.kids] at hy; subst hy; exact a
    | j + 2, hy => simp [wC, Tr.kids] at hy
  have e : RightT wE 2 := by
    rw [right_iff, own2_iff]
    refine ⟨⟨⟨fun _ => rfl, fun _ => rfl, fun h => by simp at h, fun _ => rfl⟩, .inr (.inr (.inr ⟨rfl, .inr (.inr (.inl ⟨.inr (.inr rfl), rfl⟩))⟩))⟩, fun j y hy => ?_⟩
    match j, hy with
    | 0, hy => simp [wE, Tr.kids] at hy; subst hy; exact c
    | j + 1, hy => simp [wE, Tr.kids] at hy
  rw [right_iff, own3_iff]
  refine ⟨⟨rfl, ⟨fun _ => rfl, fun _ => rfl, fun _ => rfl, fun _ => rfl⟩, by decide⟩, fun j y hy => ?_⟩
  match j, hy with
  | 0, hy => simp [wB, Tr.kids] at hy; subst hy; exact e
  | j + 1, hy => simp [wB, Tr.kids] at hy
theorem wB_txt : wB.txt = [40, 97, 46, 102, 41, 40, 97, 41, 59] := by rfl
theorem wB_print : printP wB = (⟨#[40, 97, 46, 102, 41, 40, 97, 41, 59]⟩, 0) := by
  have hh : wB.high = 5 := by rfl
  have hc : checkP wB = 0 := by
    unfold checkP
    rw [if_neg (by rw [hh]; omega), if_pos wB_right]
  unfold printP
  rw [if_neg (by rw [hc]; simp), wB_txt, if_neg (by simp)]
  rfl
theorem works06_ax (H : Heap) : AX Try.prog 7 #[] H (fun v H' => v = .bool true ∧ H' = H) := by
  refine AX.quiet ?_
  suffices hh : AX Try.prog 7 #[] H (fun v H' => v = .bool true ∧ Grow H H') from hh.mono fun v _ ⟨e, g⟩ => ⟨e ▸ plain_bool _, e, g⟩
  refine AX.body (n := 37) (rs := [.tmp 0]) Try.func7 rfl (by decide) rfl rfl (bC_sound _ _ _ _ ?_)
  refine run ?_
  refine Ob2.alloc rfl fun q1 H1 hq1 a1 g1 => ?_
  refine run ?_
  refine Ob.store rfl rfl rfl a1 rfl (by first | exact Nat.le_of_ble_eq_true rfl | simp) fun H2 b1 b2 b3 => ?_
  replace g1 := g1.but_new b2 (Nat.le_of_eq hq1.symm)
  have b1 : H2[q1]? = some (.cells .var (nodeV wA (.slice none 0 0) (.slice none 0 0))) := b1
  have bb := hblk_of b1
  refine run ?_
  refine Ob2.lay (H := H2) (.cells (.row 25) (nodeV wA (.slice none 0 0) (.slice none 0 0))) (.slice (some ⟨H2.length, 0, none⟩) 1 7) rfl fun H3 a3 g3 l3 => ?_
  have bb3 := g3.hblk bb
  refine run ?_
  refine Ob2.lay (H := H3) (.cells (.row 25) (nodeV wG (.slice none 0 0) (.slice (some ⟨H2.length, 0, none⟩) 1 7) ++ nodeV wA (.slice none 0 0) (.slice none 0 0))) (.slice (some ⟨H3.length, 0, none⟩) 2 7) rfl fun H4 a4 g4 l4 => ?_
  refine run ?_
  refine Ob2.alloc rfl fun q2 H5 hq2 a5 g5 => ?_
  refine run ?_
  refine Ob.store rfl rfl rfl a5 rfl (by first | exact Nat.le_of_ble_eq_true rfl | simp) fun H6 c1 c2 c3 => ?_
  replace g5 := g5.but_new c2 (Nat.le_of_eq hq2.symm)
  have c1 : H6[q2]? = some (.cells .var (nodeV wC (.slice none 0 0) (.slice (some ⟨H3.length, 0, none⟩) 2 7))) := c1
  have bc := hblk_of c1
  refine run ?_
  refine Ob2.lay (H := H6) (.cells (.row 25) (nodeV wC (.slice none 0 0) (.slice (some ⟨H3.length, 0, none⟩) 2 7))) (.slice (some ⟨H6.length, 0, none⟩) 1 7) rfl fun H7 a7 g7 l7 => ?_
  refine run ?_
  refine Ob2.lay (H := H7) (.cells (.row 25) (nodeV wE (.slice none 0 0) (.slice (some ⟨H6.length, 0, none⟩) 1 7))) (.slice (some ⟨H7.length, 0, none⟩) 1 7) rfl fun H8 a8 g8 l8 => ?_
  have bd := g8.hblk (g7.hblk bc)
  have RA : NodeR H8 (nodeV wA (.slice none 0 0) (.slice none 0 0)) wA := nd_nil 5 _ (by decide) H8
  have RG : NodeR H8 (nodeV wG (.slice none 0 0) (.slice (some ⟨H2.length, 0, none⟩) 1 7)) wG := nd_one 13 _ (by decide) (g8.at (g7.at (g5.at (g4.at a3)))) rfl RA
  have RC : NodeR H8 (nodeV wC (.slice none 0 0) (.slice (some ⟨H3.length, 0, none⟩) 2 7)) wC := nd_two 15 _ (by decide) (g8.at (g7.at (g5.at a4))) rfl rfl RG RA
  have RE : NodeR H8 (nodeV wE (.slice none 0 0) (.slice (some ⟨H6.length, 0, none⟩) 1 7)) wE := nd_one 32 _ (by decide) (g8.at a7) rfl RC
  have RB : NodeR H8 (nodeV wB (.slice none 0 0) (.slice (some ⟨H7.length, 0, none⟩) 1 7)) wB := nd_one 29 _ (by decide) a8 rfl RE
  have hp := print_ax RB wB_tidy (by decide)
  rw [wB_print] at hp
  have hg := height_ax wC (by decide) RC
  have hn := count_ax wC (by decide) RC
  refine run ?_
  refine hp.mono ?_
  rintro _ X ⟨rfl, e⟩
  subst X
  refine run ?_
  refine hg.mono ?_
  rintro _ X ⟨rfl, e⟩
  subst X
  refine run ?_
  refine hn.mono ?_
  rintro _ X ⟨rfl, e⟩
  subst X
  refine run ?_
  exact ⟨rfl, g1.trans (g3.trans (g4.trans (g5.trans (g7.trans g8))))⟩
end Go.Proofs.Ytmglmjbjgfbdjaa
/- Trees that are parameters. -/
set_option linter.unusedVariables false
set_option linter.unusedSimpArgs false
set_option maxRecDepth 20000
set_option maxHeartbeats 8000000
namespace Go.Proofs.Ytmglmjbjgfbdjaa
open Go Ax
mutual
def trOf : Nd25 → Tr
  | .mk k o n s ns ks p => .mk k o n s ns (trsOf ks) p
def trsOf : List Nd25 → List Tr
  | [] => []
  | k :: ks => trOf k :: trsOf ks
end
theorem trsOf_map : ∀ ks, trsOf ks = ks.map trOf
  | [] => rfl
  | k :: ks => by rw [trsOf, trsOf_map ks]; rfl
theorem node_of : ∀ m {H : Heap} {c : List Value} {x : Nd25}, (ty25 m).R H c x → (ty25 m).ok x → ND m H c (trOf x)
  | 0, _, _, _, h, _ => h.elim
  | m + 1, H, c, .mk k o n s ns ks p, h, ho => by
    obtain ⟨h1, h2, h3, h4, h5, h6, h7⟩ := h
    obtain ⟨o1, o2, o3, o4, o5, o6, o7⟩ := ho
    obtain ⟨sn, e5, r5⟩ := RL.ofTy (f := strR) (fun l x h => h) h5
    obtain ⟨sk, e6, r6⟩ := RL.ofTy (f := (ty25 m).R) (fun l x h => h) h6
    refine ⟨⟨o4, o5.1, o5.2, ?_⟩, sn, sk, cons_of h1 (cons_of h2 (cons_of h3 (cons_of h4 (cons_of e5 (cons_of e6 h7))))), r5, ?_⟩
    · show (trsOf ks).length ≤ maxLen
      rw [trsOf_map, List.length_map]
      exact o6.1
    · show RLo 7 (ND m) H sk (trsOf ks)
      rw [trsOf_map]
      exact (RLo.of r6).map _ fun l x hx h => node_of m h (o6.2 x hx)
end Go.Proofs.Ytmglmjbjgfbdjaa
/- Are two trees alike? -/
set_option linter.unusedVariables false
set_option linter.unusedSimpArgs false
set_option maxRecDepth 20000
set_option maxHeartbeats 8000000
namespace Go.Proofs.Ytmglmjbjgfbdjaa
open Go Ax
mutual
/-- A tree without its places. -/
def Tr.flat : Tr → Tr
  | .mk k o n s ns ks _ => .mk k o n s ns (flats ks) 0
def flats : List Tr → List Tr
  | [] => []
  | k :: ks => k.flat :: flats ks
end
theorem flats_map : ∀ ks, flats ks = ks.map Tr.flat
  | [] => rfl
  | k :: ks => by rw [flats, flats_map ks]; rfl
theorem flat_eq {a b : Tr} : a.flat = b.flat ↔ a.kind = b.kind ∧ a.op = b.op ∧ a.num = b.num ∧ a.str = b.str ∧ a.names = b.names ∧ a.kids.map Tr.flat = b.kids.map Tr.flat := by
  cases a; cases b
  rw [Tr.flat, Tr.flat, flats_map, flats_map]
  simp [Tr.kind, Tr.op, Tr.num, Tr.str, Tr.names, Tr.kids]
theorem take_nextM {α β : Type} {f : α → β} {L M : List α} {m : Nat} {x y : α} (h : (L.map f).take m = (M.map f).take m) (hx : L[m]? = some x) (hy : M[m]? = some y) (e : f x = f y) : (L.map f).take (m + 1) = (M.map f).take (m + 1) :=
  take_next (x := f x) h (by rw [List.getElem?_map, hx]; rfl) (by rw [List.getElem?_map, hy, e]; rfl)
noncomputable instance (a b : Tr) : Decidable (a.flat = b.flat) := Classical.propDecidable _
theorem eqsT_ax {H : Heap} {u v : Value} {L M : List ByteArray} (hu : RL 1 strR H u L) (hv : RL 1 strR H v M) (hL : L.length ≤ maxLen) :
    AX Try.prog 23 #[u, v] H (fun r H' => (∃ b, r = .bool b ∧ (b = true ↔ L = M)) ∧ H' = H) := by
  simp only [maxLen] at hL
  refine AX.body (n := 26) (rs := [.tmp 4]) Try.func23 rfl (by decide) rfl rfl (bC_sound _ _ _ _ ?_)
  have l1 : alen Try.prog 22 u H = some (.int .i64 L.length) := hu.len rfl _
  have l2 : alen Try.prog 22 v H = some (.int .i64 M.length) := hv.len rfl _
  (try (conv => whnf)); (repeat' ((fail_if_success (with_reducible refine And.intro ?_ ?_)); (fail_if_success (with_reducible refine Exists.intro ?_ ?_)); (first | (refine step0 ?_) | (apply bIf.of <;> intro hc <;> (conv => whnf)))))
  · refine ⟨⟨false, rfl, by simp, fun h => ?_⟩, rfl⟩
    subst h
    simp at hc
  have hlen : L.length = M.length := by (simp only [ba_ne_t, ba_ne_f, ba_eq_t, ba_eq_f, bne_iff_ne, bne_eq_false_iff_eq, decide_eq_true_eq, decide_eq_false_iff_not, beq_iff_eq, beq_eq_false_iff_ne, ne_eq, Bool.not_eq_true, Bool.not_eq_false, Bool.not_eq_true', Bool.not_eq_false'] at *); omega
  refine SW.loop (α := Nat) (fun m => [(0, u), (1, v), (12, .int .i64 L.length), (13, .int .i64 (m : Int))]) (fun m H' => m ≤ L.length ∧ L.take m = M.take m ∧ H' = H) (fun m => L.length - m) ⟨0, ⟨rfl, rfl, rfl, rfl, trivial⟩, by omega, rfl, rfl⟩ ?_
  rintro m X ⟨hm, ht, e⟩
  subst X
  refine bC_sound _ _ _ _ ?_
  by_cases hml : m < L.length
  · have d1 : decide ((m : Int) < (L.length : Int)) = true := decide_eq_true (by omega)
    obtain ⟨x, hx⟩ := get_lt hml
    obtain ⟨y, hy⟩ := get_lt (L := M) (m := m) (by omega)
    obtain ⟨p, i1, i2⟩ := ld_strT hu hx
    obtain ⟨q, j1, j2⟩ := ld_strT hv hy
    have i3 := i2 H (.refl _)
    have j3 := j2 H (.refl _)
    refine run ?_
    apply SW.drawG [(0, [], [17, 20, 21, 22, 23], false), (1, [], [16, 20, 21, 22, 23], false), (2, [(16, 0), (17, 1)], [16, 17, 20, 21, 22, 23], false), (3, [(16, 0), (17, 1), (18, 2)], [16, 17, 18, 20, 21, 22, 23], false), (4, [], [16, 17, 18, 19, 21], false), (5, [], [16, 17, 18, 19, 20], false), (6, [(20, 4), (21, 5)], [16, 17, 18, 19, 20, 21], false), (7, [(20, 4), (21, 5), (22, 6)], [16, 17, 18, 19, 20, 21, 22], false), (8, [(16, 0), (17, 1), (18, 2), (19, 3), (20, 4), (21, 5), (22, 6), (23, 7)], [16, 17, 18, 19, 20, 21, 22, 23], false)]
      [(16, 0), (17, 1), (18, 2), (19, 3), (20, 4), (21, 5), (22, 6), (23, 7), (24, 8)]
      [(0, _), (1, _), (5, _), (12, _), (13, _)] rfl (by kernel_rfl)
    case hF => exact ⟨rfl, rfl, rfl, rfl, rfl, trivial⟩
    (try (conv => whnf)); (repeat' ((fail_if_success (with_reducible refine And.intro ?_ ?_)); (fail_if_success (with_reducible refine Exists.intro ?_ ?_)); (first | (refine step0 ?_) | (apply bIf.of <;> intro hc <;> (conv => whnf)))))
    · refine ⟨⟨false, rfl, by simp, fun h => ?_⟩, rfl⟩
      subst h
      rw [hx] at hy
      simp only [Option.some.injEq] at hy
      (simp only [ba_ne_t, ba_ne_f, ba_eq_t, ba_eq_f, bne_iff_ne, bne_eq_false_iff_eq, decide_eq_true_eq, decide_eq_false_iff_not, beq_iff_eq, beq_eq_false_iff_ne, ne_eq, Bool.not_eq_true, Bool.not_eq_false, Bool.not_eq_true', Bool.not_eq_false'] at *); contradiction
    · have hxy : x = y := ba_ne_f.1 hc
      subst hxy
      exact ⟨m + 1, ⟨rfl, rfl, rfl, congrArg (fun z => some (Value.int .i64 z)) (w_succ (by omega)), trivial⟩, ⟨hml, take_next ht hx hy, rfl⟩, by show L.length - (m + 1) < L.length - m; omega⟩
  · have d1 : decide ((m : Int) < (L.length : Int)) = false := decide_eq_false (by omega)
    have hLM : L = M := by rwa [List.take_of_length_le (by omega), List.take_of_length_le (by omega)] at ht
    refine run ?_
    exact ⟨⟨true, rfl, by simp [hLM]⟩, rfl⟩
theorem eqfT_ax {H : Heap} {u v : Value} {L M : List Tr} (hu : RLo 7 NodeR H u L) (hv : RLo 7 NodeR H v M) (hL : L.length ≤ maxLen)
    (hS : ∀ a ∈ L, ∀ b H' l m, NodeR H' l a → NodeR H' m b → AX Try.prog 10 #[.agg l.toArray, .agg m.toArray] H' (fun r H'' => (∃ t, r = .bool t ∧ (t = true ↔ a.flat = b.flat)) ∧ H'' = H')) :
    AX Try.prog 24 #[u, v, .func (.func 10) #[] #[]] H (fun r H' => (∃ b, r = .bool b ∧ (b = true ↔ L.map Tr.flat = M.map Tr.flat)) ∧ H' = H) := by
  simp only [maxLen] at hL
  refine AX.quiet ?_
  suffices hh : AX Try.prog 24 #[u, v, .func (.func 10) #[] #[]] H (fun r H' => (∃ b, r = .bool b ∧ (b = true ↔ L.map Tr.flat = M.map Tr.flat)) ∧ Grow H H') from hh.mono fun v _ ⟨⟨b, e, k⟩, g⟩ => ⟨e ▸ plain_bool _, ⟨b, e, k⟩, g⟩
  refine AX.body (n := 32) (rs := [.tmp 6]) Try.func24 rfl (by decide) rfl rfl (bC_sound _ _ _ _ ?_)
  have l1 : alen Try.prog 23 u H = some (.int .i64 L.length) := hu.len rfl _
  have l2 : alen Try.prog 23 v H = some (.int .i64 M.length) := hv.len rfl _
  (try (conv => whnf)); (repeat' ((fail_if_success (with_reducible refine And.intro ?_ ?_)); (fail_if_success (with_reducible refine Exists.intro ?_ ?_)); (first | (refine step0 ?_) | (apply bIf.of <;> intro hc <;> (conv => whnf)))))
  · refine ⟨⟨false, rfl, by simp, fun h => ?_⟩, .refl _⟩
    have := congrArg List.length h
    simp only [List.length_map] at this
    rw [this] at hc
    simp at hc
  have hlen : L.length = M.length := by (simp only [ba_ne_t, ba_ne_f, ba_eq_t, ba_eq_f, bne_iff_ne, bne_eq_false_iff_eq, decide_eq_true_eq, decide_eq_false_iff_not, beq_iff_eq, beq_eq_false_iff_ne, ne_eq, Bool.not_eq_true, Bool.not_eq_false, Bool.not_eq_true', Bool.not_eq_false'] at *); omega
  clear hc
  refine SW.loop (α := Nat) (fun m => [(0, u), (1, v), (2, .func (.func 10) #[] #[]), (15, u), (16, .int .i64 L.length), (17, .int .i64 (m : Int))]) (fun m H' => m ≤ L.length ∧ (L.map Tr.flat).take m = (M.map Tr.flat).take m ∧ Grow H H') (fun m => L.length - m) ⟨0, ⟨rfl, rfl, rfl, rfl, rfl, rfl, trivial⟩, by omega, rfl, .refl _⟩ ?_
  rintro m X ⟨hm, ht, g⟩
  refine bC_sound _ _ _ _ ?_
  by_cases hml : m < L.length
  · have d1 : decide ((m : Int) < (L.length : Int)) = true := decide_eq_true (by omega)
    obtain ⟨x, hx⟩ := get_lt hml
    obtain ⟨y, hy⟩ := get_lt (L := M) (m := m) (by omega)
    obtain ⟨p, xl, i1, i4, i2⟩ := ld_node hu hx
    obtain ⟨q, yl, j1, j4, j2⟩ := ld_node hv hy
    obtain ⟨-, xn, xk, rfl, -, -⟩ := i4.inv
    obtain ⟨-, yn, yk, rfl, -, -⟩ := j4.inv
    have i3 := i2 X g
    refine run ?_
    refine Ob2.alloc rfl fun q1 H1 hq1 a1 k1 => ?_
    refine run ?_
    refine Ob.store rfl rfl rfl a1 rfl (by first | exact Nat.le_of_ble_eq_true rfl | simp) fun H2 b1 b2 b3 => ?_
    have g2 : Grow X H2 := k1.but_new b2 (by omega)
    have j3 := j2 H2 (g.trans g2)
    refine run ?_
    refine Ob2.alloc rfl fun q3 H3 hq3 a3 k3 => ?_
    refine run ?_
    refine Ob.store rfl rfl rfl a3 rfl (by first | exact Nat.le_of_ble_eq_true rfl | simp) fun H4 b4 b5 b6 => ?_
    have g4 : Grow H2 H4 := k3.but_new b5 (by omega)
    have g5 : Grow H H4 := (g.trans g2).trans g4
    have e1 := hblk_of (g4.at b1)
    have e2 := hblk_of b4
    refine run ?_
    refine (hS x (List.mem_of_getElem? hx) y _ _ _ (i4.grow g5) (j4.grow g5)).mono ?_
    rintro _ X' ⟨⟨t, rfl, ht2⟩, e⟩
    subst X'
    cases t with
    | false =>
      refine run ?_
      refine ⟨⟨false, rfl, by simp, fun h => ?_⟩, g5⟩
      have h3 := congrArg (·[m]?) h
      simp only [List.getElem?_map, hx, hy, Option.map_some, Option.some.injEq] at h3
      exact absurd (ht2.2 h3) (by simp)
    | true =>
      refine run ?_
      exact ⟨m + 1, ⟨rfl, rfl, rfl, rfl, rfl, congrArg (fun z => some (Value.int .i64 z)) (w_succ (by omega)), trivial⟩, ⟨hml, take_nextM ht hx hy (ht2.1 rfl), g5⟩, by show L.length - (m + 1) < L.length - m; omega⟩
  · have d1 : decide ((m : Int) < (L.length : Int)) = false := decide_eq_false (by omega)
    have hLM : L.map Tr.flat = M.map Tr.flat := by rwa [List.take_of_length_le (by rw [List.length_map]; omega), List.take_of_length_le (by rw [List.length_map]; omega)] at ht
    refine run ?_
    exact ⟨⟨true, rfl, by simp [hLM]⟩, g⟩
theorem treeSame_ax (a : Tr) : ∀ (b : Tr) (H : Heap) (l m : List Value), NodeR H l a → NodeR H m b →
    AX Try.prog 10 #[.agg l.toArray, .agg m.toArray] H (fun r H' => (∃ t, r = .bool t ∧ (t = true ↔ a.flat = b.flat)) ∧ H' = H) := by
  induction a using Tr.ind with
  | h a ih =>
  intro b H l m ra rb
  obtain ⟨oa, an, ak, rfl, ran, rak⟩ := ra.inv
  obtain ⟨ob, bn, bk, rfl, rbn, rbk⟩ := rb.inv
  refine AX.quiet ?_
  suffices hh : AX Try.prog 10 #[.agg (nodeV a an ak).toArray, .agg (nodeV b bn bk).toArray] H (fun r H' => (∃ t, r = .bool t ∧ (t = true ↔ a.flat = b.flat)) ∧ Grow H H') from hh.mono fun v _ ⟨⟨b, e, k⟩, g⟩ => ⟨e ▸ plain_bool _, ⟨b, e, k⟩, g⟩
  refine AX.body (n := 45) (rs := [.tmp 4]) Try.func10 rfl (by decide) rfl rfl (bC_sound _ _ _ _ ?_)
  (conv => whnf)
  refine Ob2.box rfl fun p H1 hp a1 g1 => ?_
  refine run ?_
  refine Ob2.box rfl fun q H2 hq a2 g2 => ?_
  have b1 := hblk_of (g2.at a1)
  have b2 := hblk_of a2
  have g3 := g1.trans g2
  (try (conv => whnf)); (repeat' ((fail_if_success (with_reducible refine And.intro ?_ ?_)); (fail_if_success (with_reducible refine Exists.intro ?_ ?_)); (first | ((with_reducible refine AX.id ?_); (first | (refine (eqsT_ax (strR.grow ran g3) (strR.grow rbn g3) oa.2.1).mono ?_; (rintro _ X ⟨⟨bb, rfl, hb⟩, eX⟩; subst X; cases bb <;> (conv => whnf))) | (refine (eqfT_ax (NodeR.grows rak g3) (NodeR.grows rbk g3) oa.2.2.2 ih).mono ?_; (rintro _ X ⟨⟨bb, rfl, hb⟩, eX⟩; subst X; cases bb <;> (conv => whnf))))) | (refine step0 ?_) | (apply bIf.of <;> intro hc <;> (conv => whnf)))))
  all_goals refine ⟨⟨_, rfl, ?_⟩, g3⟩
  all_goals clear b1 a1 b2 a2
  all_goals rw [flat_eq]
  all_goals (simp only [ba_ne_t, ba_ne_f, ba_eq_t, ba_eq_f, bne_iff_ne, bne_eq_false_iff_eq, decide_eq_true_eq, decide_eq_false_iff_not, beq_iff_eq, beq_eq_false_iff_ne, ne_eq, Bool.not_eq_true, Bool.not_eq_false, Bool.not_eq_true', Bool.not_eq_false'] at *)
  all_goals grind
end Go.Proofs.Ytmglmjbjgfbdjaa
/- The document's Same. -/
set_option linter.unusedVariables false
set_option linter.unusedSimpArgs false
set_option maxRecDepth 20000
set_option maxHeartbeats 8000000
namespace Go.Proofs.Ytmglmjbjgfbdjaa
open Go Ax
theorem refSame_ax (a : Tr) : ∀ (b : Tr) (H : Heap) (l m : List Value), NodeR H l a → NodeR H m b →
    AX Try.prog 11 #[.agg l.toArray, .agg m.toArray] H (fun r H' => (∃ t, r = .bool t ∧ (t = true ↔ a.flat = b.flat)) ∧ H' = H) := by
  induction a using Tr.ind with
  | h a ih =>
  intro b H l m ra rb
  obtain ⟨oa, an, ak, rfl, ran, rak⟩ := ra.inv
  obtain ⟨ob, bn, bk, rfl, rbn, rbk⟩ := rb.inv
  refine AX.quiet ?_
  suffices hh : AX Try.prog 11 #[.agg (nodeV a an ak).toArray, .agg (nodeV b bn bk).toArray] H (fun r H' => (∃ t, r = .bool t ∧ (t = true ↔ a.flat = b.flat)) ∧ Grow H H') from hh.mono fun v _ ⟨⟨b, e, k⟩, g⟩ => ⟨e ▸ plain_bool _, ⟨b, e, k⟩, g⟩
  refine AX.body (n := 88) (rs := [.tmp 4]) Try.func11 rfl (by decide) rfl rfl (bC_sound _ _ _ _ ?_)
  (conv => whnf)
  refine Ob2.box rfl fun p H1 hp a1 g1 => ?_
  refine run ?_
  refine Ob2.box rfl fun q H2 hq a2 g2 => ?_
  have b1 := hblk_of (g2.at a1)
  have b2 := hblk_of a2
  have g3 := g1.trans g2
  have l1 : alen Try.prog 22 an H2 = some (.int .i64 a.names.length) := ran.len rfl _
  have l2 : alen Try.prog 22 bn H2 = some (.int .i64 b.names.length) := rbn.len rfl _
  have l3 : alen Try.prog 23 ak H2 = some (.int .i64 a.kids.length) := rak.len rfl _
  have l4 : alen Try.prog 23 bk H2 = some (.int .i64 b.kids.length) := rbk.len rfl _
  have hn := oa.2.1
  have hk := oa.2.2.2
  simp only [maxLen] at hn hk
  (try (conv => whnf)); (repeat' ((fail_if_success (with_reducible refine And.intro ?_ ?_)); (fail_if_success (with_reducible refine Exists.intro ?_ ?_)); (first | (refine step0 ?_) | (apply bIf.of <;> intro hc <;> (conv => whnf)))))
  any_goals
    refine ⟨⟨false, rfl, by simp, fun h => ?_⟩, g3⟩
    exfalso
    have h5 := congrArg List.length (flat_eq.1 h).2.2.2.2.2
    simp only [List.length_map] at h5
    rw [flat_eq] at h
    clear b1 a1 b2 a2 l1 l2 l3 l4
    (simp only [ba_ne_t, ba_ne_f, ba_eq_t, ba_eq_f, bne_iff_ne, bne_eq_false_iff_eq, decide_eq_true_eq, decide_eq_false_iff_not, beq_iff_eq, beq_eq_false_iff_ne, ne_eq, Bool.not_eq_true, Bool.not_eq_false, Bool.not_eq_true', Bool.not_eq_false'] at *)
    grind
  have hd : a.kind = b.kind ∧ a.op = b.op ∧ a.num = b.num ∧ a.str = b.str ∧ a.names.length = b.names.length ∧ a.kids.length = b.kids.length := by
    clear b1 a1 b2 a2 l1 l2 l3 l4
    (simp only [ba_ne_t, ba_ne_f, ba_eq_t, ba_eq_f, bne_iff_ne, bne_eq_false_iff_eq, decide_eq_true_eq, decide_eq_false_iff_not, beq_iff_eq, beq_eq_false_iff_ne, ne_eq, Bool.not_eq_true, Bool.not_eq_false, Bool.not_eq_true', Bool.not_eq_false'] at *)
    grind
  obtain ⟨e1, e2, e3, e4, e5, e6⟩ := hd
  refine SW.loop (α := Nat) (fun k => [(2, .pointer (some ⟨p, 0, none⟩)), (3, .pointer (some ⟨q, 0, none⟩)), (5, .int .i64 (k : Int))]) (fun k H' => k ≤ a.names.length ∧ a.names.take k = b.names.take k ∧ H' = H2) (fun k => a.names.length - k) ⟨0, ⟨rfl, rfl, rfl, trivial⟩, by omega, rfl, rfl⟩ ?_
  rintro k X ⟨hm, ht, e⟩
  subst X
  refine bC_sound _ _ _ _ ?_
  by_cases hml : k < a.names.length
  · have d1 : decide ((k : Int) < (a.names.length : Int)) = true := decide_eq_true (by omega)
    obtain ⟨x, hx⟩ := get_lt hml
    obtain ⟨y, hy⟩ := get_lt (L := b.names) (m := k) (by omega)
    obtain ⟨p1, i1, i2⟩ := ld_strT ran hx
    obtain ⟨p2, j1, j2⟩ := ld_strT rbn hy
    have i3 := i2 H2 g3
    have j3 := j2 H2 g3
    refine run ?_
    apply SW.drawG [(0, [], [60, 63, 64, 65, 66, 67], false), (1, [(58, 0)], [58, 60, 63, 64, 65, 66, 67], false), (2, [], [58, 59, 63, 64, 65, 66, 67], false), (3, [(58, 0), (59, 1), (60, 2)], [58, 59, 60, 63, 64, 65, 66, 67], false), (4, [(58, 0), (59, 1), (60, 2), (61, 3)], [58, 59, 60, 61, 63, 64, 65, 66, 67], false), (5, [], [58, 59, 60, 61, 62, 65], false), (6, [(63, 5)], [58, 59, 60, 61, 62, 63, 65], false), (7, [], [58, 59, 60, 61, 62, 63, 64], false), (8, [(63, 5), (64, 6), (65, 7)], [58, 59, 60, 61, 62, 63, 64, 65], false), (9, [(63, 5), (64, 6), (65, 7), (66, 8)], [58, 59, 60, 61, 62, 63, 64, 65, 66], false), (10, [(58, 0), (59, 1), (60, 2), (61, 3), (62, 4), (63, 5), (64, 6), (65, 7), (66, 8), (67, 9)], [58, 59, 60, 61, 62, 63, 64, 65, 66, 67], false)]
      [(58, 0), (59, 1), (60, 2), (61, 3), (62, 4), (63, 5), (64, 6), (65, 7), (66, 8), (67, 9), (68, 10)]
      [(2, _), (3, _), (5, _)] rfl (by kernel_rfl)
    case hF => exact ⟨rfl, rfl, rfl, trivial⟩
    by_cases hxy : x = y
    · have d2 : (x != y) = false := ba_ne_f.2 hxy
      refine run ?_
      subst hxy
      exact ⟨k + 1, ⟨rfl, rfl, congrArg (fun z => some (Value.int .i64 z)) (w_succ (by omega)), trivial⟩, ⟨hml, take_next ht hx hy, rfl⟩, by show a.names.length - (k + 1) < a.names.length - k; omega⟩
    · have d2 : (x != y) = true := ba_ne_t.2 hxy
      refine run ?_
      refine ⟨⟨false, rfl, by simp, fun h => ?_⟩, g3⟩
      have := (flat_eq.1 h).2.2.2.2.1
      rw [this] at hx
      rw [hx] at hy
      exact absurd (Option.some.inj hy) hxy
  · have d1 : decide ((k : Int) < (a.names.length : Int)) = false := decide_eq_false (by omega)
    have hns : a.names = b.names := by rwa [List.take_of_length_le (by omega), List.take_of_length_le (by omega)] at ht
    refine run ?_
    refine SW.loop (α := Nat) (fun k => [(2, .pointer (some ⟨p, 0, none⟩)), (3, .pointer (some ⟨q, 0, none⟩)), (6, .int .i64 (k : Int))]) (fun k H' => k ≤ a.kids.length ∧ (a.kids.map Tr.flat).take k = (b.kids.map Tr.flat).take k ∧ H' = H2) (fun k => a.kids.length - k) ⟨0, ⟨rfl, rfl, rfl, trivial⟩, by omega, rfl, rfl⟩ ?_
    clear ht hm hml d1
    rintro k X ⟨hm, ht, e⟩
    subst X
    refine bC_sound _ _ _ _ ?_
    by_cases hml : k < a.kids.length
    · have d1 : decide ((k : Int) < (a.kids.length : Int)) = true := decide_eq_true (by omega)
      obtain ⟨x, hx⟩ := get_lt hml
      obtain ⟨y, hy⟩ := get_lt (L := b.kids) (m := k) (by omega)
      obtain ⟨p1, xl, i1, i4, i2⟩ := ld_node rak hx
      obtain ⟨p2, yl, j1, j4, j2⟩ := ld_node rbk hy
      have i3 := i2 H2 g3
      have j3 := j2 H2 g3
      refine run ?_
      apply SW.drawG [(0, [], [78, 81, 82, 83, 84, 85], false), (1, [(76, 0)], [76, 78, 81, 82, 83, 84, 85], false), (2, [], [76, 77, 81, 82, 83, 84, 85], false), (3, [(76, 0), (77, 1), (78, 2)], [76, 77, 78, 81, 82, 83, 84, 85], false), (4, [(76, 0), (77, 1), (78, 2), (79, 3)], [76, 77, 78, 79, 81, 82, 83, 84, 85], false), (5, [], [76, 77, 78, 79, 80, 83], false), (6, [(81, 5)], [76, 77, 78, 79, 80, 81, 83], false), (7, [], [76, 77, 78, 79, 80, 81, 82], false), (8, [(81, 5), (82, 6), (83, 7)], [76, 77, 78, 79, 80, 81, 82, 83], false), (9, [(81, 5), (82, 6), (83, 7), (84, 8)], [76, 77, 78, 79, 80, 81, 82, 83, 84], false), (10, [(76, 0), (77, 1), (78, 2), (79, 3), (80, 4), (81, 5), (82, 6), (83, 7), (84, 8), (85, 9)], [76, 77, 78, 79, 80, 81, 82, 83, 84, 85], true), (11, [(76, 0), (77, 1), (78, 2), (79, 3), (80, 4), (81, 5), (82, 6), (83, 7), (84, 8), (85, 9), (86, 10)], [76, 77, 78, 79, 80, 81, 82, 83, 84, 85, 86], false)]
        [(76, 0), (77, 1), (78, 2), (79, 3), (80, 4), (81, 5), (82, 6), (83, 7), (84, 8), (85, 9), (86, 10), (87, 11)]
        [(2, _), (3, _), (6, _)] rfl (by kernel_rfl)
      case hF => exact ⟨rfl, rfl, rfl, trivial⟩
      refine run ?_
      refine (ih x (List.mem_of_getElem? hx) y _ _ _ (i4.grow g3) (j4.grow g3)).mono ?_
      rintro _ X' ⟨⟨t, rfl, ht2⟩, e⟩
      subst X'
      cases t with
      | false =>
        refine run ?_
        refine ⟨⟨false, rfl, by simp, fun h => ?_⟩, g3⟩
        have h3 := congrArg (·[k]?) (flat_eq.1 h).2.2.2.2.2
        simp only [List.getElem?_map, hx, hy, Option.map_some, Option.some.injEq] at h3
        exact absurd (ht2.2 h3) (by simp)
      | true =>
        refine run ?_
        exact ⟨k + 1, ⟨rfl, rfl, congrArg (fun z => some (Value.int .i64 z)) (w_succ (by omega)), trivial⟩, ⟨hml, take_nextM ht hx hy (ht2.1 rfl), rfl⟩, by show a.kids.length - (k + 1) < a.kids.length - k; omega⟩
    · have d1 : decide ((k : Int) < (a.kids.length : Int)) = false := decide_eq_false (by omega)
      have hLM : a.kids.map Tr.flat = b.kids.map Tr.flat := by rwa [List.take_of_length_le (by rw [List.length_map]; omega), List.take_of_length_le (by rw [List.length_map]; omega)] at ht
      refine run ?_
      exact ⟨⟨true, rfl, by simp [flat_eq, *]⟩, g3⟩
end Go.Proofs.Ytmglmjbjgfbdjaa
/- Few nodes: also how many. -/
set_option linter.unusedVariables false
set_option linter.unusedSimpArgs false
set_option maxRecDepth 20000
set_option maxHeartbeats 8000000
namespace Go.Proofs.Ytmglmjbjgfbdjaa
open Go Ax
def FewC (x : Tr) : Prop := FewT x ∧ x.cnt ≤ 300
theorem fewC_ax {H : Heap} {l : List Value} {x : Tr} (R : NodeR H l x) : AX Try.prog 6 #[.agg l.toArray, .int .i64 300] H (fun v H' => (∃ b, v = .bool b ∧ (b = true → FewC x)) ∧ H' = H) := by
  obtain ⟨ow, sn, sk, rfl, -, -⟩ := R.inv
  refine AX.quiet ?_
  suffices hh : AX Try.prog 6 #[.agg (nodeV x sn sk).toArray, .int .i64 300] H (fun v H' => (∃ b, v = .bool b ∧ (b = true → FewC x)) ∧ Grow H H') from hh.mono fun v _ ⟨⟨b, e, k⟩, g⟩ => ⟨e ▸ plain_bool _, ⟨b, e, k⟩, g⟩
  refine AX.body (n := 9) (rs := [.tmp 4]) Try.func6 rfl (by decide) rfl rfl (bC_sound _ _ _ _ ?_)
  (conv => whnf)
  refine Ob2.box rfl fun q H1 hq a1 g1 => ?_
  have b1 := hblk_of a1
  refine run ?_
  refine (left_ax x (R.grow g1) 300 40 (by omega) (by omega) (by omega) (by omega)).mono ?_
  rintro _ X ⟨rfl, e⟩
  subst X
  refine run ?_
  exact ⟨⟨_, rfl, fun h => by
    have h := of_decide_eq_true h
    have := x.left_cnt 300 40 (by omega) h
    exact ⟨few_of h, by omega⟩⟩, g1⟩
end Go.Proofs.Ytmglmjbjgfbdjaa
