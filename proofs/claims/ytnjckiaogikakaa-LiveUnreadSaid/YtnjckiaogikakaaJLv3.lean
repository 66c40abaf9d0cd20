/- Package live: bodies that may be, and what is told of them. -/
import Derived.Test.YtnjckiaogikakaaJIr2
set_option linter.unusedVariables false
set_option linter.unusedSimpArgs false
set_option maxRecDepth 20000
set_option maxHeartbeats 4000000
namespace Go.Proofs.Ytnjckiaogikakaa
open Go Ax
structure LvOK (p : ProgT) (b : BodyX) (c : CodeT) (f loc rg : Nat) : Prop where
  hF : b.F = (f : Int)
  hcode : p.2.2[f]? = some c
  hloc : c.2.1 = (loc : Int)
  hrg : b.regs = (rg : Int)
  lr : loc ≤ rg
  r88 : rg ≤ 88
  len : b.ops.length ≤ 120
  tgt : ∀ (i : Nat) (o : OpX), b.ops[i]? = some o → ∀ t ∈ tgtL o i, 0 ≤ t ∧ t < b.ops.length
  sm : ∀ o ∈ b.ops, o.regs.length ≤ 20 ∧ o.map.length ≤ 80
  us : ∀ o ∈ b.ops, (∀ x ∈ usesL o, 0 ≤ x ∧ x < (rg : Int)) ∧ (∀ x ∈ o.map, 0 ≤ x ∧ x < (rg : Int)) ∧ -1 ≤ defL o ∧ defL o < (rg : Int)
  pure : ∀ o ∈ b.ops, PureP o → defL o = o.a ∧ 0 ≤ o.a ∧ o.a < (rg : Int)
def locOf (p : ProgT) (b : BodyX) : Nat := match p.2.2[b.F.toNat]? with | some c => c.2.1.toNat | none => 0
theorem lv_ok {p : ProgT} {b : BodyX} (h : CheckB p b) (hf : FewB b 120) : ∃ c f rg, LvOK p b c f (locOf p b) rg := by
  obtain ⟨hP, hF0, c, L, hc, hlim, hVals, hDeps, hCl, hOps, hLast⟩ := h
  have hl0 := hlim
  unfold BLim at hl0
  have hRi : RightP p b.F c := by
    have := hP.2.2.2.2.2.2 b.F.toNat c hc
    rwa [Int.toNat_of_nonneg hF0] at this
  have hlm := hRi.1
  unfold Lim at hlm
  have hrg : (limsOf p c b).rg = b.regs := rfl
  have hloc : locOf p b = c.2.1.toNat := by unfold locOf; rw [hc]
  have hat : ∀ o ∈ b.ops, ∃ i : Nat, i < b.ops.length ∧ b.ops[i]? = some o := fun o ho => by
    obtain ⟨i, hi, rfl⟩ := List.getElem_of_mem ho
    exact ⟨i, hi, List.getElem?_eq_getElem hi⟩
  refine ⟨c, b.F.toNat, b.regs.toNat, by omega, hc, by rw [hloc]; omega, by omega, by rw [hloc]; omega, by omega, hf.ops, fun i o ho t ht => ?_, fun o ho => ?_, fun o ho => ?_, fun o ho hp => ?_⟩
  · obtain ⟨h1, h2, _⟩ := tgt_safe ho (hOps i o (lt_of_get ho) ho) hLast ht
    exact ⟨h1, h2⟩
  · obtain ⟨h1, h2, _⟩ := hf.op o ho
    exact ⟨h1, h2⟩
  · obtain ⟨i, hi, hx⟩ := hat o ho
    have hoP := hOps i o hi hx
    have hRef := ((opP_ref (by rw [hrg]; omega)).1 hoP).1
    have hPc := ((opP_ref (by rw [hrg]; omega)).1 hoP).2.1
    have h1 := hRef.2.2.1
    have h2 := hPc.2.2.2
    have h3 := hRef.2.2.2
    rw [hrg] at h1 h2 h3
    have e : ((b.regs.toNat : Nat) : Int) = b.regs := by omega
    rw [e]
    exact ⟨h1, h2, by omega, h3.1⟩
  · obtain ⟨i, hi, hx⟩ := hat o ho
    have hoP := hOps i o hi hx
    obtain ⟨hk, h1, h2, _⟩ := hoP
    have e : fl o.kind 0 = 82 := by
      have : o.kind = 2 ∨ o.kind = 3 ∨ o.kind = 4 ∨ o.kind = 5 := by unfold PureP at hp; omega
      rcases this with e | e | e | e <;> rw [e] <;> rfl
    have h0 := h2 0 (by decide)
    rw [e] at h0
    have h0 : 0 ≤ o.a ∧ o.a < b.regs := h0
    refine ⟨?_, h0.1, by omega⟩
    unfold defL isW
    rw [e]
    rfl
theorem LvOK.live {p : ProgT} {b : BodyX} {c : CodeT} {f loc rg : Nat} (h : LvOK p b c f loc rg) {r i : Nat} (k : LiveAt b loc r i) : r < rg := by
  induction k with
  | need h1 h2 =>
    obtain ⟨u1, u2, _⟩ := h.us _ (List.mem_of_getElem? h1)
    have := h.lr
    rcases h2 with h2 | h2 | h2
    · omega
    · have := (u1 _ h2).2; omega
    · have := (u2 _ h2).2; omega
  | go _ _ _ _ ih => exact ih
open Classical in
noncomputable def inL (b : BodyX) (loc i : Nat) : List Int := ((List.range 128).filter fun r => decide (LiveAt b loc r i)).map fun (n : Nat) => (n : Int)
open Classical in
noncomputable def outL (b : BodyX) (loc i : Nat) : List Int := ((List.range 128).filter fun r => decide (LiveBehind b loc r i)).map fun (n : Nat) => (n : Int)
open Classical in
noncomputable def inLL (p : ProgT) (b : BodyX) : List (List Int) := if CheckB p b then (List.range b.ops.length).map (inL b (locOf p b)) else []
open Classical in
noncomputable def outLL (p : ProgT) (b : BodyX) : List (List Int) := if CheckB p b then (List.range b.ops.length).map (outL b (locOf p b)) else []
def DeadP (p : ProgT) (b : BodyX) (i : Nat) : Prop := ∃ o, b.ops[i]? = some o ∧ PureP o ∧ ¬ LiveBehind b (locOf p b) o.a.toNat i
open Classical in
noncomputable def deadN (p : ProgT) (b : BodyX) (n : Nat) : List Int := ((List.range n).filter fun i => decide (DeadP p b i)).map fun (n : Nat) => (n : Int)
open Classical in
noncomputable def deadL (p : ProgT) (b : BodyX) : List Int := if CheckB p b then deadN p b b.ops.length else []
open Classical in
theorem memI_of {s : RS} {P : Nat → Prop} (h : Holds s P) : memI s 128 = ((List.range 128).filter fun r => decide (P r)).map fun (n : Nat) => (n : Int) := by
  unfold memI
  congr 1
  refine List.filter_congr fun r hr => ?_
  have := h.2 r (List.mem_range.1 hr)
  rw [Bool.eq_iff_iff, this, decide_eq_true_eq]
theorem memLL {I : List RS} {n : Nat} {g : Nat → List Int} (hl : I.length = n) (h : ∀ (i : Nat) s, I[i]? = some s → memI s 128 = g i) : (I.map fun s => memI s 128) = (List.range n).map g := by
  apply List.ext_getElem?
  intro i
  rw [List.getElem?_map, List.getElem?_map]
  by_cases hi : i < n
  · obtain ⟨s, hs⟩ := get_lt (L := I) (m := i) (by omega)
    rw [hs, List.getElem?_range hi]
    exact congrArg some (h i s hs)
  · rw [List.getElem?_eq_none (by omega), List.getElem?_eq_none (by simp; omega)]
    rfl
/-- Sets of a body that may be. -/
theorem sets_of {H : Heap} {p : ProgT} {ps cs kv ov dv : Value} {c : CodeT} {b : BodyX} {f loc rg : Nat} (hcs : RL 5 codeR H cs p.2.2) (hb : BodyIn H b kv ov dv) (h : LvOK p b c f loc rg) :
    AX Try.prog 22 #[progV p ps cs, bodyV b kv ov dv] H (fun v H' => (∃ iv uv I O, v = .tuple #[iv, uv] ∧ RL 2 setR H' iv I ∧ RL 2 setR H' uv O ∧ I.length = b.ops.length ∧ O.length = b.ops.length ∧
      (∀ (i : Nat) s, I[i]? = some s → Holds s (fun r => LiveAt b loc r i)) ∧ ∀ (i : Nat) s, O[i]? = some s → Holds s (fun r => LiveBehind b loc r i)) ∧ Grow H H') := by
  have hl := h.len
  have hl1 := h.lr
  have hl2 := h.r88
  refine sets_ax hcs hb (by omega) h.hF h.hcode h.hloc (by omega) h.tgt (fun o ho => ?_) (fun o ho => ?_)
  · have := h.sm o ho; omega
  · obtain ⟨u1, u2, u3, u4⟩ := h.us o ho
    exact ⟨fun x hx => by have := u1 x hx; omega, fun x hx => by have := u2 x hx; omega, u3, by omega⟩
theorem In_ax {H : Heap} {p : ProgT} {ps cs kv ov dv : Value} {b : BodyX} (hp : RL 1 strR H ps p.2.1) (hcs : RL 5 codeR H cs p.2.2) (hL : p.2.1.length < 4294967296) (hb : BodyIn H b kv ov dv) (hsm : SmallB b) (hf : FewB b 120) :
    AX Try.prog 18 #[progV p ps cs, bodyV b kv ov dv] H (fun v H' => RL 1 llR H' v (inLL p b) ∧ Grow H H') := by
  refine AX.body (n := 19) (rs := [.tmp 4]) Try.func18 rfl (by decide) rfl rfl (bC_sound _ _ _ _ ?_)
  (conv => whnf)
  refine Ob2.box rfl fun q2 H1 hq2 a2 g1 => ?_
  (conv => whnf)
  refine Ob2.box rfl fun q3 H2 hq3 a3 g2 => ?_
  have g := g1.trans g2
  have lp : aload Try.prog 25 (.pointer (some ⟨q2, 0, none⟩)) H2 = some (progV p ps cs) := ald_agg rfl rfl rfl (hblk_of (g2.at a2)) rfl
  have lb : aload Try.prog 30 (.pointer (some ⟨q3, 0, none⟩)) H2 = some (bodyV b kv ov dv) := ald_agg rfl rfl rfl (hblk_of a3) rfl
  refine run ?_
  refine (irCheck_ax (strR.grow hp g) (codeR.grow hcs g) hL (hb.grow g) hsm).mono ?_
  rintro v X ⟨hv, e⟩
  subst X
  rcases hv with ⟨rfl, hv⟩ | ⟨rfl, hv⟩
  · obtain ⟨c, f, rg, ok⟩ := lv_ok hv hf
    refine run ?_
    refine (sets_of (codeR.grow hcs g) (hb.grow g) ok).mono ?_
    rintro _ H3 ⟨⟨iv, uv, I, O, rfl, hI, hO, hIl, hOl, hA, hB⟩, g3⟩
    refine run ?_
    refine (setlists_ax hI (fun i s hs => (hA i s hs).1) (by have := ok.len; omega)).mono ?_
    rintro v H4 ⟨hv4, g4⟩
    refine run ?_
    refine ⟨?_, g.trans (g3.trans g4)⟩
    unfold inLL
    rw [if_pos hv, ← memLL (g := inL b (locOf p b)) hIl fun i s hs => memI_of (hA i s hs)]
    exact hv4
  · refine run ?_
    exact ⟨by unfold inLL; rw [if_neg hv]; exact .inl ⟨rfl, rfl⟩, g⟩
theorem Out_ax {H : Heap} {p : ProgT} {ps cs kv ov dv : Value} {b : BodyX} (hp : RL 1 strR H ps p.2.1) (hcs : RL 5 codeR H cs p.2.2) (hL : p.2.1.length < 4294967296) (hb : BodyIn H b kv ov dv) (hsm : SmallB b) (hf : FewB b 120) :
    AX Try.prog 19 #[progV p ps cs, bodyV b kv ov dv] H (fun v H' => RL 1 llR H' v (outLL p b) ∧ Grow H H') := by
  refine AX.body (n := 19) (rs := [.tmp 4]) Try.func19 rfl (by decide) rfl rfl (bC_sound _ _ _ _ ?_)
  (conv => whnf)
  refine Ob2.box rfl fun q2 H1 hq2 a2 g1 => ?_
  (conv => whnf)
  refine Ob2.box rfl fun q3 H2 hq3 a3 g2 => ?_
  have g := g1.trans g2
  have lp : aload Try.prog 25 (.pointer (some ⟨q2, 0, none⟩)) H2 = some (progV p ps cs) := ald_agg rfl rfl rfl (hblk_of (g2.at a2)) rfl
  have lb : aload Try.prog 30 (.pointer (some ⟨q3, 0, none⟩)) H2 = some (bodyV b kv ov dv) := ald_agg rfl rfl rfl (hblk_of a3) rfl
  refine run ?_
  refine (irCheck_ax (strR.grow hp g) (codeR.grow hcs g) hL (hb.grow g) hsm).mono ?_
  rintro v X ⟨hv, e⟩
  subst X
  rcases hv with ⟨rfl, hv⟩ | ⟨rfl, hv⟩
  · obtain ⟨c, f, rg, ok⟩ := lv_ok hv hf
    refine run ?_
    refine (sets_of (codeR.grow hcs g) (hb.grow g) ok).mono ?_
    rintro _ H3 ⟨⟨iv, uv, I, O, rfl, hI, hO, hIl, hOl, hA, hB⟩, g3⟩
    refine run ?_
    refine (setlists_ax hO (fun i s hs => (hB i s hs).1) (by have := ok.len; omega)).mono ?_
    rintro v H4 ⟨hv4, g4⟩
    refine run ?_
    refine ⟨?_, g.trans (g3.trans g4)⟩
    unfold outLL
    rw [if_pos hv, ← memLL (g := outL b (locOf p b)) hOl fun i s hs => memI_of (hB i s hs)]
    exact hv4
  · refine run ?_
    exact ⟨by unfold outLL; rw [if_neg hv]; exact .inl ⟨rfl, rfl⟩, g⟩
end Go.Proofs.Ytnjckiaogikakaa
/- Package live: operations that nobody needs. -/
set_option linter.unusedVariables false
set_option linter.unusedSimpArgs false
set_option maxRecDepth 20000
set_option maxHeartbeats 4000000
namespace Go.Proofs.Ytnjckiaogikakaa
open Go Ax
open Classical in
theorem deadN_yes {p : ProgT} {b : BodyX} {n : Nat} (h : DeadP p b n) : deadN p b (n + 1) = deadN p b n ++ [(n : Int)] := by
  unfold deadN; rw [List.range_succ, List.filter_append, List.map_append]; simp [h]
open Classical in
theorem deadN_no {p : ProgT} {b : BodyX} {n : Nat} (h : ¬ DeadP p b n) : deadN p b (n + 1) = deadN p b n := by
  unfold deadN; rw [List.range_succ, List.filter_append, List.map_append]; simp [h]
open Classical in
theorem deadN_len (p : ProgT) (b : BodyX) (n : Nat) : (deadN p b n).length ≤ n := by
  unfold deadN
  rw [List.length_map]
  have := List.length_filter_le (fun i => decide (DeadP p b i)) (List.range n)
  rwa [List.length_range] at this
theorem Dead_ax {H : Heap} {p : ProgT} {ps cs kv ov dv : Value} {b : BodyX} (hp : RL 1 strR H ps p.2.1) (hcs : RL 5 codeR H cs p.2.2) (hL : p.2.1.length < 4294967296) (hb : BodyIn H b kv ov dv) (hsm : SmallB b) (hf : FewB b 120) :
    AX Try.prog 11 #[progV p ps cs, bodyV b kv ov dv] H (fun v H' => RL 1 intR H' v (deadL p b) ∧ Grow H H') := by
  refine AX.body (n := 46) (rs := [.tmp 4]) Try.func11 rfl (by decide) rfl rfl (bC_sound _ _ _ _ ?_)
  (conv => whnf)
  refine Ob2.box rfl fun q2 H1 hq2 a2 g1 => ?_
  (conv => whnf)
  refine Ob2.box rfl fun q3 H2 hq3 a3 g2 => ?_
  have g := g1.trans g2
  have lp : aload Try.prog 25 (.pointer (some ⟨q2, 0, none⟩)) H2 = some (progV p ps cs) := ald_agg rfl rfl rfl (hblk_of (g2.at a2)) rfl
  have lb : aload Try.prog 30 (.pointer (some ⟨q3, 0, none⟩)) H2 = some (bodyV b kv ov dv) := ald_agg rfl rfl rfl (hblk_of a3) rfl
  refine run ?_
  refine (irCheck_ax (strR.grow hp g) (codeR.grow hcs g) hL (hb.grow g) hsm).mono ?_
  rintro v X ⟨hv, e⟩
  subst X
  rcases hv with ⟨rfl, hv⟩ | ⟨rfl, hv⟩
  rotate_left
  · refine run ?_
    exact ⟨by unfold deadL; rw [if_neg hv]; exact .inl ⟨rfl, rfl⟩, g⟩
  obtain ⟨c, f, rg, ok⟩ := lv_ok hv hf
  refine run ?_
  refine (sets_of (codeR.grow hcs g) (hb.grow g) ok).mono ?_
  rintro _ H3 ⟨⟨iv, uv, I, O, rfl, hI, hO, hIl, hOl, hA, hB⟩, g3⟩
  have gH3 := g.trans g3
  have c3 := hblk_of (g3.at a3)
  have hlen := ok.len
  have l4 := hb.ops.len (P := Try.prog) (t := 27) (e := 43) rfl H3
  clear lp lb
  refine run ?_
  refine SW.loop (α := Nat × Value) (fun y => [(3, .pointer (some ⟨q3, 0, none⟩)), (6, uv), (7, y.2), (21, ov), (22, .int .i64 (b.ops.length : Int)), (23, .int .i64 (y.1 : Int))])
    (fun y X => y.1 ≤ b.ops.length ∧ Grow H3 X ∧ OwnR 1 3 intR X y.2 (deadN p b y.1) ∧ ∀ q, blkIs y.2 q → H3.length ≤ q) (fun y => b.ops.length - y.1)
    ⟨(0, .slice none 0 0), ⟨rfl, rfl, rfl, rfl, rfl, rfl, trivial⟩, Nat.zero_le _, .refl _, .inl ⟨rfl, rfl⟩, fun q ⟨_, _, h⟩ => by simp at h⟩ ?_
  rintro ⟨j, lv⟩ X ⟨hj, gX, hlv, hbk⟩
  dsimp only at hj hlv hbk ⊢
  refine bC_sound _ _ _ _ ?_
  by_cases hjl : j < b.ops.length
  rotate_left
  · have d1 : decide ((j : Int) < (b.ops.length : Int)) = false := decide_eq_false (by omega)
    have : j = b.ops.length := by omega
    subst this
    refine run ?_
    refine ⟨?_, gH3.trans gX⟩
    unfold deadL
    rw [if_pos hv]
    exact hlv.rl
  have d1 : decide ((j : Int) < (b.ops.length : Int)) = true := decide_eq_true (by omega)
  obtain ⟨o, ho⟩ := get_lt (L := b.ops) (m := j) hjl
  have hom := List.mem_of_getElem? ho
  obtain ⟨bz, rv, cv, mv, i5, jr, jc, jm, i6⟩ := ldx_op hb.ops ho
  have i7 := (i6 X (gH3.trans gX)).1
  obtain ⟨so, hso⟩ := get_lt (L := O) (m := j) (by omega)
  have hBj := hB j so hso
  obtain ⟨px, p1, p2⟩ := set_at hO hso
  have w1 := w_succ (k := j) (by omega)
  refine run ?_
  refine Ob2.alloc rfl fun q9 X1 hq9 a9 g9 => ?_
  refine run ?_
  refine Ob.store rfl rfl rfl a9 rfl (by first | exact Nat.le_of_ble_eq_true rfl | simp) fun X2 s9 k9 l9 => ?_
  have gXX : Grow X X2 := g9.but_new k9 (by omega)
  have c9 := hblk_of s9
  have lo : aload Try.prog 43 (.pointer (some ⟨q9, 0, none⟩)) X2 = some (opV o rv cv mv) := ald_agg rfl rfl rfl c9 rfl
  have p3 := p2 X2 (gX.trans gXX)
  refine run ?_
  apply SW.drawH [(0, [], [], false), (1, [(28, 0)], [28], true), (2, [(28, 0), (29, 1)], [28, 29], false), (3, [(28, 0), (29, 1), (30, 2)], [28, 29, 30, 32, 35, 36], false), (4, [(28, 0), (29, 1), (30, 2)], [28, 29, 30, 31, 35, 36], false), (5, [(28, 0), (29, 1), (30, 2), (31, 3), (32, 4)], [28, 29, 30, 31, 32, 35, 36], false), (6, [(28, 0), (29, 1), (30, 2), (31, 3), (32, 4), (33, 5)], [28, 29, 30, 31, 32, 33, 35, 36], false), (7, [(28, 0), (29, 1), (30, 2)], [28, 29, 30, 31, 32, 33, 34], false), (8, [(28, 0), (29, 1), (30, 2), (35, 7)], [28, 29, 30, 31, 32, 33, 34, 35], false), (9, [(28, 0), (29, 1), (30, 2), (31, 3), (32, 4), (33, 5), (34, 6), (35, 7), (36, 8)], [28, 29, 30, 31, 32, 33, 34, 35, 36], true), (10, [(28, 0), (29, 1), (30, 2), (31, 3), (32, 4), (33, 5), (34, 6), (35, 7), (36, 8), (37, 9)], [28, 29, 30, 31, 32, 33, 34, 35, 36, 37], false), (11, [(28, 0), (29, 1), (30, 2), (31, 3), (32, 4), (33, 5), (34, 6), (35, 7), (36, 8), (37, 9), (38, 10)], [28, 29, 30, 31, 32, 33, 34, 35, 36, 37, 38], false)]
    [(28, 0), (29, 1), (30, 2), (31, 3), (32, 4), (33, 5), (34, 6), (35, 7), (36, 8), (37, 9), (38, 10), (39, 11)] []
    [(3, _), (6, _), (7, _), (8, _), (9, _), (21, _), (22, _), (23, _)] rfl (by kernel_rfl)
  case hF => exact ⟨rfl, rfl, rfl, rfl, rfl, rfl, rfl, rfl, trivial⟩
  refine run ?_
  refine (irPure_ax X2 o rv cv mv).mono ?_
  rintro _ Z ⟨rfl, e⟩
  subst Z
  have keep : OwnR 1 3 intR X2 lv (deadN p b j) := hlv.keep (fun q c _ hq => gXX.at hq) fun _ _ _ h => h
  have hol : o.a.toNat < 128 → (mem so o.a.toNat = true ↔ LiveBehind b (locOf p b) o.a.toNat j) := fun h => hBj.2 _ h
  by_cases hP : PureP o
  · obtain ⟨_, pa0, pa1⟩ := ok.pure o hom hP
    have hr88 := ok.r88
    obtain ⟨r, hr⟩ : ∃ r : Nat, o.a = (r : Int) := ⟨o.a.toNat, by omega⟩
    have hrn : o.a.toNat = r := by omega
    have hm := hol (by omega)
    rw [hrn] at hm
    have e := has_ax X2 hBj.1 (r := r) (by omega)
    rw [← hr] at e
    rw [decide_eq_true hP]
    refine run ?_
    refine e.mono ?_
    rintro _ Z ⟨rfl, e'⟩
    subst Z
    cases hmr : mem so r with
    | true =>
      have hn : ¬ DeadP p b j := fun ⟨o', h1, h2, h3⟩ => by
        rw [ho] at h1
        simp only [Option.some.injEq] at h1
        subst h1
        exact h3 (by rw [hrn]; exact hm.1 hmr)
      refine run ?_
      exact ⟨(j + 1, lv), ⟨rfl, rfl, rfl, rfl, rfl, congrArg (fun z => some (Value.int .i64 z)) w1, trivial⟩, ⟨by dsimp only; omega, gX.trans gXX, by rw [deadN_no hn]; exact keep, hbk⟩, by dsimp only; omega⟩
    | false =>
      have hd : DeadP p b j := ⟨o, ho, hP, fun h => by rw [hrn] at h; have := hm.2 h; rw [hmr] at this; simp at this⟩
      obtain ⟨sa, sn, sm, rfl⟩ := keep.form
      refine run ?_
      refine Ob2.lay (H := X2) (.cells (.row 3) [.int .i64 (j : Int)]) (.slice (some ⟨X2.length, 0, none⟩) 1 1) rfl fun U2 b2 e2 l2 => ?_
      have hdl := deadN_len p b j
      have hXl := (gX.trans gXX).1
      obtain ⟨U3, ap, o3, f3, n3⟩ := OwnR.append (n := H3.length) (x := (j : Int)) rowInt rowInt (keep.keep (fun b c _ h => e2.at h) fun _ _ _ h => h) b2 rfl rfl hbk (by omega) (by omega) (fun _ _ _ _ _ h => h)
      refine run ?_
      refine Ob2.of ap ?_
      refine run ?_
      refine ⟨(j + 1, _), ⟨rfl, rfl, rfl, rfl, rfl, congrArg (fun z => some (Value.int .i64 z)) w1, trivial⟩, ⟨by dsimp only; omega, f3.grow ((gX.trans gXX).trans e2) (Nat.le_refl _), by rw [deadN_yes hd]; exact o3, fun q hq => ?_⟩, by dsimp only; omega⟩
      obtain ⟨n', k', hq⟩ := hq
      simp only [Value.slice.injEq, Option.some.injEq, Addr.mk.injEq, and_true] at hq
      omega
  · have hn : ¬ DeadP p b j := fun ⟨o', h1, h2, h3⟩ => by
      rw [ho] at h1
      simp only [Option.some.injEq] at h1
      subst h1
      exact hP h2
    rw [decide_eq_false hP]
    refine run ?_
    exact ⟨(j + 1, lv), ⟨rfl, rfl, rfl, rfl, rfl, congrArg (fun z => some (Value.int .i64 z)) w1, trivial⟩, ⟨by dsimp only; omega, gX.trans gXX, by rw [deadN_no hn]; exact keep, hbk⟩, by dsimp only; omega⟩
end Go.Proofs.Ytnjckiaogikakaa
/- The reference of live: ahead of which operations a register is needed. -/
set_option linter.unusedVariables false
set_option linter.unusedSimpArgs false
set_option maxRecDepth 20000
set_option maxHeartbeats 4000000
namespace Go.Proofs.Ytnjckiaogikakaa
open Go Ax
theorem Ahead_ax {H : Heap} {p : ProgT} {ps cs kv ov dv : Value} {c : CodeT} {b : BodyX} {r f : Nat} (hcs : RL 5 codeR H cs p.2.2) (hb : BodyIn H b kv ov dv) (hL : b.ops.length ≤ 100000) (hF : b.F = (f : Int)) (hf : p.2.2[f]? = some c)
    (ht : ∀ (i : Nat) (o : OpX), b.ops[i]? = some o → ∀ t ∈ tgtL o i, 0 ≤ t ∧ t < b.ops.length) (hr : ∀ o ∈ b.ops, o.regs.length ≤ 100000 ∧ o.map.length ≤ 100000) :
    AX Try.prog 40 #[progV p ps cs, bodyV b kv ov dv, .int .i64 (r : Int)] H (fun v H' => (∃ (A : List Bool) (q : Nat), v = .slice (some ⟨q, 0, none⟩) b.ops.length 1 ∧ H'[q]? = some (.cells (.row 4) (A.map Value.bool)) ∧ H.length ≤ q ∧ A.length = b.ops.length ∧ ∀ i : Nat, A[i]? = some true ↔ LiveAt b c.2.1 r i) ∧ Grow H H') := by
  obtain ⟨bq, i1, i2⟩ := ldx_code hcs hf
  have l4 := fun X => hb.ops.len (P := Try.prog) (t := 27) (e := 43) rfl X
  rw [← hF] at i1
  refine AX.body (n := 72) (rs := [.tmp 6]) Try.func40 rfl (by decide) rfl rfl (bC_sound _ _ _ _ ?_)
  (conv => whnf)
  refine Ob2.box rfl fun q1 H1 hq1 a1 g1 => ?_
  (conv => whnf)
  refine Ob2.box rfl fun q2 H2 hq2 a2 g2 => ?_
  have b1 := hblk_of (g2.at a1)
  have b2 := hblk_of a2
  have g := g1.trans g2
  obtain ⟨i3, i4⟩ := i2 H2 g
  have l42 := l4 H2
  refine run ?_
  refine Ob2.of (make_slice rfl rfl rfl rfl (by decide) rfl (by omega) (by omega) (by show 1 * (b.ops.length : Int) ≤ _; omega)) ?_
  rw [zeros_one, Int.toNat_natCast]
  obtain ⟨H3, e3, l3⟩ : ∃ H3, H2 ++ [.cells (.row 4) (List.replicate b.ops.length (.bool false))] = H3 ∧ H3[H2.length]? = some (.cells (.row 4) ((List.replicate b.ops.length false).map Value.bool)) := ⟨_, rfl, by rw [List.map_replicate]; exact at_push _ _⟩
  have g3 : Grow H2 H3 := e3 ▸ .push _ _
  rw [e3]
  refine run ?_
  -- outer loop: (turn, grown, A): SoundA, turn <= count of true while grown, else all is told
  refine SW.loop (α := Nat × Bool × List Bool) (fun y => [(2, .int .i64 (r : Int)), (3, .pointer (some ⟨q1, 0, none⟩)), (4, .pointer (some ⟨q2, 0, none⟩)), (7, .int .i64 c.2.1), (8, .slice (some ⟨H2.length, 0, none⟩) b.ops.length 1), (9, .bool y.2.1), (10, .int .i64 (y.1 : Int))])
    (fun y X => y.1 ≤ b.ops.length + 1 ∧ But H2.length H3 X ∧ X[H2.length]? = some (.cells (.row 4) (y.2.2.map Value.bool)) ∧ SoundA b c.2.1 r y.2.2 ∧ (y.2.1 = true → y.1 ≤ y.2.2.count true) ∧
      (y.2.1 = false → ∀ (i : Nat) (o : OpX), b.ops[i]? = some o → y.2.2[i]? = some true ∨ ¬ Tells o c.2.1 r i y.2.2)) (fun y => b.ops.length + 1 - y.1)
    ⟨(0, true, List.replicate b.ops.length false), ⟨rfl, rfl, rfl, rfl, rfl, rfl, rfl, trivial⟩, Nat.zero_le _, .refl _ _, l3, ⟨by simp, fun i hi => by simp [List.getElem?_replicate] at hi⟩, fun _ => Nat.zero_le _, fun h => by simp at h⟩ ?_
  rintro ⟨turn, grown, A⟩ X ⟨hturn, kX, hrow, hS, hg, hng⟩
  dsimp only at hturn hrow hS hg hng ⊢
  have gX : Grow H X := (g.trans g3).but_new kX (by have := g.1; omega)
  have lX := l4 X
  have hq2' : q2 ≠ H2.length := by have := lt_at a2; omega
  have c2 := hblk_of (kX.at (g3.at a2) hq2')
  have done : (∀ (i : Nat) (o : OpX), b.ops[i]? = some o → A[i]? = some true ∨ ¬ Tells o c.2.1 r i A) → ∃ (A' : List Bool) (q : Nat), (Value.slice (some ⟨H2.length, 0, none⟩) b.ops.length 1) = .slice (some ⟨q, 0, none⟩) b.ops.length 1 ∧ X[q]? = some (.cells (.row 4) (A'.map Value.bool)) ∧ H.length ≤ q ∧ A'.length = b.ops.length ∧ ∀ i : Nat, A'[i]? = some true ↔ LiveAt b c.2.1 r i := fun hc =>
    ⟨A, H2.length, rfl, hrow, g.1, hS.1, hS.all hc⟩
  refine bC_sound _ _ _ _ ?_
  cases grown with
  | false =>
    by_cases hle : turn ≤ b.ops.length
    · have d1 : decide ((turn : Int) ≤ (b.ops.length : Int)) = true := decide_eq_true (by omega)
      refine run ?_
      exact ⟨done (hng rfl), gX⟩
    · have d1 : decide ((turn : Int) ≤ (b.ops.length : Int)) = false := decide_eq_false (by omega)
      refine run ?_
      exact ⟨done (hng rfl), gX⟩
  | true =>
    have hcnt := hg rfl
    have hcl := List.count_le_length (a := true) (l := A)
    have hle : turn ≤ b.ops.length := by have := hS.1; omega
    have d1 : decide ((turn : Int) ≤ (b.ops.length : Int)) = true := decide_eq_true (by omega)
    refine run ?_
    refine SW.loop (α := Nat × Bool × List Bool) (fun y => [(2, .int .i64 (r : Int)), (3, .pointer (some ⟨q1, 0, none⟩)), (4, .pointer (some ⟨q2, 0, none⟩)), (7, .int .i64 c.2.1), (8, .slice (some ⟨H2.length, 0, none⟩) b.ops.length 1), (9, .bool y.2.1), (10, .int .i64 (turn : Int)), (11, .int .i64 (y.1 : Int))])
      (fun y Y => y.1 ≤ b.ops.length ∧ But H2.length H3 Y ∧ Y[H2.length]? = some (.cells (.row 4) (y.2.2.map Value.bool)) ∧ SoundA b c.2.1 r y.2.2 ∧ turn ≤ y.2.2.count true ∧ (y.2.1 = true → turn + 1 ≤ y.2.2.count true) ∧
        (y.2.1 = false → ∀ (i : Nat) (o : OpX), i < y.1 → b.ops[i]? = some o → y.2.2[i]? = some true ∨ ¬ Tells o c.2.1 r i y.2.2)) (fun y => b.ops.length - y.1)
      ⟨(0, false, A), ⟨rfl, rfl, rfl, rfl, rfl, rfl, rfl, rfl, trivial⟩, Nat.zero_le _, kX, hrow, hS, hcnt, fun h => by simp at h, fun _ i o hi => by omega⟩ ?_
    clear d1
    rintro ⟨at_, grown, B⟩ Y ⟨hat, kY, hrowY, hSY, hcY, hgY, hnY⟩
    dsimp only at hat hrowY hSY hcY hgY hnY ⊢
    have gY : Grow H Y := (g.trans g3).but_new kY (by have := g.1; omega)
    have lY := l4 Y
    have c3 := hblk_of (kY.at (g3.at a2) hq2')
    refine bC_sound _ _ _ _ ?_
    by_cases hil : at_ < b.ops.length
    rotate_left
    · have d1 : decide ((at_ : Int) < (b.ops.length : Int)) = false := decide_eq_false (by omega)
      have w1 := w_succ (k := turn) (by omega)
      refine run ?_
      exact ⟨(turn + 1, grown, B), ⟨rfl, rfl, rfl, rfl, rfl, rfl, congrArg (fun z => some (Value.int .i64 z)) w1, trivial⟩, ⟨by omega, kY, hrowY, hSY, hgY, fun h i o ho => hnY h i o (by have := lt_of_get ho; omega) ho⟩, by show b.ops.length + 1 - (turn + 1) < b.ops.length + 1 - turn; omega⟩
    have d1 : decide ((at_ : Int) < (b.ops.length : Int)) = true := decide_eq_true (by omega)
    obtain ⟨o, ho⟩ := get_lt (L := b.ops) (m := at_) hil
    obtain ⟨x, hx⟩ := get_lt (L := B) (m := at_) (by have := hSY.1; omega)
    have ixA : aindexAddr Try.prog 39 (.slice (some ⟨H2.length, 0, none⟩) b.ops.length 1) (.int .i64 (at_ : Int)) = some (.pointer (some ⟨H2.length, at_, none⟩)) := by
      rw [idx_slice (k := 1) rfl rfl (by omega) (by omega)]; simp
    have ldA : aload Try.prog 4 (.pointer (some ⟨H2.length, at_, none⟩)) Y = some (.bool x) := ald rfl rfl (hblk_of hrowY) (by simp [hx])
    have w1 := w_succ (k := at_) (by omega)
    cases x with
    | true =>
      refine run ?_
      exact ⟨(at_ + 1, grown, B), ⟨rfl, rfl, rfl, rfl, rfl, rfl, rfl, congrArg (fun z => some (Value.int .i64 z)) w1, trivial⟩, ⟨by omega, kY, hrowY, hSY, hcY, hgY, fun h i o' hi ho' => by
        by_cases hia : i = at_
        · subst hia; exact .inl hx
        · exact hnY h i o' (by omega) ho'⟩, by show b.ops.length - (at_ + 1) < b.ops.length - at_; omega⟩
    | false =>
      obtain ⟨bo, rv, cv, mv, i5, jr, jc, jm, i6⟩ := ldx_op hb.ops ho
      have i7 := (i6 Y gY).1
      obtain ⟨r1, r2⟩ := hr o (List.mem_of_getElem? ho)
      have hAY : RL 1 boolR Y (.slice (some ⟨H2.length, 0, none⟩) b.ops.length 1) B := by
        rw [← hSY.1]
        exact RL.own (g := Value.bool) (fun _ _ => rfl) hrowY
      have hlq : H2.length ≠ q1 := by have := lt_at a2; have := lt_at (g2.at a1); omega
      have lo : aload Try.prog 30 (.pointer (some ⟨q2, 0, none⟩)) Y = some (bodyV b kv ov dv) := ald_agg rfl rfl rfl c3 rfl
      have skip : ¬ Tells o c.2.1 r at_ B → ∀ (i : Nat) (o : OpX), i < at_ + 1 → grown = false → b.ops[i]? = some o → B[i]? = some true ∨ ¬ Tells o c.2.1 r i B := fun hn i o' hi hgr ho' => by
        by_cases hia : i = at_
        · subst hia
          rw [ho] at ho'
          simp only [Option.some.injEq] at ho'
          subst ho'
          exact .inr hn
        · exact hnY hgr i o' (by omega) ho'
      have setB : (B.map Value.bool).set at_ (.bool true) = (B.set at_ true).map Value.bool := by rw [List.map_set]
      refine run ?_
      refine (refNeeds_ax (intR.grow jr gY) (intR.grow jm gY) r1 r2).mono ?_
      rintro _ Z ⟨rfl, e⟩
      subst Z
      by_cases hN : NeedP o c.2.1 r
      · rw [decide_eq_true hN]
        refine run ?_
        refine Ob.store rfl rfl rfl hrowY rfl (by show at_ + 1 ≤ _; rw [List.length_map, hSY.1]; omega) fun K1 k1 k2 k3 => ?_
        replace k1 : K1[H2.length]? = some (.cells (.row 4) ((B.set at_ true).map Value.bool)) := k1.trans (congrArg (fun z => some (Blk.cells _ z)) setB)
        have hcs' := count_set B at_ hx
        refine run ?_
        exact ⟨(at_ + 1, true, B.set at_ true), ⟨rfl, rfl, rfl, rfl, rfl, rfl, rfl, congrArg (fun z => some (Value.int .i64 z)) w1, trivial⟩, ⟨by omega, kY.trans k2, k1, hSY.set ho (.inl hN), by dsimp only; omega, fun _ => by dsimp only; omega, fun h => by simp at h⟩, by show b.ops.length - (at_ + 1) < b.ops.length - at_; omega⟩
      rw [decide_eq_false hN]
      refine run ?_
      refine (refDef_ax Y o rv cv mv).mono ?_
      rintro _ Z ⟨rfl, e⟩
      subst Z
      by_cases hD : defL o = (r : Int)
      · have d2 : (!(defL o == (r : Int))) = false := by simp [hD]
        refine run ?_
        exact ⟨(at_ + 1, grown, B), ⟨rfl, rfl, rfl, rfl, rfl, rfl, rfl, congrArg (fun z => some (Value.int .i64 z)) w1, trivial⟩, ⟨by omega, kY, hrowY, hSY, hcY, hgY, fun h i o' hi ho' => skip (fun hh => hh.elim hN fun hh => hh.1 hD) i o' hi h ho'⟩, by show b.ops.length - (at_ + 1) < b.ops.length - at_; omega⟩
      have d2 : (!(defL o == (r : Int))) = true := by simpa using hD
      refine run ?_
      refine (behind_ax (hb.grow gY) hAY (by omega) ho (fun t h => by rw [hSY.1]; exact ht at_ o ho t h)).mono ?_
      rintro _ Z ⟨⟨rb, rfl, hrb⟩, e⟩
      subst Z
      cases rb with
      | true =>
        have hB := hrb.1 rfl
        refine run ?_
        refine Ob.store rfl rfl rfl hrowY rfl (by show at_ + 1 ≤ _; rw [List.length_map, hSY.1]; omega) fun K1 k1 k2 k3 => ?_
        replace k1 : K1[H2.length]? = some (.cells (.row 4) ((B.set at_ true).map Value.bool)) := k1.trans (congrArg (fun z => some (Blk.cells _ z)) setB)
        have hcs' := count_set B at_ hx
        refine run ?_
        exact ⟨(at_ + 1, true, B.set at_ true), ⟨rfl, rfl, rfl, rfl, rfl, rfl, rfl, congrArg (fun z => some (Value.int .i64 z)) w1, trivial⟩, ⟨by omega, kY.trans k2, k1, hSY.set ho (.inr ⟨hD, hB⟩), by dsimp only; omega, fun _ => by dsimp only; omega, fun h => by simp at h⟩, by show b.ops.length - (at_ + 1) < b.ops.length - at_; omega⟩
      | false =>
        have hB : ¬ Behind o at_ B := fun h => by have := hrb.2 h; simp at this
        refine run ?_
        exact ⟨(at_ + 1, grown, B), ⟨rfl, rfl, rfl, rfl, rfl, rfl, rfl, congrArg (fun z => some (Value.int .i64 z)) w1, trivial⟩, ⟨by omega, kY, hrowY, hSY, hcY, hgY, fun h i o' hi ho' => skip (fun hh => hh.elim hN fun hh => hB hh.2) i o' hi h ho'⟩, by show b.ops.length - (at_ + 1) < b.ops.length - at_; omega⟩
end Go.Proofs.Ytnjckiaogikakaa
/- The reference of live: tables of lists; the registers ahead of operations, and behind them. -/
set_option linter.unusedVariables false
set_option linter.unusedSimpArgs false
set_option maxRecDepth 20000
set_option maxHeartbeats 4000000
namespace Go.Proofs.Ytnjckiaogikakaa
open Go Ax
/-- Lists, each in a row of its own. -/
structure Tab (n0 N : Nat) (X : Heap) (V : Nat → Value) (G : Nat → List Int) : Prop where
  own : ∀ i, i < N → OwnR 1 3 intR X (V i) (G i)
  blk : ∀ i, i < N → ∀ q, blkIs (V i) q → n0 ≤ q
  sep : ∀ i j q, i < N → j < N → blkIs (V i) q → blkIs (V j) q → i = j
theorem Tab.grow {n0 N : Nat} {X Y : Heap} {V : Nat → Value} {G : Nat → List Int} (h : Tab n0 N X V G) (g : Grow X Y) : Tab n0 N Y V G :=
  ⟨fun i hi => (h.own i hi).keep (fun b c _ hb => g.at hb) fun _ _ _ h => h, h.blk, h.sep⟩
theorem Tab.but {n0 N q : Nat} {X Y : Heap} {V : Nat → Value} {G : Nat → List Int} (h : Tab n0 N X V G) (k : But q X Y) (hq : q < n0) : Tab n0 N Y V G :=
  ⟨fun i hi => (h.own i hi).keep (fun b c hb hc => k.at hc (by have := h.blk i hi b hb; omega)) fun _ _ _ h => h, h.blk, h.sep⟩
theorem Tab.ext {n0 N : Nat} {X : Heap} {V : Nat → Value} {G G' : Nat → List Int} (h : Tab n0 N X V G) (e : ∀ i, i < N → G' i = G i) : Tab n0 N X V G' :=
  ⟨fun i hi => by rw [e i hi]; exact h.own i hi, h.blk, h.sep⟩
def updF {α : Type} (V : Nat → α) (i : Nat) (v : α) : Nat → α := fun j => if j = i then v else V j
theorem updF_map {α : Type} (V : Nat → α) (n i : Nat) (v : α) : ((List.range n).map V).set i v = (List.range n).map (updF V i v) := by
  apply List.ext_getElem?
  intro j
  rw [List.getElem?_set, List.length_map, List.length_range, List.getElem?_map, List.getElem?_map]
  by_cases hj : j < n
  · rw [List.getElem?_range hj]
    by_cases e : i = j
    · subst e; simp [updF, hj]
    · simp [updF, e, Ne.symm e]
  · have : (List.range n)[j]? = none := List.getElem?_eq_none (by simp; omega)
    rw [this]
    split
    · rw [if_neg (by omega)]; rfl
    · rfl
theorem Tab.append {n0 N i b2 : Nat} {U : Heap} {V : Nat → Value} {G : Nat → List Int} {m2 : Ax.Mode} {x : Int} (h : Tab n0 N U V G) (hi : i < N) (hb2 : U[b2]? = some (.cells m2 [.int .i64 x])) (hn : n0 ≤ U.length) (hL : (G i).length ≤ 1000000) :
    ∃ H', aappend Try.prog 35 35 (V i) (.slice (some ⟨b2, 0, none⟩) 1 1) U = some (.slice (some ⟨U.length, 0, none⟩) ((G i).length + 1) 1, H') ∧
      Tab n0 N H' (updF V i (.slice (some ⟨U.length, 0, none⟩) ((G i).length + 1) 1)) (updF G i (G i ++ [x])) ∧ FrR n0 3 U H' := by
  obtain ⟨U3, ap, o3, f3, n3⟩ := OwnR.append (n := n0) (x := x) rowInt rowInt (h.own i hi) hb2 rfl rfl (h.blk i hi) hn hL (fun _ _ _ _ _ h => h)
  have lt : ∀ j, j < N → ∀ q, blkIs (V j) q → q < U.length := fun j hj q hq => by
    rcases h.own j hj with ⟨e, _⟩ | ⟨b, c, e, hb, _⟩
    · obtain ⟨_, _, hq⟩ := hq; rw [e] at hq; simp at hq
    · obtain ⟨_, _, hq⟩ := hq
      rw [e] at hq
      simp only [Value.slice.injEq, Option.some.injEq, Addr.mk.injEq, and_true] at hq
      have := lt_at hb
      omega
  have new : ∀ q n k, blkIs (.slice (some ⟨U.length, 0, none⟩) n k) q → q = U.length := fun q n k ⟨_, _, hq⟩ => by
    simp only [Value.slice.injEq, Option.some.injEq, Addr.mk.injEq, and_true] at hq
    exact hq.1.symm
  refine ⟨U3, ap, ⟨fun j hj => ?_, fun j hj q hq => ?_, fun j k q hj hk hq1 hq2 => ?_⟩, f3⟩
  · unfold updF
    by_cases e : j = i
    · subst e; rw [if_pos rfl, if_pos rfl]; exact o3
    · rw [if_neg e, if_neg e]
      exact (h.own j hj).keep (fun b c hb hc => n3 b _ hc fun hbi => e (h.sep j i b hj hi hb hbi)) fun _ _ _ h => h
  · unfold updF at hq
    by_cases e : j = i
    · rw [if_pos e] at hq; rw [new q _ _ hq]; exact hn
    · rw [if_neg e] at hq; exact h.blk j hj q hq
  · unfold updF at hq1 hq2
    by_cases e : j = i
    · by_cases e' : k = i
      · rw [e, e']
      · rw [if_pos e] at hq1
        rw [if_neg e'] at hq2
        have := new q _ _ hq1
        have := lt k hk q hq2
        omega
    · rw [if_neg e] at hq1
      by_cases e' : k = i
      · rw [if_pos e'] at hq2
        have := new q _ _ hq2
        have := lt j hj q hq1
        omega
      · rw [if_neg e'] at hq2
        exact h.sep j k q hj hk hq1 hq2
def TRow (q n : Nat) (V : Nat → Value) (X : Heap) : Prop := X[q]? = some (.cells (.row 35) ((List.range n).map V))
theorem TRow.ll {q n : Nat} {V : Nat → Value} {X : Heap} {g : Nat → List Int} (h : TRow q n V X) (hv : ∀ i, i < n → RL 1 intR X (V i) (g i)) : RL 1 llR X (.slice (some ⟨q, 0, none⟩) n 1) ((List.range n).map g) := by
  refine .inr ⟨q, by rw [List.length_map, List.length_range], .inr ⟨_, _, h, fun i x hx => ?_⟩⟩
  have hi : i < n := by have := lt_of_get hx; simpa using this
  rw [List.getElem?_map, List.getElem?_range hi] at hx
  simp only [Option.map_some, Option.some.injEq] at hx
  subst hx
  refine ⟨[V i], ?_, V i, rfl, hv i hi⟩
  rw [Nat.mul_one, slots_of (by simp; omega)]
  congr 1
  apply List.ext_getElem?
  intro j
  rw [List.getElem?_take, List.getElem?_drop]
  cases j with
  | zero => simp [List.getElem?_range hi]
  | succ j => simp
theorem TRow.ld {q n : Nat} {V : Nat → Value} {X : Heap} (h : TRow q n V X) {i : Nat} (hi : i < n) : aload Try.prog 35 (.pointer (some ⟨q, i, none⟩)) X = some (V i) := ald rfl rfl (hblk_of h) (by simp [List.getElem?_range hi])
theorem ix_tab {n i q : Nat} (hi : i < n) : aindexAddr Try.prog 37 (.slice (some ⟨q, 0, none⟩) n 1) (.int .i64 (i : Int)) = some (.pointer (some ⟨q, i, none⟩)) := by
  rw [idx_slice (k := 1) rfl rfl (by omega) (by omega)]; simp
open Classical in
noncomputable def inN (b : BodyX) (loc k i : Nat) : List Int := ((List.range k).filter fun r => decide (LiveAt b loc r i)).map fun (n : Nat) => (n : Int)
open Classical in
noncomputable def outN (b : BodyX) (loc k i : Nat) : List Int := ((List.range k).filter fun r => decide (LiveBehind b loc r i)).map fun (n : Nat) => (n : Int)
open Classical in
theorem inN_yes {b : BodyX} {loc k i : Nat} (h : LiveAt b loc k i) : inN b loc (k + 1) i = inN b loc k i ++ [(k : Int)] := by
  unfold inN; rw [List.range_succ, List.filter_append, List.map_append]; simp [h]
open Classical in
theorem inN_no {b : BodyX} {loc k i : Nat} (h : ¬ LiveAt b loc k i) : inN b loc (k + 1) i = inN b loc k i := by
  unfold inN; rw [List.range_succ, List.filter_append, List.map_append]; simp [h]
open Classical in
theorem outN_yes {b : BodyX} {loc k i : Nat} (h : LiveBehind b loc k i) : outN b loc (k + 1) i = outN b loc k i ++ [(k : Int)] := by
  unfold outN; rw [List.range_succ, List.filter_append, List.map_append]; simp [h]
open Classical in
theorem outN_no {b : BodyX} {loc k i : Nat} (h : ¬ LiveBehind b loc k i) : outN b loc (k + 1) i = outN b loc k i := by
  unfold outN; rw [List.range_succ, List.filter_append, List.map_append]; simp [h]
open Classical in
theorem inN_len (b : BodyX) (loc k i : Nat) : (inN b loc k i).length ≤ k := by
  unfold inN
  rw [List.length_map]
  have := List.length_filter_le (fun r => decide (LiveAt b loc r i)) (List.range k)
  rwa [List.length_range] at this
open Classical in
theorem outN_len (b : BodyX) (loc k i : Nat) : (outN b loc k i).length ≤ k := by
  unfold outN
  rw [List.length_map]
  have := List.length_filter_le (fun r => decide (LiveBehind b loc r i)) (List.range k)
  rwa [List.length_range] at this
theorem range_cut {P : Nat → Prop} [DecidablePred P] {k n : Nat} (hk : k ≤ n) (h : ∀ r, P r → r < k) : (List.range n).filter (fun r => decide (P r)) = (List.range k).filter fun r => decide (P r) := by
  obtain ⟨m, rfl⟩ : ∃ m, n = k + m := ⟨n - k, by omega⟩
  rw [List.range_add, List.filter_append]
  have : (List.map (fun x => k + x) (List.range m)).filter (fun r => decide (P r)) = [] := by
    rw [List.filter_eq_nil_iff]
    intro a ha hp
    simp only [List.mem_map, List.mem_range] at ha
    obtain ⟨x, _, rfl⟩ := ha
    have := h _ (of_decide_eq_true hp)
    omega
  rw [this, List.append_nil]
open Classical in
theorem LvOK.inN {p : ProgT} {b : BodyX} {c : CodeT} {f loc rg : Nat} (h : LvOK p b c f loc rg) (i : Nat) : inN b loc rg i = inL b loc i := by
  unfold Go.Proofs.Ytnjckiaogikakaa.inN inL
  rw [range_cut (P := fun r => LiveAt b loc r i) (k := rg) (n := 128) (by have := h.r88; omega) fun r hr => h.live hr]
open Classical in
theorem LvOK.outN {p : ProgT} {b : BodyX} {c : CodeT} {f loc rg : Nat} (h : LvOK p b c f loc rg) (i : Nat) : outN b loc rg i = outL b loc i := by
  unfold Go.Proofs.Ytnjckiaogikakaa.outN outL
  rw [range_cut (P := fun r => LiveBehind b loc r i) (k := rg) (n := 128) (by have := h.r88; omega) fun r ⟨_, _, _, _, hr⟩ => h.live hr]
end Go.Proofs.Ytnjckiaogikakaa
/- The reference of live: the registers ahead of operations, and behind them. -/
set_option linter.unusedVariables false
set_option linter.unusedSimpArgs false
set_option maxRecDepth 20000
set_option maxHeartbeats 4000000
namespace Go.Proofs.Ytnjckiaogikakaa
open Go Ax
theorem behind_live {b : BodyX} {loc : Int} {r : Nat} {A : List Bool} (hA : ∀ i : Nat, A[i]? = some true ↔ LiveAt b loc r i) {i : Nat} {o : OpX} (ho : b.ops[i]? = some o) : Behind o i A ↔ LiveBehind b loc r i := by
  constructor
  · rintro ⟨t, h1, h2⟩
    exact ⟨o, t, ho, h1, (hA _).1 h2⟩
  · rintro ⟨o', t, h0, h1, h2⟩
    rw [ho] at h0
    simp only [Option.some.injEq] at h0
    subst h0
    exact ⟨t, h1, (hA _).2 h2⟩
theorem nils (n : Nat) : zerosL [Value.slice none 0 0] n = (List.range n).map fun _ => Value.slice none 0 0 := by
  rw [zeros_one]
  apply List.ext_getElem?
  intro i
  rw [List.getElem?_replicate, List.getElem?_map]
  by_cases hi : i < n
  · rw [if_pos hi, List.getElem?_range hi]; rfl
  · rw [if_neg hi, List.getElem?_eq_none (by simp; omega)]; rfl
/-- What is told so far: in the first half ahead of operations, in the second behind them. -/
noncomputable def soFar (b : BodyX) (loc n r k m : Nat) (j : Nat) : List Int := if j < n then inN b loc (if j < k then r + 1 else r) j else outN b loc (if j - n < m then r + 1 else r) (j - n)
theorem Both_ax {H : Heap} {p : ProgT} {ps cs kv ov dv : Value} {b : BodyX} (hp : RL 1 strR H ps p.2.1) (hcs : RL 5 codeR H cs p.2.2) (hL : p.2.1.length < 4294967296) (hb : BodyIn H b kv ov dv) (hsm : SmallB b) (hib : IntB b) (hf : FewB b 120) :
    AX Try.prog 17 #[progV p ps cs, bodyV b kv ov dv] H (fun v H' => (∃ iv uv, v = .tuple #[iv, uv] ∧ RL 1 llR H' iv (inLL p b) ∧ RL 1 llR H' uv (outLL p b)) ∧ Grow H H') := by
  refine AX.body (n := 70) (rs := [.tmp 4, .tmp 5]) Try.func17 rfl (by decide) rfl rfl (bC_sound _ _ _ _ ?_)
  (conv => whnf)
  refine Ob2.box rfl fun q2 H1 hq2 a2 g1 => ?_
  (conv => whnf)
  refine Ob2.box rfl fun q3 H2 hq3 a3 g2 => ?_
  have g := g1.trans g2
  have b2' := g2.at a2
  have lp : aload Try.prog 25 (.pointer (some ⟨q2, 0, none⟩)) H2 = some (progV p ps cs) := ald_agg rfl rfl rfl (hblk_of b2') rfl
  have lb : aload Try.prog 30 (.pointer (some ⟨q3, 0, none⟩)) H2 = some (bodyV b kv ov dv) := ald_agg rfl rfl rfl (hblk_of a3) rfl
  refine run ?_
  refine (refCheck_ax (strR.grow hp g) (codeR.grow hcs g) hL (hb.grow g) hsm hib).mono ?_
  rintro v X ⟨hv, e⟩
  subst X
  rcases hv with ⟨rfl, hv⟩ | ⟨rfl, hv⟩
  rotate_left
  · refine run ?_
    exact ⟨⟨_, _, rfl, by unfold inLL; rw [if_neg hv]; exact .inl ⟨rfl, rfl⟩, by unfold outLL; rw [if_neg hv]; exact .inl ⟨rfl, rfl⟩⟩, g⟩
  obtain ⟨c, f, rg, ok⟩ := lv_ok hv hf
  generalize hloc : locOf p b = loc at ok
  have hlen := ok.len
  have hr88 := ok.r88
  have c3 := hblk_of a3
  have l4 := fun X => hb.ops.len (P := Try.prog) (t := 27) (e := 43) rfl X
  have l42 := l4 H2
  refine run ?_
  refine Ob2.of (make_slice rfl rfl rfl rfl (by decide) rfl (by omega) (by omega) (by show 24 * (b.ops.length : Int) ≤ _; omega)) ?_
  rw [nils, Int.toNat_natCast]
  obtain ⟨H3, e3, r3, g3⟩ : ∃ H3, H2 ++ [.cells (.row 35) ((List.range b.ops.length).map fun _ => Value.slice none 0 0)] = H3 ∧ TRow H2.length b.ops.length (fun _ => .slice none 0 0) H3 ∧ Grow H2 H3 := ⟨_, rfl, at_push _ _, .push _ _⟩
  have e3l : H3.length = H2.length + 1 := by rw [← e3]; simp
  rw [e3]
  have c3 := g3.hblk c3
  have l43 := l4 H3
  refine run ?_
  refine Ob2.of (make_slice rfl rfl rfl rfl (by decide) rfl (by omega) (by omega) (by show 24 * (b.ops.length : Int) ≤ _; omega)) ?_
  rw [nils, Int.toNat_natCast]
  obtain ⟨H4, e4, r4, g4⟩ : ∃ H4, H3 ++ [.cells (.row 35) ((List.range b.ops.length).map fun _ => Value.slice none 0 0)] = H4 ∧ TRow H3.length b.ops.length (fun _ => .slice none 0 0) H4 ∧ Grow H3 H4 := ⟨_, rfl, at_push _ _, .push _ _⟩
  have e4l : H4.length = H3.length + 1 := by rw [← e4]; simp
  rw [e4]
  have r34 : TRow H2.length b.ops.length (fun _ => .slice none 0 0) H4 := g4.at r3
  have g24 := g3.trans g4
  clear e3 e4 lp lb l42 l43 c3
  generalize hti : H2.length = ti at *
  generalize hto : H3.length = to_ at *
  generalize hn : b.ops.length = n at *
  refine run ?_
  refine SW.loop (α := Nat × (Nat → Value)) (fun y => [(2, .pointer (some ⟨q2, 0, none⟩)), (3, .pointer (some ⟨q3, 0, none⟩)), (6, .slice (some ⟨ti, 0, none⟩) n 1), (7, .slice (some ⟨to_, 0, none⟩) n 1), (8, .int .i64 (y.1 : Int))])
    (fun y X => y.1 ≤ rg ∧ Grow H2 X ∧ H4.length ≤ X.length ∧ TRow ti n y.2 X ∧ TRow to_ n (fun i => y.2 (n + i)) X ∧ Tab H4.length (n + n) X y.2 (soFar b loc n y.1 0 0)) (fun y => rg - y.1)
    ⟨(0, fun _ => .slice none 0 0), ⟨rfl, rfl, rfl, rfl, rfl, trivial⟩, Nat.zero_le _, g24, Nat.le_refl _, r34, r4, ⟨fun i hi => .inl ⟨rfl, by unfold soFar inN outN; simp⟩, fun i hi q ⟨_, _, h⟩ => by simp at h, fun i j q hi hj ⟨_, _, h⟩ => by simp at h⟩⟩ ?_
  rintro ⟨r, V⟩ X ⟨hr, gX, hXl, hI, hO, hT⟩
  dsimp only at hr hI hO hT ⊢
  refine bC_sound _ _ _ _ ?_
  have c2 := hblk_of (gX.at b2')
  have c3 := hblk_of (gX.at a3)
  by_cases hrl : r < rg
  rotate_left
  · have d1 : decide ((r : Int) < b.regs) = false := decide_eq_false (by rw [ok.hrg]; omega)
    have : r = rg := by omega
    subst this
    refine run ?_
    have key : ∀ i, i < n → soFar b loc n r 0 0 i = inL b loc i ∧ soFar b loc n r 0 0 (n + i) = outL b loc i := fun i hi => by
      unfold soFar
      rw [if_pos hi, if_neg (Nat.not_lt_zero _), if_neg (by omega), if_neg (Nat.not_lt_zero _), show n + i - n = i by omega]
      exact ⟨ok.inN i, ok.outN i⟩
    refine ⟨⟨_, _, rfl, ?_, ?_⟩, g.trans gX⟩
    · unfold inLL
      rw [if_pos hv, hn, hloc]
      exact hI.ll fun i hi => by have := (hT.own i (by omega)).rl; rwa [(key i hi).1] at this
    · unfold outLL
      rw [if_pos hv, hn, hloc]
      exact hO.ll fun i hi => by have := (hT.own (n + i) (by omega)).rl; rwa [(key i hi).2] at this
  have d1 : decide ((r : Int) < b.regs) = true := decide_eq_true (by rw [ok.hrg]; omega)
  have lp : aload Try.prog 25 (.pointer (some ⟨q2, 0, none⟩)) X = some (progV p ps cs) := ald_agg rfl rfl rfl c2 rfl
  have lb : aload Try.prog 30 (.pointer (some ⟨q3, 0, none⟩)) X = some (bodyV b kv ov dv) := ald_agg rfl rfl rfl c3 rfl
  refine run ?_
  have gHX := g.trans gX
  refine (Ahead_ax (codeR.grow hcs gHX) (hb.grow gHX) (by omega) ok.hF ok.hcode (hn.symm ▸ ok.tgt) (fun o ho => by have := ok.sm o ho; omega)).mono ?_
  rintro _ X1 ⟨⟨A, qa, rfl, hA, hqa, hAl, hAt⟩, gX1⟩
  rw [hn] at hAl
  rw [hn]
  rw [ok.hloc] at hAt
  have hqal : qa < X1.length := lt_at hA
  refine run ?_
  refine SW.loop (α := Nat × (Nat → Value)) (fun y => [(2, .pointer (some ⟨q2, 0, none⟩)), (3, .pointer (some ⟨q3, 0, none⟩)), (6, .slice (some ⟨ti, 0, none⟩) n 1), (7, .slice (some ⟨to_, 0, none⟩) n 1), (8, .int .i64 (r : Int)), (9, .slice (some ⟨qa, 0, none⟩) n 1), (10, .int .i64 (y.1 : Int))])
    (fun y Y => y.1 ≤ n ∧ Grow H2 Y ∧ X1.length ≤ Y.length ∧ TRow ti n y.2 Y ∧ TRow to_ n (fun i => y.2 (n + i)) Y ∧ Tab H4.length (n + n) Y y.2 (soFar b loc n r y.1 y.1) ∧ Y[qa]? = some (.cells (.row 4) (A.map Value.bool))) (fun y => n - y.1)
    ⟨(0, V), ⟨rfl, rfl, rfl, rfl, rfl, rfl, rfl, trivial⟩, Nat.zero_le _, gX.trans gX1, Nat.le_refl _, gX1.at hI, gX1.at hO, hT.grow gX1, hA⟩ ?_
  clear hI hO hT lp lb d1 c2 c3 hA
  rintro ⟨m, W⟩ Y ⟨hm, gY, hYl, hI, hO, hT, hA⟩
  dsimp only at hm hI hO hT ⊢
  refine bC_sound _ _ _ _ ?_
  have c3 := hblk_of (gY.at a3)
  have lY := l4 Y
  have hX1 := gX1.1
  by_cases hml : m < n
  rotate_left
  · have d2 : decide ((m : Int) < (n : Int)) = false := decide_eq_false (by omega)
    have w1 := w_succ (k := r) (by omega)
    have : m = n := by omega
    subst this
    refine run ?_
    refine ⟨(r + 1, W), ⟨rfl, rfl, rfl, rfl, congrArg (fun z => some (Value.int .i64 z)) w1, trivial⟩, ⟨by dsimp only; omega, gY, by omega, hI, hO, hT.ext fun i hi => ?_⟩, by dsimp only; omega⟩
    unfold soFar
    by_cases hi' : i < m
    · rw [if_pos hi', if_pos hi', if_neg (Nat.not_lt_zero _), if_pos hi']
    · rw [if_neg hi', if_neg hi', if_neg (Nat.not_lt_zero _), if_pos (by omega)]
  have d2 : decide ((m : Int) < (n : Int)) = true := decide_eq_true (by omega)
  obtain ⟨o, ho⟩ := get_lt (L := b.ops) (m := m) (by omega)
  obtain ⟨x, hx⟩ := get_lt (L := A) (m := m) (by omega)
  have ixA : aindexAddr Try.prog 39 (.slice (some ⟨qa, 0, none⟩) n 1) (.int .i64 (m : Int)) = some (.pointer (some ⟨qa, m, none⟩)) := by
    rw [idx_slice (k := 1) rfl rfl (by omega) (by omega)]; simp
  have ldA : aload Try.prog 4 (.pointer (some ⟨qa, m, none⟩)) Y = some (.bool x) := ald rfl rfl (hblk_of hA) (by simp [hx])
  have w1 := w_succ (k := m) (by omega)
  -- behind it
  have part2 : ∀ (W : Nat → Value) (Y : Heap), Grow H2 Y → X1.length ≤ Y.length → TRow ti n W Y → TRow to_ n (fun i => W (n + i)) Y → Tab H4.length (n + n) Y W (soFar b loc n r (m + 1) m) → Y[qa]? = some (.cells (.row 4) (A.map Value.bool)) → True := fun _ _ _ _ _ _ _ _ => trivial
  have sf0 : soFar b loc n r m m m = inN b loc r m := by unfold soFar; rw [if_pos hml, if_neg (by omega)]
  have sf1 : ∀ i, i < n + n → soFar b loc n r (m + 1) m i = updF (soFar b loc n r m m) m (inN b loc (r + 1) m) i := fun i hi => by
    unfold soFar updF
    by_cases e : i = m
    · subst e; rw [if_pos hml, if_pos (by omega), if_pos rfl]
    · rw [if_neg e]
      dsimp only
      by_cases hi' : i < n
      · rw [if_pos hi', if_pos hi']
        by_cases h2 : i < m
        · rw [if_pos h2, if_pos (by omega)]
        · rw [if_neg h2, if_neg (by omega)]
      · rw [if_neg hi', if_neg hi']
  have sf2 : soFar b loc n r (m + 1) m (n + m) = outN b loc r m := by unfold soFar; rw [if_neg (by omega), show n + m - n = m by omega, if_neg (by omega)]
  have sf3 : ∀ i, i < n + n → soFar b loc n r (m + 1) (m + 1) i = updF (soFar b loc n r (m + 1) m) (n + m) (outN b loc (r + 1) m) i := fun i hi => by
    unfold soFar updF
    by_cases e : i = n + m
    · subst e; rw [if_neg (by omega), show n + m - n = m by omega, if_pos (by omega), if_pos rfl]
    · rw [if_neg e]
      dsimp only
      by_cases hi' : i < n
      · rw [if_pos hi', if_pos hi']
      · rw [if_neg hi', if_neg hi']
        by_cases h2 : i - n < m
        · rw [if_pos h2, if_pos (by omega)]
        · rw [if_neg h2, if_neg (by omega)]
  clear part2
  cases x with
  | false =>
    have hno : ¬ LiveAt b loc r m := fun h => by have := (hAt m).2 h; rw [hx] at this; simp at this
    have hT1 : Tab H4.length (n + n) Y W (soFar b loc n r (m + 1) m) := hT.ext fun i hi => by
      rw [sf1 i hi]
      unfold updF
      split
      · rename_i e; rw [e, sf0, inN_no hno]
      · rfl
    refine run ?_
    have lbY : aload Try.prog 30 (.pointer (some ⟨q3, 0, none⟩)) Y = some (bodyV b kv ov dv) := ald_agg rfl rfl rfl (hblk_of (gY.at a3)) rfl
    have hAR : RL 1 boolR Y (.slice (some ⟨qa, 0, none⟩) n 1) A := hAl ▸ RL.own (g := Value.bool) (fun _ _ => rfl) hA
    refine run ?_
    refine (behind_ax (hb.grow (g.trans gY)) hAR (by omega) ho (fun t h => by rw [hAl, ← hn]; exact ok.tgt m o ho t h)).mono ?_
    rintro _ Zz ⟨⟨rb, rfl, hrb⟩, e⟩
    subst Zz
    rw [behind_live hAt ho] at hrb
    cases rb with
    | false =>
      have hno : ¬ LiveBehind b loc r m := fun h => by have := hrb.2 h; simp at this
      refine run ?_
      refine ⟨(m + 1, W), ⟨rfl, rfl, rfl, rfl, rfl, rfl, congrArg (fun z => some (Value.int .i64 z)) w1, trivial⟩, ⟨by dsimp only; omega, gY, by omega, hI, hO, (hT1).ext (fun i hi => (sf3 i hi).trans (by unfold updF; split <;> first | rfl | (rename_i e; rw [e, sf2, outN_no hno]))), hA⟩, by dsimp only; omega⟩
    | true =>
      have hyes := hrb.1 rfl
      have hTo := hT1.own (n + m) (by omega)
      obtain ⟨ta, tn, tm, hWo⟩ := hTo.form
      have l1o : aload Try.prog 35 (.pointer (some ⟨to_, m, none⟩)) Y = some ((W) (n + m)) := (hO).ld hml
      rw [hWo] at l1o
      have ixO := ix_tab (n := n) (i := m) (q := to_) hml
      refine run ?_
      refine Ob2.lay (H := Y) (.cells (.row 3) [.int .i64 (r : Int)]) (.slice (some ⟨Y.length, 0, none⟩) 1 1) rfl fun J2 jb2 je2 jl2 => ?_
      have hle := outN_len b loc r m
      obtain ⟨J3, japo, jt3, jf3⟩ := (hT1.grow je2).append (i := n + m) (by omega) jb2 (by have := je2.1; omega) (by rw [sf2]; omega)
      rw [hWo] at japo
      refine run ?_
      refine Ob2.of japo ?_
      have rO3 := jf3.2 _ _ (je2.at hO) (.inl (by omega))
      have rI3 := jf3.2 _ _ (je2.at hI) (.inl (by omega))
      have rA3 := jf3.2 _ _ (je2.at hA) (.inr fun c h => by simp at h)
      have gJ := jf3.grow (gY.trans je2) (by omega)
      have jl3 := jf3.1
      generalize hsv : Value.slice (some ⟨List.length J2, 0, none⟩) _ 1 = sv at jt3 ⊢
      have svs : vcells sv = some [sv] := by rw [← hsv]; rfl
      refine run ?_
      refine Ob.store svs rfl rfl rO3 rfl (by simp; omega) fun J4 z1 z2 z3 => ?_
      have z1 : TRow to_ n (fun i => updF (W) (n + m) sv (n + i)) J4 := by
        have e := updF_map (fun i => (W) (n + i)) n m sv
        refine z1.trans (congrArg (fun z => some (Blk.cells _ z)) (e.trans (congrArg (fun z => (List.range n).map z) (funext fun i => ?_))))
        unfold updF
        by_cases ei : i = m
        · rw [if_pos ei, if_pos (by omega)]
        · rw [if_neg ei, if_neg (by omega)]
      have z0 : TRow ti n (updF (W) (n + m) sv) J4 := by
        refine (z2.at rI3 (by omega)).trans (congrArg (fun z => some (Blk.cells _ z)) (List.map_congr_left fun i hi => ?_))
        have := List.mem_range.1 hi
        unfold updF
        by_cases ei : i = n + m
        · omega
        · rw [if_neg ei]
      refine run ?_
      refine ⟨(m + 1, updF (W) (n + m) sv), ⟨rfl, rfl, rfl, rfl, rfl, rfl, congrArg (fun z => some (Value.int .i64 z)) w1, trivial⟩, ⟨by dsimp only; omega, gJ.but_new z2 (by omega), by omega, z0, z1, ((jt3.but z2 (by omega))).ext fun i hi => by rw [sf3 i hi, sf2, outN_yes hyes], z2.at rA3 (by omega)⟩, by dsimp only; omega⟩
  | true =>
    have hyes1 : LiveAt b loc r m := (hAt m).1 hx
    have hTi := hT.own m (by omega)
    obtain ⟨sa, sn, sm, hWi⟩ := hTi.form
    have l1 := hI.ld hml
    rw [hWi] at l1
    have ixI := ix_tab (n := n) (i := m) (q := ti) hml
    refine run ?_
    refine Ob2.lay (H := Y) (.cells (.row 3) [.int .i64 (r : Int)]) (.slice (some ⟨Y.length, 0, none⟩) 1 1) rfl fun U2 b2 e2 l2 => ?_
    have hle1 := inN_len b loc r m
    obtain ⟨U3, ap, t3, f3⟩ := (hT.grow e2).append (i := m) (by omega) b2 (by have := e2.1; omega) (by rw [sf0]; omega)
    rw [hWi] at ap
    refine run ?_
    refine Ob2.of ap ?_
    have rI3 := f3.2 _ _ (e2.at hI) (.inl (by omega))
    have rO3 := f3.2 _ _ (e2.at hO) (.inl (by omega))
    have rA3 := f3.2 _ _ (e2.at hA) (.inr fun c h => by simp at h)
    have gU := f3.grow (gY.trans e2) (by omega)
    have l3 := f3.1
    generalize hsw : Value.slice (some ⟨List.length U2, 0, none⟩) _ 1 = sw at t3 ⊢
    have sws : vcells sw = some [sw] := by rw [← hsw]; rfl
    refine run ?_
    refine Ob.store sws rfl rfl rI3 rfl (by simp; omega) fun Z z1 z2 z3 => ?_
    have hI1 : TRow ti n (updF W m sw) Z := z1.trans (congrArg (fun z => some (Blk.cells _ z)) (updF_map W n m sw))
    have hO1 : TRow to_ n (fun i => updF W m sw (n + i)) Z := by
      refine (z2.at rO3 (by omega)).trans (congrArg (fun z => some (Blk.cells _ z)) (List.map_congr_left fun i hi => ?_))
      unfold updF
      rw [if_neg (by omega)]
    have hA1 := z2.at rA3 (by omega)
    have gZ := gU.but_new z2 (by omega)
    have hZl : X1.length ≤ Z.length := by omega
    have hT1 : Tab H4.length (n + n) Z (updF W m sw) (soFar b loc n r (m + 1) m) := (t3.but z2 (by omega)).ext fun i hi => by rw [sf1 i hi, sf0, inN_yes hyes1]
    clear hI hO hT hA rI3 rO3 rA3 l1 ixI lY
    have lZ := l4 Z
    refine run ?_
    have lbZ : aload Try.prog 30 (.pointer (some ⟨q3, 0, none⟩)) Z = some (bodyV b kv ov dv) := ald_agg rfl rfl rfl (hblk_of (gZ.at a3)) rfl
    have hAR : RL 1 boolR Z (.slice (some ⟨qa, 0, none⟩) n 1) A := hAl ▸ RL.own (g := Value.bool) (fun _ _ => rfl) hA1
    refine run ?_
    refine (behind_ax (hb.grow (g.trans gZ)) hAR (by omega) ho (fun t h => by rw [hAl, ← hn]; exact ok.tgt m o ho t h)).mono ?_
    rintro _ Zz ⟨⟨rb, rfl, hrb⟩, e⟩
    subst Zz
    rw [behind_live hAt ho] at hrb
    cases rb with
    | false =>
      have hno : ¬ LiveBehind b loc r m := fun h => by have := hrb.2 h; simp at this
      refine run ?_
      refine ⟨(m + 1, updF W m sw), ⟨rfl, rfl, rfl, rfl, rfl, rfl, congrArg (fun z => some (Value.int .i64 z)) w1, trivial⟩, ⟨by dsimp only; omega, gZ, by omega, hI1, hO1, (hT1).ext (fun i hi => (sf3 i hi).trans (by unfold updF; split <;> first | rfl | (rename_i e; rw [e, sf2, outN_no hno]))), hA1⟩, by dsimp only; omega⟩
    | true =>
      have hyes := hrb.1 rfl
      have hTo := hT1.own (n + m) (by omega)
      obtain ⟨ta, tn, tm, hWo⟩ := hTo.form
      have l1o : aload Try.prog 35 (.pointer (some ⟨to_, m, none⟩)) Z = some ((updF W m sw) (n + m)) := (hO1).ld hml
      rw [hWo] at l1o
      have ixO := ix_tab (n := n) (i := m) (q := to_) hml
      refine run ?_
      refine Ob2.lay (H := Z) (.cells (.row 3) [.int .i64 (r : Int)]) (.slice (some ⟨Z.length, 0, none⟩) 1 1) rfl fun J2 jb2 je2 jl2 => ?_
      have hle := outN_len b loc r m
      obtain ⟨J3, japo, jt3, jf3⟩ := (hT1.grow je2).append (i := n + m) (by omega) jb2 (by have := je2.1; omega) (by rw [sf2]; omega)
      rw [hWo] at japo
      refine run ?_
      refine Ob2.of japo ?_
      have rO3 := jf3.2 _ _ (je2.at hO1) (.inl (by omega))
      have rI3 := jf3.2 _ _ (je2.at hI1) (.inl (by omega))
      have rA3 := jf3.2 _ _ (je2.at hA1) (.inr fun c h => by simp at h)
      have gJ := jf3.grow (gZ.trans je2) (by omega)
      have jl3 := jf3.1
      generalize hsv : Value.slice (some ⟨List.length J2, 0, none⟩) _ 1 = sv at jt3 ⊢
      have svs : vcells sv = some [sv] := by rw [← hsv]; rfl
      refine run ?_
      refine Ob.store svs rfl rfl rO3 rfl (by simp; omega) fun J4 z1 z2 z3 => ?_
      have z1 : TRow to_ n (fun i => updF (updF W m sw) (n + m) sv (n + i)) J4 := by
        have e := updF_map (fun i => (updF W m sw) (n + i)) n m sv
        refine z1.trans (congrArg (fun z => some (Blk.cells _ z)) (e.trans (congrArg (fun z => (List.range n).map z) (funext fun i => ?_))))
        unfold updF
        by_cases ei : i = m
        · rw [if_pos ei, if_pos (by omega)]
        · rw [if_neg ei, if_neg (by omega)]
      have z0 : TRow ti n (updF (updF W m sw) (n + m) sv) J4 := by
        refine (z2.at rI3 (by omega)).trans (congrArg (fun z => some (Blk.cells _ z)) (List.map_congr_left fun i hi => ?_))
        have := List.mem_range.1 hi
        unfold updF
        by_cases ei : i = n + m
        · omega
        · rw [if_neg ei]
      refine run ?_
      refine ⟨(m + 1, updF (updF W m sw) (n + m) sv), ⟨rfl, rfl, rfl, rfl, rfl, rfl, congrArg (fun z => some (Value.int .i64 z)) w1, trivial⟩, ⟨by dsimp only; omega, gJ.but_new z2 (by omega), by omega, z0, z1, ((jt3.but z2 (by omega))).ext fun i hi => by rw [sf3 i hi, sf2, outN_yes hyes], z2.at rA3 (by omega)⟩, by dsimp only; omega⟩
end Go.Proofs.Ytnjckiaogikakaa
/- The reference of live: operations that nobody needs. -/
set_option linter.unusedVariables false
set_option linter.unusedSimpArgs false
set_option maxRecDepth 20000
set_option maxHeartbeats 4000000
namespace Go.Proofs.Ytnjckiaogikakaa
open Go Ax
theorem mem_outL {b : BodyX} {loc i : Nat} {a : Int} (h0 : 0 ≤ a) (h1 : a < 128) : a ∈ outL b loc i ↔ LiveBehind b loc a.toNat i := by
  unfold outL
  simp only [List.mem_map, List.mem_filter, List.mem_range, decide_eq_true_eq]
  constructor
  · rintro ⟨n, ⟨_, h⟩, rfl⟩
    rwa [Int.toNat_natCast]
  · intro h
    exact ⟨a.toNat, ⟨by omega, h⟩, by omega⟩
theorem mem_inL {b : BodyX} {loc i : Nat} {a : Int} (h0 : 0 ≤ a) (h1 : a < 128) : a ∈ inL b loc i ↔ LiveAt b loc a.toNat i := by
  unfold inL
  simp only [List.mem_map, List.mem_filter, List.mem_range, decide_eq_true_eq]
  constructor
  · rintro ⟨n, ⟨_, h⟩, rfl⟩
    rwa [Int.toNat_natCast]
  · intro h
    exact ⟨a.toNat, ⟨by omega, h⟩, by omega⟩
open Classical in
theorem outL_len (b : BodyX) (loc i : Nat) : (outL b loc i).length ≤ 128 := by
  unfold outL
  rw [List.length_map]
  have := List.length_filter_le (fun r => decide (LiveBehind b loc r i)) (List.range 128)
  rwa [List.length_range] at this
open Classical in
theorem inL_len (b : BodyX) (loc i : Nat) : (inL b loc i).length ≤ 128 := by
  unfold inL
  rw [List.length_map]
  have := List.length_filter_le (fun r => decide (LiveAt b loc r i)) (List.range 128)
  rwa [List.length_range] at this
theorem outLL_at {p : ProgT} {b : BodyX} {j : Nat} (h : j < (outLL p b).length) : CheckB p b ∧ j < b.ops.length ∧ (outLL p b)[j]? = some (outL b (locOf p b) j) := by
  unfold outLL at h ⊢
  by_cases hv : CheckB p b
  · rw [if_pos hv] at h ⊢
    rw [List.length_map, List.length_range] at h
    exact ⟨hv, h, by rw [List.getElem?_map, List.getElem?_range h]; rfl⟩
  · rw [if_neg hv] at h
    simp at h
theorem outLL_len {p : ProgT} {b : BodyX} : (outLL p b).length ≤ b.ops.length := by
  unfold outLL
  split
  · rw [List.length_map, List.length_range]; omega
  · simp
theorem inLL_len {p : ProgT} {b : BodyX} : (inLL p b).length ≤ b.ops.length := by
  unfold inLL
  split
  · rw [List.length_map, List.length_range]; omega
  · simp
theorem dead_all {p : ProgT} {b : BodyX} : deadN p b (outLL p b).length = deadL p b := by
  unfold deadL outLL
  by_cases hv : CheckB p b
  · rw [if_pos hv, if_pos hv, List.length_map, List.length_range]
  · rw [if_neg hv, if_neg hv]; rfl
theorem ldx_opA {H : Heap} {sv : Value} {L : List OpX} (h : RL 9 opxR H sv L) {i : Nat} {o : OpX} (hx : L[i]? = some o) :
    ∃ b, aindexAddr Try.prog 27 sv (.int .i64 (i : Int)) = some (.pointer (some ⟨b, i * 9, none⟩)) ∧ ∀ H', Grow H H' → aload Try.prog 3 (.pointer (some ⟨b, i * 9 + 1, none⟩)) H' = some (.int .i64 o.a) := by
  obtain ⟨b, c, l, h1, h2, h3, rv, cv, mv, rfl, h5, h6, h7⟩ := h.at (P := Try.prog) (t := 27) (e := 43) rfl rfl hx
  exact ⟨b, h1, fun H' g => ald rfl rfl (g.hblk h2) (slots_get (j := 1) h3 rfl)⟩
theorem refDead_ax {H : Heap} {p : ProgT} {ps cs kv ov dv : Value} {b : BodyX} (hp : RL 1 strR H ps p.2.1) (hcs : RL 5 codeR H cs p.2.2) (hL : p.2.1.length < 4294967296) (hb : BodyIn H b kv ov dv) (hsm : SmallB b) (hib : IntB b) (hf : FewB b 120) :
    AX Try.prog 12 #[progV p ps cs, bodyV b kv ov dv] H (fun v H' => RL 1 intR H' v (deadL p b) ∧ Grow H H') := by
  refine AX.body (n := 46) (rs := [.tmp 4]) Try.func12 rfl (by decide) rfl rfl (bC_sound _ _ _ _ ?_)
  (conv => whnf)
  refine Ob2.box rfl fun q2 H1 hq2 a2 g1 => ?_
  (conv => whnf)
  refine Ob2.box rfl fun q3 H2 hq3 a3 g2 => ?_
  have g := g1.trans g2
  have lp : aload Try.prog 25 (.pointer (some ⟨q2, 0, none⟩)) H2 = some (progV p ps cs) := ald_agg rfl rfl rfl (hblk_of (g2.at a2)) rfl
  have lb : aload Try.prog 30 (.pointer (some ⟨q3, 0, none⟩)) H2 = some (bodyV b kv ov dv) := ald_agg rfl rfl rfl (hblk_of a3) rfl
  refine run ?_
  refine (Both_ax (strR.grow hp g) (codeR.grow hcs g) hL (hb.grow g) hsm hib hf).mono ?_
  rintro _ H3 ⟨⟨iv, uv, rfl, hI, hO⟩, g3⟩
  have gH3 := g.trans g3
  have hol := outLL_len (p := p) (b := b)
  have hfo := hf.ops
  generalize hOL : outLL p b = OL at hO hol
  refine run ?_
  refine SW.loop (α := Nat × Value) (fun y => [(3, .pointer (some ⟨q3, 0, none⟩)), (6, uv), (7, y.2), (8, .int .i64 (y.1 : Int))])
    (fun y X => y.1 ≤ OL.length ∧ Grow H3 X ∧ OwnR 1 3 intR X y.2 (deadN p b y.1) ∧ ∀ q, blkIs y.2 q → H3.length ≤ q) (fun y => OL.length - y.1)
    ⟨(0, .slice none 0 0), ⟨rfl, rfl, rfl, rfl, trivial⟩, Nat.zero_le _, .refl _, .inl ⟨rfl, rfl⟩, fun q ⟨_, _, h⟩ => by simp at h⟩ ?_
  clear lp lb
  rintro ⟨j, lv⟩ X ⟨hj, gX, hlv, hbk⟩
  dsimp only at hj hlv hbk ⊢
  have c3 := hblk_of (gX.at (g3.at a3))
  have lo := hO.len (P := Try.prog) (t := 37) (e := 35) rfl X
  refine bC_sound _ _ _ _ ?_
  by_cases hjl : j < OL.length
  rotate_left
  · have d1 : decide ((j : Int) < (OL.length : Int)) = false := decide_eq_false (by omega)
    have : j = OL.length := by omega
    subst this
    refine run ?_
    refine ⟨?_, gH3.trans gX⟩
    rw [← dead_all, hOL]
    exact hlv.rl
  have d1 : decide ((j : Int) < (OL.length : Int)) = true := decide_eq_true (by omega)
  obtain ⟨hv, hjn, hat⟩ := outLL_at (p := p) (b := b) (j := j) (by rw [hOL]; exact hjl)
  rw [hOL] at hat
  obtain ⟨c, f, rg, ok⟩ := lv_ok hv hf
  have hr88 := ok.r88
  obtain ⟨o, ho⟩ := get_lt (L := b.ops) (m := j) hjn
  have hom := List.mem_of_getElem? ho
  obtain ⟨bz, rv, cv, mv, i5, jr, jc, jm, i6⟩ := ldx_op hb.ops ho
  have i7 := (i6 X (gH3.trans gX)).1
  obtain ⟨bz', i5', i8⟩ := ldx_opA hb.ops ho
  rw [i5] at i5'
  simp only [Option.some.injEq, Value.pointer.injEq, Addr.mk.injEq] at i5'
  obtain ⟨rfl, _, _⟩ := i5'
  have i9 := i8 X (gH3.trans gX)
  obtain ⟨px, u, p1, pu, p2⟩ := ll_at hO hat
  have p3 := p2 X gX
  have w1 := w_succ (k := j) (by omega)
  refine run ?_
  apply SW.drawH [(0, [], [23], false), (1, [(21, 0)], [21, 23], false), (2, [], [21, 22], false), (3, [(21, 0), (22, 1), (23, 2)], [21, 22, 23], false), (4, [(21, 0), (22, 1), (23, 2), (24, 3)], [21, 22, 23, 24], false), (5, [(21, 0), (22, 1), (23, 2), (24, 3), (25, 4)], [21, 22, 23, 24, 25], true), (6, [(21, 0), (22, 1), (23, 2), (24, 3), (25, 4), (26, 5)], [21, 22, 23, 24, 25, 26], false), (7, [(21, 0), (22, 1), (23, 2), (24, 3), (25, 4), (26, 5), (27, 6)], [21, 22, 23, 24, 25, 26, 27, 29, 32, 33, 34, 35, 36, 37], false), (8, [(21, 0), (22, 1), (23, 2), (24, 3), (25, 4), (26, 5), (27, 6)], [21, 22, 23, 24, 25, 26, 27, 28, 32, 33, 34, 35, 36, 37], false), (9, [(21, 0), (22, 1), (23, 2), (24, 3), (25, 4), (26, 5), (27, 6), (28, 7), (29, 8)], [21, 22, 23, 24, 25, 26, 27, 28, 29, 32, 33, 34, 35, 36, 37], false), (10, [(21, 0), (22, 1), (23, 2), (24, 3), (25, 4), (26, 5), (27, 6), (28, 7), (29, 8), (30, 9)], [21, 22, 23, 24, 25, 26, 27, 28, 29, 30, 32, 33, 34, 35, 36, 37], false), (11, [(21, 0), (22, 1), (23, 2), (24, 3), (25, 4), (26, 5), (27, 6)], [21, 22, 23, 24, 25, 26, 27, 28, 29, 30, 31, 34], false), (12, [(21, 0), (22, 1), (23, 2), (24, 3), (25, 4), (26, 5), (27, 6), (32, 11)], [21, 22, 23, 24, 25, 26, 27, 28, 29, 30, 31, 32, 34], false), (13, [(21, 0), (22, 1), (23, 2), (24, 3), (25, 4), (26, 5), (27, 6)], [21, 22, 23, 24, 25, 26, 27, 28, 29, 30, 31, 32, 33], false), (14, [(21, 0), (22, 1), (23, 2), (24, 3), (25, 4), (26, 5), (27, 6), (32, 11), (33, 12), (34, 13)], [21, 22, 23, 24, 25, 26, 27, 28, 29, 30, 31, 32, 33, 34], false), (15, [(21, 0), (22, 1), (23, 2), (24, 3), (25, 4), (26, 5), (27, 6), (32, 11), (33, 12), (34, 13), (35, 14)], [21, 22, 23, 24, 25, 26, 27, 28, 29, 30, 31, 32, 33, 34, 35], false), (16, [(21, 0), (22, 1), (23, 2), (24, 3), (25, 4), (26, 5), (27, 6), (32, 11), (33, 12), (34, 13), (35, 14), (36, 15)], [21, 22, 23, 24, 25, 26, 27, 28, 29, 30, 31, 32, 33, 34, 35, 36], false), (17, [(21, 0), (22, 1), (23, 2), (24, 3), (25, 4), (26, 5), (27, 6), (28, 7), (29, 8), (30, 9), (31, 10), (32, 11), (33, 12), (34, 13), (35, 14), (36, 15), (37, 16)], [21, 22, 23, 24, 25, 26, 27, 28, 29, 30, 31, 32, 33, 34, 35, 36, 37], true), (18, [(21, 0), (22, 1), (23, 2), (24, 3), (25, 4), (26, 5), (27, 6), (28, 7), (29, 8), (30, 9), (31, 10), (32, 11), (33, 12), (34, 13), (35, 14), (36, 15), (37, 16), (38, 17)], [21, 22, 23, 24, 25, 26, 27, 28, 29, 30, 31, 32, 33, 34, 35, 36, 37, 38], false), (19, [(21, 0), (22, 1), (23, 2), (24, 3), (25, 4), (26, 5), (27, 6), (28, 7), (29, 8), (30, 9), (31, 10), (32, 11), (33, 12), (34, 13), (35, 14), (36, 15), (37, 16), (38, 17), (39, 18)], [21, 22, 23, 24, 25, 26, 27, 28, 29, 30, 31, 32, 33, 34, 35, 36, 37, 38, 39], false)]
    [(21, 0), (22, 1), (23, 2), (24, 3), (25, 4), (26, 5), (27, 6), (28, 7), (29, 8), (30, 9), (31, 10), (32, 11), (33, 12), (34, 13), (35, 14), (36, 15), (37, 16), (38, 17), (39, 18), (40, 19)] []
    [(3, _), (6, _), (7, _), (8, _)] rfl (by kernel_rfl)
  case hF => exact ⟨rfl, rfl, rfl, rfl, trivial⟩
  refine run ?_
  refine (refPure_ax X o rv cv mv).mono ?_
  rintro _ Z ⟨rfl, e⟩
  subst Z
  by_cases hP : PureP o
  · obtain ⟨_, pa0, pa1⟩ := ok.pure o hom hP
    rw [decide_eq_true hP]
    refine run ?_
    refine (hasRef_ax (intR.grow pu gX) (by have := outL_len b (locOf p b) j; omega) o.a).mono ?_
    rintro _ Z ⟨rfl, e'⟩
    subst Z
    have hmm := mem_outL (b := b) (loc := locOf p b) (i := j) pa0 (by omega)
    by_cases hmr : o.a ∈ outL b (locOf p b) j
    · have hn : ¬ DeadP p b j := fun ⟨o', h1, h2, h3⟩ => by
        rw [ho] at h1
        simp only [Option.some.injEq] at h1
        subst h1
        exact h3 (hmm.1 hmr)
      rw [decide_eq_true hmr]
      refine run ?_
      exact ⟨(j + 1, lv), ⟨rfl, rfl, rfl, congrArg (fun z => some (Value.int .i64 z)) w1, trivial⟩, ⟨by dsimp only; omega, gX, by rw [deadN_no hn]; exact hlv, hbk⟩, by dsimp only; omega⟩
    · have hd : DeadP p b j := ⟨o, ho, hP, fun h => hmr (hmm.2 h)⟩
      obtain ⟨sa, sn, sm, rfl⟩ := hlv.form
      rw [decide_eq_false hmr]
      refine run ?_
      refine Ob2.lay (H := X) (.cells (.row 3) [.int .i64 (j : Int)]) (.slice (some ⟨X.length, 0, none⟩) 1 1) rfl fun U2 b2 e2 l2 => ?_
      have hdl := deadN_len p b j
      have hXl := gX.1
      obtain ⟨U3, ap, o3, f3, n3⟩ := OwnR.append (n := H3.length) (x := (j : Int)) rowInt rowInt (hlv.keep (fun b c _ h => e2.at h) fun _ _ _ h => h) b2 rfl rfl hbk (by omega) (by omega) (fun _ _ _ _ _ h => h)
      refine run ?_
      refine Ob2.of ap ?_
      refine run ?_
      refine ⟨(j + 1, _), ⟨rfl, rfl, rfl, congrArg (fun z => some (Value.int .i64 z)) w1, trivial⟩, ⟨by dsimp only; omega, f3.grow (gX.trans e2) (Nat.le_refl _), by rw [deadN_yes hd]; exact o3, fun q hq => ?_⟩, by dsimp only; omega⟩
      obtain ⟨n', k', hq⟩ := hq
      simp only [Value.slice.injEq, Option.some.injEq, Addr.mk.injEq, and_true] at hq
      omega
  · have hn : ¬ DeadP p b j := fun ⟨o', h1, h2, h3⟩ => by
      rw [ho] at h1
      simp only [Option.some.injEq] at h1
      subst h1
      exact hP h2
    rw [decide_eq_false hP]
    refine run ?_
    exact ⟨(j + 1, lv), ⟨rfl, rfl, rfl, congrArg (fun z => some (Value.int .i64 z)) w1, trivial⟩, ⟨by dsimp only; omega, gX, by rw [deadN_no hn]; exact hlv, hbk⟩, by dsimp only; omega⟩
end Go.Proofs.Ytnjckiaogikakaa
/- The laws of live: the small body that works. -/
set_option linter.unusedVariables false
set_option linter.unusedSimpArgs false
set_option maxRecDepth 20000
set_option maxHeartbeats 4000000
namespace Go.Proofs.Ytnjckiaogikakaa
open Go Ax
def oC : OpX := (2, 0, 0, 0, 0, [], [], 0, [])
def oR : OpX := (24, 0, 0, 0, 0, [], [], 1, [0])
def bL : BodyX := (0, 1, [(0, 0, ⟨#[]⟩)], [oC, oC, oR], [])
theorem bL_ok : CheckB p1 bL := by
  obtain ⟨L, hL⟩ := (p1_ok.2.2.2.2.2.2 0 c1 rfl).2.2
  have l0 : L[0]? = some 0 := hL.inv.2
  have l1 : L[1]? = some 1 := hL.reach (Reach.step (c := c1) (i := 0) (d := 0) (x := (2, 0, 0)) (k := 0) (t := 1) .start rfl (by decide) (by decide) (by decide) (by decide) (by decide))
  have hl : L.length = 2 := hL.inv.1
  have dC : bL.consts = [(0, 0, ⟨#[]⟩)] := rfl
  have dO : bL.ops = [(2, 0, 0, 0, 0, [], [], 0, []), (2, 0, 0, 0, 0, [], [], 0, []), (24, 0, 0, 0, 0, [], [], 1, [0])] := rfl
  have dD : bL.deps = [] := rfl
  refine ⟨p1_ok, by decide, c1, L, rfl, ⟨by decide, by decide, by decide, by decide, by decide, by decide⟩, fun x hx => ?_, fun x hx => by rw [dD] at hx; simp at hx, hL, fun i o hi ho => ?_, .inr (by decide)⟩
  · rw [dC] at hx
    simp only [List.mem_singleton] at hx; subst hx; exact ⟨fun _ => rfl, .inl ⟨rfl, rfl⟩⟩
  · rw [dO] at ho hi ⊢
    match i, hi, ho with
    | 0, _, ho =>
      simp only [List.getElem?_cons_zero, Option.some.injEq] at ho; subst ho
      refine ⟨by decide, ⟨by decide, by decide, fun x hx => absurd hx List.not_mem_nil, fun _ => rfl, fun h => absurd h (by decide)⟩, parts4.2 ⟨by decide, by decide, by decide, by decide⟩, ⟨by decide, by show (0 : Int) < _; omega, l0, fun x hx => absurd hx List.not_mem_nil⟩, fun h => absurd h (by decide)⟩
    | 1, _, ho =>
      simp only [List.getElem?_cons_zero, List.getElem?_cons_succ, Option.some.injEq] at ho; subst ho
      refine ⟨by decide, ⟨by decide, by decide, fun x hx => absurd hx List.not_mem_nil, fun _ => rfl, fun h => absurd h (by decide)⟩, parts4.2 ⟨by decide, by decide, by decide, by decide⟩, ⟨by decide, by show (0 : Int) < _; omega, l0, fun x hx => absurd hx List.not_mem_nil⟩, fun h => absurd h (by decide)⟩
    | 2, _, ho =>
      simp only [List.getElem?_cons_zero, List.getElem?_cons_succ, Option.some.injEq] at ho; subst ho
      refine ⟨by decide, ⟨by decide, by decide, fun x hx => absurd hx List.not_mem_nil, fun _ => rfl, fun h => absurd h (by decide)⟩, parts4.2 ⟨by decide, by decide, by decide, by decide⟩, ⟨by decide, by show (1 : Int) < _; omega, l1, fun x hx => ?_⟩, fun h => absurd h (by decide)⟩
      have hx : x ∈ [(0 : Int)] := hx
      simp only [List.mem_singleton] at hx; subst hx; decide
    | i + 3, hi, _ => simp only [List.length_cons, List.length_nil] at hi; omega
theorem bL_few : FewB bL 120 := ⟨by decide, by decide, by decide, fun o ho => by
  have ho : o ∈ [oC, oC, oR] := ho
  simp only [List.mem_cons, List.not_mem_nil, or_false] at ho
  rcases ho with rfl | rfl | rfl <;> decide⟩
theorem bL_small : SmallB bL := by
  refine ⟨fun x hx => ?_, by decide, by decide, by decide, fun o ho => ?_⟩
  · have hx : x ∈ [((0 : Int), (0 : Int), (⟨#[]⟩ : ByteArray))] := hx
    simp only [List.mem_singleton] at hx; subst hx; decide
  · have ho : o ∈ [oC, oC, oR] := ho
    simp only [List.mem_cons, List.not_mem_nil, or_false] at ho
    rcases ho with rfl | rfl | rfl <;> decide
theorem bL_2 (r : Nat) : LiveAt bL ((0 : Nat) : Int) r 2 ↔ r = 0 := by
  rw [live_iff (o := oR) rfl]
  have e : usesL oR = [0] := by decide
  constructor
  · rintro (h | ⟨_, o, t, h1, h2, _⟩)
    · unfold NeedP at h
      rw [e] at h
      rcases h with h | h | h
      · omega
      · simp only [List.mem_singleton] at h; omega
      · have h : (r : Int) ∈ [(0 : Int)] := h
        simp only [List.mem_singleton] at h; omega
    · have h1 : some oR = some o := h1
      simp only [Option.some.injEq] at h1
      subst h1
      have : tgtL oR 2 = [] := by decide
      rw [show ((2 : Nat) : Int) = 2 from rfl, this] at h2
      simp at h2
  · rintro rfl
    exact .inl (.inr (.inl (by rw [e]; simp)))
theorem bL_b1 (r : Nat) : LiveBehind bL ((0 : Nat) : Int) r 1 ↔ r = 0 := by
  have e : tgtL oC 1 = [2] := by decide
  constructor
  · rintro ⟨o, t, h1, h2, h3⟩
    have h1 : some oC = some o := h1
    simp only [Option.some.injEq] at h1
    subst h1
    rw [show ((1 : Nat) : Int) = 1 from rfl, e] at h2
    simp only [List.mem_singleton] at h2
    subst h2
    exact (bL_2 r).1 h3
  · intro h
    exact ⟨oC, 2, rfl, by rw [show ((1 : Nat) : Int) = 1 from rfl, e]; simp, (bL_2 r).2 h⟩
theorem oC_need (r : Nat) : ¬ NeedP oC ((0 : Nat) : Int) r := by
  have e : usesL oC = [] := by decide
  have e2 : oC.map = [] := rfl
  unfold NeedP
  rw [e, e2]
  simp
theorem bL_1 (r : Nat) : ¬ LiveAt bL ((0 : Nat) : Int) r 1 := by
  rw [live_iff (o := oC) rfl, bL_b1]
  rintro (h | ⟨h, rfl⟩)
  · exact oC_need r h
  · exact h (by decide)
theorem bL_b0 (r : Nat) : ¬ LiveBehind bL ((0 : Nat) : Int) r 0 := by
  have e : tgtL oC 0 = [1] := by decide
  rintro ⟨o, t, h1, h2, h3⟩
  have h1 : some oC = some o := h1
  simp only [Option.some.injEq] at h1
  subst h1
  rw [show ((0 : Nat) : Int) = 0 from rfl, e] at h2
  simp only [List.mem_singleton] at h2
  subst h2
  exact bL_1 r h3
theorem bL_0 (r : Nat) : ¬ LiveAt bL ((0 : Nat) : Int) r 0 := by
  rw [live_iff (o := oC) rfl]
  rintro (h | ⟨_, h⟩)
  · exact oC_need r h
  · exact bL_b0 r h
theorem bL_loc : locOf p1 bL = 0 := by decide
open Classical in
theorem bL_in : inLL p1 bL = [[], [], [0]] := by
  unfold inLL
  rw [if_pos bL_ok, bL_loc]
  show [inL bL 0 0, inL bL 0 1, inL bL 0 2] = _
  have e0 : inL bL 0 0 = [] := by
    unfold inL
    rw [List.filter_eq_nil_iff.2 fun a _ h => bL_0 a (of_decide_eq_true h)]; rfl
  have e1 : inL bL 0 1 = [] := by
    unfold inL
    rw [List.filter_eq_nil_iff.2 fun a _ h => bL_1 a (of_decide_eq_true h)]; rfl
  have e2 : inL bL 0 2 = [0] := by
    unfold inL
    rw [List.filter_congr (q := fun r => Nat.beq r 0) fun r _ => by
      rw [Bool.eq_iff_iff, decide_eq_true_eq, bL_2]
      exact ⟨fun h => by subst h; rfl, fun h => Nat.eq_of_beq_eq_true h⟩]
    decide
  rw [e0, e1, e2]
theorem bL_dead : deadL p1 bL = [0] := by
  unfold deadL
  rw [if_pos bL_ok]
  show deadN p1 bL 3 = _
  have d0 : DeadP p1 bL 0 := ⟨oC, rfl, by decide, by rw [bL_loc]; exact bL_b0 _⟩
  have d1 : ¬ DeadP p1 bL 1 := fun ⟨o, h1, h2, h3⟩ => by
    have h1 : some oC = some o := h1
    simp only [Option.some.injEq] at h1
    subst h1
    rw [bL_loc] at h3
    exact h3 ((bL_b1 _).2 rfl)
  have d2 : ¬ DeadP p1 bL 2 := fun ⟨o, h1, h2, h3⟩ => by
    have h1 : some oR = some o := h1
    simp only [Option.some.injEq] at h1
    subst h1
    exact absurd h2 (by decide)
  rw [deadN_no d2, deadN_no d1, deadN_yes d0]
  rfl
theorem lvWorks_ax (H : Heap) : AX Try.prog 9 #[] H (fun r H' => r = .bool true ∧ H' = H) := by
  refine AX.quiet ?_
  suffices hh : AX Try.prog 9 #[] H (fun v H' => v = .bool true ∧ Grow H H') from hh.mono fun v _ ⟨e, g⟩ => ⟨e ▸ plain_bool _, e, g⟩
  refine AX.body (n := 53) (rs := [.tmp 0]) Try.func9 rfl (by decide) rfl rfl (bC_sound _ _ _ _ ?_)
  refine run ?_
  refine Ob2.lay (H := H) (.cells (.row 58) [.int .i64 2, .int .i64 0, .int .i64 0, .int .i64 32, .int .i64 0, .int .i64 0]) (.slice (some ⟨H.length, 0, none⟩) 2 3) rfl fun H1 a1 g1 l1 => ?_
  refine run ?_
  refine Ob2.lay (H := H1) (.cells (.row 48) [.int .i64 0, .int .i64 0, .int .i64 0, .int .i64 1, .slice (some ⟨H.length, 0, none⟩) 2 3]) (.slice (some ⟨H1.length, 0, none⟩) 1 5) rfl fun H2 a2 g2 l2 => ?_
  refine run ?_
  refine Ob2.alloc rfl fun q3 H3 hq3 a3 g3 => ?_
  refine run ?_
  refine Ob.store rfl rfl rfl a3 rfl (by first | exact Nat.le_of_ble_eq_true rfl | simp) fun H4 s4 k4 l4 => ?_
  have g4 : Grow H2 H4 := g3.but_new k4 (by omega)
  refine run ?_
  refine Ob2.lay (H := H4) (.cells (.row 56) [.int .i64 0, .int .i64 0, .string ⟨#[]⟩]) (.slice (some ⟨H4.length, 0, none⟩) 1 3) rfl fun H5 a5 g5 l5 => ?_
  refine run ?_
  refine Ob2.lay (H := H5) (.cells (.row 3) [.int .i64 0]) (.slice (some ⟨H5.length, 0, none⟩) 1 1) rfl fun H6 a6 g6 l6 => ?_
  refine run ?_
  refine Ob2.lay (H := H6) (.cells (.row 43) [.int .i64 2, .int .i64 0, .int .i64 0, .int .i64 0, .int .i64 0, .slice none 0 0, .slice none 0 0, .int .i64 0, .slice none 0 0, .int .i64 2, .int .i64 0, .int .i64 0, .int .i64 0, .int .i64 0, .slice none 0 0, .slice none 0 0, .int .i64 0, .slice none 0 0, .int .i64 24, .int .i64 0, .int .i64 0, .int .i64 0, .int .i64 0, .slice none 0 0, .slice none 0 0, .int .i64 1, .slice (some ⟨H5.length, 0, none⟩) 1 1]) (.slice (some ⟨H6.length, 0, none⟩) 3 9) rfl fun H7 a7 g7 l7 => ?_
  refine run ?_
  refine Ob2.alloc rfl fun q8 H8 hq8 a8 g8 => ?_
  refine run ?_
  refine Ob.store rfl rfl rfl a8 rfl (by first | exact Nat.le_of_ble_eq_true rfl | simp) fun H9 s9 k9 l9 => ?_
  have g9 : Grow H7 H9 := g8.but_new k9 (by omega)
  have g49 : Grow H4 H9 := ((g5.trans g6).trans g7).trans g9
  have g : Grow H H9 := ((g1.trans g2).trans g4).trans g49
  have r1 : RL 3 insR H9 (.slice (some ⟨H.length, 0, none⟩) 2 3) c1.ins := .inr ⟨_, rfl, .inr ⟨_, _, g49.at (g4.at (g2.at a1)), fun i x hx => by
    match i, hx with
    | 0, hx => simp [c1, CodeT.ins] at hx; subst hx; exact ⟨_, rfl, rfl⟩
    | 1, hx => simp [c1, CodeT.ins] at hx; subst hx; exact ⟨_, rfl, rfl⟩
    | i + 2, hx => simp [c1, CodeT.ins] at hx⟩⟩
  have r3 : RL 5 codeR H9 (.slice (some ⟨H1.length, 0, none⟩) 1 5) p1.2.2 := .inr ⟨_, rfl, .inr ⟨_, _, g49.at (g4.at a2), fun i x hx => by
    match i, hx with
    | 0, hx => simp [p1] at hx; subst hx; exact ⟨_, rfl, _, rfl, r1⟩
    | i + 1, hx => simp [p1] at hx⟩⟩
  have rb : BodyIn H9 bL (.slice (some ⟨H4.length, 0, none⟩) 1 3) (.slice (some ⟨H6.length, 0, none⟩) 3 9) (.slice none 0 0) := by
    have m0 : RL 1 intR H9 (.slice (some ⟨H5.length, 0, none⟩) 1 1) [0] := RL.own (g := Value.int .i64) (L := [0]) (fun _ _ => rfl) (g9.at (g7.at a6))
    refine ⟨.inr ⟨_, rfl, .inr ⟨_, _, g9.at (g7.at (g6.at a5)), fun i x hx => ?_⟩⟩, .inr ⟨_, rfl, .inr ⟨_, _, g9.at a7, fun i x hx => ?_⟩⟩, .inl ⟨rfl, rfl⟩⟩
    · have hx : [((0 : Int), (0 : Int), (⟨#[]⟩ : ByteArray))][i]? = some x := hx
      match i, hx with
      | 0, hx => simp only [List.getElem?_cons_zero, Option.some.injEq] at hx; subst hx; exact ⟨_, rfl, rfl⟩
      | i + 1, hx => simp at hx
    · have hx : [oC, oC, oR][i]? = some x := hx
      match i, hx with
      | 0, hx => simp only [List.getElem?_cons_zero, Option.some.injEq] at hx; subst hx; exact ⟨_, rfl, _, _, _, rfl, .inl ⟨rfl, rfl⟩, .inl ⟨rfl, rfl⟩, .inl ⟨rfl, rfl⟩⟩
      | 1, hx => simp only [List.getElem?_cons_zero, List.getElem?_cons_succ, Option.some.injEq] at hx; subst hx; exact ⟨_, rfl, _, _, _, rfl, .inl ⟨rfl, rfl⟩, .inl ⟨rfl, rfl⟩, .inl ⟨rfl, rfl⟩⟩
      | 2, hx => simp only [List.getElem?_cons_zero, List.getElem?_cons_succ, Option.some.injEq] at hx; subst hx; exact ⟨_, rfl, _, _, _, rfl, .inl ⟨rfl, rfl⟩, .inl ⟨rfl, rfl⟩, m0⟩
      | i + 3, hx => simp at hx
  have b1 := g49.at s4
  have b2 := s9
  clear a1 a2 a3 a5 a6 a7 a8 g1 g2 g3 g4 g5 g6 g7 g8 g9 k4 k9
  have lp : aload Try.prog 25 (.pointer (some ⟨q3, 0, none⟩)) H9 = some (progV p1 (.slice none 0 0) (.slice (some ⟨H1.length, 0, none⟩) 1 5)) := ald_agg rfl rfl rfl (hblk_of b1) rfl
  have lb : aload Try.prog 30 (.pointer (some ⟨q8, 0, none⟩)) H9 = some (bodyV bL (.slice (some ⟨H4.length, 0, none⟩) 1 3) (.slice (some ⟨H6.length, 0, none⟩) 3 9) (.slice none 0 0)) := ald_agg rfl rfl rfl (hblk_of b2) rfl
  refine run ?_
  refine (Dead_ax (p := p1) (b := bL) (.inl ⟨rfl, rfl⟩) r3 (by decide) rb bL_small bL_few).mono ?_
  rintro u H10 ⟨hu, g10⟩
  rw [bL_dead] at hu
  have lp := aload_grow g10 lp
  have lb := aload_grow g10 lb
  refine run ?_
  refine (In_ax (p := p1) (b := bL) (.inl ⟨rfl, rfl⟩) (codeR.grow r3 g10) (by decide) (rb.grow g10) bL_small bL_few).mono ?_
  rintro w H11 ⟨hw, g11⟩
  rw [bL_in] at hw
  have hu := intR.grow hu g11
  have l1 : alen Try.prog 35 u H11 = some (.int .i64 1) := hu.len rfl _
  have l2 : alen Try.prog 37 w H11 = some (.int .i64 3) := hw.len rfl _
  obtain ⟨x0, i0, j0⟩ := ld_int hu (i := 0) rfl
  have i0 : aindexAddr Try.prog 35 u (.int .i64 0) = some x0 := i0
  have j0 := j0 H11 (.refl _)
  obtain ⟨y0, u0, k0, ru0, m0⟩ := ll_at hw (i := 0) rfl
  have k0 : aindexAddr Try.prog 37 w (.int .i64 0) = some y0 := k0
  have m0 := m0 H11 (.refl _)
  have n0 : alen Try.prog 35 u0 H11 = some (.int .i64 0) := ru0.len rfl _
  obtain ⟨y2, u2, k2, ru2, m2⟩ := ll_at hw (i := 2) rfl
  have k2 : aindexAddr Try.prog 37 w (.int .i64 2) = some y2 := k2
  have m2 := m2 H11 (.refl _)
  have n2 : alen Try.prog 35 u2 H11 = some (.int .i64 1) := ru2.len rfl _
  refine run ?_
  exact ⟨rfl, g.trans (g10.trans g11)⟩
end Go.Proofs.Ytnjckiaogikakaa
