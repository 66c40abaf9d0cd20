/- Package compile: Unit, behind scope.Check. -/
import Derived.Test.YtmdjepfpgmignaaJSc5
set_option linter.unusedVariables false
set_option linter.unusedSimpArgs false
set_option maxRecDepth 20000
set_option maxHeartbeats 8000000
namespace Go.Proofs.Ytmdjepfpgmignaa
open Go Ax
abbrev US := List ByteArray × List CodeT
def codeOf (L : List ByteArray) (f : FnT) : CodeT := (f.1, f.2.1, ((fnS L f).sites : Int), (fnS L f).most, (fnS L f).ins)
def stU (u : US) (f : FnT) : US := ((fnS u.1 f).pool, u.2 ++ [codeOf u.1 f])
def unitU (fs : List FnT) : US := fs.foldl stU ([], [])
def unitE : List ByteArray → List FnT → Int
  | L, [] => if 120 < L.length then 5 else 0
  | L, f :: fs => if fnE (fnS L f) = 0 then unitE (fnS L f).pool fs else fnE (fnS L f)
def codeO (H : Heap) (l : List Value) (c : CodeT) : Prop := ∃ iv, l = [.int .i64 c.1, .int .i64 c.2.1, .int .i64 c.2.2.1, .int .i64 c.2.2.2.1, iv] ∧ OwnR 3 39 insR H iv c.2.2.2.2
theorem rowCo : RowOK Try.prog 28 37 5 := ⟨rfl, ⟨_, rfl, rfl, by decide⟩, ⟨_, rfl, rfl⟩, by decide, ⟨_, rfl, rfl⟩⟩
theorem unitU_snoc {fs : List FnT} {k : Nat} {f : FnT} (h : fs[k]? = some f) : unitU (fs.take (k + 1)) = stU (unitU (fs.take k)) f := by
  obtain ⟨hi, rfl⟩ := List.getElem?_eq_some_iff.1 h
  unfold unitU
  rw [List.take_succ_eq_append_getElem hi, List.foldl_append]
  rfl
theorem unitE_drop {fs : List FnT} {k : Nat} {f : FnT} (h : fs[k]? = some f) (L : List ByteArray) : unitE L (fs.drop k) = if fnE (fnS L f) = 0 then unitE (fnS L f).pool (fs.drop (k + 1)) else fnE (fnS L f) := by
  obtain ⟨hi, rfl⟩ := List.getElem?_eq_some_iff.1 h
  rw [List.drop_eq_getElem_cons hi, unitE]
theorem five_of {cl : List Value} (h : cl.length = 5) : ∃ a b c d e, cl = [a, b, c, d, e] := by
  match cl, h with
  | [a, b, c, d, e], _ => exact ⟨a, b, c, d, e, rfl⟩
theorem FrP.own {α : Type} {n0 p m : Nat} {A B : Heap} (h : FrP n0 p m A B) {k : Nat} {e : TypeId} {f : Heap → List Value → α → Prop} {sv : Value} {L : List α} (o : OwnR k e f A sv L) (he : e ≠ 9) (hp : ∃ c, A[p]? = some (.cells .var c)) (hm : ∃ o es, A[m]? = some (.map o es)) (hf : ∀ l x, x ∈ L → f A l x → f B l x) : OwnR k e f B sv L := by
  obtain ⟨cp, hp⟩ := hp
  obtain ⟨om, es, hm⟩ := hm
  exact o.keep (fun b c _ hc => h.2 b _ hc (.inr ⟨by rintro rfl; rw [hp] at hc; simp at hc, by rintro rfl; rw [hm] at hc; simp at hc, row_ne he⟩)) hf
theorem FrP.codes {n0 p m : Nat} {A B : Heap} (h : FrP n0 p m A B) {sv : Value} {L : List CodeT} (o : OwnR 5 37 codeO A sv L) (hp : ∃ c, A[p]? = some (.cells .var c)) (hm : ∃ o es, A[m]? = some (.map o es)) : OwnR 5 37 codeO B sv L :=
  h.own o (by decide) hp hm fun l x _ ⟨iv, e1, e2⟩ => ⟨iv, e1, h.own e2 (by decide) hp hm fun _ _ _ h => h⟩
theorem codes_keep {A B : Heap} {sv : Value} {L : List CodeT} (o : OwnR 5 37 codeO A sv L) (h : ∀ (b : Nat) (e : TypeId) (c : List Value), A[b]? = some (Blk.cells (.row e) c) → B[b]? = some (Blk.cells (.row e) c)) : OwnR 5 37 codeO B sv L :=
  o.keep (fun b c _ hc => h b _ c hc) fun l x _ ⟨iv, e1, e2⟩ => ⟨iv, e1, e2.keep (fun b c _ hc => h b _ c hc) fun _ _ _ h => h⟩
theorem PoolR.but {n0 p m : Nat} {H0 A B : Heap} {L : List ByteArray} (h : PoolR n0 p m H0 A L) {q : Nat} {c : List Value} (hq : A[q]? = some (.cells .var c)) (k : But q A B) (h0 : n0 ≤ q) (hp : q ≠ p) : PoolR n0 p m H0 B L := by
  obtain ⟨lv, e1, e2, e3⟩ := h.ex
  have hm : q ≠ m := by rintro rfl; have := h.mp; rw [hq] at this; simp at this
  exact ⟨h.h0, ⟨Nat.le_trans h.g.1 k.1, fun j hj => by rw [← h.g.2 j hj]; exact k.2 j (Nat.lt_of_lt_of_le hj h.g.1) (by have := h.h0; omega)⟩, h.lo, ⟨Nat.lt_of_lt_of_le h.hi.1 k.1, Nat.lt_of_lt_of_le h.hi.2 k.1⟩, k.at h.mp hm.symm, ⟨lv, k.at e1 hp.symm, e2.keep (fun b c' _ hc => k.at hc (by rintro rfl; rw [hq] at hc; simp at hc)) (fun _ _ _ h => h), e3⟩, h.few, h.nodup⟩
/-- What Unit answers. -/
def UnitQ (H : Heap) (globals e : Int) (u : US) : Value → Heap → Prop := fun v H' => ∃ pv, v = .tuple #[pv, .int .i64 e] ∧ Grow H H' ∧ (e = 0 → ∃ ps cs, pv = .agg #[.int .i64 globals, ps, cs] ∧ RL 1 strR H' ps u.1 ∧ RL 5 codeR H' cs u.2) ∧ (e ≠ 0 → pv = .agg #[.int .i64 0, .slice none 0 0, .slice none 0 0])
theorem unit_ax {H : Heap} {globals : Int} {sk : Value} {fs : List FnT} (rk : RL 3 fnR H sk fs) (hfs : fs.length ≤ 1000) {ec : Int} (hck : ∀ X, Grow H X → AX Try.prog 14 #[.agg #[.int .i64 globals, sk]] X (fun v H' => v = .int .i64 ec ∧ H' = X))
    (ok : ec = 0 → ∀ f ∈ fs, ∀ x ∈ f.2.2, OKT x) (room : ec = 0 → ∀ k f, fs[k]? = some f → Room (CS.new (unitU (fs.take k)).1) (fnG f)) :
    AX Try.prog 8 #[.agg #[.int .i64 globals, sk]] H (UnitQ H globals (if ec = 0 then unitE [] fs else ec) (unitU fs)) := by
  refine AX.body (n := 60) (rs := [.cell 2 30, .tmp 3]) Try.func8 rfl (by decide) rfl rfl (bC_sound _ _ _ _ ?_)
  (conv => whnf)
  refine Ob2.box rfl fun q1 H1 hq1 a1 g1 => ?_
  have i1 : q1 < H1.length := lt_at a1
  have b1 := hblk_of a1
  refine run ?_
  refine Ob2.alloc rfl fun q2 H2 hq2 a2 g2 => ?_
  have i2 : q2 < H2.length := lt_at a2
  replace a1 := g2.at a1
  replace b1 := hblk_of a1
  have b2 := hblk_of a2
  have g12 := g1.trans g2
  have hck2 := hck H2 g12
  refine run ?_
  refine hck2.mono ?_
  rintro _ X ⟨rfl, e⟩
  subst X
  by_cases hec : ec = 0
  rotate_left
  · rw [if_neg hec]
    have d1 : (ec != 0) = true := by rw [bne_iff_ne]; exact hec
    refine run ?_
    refine Ob.store rfl rfl rfl a2 rfl (by first | exact Nat.le_of_ble_eq_true rfl | simp) fun H3 s3 k3 l3 => ?_
    have b3 := hblk_of s3
    refine run ?_
    exact ⟨_, rfl, g1.trans (g2.but_new k3 (Nat.le_of_eq hq2.symm)), fun h => absurd h hec, fun _ => rfl⟩
  rw [if_pos hec]
  have d1 : (ec != 0) = false := by rw [hec]; rfl
  replace ok := ok hec
  replace room := room hec
  subst hec
  clear hck hck2
  refine run ?_
  refine Ob2.lay (H := H2) (.map true []) (.map (some H2.length)) rfl fun H3 a3 g3 l3 => ?_
  replace a1 := g3.at a1
  have a2' := g3.at a2
  refine run ?_
  refine Ob2.box rfl fun p H4 hp a4 g4 => ?_
  have a4 : H4[p]? = some (.cells .var [.map (some H2.length), .slice none 0 0]) := a4
  have i4 : p < H4.length := lt_at a4
  replace a1 := g4.at a1
  replace a2' := g4.at a2'
  replace a3 := g4.at a3
  replace b1 := hblk_of a1
  refine run ?_
  refine Ob2.alloc rfl fun q6 H5 hq6 a6 g6 => ?_
  refine run ?_
  refine Ob.store rfl rfl rfl a6 rfl (by first | exact Nat.le_of_ble_eq_true rfl | simp) fun H6 s6 k6 l6 => ?_
  replace g6 := g6.but_new k6 (Nat.le_of_eq hq6.symm)
  have s6 : H6[q6]? = some (.cells .var [.int .i64 globals, .slice none 0 0, .slice none 0 0]) := s6
  replace a1 := g6.at a1
  replace b1 := hblk_of a1
  replace a2' := g6.at a2'
  replace a3 := g6.at a3
  replace a4 := g6.at a4
  have gA : Grow H H6 := ((g12.trans g3).trans g4).trans g6
  have hh1 := lt_at a1
  have e1 := g1.1
  have e2 := g2.1
  have e3 := g3.1
  have e4 := g4.1
  have hq1' : q1 = H.length := hq1
  have hq2' : q2 = H1.length := hq2
  have hp' : p = H3.length := hp
  have hq6' : q6 = H4.length := hq6
  have i6 : q6 < H6.length := lt_at s6
  have e6 := g6.1
  have P0 : PoolR H.length p H2.length H H6 [] := ⟨rfl, gA, ⟨by omega, by omega⟩, ⟨lt_at a4, lt_at a3⟩, a3, ⟨.slice none 0 0, a4, .inl ⟨rfl, rfl⟩, fun b hb => by obtain ⟨n, k, hb⟩ := hb; simp at hb⟩, by simp, by simp⟩
  have l1 : ∀ H, alen Try.prog 22 sk H = some (.int .i64 fs.length) := fun H => rk.len rfl _
  have l6 := l1 H6
  refine run ?_
  refine SW.loop (α := Nat) (fun k => [(2, .pointer (some ⟨q2, 0, none⟩)), (5, .pointer (some ⟨p, 0, none⟩)), (6, .pointer (some ⟨q6, 0, none⟩)), (24, sk), (25, .int .i64 fs.length), (26, .int .i64 (k : Int))])
    (fun k X => k ≤ fs.length ∧ PoolR H.length p H2.length H X (unitU (fs.take k)).1 ∧ unitE (unitU (fs.take k)).1 (fs.drop k) = unitE [] fs ∧ H6.length ≤ X.length ∧ X[q2]? = some (.cells .var [.int .i64 0, .slice none 0 0, .slice none 0 0]) ∧
      ∃ cs, X[q6]? = some (.cells .var [.int .i64 globals, .slice none 0 0, cs]) ∧ OwnR 5 37 codeO X cs (unitU (fs.take k)).2 ∧ (unitU (fs.take k)).2.length = k ∧ ∀ b, blkIs cs b → H.length ≤ b) (fun k => fs.length - k)
    ⟨0, ⟨rfl, rfl, rfl, rfl, rfl, rfl, trivial⟩, by omega, P0, rfl, Nat.le_refl _, a2', .slice none 0 0, s6, .inl ⟨rfl, rfl⟩, rfl, fun b hb => by obtain ⟨n, k, hb⟩ := hb; simp at hb⟩ ?_
  rintro k X ⟨hm, P, hE, hX, x2, cs, x6, oc, hcl, c0⟩
  refine bC_sound _ _ _ _ ?_
  by_cases hml : k < fs.length
  · have d2 : decide ((k : Int) < (fs.length : Int)) = true := decide_eq_true (by omega)
    obtain ⟨f, hf⟩ := get_lt hml
    obtain ⟨pf, fl, j1, j2, j3⟩ := rk.ldA (P := Try.prog) (t := 22) (e := 47) rfl rfl rfl rfl hf
    have j4 := j3 X P.g
    have hroom := room k f hf
    have hok := ok f (List.mem_of_getElem? hf)
    have hU := unitU_snoc hf
    rw [unitE_drop hf] at hE
    obtain ⟨fk, rfl, fr, fm⟩ := j2
    generalize unitU (fs.take k) = u at P hE oc hcl hroom hU
    refine run ?_
    refine Ob2.alloc rfl fun q8 X1 hq8 y8 k1 => ?_
    refine run ?_
    refine Ob.store rfl rfl rfl y8 rfl (by first | exact Nat.le_of_ble_eq_true rfl | simp) fun X2 z1 z2 z3 => ?_
    replace k1 := k1.but_new z2 (Nat.le_of_eq hq8.symm)
    have bz := hblk_of z1
    have P2 := P.grow k1
    refine run ?_
    refine (function_ax P2 (f := f) ⟨fk, rfl, fr, fm⟩ hok hroom).mono ?_
    rintro _ X3 ⟨cl, hl5, rfl, P3, F3, hcode⟩
    obtain ⟨v1, v2, v3, v4, v5, rfl⟩ := five_of hl5
    have np : ∀ q', q' = q2 ∨ q' = q6 → q' ≠ p ∧ q' ≠ H2.length := fun q' h => by omega
    have var3 : ∀ {q' : Nat} {c : List Value}, X2[q']? = some (.cells .var c) → q' = q2 ∨ q' = q6 → X3[q']? = some (.cells .var c) := fun h hq => F3.2 _ _ h (.inr ⟨(np _ hq).1, (np _ hq).2, notRowV⟩)
    have x23 := var3 (k1.at x2) (.inl rfl)
    have x63 := var3 (k1.at x6) (.inr rfl)
    have oc2 : OwnR 5 37 codeO X2 cs u.2 := codes_keep oc fun b e c h => k1.at h
    have oc3 := F3.codes oc2 (by obtain ⟨lv, h, -⟩ := P2.ex; exact ⟨_, h⟩) ⟨_, _, P2.mp⟩
    have hX3 := F3.1
    have hk1 := k1.1
    refine run ?_
    refine Ob2.alloc rfl fun q9 X4 hq9 y9 k4 => ?_
    refine run ?_
    refine Ob.store (vs := [v1, v2, v3, v4, v5]) rfl rfl rfl y9 rfl (by first | exact Nat.le_of_ble_eq_true rfl | simp) fun X5 w1 w2 w3 => ?_
    replace k4 := k4.but_new w2 (Nat.le_of_eq hq9.symm)
    have w1 : X5[q9]? = some (.cells .var [v1, v2, v3, v4, v5]) := w1
    have bw := hblk_of w1
    have P5 := P3.grow k4
    have x25 := k4.at x23
    have x65 := k4.at x63
    have b65 := hblk_of x65
    have oc5 : OwnR 5 37 codeO X5 cs u.2 := codes_keep oc3 fun b e c h => k4.at h
    have hk4 := k4.1
    by_cases hfe : fnE (fnS u.1 f) = 0
    rotate_left
    · have d3 : (fnE (fnS u.1 f) != 0) = true := by rw [bne_iff_ne]; exact hfe
      rw [if_neg hfe] at hE
      refine run ?_
      refine Ob.store rfl rfl rfl x25 rfl (by first | exact Nat.le_of_ble_eq_true rfl | simp) fun X6 t1 t2 t3 => ?_
      have bt := hblk_of t1
      refine run ?_
      rw [← hE]
      exact ⟨_, rfl, ((P5.but x25 t2 (by omega) (by omega)).g), fun h => absurd h hfe, fun _ => rfl⟩
    have d3 : (fnE (fnS u.1 f) != 0) = false := by rw [hfe]; rfl
    rw [if_pos hfe] at hE
    obtain ⟨iv, hcv, oi, hi0⟩ := hcode hfe
    have oi5 : OwnR 3 39 insR X5 iv (fnS u.1 f).ins := oi.keep (fun b c _ hc => k4.at hc) fun _ _ _ h => h
    have ldc : aload Try.prog 37 (.pointer (some ⟨q9, 0, none⟩)) X5 = some (.agg #[v1, v2, v3, v4, v5]) := ald_agg rfl rfl rfl bw rfl
    refine run ?_
    refine Ob2.lay (H := X5) (.cells (.row 37) [v1, v2, v3, v4, v5]) (.slice (some ⟨X5.length, 0, none⟩) 1 5) rfl fun X6 t1 k6 l6 => ?_
    have oc6 : OwnR 5 37 codeO X6 cs u.2 := codes_keep oc5 fun b e c h => k6.at h
    have hco : codeO X6 [v1, v2, v3, v4, v5] (codeOf u.1 f) := ⟨iv, hcv, oi5.keep (fun b c _ hc => k6.at hc) fun _ _ _ h => h⟩
    have P6 := P5.grow k6
    have x26 := k6.at x25
    have x66 := k6.at x65
    have hk6 := k6.1
    obtain ⟨X7, ap, oc7, f7, _⟩ := OwnR.append (n := H.length) (x := codeOf u.1 f) rowCo rowCo oc6 t1 rfl hco c0 (by have := P6.g.1; omega) (by omega) (fun A B hAB l x ⟨iv, e1, e2⟩ => ⟨iv, e1, e2.keepR hAB (by decide) fun _ _ _ h => h⟩)
    have x67 := f7.2 q6 _ x66 (.inr notRowV)
    have x27 := f7.2 q2 _ x26 (.inr notRowV)
    refine run ?_
    refine Ob2.of ap ?_
    refine run ?_
    refine Ob.store rfl rfl rfl x67 rfl (by first | exact Nat.le_of_ble_eq_true rfl | simp) fun X8 t8 m8 n8 => ?_
    refine run ?_
    have P7 : PoolR H.length p H2.length H X7 (fnS u.1 f).pool := by
      obtain ⟨lv, y1, y2, y3⟩ := P6.ex
      exact ⟨P6.h0, f7.grow P6.g (Nat.le_refl _), P6.lo, ⟨Nat.lt_of_lt_of_le P6.hi.1 f7.1, Nat.lt_of_lt_of_le P6.hi.2 f7.1⟩, f7.2 _ _ P6.mp (.inr fun c he => by simp at he), ⟨lv, f7.2 _ _ y1 (.inr notRowV), y2.keepR f7 (by decide) fun _ _ _ h => h, y3⟩, P6.few, P6.nodup⟩
    have P8 := P7.but x67 m8 (by omega) (by omega)
    have ht : fs.take (k + 1) = fs.take (k + 1) := rfl
    have hf7 := f7.1
    have hm8 := m8.1
    refine ⟨k + 1, ⟨rfl, rfl, rfl, rfl, rfl, congrArg (fun z => some (Value.int .i64 z)) (w_succ (by omega)), trivial⟩, ⟨hml, ?_, ?_, by omega, m8.at x27 (by omega), .slice (some ⟨X6.length, 0, none⟩) (u.2.length + 1) 5, t8, ?_, ?_, fun b hb => ?_⟩, by show fs.length - (k + 1) < fs.length - k; omega⟩
    · rw [hU]; exact P8
    · rw [hU]; exact hE
    · rw [hU]
      exact codes_keep oc7 fun b e c h => m8.at h (by rintro rfl; rw [x67] at h; simp at h)
    · rw [hU]
      show (u.2 ++ [_]).length = _
      rw [List.length_append, hcl]; rfl
    · obtain ⟨n, k', hb⟩ := hb
      simp only [Value.slice.injEq, Option.some.injEq, Addr.mk.injEq, and_true] at hb
      have := P6.g.1
      omega
  · have d2 : decide ((k : Int) < (fs.length : Int)) = false := decide_eq_false (by omega)
    have hke : fs.take k = fs := List.take_of_length_le (by omega)
    have hkd : fs.drop k = [] := List.drop_eq_nil_of_le (by omega)
    rw [hke, hkd] at hE
    rw [hke] at P oc
    obtain ⟨lv, y1, y2, y3⟩ := P.ex
    obtain ⟨la, lN, lk, rfl⟩ := y2.form
    have by1 := hblk_of y1
    have ll : alen Try.prog 27 (.slice la lN lk) X = some (.int .i64 (unitU fs).1.length) := y2.rl.len rfl _
    have hfew := P.few
    have hE : (if 120 < (unitU fs).1.length then (5 : Int) else 0) = unitE [] fs := hE
    by_cases hbig : 120 < (unitU fs).1.length
    · have d3 : decide (((unitU fs).1.length : Int) > 120) = true := decide_eq_true (by omega)
      rw [if_pos hbig] at hE
      refine run ?_
      refine Ob.store rfl rfl rfl x2 rfl (by first | exact Nat.le_of_ble_eq_true rfl | simp) fun X6 t1 t2 t3 => ?_
      have bt := hblk_of t1
      refine run ?_
      show UnitQ H globals (unitE [] fs) (unitU fs) _ _
      rw [← hE]
      exact ⟨_, rfl, ((P.but x2 t2 (by omega) (by omega)).g), fun h => by omega, fun _ => rfl⟩
    have d3 : decide (((unitU fs).1.length : Int) > 120) = false := decide_eq_false (by omega)
    rw [if_neg hbig] at hE
    have npq : q6 ≠ p := by omega
    refine run ?_
    refine Ob.store (vs := [.slice la lN lk]) rfl rfl rfl x6 rfl (by first | exact Nat.le_of_ble_eq_true rfl | simp) fun X6 t1 t2 t3 => ?_
    have t1 : X6[q6]? = some (.cells .var [.int .i64 globals, .slice la lN lk, cs]) := t1
    have bt := hblk_of t1
    have x26 := t2.at x2 (by omega)
    have P6 := P.but x6 t2 (by omega) (by omega)
    refine run ?_
    refine Ob.store rfl rfl rfl x26 rfl (by first | exact Nat.le_of_ble_eq_true rfl | simp) fun X7 r1 r2 r3 => ?_
    have r1 : X7[q2]? = some (.cells .var [.int .i64 globals, .slice la lN lk, cs]) := r1
    have br := hblk_of r1
    have P7 := P6.but x26 r2 (by omega) (by omega)
    refine run ?_
    show UnitQ H globals (unitE [] fs) (unitU fs) _ _
    rw [← hE]
    refine ⟨.agg #[.int .i64 globals, .slice la lN lk, cs], rfl, P7.g, fun _ => ⟨.slice la lN lk, cs, rfl, ?_, ?_⟩, fun h => absurd rfl h⟩
    · have o6 : OwnR 1 9 strR X6 (.slice la lN lk) (unitU fs).1 := y2.keep (fun b c _ hc => t2.at hc (by rintro rfl; rw [x6] at hc; simp at hc)) fun _ _ _ h => h
      have o7 : OwnR 1 9 strR X7 (.slice la lN lk) (unitU fs).1 := o6.keep (fun b c _ hc => r2.at hc (by rintro rfl; rw [x26] at hc; simp at hc)) fun _ _ _ h => h
      exact o7.rl
    · have o6 := codes_keep oc fun b e c h => t2.at h (by rintro rfl; rw [x6] at h; simp at h)
      have o7 := codes_keep o6 fun b e c h => r2.at h (by rintro rfl; rw [x26] at h; simp at h)
      rcases o7 with h | ⟨b, c, z1, z2, z3, z4⟩
      · exact .inl h
      · exact .inr ⟨b, z1, .inr ⟨_, c, z2, fun i x hx => let ⟨l, w1, ⟨iv, w2, w3⟩⟩ := z4 i x hx; ⟨l, w1, iv, w2, w3.rl⟩⟩⟩
end Go.Proofs.Ytmdjepfpgmignaa
