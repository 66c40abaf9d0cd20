/- Package compile: put, later, all that lays one instruction. -/
import Derived.Test.YtmdjepfpgmignaaJCpS1
set_option linter.unusedVariables false
set_option linter.unusedSimpArgs false
set_option maxRecDepth 20000
set_option maxHeartbeats 8000000
namespace Go.Proofs.Ytmdjepfpgmignaa
open Go Ax
theorem eff_lo (op a : Int) : 0 ≤ (eff op a).1 ∧ (eff op a).1 ≤ 9 ∧ 0 ≤ (eff op a).2 ∧ (eff op a).2 ≤ 9 := by
  unfold eff
  (repeat' split) <;> simp <;> (try unfold builtN) <;> (try split) <;> (try split) <;> omega
def CS.put (s : CS) (i : Ins) : CS := ⟨s.ins ++ [i], s.pool, s.sites, s.deep + ((eff i.1 i.2.1).2 - (eff i.1 i.2.1).1), max s.most (s.deep + ((eff i.1 i.2.1).2 - (eff i.1 i.2.1).1))⟩
theorem cput_ax {K : CK} {H0 H : Heap} {s : CS} (h : CR K H0 H s) (op a b : Int) (hl : s.ins.length < 100000) :
    AX Try.prog 25 #[.pointer (some ⟨K.l, 0, none⟩), .int .i64 op, .int .i64 a, .int .i64 b] H
      (fun r H' => r = .int .i64 (s.ins.length : Int) ∧ CR K H0 H' (s.put (op, a, b)) ∧ FrC K H H') := by
  obtain ⟨iv, lv, e1, e2, e3, e4, e5, e6⟩ := h.ex
  obtain ⟨n1, n2, n3, n4, n5⟩ := h.num
  obtain ⟨o1, o2, o3, o4⟩ := eff_lo op a
  have hml : K.m ≠ K.l := by rintro e; have := h.mp; rw [e, e1] at this; simp at this
  refine AX.body (n := 59) (rs := [.tmp 8]) Try.func25 rfl (by decide) rfl rfl (bC_sound _ _ _ _ ?_)
  refine run ?_
  refine Ob2.alloc rfl fun q H1 hq a1 g1 => ?_
  refine run ?_
  refine Ob.store rfl rfl rfl a1 rfl (by first | exact Nat.le_of_ble_eq_true rfl | simp) fun H2 b1 b2 b3 => ?_
  replace g1 := g1.but_new b2 (Nat.le_of_eq hq.symm)
  have b1 : H2[q]? = some (.cells .var [.int .i64 op, .int .i64 a, .int .i64 b]) := b1
  have bq := hblk_of b1
  have h2 := h.grow g1
  have el := g1.at e1
  have bl := hblk_of el
  have hqn : K.n1 ≤ q := by have := h.hi.2.2.2; omega
  have ld : aload Try.prog 39 (.pointer (some ⟨q, 0, none⟩)) H2 = some (insV op a b) := ald_agg rfl rfl rfl bq rfl
  refine run ?_
  refine (effect_ax H2 op a b).mono ?_
  rintro _ X ⟨rfl, e⟩
  subst X
  refine run ?_
  have wd : IntKind.i64.wrap (s.deep + IntKind.i64.wrap ((eff op a).2 - (eff op a).1)) = s.deep + ((eff op a).2 - (eff op a).1) := by rw [wrap_i64 (n := (eff op a).2 - (eff op a).1) (by omega) (by omega), wrap_i64 (by omega) (by omega)]
  rw [wd]
  generalize hd : s.deep + ((eff op a).2 - (eff op a).1) = d
  refine Ob.store rfl rfl rfl el rfl (by first | exact Nat.le_of_ble_eq_true rfl | simp) fun H3 s3 k3 l3 => ?_
  have s3 : H3[K.l]? = some (.cells .var [.pointer (some ⟨K.p, 0, none⟩), iv, .int .i64 (s.sites : Int), .int .i64 d, .int .i64 s.most]) := s3
  have bl3 := hblk_of s3
  refine run ?_
  apply SW.drawH [(0, [], [32, 33, 34, 35, 36, 37, 38, 39, 40], false), (1, [], [31, 36, 37, 38, 39], false), (2, [(32, 1)], [31, 32, 36, 37, 38, 39], false), (3, [(32, 1), (33, 2)], [31, 32, 33, 36, 37, 38, 39], false), (4, [(32, 1), (33, 2), (34, 3)], [31, 32, 33, 34, 36, 37, 38, 39], false), (5, [], [31, 32, 33, 34, 35], false), (6, [(36, 5)], [31, 32, 33, 34, 35, 36], false), (7, [(36, 5), (37, 6)], [31, 32, 33, 34, 35, 36, 37], false), (8, [(36, 5), (37, 6), (38, 7)], [31, 32, 33, 34, 35, 36, 37, 38], false), (9, [(32, 1), (33, 2), (34, 3), (35, 4), (36, 5), (37, 6), (38, 7), (39, 8)], [31, 32, 33, 34, 35, 36, 37, 38, 39], false), (10, [(31, 0), (32, 1), (33, 2), (34, 3), (35, 4), (36, 5), (37, 6), (38, 7), (39, 8), (40, 9)], [31, 32, 33, 34, 35, 36, 37, 38, 39, 40], false), (11, [(31, 0), (32, 1), (33, 2), (34, 3), (35, 4), (36, 5), (37, 6), (38, 7), (39, 8), (40, 9), (41, 10)], [31, 32, 33, 34, 35, 36, 37, 38, 39, 40, 41], false), (12, [(31, 0), (32, 1), (33, 2), (34, 3), (35, 4), (36, 5), (37, 6), (38, 7), (39, 8), (40, 9), (41, 10), (42, 11)], [31, 32, 33, 34, 35, 36, 37, 38, 39, 40, 41, 42], true)]
    [(31, 0), (32, 1), (33, 2), (34, 3), (35, 4), (36, 5), (37, 6), (38, 7), (39, 8), (40, 9), (41, 10), (42, 11)] []
    [(0, _), (9, _)] rfl (by kernel_rfl)
  case hF => exact ⟨rfl, rfl, trivial⟩
  refine run ?_
  have wm : (if d > s.most then d else s.most) = max s.most d := by split <;> omega
  rw [wm]
  refine Ob.store rfl rfl rfl s3 rfl (by first | exact Nat.le_of_ble_eq_true rfl | simp) fun H4 s4 k4 l4 => ?_
  have s4 : H4[K.l]? = some (.cells .var [.pointer (some ⟨K.p, 0, none⟩), iv, .int .i64 (s.sites : Int), .int .i64 d, .int .i64 (max s.most d)]) := s4
  have bl4 := hblk_of s4
  have nq : q ≠ K.l := by have := h.hi.1; omega
  have bq4 := hblk_of (k4.at (k3.at b1 nq) nq)
  have ld4 : aload Try.prog 39 (.pointer (some ⟨q, 0, none⟩)) H4 = some (insV op a b) := ald_agg rfl rfl rfl bq4 rfl
  refine run ?_
  apply SW.drawH [(0, [], [44, 45, 46, 47, 48, 49, 50], false), (1, [], [43, 48, 49], false), (2, [(44, 1)], [43, 44, 48, 49], false), (3, [(44, 1), (45, 2)], [43, 44, 45, 48, 49], false), (4, [(44, 1), (45, 2), (46, 3)], [43, 44, 45, 46, 48, 49], false), (5, [], [43, 44, 45, 46, 47], false), (6, [(48, 5)], [43, 44, 45, 46, 47, 48], true), (7, [(44, 1), (45, 2), (46, 3), (47, 4), (48, 5), (49, 6)], [43, 44, 45, 46, 47, 48, 49], true), (8, [(43, 0), (44, 1), (45, 2), (46, 3), (47, 4), (48, 5), (49, 6), (50, 7)], [43, 44, 45, 46, 47, 48, 49, 50], false), (9, [(43, 0), (44, 1), (45, 2), (46, 3), (47, 4), (48, 5), (49, 6), (50, 7), (51, 8)], [43, 44, 45, 46, 47, 48, 49, 50, 51], false), (10, [(43, 0), (44, 1), (45, 2), (46, 3), (47, 4), (48, 5), (49, 6), (50, 7), (51, 8), (52, 9)], [43, 44, 45, 46, 47, 48, 49, 50, 51, 52], true)]
    [(43, 0), (44, 1), (45, 2), (46, 3), (47, 4), (48, 5), (49, 6), (50, 7), (51, 8), (52, 9)] [6]
    [(0, _), (9, _)] rfl (by kernel_rfl)
  case hF => exact ⟨rfl, rfl, trivial⟩
  refine run ?_
  refine Ob2.lay (H := H4) (.cells (.row 39) [.int .i64 op, .int .i64 a, .int .i64 b]) (.slice (some ⟨H4.length, 0, none⟩) 1 3) rfl fun H5 a5 g5 l5 => ?_
  have s5 := g5.at s4
  have bl5 := hblk_of s5
  have ownV : ∀ {A B : Heap} {c : List Value} {α : Type} {k : Nat} {e : TypeId} {f : Heap → List Value → α → Prop} {sv : Value} {L : List α} {b : Nat}, A[b]? = some (.cells .var c) → But b A B → (∀ l x, f A l x → f B l x) → OwnR k e f A sv L → OwnR k e f B sv L := fun hb hB hf o => o.keep (fun b' c _ hc => hB.at hc (by rintro rfl; rw [hb] at hc; simp at hc)) fun _ _ _ h => hf _ _ h
  have i2 : OwnR 3 39 insR H2 iv s.ins := e3.keep (fun b c _ hc => g1.at hc) fun _ _ _ h => h
  have i5 : OwnR 3 39 insR H5 iv s.ins := OwnR.keep (ownV s3 k4 (fun _ _ h => h) (ownV el k3 (fun _ _ h => h) i2)) (fun b c _ hc => g5.at hc) fun _ _ _ h => h
  obtain ⟨H6, ap, o6, f6, _⟩ := OwnR.append (n := K.ni) (x := ((op, a, b) : Ins)) rowIn rowIn i5 a5 rfl rfl e4 (by have := K.hi1; have := h.hi.2.2.2; have := g1.1; have := g5.1; omega) (by omega) (fun _ _ _ _ _ h => h)
  have s6 := f6.2 K.l _ s5 (.inr notRowV)
  refine run ?_
  refine Ob2.of ap ?_
  refine run ?_
  refine Ob.store rfl rfl rfl s6 rfl (by first | exact Nat.le_of_ble_eq_true rfl | simp) fun H7 s7 k7 l7 => ?_
  have s7 : H7[K.l]? = some (.cells .var [.pointer (some ⟨K.p, 0, none⟩), .slice (some ⟨H5.length, 0, none⟩) (s.ins.length + 1) 3, .int .i64 (s.sites : Int), .int .i64 d, .int .i64 (max s.most d)]) := s7
  have bl7 := hblk_of s7
  have l7 : alen Try.prog 35 (.slice (some ⟨H5.length, 0, none⟩) (s.ins.length + 1) 3) H7 = some (.int .i64 ((s.ins.length + 1 : Nat) : Int)) := rfl
  refine run ?_
  have w1 : IntKind.i64.wrap (((s.ins.length + 1 : Nat) : Int) - 1) = (s.ins.length : Int) := by rw [wrap_i64 (by omega) (by omega)]; omega
  have hb0 : K.n0 ≤ K.l ∧ (K.l = K.l ∨ K.l = K.p ∨ K.l = K.m) := ⟨h.lo.1, .inl rfl⟩
  have f7 : FrC K H H7 := (((((FrC.of g1).trans (.ofBut k3 hb0)).trans (.ofBut k4 hb0)).trans (.of g5)).trans (.ofRI f6)).trans (.ofBut k7 hb0)
  have p2 := g1.at e2
  have p7 := k7.at (f6.2 K.p _ (g5.at (k4.at (k3.at p2 h.ne.symm) h.ne.symm)) (.inr notRowV)) h.ne.symm
  have m2 := g1.at h.mp
  have m7 := k7.at (f6.2 K.m _ (g5.at (k4.at (k3.at m2 hml) hml)) (.inr fun c he => by simp at he)) hml
  have j2 : OwnR 1 9 strR H2 lv s.pool := e5.keep (fun b c _ hc => g1.at hc) fun _ _ _ h => h
  have j5 : OwnR 1 9 strR H5 lv s.pool := OwnR.keep (ownV s3 k4 (fun _ _ h => h) (ownV el k3 (fun _ _ h => h) j2)) (fun b c _ hc => g5.at hc) fun _ _ _ h => h
  have j6 : OwnR 1 9 strR H6 lv s.pool := j5.keepR f6 (by decide) fun _ _ _ h => h
  have hlen : (s.put (op, a, b)).ins.length = s.ins.length + 1 := by unfold CS.put; simp
  have hpd : (s.put (op, a, b)).deep = d := hd
  have hpm : (s.put (op, a, b)).most = max s.most d := by rw [← hd]; rfl
  refine ⟨congrArg (Value.int .i64) w1, ⟨h.h0, f7.grow h.g (Nat.le_of_eq h.h0), h.lo, ⟨h.hi.1, h.hi.2.1, h.hi.2.2.1, Nat.le_trans h.hi.2.2.2 f7.1⟩, h.ne, m7, ⟨_, lv, ?_, p7, ownV s6 k7 (fun _ _ h => h) o6, fun b hb => ?_, ownV s6 k7 (fun _ _ h => h) j6, e6⟩, ⟨h.few.1, by rw [hlen]; omega⟩, ?_, h.nodup⟩, f7⟩
  · rw [hpd, hpm]; exact s7
  · obtain ⟨n, k, hb⟩ := hb
    simp only [Value.slice.injEq, Option.some.injEq, Addr.mk.injEq, and_true] at hb
    have := K.hi1; have := h.hi.2.2.2; have := g1.1; have := g5.1
    omega
  · rw [hlen, hpd, hpm]
    refine ⟨by omega, by omega, by omega, by omega, ?_⟩
    show s.sites ≤ _
    omega
/-- What is laid later: which instruction it fills in. -/
structure Later (K : CK) (H : Heap) (v : Value) (at_ : Nat) : Prop where
  ex : ∃ q1 q2, v = .func (.func 62) #[] #[.pointer (some ⟨q1, 0, none⟩), .pointer (some ⟨q2, 0, none⟩)] ∧ K.n1 ≤ q1 ∧ K.n1 ≤ q2 ∧ H[q1]? = some (.cells .var [.pointer (some ⟨K.l, 0, none⟩)]) ∧ H[q2]? = some (.cells .var [.int .i64 (at_ : Int)])
theorem Later.fr {K : CK} {A B : Heap} {v : Value} {n : Nat} (h : Later K A v n) (f : FrC K A B) : Later K B v n := by
  obtain ⟨q1, q2, e, a, b, c, d⟩ := h.ex
  exact ⟨q1, q2, e, a, b, f.var c a, f.var d b⟩
theorem later_ax {K : CK} {H0 H : Heap} {s : CS} (h : CR K H0 H s) (op : Int) (hl : s.ins.length < 100000) :
    AX Try.prog 59 #[.pointer (some ⟨K.l, 0, none⟩), .int .i64 op] H
      (fun r H' => Later K H' r s.ins.length ∧ CR K H0 H' (s.put (op, 0, 0)) ∧ FrC K H H') := by
  refine AX.body (n := 10) (rs := [.tmp 4]) Try.func59 rfl (by decide) rfl rfl (bC_sound _ _ _ _ ?_)
  (conv => whnf)
  refine Ob2.box rfl fun q1 H1 hq1 a1 g1 => ?_
  have b1 := hblk_of a1
  have h1 := h.grow g1
  have n1 : K.n1 ≤ q1 := by have := h.hi.2.2.2; omega
  refine run ?_
  refine (cput_ax h1 op 0 0 hl).mono ?_
  rintro _ H2 ⟨rfl, h2, f2⟩
  have a2 := f2.var a1 n1
  refine run ?_
  refine Ob2.alloc rfl fun q2 H3 hq2 a3 g3 => ?_
  refine run ?_
  refine Ob.store rfl rfl rfl a3 rfl (by first | exact Nat.le_of_ble_eq_true rfl | simp) fun H4 s1 s2 s3 => ?_
  replace g3 := g3.but_new s2 (Nat.le_of_eq hq2.symm)
  refine run ?_
  exact ⟨⟨q1, q2, rfl, n1, by have := h2.hi.2.2.2; omega, g3.at a2, s1⟩, h2.grow g3, ((FrC.of g1).trans f2).trans (.of g3)⟩
/-- An instruction's place is filled in. -/
def CS.fill (s : CS) (i : Nat) : CS := { s with ins := s.ins.set i ((s.ins.getD i (0, 0, 0)).1, (s.ins.length : Int), (s.ins.getD i (0, 0, 0)).2.2) }
theorem fill_ax {K : CK} {H0 H : Heap} {s : CS} (h : CR K H0 H s) {q1 q2 i : Nat} (hq1 : H[q1]? = some (.cells .var [.pointer (some ⟨K.l, 0, none⟩)])) (hq2 : H[q2]? = some (.cells .var [.int .i64 (i : Int)])) (hi : i < s.ins.length) :
    AX Try.prog 62 #[.pointer (some ⟨q1, 0, none⟩), .pointer (some ⟨q2, 0, none⟩)] H (fun _ H' => CR K H0 H' (s.fill i) ∧ FrC K H H') := by
  obtain ⟨iv, lv, e1, e2, e3, e4, e5, e6⟩ := h.ex
  have hb1 := hblk_of hq1
  have hb2 := hblk_of hq2
  have bl := hblk_of e1
  have hfew := h.few.2
  have l1 : alen Try.prog 35 iv H = some (.int .i64 s.ins.length) := e3.rl.len rfl _
  rcases e3 with ⟨-, hz⟩ | ⟨g, c, rfl, hg, hc, h4⟩
  · rw [hz] at hi; simp at hi
  obtain ⟨x, hx⟩ := get_lt hi
  obtain ⟨w, hw, hxw⟩ := h4 i x hx
  have hxw : w = [.int .i64 x.1, .int .i64 x.2.1, .int .i64 x.2.2] := hxw
  subst hxw
  have hle : i * 3 + 1 + 1 ≤ c.length := by omega
  have ix : aindexAddr Try.prog 35 (.slice (some ⟨g, 0, none⟩) s.ins.length 3) (.int .i64 (i : Int)) = some (.pointer (some ⟨g, i * 3, none⟩)) := by
    have := idx_slice (P := Try.prog) (t := 35) (e := 39) (b := g) (off := 0) (k := 3) (es := 3) (kd := .i64) (len := s.ins.length) (n := (i : Int)) rfl rfl (by omega) (by omega)
    rw [this]; simp
  have ngl : g ≠ K.l := by rintro rfl; rw [hg] at e1; simp at e1
  have ngp : g ≠ K.p := by rintro rfl; rw [hg] at e2; simp at e2
  have ngm : g ≠ K.m := by rintro rfl; have := h.mp; rw [hg] at this; simp at this
  refine AX.body (n := 14) (rs := []) Try.func62 rfl (by decide) rfl rfl (bC_sound _ _ _ _ ?_)
  refine run ?_
  apply SW.drawH [(0, [], [6, 7, 8, 9, 10, 11], false), (1, [(2, 0)], [2, 6, 7, 8, 9, 10, 11], false), (2, [(2, 0), (3, 1)], [2, 3, 6, 7, 8, 9, 10, 11], false), (3, [(2, 0), (3, 1), (4, 2)], [2, 3, 4, 6, 7, 8, 9, 10, 11], false), (4, [], [2, 3, 4, 5, 7, 8, 9, 10, 11], false), (5, [], [2, 3, 4, 5, 6], false), (6, [(7, 5)], [2, 3, 4, 5, 6, 7], false), (7, [(7, 5), (8, 6)], [2, 3, 4, 5, 6, 7, 8], false), (8, [(7, 5), (8, 6), (9, 7)], [2, 3, 4, 5, 6, 7, 8, 9], false), (9, [(7, 5), (8, 6), (9, 7), (10, 8)], [2, 3, 4, 5, 6, 7, 8, 9, 10], false), (10, [(2, 0), (3, 1), (4, 2), (5, 3), (6, 4), (7, 5), (8, 6), (9, 7), (10, 8), (11, 9)], [2, 3, 4, 5, 6, 7, 8, 9, 10, 11], false), (11, [(2, 0), (3, 1), (4, 2), (5, 3), (6, 4), (7, 5), (8, 6), (9, 7), (10, 8), (11, 9), (12, 10)], [2, 3, 4, 5, 6, 7, 8, 9, 10, 11, 12], false), (12, [(2, 0), (3, 1), (4, 2), (5, 3), (6, 4), (7, 5), (8, 6), (9, 7), (10, 8), (11, 9), (12, 10), (13, 11)], [2, 3, 4, 5, 6, 7, 8, 9, 10, 11, 12, 13], true)]
    [(2, 0), (3, 1), (4, 2), (5, 3), (6, 4), (7, 5), (8, 6), (9, 7), (10, 8), (11, 9), (12, 10), (13, 11)] []
    [(0, _), (1, _)] rfl (by kernel_rfl)
  case hF => exact ⟨rfl, rfl, trivial⟩
  refine run ?_
  refine Ob.store (vs := [.int .i64 (s.ins.length : Int)]) rfl rfl rfl hg rfl (by simpa using hle) fun H2 s2 k2 l2 => ?_
  refine run ?_
  have hgd : s.ins.getD i (0, 0, 0) = x := by rw [List.getD_eq_getElem?_getD, hx]; rfl
  have f2 : FrC K H H2 := ⟨k2.1, fun q X hq hX => k2.at hq (by
    rintro rfl
    have hq0 := e4 q ⟨_, _, rfl⟩
    have := K.h0i
    rcases hX with hX | ⟨hX, hX2 | hX2, -⟩
    · omega
    · omega
    · rw [hg] at hq; simp only [Option.some.injEq] at hq; exact hX2 c hq.symm)⟩
  refine ⟨⟨h.h0, f2.grow h.g (Nat.le_of_eq h.h0), h.lo, ⟨h.hi.1, h.hi.2.1, h.hi.2.2.1, Nat.le_trans h.hi.2.2.2 f2.1⟩, h.ne, k2.at h.mp ngm.symm, ⟨.slice (some ⟨g, 0, none⟩) s.ins.length 3, lv, k2.at e1 ngl.symm, k2.at e2 ngp.symm, ?_, e4, ?_, e6⟩, ⟨h.few.1, ?_⟩, ?_, h.nodup⟩, f2⟩
  · have := OwnR.put1 (k := 3) (f := insR) (A := H) (B := H2) (b := g) (i := i) (j := 1) (c := c) (L := s.ins) (x := x) (x' := (x.1, (s.ins.length : Int), x.2.2)) (v := .int .i64 (s.ins.length : Int)) hc h4 s2 hx hw (by decide) rfl (fun _ _ h => h)
    have el : (s.fill i).ins = s.ins.set i (x.1, (s.ins.length : Int), x.2.2) := by unfold CS.fill; rw [hgd]
    rw [el]
    exact this
  · exact e5.keep (fun b c' _ hc' => k2.at hc' (by rintro rfl; rw [hg] at hc'; simp at hc')) fun _ _ _ h => h
  · show (s.ins.set _ _).length ≤ _; rw [List.length_set]; exact h.few.2
  · have := h.num
    unfold CS.fill
    simpa using this
end Go.Proofs.Ytmdjepfpgmignaa
/- Package compile: what is laid, put together; site, leaf. -/
set_option linter.unusedVariables false
set_option linter.unusedSimpArgs false
set_option maxRecDepth 20000
set_option maxHeartbeats 8000000
namespace Go.Proofs.Ytmdjepfpgmignaa
open Go Ax
def dm1 (p : Int × Int) (i : Ins) : Int × Int := (p.1 + ((eff i.1 i.2.1).2 - (eff i.1 i.2.1).1), max p.2 (p.1 + ((eff i.1 i.2.1).2 - (eff i.1 i.2.1).1)))
/-- How deep the stack is behind instructions, and was at most. -/
def dmF (p : Int × Int) (c : List Ins) : Int × Int := c.foldl dm1 p
theorem dmF_app (p : Int × Int) (c d : List Ins) : dmF p (c ++ d) = dmF (dmF p c) d := List.foldl_append
/-- A layer that has laid code. -/
def CS.lay (s : CS) (r : List Ins × PS) : CS := ⟨s.ins ++ r.1, r.2.1, r.2.2, (dmF (s.deep, s.most) r.1).1, (dmF (s.deep, s.most) r.1).2⟩
def CS.run (s : CS) (g : GE) : CS := s.lay (g s.ins.length (s.pool, s.sites))
theorem lay_id (s : CS) : s.run idE = s := by
  unfold CS.run CS.lay idE dmF
  simp
theorem lay_put (s : CS) (op a b : Int) : s.put (op, a, b) = s.run (oneE op a b) := by
  unfold CS.run CS.lay oneE dmF CS.put
  simp [dm1]
theorem lay_lay (s : CS) (c d : List Ins) (p q : PS) : (s.lay (c, p)).lay (d, q) = s.lay (c ++ d, q) := by
  unfold CS.lay
  simp only [dmF_app, List.append_assoc]
theorem run_seq (s : CS) (f g : GE) : s.run (seqE f g) = (s.run f).run g := by
  unfold CS.run seqE
  dsimp only
  rw [show ((s.lay (f s.ins.length (s.pool, s.sites))).ins.length) = s.ins.length + (f s.ins.length (s.pool, s.sites)).1.length from by unfold CS.lay; simp]
  generalize f s.ins.length (s.pool, s.sites) = p
  obtain ⟨c, ps⟩ := p
  rw [lay_lay]
  rfl
/-- Room for what is laid. -/
def Room (s : CS) (g : GE) : Prop := s.ins.length + (g s.ins.length (s.pool, s.sites)).1.length < 100000 ∧ s.pool.length + (g s.ins.length (s.pool, s.sites)).1.length < 100000
/-- As many strings more as instructions, at most. -/
def GOK (g : GE) : Prop := ∀ a st, (g a st).2.1.length ≤ st.1.length + (g a st).1.length
theorem GOK.id : GOK idE := fun a st => Nat.le_refl _
theorem GOK.one (op a b : Int) : GOK (oneE op a b) := fun _ st => by show st.1.length ≤ st.1.length + 1; omega
theorem poolF_len (L : List ByteArray) (s : ByteArray) : (poolF L s).2.length ≤ L.length + 1 := by
  unfold poolF; split <;> simp
theorem GOK.pool (op : Int) (s : ByteArray) : GOK (poolE op s) := fun _ st => poolF_len _ _
theorem GOK.site (op : Int) (s : ByteArray) : GOK (siteE op s) := fun _ st => poolF_len _ _
theorem GOK.seq {f g : GE} (hf : GOK f) (hg : GOK g) : GOK (seqE f g) := fun a st => by
  have h1 := hf a st
  have h2 := hg (a + (f a st).1.length) (f a st).2
  unfold seqE
  dsimp only
  rw [List.length_append]
  omega
theorem GOK.all : ∀ {gs : List GE}, (∀ g ∈ gs, GOK g) → GOK (allE gs)
  | [], _ => GOK.id
  | g :: gs, h => (h g (by simp)).seq (GOK.all fun x hx => h x (List.mem_cons_of_mem _ hx))
theorem GOK.init : ∀ {ns : List ByteArray} {gs : List GE}, (∀ g ∈ gs, GOK g) → GOK (initE ns gs)
  | [], _, _ => GOK.id
  | _ :: _, [], _ => GOK.id
  | n :: ns, g :: gs, h => (h g (by simp)).seq ((GOK.site 13 n).seq (GOK.init fun x hx => h x (List.mem_cons_of_mem _ hx)))
theorem GOK.keep {op : Int} {f g : GE} (hf : GOK f) (hg : GOK g) : GOK (keepE op f g) := fun a st => by
  have h1 := hf a st
  have h2 := hg (a + (f a st).1.length + 1) (f a st).2
  unfold keepE
  dsimp only
  simp only [List.length_append, List.length_cons]
  omega
theorem GOK.choice {f g h : GE} (hf : GOK f) (hg : GOK g) (hh : GOK h) : GOK (choiceE f g h) := fun a st => by
  have h1 := hf a st
  have h2 := hg (a + (f a st).1.length + 1) (f a st).2
  have h3 := hh (a + (f a st).1.length + 1 + (g (a + (f a st).1.length + 1) (f a st).2).1.length + 1) (g (a + (f a st).1.length + 1) (f a st).2).2
  unfold choiceE
  dsimp only
  simp only [List.length_append, List.length_cons]
  omega
theorem GOK.loop {f g : GE} (hf : GOK f) (hg : GOK g) : GOK (loopE f g) := fun a st => by
  have h1 := hf a st
  have h2 := hg (a + (f a st).1.length + 1) (f a st).2
  unfold loopE
  dsimp only
  simp only [List.length_append, List.length_cons, List.length_nil]
  omega
theorem getD_mem' {gs : List GE} {i : Nat} (h : ∀ g ∈ gs, GOK g) : GOK (gs.getD i idE) := by
  rw [List.getD_eq_getElem?_getD]
  cases hg : gs[i]? with
  | none => exact GOK.id
  | some g => exact h g (List.mem_of_getElem? hg)
theorem GOK.ite {c : Prop} [Decidable c] {f g : GE} (hf : GOK f) (hg : GOK g) : GOK (if c then f else g) := by
  split
  · exact hf
  · exact hg
def GOKo (o : Option GE) : Prop := ∀ g, o = some g → GOK g
theorem GOKo.some {g : GE} (h : GOK g) : GOKo (Option.some g) := fun g' e => by cases e; exact h
theorem GOKo.ite {c : Prop} [Decidable c] {f g : Option GE} (hf : GOKo f) (hg : GOKo g) : GOKo (if c then f else g) := by
  split
  · exact hf
  · exact hg
theorem GOK.leaf (k n : Int) (s : ByteArray) : GOKo (leafE k n s) := by
  unfold leafE
  repeat' (refine GOKo.ite (.some ?_) ?_)
  all_goals first | exact GOK.one _ _ _ | exact GOK.pool _ _ | exact fun g h => by simp at h
theorem GOK.end (k o n : Int) (s : ByteArray) (len : Nat) : GOK (endE k o n s len) := by
  unfold endE
  repeat' (refine GOK.ite ?_ ?_)
  all_goals first | exact GOK.id | exact GOK.one _ _ _ | exact GOK.pool _ _ | exact GOK.site _ _
theorem GOK.gen (x : Tr) : GOK x.gen := by
  induction x using Tr.ind with
  | h x ih =>
    rw [Tr.gen_eq]
    have hk : ∀ g ∈ x.kids.map Tr.gen, GOK g := fun g hg => by
      obtain ⟨y, hy, rfl⟩ := List.mem_map.1 hg
      exact ih y hy
    unfold genF
    refine (GOK.one 1 1 0).seq ?_
    have hl := GOK.leaf x.kind x.num x.str
    cases hle : leafE x.kind x.num x.str with
    | some g => exact hl g hle
    | none =>
      dsimp only
      exact .ite ((GOK.one _ _ _).seq (GOK.init hk)) (.ite ((getD_mem' hk).keep (getD_mem' hk)) (.ite ((getD_mem' hk).keep (getD_mem' hk)) (.ite ((getD_mem' hk).seq ((GOK.site _ _).seq ((GOK.all fun g hg => hk g (List.mem_of_mem_drop hg)).seq (GOK.one _ _ _)))) (.ite ((getD_mem' hk).choice (getD_mem' hk) (getD_mem' hk)) (.ite ((getD_mem' hk).loop (getD_mem' hk)) ((GOK.all hk).seq (GOK.end _ _ _ _ _)))))))
end Go.Proofs.Ytmdjepfpgmignaa
/- Package compile: site. -/
set_option linter.unusedVariables false
set_option linter.unusedSimpArgs false
set_option maxRecDepth 20000
set_option maxHeartbeats 8000000
namespace Go.Proofs.Ytmdjepfpgmignaa
open Go Ax
theorem csite_ax {K : CK} {H0 H : Heap} {s : CS} (h : CR K H0 H s) (op : Int) (name : ByteArray) (hl : s.ins.length < 100000) (hp : s.pool.length < 100000) :
    AX Try.prog 47 #[.pointer (some ⟨K.l, 0, none⟩), .int .i64 op, .string name] H (fun _ H' => CR K H0 H' (s.run (siteE op name)) ∧ FrC K H H') := by
  obtain ⟨iv, lv, e1, e2, e3, e4, e5, e6⟩ := h.ex
  have bl := hblk_of e1
  refine AX.body (n := 26) (rs := []) Try.func47 rfl (by decide) rfl rfl (bC_sound _ _ _ _ ?_)
  refine run ?_
  apply SW.draw4 [([], [7, 8, 9, 10, 11, 12, 13, 14, 15, 16, 17], 0, 1, false), ([], [6, 8, 9, 10, 11, 12, 13, 14, 15, 16, 17], 0, 1, false), ([], [6, 7, 12, 14, 15, 16, 17], 0, 0, false), ([(8, 2)], [6, 7, 8, 12, 14, 15, 16, 17], 0, 0, false), ([(8, 2), (9, 3)], [6, 7, 8, 9, 12, 14, 15, 16, 17], 0, 0, false), ([(8, 2), (9, 3), (10, 4)], [6, 7, 8, 9, 10, 12, 14, 15, 16, 17], 0, 0, false), ([], [6, 7, 8, 9, 10, 11, 14, 15, 16, 17], 0, 0, false), ([(8, 2), (9, 3), (10, 4), (11, 5), (12, 6)], [6, 7, 8, 9, 10, 11, 12, 14, 15, 16, 17], 0, 0, true), ([], [6, 7, 8, 9, 10, 11, 12, 13], 0, 1, false), ([(14, 8)], [6, 7, 8, 9, 10, 11, 12, 13, 14], 0, 1, false), ([(14, 8), (15, 9)], [6, 7, 8, 9, 10, 11, 12, 13, 14, 15], 0, 1, false), ([(14, 8), (15, 9), (16, 10)], [6, 7, 8, 9, 10, 11, 12, 13, 14, 15, 16], 0, 1, false), ([(6, 0), (7, 1), (8, 2), (9, 3), (10, 4), (11, 5), (12, 6), (13, 7), (14, 8), (15, 9), (16, 10), (17, 11)], [6, 7, 8, 9, 10, 11, 12, 13, 14, 15, 16, 17], 1, 0, true)]
    [(6, 0), (7, 1), (8, 2), (9, 3), (10, 4), (11, 5), (12, 6), (13, 7), (14, 8), (15, 9), (16, 10), (17, 11), (18, 12)] 2
    [(0, _), (1, _), (2, _)] [_, _, _, _, _, _, _, _, _, _, _, _, _] [fun X => X = H, fun X => CR K H0 X { s with pool := (poolF s.pool name).2 } ∧ FrC K H X, fun X => CR K H0 X (({ s with pool := (poolF s.pool name).2 } : CS).put (op, ((poolF s.pool name).1 : Int), (s.sites : Int))) ∧ FrC K H X] rfl (by kernel_rfl)
  case hF => exact ⟨rfl, rfl, rfl, trivial⟩
  case h0 => exact rfl
  case steps =>
    (try (conv => whnf)); repeat' (first | (with_reducible exact True.intro) | ((with_reducible refine And.intro ?_ ?_) <;> (conv => whnf)) | (with_reducible exact Leaf.mk rfl rfl) | (intro X hX; rw [show X = H from hX]; (conv => whnf)) | (intro X hX; obtain ⟨hc, hf⟩ : CR K H0 X { s with pool := (poolF s.pool name).2 } ∧ FrC K H X := hX; obtain ⟨iv', lv', x1, x2⟩ := hc.ex; have x3 := hblk_of x1; (conv => whnf)) | ((with_reducible refine AX.id ?_); refine (of_ax h name hp).mono ?_; rintro _ X ⟨rfl, z1, z2⟩; exact LeafM.mk rfl ⟨z1, z2⟩) | ((with_reducible refine AX.id ?_); refine (cput_ax hc op _ _ hl).mono ?_; rintro _ X ⟨rfl, z1, z2⟩; exact LeafM.mk rfl ⟨z1, hf.trans z2⟩) | (apply Ob.of; (exact (ald rfl rfl (by assumption) rfl)); (conv => whnf)) | exact Leaf.mk rfl rfl | (refine step1 ?_) | (refine Ob.of rfl ?_; (conv => whnf)) | (refine Ob2.of (by rfl) ?_; (conv => whnf)))
  rintro H2 ⟨h2, f2⟩
  obtain ⟨iv2, lv2, y1, y2, y3, y4, y5, y6⟩ := h2.ex
  have bl2 := hblk_of y1
  have hn := h2.num
  have hfew := h2.few
  refine run ?_
  have w1 : IntKind.i64.wrap ((s.sites : Int) + 1) = ((s.sites + 1 : Nat) : Int) := by
    have := h.num.2.2.2.2
    rw [wrap_i64 (by omega) (by omega)]; omega
  refine Ob.store rfl rfl rfl y1 rfl (by first | exact Nat.le_of_ble_eq_true rfl | simp) fun H3 s3 k3 l3 => ?_
  refine run ?_
  have hml : K.m ≠ K.l := by rintro e; have := h2.mp; rw [e, y1] at this; simp at this
  have f3 : FrC K H H3 := f2.trans (.ofBut k3 ⟨h.lo.1, .inl rfl⟩)
  have own3 : ∀ {α : Type} {k : Nat} {e : TypeId} {f : Heap → List Value → α → Prop} {sv : Value} {L : List α}, (∀ l x, f H2 l x → f H3 l x) → OwnR k e f H2 sv L → OwnR k e f H3 sv L := fun hf o => o.keep (fun b c _ hc => k3.at hc (by rintro rfl; rw [y1] at hc; simp at hc)) fun _ _ _ h => hf _ _ h
  have hr : s.run (siteE op name) = { (({ s with pool := (poolF s.pool name).2 } : CS).put (op, ((poolF s.pool name).1 : Int), (s.sites : Int))) with sites := s.sites + 1 } := by
    unfold CS.run CS.lay siteE dmF CS.put
    simp [dm1]
  rw [hr]
  refine ⟨⟨h.h0, f3.grow h.g (Nat.le_of_eq h.h0), h.lo, ⟨h.hi.1, h.hi.2.1, h.hi.2.2.1, Nat.le_trans h.hi.2.2.2 f3.1⟩, h.ne, k3.at h2.mp hml, ⟨iv2, lv2, ?_, k3.at y2 h.ne.symm, own3 (fun _ _ h => h) y3, y4, own3 (fun _ _ h => h) y5, y6⟩, hfew, ⟨hn.1, hn.2.1, hn.2.2.1, hn.2.2.2.1, ?_⟩, h2.nodup⟩, f3⟩
  · rw [s3]
    show some (Blk.cells .var [_, _, Value.int .i64 (IntKind.i64.wrap ((s.sites : Int) + 1)), _, _]) = _
    rw [w1]
  · show s.sites + 1 ≤ (s.ins ++ [_]).length
    have := h.num.2.2.2.2
    rw [List.length_append, List.length_singleton]; omega
end Go.Proofs.Ytmdjepfpgmignaa
/- Package compile: leaf, end. Printed by mk6.py. -/
set_option linter.unusedVariables false
set_option linter.unusedSimpArgs false
set_option maxRecDepth 20000
set_option maxHeartbeats 8000000
namespace Go.Proofs.Ytmdjepfpgmignaa
open Go Ax
/-- A string's number is laid. -/
theorem run_pool (s : CS) (op : Int) (v : ByteArray) : s.run (poolE op v) = ({ s with pool := (poolF s.pool v).2 } : CS).put (op, ((poolF s.pool v).1 : Int), 0) := by
  unfold CS.run CS.lay poolE dmF CS.put
  simp [dm1]
theorem Room.one {s : CS} {op a b : Int} (h : Room s (oneE op a b)) : s.ins.length < 100000 := by have := h.1; unfold oneE at this; simp at this; omega
theorem Room.pool {s : CS} {op : Int} {v : ByteArray} (h : Room s (poolE op v)) : s.ins.length < 100000 ∧ s.pool.length < 100000 := by have := h.1; have := h.2; unfold poolE at *; simp at *; omega
theorem Room.site {s : CS} {op : Int} {v : ByteArray} (h : Room s (siteE op v)) : s.ins.length < 100000 ∧ s.pool.length < 100000 := by have := h.1; have := h.2; unfold siteE at *; simp at *; omega
theorem leaf_1 {x : Tr} (hk : x.kind = 1) {K : CK} {H0 H : Heap} {l : List Value} (R : NodeR H0 l x) {s : CS} (h : CR K H0 H s) (hr : Room s (oneE 2 0 0)) : AX Try.prog 46 #[.pointer (some ⟨K.l, 0, none⟩), .agg l.toArray] H (fun v H' => v = .bool true ∧ CR K H0 H' (s.run (oneE 2 0 0)) ∧ FrC K H H') := by
  obtain ⟨ow, sn, sk, rfl, rn, rk⟩ := R.inv
  refine AX.body (n := 56) (rs := [.tmp 4]) Try.func46 rfl (by decide) rfl rfl (bC_sound _ _ _ _ ?_)
  (conv => whnf)
  refine Ob2.box rfl fun q H1 hq ab g1 => ?_
  have bb := hblk_of ab
  have hqn : K.n1 ≤ q := by have := h.hi.2.2.2; omega
  have h1 := h.grow g1
  have f1 : FrC K H H1 := .of g1
  have hl : K.l < H1.length := by have := h1.hi; omega
  obtain ⟨iv, lv, e1, -⟩ := h1.ex
  have bl := hblk_of e1
  have t1 : (x.kind == 1) = true := by rw [hk]; rfl
  refine run ?_
  refine (cput_ax h1 2 0 0 hr.one).mono ?_
  rintro _ X ⟨rfl, h2, f2⟩
  rw [lay_put] at h2
  refine run ?_
  exact ⟨rfl, h2, f1.trans f2⟩
theorem leaf_6 {x : Tr} (hk : x.kind = 6) {K : CK} {H0 H : Heap} {l : List Value} (R : NodeR H0 l x) {s : CS} (h : CR K H0 H s) (hr : Room s (oneE 6 0 0)) : AX Try.prog 46 #[.pointer (some ⟨K.l, 0, none⟩), .agg l.toArray] H (fun v H' => v = .bool true ∧ CR K H0 H' (s.run (oneE 6 0 0)) ∧ FrC K H H') := by
  obtain ⟨ow, sn, sk, rfl, rn, rk⟩ := R.inv
  refine AX.body (n := 56) (rs := [.tmp 4]) Try.func46 rfl (by decide) rfl rfl (bC_sound _ _ _ _ ?_)
  (conv => whnf)
  refine Ob2.box rfl fun q H1 hq ab g1 => ?_
  have bb := hblk_of ab
  have hqn : K.n1 ≤ q := by have := h.hi.2.2.2; omega
  have h1 := h.grow g1
  have f1 : FrC K H H1 := .of g1
  have hl : K.l < H1.length := by have := h1.hi; omega
  obtain ⟨iv, lv, e1, -⟩ := h1.ex
  have bl := hblk_of e1
  have t1 : (x.kind == 1) = false := by rw [hk]; rfl
  have t6 : (x.kind == 6) = true := by rw [hk]; rfl
  refine run ?_
  refine (cput_ax h1 6 0 0 hr.one).mono ?_
  rintro _ X ⟨rfl, h2, f2⟩
  rw [lay_put] at h2
  refine run ?_
  exact ⟨rfl, h2, f1.trans f2⟩
theorem leaf_2 {x : Tr} (hk : x.kind = 2) {K : CK} {H0 H : Heap} {l : List Value} (R : NodeR H0 l x) {s : CS} (h : CR K H0 H s) (hr : Room s (oneE 3 x.num 0)) : AX Try.prog 46 #[.pointer (some ⟨K.l, 0, none⟩), .agg l.toArray] H (fun v H' => v = .bool true ∧ CR K H0 H' (s.run (oneE 3 x.num 0)) ∧ FrC K H H') := by
  obtain ⟨ow, sn, sk, rfl, rn, rk⟩ := R.inv
  refine AX.body (n := 56) (rs := [.tmp 4]) Try.func46 rfl (by decide) rfl rfl (bC_sound _ _ _ _ ?_)
  (conv => whnf)
  refine Ob2.box rfl fun q H1 hq ab g1 => ?_
  have bb := hblk_of ab
  have hqn : K.n1 ≤ q := by have := h.hi.2.2.2; omega
  have h1 := h.grow g1
  have f1 : FrC K H H1 := .of g1
  have hl : K.l < H1.length := by have := h1.hi; omega
  obtain ⟨iv, lv, e1, -⟩ := h1.ex
  have bl := hblk_of e1
  have t1 : (x.kind == 1) = false := by rw [hk]; rfl
  have t6 : (x.kind == 6) = false := by rw [hk]; rfl
  have t2 : (x.kind == 2) = true := by rw [hk]; rfl
  refine run ?_
  refine (cput_ax h1 3 x.num 0 hr.one).mono ?_
  rintro _ X ⟨rfl, h2, f2⟩
  rw [lay_put] at h2
  refine run ?_
  exact ⟨rfl, h2, f1.trans f2⟩
theorem leaf_3 {x : Tr} (hk : x.kind = 3) {K : CK} {H0 H : Heap} {l : List Value} (R : NodeR H0 l x) {s : CS} (h : CR K H0 H s) (hr : Room s (oneE 4 x.num 0)) : AX Try.prog 46 #[.pointer (some ⟨K.l, 0, none⟩), .agg l.toArray] H (fun v H' => v = .bool true ∧ CR K H0 H' (s.run (oneE 4 x.num 0)) ∧ FrC K H H') := by
  obtain ⟨ow, sn, sk, rfl, rn, rk⟩ := R.inv
  refine AX.body (n := 56) (rs := [.tmp 4]) Try.func46 rfl (by decide) rfl rfl (bC_sound _ _ _ _ ?_)
  (conv => whnf)
  refine Ob2.box rfl fun q H1 hq ab g1 => ?_
  have bb := hblk_of ab
  have hqn : K.n1 ≤ q := by have := h.hi.2.2.2; omega
  have h1 := h.grow g1
  have f1 : FrC K H H1 := .of g1
  have hl : K.l < H1.length := by have := h1.hi; omega
  obtain ⟨iv, lv, e1, -⟩ := h1.ex
  have bl := hblk_of e1
  have t1 : (x.kind == 1) = false := by rw [hk]; rfl
  have t6 : (x.kind == 6) = false := by rw [hk]; rfl
  have t2 : (x.kind == 2) = false := by rw [hk]; rfl
  have t3 : (x.kind == 3) = true := by rw [hk]; rfl
  refine run ?_
  refine (cput_ax h1 4 x.num 0 hr.one).mono ?_
  rintro _ X ⟨rfl, h2, f2⟩
  rw [lay_put] at h2
  refine run ?_
  exact ⟨rfl, h2, f1.trans f2⟩
theorem leaf_4 {x : Tr} (hk : x.kind = 4) {K : CK} {H0 H : Heap} {l : List Value} (R : NodeR H0 l x) {s : CS} (h : CR K H0 H s) (hr : Room s (poolE 5 x.str)) : AX Try.prog 46 #[.pointer (some ⟨K.l, 0, none⟩), .agg l.toArray] H (fun v H' => v = .bool true ∧ CR K H0 H' (s.run (poolE 5 x.str)) ∧ FrC K H H') := by
  obtain ⟨ow, sn, sk, rfl, rn, rk⟩ := R.inv
  refine AX.body (n := 56) (rs := [.tmp 4]) Try.func46 rfl (by decide) rfl rfl (bC_sound _ _ _ _ ?_)
  (conv => whnf)
  refine Ob2.box rfl fun q H1 hq ab g1 => ?_
  have bb := hblk_of ab
  have hqn : K.n1 ≤ q := by have := h.hi.2.2.2; omega
  have h1 := h.grow g1
  have f1 : FrC K H H1 := .of g1
  have hl : K.l < H1.length := by have := h1.hi; omega
  obtain ⟨iv, lv, e1, -⟩ := h1.ex
  have bl := hblk_of e1
  have t1 : (x.kind == 1) = false := by rw [hk]; rfl
  have t6 : (x.kind == 6) = false := by rw [hk]; rfl
  have t2 : (x.kind == 2) = false := by rw [hk]; rfl
  have t3 : (x.kind == 3) = false := by rw [hk]; rfl
  have t4 : (x.kind == 4) = true := by rw [hk]; rfl
  refine run ?_
  apply SW.drawH [(0, [], [30, 31, 32, 33, 34, 35, 36], false), (1, [], [29, 34, 35], false), (2, [(30, 1)], [29, 30, 34, 35], false), (3, [(30, 1), (31, 2)], [29, 30, 31, 34, 35], false), (4, [(30, 1), (31, 2), (32, 3)], [29, 30, 31, 32, 34, 35], false), (5, [], [29, 30, 31, 32, 33], false), (6, [(34, 5)], [29, 30, 31, 32, 33, 34], false), (7, [(30, 1), (31, 2), (32, 3), (33, 4), (34, 5), (35, 6)], [29, 30, 31, 32, 33, 34, 35], true), (8, [(29, 0), (30, 1), (31, 2), (32, 3), (33, 4), (34, 5), (35, 6), (36, 7)], [29, 30, 31, 32, 33, 34, 35, 36], true)]
    [(29, 0), (30, 1), (31, 2), (32, 3), (33, 4), (34, 5), (35, 6), (36, 7), (37, 8)] []
    [(0, _), (3, _)] rfl (by kernel_rfl)
  case hF => exact ⟨rfl, rfl, trivial⟩
  refine run ?_
  refine (of_ax h1 x.str hr.pool.2).mono ?_
  rintro _ X ⟨rfl, h2, f2⟩
  refine run ?_
  refine (cput_ax h2 5 _ 0 hr.pool.1).mono ?_
  rintro _ Y ⟨rfl, h3, f3⟩
  rw [← run_pool] at h3
  refine run ?_
  exact ⟨rfl, h3, (f1.trans f2).trans f3⟩
theorem leaf_20 {x : Tr} (hk : x.kind = 20) {K : CK} {H0 H : Heap} {l : List Value} (R : NodeR H0 l x) {s : CS} (h : CR K H0 H s) (hr : Room s (oneE 7 x.num 0)) : AX Try.prog 46 #[.pointer (some ⟨K.l, 0, none⟩), .agg l.toArray] H (fun v H' => v = .bool true ∧ CR K H0 H' (s.run (oneE 7 x.num 0)) ∧ FrC K H H') := by
  obtain ⟨ow, sn, sk, rfl, rn, rk⟩ := R.inv
  refine AX.body (n := 56) (rs := [.tmp 4]) Try.func46 rfl (by decide) rfl rfl (bC_sound _ _ _ _ ?_)
  (conv => whnf)
  refine Ob2.box rfl fun q H1 hq ab g1 => ?_
  have bb := hblk_of ab
  have hqn : K.n1 ≤ q := by have := h.hi.2.2.2; omega
  have h1 := h.grow g1
  have f1 : FrC K H H1 := .of g1
  have hl : K.l < H1.length := by have := h1.hi; omega
  obtain ⟨iv, lv, e1, -⟩ := h1.ex
  have bl := hblk_of e1
  have t1 : (x.kind == 1) = false := by rw [hk]; rfl
  have t6 : (x.kind == 6) = false := by rw [hk]; rfl
  have t2 : (x.kind == 2) = false := by rw [hk]; rfl
  have t3 : (x.kind == 3) = false := by rw [hk]; rfl
  have t4 : (x.kind == 4) = false := by rw [hk]; rfl
  have t20 : (x.kind == 20) = true := by rw [hk]; rfl
  refine run ?_
  refine (cput_ax h1 7 x.num 0 hr.one).mono ?_
  rintro _ X ⟨rfl, h2, f2⟩
  rw [lay_put] at h2
  refine run ?_
  exact ⟨rfl, h2, f1.trans f2⟩
theorem leaf_18 {x : Tr} (hk : x.kind = 18) {K : CK} {H0 H : Heap} {l : List Value} (R : NodeR H0 l x) {s : CS} (h : CR K H0 H s) (hr : Room s (oneE 8 x.num 0)) : AX Try.prog 46 #[.pointer (some ⟨K.l, 0, none⟩), .agg l.toArray] H (fun v H' => v = .bool true ∧ CR K H0 H' (s.run (oneE 8 x.num 0)) ∧ FrC K H H') := by
  obtain ⟨ow, sn, sk, rfl, rn, rk⟩ := R.inv
  refine AX.body (n := 56) (rs := [.tmp 4]) Try.func46 rfl (by decide) rfl rfl (bC_sound _ _ _ _ ?_)
  (conv => whnf)
  refine Ob2.box rfl fun q H1 hq ab g1 => ?_
  have bb := hblk_of ab
  have hqn : K.n1 ≤ q := by have := h.hi.2.2.2; omega
  have h1 := h.grow g1
  have f1 : FrC K H H1 := .of g1
  have hl : K.l < H1.length := by have := h1.hi; omega
  obtain ⟨iv, lv, e1, -⟩ := h1.ex
  have bl := hblk_of e1
  have t1 : (x.kind == 1) = false := by rw [hk]; rfl
  have t6 : (x.kind == 6) = false := by rw [hk]; rfl
  have t2 : (x.kind == 2) = false := by rw [hk]; rfl
  have t3 : (x.kind == 3) = false := by rw [hk]; rfl
  have t4 : (x.kind == 4) = false := by rw [hk]; rfl
  have t20 : (x.kind == 20) = false := by rw [hk]; rfl
  have t18 : (x.kind == 18) = true := by rw [hk]; rfl
  refine run ?_
  refine (cput_ax h1 8 x.num 0 hr.one).mono ?_
  rintro _ X ⟨rfl, h2, f2⟩
  rw [lay_put] at h2
  refine run ?_
  exact ⟨rfl, h2, f1.trans f2⟩
theorem leaf_19 {x : Tr} (hk : x.kind = 19) {K : CK} {H0 H : Heap} {l : List Value} (R : NodeR H0 l x) {s : CS} (h : CR K H0 H s) (hr : Room s (oneE 10 x.num 0)) : AX Try.prog 46 #[.pointer (some ⟨K.l, 0, none⟩), .agg l.toArray] H (fun v H' => v = .bool true ∧ CR K H0 H' (s.run (oneE 10 x.num 0)) ∧ FrC K H H') := by
  obtain ⟨ow, sn, sk, rfl, rn, rk⟩ := R.inv
  refine AX.body (n := 56) (rs := [.tmp 4]) Try.func46 rfl (by decide) rfl rfl (bC_sound _ _ _ _ ?_)
  (conv => whnf)
  refine Ob2.box rfl fun q H1 hq ab g1 => ?_
  have bb := hblk_of ab
  have hqn : K.n1 ≤ q := by have := h.hi.2.2.2; omega
  have h1 := h.grow g1
  have f1 : FrC K H H1 := .of g1
  have hl : K.l < H1.length := by have := h1.hi; omega
  obtain ⟨iv, lv, e1, -⟩ := h1.ex
  have bl := hblk_of e1
  have t1 : (x.kind == 1) = false := by rw [hk]; rfl
  have t6 : (x.kind == 6) = false := by rw [hk]; rfl
  have t2 : (x.kind == 2) = false := by rw [hk]; rfl
  have t3 : (x.kind == 3) = false := by rw [hk]; rfl
  have t4 : (x.kind == 4) = false := by rw [hk]; rfl
  have t20 : (x.kind == 20) = false := by rw [hk]; rfl
  have t18 : (x.kind == 18) = false := by rw [hk]; rfl
  have t19 : (x.kind == 19) = true := by rw [hk]; rfl
  refine run ?_
  refine (cput_ax h1 10 x.num 0 hr.one).mono ?_
  rintro _ X ⟨rfl, h2, f2⟩
  rw [lay_put] at h2
  refine run ?_
  exact ⟨rfl, h2, f1.trans f2⟩
theorem leaf_none {x : Tr} (hn : leafE x.kind x.num x.str = none) {K : CK} {H0 H : Heap} {l : List Value} (R : NodeR H0 l x) {s : CS} (h : CR K H0 H s) : AX Try.prog 46 #[.pointer (some ⟨K.l, 0, none⟩), .agg l.toArray] H (fun v H' => v = .bool false ∧ CR K H0 H' s ∧ FrC K H H') := by
  have hk : x.kind ≠ 1 ∧ x.kind ≠ 6 ∧ x.kind ≠ 2 ∧ x.kind ≠ 3 ∧ x.kind ≠ 4 ∧ x.kind ≠ 20 ∧ x.kind ≠ 18 ∧ x.kind ≠ 19 := by
    unfold leafE at hn
    refine ⟨?_, ?_, ?_, ?_, ?_, ?_, ?_, ?_⟩ <;> (intro e; rw [e] at hn; simp at hn)
  obtain ⟨k1, k6, k2, k3, k4, k20, k18, k19⟩ := hk
  obtain ⟨ow, sn, sk, rfl, rn, rk⟩ := R.inv
  refine AX.body (n := 56) (rs := [.tmp 4]) Try.func46 rfl (by decide) rfl rfl (bC_sound _ _ _ _ ?_)
  (conv => whnf)
  refine Ob2.box rfl fun q H1 hq ab g1 => ?_
  have bb := hblk_of ab
  have hqn : K.n1 ≤ q := by have := h.hi.2.2.2; omega
  have h1 := h.grow g1
  have f1 : FrC K H H1 := .of g1
  have t1 : (x.kind == 1) = false := by rw [beq_eq_false_iff_ne]; exact k1
  have t6 : (x.kind == 6) = false := by rw [beq_eq_false_iff_ne]; exact k6
  have t2 : (x.kind == 2) = false := by rw [beq_eq_false_iff_ne]; exact k2
  have t3 : (x.kind == 3) = false := by rw [beq_eq_false_iff_ne]; exact k3
  have t4 : (x.kind == 4) = false := by rw [beq_eq_false_iff_ne]; exact k4
  have t20 : (x.kind == 20) = false := by rw [beq_eq_false_iff_ne]; exact k20
  have t18 : (x.kind == 18) = false := by rw [beq_eq_false_iff_ne]; exact k18
  have t19 : (x.kind == 19) = false := by rw [beq_eq_false_iff_ne]; exact k19
  refine run ?_
  exact ⟨rfl, h1, f1⟩
theorem end_9 {x : Tr} (hk : x.kind = 9) {K : CK} {H0 H : Heap} {l : List Value} (R : NodeR H0 l x) {s : CS} (h : CR K H0 H s) (hr : Room s (oneE 20 x.op 0)) : AX Try.prog 51 #[.pointer (some ⟨K.l, 0, none⟩), .agg l.toArray] H (CQ K H0 H (s.run (oneE 20 x.op 0))) := by
  obtain ⟨ow, sn, sk, rfl, rn, rk⟩ := R.inv
  refine AX.body (n := 91) (rs := []) Try.func51 rfl (by decide) rfl rfl (bC_sound _ _ _ _ ?_)
  (conv => whnf)
  refine Ob2.box rfl fun q H1 hq ab g1 => ?_
  have bb := hblk_of ab
  have hqn : K.n1 ≤ q := by have := h.hi.2.2.2; omega
  have h1 := h.grow g1
  have f1 : FrC K H H1 := .of g1
  obtain ⟨iv, lv, e1, -⟩ := h1.ex
  have bl := hblk_of e1
  have t9 : (x.kind == 9) = true := by rw [hk]; rfl
  refine run ?_
  refine (cput_ax h1 20 x.op 0 hr.one).mono ?_
  rintro _ X ⟨rfl, h2, f2⟩
  rw [lay_put] at h2
  refine run ?_
  exact ⟨h2, f1.trans f2⟩
theorem end_10 {x : Tr} (hk : x.kind = 10) {K : CK} {H0 H : Heap} {l : List Value} (R : NodeR H0 l x) {s : CS} (h : CR K H0 H s) (hr : Room s (oneE 21 x.op 0)) : AX Try.prog 51 #[.pointer (some ⟨K.l, 0, none⟩), .agg l.toArray] H (CQ K H0 H (s.run (oneE 21 x.op 0))) := by
  obtain ⟨ow, sn, sk, rfl, rn, rk⟩ := R.inv
  refine AX.body (n := 91) (rs := []) Try.func51 rfl (by decide) rfl rfl (bC_sound _ _ _ _ ?_)
  (conv => whnf)
  refine Ob2.box rfl fun q H1 hq ab g1 => ?_
  have bb := hblk_of ab
  have hqn : K.n1 ≤ q := by have := h.hi.2.2.2; omega
  have h1 := h.grow g1
  have f1 : FrC K H H1 := .of g1
  obtain ⟨iv, lv, e1, -⟩ := h1.ex
  have bl := hblk_of e1
  have t9 : (x.kind == 9) = false := by rw [hk]; rfl
  have t10 : (x.kind == 10) = true := by rw [hk]; rfl
  refine run ?_
  refine (cput_ax h1 21 x.op 0 hr.one).mono ?_
  rintro _ X ⟨rfl, h2, f2⟩
  rw [lay_put] at h2
  refine run ?_
  exact ⟨h2, f1.trans f2⟩
theorem end_17 {x : Tr} (hk : x.kind = 17) {K : CK} {H0 H : Heap} {l : List Value} (R : NodeR H0 l x) {s : CS} (h : CR K H0 H s) (hr : Room s (oneE 29 x.op 0)) : AX Try.prog 51 #[.pointer (some ⟨K.l, 0, none⟩), .agg l.toArray] H (CQ K H0 H (s.run (oneE 29 x.op 0))) := by
  obtain ⟨ow, sn, sk, rfl, rn, rk⟩ := R.inv
  refine AX.body (n := 91) (rs := []) Try.func51 rfl (by decide) rfl rfl (bC_sound _ _ _ _ ?_)
  (conv => whnf)
  refine Ob2.box rfl fun q H1 hq ab g1 => ?_
  have bb := hblk_of ab
  have hqn : K.n1 ≤ q := by have := h.hi.2.2.2; omega
  have h1 := h.grow g1
  have f1 : FrC K H H1 := .of g1
  obtain ⟨iv, lv, e1, -⟩ := h1.ex
  have bl := hblk_of e1
  have t9 : (x.kind == 9) = false := by rw [hk]; rfl
  have t10 : (x.kind == 10) = false := by rw [hk]; rfl
  have t17 : (x.kind == 17) = true := by rw [hk]; rfl
  refine run ?_
  refine (cput_ax h1 29 x.op 0 hr.one).mono ?_
  rintro _ X ⟨rfl, h2, f2⟩
  rw [lay_put] at h2
  refine run ?_
  exact ⟨h2, f1.trans f2⟩
theorem end_13 {x : Tr} (hk : x.kind = 13) {K : CK} {H0 H : Heap} {l : List Value} (R : NodeR H0 l x) {s : CS} (h : CR K H0 H s) (hr : Room s (siteE 14 x.str)) : AX Try.prog 51 #[.pointer (some ⟨K.l, 0, none⟩), .agg l.toArray] H (CQ K H0 H (s.run (siteE 14 x.str))) := by
  obtain ⟨ow, sn, sk, rfl, rn, rk⟩ := R.inv
  refine AX.body (n := 91) (rs := []) Try.func51 rfl (by decide) rfl rfl (bC_sound _ _ _ _ ?_)
  (conv => whnf)
  refine Ob2.box rfl fun q H1 hq ab g1 => ?_
  have bb := hblk_of ab
  have hqn : K.n1 ≤ q := by have := h.hi.2.2.2; omega
  have h1 := h.grow g1
  have f1 : FrC K H H1 := .of g1
  obtain ⟨iv, lv, e1, -⟩ := h1.ex
  have bl := hblk_of e1
  have t9 : (x.kind == 9) = false := by rw [hk]; rfl
  have t10 : (x.kind == 10) = false := by rw [hk]; rfl
  have t17 : (x.kind == 17) = false := by rw [hk]; rfl
  have t13 : (x.kind == 13) = true := by rw [hk]; rfl
  refine run ?_
  refine (csite_ax h1 14 x.str hr.site.1 hr.site.2).mono ?_
  rintro _ X ⟨h2, f2⟩
  refine run ?_
  exact ⟨h2, f1.trans f2⟩
theorem end_14 {x : Tr} (hk : x.kind = 14) {K : CK} {H0 H : Heap} {l : List Value} (R : NodeR H0 l x) {s : CS} (h : CR K H0 H s) (hr : Room s (oneE 16 0 0)) : AX Try.prog 51 #[.pointer (some ⟨K.l, 0, none⟩), .agg l.toArray] H (CQ K H0 H (s.run (oneE 16 0 0))) := by
  obtain ⟨ow, sn, sk, rfl, rn, rk⟩ := R.inv
  refine AX.body (n := 91) (rs := []) Try.func51 rfl (by decide) rfl rfl (bC_sound _ _ _ _ ?_)
  (conv => whnf)
  refine Ob2.box rfl fun q H1 hq ab g1 => ?_
  have bb := hblk_of ab
  have hqn : K.n1 ≤ q := by have := h.hi.2.2.2; omega
  have h1 := h.grow g1
  have f1 : FrC K H H1 := .of g1
  obtain ⟨iv, lv, e1, -⟩ := h1.ex
  have bl := hblk_of e1
  have t9 : (x.kind == 9) = false := by rw [hk]; rfl
  have t10 : (x.kind == 10) = false := by rw [hk]; rfl
  have t17 : (x.kind == 17) = false := by rw [hk]; rfl
  have t13 : (x.kind == 13) = false := by rw [hk]; rfl
  have t14 : (x.kind == 14) = true := by rw [hk]; rfl
  refine run ?_
  refine (cput_ax h1 16 0 0 hr.one).mono ?_
  rintro _ X ⟨rfl, h2, f2⟩
  rw [lay_put] at h2
  refine run ?_
  exact ⟨h2, f1.trans f2⟩
theorem end_15 {x : Tr} (hk : x.kind = 15) {K : CK} {H0 H : Heap} {l : List Value} (R : NodeR H0 l x) {s : CS} (h : CR K H0 H s) (hr : Room s (oneE 26 ((x.kids.length : Int) - 1) 0)) : AX Try.prog 51 #[.pointer (some ⟨K.l, 0, none⟩), .agg l.toArray] H (CQ K H0 H (s.run (oneE 26 ((x.kids.length : Int) - 1) 0))) := by
  obtain ⟨ow, sn, sk, rfl, rn, rk⟩ := R.inv
  refine AX.body (n := 91) (rs := []) Try.func51 rfl (by decide) rfl rfl (bC_sound _ _ _ _ ?_)
  (conv => whnf)
  refine Ob2.box rfl fun q H1 hq ab g1 => ?_
  have bb := hblk_of ab
  have hqn : K.n1 ≤ q := by have := h.hi.2.2.2; omega
  have h1 := h.grow g1
  have f1 : FrC K H H1 := .of g1
  obtain ⟨iv, lv, e1, -⟩ := h1.ex
  have bl := hblk_of e1
  have t9 : (x.kind == 9) = false := by rw [hk]; rfl
  have t10 : (x.kind == 10) = false := by rw [hk]; rfl
  have t17 : (x.kind == 17) = false := by rw [hk]; rfl
  have t13 : (x.kind == 13) = false := by rw [hk]; rfl
  have t14 : (x.kind == 14) = false := by rw [hk]; rfl
  have t15 : (x.kind == 15) = true := by rw [hk]; rfl
  have l1 : alen Try.prog 45 sk H1 = some (.int .i64 x.kids.length) := rk.len rfl _
  have hkm := ow.2.2.2
  simp only [maxLen] at hkm
  have w1 : IntKind.i64.wrap ((x.kids.length : Int) - 1) = (x.kids.length : Int) - 1 := by rw [wrap_i64 (by omega) (by omega)]
  refine run ?_
  rw [w1]
  refine (cput_ax h1 26 ((x.kids.length : Int) - 1) 0 hr.one).mono ?_
  rintro _ X ⟨rfl, h2, f2⟩
  rw [lay_put] at h2
  refine run ?_
  exact ⟨h2, f1.trans f2⟩
theorem end_33 {x : Tr} (hk : x.kind = 33) {K : CK} {H0 H : Heap} {l : List Value} (R : NodeR H0 l x) {s : CS} (h : CR K H0 H s) (hr : Room s (oneE 9 x.num 0)) : AX Try.prog 51 #[.pointer (some ⟨K.l, 0, none⟩), .agg l.toArray] H (CQ K H0 H (s.run (oneE 9 x.num 0))) := by
  obtain ⟨ow, sn, sk, rfl, rn, rk⟩ := R.inv
  refine AX.body (n := 91) (rs := []) Try.func51 rfl (by decide) rfl rfl (bC_sound _ _ _ _ ?_)
  (conv => whnf)
  refine Ob2.box rfl fun q H1 hq ab g1 => ?_
  have bb := hblk_of ab
  have hqn : K.n1 ≤ q := by have := h.hi.2.2.2; omega
  have h1 := h.grow g1
  have f1 : FrC K H H1 := .of g1
  obtain ⟨iv, lv, e1, -⟩ := h1.ex
  have bl := hblk_of e1
  have t9 : (x.kind == 9) = false := by rw [hk]; rfl
  have t10 : (x.kind == 10) = false := by rw [hk]; rfl
  have t17 : (x.kind == 17) = false := by rw [hk]; rfl
  have t13 : (x.kind == 13) = false := by rw [hk]; rfl
  have t14 : (x.kind == 14) = false := by rw [hk]; rfl
  have t15 : (x.kind == 15) = false := by rw [hk]; rfl
  have t33 : (x.kind == 33) = true := by rw [hk]; rfl
  refine run ?_
  refine (cput_ax h1 9 x.num 0 hr.one).mono ?_
  rintro _ X ⟨rfl, h2, f2⟩
  rw [lay_put] at h2
  refine run ?_
  exact ⟨h2, f1.trans f2⟩
theorem end_34 {x : Tr} (hk : x.kind = 34) {K : CK} {H0 H : Heap} {l : List Value} (R : NodeR H0 l x) {s : CS} (h : CR K H0 H s) (hr : Room s (oneE 11 x.num 0)) : AX Try.prog 51 #[.pointer (some ⟨K.l, 0, none⟩), .agg l.toArray] H (CQ K H0 H (s.run (oneE 11 x.num 0))) := by
  obtain ⟨ow, sn, sk, rfl, rn, rk⟩ := R.inv
  refine AX.body (n := 91) (rs := []) Try.func51 rfl (by decide) rfl rfl (bC_sound _ _ _ _ ?_)
  (conv => whnf)
  refine Ob2.box rfl fun q H1 hq ab g1 => ?_
  have bb := hblk_of ab
  have hqn : K.n1 ≤ q := by have := h.hi.2.2.2; omega
  have h1 := h.grow g1
  have f1 : FrC K H H1 := .of g1
  obtain ⟨iv, lv, e1, -⟩ := h1.ex
  have bl := hblk_of e1
  have t9 : (x.kind == 9) = false := by rw [hk]; rfl
  have t10 : (x.kind == 10) = false := by rw [hk]; rfl
  have t17 : (x.kind == 17) = false := by rw [hk]; rfl
  have t13 : (x.kind == 13) = false := by rw [hk]; rfl
  have t14 : (x.kind == 14) = false := by rw [hk]; rfl
  have t15 : (x.kind == 15) = false := by rw [hk]; rfl
  have t33 : (x.kind == 33) = false := by rw [hk]; rfl
  have t34 : (x.kind == 34) = true := by rw [hk]; rfl
  refine run ?_
  refine (cput_ax h1 11 x.num 0 hr.one).mono ?_
  rintro _ X ⟨rfl, h2, f2⟩
  rw [lay_put] at h2
  refine run ?_
  exact ⟨h2, f1.trans f2⟩
theorem end_23 {x : Tr} (hk : x.kind = 23) {K : CK} {H0 H : Heap} {l : List Value} (R : NodeR H0 l x) {s : CS} (h : CR K H0 H s) (hr : Room s (siteE 15 x.str)) : AX Try.prog 51 #[.pointer (some ⟨K.l, 0, none⟩), .agg l.toArray] H (CQ K H0 H (s.run (siteE 15 x.str))) := by
  obtain ⟨ow, sn, sk, rfl, rn, rk⟩ := R.inv
  refine AX.body (n := 91) (rs := []) Try.func51 rfl (by decide) rfl rfl (bC_sound _ _ _ _ ?_)
  (conv => whnf)
  refine Ob2.box rfl fun q H1 hq ab g1 => ?_
  have bb := hblk_of ab
  have hqn : K.n1 ≤ q := by have := h.hi.2.2.2; omega
  have h1 := h.grow g1
  have f1 : FrC K H H1 := .of g1
  obtain ⟨iv, lv, e1, -⟩ := h1.ex
  have bl := hblk_of e1
  have t9 : (x.kind == 9) = false := by rw [hk]; rfl
  have t10 : (x.kind == 10) = false := by rw [hk]; rfl
  have t17 : (x.kind == 17) = false := by rw [hk]; rfl
  have t13 : (x.kind == 13) = false := by rw [hk]; rfl
  have t14 : (x.kind == 14) = false := by rw [hk]; rfl
  have t15 : (x.kind == 15) = false := by rw [hk]; rfl
  have t33 : (x.kind == 33) = false := by rw [hk]; rfl
  have t34 : (x.kind == 34) = false := by rw [hk]; rfl
  have t23 : (x.kind == 23) = true := by rw [hk]; rfl
  refine run ?_
  refine (csite_ax h1 15 x.str hr.site.1 hr.site.2).mono ?_
  rintro _ X ⟨h2, f2⟩
  refine run ?_
  exact ⟨h2, f1.trans f2⟩
theorem end_24 {x : Tr} (hk : x.kind = 24) {K : CK} {H0 H : Heap} {l : List Value} (R : NodeR H0 l x) {s : CS} (h : CR K H0 H s) (hr : Room s (oneE 17 0 0)) : AX Try.prog 51 #[.pointer (some ⟨K.l, 0, none⟩), .agg l.toArray] H (CQ K H0 H (s.run (oneE 17 0 0))) := by
  obtain ⟨ow, sn, sk, rfl, rn, rk⟩ := R.inv
  refine AX.body (n := 91) (rs := []) Try.func51 rfl (by decide) rfl rfl (bC_sound _ _ _ _ ?_)
  (conv => whnf)
  refine Ob2.box rfl fun q H1 hq ab g1 => ?_
  have bb := hblk_of ab
  have hqn : K.n1 ≤ q := by have := h.hi.2.2.2; omega
  have h1 := h.grow g1
  have f1 : FrC K H H1 := .of g1
  obtain ⟨iv, lv, e1, -⟩ := h1.ex
  have bl := hblk_of e1
  have t9 : (x.kind == 9) = false := by rw [hk]; rfl
  have t10 : (x.kind == 10) = false := by rw [hk]; rfl
  have t17 : (x.kind == 17) = false := by rw [hk]; rfl
  have t13 : (x.kind == 13) = false := by rw [hk]; rfl
  have t14 : (x.kind == 14) = false := by rw [hk]; rfl
  have t15 : (x.kind == 15) = false := by rw [hk]; rfl
  have t33 : (x.kind == 33) = false := by rw [hk]; rfl
  have t34 : (x.kind == 34) = false := by rw [hk]; rfl
  have t23 : (x.kind == 23) = false := by rw [hk]; rfl
  have t24 : (x.kind == 24) = true := by rw [hk]; rfl
  refine run ?_
  refine (cput_ax h1 17 0 0 hr.one).mono ?_
  rintro _ X ⟨rfl, h2, f2⟩
  rw [lay_put] at h2
  refine run ?_
  exact ⟨h2, f1.trans f2⟩
theorem end_25 {x : Tr} (hk : x.kind = 25) {K : CK} {H0 H : Heap} {l : List Value} (R : NodeR H0 l x) {s : CS} (h : CR K H0 H s) (hr : Room s (poolE 18 x.str)) : AX Try.prog 51 #[.pointer (some ⟨K.l, 0, none⟩), .agg l.toArray] H (CQ K H0 H (s.run (poolE 18 x.str))) := by
  obtain ⟨ow, sn, sk, rfl, rn, rk⟩ := R.inv
  refine AX.body (n := 91) (rs := []) Try.func51 rfl (by decide) rfl rfl (bC_sound _ _ _ _ ?_)
  (conv => whnf)
  refine Ob2.box rfl fun q H1 hq ab g1 => ?_
  have bb := hblk_of ab
  have hqn : K.n1 ≤ q := by have := h.hi.2.2.2; omega
  have h1 := h.grow g1
  have f1 : FrC K H H1 := .of g1
  obtain ⟨iv, lv, e1, -⟩ := h1.ex
  have bl := hblk_of e1
  have t9 : (x.kind == 9) = false := by rw [hk]; rfl
  have t10 : (x.kind == 10) = false := by rw [hk]; rfl
  have t17 : (x.kind == 17) = false := by rw [hk]; rfl
  have t13 : (x.kind == 13) = false := by rw [hk]; rfl
  have t14 : (x.kind == 14) = false := by rw [hk]; rfl
  have t15 : (x.kind == 15) = false := by rw [hk]; rfl
  have t33 : (x.kind == 33) = false := by rw [hk]; rfl
  have t34 : (x.kind == 34) = false := by rw [hk]; rfl
  have t23 : (x.kind == 23) = false := by rw [hk]; rfl
  have t24 : (x.kind == 24) = false := by rw [hk]; rfl
  have t25 : (x.kind == 25) = true := by rw [hk]; rfl
  refine run ?_
  apply SW.drawH [(0, [], [67, 68, 69, 70, 71, 72, 73], false), (1, [], [66, 71, 72], false), (2, [(67, 1)], [66, 67, 71, 72], false), (3, [(67, 1), (68, 2)], [66, 67, 68, 71, 72], false), (4, [(67, 1), (68, 2), (69, 3)], [66, 67, 68, 69, 71, 72], false), (5, [], [66, 67, 68, 69, 70], false), (6, [(71, 5)], [66, 67, 68, 69, 70, 71], false), (7, [(67, 1), (68, 2), (69, 3), (70, 4), (71, 5), (72, 6)], [66, 67, 68, 69, 70, 71, 72], true), (8, [(66, 0), (67, 1), (68, 2), (69, 3), (70, 4), (71, 5), (72, 6), (73, 7)], [66, 67, 68, 69, 70, 71, 72, 73], true)]
    [(66, 0), (67, 1), (68, 2), (69, 3), (70, 4), (71, 5), (72, 6), (73, 7), (74, 8)] []
    [(0, _), (3, _)] rfl (by kernel_rfl)
  case hF => exact ⟨rfl, rfl, trivial⟩
  refine run ?_
  refine (of_ax h1 x.str hr.pool.2).mono ?_
  rintro _ X ⟨rfl, h2, f2⟩
  refine run ?_
  refine (cput_ax h2 18 _ 0 hr.pool.1).mono ?_
  rintro _ Y ⟨rfl, h3, f3⟩
  rw [← run_pool] at h3
  refine run ?_
  exact ⟨h3, (f1.trans f2).trans f3⟩
theorem end_26 {x : Tr} (hk : x.kind = 26) {K : CK} {H0 H : Heap} {l : List Value} (R : NodeR H0 l x) {s : CS} (h : CR K H0 H s) (hr : Room s (oneE 19 0 0)) : AX Try.prog 51 #[.pointer (some ⟨K.l, 0, none⟩), .agg l.toArray] H (CQ K H0 H (s.run (oneE 19 0 0))) := by
  obtain ⟨ow, sn, sk, rfl, rn, rk⟩ := R.inv
  refine AX.body (n := 91) (rs := []) Try.func51 rfl (by decide) rfl rfl (bC_sound _ _ _ _ ?_)
  (conv => whnf)
  refine Ob2.box rfl fun q H1 hq ab g1 => ?_
  have bb := hblk_of ab
  have hqn : K.n1 ≤ q := by have := h.hi.2.2.2; omega
  have h1 := h.grow g1
  have f1 : FrC K H H1 := .of g1
  obtain ⟨iv, lv, e1, -⟩ := h1.ex
  have bl := hblk_of e1
  have t9 : (x.kind == 9) = false := by rw [hk]; rfl
  have t10 : (x.kind == 10) = false := by rw [hk]; rfl
  have t17 : (x.kind == 17) = false := by rw [hk]; rfl
  have t13 : (x.kind == 13) = false := by rw [hk]; rfl
  have t14 : (x.kind == 14) = false := by rw [hk]; rfl
  have t15 : (x.kind == 15) = false := by rw [hk]; rfl
  have t33 : (x.kind == 33) = false := by rw [hk]; rfl
  have t34 : (x.kind == 34) = false := by rw [hk]; rfl
  have t23 : (x.kind == 23) = false := by rw [hk]; rfl
  have t24 : (x.kind == 24) = false := by rw [hk]; rfl
  have t25 : (x.kind == 25) = false := by rw [hk]; rfl
  have t26 : (x.kind == 26) = true := by rw [hk]; rfl
  refine run ?_
  refine (cput_ax h1 19 0 0 hr.one).mono ?_
  rintro _ X ⟨rfl, h2, f2⟩
  rw [lay_put] at h2
  refine run ?_
  exact ⟨h2, f1.trans f2⟩
theorem end_27 {x : Tr} (hk : x.kind = 27) {K : CK} {H0 H : Heap} {l : List Value} (R : NodeR H0 l x) {s : CS} (h : CR K H0 H s) (hr : Room s (oneE 30 0 0)) : AX Try.prog 51 #[.pointer (some ⟨K.l, 0, none⟩), .agg l.toArray] H (CQ K H0 H (s.run (oneE 30 0 0))) := by
  obtain ⟨ow, sn, sk, rfl, rn, rk⟩ := R.inv
  refine AX.body (n := 91) (rs := []) Try.func51 rfl (by decide) rfl rfl (bC_sound _ _ _ _ ?_)
  (conv => whnf)
  refine Ob2.box rfl fun q H1 hq ab g1 => ?_
  have bb := hblk_of ab
  have hqn : K.n1 ≤ q := by have := h.hi.2.2.2; omega
  have h1 := h.grow g1
  have f1 : FrC K H H1 := .of g1
  obtain ⟨iv, lv, e1, -⟩ := h1.ex
  have bl := hblk_of e1
  have t9 : (x.kind == 9) = false := by rw [hk]; rfl
  have t10 : (x.kind == 10) = false := by rw [hk]; rfl
  have t17 : (x.kind == 17) = false := by rw [hk]; rfl
  have t13 : (x.kind == 13) = false := by rw [hk]; rfl
  have t14 : (x.kind == 14) = false := by rw [hk]; rfl
  have t15 : (x.kind == 15) = false := by rw [hk]; rfl
  have t33 : (x.kind == 33) = false := by rw [hk]; rfl
  have t34 : (x.kind == 34) = false := by rw [hk]; rfl
  have t23 : (x.kind == 23) = false := by rw [hk]; rfl
  have t24 : (x.kind == 24) = false := by rw [hk]; rfl
  have t25 : (x.kind == 25) = false := by rw [hk]; rfl
  have t26 : (x.kind == 26) = false := by rw [hk]; rfl
  have t27 : (x.kind == 27) = true := by rw [hk]; rfl
  refine run ?_
  refine (cput_ax h1 30 0 0 hr.one).mono ?_
  rintro _ X ⟨rfl, h2, f2⟩
  rw [lay_put] at h2
  refine run ?_
  exact ⟨h2, f1.trans f2⟩
theorem end_32 {x : Tr} (hk : x.kind = 32) {K : CK} {H0 H : Heap} {l : List Value} (R : NodeR H0 l x) {s : CS} (h : CR K H0 H s) (hr : Room s (oneE 31 0 0)) : AX Try.prog 51 #[.pointer (some ⟨K.l, 0, none⟩), .agg l.toArray] H (CQ K H0 H (s.run (oneE 31 0 0))) := by
  obtain ⟨ow, sn, sk, rfl, rn, rk⟩ := R.inv
  refine AX.body (n := 91) (rs := []) Try.func51 rfl (by decide) rfl rfl (bC_sound _ _ _ _ ?_)
  (conv => whnf)
  refine Ob2.box rfl fun q H1 hq ab g1 => ?_
  have bb := hblk_of ab
  have hqn : K.n1 ≤ q := by have := h.hi.2.2.2; omega
  have h1 := h.grow g1
  have f1 : FrC K H H1 := .of g1
  obtain ⟨iv, lv, e1, -⟩ := h1.ex
  have bl := hblk_of e1
  have t9 : (x.kind == 9) = false := by rw [hk]; rfl
  have t10 : (x.kind == 10) = false := by rw [hk]; rfl
  have t17 : (x.kind == 17) = false := by rw [hk]; rfl
  have t13 : (x.kind == 13) = false := by rw [hk]; rfl
  have t14 : (x.kind == 14) = false := by rw [hk]; rfl
  have t15 : (x.kind == 15) = false := by rw [hk]; rfl
  have t33 : (x.kind == 33) = false := by rw [hk]; rfl
  have t34 : (x.kind == 34) = false := by rw [hk]; rfl
  have t23 : (x.kind == 23) = false := by rw [hk]; rfl
  have t24 : (x.kind == 24) = false := by rw [hk]; rfl
  have t25 : (x.kind == 25) = false := by rw [hk]; rfl
  have t26 : (x.kind == 26) = false := by rw [hk]; rfl
  have t27 : (x.kind == 27) = false := by rw [hk]; rfl
  have t32 : (x.kind == 32) = true := by rw [hk]; rfl
  refine run ?_
  refine (cput_ax h1 31 0 0 hr.one).mono ?_
  rintro _ X ⟨rfl, h2, f2⟩
  rw [lay_put] at h2
  refine run ?_
  exact ⟨h2, f1.trans f2⟩
theorem end_31 {x : Tr} (hk : x.kind = 31) {K : CK} {H0 H : Heap} {l : List Value} (R : NodeR H0 l x) {s : CS} (h : CR K H0 H s) (hr : Room s (oneE 32 0 0)) : AX Try.prog 51 #[.pointer (some ⟨K.l, 0, none⟩), .agg l.toArray] H (CQ K H0 H (s.run (oneE 32 0 0))) := by
  obtain ⟨ow, sn, sk, rfl, rn, rk⟩ := R.inv
  refine AX.body (n := 91) (rs := []) Try.func51 rfl (by decide) rfl rfl (bC_sound _ _ _ _ ?_)
  (conv => whnf)
  refine Ob2.box rfl fun q H1 hq ab g1 => ?_
  have bb := hblk_of ab
  have hqn : K.n1 ≤ q := by have := h.hi.2.2.2; omega
  have h1 := h.grow g1
  have f1 : FrC K H H1 := .of g1
  obtain ⟨iv, lv, e1, -⟩ := h1.ex
  have bl := hblk_of e1
  have t9 : (x.kind == 9) = false := by rw [hk]; rfl
  have t10 : (x.kind == 10) = false := by rw [hk]; rfl
  have t17 : (x.kind == 17) = false := by rw [hk]; rfl
  have t13 : (x.kind == 13) = false := by rw [hk]; rfl
  have t14 : (x.kind == 14) = false := by rw [hk]; rfl
  have t15 : (x.kind == 15) = false := by rw [hk]; rfl
  have t33 : (x.kind == 33) = false := by rw [hk]; rfl
  have t34 : (x.kind == 34) = false := by rw [hk]; rfl
  have t23 : (x.kind == 23) = false := by rw [hk]; rfl
  have t24 : (x.kind == 24) = false := by rw [hk]; rfl
  have t25 : (x.kind == 25) = false := by rw [hk]; rfl
  have t26 : (x.kind == 26) = false := by rw [hk]; rfl
  have t27 : (x.kind == 27) = false := by rw [hk]; rfl
  have t32 : (x.kind == 32) = false := by rw [hk]; rfl
  have t31 : (x.kind == 31) = true := by rw [hk]; rfl
  refine run ?_
  refine (cput_ax h1 32 0 0 hr.one).mono ?_
  rintro _ X ⟨rfl, h2, f2⟩
  rw [lay_put] at h2
  refine run ?_
  exact ⟨h2, f1.trans f2⟩
theorem end_ax {x : Tr} (hk : x.kind = 9 ∨ x.kind = 10 ∨ x.kind = 17 ∨ x.kind = 13 ∨ x.kind = 14 ∨ x.kind = 15 ∨ x.kind = 33 ∨ x.kind = 34 ∨ x.kind = 23 ∨ x.kind = 24 ∨ x.kind = 25 ∨ x.kind = 26 ∨ x.kind = 27 ∨ x.kind = 32 ∨ x.kind = 31) {K : CK} {H0 H : Heap} {l : List Value} (R : NodeR H0 l x) {s : CS} (h : CR K H0 H s) (hr : Room s (endE x.kind x.op x.num x.str x.kids.length)) : AX Try.prog 51 #[.pointer (some ⟨K.l, 0, none⟩), .agg l.toArray] H (CQ K H0 H (s.run (endE x.kind x.op x.num x.str x.kids.length))) := by
  rcases hk with hk | hk | hk | hk | hk | hk | hk | hk | hk | hk | hk | hk | hk | hk | hk
  · have e : endE x.kind x.op x.num x.str x.kids.length = oneE 20 x.op 0 := by rw [hk]; rfl
    rw [e] at hr ⊢
    exact end_9 hk R h hr
  · have e : endE x.kind x.op x.num x.str x.kids.length = oneE 21 x.op 0 := by rw [hk]; rfl
    rw [e] at hr ⊢
    exact end_10 hk R h hr
  · have e : endE x.kind x.op x.num x.str x.kids.length = oneE 29 x.op 0 := by rw [hk]; rfl
    rw [e] at hr ⊢
    exact end_17 hk R h hr
  · have e : endE x.kind x.op x.num x.str x.kids.length = siteE 14 x.str := by rw [hk]; rfl
    rw [e] at hr ⊢
    exact end_13 hk R h hr
  · have e : endE x.kind x.op x.num x.str x.kids.length = oneE 16 0 0 := by rw [hk]; rfl
    rw [e] at hr ⊢
    exact end_14 hk R h hr
  · have e : endE x.kind x.op x.num x.str x.kids.length = oneE 26 ((x.kids.length : Int) - 1) 0 := by rw [hk]; rfl
    rw [e] at hr ⊢
    exact end_15 hk R h hr
  · have e : endE x.kind x.op x.num x.str x.kids.length = oneE 9 x.num 0 := by rw [hk]; rfl
    rw [e] at hr ⊢
    exact end_33 hk R h hr
  · have e : endE x.kind x.op x.num x.str x.kids.length = oneE 11 x.num 0 := by rw [hk]; rfl
    rw [e] at hr ⊢
    exact end_34 hk R h hr
  · have e : endE x.kind x.op x.num x.str x.kids.length = siteE 15 x.str := by rw [hk]; rfl
    rw [e] at hr ⊢
    exact end_23 hk R h hr
  · have e : endE x.kind x.op x.num x.str x.kids.length = oneE 17 0 0 := by rw [hk]; rfl
    rw [e] at hr ⊢
    exact end_24 hk R h hr
  · have e : endE x.kind x.op x.num x.str x.kids.length = poolE 18 x.str := by rw [hk]; rfl
    rw [e] at hr ⊢
    exact end_25 hk R h hr
  · have e : endE x.kind x.op x.num x.str x.kids.length = oneE 19 0 0 := by rw [hk]; rfl
    rw [e] at hr ⊢
    exact end_26 hk R h hr
  · have e : endE x.kind x.op x.num x.str x.kids.length = oneE 30 0 0 := by rw [hk]; rfl
    rw [e] at hr ⊢
    exact end_27 hk R h hr
  · have e : endE x.kind x.op x.num x.str x.kids.length = oneE 31 0 0 := by rw [hk]; rfl
    rw [e] at hr ⊢
    exact end_32 hk R h hr
  · have e : endE x.kind x.op x.num x.str x.kids.length = oneE 32 0 0 := by rw [hk]; rfl
    rw [e] at hr ⊢
    exact end_31 hk R h hr
theorem end_none {x : Tr} (hn : x.kind ≠ 9 ∧ x.kind ≠ 10 ∧ x.kind ≠ 17 ∧ x.kind ≠ 13 ∧ x.kind ≠ 14 ∧ x.kind ≠ 15 ∧ x.kind ≠ 33 ∧ x.kind ≠ 34 ∧ x.kind ≠ 23 ∧ x.kind ≠ 24 ∧ x.kind ≠ 25 ∧ x.kind ≠ 26 ∧ x.kind ≠ 27 ∧ x.kind ≠ 32 ∧ x.kind ≠ 31) {K : CK} {H0 H : Heap} {l : List Value} (R : NodeR H0 l x) {s : CS} (h : CR K H0 H s) : AX Try.prog 51 #[.pointer (some ⟨K.l, 0, none⟩), .agg l.toArray] H (CQ K H0 H s) := by
  obtain ⟨k9, k10, k17, k13, k14, k15, k33, k34, k23, k24, k25, k26, k27, k32, k31⟩ := hn
  obtain ⟨ow, sn, sk, rfl, rn, rk⟩ := R.inv
  refine AX.body (n := 91) (rs := []) Try.func51 rfl (by decide) rfl rfl (bC_sound _ _ _ _ ?_)
  (conv => whnf)
  refine Ob2.box rfl fun q H1 hq ab g1 => ?_
  have bb := hblk_of ab
  have hqn : K.n1 ≤ q := by have := h.hi.2.2.2; omega
  have h1 := h.grow g1
  have f1 : FrC K H H1 := .of g1
  have t9 : (x.kind == 9) = false := by rw [beq_eq_false_iff_ne]; exact k9
  have t10 : (x.kind == 10) = false := by rw [beq_eq_false_iff_ne]; exact k10
  have t17 : (x.kind == 17) = false := by rw [beq_eq_false_iff_ne]; exact k17
  have t13 : (x.kind == 13) = false := by rw [beq_eq_false_iff_ne]; exact k13
  have t14 : (x.kind == 14) = false := by rw [beq_eq_false_iff_ne]; exact k14
  have t15 : (x.kind == 15) = false := by rw [beq_eq_false_iff_ne]; exact k15
  have t33 : (x.kind == 33) = false := by rw [beq_eq_false_iff_ne]; exact k33
  have t34 : (x.kind == 34) = false := by rw [beq_eq_false_iff_ne]; exact k34
  have t23 : (x.kind == 23) = false := by rw [beq_eq_false_iff_ne]; exact k23
  have t24 : (x.kind == 24) = false := by rw [beq_eq_false_iff_ne]; exact k24
  have t25 : (x.kind == 25) = false := by rw [beq_eq_false_iff_ne]; exact k25
  have t26 : (x.kind == 26) = false := by rw [beq_eq_false_iff_ne]; exact k26
  have t27 : (x.kind == 27) = false := by rw [beq_eq_false_iff_ne]; exact k27
  have t32 : (x.kind == 32) = false := by rw [beq_eq_false_iff_ne]; exact k32
  have t31 : (x.kind == 31) = false := by rw [beq_eq_false_iff_ne]; exact k31
  refine run ?_
  exact ⟨h1, f1⟩
theorem end_all {x : Tr} {K : CK} {H0 H : Heap} {l : List Value} (R : NodeR H0 l x) {s : CS} (h : CR K H0 H s) (hr : Room s (endE x.kind x.op x.num x.str x.kids.length)) : AX Try.prog 51 #[.pointer (some ⟨K.l, 0, none⟩), .agg l.toArray] H (CQ K H0 H (s.run (endE x.kind x.op x.num x.str x.kids.length))) := by
  by_cases hk : x.kind = 9 ∨ x.kind = 10 ∨ x.kind = 17 ∨ x.kind = 13 ∨ x.kind = 14 ∨ x.kind = 15 ∨ x.kind = 33 ∨ x.kind = 34 ∨ x.kind = 23 ∨ x.kind = 24 ∨ x.kind = 25 ∨ x.kind = 26 ∨ x.kind = 27 ∨ x.kind = 32 ∨ x.kind = 31
  · exact end_ax hk R h hr
  · have e : endE x.kind x.op x.num x.str x.kids.length = idE := by
      unfold endE
      rw [if_neg (by omega)]; rw [if_neg (by omega)]; rw [if_neg (by omega)]; rw [if_neg (by omega)]; rw [if_neg (by omega)]; rw [if_neg (by omega)]; rw [if_neg (by omega)]; rw [if_neg (by omega)]; rw [if_neg (by omega)]; rw [if_neg (by omega)]; rw [if_neg (by omega)]; rw [if_neg (by omega)]; rw [if_neg (by omega)]; rw [if_neg (by omega)]; rw [if_neg (by omega)]
    rw [e, lay_id]
    exact end_none (by omega) R h
end Go.Proofs.Ytmdjepfpgmignaa
/- Package compile, plainly: jumps that are filled in; lists. -/
set_option linter.unusedVariables false
set_option linter.unusedSimpArgs false
set_option maxRecDepth 20000
set_option maxHeartbeats 8000000
namespace Go.Proofs.Ytmdjepfpgmignaa
open Go Ax
theorem run_len (s : CS) (g : GE) : (s.run g).ins.length = s.ins.length + (g s.ins.length (s.pool, s.sites)).1.length := by unfold CS.run CS.lay; simp
theorem Room.left {s : CS} {f g : GE} (h : Room s (seqE f g)) : Room s f := by
  unfold Room seqE at *
  dsimp only at h
  rw [List.length_append] at h
  omega
theorem Room.right {s : CS} {f g : GE} (h : Room s (seqE f g)) (hf : GOK f) : Room (s.run f) g := by
  have h1 := hf s.ins.length (s.pool, s.sites)
  unfold Room at *
  rw [run_len]
  unfold seqE at h
  dsimp only at h h1
  rw [List.length_append] at h
  have e1 : (s.run f).pool = (f s.ins.length (s.pool, s.sites)).2.1 := rfl
  have e2 : (s.run f).sites = (f s.ins.length (s.pool, s.sites)).2.2 := rfl
  rw [e1, e2]
  have e3 : ((f s.ins.length (s.pool, s.sites)).2.1, (f s.ins.length (s.pool, s.sites)).2.2) = (f s.ins.length (s.pool, s.sites)).2 := rfl
  rw [e3]
  omega
theorem run_app (s : CS) : ∀ (L M : List GE), s.run (allE (L ++ M)) = (s.run (allE L)).run (allE M)
  | [], M => by
    show s.run (allE M) = (s.run idE).run (allE M)
    rw [lay_id]
  | g :: L, M => by
    show s.run (seqE g (allE (L ++ M))) = (s.run (seqE g (allE L))).run (allE M)
    rw [run_seq, run_seq, run_app (s.run g) L M]
theorem Room.app : ∀ {s : CS} {L M : List GE}, (∀ g ∈ L, GOK g) → Room s (allE (L ++ M)) → Room s (allE L) ∧ Room (s.run (allE L)) (allE M)
  | s, [], M, _, h => ⟨by
      have := h
      unfold Room at *
      show s.ins.length + (([] : List Ins)).length < _ ∧ s.pool.length + (([] : List Ins)).length < _
      simp only [List.length_nil]
      omega, by show Room (s.run idE) (allE M); rw [lay_id]; exact h⟩
  | s, g :: L, M, hL, h => by
    have h : Room s (seqE g (allE (L ++ M))) := h
    have h1 := h.right (hL g (by simp))
    obtain ⟨a, b⟩ := Room.app (fun x hx => hL x (List.mem_cons_of_mem _ hx)) h1
    refine ⟨?_, ?_⟩
    · have hg := hL g (by simp) s.ins.length (s.pool, s.sites)
      show Room s (seqE g (allE L))
      have e3 : ((g s.ins.length (s.pool, s.sites)).2.1, (g s.ins.length (s.pool, s.sites)).2.2) = (g s.ins.length (s.pool, s.sites)).2 := rfl
      unfold Room at a h ⊢
      rw [run_len] at a
      have e1 : (s.run g).pool = (g s.ins.length (s.pool, s.sites)).2.1 := rfl
      have e2 : (s.run g).sites = (g s.ins.length (s.pool, s.sites)).2.2 := rfl
      rw [e1, e2, e3] at a
      unfold seqE at h ⊢
      dsimp only at h ⊢
      rw [List.length_append] at h ⊢
      have hd : ∀ (L M : List GE) (a : Nat) (st : PS), (allE L a st).1.length ≤ (allE (L ++ M) a st).1.length := by
        intro L M
        induction L with
        | nil => intro a st; exact Nat.zero_le _
        | cons x L ih =>
          intro a st
          show (seqE x (allE L) a st).1.length ≤ (seqE x (allE (L ++ M)) a st).1.length
          unfold seqE
          dsimp only
          rw [List.length_append, List.length_append]
          have := ih (a + (x a st).1.length) (x a st).2
          omega
      have := hd L M (s.ins.length + (g s.ins.length (s.pool, s.sites)).1.length) (g s.ins.length (s.pool, s.sites)).2
      omega
    · show Room (s.run (seqE g (allE L))) (allE M)
      rw [run_seq]
      exact b
theorem allE_one (g : GE) (s : CS) : s.run (allE [g]) = s.run g := by
  show s.run (seqE g idE) = _
  rw [run_seq, lay_id]
theorem Room.one1 {g : GE} {s : CS} (h : Room s (allE [g])) : Room s g := Room.left (g := idE) h
theorem getD_set_self' (L : List Ins) (i : Nat) (x : Ins) (h : L[i]? = some x) : L.getD i (0, 0, 0) = x := by rw [List.getD_eq_getElem?_getD, h]; rfl
theorem dm1_jump {op : Int} (h : op = 22 ∨ op = 23 ∨ op = 24 ∨ op = 25) (p : Int × Int) (a b : Int) : dm1 p (op, a, 0) = dm1 p (op, b, 0) := by
  rcases h with rfl | rfl | rfl | rfl <;> rfl
theorem fill_lay (s : CS) (c d : List Ins) (ps : PS) {op : Int} (h : op = 22 ∨ op = 23 ∨ op = 24 ∨ op = 25) :
    (s.lay (c ++ (op, 0, 0) :: d, ps)).fill (s.ins.length + c.length) = s.lay (c ++ (op, ((s.ins.length + c.length + 1 + d.length : Nat) : Int), 0) :: d, ps) := by
  have hg : (s.ins ++ (c ++ (op, 0, 0) :: d))[s.ins.length + c.length]? = some (op, 0, 0) := by
    rw [List.getElem?_append_right (by omega), List.getElem?_append_right (by omega)]
    rw [show s.ins.length + c.length - s.ins.length - c.length = 0 from by omega]
    rfl
  unfold CS.fill CS.lay
  dsimp only
  rw [getD_set_self' _ _ _ hg]
  have hs : (s.ins ++ (c ++ (op, 0, 0) :: d)).set (s.ins.length + c.length) (op, (((s.ins ++ (c ++ (op, 0, 0) :: d)).length : Nat) : Int), 0) = s.ins ++ (c ++ (op, ((s.ins.length + c.length + 1 + d.length : Nat) : Int), 0) :: d) := by
    have hl : (s.ins ++ (c ++ (op, 0, 0) :: d)).length = s.ins.length + c.length + 1 + d.length := by simp; omega
    rw [hl, ← List.append_assoc, ← List.append_assoc]
    rw [List.set_append_right _ _ (by simp)]
    rw [show s.ins.length + c.length - (s.ins ++ c).length = 0 from by simp]
    rfl
  have hdm : ∀ b : Int, dmF (s.deep, s.most) (c ++ (op, b, 0) :: d) = dmF (s.deep, s.most) (c ++ (op, 0, 0) :: d) := fun b => by
    unfold dmF
    rw [List.foldl_append, List.foldl_append, List.foldl_cons, List.foldl_cons, dm1_jump h _ b 0]
  rw [hs, hdm ((s.ins.length + c.length + 1 + d.length : Nat) : Int)]
theorem put_lay (s : CS) (c : List Ins) (ps : PS) (i : Ins) : (s.lay (c, ps)).put i = s.lay (c ++ [i], ps) := by
  obtain ⟨op, a, b⟩ := i
  rw [lay_put]
  unfold CS.run oneE
  exact lay_lay s c [(op, a, b)] ps _
theorem run_lay (s : CS) (c : List Ins) (ps : PS) (g : GE) : (s.lay (c, ps)).run g = s.lay (c ++ (g (s.ins.length + c.length) ps).1, (g (s.ins.length + c.length) ps).2) := by
  unfold CS.run
  rw [show (s.lay (c, ps)).ins.length = s.ins.length + c.length from by unfold CS.lay; simp]
  exact lay_lay s c _ ps _
theorem run_keep (s : CS) {op : Int} (h : op = 24 ∨ op = 25) (f g : GE) : (((s.run f).put (op, 0, 0)).run g).fill (s.run f).ins.length = s.run (keepE op f g) := by
  rw [run_len]
  unfold CS.run keepE
  dsimp only
  generalize hp : f s.ins.length (s.pool, s.sites) = p
  obtain ⟨c, ps⟩ := p
  dsimp only
  have e1 : ((s.lay (c, ps)).put (op, 0, 0)) = s.lay (c ++ [(op, 0, 0)], ps) := put_lay ..
  have e2 := run_lay s (c ++ [(op, 0, 0)]) ps g
  unfold CS.run at e2
  rw [e1, e2]
  have hl : s.ins.length + (c ++ [(op, (0 : Int), (0 : Int))]).length = s.ins.length + c.length + 1 := by simp; omega
  rw [hl]
  generalize g (s.ins.length + c.length + 1) ps = q
  obtain ⟨d, qs⟩ := q
  dsimp only
  rw [show c ++ [(op, (0 : Int), (0 : Int))] ++ d = c ++ (op, 0, 0) :: d from by simp]
  exact fill_lay s c d qs (by omega)
theorem run_loop (s : CS) (f g : GE) : ((((s.run f).put (23, 0, 0)).run g).put (22, (s.ins.length : Int), 0)).fill (s.run f).ins.length = s.run (loopE f g) := by
  rw [run_len]
  unfold CS.run loopE
  dsimp only
  generalize hp : f s.ins.length (s.pool, s.sites) = p
  obtain ⟨c, ps⟩ := p
  dsimp only
  have e1 : ((s.lay (c, ps)).put (23, 0, 0)) = s.lay (c ++ [(23, 0, 0)], ps) := put_lay ..
  have e2 := run_lay s (c ++ [(23, 0, 0)]) ps g
  unfold CS.run at e2
  rw [e1, e2]
  have hl : s.ins.length + (c ++ [((23 : Int), (0 : Int), (0 : Int))]).length = s.ins.length + c.length + 1 := by simp; omega
  rw [hl]
  generalize g (s.ins.length + c.length + 1) ps = q
  obtain ⟨d, qs⟩ := q
  dsimp only
  rw [put_lay, show c ++ [((23 : Int), (0 : Int), (0 : Int))] ++ d ++ [(22, (s.ins.length : Int), 0)] = c ++ (23, 0, 0) :: (d ++ [(22, (s.ins.length : Int), 0)]) from by simp]
  rw [fill_lay s c _ qs (by omega)]
  congr 4
  simp
  omega
theorem run_choice (s : CS) (f g h : GE) :
    (((((((s.run f).put (23, 0, 0)).run g).put (22, 0, 0)).fill (s.run f).ins.length).run h).fill (((s.run f).put (23, 0, 0)).run g).ins.length) = s.run (choiceE f g h) := by
  rw [run_len s f]
  unfold choiceE
  conv => rhs; unfold CS.run
  dsimp only
  generalize hp : f s.ins.length (s.pool, s.sites) = p
  have e0 : s.run f = s.lay p := by rw [← hp]; rfl
  obtain ⟨c, ps⟩ := p
  rw [e0]
  dsimp only
  have e1 : ((s.lay (c, ps)).put (23, 0, 0)) = s.lay (c ++ [(23, 0, 0)], ps) := put_lay ..
  have e2 := run_lay s (c ++ [(23, 0, 0)]) ps g
  rw [e1, e2]
  have hl : s.ins.length + (c ++ [((23 : Int), (0 : Int), (0 : Int))]).length = s.ins.length + c.length + 1 := by simp; omega
  rw [hl]
  generalize g (s.ins.length + c.length + 1) ps = q
  obtain ⟨d, qs⟩ := q
  dsimp only
  rw [put_lay]
  have hz : (s.lay (c ++ [((23 : Int), (0 : Int), (0 : Int))] ++ d, qs)).ins.length = s.ins.length + (c ++ (23, 0, 0) :: d).length := by unfold CS.lay; simp
  rw [hz]
  rw [show c ++ [((23 : Int), (0 : Int), (0 : Int))] ++ d ++ [(22, 0, 0)] = c ++ (23, 0, 0) :: (d ++ [(22, 0, 0)]) from by simp]
  rw [fill_lay s c _ qs (by omega)]
  have hn : s.ins.length + c.length + 1 + (d ++ [((22 : Int), (0 : Int), (0 : Int))]).length = s.ins.length + c.length + 1 + d.length + 1 := by simp; omega
  rw [hn]
  generalize hno : s.ins.length + c.length + 1 + d.length + 1 = no
  have e4 := run_lay s (c ++ (23, (no : Int), 0) :: (d ++ [(22, 0, 0)])) qs h
  rw [e4]
  have hl4 : s.ins.length + (c ++ (23, (no : Int), 0) :: (d ++ [((22 : Int), (0 : Int), (0 : Int))])).length = no := by rw [← hno]; simp; omega
  rw [hl4]
  generalize h no qs = r
  obtain ⟨e, rs⟩ := r
  dsimp only
  rw [show c ++ (23, (no : Int), 0) :: (d ++ [((22 : Int), (0 : Int), (0 : Int))]) ++ e = (c ++ (23, (no : Int), 0) :: d) ++ (22, 0, 0) :: e from by simp]
  have hz2 : s.ins.length + (c ++ ((23 : Int), (0 : Int), (0 : Int)) :: d).length = s.ins.length + (c ++ (23, (no : Int), 0) :: d).length := by simp
  rw [hz2, fill_lay s (c ++ (23, (no : Int), 0) :: d) e rs (by omega)]
  have hz3 : s.ins.length + (c ++ (23, (no : Int), (0 : Int)) :: d).length + 1 + e.length = no + e.length := by rw [← hno]; simp; omega
  rw [hz3, List.append_assoc, List.cons_append]
end Go.Proofs.Ytmdjepfpgmignaa
/- Package compile: all, keep, choice, loop, node. -/
set_option linter.unusedVariables false
set_option linter.unusedSimpArgs false
set_option maxRecDepth 20000
set_option maxHeartbeats 8000000
namespace Go.Proofs.Ytmdjepfpgmignaa
open Go Ax
/-- A node whose code is laid. -/
def LN (x : Tr) : Prop := ∀ {H0 : Heap} {l : List Value}, NodeR H0 l x → ∀ {K : CK} {H : Heap} {s : CS}, CR K H0 H s → Room s x.gen → AX Try.prog 33 #[.pointer (some ⟨K.l, 0, none⟩), .agg l.toArray] H (CQ K H0 H (s.run x.gen))
theorem all_ax {H0 : Heap} {sk : Value} {ks : List Tr} (rk : RLo 7 NodeR H0 sk ks) (hk : ks.length ≤ maxLen) (he : ∀ y ∈ ks, LN y) {K : CK} {H : Heap} {s : CS} (h : CR K H0 H s) (hr : Room s (allE (ks.map Tr.gen))) :
    AX Try.prog 24 #[.pointer (some ⟨K.l, 0, none⟩), sk] H (CQ K H0 H (s.run (allE (ks.map Tr.gen)))) := by
  simp only [maxLen] at hk
  have hG : ∀ g ∈ ks.map Tr.gen, GOK g := fun g hg => by
    obtain ⟨y, hy, rfl⟩ := List.mem_map.1 hg
    exact GOK.gen y
  refine AX.body (n := 16) (rs := []) Try.func24 rfl (by decide) rfl rfl (bC_sound _ _ _ _ ?_)
  have l1 : alen Try.prog 45 sk H = some (.int .i64 ks.length) := rk.len rfl _
  refine run ?_
  refine SW.loop (α := Nat) (fun k => [(0, .pointer (some ⟨K.l, 0, none⟩)), (6, sk), (7, .int .i64 ks.length), (8, .int .i64 (k : Int))]) (fun k X => k ≤ ks.length ∧ CR K H0 X (s.run (allE ((ks.map Tr.gen).take k))) ∧ FrC K H X) (fun k => ks.length - k) ⟨0, ⟨rfl, rfl, rfl, rfl, trivial⟩, by omega, by show CR K H0 H (s.run idE); rw [lay_id]; exact h, .refl _ _⟩ ?_
  rintro k X ⟨hm, S, F⟩
  refine bC_sound _ _ _ _ ?_
  by_cases hml : k < ks.length
  · have d1 : decide ((k : Int) < (ks.length : Int)) = true := decide_eq_true (by omega)
    obtain ⟨y, hy⟩ := get_lt hml
    obtain ⟨p, yl, i1, i2, i3⟩ := ld_node rk hy
    have i4 := i3 X S.g
    obtain ⟨yo, yn, yk, rfl, -⟩ := i2.inv
    have hgy : (ks.map Tr.gen)[k]? = some y.gen := by rw [List.getElem?_map, hy]; rfl
    have ht : (ks.map Tr.gen).take (k + 1) = (ks.map Tr.gen).take k ++ [y.gen] := by
      rw [List.take_add_one, hgy]; rfl
    have hroom : Room (s.run (allE ((ks.map Tr.gen).take k))) y.gen := by
      have e : ks.map Tr.gen = (ks.map Tr.gen).take (k + 1) ++ (ks.map Tr.gen).drop (k + 1) := (List.take_append_drop _ _).symm
      rw [e] at hr
      have h1 := (Room.app (fun g hg => hG g (List.mem_of_mem_take hg)) hr).1
      rw [ht] at h1
      exact (Room.app (fun g hg => hG g (List.mem_of_mem_take hg)) h1).2.one1
    refine run ?_
    refine Ob2.alloc rfl fun qc X1 hqc ac gc => ?_
    refine run ?_
    refine Ob.store rfl rfl rfl ac rfl (by first | exact Nat.le_of_ble_eq_true rfl | simp) fun X2 s1 s2 s3 => ?_
    replace gc := gc.but_new s2 (Nat.le_of_eq hqc.symm)
    have bc := hblk_of s1
    refine run ?_
    refine (he y (List.mem_of_getElem? hy) i2 (S.grow gc) hroom).mono ?_
    rintro _ X' ⟨S', F'⟩
    refine run ?_
    refine ⟨k + 1, ⟨rfl, rfl, rfl, congrArg (fun z => some (Value.int .i64 z)) (w_succ (by omega)), trivial⟩, ⟨hml, ?_, (F.trans (.of gc)).trans F'⟩, by show ks.length - (k + 1) < ks.length - k; omega⟩
    rw [ht, run_app, allE_one]
    exact S'
  · have d1 : decide ((k : Int) < (ks.length : Int)) = false := decide_eq_false (by omega)
    rw [List.take_of_length_le (by simp; omega)] at S
    refine run ?_
    exact ⟨S, F⟩
theorem put_run_lt (s : CS) (i : Ins) (g : GE) : s.ins.length < ((s.put i).run g).ins.length := by
  rw [run_len]
  show _ < (s.ins ++ [_]).length + _
  rw [List.length_append, List.length_singleton]; omega
theorem put_len (s : CS) (i : Ins) : (s.put i).ins.length = s.ins.length + 1 := by
  show (s.ins ++ [_]).length = _
  rw [List.length_append]; rfl
theorem fill_len (s : CS) (i : Nat) : (s.fill i).ins.length = s.ins.length := by
  show (s.ins.set _ _).length = _
  rw [List.length_set]
theorem run_ps (s : CS) (g : GE) : ((s.run g).pool, (s.run g).sites) = (g s.ins.length (s.pool, s.sites)).2 := rfl
theorem fill_run_lt (t : CS) (i : Ins) (k : Nat) (g : GE) : t.ins.length < (((t.put i).fill k).run g).ins.length := by
  rw [run_len, fill_len, put_len]; omega
/-- Room, told of lengths. -/
theorem room_iff {s : CS} {g : GE} {a : Nat} {ps : PS} (ha : s.ins.length = a) (hp : (s.pool, s.sites) = ps) : Room s g ↔ a + (g a ps).1.length < 100000 ∧ ps.1.length + (g a ps).1.length < 100000 := by
  unfold Room
  rw [ha, hp]
  have : s.pool = ps.1 := by rw [← hp]
  rw [this]
theorem room_choice {s : CS} {f g h : GE} (hf : GOK f) (hg : GOK g) (hr : Room s (choiceE f g h)) :
    Room s f ∧ (s.run f).ins.length < 100000 ∧ Room ((s.run f).put (23, 0, 0)) g ∧ (((s.run f).put (23, 0, 0)).run g).ins.length < 100000 ∧ Room (((((s.run f).put (23, 0, 0)).run g).put (22, 0, 0)).fill (s.run f).ins.length) h := by
  have g1 := hf s.ins.length (s.pool, s.sites)
  have g2 := hg (s.ins.length + (f s.ins.length (s.pool, s.sites)).1.length + 1) (f s.ins.length (s.pool, s.sites)).2
  have e1 : (s.run f).ins.length = s.ins.length + (f s.ins.length (s.pool, s.sites)).1.length := run_len _ _
  have e2 : ((s.run f).put (23, 0, 0)).ins.length = s.ins.length + (f s.ins.length (s.pool, s.sites)).1.length + 1 := by rw [put_len, e1]
  have p2 : (((s.run f).put (23, 0, 0)).pool, ((s.run f).put (23, 0, 0)).sites) = (f s.ins.length (s.pool, s.sites)).2 := run_ps s f
  have e3 : (((s.run f).put (23, 0, 0)).run g).ins.length = s.ins.length + (f s.ins.length (s.pool, s.sites)).1.length + 1 + (g (s.ins.length + (f s.ins.length (s.pool, s.sites)).1.length + 1) (f s.ins.length (s.pool, s.sites)).2).1.length := by rw [run_len, e2, p2]
  have e4 : (((((s.run f).put (23, 0, 0)).run g).put (22, 0, 0)).fill (s.run f).ins.length).ins.length = s.ins.length + (f s.ins.length (s.pool, s.sites)).1.length + 1 + (g (s.ins.length + (f s.ins.length (s.pool, s.sites)).1.length + 1) (f s.ins.length (s.pool, s.sites)).2).1.length + 1 := by rw [fill_len, put_len, e3]
  have p4 : ((((((s.run f).put (23, 0, 0)).run g).put (22, 0, 0)).fill (s.run f).ins.length).pool, (((((s.run f).put (23, 0, 0)).run g).put (22, 0, 0)).fill (s.run f).ins.length).sites) = (g (s.ins.length + (f s.ins.length (s.pool, s.sites)).1.length + 1) (f s.ins.length (s.pool, s.sites)).2).2 := by
    have := run_ps ((s.run f).put (23, 0, 0)) g
    rw [e2, p2] at this
    exact this
  rw [room_iff rfl rfl] at hr
  unfold choiceE at hr
  dsimp only at hr g1
  simp only [List.length_append, List.length_cons] at hr
  rw [room_iff (s := s) rfl rfl, room_iff e2 p2, room_iff e4 p4, e1, e3]
  dsimp only
  omega
theorem room_loop {s : CS} {f g : GE} (hf : GOK f) (hr : Room s (loopE f g)) :
    Room s f ∧ (s.run f).ins.length < 100000 ∧ Room ((s.run f).put (23, 0, 0)) g ∧ (((s.run f).put (23, 0, 0)).run g).ins.length < 100000 := by
  have g1 := hf s.ins.length (s.pool, s.sites)
  have e1 : (s.run f).ins.length = s.ins.length + (f s.ins.length (s.pool, s.sites)).1.length := run_len _ _
  have e2 : ((s.run f).put (23, 0, 0)).ins.length = s.ins.length + (f s.ins.length (s.pool, s.sites)).1.length + 1 := by rw [put_len, e1]
  have p2 : (((s.run f).put (23, 0, 0)).pool, ((s.run f).put (23, 0, 0)).sites) = (f s.ins.length (s.pool, s.sites)).2 := run_ps s f
  have e3 : (((s.run f).put (23, 0, 0)).run g).ins.length = s.ins.length + (f s.ins.length (s.pool, s.sites)).1.length + 1 + (g (s.ins.length + (f s.ins.length (s.pool, s.sites)).1.length + 1) (f s.ins.length (s.pool, s.sites)).2).1.length := by rw [run_len, e2, p2]
  rw [room_iff rfl rfl] at hr
  unfold loopE at hr
  dsimp only at hr g1
  simp only [List.length_append, List.length_cons, List.length_nil] at hr
  rw [room_iff (s := s) rfl rfl, room_iff e2 p2, e1, e3]
  dsimp only
  omega
theorem keep_ax {x y z : Tr} {op : Int} (ho : x.kind = 11 ∧ op = 24 ∨ x.kind = 12 ∧ op = 25) (hks : x.kids = [y, z]) (hy : LN y) (hz : LN z) {H0 : Heap} {l : List Value} (R : NodeR H0 l x) {K : CK} {H : Heap} {s : CS} (h : CR K H0 H s) (hr : Room s (keepE op y.gen z.gen)) :
    AX Try.prog 48 #[.pointer (some ⟨K.l, 0, none⟩), .agg l.toArray] H (CQ K H0 H (s.run (keepE op y.gen z.gen))) := by
  obtain ⟨ow, sn, sk, rfl, rn, rk⟩ := R.inv
  rw [hks] at rk
  obtain ⟨b0, o0, n0, k0, K0⟩ := kidAt rk 0 (y := y) rfl
  obtain ⟨b1, o1, n1, k1, K1⟩ := kidAt rk 1 (y := z) rfl
  have x0 : aindexAddr Try.prog 45 sk (.int .i64 0) = _ := K0.ix
  have x1 : aindexAddr Try.prog 45 sk (.int .i64 1) = _ := K1.ix
  -- room for both
  have gy := GOK.gen y s.ins.length (s.pool, s.sites)
  have hr0 : Room s y.gen := by
    unfold Room keepE at *
    dsimp only at hr
    simp only [List.length_append, List.length_cons] at hr
    omega
  have hr1 : (s.run y.gen).ins.length < 100000 := by
    rw [run_len]
    unfold Room keepE at hr
    dsimp only at hr
    simp only [List.length_append, List.length_cons] at hr
    omega
  have hr2 : Room ((s.run y.gen).put (op, 0, 0)) z.gen := by
    unfold Room keepE at hr
    dsimp only at hr
    simp only [List.length_append, List.length_cons] at hr
    unfold Room
    have e0 : ((s.run y.gen).put (op, 0, 0)).ins.length = s.ins.length + (y.gen s.ins.length (s.pool, s.sites)).1.length + 1 := by
      show ((s.run y.gen).ins ++ [_]).length = _
      rw [List.length_append, run_len]; rfl
    have e1 : ((s.run y.gen).put (op, 0, 0)).pool = (y.gen s.ins.length (s.pool, s.sites)).2.1 := rfl
    have e2 : ((s.run y.gen).put (op, 0, 0)).sites = (y.gen s.ins.length (s.pool, s.sites)).2.2 := rfl
    have e3 : ((y.gen s.ins.length (s.pool, s.sites)).2.1, (y.gen s.ins.length (s.pool, s.sites)).2.2) = (y.gen s.ins.length (s.pool, s.sites)).2 := rfl
    rw [e0, e1, e2, e3]
    dsimp only at gy
    omega
  refine AX.body (n := 26) (rs := []) Try.func48 rfl (by decide) rfl rfl (bC_sound _ _ _ _ ?_)
  (conv => whnf)
  refine Ob2.box rfl fun q H1 hq ab g1 => ?_
  have bb := hblk_of ab
  have hqn : K.n1 ≤ q := by have := h.hi.2.2.2; omega
  have h1 := h.grow g1
  have L0 := K0.ld _ h1.g
  have c12 : (x.kind == 12) = decide (op = 25) := by
    rcases ho with ⟨e1, e2⟩ | ⟨e1, e2⟩ <;> rw [e1, e2] <;> rfl
  rcases ho with ⟨hk, rfl⟩ | ⟨hk, rfl⟩
  all_goals
    refine run ?_
    refine (hy K0.nd h1 hr0).mono ?_
    rintro _ H2 ⟨h2, f2⟩
    have ab2 := f2.var ab hqn
    have bb2 := hblk_of ab2
    refine run ?_
    refine (later_ax h2 _ hr1).mono ?_
    rintro lv H3 ⟨lt3, h3, f3⟩
    have ab3 := f3.var ab2 hqn
    have bb3 := hblk_of ab3
    have L1 := K1.ld _ h3.g
    refine run ?_
    refine (hz K1.nd h3 hr2).mono ?_
    rintro _ H4 ⟨h4, f4⟩
    obtain ⟨q1, q2, rfl, m1, m2, m3, m4⟩ := (lt3.fr f4).ex
    refine run ?_
    refine (fill_ax h4 m3 m4 (put_run_lt ..)).mono ?_
    rintro _ H5 ⟨h5, f5⟩
    refine run ?_
    rw [run_keep s (by omega)] at h5
    exact ⟨h5, (((FrC.of g1).trans f2).trans f3).trans (f4.trans f5)⟩
theorem loop_ax {x y z : Tr} (hks : x.kids = [y, z]) (hy : LN y) (hz : LN z) {H0 : Heap} {l : List Value} (R : NodeR H0 l x) {K : CK} {H : Heap} {s : CS} (h : CR K H0 H s) (hr : Room s (loopE y.gen z.gen)) :
    AX Try.prog 50 #[.pointer (some ⟨K.l, 0, none⟩), .agg l.toArray] H (CQ K H0 H (s.run (loopE y.gen z.gen))) := by
  obtain ⟨ow, sn, sk, rfl, rn, rk⟩ := R.inv
  rw [hks] at rk
  obtain ⟨b0, o0, n0, k0, K0⟩ := kidAt rk 0 (y := y) rfl
  obtain ⟨b1, o1, n1, k1, K1⟩ := kidAt rk 1 (y := z) rfl
  have x0 : aindexAddr Try.prog 45 sk (.int .i64 0) = _ := K0.ix
  have x1 : aindexAddr Try.prog 45 sk (.int .i64 1) = _ := K1.ix
  obtain ⟨r1, r2, r3, r4⟩ := room_loop (GOK.gen y) hr
  refine AX.body (n := 30) (rs := []) Try.func50 rfl (by decide) rfl rfl (bC_sound _ _ _ _ ?_)
  (conv => whnf)
  refine Ob2.box rfl fun q H1 hq ab g1 => ?_
  have bb := hblk_of ab
  have hqn : K.n1 ≤ q := by have := h.hi.2.2.2; omega
  have h1 := h.grow g1
  have L0 := K0.ld _ h1.g
  obtain ⟨iv, lv, e1, -, e3, -⟩ := h1.ex
  have bl := hblk_of e1
  have l1 : alen Try.prog 35 iv H1 = some (.int .i64 s.ins.length) := e3.rl.len rfl _
  refine run ?_
  refine (hy K0.nd h1 r1).mono ?_
  rintro _ H2 ⟨h2, f2⟩
  have ab2 := f2.var ab hqn
  have bb2 := hblk_of ab2
  refine run ?_
  refine (later_ax h2 _ r2).mono ?_
  rintro lv H3 ⟨lt3, h3, f3⟩
  have ab3 := f3.var ab2 hqn
  have bb3 := hblk_of ab3
  have L1 := K1.ld _ h3.g
  refine run ?_
  refine (hz K1.nd h3 r3).mono ?_
  rintro _ H4 ⟨h4, f4⟩
  refine run ?_
  refine (cput_ax h4 22 (s.ins.length : Int) 0 r4).mono ?_
  rintro _ H5 ⟨rfl, h5, f5⟩
  obtain ⟨q1, q2, rfl, m1, m2, m3, m4⟩ := ((lt3.fr f4).fr f5).ex
  refine run ?_
  refine (fill_ax h5 m3 m4 (by rw [put_len]; have := put_run_lt (s.run y.gen) (23, 0, 0) z.gen; omega)).mono ?_
  rintro _ H6 ⟨h6, f6⟩
  refine run ?_
  rw [run_loop s] at h6
  exact ⟨h6, (((FrC.of g1).trans f2).trans f3).trans ((f4.trans f5).trans f6)⟩
theorem choice_ax {x y z u : Tr} (hks : x.kids = [y, z, u]) (hy : LN y) (hz : LN z) (hu : LN u) {H0 : Heap} {l : List Value} (R : NodeR H0 l x) {K : CK} {H : Heap} {s : CS} (h : CR K H0 H s) (hr : Room s (choiceE y.gen z.gen u.gen)) :
    AX Try.prog 49 #[.pointer (some ⟨K.l, 0, none⟩), .agg l.toArray] H (CQ K H0 H (s.run (choiceE y.gen z.gen u.gen))) := by
  obtain ⟨ow, sn, sk, rfl, rn, rk⟩ := R.inv
  rw [hks] at rk
  obtain ⟨b0, o0, n0, k0, K0⟩ := kidAt rk 0 (y := y) rfl
  obtain ⟨b1, o1, n1, k1, K1⟩ := kidAt rk 1 (y := z) rfl
  obtain ⟨b2, o2, n2, k2, K2⟩ := kidAt rk 2 (y := u) rfl
  have x0 : aindexAddr Try.prog 45 sk (.int .i64 0) = _ := K0.ix
  have x1 : aindexAddr Try.prog 45 sk (.int .i64 1) = _ := K1.ix
  have x2 : aindexAddr Try.prog 45 sk (.int .i64 2) = _ := K2.ix
  obtain ⟨r1, r2, r3, r4, r5⟩ := room_choice (GOK.gen y) (GOK.gen z) hr
  refine AX.body (n := 32) (rs := []) Try.func49 rfl (by decide) rfl rfl (bC_sound _ _ _ _ ?_)
  (conv => whnf)
  refine Ob2.box rfl fun q H1 hq ab g1 => ?_
  have bb := hblk_of ab
  have hqn : K.n1 ≤ q := by have := h.hi.2.2.2; omega
  have h1 := h.grow g1
  have L0 := K0.ld _ h1.g
  refine run ?_
  refine (hy K0.nd h1 r1).mono ?_
  rintro _ H2 ⟨h2, f2⟩
  have ab2 := f2.var ab hqn
  have bb2 := hblk_of ab2
  refine run ?_
  refine (later_ax h2 _ r2).mono ?_
  rintro lv H3 ⟨lt3, h3, f3⟩
  have ab3 := f3.var ab2 hqn
  have bb3 := hblk_of ab3
  have L1 := K1.ld _ h3.g
  refine run ?_
  refine (hz K1.nd h3 r3).mono ?_
  rintro _ H4 ⟨h4, f4⟩
  have ab4 := f4.var ab3 hqn
  refine run ?_
  refine (later_ax h4 _ r4).mono ?_
  rintro lv2 H5 ⟨lt5, h5, f5⟩
  have ab5 := f5.var ab4 hqn
  obtain ⟨q1, q2, rfl, m1, m2, m3, m4⟩ := ((lt3.fr f4).fr f5).ex
  refine run ?_
  refine (fill_ax h5 m3 m4 (by rw [put_len]; have := put_run_lt (s.run y.gen) (23, 0, 0) z.gen; omega)).mono ?_
  rintro _ H6 ⟨h6, f6⟩
  have ab6 := f6.var ab5 hqn
  have bb6 := hblk_of ab6
  have L2 := K2.ld _ h6.g
  refine run ?_
  refine (hu K2.nd h6 r5).mono ?_
  rintro _ H7 ⟨h7, f7⟩
  obtain ⟨q3, q4, rfl, m5, m6, m7, m8⟩ := ((lt5.fr f6).fr f7).ex
  refine run ?_
  refine (fill_ax h7 m7 m8 (fill_run_lt ..)).mono ?_
  rintro _ H8 ⟨h8, f8⟩
  refine run ?_
  rw [run_choice s] at h8
  exact ⟨h8, ((((FrC.of g1).trans f2).trans f3).trans ((f4.trans f5).trans f6)).trans (f7.trans f8)⟩
end Go.Proofs.Ytmdjepfpgmignaa
/- Package compile: node. -/
set_option linter.unusedVariables false
set_option linter.unusedSimpArgs false
set_option maxRecDepth 20000
set_option maxHeartbeats 8000000
namespace Go.Proofs.Ytmdjepfpgmignaa
open Go Ax
/-- Has a node as many parts as its kind needs? -/
def NodeOK (x : Tr) : Prop := (x.kind = 7 → x.kids.length ≤ x.names.length) ∧ (x.kind = 11 ∨ x.kind = 12 → x.kids.length = 2) ∧ (x.kind = 16 → 1 ≤ x.kids.length) ∧ (x.kind = 28 → x.kids.length = 3) ∧ (x.kind = 30 → x.kids.length = 2)
inductive OKT : Tr → Prop
  | mk {x : Tr} (h1 : NodeOK x) (h2 : ∀ k ∈ x.kids, OKT k) : OKT x
theorem OKT.own {x : Tr} : OKT x → NodeOK x | .mk h _ => h
theorem OKT.kid {x : Tr} : OKT x → ∀ k ∈ x.kids, OKT k | .mk _ h => h
theorem two_of {ks : List Tr} (h : ks.length = 2) : ∃ y z, ks = [y, z] := by
  match ks, h with
  | [y, z], _ => exact ⟨y, z, rfl⟩
theorem three_of {ks : List Tr} (h : ks.length = 3) : ∃ y z u, ks = [y, z, u] := by
  match ks, h with
  | [y, z, u], _ => exact ⟨y, z, u, rfl⟩
theorem some_of {ks : List Tr} (h : 1 ≤ ks.length) : ∃ y r, ks = y :: r := by
  match ks, h with
  | y :: r, _ => exact ⟨y, r, rfl⟩
theorem init_take : ∀ {ns : List ByteArray} {gs : List GE} {k : Nat} {n : ByteArray} {g : GE} (s : CS), ns[k]? = some n → gs[k]? = some g → s.run (initE (ns.take (k + 1)) (gs.take (k + 1))) = ((s.run (initE (ns.take k) (gs.take k))).run g).run (siteE 13 n)
  | [], _, _, _, _, _, h, _ => by simp at h
  | _ :: _, [], _, _, _, _, _, h => by simp at h
  | a :: ns, f :: gs, 0, n, g, s, h, h' => by
    simp only [List.getElem?_cons_zero, Option.some.injEq] at h h'
    subst h h'
    show s.run (seqE f (seqE (siteE 13 a) idE)) = _
    rw [run_seq, run_seq, lay_id]
    show _ = ((s.run idE).run f).run (siteE 13 a)
    rw [lay_id]
  | a :: ns, f :: gs, k + 1, n, g, s, h, h' => by
    rw [List.getElem?_cons_succ] at h h'
    show s.run (seqE f (seqE (siteE 13 a) (initE (ns.take (k + 1)) (gs.take (k + 1))))) = ((s.run (seqE f (seqE (siteE 13 a) (initE (ns.take k) (gs.take k))))).run g).run (siteE 13 n)
    rw [run_seq, run_seq, run_seq, run_seq, init_take _ h h']
theorem init_room : ∀ {ns : List ByteArray} {gs : List GE} {k : Nat} {n : ByteArray} {g : GE} {s : CS}, (∀ g ∈ gs, GOK g) → ns[k]? = some n → gs[k]? = some g → Room s (initE ns gs) → Room (s.run (initE (ns.take k) (gs.take k))) g ∧ Room ((s.run (initE (ns.take k) (gs.take k))).run g) (siteE 13 n)
  | [], _, _, _, _, _, _, h, _, _ => by simp at h
  | _ :: _, [], _, _, _, _, _, _, h, _ => by simp at h
  | a :: ns, f :: gs, 0, n, g, s, hG, h, h', hr => by
    simp only [List.getElem?_cons_zero, Option.some.injEq] at h h'
    subst h h'
    have hr : Room s (seqE f (seqE (siteE 13 a) (initE ns gs))) := hr
    show Room (s.run idE) f ∧ Room ((s.run idE).run f) (siteE 13 a)
    rw [lay_id]
    exact ⟨hr.left, (hr.right (hG f (by simp))).left⟩
  | a :: ns, f :: gs, k + 1, n, g, s, hG, h, h', hr => by
    rw [List.getElem?_cons_succ] at h h'
    have hr : Room s (seqE f (seqE (siteE 13 a) (initE ns gs))) := hr
    have h2 := (hr.right (hG f (by simp))).right (GOK.site 13 a)
    have := init_room (fun x hx => hG x (List.mem_cons_of_mem _ hx)) h h' h2
    show Room (s.run (seqE f (seqE (siteE 13 a) (initE (ns.take k) (gs.take k))))) g ∧ Room ((s.run (seqE f (seqE (siteE 13 a) (initE (ns.take k) (gs.take k))))).run g) (siteE 13 n)
    rw [run_seq, run_seq]
    exact this
theorem init_full : ∀ (ns : List ByteArray) (gs : List GE), gs.length ≤ ns.length → initE (ns.take gs.length) gs = initE ns gs
  | [], [], _ => rfl
  | _ :: _, [], _ => rfl
  | [], _ :: _, h => by simp at h
  | a :: ns, f :: gs, h => by
    show seqE f (seqE (siteE 13 a) (initE (ns.take gs.length) gs)) = seqE f (seqE (siteE 13 a) (initE ns gs))
    rw [init_full ns gs (by simpa using h)]
theorem node_ax (x : Tr) : OKT x → LN x := by
  induction x using Tr.ind with
  | h x ih =>
  intro ok H0 l R K H s h hr
  have he : ∀ y ∈ x.kids, LN y := fun y hy => ih y hy (ok.kid y hy)
  obtain ⟨ow, sn, sk, rfl, rn, rk⟩ := R.inv
  have hkm := ow.2.2.2
  have hG : ∀ g ∈ x.kids.map Tr.gen, GOK g := fun g hg => by
    obtain ⟨y, hy, rfl⟩ := List.mem_map.1 hg
    exact GOK.gen y
  rw [Tr.gen_eq] at hr ⊢
  unfold genF at hr ⊢
  have hr1 := hr.left.one
  have hr2 := hr.right (GOK.one 1 1 0)
  rw [run_seq]
  refine AX.body (n := 82) (rs := []) Try.func33 rfl (by decide) rfl rfl (bC_sound _ _ _ _ ?_)
  (conv => whnf)
  refine Ob2.box rfl fun q H1 hq ab g1 => ?_
  have bb := hblk_of ab
  have hqn : K.n1 ≤ q := by have := h.hi.2.2.2; omega
  refine run ?_
  refine (cput_ax (h.grow g1) 1 1 0 hr1).mono ?_
  rintro _ H2 ⟨rfl, h2, f2⟩
  rw [lay_put] at h2
  have ab2 := f2.var ab hqn
  have bb2 := hblk_of ab2
  have fA := (FrC.of g1).trans f2
  generalize s.run (oneE 1 1 0) = s2 at h2 hr2 ⊢
  have R2 : NodeR H0 (nodeV x sn sk) x := R
  clear f2 h hr1 hr
  cases hle : leafE x.kind x.num x.str with
  | some g =>
    rw [hle] at hr2
    dsimp only at hr2 ⊢
    refine run ?_
    have lf : AX Try.prog 46 #[.pointer (some ⟨K.l, 0, none⟩), .agg (nodeV x sn sk).toArray] H2 (fun v H' => v = .bool true ∧ CR K H0 H' (s2.run g) ∧ FrC K H2 H') := by
      have hk : x.kind = 1 ∨ x.kind = 6 ∨ x.kind = 2 ∨ x.kind = 3 ∨ x.kind = 4 ∨ x.kind = 20 ∨ x.kind = 18 ∨ x.kind = 19 := by
        by_cases hh : x.kind = 1 ∨ x.kind = 6 ∨ x.kind = 2 ∨ x.kind = 3 ∨ x.kind = 4 ∨ x.kind = 20 ∨ x.kind = 18 ∨ x.kind = 19
        · exact hh
        · unfold leafE at hle
          rw [if_neg (by omega), if_neg (by omega), if_neg (by omega), if_neg (by omega), if_neg (by omega), if_neg (by omega), if_neg (by omega), if_neg (by omega)] at hle
          simp at hle
      rcases hk with hk | hk | hk | hk | hk | hk | hk | hk
      · rw [hk] at hle; obtain rfl : oneE 2 0 0 = g := Option.some.inj hle; exact leaf_1 hk R h2 hr2
      · rw [hk] at hle; obtain rfl : oneE 6 0 0 = g := Option.some.inj hle; exact leaf_6 hk R h2 hr2
      · rw [hk] at hle; obtain rfl : oneE 3 x.num 0 = g := Option.some.inj hle; exact leaf_2 hk R h2 hr2
      · rw [hk] at hle; obtain rfl : oneE 4 x.num 0 = g := Option.some.inj hle; exact leaf_3 hk R h2 hr2
      · rw [hk] at hle; obtain rfl : poolE 5 x.str = g := Option.some.inj hle; exact leaf_4 hk R h2 hr2
      · rw [hk] at hle; obtain rfl : oneE 7 x.num 0 = g := Option.some.inj hle; exact leaf_20 hk R h2 hr2
      · rw [hk] at hle; obtain rfl : oneE 8 x.num 0 = g := Option.some.inj hle; exact leaf_18 hk R h2 hr2
      · rw [hk] at hle; obtain rfl : oneE 10 x.num 0 = g := Option.some.inj hle; exact leaf_19 hk R h2 hr2
    refine lf.mono ?_
    rintro _ H3 ⟨rfl, h3, f3⟩
    refine run ?_
    exact ⟨h3, fA.trans f3⟩
  | none =>
  rw [hle] at hr2
  dsimp only at hr2 ⊢
  refine run ?_
  refine (leaf_none hle R h2).mono ?_
  rintro _ H3 ⟨rfl, h3, f3⟩
  have ab3 := f3.var ab2 hqn
  have bb3 := hblk_of ab3
  replace fA := fA.trans f3
  obtain ⟨k7, k11, k16, k28, k30⟩ := ok.own
  by_cases c7 : x.kind = 7
  · have t7 : (x.kind == 7) = true := by rw [c7]; rfl
    rw [if_pos c7] at hr2 ⊢
    rw [run_seq]
    have hkn := k7 c7
    have l1 : ∀ H, alen Try.prog 45 sk H = some (.int .i64 x.kids.length) := fun H => rk.len rfl _
    have hr3 := hr2.right (GOK.one 12 0 0)
    simp only [maxLen] at hkm
    refine run ?_
    refine (cput_ax h3 12 0 0 hr2.left.one).mono ?_
    rintro _ H4 ⟨rfl, h4, f4⟩
    rw [lay_put] at h4
    generalize s2.run (oneE 12 0 0) = s4 at h4 hr3 ⊢
    have ab4 := f4.var ab3 hqn
    have bb4 := hblk_of ab4
    have l4 := l1 H4
    refine run ?_
    refine SW.loop (α := Nat) (fun k => [(0, .pointer (some ⟨K.l, 0, none⟩)), (3, .pointer (some ⟨q, 0, none⟩)), (25, sk), (26, .int .i64 x.kids.length), (27, .int .i64 (k : Int))]) (fun k X => k ≤ x.kids.length ∧ CR K H0 X (s4.run (initE (x.names.take k) ((x.kids.map Tr.gen).take k))) ∧ FrC K H4 X) (fun k => x.kids.length - k) ⟨0, ⟨rfl, rfl, rfl, rfl, rfl, trivial⟩, by omega, by show CR K H0 H4 (s4.run (initE [] [])); show CR K H0 H4 (s4.run idE); rw [lay_id]; exact h4, .refl _ _⟩ ?_
    rintro k X ⟨hm, S, F⟩
    have abX := F.var ab4 hqn
    have bbX := hblk_of abX
    refine bC_sound _ _ _ _ ?_
    by_cases hml : k < x.kids.length
    · have d1 : decide ((k : Int) < (x.kids.length : Int)) = true := decide_eq_true (by omega)
      obtain ⟨y, hy⟩ := get_lt hml
      obtain ⟨nm, hnm⟩ := get_lt (show k < x.names.length by omega)
      obtain ⟨p, yl, i1, i2, i3⟩ := ld_node rk hy
      obtain ⟨p2, j1, j2⟩ := ld_strT rn hnm
      have i4 := i3 X S.g
      obtain ⟨yo, yn, yk, rfl, -⟩ := i2.inv
      have hgy : (x.kids.map Tr.gen)[k]? = some y.gen := by rw [List.getElem?_map, hy]; rfl
      obtain ⟨ra, rb⟩ := init_room hG hnm hgy hr3
      refine run ?_
      refine Ob2.alloc rfl fun qc X1 hqc ac gc => ?_
      refine run ?_
      refine Ob.store rfl rfl rfl ac rfl (by first | exact Nat.le_of_ble_eq_true rfl | simp) fun X2 s1 s2 s3 => ?_
      replace gc := gc.but_new s2 (Nat.le_of_eq hqc.symm)
      have bc := hblk_of s1
      have abY := gc.at abX
      refine run ?_
      refine (he y (List.mem_of_getElem? hy) i2 (S.grow gc) ra).mono ?_
      rintro _ X3 ⟨S3, F3⟩
      have abZ := F3.var abY hqn
      have bbZ := hblk_of abZ
      have j3 := j2 X3 S3.g
      refine run ?_
      refine (csite_ax S3 13 nm rb.site.1 rb.site.2).mono ?_
      rintro _ X4 ⟨S4, F4⟩
      refine run ?_
      refine ⟨k + 1, ⟨rfl, rfl, rfl, rfl, congrArg (fun z => some (Value.int .i64 z)) (w_succ (by omega)), trivial⟩, ⟨hml, ?_, ((F.trans (.of gc)).trans F3).trans F4⟩, by show x.kids.length - (k + 1) < x.kids.length - k; omega⟩
      rw [init_take _ hnm hgy]
      exact S4
    · have d1 : decide ((k : Int) < (x.kids.length : Int)) = false := decide_eq_false (by omega)
      have hke : k = (x.kids.map Tr.gen).length := by simp; omega
      rw [hke, List.take_length, init_full _ _ (by simpa using hkn)] at S
      refine run ?_
      exact ⟨S, (fA.trans f4).trans F⟩
  have t7 : (x.kind == 7) = false := by rw [beq_eq_false_iff_ne]; exact c7
  rw [if_neg c7] at hr2 ⊢
  by_cases c11 : x.kind = 11 ∨ x.kind = 12
  · obtain ⟨y, z, hks⟩ := two_of (k11 c11)
    have e0 : (x.kids.map Tr.gen).getD 0 idE = y.gen := by rw [hks]; rfl
    have e1 : (x.kids.map Tr.gen).getD 1 idE = z.gen := by rw [hks]; rfl
    rw [e0, e1] at hr2 ⊢
    have hy : LN y := @he y (by rw [hks]; simp)
    have hz : LN z := @he z (by rw [hks]; simp)
    rcases c11 with c | c
    · have t11 : (x.kind == 11) = true := by rw [c]; rfl
      rw [if_pos c] at hr2 ⊢
      refine run ?_
      refine (keep_ax (.inl ⟨c, rfl⟩) hks hy hz R h3 hr2).mono ?_
      rintro _ H4 ⟨h4, f4⟩
      refine run ?_
      exact ⟨h4, fA.trans f4⟩
    · have t11 : (x.kind == 11) = false := by rw [c]; rfl
      have t12 : (x.kind == 12) = true := by rw [c]; rfl
      rw [if_neg (by omega), if_pos c] at hr2 ⊢
      refine run ?_
      refine (keep_ax (.inr ⟨c, rfl⟩) hks hy hz R h3 hr2).mono ?_
      rintro _ H4 ⟨h4, f4⟩
      refine run ?_
      exact ⟨h4, fA.trans f4⟩
  have t11 : (x.kind == 11) = false := by rw [beq_eq_false_iff_ne]; omega
  have t12 : (x.kind == 12) = false := by rw [beq_eq_false_iff_ne]; omega
  rw [if_neg (by omega), if_neg (by omega)] at hr2 ⊢
  by_cases c16 : x.kind = 16
  · have t16 : (x.kind == 16) = true := by rw [c16]; rfl
    rw [if_pos c16] at hr2 ⊢
    obtain ⟨y, r, hks⟩ := some_of (k16 c16)
    have e0 : (x.kids.map Tr.gen).getD 0 idE = y.gen := by rw [hks]; rfl
    have e1 : (x.kids.map Tr.gen).drop 1 = r.map Tr.gen := by rw [hks]; rfl
    rw [e0, e1, List.length_map] at hr2 ⊢
    have rk' := rk
    rw [hks] at rk'
    obtain ⟨b0, o0, n0, k0, K0⟩ := kidAt rk' 0 (y := y) rfl
    have x0 : aindexAddr Try.prog 45 sk (.int .i64 0) = _ := K0.ix
    obtain ⟨u, us, ur⟩ := dropK rk'
    have L0 := K0.ld _ h3.g
    have l1 : ∀ H, alen Try.prog 45 sk H = some (.int .i64 x.kids.length) := fun H => rk.len rfl _
    have hkm2 := hkm
    simp only [maxLen] at hkm2
    have w1 : IntKind.i64.wrap ((x.kids.length : Int) - 1) = (x.kids.length : Int) - 1 := by rw [wrap_i64 (by omega) (by omega)]
    have ra := hr2.left
    have rb := hr2.right (GOK.gen y)
    have rc := rb.right (GOK.site 27 x.str)
    have rd := rc.right (GOK.all fun g hg => by
      obtain ⟨y, hy, rfl⟩ := List.mem_map.1 hg
      exact GOK.gen y)
    have hrl : r.length ≤ maxLen := by have : x.kids.length = r.length + 1 := by rw [hks]; rfl
                                       omega
    rw [run_seq, run_seq, run_seq]
    refine run ?_
    refine (he y (by rw [hks]; simp) K0.nd h3 ra).mono ?_
    rintro _ H4 ⟨h4, f4⟩
    have ab4 := f4.var ab3 hqn
    have bb4 := hblk_of ab4
    refine run ?_
    refine (csite_ax h4 27 x.str rb.left.site.1 rb.left.site.2).mono ?_
    rintro _ H5 ⟨h5, f5⟩
    have ab5 := f5.var ab4 hqn
    have bb5 := hblk_of ab5
    refine run ?_
    refine (all_ax ur hrl (fun z hz => he z (by rw [hks]; simp [hz])) h5 rc.left).mono ?_
    rintro _ H6 ⟨h6, f6⟩
    have ab6 := f6.var ab5 hqn
    have bb6 := hblk_of ab6
    have l6 := l1 H6
    refine run ?_
    rw [w1]
    refine (cput_ax h6 28 ((x.kids.length : Int) - 1) 0 rd.one).mono ?_
    rintro _ H7 ⟨rfl, h7, f7⟩
    rw [lay_put] at h7
    refine run ?_
    exact ⟨h7, (fA.trans f4).trans ((f5.trans f6).trans f7)⟩
  have t16 : (x.kind == 16) = false := by rw [beq_eq_false_iff_ne]; exact c16
  rw [if_neg c16] at hr2 ⊢
  by_cases c28 : x.kind = 28
  · have t28 : (x.kind == 28) = true := by rw [c28]; rfl
    rw [if_pos c28] at hr2 ⊢
    obtain ⟨y, z, u, hks⟩ := three_of (k28 c28)
    have e0 : (x.kids.map Tr.gen).getD 0 idE = y.gen := by rw [hks]; rfl
    have e1 : (x.kids.map Tr.gen).getD 1 idE = z.gen := by rw [hks]; rfl
    have e2 : (x.kids.map Tr.gen).getD 2 idE = u.gen := by rw [hks]; rfl
    rw [e0, e1, e2] at hr2 ⊢
    refine run ?_
    refine (choice_ax hks (@he y (by rw [hks]; simp)) (@he z (by rw [hks]; simp)) (@he u (by rw [hks]; simp)) R h3 hr2).mono ?_
    rintro _ H4 ⟨h4, f4⟩
    refine run ?_
    exact ⟨h4, fA.trans f4⟩
  have t28 : (x.kind == 28) = false := by rw [beq_eq_false_iff_ne]; exact c28
  rw [if_neg c28] at hr2 ⊢
  by_cases c30 : x.kind = 30
  · have t30 : (x.kind == 30) = true := by rw [c30]; rfl
    rw [if_pos c30] at hr2 ⊢
    obtain ⟨y, z, hks⟩ := two_of (k30 c30)
    have e0 : (x.kids.map Tr.gen).getD 0 idE = y.gen := by rw [hks]; rfl
    have e1 : (x.kids.map Tr.gen).getD 1 idE = z.gen := by rw [hks]; rfl
    rw [e0, e1] at hr2 ⊢
    refine run ?_
    refine (loop_ax hks (@he y (by rw [hks]; simp)) (@he z (by rw [hks]; simp)) R h3 hr2).mono ?_
    rintro _ H4 ⟨h4, f4⟩
    refine run ?_
    exact ⟨h4, fA.trans f4⟩
  have t30 : (x.kind == 30) = false := by rw [beq_eq_false_iff_ne]; exact c30
  rw [if_neg c30] at hr2 ⊢
  rw [run_seq]
  rw [List.length_map] at hr2 ⊢
  refine run ?_
  refine (all_ax rk hkm he h3 hr2.left).mono ?_
  rintro _ H4 ⟨h4, f4⟩
  have ab4 := f4.var ab3 hqn
  have bb4 := hblk_of ab4
  refine run ?_
  refine (end_all R h4 (hr2.right (GOK.all hG))).mono ?_
  rintro _ H5 ⟨h5, f5⟩
  refine run ?_
  exact ⟨h5, (fA.trans f4).trans f5⟩
end Go.Proofs.Ytmdjepfpgmignaa
/- Package compile: function. -/
set_option linter.unusedVariables false
set_option linter.unusedSimpArgs false
set_option maxRecDepth 20000
set_option maxHeartbeats 8000000
namespace Go.Proofs.Ytmdjepfpgmignaa
open Go Ax
abbrev FnT := Int × Int × List Tr
def fnR (H : Heap) (l : List Value) (f : FnT) : Prop := ∃ sk, l = [.int .i64 f.1, .int .i64 f.2.1, sk] ∧ RLo 7 NodeR H sk f.2.2 ∧ f.2.2.length ≤ maxLen
def fnG (f : FnT) : GE := seqE (allE (f.2.2.map Tr.gen)) (seqE (oneE 2 0 0) (oneE 32 0 0))
def CS.new (L : List ByteArray) : CS := ⟨[], L, 0, 0, 0⟩
def fnS (L : List ByteArray) (f : FnT) : CS := (CS.new L).run (fnG f)
def fnE (s : CS) : Int := if 4000 < s.ins.length then 5 else if 64 < s.most then 13 else 0
/-- How the pool lies between functions. -/
structure PoolR (n0 p m : Nat) (H0 H : Heap) (L : List ByteArray) : Prop where
  h0 : H0.length = n0
  g : Grow H0 H
  lo : n0 ≤ p ∧ n0 ≤ m
  hi : p < H.length ∧ m < H.length
  mp : H[m]? = some (.map true (entsS L))
  ex : ∃ lv, H[p]? = some (.cells .var [.map (some m), lv]) ∧ OwnR 1 9 strR H lv L ∧ (∀ b, blkIs lv b → n0 ≤ b)
  few : L.length ≤ 100000
  nodup : L.Nodup
def FrP (n0 p m : Nat) (A B : Heap) : Prop := A.length ≤ B.length ∧ ∀ q X, A[q]? = some X → q < n0 ∨ (q ≠ p ∧ q ≠ m ∧ NotRow 9 X) → B[q]? = some X
theorem FrP.refl (n0 p m : Nat) (A : Heap) : FrP n0 p m A A := ⟨Nat.le_refl _, fun _ _ h _ => h⟩
theorem FrP.trans {n0 p m : Nat} {A B C : Heap} (h : FrP n0 p m A B) (k : FrP n0 p m B C) : FrP n0 p m A C := ⟨Nat.le_trans h.1 k.1, fun q X hq hx => k.2 q X (h.2 q X hq hx) hx⟩
theorem FrP.of {n0 p m : Nat} {A B : Heap} (h : Grow A B) : FrP n0 p m A B := ⟨h.1, fun q X hq _ => h.at hq⟩
theorem PoolR.grow {n0 p m : Nat} {H0 A B : Heap} {L : List ByteArray} (h : PoolR n0 p m H0 A L) (g : Grow A B) : PoolR n0 p m H0 B L := by
  obtain ⟨lv, e1, e2, e3⟩ := h.ex
  exact ⟨h.h0, h.g.trans g, h.lo, ⟨Nat.lt_of_lt_of_le h.hi.1 g.1, Nat.lt_of_lt_of_le h.hi.2 g.1⟩, g.at h.mp, ⟨lv, g.at e1, e2.keep (fun b c _ hc => g.at hc) (fun _ _ _ h => h), e3⟩, h.few, h.nodup⟩
theorem GOK.fn (f : FnT) : GOK (fnG f) := (GOK.all fun g hg => by
  obtain ⟨y, hy, rfl⟩ := List.mem_map.1 hg
  exact GOK.gen y).seq ((GOK.one 2 0 0).seq (GOK.one 32 0 0))
theorem function_ax {n0 p m : Nat} {H0 H : Heap} {L : List ByteArray} (h : PoolR n0 p m H0 H L) {l : List Value} {f : FnT} (R : fnR H0 l f) (ok : ∀ x ∈ f.2.2, OKT x) (hr : Room (CS.new L) (fnG f)) :
    AX Try.prog 15 #[.pointer (some ⟨p, 0, none⟩), .agg l.toArray] H (fun v H' => ∃ cl, cl.length = 5 ∧ v = .tuple #[.agg cl.toArray, .int .i64 (fnE (fnS L f))] ∧ PoolR n0 p m H0 H' (fnS L f).pool ∧ FrP n0 p m H H' ∧
      (fnE (fnS L f) = 0 → ∃ iv, cl = [.int .i64 f.1, .int .i64 f.2.1, .int .i64 ((fnS L f).sites : Int), .int .i64 (fnS L f).most, iv] ∧ OwnR 3 39 insR H' iv (fnS L f).ins ∧ ∀ b, blkIs iv b → H.length ≤ b)) := by
  obtain ⟨sk, rfl, rk, hkm⟩ := R
  refine AX.body (n := 50) (rs := [.cell 4 37, .tmp 5]) Try.func15 rfl (by decide) rfl rfl (bC_sound _ _ _ _ ?_)
  (conv => whnf)
  refine Ob2.box rfl fun q H1 hq ab g1 => ?_
  have bb := hblk_of ab
  have hq1 : q < H1.length := lt_at ab
  refine run ?_
  refine Ob2.alloc rfl fun qo H2 hqo ao g2 => ?_
  have hqoL : qo < H2.length := lt_at ao
  replace ab := g2.at ab
  replace bb := hblk_of ab
  refine run ?_
  refine Ob2.box rfl fun ql H3 hql al g3 => ?_
  replace ab := g3.at ab
  replace bb := hblk_of ab
  replace ao := g3.at ao
  have al : H3[ql]? = some (.cells .var [.pointer (some ⟨p, 0, none⟩), .slice none 0 0, .int .i64 ((0 : Nat) : Int), .int .i64 0, .int .i64 0]) := al
  have g123 := (g1.trans g2).trans g3
  have h3 := h.grow g123
  obtain ⟨lv, e1, e2, e3⟩ := h3.ex
  have hq2 : q = H.length := hq
  have hb1 := h.hi
  have hgl := g1.1
  have hgl2 := g2.1
  have hgl3 := g3.1
  have hn0 : n0 ≤ H.length := by have := h.g.1; have := h.h0; omega
  have hal := lt_at al
  have hql' : ql = H2.length := hql
  have hqo' : qo = H1.length := hqo
  have hab := lt_at ab
  let K : CK := ⟨n0, H.length, H3.length, ql, p, m, hn0, by omega, hal, by omega, by omega⟩
  have hc : CR K H0 H3 (CS.new L) := ⟨h.h0, h3.g, ⟨by show n0 ≤ ql; omega, h.lo.1, h.lo.2⟩, ⟨hal, by show p < H3.length; omega, by show m < H3.length; omega, Nat.le_refl _⟩, by show ql ≠ p; omega, h3.mp,
    ⟨.slice none 0 0, lv, al, e1, .inl ⟨rfl, rfl⟩, fun b hb => by obtain ⟨n, k, hb⟩ := hb; simp at hb, e2, e3⟩, ⟨h.few, by show 0 ≤ 100000; omega⟩, by unfold CS.new; simp, h.nodup⟩
  have hne : ∀ q', q' = q ∨ q' = qo → q' ≠ K.l ∧ q' ≠ K.p ∧ q' ≠ K.m := fun q' hq' => by
    show q' ≠ ql ∧ q' ≠ p ∧ q' ≠ m
    have hao := lt_at ao
    have hqoL : qo < H2.length := hqoL
    omega
  have hG : GOK (allE (f.2.2.map Tr.gen)) := GOK.all fun g hg => by
    obtain ⟨y, hy, rfl⟩ := List.mem_map.1 hg
    exact GOK.gen y
  have r1 := hr.left
  have r2 := hr.right hG
  have r3 := r2.right (GOK.one 2 0 0)
  have hs : fnS L f = (((CS.new L).run (allE (f.2.2.map Tr.gen))).run (oneE 2 0 0)).run (oneE 32 0 0) := by
    unfold fnS fnG
    rw [run_seq, run_seq]
  rw [hs]
  refine run ?_
  refine (all_ax rk hkm (fun y hy => node_ax y (ok y hy)) hc r1).mono ?_
  rintro _ H4 ⟨h4, f4⟩
  refine run ?_
  refine (cput_ax h4 2 0 0 r2.left.one).mono ?_
  rintro _ H5 ⟨rfl, h5, f5⟩
  rw [lay_put] at h5
  refine run ?_
  refine (cput_ax h5 32 0 0 r3.one).mono ?_
  rintro _ H6 ⟨rfl, h6, f6⟩
  rw [lay_put] at h6
  generalize (((CS.new L).run (allE (f.2.2.map Tr.gen))).run (oneE 2 0 0)).run (oneE 32 0 0) = s at h6
  have F := (f4.trans f5).trans f6
  have ab6 := F.var' ab (hne q (.inl rfl))
  have ao6 := F.var' ao (hne qo (.inr rfl))
  have bb6 := hblk_of ab6
  have bo6 := hblk_of ao6
  obtain ⟨iv, lv6, y1, y2, y3, y4, y5, y6⟩ := h6.ex
  have bl6 := hblk_of y1
  have l6 : alen Try.prog 35 iv H6 = some (.int .i64 s.ins.length) := y3.rl.len rfl _
  have hPF : ∀ {X : Heap}, But qo H6 X → PoolR n0 p m H0 X s.pool ∧ FrP n0 p m H X ∧ OwnR 3 39 insR X iv s.ins := fun {X} hX => by
    have own : ∀ {α : Type} {k : Nat} {e : TypeId} {f : Heap → List Value → α → Prop} {sv : Value} {L : List α}, (∀ l x, f H6 l x → f X l x) → OwnR k e f H6 sv L → OwnR k e f X sv L := fun hf o => o.keep (fun b c _ hcc => hX.at hcc (by intro hbq; rw [hbq, ao6] at hcc; simp at hcc)) fun _ _ _ h => hf _ _ h
    have hqo2 := hne qo (.inr rfl)
    have hg6 : Grow H0 X := ⟨Nat.le_trans h6.g.1 hX.1, fun j hj => by
      rw [← h6.g.2 j hj]
      exact hX.2 j (Nat.lt_of_lt_of_le hj h6.g.1) (by have := h.h0; omega)⟩
    have hl6 := h6.hi
    refine ⟨⟨h.h0, hg6, h.lo, ⟨Nat.lt_of_lt_of_le (Nat.lt_of_lt_of_le h6.hi.2.1 h6.hi.2.2.2) hX.1, Nat.lt_of_lt_of_le (Nat.lt_of_lt_of_le h6.hi.2.2.1 h6.hi.2.2.2) hX.1⟩, hX.at h6.mp hqo2.2.2.symm, ⟨lv6, hX.at y2 hqo2.2.1.symm, own (fun _ _ h => h) y5, y6⟩, h6.few.1, h6.nodup⟩, ⟨?_, fun j B hj hB => ?_⟩, own (fun _ _ h => h) y3⟩
    · have := F.1; have := hX.1; omega
    · have hjl := lt_at hj
      have h3j := g123.at hj
      have h6j := F.2 j B h3j (by
        rcases hB with hB | ⟨a, b, c⟩
        · exact .inl hB
        · exact .inr ⟨⟨by show j ≠ ql; omega, a, b⟩, .inl hjl, c⟩)
      exact hX.at h6j (by omega)
  by_cases c1 : 4000 < s.ins.length
  · have d1 : decide ((s.ins.length : Int) > 4000) = true := decide_eq_true (by omega)
    have he : fnE s = 5 := if_pos c1
    refine run ?_
    refine Ob.store rfl rfl rfl ao6 rfl (by first | exact Nat.le_of_ble_eq_true rfl | simp) fun H7 s7 k7 l7 => ?_
    have bo7 := hblk_of s7
    refine run ?_
    rw [he]
    obtain ⟨p1, p2, p3⟩ := hPF k7
    exact ⟨_, rfl, rfl, p1, p2, fun h => by omega⟩
  have d1 : decide ((s.ins.length : Int) > 4000) = false := decide_eq_false (by omega)
  by_cases c2 : 64 < s.most
  · have d2 : decide (s.most > 64) = true := decide_eq_true (by omega)
    have he : fnE s = 13 := by unfold fnE; rw [if_neg c1, if_pos c2]
    refine run ?_
    refine Ob.store rfl rfl rfl ao6 rfl (by first | exact Nat.le_of_ble_eq_true rfl | simp) fun H7 s7 k7 l7 => ?_
    have bo7 := hblk_of s7
    refine run ?_
    rw [he]
    obtain ⟨p1, p2, p3⟩ := hPF k7
    exact ⟨_, rfl, rfl, p1, p2, fun h => by omega⟩
  have d2 : decide (s.most > 64) = false := decide_eq_false (by omega)
  have he : fnE s = 0 := by unfold fnE; rw [if_neg c1, if_neg c2]
  obtain ⟨ia, iN, ik, rfl⟩ := y3.form
  refine run ?_
  apply SW.drawH [(0, [], [35, 36, 37, 38, 39, 40, 41, 42, 43, 44, 45, 46, 47, 48], false), (1, [(33, 0)], [33, 35, 36, 37, 38, 39, 40, 41, 42, 43, 44, 45, 46, 47, 48], false), (2, [], [33, 34, 37, 38, 39, 40, 41, 42, 43, 44, 45, 46, 47, 48], false), (3, [(35, 2)], [33, 34, 35, 37, 38, 39, 40, 41, 42, 43, 44, 45, 46, 47, 48], false), (4, [], [33, 34, 35, 36, 41, 42, 43, 44, 45, 46, 47, 48], false), (5, [(37, 4)], [33, 34, 35, 36, 37, 41, 42, 43, 44, 45, 46, 47, 48], false), (6, [(37, 4), (38, 5)], [33, 34, 35, 36, 37, 38, 41, 42, 43, 44, 45, 46, 47, 48], false), (7, [(37, 4), (38, 5), (39, 6)], [33, 34, 35, 36, 37, 38, 39, 41, 42, 43, 44, 45, 46, 47, 48], false), (8, [], [33, 34, 35, 36, 37, 38, 39, 40, 45, 46, 47, 48], false), (9, [(41, 8)], [33, 34, 35, 36, 37, 38, 39, 40, 41, 45, 46, 47, 48], false), (10, [(41, 8), (42, 9)], [33, 34, 35, 36, 37, 38, 39, 40, 41, 42, 45, 46, 47, 48], false), (11, [(41, 8), (42, 9), (43, 10)], [33, 34, 35, 36, 37, 38, 39, 40, 41, 42, 43, 45, 46, 47, 48], false), (12, [], [33, 34, 35, 36, 37, 38, 39, 40, 41, 42, 43, 44], false), (13, [(45, 12)], [33, 34, 35, 36, 37, 38, 39, 40, 41, 42, 43, 44, 45], false), (14, [(45, 12), (46, 13)], [33, 34, 35, 36, 37, 38, 39, 40, 41, 42, 43, 44, 45, 46], false), (15, [(45, 12), (46, 13), (47, 14)], [33, 34, 35, 36, 37, 38, 39, 40, 41, 42, 43, 44, 45, 46, 47], false), (16, [(33, 0), (34, 1), (35, 2), (36, 3), (37, 4), (38, 5), (39, 6), (40, 7), (41, 8), (42, 9), (43, 10), (44, 11), (45, 12), (46, 13), (47, 14), (48, 15)], [33, 34, 35, 36, 37, 38, 39, 40, 41, 42, 43, 44, 45, 46, 47, 48], false), (17, [(33, 0), (34, 1), (35, 2), (36, 3), (37, 4), (38, 5), (39, 6), (40, 7), (41, 8), (42, 9), (43, 10), (44, 11), (45, 12), (46, 13), (47, 14), (48, 15), (49, 16)], [33, 34, 35, 36, 37, 38, 39, 40, 41, 42, 43, 44, 45, 46, 47, 48, 49], true), (18, [(33, 0), (34, 1), (35, 2), (36, 3), (37, 4), (38, 5), (39, 6), (40, 7), (41, 8), (42, 9), (43, 10), (44, 11), (45, 12), (46, 13), (47, 14), (48, 15), (49, 16)], [33, 34, 35, 36, 37, 38, 39, 40, 41, 42, 43, 44, 45, 46, 47, 48, 49], false)]
    [(33, 0), (34, 1), (35, 2), (36, 3), (37, 4), (38, 5), (39, 6), (40, 7), (41, 8), (42, 9), (43, 10), (44, 11), (45, 12), (46, 13), (47, 14), (48, 15), (49, 16), (5, 18)] []
    [(3, _), (4, _), (6, _)] rfl (by kernel_rfl)
  case hF => exact ⟨rfl, rfl, rfl, trivial⟩
  refine run ?_
  refine Ob.store rfl rfl rfl ao6 rfl (by first | exact Nat.le_of_ble_eq_true rfl | simp) fun H7 s7 k7 l7 => ?_
  have bo7 := hblk_of s7
  refine run ?_
  rw [he]
  obtain ⟨p1, p2, p3⟩ := hPF k7
  exact ⟨[_, _, _, _, _], rfl, rfl, p1, p2, fun _ => ⟨_, rfl, p3, y4⟩⟩
end Go.Proofs.Ytmdjepfpgmignaa
