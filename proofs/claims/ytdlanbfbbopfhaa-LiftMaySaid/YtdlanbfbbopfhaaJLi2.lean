/- Package lift: all instructions are laid, and the jumps are led to where they go. -/
import Derived.Test.YtdlanbfbbopfhaaJLi1
set_option linter.unusedVariables false
set_option linter.unusedSimpArgs false
set_option maxRecDepth 20000
set_option maxHeartbeats 8000000
namespace Go.Proofs.Ytdlanbfbbopfhaa
open Go Ax
theorem OwnR.blk {α : Type} {k : Nat} {e : TypeId} {f : Heap → List Value → α → Prop} {H : Heap} {sv : Value} {L : List α} (h : OwnR k e f H sv L) {b : Nat} (hb : blkIs sv b) : ∃ c, H[b]? = some (.cells (.row e) c) := by
  rcases h with ⟨rfl, _⟩ | ⟨q, c, rfl, h2, _⟩
  · obtain ⟨n, k, hb⟩ := hb; simp at hb
  · obtain ⟨n, k, hb⟩ := hb
    simp only [Value.slice.injEq, Option.some.injEq, Addr.mk.injEq, and_true] at hb
    rw [← hb.1]; exact ⟨c, h2⟩
theorem slots_set {c : List Value} {o k j : Nat} {v : Value} {l : List Value} (h : slotsOf c o k = some l) (hj : j < k) : slotsOf (c.set (o + j) v) o k = some (l.set j v) := by
  unfold slotsOf at h
  split at h
  · rename_i hle
    simp only [Option.some.injEq] at h
    subst h
    rw [slots_of (by simpa using hle)]
    congr 1
    apply List.ext_getElem?
    intro i
    rw [List.getElem?_take, List.getElem?_drop, List.getElem?_set, List.getElem?_set, List.getElem?_take, List.getElem?_drop]
    by_cases hi : i < k
    · by_cases hij : j = i
      · subst hij
        rw [if_pos hi, if_pos rfl, if_pos (by omega), if_pos rfl, if_pos (by rw [List.length_take, List.length_drop]; omega)]
      · simp [hi, hij]
    · have : j ≠ i := by omega
      simp [hi, this]
  · simp at h
theorem slots_set_ne {c : List Value} {o k p : Nat} {v : Value} (h : p < o ∨ o + k ≤ p) : slotsOf (c.set p v) o k = slotsOf c o k := by
  unfold slotsOf
  simp only [List.length_set]
  split
  · congr 1
    apply List.ext_getElem?
    intro i
    rw [List.getElem?_take, List.getElem?_take, List.getElem?_drop, List.getElem?_drop]
    by_cases hi : i < k
    · rw [if_pos hi, if_pos hi, List.getElem?_set_ne (by omega)]
    · rw [if_neg hi, if_neg hi]
  · rfl
/-- One cell of an element is written. -/
theorem OwnR.put1 {α : Type} {k : Nat} {e : TypeId} {f : Heap → List Value → α → Prop} {A B : Heap} {b i j : Nat} {c l : List Value} {L : List α} {x x' : α} {v : Value} (hc : c.length = L.length * k) (h4 : ∀ (i : Nat) x, L[i]? = some x → ∃ l, slotsOf c (i * k) k = some l ∧ f A l x)
    (hB : B[b]? = some (.cells (.row e) (putL c (i * k + j) [v]))) (hi : L[i]? = some x) (hl : slotsOf c (i * k) k = some l) (hj : j < k) (hx' : f B (l.set j v) x') (hf : ∀ l x, f A l x → f B l x) : OwnR k e f B (.slice (some ⟨b, 0, none⟩) L.length k) (L.set i x') := by
  have hil := lt_of_get hi
  refine .inr ⟨b, c.set (i * k + j) v, by simp, hB, by simp [hc], fun i' y hy => ?_⟩
  by_cases hii : i = i'
  · subst hii
    rw [List.getElem?_set_self hil] at hy
    simp only [Option.some.injEq] at hy
    subst hy
    exact ⟨_, slots_set hl hj, hx'⟩
  · rw [List.getElem?_set_ne hii] at hy
    obtain ⟨w, k1, k2⟩ := h4 i' y hy
    refine ⟨w, ?_, hf _ _ k2⟩
    rw [slots_set_ne]; exact k1
    rcases Nat.lt_or_gt_of_ne hii with h | h
    · left
      have : (i + 1) * k ≤ i' * k := Nat.mul_le_mul_right _ h
      rw [Nat.succ_mul] at this; omega
    · right
      have : (i' + 1) * k ≤ i * k := Nat.mul_le_mul_right _ h
      rw [Nat.succ_mul] at this; omega
theorem OwnR.conv {α : Type} {k : Nat} {e : TypeId} {f f' : Heap → List Value → α → Prop} {H H' : Heap} {sv : Value} {L : List α} (h : OwnR k e f H sv L) (hb : ∀ b c, blkIs sv b → H[b]? = some (.cells (.row e) c) → H'[b]? = some (.cells (.row e) c)) (hf : ∀ l x, x ∈ L → f H l x → f' H' l x) : OwnR k e f' H' sv L := by
  rcases h with h | ⟨b, c, h1, h2, h3, h4⟩
  · exact .inl h
  · exact .inr ⟨b, c, h1, hb b c ⟨_, _, h1⟩ h2, h3, fun i x hx => let ⟨l, k1, k2⟩ := h4 i x hx; ⟨l, k1, hf l x (List.mem_of_getElem? hx) k2⟩⟩
theorem LR.setAt {K : LK} {A B : Heap} {s : LS} {at_ d at2 d2 : Int} {cv ov pv : Value} {mp pb : Nat} (h : LR K A s at_ d cv ov pv mp pb) (k : But K.l A B) (hb : B[K.l]? = some (.cells .var (cellsL K cv ov pv mp at2 d2))) : LR K B s at2 d2 cv ov pv mp pb := by
  have kp := Kp.var h.blk k
  have nel : mp ≠ K.l := by rintro e; have := h.map; rw [e, h.blk] at this; simp at this
  exact ⟨hb, h.l0, kp.own (fun _ => ok_var) (fun _ _ h => h) h.con, h.con0, kp.own (fun _ => ok_var) (fun _ _ h => h.keep (kp.int (fun _ => ok_var) _)) h.ops, h.ops0, kp.own (fun _ => ok_var) (fun _ _ h => h) h.pla, h.pla0, k.at h.map nel, h.map0, h.nodup, h.few, by have := h.top; have := k.1; omega⟩
theorem set_last {α : Type} (l : List α) (a b : α) : (l ++ [a]).set l.length b = l ++ [b] := by simp
def LI (K : LK) (H0 : Heap) (L : List Int) (qd n : Nat) (H : Heap) : Prop :=
  ∃ cv ov pv mp pb at_ d, LR K H (runL K.p.2.1 K.c L n) at_ d cv ov pv mp pb ∧ Grow H0 H ∧ OwnI H qd L ∧ qd ≠ pb ∧ pb < H.length
theorem FrL.own {K : LK} {A B : Heap} (h : FrL K A B) {q : Nat} {L : List Int} (ho : OwnI A q L) (hl : q ≠ K.l) : OwnI B q L :=
  h.2 q _ ho (.inr ⟨hl, fun c e => by simp at e, fun c e => by simp at e, fun es e => by simp at e⟩)
theorem lifted_ax {H : Heap} {p : ProgT} {ps cs : Value} (hp : RL 1 strR H ps p.2.1) (hcs : RL 5 codeR H cs p.2.2) {f : Nat} {c : CodeT} (hc : p.2.2[f]? = some c) (hck : CheckP p) :
    AX Try.prog 18 #[progV p ps cs, .int .i64 (f : Int)] H
      (fun v H' => (∃ K L at_ d cv ov pv mp pb, K.p = p ∧ K.c = c ∧ K.f = (f : Int) ∧ Closed c L ∧ v = .pointer (some ⟨K.l, 0, none⟩) ∧ LR K H' (bodyL p.2.1 c L) at_ d cv ov pv mp pb) ∧ Grow H H') := by
  have hr := hck.2.2.2.2.2.2 f c hc
  have ha := aims_right hr
  have hlim := hr.1
  unfold Lim at hlim
  have hpl : p.2.1.length < 4294967296 := by have := hck.2.2.2.2.1; omega
  refine AX.body (n := 123) (rs := [.tmp 4]) Try.func18 rfl (by decide) rfl rfl (bC_sound _ _ _ _ ?_)
  (conv => whnf)
  refine Ob2.box rfl fun q2 H1 hq2 a2 g1 => ?_
  have b2 := hblk_of a2
  obtain ⟨q, sv, i1, hs, i2⟩ := ld_code hcs hc
  have i3 := i2 H1 g1
  (try (conv => whnf)); (repeat ((fail_if_success (with_reducible refine And.intro ?_ ?_)); (fail_if_success (with_reducible refine Exists.intro ?_ ?_)); (first | (apply Ob.of; (first | with_reducible assumption | with_reducible exact ex20 _ _ | with_reducible exact ex21 _ _ | with_reducible exact ex30 _ _ _ | with_reducible exact ex31 _ _ _ | with_reducible exact ex32 _ _ _ | rfl | (exact ald rfl rfl (by assumption) rfl) | (exact ald_agg rfl rfl rfl (by assumption) rfl)); (conv => whnf)) | (apply bIf.yes; (first | assumption | rfl); (conv => whnf)) | (apply bIf.no; (first | assumption | rfl); (conv => whnf)) | ((with_reducible refine Ob.load (by with_unfolding_all assumption) ?_); (conv => whnf)) | (apply Grows.mk; (first | exact Grow.refl _ | assumption); (conv => whnf)))))
  refine Ob2.alloc rfl fun q5 H2 hq5 a5 g2 => ?_
  (try (conv => whnf)); (repeat ((fail_if_success (with_reducible refine And.intro ?_ ?_)); (fail_if_success (with_reducible refine Exists.intro ?_ ?_)); (first | (apply Ob.of; (first | with_reducible assumption | with_reducible exact ex20 _ _ | with_reducible exact ex21 _ _ | with_reducible exact ex30 _ _ _ | with_reducible exact ex31 _ _ _ | with_reducible exact ex32 _ _ _ | rfl | (exact ald rfl rfl (by assumption) rfl) | (exact ald_agg rfl rfl rfl (by assumption) rfl)); (conv => whnf)) | (apply bIf.yes; (first | assumption | rfl); (conv => whnf)) | (apply bIf.no; (first | assumption | rfl); (conv => whnf)) | ((with_reducible refine Ob.load (by with_unfolding_all assumption) ?_); (conv => whnf)) | (apply Grows.mk; (first | exact Grow.refl _ | assumption); (conv => whnf)))))
  refine Ob.store rfl rfl rfl a5 rfl (by first | exact Nat.le_of_ble_eq_true rfl | simp) fun H3 s3 k3 l3 => ?_
  have g3 : Grow H1 H3 := g2.but_new k3 (by omega)
  have g13 := g1.trans g3
  have b2 := g3.hblk b2
  have b5 := hblk_of s3
  have lv1 : aload Try.prog 25 (.pointer (some ⟨q2, 0, none⟩)) H3 = some (progV p ps cs) := ald_agg rfl rfl rfl b2 rfl
  have lv2 : aload Try.prog 49 (.pointer (some ⟨q5, 0, none⟩)) H3 = some (codeV c sv) := ald_agg rfl rfl rfl b5 rfl
  obtain ⟨sa, sn, sk, rfl⟩ : ∃ a n k, sv = .slice a n k := by rcases hs with ⟨h, _⟩ | ⟨b, h, _⟩ <;> exact ⟨_, _, _, h⟩
  obtain ⟨pa, pn, pk, rfl⟩ : ∃ a n k, ps = .slice a n k := by rcases hp with ⟨h, _⟩ | ⟨b, h, _⟩ <;> exact ⟨_, _, _, h⟩
  obtain ⟨ca, cn, ck, rfl⟩ : ∃ a n k, cs = .slice a n k := by rcases hcs with ⟨h, _⟩ | ⟨b, h, _⟩ <;> exact ⟨_, _, _, h⟩
  (try (conv => whnf)); (repeat ((fail_if_success (with_reducible refine And.intro ?_ ?_)); (fail_if_success (with_reducible refine Exists.intro ?_ ?_)); (first | (apply Ob.of; (first | with_reducible assumption | with_reducible exact ex20 _ _ | with_reducible exact ex21 _ _ | with_reducible exact ex30 _ _ _ | with_reducible exact ex31 _ _ _ | with_reducible exact ex32 _ _ _ | rfl | (exact ald rfl rfl (by assumption) rfl) | (exact ald_agg rfl rfl rfl (by assumption) rfl)); (conv => whnf)) | (apply bIf.yes; (first | assumption | rfl); (conv => whnf)) | (apply bIf.no; (first | assumption | rfl); (conv => whnf)) | ((with_reducible refine Ob.load (by with_unfolding_all assumption) ?_); (conv => whnf)) | (apply Grows.mk; (first | exact Grow.refl _ | assumption); (conv => whnf)))))
  refine Ob2.lay (H := H3) (.map true []) (.map (some H3.length)) rfl fun H4 a4 g4 l4 => ?_
  (try (conv => whnf)); (repeat ((fail_if_success (with_reducible refine And.intro ?_ ?_)); (fail_if_success (with_reducible refine Exists.intro ?_ ?_)); (first | (apply Ob.of; (first | with_reducible assumption | with_reducible exact ex20 _ _ | with_reducible exact ex21 _ _ | with_reducible exact ex30 _ _ _ | with_reducible exact ex31 _ _ _ | with_reducible exact ex32 _ _ _ | rfl | (exact ald rfl rfl (by assumption) rfl) | (exact ald_agg rfl rfl rfl (by assumption) rfl)); (conv => whnf)) | (apply bIf.yes; (first | assumption | rfl); (conv => whnf)) | (apply bIf.no; (first | assumption | rfl); (conv => whnf)) | ((with_reducible refine Ob.load (by with_unfolding_all assumption) ?_); (conv => whnf)) | (apply Grows.mk; (first | exact Grow.refl _ | assumption); (conv => whnf)))))
  refine Ob2.box rfl fun l H5 hl a6 g5 => ?_
  obtain ⟨K, hn0K, hlK, hpK, hcK, hfK, hpsK, h5⟩ : ∃ K : LK, K.n0 = H3.length ∧ K.l = l ∧ K.p = p ∧ K.c = c ∧ K.f = (f : Int) ∧ K.ps = .slice pa pn pk ∧ LR K H5 ⟨[], [], []⟩ 0 0 (.slice none 0 0) (.slice none 0 0) (.slice none 0 0) H3.length K.l := by
    have bl : H5[l]? = some (.cells .var (cellsL ⟨H3.length, l, p, c, f, .slice pa pn pk, .slice ca cn ck, .slice sa sn sk⟩ (.slice none 0 0) (.slice none 0 0) (.slice none 0 0) H3.length 0 0)) := a6
    exact ⟨⟨H3.length, l, p, c, f, .slice pa pn pk, .slice ca cn ck, .slice sa sn sk⟩, rfl, rfl, rfl, rfl, rfl, rfl, bl, by show H3.length ≤ l; omega, .inl ⟨rfl, rfl⟩, fun b hb => by obtain ⟨n, k, hb⟩ := hb; simp at hb, .inl ⟨rfl, rfl⟩, fun b hb => by obtain ⟨n, k, hb⟩ := hb; simp at hb, .inl ⟨rfl, rfl⟩, fun b hb => by obtain ⟨n, k, hb⟩ := hb; simp at hb, g5.at a4, Nat.le_refl _, List.nodup_nil, by simp, lt_at bl⟩
  subst hlK hpK hcK
  have g35 := g4.trans g5
  have b2 := g35.hblk b2
  have b5 := g35.hblk b5
  have g05 := g13.trans g35
  have lv1 : aload Try.prog 25 (.pointer (some ⟨q2, 0, none⟩)) H5 = some (progV K.p (.slice pa pn pk) (.slice ca cn ck)) := ald_agg rfl rfl rfl b2 rfl
  (try (conv => whnf)); (repeat ((fail_if_success (with_reducible refine And.intro ?_ ?_)); (fail_if_success (with_reducible refine Exists.intro ?_ ?_)); (first | (apply Ob.of; (first | with_reducible assumption | with_reducible exact ex20 _ _ | with_reducible exact ex21 _ _ | with_reducible exact ex30 _ _ _ | with_reducible exact ex31 _ _ _ | with_reducible exact ex32 _ _ _ | rfl | (exact ald rfl rfl (by assumption) rfl) | (exact ald_agg rfl rfl rfl (by assumption) rfl)); (conv => whnf)) | (apply bIf.yes; (first | assumption | rfl); (conv => whnf)) | (apply bIf.no; (first | assumption | rfl); (conv => whnf)) | ((with_reducible refine Ob.load (by with_unfolding_all assumption) ?_); (conv => whnf)) | (apply Grows.mk; (first | exact Grow.refl _ | assumption); (conv => whnf)))))
  refine (DepthsOwn_ax (strR.grow hp g05) (codeR.grow hcs g05) hpl hc hck).mono ?_
  rintro _ H6 ⟨⟨L, qd, hcl, rfl, hod⟩, g6⟩
  have h6 := h5.grow g6
  have b5 := g6.hblk b5
  have hli : ∀ H', alen Try.prog 47 (.slice sa sn sk) H' = some (.int .i64 K.c.ins.length) := fun H' => hs.len rfl _
  have hl6 := hli H6
  have hn0 : K.n0 ≤ H6.length := by rw [hn0K]; have := g35.1; have := g6.1; omega
  have g36 : Grow H3 H6 := g35.trans g6
  have qdl : ∀ (X : Heap) (s : LS) at_ d cv ov pv mp pb, LR K X s at_ d cv ov pv mp pb → OwnI X qd L → qd ≠ K.l := by
    rintro X s at_ d cv ov pv mp pb h ho e
    unfold OwnI at ho
    rw [e, h.blk] at ho
    simp at ho
  have h0 : H.length ≤ K.n0 := by rw [hn0K]; exact g13.1
  (try (conv => whnf)); (repeat ((fail_if_success (with_reducible refine And.intro ?_ ?_)); (fail_if_success (with_reducible refine Exists.intro ?_ ?_)); (first | (apply Ob.of; (first | with_reducible assumption | with_reducible exact ex20 _ _ | with_reducible exact ex21 _ _ | with_reducible exact ex30 _ _ _ | with_reducible exact ex31 _ _ _ | with_reducible exact ex32 _ _ _ | rfl | (exact ald rfl rfl (by assumption) rfl) | (exact ald_agg rfl rfl rfl (by assumption) rfl)); (conv => whnf)) | (apply bIf.yes; (first | assumption | rfl); (conv => whnf)) | (apply bIf.no; (first | assumption | rfl); (conv => whnf)) | ((with_reducible refine Ob.load (by with_unfolding_all assumption) ?_); (conv => whnf)) | (apply Grows.mk; (first | exact Grow.refl _ | assumption); (conv => whnf)))))
  refine SW.loop (α := Nat) (fun n => [(6, .pointer (some ⟨K.l, 0, none⟩)), (7, rowV qd L.length), (33, .slice sa sn sk), (34, .int .i64 (K.c.ins.length : Int)), (35, .int .i64 (n : Int))]) (fun n H' => n ≤ K.c.ins.length ∧ LI K H L qd n H') (fun n => K.c.ins.length - n)
    ⟨0, ⟨rfl, rfl, rfl, rfl, rfl, trivial⟩, by omega, _, _, _, _, _, _, _, h6, g05.trans g6, hod, qdl _ _ _ _ _ _ _ _ _ h6 hod, h6.top⟩ ?_
  rintro n X1 ⟨hn, cv, ov, pv, mp, pb, at_, d0, hR, gX, hoq, hqp, hpb⟩
  refine bC_sound _ _ _ _ ?_
  have hLl : L.length = K.c.ins.length := hcl.inv.len
  have hrl := run_len (pool := K.p.2.1) (c := K.c) (L := L) n hn (by omega)
  have hql := qdl _ _ _ _ _ _ _ _ _ hR hoq
  by_cases hnl : n < K.c.ins.length
  rotate_left
  · have d1 : decide ((n : Int) < (K.c.ins.length : Int)) = false := decide_eq_false (by omega)
    have hne : n = K.c.ins.length := by omega
    subst hne
    have hlo : alen Try.prog 29 ov X1 = some (.int .i64 (runL K.p.2.1 K.c L K.c.ins.length).ops.length) := hR.ops.rl.len rfl _
    have bl := hblk_of hR.blk
    (try (conv => whnf)); (repeat ((fail_if_success (with_reducible refine And.intro ?_ ?_)); (fail_if_success (with_reducible refine Exists.intro ?_ ?_)); (first | (apply Ob.of; (first | with_reducible assumption | with_reducible exact ex20 _ _ | with_reducible exact ex21 _ _ | with_reducible exact ex30 _ _ _ | with_reducible exact ex31 _ _ _ | with_reducible exact ex32 _ _ _ | rfl | (exact ald rfl rfl (by assumption) rfl) | (exact ald_agg rfl rfl rfl (by assumption) rfl)); (conv => whnf)) | (apply bIf.yes; (first | assumption | rfl); (conv => whnf)) | (apply bIf.no; (first | assumption | rfl); (conv => whnf)) | ((with_reducible refine Ob.load (by with_unfolding_all assumption) ?_); (conv => whnf)) | (apply Grows.mk; (first | exact Grow.refl _ | assumption); (conv => whnf)))))
    refine SW.loop (α := Nat) (fun m => [(6, .pointer (some ⟨K.l, 0, none⟩)), (85, ov), (86, .int .i64 ((runL K.p.2.1 K.c L K.c.ins.length).ops.length : Int)), (87, .int .i64 (m : Int))])
      (fun m X => m ≤ (runL K.p.2.1 K.c L K.c.ins.length).ops.length ∧ LR K X { runL K.p.2.1 K.c L K.c.ins.length with ops := ((runL K.p.2.1 K.c L K.c.ins.length).ops.take m).map (patch1 (runL K.p.2.1 K.c L K.c.ins.length).places) ++ (runL K.p.2.1 K.c L K.c.ins.length).ops.drop m } at_ d0 cv ov pv mp pb ∧ Grow H X) (fun m => (runL K.p.2.1 K.c L K.c.ins.length).ops.length - m)
      ⟨0, ⟨rfl, rfl, rfl, rfl, trivial⟩, by omega, by simpa using hR, gX⟩ ?_
    have hjmp := run_jumps (pool := K.p.2.1) (L := L) hr K.c.ins.length
    clear hR hlo bl hpb hqp hoq gX
    generalize hs0 : runL K.p.2.1 K.c L K.c.ins.length = s at hrl hjmp ⊢
    rintro m X2 ⟨hm, hR, gX⟩
    refine bC_sound _ _ _ _ ?_
    by_cases hml : m < s.ops.length
    rotate_left
    · have d2 : decide ((m : Int) < (s.ops.length : Int)) = false := decide_eq_false (by omega)
      have hme : m = s.ops.length := by omega
      subst hme
      have hb : bodyL K.p.2.1 K.c L = { s with ops := s.ops.map (patch1 s.places) } := by unfold bodyL; rw [hs0]
      rw [List.take_of_length_le (Nat.le_refl _), List.drop_of_length_le (Nat.le_refl _), List.append_nil, ← hb] at hR
      (try (conv => whnf)); (repeat ((fail_if_success (with_reducible refine And.intro ?_ ?_)); (fail_if_success (with_reducible refine Exists.intro ?_ ?_)); (first | (apply Ob.of; (first | with_reducible assumption | with_reducible exact ex20 _ _ | with_reducible exact ex21 _ _ | with_reducible exact ex30 _ _ _ | with_reducible exact ex31 _ _ _ | with_reducible exact ex32 _ _ _ | rfl | (exact ald rfl rfl (by assumption) rfl) | (exact ald_agg rfl rfl rfl (by assumption) rfl)); (conv => whnf)) | (apply bIf.yes; (first | assumption | rfl); (conv => whnf)) | (apply bIf.no; (first | assumption | rfl); (conv => whnf)) | ((with_reducible refine Ob.load (by with_unfolding_all assumption) ?_); (conv => whnf)) | (apply Grows.mk; (first | exact Grow.refl _ | assumption); (conv => whnf)))))
      exact ⟨⟨K, L, at_, d0, cv, ov, pv, mp, pb, rfl, rfl, hfK, hcl, rfl, hR⟩, gX⟩
    have d2 : decide ((m : Int) < (s.ops.length : Int)) = true := decide_eq_true (by omega)
    obtain ⟨o, ho⟩ := get_lt hml
    have hl2 : ((s.ops.take m).map (patch1 s.places) ++ s.ops.drop m).length = s.ops.length := by simp; omega
    have hL2 : ((s.ops.take m).map (patch1 s.places) ++ s.ops.drop m)[m]? = some o := by
      rw [List.getElem?_append_right (by simp; omega)]
      simp [Nat.min_eq_left hm, ho]
    have hnext : ((s.ops.take m).map (patch1 s.places) ++ s.ops.drop m).set m (patch1 s.places o) = (s.ops.take (m + 1)).map (patch1 s.places) ++ s.ops.drop (m + 1) := by
      apply List.ext_getElem?
      intro i
      rcases Nat.lt_trichotomy i m with hi | hi | hi
      · rw [List.getElem?_set_ne (by omega), List.getElem?_append_left (by simp; omega), List.getElem?_append_left (by simp; omega)]
        simp [hi, show i < m + 1 by omega]
      · subst hi
        rw [List.getElem?_set_self (by omega), List.getElem?_append_left (by simp; omega)]
        simp [ho]
      · rw [List.getElem?_set_ne (by omega), List.getElem?_append_right (by simp; omega), List.getElem?_append_right (by simp; omega)]
        simp only [List.length_map, List.length_take, List.getElem?_drop]
        congr 1
        omega
    have wm : IntKind.i64.wrap ((m : Int) + 1) = ((m + 1 : Nat) : Int) := w_succ (by omega)
    have hops : OwnR 9 44 (opR pb) X2 ov ((s.ops.take m).map (patch1 s.places) ++ s.ops.drop m) := hR.ops
    rcases hops with ⟨_, h⟩ | ⟨b, c', hov, hb, hcl', h4⟩
    · rw [h] at hL2; simp at hL2
    obtain ⟨lw, k1, rv, mv, rfl, hrv, hmv⟩ := h4 m o hL2
    have ix : aindexAddr Try.prog 29 ov (.int .i64 (m : Int)) = some (.pointer (some ⟨b, m * 9, none⟩)) := by
      rw [hov]
      have := idx_slice (P := Try.prog) (t := 29) (b := b) (off := 0) (len := ((s.ops.take m).map (patch1 s.places) ++ s.ops.drop m).length) (es := 9) (kd := .i64) (n := (m : Int)) rfl (k := 9) rfl (by omega) (by omega)
      simpa using this
    have lx : aload Try.prog 44 (.pointer (some ⟨b, m * 9, none⟩)) X2 = some (.agg #[.int .i64 o.kind, .int .i64 o.a, .int .i64 o.b, .int .i64 o.c, .int .i64 o.d, rv, .slice none 0 0, .int .i64 o.pc, mv]) := ald_agg rfl rfl rfl (hblk_of hb) k1
    (try (conv => whnf)); (repeat ((fail_if_success (with_reducible refine And.intro ?_ ?_)); (fail_if_success (with_reducible refine Exists.intro ?_ ?_)); (first | (apply Ob.of; (first | with_reducible assumption | with_reducible exact ex20 _ _ | with_reducible exact ex21 _ _ | with_reducible exact ex30 _ _ _ | with_reducible exact ex31 _ _ _ | with_reducible exact ex32 _ _ _ | rfl | (exact ald rfl rfl (by assumption) rfl) | (exact ald_agg rfl rfl rfl (by assumption) rfl)); (conv => whnf)) | (apply bIf.yes; (first | assumption | rfl); (conv => whnf)) | (apply bIf.no; (first | assumption | rfl); (conv => whnf)) | ((with_reducible refine Ob.load (by with_unfolding_all assumption) ?_); (conv => whnf)) | (apply Grows.mk; (first | exact Grow.refl _ | assumption); (conv => whnf)))))
    refine Ob2.alloc rfl fun q11 X3 hq11 a11 e3 => ?_
    (try (conv => whnf)); (repeat ((fail_if_success (with_reducible refine And.intro ?_ ?_)); (fail_if_success (with_reducible refine Exists.intro ?_ ?_)); (first | (apply Ob.of; (first | with_reducible assumption | with_reducible exact ex20 _ _ | with_reducible exact ex21 _ _ | with_reducible exact ex30 _ _ _ | with_reducible exact ex31 _ _ _ | with_reducible exact ex32 _ _ _ | rfl | (exact ald rfl rfl (by assumption) rfl) | (exact ald_agg rfl rfl rfl (by assumption) rfl)); (conv => whnf)) | (apply bIf.yes; (first | assumption | rfl); (conv => whnf)) | (apply bIf.no; (first | assumption | rfl); (conv => whnf)) | ((with_reducible refine Ob.load (by with_unfolding_all assumption) ?_); (conv => whnf)) | (apply Grows.mk; (first | exact Grow.refl _ | assumption); (conv => whnf)))))
    refine Ob.store rfl rfl rfl a11 rfl (by first | exact Nat.le_of_ble_eq_true rfl | simp) fun X4 s11 k11 l11 => ?_
    have e4 : Grow X2 X4 := e3.but_new k11 (by omega)
    have b11 := hblk_of s11
    have hR4 := hR.grow e4
    have bl4 := hblk_of hR4.blk
    have hb4 := e4.at hb
    cases hj : isJump o.kind with
    | false =>
      have hk := of_decide_eq_false hj
      have e17 : (o.kind == 17) = false := by rw [beq_eq_false_iff_ne]; omega
      have e18 : (o.kind == 18) = false := by rw [beq_eq_false_iff_ne]; omega
      have e19 : (o.kind == 19) = false := by rw [beq_eq_false_iff_ne]; omega
      have hp1 : patch1 s.places o = o := by unfold patch1; rw [if_neg (by simp [hj])]
      rw [hp1, set_same hL2] at hnext
      rw [hnext] at hR4
      (try (conv => whnf)); (repeat ((fail_if_success (with_reducible refine And.intro ?_ ?_)); (fail_if_success (with_reducible refine Exists.intro ?_ ?_)); (first | (apply Ob.of; (first | with_reducible assumption | with_reducible exact ex20 _ _ | with_reducible exact ex21 _ _ | with_reducible exact ex30 _ _ _ | with_reducible exact ex31 _ _ _ | with_reducible exact ex32 _ _ _ | rfl | (exact ald rfl rfl (by assumption) rfl) | (exact ald_agg rfl rfl rfl (by assumption) rfl)); (conv => whnf)) | (apply bIf.yes; (first | assumption | rfl); (conv => whnf)) | (apply bIf.no; (first | assumption | rfl); (conv => whnf)) | ((with_reducible refine Ob.load (by with_unfolding_all assumption) ?_); (conv => whnf)) | (apply Grows.mk; (first | exact Grow.refl _ | assumption); (conv => whnf)))))
      exact ⟨m + 1, ⟨rfl, rfl, rfl, congrArg (fun z => some (Value.int .i64 z)) wm, trivial⟩, ⟨hml, hR4, gX.trans e4⟩, by show s.ops.length - (m + 1) < s.ops.length - m; omega⟩
    | true =>
      obtain ⟨hj0, hj1⟩ := hjmp o (List.mem_of_getElem? ho) hj
      obtain ⟨j, hja⟩ : ∃ j : Nat, o.a = (j : Int) := ⟨o.a.toNat, by omega⟩
      obtain ⟨v, hv⟩ := get_lt (L := s.places) (m := j) (by have := hrl.1; omega)
      have hp1 : patch1 s.places o = { o with a := v } := by
        unfold patch1
        rw [if_pos hj, hja, Int.toNat_natCast, List.getD_eq_getElem?_getD, hv]; rfl
      rw [hp1] at hnext
      have hpl4 := hR4.pla
      obtain ⟨z, z1, z2⟩ := ld_int hpl4.rl hv
      have z3 := z2 X4 (.refl _)
      rw [← hja] at z1
      have hk : o.kind = 17 ∨ o.kind = 18 ∨ o.kind = 19 := by have := of_decide_eq_true hj; omega
      have cont : ∀ X5, X5[b]? = some (.cells (.row 44) (putL c' (m * 9 + 1) [.int .i64 v])) → But b X4 X5 →
          ∃ y : Nat, Has [(6, .pointer (some ⟨K.l, 0, none⟩)), (85, ov), (86, .int .i64 (s.ops.length : Int)), (87, .int .i64 (IntKind.i64.wrap ((m : Int) + 1)))] [(6, .pointer (some ⟨K.l, 0, none⟩)), (85, ov), (86, .int .i64 (s.ops.length : Int)), (87, .int .i64 (y : Int))] ∧
            (y ≤ s.ops.length ∧ LR K X5 { s with ops := (s.ops.take y).map (patch1 s.places) ++ s.ops.drop y } at_ d0 cv ov pv mp pb ∧ Grow H X5) ∧ s.ops.length - y < s.ops.length - m := by
        intro X5 hb5 k5
        have ne5 : ∀ (q : Nat) (Y : Blk), X4[q]? = some Y → NotRow 44 Y → q ≠ b := by
          rintro q Y hY hN rfl
          rw [hb4] at hY
          simp only [Option.some.injEq] at hY
          exact hN _ hY.symm
        refine ⟨m + 1, ⟨rfl, rfl, rfl, congrArg (fun z => some (Value.int .i64 z)) wm, trivial⟩, ⟨hml, ?_, ?_⟩, by omega⟩
        · refine ⟨k5.at hR4.blk (ne5 _ _ hR4.blk fun c h => by simp at h), hR4.l0, hR4.con.keep (fun q c _ hc => k5.at hc (ne5 _ _ hc (notRow_row (by decide)))) fun _ _ _ h => h, hR4.con0, ?_, hR4.ops0, hR4.pla.keep (fun q c _ hc => k5.at hc (ne5 _ _ hc (notRow_row (by decide)))) fun _ _ _ h => h, hR4.pla0, k5.at hR4.map (ne5 _ _ hR4.map fun c h => by simp at h), hR4.map0, hR4.nodup, ⟨hR4.few.1, by have := hR4.few.2; show ((s.ops.take (m + 1)).map (patch1 s.places) ++ s.ops.drop (m + 1)).length ≤ _; rw [← hnext, List.length_set]; exact this⟩, by have := hR4.top; have := k5.1; omega⟩
          show OwnR 9 44 (opR pb) X5 ov ((s.ops.take (m + 1)).map (patch1 s.places) ++ s.ops.drop (m + 1))
          rw [← hnext, hov]
          have ik : IntKeep pb X2 X5 := fun q c hc _ => k5.at (e4.at hc) (ne5 _ _ (e4.at hc) (notRow_row (by decide)))
          exact OwnR.put1 (A := X2) (i := m) (j := 1) hcl' h4 hb5 hL2 k1 (by decide) ⟨rv, mv, rfl, hrv.keep ik, hmv.keep ik⟩ fun _ _ h => h.keep ik
        · refine (gX.trans e4).but_new k5 ?_
          have := hR.ops0 b ⟨_, _, hov⟩
          omega
      have hbl : m * 9 + 1 + 1 ≤ c'.length := by rw [hcl', hl2]; omega
      rcases hk with hk | hk | hk
      all_goals
        rw [hk] at b11
        (try (conv => whnf)); (repeat ((fail_if_success (with_reducible refine And.intro ?_ ?_)); (fail_if_success (with_reducible refine Exists.intro ?_ ?_)); (first | (apply Ob.of; (first | with_reducible assumption | with_reducible exact ex20 _ _ | with_reducible exact ex21 _ _ | with_reducible exact ex30 _ _ _ | with_reducible exact ex31 _ _ _ | with_reducible exact ex32 _ _ _ | rfl | (exact ald rfl rfl (by assumption) rfl) | (exact ald_agg rfl rfl rfl (by assumption) rfl)); (conv => whnf)) | (apply bIf.yes; (first | assumption | rfl); (conv => whnf)) | (apply bIf.no; (first | assumption | rfl); (conv => whnf)) | ((with_reducible refine Ob.load (by with_unfolding_all assumption) ?_); (conv => whnf)) | (apply Grows.mk; (first | exact Grow.refl _ | assumption); (conv => whnf)))))
        apply SW.drawH [(0, [], [110, 111, 112, 113, 114, 115, 116, 117, 118], false), (1, [(105, 0)], [105, 110, 111, 112, 113, 114, 115, 116, 117, 118], false), (2, [(105, 0), (106, 1)], [105, 106, 110, 111, 112, 113, 114, 115, 116, 117, 118], false), (3, [(105, 0), (106, 1), (107, 2)], [105, 106, 107, 110, 111, 112, 113, 114, 115, 116, 117, 118], false), (4, [(105, 0), (106, 1), (107, 2), (108, 3)], [105, 106, 107, 108, 110, 111, 112, 113, 114, 115, 116, 117, 118], false), (5, [], [105, 106, 107, 108, 109, 111, 112, 113, 114, 115, 116, 117, 118], false), (6, [], [105, 106, 107, 108, 109, 110, 115, 116], false), (7, [(111, 6)], [105, 106, 107, 108, 109, 110, 111, 115, 116], false), (8, [(111, 6), (112, 7)], [105, 106, 107, 108, 109, 110, 111, 112, 115, 116], false), (9, [(111, 6), (112, 7), (113, 8)], [105, 106, 107, 108, 109, 110, 111, 112, 113, 115, 116], false), (10, [], [105, 106, 107, 108, 109, 110, 111, 112, 113, 114], false), (11, [(115, 10)], [105, 106, 107, 108, 109, 110, 111, 112, 113, 114, 115], false), (12, [(111, 6), (112, 7), (113, 8), (114, 9), (115, 10), (116, 11)], [105, 106, 107, 108, 109, 110, 111, 112, 113, 114, 115, 116], false), (13, [(111, 6), (112, 7), (113, 8), (114, 9), (115, 10), (116, 11), (117, 12)], [105, 106, 107, 108, 109, 110, 111, 112, 113, 114, 115, 116, 117], false), (14, [(105, 0), (106, 1), (107, 2), (108, 3), (109, 4), (110, 5), (111, 6), (112, 7), (113, 8), (114, 9), (115, 10), (116, 11), (117, 12), (118, 13)], [105, 106, 107, 108, 109, 110, 111, 112, 113, 114, 115, 116, 117, 118], false), (15, [(105, 0), (106, 1), (107, 2), (108, 3), (109, 4), (110, 5), (111, 6), (112, 7), (113, 8), (114, 9), (115, 10), (116, 11), (117, 12), (118, 13), (119, 14)], [105, 106, 107, 108, 109, 110, 111, 112, 113, 114, 115, 116, 117, 118, 119], false), (16, [(105, 0), (106, 1), (107, 2), (108, 3), (109, 4), (110, 5), (111, 6), (112, 7), (113, 8), (114, 9), (115, 10), (116, 11), (117, 12), (118, 13), (119, 14), (120, 15)], [105, 106, 107, 108, 109, 110, 111, 112, 113, 114, 115, 116, 117, 118, 119, 120], true)]
          [(105, 0), (106, 1), (107, 2), (108, 3), (109, 4), (110, 5), (111, 6), (112, 7), (113, 8), (114, 9), (115, 10), (116, 11), (117, 12), (118, 13), (119, 14), (120, 15)] []
          [(6, _), (10, _), (11, _), (85, _), (86, _), (87, _)] rfl (by kernel_rfl)
        case hF => exact ⟨rfl, rfl, rfl, rfl, rfl, rfl, trivial⟩
        (try (conv => whnf)); (repeat ((fail_if_success (with_reducible refine And.intro ?_ ?_)); (fail_if_success (with_reducible refine Exists.intro ?_ ?_)); (first | (apply Ob.of; (first | with_reducible assumption | with_reducible exact ex20 _ _ | with_reducible exact ex21 _ _ | with_reducible exact ex30 _ _ _ | with_reducible exact ex31 _ _ _ | with_reducible exact ex32 _ _ _ | rfl | (exact ald rfl rfl (by assumption) rfl) | (exact ald_agg rfl rfl rfl (by assumption) rfl)); (conv => whnf)) | (apply bIf.yes; (first | assumption | rfl); (conv => whnf)) | (apply bIf.no; (first | assumption | rfl); (conv => whnf)) | ((with_reducible refine Ob.load (by with_unfolding_all assumption) ?_); (conv => whnf)) | (apply Grows.mk; (first | exact Grow.refl _ | assumption); (conv => whnf)))))
        refine Ob.store (vs := [.int .i64 v]) rfl rfl rfl hb4 rfl hbl fun X5 s5 k5 l5 => ?_
        (try (conv => whnf)); (repeat ((fail_if_success (with_reducible refine And.intro ?_ ?_)); (fail_if_success (with_reducible refine Exists.intro ?_ ?_)); (first | (apply Ob.of; (first | with_reducible assumption | with_reducible exact ex20 _ _ | with_reducible exact ex21 _ _ | with_reducible exact ex30 _ _ _ | with_reducible exact ex31 _ _ _ | with_reducible exact ex32 _ _ _ | rfl | (exact ald rfl rfl (by assumption) rfl) | (exact ald_agg rfl rfl rfl (by assumption) rfl)); (conv => whnf)) | (apply bIf.yes; (first | assumption | rfl); (conv => whnf)) | (apply bIf.no; (first | assumption | rfl); (conv => whnf)) | ((with_reducible refine Ob.load (by with_unfolding_all assumption) ?_); (conv => whnf)) | (apply Grows.mk; (first | exact Grow.refl _ | assumption); (conv => whnf)))))
        exact cont X5 s5 k5
  have d1 : decide ((n : Int) < (K.c.ins.length : Int)) = true := decide_eq_true (by omega)
  obtain ⟨x, hx⟩ := get_lt hnl
  obtain ⟨d, hd⟩ := get_lt (L := L) (m := n) (by omega)
  obtain ⟨bi, j1, j2⟩ := ld_ins hs hx
  have j3 := j2 X1 gX
  have wn : IntKind.i64.wrap ((n : Int) + 1) = ((n + 1 : Nat) : Int) := w_succ (by omega)
  (try (conv => whnf)); (repeat ((fail_if_success (with_reducible refine And.intro ?_ ?_)); (fail_if_success (with_reducible refine Exists.intro ?_ ?_)); (first | (apply Ob.of; (first | with_reducible assumption | with_reducible exact ex20 _ _ | with_reducible exact ex21 _ _ | with_reducible exact ex30 _ _ _ | with_reducible exact ex31 _ _ _ | with_reducible exact ex32 _ _ _ | rfl | (exact ald rfl rfl (by assumption) rfl) | (exact ald_agg rfl rfl rfl (by assumption) rfl)); (conv => whnf)) | (apply bIf.yes; (first | assumption | rfl); (conv => whnf)) | (apply bIf.no; (first | assumption | rfl); (conv => whnf)) | ((with_reducible refine Ob.load (by with_unfolding_all assumption) ?_); (conv => whnf)) | (apply Grows.mk; (first | exact Grow.refl _ | assumption); (conv => whnf)))))
  refine Ob2.alloc rfl fun q9 X2 hq9 a9 e2 => ?_
  (try (conv => whnf)); (repeat ((fail_if_success (with_reducible refine And.intro ?_ ?_)); (fail_if_success (with_reducible refine Exists.intro ?_ ?_)); (first | (apply Ob.of; (first | with_reducible assumption | with_reducible exact ex20 _ _ | with_reducible exact ex21 _ _ | with_reducible exact ex30 _ _ _ | with_reducible exact ex31 _ _ _ | with_reducible exact ex32 _ _ _ | rfl | (exact ald rfl rfl (by assumption) rfl) | (exact ald_agg rfl rfl rfl (by assumption) rfl)); (conv => whnf)) | (apply bIf.yes; (first | assumption | rfl); (conv => whnf)) | (apply bIf.no; (first | assumption | rfl); (conv => whnf)) | ((with_reducible refine Ob.load (by with_unfolding_all assumption) ?_); (conv => whnf)) | (apply Grows.mk; (first | exact Grow.refl _ | assumption); (conv => whnf)))))
  refine Ob.store rfl rfl rfl a9 rfl (by first | exact Nat.le_of_ble_eq_true rfl | simp) fun X3 s9 k9 l9 => ?_
  have e13 : Grow X1 X3 := e2.but_new k9 (by omega)
  have hR3 := hR.grow e13
  have bl3 := hblk_of hR3.blk
  (try (conv => whnf)); (repeat ((fail_if_success (with_reducible refine And.intro ?_ ?_)); (fail_if_success (with_reducible refine Exists.intro ?_ ?_)); (first | (apply Ob.of; (first | with_reducible assumption | with_reducible exact ex20 _ _ | with_reducible exact ex21 _ _ | with_reducible exact ex30 _ _ _ | with_reducible exact ex31 _ _ _ | with_reducible exact ex32 _ _ _ | rfl | (exact ald rfl rfl (by assumption) rfl) | (exact ald_agg rfl rfl rfl (by assumption) rfl)); (conv => whnf)) | (apply bIf.yes; (first | assumption | rfl); (conv => whnf)) | (apply bIf.no; (first | assumption | rfl); (conv => whnf)) | ((with_reducible refine Ob.load (by with_unfolding_all assumption) ?_); (conv => whnf)) | (apply Grows.mk; (first | exact Grow.refl _ | assumption); (conv => whnf)))))
  refine Ob2.lay (H := X3) (.cells (.row 3) [.int .i64 (-1)]) (rowV X3.length 1) rfl fun X4 a4' e4 l4' => ?_
  have hR4 := hR3.grow e4
  obtain ⟨X5, ap, o5, f5, x5⟩ := OwnR.append (n := K.n0) (x := (-1 : Int)) rowI rowI hR4.pla a4' rfl rfl (fun b hb => (hR4.pla0 b hb).1) (by have := e4.1; have := hR3.top; have := hR3.l0; omega) (by have := hrl.1; omega) (fun _ _ _ _ _ h => h)
  have np : ∀ (b : Nat) (Y : Blk), X4[b]? = some Y → NotRow 3 Y → ¬ blkIs pv b := by
    rintro b Y hY hN hb
    obtain ⟨c', hc'⟩ := OwnR.blk hR4.pla hb
    rw [hY] at hc'
    simp only [Option.some.injEq] at hc'
    exact hN c' hc'
  have h45 : X4.length < X5.length := by obtain ⟨c', hc'⟩ := OwnR.blk o5 (b := X4.length) ⟨_, _, rfl⟩; exact lt_at hc'
  have nv : ∀ (c : List Value), NotRow 3 (.cells .var c) := fun c c' h => by simp at h
  have bl5 := x5 K.l _ hR4.blk (np _ _ hR4.blk (nv _))
  (try (conv => whnf)); (repeat ((fail_if_success (with_reducible refine And.intro ?_ ?_)); (fail_if_success (with_reducible refine Exists.intro ?_ ?_)); (first | (apply Ob.of; (first | with_reducible assumption | with_reducible exact ex20 _ _ | with_reducible exact ex21 _ _ | with_reducible exact ex30 _ _ _ | with_reducible exact ex31 _ _ _ | with_reducible exact ex32 _ _ _ | rfl | (exact ald rfl rfl (by assumption) rfl) | (exact ald_agg rfl rfl rfl (by assumption) rfl)); (conv => whnf)) | (apply bIf.yes; (first | assumption | rfl); (conv => whnf)) | (apply bIf.no; (first | assumption | rfl); (conv => whnf)) | ((with_reducible refine Ob.load (by with_unfolding_all assumption) ?_); (conv => whnf)) | (apply Grows.mk; (first | exact Grow.refl _ | assumption); (conv => whnf)))))
  refine Ob2.of ap ?_
  (try (conv => whnf)); (repeat ((fail_if_success (with_reducible refine And.intro ?_ ?_)); (fail_if_success (with_reducible refine Exists.intro ?_ ?_)); (first | (apply Ob.of; (first | with_reducible assumption | with_reducible exact ex20 _ _ | with_reducible exact ex21 _ _ | with_reducible exact ex30 _ _ _ | with_reducible exact ex31 _ _ _ | with_reducible exact ex32 _ _ _ | rfl | (exact ald rfl rfl (by assumption) rfl) | (exact ald_agg rfl rfl rfl (by assumption) rfl)); (conv => whnf)) | (apply bIf.yes; (first | assumption | rfl); (conv => whnf)) | (apply bIf.no; (first | assumption | rfl); (conv => whnf)) | ((with_reducible refine Ob.load (by with_unfolding_all assumption) ?_); (conv => whnf)) | (apply Grows.mk; (first | exact Grow.refl _ | assumption); (conv => whnf)))))
  refine Ob.store rfl rfl rfl bl5 rfl (by first | exact Nat.le_of_ble_eq_true rfl | simp) fun X6 s6 k6 l6 => ?_
  have kp6 := Kp.var bl5 k6
  have hR6 : LR K X6 { runL K.p.2.1 K.c L n with places := (runL K.p.2.1 K.c L n).places ++ [-1] } at_ d0 cv ov (.slice (some ⟨X4.length, 0, none⟩) ((runL K.p.2.1 K.c L n).places.length + 1) 1) mp X4.length := by
    refine ⟨s6, hR.l0, kp6.own (fun _ => ok_var) (fun _ _ h => h) (hR4.con.keep (fun b c' hb hc' => x5 b _ hc' (np _ _ hc' (notRow_row (by decide)))) fun _ _ _ h => h), hR.con0, ?_, hR.ops0, kp6.own (fun _ => ok_var) (fun _ _ h => h) o5, fun b hb => ?_, ?_, hR.map0, hR.nodup, hR.few, ?_⟩
    · refine kp6.own (fun _ => ok_var) (fun _ _ h => h.keep (kp6.int (fun _ => ok_var) _)) (OwnR.conv hR4.ops (fun b c' hb hc' => x5 b _ hc' (np _ _ hc' (notRow_row (by decide)))) fun l' o' _ ho' => ?_)
      exact ho'.fresh (fun q' c' hq' hne => x5 q' _ hq' fun hb => hne (hR4.pla0 q' hb).2) (Nat.le_refl _)
    · have := (blkIs_row (n := (runL K.p.2.1 K.c L n).places.length + 1)).1 hb
      have h1 := hR3.top; have h2 := hR3.l0; have h3 := e4.1
      exact ⟨by omega, this⟩
    · refine k6.at (x5 mp _ hR4.map (np _ _ hR4.map fun c' h => by simp at h)) ?_
      rintro e
      rw [← e, x5 mp _ hR4.map (np _ _ hR4.map fun c' h => by simp at h)] at bl5
      simp at bl5
    · have := hR4.top; have := f5.1; have := k6.1; omega
  have q9l : q9 ≠ K.l := by have := hR.top; omega
  have s9' := k6.at (x5 q9 _ (e4.at s9) (np _ _ (e4.at s9) (nv _))) q9l
  have hoq6 : OwnI X6 qd L := k6.at (x5 qd _ (e4.at (e13.at hoq)) fun hb => hqp (hR4.pla0 qd hb).2) hql
  have gX6 : Grow H X6 := (f5.grow ((gX.trans e13).trans e4) h0).but_new k6 (by have := hR.l0; omega)
  have hqd4 : qd < X4.length := lt_at (e4.at (e13.at hoq))
  have hi6 : aindexAddr Try.prog 36 (rowV qd L.length) (.int .i64 (n : Int)) = some (.pointer (some ⟨qd, n, none⟩)) := own_idx (by omega)
  have hv6 := own_ld hoq6 hd
  have hrp : (runL K.p.2.1 K.c L (n + 1)) = stepL K.p.2.1 K.c.2.1 (runL K.p.2.1 K.c L n) n x d := by rw [runL, hx, hd]
  by_cases hd0 : d < 0
  · have d2 : decide (d < 0) = true := decide_eq_true hd0
    (try (conv => whnf)); (repeat ((fail_if_success (with_reducible refine And.intro ?_ ?_)); (fail_if_success (with_reducible refine Exists.intro ?_ ?_)); (first | (apply Ob.of; (first | with_reducible assumption | with_reducible exact ex20 _ _ | with_reducible exact ex21 _ _ | with_reducible exact ex30 _ _ _ | with_reducible exact ex31 _ _ _ | with_reducible exact ex32 _ _ _ | rfl | (exact ald rfl rfl (by assumption) rfl) | (exact ald_agg rfl rfl rfl (by assumption) rfl)); (conv => whnf)) | (apply bIf.yes; (first | assumption | rfl); (conv => whnf)) | (apply bIf.no; (first | assumption | rfl); (conv => whnf)) | ((with_reducible refine Ob.load (by with_unfolding_all assumption) ?_); (conv => whnf)) | (apply Grows.mk; (first | exact Grow.refl _ | assumption); (conv => whnf)))))
    refine ⟨n + 1, ⟨rfl, rfl, rfl, rfl, congrArg (fun z => some (Value.int .i64 z)) wn, trivial⟩, ⟨hnl, cv, ov, .slice (some ⟨X4.length, 0, none⟩) ((runL K.p.2.1 K.c L n).places.length + 1) 1, mp, X4.length, at_, d0, ?_, gX6, hoq6, by omega, by have := k6.1; omega⟩, by show K.c.ins.length - (n + 1) < K.c.ins.length - n; omega⟩
    have : runL K.p.2.1 K.c L (n + 1) = { runL K.p.2.1 K.c L n with places := (runL K.p.2.1 K.c L n).places ++ [-1] } := by rw [hrp]; unfold stepL; rw [if_pos hd0]
    show LR K X6 (runL K.p.2.1 K.c L (n + 1)) _ _ _ _ _ _ _
    rw [this]
    exact hR6
  have d2 : decide (d < 0) = false := decide_eq_false hd0
  (try (conv => whnf)); (repeat ((fail_if_success (with_reducible refine And.intro ?_ ?_)); (fail_if_success (with_reducible refine Exists.intro ?_ ?_)); (first | (apply Ob.of; (first | with_reducible assumption | with_reducible exact ex20 _ _ | with_reducible exact ex21 _ _ | with_reducible exact ex30 _ _ _ | with_reducible exact ex31 _ _ _ | with_reducible exact ex32 _ _ _ | rfl | (exact ald rfl rfl (by assumption) rfl) | (exact ald_agg rfl rfl rfl (by assumption) rfl)); (conv => whnf)) | (apply bIf.yes; (first | assumption | rfl); (conv => whnf)) | (apply bIf.no; (first | assumption | rfl); (conv => whnf)) | ((with_reducible refine Ob.load (by with_unfolding_all assumption) ?_); (conv => whnf)) | (apply Grows.mk; (first | exact Grow.refl _ | assumption); (conv => whnf)))))
  refine Ob.store rfl rfl rfl hR6.blk rfl (by first | exact Nat.le_of_ble_eq_true rfl | simp) fun X7 s7 k7 l7 => ?_
  (try (conv => whnf)); (repeat ((fail_if_success (with_reducible refine And.intro ?_ ?_)); (fail_if_success (with_reducible refine Exists.intro ?_ ?_)); (first | (apply Ob.of; (first | with_reducible assumption | with_reducible exact ex20 _ _ | with_reducible exact ex21 _ _ | with_reducible exact ex30 _ _ _ | with_reducible exact ex31 _ _ _ | with_reducible exact ex32 _ _ _ | rfl | (exact ald rfl rfl (by assumption) rfl) | (exact ald_agg rfl rfl rfl (by assumption) rfl)); (conv => whnf)) | (apply bIf.yes; (first | assumption | rfl); (conv => whnf)) | (apply bIf.no; (first | assumption | rfl); (conv => whnf)) | ((with_reducible refine Ob.load (by with_unfolding_all assumption) ?_); (conv => whnf)) | (apply Grows.mk; (first | exact Grow.refl _ | assumption); (conv => whnf)))))
  refine Ob.store rfl rfl rfl s7 rfl (by first | exact Nat.le_of_ble_eq_true rfl | simp) fun X8 s8 k8 l8 => ?_
  have hR7 : LR K X7 _ (n : Int) d0 cv ov _ mp X4.length := hR6.setAt k7 s7
  have hR8 : LR K X8 _ (n : Int) d cv ov _ mp X4.length := hR7.setAt k8 s8
  have b8 := hblk_of s8
  have hoI : OwnI X8 X4.length ((runL K.p.2.1 K.c L n).places ++ [-1]) := by
    rcases OwnR.toI hR8.pla with ⟨h, _⟩ | ⟨q', h, ho⟩
    · simp at h
    · simp only [rowV, Value.slice.injEq, Option.some.injEq, Addr.mk.injEq, and_true] at h
      rw [h.1]; exact ho
  have hli8 : alen Try.prog 29 ov X8 = some (.int .i64 (runL K.p.2.1 K.c L n).ops.length) := hR8.ops.rl.len rfl _
  have hi8 : aindexAddr Try.prog 36 (.slice (some ⟨X4.length, 0, none⟩) ((runL K.p.2.1 K.c L n).places.length + 1) 1) (.int .i64 (n : Int)) = some (.pointer (some ⟨X4.length, n, none⟩)) := own_idx (by have := hrl.1; omega)
  (try (conv => whnf)); (repeat ((fail_if_success (with_reducible refine And.intro ?_ ?_)); (fail_if_success (with_reducible refine Exists.intro ?_ ?_)); (first | (apply Ob.of; (first | with_reducible assumption | with_reducible exact ex20 _ _ | with_reducible exact ex21 _ _ | with_reducible exact ex30 _ _ _ | with_reducible exact ex31 _ _ _ | with_reducible exact ex32 _ _ _ | rfl | (exact ald rfl rfl (by assumption) rfl) | (exact ald_agg rfl rfl rfl (by assumption) rfl)); (conv => whnf)) | (apply bIf.yes; (first | assumption | rfl); (conv => whnf)) | (apply bIf.no; (first | assumption | rfl); (conv => whnf)) | ((with_reducible refine Ob.load (by with_unfolding_all assumption) ?_); (conv => whnf)) | (apply Grows.mk; (first | exact Grow.refl _ | assumption); (conv => whnf)))))
  apply SW.drawH [(0, [], [69, 70, 71, 72, 73, 74, 75], false), (1, [(65, 0)], [65, 69, 70, 71, 72, 73, 74, 75], false), (2, [(65, 0), (66, 1)], [65, 66, 69, 70, 71, 72, 73, 74, 75], false), (3, [(65, 0), (66, 1), (67, 2)], [65, 66, 67, 69, 70, 71, 72, 73, 74, 75], false), (4, [], [65, 66, 67, 68, 70, 71, 72, 73, 74, 75], false), (5, [], [65, 66, 67, 68, 69], false), (6, [(70, 5)], [65, 66, 67, 68, 69, 70], false), (7, [(70, 5), (71, 6)], [65, 66, 67, 68, 69, 70, 71], false), (8, [(70, 5), (71, 6), (72, 7)], [65, 66, 67, 68, 69, 70, 71, 72], false), (9, [(70, 5), (71, 6), (72, 7), (73, 8)], [65, 66, 67, 68, 69, 70, 71, 72, 73], false), (10, [(70, 5), (71, 6), (72, 7), (73, 8), (74, 9)], [65, 66, 67, 68, 69, 70, 71, 72, 73, 74], false), (11, [(65, 0), (66, 1), (67, 2), (68, 3), (69, 4), (70, 5), (71, 6), (72, 7), (73, 8), (74, 9), (75, 10)], [65, 66, 67, 68, 69, 70, 71, 72, 73, 74, 75], false), (12, [(65, 0), (66, 1), (67, 2), (68, 3), (69, 4), (70, 5), (71, 6), (72, 7), (73, 8), (74, 9), (75, 10), (76, 11)], [65, 66, 67, 68, 69, 70, 71, 72, 73, 74, 75, 76], true)]
    [(65, 0), (66, 1), (67, 2), (68, 3), (69, 4), (70, 5), (71, 6), (72, 7), (73, 8), (74, 9), (75, 10), (76, 11)] []
    [(6, _), (7, _), (8, _), (9, _), (33, _), (34, _), (35, _)] rfl (by kernel_rfl)
  case hF => exact ⟨rfl, rfl, rfl, rfl, rfl, rfl, rfl, trivial⟩
  (try (conv => whnf)); (repeat ((fail_if_success (with_reducible refine And.intro ?_ ?_)); (fail_if_success (with_reducible refine Exists.intro ?_ ?_)); (first | (apply Ob.of; (first | with_reducible assumption | with_reducible exact ex20 _ _ | with_reducible exact ex21 _ _ | with_reducible exact ex30 _ _ _ | with_reducible exact ex31 _ _ _ | with_reducible exact ex32 _ _ _ | rfl | (exact ald rfl rfl (by assumption) rfl) | (exact ald_agg rfl rfl rfl (by assumption) rfl)); (conv => whnf)) | (apply bIf.yes; (first | assumption | rfl); (conv => whnf)) | (apply bIf.no; (first | assumption | rfl); (conv => whnf)) | ((with_reducible refine Ob.load (by with_unfolding_all assumption) ?_); (conv => whnf)) | (apply Grows.mk; (first | exact Grow.refl _ | assumption); (conv => whnf)))))
  refine Ob.storeI hoI (by have := hrl.1; simp; omega) fun X9 o9 k9' l9' => ?_
  have hset : ((runL K.p.2.1 K.c L n).places ++ [(-1 : Int)]).set n ((runL K.p.2.1 K.c L n).ops.length : Int) = (runL K.p.2.1 K.c L n).places ++ [((runL K.p.2.1 K.c L n).ops.length : Int)] := by
    have := set_last (runL K.p.2.1 K.c L n).places (-1 : Int) ((runL K.p.2.1 K.c L n).ops.length : Int)
    rwa [hrl.1] at this
  rw [hset] at o9
  have ne9 : ∀ (b : Nat) (Y : Blk), X8[b]? = some Y → NotRow 3 Y → b ≠ X4.length := by
    rintro b Y hY hN rfl
    rw [hoI] at hY
    simp only [Option.some.injEq] at hY
    exact hN _ hY.symm
  have l4X : K.l < X4.length := hR4.top
  have hR9 : LR K X9 { runL K.p.2.1 K.c L n with places := (runL K.p.2.1 K.c L n).places ++ [((runL K.p.2.1 K.c L n).ops.length : Int)] } (n : Int) d cv ov (.slice (some ⟨X4.length, 0, none⟩) ((runL K.p.2.1 K.c L n).places.length + 1) 1) mp X4.length := by
    refine ⟨k9'.at hR8.blk (by omega), hR8.l0, hR8.con.keep (fun b c' _ hc' => k9'.at hc' (ne9 _ _ hc' (notRow_row (by decide)))) fun _ _ _ h => h, hR8.con0, hR8.ops.keep (fun b c' _ hc' => k9'.at hc' (ne9 _ _ hc' (notRow_row (by decide)))) (fun _ _ _ h => h.keep fun q' c' hq' hne => k9'.at hq' hne), hR8.ops0, ?_, hR8.pla0, k9'.at hR8.map (ne9 _ _ hR8.map fun c' h => by simp at h), hR8.map0, hR8.nodup, hR8.few, by have := hR8.top; have := k9'.1; omega⟩
    have := OwnR.ofI o9
    rw [show ((runL K.p.2.1 K.c L n).places ++ [((runL K.p.2.1 K.c L n).ops.length : Int)]).length = (runL K.p.2.1 K.c L n).places.length + 1 by simp] at this
    exact this
  have q9X : q9 < X4.length := lt_at (e4.at s9)
  have c9 := hblk_of (k9'.at (k8.at (k7.at s9' q9l) q9l) (by omega))
  have hoq9 : OwnI X9 qd L := k9'.at (k8.at (k7.at hoq6 hql) hql) (by omega)
  have gX9 : Grow H X9 := ((gX6.but_new k7 (by have := hR.l0; omega)).but_new k8 (by have := hR.l0; omega)).but_new k9' (by have := gX.1; have := e13.1; have := e4.1; omega)
  have hfi := hcl.fine n d x hd (by omega) hx
  have hins := hr.2.1 n x hnl hx
  have hdeep := ha.2.2.2.1
  (try (conv => whnf)); (repeat ((fail_if_success (with_reducible refine And.intro ?_ ?_)); (fail_if_success (with_reducible refine Exists.intro ?_ ?_)); (first | (apply Ob.of; (first | with_reducible assumption | with_reducible exact ex20 _ _ | with_reducible exact ex21 _ _ | with_reducible exact ex30 _ _ _ | with_reducible exact ex31 _ _ _ | with_reducible exact ex32 _ _ _ | rfl | (exact ald rfl rfl (by assumption) rfl) | (exact ald_agg rfl rfl rfl (by assumption) rfl)); (conv => whnf)) | (apply bIf.yes; (first | assumption | rfl); (conv => whnf)) | (apply bIf.no; (first | assumption | rfl); (conv => whnf)) | ((with_reducible refine Ob.load (by with_unfolding_all assumption) ?_); (conv => whnf)) | (apply Grows.mk; (first | exact Grow.refl _ | assumption); (conv => whnf)))))
  refine (linstr_ax hR9 ⟨by omega, by omega⟩ ⟨by omega, by omega⟩ x.1 x.2.1 x.2.2 (by have := hrl.2.1; show (runL K.p.2.1 K.c L n).ops.length ≤ _; omega) (by have := hrl.2.2; show (runL K.p.2.1 K.c L n).consts.length ≤ _; omega) (by have := k6.1; have := k7.1; have := k8.1; have := k9'.1; omega) (by have := hR9.top; have := hR9.l0; omega) (by rw [hpsK]; exact strR.grow hp gX9) hins.1 hfi.1).mono ?_
  rintro _ X10 ⟨⟨cv', ov', hR10⟩, f10⟩
  (try (conv => whnf)); (repeat ((fail_if_success (with_reducible refine And.intro ?_ ?_)); (fail_if_success (with_reducible refine Exists.intro ?_ ?_)); (first | (apply Ob.of; (first | with_reducible assumption | with_reducible exact ex20 _ _ | with_reducible exact ex21 _ _ | with_reducible exact ex30 _ _ _ | with_reducible exact ex31 _ _ _ | with_reducible exact ex32 _ _ _ | rfl | (exact ald rfl rfl (by assumption) rfl) | (exact ald_agg rfl rfl rfl (by assumption) rfl)); (conv => whnf)) | (apply bIf.yes; (first | assumption | rfl); (conv => whnf)) | (apply bIf.no; (first | assumption | rfl); (conv => whnf)) | ((with_reducible refine Ob.load (by with_unfolding_all assumption) ?_); (conv => whnf)) | (apply Grows.mk; (first | exact Grow.refl _ | assumption); (conv => whnf)))))
  refine ⟨n + 1, ⟨rfl, rfl, rfl, rfl, congrArg (fun z => some (Value.int .i64 z)) wn, trivial⟩, ⟨hnl, cv', ov', .slice (some ⟨X4.length, 0, none⟩) ((runL K.p.2.1 K.c L n).places.length + 1) 1, mp, X4.length, (n : Int), d, ?_, f10.grow gX9 h0, f10.own hoq9 hql, by omega, by have := k6.1; have := k7.1; have := k8.1; have := k9'.1; have := f10.1; omega⟩, by show K.c.ins.length - (n + 1) < K.c.ins.length - n; omega⟩
  have : runL K.p.2.1 K.c L (n + 1) = instrL K.p.2.1 x { runL K.p.2.1 K.c L n with places := (runL K.p.2.1 K.c L n).places ++ [((runL K.p.2.1 K.c L n).ops.length : Int)] } K.c.2.1 (n : Int) d := by rw [hrp]; unfold stepL; rw [if_neg hd0]
  show LR K X10 (runL K.p.2.1 K.c L (n + 1)) _ _ _ _ _ _ _
  rw [this]
  exact hR10
end Go.Proofs.Ytdlanbfbbopfhaa
/- Package lift: Lift and Places, whole. -/
set_option linter.unusedVariables false
set_option linter.unusedSimpArgs false
set_option maxRecDepth 20000
set_option maxHeartbeats 8000000
namespace Go.Proofs.Ytdlanbfbbopfhaa
open Go Ax
def Fit (p : ProgT) (f : Int) : Prop := 0 ≤ f ∧ f < p.2.2.length ∧ CheckP p
theorem fits_ax {H : Heap} {p : ProgT} {ps cs : Value} (hp : RL 1 strR H ps p.2.1) (hcs : RL 5 codeR H cs p.2.2) (hL : p.2.1.length < 4294967296) (f : Int) :
    AX Try.prog 17 #[progV p ps cs, .int .i64 f] H (fun v H' => (∃ b, v = .bool b ∧ (b = true ↔ Fit p f)) ∧ H' = H) := by
  refine AX.quiet ?_
  suffices hh : AX Try.prog 17 #[progV p ps cs, .int .i64 f] H (fun v H' => (∃ b, v = .bool b ∧ (b = true ↔ Fit p f)) ∧ Grow H H') from hh.mono fun v _ ⟨⟨b, e, k⟩, g⟩ => ⟨e ▸ plain_bool _, ⟨b, e, k⟩, g⟩
  refine AX.body (n := 19) (rs := [.tmp 4]) Try.func17 rfl (by decide) rfl rfl (bC_sound _ _ _ _ ?_)
  (conv => whnf)
  refine Ob2.box rfl fun q1 H1 hq1 a1 g1 => ?_
  have b1 := hblk_of a1
  have l2 : alen Try.prog 23 cs H1 = some (.int .i64 p.2.2.length) := hcs.len rfl _
  by_cases h0 : 0 ≤ f
  · have d0 : decide (f ≥ 0) = true := decide_eq_true h0
    by_cases h1 : f < p.2.2.length
    · have d1 : decide (f < (p.2.2.length : Int)) = true := decide_eq_true h1
      (try (conv => whnf)); (repeat ((fail_if_success (with_reducible refine And.intro ?_ ?_)); (fail_if_success (with_reducible refine Exists.intro ?_ ?_)); (first | (apply Ob.of; (first | with_reducible assumption | with_reducible exact ex20 _ _ | with_reducible exact ex21 _ _ | with_reducible exact ex30 _ _ _ | with_reducible exact ex31 _ _ _ | with_reducible exact ex32 _ _ _ | rfl | (exact ald rfl rfl (by assumption) rfl) | (exact ald_agg rfl rfl rfl (by assumption) rfl)); (conv => whnf)) | (apply bIf.yes; (first | assumption | rfl); (conv => whnf)) | (apply bIf.no; (first | assumption | rfl); (conv => whnf)) | ((with_reducible refine Ob.load (by with_unfolding_all assumption) ?_); (conv => whnf)) | (apply Grows.mk; (first | exact Grow.refl _ | assumption); (conv => whnf)))))
      refine (check_ax (strR.grow hp g1) (codeR.grow hcs g1) hL).mono ?_
      rintro v X ⟨hv, e⟩
      subst X
      rcases hv with ⟨rfl, hv⟩ | ⟨rfl, hv⟩
      · (try (conv => whnf)); (repeat ((fail_if_success (with_reducible refine And.intro ?_ ?_)); (fail_if_success (with_reducible refine Exists.intro ?_ ?_)); (first | (apply Ob.of; (first | with_reducible assumption | with_reducible exact ex20 _ _ | with_reducible exact ex21 _ _ | with_reducible exact ex30 _ _ _ | with_reducible exact ex31 _ _ _ | with_reducible exact ex32 _ _ _ | rfl | (exact ald rfl rfl (by assumption) rfl) | (exact ald_agg rfl rfl rfl (by assumption) rfl)); (conv => whnf)) | (apply bIf.yes; (first | assumption | rfl); (conv => whnf)) | (apply bIf.no; (first | assumption | rfl); (conv => whnf)) | ((with_reducible refine Ob.load (by with_unfolding_all assumption) ?_); (conv => whnf)) | (apply Grows.mk; (first | exact Grow.refl _ | assumption); (conv => whnf)))))
        exact ⟨⟨true, rfl, fun _ => ⟨h0, h1, hv⟩, fun _ => rfl⟩, g1⟩
      · (try (conv => whnf)); (repeat ((fail_if_success (with_reducible refine And.intro ?_ ?_)); (fail_if_success (with_reducible refine Exists.intro ?_ ?_)); (first | (apply Ob.of; (first | with_reducible assumption | with_reducible exact ex20 _ _ | with_reducible exact ex21 _ _ | with_reducible exact ex30 _ _ _ | with_reducible exact ex31 _ _ _ | with_reducible exact ex32 _ _ _ | rfl | (exact ald rfl rfl (by assumption) rfl) | (exact ald_agg rfl rfl rfl (by assumption) rfl)); (conv => whnf)) | (apply bIf.yes; (first | assumption | rfl); (conv => whnf)) | (apply bIf.no; (first | assumption | rfl); (conv => whnf)) | ((with_reducible refine Ob.load (by with_unfolding_all assumption) ?_); (conv => whnf)) | (apply Grows.mk; (first | exact Grow.refl _ | assumption); (conv => whnf)))))
        exact ⟨⟨false, rfl, fun h => by simp at h, fun h => absurd h.2.2 hv⟩, g1⟩
    · have d1 : decide (f < (p.2.2.length : Int)) = false := decide_eq_false h1
      (try (conv => whnf)); (repeat ((fail_if_success (with_reducible refine And.intro ?_ ?_)); (fail_if_success (with_reducible refine Exists.intro ?_ ?_)); (first | (apply Ob.of; (first | with_reducible assumption | with_reducible exact ex20 _ _ | with_reducible exact ex21 _ _ | with_reducible exact ex30 _ _ _ | with_reducible exact ex31 _ _ _ | with_reducible exact ex32 _ _ _ | rfl | (exact ald rfl rfl (by assumption) rfl) | (exact ald_agg rfl rfl rfl (by assumption) rfl)); (conv => whnf)) | (apply bIf.yes; (first | assumption | rfl); (conv => whnf)) | (apply bIf.no; (first | assumption | rfl); (conv => whnf)) | ((with_reducible refine Ob.load (by with_unfolding_all assumption) ?_); (conv => whnf)) | (apply Grows.mk; (first | exact Grow.refl _ | assumption); (conv => whnf)))))
      exact ⟨⟨false, rfl, fun h => by simp at h, fun h => absurd h.2.1 h1⟩, g1⟩
  · have d0 : decide (f ≥ 0) = false := decide_eq_false h0
    (try (conv => whnf)); (repeat ((fail_if_success (with_reducible refine And.intro ?_ ?_)); (fail_if_success (with_reducible refine Exists.intro ?_ ?_)); (first | (apply Ob.of; (first | with_reducible assumption | with_reducible exact ex20 _ _ | with_reducible exact ex21 _ _ | with_reducible exact ex30 _ _ _ | with_reducible exact ex31 _ _ _ | with_reducible exact ex32 _ _ _ | rfl | (exact ald rfl rfl (by assumption) rfl) | (exact ald_agg rfl rfl rfl (by assumption) rfl)); (conv => whnf)) | (apply bIf.yes; (first | assumption | rfl); (conv => whnf)) | (apply bIf.no; (first | assumption | rfl); (conv => whnf)) | ((with_reducible refine Ob.load (by with_unfolding_all assumption) ?_); (conv => whnf)) | (apply Grows.mk; (first | exact Grow.refl _ | assumption); (conv => whnf)))))
    exact ⟨⟨false, rfl, fun h => by simp at h, fun h => absurd h.1 h0⟩, g1⟩
/-- A body of operations. -/
def BodyR (H : Heap) (v : Value) (F R : Int) (s : LS) : Prop :=
  ∃ cv ov pb, v = .agg #[.int .i64 F, .int .i64 R, cv, ov, .slice none 0 0] ∧ RL 3 valR H cv s.consts ∧ RL 9 (opR pb) H ov s.ops
/-- What comes of a code, or the error. -/
def LiftS (p : ProgT) (f F R : Int) (s : LS) (e : Int) : Prop :=
  (∃ c L, Fit p f ∧ p.2.2[f.toNat]? = some c ∧ Closed c L ∧ F = f ∧ R = c.2.1 + c.2.2.2.1 ∧ s = bodyL p.2.1 c L ∧ e = 0) ∨ (¬ Fit p f ∧ F = 0 ∧ R = 0 ∧ s = ⟨[], [], []⟩ ∧ e = 16)
theorem LiftS.uniq {p : ProgT} {f F R F' R' : Int} {s s' : LS} {e e' : Int} (h : LiftS p f F R s e) (k : LiftS p f F' R' s' e') : F = F' ∧ R = R' ∧ s = s' ∧ e = e' := by
  rcases h with ⟨c, L, h1, h2, h3, rfl, rfl, rfl, rfl⟩ | ⟨h1, rfl, rfl, rfl, rfl⟩
  · rcases k with ⟨c', L', k1, k2, k3, rfl, rfl, rfl, rfl⟩ | ⟨k1, _⟩
    · rw [h2] at k2
      simp only [Option.some.injEq] at k2
      subst k2
      rw [h3.uniq k3]
      exact ⟨rfl, rfl, rfl, rfl⟩
    · exact absurd h1 k1
  · rcases k with ⟨c', L', k1, _⟩ | ⟨k1, rfl, rfl, rfl, rfl⟩
    · exact absurd k1 h1
    · exact ⟨rfl, rfl, rfl, rfl⟩
theorem Lift_ax {H : Heap} {p : ProgT} {ps cs : Value} (hp : RL 1 strR H ps p.2.1) (hcs : RL 5 codeR H cs p.2.2) (hL : p.2.1.length < 4294967296) (f : Int) :
    AX Try.prog 9 #[progV p ps cs, .int .i64 f] H (fun v H' => (∃ bv F R s e, v = .tuple #[bv, .int .i64 e] ∧ BodyR H' bv F R s ∧ LiftS p f F R s e) ∧ Grow H H') := by
  refine AX.body (n := 17) (rs := [.cell 4 32, .tmp 5]) Try.func9 rfl (by decide) rfl rfl (bC_sound _ _ _ _ ?_)
  (conv => whnf)
  refine Ob2.box rfl fun q1 H1 hq1 a1 g1 => ?_
  (conv => whnf)
  refine Ob2.alloc rfl fun q2 H2 hq2 a2 g2 => ?_
  have b1 := hblk_of (g2.at a1)
  have g12 := g1.trans g2
  (try (conv => whnf)); (repeat ((fail_if_success (with_reducible refine And.intro ?_ ?_)); (fail_if_success (with_reducible refine Exists.intro ?_ ?_)); (first | (apply Ob.of; (first | with_reducible assumption | with_reducible exact ex20 _ _ | with_reducible exact ex21 _ _ | with_reducible exact ex30 _ _ _ | with_reducible exact ex31 _ _ _ | with_reducible exact ex32 _ _ _ | rfl | (exact ald rfl rfl (by assumption) rfl) | (exact ald_agg rfl rfl rfl (by assumption) rfl)); (conv => whnf)) | (apply bIf.yes; (first | assumption | rfl); (conv => whnf)) | (apply bIf.no; (first | assumption | rfl); (conv => whnf)) | ((with_reducible refine Ob.load (by with_unfolding_all assumption) ?_); (conv => whnf)) | (apply Grows.mk; (first | exact Grow.refl _ | assumption); (conv => whnf)))))
  refine (fits_ax (strR.grow hp g12) (codeR.grow hcs g12) hL f).mono ?_
  rintro _ X ⟨⟨b, rfl, hb⟩, e⟩
  subst X
  cases b with
  | false =>
    have hnf : ¬ Fit p f := fun h => by have := hb.2 h; simp at this
    (try (conv => whnf)); (repeat ((fail_if_success (with_reducible refine And.intro ?_ ?_)); (fail_if_success (with_reducible refine Exists.intro ?_ ?_)); (first | (apply Ob.of; (first | with_reducible assumption | with_reducible exact ex20 _ _ | with_reducible exact ex21 _ _ | with_reducible exact ex30 _ _ _ | with_reducible exact ex31 _ _ _ | with_reducible exact ex32 _ _ _ | rfl | (exact ald rfl rfl (by assumption) rfl) | (exact ald_agg rfl rfl rfl (by assumption) rfl)); (conv => whnf)) | (apply bIf.yes; (first | assumption | rfl); (conv => whnf)) | (apply bIf.no; (first | assumption | rfl); (conv => whnf)) | ((with_reducible refine Ob.load (by with_unfolding_all assumption) ?_); (conv => whnf)) | (apply Grows.mk; (first | exact Grow.refl _ | assumption); (conv => whnf)))))
    refine Ob.store rfl rfl rfl a2 rfl (by first | exact Nat.le_of_ble_eq_true rfl | simp) fun H3 s3 k3 l3 => ?_
    have b3 := hblk_of s3
    (try (conv => whnf)); (repeat ((fail_if_success (with_reducible refine And.intro ?_ ?_)); (fail_if_success (with_reducible refine Exists.intro ?_ ?_)); (first | (apply Ob.of; (first | with_reducible assumption | with_reducible exact ex20 _ _ | with_reducible exact ex21 _ _ | with_reducible exact ex30 _ _ _ | with_reducible exact ex31 _ _ _ | with_reducible exact ex32 _ _ _ | rfl | (exact ald rfl rfl (by assumption) rfl) | (exact ald_agg rfl rfl rfl (by assumption) rfl)); (conv => whnf)) | (apply bIf.yes; (first | assumption | rfl); (conv => whnf)) | (apply bIf.no; (first | assumption | rfl); (conv => whnf)) | ((with_reducible refine Ob.load (by with_unfolding_all assumption) ?_); (conv => whnf)) | (apply Grows.mk; (first | exact Grow.refl _ | assumption); (conv => whnf)))))
    refine ⟨⟨_, 0, 0, ⟨[], [], []⟩, 16, rfl, ⟨.slice none 0 0, .slice none 0 0, 0, rfl, .inl ⟨rfl, rfl⟩, .inl ⟨rfl, rfl⟩⟩, .inr ⟨hnf, rfl, rfl, rfl, rfl⟩⟩, g1.trans (g2.but_new k3 (by omega))⟩
  | true =>
    have hf := hb.1 rfl
    obtain ⟨i, rfl⟩ : ∃ i : Nat, f = (i : Int) := ⟨f.toNat, by have := hf.1; omega⟩
    obtain ⟨c, hc⟩ := get_lt (L := p.2.2) (m := i) (by have := hf.2.1; omega)
    have hlim := (hf.2.2.2.2.2.2.2.2 i c hc).1
    unfold Lim at hlim
    (try (conv => whnf)); (repeat ((fail_if_success (with_reducible refine And.intro ?_ ?_)); (fail_if_success (with_reducible refine Exists.intro ?_ ?_)); (first | (apply Ob.of; (first | with_reducible assumption | with_reducible exact ex20 _ _ | with_reducible exact ex21 _ _ | with_reducible exact ex30 _ _ _ | with_reducible exact ex31 _ _ _ | with_reducible exact ex32 _ _ _ | rfl | (exact ald rfl rfl (by assumption) rfl) | (exact ald_agg rfl rfl rfl (by assumption) rfl)); (conv => whnf)) | (apply bIf.yes; (first | assumption | rfl); (conv => whnf)) | (apply bIf.no; (first | assumption | rfl); (conv => whnf)) | ((with_reducible refine Ob.load (by with_unfolding_all assumption) ?_); (conv => whnf)) | (apply Grows.mk; (first | exact Grow.refl _ | assumption); (conv => whnf)))))
    refine (lifted_ax (strR.grow hp g12) (codeR.grow hcs g12) hc hf.2.2).mono ?_
    rintro _ H3 ⟨⟨K, L, at_, d, cv, ov, pv, mp, pb, hKp, hKc, hKf, hcl, rfl, hR⟩, g3⟩
    have bl := hblk_of hR.blk
    have a3 := g3.at a2
    obtain ⟨c1, c2, c3, rfl⟩ := hR.con.form
    obtain ⟨o1, o2, o3, rfl⟩ := hR.ops.form
    (try (conv => whnf)); (repeat ((fail_if_success (with_reducible refine And.intro ?_ ?_)); (fail_if_success (with_reducible refine Exists.intro ?_ ?_)); (first | (apply Ob.of; (first | with_reducible assumption | with_reducible exact ex20 _ _ | with_reducible exact ex21 _ _ | with_reducible exact ex30 _ _ _ | with_reducible exact ex31 _ _ _ | with_reducible exact ex32 _ _ _ | rfl | (exact ald rfl rfl (by assumption) rfl) | (exact ald_agg rfl rfl rfl (by assumption) rfl)); (conv => whnf)) | (apply bIf.yes; (first | assumption | rfl); (conv => whnf)) | (apply bIf.no; (first | assumption | rfl); (conv => whnf)) | ((with_reducible refine Ob.load (by with_unfolding_all assumption) ?_); (conv => whnf)) | (apply Grows.mk; (first | exact Grow.refl _ | assumption); (conv => whnf)))))
    refine Ob.store rfl rfl rfl a3 rfl (by first | exact Nat.le_of_ble_eq_true rfl | simp) fun H4 s4 k4 l4 => ?_
    have b4 := hblk_of s4
    have ne4 : ∀ (q : Nat) (Y : Blk), H3[q]? = some Y → NotRow 3 Y ∨ True → (∀ cc, Y ≠ .cells .var cc) → q ≠ q2 := by
      rintro q Y hY _ hN rfl
      rw [a3] at hY
      simp only [Option.some.injEq] at hY
      exact hN _ hY.symm
    have kp4 := Kp.var a3 k4
    (try (conv => whnf)); (repeat ((fail_if_success (with_reducible refine And.intro ?_ ?_)); (fail_if_success (with_reducible refine Exists.intro ?_ ?_)); (first | (apply Ob.of; (first | with_reducible assumption | with_reducible exact ex20 _ _ | with_reducible exact ex21 _ _ | with_reducible exact ex30 _ _ _ | with_reducible exact ex31 _ _ _ | with_reducible exact ex32 _ _ _ | rfl | (exact ald rfl rfl (by assumption) rfl) | (exact ald_agg rfl rfl rfl (by assumption) rfl)); (conv => whnf)) | (apply bIf.yes; (first | assumption | rfl); (conv => whnf)) | (apply bIf.no; (first | assumption | rfl); (conv => whnf)) | ((with_reducible refine Ob.load (by with_unfolding_all assumption) ?_); (conv => whnf)) | (apply Grows.mk; (first | exact Grow.refl _ | assumption); (conv => whnf)))))
    have hw : IntKind.i64.wrap (K.c.2.1 + K.c.2.2.2.1) = c.2.1 + c.2.2.2.1 := by rw [hKc, wrap_i64 (by omega) (by omega)]
    refine ⟨⟨_, (i : Int), c.2.1 + c.2.2.2.1, bodyL p.2.1 c L, 0, rfl, ⟨_, _, pb, ?_, (kp4.own (fun _ => ok_var) (fun _ _ h => h) hR.con).rl, (kp4.own (fun _ => ok_var) (fun _ _ h => h.keep (kp4.int (fun _ => ok_var) _)) hR.ops).rl⟩, .inl ⟨c, L, hf, by rw [Int.toNat_natCast]; exact hc, hcl, rfl, rfl, rfl, rfl⟩⟩, (g12.trans g3).but_new k4 (by have := g1.1; omega)⟩
    rw [← hw, ← hKf]
    rfl
end Go.Proofs.Ytdlanbfbbopfhaa
/- Package lift: Places; the statements' own small functions. -/
set_option linter.unusedVariables false
set_option linter.unusedSimpArgs false
set_option maxRecDepth 20000
set_option maxHeartbeats 8000000
namespace Go.Proofs.Ytdlanbfbbopfhaa
open Go Ax
theorem Places_ax {H : Heap} {p : ProgT} {ps cs : Value} (hp : RL 1 strR H ps p.2.1) (hcs : RL 5 codeR H cs p.2.2) (hL : p.2.1.length < 4294967296) (f : Int) :
    AX Try.prog 15 #[progV p ps cs, .int .i64 f] H (fun v H' => (∃ F R s e, RL 1 intR H' v s.places ∧ LiftS p f F R s e) ∧ Grow H H') := by
  refine AX.body (n := 15) (rs := [.tmp 4]) Try.func15 rfl (by decide) rfl rfl (bC_sound _ _ _ _ ?_)
  (conv => whnf)
  refine Ob2.box rfl fun q1 H1 hq1 a1 g1 => ?_
  have b1 := hblk_of a1
  (try (conv => whnf)); (repeat ((fail_if_success (with_reducible refine And.intro ?_ ?_)); (fail_if_success (with_reducible refine Exists.intro ?_ ?_)); (first | (apply Ob.of; (first | with_reducible assumption | with_reducible exact ex20 _ _ | with_reducible exact ex21 _ _ | with_reducible exact ex30 _ _ _ | with_reducible exact ex31 _ _ _ | with_reducible exact ex32 _ _ _ | rfl | (exact ald rfl rfl (by assumption) rfl) | (exact ald_agg rfl rfl rfl (by assumption) rfl)); (conv => whnf)) | (apply bIf.yes; (first | assumption | rfl); (conv => whnf)) | (apply bIf.no; (first | assumption | rfl); (conv => whnf)) | ((with_reducible refine Ob.load (by with_unfolding_all assumption) ?_); (conv => whnf)) | (apply Grows.mk; (first | exact Grow.refl _ | assumption); (conv => whnf)))))
  refine (fits_ax (strR.grow hp g1) (codeR.grow hcs g1) hL f).mono ?_
  rintro _ X ⟨⟨b, rfl, hb⟩, e⟩
  subst X
  cases b with
  | false =>
    have hnf : ¬ Fit p f := fun h => by have := hb.2 h; simp at this
    (try (conv => whnf)); (repeat ((fail_if_success (with_reducible refine And.intro ?_ ?_)); (fail_if_success (with_reducible refine Exists.intro ?_ ?_)); (first | (apply Ob.of; (first | with_reducible assumption | with_reducible exact ex20 _ _ | with_reducible exact ex21 _ _ | with_reducible exact ex30 _ _ _ | with_reducible exact ex31 _ _ _ | with_reducible exact ex32 _ _ _ | rfl | (exact ald rfl rfl (by assumption) rfl) | (exact ald_agg rfl rfl rfl (by assumption) rfl)); (conv => whnf)) | (apply bIf.yes; (first | assumption | rfl); (conv => whnf)) | (apply bIf.no; (first | assumption | rfl); (conv => whnf)) | ((with_reducible refine Ob.load (by with_unfolding_all assumption) ?_); (conv => whnf)) | (apply Grows.mk; (first | exact Grow.refl _ | assumption); (conv => whnf)))))
    exact ⟨⟨0, 0, ⟨[], [], []⟩, 16, .inl ⟨rfl, rfl⟩, .inr ⟨hnf, rfl, rfl, rfl, rfl⟩⟩, g1⟩
  | true =>
    have hf := hb.1 rfl
    obtain ⟨i, rfl⟩ : ∃ i : Nat, f = (i : Int) := ⟨f.toNat, by have := hf.1; omega⟩
    obtain ⟨c, hc⟩ := get_lt (L := p.2.2) (m := i) (by have := hf.2.1; omega)
    (try (conv => whnf)); (repeat ((fail_if_success (with_reducible refine And.intro ?_ ?_)); (fail_if_success (with_reducible refine Exists.intro ?_ ?_)); (first | (apply Ob.of; (first | with_reducible assumption | with_reducible exact ex20 _ _ | with_reducible exact ex21 _ _ | with_reducible exact ex30 _ _ _ | with_reducible exact ex31 _ _ _ | with_reducible exact ex32 _ _ _ | rfl | (exact ald rfl rfl (by assumption) rfl) | (exact ald_agg rfl rfl rfl (by assumption) rfl)); (conv => whnf)) | (apply bIf.yes; (first | assumption | rfl); (conv => whnf)) | (apply bIf.no; (first | assumption | rfl); (conv => whnf)) | ((with_reducible refine Ob.load (by with_unfolding_all assumption) ?_); (conv => whnf)) | (apply Grows.mk; (first | exact Grow.refl _ | assumption); (conv => whnf)))))
    refine (lifted_ax (strR.grow hp g1) (codeR.grow hcs g1) hc hf.2.2).mono ?_
    rintro _ H3 ⟨⟨K, L, at_, d, cv, ov, pv, mp, pb, hKp, hKc, hKf, hcl, rfl, hR⟩, g3⟩
    have bl := hblk_of hR.blk
    obtain ⟨c1, c2, c3, rfl⟩ := hR.pla.form
    (try (conv => whnf)); (repeat ((fail_if_success (with_reducible refine And.intro ?_ ?_)); (fail_if_success (with_reducible refine Exists.intro ?_ ?_)); (first | (apply Ob.of; (first | with_reducible assumption | with_reducible exact ex20 _ _ | with_reducible exact ex21 _ _ | with_reducible exact ex30 _ _ _ | with_reducible exact ex31 _ _ _ | with_reducible exact ex32 _ _ _ | rfl | (exact ald rfl rfl (by assumption) rfl) | (exact ald_agg rfl rfl rfl (by assumption) rfl)); (conv => whnf)) | (apply bIf.yes; (first | assumption | rfl); (conv => whnf)) | (apply bIf.no; (first | assumption | rfl); (conv => whnf)) | ((with_reducible refine Ob.load (by with_unfolding_all assumption) ?_); (conv => whnf)) | (apply Grows.mk; (first | exact Grow.refl _ | assumption); (conv => whnf)))))
    exact ⟨⟨(i : Int), c.2.1 + c.2.2.2.1, bodyL p.2.1 c L, 0, hR.pla.rl, .inl ⟨c, L, hf, by rw [Int.toNat_natCast]; exact hc, hcl, rfl, rfl, rfl, rfl⟩⟩, g1.trans g3⟩
/-- Two lists of numbers compared: the statements' own function. -/
theorem numbersL_ax {H : Heap} {u v : Value} {L M : List Int} (hu : RL 1 intR H u L) (hv : RL 1 intR H v M) (hL : L.length < 4294967296) :
    AX Try.prog 14 #[u, v] H (fun r H' => r = .bool (decide (L = M)) ∧ H' = H) := by
  refine AX.body (n := 26) (rs := [.tmp 4]) Try.func14 rfl (by decide) rfl rfl (bC_sound _ _ _ _ ?_)
  have l1 : alen Try.prog 36 u H = some (.int .i64 L.length) := hu.len rfl _
  have l2 : alen Try.prog 36 v H = some (.int .i64 M.length) := hv.len rfl _
  (try (conv => whnf)); (repeat' ((fail_if_success (with_reducible refine And.intro ?_ ?_)); (fail_if_success (with_reducible refine Exists.intro ?_ ?_)); (first | (first | (apply Ob.of; (first | with_reducible assumption | with_reducible exact ex20 _ _ | with_reducible exact ex21 _ _ | with_reducible exact ex30 _ _ _ | with_reducible exact ex31 _ _ _ | with_reducible exact ex32 _ _ _ | rfl | (exact ald rfl rfl (by assumption) rfl) | (exact ald_agg rfl rfl rfl (by assumption) rfl)); (conv => whnf)) | (apply bIf.yes; (first | assumption | rfl); (conv => whnf)) | (apply bIf.no; (first | assumption | rfl); (conv => whnf)) | ((with_reducible refine Ob.load (by with_unfolding_all assumption) ?_); (conv => whnf)) | (apply Grows.mk; (first | exact Grow.refl _ | assumption); (conv => whnf))) | (apply bIf.of <;> intro hc <;> (conv => whnf)))))
  · refine ⟨congrArg Value.bool (decide_eq_false fun h => ?_).symm, rfl⟩
    subst h
    simp at hc
  have hlen : L.length = M.length := by (simp only [ba_ne_t, ba_ne_f, ba_eq_t, ba_eq_f, bne_iff_ne, bne_eq_false_iff_eq, decide_eq_true_eq, decide_eq_false_iff_not, beq_iff_eq, beq_eq_false_iff_ne, ne_eq, Bool.not_eq_true, Bool.not_eq_false, Bool.not_eq_true', Bool.not_eq_false'] at *); omega
  clear hc
  refine SW.loop (α := Nat) (fun m => [(0, u), (1, v), (5, .int .i64 (m : Int))]) (fun m H' => m ≤ L.length ∧ L.take m = M.take m ∧ H' = H) (fun m => L.length - m) ⟨0, ⟨rfl, rfl, rfl, trivial⟩, by omega, rfl, rfl⟩ ?_
  rintro m X ⟨hm, ht, e⟩
  subst X
  refine bC_sound _ _ _ _ ?_
  by_cases hml : m < L.length
  · have d1 : decide ((m : Int) < (L.length : Int)) = true := decide_eq_true (by omega)
    obtain ⟨x, hx⟩ := get_lt hml
    obtain ⟨y, hy⟩ := get_lt (L := M) (m := m) (by omega)
    obtain ⟨p, i1, i2⟩ := ld_int hu hx
    obtain ⟨q, j1, j2⟩ := ld_int hv hy
    have i3 := i2 H (.refl _)
    have j3 := j2 H (.refl _)
    (try (conv => whnf)); (repeat ((fail_if_success (with_reducible refine And.intro ?_ ?_)); (fail_if_success (with_reducible refine Exists.intro ?_ ?_)); (first | (apply Ob.of; (first | with_reducible assumption | with_reducible exact ex20 _ _ | with_reducible exact ex21 _ _ | with_reducible exact ex30 _ _ _ | with_reducible exact ex31 _ _ _ | with_reducible exact ex32 _ _ _ | rfl | (exact ald rfl rfl (by assumption) rfl) | (exact ald_agg rfl rfl rfl (by assumption) rfl)); (conv => whnf)) | (apply bIf.yes; (first | assumption | rfl); (conv => whnf)) | (apply bIf.no; (first | assumption | rfl); (conv => whnf)) | ((with_reducible refine Ob.load (by with_unfolding_all assumption) ?_); (conv => whnf)) | (apply Grows.mk; (first | exact Grow.refl _ | assumption); (conv => whnf)))))
    apply SW.drawG [(0, [], [18, 21, 22, 23, 24], false), (1, [], [17, 21, 22, 23, 24], false), (2, [(17, 0), (18, 1)], [17, 18, 21, 22, 23, 24], false), (3, [(17, 0), (18, 1), (19, 2)], [17, 18, 19, 21, 22, 23, 24], false), (4, [], [17, 18, 19, 20, 22], false), (5, [], [17, 18, 19, 20, 21], false), (6, [(21, 4), (22, 5)], [17, 18, 19, 20, 21, 22], false), (7, [(21, 4), (22, 5), (23, 6)], [17, 18, 19, 20, 21, 22, 23], false), (8, [(17, 0), (18, 1), (19, 2), (20, 3), (21, 4), (22, 5), (23, 6), (24, 7)], [17, 18, 19, 20, 21, 22, 23, 24], false)]
      [(17, 0), (18, 1), (19, 2), (20, 3), (21, 4), (22, 5), (23, 6), (24, 7), (25, 8)]
      [(0, _), (1, _), (5, _)] rfl (by kernel_rfl)
    case hF => exact ⟨rfl, rfl, rfl, trivial⟩
    (try (conv => whnf)); (repeat' ((fail_if_success (with_reducible refine And.intro ?_ ?_)); (fail_if_success (with_reducible refine Exists.intro ?_ ?_)); (first | (first | (apply Ob.of; (first | with_reducible assumption | with_reducible exact ex20 _ _ | with_reducible exact ex21 _ _ | with_reducible exact ex30 _ _ _ | with_reducible exact ex31 _ _ _ | with_reducible exact ex32 _ _ _ | rfl | (exact ald rfl rfl (by assumption) rfl) | (exact ald_agg rfl rfl rfl (by assumption) rfl)); (conv => whnf)) | (apply bIf.yes; (first | assumption | rfl); (conv => whnf)) | (apply bIf.no; (first | assumption | rfl); (conv => whnf)) | ((with_reducible refine Ob.load (by with_unfolding_all assumption) ?_); (conv => whnf)) | (apply Grows.mk; (first | exact Grow.refl _ | assumption); (conv => whnf))) | (apply bIf.of <;> intro hc <;> (conv => whnf)))))
    · have hne : x ≠ y := by simpa using hc
      refine ⟨congrArg Value.bool (decide_eq_false fun h => hne ?_).symm, rfl⟩
      subst h
      rw [hx] at hy
      simpa using hy
    · have hxy : x = y := by simpa using hc
      subst hxy
      exact ⟨m + 1, ⟨rfl, rfl, congrArg (fun z => some (Value.int .i64 z)) (w_succ (by omega)), trivial⟩, ⟨hml, take_next ht hx hy, rfl⟩, by show L.length - (m + 1) < L.length - m; omega⟩
  · have d1 : decide ((m : Int) < (L.length : Int)) = false := decide_eq_false (by omega)
    have hLM : L = M := by rwa [List.take_of_length_le (by omega), List.take_of_length_le (by omega)] at ht
    rw [decide_eq_true hLM]
    (try (conv => whnf)); (repeat ((fail_if_success (with_reducible refine And.intro ?_ ?_)); (fail_if_success (with_reducible refine Exists.intro ?_ ?_)); (first | (apply Ob.of; (first | with_reducible assumption | with_reducible exact ex20 _ _ | with_reducible exact ex21 _ _ | with_reducible exact ex30 _ _ _ | with_reducible exact ex31 _ _ _ | with_reducible exact ex32 _ _ _ | rfl | (exact ald rfl rfl (by assumption) rfl) | (exact ald_agg rfl rfl rfl (by assumption) rfl)); (conv => whnf)) | (apply bIf.yes; (first | assumption | rfl); (conv => whnf)) | (apply bIf.no; (first | assumption | rfl); (conv => whnf)) | ((with_reducible refine Ob.load (by with_unfolding_all assumption) ?_); (conv => whnf)) | (apply Grows.mk; (first | exact Grow.refl _ | assumption); (conv => whnf)))))
    exact ⟨rfl, rfl⟩
theorem numbersR_ax {H : Heap} {u v : Value} {L M : List Int} (hu : RL 1 intR H u L) (hv : RL 1 intR H v M) (hL : L.length < 4294967296) :
    AX Try.prog 23 #[u, v] H (fun r H' => r = .bool (decide (L = M)) ∧ H' = H) := by
  refine AX.body (n := 26) (rs := [.tmp 4]) Try.func23 rfl (by decide) rfl rfl (bC_sound _ _ _ _ ?_)
  have l1 : alen Try.prog 36 u H = some (.int .i64 L.length) := hu.len rfl _
  have l2 : alen Try.prog 36 v H = some (.int .i64 M.length) := hv.len rfl _
  (try (conv => whnf)); (repeat' ((fail_if_success (with_reducible refine And.intro ?_ ?_)); (fail_if_success (with_reducible refine Exists.intro ?_ ?_)); (first | (first | (apply Ob.of; (first | with_reducible assumption | with_reducible exact ex20 _ _ | with_reducible exact ex21 _ _ | with_reducible exact ex30 _ _ _ | with_reducible exact ex31 _ _ _ | with_reducible exact ex32 _ _ _ | rfl | (exact ald rfl rfl (by assumption) rfl) | (exact ald_agg rfl rfl rfl (by assumption) rfl)); (conv => whnf)) | (apply bIf.yes; (first | assumption | rfl); (conv => whnf)) | (apply bIf.no; (first | assumption | rfl); (conv => whnf)) | ((with_reducible refine Ob.load (by with_unfolding_all assumption) ?_); (conv => whnf)) | (apply Grows.mk; (first | exact Grow.refl _ | assumption); (conv => whnf))) | (apply bIf.of <;> intro hc <;> (conv => whnf)))))
  · refine ⟨congrArg Value.bool (decide_eq_false fun h => ?_).symm, rfl⟩
    subst h
    simp at hc
  have hlen : L.length = M.length := by (simp only [ba_ne_t, ba_ne_f, ba_eq_t, ba_eq_f, bne_iff_ne, bne_eq_false_iff_eq, decide_eq_true_eq, decide_eq_false_iff_not, beq_iff_eq, beq_eq_false_iff_ne, ne_eq, Bool.not_eq_true, Bool.not_eq_false, Bool.not_eq_true', Bool.not_eq_false'] at *); omega
  clear hc
  refine SW.loop (α := Nat) (fun m => [(0, u), (1, v), (5, .int .i64 (m : Int))]) (fun m H' => m ≤ L.length ∧ L.take m = M.take m ∧ H' = H) (fun m => L.length - m) ⟨0, ⟨rfl, rfl, rfl, trivial⟩, by omega, rfl, rfl⟩ ?_
  rintro m X ⟨hm, ht, e⟩
  subst X
  refine bC_sound _ _ _ _ ?_
  by_cases hml : m < L.length
  · have d1 : decide ((m : Int) < (L.length : Int)) = true := decide_eq_true (by omega)
    obtain ⟨x, hx⟩ := get_lt hml
    obtain ⟨y, hy⟩ := get_lt (L := M) (m := m) (by omega)
    obtain ⟨p, i1, i2⟩ := ld_int hu hx
    obtain ⟨q, j1, j2⟩ := ld_int hv hy
    have i3 := i2 H (.refl _)
    have j3 := j2 H (.refl _)
    (try (conv => whnf)); (repeat ((fail_if_success (with_reducible refine And.intro ?_ ?_)); (fail_if_success (with_reducible refine Exists.intro ?_ ?_)); (first | (apply Ob.of; (first | with_reducible assumption | with_reducible exact ex20 _ _ | with_reducible exact ex21 _ _ | with_reducible exact ex30 _ _ _ | with_reducible exact ex31 _ _ _ | with_reducible exact ex32 _ _ _ | rfl | (exact ald rfl rfl (by assumption) rfl) | (exact ald_agg rfl rfl rfl (by assumption) rfl)); (conv => whnf)) | (apply bIf.yes; (first | assumption | rfl); (conv => whnf)) | (apply bIf.no; (first | assumption | rfl); (conv => whnf)) | ((with_reducible refine Ob.load (by with_unfolding_all assumption) ?_); (conv => whnf)) | (apply Grows.mk; (first | exact Grow.refl _ | assumption); (conv => whnf)))))
    apply SW.drawG [(0, [], [18, 21, 22, 23, 24], false), (1, [], [17, 21, 22, 23, 24], false), (2, [(17, 0), (18, 1)], [17, 18, 21, 22, 23, 24], false), (3, [(17, 0), (18, 1), (19, 2)], [17, 18, 19, 21, 22, 23, 24], false), (4, [], [17, 18, 19, 20, 22], false), (5, [], [17, 18, 19, 20, 21], false), (6, [(21, 4), (22, 5)], [17, 18, 19, 20, 21, 22], false), (7, [(21, 4), (22, 5), (23, 6)], [17, 18, 19, 20, 21, 22, 23], false), (8, [(17, 0), (18, 1), (19, 2), (20, 3), (21, 4), (22, 5), (23, 6), (24, 7)], [17, 18, 19, 20, 21, 22, 23, 24], false)]
      [(17, 0), (18, 1), (19, 2), (20, 3), (21, 4), (22, 5), (23, 6), (24, 7), (25, 8)]
      [(0, _), (1, _), (5, _)] rfl (by kernel_rfl)
    case hF => exact ⟨rfl, rfl, rfl, trivial⟩
    (try (conv => whnf)); (repeat' ((fail_if_success (with_reducible refine And.intro ?_ ?_)); (fail_if_success (with_reducible refine Exists.intro ?_ ?_)); (first | (first | (apply Ob.of; (first | with_reducible assumption | with_reducible exact ex20 _ _ | with_reducible exact ex21 _ _ | with_reducible exact ex30 _ _ _ | with_reducible exact ex31 _ _ _ | with_reducible exact ex32 _ _ _ | rfl | (exact ald rfl rfl (by assumption) rfl) | (exact ald_agg rfl rfl rfl (by assumption) rfl)); (conv => whnf)) | (apply bIf.yes; (first | assumption | rfl); (conv => whnf)) | (apply bIf.no; (first | assumption | rfl); (conv => whnf)) | ((with_reducible refine Ob.load (by with_unfolding_all assumption) ?_); (conv => whnf)) | (apply Grows.mk; (first | exact Grow.refl _ | assumption); (conv => whnf))) | (apply bIf.of <;> intro hc <;> (conv => whnf)))))
    · have hne : x ≠ y := by simpa using hc
      refine ⟨congrArg Value.bool (decide_eq_false fun h => hne ?_).symm, rfl⟩
      subst h
      rw [hx] at hy
      simpa using hy
    · have hxy : x = y := by simpa using hc
      subst hxy
      exact ⟨m + 1, ⟨rfl, rfl, congrArg (fun z => some (Value.int .i64 z)) (w_succ (by omega)), trivial⟩, ⟨hml, take_next ht hx hy, rfl⟩, by show L.length - (m + 1) < L.length - m; omega⟩
  · have d1 : decide ((m : Int) < (L.length : Int)) = false := decide_eq_false (by omega)
    have hLM : L = M := by rwa [List.take_of_length_le (by omega), List.take_of_length_le (by omega)] at ht
    rw [decide_eq_true hLM]
    (try (conv => whnf)); (repeat ((fail_if_success (with_reducible refine And.intro ?_ ?_)); (fail_if_success (with_reducible refine Exists.intro ?_ ?_)); (first | (apply Ob.of; (first | with_reducible assumption | with_reducible exact ex20 _ _ | with_reducible exact ex21 _ _ | with_reducible exact ex30 _ _ _ | with_reducible exact ex31 _ _ _ | with_reducible exact ex32 _ _ _ | rfl | (exact ald rfl rfl (by assumption) rfl) | (exact ald_agg rfl rfl rfl (by assumption) rfl)); (conv => whnf)) | (apply bIf.yes; (first | assumption | rfl); (conv => whnf)) | (apply bIf.no; (first | assumption | rfl); (conv => whnf)) | ((with_reducible refine Ob.load (by with_unfolding_all assumption) ?_); (conv => whnf)) | (apply Grows.mk; (first | exact Grow.refl _ | assumption); (conv => whnf)))))
    exact ⟨rfl, rfl⟩
def c3 : CodeT := (0, 0, 0, 1, [(4, 4, 0), (32, 0, 0)])
def p3 : ProgT := (0, [], [c3])
theorem c3_key : ∀ (i : Nat) (x : Ins), c3.ins[i]? = some x → i = 0 ∧ x = (4, 4, 0) ∨ i = 1 ∧ x = (32, 0, 0) := by
  intro i x hx
  match i, hx with
  | 0, hx => simp [c3, CodeT.ins] at hx; exact .inl ⟨rfl, hx.symm⟩
  | 1, hx => simp [c3, CodeT.ins] at hx; exact .inr ⟨rfl, hx.symm⟩
  | i + 2, hx => simp [c3, CodeT.ins] at hx
theorem c3_closed : Closed c3 [0, 1] := by
  refine ⟨⟨rfl, rfl, fun i d hd => ?_⟩, fun i d x hd h0 hx => ?_⟩
  · match i, hd with
    | 0, hd => simp at hd; subst hd; exact .inr ⟨by decide, .start⟩
    | 1, hd =>
      simp at hd; subst hd
      have := Reach.step (c := c3) (i := 0) (d := 0) (x := (4, 4, 0)) (k := 0) (t := 1) .start rfl (by decide) (by decide) (by decide) (by decide) (by decide)
      exact .inr ⟨by decide, this⟩
    | i + 2, hd => simp at hd
  · rcases c3_key i x hx with ⟨rfl, rfl⟩ | ⟨rfl, rfl⟩
    · simp at hd
      subst hd
      refine ⟨by decide, by decide, fun k t ht => ?_⟩
      match k, ht with
      | 0, ht =>
        have : t = 1 := by have h : (tgt c3.ins ((0 : Nat) : Int))[0]? = some 1 := by decide
                           rw [h] at ht; simpa using ht.symm
        subst this
        decide
      | k + 1, ht =>
        have h : (tgt c3.ins ((0 : Nat) : Int)).length = 1 := by decide
        rw [List.getElem?_eq_none (by omega)] at ht
        simp at ht
    · simp at hd
      subst hd
      refine ⟨by decide, by decide, fun k t ht => ?_⟩
      have h : (tgt c3.ins ((1 : Nat) : Int)).length = 0 := by decide
      rw [List.getElem?_eq_none (by omega)] at ht
      simp at ht
theorem p3_ok : CheckP p3 := by
  refine ⟨by decide, by decide, by decide, by decide, by decide, fun s hs => by simp [p3] at hs, fun f c hc => ?_⟩
  have : f = 0 ∧ c = c3 := by
    cases f with
    | zero => simp [p3] at hc; exact ⟨rfl, hc.symm⟩
    | succ f => simp [p3] at hc
  obtain ⟨rfl, rfl⟩ := this
  refine ⟨by unfold Lim; simp [c3, CodeT.ins], fun i x hi hx => ?_, [0, 1], c3_closed⟩
  rcases c3_key i x hx with ⟨rfl, rfl⟩ | ⟨rfl, rfl⟩ <;> decide
theorem body3 : bodyL [] c3 [0, 1] = ⟨[(2, 4, .empty)], [⟨2, 0, 0, 0, 0, [], 0, []⟩, ⟨24, 0, 0, 0, 0, [], 1, [0]⟩], [0, 1]⟩ := by rfl
theorem slots_one {c l : List Value} {k : Nat} (h : slotsOf c 0 k = some l) : ∃ r, c = l ++ r := by
  unfold slotsOf at h
  split at h
  · simp only [Option.some.injEq] at h
    exact ⟨c.drop k, by rw [← h]; simp⟩
  · simp at h
theorem slots_two {c l l' : List Value} {k : Nat} (h : slotsOf c 0 k = some l) (h' : slotsOf c (1 * k) k = some l') : ∃ r, c = l ++ (l' ++ r) := by
  unfold slotsOf at h h'
  split at h
  · split at h'
    · simp only [Option.some.injEq] at h h'
      refine ⟨(c.drop k).drop k, ?_⟩
      rw [← h, ← h']
      rw [List.drop_zero, Nat.one_mul, List.take_append_drop, List.take_append_drop]
    · simp at h'
  · simp at h
theorem worksL_ax (H : Heap) : AX Try.prog 8 #[] H (fun v _ => v = .bool true) := by
  refine AX.body (n := 62) (rs := [.tmp 0]) Try.func8 rfl (by decide) rfl rfl (bC_sound _ _ _ _ ?_)
  (try (conv => whnf)); (repeat ((fail_if_success (with_reducible refine And.intro ?_ ?_)); (fail_if_success (with_reducible refine Exists.intro ?_ ?_)); (first | (apply Ob.of; (first | with_reducible assumption | with_reducible exact ex20 _ _ | with_reducible exact ex21 _ _ | with_reducible exact ex30 _ _ _ | with_reducible exact ex31 _ _ _ | with_reducible exact ex32 _ _ _ | rfl | (exact ald rfl rfl (by assumption) rfl) | (exact ald_agg rfl rfl rfl (by assumption) rfl)); (conv => whnf)) | (apply bIf.yes; (first | assumption | rfl); (conv => whnf)) | (apply bIf.no; (first | assumption | rfl); (conv => whnf)) | ((with_reducible refine Ob.load (by with_unfolding_all assumption) ?_); (conv => whnf)) | (apply Grows.mk; (first | exact Grow.refl _ | assumption); (conv => whnf)))))
  refine Ob2.lay (H := H) (.cells (.row 46) [.int .i64 4, .int .i64 4, .int .i64 0, .int .i64 32, .int .i64 0, .int .i64 0]) (.slice (some ⟨H.length, 0, none⟩) 2 3) rfl fun H1 a1 g1 l1 => ?_
  (try (conv => whnf)); (repeat ((fail_if_success (with_reducible refine And.intro ?_ ?_)); (fail_if_success (with_reducible refine Exists.intro ?_ ?_)); (first | (apply Ob.of; (first | with_reducible assumption | with_reducible exact ex20 _ _ | with_reducible exact ex21 _ _ | with_reducible exact ex30 _ _ _ | with_reducible exact ex31 _ _ _ | with_reducible exact ex32 _ _ _ | rfl | (exact ald rfl rfl (by assumption) rfl) | (exact ald_agg rfl rfl rfl (by assumption) rfl)); (conv => whnf)) | (apply bIf.yes; (first | assumption | rfl); (conv => whnf)) | (apply bIf.no; (first | assumption | rfl); (conv => whnf)) | ((with_reducible refine Ob.load (by with_unfolding_all assumption) ?_); (conv => whnf)) | (apply Grows.mk; (first | exact Grow.refl _ | assumption); (conv => whnf)))))
  refine Ob2.lay (H := H1) (.cells (.row 49) [.int .i64 0, .int .i64 0, .int .i64 0, .int .i64 1, .slice (some ⟨H.length, 0, none⟩) 2 3]) (.slice (some ⟨H1.length, 0, none⟩) 1 5) rfl fun H2 a2 g2 l2 => ?_
  (try (conv => whnf)); (repeat ((fail_if_success (with_reducible refine And.intro ?_ ?_)); (fail_if_success (with_reducible refine Exists.intro ?_ ?_)); (first | (apply Ob.of; (first | with_reducible assumption | with_reducible exact ex20 _ _ | with_reducible exact ex21 _ _ | with_reducible exact ex30 _ _ _ | with_reducible exact ex31 _ _ _ | with_reducible exact ex32 _ _ _ | rfl | (exact ald rfl rfl (by assumption) rfl) | (exact ald_agg rfl rfl rfl (by assumption) rfl)); (conv => whnf)) | (apply bIf.yes; (first | assumption | rfl); (conv => whnf)) | (apply bIf.no; (first | assumption | rfl); (conv => whnf)) | ((with_reducible refine Ob.load (by with_unfolding_all assumption) ?_); (conv => whnf)) | (apply Grows.mk; (first | exact Grow.refl _ | assumption); (conv => whnf)))))
  refine Ob2.alloc rfl fun q3 H3 hq3 a3 g3 => ?_
  (try (conv => whnf)); (repeat ((fail_if_success (with_reducible refine And.intro ?_ ?_)); (fail_if_success (with_reducible refine Exists.intro ?_ ?_)); (first | (apply Ob.of; (first | with_reducible assumption | with_reducible exact ex20 _ _ | with_reducible exact ex21 _ _ | with_reducible exact ex30 _ _ _ | with_reducible exact ex31 _ _ _ | with_reducible exact ex32 _ _ _ | rfl | (exact ald rfl rfl (by assumption) rfl) | (exact ald_agg rfl rfl rfl (by assumption) rfl)); (conv => whnf)) | (apply bIf.yes; (first | assumption | rfl); (conv => whnf)) | (apply bIf.no; (first | assumption | rfl); (conv => whnf)) | ((with_reducible refine Ob.load (by with_unfolding_all assumption) ?_); (conv => whnf)) | (apply Grows.mk; (first | exact Grow.refl _ | assumption); (conv => whnf)))))
  refine Ob.store rfl rfl rfl a3 rfl (by first | exact Nat.le_of_ble_eq_true rfl | simp) fun H4 s4 k4 l4 => ?_
  have g4 : Grow H2 H4 := g3.but_new k4 (by omega)
  have r1 : RL 3 insR H4 (.slice (some ⟨H.length, 0, none⟩) 2 3) c3.ins := .inr ⟨_, rfl, .inr ⟨_, _, g4.at (g2.at a1), fun i x hx => by
    match i, hx with
    | 0, hx => simp [c3, CodeT.ins] at hx; subst hx; exact ⟨_, rfl, rfl⟩
    | 1, hx => simp [c3, CodeT.ins] at hx; subst hx; exact ⟨_, rfl, rfl⟩
    | i + 2, hx => simp [c3, CodeT.ins] at hx⟩⟩
  have r3 : RL 5 codeR H4 (.slice (some ⟨H1.length, 0, none⟩) 1 5) p3.2.2 := .inr ⟨_, rfl, .inr ⟨_, _, g4.at a2, fun i x hx => by
    match i, hx with
    | 0, hx => simp [p3] at hx; subst hx; exact ⟨_, rfl, _, rfl, r1⟩
    | i + 1, hx => simp [p3] at hx⟩⟩
  have b4 := hblk_of s4
  (try (conv => whnf)); (repeat ((fail_if_success (with_reducible refine And.intro ?_ ?_)); (fail_if_success (with_reducible refine Exists.intro ?_ ?_)); (first | (apply Ob.of; (first | with_reducible assumption | with_reducible exact ex20 _ _ | with_reducible exact ex21 _ _ | with_reducible exact ex30 _ _ _ | with_reducible exact ex31 _ _ _ | with_reducible exact ex32 _ _ _ | rfl | (exact ald rfl rfl (by assumption) rfl) | (exact ald_agg rfl rfl rfl (by assumption) rfl)); (conv => whnf)) | (apply bIf.yes; (first | assumption | rfl); (conv => whnf)) | (apply bIf.no; (first | assumption | rfl); (conv => whnf)) | ((with_reducible refine Ob.load (by with_unfolding_all assumption) ?_); (conv => whnf)) | (apply Grows.mk; (first | exact Grow.refl _ | assumption); (conv => whnf)))))
  refine (Lift_ax (p := p3) (.inl ⟨rfl, rfl⟩) r3 (by decide) 0).mono ?_
  rintro _ H5 ⟨⟨bv, F, R, s, e, rfl, ⟨cv, ov, pb, rfl, hc, ho⟩, hs⟩, g5⟩
  rcases hs with ⟨c, L, h1, h2, h3, rfl, rfl, rfl, rfl⟩ | ⟨h1, _⟩
  rotate_left
  · exact absurd ⟨by decide, by decide, p3_ok⟩ h1
  obtain rfl : c3 = c := by simpa [p3] using h2
  obtain rfl := h3.uniq c3_closed
  rw [show p3.2.1 = [] from rfl, body3] at hc ho
  have lc : alen Try.prog 28 cv H5 = some (.int .i64 1) := hc.len rfl _
  have lo : alen Try.prog 29 ov H5 = some (.int .i64 2) := ho.len rfl _
  rcases hc with ⟨_, h⟩ | ⟨b, rfl, h⟩
  · simp at h
  rcases h with h | ⟨m, cc, hb, h4⟩
  · simp at h
  obtain ⟨l, hl, rfl⟩ := h4 0 _ rfl
  obtain ⟨r, rfl⟩ := slots_one hl
  rcases ho with ⟨_, h⟩ | ⟨b', rfl, h⟩
  · simp at h
  rcases h with h | ⟨m', cc', hb', h4'⟩
  · simp at h
  obtain ⟨l, hl, rv, mv, rfl, _, _⟩ := h4' 0 _ rfl
  obtain ⟨l', hl', rv', mv', rfl, _, hm⟩ := h4' 1 _ rfl
  obtain ⟨r', rfl⟩ := slots_two (by simpa using hl) hl'
  have lm := hm.1.rl.len (P := Try.prog) (t := 36) rfl
  (try (conv => whnf)); (repeat ((fail_if_success (with_reducible refine And.intro ?_ ?_)); (fail_if_success (with_reducible refine Exists.intro ?_ ?_)); (first | (apply Ob.of; (first | with_reducible assumption | with_reducible exact ex20 _ _ | with_reducible exact ex21 _ _ | with_reducible exact ex30 _ _ _ | with_reducible exact ex31 _ _ _ | with_reducible exact ex32 _ _ _ | rfl | (exact ald rfl rfl (by assumption) rfl) | (exact ald_agg rfl rfl rfl (by assumption) rfl)); (conv => whnf)) | (apply bIf.yes; (first | assumption | rfl); (conv => whnf)) | (apply bIf.no; (first | assumption | rfl); (conv => whnf)) | ((with_reducible refine Ob.load (by with_unfolding_all assumption) ?_); (conv => whnf)) | (apply Grows.mk; (first | exact Grow.refl _ | assumption); (conv => whnf)))))
  refine Ob2.alloc rfl fun q6 H6 hq6 a6 g6 => ?_
  (try (conv => whnf)); (repeat ((fail_if_success (with_reducible refine And.intro ?_ ?_)); (fail_if_success (with_reducible refine Exists.intro ?_ ?_)); (first | (apply Ob.of; (first | with_reducible assumption | with_reducible exact ex20 _ _ | with_reducible exact ex21 _ _ | with_reducible exact ex30 _ _ _ | with_reducible exact ex31 _ _ _ | with_reducible exact ex32 _ _ _ | rfl | (exact ald rfl rfl (by assumption) rfl) | (exact ald_agg rfl rfl rfl (by assumption) rfl)); (conv => whnf)) | (apply bIf.yes; (first | assumption | rfl); (conv => whnf)) | (apply bIf.no; (first | assumption | rfl); (conv => whnf)) | ((with_reducible refine Ob.load (by with_unfolding_all assumption) ?_); (conv => whnf)) | (apply Grows.mk; (first | exact Grow.refl _ | assumption); (conv => whnf)))))
  refine Ob.store rfl rfl rfl a6 rfl (by first | exact Nat.le_of_ble_eq_true rfl | simp) fun H7 s7 k7 l7 => ?_
  have g7 : Grow H5 H7 := g6.but_new k7 (by omega)
  have b7 := hblk_of s7
  have c7 := hblk_of (g7.at hb)
  have d7 := hblk_of (g7.at hb')
  have lm7 : alen Try.prog 36 mv' H7 = some (.int .i64 1) := lm H7
  (try (conv => whnf)); (repeat ((fail_if_success (with_reducible refine And.intro ?_ ?_)); (fail_if_success (with_reducible refine Exists.intro ?_ ?_)); (first | (apply Ob.of; (first | with_reducible assumption | with_reducible exact ex20 _ _ | with_reducible exact ex21 _ _ | with_reducible exact ex30 _ _ _ | with_reducible exact ex31 _ _ _ | with_reducible exact ex32 _ _ _ | rfl | (exact ald rfl rfl (by assumption) rfl) | (exact ald_agg rfl rfl rfl (by assumption) rfl)); (conv => whnf)) | (apply bIf.yes; (first | assumption | rfl); (conv => whnf)) | (apply bIf.no; (first | assumption | rfl); (conv => whnf)) | ((with_reducible refine Ob.load (by with_unfolding_all assumption) ?_); (conv => whnf)) | (apply Grows.mk; (first | exact Grow.refl _ | assumption); (conv => whnf)))))
  rfl
end Go.Proofs.Ytdlanbfbbopfhaa
