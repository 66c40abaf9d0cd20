/- Package lift: what comes of a code may be a body. -/
import Derived.Test.YtdlanbfbbopfhaaJIr1
set_option linter.unusedVariables false
set_option linter.unusedSimpArgs false
set_option maxRecDepth 20000
set_option maxHeartbeats 8000000
namespace Go.Proofs.Ytdlanbfbbopfhaa
open Go Ax
abbrev toX (o : OpT) : OpX := (o.kind, o.a, o.b, o.c, o.d, o.regs, [], o.pc, o.map)
abbrev bodyX (F R : Int) (s : LS) : BodyX := (F, R, s.consts, s.ops.map toX, [])
theorem ops32 {a : Int} (h1 : 1 ≤ a) (h7 : a ≤ 32) : a = 1 ∨ a = 2 ∨ a = 3 ∨ a = 4 ∨ a = 5 ∨ a = 6 ∨ a = 7 ∨ a = 8 ∨ a = 9 ∨ a = 10 ∨ a = 11 ∨ a = 12 ∨ a = 13 ∨ a = 14 ∨ a = 15 ∨ a = 16 ∨ a = 17 ∨ a = 18 ∨ a = 19 ∨ a = 20 ∨ a = 21 ∨ a = 22 ∨ a = 23 ∨ a = 24 ∨ a = 25 ∨ a = 26 ∨ a = 27 ∨ a = 28 ∨ a = 29 ∨ a = 30 ∨ a = 31 ∨ a = 32 := by omega
theorem argP_op {pl cl gl lc il op a : Int} (h : argP pl cl gl lc il op a) : 1 ≤ op ∧ op ≤ 32 := by unfold argP at h; omega
theorem took_mem {t n y : Int} (h : y ∈ took t n) : t - n ≤ y ∧ y < t := by
  unfold took at h
  obtain ⟨k, hk, rfl⟩ := List.mem_map.1 h
  have := List.mem_range.1 hk
  omega
theorem took_len {t n : Int} (h : 0 ≤ n) : ((took t n).length : Int) = n := by unfold took; simp; omega
theorem mapL_len {t n : Int} (h : 0 ≤ n) : ((mapL t n).length : Int) = n := by unfold mapL; simp; omega
theorem mapL_mem {t n y : Int} (h : y ∈ mapL t n) : t ≤ y ∧ y < t + n := by
  unfold mapL at h
  obtain ⟨k, hk, rfl⟩ := List.mem_map.1 h
  have := List.mem_range.1 hk
  omega
/-- What is known of an instruction's place. -/
structure AtI (p : ProgT) (c : CodeT) (i : Nat) (x : Ins) (d : Int) : Prop where
  ins : insP p c i x
  d0 : 0 ≤ d
  p0 : pops x ≤ d
  dm : d ≤ c.deep
  up : x.1 ≠ 32 → x.1 ≠ 22 → nd x d 0 ≤ c.deep
  loc : 0 ≤ c.2.1
theorem pops26 {xa : Int} (h : 0 ≤ xa ∧ xa < 7) : eff 26 xa = (xa + 1, 1) ∧ eff 28 xa = (xa + 2, 1) := by
  constructor
  · simp [eff]; omega
  · simp [eff]; omega
theorem pops29 {xa : Int} (h : 1 ≤ xa ∧ xa ≤ 7) : eff 29 xa = (builtN xa, 1) := by simp [eff, h]
theorem parts_op {p : ProgT} {c : CodeT} {i : Nat} {x : Ins} {d : Int} (h : AtI p c i x d) (h31 : x.1 ≠ 31) {m : Lims} (hr : m.rg = c.2.1 + c.deep) (hg : m.gl = p.1) (hp : m.np = p.2.1.length) (hs : m.st = c.2.2.1) {K : List V}
    (hc : (constL p.2.1 x).isSome → (idV K ((constL p.2.1 x).getD (0, 0, .empty)) : Int) < m.nc) {a : Int} (ha : gos x.1 = true → 0 ≤ a ∧ a < m.no) :
    (1 ≤ (opOf p.2.1 c.2.1 K i x d).kind ∧ (opOf p.2.1 c.2.1 K i x d).kind ≤ 30) ∧ PartsP m (toX { opOf p.2.1 c.2.1 K i x d with a := if gos x.1 then a else (opOf p.2.1 c.2.1 K i x d).a }) 4 := by
  obtain ⟨⟨h1, h2, h3, h4⟩, h5, h6, h7, h8, h9⟩ := h
  have hop := argP_op h1
  obtain ⟨op, xa, xb⟩ := x
  dsimp only at h1 h2 h3 h4 hop h31 h8
  rcases ops32 hop.1 hop.2 with rfl | rfl | rfl | rfl | rfl | rfl | rfl | rfl | rfl | rfl | rfl | rfl | rfl | rfl | rfl | rfl | rfl | rfl | rfl | rfl | rfl | rfl | rfl | rfl | rfl | rfl | rfl | rfl | rfl | rfl | rfl | rfl
  all_goals first | (exact absurd rfl h31) | skip
  all_goals simp [argP] at h1
  all_goals simp [sit] at h2 h3
  all_goals simp [pops, eff, h1] at h6
  all_goals simp [nd, pops, pushes, eff, h1] at h8
  all_goals simp [constL] at hc
  all_goals simp [gos] at ha
  all_goals refine ⟨by simp [opOf, constL, oneL], fun j hj => ?_⟩
  all_goals rcases (show j = 0 ∨ j = 1 ∨ j = 2 ∨ j = 3 by omega) with rfl | rfl | rfl | rfl
  all_goals simp [opOf, constL, oneL, gos, fl, fldN, fldL, partN, partP, toX, OpX.kind, OpX.a, OpX.b, OpX.c, OpX.d, hr, hg, hp, hs]
  all_goals first
    | omega
    | (rw [if_pos (by omega)] at h6 h8; unfold pops; (first | rw [(pops26 h1).1] | rw [(pops26 h1).2]); simp only at h6 h8 ⊢; omega)
    | (unfold pops; rw [pops29 h1]; have := built_le xa; simp only; omega)
theorem lists_op {p : ProgT} {c : CodeT} {i : Nat} {x : Ins} {d : Int} (h : AtI p c i x d) (h31 : x.1 ≠ 31) {K : List V} {a : Int} : listsP (c.2.1 + c.deep) (toX { opOf p.2.1 c.2.1 K i x d with a := a }) := by
  obtain ⟨⟨h1, h2, h3, h4⟩, h5, h6, h7, h8, h9⟩ := h
  have hop := argP_op h1
  have hp0 := (pops_le x).1
  obtain ⟨op, xa, xb⟩ := x
  dsimp only at h1 h2 h3 h4 hop h31 h8
  have hreg : ∀ y ∈ took (c.2.1 + d) (pops (op, xa, xb)), 0 ≤ y ∧ y < c.2.1 + c.deep := fun y hy => by have := took_mem hy; omega
  have hlen := took_len (t := c.2.1 + d) hp0
  clear h2 h3 h4 h5 h6 h7 h8 h9
  rcases ops32 hop.1 hop.2 with rfl | rfl | rfl | rfl | rfl | rfl | rfl | rfl | rfl | rfl | rfl | rfl | rfl | rfl | rfl | rfl | rfl | rfl | rfl | rfl | rfl | rfl | rfl | rfl | rfl | rfl | rfl | rfl | rfl | rfl | rfl | rfl
  all_goals first | (exact absurd rfl h31) | skip
  all_goals simp [argP] at h1
  all_goals simp [opOf, constL, oneL, listsP, leastP, mostP, RegsP, toX, OpX.kind, OpX.c, OpX.regs, OpX.cases]
  all_goals refine ⟨?_, ?_, fun y hy => hreg y hy⟩
  all_goals rw [hlen]
  all_goals unfold pops
  all_goals first | rw [(pops26 h1).1] | rw [(pops26 h1).2] | rw [pops29 h1]
  all_goals simp only
  all_goals omega
theorem jump_op {p : ProgT} {c : CodeT} {i : Nat} {x : Ins} {d : Int} (h : AtI p c i x d) (h31 : x.1 ≠ 31) {K : List V} : isJump (opOf p.2.1 c.2.1 K i x d).kind = gos x.1 ∧ (gos x.1 = true → (opOf p.2.1 c.2.1 K i x d).a = x.2.1) ∧ (x.1 = 1 → (opOf p.2.1 c.2.1 K i x d).kind = 1) ∧ (x.1 = 22 → (opOf p.2.1 c.2.1 K i x d).kind = 17) ∧ (x.1 = 32 → (opOf p.2.1 c.2.1 K i x d).kind = 24) := by
  have hop := argP_op h.ins.1
  clear h
  obtain ⟨op, xa, xb⟩ := x
  dsimp only at hop h31 ⊢
  rcases ops32 hop.1 hop.2 with rfl | rfl | rfl | rfl | rfl | rfl | rfl | rfl | rfl | rfl | rfl | rfl | rfl | rfl | rfl | rfl | rfl | rfl | rfl | rfl | rfl | rfl | rfl | rfl | rfl | rfl | rfl | rfl | rfl | rfl | rfl | rfl
  all_goals first | (exact absurd rfl h31) | skip
  all_goals simp [opOf, constL, oneL, gos, isJump]
theorem pc_op (pool : List ByteArray) (loc : Int) (K : List V) (i : Nat) (x : Ins) (d : Int) : (opOf pool loc K i x d).pc = i ∧ (opOf pool loc K i x d).map = mapL loc d := by
  unfold opOf
  cases constL pool x <;> exact ⟨rfl, rfl⟩
theorem patch_op {p : ProgT} {c : CodeT} {i : Nat} {x : Ins} {d : Int} (h : AtI p c i x d) (h31 : x.1 ≠ 31) {K : List V} (P : List Int) : patch1 P (opOf p.2.1 c.2.1 K i x d) = { opOf p.2.1 c.2.1 K i x d with a := if gos x.1 then P.getD x.2.1.toNat 0 else (opOf p.2.1 c.2.1 K i x d).a } := by
  obtain ⟨j1, j2, _⟩ := jump_op h h31 (K := K)
  unfold patch1
  rw [j1]
  by_cases hg : gos x.1 = true
  · rw [if_pos hg, if_pos hg, j2 hg]
  · rw [if_neg hg, if_neg hg]
theorem val_ok {p : ProgT} {c : CodeT} {i : Nat} {x : Ins} (h : insP p c i x) (hs : ∀ s ∈ p.2.1, s.size ≤ 256) (hn : p.2.2.length ≤ 1000) {v : V} (hv : constL p.2.1 x = some v) : ValP v := by
  have h1 := h.1
  clear h
  obtain ⟨op, xa, xb⟩ := x
  dsimp only at h1
  unfold constL at hv
  dsimp only at hv
  have he : (ByteArray.empty : ByteArray) = ⟨#[]⟩ := rfl
  repeat' split at hv
  all_goals simp only [Option.some.injEq, reduceCtorEq] at hv
  all_goals subst hv
  all_goals rename_i hop
  all_goals (subst hop; simp [argP] at h1)
  all_goals unfold ValP
  all_goals simp only
  all_goals first
    | (refine ⟨fun _ => he, ?_⟩; first | (simp; done) | (simp; omega))
    | (refine ⟨fun h => absurd rfl h, .inr (.inr (.inr (.inl ⟨trivial, trivial, hs _ ?_⟩)))⟩; rw [List.getD_eq_getElem?_getD, List.getElem?_eq_getElem (by omega)]; exact List.getElem_mem _)
end Go.Proofs.Ytdlanbfbbopfhaa
/- Package lift: what comes of a code may be a body; where its operations come of. -/
set_option linter.unusedVariables false
set_option linter.unusedSimpArgs false
set_option maxRecDepth 20000
set_option maxHeartbeats 8000000
namespace Go.Proofs.Ytdlanbfbbopfhaa
open Go Ax
theorem kind_one {pool : List ByteArray} {loc : Int} {K : List V} {i : Nat} {x : Ins} {d : Int} (h : x.1 = 1) : (opOf pool loc K i x d).kind = 1 := by
  obtain ⟨op, xa, xb⟩ := x
  dsimp only at h
  subst h
  simp [opOf, constL, oneL]
theorem patch_kind (P : List Int) (o : OpT) : (patch1 P o).kind = o.kind ∧ (patch1 P o).pc = o.pc ∧ (patch1 P o).map = o.map ∧ (patch1 P o).regs = o.regs := by unfold patch1; split <;> exact ⟨rfl, rfl, rfl, rfl⟩
theorem at_of {p : ProgT} {c : CodeT} {f : Nat} {L : List Int} (hr : RightP p f c) (hcl : Closed c L) {i : Nat} {x : Ins} {d : Int} (hx : c.ins[i]? = some x) (hd : L[i]? = some d) (h0 : 0 ≤ d) : AtI p c i x d := by
  obtain ⟨⟨l1, l2, l3, l4, l5, l6, l7, l8, l9, l10, _⟩, hA, _⟩ := hr
  obtain ⟨k1, k2, _⟩ := hcl.fine i d x hd h0 hx
  exact ⟨hA i x (lt_of_get hx) hx, h0, k1, k2, fun e1 e2 => (on_next hcl l10 hx hd h0 e1 e2).2.1, by omega⟩
/-- An operation of a body. -/
theorem body_op {p : ProgT} {c : CodeT} {L : List Int} (hcl : Closed c L) {k : Nat} {o : OpT} (ho : (bodyL p.2.1 c L).ops[k]? = some o) :
    ∃ i x d K, c.ins[i]? = some x ∧ L[i]? = some d ∧ hasOp x d ∧ cntL p.2.1 c L i = k ∧ o = patch1 (runL p.2.1 c L c.ins.length).places (opOf p.2.1 c.2.1 K i x d) ∧ ((constL p.2.1 x).isSome → (opOf p.2.1 c.2.1 K i x d).b < (bodyL p.2.1 c L).consts.length) := by
  have hr := run_inv (pool := p.2.1) hcl.inv.len c.ins.length (Nat.le_refl _)
  have ho : ((runL p.2.1 c L c.ins.length).ops.map (patch1 (runL p.2.1 c L c.ins.length).places))[k]? = some o := ho
  rw [List.getElem?_map, Option.map_eq_some_iff] at ho
  obtain ⟨o1, h1, h2⟩ := ho
  obtain ⟨i, x, d, K, a1, a2, a3, a4, a5, a6, a7⟩ := hr.ops k o1 h1
  subst a6
  exact ⟨i, x, d, K, a2, a3, a4, a5, h2.symm, a7⟩
theorem body_pc {p : ProgT} {c : CodeT} {L : List Int} (hcl : Closed c L) {k k' : Nat} {o o' : OpT} (ho : (bodyL p.2.1 c L).ops[k]? = some o) (ho' : (bodyL p.2.1 c L).ops[k']? = some o') (hk : k < k') : o.pc < o'.pc := by
  obtain ⟨i, x, d, K, a1, a2, a3, a4, rfl, _⟩ := body_op hcl ho
  obtain ⟨j, y, e, M, b1, b2, b3, b4, rfl, _⟩ := body_op hcl ho'
  rw [(patch_kind _ _).2.1, (patch_kind _ _).2.1, (pc_op _ _ _ _ _ _).1, (pc_op _ _ _ _ _ _).1]
  by_cases hij : i < j
  · omega
  · have := cnt_mono (pool := p.2.1) hcl.inv.len (i := j) (j := i) (by omega) (by have := lt_of_get a1; omega)
    omega
theorem body_pc0 {p : ProgT} {c : CodeT} {L : List Int} (hcl : Closed c L) {k : Nat} {o : OpT} (ho : (bodyL p.2.1 c L).ops[k]? = some o) : 0 ≤ o.pc := by
  obtain ⟨i, x, d, K, a1, a2, a3, a4, rfl, _⟩ := body_op hcl ho
  rw [(patch_kind _ _).2.1, (pc_op _ _ _ _ _ _).1]
  omega
theorem kindAt_body {p : ProgT} {c : CodeT} {L : List Int} {F R : Int} {k : Nat} {o : OpT} (ho : (bodyL p.2.1 c L).ops[k]? = some o) : kindAt (bodyX F R (bodyL p.2.1 c L)).ops (k : Int) = o.kind := by
  unfold kindAt
  show (((bodyL p.2.1 c L).ops.map toX).getD (k : Int).toNat _).1 = _
  rw [Int.toNat_natCast, List.getD_eq_getElem?_getD, List.getElem?_map, ho]
  rfl
theorem body_may {p : ProgT} {c : CodeT} {f : Nat} {L : List Int} (hck : CheckP p) (hf : p.2.2[f]? = some c) (hcl : Closed c L) : CheckB p (bodyX (f : Int) (c.2.1 + c.2.2.2.1) (bodyL p.2.1 c L)) := by
  have hrp := hck.2.2.2.2.2.2 f c hf
  have hstr := hck.2.2.2.2.2.1
  have hr := run_inv (pool := p.2.1) hcl.inv.len c.ins.length (Nat.le_refl _)
  have hlen := hcl.inv.len
  obtain ⟨l1, l2, l3, l4, l5, l6, l7, l8, l9, l10, _⟩ := hrp.1
  have hol : (bodyL p.2.1 c L).ops.length = (runL p.2.1 c L c.ins.length).ops.length := by unfold bodyL; simp
  have hne := run_ne (pool := p.2.1) hcl l10
  have hxl : (bodyX (f : Int) (c.2.1 + c.2.2.2.1) (bodyL p.2.1 c L)).ops.length = (bodyL p.2.1 c L).ops.length := List.length_map ..
  have hcc : (bodyL p.2.1 c L).consts.length ≤ c.ins.length := hr.clen
  refine ⟨hck, by show 0 ≤ (f : Int); omega, c, L, by show p.2.2[(f : Int).toNat]? = some c; rw [Int.toNat_natCast]; exact hf, ⟨by show c.2.1 ≤ c.2.1 + c.2.2.2.1; omega, by show c.2.1 + c.2.2.2.1 ≤ 88; omega, by show (bodyL p.2.1 c L).consts.length ≤ 4000; omega, by rw [hxl]; omega, by rw [hxl, hol]; have := hr.olen; omega, Nat.zero_le _⟩,
    fun v hv => ?_, fun v hv => (List.not_mem_nil hv).elim, hcl, fun k o hk ho => ?_, ?_⟩
  · obtain ⟨i, x, a1, a2⟩ := hr.con v hv
    exact val_ok (hrp.2.1 i x (lt_of_get a1) a1) hstr (by have := hck.2.2.2.1; omega) a2
  · have ho : ((bodyL p.2.1 c L).ops.map toX)[k]? = some o := ho
    rw [List.getElem?_map, Option.map_eq_some_iff] at ho
    obtain ⟨o1, ho1, rfl⟩ := ho
    obtain ⟨i, x, d, K, a1, a2, a3, a4, rfl, a6⟩ := body_op hcl ho1
    have hat := at_of hrp hcl a1 a2 a3.1
    have hpo := patch_op hat a3.2 (K := K) (runL p.2.1 c L c.ins.length).places
    obtain ⟨j1, j2, j3, j4, j5⟩ := jump_op hat a3.2 (K := K)
    have hgo : gos x.1 = true → 0 ≤ (runL p.2.1 c L c.ins.length).places.getD x.2.1.toNat 0 ∧ (runL p.2.1 c L c.ins.length).places.getD x.2.1.toNat 0 < ((bodyL p.2.1 c L).ops.map toX).length := fun hg => by
      obtain ⟨n, n1, n2, _⟩ := jump_to (p := p) hcl l10 a1 a2 a3 hat.ins hg
      rw [n1, List.length_map, hol]; omega
    have hparts := parts_op hat a3.2 (m := limsOf p c (bodyX (f : Int) (c.2.1 + c.2.2.2.1) (bodyL p.2.1 c L))) rfl rfl rfl rfl (K := K) (fun hc => by
      have := a6 hc
      unfold opOf at this
      cases hv : constL p.2.1 x with
      | none => rw [hv] at hc; simp at hc
      | some v => rw [hv] at this; exact this) (a := (runL p.2.1 c L c.ins.length).places.getD x.2.1.toNat 0) hgo
    have hlists := lists_op hat a3.2 (K := K) (a := if gos x.1 then (runL p.2.1 c L c.ins.length).places.getD x.2.1.toNat 0 else (opOf p.2.1 c.2.1 K i x d).a)
    rw [← hpo] at hparts hlists
    refine ⟨by show 1 ≤ (patch1 _ _).kind ∧ (patch1 _ _).kind ≤ 30; rw [(patch_kind _ _).1]; exact hparts.1, hlists, hparts.2, ⟨?_, ?_, ?_, ?_⟩, fun hj => ?_⟩
    · show 0 ≤ (patch1 _ _).pc
      rw [(patch_kind _ _).2.1, (pc_op _ _ _ _ _ _).1]; omega
    · show (patch1 _ _).pc < _
      rw [(patch_kind _ _).2.1, (pc_op _ _ _ _ _ _).1]; have := lt_of_get a2; omega
    · show L[((patch1 _ _).pc).toNat]? = some (((patch1 _ _).map.length : Nat) : Int)
      rw [(patch_kind _ _).2.1, (patch_kind _ _).2.2.1, (pc_op _ _ _ _ _ _).1, (pc_op _ _ _ _ _ _).2, Int.toNat_natCast, a2, mapL_len a3.1]
    · show RegsP _ (patch1 _ _).map
      rw [(patch_kind _ _).2.2.1, (pc_op _ _ _ _ _ _).2]
      intro y hy
      have := mapL_mem hy
      have := hat.dm
      show 0 ≤ y ∧ y < c.2.1 + c.2.2.2.1
      have e : c.deep = c.2.2.2.1 := rfl
      omega
    · have hj : jumps (patch1 (runL p.2.1 c L c.ins.length).places (opOf p.2.1 c.2.1 K i x d)).kind = true := hj
      rw [(patch_kind _ _).1] at hj
      have hg : gos x.1 = true := by rw [← j1]; exact hj
      obtain ⟨n, n1, n2, n3⟩ := jump_to (p := p) (pool := p.2.1) hcl l10 a1 a2 a3 hat.ins hg
      have ea : (toX (patch1 (runL p.2.1 c L c.ins.length).places (opOf p.2.1 c.2.1 K i x d))).a = (n : Int) := by rw [hpo, if_pos hg, ← n1]
      rw [ea]
      rcases n3 with n3 | ⟨M, y, e, t, n3, n4⟩
      · exact .inl (by omega)
      · right
        have hb : (bodyL p.2.1 c L).ops[n]? = some (patch1 (runL p.2.1 c L c.ins.length).places (opOf p.2.1 c.2.1 M t y e)) := by
          show ((runL p.2.1 c L c.ins.length).ops.map _)[n]? = _
          rw [List.getElem?_map, n3]; rfl
        rw [kindAt_body hb, (patch_kind _ _).1]
        exact kind_one n4
  · obtain ⟨o, ho⟩ := get_lt (L := (bodyL p.2.1 c L).ops) (m := (bodyL p.2.1 c L).ops.length - 1) (by omega)
    obtain ⟨i, x, d, K, a1, a2, a3, a4, e, a6⟩ := body_op hcl ho
    have hl := last_op hcl l10 (k := (bodyL p.2.1 c L).ops.length - 1) (by omega) a1 a2 a3 a4
    have hat := at_of hrp hcl a1 a2 a3.1
    obtain ⟨j1, j2, j3, j4, j5⟩ := jump_op hat a3.2 (K := K)
    have hk : lastK (bodyX (f : Int) (c.2.1 + c.2.2.2.1) (bodyL p.2.1 c L)).ops = o.kind := by
      unfold lastK
      rw [hxl, ← kindAt_body (F := (f : Int)) (R := c.2.1 + c.2.2.2.1) ho]
      congr 1
      omega
    rw [hk, e, (patch_kind _ _).1]
    rcases hl with hl | hl
    · exact .inl (j4 hl)
    · exact .inr (j5 hl)
end Go.Proofs.Ytdlanbfbbopfhaa
