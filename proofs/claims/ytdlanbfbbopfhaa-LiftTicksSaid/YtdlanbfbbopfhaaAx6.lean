/- The abstract machine: append, copy, made slices, and that the real ones follow them. -/
import Derived.Test.YtdlanbfbbopfhaaAx5
set_option linter.unusedVariables false
set_option linter.unusedSimpArgs false
namespace Go.Proofs.Ytdlanbfbbopfhaa.Ax
open Go Go.RowKit

def noInt : TypeDesc → Bool
  | .slice _ | .string => true
  | _ => false

theorem app_room {P : Program} {t tx ty e : TypeId} {i : TypeInfo} {d : TypeDesc} (ht : P.underlying t = some (.slice e)) (hi : P.info? e = some i) (htx : P.underlying tx = some d) (hd : noInt d = true)
    {a : Option Addr} {sLen sCap n : Nat} {x : Value} {cl : Array Value} {w w' : World} (hlen : (Builtin.lenOf x).run P w = .ok n w) (hf : (Builtin.firstCells i.size n x).run P w = .ok cl w) (hroom : sLen + n ≤ sCap)
    (hst : ∀ b, a = some b → (storeCells (b.add (sLen * i.size)) cl.toList).run P w = .ok () w') (hno : a = none → w' = w) :
    (Builtin.append_ #[t, tx] ty #[.slice a sLen sCap, x]).run P w = .ok (.slice a (sLen + n) sCap) w' := by
  cases d <;> simp [noInt] at hd
  all_goals
    cases a with
    | none =>
      have := hno rfl
      subst this
      simp [Builtin.append_, run_underlying ht, run_underlying htx, sizeOf, typeInfo, hi, hlen, hroom, hf]
    | some b =>
      have h2 := hst b rfl
      simp [Builtin.append_, run_underlying ht, run_underlying htx, sizeOf, typeInfo, hi, hlen, hroom, hf, h2]

theorem app_grow {P : Program} {t tx ty e : TypeId} {i : TypeInfo} {d : TypeDesc} {z : Value} (ht : P.underlying t = some (.slice e)) (hi : P.info? e = some i) (hz : i.zero = some z) (htx : P.underlying tx = some d) (hd : noInt d = true)
    {a : Option Addr} {sLen sCap n : Nat} {x : Value} {cl old : Array Value} {w : World} (hlen : (Builtin.lenOf x).run P w = .ok n w) (hf : (Builtin.firstCells i.size n x).run P w.drew = .ok cl w.drew)
    (ho : (Builtin.firstCells i.size sLen (.slice a sLen sCap)).run P w.drew = .ok old w.drew) (hroom : sCap < sLen + n) (h63 : ((sLen + n : Nat) : Int) ≤ 9223372036854775807) (hb : (sLen + n) * i.bytes ≤ 140737488355328) :
    (Builtin.append_ #[t, tx] ty #[.slice a sLen sCap, x]).run P w = .ok (.slice (some ⟨w.heap.size, 0, none⟩) (sLen + n) (grownCap w (sLen + n) sCap e))
      (w.drew.alloc (.cells (old ++ cl ++ Builtin.zeroCells z.cells (grownCap w (sLen + n) sCap e - (sLen + n))) e)) := by
  have hfit := growslice_fits hroom hb
  have hn : ¬ (sLen + n ≤ sCap) := by omega
  have h63' : ¬ (9223372036854775807 < ((sLen : Int) + (n : Int))) := by omega
  have h48' : ¬ (281474976710656 < Builtin.nextslicecap (sLen + n) sCap * i.bytes) := by omega
  cases d <;> simp [noInt] at hd
  all_goals
    simp [Builtin.append_, run_underlying ht, run_underlying htx, sizeOf, typeInfo, zeroValue, hi, hz, hlen, hn, h63', h48', Question.forced, hf, ho, newRow, grownCap]

def srcOk (x : Value) (k : Nat) : Bool := match x with | .string _ => k == 1 | _ => true
/-- append. What was appended to is gone. -/
def aappend (P : Program) (t tx : TypeId) (s x : Value) (H : Heap) : Option (Value × Heap) :=
  (sliceElem P t).bind fun e => (P.info? e).bind fun i => (P.underlying tx).bind fun d =>
  if noInt d = true ∧ i.size ≠ 0 ∧ srcOk x i.size = true then
    (tzero P e).bind fun zs => (asrc i.size x H).bind fun (n, l) =>
    if zs.length ≠ i.size then none else
    if n = 0 then (match s with | .slice none 0 0 => some (s, H) | .slice (some ⟨_, _, none⟩) _ _ => some (s, H) | _ => none) else
    match s with
    | .slice none 0 0 => if n * i.bytes ≤ 140737488355328 ∧ n ≤ maxLen then some (.slice (some ⟨H.length, 0, none⟩) n i.size, H ++ [.cells (.row e) l]) else none
    | .slice (some ⟨b, off, none⟩) m es =>
      match H[b]? with
      | some (.cells (.row e') c) =>
        if e' = e ∧ es = i.size ∧ (m + n) * i.bytes ≤ 140737488355328 ∧ m + n ≤ maxLen then
          (slotsOf c off (m * i.size)).map fun old => (.slice (some ⟨H.length, 0, none⟩) (m + n) i.size, H.set b .dead ++ [.cells (.row e) (old ++ l)])
        else none
      | _ => none
    | _ => none
  else none

theorem zeroCells_size (z : Array Value) (n : Nat) : (Builtin.zeroCells z n).size = n * z.size := by simp [Builtin.zeroCells]

theorem aappend_run {P : Program} {w0 w : World} {ι : List Pl} {H H' : Heap} (hw : WR P w0 ι H w) {t tx ty : TypeId} {s x r cs cx : Value} (hs : VR ι s cs) (hx : VR ι x cx) (h : aappend P t tx s x H = some (r, H')) :
    ∃ ι' cr w', Ext ι ι' ∧ (Builtin.append_ #[t, tx] ty #[cs, cx]).run P w = .ok cr w' ∧ WR P w0 ι' H' w' ∧ VR ι' r cr := by
  unfold aappend at h
  simp only [Option.bind_eq_some_iff] at h
  obtain ⟨e, he, i, hi, d, hd, h⟩ := h
  split at h
  rotate_left
  · simp at h
  rename_i hc
  obtain ⟨hc1, hc2, hc3⟩ := hc
  simp only [Option.bind_eq_some_iff] at h
  obtain ⟨zs, hzs, ⟨n, l⟩, hl, h⟩ := h
  split at h
  · simp at h
  rename_i hzl
  simp only [ne_eq, Decidable.not_not] at hzl
  have hsl := sliceElem_eq he
  have hes : tsize P e = some i.size := by simp [tsize, hi]
  obtain ⟨cl, hf, hlen, hL, hone, hln⟩ := asrc_run hw hx hl (fun s hs => by subst hs; simpa [srcOk] using hc3)
  have hfw := hf w (Below.refl _ _)
  have hfd := hf w.drew (Below.refl _ _).drew
  -- the zero value
  obtain ⟨z, hz, hzc⟩ : ∃ z, i.zero = some z ∧ z.cells.toList = zs := by
    obtain ⟨z, hz, hzc, _⟩ := run_zeroValue hzs w
    simp only [zeroValue, typeInfo, Sem.run_bind, run_program, Result.andThen_ok, hi, Sem.run_pure] at hz
    cases hzz : i.zero with
    | none => simp [hzz] at hz
    | some z' => simp [hzz] at hz; exact ⟨z', rfl, by rw [hz]; exact hzc⟩
  have hzsz : z.cells.size = i.size := by rw [← hzl, ← hzc]; simp
  split at h
  · -- nothing is appended
    rename_i hn
    subst hn
    have hcl : cl.toList = [] := by
      have h1 := hL.1
      simp only [Nat.zero_mul] at hln
      rw [hln] at h1
      exact List.eq_nil_of_length_eq_zero h1.symm
    split at h
    · simp only [Option.some.injEq, Prod.mk.injEq] at h
      obtain ⟨rfl, rfl⟩ := h
      cases hs
      refine ⟨ι, _, w, .refl _, app_room hsl hi hd hc1 (hlen w) hfw (Nat.le_refl _) (fun b hb => by simp at hb) (fun _ => rfl), hw, .slice0⟩
    · simp only [Option.some.injEq, Prod.mk.injEq] at h
      obtain ⟨rfl, rfl⟩ := h
      have hs' := hs
      cases hs with
      | slice _ _ _ _ cap ca pl hp g1 g2 g3 g4 =>
        exact ⟨ι, _, w, .refl _, app_room hsl hi hd hc1 (hlen w) hfw (by omega) (fun b hb => by rw [hcl]; rfl) (fun _ => rfl), hw, hs'⟩
    · simp at h
  · rename_i hn
    split at h
    · -- onto nil
      split at h
      rotate_left
      · simp at h
      rename_i hb
      simp only [Option.some.injEq, Prod.mk.injEq] at h
      obtain ⟨rfl, rfl⟩ := h
      cases hs
      have hml := hb.2
      unfold maxLen at hml
      have hrun := app_grow (P := P) (ty := ty) hsl hi hz hd hc1 (a := none) (sLen := 0) (sCap := 0) (hlen w) hfd (by simp [Builtin.firstCells]; rfl) (by omega) (by omega) (by rw [Nat.zero_add]; exact hb.1)
      rw [Nat.zero_add] at hrun
      have hg1 := grownCap_ge w n 0 e
      have hg2 := grownCap_le_maxLen w n 0 e hb.2
      have hcls : cl.size = n * i.size := by have := hL.1; simp at this; omega
      have hadd : n * i.size + (grownCap w n 0 e - n) * i.size = grownCap w n 0 e * i.size := by rw [← Nat.add_mul]; congr 1; omega
      obtain ⟨ι', hx', hW, hV⟩ := hw.drew.newRow (cs := l) (ccs := #[] ++ cl ++ Builtin.zeroCells z.cells (grownCap w n 0 e - n)) (by
          rw [Array.toList_append, Array.toList_append, hln]
          have : (#[].toList ++ cl.toList ++ (Builtin.zeroCells z.cells (grownCap w n 0 e - n)).toList).take (n * i.size) = cl.toList := by
            rw [List.take_append_of_le_length (by simp; omega)]
            simp only [List.nil_append, ← hcls]
            exact List.take_of_length_le (by simp)
          rw [this]; exact hL) hone e hes hc2 hln (by simp [zeroCells_size, hzsz]; omega) hg1 hg2
      exact ⟨ι', _, _, hx', hrun, hW, hV⟩
    · -- onto a row
      rename_i b off m es
      split at h
      rotate_left
      · simp at h
      rename_i e' c hb
      split at h
      rotate_left
      · simp at h
      rename_i hq
      obtain ⟨rfl, rfl, hq1, hq2⟩ := hq
      simp only [Option.map_eq_some_iff, Prod.mk.injEq] at h
      obtain ⟨old, hold, rfl, rfl⟩ := h
      unfold slotsOf at hold
      split at hold
      rotate_left
      · simp at hold
      rename_i hle
      simp only [Option.some.injEq] at hold
      subst hold
      obtain ⟨pl, hp, cc, e2, fr, hC, ho, hrow⟩ := hw.get hb
      obtain ⟨rfl, hez, i2, hi2, hi2s⟩ := hrow
      rw [hi] at hi2
      simp only [Option.some.injEq] at hi2
      subst hi2
      have hml := hq2
      unfold maxLen at hml
      cases hs with
      | slice _ _ _ _ cap ca pl' hp' g1 g2 g3 g4 =>
        rw [hp] at hp'
        simp only [Option.some.injEq] at hp'
        subst hp'
        obtain ⟨hLo, honeo, hleno, hcello⟩ := hC.range off (m * i.size) hle
        have hbl : b < H.length := (List.getElem?_eq_some_iff.1 hb).1
        by_cases hroom : m + n ≤ cap
        · -- in place
          have e3 := g3 (by omega)
          subst e3
          have g4' := g4 hez (by omega)
          obtain ⟨ge, hfr⟩ := ho rfl
          have hmul : m * i.size + n * i.size ≤ cap * i.size := by rw [← Nat.add_mul]; exact Nat.mul_le_mul_right _ hroom
          have hcln : cl.toList.length = n * i.size := by rw [← hL.1]; exact hln
          have hone' : ∀ v ∈ cl.toList, v.oneCell' = true := by
            intro v hvm
            obtain ⟨j, hj, rfl⟩ := List.getElem_of_mem hvm
            obtain ⟨c', hc', hr⟩ := hL.2 j (l[j]'(by have := hL.1; omega)) (by simp)
            rw [List.getElem?_eq_getElem hj] at hc'
            simp only [Option.some.injEq] at hc'
            rw [hc', VR.oneCell hr]
            exact hone _ (List.getElem_mem _)
          have hCs := hC.2.1
          obtain ⟨w', hr, e1, e2', e3', e4, e5, e6⟩ := run_storeCells (P := P) hfr cl.toList w cc (pl.off + off + m * i.size) 0 hC.1 (by omega) hone'
          have hrun := app_room (P := P) (ty := ty) hsl hi hd hc1 (a := some ⟨pl.blk, pl.off + off, none⟩) (sLen := m) (sCap := cap) (w' := w') (hlen w) hfw hroom
            (fun b' hb' => by simp only [Option.some.injEq] at hb'; subst hb'; rw [add_none]; exact hr) (fun hh => by simp at hh)
          have hW1 : WR P w0 ι (H.set b .dead) w' := hw.upd hb hp rfl e1 e2' e3' (by omega) (fun k _ hk => e5 k hk) trivial
          have hlen1 : ι.length = (H.set b .dead).length := hW1.len
          have hx' : (ι ++ [⟨pl.blk, pl.off + off, pl.size - off, pl.esz⟩])[H.length]? = some ⟨pl.blk, pl.off + off, pl.size - off, pl.esz⟩ := by rw [← hw.len]; simp
          refine ⟨ι ++ [⟨pl.blk, pl.off + off, pl.size - off, pl.esz⟩], _, w', .push _ _, hrun, hW1.push _ _ ⟨_, e2, fr, ⟨e6, by rw [putA_size]; have := hC.2.1; simp only; omega, ?_, fun j v hj => ?_⟩, fun _ => ⟨ge, hfr⟩, rfl, hez, i, hi, hi2s⟩ ?_, ?_⟩
          · have := hL.1; simp [hln]; omega
          · dsimp only
            rw [← Array.getElem?_toList, putA_toList, putL_get]
            by_cases hj1 : j < m * i.size
            · rw [List.getElem?_append_left (by simp; omega)] at hj
              obtain ⟨cv, hcv, hrv⟩ := hLo.2 j v hj
              refine ⟨honeo v (List.mem_of_getElem? hj), cv, ?_, hrv.ext (.push _ _)⟩
              rw [if_neg (by omega)]
              rw [List.getElem?_take, if_pos hj1, List.getElem?_drop] at hcv
              exact hcv
            · rw [List.getElem?_append_right (by simp; omega)] at hj
              have hlo : ((c.drop off).take (m * i.size)).length = m * i.size := by simp; omega
              rw [hlo] at hj
              have hjl := (List.getElem?_eq_some_iff.1 hj).1
              obtain ⟨cv, hcv, hrv⟩ := hL.2 _ v hj
              refine ⟨hone v (List.mem_of_getElem? hj), cv, ?_, hrv.ext (.push _ _)⟩
              rw [if_pos (by have hcz : cc.toList.length = cc.size := Array.length_toList; have := hL.1; omega), ← hcv]
              congr 1
              omega
          · intro b2 C q h1 h2 ha hbq
            exfalso
            by_cases hbb : b2 = b
            · subst hbb
              rw [List.getElem?_set_self hbl] at h1
              simp only [Option.some.injEq] at h1
              subst h1
              simp [Blk.alive] at ha
            · rw [List.getElem?_set_ne (by omega)] at h1
              exact hbb (hw.inj b b2 _ C pl q hb h1 hp h2 rfl ha hbq.symm).symm
          · exact VR.slice (ι := ι ++ [⟨pl.blk, pl.off + off, pl.size - off, pl.esz⟩]) H.length 0 (m + n) i.size cap ⟨pl.blk, pl.off + off, none⟩ ⟨pl.blk, pl.off + off, pl.size - off, pl.esz⟩ hx' hroom g2 (fun _ => rfl) (fun _ _ => by simp only [Nat.zero_add]; omega)
        · -- a new array
          have hof : (Builtin.firstCells i.size m (.slice (some ca) m cap)).run P w.drew = .ok ((cc.toList.drop (pl.off + off)).take (m * i.size)).toArray w.drew := by
            by_cases hm0 : m = 0
            · subst hm0
              simp [Builtin.firstCells, loadCells, loadCellsFrom]
            · have e3 := g3 (by omega)
              subst e3
              exact run_firstCells_some (P := P) w.drew i.size m ⟨pl.blk, pl.off + off, none⟩ m cap _ hleno (fun j v hj => by simpa using hcello j v hj)
          have hrun := app_grow (P := P) (ty := ty) hsl hi hz hd hc1 (a := some ca) (sLen := m) (sCap := cap) (hlen w) hfd hof (by omega) (by omega) hq1
          have hg1 := grownCap_ge w (m + n) cap e2
          have hg2 := grownCap_le_maxLen w (m + n) cap e2 hq2
          have hcln : cl.toList.length = n * i.size := by rw [← hL.1]; exact hln
          have hmn : m * i.size + n * i.size = (m + n) * i.size := by rw [Nat.add_mul]
          have hadd : (m + n) * i.size + (grownCap w (m + n) cap e2 - (m + n)) * i.size = grownCap w (m + n) cap e2 * i.size := by rw [← Nat.add_mul]; congr 1; omega
          obtain ⟨ι', hx', hW, hV⟩ := (hw.kill b).drew.newRow (cs := (c.drop off).take (m * i.size) ++ l)
            (ccs := ((cc.toList.drop (pl.off + off)).take (m * i.size)).toArray ++ cl ++ Builtin.zeroCells z.cells (grownCap w (m + n) cap e2 - (m + n))) (by
              have hlen2 : ((c.drop off).take (m * i.size) ++ l).length = (m + n) * i.size := by simp; omega
              rw [hlen2, Array.toList_append, Array.toList_append]
              have hl3 : ((cc.toList.drop (pl.off + off)).take (m * i.size) ++ cl.toList).length = (m + n) * i.size := by rw [List.length_append, hcln, hleno]; exact hmn
              have : (((cc.toList.drop (pl.off + off)).take (m * i.size)).toArray.toList ++ cl.toList ++ (Builtin.zeroCells z.cells (grownCap w (m + n) cap e2 - (m + n))).toList).take ((m + n) * i.size) = (cc.toList.drop (pl.off + off)).take (m * i.size) ++ cl.toList := by
                rw [List.toList_toArray, List.take_append_of_le_length (by omega), List.take_of_length_le (by omega)]
              rw [this]
              exact hLo.append hL) (fun v hv => by
                rcases List.mem_append.1 hv with hv | hv
                · exact honeo v hv
                · exact hone v hv) e2 hes hc2 (by simp; omega) (by
                  have : ((cc.toList.drop (pl.off + off)).take (m * i.size)).length = m * i.size := hleno
                  have hcz : cl.size = n * i.size := by simpa using hcln
                  simp only [Array.size_append, List.size_toArray, this, hcz, zeroCells_size, hzsz]; omega) hg1 hg2
          have hl2 : (H.set b .dead).length = H.length := by simp
          rw [hl2] at hV
          exact ⟨ι', _, _, hx', hrun, hW, hV⟩
    · simp at h

end Go.Proofs.Ytdlanbfbbopfhaa.Ax
