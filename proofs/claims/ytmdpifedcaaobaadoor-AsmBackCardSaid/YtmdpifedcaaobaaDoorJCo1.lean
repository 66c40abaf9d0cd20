/- Package code and its document: built-in calls, and what an instruction takes and lays. -/
import Derived.Test.YtmdpifedcaaobaaDoorProg
import Derived.Test.YtmdpifedcaaobaaDoorJAx3
set_option linter.unusedVariables false
set_option linter.unusedSimpArgs false
set_option maxRecDepth 20000
set_option maxHeartbeats 4000000
namespace Go.Proofs.YtmdpifedcaaobaaDoor
open Go Ax
def builtN (a : Int) : Int := if a = 1 ∨ a = 4 ∨ a = 6 ∨ a = 7 then 1 else if a = 2 ∨ a = 3 ∨ a = 5 then 2 else 0
def builtS (a : Int) : ByteArray :=
  if a = 1 then ⟨#[99, 111, 117, 110, 116]⟩ else if a = 2 then ⟨#[107, 101, 121]⟩ else if a = 3 then ⟨#[104, 97, 115]⟩ else if a = 4 then ⟨#[112, 114, 111, 116, 111]⟩ else if a = 5 then ⟨#[115, 101, 116, 112, 114, 111, 116, 111]⟩ else
  if a = 6 then ⟨#[108, 101, 110]⟩ else if a = 7 then ⟨#[115, 116, 114]⟩ else .empty
theorem seven {a : Int} (h1 : 1 ≤ a) (h7 : a ≤ 7) : a = 1 ∨ a = 2 ∨ a = 3 ∨ a = 4 ∨ a = 5 ∨ a = 6 ∨ a = 7 := by omega
theorem built_ax (H : Heap) (a : Int) : AX Tryd.prog 85 #[.int .i64 a] H (fun v H' => v = .tuple #[.string (builtS a), .int .i64 (builtN a)] ∧ H' = H) := by
  refine AX.body (n := 19) (rs := [.tmp 2, .tmp 3]) Tryd.func85 rfl (by decide) rfl rfl (bC_sound _ _ _ _ ?_)
  by_cases h : 1 ≤ a ∧ a ≤ 7
  · rcases seven h.1 h.2 with rfl | rfl | rfl | rfl | rfl | rfl | rfl <;> (refine run ?_; exact ⟨rfl, rfl⟩)
  · have e1 : (a == 1) = false := by rw [beq_eq_false_iff_ne]; omega
    have e2 : (a == 2) = false := by rw [beq_eq_false_iff_ne]; omega
    have e3 : (a == 3) = false := by rw [beq_eq_false_iff_ne]; omega
    have e4 : (a == 4) = false := by rw [beq_eq_false_iff_ne]; omega
    have e5 : (a == 5) = false := by rw [beq_eq_false_iff_ne]; omega
    have e6 : (a == 6) = false := by rw [beq_eq_false_iff_ne]; omega
    have e7 : (a == 7) = false := by rw [beq_eq_false_iff_ne]; omega
    have hs : builtS a = .empty := by unfold builtS; rw [if_neg (by omega), if_neg (by omega), if_neg (by omega), if_neg (by omega), if_neg (by omega), if_neg (by omega), if_neg (by omega)]
    have hn : builtN a = 0 := by unfold builtN; rw [if_neg (by omega), if_neg (by omega)]
    rw [hs, hn]
    refine run ?_
    exact ⟨rfl, rfl⟩
end Go.Proofs.YtmdpifedcaaobaaDoor
/- Package code: what an instruction takes and lays. -/
set_option linter.unusedVariables false
set_option linter.unusedSimpArgs false
set_option maxRecDepth 20000
set_option maxHeartbeats 8000000
namespace Go.Proofs.YtmdpifedcaaobaaDoor
open Go Ax
abbrev insV (op a b : Int) : Value := .agg #[.int .i64 op, .int .i64 a, .int .i64 b]
/-- What an instruction takes, and lays. -/
def eff (op a : Int) : Int × Int :=
  if op = 2 ∨ op = 3 ∨ op = 4 ∨ op = 5 ∨ op = 6 ∨ op = 7 ∨ op = 8 ∨ op = 10 ∨ op = 12 then (0, 1) else
  if op = 9 ∨ op = 11 ∨ op = 18 ∨ op = 23 ∨ op = 24 ∨ op = 25 ∨ op = 30 ∨ op = 31 ∨ op = 32 then (1, 0) else
  if op = 13 ∨ op = 16 ∨ op = 21 then (2, 1) else if op = 14 ∨ op = 20 then (1, 1) else if op = 15 ∨ op = 19 then (2, 0) else if op = 17 then (3, 0) else if op = 27 then (1, 2) else
  if op = 29 then (if 1 ≤ a ∧ a ≤ 7 then (builtN a, 1) else (0, 0)) else if op = 26 ∧ 0 ≤ a ∧ a ≤ 6 then (a + 1, 1) else if op = 28 ∧ 0 ≤ a ∧ a ≤ 6 then (a + 2, 1) else (0, 0)
theorem plain_two (a b : Int) : plain (.tuple #[.int .i64 a, .int .i64 b]) := plain_tuple (vs := [_, _]) fun x hx => by
  simp only [List.mem_cons, List.not_mem_nil, or_false] at hx
  rcases hx with rfl | rfl <;> exact plain_int _ _
theorem effect_ax (H : Heap) (op a b : Int) : AX Tryd.prog 68 #[insV op a b] H (fun v H' => v = .tuple #[.int .i64 (eff op a).1, .int .i64 (eff op a).2] ∧ H' = H) := by
  refine AX.quiet ?_
  suffices hh : AX Tryd.prog 68 #[insV op a b] H (fun v H' => v = .tuple #[.int .i64 (eff op a).1, .int .i64 (eff op a).2] ∧ Grow H H') from hh.mono fun v _ ⟨e, g⟩ => ⟨e ▸ plain_two _ _, e, g⟩
  refine AX.body (n := 71) (rs := [.tmp 2, .tmp 3]) Tryd.func68 rfl (by decide) rfl rfl (bC_sound _ _ _ _ ?_)
  (conv => whnf)
  refine Ob2.box rfl fun q H1 hq k1 k2 => ?_
  have hb := hblk_of k1
  by_cases h : 2 ≤ op ∧ op ≤ 32
  · by_cases h29 : op = 29
    · subst h29
      refine run ?_
      refine (built_ax H1 a).mono ?_
      rintro _ X ⟨rfl, e⟩
      subst X
      by_cases h7 : 1 ≤ a ∧ a ≤ 7
      · rcases seven h7.1 h7.2 with rfl | rfl | rfl | rfl | rfl | rfl | rfl <;> (refine run ?_; exact ⟨rfl, k2⟩)
      · have hs : builtS a = .empty := by unfold builtS; rw [if_neg (by omega), if_neg (by omega), if_neg (by omega), if_neg (by omega), if_neg (by omega), if_neg (by omega), if_neg (by omega)]
        have he : eff 29 a = (0, 0) := by simp [eff, h7]
        rw [hs, he]
        refine run ?_
        exact ⟨rfl, k2⟩
    by_cases h26 : op = 26 ∨ op = 28
    · by_cases ha : 0 ≤ a ∧ a ≤ 6
      · have d1 : decide (a ≥ 0) = true := decide_eq_true ha.1
        have d2 : decide (a ≤ 6) = true := decide_eq_true ha.2
        rcases h26 with rfl | rfl
        · have he : eff 26 a = (a + 1, 1) := by simp [eff, ha]
          have w : IntKind.i64.wrap (IntKind.i64.wrap (a + 1) + IntKind.i64.wrap ((26 : Int).tdiv 28)) = a + 1 := by rw [wrap_i64 (n := a + 1) (by omega) (by omega)]; show IntKind.i64.wrap (a + 1 + 0) = _; rw [wrap_i64 (by omega) (by omega)]; omega
          rw [he]
          refine run ?_
          exact ⟨congrArg (fun z => Value.tuple #[.int .i64 z, .int .i64 1]) w, k2⟩
        · have he : eff 28 a = (a + 2, 1) := by simp [eff, ha]
          have w : IntKind.i64.wrap (IntKind.i64.wrap (a + 1) + IntKind.i64.wrap ((28 : Int).tdiv 28)) = a + 2 := by rw [wrap_i64 (n := a + 1) (by omega) (by omega)]; show IntKind.i64.wrap (a + 1 + 1) = _; rw [wrap_i64 (by omega) (by omega)]; omega
          rw [he]
          refine run ?_
          exact ⟨congrArg (fun z => Value.tuple #[.int .i64 z, .int .i64 1]) w, k2⟩
      · have he : eff op a = (0, 0) := by rcases h26 with rfl | rfl <;> simp [eff, ha]
        rw [he]
        by_cases h0 : 0 ≤ a
        · have d1 : decide (a ≥ 0) = true := decide_eq_true h0
          have d2 : decide (a ≤ 6) = false := decide_eq_false (by omega)
          rcases h26 with rfl | rfl <;> (refine run ?_; exact ⟨rfl, k2⟩)
        · have d1 : decide (a ≥ 0) = false := decide_eq_false h0
          rcases h26 with rfl | rfl <;> (refine run ?_; exact ⟨rfl, k2⟩)
    · have hc : op = 2 ∨ op = 3 ∨ op = 4 ∨ op = 5 ∨ op = 6 ∨ op = 7 ∨ op = 8 ∨ op = 9 ∨ op = 10 ∨ op = 11 ∨ op = 12 ∨ op = 13 ∨ op = 14 ∨ op = 15 ∨ op = 16 ∨ op = 17 ∨ op = 18 ∨ op = 19 ∨ op = 20 ∨ op = 21 ∨ op = 22 ∨ op = 23 ∨ op = 24 ∨ op = 25 ∨ op = 27 ∨ op = 30 ∨ op = 31 ∨ op = 32 := by omega
      rcases hc with rfl | rfl | rfl | rfl | rfl | rfl | rfl | rfl | rfl | rfl | rfl | rfl | rfl | rfl | rfl | rfl | rfl | rfl | rfl | rfl | rfl | rfl | rfl | rfl | rfl | rfl | rfl | rfl <;> (refine run ?_; exact ⟨rfl, k2⟩)
  · have he : eff op a = (0, 0) := by
      unfold eff
      rw [if_neg (by omega), if_neg (by omega), if_neg (by omega), if_neg (by omega), if_neg (by omega), if_neg (by omega), if_neg (by omega), if_neg (by omega), if_neg (by omega), if_neg (by omega)]
    rw [he]
    have e2 : (op == 2) = false := by rw [beq_eq_false_iff_ne]; omega
    have e3 : (op == 3) = false := by rw [beq_eq_false_iff_ne]; omega
    have e4 : (op == 4) = false := by rw [beq_eq_false_iff_ne]; omega
    have e5 : (op == 5) = false := by rw [beq_eq_false_iff_ne]; omega
    have e6 : (op == 6) = false := by rw [beq_eq_false_iff_ne]; omega
    have e7 : (op == 7) = false := by rw [beq_eq_false_iff_ne]; omega
    have e8 : (op == 8) = false := by rw [beq_eq_false_iff_ne]; omega
    have e9 : (op == 9) = false := by rw [beq_eq_false_iff_ne]; omega
    have e10 : (op == 10) = false := by rw [beq_eq_false_iff_ne]; omega
    have e11 : (op == 11) = false := by rw [beq_eq_false_iff_ne]; omega
    have e12 : (op == 12) = false := by rw [beq_eq_false_iff_ne]; omega
    have e13 : (op == 13) = false := by rw [beq_eq_false_iff_ne]; omega
    have e14 : (op == 14) = false := by rw [beq_eq_false_iff_ne]; omega
    have e15 : (op == 15) = false := by rw [beq_eq_false_iff_ne]; omega
    have e16 : (op == 16) = false := by rw [beq_eq_false_iff_ne]; omega
    have e17 : (op == 17) = false := by rw [beq_eq_false_iff_ne]; omega
    have e18 : (op == 18) = false := by rw [beq_eq_false_iff_ne]; omega
    have e19 : (op == 19) = false := by rw [beq_eq_false_iff_ne]; omega
    have e20 : (op == 20) = false := by rw [beq_eq_false_iff_ne]; omega
    have e21 : (op == 21) = false := by rw [beq_eq_false_iff_ne]; omega
    have e22 : (op == 22) = false := by rw [beq_eq_false_iff_ne]; omega
    have e23 : (op == 23) = false := by rw [beq_eq_false_iff_ne]; omega
    have e24 : (op == 24) = false := by rw [beq_eq_false_iff_ne]; omega
    have e25 : (op == 25) = false := by rw [beq_eq_false_iff_ne]; omega
    have e26 : (op == 26) = false := by rw [beq_eq_false_iff_ne]; omega
    have e27 : (op == 27) = false := by rw [beq_eq_false_iff_ne]; omega
    have e28 : (op == 28) = false := by rw [beq_eq_false_iff_ne]; omega
    have e29 : (op == 29) = false := by rw [beq_eq_false_iff_ne]; omega
    have e30 : (op == 30) = false := by rw [beq_eq_false_iff_ne]; omega
    have e31 : (op == 31) = false := by rw [beq_eq_false_iff_ne]; omega
    have e32 : (op == 32) = false := by rw [beq_eq_false_iff_ne]; omega
    refine run ?_
    exact ⟨rfl, k2⟩
end Go.Proofs.YtmdpifedcaaobaaDoor
/- The document of package code: what an instruction takes and lays. -/
set_option linter.unusedVariables false
set_option linter.unusedSimpArgs false
set_option maxRecDepth 20000
set_option maxHeartbeats 8000000
namespace Go.Proofs.YtmdpifedcaaobaaDoor
open Go Ax
theorem plain_sn (s : ByteArray) (b : Int) : plain (.tuple #[.string s, .int .i64 b]) := plain_tuple (vs := [_, _]) fun x hx => by
  simp only [List.mem_cons, List.not_mem_nil, or_false] at hx
  rcases hx with rfl | rfl
  · exact plain_str _
  · exact plain_int _ _
theorem rbuilt_ax (H : Heap) (a : Int) : AX Tryd.prog 83 #[.int .i64 a] H (fun v H' => v = .tuple #[.string (builtS a), .int .i64 (builtN a)] ∧ H' = H) := by
  refine AX.alone (args := [.int .i64 a]) (fun v hv => by simp only [List.mem_singleton] at hv; subst hv; exact plain_int _ _) ?_
  suffices hh : AX Tryd.prog 83 [.int .i64 a].toArray [] (fun v _ => v = .tuple #[.string (builtS a), .int .i64 (builtN a)]) from hh.mono fun v _ e => ⟨e ▸ plain_sn _ _, e⟩
  refine AX.body (n := 32) (rs := [.tmp 2, .tmp 3]) Tryd.func83 rfl (by decide) rfl rfl (bC_sound _ _ _ _ ?_)
  refine run ?_
  refine Ob2.of (a := .slice (some ⟨0, 0, none⟩) 7 1) (b := [.cells (.row 9) [.string (builtS 1), .string (builtS 2), .string (builtS 3), .string (builtS 4), .string (builtS 5), .string (builtS 6), .string (builtS 7)]]) rfl ?_
  by_cases h : 1 ≤ a ∧ a ≤ 7
  · rcases seven h.1 h.2 with rfl | rfl | rfl | rfl | rfl | rfl | rfl <;> (refine run ?_; rfl)
  · have hs : builtS a = .empty := by unfold builtS; rw [if_neg (by omega), if_neg (by omega), if_neg (by omega), if_neg (by omega), if_neg (by omega), if_neg (by omega), if_neg (by omega)]
    have hn : builtN a = 0 := by unfold builtN; rw [if_neg (by omega), if_neg (by omega)]
    rw [hs, hn]
    by_cases h1 : a < 1
    · have d1 : decide (a < 1) = true := decide_eq_true h1
      refine run ?_
      rfl
    · have d1 : decide (a < 1) = false := decide_eq_false h1
      have d2 : decide (a > 7) = true := decide_eq_true (by omega)
      refine run ?_
      rfl
theorem reffect_ax (H : Heap) (op a b : Int) : AX Tryd.prog 61 #[insV op a b] H (fun v H' => v = .tuple #[.int .i64 (eff op a).1, .int .i64 (eff op a).2] ∧ H' = H) := by
  refine AX.quiet ?_
  suffices hh : AX Tryd.prog 61 #[insV op a b] H (fun v H' => v = .tuple #[.int .i64 (eff op a).1, .int .i64 (eff op a).2] ∧ Grow H H') from hh.mono fun v _ ⟨e, g⟩ => ⟨e ▸ plain_two _ _, e, g⟩
  refine AX.body (n := 79) (rs := [.tmp 2, .tmp 3]) Tryd.func61 rfl (by decide) rfl rfl (bC_sound _ _ _ _ ?_)
  (conv => whnf)
  refine Ob2.box rfl fun q H1 hq k1 k2 => ?_
  have hb := hblk_of k1
  by_cases h : 2 ≤ op ∧ op ≤ 32
  · by_cases h29 : op = 29
    · subst h29
      refine run ?_
      refine (rbuilt_ax H1 a).mono ?_
      rintro _ X ⟨rfl, e⟩
      subst X
      by_cases h7 : 1 ≤ a ∧ a ≤ 7
      · rcases seven h7.1 h7.2 with rfl | rfl | rfl | rfl | rfl | rfl | rfl <;> (refine run ?_; exact ⟨rfl, k2⟩)
      · have hn : builtN a = 0 := by unfold builtN; rw [if_neg (by omega), if_neg (by omega)]
        have he : eff 29 a = (0, 0) := by simp [eff, h7]
        rw [hn, he]
        refine run ?_
        exact ⟨rfl, k2⟩
    by_cases h26 : op = 26 ∨ op = 28
    · by_cases ha : 0 ≤ a ∧ a ≤ 6
      · have d1 : decide (a ≥ 0) = true := decide_eq_true ha.1
        have d2 : decide (a ≤ 6) = true := decide_eq_true ha.2
        rcases h26 with rfl | rfl
        · have he : eff 26 a = (a + 1, 1) := by simp [eff, ha]
          have w : IntKind.i64.wrap (a + 1) = a + 1 := by rw [wrap_i64 (by omega) (by omega)]
          rw [he]
          refine run ?_
          exact ⟨congrArg (fun z => Value.tuple #[.int .i64 z, .int .i64 1]) w, k2⟩
        · have he : eff 28 a = (a + 2, 1) := by simp [eff, ha]
          have w : IntKind.i64.wrap (a + 2) = a + 2 := by rw [wrap_i64 (by omega) (by omega)]
          rw [he]
          refine run ?_
          exact ⟨congrArg (fun z => Value.tuple #[.int .i64 z, .int .i64 1]) w, k2⟩
      · have he : eff op a = (0, 0) := by rcases h26 with rfl | rfl <;> simp [eff, ha]
        rw [he]
        by_cases h0 : 0 ≤ a
        · have d1 : decide (a ≥ 0) = true := decide_eq_true h0
          have d2 : decide (a ≤ 6) = false := decide_eq_false (by omega)
          rcases h26 with rfl | rfl <;> (refine run ?_; exact ⟨rfl, k2⟩)
        · have d1 : decide (a ≥ 0) = false := decide_eq_false h0
          rcases h26 with rfl | rfl <;> (refine run ?_; exact ⟨rfl, k2⟩)
    · have hc : op = 2 ∨ op = 3 ∨ op = 4 ∨ op = 5 ∨ op = 6 ∨ op = 7 ∨ op = 8 ∨ op = 9 ∨ op = 10 ∨ op = 11 ∨ op = 12 ∨ op = 13 ∨ op = 14 ∨ op = 15 ∨ op = 16 ∨ op = 17 ∨ op = 18 ∨ op = 19 ∨ op = 20 ∨ op = 21 ∨ op = 22 ∨ op = 23 ∨ op = 24 ∨ op = 25 ∨ op = 27 ∨ op = 30 ∨ op = 31 ∨ op = 32 := by omega
      rcases hc with rfl | rfl | rfl | rfl | rfl | rfl | rfl | rfl | rfl | rfl | rfl | rfl | rfl | rfl | rfl | rfl | rfl | rfl | rfl | rfl | rfl | rfl | rfl | rfl | rfl | rfl | rfl | rfl <;> (refine run ?_; exact ⟨rfl, k2⟩)
  · have he : eff op a = (0, 0) := by
      unfold eff
      rw [if_neg (by omega), if_neg (by omega), if_neg (by omega), if_neg (by omega), if_neg (by omega), if_neg (by omega), if_neg (by omega), if_neg (by omega), if_neg (by omega), if_neg (by omega)]
    rw [he]
    have e2 : (op == 2) = false := by rw [beq_eq_false_iff_ne]; omega
    have e3 : (op == 3) = false := by rw [beq_eq_false_iff_ne]; omega
    have e4 : (op == 4) = false := by rw [beq_eq_false_iff_ne]; omega
    have e5 : (op == 5) = false := by rw [beq_eq_false_iff_ne]; omega
    have e6 : (op == 6) = false := by rw [beq_eq_false_iff_ne]; omega
    have e7 : (op == 7) = false := by rw [beq_eq_false_iff_ne]; omega
    have e8 : (op == 8) = false := by rw [beq_eq_false_iff_ne]; omega
    have e9 : (op == 9) = false := by rw [beq_eq_false_iff_ne]; omega
    have e10 : (op == 10) = false := by rw [beq_eq_false_iff_ne]; omega
    have e11 : (op == 11) = false := by rw [beq_eq_false_iff_ne]; omega
    have e12 : (op == 12) = false := by rw [beq_eq_false_iff_ne]; omega
    have e13 : (op == 13) = false := by rw [beq_eq_false_iff_ne]; omega
    have e14 : (op == 14) = false := by rw [beq_eq_false_iff_ne]; omega
    have e15 : (op == 15) = false := by rw [beq_eq_false_iff_ne]; omega
    have e16 : (op == 16) = false := by rw [beq_eq_false_iff_ne]; omega
    have e17 : (op == 17) = false := by rw [beq_eq_false_iff_ne]; omega
    have e18 : (op == 18) = false := by rw [beq_eq_false_iff_ne]; omega
    have e19 : (op == 19) = false := by rw [beq_eq_false_iff_ne]; omega
    have e20 : (op == 20) = false := by rw [beq_eq_false_iff_ne]; omega
    have e21 : (op == 21) = false := by rw [beq_eq_false_iff_ne]; omega
    have e22 : (op == 22) = false := by rw [beq_eq_false_iff_ne]; omega
    have e23 : (op == 23) = false := by rw [beq_eq_false_iff_ne]; omega
    have e24 : (op == 24) = false := by rw [beq_eq_false_iff_ne]; omega
    have e25 : (op == 25) = false := by rw [beq_eq_false_iff_ne]; omega
    have e26 : (op == 26) = false := by rw [beq_eq_false_iff_ne]; omega
    have e27 : (op == 27) = false := by rw [beq_eq_false_iff_ne]; omega
    have e28 : (op == 28) = false := by rw [beq_eq_false_iff_ne]; omega
    have e29 : (op == 29) = false := by rw [beq_eq_false_iff_ne]; omega
    have e30 : (op == 30) = false := by rw [beq_eq_false_iff_ne]; omega
    have e31 : (op == 31) = false := by rw [beq_eq_false_iff_ne]; omega
    have e32 : (op == 32) = false := by rw [beq_eq_false_iff_ne]; omega
    refine run ?_
    exact ⟨rfl, k2⟩
end Go.Proofs.YtmdpifedcaaobaaDoor
