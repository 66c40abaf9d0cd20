/- The statements of package dict: what stays while acts are done. -/
import Derived.Test.YtnmfmgnkfkhdhaaDi17
set_option linter.unusedVariables false
set_option linter.unusedSimpArgs false
set_option maxRecDepth 20000
set_option maxHeartbeats 2000000
namespace Go.Proofs.Ytnmfmgnkfkhdhaa
open Go Ax
theorem Has9.len {H : Heap} {p N : Nat} {L : List (ByteArray × V)} (h : Has9 H p L N) : L.length ≤ N := by obtain ⟨ps, _, rfl, h2⟩ := h; exact Nat.le_trans (full_len ps) h2
theorem Acts.x {H H' : Heap} {p q : Nat} {sv : Value} {L : List ActT} (h : Acts H sv L) (k : KeepX p q H H') (hp : ∃ c, H[p]? = some (.cells .var c)) (hq : ∃ c, H[q]? = some (.cells .var c)) : Acts H' sv L := by
  obtain ⟨c1, hp⟩ := hp
  obtain ⟨c2, hq⟩ := hq
  exact h.keep fun b c hb => k.2 b _ hb (by rintro rfl; rw [hp] at hb; simp at hb) (by rintro rfl; rw [hq] at hb; simp at hb) rfl rfl
theorem Acts.g {H H' : Heap} {sv : Value} {L : List ActT} (h : Acts H sv L) (k : Grow H H') : Acts H' sv L := h.keep fun b c hb => k.at hb
theorem Acts.ld {H : Heap} {sv : Value} {L : List ActT} (h : Acts H sv L) {i : Nat} {x : ActT} (hx : L[i]? = some x) : ∃ pp, aindexAddr Try.prog 22 sv (.int .i64 (i : Int)) = some pp ∧ aload Try.prog 34 pp H = some (actV x.1 x.2.1 x.2.2) := by
  obtain ⟨b, h1, c, h2, h3⟩ := h.at hx
  exact ⟨_, h1, ald_agg rfl rfl rfl h2 h3⟩
end Go.Proofs.Ytnmfmgnkfkhdhaa
