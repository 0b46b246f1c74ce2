/- within, of the disk's statements; no condition. -/
import Derived.Test.YtapoeegnnkfgiaaDNew
set_option linter.unusedVariables false
set_option linter.unusedSimpArgs false
namespace Go.Proofs.Ytapoeegnnkfgiaa
open Go.RowKit

theorem emod_of_tmod' (a n : Int) (hn : 0 < n) : a % n = if a.tmod n < 0 then a.tmod n + n else a.tmod n := by
  rw [Int.tmod_eq_emod]
  have h1 := Int.emod_nonneg a (by omega : n ≠ 0)
  have h2 := Int.emod_lt_of_pos a hn
  split <;> rename_i h3 <;> split <;> omega
theorem tmod_bd'' (a n : Int) (hn : 0 < n) : -n < a.tmod n ∧ a.tmod n < n := by
  rw [Int.tmod_eq_emod]
  have h1 := Int.emod_nonneg a (by omega : n ≠ 0)
  have h2 := Int.emod_lt_of_pos a hn
  split <;> omega
theorem tmod_zero' (a n : Int) (hn : 0 < n) : a.tmod n = 0 ↔ a % n = 0 := by
  have h := emod_of_tmod' a n hn
  have hb := tmod_bd'' a n hn
  split at h <;> omega
theorem mod_bd' (a n : Int) (hn : 0 < n) : 0 ≤ a % n ∧ a % n < n := ⟨Int.emod_nonneg a (by omega), Int.emod_lt_of_pos a hn⟩

set_option maxHeartbeats 400000 in
theorem dwithin_any (a n : Int) (w : World) (h0 : 0 < n) (h1 : n ≤ 4000000000001) :
    Calls Try.prog 14 #[.int .i64 a, .int .i64 n] w fun e w' => e = .returned (.int .i64 (a % n)) ∧ w' = w := by
  obtain ⟨hb1, hb2⟩ := tmod_bd'' a n h0
  have hz : (n == 0) = false := beq_eq_false_iff_ne.mpr (by omega)
  rw [emod_of_tmod' a n h0]
  by_cases hc : a.tmod n < 0
  · rw [if_pos hc]
    go_enter Try.func14, Try.ntmps14
    go_wp2
    go_ret
    exact ⟨rfl, rfl⟩
  · rw [if_neg hc]
    go_enter Try.func14, Try.ntmps14
    go_wp2
    go_ret
    exact ⟨rfl, rfl⟩

end Go.Proofs.Ytapoeegnnkfgiaa
