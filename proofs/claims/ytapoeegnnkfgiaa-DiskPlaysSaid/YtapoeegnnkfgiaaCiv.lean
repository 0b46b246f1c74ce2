/- The calendar's functions, each as a contract; no condition. -/
import Derived.Test.YtapoeegnnkfgiaaProg
import Derived.Test.YtapoeegnnkfgiaaCal
import Derived.WalkKit
import Derived.KernelRfl
import Derived.Deep.QuietTactic
import Derived.BigQuiet
import Derived.Lib.Hide
import Derived.Sort.AtCall
set_option linter.unusedVariables false
set_option linter.unusedSimpArgs false
namespace Go.Proofs.Ytapoeegnnkfgiaa
open Go.RowKit Cal

theorem emod_of_tmod (a n : Int) (hn : 0 < n) : a % n = if a.tmod n < 0 then a.tmod n + n else a.tmod n := by
  rw [Int.tmod_eq_emod]
  have h1 := Int.emod_nonneg a (by omega : n ≠ 0)
  have h2 := Int.emod_lt_of_pos a hn
  split <;> rename_i h3 <;> split <;> omega
theorem tmod_bd (a n : Int) (hn : 0 < n) : -n < a.tmod n ∧ a.tmod n < n := by
  rw [Int.tmod_eq_emod]
  have h1 := Int.emod_nonneg a (by omega : n ≠ 0)
  have h2 := Int.emod_lt_of_pos a hn
  split <;> omega
theorem tmod_zero (a n : Int) (hn : 0 < n) : a.tmod n = 0 ↔ a % n = 0 := by
  have h := emod_of_tmod a n hn
  have hb := tmod_bd a n hn
  split at h <;> omega
theorem mod_bd (a n : Int) (hn : 0 < n) : 0 ≤ a % n ∧ a % n < n := ⟨Int.emod_nonneg a (by omega), Int.emod_lt_of_pos a hn⟩

set_option maxHeartbeats 400000 in
theorem within_any (a n : Int) (w : World) (h0 : 0 < n) (h1 : n ≤ 4000000000001) :
    Calls Try.prog 29 #[.int .i64 a, .int .i64 n] w fun e w' => e = .returned (.int .i64 (a % n)) ∧ w' = w := by
  obtain ⟨hb1, hb2⟩ := tmod_bd a n h0
  have hz : (n == 0) = false := beq_eq_false_iff_ne.mpr (by omega)
  rw [emod_of_tmod a n h0]
  by_cases hc : a.tmod n < 0
  · rw [if_pos hc]
    go_enter Try.func29, Try.ntmps29
    go_wp2
    go_ret
    exact ⟨rfl, rfl⟩
  · rw [if_neg hc]
    go_enter Try.func29, Try.ntmps29
    go_wp2
    go_ret
    exact ⟨rfl, rfl⟩

/-- A leap year, as a test. -/
def lpB (y : Int) : Bool := decide (y % 4 = 0 ∧ (y % 100 ≠ 0 ∨ y % 400 = 0))
theorem lpB_true {y : Int} (h : y % 4 = 0 ∧ (y % 100 ≠ 0 ∨ y % 400 = 0)) : lpB y = true := decide_eq_true h
theorem lpB_false {y : Int} (h : ¬ (y % 4 = 0 ∧ (y % 100 ≠ 0 ∨ y % 400 = 0))) : lpB y = false := decide_eq_false h
theorem lp_of (y : Int) : lp y = if lpB y = true then 1 else 0 := by
  unfold lp
  by_cases h : y % 4 = 0 ∧ (y % 100 ≠ 0 ∨ y % 400 = 0)
  · rw [if_pos h, lpB_true h, if_pos rfl]
  · rw [if_neg h, lpB_false h, if_neg (by decide)]

set_option maxHeartbeats 1000000 in
theorem leap_any (y : Int) (w : World) : Calls Try.prog 25 #[.int .i64 y] w fun e w' => e = .returned (.bool (lpB y)) ∧ w' = w := by
  have z4 := tmod_zero y 4 (by decide)
  have z100 := tmod_zero y 100 (by decide)
  have z400 := tmod_zero y 400 (by decide)
  by_cases h4 : y.tmod 4 = 0
  · have b4 : (y.tmod 4 == 0) = true := beq_iff_eq.mpr h4
    by_cases h100 : y.tmod 100 = 0
    · have b100 : (y.tmod 100 != 0) = false := bne_eq_false_iff_eq.mpr h100
      by_cases h400 : y.tmod 400 = 0
      · have b400 : (y.tmod 400 == 0) = true := beq_iff_eq.mpr h400
        rw [lpB_true (by omega)]
        clear z4 z100 z400 h4 h100 h400
        go_enter Try.func25, Try.ntmps25
        go_wp2
        go_ret
        exact ⟨rfl, rfl⟩
      · have b400 : (y.tmod 400 == 0) = false := beq_eq_false_iff_ne.mpr h400
        rw [lpB_false (by omega)]
        clear z4 z100 z400 h4 h100 h400
        go_enter Try.func25, Try.ntmps25
        go_wp2
        go_ret
        exact ⟨rfl, rfl⟩
    · have b100 : (y.tmod 100 != 0) = true := bne_iff_ne.mpr h100
      rw [lpB_true (by omega)]
      clear z4 z100 z400 h4 h100
      go_enter Try.func25, Try.ntmps25
      go_wp2
      go_ret
      exact ⟨rfl, rfl⟩
  · have b4 : (y.tmod 4 == 0) = false := beq_eq_false_iff_ne.mpr h4
    have b400 : (y.tmod 400 == 0) = false := beq_eq_false_iff_ne.mpr (by omega)
    rw [lpB_false (by omega)]
    clear z4 z100 z400 h4
    go_enter Try.func25, Try.ntmps25
    go_wp2
    go_ret
    exact ⟨rfl, rfl⟩

/-- The months' lengths, as the code has them. -/
theorem months_at (j v : Int) (h : ∀ w : World, (Instr.index 76 (.agg #[.int .i64 31, .int .i64 28, .int .i64 31, .int .i64 30, .int .i64 31, .int .i64 30, .int .i64 31, .int .i64 31, .int .i64 30, .int .i64 31, .int .i64 30, .int .i64 31]) (.int .i64 j)).run Try.prog w = .ok (.int .i64 v) w) : ∀ w : World, (Instr.index 76 (.agg #[.int .i64 31, .int .i64 28, .int .i64 31, .int .i64 30, .int .i64 31, .int .i64 30, .int .i64 31, .int .i64 31, .int .i64 30, .int .i64 31, .int .i64 30, .int .i64 31]) (.int .i64 j)).run Try.prog w = .ok (.int .i64 v) w := h

set_option maxHeartbeats 1000000 in
theorem length_out (y m : Int) (w : World) (h : m < 1 ∨ 12 < m) : Calls Try.prog 27 #[.int .i64 y, .int .i64 m] w fun e w' => e = .returned (.int .i64 (dim y m)) ∧ w' = w := by
  rw [dim_zero y m h]
  by_cases h1 : m < 1
  · have d1 : decide (m < 1) = true := decide_eq_true h1
    clear h
    go_enter Try.func27, Try.ntmps27
    go_wp2
    go_ret
    exact ⟨rfl, rfl⟩
  · have d1 : decide (m < 1) = false := decide_eq_false h1
    have d2 : decide (12 < m) = true := decide_eq_true (by omega)
    clear h
    go_enter Try.func27, Try.ntmps27
    go_wp2
    go_ret
    exact ⟨rfl, rfl⟩

theorem length_1 (y : Int) (w : World) : Calls Try.prog 27 #[.int .i64 y, .int .i64 1] w fun e w' => e = .returned (.int .i64 31) ∧ w' = w := by
  have hix := months_at 0 31 (fun _ => by kernel_rfl)
  go_enter Try.func27, Try.ntmps27
  go_wp2
  go_ret
  exact ⟨rfl, rfl⟩

theorem length_3 (y : Int) (w : World) : Calls Try.prog 27 #[.int .i64 y, .int .i64 3] w fun e w' => e = .returned (.int .i64 31) ∧ w' = w := by
  have hix := months_at 2 31 (fun _ => by kernel_rfl)
  go_enter Try.func27, Try.ntmps27
  go_wp2
  go_ret
  exact ⟨rfl, rfl⟩

theorem length_4 (y : Int) (w : World) : Calls Try.prog 27 #[.int .i64 y, .int .i64 4] w fun e w' => e = .returned (.int .i64 30) ∧ w' = w := by
  have hix := months_at 3 30 (fun _ => by kernel_rfl)
  go_enter Try.func27, Try.ntmps27
  go_wp2
  go_ret
  exact ⟨rfl, rfl⟩

theorem length_5 (y : Int) (w : World) : Calls Try.prog 27 #[.int .i64 y, .int .i64 5] w fun e w' => e = .returned (.int .i64 31) ∧ w' = w := by
  have hix := months_at 4 31 (fun _ => by kernel_rfl)
  go_enter Try.func27, Try.ntmps27
  go_wp2
  go_ret
  exact ⟨rfl, rfl⟩

theorem length_6 (y : Int) (w : World) : Calls Try.prog 27 #[.int .i64 y, .int .i64 6] w fun e w' => e = .returned (.int .i64 30) ∧ w' = w := by
  have hix := months_at 5 30 (fun _ => by kernel_rfl)
  go_enter Try.func27, Try.ntmps27
  go_wp2
  go_ret
  exact ⟨rfl, rfl⟩

theorem length_7 (y : Int) (w : World) : Calls Try.prog 27 #[.int .i64 y, .int .i64 7] w fun e w' => e = .returned (.int .i64 31) ∧ w' = w := by
  have hix := months_at 6 31 (fun _ => by kernel_rfl)
  go_enter Try.func27, Try.ntmps27
  go_wp2
  go_ret
  exact ⟨rfl, rfl⟩

theorem length_8 (y : Int) (w : World) : Calls Try.prog 27 #[.int .i64 y, .int .i64 8] w fun e w' => e = .returned (.int .i64 31) ∧ w' = w := by
  have hix := months_at 7 31 (fun _ => by kernel_rfl)
  go_enter Try.func27, Try.ntmps27
  go_wp2
  go_ret
  exact ⟨rfl, rfl⟩

theorem length_9 (y : Int) (w : World) : Calls Try.prog 27 #[.int .i64 y, .int .i64 9] w fun e w' => e = .returned (.int .i64 30) ∧ w' = w := by
  have hix := months_at 8 30 (fun _ => by kernel_rfl)
  go_enter Try.func27, Try.ntmps27
  go_wp2
  go_ret
  exact ⟨rfl, rfl⟩

theorem length_10 (y : Int) (w : World) : Calls Try.prog 27 #[.int .i64 y, .int .i64 10] w fun e w' => e = .returned (.int .i64 31) ∧ w' = w := by
  have hix := months_at 9 31 (fun _ => by kernel_rfl)
  go_enter Try.func27, Try.ntmps27
  go_wp2
  go_ret
  exact ⟨rfl, rfl⟩

theorem length_11 (y : Int) (w : World) : Calls Try.prog 27 #[.int .i64 y, .int .i64 11] w fun e w' => e = .returned (.int .i64 30) ∧ w' = w := by
  have hix := months_at 10 30 (fun _ => by kernel_rfl)
  go_enter Try.func27, Try.ntmps27
  go_wp2
  go_ret
  exact ⟨rfl, rfl⟩

theorem length_12 (y : Int) (w : World) : Calls Try.prog 27 #[.int .i64 y, .int .i64 12] w fun e w' => e = .returned (.int .i64 31) ∧ w' = w := by
  have hix := months_at 11 31 (fun _ => by kernel_rfl)
  go_enter Try.func27, Try.ntmps27
  go_wp2
  go_ret
  exact ⟨rfl, rfl⟩

theorem length_2 (y : Int) (w : World) : Calls Try.prog 27 #[.int .i64 y, .int .i64 2] w fun e w' => e = .returned (.int .i64 (28 + lp y)) ∧ w' = w := by
  rw [lp_of]
  obtain ⟨b, hb⟩ : ∃ b, lpB y = b := ⟨_, rfl⟩
  have HL : Hid (∀ w : World, Calls Try.prog 25 #[.int .i64 y] w fun e w' => e = .returned (.bool b) ∧ w' = w) := fun w => by rw [← hb]; exact leap_any y w
  rw [hb]
  clear hb
  have hix := months_at 1 28 (fun _ => by kernel_rfl)
  cases b
  · go_enter Try.func27, Try.ntmps27
    go_wp2_with (first | (go_at_call 25; refine (HL.out _).mono ?_; rintro e w' ⟨rfl, rfl⟩))
    go_ret
    exact ⟨rfl, rfl⟩
  · go_enter Try.func27, Try.ntmps27
    go_wp2_with (first | (go_at_call 25; refine (HL.out _).mono ?_; rintro e w' ⟨rfl, rfl⟩))
    go_ret
    exact ⟨rfl, rfl⟩
theorem length_any (y m : Int) (w : World) : Calls Try.prog 27 #[.int .i64 y, .int .i64 m] w fun e w' => e = .returned (.int .i64 (dim y m)) ∧ w' = w := by
  by_cases h : m < 1 ∨ 12 < m
  · exact length_out y m w h
  · have hm : m = 1 ∨ m = 2 ∨ m = 3 ∨ m = 4 ∨ m = 5 ∨ m = 6 ∨ m = 7 ∨ m = 8 ∨ m = 9 ∨ m = 10 ∨ m = 11 ∨ m = 12 := by omega
    rcases hm with rfl | rfl | rfl | rfl | rfl | rfl | rfl | rfl | rfl | rfl | rfl | rfl
    · exact length_1 y w
    · exact length_2 y w
    · exact length_3 y w
    · exact length_4 y w
    · exact length_5 y w
    · exact length_6 y w
    · exact length_7 y w
    · exact length_8 y w
    · exact length_9 y w
    · exact length_10 y w
    · exact length_11 y w
    · exact length_12 y w

set_option maxHeartbeats 400000 in
theorem ahead_any (y : Int) (w : World) (h0 : 1 ≤ y) (h1 : y ≤ 20000) : Calls Try.prog 41 #[.int .i64 y] w fun e w' => e = .returned (.int .i64 (Cal.ahead y)) ∧ w' = w := by
  unfold Cal.ahead
  go_enter Try.func41, Try.ntmps41
  go_wp2
  go_ret
  exact ⟨rfl, rfl⟩
end Go.Proofs.Ytapoeegnnkfgiaa
