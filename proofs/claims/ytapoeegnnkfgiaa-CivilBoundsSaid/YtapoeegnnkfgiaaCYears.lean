/- CivilYears: the walk; no condition. -/
import Derived.Test.YtapoeegnnkfgiaaCBack
set_option linter.unusedVariables false
set_option linter.unusedSimpArgs false
namespace Go.Proofs.Ytapoeegnnkfgiaa
open Go.RowKit Cal Go.Proofs.YtapoeegnnkfgiaaW.PrintWords

theorem leap_at (y : Int) (b : Bool) (w : World) (h : Hid (lpB y = b)) : Calls Try.prog 25 #[.int .i64 y] w fun e w' => e = .returned (.bool b) ∧ w' = w := by
  rw [← h.out]; exact leap_any y w
theorem first_day (y : Int) (h1 : 1 ≤ y) (h2 : y ≤ 9999) : Vld y 1 1 := ⟨h1, h2, by decide, by decide, by decide, Int.le_trans (by decide) (dim_lo y 1 (by decide) (by decide))⟩
theorem first_num (y : Int) : num y 1 1 = -719162 + Cal.ahead y := by
  unfold num
  show -719162 + (Cal.ahead y + 0 + 1 - 1) = _
  omega

set_option maxRecDepth 100000 in
set_option maxHeartbeats 4000000 in
theorem years_walk (year : Int) (W : World) :
    Calls Try.prog 6 #[.int .i64 year] W fun e W' => e = .returned (.bool true) ∧ Below W.heap.size W W' := by
  obtain ⟨hz1, hz2⟩ := mod_bd year 9500 (by decide)
  generalize hz : year % 9500 = z at hz1 hz2
  have HZ := Lib.hid hz
  clear hz
  obtain ⟨y, hy⟩ : ∃ y : Int, 1 + z = y := ⟨_, rfl⟩
  have y1 : 1 ≤ y := by omega
  have y2 : y ≤ 9500 := by omega
  obtain ⟨A, hA⟩ : ∃ A : Int, num y 1 1 = A := ⟨_, rfl⟩
  have bA := (first_day y y1 (by omega)).bd
  rw [hA] at bA
  obtain ⟨bA1, bA2⟩ := bA
  have HA : Day y 1 1 1 A := ⟨rfl, first_day y y1 (by omega), hA⟩
  have HC : Day (y + 400) 1 1 1 (A + 146097) := ⟨rfl, first_day _ (by omega) (by omega), by rw [← hA, first_num, first_num, ahead_era]; omega⟩
  have key : ∀ (b : Bool) (D : Int), Hid (lpB y = b) → Hid (cum y 12 = D) → D = (if b = true then 366 else 365) → Day (y + 1) 1 1 1 (A + D) → 365 ≤ D → D ≤ 366 →
      Calls Try.prog 6 #[.int .i64 year] W fun e W' => e = .returned (.bool true) ∧ Below W.heap.size W W' := by
    intro b D hb hD hbD HB hD1 hD2
    have t1 : (A + D - A == D) = true := beq_iff_eq.mpr (by omega)
    have t2 : (A + 146097 - A == 146097) = true := beq_iff_eq.mpr (by omega)
    clear hA hz1 hz2
    cases b
    all_goals
      simp only [if_true, Bool.false_eq_true, if_false] at hbD
      subst hbD
      go_enter Try.func6, Try.ntmps6
      go_wp2_with (first
        | (go_at_call 20; refine (known_any _).mono ?_; rintro e w1 ⟨rfl, hw1⟩; have HW1 := Lib.hid hw1; clear hw1)
        | (go_at_call 29; refine (within_at _ _ z _ (by decide) (by decide) HZ).mono ?_; rintro e w2 ⟨rfl, rfl⟩)
        | (go_at_call_has 23 (Value.agg #[.int .i64 (y + 1), .int .i64 1, .int .i64 1]); refine (num_at _ _ _ _ _ _ HB).mono ?_; rintro e w4 ⟨rfl, hw4⟩; have HW4 := Lib.hid hw4; clear hw4)
        | (go_at_call_has 23 (Value.agg #[.int .i64 (y + 400), .int .i64 1, .int .i64 1]); refine (num_at _ _ _ _ _ _ HC).mono ?_; rintro e w5 ⟨rfl, hw5⟩; have HW5 := Lib.hid hw5; clear hw5)
        | (go_at_call 23; refine (num_at _ _ _ _ _ _ HA).mono ?_; rintro e w3 ⟨rfl, hw3⟩; have HW3 := Lib.hid hw3; clear hw3)
        | (go_at_call 25; refine (leap_at y _ _ hb).mono ?_; rintro e w6 ⟨rfl, rfl⟩))
      have HQ : Hid (Below W.heap.size W w6) := below_then' (below_then' (below_then' HW1.out HW3.out HW1.out.size) HW4.out (below_then' HW1.out HW3.out HW1.out.size).size) HW5.out (below_then' (below_then' HW1.out HW3.out HW1.out.size) HW4.out (below_then' HW1.out HW3.out HW1.out.size).size).size
      clear HW1 HW3 HW4 HW5
      go_loop [10, 11] (fun s i => ∃ (j : Nat) (C : Int), 1 ≤ j ∧ j ≤ 13 ∧ i = .int .i64 j ∧ s = .int .i64 C ∧ 0 ≤ C ∧ C ≤ 400 ∧ Hid (cum y (j - 1) = C)) (fun _ i => 13 - (intOf i).toNat)
      case atStart => exact ⟨1, 0, by omega, by omega, rfl, rfl, by omega, by omega, rfl⟩
      case round =>
        obtain ⟨j, C, j1, j2, rfl, rfl, c1, c2, HCj⟩ := hrel
        by_cases hj : j ≤ 12
        · obtain ⟨K, hK⟩ : ∃ K : Int, dim y j = K := ⟨_, rfl⟩
          have hK1 := (dim_bd y j).1
          have hK2 := (dim_bd y j).2
          rw [hK] at hK1 hK2
          have HC2 : Hid (cum y (j + 1 - 1) = C + K) := by
            obtain ⟨q, rfl⟩ : ∃ q, j = q + 1 := ⟨j - 1, by omega⟩
            have h := HCj.out
            show cum y q + dim y ((q : Int) + 1) = C + K
            rw [← hK, ← h]; rfl
          have hCK : C + K ≤ 400 := by have h1 := (cum_bd y (j + 1 - 1)).2; have h2 := HC2.out; omega
          have HK := Lib.hid hK
          have d12 : decide ((j : Int) ≤ 12) = true := by simp; omega
          clear hK
          go_wp2_with (first
            | (go_at_call 27; refine (length_at y j K _ HK).mono ?_; rintro e w7 ⟨rfl, rfl⟩))
          go_round
          case rel => exact ⟨j + 1, C + K, by omega, by omega, by go_num, by go_num, by omega, by omega, HC2⟩
          case measure => simp [intOf]; omega
        · obtain rfl : j = 13 := by omega
          have hCD := HCj.out
          rw [show 13 - 1 = 12 from rfl, hD.out] at hCD
          subst hCD
          clear HCj j1 j2 hj
          go_wp2
          go_ret
          exact ⟨rfl, HQ.out⟩
  have h12 := cum_12 y
  have hlp := lp_of y
  have hB : ∀ D : Int, cum y 12 = D → num (y + 1) 1 1 = A + D := fun D hD => by rw [← hA, first_num, first_num, ahead_succ, ← hD, cum_12]; omega
  rcases hb : lpB y with _ | _
  · rw [hb] at hlp
    simp only [Bool.false_eq_true, if_false] at hlp
    exact key false 365 hb (by show cum y 12 = 365; omega) rfl ⟨rfl, first_day _ (by omega) (by omega), hB 365 (by omega)⟩ (by omega) (by omega)
  · rw [hb] at hlp
    simp only [if_true] at hlp
    exact key true 366 hb (by show cum y 12 = 366; omega) rfl ⟨rfl, first_day _ (by omega) (by omega), hB 366 (by omega)⟩ (by omega) (by omega)
end Go.Proofs.Ytapoeegnnkfgiaa
