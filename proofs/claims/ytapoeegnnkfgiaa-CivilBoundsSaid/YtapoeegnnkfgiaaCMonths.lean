/- CivilMonths: the walk; no condition. -/
import Derived.Test.YtapoeegnnkfgiaaCOrder
set_option linter.unusedVariables false
set_option linter.unusedSimpArgs false
namespace Go.Proofs.Ytapoeegnnkfgiaa
open Go.RowKit Cal Go.Proofs.YtapoeegnnkfgiaaW.PrintWords

theorem num_bad (y m d : Int) (w : World) (h : Hid (dim y m < d)) :
    Calls Try.prog 23 #[.agg #[.int .i64 y, .int .i64 m, .int .i64 d]] w fun e w' => e = .returned (.tuple #[.int .i64 0, .int .i64 1]) ∧ Below w.heap.size w w' :=
  num_no y m d w (.inr (.inr (.inr h.out)))

set_option maxRecDepth 100000 in
set_option maxHeartbeats 8000000 in
theorem months_walk (year month : Int) (W : World) :
    Calls Try.prog 9 #[.int .i64 year, .int .i64 month] W fun e W' => e = .returned (.bool true) ∧ Below W.heap.size W W' := by
  obtain ⟨hz1, hz2⟩ := mod_bd year 9990 (by decide)
  generalize hz : year % 9990 = z at hz1 hz2
  obtain ⟨hx1, hx2⟩ := mod_bd month 12 (by decide)
  generalize hx : month % 12 = x at hx1 hx2
  have HZ := Lib.hid hz
  have HX := Lib.hid hx
  clear hz hx
  obtain ⟨y, hy⟩ : ∃ y : Int, 1 + z = y := ⟨_, rfl⟩
  obtain ⟨m, hm⟩ : ∃ m : Int, 1 + x = m := ⟨_, rfl⟩
  have y1 : 1 ≤ y := by omega
  have y2 : y ≤ 9990 := by omega
  have m1 : 1 ≤ m := by omega
  have m2 : m ≤ 12 := by omega
  have hM : m = ((m.toNat : Nat) : Int) := by omega
  obtain ⟨L, hL⟩ : ∃ L : Int, dim y m = L := ⟨_, rfl⟩
  have l1 := dim_lo y m m1 m2
  have l2 := (dim_bd y m).2
  rw [hL] at l1 l2
  have hv : Vld y m.toNat 1 := ⟨y1, by omega, by omega, by omega, by decide, by rw [← hM, hL]; omega⟩
  have hvL : Vld y m.toNat L := ⟨y1, by omega, by omega, by omega, by omega, by rw [← hM, hL]; omega⟩
  have hnL : num y m.toNat L = num y m.toNat 1 + (L - 1) := by unfold num; omega
  have bA := hv.bd
  have bL := hvL.bd
  obtain ⟨A, hA⟩ : ∃ A : Int, num y m.toNat 1 = A := ⟨_, rfl⟩
  have HA : Day y m 1 m.toNat A := ⟨hM, hv, hA⟩
  have HL := Lib.hid hL
  have HL1 : Hid (dim y m < L + 1) := by show dim y m < L + 1; omega
  rw [hnL, hA] at bL
  rw [hA] at bA
  have t0 : (A + L - A == L) = true := beq_iff_eq.mpr (by omega)
  have bN : num y m.toNat L + 1 ≤ 2932896 := by
    have h1 := hvL.num_hi
    have h2 := ahead_mono (y + 1) 9999 (by omega)
    have h3 : Cal.ahead 9999 = 3651694 := by decide
    omega
  have hlp := lp_of y
  obtain ⟨b, hb⟩ : ∃ b, lpB y = b := ⟨_, rfl⟩
  rw [hb] at hlp
  have Hb := Lib.hid hb
  by_cases hc : m < 12
  · have hn := next_b (m := m.toNat) (d := L) hvL (by rw [← hM, hL]; omega) (by omega)
    have HB : Day y (m + 1) 1 (m.toNat + 1) (A + L) := ⟨by omega, hn.1, by rw [hn.2, hnL, hA]; omega⟩
    have c12 : (m == 12) = false := beq_eq_false_iff_ne.mpr (by omega)
    clear hn hv hvL hnL hM hL hb hA bN hz1 hz2 hx1 hx2
    rcases b with _ | _
    all_goals
      simp only [Bool.false_eq_true, if_false, if_true] at hlp
      have H2 : Hid (dim y 2 = 28 + lp y) := dim_2 y
      rw [hlp] at H2
      clear hlp
      go_enter Try.func9, Try.ntmps9
      go_wp2_with (first
        | (go_at_call 20; refine (known_any _).mono ?_; rintro e w1 ⟨rfl, hw1⟩; have HW1 := Lib.hid hw1; clear hw1)
        | (go_at_call_has 29 (Value.int .i64 year); refine (within_at _ _ z _ (by decide) (by decide) HZ).mono ?_; rintro e w2 ⟨rfl, rfl⟩)
        | (go_at_call_has 29 (Value.int .i64 month); refine (within_at _ _ x _ (by decide) (by decide) HX).mono ?_; rintro e w2 ⟨rfl, rfl⟩)
        | (go_at_call_has 23 (Value.agg #[.int .i64 y, .int .i64 m, .int .i64 1]); refine (num_at _ _ _ _ _ _ HA).mono ?_; rintro e w3 ⟨rfl, hw3⟩; have HW3 := Lib.hid hw3; clear hw3)
        | (go_at_call_has 23 (Value.agg #[.int .i64 y, .int .i64 (m + 1), .int .i64 1]); refine (num_at _ _ _ _ _ _ HB).mono ?_; rintro e w4 ⟨rfl, hw4⟩; have HW4 := Lib.hid hw4; clear hw4)
        | (go_at_call_has 27 (Value.int .i64 2); refine (length_at _ _ _ _ H2).mono ?_; rintro e w6 ⟨rfl, rfl⟩)
        | (go_at_call 27; refine (length_at y m L _ HL).mono ?_; rintro e w6 ⟨rfl, rfl⟩)
        | (go_at_call 25; refine (leap_at y _ _ Hb).mono ?_; rintro e w6 ⟨rfl, rfl⟩)
        | (go_at_call_has 23 (Value.agg #[.int .i64 y, .int .i64 m, .int .i64 (L + 1)]); refine (num_bad _ _ _ _ HL1).mono ?_; rintro e w5 ⟨rfl, hw5⟩; have HW5 := Lib.hid hw5; clear hw5))
      go_ret
      have q1 := below_then' HW1.out HW3.out HW1.out.size
      have q2 := q1.alloc q1.size (.cells #[.int .i64 y, .int .i64 (m + 1), .int .i64 1] 35)
      have q3 := below_then' q2 HW4.out q2.size
      exact ⟨rfl, below_then' q3 HW5.out q3.size⟩
  · obtain rfl : m = 12 := by omega
    have hn := next_c (d := L) hvL (by rw [show ((12 : Nat) : Int) = 12 from rfl, hL]; omega) (by have := bN; exact this)
    have HB : Day (y + 1) 1 1 1 (A + L) := ⟨rfl, hn.1, by rw [hn.2]; have h1 := hnL; rw [hA] at h1; have h2 : num y 12 L = A + (L - 1) := h1; omega⟩
    clear hn hv hvL hnL hM hL hb hA bN hz1 hz2 hx1 hx2 hc
    rcases b with _ | _
    all_goals
      simp only [Bool.false_eq_true, if_false, if_true] at hlp
      have H2 : Hid (dim y 2 = 28 + lp y) := dim_2 y
      rw [hlp] at H2
      clear hlp
      go_enter Try.func9, Try.ntmps9
      go_wp2_with (first
        | (go_at_call 20; refine (known_any _).mono ?_; rintro e w1 ⟨rfl, hw1⟩; have HW1 := Lib.hid hw1; clear hw1)
        | (go_at_call_has 29 (Value.int .i64 year); refine (within_at _ _ z _ (by decide) (by decide) HZ).mono ?_; rintro e w2 ⟨rfl, rfl⟩)
        | (go_at_call_has 29 (Value.int .i64 month); refine (within_at _ _ x _ (by decide) (by decide) HX).mono ?_; rintro e w2 ⟨rfl, rfl⟩)
        | (go_at_call_has 23 (Value.agg #[.int .i64 y, .int .i64 12, .int .i64 1]); refine (num_at _ _ _ _ _ _ HA).mono ?_; rintro e w3 ⟨rfl, hw3⟩; have HW3 := Lib.hid hw3; clear hw3)
        | (go_at_call_has 23 (Value.agg #[.int .i64 (y + 1), .int .i64 1, .int .i64 1]); refine (num_at _ _ _ _ _ _ HB).mono ?_; rintro e w4 ⟨rfl, hw4⟩; have HW4 := Lib.hid hw4; clear hw4)
        | (go_at_call_has 27 (Value.int .i64 2); refine (length_at _ _ _ _ H2).mono ?_; rintro e w6 ⟨rfl, rfl⟩)
        | (go_at_call 27; refine (length_at y 12 L _ HL).mono ?_; rintro e w6 ⟨rfl, rfl⟩)
        | (go_at_call 25; refine (leap_at y _ _ Hb).mono ?_; rintro e w6 ⟨rfl, rfl⟩)
        | (go_at_call_has 23 (Value.agg #[.int .i64 y, .int .i64 12, .int .i64 (L + 1)]); refine (num_bad _ _ _ _ HL1).mono ?_; rintro e w5 ⟨rfl, hw5⟩; have HW5 := Lib.hid hw5; clear hw5))
      go_ret
      have q1 := below_then' HW1.out HW3.out HW1.out.size
      have q2 := q1.alloc q1.size (.cells #[.int .i64 (y + 1), .int .i64 1, .int .i64 1] 35)
      have q3 := below_then' q2 HW4.out q2.size
      exact ⟨rfl, below_then' q3 HW5.out q3.size⟩
end Go.Proofs.Ytapoeegnnkfgiaa
