/- CivilBounds: the walk; no condition. -/
import Derived.Test.YtapoeegnnkfgiaaCMonths
set_option linter.unusedVariables false
set_option linter.unusedSimpArgs false
namespace Go.Proofs.Ytapoeegnnkfgiaa
open Go.RowKit Cal Go.Proofs.YtapoeegnnkfgiaaW.PrintWords

set_option maxRecDepth 100000 in
set_option maxHeartbeats 8000000 in
theorem bounds_walk (n0 year month day : Int) (W : World) :
    Calls Try.prog 8 #[.int .i64 n0, .int .i64 year, .int .i64 month, .int .i64 day] W fun e W' => e = .returned (.bool true) ∧ Below W.heap.size W W' := by
  obtain ⟨hz1, hz2⟩ := mod_bd n0 1099511627776 (by decide)
  generalize hz : n0 % 1099511627776 = z at hz1 hz2
  obtain ⟨hx1, hx2⟩ := mod_bd year 9999 (by decide)
  generalize hx : year % 9999 = x at hx1 hx2
  obtain ⟨m1, m2⟩ := mod_bd month 15 (by decide)
  generalize hm : month % 15 = m at m1 m2
  obtain ⟨d1, d2⟩ := mod_bd day 34 (by decide)
  generalize hd : day % 34 = d at d1 d2
  have HZ := Lib.hid hz
  have HX := Lib.hid hx
  have HM := Lib.hid hm
  have HD := Lib.hid hd
  clear hz hx hm hd
  obtain ⟨n, hn⟩ : ∃ n : Int, 1 + z = n := ⟨_, rfl⟩
  obtain ⟨y, hy⟩ : ∃ y : Int, 1 + x = y := ⟨_, rfl⟩
  have n1 : 1 ≤ n := by omega
  have n2 : n ≤ 1099511627776 := by omega
  have y1 : 1 ≤ y := by omega
  have y2 : y ≤ 9999 := by omega
  have HA : Day 1 1 1 1 (-719162) := ⟨rfl, ⟨by decide, by decide, by decide, by decide, by decide, by decide⟩, by decide⟩
  have HB : Day 9999 12 31 12 2932896 := ⟨rfl, ⟨by decide, by decide, by decide, by decide, by decide, by decide⟩, by decide⟩
  obtain ⟨L, hL⟩ : ∃ L : Int, dim y m = L := ⟨_, rfl⟩
  have l2 := (dim_bd y m)
  rw [hL] at l2
  obtain ⟨l1, l2⟩ := l2
  have HL := Lib.hid hL
  have key : ∀ (N f : Int) (r : Bool), (∀ w : World, Calls Try.prog 23 #[.agg #[.int .i64 y, .int .i64 m, .int .i64 d]] w fun e w' => e = .returned (.tuple #[.int .i64 N, .int .i64 f]) ∧ Below w.heap.size w w') →
      (r = true ↔ (1 ≤ d ∧ d ≤ L)) → (f = if r = true then 0 else 1) →
      Calls Try.prog 8 #[.int .i64 n0, .int .i64 year, .int .i64 month, .int .i64 day] W fun e W' => e = .returned (.bool true) ∧ Below W.heap.size W W' := by
    intro N f r hC hr hf
    have HC := Lib.hid hC
    clear hC hL hz1 hz2 hx1 hx2
    have fin : (r = true ∧ 1 ≤ d ∧ d ≤ L) ∨ (r = false ∧ d < 1) ∨ (r = false ∧ 1 ≤ d ∧ L < d) := by
      rcases r with _ | _
      · right
        have h : ¬ (1 ≤ d ∧ d ≤ L) := fun hh => by have := hr.2 hh; cases this
        by_cases hd : d < 1
        · exact .inl ⟨rfl, hd⟩
        · exact .inr ⟨rfl, by omega, by omega⟩
      · left
        exact ⟨rfl, (hr.1 rfl).1, (hr.1 rfl).2⟩
    clear hr
    rcases fin with ⟨rfl, e1, e2⟩ | ⟨rfl, e1⟩ | ⟨rfl, e1, e2⟩
    all_goals
      simp only [Bool.false_eq_true, if_false, if_true] at hf
      subst hf
      try have tL : decide (d ≤ L) = false := decide_eq_false (by omega)
      go_enter Try.func8, Try.ntmps8
      go_wp2_with (first
        | (go_at_call 20; refine (known_any _).mono ?_; rintro e w1 ⟨rfl, hw1⟩; have HW1 := Lib.hid hw1; clear hw1)
        | (go_at_call_has 29 (Value.int .i64 n0); refine (within_at _ _ z _ (by decide) (by decide) HZ).mono ?_; rintro e w2 ⟨rfl, rfl⟩)
        | (go_at_call_has 29 (Value.int .i64 year); refine (within_at _ _ x _ (by decide) (by decide) HX).mono ?_; rintro e w2 ⟨rfl, rfl⟩)
        | (go_at_call_has 29 (Value.int .i64 month); refine (within_at _ _ m _ (by decide) (by decide) HM).mono ?_; rintro e w2 ⟨rfl, rfl⟩)
        | (go_at_call_has 29 (Value.int .i64 day); refine (within_at _ _ d _ (by decide) (by decide) HD).mono ?_; rintro e w2 ⟨rfl, rfl⟩)
        | (go_at_call_has 23 (Value.agg #[.int .i64 1, .int .i64 1, .int .i64 1]); refine (num_at _ _ _ _ _ _ HA).mono ?_; rintro e w3 ⟨rfl, hw3⟩; have HW3 := Lib.hid hw3; clear hw3)
        | (go_at_call_has 23 (Value.agg #[.int .i64 9999, .int .i64 12, .int .i64 31]); refine (num_at _ _ _ _ _ _ HB).mono ?_; rintro e w4 ⟨rfl, hw4⟩; have HW4 := Lib.hid hw4; clear hw4)
        | (go_at_call_has 21 (Value.int .i64 (-719162 - n)); refine (of_no _ _ (by omega)).mono ?_; rintro e w5 ⟨rfl, hw5⟩; have HW5 := Lib.hid hw5; clear hw5)
        | (go_at_call_has 21 (Value.int .i64 (2932896 + n)); refine (of_no _ _ (by omega)).mono ?_; rintro e w6 ⟨rfl, hw6⟩; have HW6 := Lib.hid hw6; clear hw6)
        | (go_at_call_has 21 (Value.int .i64 (-719162)); refine (of_at _ _ _ _ _ _ HA).mono ?_; rintro e w7 ⟨rfl, hw7⟩; have HW7 := Lib.hid hw7; clear hw7)
        | (go_at_call_has 21 (Value.int .i64 2932896); refine (of_at _ _ _ _ _ _ HB).mono ?_; rintro e w8 ⟨rfl, hw8⟩; have HW8 := Lib.hid hw8; clear hw8)
        | (go_at_call_has 23 (Value.agg #[.int .i64 y, .int .i64 m, .int .i64 d]); refine (HC.out _).mono ?_; rintro e w9 ⟨rfl, hw9⟩; have HW9 := Lib.hid hw9; clear hw9)
        | (go_at_call 27; refine (length_at y m L _ HL).mono ?_; rintro e w10 ⟨rfl, rfl⟩))
      go_ret
      have q3 := below_then' HW1.out HW3.out HW1.out.size
      have q4 := below_then' q3 HW4.out q3.size
      have q5 := below_then' q4 HW5.out q4.size
      have q6 := below_then' (q5.alloc q5.size (.cells #[.int .i64 0, .int .i64 0, .int .i64 0] 35)) HW6.out (q5.alloc q5.size _).size
      have q7 := below_then' (q6.alloc q6.size (.cells #[.int .i64 0, .int .i64 0, .int .i64 0] 35)) HW7.out (q6.alloc q6.size _).size
      have q8 := below_then' (q7.alloc q7.size (.cells #[.int .i64 1, .int .i64 1, .int .i64 1] 35)) HW8.out (q7.alloc q7.size _).size
      exact ⟨rfl, below_then' (q8.alloc q8.size (.cells #[.int .i64 9999, .int .i64 12, .int .i64 31] 35)) HW9.out (q8.alloc q8.size _).size⟩
  by_cases hv : 1 ≤ d ∧ d ≤ L
  · have hm : 1 ≤ m ∧ m ≤ 12 := by
      by_cases h : m < 1 ∨ 12 < m
      · have := dim_zero y m h
        omega
      · omega
    have hM : m = ((m.toNat : Nat) : Int) := by omega
    have hV : Vld y m.toNat d := ⟨y1, y2, by omega, by omega, hv.1, by rw [← hM, hL]; exact hv.2⟩
    exact key (num y m.toNat d) 0 true (fun w => num_at y m d _ m.toNat w ⟨hM, hV, rfl⟩) (by simp [hv]) rfl
  · refine key 0 1 false (fun w => num_no y m d w ?_) ⟨(fun h => Bool.noConfusion h), fun h => absurd h hv⟩ rfl
    rw [hL]
    omega
end Go.Proofs.Ytapoeegnnkfgiaa
