/- The document's calendar: leap, length, before, Of, as contracts; no condition. -/
import Derived.Test.YtapoeegnnkfgiaaKn
set_option linter.unusedVariables false
set_option linter.unusedSimpArgs false
namespace Go.Proofs.Ytapoeegnnkfgiaa
open Go.RowKit Cal Go.Proofs.YtapoeegnnkfgiaaW.PrintWords

set_option maxHeartbeats 1000000 in
theorem leap_ref (y : Int) (w : World) : Calls Try.prog 26 #[.int .i64 y] w fun e w' => e = .returned (.bool (lpB y)) ∧ w' = w := by
  have z4 := tmod_zero y 4 (by decide)
  have z100 := tmod_zero y 100 (by decide)
  have z400 := tmod_zero y 400 (by decide)
  by_cases h4 : y.tmod 4 = 0
  · have b4 : (y.tmod 4 == 0) = true := beq_iff_eq.mpr h4
    by_cases h100 : y.tmod 100 = 0
    · have b100 : (y.tmod 100 != 0) = false := bne_eq_false_iff_eq.mpr h100
      by_cases h400 : y.tmod 400 = 0
      · have b400 : (y.tmod 400 == 0) = true := beq_iff_eq.mpr h400
        rw [lpB_true (by omega)]
        clear z4 z100 z400 h4 h100 h400
        go_enter Try.func26, Try.ntmps26
        go_wp2
        go_ret
        exact ⟨rfl, rfl⟩
      · have b400 : (y.tmod 400 == 0) = false := beq_eq_false_iff_ne.mpr h400
        rw [lpB_false (by omega)]
        clear z4 z100 z400 h4 h100 h400
        go_enter Try.func26, Try.ntmps26
        go_wp2
        go_ret
        exact ⟨rfl, rfl⟩
    · have b100 : (y.tmod 100 != 0) = true := bne_iff_ne.mpr h100
      rw [lpB_true (by omega)]
      clear z4 z100 z400 h4 h100
      go_enter Try.func26, Try.ntmps26
      go_wp2
      go_ret
      exact ⟨rfl, rfl⟩
  · have b4 : (y.tmod 4 == 0) = false := beq_eq_false_iff_ne.mpr h4
    rw [lpB_false (by omega)]
    clear z4 z100 z400 h4
    go_enter Try.func26, Try.ntmps26
    go_wp2
    go_ret
    exact ⟨rfl, rfl⟩

set_option maxHeartbeats 1000000 in
theorem rlength_out (y m : Int) (w : World) (h : m < 1 ∨ 12 < m) : Calls Try.prog 28 #[.int .i64 y, .int .i64 m] w fun e w' => e = .returned (.int .i64 (dim y m)) ∧ w' = w := by
  rw [dim_zero y m h]
  have b4 : (m == 4) = false := beq_eq_false_iff_ne.mpr (by omega)
  have b6 : (m == 6) = false := beq_eq_false_iff_ne.mpr (by omega)
  have b9 : (m == 9) = false := beq_eq_false_iff_ne.mpr (by omega)
  have b11 : (m == 11) = false := beq_eq_false_iff_ne.mpr (by omega)
  have b2 : (m == 2) = false := beq_eq_false_iff_ne.mpr (by omega)
  by_cases h1 : m < 1
  · have d1 : decide (m < 1) = true := decide_eq_true h1
    clear h
    go_enter Try.func28, Try.ntmps28
    go_wp2
    go_ret
    exact ⟨rfl, rfl⟩
  · have d1 : decide (m < 1) = false := decide_eq_false h1
    have d2 : decide (12 < m) = true := decide_eq_true (by omega)
    clear h
    go_enter Try.func28, Try.ntmps28
    go_wp2
    go_ret
    exact ⟨rfl, rfl⟩
theorem rlength_1 (y : Int) (w : World) : Calls Try.prog 28 #[.int .i64 y, .int .i64 1] w fun e w' => e = .returned (.int .i64 31) ∧ w' = w := by
  go_enter Try.func28, Try.ntmps28
  go_wp2
  go_ret
  exact ⟨rfl, rfl⟩
theorem rlength_3 (y : Int) (w : World) : Calls Try.prog 28 #[.int .i64 y, .int .i64 3] w fun e w' => e = .returned (.int .i64 31) ∧ w' = w := by
  go_enter Try.func28, Try.ntmps28
  go_wp2
  go_ret
  exact ⟨rfl, rfl⟩
theorem rlength_5 (y : Int) (w : World) : Calls Try.prog 28 #[.int .i64 y, .int .i64 5] w fun e w' => e = .returned (.int .i64 31) ∧ w' = w := by
  go_enter Try.func28, Try.ntmps28
  go_wp2
  go_ret
  exact ⟨rfl, rfl⟩
theorem rlength_7 (y : Int) (w : World) : Calls Try.prog 28 #[.int .i64 y, .int .i64 7] w fun e w' => e = .returned (.int .i64 31) ∧ w' = w := by
  go_enter Try.func28, Try.ntmps28
  go_wp2
  go_ret
  exact ⟨rfl, rfl⟩
theorem rlength_8 (y : Int) (w : World) : Calls Try.prog 28 #[.int .i64 y, .int .i64 8] w fun e w' => e = .returned (.int .i64 31) ∧ w' = w := by
  go_enter Try.func28, Try.ntmps28
  go_wp2
  go_ret
  exact ⟨rfl, rfl⟩
theorem rlength_10 (y : Int) (w : World) : Calls Try.prog 28 #[.int .i64 y, .int .i64 10] w fun e w' => e = .returned (.int .i64 31) ∧ w' = w := by
  go_enter Try.func28, Try.ntmps28
  go_wp2
  go_ret
  exact ⟨rfl, rfl⟩
theorem rlength_12 (y : Int) (w : World) : Calls Try.prog 28 #[.int .i64 y, .int .i64 12] w fun e w' => e = .returned (.int .i64 31) ∧ w' = w := by
  go_enter Try.func28, Try.ntmps28
  go_wp2
  go_ret
  exact ⟨rfl, rfl⟩
theorem rlength_4 (y : Int) (w : World) : Calls Try.prog 28 #[.int .i64 y, .int .i64 4] w fun e w' => e = .returned (.int .i64 30) ∧ w' = w := by
  go_enter Try.func28, Try.ntmps28
  go_wp2
  go_ret
  exact ⟨rfl, rfl⟩
theorem rlength_6 (y : Int) (w : World) : Calls Try.prog 28 #[.int .i64 y, .int .i64 6] w fun e w' => e = .returned (.int .i64 30) ∧ w' = w := by
  go_enter Try.func28, Try.ntmps28
  go_wp2
  go_ret
  exact ⟨rfl, rfl⟩
theorem rlength_9 (y : Int) (w : World) : Calls Try.prog 28 #[.int .i64 y, .int .i64 9] w fun e w' => e = .returned (.int .i64 30) ∧ w' = w := by
  go_enter Try.func28, Try.ntmps28
  go_wp2
  go_ret
  exact ⟨rfl, rfl⟩
theorem rlength_11 (y : Int) (w : World) : Calls Try.prog 28 #[.int .i64 y, .int .i64 11] w fun e w' => e = .returned (.int .i64 30) ∧ w' = w := by
  go_enter Try.func28, Try.ntmps28
  go_wp2
  go_ret
  exact ⟨rfl, rfl⟩
theorem rlength_2 (y : Int) (w : World) : Calls Try.prog 28 #[.int .i64 y, .int .i64 2] w fun e w' => e = .returned (.int .i64 (28 + lp y)) ∧ w' = w := by
  rw [lp_of]
  obtain ⟨b, hb⟩ : ∃ b, lpB y = b := ⟨_, rfl⟩
  have HL : Hid (∀ w : World, Calls Try.prog 26 #[.int .i64 y] w fun e w' => e = .returned (.bool b) ∧ w' = w) := fun w => by rw [← hb]; exact leap_ref y w
  rw [hb]
  clear hb
  cases b
  · go_enter Try.func28, Try.ntmps28
    go_wp2_with (first | (go_at_call 26; refine (HL.out _).mono ?_; rintro e w' ⟨rfl, rfl⟩))
    go_ret
    exact ⟨rfl, rfl⟩
  · go_enter Try.func28, Try.ntmps28
    go_wp2_with (first | (go_at_call 26; refine (HL.out _).mono ?_; rintro e w' ⟨rfl, rfl⟩))
    go_ret
    exact ⟨rfl, rfl⟩
theorem rlength_any (y m : Int) (w : World) : Calls Try.prog 28 #[.int .i64 y, .int .i64 m] w fun e w' => e = .returned (.int .i64 (dim y m)) ∧ w' = w := by
  by_cases h : m < 1 ∨ 12 < m
  · exact rlength_out y m w h
  · have hm : m = 1 ∨ m = 2 ∨ m = 3 ∨ m = 4 ∨ m = 5 ∨ m = 6 ∨ m = 7 ∨ m = 8 ∨ m = 9 ∨ m = 10 ∨ m = 11 ∨ m = 12 := by omega
    rcases hm with rfl | rfl | rfl | rfl | rfl | rfl | rfl | rfl | rfl | rfl | rfl | rfl
    · exact rlength_1 y w
    · exact rlength_2 y w
    · exact rlength_3 y w
    · exact rlength_4 y w
    · exact rlength_5 y w
    · exact rlength_6 y w
    · exact rlength_7 y w
    · exact rlength_8 y w
    · exact rlength_9 y w
    · exact rlength_10 y w
    · exact rlength_11 y w
    · exact rlength_12 y w
theorem rlength_at (y m L : Int) (w : World) (h : Hid (dim y m = L)) : Calls Try.prog 28 #[.int .i64 y, .int .i64 m] w fun e w' => e = .returned (.int .i64 L) ∧ w' = w := by
  rw [← h.out]; exact rlength_any y m w

set_option maxHeartbeats 400000 in
theorem before_any (y : Int) (w : World) (h0 : 1 ≤ y) (h1 : y ≤ 20000) : Calls Try.prog 42 #[.int .i64 y] w fun e w' => e = .returned (.int .i64 (Cal.ahead y)) ∧ w' = w := by
  unfold Cal.ahead
  go_enter Try.func42, Try.ntmps42
  go_wp2
  go_ret
  exact ⟨rfl, rfl⟩
theorem before_at (y A : Int) (w : World) (h : Hid (Cal.ahead y = A)) (h0 : 1 ≤ y) (h1 : y ≤ 20000) : Calls Try.prog 42 #[.int .i64 y] w fun e w' => e = .returned (.int .i64 A) ∧ w' = w := by
  rw [← h.out]; exact before_any y w h0 h1
theorem end_at (w : World) : Calls Try.prog 42 #[.int .i64 10000] w fun e w' => e = .returned (.int .i64 3652059) ∧ w' = w :=
  before_at 10000 3652059 w (by show Cal.ahead 10000 = 3652059; decide) (by decide) (by decide)

theorem guess' (n : Int) (h0 : 0 ≤ n) (h1 : n ≤ 3652058) : 1 ≤ n / 366 + 1 ∧ n / 366 + 1 ≤ 9999 ∧ Cal.ahead (n / 366 + 1) ≤ n := by
  unfold Cal.ahead
  omega

set_option maxRecDepth 100000 in
set_option maxHeartbeats 2000000 in
theorem rof_no (n : Int) (w : World) (h : n < -719162 ∨ 2932896 < n) :
    Calls Try.prog 22 #[.int .i64 n] w fun e w' => e = .returned (.tuple #[.agg #[.int .i64 0, .int .i64 0, .int .i64 0], .int .i64 1]) ∧ Below w.heap.size w w' := by
  have HD : Hid (Dt (w.alloc (.cells #[.int .i64 0, .int .i64 0, .int .i64 0] 35)) w.heap.size 0 0 0) := blk_new _ _
  have HQ : Hid (Below w.heap.size w (w.alloc (.cells #[.int .i64 0, .int .i64 0, .int .i64 0] 35))) := (Below.refl _ _).alloc (Nat.le_refl _) _
  by_cases h1 : n < -719162
  · have d1 : decide (n < -719162) = true := decide_eq_true h1
    clear h
    go_enter Try.func22, Try.ntmps22
    go_wp2
    refine bodyPost_ret (results_ct rfl _ _ w.heap.size 35 #[.int .i64 0, .int .i64 0, .int .i64 0] (0, 0) _ rfl HD.out Try.underlying35 rfl (by kernel_rfl)) rfl ?_
    exact ⟨rfl, HQ.out⟩
  · have d1 : decide (n < -719162) = false := decide_eq_false h1
    have d2 : decide (2932897 ≤ n) = true := decide_eq_true (by omega)
    clear h
    go_enter Try.func22, Try.ntmps22
    go_wp2_with (first
      | (go_at_call 42; refine (end_at _).mono ?_; rintro e w6 ⟨rfl, rfl⟩))
    refine bodyPost_ret (results_ct rfl _ _ w.heap.size 35 #[.int .i64 0, .int .i64 0, .int .i64 0] (0, 0) _ rfl HD.out Try.underlying35 rfl (by kernel_rfl)) rfl ?_
    exact ⟨rfl, HQ.out⟩

set_option maxRecDepth 100000 in
set_option maxHeartbeats 4000000 in
theorem rof_yes (N : Int) (w : World) (h1 : -719162 ≤ N) (h2 : N ≤ 2932896) :
    Calls Try.prog 22 #[.int .i64 N] w fun e w' => ∃ (y : Int) (m : Nat) (d : Int), e = .returned (.tuple #[.agg #[.int .i64 y, .int .i64 m, .int .i64 d], .int .i64 0]) ∧ Vld y m d ∧ num y m d = N ∧ Below w.heap.size w w' := by
  have d1 : decide (N < -719162) = false := decide_eq_false (by omega)
  have d2 : decide (2932897 ≤ N) = false := decide_eq_false (by omega)
  obtain ⟨n, hn⟩ : ∃ n : Int, N + 719162 = n := ⟨_, rfl⟩
  obtain ⟨g1, g2, g3⟩ := guess' n (by omega) (by omega)
  have G3 := Lib.hid g3
  clear g3
  have n1 : 0 ≤ n := by omega
  have n2 : n ≤ 3652058 := by omega
  have HQ : Hid (Below w.heap.size w (w.alloc (.cells #[.int .i64 0, .int .i64 0, .int .i64 0] 35))) := (Below.refl _ _).alloc (Nat.le_refl _) _
  have HR : Hid (Dt (w.alloc (.cells #[.int .i64 0, .int .i64 0, .int .i64 0] 35)) w.heap.size 0 0 0) := blk_new _ _
  go_enter Try.func22, Try.ntmps22
  go_wp2_with (first
    | (go_at_call 42; refine (end_at _).mono ?_; rintro e w6 ⟨rfl, rfl⟩))
  have HN := Lib.hid hn
  clear hn
  generalize w.alloc (.cells #[.int .i64 0, .int .i64 0, .int .i64 0] 35) = w1 at HR HQ ⊢
  have bR : w.heap.size ≤ w.heap.size := Nat.le_refl _
  generalize hs : w.heap.size = s at HR bR ⊢
  have HS := Lib.hid hs
  clear hs
  generalize n / 366 + 1 = Y0 at g1 g2 G3 ⊢
  go_loop [4] (fun v => ∃ Y : Int, 1 ≤ Y ∧ Y ≤ 9999 ∧ Hid (Cal.ahead Y ≤ n) ∧ v = .int .i64 Y) (fun v => 9999 - (intOf v).toNat)
  case atStart => exact ⟨Y0, g1, g2, G3, rfl⟩
  case round =>
    clear G3 g1 g2
    obtain ⟨Y, y1, y2, HA, rfl⟩ := hrel
    obtain ⟨A, hA⟩ : ∃ A : Int, Cal.ahead (Y + 1) = A := ⟨_, rfl⟩
    by_cases hAn : A ≤ n
    · have HAn : Hid (Cal.ahead (Y + 1) ≤ n) := by rw [hA]; exact hAn
      have HAA := Lib.hid hA
      clear hA
      go_wp2_with (first
        | (go_at_call 42; refine (before_at _ A _ HAA (by omega) (by omega)).mono ?_; rintro e w6 ⟨rfl, rfl⟩))
      have hY : Y + 1 ≤ 9999 := by
        have h3 := ahead_mono 10000 (Y + 1)
        have h4 : Cal.ahead 10000 = 3652059 := by decide
        have h5 := HAn.out
        omega
      go_round
      case rel => exact ⟨Y + 1, by omega, hY, HAn, rfl⟩
      case measure => simp [intOf]; omega
    · have HAn : Hid (n < Cal.ahead (Y + 1)) := by rw [hA]; show n < A; omega
      have HAA := Lib.hid hA
      clear hA
      obtain ⟨B, hB⟩ : ∃ B : Int, Cal.ahead Y = B := ⟨_, rfl⟩
      have hB1 : B ≤ n := by rw [← hB]; exact HA.out
      have hB2 : n < B + 366 := by have h1 := HAn.out; rw [ahead_succ] at h1; have := (lp_01 Y).2; omega
      have hB3 : 0 ≤ B := by have h1 := ahead_mono 1 Y y1; have h2 : Cal.ahead 1 = 0 := by decide
                             omega
      have HBB := Lib.hid hB
      clear hB
      go_wp2_with (first
        | (go_at_call_has 42 (Value.int .i64 (Y + 1)); refine (before_at _ A _ HAA (by omega) (by omega)).mono ?_; rintro e w6 ⟨rfl, rfl⟩)
        | (go_at_call 42; refine (before_at _ B _ HBB (by omega) (by omega)).mono ?_; rintro e w7 ⟨rfl, rfl⟩))
      obtain ⟨R0, hR0⟩ : ∃ R : Int, n - B = R := ⟨_, rfl⟩
      rw [hR0]
      have r1 : 0 ≤ R0 := by omega
      have r2 : R0 < 366 := by omega
      have HC0 : Hid (R0 = n - Cal.ahead Y - cum Y (1 - 1)) := by show R0 = n - Cal.ahead Y - 0; rw [HBB.out]; omega
      have HYr : Hid (n - Cal.ahead Y < 365 + lp Y) := by show n - Cal.ahead Y < 365 + lp Y; have h := HAn.out; rw [ahead_succ] at h; omega
      clear hR0 hAn hB1 hB2 hB3 HBB HAA
      go_loop [5, 6] (fun v i => ∃ (M : Nat) (R : Int), 1 ≤ M ∧ M ≤ 12 ∧ v = .int .i64 R ∧ i = .int .i64 M ∧ 0 ≤ R ∧ R < 366 ∧ Hid (R = n - Cal.ahead Y - cum Y (M - 1))) (fun v i => 13 - (intOf i).toNat)
      case atStart => exact ⟨1, R0, by omega, by omega, rfl, rfl, r1, r2, HC0⟩
      case round =>
        clear HC0 r1 r2
        obtain ⟨M, R, m1, m2, rfl, rfl, r1, r2, HC⟩ := hrel
        obtain ⟨L, hL⟩ : ∃ L : Int, dim Y M = L := ⟨_, rfl⟩
        have l1 := (dim_bd Y M).1
        have l2 := (dim_bd Y M).2
        rw [hL] at l1 l2
        have HC2 : Hid (cum Y M = cum Y (M - 1) + L) := by
          obtain ⟨q, rfl⟩ : ∃ q, M = q + 1 := ⟨M - 1, by omega⟩
          rw [← hL]; rfl
        have HL := Lib.hid hL
        clear hL
        by_cases hRL : L ≤ R
        · have m3 : M + 1 ≤ 12 := by
            rcases Nat.lt_or_ge M 12 with h | h
            · exact h
            · have e : M = 12 := by omega
              subst e
              have h1 := HC2.out
              rw [cum_12] at h1
              have h2 := HC.out
              have h3 := HYr.out
              omega
          go_wp2_with (first
            | (go_at_call 28; refine (rlength_at _ _ L _ HL).mono ?_; rintro e w6 ⟨rfl, rfl⟩))
          go_round
          case rel => exact ⟨M + 1, R - L, by omega, m3, rfl, by go_num, by omega, by omega, by show R - L = n - Cal.ahead Y - cum Y M; rw [HC2.out]; have := HC.out; omega⟩
          case measure => simp [intOf]; omega
        · have j0 := HR.out.c0
          have j1 := HR.out.c1
          have j2 := HR.out.c2
          have jf0 := HR.out.fz 0
          have jf1 := HR.out.fz 1
          have jf2 := HR.out.fz 2
          go_wp2_with (first
            | (go_at_call 28; refine (rlength_at _ _ L _ HL).mono ?_; rintro e w6 ⟨rfl, rfl⟩))
          have HF := ((HR.out.s0 Y).s1 (M : Int)).s2 (R + 1)
          refine bodyPost_ret (results_ct rfl _ _ s 35 _ (0, 0) _ rfl HF Try.underlying35 rfl (by kernel_rfl)) rfl ?_
          refine ⟨Y, M, R + 1, rfl, ⟨y1, y2, m1, m2, by omega, by rw [HL.out]; omega⟩, ?_, by have hs := HS.out; subst hs; exact below_set' (below_set' (below_set' HQ.out (Nat.le_refl _) _ _) (Nat.le_refl _) _ _) (Nat.le_refl _) _ _⟩
          have h1 := HC.out
          have h2 := HN.out
          unfold num
          omega
end Go.Proofs.Ytapoeegnnkfgiaa
