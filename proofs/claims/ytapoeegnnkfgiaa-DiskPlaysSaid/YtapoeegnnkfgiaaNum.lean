/- civil.Number, as contracts; no condition. -/
import Derived.Test.YtapoeegnnkfgiaaOf
set_option linter.unusedVariables false
set_option linter.unusedSimpArgs false
namespace Go.Proofs.Ytapoeegnnkfgiaa
open Go.RowKit Cal Go.Proofs.YtapoeegnnkfgiaaW.PrintWords

theorem length_at (y m L : Int) (w : World) (h : Hid (dim y m = L)) : Calls Try.prog 27 #[.int .i64 y, .int .i64 m] w fun e w' => e = .returned (.int .i64 L) ∧ w' = w := by
  rw [← h.out]; exact length_any y m w
theorem ahead_at (y A : Int) (w : World) (h : Hid (Cal.ahead y = A)) (h0 : 1 ≤ y) (h1 : y ≤ 20000) : Calls Try.prog 41 #[.int .i64 y] w fun e w' => e = .returned (.int .i64 A) ∧ w' = w := by
  rw [← h.out]; exact ahead_any y w h0 h1
theorem below_drewN {B : Nat} {a w : World} (h : Below B a w) (n : Nat) : Below B a (w.drewN n) := ⟨h.os, h.tape, h.output, h.size, h.block⟩

set_option maxRecDepth 100000 in
set_option maxHeartbeats 2000000 in
theorem num_no (y m d : Int) (w : World) (h : y < 1 ∨ 9999 < y ∨ d < 1 ∨ dim y m < d) :
    Calls Try.prog 23 #[.agg #[.int .i64 y, .int .i64 m, .int .i64 d]] w fun e w' => e = .returned (.tuple #[.int .i64 0, .int .i64 1]) ∧ Below w.heap.size w w' := by
  have HQ : Hid (Below w.heap.size w (w.alloc (.cells #[.int .i64 y, .int .i64 m, .int .i64 d] 35))) := (Below.refl _ _).alloc (Nat.le_refl _) _
  have HD : Hid (Dt (w.alloc (.cells #[.int .i64 y, .int .i64 m, .int .i64 d] 35)) w.heap.size y m d) := blk_new _ _
  have k0 := HD.out.c0
  have k1 := HD.out.c1
  have k2 := HD.out.c2
  obtain ⟨L, hL⟩ : ∃ L : Int, dim y m = L := ⟨_, rfl⟩
  rw [hL] at h
  have HL := Lib.hid hL
  clear hL
  by_cases h1 : y < 1
  · have d1 : decide (y < 1) = true := decide_eq_true h1
    clear h
    go_enter Try.func23, Try.ntmps23
    go_wp2
    generalize w.alloc (.cells #[.int .i64 y, .int .i64 m, .int .i64 d] 35) = w1 at HQ HD k0 k1 k2 ⊢
    generalize hs : w.heap.size = s at HD k0 k1 k2 ⊢
    have HS := Lib.hid hs
    clear hs
    go_quiet (fail)
    go_wp2
    go_ret2
    exact ⟨rfl, by have hs := HS.out; subst hs; exact below_drewN HQ.out _⟩
  by_cases h2 : 9999 < y
  · have d1 : decide (y < 1) = false := decide_eq_false h1
    have d2 : decide (9999 < y) = true := decide_eq_true h2
    clear h
    go_enter Try.func23, Try.ntmps23
    go_wp2
    generalize w.alloc (.cells #[.int .i64 y, .int .i64 m, .int .i64 d] 35) = w1 at HQ HD k0 k1 k2 ⊢
    generalize hs : w.heap.size = s at HD k0 k1 k2 ⊢
    have HS := Lib.hid hs
    clear hs
    go_quiet (fail)
    go_wp2
    go_ret2
    exact ⟨rfl, by have hs := HS.out; subst hs; exact below_drewN HQ.out _⟩
  by_cases h3 : d < 1
  · have d1 : decide (y < 1) = false := decide_eq_false h1
    have d2 : decide (9999 < y) = false := decide_eq_false h2
    have d3 : decide (d < 1) = true := decide_eq_true h3
    clear h
    go_enter Try.func23, Try.ntmps23
    go_wp2
    generalize w.alloc (.cells #[.int .i64 y, .int .i64 m, .int .i64 d] 35) = w1 at HQ HD k0 k1 k2 ⊢
    generalize hs : w.heap.size = s at HD k0 k1 k2 ⊢
    have HS := Lib.hid hs
    clear hs
    go_quiet (fail)
    go_wp2
    go_ret2
    exact ⟨rfl, by have hs := HS.out; subst hs; exact below_drewN HQ.out _⟩
  · have d1 : decide (y < 1) = false := decide_eq_false h1
    have d2 : decide (9999 < y) = false := decide_eq_false h2
    have d3 : decide (d < 1) = false := decide_eq_false h3
    have d4 : decide (L < d) = true := decide_eq_true (by omega)
    clear h
    go_enter Try.func23, Try.ntmps23
    go_wp2
    generalize w.alloc (.cells #[.int .i64 y, .int .i64 m, .int .i64 d] 35) = w1 at HQ HD k0 k1 k2 ⊢
    generalize hs : w.heap.size = s at HD k0 k1 k2 ⊢
    have HS := Lib.hid hs
    clear hs
    go_quiet ((go_at_call 27; exact Calls.quiet_of_same (length_at y m L _ HL)))
    go_wp2
    go_ret2
    exact ⟨rfl, by have hs := HS.out; subst hs; exact below_drewN HQ.out _⟩

set_option maxRecDepth 100000 in
set_option maxHeartbeats 4000000 in
theorem num_yes (y : Int) (m : Nat) (d : Int) (w : World) (h : Vld y m d) :
    Calls Try.prog 23 #[.agg #[.int .i64 y, .int .i64 (m : Int), .int .i64 d]] w fun e w' => e = .returned (.tuple #[.int .i64 (num y m d), .int .i64 0]) ∧ Below w.heap.size w w' := by
  have HQ : Hid (Below w.heap.size w (w.alloc (.cells #[.int .i64 y, .int .i64 (m : Int), .int .i64 d] 35))) := (Below.refl _ _).alloc (Nat.le_refl _) _
  have HD : Hid (Dt (w.alloc (.cells #[.int .i64 y, .int .i64 (m : Int), .int .i64 d] 35)) w.heap.size y m d) := blk_new _ _
  have k0 := HD.out.c0
  have k1 := HD.out.c1
  have k2 := HD.out.c2
  obtain ⟨y1, y2, m1, m2, h1, h2⟩ := h
  have hd31 : d ≤ 31 := Int.le_trans h2 (dim_bd y m).2
  obtain ⟨L, hL⟩ : ∃ L : Int, dim y m = L := ⟨_, rfl⟩
  rw [hL] at h2
  have HL := Lib.hid hL
  clear hL
  obtain ⟨A, hA⟩ : ∃ A : Int, Cal.ahead y = A := ⟨_, rfl⟩
  have bA := ahead_bd y (by omega) (by omega)
  rw [hA] at bA
  obtain ⟨bA1, bA2⟩ := bA
  have HA := Lib.hid hA
  clear hA
  have d1 : decide (y < 1) = false := decide_eq_false (by omega)
  have d2 : decide (9999 < y) = false := decide_eq_false (by omega)
  have d3 : decide (d < 1) = false := decide_eq_false (by omega)
  have d4 : decide (L < d) = false := decide_eq_false (by omega)
  go_enter Try.func23, Try.ntmps23
  go_wp2
  generalize w.alloc (.cells #[.int .i64 y, .int .i64 (m : Int), .int .i64 d] 35) = w1 at HQ HD k0 k1 k2 ⊢
  generalize hs : w.heap.size = s at HD k0 k1 k2 ⊢
  have HS := Lib.hid hs
  clear hs
  go_quiet ((go_at_call 27; exact Calls.quiet_of_same (length_at y m L _ HL)))
  go_wp2
  replace HQ : Hid (Below w.heap.size w (w1.drewN nq)) := below_drewN HQ.out _
  replace HD : Hid (Dt (w1.drewN nq) s y m d) := HD
  clear k0 k1 k2
  generalize w1.drewN nq = w2 at HQ HD ⊢
  have k0 := HD.out.c0
  have k1 := HD.out.c1
  have k2 := HD.out.c2
  go_quiet ((go_at_call 41; exact Calls.quiet_of_same (ahead_at y A _ HA (by omega) (by omega))))
  go_wp2
  replace HQ : Hid (Below w.heap.size w (w2.drewN nq)) := below_drewN HQ.out _
  replace HD : Hid (Dt (w2.drewN nq) s y m d) := HD
  clear k0 k1 k2
  generalize w2.drewN nq = w3 at HQ HD ⊢
  have k0 := HD.out.c0
  have k1 := HD.out.c1
  have k2 := HD.out.c2
  go_loop [4, 5] (fun v i => ∃ (j : Nat) (C : Int), 1 ≤ j ∧ j ≤ m ∧ i = .int .i64 j ∧ v = .int .i64 (A + d - 1 + C) ∧ 0 ≤ C ∧ C ≤ 400 ∧ Hid (cum y (j - 1) = C)) (fun _ i => m - (intOf i).toNat)
  case atStart => exact ⟨1, 0, by omega, by omega, rfl, by go_num, by omega, by omega, rfl⟩
  case round =>
    obtain ⟨j, C, j1, j2, rfl, rfl, c1, c2, HC⟩ := hrel
    by_cases hj : j < m
    · obtain ⟨K, hK⟩ : ∃ K : Int, dim y j = K := ⟨_, rfl⟩
      have hK1 := (dim_bd y j).1
      have hK2 := (dim_bd y j).2
      rw [hK] at hK1 hK2
      have HC2 : Hid (cum y (j + 1 - 1) = C + K) := by
        obtain ⟨q, rfl⟩ : ∃ q, j = q + 1 := ⟨j - 1, by omega⟩
        have h := HC.out
        show cum y q + dim y ((q : Int) + 1) = C + K
        rw [← hK, ← h]; rfl
      have hCK : C + K ≤ 400 := by have h1 := (cum_bd y (j + 1 - 1)).2; have h2 := HC2.out; omega
      have HK := Lib.hid hK
      clear hK
      go_wp2_with (first
        | (go_at_call 27; refine (length_at y j K _ HK).mono ?_; rintro e w6 ⟨rfl, rfl⟩))
      go_round
      case rel => exact ⟨j + 1, C + K, by omega, by omega, by go_num, by go_num, by omega, by omega, HC2⟩
      case measure => simp [intOf]; omega
    · obtain rfl : j = m := by omega
      clear hj j2
      go_wp2
      go_ret2
      refine ⟨?_, HQ.out⟩
      have h1 := HC.out
      have h2 := HA.out
      have h3 : num y j d = -719162 + (A + d - 1 + C) := by unfold num; rw [h1, h2]; omega
      rw [h3]
      rfl
end Go.Proofs.Ytapoeegnnkfgiaa
