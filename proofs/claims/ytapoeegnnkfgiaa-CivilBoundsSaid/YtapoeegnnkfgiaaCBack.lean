/- CivilBack: the walk; no condition. -/
import Derived.Test.YtapoeegnnkfgiaaKn
set_option linter.unusedVariables false
set_option linter.unusedSimpArgs false
namespace Go.Proofs.Ytapoeegnnkfgiaa
open Go.RowKit Cal Go.Proofs.YtapoeegnnkfgiaaW.PrintWords

theorem within_at (a n v : Int) (w : World) (h0 : 0 < n) (h1 : n ≤ 4000000000001) (hv : Hid (a % n = v)) :
    Calls Try.prog 29 #[.int .i64 a, .int .i64 n] w fun e w' => e = .returned (.int .i64 v) ∧ w' = w := by
  have h := hv.out; subst h; exact within_any a n w h0 h1
/-- The next day's date. -/
theorem next_a {y : Int} {m : Nat} {d : Int} (h : Vld y m d) (hd : d + 1 ≤ dim y m) : Vld y m (d + 1) ∧ num y m (d + 1) = num y m d + 1 :=
  ⟨⟨h.y1, h.y2, h.m1, h.m2, by have := h.d1; omega, hd⟩, by unfold num; omega⟩
theorem next_b {y : Int} {m : Nat} {d : Int} (h : Vld y m d) (hd : dim y m < d + 1) (hm : m < 12) : Vld y (m + 1) 1 ∧ num y (m + 1) 1 = num y m d + 1 := by
  have h1 := h.d2
  have h2 := dim_lo y ((m + 1 : Nat) : Int) (by omega) (by omega)
  refine ⟨⟨h.y1, h.y2, by omega, by omega, by omega, by omega⟩, ?_⟩
  have h3 := h.m1
  obtain ⟨q, rfl⟩ : ∃ q, m = q + 1 := ⟨m - 1, by omega⟩
  have h4 : cum y (q + 1) = cum y q + dim y ((q + 1 : Nat) : Int) := rfl
  unfold num
  rw [show q + 1 + 1 - 1 = q + 1 from rfl, show q + 1 - 1 = q from rfl, h4]
  omega
theorem next_c {y : Int} {d : Int} (h : Vld y 12 d) (hd : dim y ((12 : Nat) : Int) < d + 1) (hN : num y 12 d + 1 ≤ 2932896) : Vld (y + 1) 1 1 ∧ num (y + 1) 1 1 = num y 12 d + 1 := by
  have h1 := h.d2
  have h4 : cum y 12 = cum y 11 + dim y ((12 : Nat) : Int) := rfl
  have hn : num (y + 1) 1 1 = num y 12 d + 1 := by
    have h5 := cum_12 y
    unfold num
    rw [show (1 : Nat) - 1 = 0 from rfl, show (12 : Nat) - 1 = 11 from rfl, ahead_succ]
    show _ + (_ + 0 + 1 - 1) = _
    omega
  refine ⟨⟨by have := h.y1; omega, ?_, by decide, by decide, by decide, dim_lo (y + 1) 1 (by decide) (by decide) |> (fun h => by have h' : ((1 : Nat) : Int) = 1 := rfl; rw [h']; omega)⟩, hn⟩
  have h6 := h.y2
  rcases Int.lt_or_eq_of_le h6 with h7 | h7
  · omega
  · subst h7
    have h8 : num (9999 + 1) 1 1 = 2932897 := by decide
    omega

set_option maxRecDepth 100000 in
set_option maxHeartbeats 8000000 in
theorem back_walk (day : Int) (W : World) :
    Calls Try.prog 5 #[.int .i64 day] W fun e W' => e = .returned (.bool true) ∧ Below W.heap.size W W' := by
  obtain ⟨hz1, hz2⟩ := mod_bd day 3651900 (by decide)
  generalize hz : day % 3651900 = z at hz1 hz2
  have HZ := Lib.hid hz
  clear hz
  obtain ⟨N, hN⟩ : ∃ N : Int, z - 719100 = N := ⟨_, rfl⟩
  have n1 : -719162 ≤ N := by omega
  have n2 : N + 1 ≤ 2932896 := by omega
  go_enter Try.func5, Try.ntmps5
  go_wp2_with (first
    | (go_at_call 20; refine (known_any _).mono ?_; rintro e w1 ⟨rfl, hw1⟩; have HW1 := Lib.hid hw1; clear hw1)
    | (go_at_call 29; refine (within_at _ _ z _ (by decide) (by decide) HZ).mono ?_; rintro e w2 ⟨rfl, rfl⟩))
  refine (of_yes _ _ n1 (by omega)).mono ?_
  rintro e w2 ⟨y, m, d, rfl, hv, hn, hb2⟩
  have HB2 := Lib.hid hb2
  have HN := Lib.hid hN
  clear hb2 hN HZ hz1 hz2
  have HV := Lib.hid hv
  have HNN := Lib.hid hn
  have HM : Day y m d m N := ⟨rfl, hv, hn⟩
  have HA2 := HW1.out
  obtain ⟨y1, y2, m1, m2, e1, e2⟩ := hv
  have hd31 : d ≤ 31 := Int.le_trans e2 (dim_bd y m).2
  obtain ⟨L, hL⟩ : ∃ L : Int, dim y m = L := ⟨_, rfl⟩
  rw [hL] at e2
  have l1 := (dim_bd y m).2
  rw [hL] at l1
  have HL := Lib.hid hL
  clear hn hL HA2
  by_cases hA : d + 1 ≤ L
  · obtain ⟨hx1, hx2⟩ := next_a HV.out (by rw [HL.out]; exact hA)
    have HX : Day y m (d + 1) m (N + 1) := ⟨rfl, hx1, by rw [hx2, HNN.out]⟩
    clear hx1 hx2
    go_wp2_with (first
      | (go_at_call 23; refine (num_at _ _ _ N m _ HM).mono ?_; rintro e w3 ⟨rfl, hb3⟩; have HB3 := Lib.hid hb3; clear hb3)
      | (go_at_call 21; refine (of_at _ _ _ _ _ _ HX).mono ?_; rintro e w4 ⟨rfl, hb4⟩; have hd4 : Dt (w4.alloc (.cells #[.int .i64 y, .int .i64 (m : Int), .int .i64 (d + 1)] 35)) w2.heap.size y m d := blk_alloc (blk_below (blk_below (blk_new _ _) HB3.out) hb4) _; have k2 := hd4.c2; have f2 := hd4.fz 2; have HD4 := Lib.hid hd4; have HB4 := Lib.hid hb4; clear hb4 hd4))
    have hW2 : W.heap.size ≤ w2.heap.size := (below_then' HW1.out HB2.out HW1.out.size).size
    have h24 : w2.heap.size < w4.heap.size := by
      have h3 := HB3.out.size
      have h4 := HB4.out.size
      simp at h3
      omega
    have HQ : Hid (Below W.heap.size W ((w4.alloc (.cells #[.int .i64 y, .int .i64 (m : Int), .int .i64 (d + 1)] 35)).setCell ⟨w2.heap.size, 2, none⟩ (.int .i64 (d + 1)))) := by
      have q1 := below_then' HW1.out HB2.out HW1.out.size
      have q2 := q1.alloc q1.size (.cells #[.int .i64 y, .int .i64 (m : Int), .int .i64 d] 35)
      have q3 := below_then' q2 HB3.out q2.size
      have q4 := below_then' q3 HB4.out q3.size
      exact below_set' (q4.alloc q4.size _) hW2 _ _
    have HA : Hid (Dt ((w4.alloc (.cells #[.int .i64 y, .int .i64 (m : Int), .int .i64 (d + 1)] 35)).setCell ⟨w2.heap.size, 2, none⟩ (.int .i64 (d + 1))) w2.heap.size y m (d + 1)) := HD4.out.s2 _
    have HB : Hid (Dt ((w4.alloc (.cells #[.int .i64 y, .int .i64 (m : Int), .int .i64 (d + 1)] 35)).setCell ⟨w2.heap.size, 2, none⟩ (.int .i64 (d + 1))) w4.heap.size y (m : Int) (d + 1)) := Dt.far (blk_new _ _) (by omega) _
    clear k2 f2 HD4 HB4 HB3 HB2 HW1
    generalize (w4.alloc (.cells #[.int .i64 y, .int .i64 (m : Int), .int .i64 (d + 1)] 35)).setCell ⟨w2.heap.size, 2, none⟩ (.int .i64 (d + 1)) = w5 at HQ HA HB ⊢
    generalize w2.heap.size = gA at hW2 h24 HA ⊢
    generalize w4.heap.size = gB at h24 HB ⊢
    have n1 : ¬ gA = gB := by omega
    have n2 : ¬ gB = gA := by omega
    clear h24
    have k0 := HA.out.c0
    have k1 := HA.out.c1
    have k2 := HA.out.c2
    have t1 : decide (L < d + 1) = false := decide_eq_false (by omega)
    have t2 : ((m : Int) == 13) = false := beq_eq_false_iff_ne.mpr (by omega)
    go_quiet ((go_at_call 27; exact Calls.quiet_of_same (length_at y m L _ HL)))
    replace HQ : Hid (Below W.heap.size W (w5.drewN nq)) := below_drewN HQ.out _
    replace HA : Hid (Dt (w5.drewN nq) gA y m (d + 1)) := HA
    replace HB : Hid (Dt (w5.drewN nq) gB y (m : Int) (d + 1)) := HB
    clear k0 k1 k2
    generalize w5.drewN nq = w6 at HQ HA HB ⊢
    have k0 := HA.out.c0
    have k1 := HA.out.c1
    have k2 := HA.out.c2
    have f0 := HA.out.fz 0
    have f1 := HA.out.fz 1
    have f2 := HA.out.fz 2
    have j0 := HB.out.c0
    have j1 := HB.out.c1
    have j2 := HB.out.c2
    go_wp2
    go_ret
    exact ⟨rfl, HQ.out⟩
  by_cases hB : m < 12
  · obtain ⟨hx1, hx2⟩ := next_b HV.out (by rw [HL.out]; omega) hB
    have HX : Day y ((m : Int) + 1) 1 (m + 1) (N + 1) := ⟨rfl, hx1, by rw [hx2, HNN.out]⟩
    clear hx1 hx2
    go_wp2_with (first
      | (go_at_call 23; refine (num_at _ _ _ N m _ HM).mono ?_; rintro e w3 ⟨rfl, hb3⟩; have HB3 := Lib.hid hb3; clear hb3)
      | (go_at_call 21; refine (of_at _ _ _ _ _ _ HX).mono ?_; rintro e w4 ⟨rfl, hb4⟩; have hd4 : Dt (w4.alloc (.cells #[.int .i64 y, .int .i64 ((m : Int) + 1), .int .i64 1] 35)) w2.heap.size y m d := blk_alloc (blk_below (blk_below (blk_new _ _) HB3.out) hb4) _; have k2 := hd4.c2; have f2 := hd4.fz 2; have HD4 := Lib.hid hd4; have HB4 := Lib.hid hb4; clear hb4 hd4))
    have hW2 : W.heap.size ≤ w2.heap.size := (below_then' HW1.out HB2.out HW1.out.size).size
    have h24 : w2.heap.size < w4.heap.size := by
      have h3 := HB3.out.size
      have h4 := HB4.out.size
      simp at h3
      omega
    have HQ : Hid (Below W.heap.size W ((w4.alloc (.cells #[.int .i64 y, .int .i64 ((m : Int) + 1), .int .i64 1] 35)).setCell ⟨w2.heap.size, 2, none⟩ (.int .i64 (d + 1)))) := by
      have q1 := below_then' HW1.out HB2.out HW1.out.size
      have q2 := q1.alloc q1.size (.cells #[.int .i64 y, .int .i64 (m : Int), .int .i64 d] 35)
      have q3 := below_then' q2 HB3.out q2.size
      have q4 := below_then' q3 HB4.out q3.size
      exact below_set' (q4.alloc q4.size _) hW2 _ _
    have HA : Hid (Dt ((w4.alloc (.cells #[.int .i64 y, .int .i64 ((m : Int) + 1), .int .i64 1] 35)).setCell ⟨w2.heap.size, 2, none⟩ (.int .i64 (d + 1))) w2.heap.size y m (d + 1)) := HD4.out.s2 _
    have HB : Hid (Dt ((w4.alloc (.cells #[.int .i64 y, .int .i64 ((m : Int) + 1), .int .i64 1] 35)).setCell ⟨w2.heap.size, 2, none⟩ (.int .i64 (d + 1))) w4.heap.size y ((m : Int) + 1) 1) := Dt.far (blk_new _ _) (by omega) _
    clear k2 f2 HD4 HB4 HB3 HB2 HW1
    generalize (w4.alloc (.cells #[.int .i64 y, .int .i64 ((m : Int) + 1), .int .i64 1] 35)).setCell ⟨w2.heap.size, 2, none⟩ (.int .i64 (d + 1)) = w5 at HQ HA HB ⊢
    generalize w2.heap.size = gA at hW2 h24 HA ⊢
    generalize w4.heap.size = gB at h24 HB ⊢
    have n1 : ¬ gA = gB := by omega
    have n2 : ¬ gB = gA := by omega
    clear h24
    have k0 := HA.out.c0
    have k1 := HA.out.c1
    have k2 := HA.out.c2
    have t1 : decide (L < d + 1) = true := decide_eq_true (by omega)
    have t2 : ((m : Int) + 1 == 13) = false := beq_eq_false_iff_ne.mpr (by omega)
    go_quiet ((go_at_call 27; exact Calls.quiet_of_same (length_at y m L _ HL)))
    replace HQ : Hid (Below W.heap.size W (w5.drewN nq)) := below_drewN HQ.out _
    replace HA : Hid (Dt (w5.drewN nq) gA y m (d + 1)) := HA
    replace HB : Hid (Dt (w5.drewN nq) gB y ((m : Int) + 1) 1) := HB
    clear k0 k1 k2
    generalize w5.drewN nq = w6 at HQ HA HB ⊢
    have k0 := HA.out.c0
    have k1 := HA.out.c1
    have k2 := HA.out.c2
    have f0 := HA.out.fz 0
    have f1 := HA.out.fz 1
    have f2 := HA.out.fz 2
    have j0 := HB.out.c0
    have j1 := HB.out.c1
    have j2 := HB.out.c2
    go_wp2
    go_ret
    exact ⟨rfl, below_set' (below_set' HQ.out hW2 _ _) hW2 _ _⟩
  · obtain rfl : m = 12 := by omega
    obtain ⟨hx1, hx2⟩ := next_c HV.out (by rw [HL.out]; omega) (by rw [HNN.out]; omega)
    have HX : Day (y + 1) 1 1 1 (N + 1) := ⟨rfl, hx1, by rw [hx2, HNN.out]⟩
    have y3 : y + 1 ≤ 9999 := hx1.y2
    clear hx1 hx2
    rw [show ((12 : Nat) : Int) = 12 from rfl] at HM HL
    rw [show ((12 : Nat) : Int) = 12 from rfl]
    go_wp2_with (first
      | (go_at_call 23; refine (num_at _ _ _ N 12 _ HM).mono ?_; rintro e w3 ⟨rfl, hb3⟩; have HB3 := Lib.hid hb3; clear hb3)
      | (go_at_call 21; refine (of_at _ _ _ _ _ _ HX).mono ?_; rintro e w4 ⟨rfl, hb4⟩; have hd4 : Dt (w4.alloc (.cells #[.int .i64 (y + 1), .int .i64 1, .int .i64 1] 35)) w2.heap.size y 12 d := blk_alloc (blk_below (blk_below (blk_new _ _) HB3.out) hb4) _; have k2 := hd4.c2; have f2 := hd4.fz 2; have HD4 := Lib.hid hd4; have HB4 := Lib.hid hb4; clear hb4 hd4))
    have hW2 : W.heap.size ≤ w2.heap.size := (below_then' HW1.out HB2.out HW1.out.size).size
    have h24 : w2.heap.size < w4.heap.size := by
      have h3 := HB3.out.size
      have h4 := HB4.out.size
      simp at h3
      omega
    have HQ : Hid (Below W.heap.size W ((w4.alloc (.cells #[.int .i64 (y + 1), .int .i64 1, .int .i64 1] 35)).setCell ⟨w2.heap.size, 2, none⟩ (.int .i64 (d + 1)))) := by
      have q1 := below_then' HW1.out HB2.out HW1.out.size
      have q2 := q1.alloc q1.size (.cells #[.int .i64 y, .int .i64 12, .int .i64 d] 35)
      have q3 := below_then' q2 HB3.out q2.size
      have q4 := below_then' q3 HB4.out q3.size
      exact below_set' (q4.alloc q4.size _) hW2 _ _
    have HA : Hid (Dt ((w4.alloc (.cells #[.int .i64 (y + 1), .int .i64 1, .int .i64 1] 35)).setCell ⟨w2.heap.size, 2, none⟩ (.int .i64 (d + 1))) w2.heap.size y 12 (d + 1)) := HD4.out.s2 _
    have HB : Hid (Dt ((w4.alloc (.cells #[.int .i64 (y + 1), .int .i64 1, .int .i64 1] 35)).setCell ⟨w2.heap.size, 2, none⟩ (.int .i64 (d + 1))) w4.heap.size (y + 1) 1 1) := Dt.far (blk_new _ _) (by omega) _
    clear k2 f2 HD4 HB4 HB3 HB2 HW1
    have t2 : ((12 : Int) + 1 == 13) = true := by decide
    generalize (w4.alloc (.cells #[.int .i64 (y + 1), .int .i64 1, .int .i64 1] 35)).setCell ⟨w2.heap.size, 2, none⟩ (.int .i64 (d + 1)) = w5 at HQ HA HB ⊢
    generalize w2.heap.size = gA at hW2 h24 HA ⊢
    generalize w4.heap.size = gB at h24 HB ⊢
    have n1 : ¬ gA = gB := by omega
    have n2 : ¬ gB = gA := by omega
    clear h24
    have k0 := HA.out.c0
    have k1 := HA.out.c1
    have k2 := HA.out.c2
    have t1 : decide (L < d + 1) = true := decide_eq_true (by omega)
    go_quiet ((go_at_call 27; exact Calls.quiet_of_same (length_at y 12 L _ HL)))
    replace HQ : Hid (Below W.heap.size W (w5.drewN nq)) := below_drewN HQ.out _
    replace HA : Hid (Dt (w5.drewN nq) gA y 12 (d + 1)) := HA
    replace HB : Hid (Dt (w5.drewN nq) gB (y + 1) 1 1) := HB
    clear k0 k1 k2
    generalize w5.drewN nq = w6 at HQ HA HB ⊢
    have k0 := HA.out.c0
    have k1 := HA.out.c1
    have k2 := HA.out.c2
    have f0 := HA.out.fz 0
    have f1 := HA.out.fz 1
    have f2 := HA.out.fz 2
    have j0 := HB.out.c0
    have j1 := HB.out.c1
    have j2 := HB.out.c2
    have HAf := (((HA.out.s2 1).s1 13).s1 1).s0 (y + 1)
    have HBf := (((HB.out.far n2 (i := 2) (.int .i64 1)).far n2 (i := 1) (.int .i64 13)).far n2 (i := 1) (.int .i64 1)).far n2 (i := 0) (.int .i64 (y + 1))
    have z0 := HAf.c0
    have z1 := HAf.c1
    have z2 := HAf.c2
    have x0 := HBf.c0
    have x1 := HBf.c1
    have x2 := HBf.c2
    clear HAf HBf
    go_wp2
    go_ret
    exact ⟨rfl, below_set' (below_set' (below_set' (below_set' HQ.out hW2 _ _) hW2 _ _) hW2 _ _) hW2 _ _⟩
end Go.Proofs.Ytapoeegnnkfgiaa
