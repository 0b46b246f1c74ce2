/- CivilOrder: the walk; no condition. -/
import Derived.Test.YtapoeegnnkfgiaaCYears
set_option linter.unusedVariables false
set_option linter.unusedSimpArgs false
namespace Go.Proofs.Ytapoeegnnkfgiaa
open Go.RowKit Cal Go.Proofs.YtapoeegnnkfgiaaW.PrintWords

theorem of_some (N : Int) (w : World) (h1 : -719162 ≤ N) (h2 : N ≤ 2932896) :
    Calls Try.prog 21 #[.int .i64 N] w fun e w' => ∃ (y m d : Int) (M : Nat), e = .returned (.tuple #[.agg #[.int .i64 y, .int .i64 m, .int .i64 d], .int .i64 0]) ∧ Day y m d M N ∧ Below w.heap.size w w' :=
  (of_yes N w h1 h2).mono fun e w' ⟨y, m, d, h1, h2, h3, h4⟩ => ⟨y, m, d, m, h1, ⟨rfl, h2, h3⟩, h4⟩
theorem Day.lt {y m d y' m' d' N N' : Int} {M M' : Nat} (h : Day y m d M N) (h' : Day y' m' d' M' N') : N < N' ↔ (y < y' ∨ (y = y' ∧ (m < m' ∨ (m = m' ∧ d < d')))) := by
  obtain ⟨rfl, hv, rfl⟩ := h
  obtain ⟨rfl, hv', rfl⟩ := h'
  rw [num_lt hv hv']
  constructor
  · rintro (h | ⟨h, h1 | ⟨h1, h2⟩⟩)
    · exact .inl h
    · exact .inr ⟨h, .inl (by omega)⟩
    · exact .inr ⟨h, .inr ⟨by omega, h2⟩⟩
  · rintro (h | ⟨h, h1 | ⟨h1, h2⟩⟩)
    · exact .inl h
    · exact .inr ⟨h, .inl (by omega)⟩
    · exact .inr ⟨h, .inr ⟨by omega, h2⟩⟩

set_option maxRecDepth 100000 in
set_option maxHeartbeats 8000000 in
theorem order_walk (a b : Int) (W : World) :
    Calls Try.prog 7 #[.int .i64 a, .int .i64 b] W fun e W' => e = .returned (.bool true) ∧ Below W.heap.size W W' := by
  obtain ⟨hz1, hz2⟩ := mod_bd a 3651900 (by decide)
  generalize hz : a % 3651900 = z at hz1 hz2
  obtain ⟨hx1, hx2⟩ := mod_bd b 3651900 (by decide)
  generalize hx : b % 3651900 = x at hx1 hx2
  have HZ := Lib.hid hz
  have HX := Lib.hid hx
  clear hz hx
  obtain ⟨N, hN⟩ : ∃ N : Int, z - 719100 = N := ⟨_, rfl⟩
  obtain ⟨K, hK⟩ : ∃ K : Int, x - 719100 = K := ⟨_, rfl⟩
  have n1 : -719162 ≤ N := by omega
  have n2 : N ≤ 2932896 := by omega
  have k1 : -719162 ≤ K := by omega
  have k2 : K ≤ 2932896 := by omega
  go_enter Try.func7, Try.ntmps7
  go_wp2_with (first
    | (go_at_call 20; refine (known_any _).mono ?_; rintro e w1 ⟨rfl, hw1⟩; have HW1 := Lib.hid hw1; clear hw1)
    | (go_at_call_has 29 (Value.int .i64 a); refine (within_at _ _ z _ (by decide) (by decide) HZ).mono ?_; rintro e w2 ⟨rfl, rfl⟩)
    | (go_at_call_has 29 (Value.int .i64 b); refine (within_at _ _ x _ (by decide) (by decide) HX).mono ?_; rintro e w2 ⟨rfl, rfl⟩)
    | (go_at_call_has 21 (Value.int .i64 N); refine (of_some _ _ n1 n2).mono ?_; rintro e w3 ⟨y, m, d, M, rfl, HD1, hw3⟩; have HW3 := Lib.hid hw3; clear hw3))
  refine (of_some _ _ k1 k2).mono ?_
  rintro e w4 ⟨y', m', d', M', rfl, HD2, hw4⟩
  have hL := HD1.lt HD2
  have hG := HD2.lt HD1
  have q1 := below_then' HW1.out HW3.out HW1.out.size
  have q2 := q1.alloc q1.size (.cells #[.int .i64 y, .int .i64 m, .int .i64 d] 35)
  have q3 := below_then' q2 hw4 q2.size
  have HQ : Hid (Below W.heap.size W (w4.alloc (.cells #[.int .i64 y', .int .i64 m', .int .i64 d'] 35))) := q3.alloc q3.size _
  have HA : Dt (w4.alloc (.cells #[.int .i64 y', .int .i64 m', .int .i64 d'] 35)) w3.heap.size y m d := blk_alloc (blk_below (blk_new _ _) hw4) _
  have HB : Dt (w4.alloc (.cells #[.int .i64 y', .int .i64 m', .int .i64 d'] 35)) w4.heap.size y' m' d' := blk_new _ _
  have a0 := HA.c0
  have a1 := HA.c1
  have a2 := HA.c2
  have b0 := HB.c0
  have b1 := HB.c1
  have b2 := HB.c2
  clear HA HB q1 q2 q3 hw4 HW1 HW3 HD1 HD2 hN hK n1 n2 k1 k2 HZ HX hz1 hz2 hx1 hx2
  rcases Int.lt_trichotomy y y' with cy | cy | cy
  · have cm := trivial
    have cd := trivial
    have tN : decide (N < K) = true := decide_eq_true (by omega)
    have tE : (N == K) = false := beq_eq_false_iff_ne.mpr (by omega)
    have ty1 : decide (y < y') = true := decide_eq_true (by omega)
    have ty2 : (y == y') = false := beq_eq_false_iff_ne.mpr (by omega)
    clear hL hG cy cm cd
    go_wp2
    go_ret
    exact ⟨rfl, HQ.out⟩
  · rcases Int.lt_trichotomy m m' with cm | cm | cm
    · have cd := trivial
      have tN : decide (N < K) = true := decide_eq_true (by omega)
      have tE : (N == K) = false := beq_eq_false_iff_ne.mpr (by omega)
      have tm1 : decide (m < m') = true := decide_eq_true (by omega)
      have tm2 : (m == m') = false := beq_eq_false_iff_ne.mpr (by omega)
      subst cy
      clear hL hG cm cd
      go_wp2
      go_ret
      exact ⟨rfl, HQ.out⟩
    · rcases Int.lt_trichotomy d d' with cd | cd | cd
      · skip
        have tN : decide (N < K) = true := decide_eq_true (by omega)
        have tE : (N == K) = false := beq_eq_false_iff_ne.mpr (by omega)
        have td1 : decide (d < d') = true := decide_eq_true (by omega)
        have td2 : (d == d') = false := beq_eq_false_iff_ne.mpr (by omega)
        subst cy
        subst cm
        clear hL hG cd
        go_wp2
        go_ret
        exact ⟨rfl, HQ.out⟩
      · skip
        obtain rfl : N = K := by omega
        subst cy
        subst cm
        subst cd
        clear hL hG
        go_wp2
        go_ret
        exact ⟨rfl, HQ.out⟩
      · skip
        have tN : decide (N < K) = false := decide_eq_false (by omega)
        have tE : (N == K) = false := beq_eq_false_iff_ne.mpr (by omega)
        have td1 : decide (d < d') = false := decide_eq_false (by omega)
        have td2 : (d == d') = false := beq_eq_false_iff_ne.mpr (by omega)
        subst cy
        subst cm
        clear hL hG cd
        go_wp2
        go_ret
        exact ⟨rfl, HQ.out⟩
    · have cd := trivial
      have tN : decide (N < K) = false := decide_eq_false (by omega)
      have tE : (N == K) = false := beq_eq_false_iff_ne.mpr (by omega)
      have tm1 : decide (m < m') = false := decide_eq_false (by omega)
      have tm2 : (m == m') = false := beq_eq_false_iff_ne.mpr (by omega)
      subst cy
      clear hL hG cm cd
      go_wp2
      go_ret
      exact ⟨rfl, HQ.out⟩
  · have cm := trivial
    have cd := trivial
    have tN : decide (N < K) = false := decide_eq_false (by omega)
    have tE : (N == K) = false := beq_eq_false_iff_ne.mpr (by omega)
    have ty1 : decide (y < y') = false := decide_eq_false (by omega)
    have ty2 : (y == y') = false := beq_eq_false_iff_ne.mpr (by omega)
    clear hL hG cy cm cd
    go_wp2
    go_ret
    exact ⟨rfl, HQ.out⟩
end Go.Proofs.Ytapoeegnnkfgiaa
