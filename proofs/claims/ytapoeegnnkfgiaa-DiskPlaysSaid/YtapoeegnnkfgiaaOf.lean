/- civil.Of and civil.Number, as contracts; no condition. -/
import Derived.Test.YtapoeegnnkfgiaaCiv
import Derived.Test.YtapoeegnnkfgiaaWWords
set_option linter.unusedVariables false
set_option linter.unusedSimpArgs false
namespace Go.Proofs.Ytapoeegnnkfgiaa
open Go.RowKit Cal Go.Proofs.YtapoeegnnkfgiaaW.PrintWords

/-- Block g is a date. -/
def Dt (w : World) (g : Nat) (y m d : Int) : Prop := w.heap[g]? = some (.cells #[.int .i64 y, .int .i64 m, .int .i64 d] 35 (0, 0))
section
variable {w w' : World} {g : Nat} {y m d : Int}
theorem Dt.c0 (h : Dt w g y m d) : w.cell? ⟨g, 0, none⟩ = some (.int .i64 y) := blk_cell h 0
theorem Dt.c1 (h : Dt w g y m d) : w.cell? ⟨g, 1, none⟩ = some (.int .i64 m) := blk_cell h 1
theorem Dt.c2 (h : Dt w g y m d) : w.cell? ⟨g, 2, none⟩ = some (.int .i64 d) := blk_cell h 2
theorem Dt.fz (h : Dt w g y m d) (i : Nat) : w.frozen? ⟨g, i, none⟩ = false := blk_frozen h i
theorem Dt.s0 (h : Dt w g y m d) (x : Int) : Dt (w.setCell ⟨g, 0, none⟩ (.int .i64 x)) g x m d := blk_put h 0 _ rfl
theorem Dt.s1 (h : Dt w g y m d) (x : Int) : Dt (w.setCell ⟨g, 1, none⟩ (.int .i64 x)) g y x d := blk_put h 1 _ rfl
theorem Dt.s2 (h : Dt w g y m d) (x : Int) : Dt (w.setCell ⟨g, 2, none⟩ (.int .i64 x)) g y m x := blk_put h 2 _ rfl
theorem Dt.far (h : Dt w g y m d) {b i : Nat} (hne : g ≠ b) (u : Value) : Dt (w.setCell ⟨b, i, none⟩ u) g y m d := blk_far h hne u
theorem Dt.below (h : Dt w g y m d) (hb : Below w.heap.size w w') : Dt w' g y m d := blk_below h hb
theorem Dt.lt (h : Dt w g y m d) : g < w.heap.size := blk_lt h
end
theorem below_set' {W w : World} {g : Nat} (h : Below W.heap.size W w) (hg : W.heap.size ≤ g) (i : Nat) (u : Value) : Below W.heap.size W (w.setCell ⟨g, i, none⟩ u) := h.setCell (p := ⟨g, i, none⟩) hg u

theorem guess (n : Int) (h0 : 0 ≤ n) (h1 : n ≤ 3652058) : 1 ≤ 400 * (n / 146097) + n % 146097 / 366 + 1 ∧ 400 * (n / 146097) + n % 146097 / 366 + 1 ≤ 9999 ∧ Cal.ahead (400 * (n / 146097) + n % 146097 / 366 + 1) ≤ n := by
  unfold Cal.ahead
  omega

set_option maxRecDepth 100000 in
set_option maxHeartbeats 2000000 in
theorem of_no (n : Int) (w : World) (h : n < -719162 ∨ 2932896 < n) :
    Calls Try.prog 21 #[.int .i64 n] w fun e w' => e = .returned (.tuple #[.agg #[.int .i64 0, .int .i64 0, .int .i64 0], .int .i64 1]) ∧ Below w.heap.size w w' := by
  by_cases h1 : n < -719162
  · have d1 : decide (n < -719162) = true := decide_eq_true h1
    clear h
    go_enter Try.func21, Try.ntmps21
    go_wp2
    refine bodyPost_ret (results_ct rfl _ _ w.heap.size 35 #[.int .i64 0, .int .i64 0, .int .i64 0] (0, 0) _ rfl (blk_new _ _) Try.underlying35 rfl (by kernel_rfl)) rfl ?_
    exact ⟨rfl, (Below.refl _ _).alloc (Nat.le_refl _) _⟩
  · have d1 : decide (n < -719162) = false := decide_eq_false h1
    have d2 : decide (2932896 < n) = true := decide_eq_true (by omega)
    clear h
    go_enter Try.func21, Try.ntmps21
    go_wp2
    refine bodyPost_ret (results_ct rfl _ _ w.heap.size 35 #[.int .i64 0, .int .i64 0, .int .i64 0] (0, 0) _ rfl (blk_new _ _) Try.underlying35 rfl (by kernel_rfl)) rfl ?_
    exact ⟨rfl, (Below.refl _ _).alloc (Nat.le_refl _) _⟩

set_option maxRecDepth 100000 in
set_option maxHeartbeats 4000000 in
theorem of_yes (N : Int) (w : World) (h1 : -719162 ≤ N) (h2 : N ≤ 2932896) :
    Calls Try.prog 21 #[.int .i64 N] w fun e w' => ∃ (y : Int) (m : Nat) (d : Int), e = .returned (.tuple #[.agg #[.int .i64 y, .int .i64 m, .int .i64 d], .int .i64 0]) ∧ Vld y m d ∧ num y m d = N ∧ Below w.heap.size w w' := by
  have d1 : decide (N < -719162) = false := decide_eq_false (by omega)
  have d2 : decide (2932896 < N) = false := decide_eq_false (by omega)
  obtain ⟨n, hn⟩ : ∃ n : Int, N - -719162 = n := ⟨_, rfl⟩
  obtain ⟨g1, g2, g3⟩ := guess n (by omega) (by omega)
  have G3 := Lib.hid g3
  clear g3
  have n1 : 0 ≤ n := by omega
  have n2 : n ≤ 3652058 := by omega
  go_enter Try.func21, Try.ntmps21
  go_wp2
  have HN := Lib.hid hn
  clear hn
  have HR : Hid (Dt ((w.alloc (.cells #[.int .i64 0, .int .i64 0, .int .i64 0] 35)).alloc (.cells #[.int .i64 (400 * (n / 146097) + n % 146097 / 366 + 1), .int .i64 1, .int .i64 0] 35)) w.heap.size 0 0 0) := heap_alloc2_old _ _ _
  have HD : Hid (Dt ((w.alloc (.cells #[.int .i64 0, .int .i64 0, .int .i64 0] 35)).alloc (.cells #[.int .i64 (400 * (n / 146097) + n % 146097 / 366 + 1), .int .i64 1, .int .i64 0] 35)) (w.heap.size + 1) (400 * (n / 146097) + n % 146097 / 366 + 1) 1 0) := heap_alloc2_new _ _ _
  have HQ : Hid (Below w.heap.size w ((w.alloc (.cells #[.int .i64 0, .int .i64 0, .int .i64 0] 35)).alloc (.cells #[.int .i64 (400 * (n / 146097) + n % 146097 / 366 + 1), .int .i64 1, .int .i64 0] 35))) := ((Below.refl _ _).alloc (Nat.le_refl _) _).alloc (by simp) _
  have bR : w.heap.size ≤ w.heap.size := Nat.le_refl _
  have bD : w.heap.size ≤ w.heap.size + 1 := Nat.le_succ _
  have hne : Hid (w.heap.size ≠ w.heap.size + 1) := by show w.heap.size ≠ w.heap.size + 1; omega
  generalize hgD : w.heap.size + 1 = gD at HR HD HQ bD hne ⊢
  have HgD := Lib.hid hgD
  clear hgD
  generalize (w.alloc (.cells #[.int .i64 0, .int .i64 0, .int .i64 0] 35)).alloc (.cells #[.int .i64 (400 * (n / 146097) + n % 146097 / 366 + 1), .int .i64 1, .int .i64 0] 35) = w2 at HR HD HQ ⊢
  generalize 400 * (n / 146097) + n % 146097 / 366 + 1 = Y0 at g1 g2 G3 HD ⊢
  go_loopg [] (9999 - Y0).toNat (fun gk w' => ∃ Y : Int, 1 ≤ Y ∧ Y ≤ 9999 ∧ Hid ((gk : Int) = 9999 - Y) ∧ Hid (Cal.ahead Y ≤ n) ∧ Hid (Dt w' w.heap.size 0 0 0) ∧ Hid (Dt w' gD Y 1 0) ∧ Hid (Below w.heap.size w w'))
  case atStart => exact ⟨Y0, g1, g2, by show (((9999 - Y0).toNat : Nat) : Int) = 9999 - Y0; omega, G3, HR, HD, HQ⟩
  case round =>
    clear HR HD HQ G3 g1 g2
    obtain ⟨Y, y1, y2, HK, HA, HR, HD, HQ⟩ := hrel
    have k0 := HD.out.c0
    have k1 := HD.out.c1
    have f0 := HD.out.fz 0
    obtain ⟨A, hA⟩ : ∃ A : Int, Cal.ahead (Y + 1) = A := ⟨_, rfl⟩
    by_cases hAn : A ≤ n
    · have HAn : Hid (Cal.ahead (Y + 1) ≤ n) := by rw [hA]; exact hAn
      have HAA := Lib.hid hA
      clear hA
      go_wp2_with (first
        | (go_at_call 41; refine (ahead_any _ _ (by omega) (by omega)).mono ?_; rintro e w6 ⟨rfl, rfl⟩; rw [HAA.out]))
      have hY : Y + 1 ≤ 9999 := by
        have h3 := ahead_mono 10000 (Y + 1)
        have h4 : Cal.ahead 10000 = 3652059 := by decide
        have h5 := HAn.out
        omega
      go_roundg (gk - 1)
      case measure => have := HK.out; omega
      case rel => exact ⟨Y + 1, by omega, hY, by have := HK.out; show ((gk - 1 : Nat) : Int) = 9999 - (Y + 1); omega, HAn, HR.out.far (by have := hne.out; exact this) _, HD.out.s0 _, below_set' HQ.out bD _ _⟩
    · have HAn : Hid (n < Cal.ahead (Y + 1)) := by rw [hA]; show n < A; omega
      have HAA := Lib.hid hA
      clear hA
      obtain ⟨B, hB⟩ : ∃ B : Int, Cal.ahead Y = B := ⟨_, rfl⟩
      have hB1 : B ≤ n := by rw [← hB]; exact HA.out
      have hB2 : n < B + 366 := by have h1 := HAn.out; rw [ahead_succ] at h1; have := (lp_01 Y).2; omega
      have hB3 : 0 ≤ B := by have h1 := ahead_mono 1 Y y1; have h2 : Cal.ahead 1 = 0 := by decide
                             omega
      have HBB := Lib.hid hB
      clear hB HK
      go_wp2_with (first
        | (go_at_call_has 41 (Value.int .i64 (Y + 1)); refine (ahead_any _ _ (by omega) (by omega)).mono ?_; rintro e w6 ⟨rfl, rfl⟩; rw [HAA.out])
        | (go_at_call 41; refine (ahead_any _ _ (by omega) (by omega)).mono ?_; rintro e w7 ⟨rfl, rfl⟩; rw [HBB.out]))
      obtain ⟨R0, hR0⟩ : ∃ R : Int, n - B = R := ⟨_, rfl⟩
      rw [hR0]
      have r1 : 0 ≤ R0 := by omega
      have r2 : R0 < 366 := by omega
      have HC0 : Hid (R0 = n - Cal.ahead Y - cum Y (1 - 1)) := by show R0 = n - Cal.ahead Y - 0; rw [HBB.out]; omega
      have HYr : Hid (n - Cal.ahead Y < 365 + lp Y) := by show n - Cal.ahead Y < 365 + lp Y; have h := HAn.out; rw [ahead_succ] at h; omega
      clear hR0 k0 k1 f0 hAn hB1 hB2 hB3 HBB HAA
      go_loopg [4] 12 (fun gk v w' => ∃ (M : Nat) (R : Int), 1 ≤ M ∧ M ≤ 12 ∧ Hid (gk + M = 13) ∧ v = .int .i64 R ∧ 0 ≤ R ∧ R < 366 ∧ Hid (R = n - Cal.ahead Y - cum Y (M - 1)) ∧ Hid (Dt w' w.heap.size 0 0 0) ∧ Hid (Dt w' gD Y M 0) ∧ Hid (Below w.heap.size w w'))
      case atStart => exact ⟨1, R0, by omega, by omega, rfl, rfl, r1, r2, HC0, HR, HD, HQ⟩
      case round =>
        clear HR HD HQ HC0 r1 r2
        obtain ⟨M, R, m1, m2, HK, rfl, r1, r2, HC, HR, HD, HQ⟩ := hrel
        have k0 := HD.out.c0
        have k1 := HD.out.c1
        have k2 := HD.out.c2
        have f1 := HD.out.fz 1
        have f2 := HD.out.fz 2
        obtain ⟨L, hL⟩ : ∃ L : Int, dim Y M = L := ⟨_, rfl⟩
        have l1 := (dim_bd Y M).1
        have l2 := (dim_bd Y M).2
        rw [hL] at l1 l2
        have HC2 : Hid (cum Y M = cum Y (M - 1) + L) := by
          obtain ⟨q, rfl⟩ : ∃ q, M = q + 1 := ⟨M - 1, by omega⟩
          rw [← hL]; rfl
        have HLL : Hid (∀ w : World, Calls Try.prog 27 #[.int .i64 Y, .int .i64 (M : Int)] w fun e w' => e = .returned (.int .i64 L) ∧ w' = w) := fun w => by rw [← hL]; exact length_any Y M w
        have HL := Lib.hid hL
        clear hL
        by_cases hRL : L ≤ R
        · have m3 : M + 1 ≤ 12 := by
            rcases Nat.lt_or_ge M 12 with h | h
            · exact h
            · have e : M = 12 := by omega
              subst e
              have h1 := HC2.out
              rw [cum_12] at h1
              have h2 := HC.out
              have h3 := HYr.out
              omega
          go_wp2_with (first
            | (go_at_call 27; refine (HLL.out _).mono ?_; rintro e w6 ⟨rfl, rfl⟩))
          go_roundg (gk - 1)
          case measure => have := HK.out; omega
          case rel => exact ⟨M + 1, R - L, by omega, m3, by have := HK.out; show gk - 1 + (M + 1) = 13; omega, rfl, by omega, by omega, by show R - L = n - Cal.ahead Y - cum Y M; rw [HC2.out]; have := HC.out; omega, HR.out.far (by have := hne.out; exact this) _, HD.out.s1 _, below_set' HQ.out bD _ _⟩
        · have HR' := HR.out.far (b := gD) (i := 2) (by have := hne.out; exact this) (.int .i64 (R + 1))
          have j0 := HR'.c0
          have j1 := HR'.c1
          have j2 := HR'.c2
          have jf0 := HR'.fz 0
          have jf1 := HR'.fz 1
          have jf2 := HR'.fz 2
          have HR2 := Lib.hid HR'
          clear HR'
          go_wp2_with (first
            | (go_at_call 27; refine (HLL.out _).mono ?_; rintro e w6 ⟨rfl, rfl⟩))
          have HF := ((HR2.out.s0 Y).s1 (M : Int)).s2 (R + 1)
          refine bodyPost_ret (results_ct rfl _ _ w.heap.size 35 _ (0, 0) _ rfl HF Try.underlying35 rfl (by kernel_rfl)) rfl ?_
          refine ⟨Y, M, R + 1, rfl, ⟨y1, y2, m1, m2, by omega, by rw [HL.out]; omega⟩, ?_, below_set' (below_set' (below_set' (below_set' HQ.out bD _ _) bR _ _) bR _ _) bR _ _⟩
          have h1 := HC.out
          have h2 := HN.out
          unfold num
          omega
end Go.Proofs.Ytapoeegnnkfgiaa
