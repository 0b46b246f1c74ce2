/- 'within' and the chapter's example, as contracts; the bucket's functions at values that are known. -/
import Derived.Test.YtbbmopekolgalaaThr
set_option linter.unusedVariables false
set_option linter.unusedSimpArgs false
namespace Go.Proofs.Ytbbmopekolgalaa
open Go.RowKit

theorem has_at (g : Nat) (a b c d now v l : Int) (w : World) (h : Bk w g a b c d) (hv : hasV a b c d now = v) (hl : hasL d now = l) :
    Calls Try.prog 13 #[.pointer (some ⟨g, 0, none⟩), .int .i64 now] w fun e w' => e = .returned (.int .i64 v) ∧ Bk w' g v b c l ∧ w.grownBy w' (some g) := by
  subst hv; subst hl; exact has_bk g a b c d now w h
theorem pass_at_no (g : Nat) (a b c d now v l : Int) (w : World) (h : Bk w g a b c d) (hv : hasV a b c d now = v) (hl : hasL d now = l) (hn : v < 1) :
    Calls Try.prog 14 #[.pointer (some ⟨g, 0, none⟩), .int .i64 now] w fun e w' => e = .returned (.bool false) ∧ Bk w' g v b c l ∧ w.grownBy w' (some g) := by
  subst hv; subst hl; exact pass_no g a b c d now w h hn
theorem pass_at_yes (g : Nat) (a b c d now v v' l : Int) (w : World) (h : Bk w g a b c d) (hv : hasV a b c d now = v) (hl : hasL d now = l) (hn : 1 ≤ v) (hv' : v' = wrap64 (v + -1)) :
    Calls Try.prog 14 #[.pointer (some ⟨g, 0, none⟩), .int .i64 now] w fun e w' => e = .returned (.bool true) ∧ Bk w' g v' b c l ∧ w.grownBy w' (some g) := by
  subst hv'; subst hv; subst hl; exact pass_yes g a b c d now w h hn
theorem set_at (g : Nat) (a b c d u v now x l : Int) (w : World) (h : Bk w g a b c d) (hx : lesser u (hasV a b c d now) = x) (hl : hasL d now = l) :
    Calls Try.prog 12 #[.pointer (some ⟨g, 0, none⟩), .int .i64 u, .int .i64 v, .int .i64 now] w fun e w' => e = .returned (.tuple #[]) ∧ Bk w' g x u v l ∧ w.grownBy w' (some g) := by
  subst hx; subst hl; exact set_bk g a b c d u v now w h

theorem emod_of_tmod (a n : Int) (hn : 0 < n) : a % n = if a.tmod n < 0 then a.tmod n + n else a.tmod n := by
  rw [Int.tmod_eq_emod]
  have h1 := Int.emod_nonneg a (by omega : n ≠ 0)
  have h2 := Int.emod_lt_of_pos a hn
  split <;> rename_i h3 <;> split <;> omega
theorem tmod_bd (a n : Int) (hn : 0 < n) : -n < a.tmod n ∧ a.tmod n < n := by
  rw [Int.tmod_eq_emod]
  have h1 := Int.emod_nonneg a (by omega : n ≠ 0)
  have h2 := Int.emod_lt_of_pos a hn
  split <;> omega

set_option maxHeartbeats 400000 in
theorem within_any (a n : Int) (w : World) (h0 : 0 < n) (h1 : n ≤ 4000000001) :
    Calls Try.prog 10 #[.int .i64 a, .int .i64 n] w fun e w' => e = .returned (.int .i64 (a % n)) ∧ w' = w := by
  have hb := tmod_bd a n h0
  obtain ⟨hb1, hb2⟩ := hb
  have hz : (n == 0) = false := beq_eq_false_iff_ne.mpr (by omega)
  rw [emod_of_tmod a n h0]
  by_cases hc : a.tmod n < 0
  · rw [if_pos hc]
    go_enter Try.func10, Try.ntmps10
    go_wp2
    go_ret
    exact ⟨rfl, rfl⟩
  · rw [if_neg hc]
    go_enter Try.func10, Try.ntmps10
    go_wp2
    go_ret
    exact ⟨rfl, rfl⟩

theorem below_on {W w w' : World} {g : Nat} (h : Below W.heap.size W w) (hg : W.heap.size ≤ g) (k : w.grownBy w' (some g)) : Below W.heap.size W w' :=
  h.grown k h.size (fun k e => by injection e with e; omega)

set_option maxHeartbeats 400000 in
theorem known_any (w : World) : Calls Try.prog 9 #[] w fun e w' => e = .returned (.bool true) ∧ Below w.heap.size w w' := by
  go_enter Try.func9, Try.ntmps9
  go_wp2_with fail
  refine (new_bk _ _ _ _).mono ?_
  rintro e w1 ⟨g, rfl, hg, hb1, hw1⟩
  have HB1 := Lib.hid hb1
  have HW1 := Lib.hid hw1
  clear hb1 hw1
  go_wp2_with (first | (go_at_call_of 13 (Value.int .i64 1); refine (has_at g 0 5 2 0 1 2 1 _ HB1.out (by decide) (by decide)).mono ?_; rintro e w2 ⟨rfl, hb2, hg2⟩; have HB2 := Lib.hid hb2; have HG2 := Lib.hid hg2; clear hb2 hg2) | (go_at_call_of 13 (Value.int .i64 9); refine (has_at g 2 5 2 1 9 5 9 _ HB2.out (by decide) (by decide)).mono ?_; rintro e w3 ⟨rfl, hb3, hg3⟩; have HB3 := Lib.hid hb3; have HG3 := Lib.hid hg3; clear hb3 hg3))
  go_ret
  exact ⟨rfl, below_on (below_on HW1.out hg HG2.out) hg HG3.out⟩

theorem mul_bd (x y X Y : Int) (hx : 0 ≤ x) (hX : x ≤ X) (hy : 0 ≤ y) (hY : y ≤ Y) : 0 ≤ x * y ∧ x * y ≤ X * Y :=
  ⟨Int.mul_nonneg hx hy, Int.mul_le_mul hX hY hy (by omega)⟩
theorem mod_bd (a n : Int) (hn : 0 < n) : 0 ≤ a % n ∧ a % n < n := ⟨Int.emod_nonneg a (by omega), Int.emod_lt_of_pos a hn⟩
theorem within_at (a n v : Int) (w : World) (h0 : 0 < n) (h1 : n ≤ 4000000001) (hv : Hid (a % n = v)) :
    Calls Try.prog 10 #[.int .i64 a, .int .i64 n] w fun e w' => e = .returned (.int .i64 v) ∧ w' = w := by
  have h := hv.out; subst h; exact within_any a n w h0 h1
theorem wrap_id (x : Int) (h0 : -1000000000000000000 ≤ x) (h1 : x ≤ 1000000000000000000) : IntKind.i64.wrap x = x := by
  rw [IntKind.wrap_i64]; omega
theorem below_then' {B : Nat} {w w1 w2 : World} (h : Below B w w1) (k : Below w1.heap.size w1 w2) (hB : B ≤ w1.heap.size) : Below B w w2 :=
  h.trans ⟨k.os, k.tape, k.output, k.size, fun i hi => k.block i (Nat.lt_of_lt_of_le hi hB)⟩
theorem hasUp_plain (a b c d now : Int) (h1 : 0 ≤ now - d) (h2 : now - d ≤ 1000000000000000000) (h3 : 0 ≤ c * (now - d)) (h4 : c * (now - d) ≤ 100000000000000000) (h5 : 0 ≤ a) (h6 : a ≤ 100000000000000000) :
    hasUp a b c d now = if a + c * (now - d) < b then a + c * (now - d) else b := by
  unfold hasUp
  rw [wrap_id (now - d) (by omega) (by omega), wrap_id (c * (now - d)) (by omega) (by omega), wrap_id (a + c * (now - d)) (by omega) (by omega)]
/-- What a bucket has behind some ticks, where nothing wraps. -/
theorem hasV_plain (a b c d now : Int) (h1 : d ≤ now) (h2 : now - d ≤ 1000000000000000000) (h3 : 0 ≤ c * (now - d)) (h4 : c * (now - d) ≤ 100000000000000000) (h5 : 0 ≤ a) (h6 : a ≤ 100000000000000000) (h7 : a ≤ b) :
    hasV a b c d now = if a + c * (now - d) < b then a + c * (now - d) else b := by
  unfold hasV
  by_cases h : d < now
  · rw [if_pos h, hasUp_plain a b c d now (by omega) h2 h3 h4 h5 h6]
  · have : now - d = 0 := by omega
    rw [if_neg h, this, Int.mul_zero, Int.add_zero]
    split <;> omega
theorem hasV_past (a b c d now : Int) (h1 : now ≤ d) : hasV a b c d now = a := by
  unfold hasV; rw [if_neg (by omega)]
theorem hasL_at (d now : Int) (h1 : d ≤ now) : hasL d now = now := by unfold hasL; split <;> omega
theorem hasL_past (d now : Int) (h1 : now ≤ d) : hasL d now = d := by unfold hasL; split <;> omega
end Go.Proofs.Ytbbmopekolgalaa
