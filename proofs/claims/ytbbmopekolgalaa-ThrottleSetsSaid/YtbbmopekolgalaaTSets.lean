/- ThrottleSets. -/
import Derived.Test.YtbbmopekolgalaaThk
import Derived.Sort.AtCall
set_option linter.unusedVariables false
set_option linter.unusedSimpArgs false
namespace Go.Proofs.Ytbbmopekolgalaa
open Go.RowKit
set_option maxHeartbeats 2000000 in
theorem sets_walk (burst rate wait other pace : Int) (W : World) :
    Calls Try.prog 3 #[.int .i64 burst, .int .i64 rate, .int .i64 wait, .int .i64 other, .int .i64 pace] W fun e W' => e = .returned (.bool true) ∧ Below W.heap.size W W' := by
  obtain ⟨hb1, hb2⟩ := mod_bd burst 100 (by decide)
  obtain ⟨hr1, hr2⟩ := mod_bd rate 20 (by decide)
  obtain ⟨ht1, ht2⟩ := mod_bd wait 20 (by decide)
  obtain ⟨ho1, ho2⟩ := mod_bd other 100 (by decide)
  obtain ⟨hp1, hp2⟩ := mod_bd pace 20 (by decide)
  generalize hb : burst % 100 = b at hb1 hb2
  generalize hr : rate % 20 = r at hr1 hr2
  generalize ht : wait % 20 = t at ht1 ht2
  generalize ho : other % 100 = o at ho1 ho2
  generalize hp : pace % 20 = p at hp1 hp2
  have HB := Lib.hid hb
  have HR := Lib.hid hr
  have HT := Lib.hid ht
  have HO := Lib.hid ho
  have HP := Lib.hid hp
  clear hb hr ht ho hp
  obtain ⟨hm1, hm2⟩ := mul_bd r t 20 20 hr1 (by omega) ht1 (by omega)
  obtain ⟨H, h1⟩ : ∃ H : Int, (if r * t < 1 + b then r * t else 1 + b) = H := ⟨_, rfl⟩
  obtain ⟨N, h2⟩ : ∃ N : Int, (if 1 + o < H then 1 + o else H) = N := ⟨_, rfl⟩
  obtain ⟨F, h3⟩ : ∃ F : Int, (if N + p < 1 + o then N + p else 1 + o) = F := ⟨_, rfl⟩
  have bH : 0 ≤ H ∧ H ≤ 100 := by subst h1; split <;> omega
  have bN : 0 ≤ N ∧ N ≤ 100 := by subst h2; split <;> omega
  obtain ⟨bH1, bH2⟩ := bH
  obtain ⟨bN1, bN2⟩ := bN
  have e1 : Hid (lesser (1 + o) (hasV 0 (1 + b) r 5 (5 + t)) = N) := by
    show lesser (1 + o) (hasV 0 (1 + b) r 5 (5 + t)) = N
    have ht : 5 + t - 5 = t := by omega
    rw [hasV_plain 0 (1 + b) r 5 (5 + t) (by omega) (by omega) (by rw [ht]; omega) (by rw [ht]; omega) (by omega) (by omega) (by omega), ht, Int.zero_add, h1]
    unfold lesser
    rw [← h2]; split <;> split <;> omega
  have e2 : Hid (hasL 5 (5 + t) = 5 + t) := hasL_at _ _ (by omega)
  have e3 : Hid (hasV N (1 + o) p (5 + t) (5 + t) = N) := hasV_past _ _ _ _ _ (Int.le_refl _)
  have e4 : Hid (hasL (5 + t) (5 + t) = 5 + t) := hasL_past _ _ (Int.le_refl _)
  have e5 : Hid (hasV N (1 + o) p (5 + t) (6 + t) = F) := by
    show hasV N (1 + o) p (5 + t) (6 + t) = F
    have ht : 6 + t - (5 + t) = 1 := by omega
    have hN : N ≤ 1 + o := by rw [← h2]; split <;> omega
    rw [hasV_plain N (1 + o) p (5 + t) (6 + t) (by omega) (by omega) (by rw [ht]; omega) (by rw [ht]; omega) (by omega) (by omega) hN, ht, Int.mul_one, h3]
  go_enter Try.func3, Try.ntmps3
  go_wp2_with (first
    | (go_at_call 9; refine (known_any _).mono ?_; rintro e w1 ⟨rfl, hw1⟩; have HW1 := Lib.hid hw1; clear hw1)
    | (go_at_call_has 10 (Value.int .i64 burst); refine (within_at _ _ b _ (by decide) (by decide) HB).mono ?_; rintro e w2 ⟨rfl, rfl⟩)
    | (go_at_call_has 10 (Value.int .i64 rate); refine (within_at _ _ r _ (by decide) (by decide) HR).mono ?_; rintro e w2 ⟨rfl, rfl⟩)
    | (go_at_call_has 10 (Value.int .i64 wait); refine (within_at _ _ t _ (by decide) (by decide) HT).mono ?_; rintro e w2 ⟨rfl, rfl⟩)
    | (go_at_call_has 10 (Value.int .i64 other); refine (within_at _ _ o _ (by decide) (by decide) HO).mono ?_; rintro e w2 ⟨rfl, rfl⟩)
    | (go_at_call_has 10 (Value.int .i64 pace); refine (within_at _ _ p _ (by decide) (by decide) HP).mono ?_; rintro e w2 ⟨rfl, rfl⟩)
    | (go_at_call 11; refine (new_bk _ _ _ _).mono ?_; rintro e w3 ⟨g, rfl, hg, hb3, hw3⟩; have HB3 := Lib.hid hb3; have HW3 := Lib.hid hw3; clear hb3 hw3)
    | (go_at_call 12; refine (set_at g 0 (1 + b) r 5 (1 + o) p (5 + t) N (5 + t) _ HB3.out e1.out e2.out).mono ?_; rintro e w4 ⟨rfl, hb4, hg4⟩; have HB4 := Lib.hid hb4; have HG4 := Lib.hid hg4; clear hb4 hg4)
    | (go_at_call_has 13 (Value.int .i64 (5 + t)); refine (has_at g N (1 + o) p (5 + t) (5 + t) N (5 + t) _ HB4.out e3.out e4.out).mono ?_; rintro e w5 ⟨rfl, hb5, hg5⟩; have HB5 := Lib.hid hb5; have HG5 := Lib.hid hg5; clear hb5 hg5)
    | (go_at_call_has 13 (Value.int .i64 (6 + t)); refine (has_at g N (1 + o) p (5 + t) (6 + t) F _ _ HB5.out e5.out rfl).mono ?_; rintro e w6 ⟨rfl, hb6, hg6⟩; have HB6 := Lib.hid hb6; have HG6 := Lib.hid hg6; clear hb6 hg6))


  go_ret
  have hg' : W.heap.size ≤ g := Nat.le_trans HW1.out.size hg
  exact ⟨rfl, below_on (below_on (below_on (below_then' HW1.out HW3.out HW1.out.size) hg' HG4.out) hg' HG5.out) hg' HG6.out⟩
end Go.Proofs.Ytbbmopekolgalaa
