/- ThrottleCaps: the walk; no condition. -/
import Derived.Test.YtbbmopekolgalaaTBegins
set_option linter.unusedVariables false
set_option linter.unusedSimpArgs false
namespace Go.Proofs.Ytbbmopekolgalaa
open Go.RowKit

set_option maxHeartbeats 2000000 in
theorem caps_walk (burst rate wait : Int) (W : World) :
    Calls Try.prog 6 #[.int .i64 burst, .int .i64 rate, .int .i64 wait] W fun e W' => e = .returned (.bool true) ∧ Below W.heap.size W W' := by
  obtain ⟨hb1, hb2⟩ := mod_bd burst 300 (by decide)
  obtain ⟨hr1, hr2⟩ := mod_bd rate 50 (by decide)
  obtain ⟨ht1, ht2⟩ := mod_bd wait 1000000 (by decide)
  generalize hb : burst % 300 = b at hb1 hb2
  generalize hr : rate % 50 = r at hr1 hr2
  generalize ht : wait % 1000000 = t at ht1 ht2
  have HB := Lib.hid hb
  have HR := Lib.hid hr
  have HT := Lib.hid ht
  clear hb hr ht
  obtain ⟨M, h1⟩ : ∃ M : Int, (if r < b then 1 + r else 1 + b) = M := ⟨_, rfl⟩
  have e1 : Hid (hasV 0 (1 + b) (1 + r) 0 (300 + t) = 1 + b) := by
    show hasV 0 (1 + b) (1 + r) 0 (300 + t) = 1 + b
    obtain ⟨hm1, hm2⟩ := mul_bd (1 + r) (300 + t) 50 1000300 (by omega) (by omega) (by omega) (by omega)
    obtain ⟨hm3, hm4⟩ := mul_bd 1 (300 + t) (1 + r) (300 + t) (by omega) (by omega) (by omega) (by omega)
    have ht : 300 + t - 0 = 300 + t := by omega
    rw [hasV_plain 0 (1 + b) (1 + r) 0 (300 + t) (by omega) (by omega) (by rw [ht]; omega) (by rw [ht]; omega) (by omega) (by omega) (by omega), ht, Int.zero_add, if_neg (by omega)]
  have e2 : Hid (hasL 0 (300 + t) = 300 + t) := hasL_at _ _ (by omega)
  have e3 : Hid (hasV 0 (1 + b) (1 + r) (300 + t) (300 + t + 1) = M) := by
    show hasV 0 (1 + b) (1 + r) (300 + t) (300 + t + 1) = M
    have ht : 300 + t + 1 - (300 + t) = 1 := by omega
    rw [hasV_plain 0 (1 + b) (1 + r) (300 + t) (300 + t + 1) (by omega) (by omega) (by rw [ht]; omega) (by rw [ht]; omega) (by omega) (by omega) (by omega), ht, Int.zero_add, Int.mul_one, ← h1]
    split <;> split <;> omega
  go_enter Try.func6, Try.ntmps6
  go_wp2_with (first
    | (go_at_call 9; refine (known_any _).mono ?_; rintro e w1 ⟨rfl, hw1⟩; have HW1 := Lib.hid hw1; clear hw1)
    | (go_at_call_has 10 (Value.int .i64 burst); refine (within_at _ _ b _ (by decide) (by decide) HB).mono ?_; rintro e w2 ⟨rfl, rfl⟩)
    | (go_at_call_has 10 (Value.int .i64 rate); refine (within_at _ _ r _ (by decide) (by decide) HR).mono ?_; rintro e w2 ⟨rfl, rfl⟩)
    | (go_at_call_has 10 (Value.int .i64 wait); refine (within_at _ _ t _ (by decide) (by decide) HT).mono ?_; rintro e w2 ⟨rfl, rfl⟩)
    | (go_at_call 11; refine (new_bk _ _ _ _).mono ?_; rintro e w3 ⟨g, rfl, hg, hb3, hw3⟩; have HB3 := Lib.hid hb3; have HW3 := Lib.hid hw3; clear hb3 hw3)
    | (go_at_call 13; refine (has_at g 0 (1 + b) (1 + r) 0 (300 + t) (1 + b) (300 + t) _ HB3.out e1.out e2.out).mono ?_; rintro e w5 ⟨rfl, hb5, hg5⟩; have HB5 := Lib.hid hb5; have HG5 := Lib.hid hg5; clear hb5 hg5))
  have hg' : W.heap.size ≤ g := Nat.le_trans HW1.out.size hg
  have HQ : Hid (Below W.heap.size W w5) := below_on (below_then' HW1.out HW3.out HW1.out.size) hg' HG5.out
  have HR5 : Hid (Rest w5 g (1 + b) (1 + r) (300 + t) (1 + b - 0)) := ⟨1 + b, 300 + t, HB5.out, by rw [Int.sub_zero]; exact hasV_past _ _ _ _ _ (Int.le_refl _), hasL_past _ _ (Int.le_refl _)⟩
  clear HW1 HW3 HG5 HB3 HB5 e1 e2 hg
  go_loopw [8] (fun i w => ∃ k : Int, 0 ≤ k ∧ k ≤ 1 + b ∧ i = .int .i64 k ∧ Hid (Rest w g (1 + b) (1 + r) (300 + t) (1 + b - k)) ∧ Hid (Below W.heap.size W w)) (fun i _ => (1 + b - intOf i).toNat)
  case atStart => exact ⟨0, by omega, by omega, rfl, HR5, HQ⟩
  case round =>
    clear HR5 HQ
    obtain ⟨k, hk1, hk2, rfl, HRk, HQk⟩ := hrel
    by_cases hlt : k < 1 + b
    · go_wp2_with (first | (go_at_call 14; refine (Rest.pass HRk.out (by omega) (by omega)).mono ?_; rintro e w6 ⟨rfl, hr6, hg6⟩; have HR6 := Lib.hid hr6; have HG6 := Lib.hid hg6; clear hr6 hg6))
      go_roundw
      case rel => exact ⟨k + 1, by omega, by omega, by go_num, by rw [show 1 + b - (k + 1) = 1 + b - k - 1 by omega]; exact HR6, below_on HQk.out hg' HG6.out⟩
      case measure => simp [intOf]; omega
    · obtain rfl : k = 1 + b := by omega
      rw [show 1 + b - (1 + b) = 0 by omega] at HRk
      clear hk2 hlt
      go_wp2_with (first
        | (go_at_call 14; refine (Rest.no HRk.out (by omega)).mono ?_; rintro e w6 ⟨rfl, hr6, hg6⟩; have HR6 := Lib.hid hr6; have HG6 := Lib.hid hg6; clear hr6 hg6)
        | (go_at_call 13; refine (has_at g 0 (1 + b) (1 + r) (300 + t) (300 + t + 1) M _ _ HR6.out e3.out rfl).mono ?_; rintro e w7 ⟨rfl, hr7, hg7⟩; have HG7 := Lib.hid hg7; clear hr7 hg7))
      go_ret
      exact ⟨rfl, below_on (below_on HQk.out hg' HG6.out) hg' HG7.out⟩
end Go.Proofs.Ytbbmopekolgalaa
