/- ThrottleBegins: the walk; no condition. -/
import Derived.Test.YtbbmopekolgalaaThk
import Derived.Sort.AtCall
set_option linter.unusedVariables false
set_option linter.unusedSimpArgs false
namespace Go.Proofs.Ytbbmopekolgalaa
open Go.RowKit

/-- Behind k passes of M: what a bucket comes to at a tick. -/
def Rest (w : World) (g : Nat) (b r now v : Int) : Prop := ∃ x l : Int, Bk w g x b r l ∧ hasV x b r l now = v ∧ hasL l now = now
theorem Rest.pass {w : World} {g : Nat} {b r now v : Int} (h : Rest w g b r now v) (hv : 1 ≤ v) (hm : v ≤ 1000000000) :
    Calls Try.prog 14 #[.pointer (some ⟨g, 0, none⟩), .int .i64 now] w fun e w' => e = .returned (.bool true) ∧ Rest w' g b r now (v - 1) ∧ w.grownBy w' (some g) := by
  obtain ⟨x, l, hb, h1, h2⟩ := h
  refine (pass_at_yes g x b r l now v (v - 1) now w hb h1 h2 hv (by unfold wrap64; omega)).mono ?_
  rintro e w' ⟨he, hb', hg⟩
  exact ⟨he, ⟨v - 1, now, hb', hasV_past _ _ _ _ _ (Int.le_refl _), hasL_past _ _ (Int.le_refl _)⟩, hg⟩
theorem Rest.no {w : World} {g : Nat} {b r now v : Int} (h : Rest w g b r now v) (hv : v < 1) :
    Calls Try.prog 14 #[.pointer (some ⟨g, 0, none⟩), .int .i64 now] w fun e w' => e = .returned (.bool false) ∧ Bk w' g v b r now ∧ w.grownBy w' (some g) := by
  obtain ⟨x, l, hb, h1, h2⟩ := h
  exact pass_at_no g x b r l now v now w hb h1 h2 hv
theorem Rest.has {w : World} {g : Nat} {b r now v : Int} (h : Rest w g b r now v) :
    Calls Try.prog 13 #[.pointer (some ⟨g, 0, none⟩), .int .i64 now] w fun e w' => e = .returned (.int .i64 v) ∧ Bk w' g v b r now ∧ w.grownBy w' (some g) := by
  obtain ⟨x, l, hb, h1, h2⟩ := h
  exact has_at g x b r l now v now w hb h1 h2

set_option maxHeartbeats 2000000 in
theorem begins_walk (burst rate now wait : Int) (W : World) :
    Calls Try.prog 5 #[.int .i64 burst, .int .i64 rate, .int .i64 now, .int .i64 wait] W fun e W' => e = .returned (.bool true) ∧ Below W.heap.size W W' := by
  obtain ⟨hb1, hb2⟩ := mod_bd burst 500 (by decide)
  obtain ⟨hr1, hr2⟩ := mod_bd rate 20 (by decide)
  obtain ⟨hn1, hn2⟩ := mod_bd now 1000000 (by decide)
  obtain ⟨ht1, ht2⟩ := mod_bd wait 60 (by decide)
  generalize hb : burst % 500 = b at hb1 hb2
  generalize hr : rate % 20 = r at hr1 hr2
  generalize hn : now % 1000000 = n at hn1 hn2
  generalize ht : wait % 60 = t at ht1 ht2
  have HB := Lib.hid hb
  have HR := Lib.hid hr
  have HN := Lib.hid hn
  have HT := Lib.hid ht
  clear hb hr hn ht
  obtain ⟨hm1, hm2⟩ := mul_bd r t 20 60 hr1 (by omega) ht1 (by omega)
  obtain ⟨M, h1⟩ : ∃ M : Int, (if r * t < 1 + b then r * t else 1 + b) = M := ⟨_, rfl⟩
  have bM : 0 ≤ M ∧ M ≤ 1000 := by subst h1; split <;> omega
  obtain ⟨bM1, bM2⟩ := bM
  have e1 : Hid (hasV 0 (1 + b) r n n = 0) := hasV_past _ _ _ _ _ (Int.le_refl _)
  have e2 : Hid (hasL n n = n) := hasL_past _ _ (Int.le_refl _)
  have e3 : Hid (hasV 0 (1 + b) r n (n + t) = M) := by
    show hasV 0 (1 + b) r n (n + t) = M
    have ht : n + t - n = t := by omega
    rw [hasV_plain 0 (1 + b) r n (n + t) (by omega) (by omega) (by rw [ht]; omega) (by rw [ht]; omega) (by omega) (by omega) (by omega), ht, Int.zero_add, h1]
  have e4 : Hid (hasL n (n + t) = n + t) := hasL_at _ _ (by omega)
  go_enter Try.func5, Try.ntmps5
  go_wp2_with (first
    | (go_at_call 9; refine (known_any _).mono ?_; rintro e w1 ⟨rfl, hw1⟩; have HW1 := Lib.hid hw1; clear hw1)
    | (go_at_call_has 10 (Value.int .i64 burst); refine (within_at _ _ b _ (by decide) (by decide) HB).mono ?_; rintro e w2 ⟨rfl, rfl⟩)
    | (go_at_call_has 10 (Value.int .i64 rate); refine (within_at _ _ r _ (by decide) (by decide) HR).mono ?_; rintro e w2 ⟨rfl, rfl⟩)
    | (go_at_call_has 10 (Value.int .i64 now); refine (within_at _ _ n _ (by decide) (by decide) HN).mono ?_; rintro e w2 ⟨rfl, rfl⟩)
    | (go_at_call_has 10 (Value.int .i64 wait); refine (within_at _ _ t _ (by decide) (by decide) HT).mono ?_; rintro e w2 ⟨rfl, rfl⟩)
    | (go_at_call 11; refine (new_bk _ _ _ _).mono ?_; rintro e w3 ⟨g, rfl, hg, hb3, hw3⟩; have HB3 := Lib.hid hb3; have HW3 := Lib.hid hw3; clear hb3 hw3)
    | (go_at_call 14; refine (pass_at_no g 0 (1 + b) r n n 0 n _ HB3.out e1.out e2.out (by decide)).mono ?_; rintro e w4 ⟨rfl, hb4, hg4⟩; have HB4 := Lib.hid hb4; have HG4 := Lib.hid hg4; clear hb4 hg4)
    | (go_at_call 13; refine (has_at g 0 (1 + b) r n n 0 n _ HB4.out e1.out e2.out).mono ?_; rintro e w5 ⟨rfl, hb5, hg5⟩; have HB5 := Lib.hid hb5; have HG5 := Lib.hid hg5; clear hb5 hg5))
  have hg' : W.heap.size ≤ g := Nat.le_trans HW1.out.size hg
  have HQ : Hid (Below W.heap.size W w5) := below_on (below_on (below_then' HW1.out HW3.out HW1.out.size) hg' HG4.out) hg' HG5.out
  have HR5 : Hid (Rest w5 g (1 + b) r (n + t) (M - 0)) := ⟨0, n, HB5.out, by rw [Int.sub_zero]; exact e3.out, e4.out⟩
  clear HW1 HW3 HG4 HG5 HB3 HB4 HB5 e1 e2 e3 e4 h1 hg
  go_loopw [11] (fun i w => ∃ k : Int, 0 ≤ k ∧ k ≤ M ∧ i = .int .i64 k ∧ Hid (Rest w g (1 + b) r (n + t) (M - k)) ∧ Hid (Below W.heap.size W w)) (fun i _ => (M - intOf i).toNat)
  case atStart => exact ⟨0, by omega, by omega, rfl, HR5, HQ⟩
  case round =>
    clear HR5 HQ
    obtain ⟨k, hk1, hk2, rfl, HRk, HQk⟩ := hrel
    by_cases hlt : k < M
    · go_wp2_with (first | (go_at_call 14; refine (Rest.pass HRk.out (by omega) (by omega)).mono ?_; rintro e w6 ⟨rfl, hr6, hg6⟩; have HR6 := Lib.hid hr6; have HG6 := Lib.hid hg6; clear hr6 hg6))
      go_roundw
      case rel => exact ⟨k + 1, by omega, by omega, by go_num, by rw [show M - (k + 1) = M - k - 1 by omega]; exact HR6, below_on HQk.out hg' HG6.out⟩
      case measure => simp [intOf]; omega
    · go_wp2_with (first
        | (go_at_call 14; refine (Rest.no HRk.out (by omega)).mono ?_; rintro e w6 ⟨rfl, hr6, hg6⟩; have HR6 := Lib.hid hr6; have HG6 := Lib.hid hg6; clear hr6 hg6)
        | (go_at_call 13; refine (has_at g (M - k) (1 + b) r (n + t) (n + t) 0 (n + t) _ HR6.out (by rw [hasV_past _ _ _ _ _ (Int.le_refl _)]; omega) (hasL_past _ _ (Int.le_refl _))).mono ?_; rintro e w7 ⟨rfl, hr7, hg7⟩; have HG7 := Lib.hid hg7; clear hr7 hg7))
      go_ret
      exact ⟨rfl, below_on (below_on HQk.out hg' HG6.out) hg' HG7.out⟩
end Go.Proofs.Ytbbmopekolgalaa
