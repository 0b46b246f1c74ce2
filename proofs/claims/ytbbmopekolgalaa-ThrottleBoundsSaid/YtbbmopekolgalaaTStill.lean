/- ThrottleStill: the walk; no condition. -/
import Derived.Test.YtbbmopekolgalaaTBegins
import Derived.Test.YtbbmopekolgalaaArg
set_option linter.unusedVariables false
set_option linter.unusedSimpArgs false
namespace Go.Proofs.Ytbbmopekolgalaa
open Go.RowKit

theorem Bk.other {w w' : World} {g h : Nat} {a b c d : Int} (hb : Bk w g a b c d) (hg : w.grownBy w' (some h)) (hne : g ≠ h) : Bk w' g a b c d :=
  (hg.block g hb.lt (fun e => hne (by injection e))).trans hb
theorem Bk.below {w w' : World} {g : Nat} {a b c d : Int} (hb : Bk w g a b c d) (h : Below w.heap.size w w') : Bk w' g a b c d :=
  (h.block g hb.lt).trans hb
theorem hasV_zero (b d now : Int) (hb : 0 < b) : hasV 0 b 0 d now = 0 := by
  unfold hasV hasUp
  rw [Int.zero_mul, wrap_id 0 (by decide) (by decide), wrap_id (0 + 0) (by decide) (by decide)]
  split
  · rw [if_pos (by omega)]; rfl
  · rfl
theorem pass_still {w : World} {g : Nat} {b l : Int} (now : Int) (hb : 0 < b) (h : Bk w g 0 b 0 l) :
    Calls Try.prog 14 #[.pointer (some ⟨g, 0, none⟩), .int .i64 now] w fun e w' => e = .returned (.bool false) ∧ (∃ l', Bk w' g 0 b 0 l') ∧ w.grownBy w' (some g) :=
  (pass_at_no g 0 b 0 l now 0 _ w h (hasV_zero b l now hb) rfl (by decide)).mono fun e w' ⟨h1, h2, h3⟩ => ⟨h1, ⟨_, h2⟩, h3⟩
theorem has_still0 {w : World} {g : Nat} {b l : Int} (now : Int) (hb : 0 < b) (h : Bk w g 0 b 0 l) :
    Calls Try.prog 13 #[.pointer (some ⟨g, 0, none⟩), .int .i64 now] w fun e w' => e = .returned (.int .i64 0) ∧ (∃ l', Bk w' g 0 b 0 l') ∧ w.grownBy w' (some g) :=
  (has_at g 0 b 0 l now 0 _ w h (hasV_zero b l now hb) rfl).mono fun e w' ⟨h1, h2, h3⟩ => ⟨h1, ⟨_, h2⟩, h3⟩

set_option maxHeartbeats 2000000 in
theorem still_walk (burst now : Int) (a : Option Addr) (len cap : Nat) (zs : List Int) (W : World) (hI : IntsAt .i64 W W.heap.size a len zs) (hl : len * 8 ≤ 140737488351232) :
    Calls Try.prog 7 #[.int .i64 burst, .int .i64 now, .slice a len cap] W fun e W' => e = .returned (.bool true) ∧ Below W.heap.size W W' := by
  obtain ⟨hb1, hb2⟩ := mod_bd burst 1000 (by decide)
  obtain ⟨hn1, hn2⟩ := mod_bd now 1000000 (by decide)
  generalize hb : burst % 1000 = b at hb1 hb2
  generalize hn : now % 1000000 = n at hn1 hn2
  have HB := Lib.hid hb
  have HN := Lib.hid hn
  clear hb hn
  have hlen : len ≤ 9223372036854775807 := by omega
  obtain ⟨M, h1⟩ : ∃ M : Int, (if 7 < 1 + b then 7 else 1 + b) = M := ⟨_, rfl⟩
  have e1 : Hid (hasV 0 (1 + b) 1 n (n + 7) = M) := by
    show hasV 0 (1 + b) 1 n (n + 7) = M
    have ht : n + 7 - n = 7 := by omega
    rw [hasV_plain 0 (1 + b) 1 n (n + 7) (by omega) (by omega) (by rw [ht]; omega) (by rw [ht]; omega) (by omega) (by omega) (by omega), ht, Int.zero_add, Int.one_mul, h1]
  have e2 : Hid (hasL n (n + 7) = n + 7) := hasL_at _ _ (by omega)
  have HI := Lib.hid hI
  clear hI hl
  go_enter Try.func7, Try.ntmps7
  go_wp2_with (first
    | (go_at_call 9; refine (known_any _).mono ?_; rintro e w1 ⟨rfl, hw1⟩; have HW1 := Lib.hid hw1; clear hw1)
    | (go_at_call_has 10 (Value.int .i64 burst); refine (within_at _ _ b _ (by decide) (by decide) HB).mono ?_; rintro e w2 ⟨rfl, rfl⟩)
    | (go_at_call_has 10 (Value.int .i64 now); refine (within_at _ _ n _ (by decide) (by decide) HN).mono ?_; rintro e w2 ⟨rfl, rfl⟩)
    | (go_at_call_has 11 (Value.int .i64 0); refine (new_bk _ _ _ _).mono ?_; rintro e w3 ⟨g, rfl, hg, hb3, hw3⟩; have HB3 := Lib.hid hb3; have HW3 := Lib.hid hw3; clear hb3 hw3)
    | (go_at_call 11; refine (new_bk _ _ _ _).mono ?_; rintro e w4 ⟨h, rfl, hh, hb4, hw4⟩; have HB4 := Lib.hid hb4; have HW4 := Lib.hid hw4; clear hb4 hw4)
    | (go_at_call 13; refine (has_at h 0 (1 + b) 1 n (n + 7) M (n + 7) _ HB4.out e1.out e2.out).mono ?_; rintro e w5 ⟨rfl, hb5, hg5⟩; have HB5 := Lib.hid hb5; have HG5 := Lib.hid hg5; clear hb5 hg5))
  have hg' : W.heap.size ≤ g := Nat.le_trans HW1.out.size hg
  have hh' : W.heap.size ≤ h := Nat.le_trans hg' (Nat.le_trans (Nat.le_of_lt HB3.out.lt) hh)
  have hne : Hid (g ≠ h) := fun e => by have := HB3.out.lt; omega
  have HQ : Hid (Below W.heap.size W w5) := below_on (below_then' (below_then' HW1.out HW3.out HW1.out.size) HW4.out (below_then' HW1.out HW3.out HW1.out.size).size) hh' HG5.out
  have HG : Hid (∃ l, Bk w5 g 0 (1 + b) 0 l) := ⟨n, (HB3.out.below HW4.out).other HG5.out hne.out⟩
  have HH : Hid (Bk w5 h M (1 + b) 1 (n + 7)) := HB5.out
  clear HW1 HW3 HW4 HG5 HB3 HB4 HB5 e1 e2 hg hh
  go_loopw [10] (fun i w => ∃ k : Nat, k ≤ len ∧ k ≤ 30 ∧ i = .int .i64 k ∧ Hid (∃ l, Bk w g 0 (1 + b) 0 l) ∧ Hid (Bk w h M (1 + b) 1 (n + 7)) ∧ Hid (Below W.heap.size W w)) (fun i _ => (30 - intOf i).toNat)
  case atStart => exact ⟨0, by omega, by omega, rfl, HG, HH, HQ⟩
  case round =>
    clear HG HH HQ
    obtain ⟨k, hk1, hk2, rfl, HGk, HHk, HQk⟩ := hrel
    by_cases hlt : k < len ∧ k < 30
    · obtain ⟨hlt, hlt2⟩ := hlt
      have HIk : Hid (IntsAt .i64 wr W.heap.size a len zs) := HI.out.below HQk.out
      obtain ⟨ad, rfl, _, hc, _⟩ := HIk.out.2.2 k hlt
      obtain ⟨hz1, hz2⟩ := mod_bd (zs.getD k 0) 1000 (by decide)
      obtain ⟨hy1, hy2⟩ := mod_bd (zs.getD k 0) 8 (by decide)
      have HZ : Hid (zs.getD k 0 % 1000 = zs.getD k 0 % 1000) := rfl
      have HY : Hid (zs.getD k 0 % 8 = zs.getD k 0 % 8) := rfl
      generalize hq : zs.getD k 0 = q at *
      have Hq := Lib.hid hq
      clear hq
      obtain ⟨l, hgl⟩ := HGk.out
      have HGl := Lib.hid hgl
      clear hgl
      have hp8 : n + q % 8 ≤ n + 7 := by omega
      go_wp2_with (first
        | (go_at_call_has 10 (Value.int .i64 1000); refine (within_any q 1000 _ (by decide) (by decide)).mono ?_; rintro e w6 ⟨rfl, rfl⟩)
        | (go_at_call_has 10 (Value.int .i64 8); refine (within_any q 8 _ (by decide) (by decide)).mono ?_; rintro e w6 ⟨rfl, rfl⟩)
        | (go_at_call 14; refine (pass_still (n + q % 1000) (by omega) HGl.out).mono ?_; rintro e w7 ⟨rfl, hr7, hg7⟩; have c7 := ((below_on HQk.out hg' hg7).cell (p := ad.add k) (by rw [add_block]; assumption)).trans ((HQk.out.cell (p := ad.add k) (by rw [add_block]; assumption)).symm.trans hc); have HR7 := Lib.hid hr7; have HG7 := Lib.hid hg7; clear hr7 hg7)
        | (go_at_call 13; refine (has_at h M (1 + b) 1 (n + 7) (n + q % 8) M (n + 7) _ (HHk.out.other HG7.out (Ne.symm hne.out)) (hasV_past _ _ _ _ _ hp8) (hasL_past _ _ hp8)).mono ?_; rintro e w8 ⟨rfl, hr8, hg8⟩; have HR8 := Lib.hid hr8; have HG8 := Lib.hid hg8; clear hr8 hg8))
      go_roundw
      case rel =>
        obtain ⟨l', hb7⟩ := HR7.out
        exact ⟨k + 1, by omega, by omega, by go_num, ⟨l', hb7.other HG8.out hne.out⟩, HR8.out, below_on (below_on HQk.out hg' HG7.out) hh' HG8.out⟩
      case measure => simp [intOf]; omega
    · obtain ⟨l, hgl⟩ := HGk.out
      have HGl := Lib.hid hgl
      clear hgl
      by_cases hlt : k < len
      all_goals
        go_wp2_with (first
          | (go_at_call 13; refine (has_still0 (n + 2000) (by omega) HGl.out).mono ?_; rintro e w7 ⟨rfl, hr7, hg7⟩; have HG7 := Lib.hid hg7; clear hr7 hg7))
        go_ret
        exact ⟨rfl, below_on HQk.out hg' HG7.out⟩
end Go.Proofs.Ytbbmopekolgalaa
