/- ThrottlePlays: the walk; no condition. -/
import Derived.Test.YtbbmopekolgalaaTStill
import Derived.Test.YtbbmopekolgalaaRef
set_option linter.unusedVariables false
set_option linter.unusedSimpArgs false
namespace Go.Proofs.Ytbbmopekolgalaa
open Go.RowKit

/-- The slice (a, n) of calls reads as f: the i-th call's fields. -/
def CallsAt (w : World) (B : Nat) (a : Option Addr) (n : Nat) (f : Nat → Nat → Int) : Prop :=
  n ≤ 9223372036854775807 ∧ ∀ i, i < n → ∃ ad, a = some ad ∧ ad.block < B ∧ ∀ j, j < 4 → w.cell? (ad.add (i * 4 + j)) = some (.int .i64 (f i j))

theorem Rk.other {w w' : World} {g h : Nat} {a b c d : Int} (hb : Rk w g a b c d) (hg : w.grownBy w' (some h)) (hne : g ≠ h) : Rk w' g a b c d :=
  (hg.block g hb.lt (fun e => hne (by injection e))).trans hb
theorem Rk.below {w w' : World} {g : Nat} {a b c d : Int} (hb : Rk w g a b c d) (h : Below w.heap.size w w') : Rk w' g a b c d :=
  (h.block g hb.lt).trans hb

theorem below_drewN {B : Nat} {a w : World} (h : Below B a w) (n : Nat) : Below B a (w.drewN n) := ⟨h.os, h.tape, h.output, h.size, h.block⟩
theorem cell_new (w : World) (cs : Array Value) (t : TypeId) (i : Nat) : (w.alloc (.cells cs t)).cell? ⟨w.heap.size, i, none⟩ = cs[i]? := cell_of_row _ _ _ _ _ _ (heap_alloc_new w _)
theorem add_of_add (a : Addr) (i j : Nat) : (a.add i).add j = a.add (i + j) := by
  unfold Addr.add
  by_cases hi : i = 0 <;> by_cases hj : j = 0 <;> simp [hi, hj, Nat.add_assoc]

set_option maxRecDepth 100000 in
set_option maxHeartbeats 8000000 in
theorem plays_walk (burst rate now : Int) (a : Option Addr) (len cap : Nat) (f : Nat → Nat → Int) (W : World) (hI : CallsAt W W.heap.size a len f) :
    Calls Try.prog 8 #[.int .i64 burst, .int .i64 rate, .int .i64 now, .slice a len cap] W fun e W' => e = .returned (.bool true) ∧ Below W.heap.size W W' := by
  obtain ⟨hb1, hb2⟩ := mod_bd burst 100000 (by decide)
  obtain ⟨hr1, hr2⟩ := mod_bd rate 1001 (by decide)
  obtain ⟨hn1, hn2⟩ := mod_bd now 4000000000 (by decide)
  generalize hb : burst % 100000 = b at hb1 hb2
  generalize hr : rate % 1001 = r at hr1 hr2
  generalize hn : now % 4000000000 = n at hn1 hn2
  have HB := Lib.hid hb
  have HR := Lib.hid hr
  have HN := Lib.hid hn
  clear hb hr hn
  have hlen : len ≤ 9223372036854775807 := hI.1
  have HI := Lib.hid hI
  clear hI
  go_enter Try.func8, Try.ntmps8
  go_wp2_with (first
    | (go_at_call 9; refine (known_any _).mono ?_; rintro e w1 ⟨rfl, hw1⟩; have HW1 := Lib.hid hw1; clear hw1)
    | (go_at_call_has 10 (Value.int .i64 burst); refine (within_at _ _ b _ (by decide) (by decide) HB).mono ?_; rintro e w2 ⟨rfl, rfl⟩)
    | (go_at_call_has 10 (Value.int .i64 rate); refine (within_at _ _ r _ (by decide) (by decide) HR).mono ?_; rintro e w2 ⟨rfl, rfl⟩)
    | (go_at_call_has 10 (Value.int .i64 now); refine (within_at _ _ n _ (by decide) (by decide) HN).mono ?_; rintro e w2 ⟨rfl, rfl⟩)
    | (go_at_call 11; refine (new_bk _ _ _ _).mono ?_; rintro e w3 ⟨g, rfl, hg, hb3, hw3⟩; have HB3 := Lib.hid hb3; have HW3 := Lib.hid hw3; clear hb3 hw3)
    | (go_at_call 15; refine (rnew _ _ _ _).mono ?_; rintro e w4 ⟨h, rfl, hh, hb4, hw4⟩; have HB4 := Lib.hid hb4; have HW4 := Lib.hid hw4; clear hb4 hw4))
  have hg' : W.heap.size ≤ g := Nat.le_trans HW1.out.size hg
  have hh' : W.heap.size ≤ h := Nat.le_trans hg' (Nat.le_trans (Nat.le_of_lt HB3.out.lt) hh)
  have hne : Hid (g ≠ h) := fun e => by have := HB3.out.lt; omega
  have HQ : Hid (Below W.heap.size W w4) := below_then' (below_then' HW1.out HW3.out HW1.out.size) HW4.out (below_then' HW1.out HW3.out HW1.out.size).size
  have HG : Hid (Bk w4 g 0 (1 + b) r n) := HB3.out.below HW4.out
  have HH : Hid (Rk w4 h 0 (1 + b) r n) := HB4.out
  clear HW1 HW3 HW4 HB3 HB4 hg hh
  go_loopw [2, 11] (fun m i w => ∃ (k : Nat) (q : Int), k ≤ len ∧ k ≤ 100 ∧ i = .int .i64 k ∧ m = .int .i64 q ∧ 0 ≤ q ∧ q ≤ 4000000000 ∧ (∃ x u v l, Hid (Bk w g x u v l) ∧ Hid (Rk w h x u v l)) ∧ Hid (Below W.heap.size W w)) (fun _ i _ => (100 - intOf i).toNat)
  case atStart => exact ⟨0, n, by omega, by omega, rfl, rfl, by omega, by omega, ⟨_, _, _, _, HG, HH⟩, HQ⟩
  case round =>
    clear HG HH HQ HB HR HN
    obtain ⟨k, q, hk1, hk2, rfl, rfl, hq1, hq2, ⟨x, u, v, l, HGk, HHk⟩, HQk⟩ := hrel
    by_cases hlt : k < len ∧ k < 100
    · obtain ⟨hlt, hlt2⟩ := hlt
      obtain ⟨ad, rfl, hB, hc⟩ := HI.out.2 k hlt
      have hc' : ∀ j, j < 4 → wr.cell? (ad.add (k * 4 + j)) = some (.int .i64 (f k j)) := fun j hj => (HQk.out.cell (p := ad.add (k * 4 + j)) (by rw [add_block]; exact hB)).trans (hc j hj)
      have c0 := hc' 0 (by decide)
      have c1 := hc' 1 (by decide)
      have c2 := hc' 2 (by decide)
      have c3 := hc' 3 (by decide)
      rw [Nat.add_zero] at c0
      rw [← add_of_add] at c1 c2 c3
      replace c1 : wr.cell? ⟨(ad.add (k * 4)).block, (ad.add (k * 4)).off + 1, none⟩ = some (.int .i64 (f k 1)) := c1
      replace c2 : wr.cell? ⟨(ad.add (k * 4)).block, (ad.add (k * 4)).off + 2, none⟩ = some (.int .i64 (f k 2)) := c2
      replace c3 : wr.cell? ⟨(ad.add (k * 4)).block, (ad.add (k * 4)).off + 3, none⟩ = some (.int .i64 (f k 3)) := c3
      have d100 : decide ((k : Int) < 100) = true := by simp; omega
      clear hc hc'
      generalize f k 0 = f0 at c0
      generalize f k 1 = f1 at c1
      generalize f k 2 = f2 at c2
      generalize f k 3 = f3 at c3
      have HA : Hid (Bk (wr.alloc (.cells #[.int .i64 f0, .int .i64 f1, .int .i64 f2, .int .i64 f3] 39)) g x u v l) := HGk.out.below ((Below.refl _ _).alloc (Nat.le_refl _) _)
      have HR : Hid (Rk (wr.alloc (.cells #[.int .i64 f0, .int .i64 f1, .int .i64 f2, .int .i64 f3] 39)) h x u v l) := HHk.out.below ((Below.refl _ _).alloc (Nat.le_refl _) _)
      have HQA : Hid (Below W.heap.size W (wr.alloc (.cells #[.int .i64 f0, .int .i64 f1, .int .i64 f2, .int .i64 f3] 39))) := HQk.out.alloc HQk.out.size _
      have a0 : (wr.alloc (.cells #[.int .i64 f0, .int .i64 f1, .int .i64 f2, .int .i64 f3] 39)).cell? ⟨wr.heap.size, 0, none⟩ = some (.int .i64 f0) := cell_new _ _ _ _
      have a2 : (wr.alloc (.cells #[.int .i64 f0, .int .i64 f1, .int .i64 f2, .int .i64 f3] 39)).cell? ⟨wr.heap.size, 2, none⟩ = some (.int .i64 f2) := cell_new _ _ _ _
      have a3 : (wr.alloc (.cells #[.int .i64 f0, .int .i64 f1, .int .i64 f2, .int .i64 f3] 39)).cell? ⟨wr.heap.size, 3, none⟩ = some (.int .i64 f3) := cell_new _ _ _ _
      have hk3 : f0 % 3 = 0 ∨ f0 % 3 = 1 ∨ f0 % 3 = 2 := by omega
      by_cases hT : 0 ≤ f1
      · obtain ⟨hz1, hz2⟩ := mod_bd f1 1000000 (by decide)
        generalize hz : f1 % 1000000 = z at hz1 hz2
        have HZ := Lib.hid hz
        clear hz
        obtain ⟨m, hm⟩ : ∃ m : Int, (if 4000000000 < q + z then 4000000000 else q + z) = m := ⟨_, rfl⟩
        have bm : 0 ≤ m ∧ m ≤ 4000000000 := by subst hm; split <;> omega
        obtain ⟨bm1, bm2⟩ := bm
        go_wp2_with fail
        generalize wr.alloc (.cells #[.int .i64 f0, .int .i64 f1, .int .i64 f2, .int .i64 f3] 39) = wa at HA HR HQA a0 a2 a3 ⊢
        generalize wr.heap.size = sz at a0 a2 a3 ⊢
        clear c0 c1 c2 c3 HGk HHk HQk
        refine (within_at f1 1000000 z _ (by omega) (by omega) HZ).mono ?_
        rintro e wa ⟨rfl, rfl⟩
        obtain ⟨Y, hY⟩ : ∃ Y, hasV x u v l m = Y := ⟨_, rfl⟩
        obtain ⟨L, hL⟩ : ∃ L, hasL l m = L := ⟨_, rfl⟩
        have HY := Lib.hid hY
        have HL := Lib.hid hL
        clear hY hL HZ
        rcases hk3 with hk | hk | hk
        · have HK := Lib.hid hk
          clear hk
          by_cases hy : Y < 1
          · replace hy := Lib.hid hy
            go_wp2_with (first
              | (go_at_call 10; refine (within_at f0 3 0 _ (by decide) (by decide) HK).mono ?_; rintro e w6 ⟨rfl, rfl⟩)
              | (go_at_call 14; refine (pass_at_no g x u v l m Y L _ HA.out HY.out HL.out hy.out).mono ?_; rintro e w7 ⟨rfl, hb7, hg7⟩; have HB7 := Lib.hid hb7; have HG7 := Lib.hid hg7; clear hb7 hg7)
              | (go_at_call 16; refine (rpass_no h x u v l m Y L _ (HR.out.other HG7.out (Ne.symm hne.out)) HY.out HL.out hy.out).mono ?_; rintro e w8 ⟨rfl, hb8, hg8⟩; have HB8 := Lib.hid hb8; have HG8 := Lib.hid hg8; clear hb8 hg8))
            go_roundw
            case rel => exact ⟨k + 1, m, by omega, by omega, by go_num, rfl, by omega, by omega, ⟨Y, u, v, L, HB7.out.other HG8.out hne.out, HB8.out⟩, below_on (below_on HQA.out hg' HG7.out) hh' HG8.out⟩
            case measure => simp [intOf]; omega
          · replace hy := Lib.hid (show 1 ≤ Y by omega)
            go_wp2_with (first
              | (go_at_call 10; refine (within_at f0 3 0 _ (by decide) (by decide) HK).mono ?_; rintro e w6 ⟨rfl, rfl⟩)
              | (go_at_call 14; refine (pass_at_yes g x u v l m Y (wrap64 (Y + -1)) L _ HA.out HY.out HL.out hy.out rfl).mono ?_; rintro e w7 ⟨rfl, hb7, hg7⟩; have HB7 := Lib.hid hb7; have HG7 := Lib.hid hg7; clear hb7 hg7)
              | (go_at_call 16; refine (rpass_yes h x u v l m Y (wrap64 (Y + -1)) L _ (HR.out.other HG7.out (Ne.symm hne.out)) HY.out HL.out hy.out (by rw [Int.sub_eq_add_neg])).mono ?_; rintro e w8 ⟨rfl, hb8, hg8⟩; have HB8 := Lib.hid hb8; have HG8 := Lib.hid hg8; clear hb8 hg8))
            go_roundw
            case rel => exact ⟨k + 1, m, by omega, by omega, by go_num, rfl, by omega, by omega, ⟨wrap64 (Y + -1), u, v, L, HB7.out.other HG8.out hne.out, HB8.out⟩, below_on (below_on HQA.out hg' HG7.out) hh' HG8.out⟩
            case measure => simp [intOf]; omega
        · have HK := Lib.hid hk
          clear hk
          go_wp2_with (first
            | (go_at_call 10; refine (within_at f0 3 1 _ (by decide) (by decide) HK).mono ?_; rintro e w6 ⟨rfl, rfl⟩)
            | (go_at_call 13; refine (has_at g x u v l m Y L _ HA.out HY.out HL.out).mono ?_; rintro e w7 ⟨rfl, hb7, hg7⟩; have HB7 := Lib.hid hb7; have HG7 := Lib.hid hg7; clear hb7 hg7)
            | (go_at_call 17; refine (rleft h x u v l m Y L _ (HR.out.other HG7.out (Ne.symm hne.out)) HY.out HL.out).mono ?_; rintro e w8 ⟨rfl, hb8, hg8⟩; have HB8 := Lib.hid hb8; have HG8 := Lib.hid hg8; clear hb8 hg8))
          go_roundw
          case rel => exact ⟨k + 1, m, by omega, by omega, by go_num, rfl, by omega, by omega, ⟨Y, u, v, L, HB7.out.other HG8.out hne.out, HB8.out⟩, below_on (below_on HQA.out hg' HG7.out) hh' HG8.out⟩
          case measure => simp [intOf]; omega
        · have HK := Lib.hid hk
          clear hk
          obtain ⟨hu1, hu2⟩ := mod_bd f2 100000 (by decide)
          obtain ⟨hv1, hv2⟩ := mod_bd f3 1001 (by decide)
          generalize hfu : f2 % 100000 = u' at hu1 hu2
          generalize hfv : f3 % 1001 = v' at hv1 hv2
          have HU := Lib.hid hfu
          have HV := Lib.hid hfv
          clear hfu hfv
          obtain ⟨X, hX⟩ : ∃ X, lesser (1 + u') (hasV x u v l m) = X := ⟨_, rfl⟩
          have HX := Lib.hid hX
          clear hX
          go_wp2_with (first
            | (go_at_call 10; refine (within_at f0 3 2 _ (by decide) (by decide) HK).mono ?_; rintro e w6 ⟨rfl, rfl⟩))
          go_quiet ((first | (go_at_call_has 10 (Value.int .i64 100000); exact Calls.quiet_of_same (within_at f2 100000 u' _ (by decide) (by decide) HU)) | (go_at_call_has 10 (Value.int .i64 1001); exact Calls.quiet_of_same (within_at f3 1001 v' _ (by decide) (by decide) HV))))
          go_wp2_with (first
            | (go_at_call 12; refine (set_at g x u v l (1 + u') v' m X L _ (show Bk (World.drewN w6 nq) g x u v l from HA.out) HX.out HL.out).mono ?_; rintro e w7 ⟨rfl, hb7, hg7⟩; have HB7 := Lib.hid hb7; have HG7 := Lib.hid hg7; clear hb7 hg7)
            | (go_at_call 18; refine (rset h x u v l (1 + u') v' m X L _ (show Rk w7 h x u v l from Rk.other (w := World.drewN w6 nq) HR.out HG7.out (Ne.symm hne.out)) HX.out HL.out).mono ?_; rintro e w8 ⟨rfl, hb8, hg8⟩; have HB8 := Lib.hid hb8; have HG8 := Lib.hid hg8; clear hb8 hg8))
          go_roundw
          case rel => exact ⟨k + 1, m, by omega, by omega, by go_num, rfl, by omega, by omega, ⟨X, (1 + u'), v', L, HB7.out.other HG8.out hne.out, HB8.out⟩, below_on (below_on (w := World.drewN w6 nq) (below_drewN HQA.out nq) hg' HG7.out) hh' HG8.out⟩
          case measure => simp [intOf]; omega
      · obtain ⟨hz1, hz2⟩ := mod_bd f1 (q + 1) (by omega)
        generalize hz : f1 % (q + 1) = z at hz1 hz2
        have HZ := Lib.hid hz
        clear hz
        go_wp2_with fail
        generalize wr.alloc (.cells #[.int .i64 f0, .int .i64 f1, .int .i64 f2, .int .i64 f3] 39) = wa at HA HR HQA a0 a2 a3 ⊢
        generalize wr.heap.size = sz at a0 a2 a3 ⊢
        clear c0 c1 c2 c3 HGk HHk HQk
        refine (within_at f1 (q + 1) z _ (by omega) (by omega) HZ).mono ?_
        rintro e wa ⟨rfl, rfl⟩
        obtain ⟨Y, hY⟩ : ∃ Y, hasV x u v l z = Y := ⟨_, rfl⟩
        obtain ⟨L, hL⟩ : ∃ L, hasL l z = L := ⟨_, rfl⟩
        have HY := Lib.hid hY
        have HL := Lib.hid hL
        clear hY hL HZ
        rcases hk3 with hk | hk | hk
        · have HK := Lib.hid hk
          clear hk
          by_cases hy : Y < 1
          · replace hy := Lib.hid hy
            go_wp2_with (first
              | (go_at_call 10; refine (within_at f0 3 0 _ (by decide) (by decide) HK).mono ?_; rintro e w6 ⟨rfl, rfl⟩)
              | (go_at_call 14; refine (pass_at_no g x u v l z Y L _ HA.out HY.out HL.out hy.out).mono ?_; rintro e w7 ⟨rfl, hb7, hg7⟩; have HB7 := Lib.hid hb7; have HG7 := Lib.hid hg7; clear hb7 hg7)
              | (go_at_call 16; refine (rpass_no h x u v l z Y L _ (HR.out.other HG7.out (Ne.symm hne.out)) HY.out HL.out hy.out).mono ?_; rintro e w8 ⟨rfl, hb8, hg8⟩; have HB8 := Lib.hid hb8; have HG8 := Lib.hid hg8; clear hb8 hg8))
            go_roundw
            case rel => exact ⟨k + 1, q, by omega, by omega, by go_num, rfl, by omega, by omega, ⟨Y, u, v, L, HB7.out.other HG8.out hne.out, HB8.out⟩, below_on (below_on HQA.out hg' HG7.out) hh' HG8.out⟩
            case measure => simp [intOf]; omega
          · replace hy := Lib.hid (show 1 ≤ Y by omega)
            go_wp2_with (first
              | (go_at_call 10; refine (within_at f0 3 0 _ (by decide) (by decide) HK).mono ?_; rintro e w6 ⟨rfl, rfl⟩)
              | (go_at_call 14; refine (pass_at_yes g x u v l z Y (wrap64 (Y + -1)) L _ HA.out HY.out HL.out hy.out rfl).mono ?_; rintro e w7 ⟨rfl, hb7, hg7⟩; have HB7 := Lib.hid hb7; have HG7 := Lib.hid hg7; clear hb7 hg7)
              | (go_at_call 16; refine (rpass_yes h x u v l z Y (wrap64 (Y + -1)) L _ (HR.out.other HG7.out (Ne.symm hne.out)) HY.out HL.out hy.out (by rw [Int.sub_eq_add_neg])).mono ?_; rintro e w8 ⟨rfl, hb8, hg8⟩; have HB8 := Lib.hid hb8; have HG8 := Lib.hid hg8; clear hb8 hg8))
            go_roundw
            case rel => exact ⟨k + 1, q, by omega, by omega, by go_num, rfl, by omega, by omega, ⟨wrap64 (Y + -1), u, v, L, HB7.out.other HG8.out hne.out, HB8.out⟩, below_on (below_on HQA.out hg' HG7.out) hh' HG8.out⟩
            case measure => simp [intOf]; omega
        · have HK := Lib.hid hk
          clear hk
          go_wp2_with (first
            | (go_at_call 10; refine (within_at f0 3 1 _ (by decide) (by decide) HK).mono ?_; rintro e w6 ⟨rfl, rfl⟩)
            | (go_at_call 13; refine (has_at g x u v l z Y L _ HA.out HY.out HL.out).mono ?_; rintro e w7 ⟨rfl, hb7, hg7⟩; have HB7 := Lib.hid hb7; have HG7 := Lib.hid hg7; clear hb7 hg7)
            | (go_at_call 17; refine (rleft h x u v l z Y L _ (HR.out.other HG7.out (Ne.symm hne.out)) HY.out HL.out).mono ?_; rintro e w8 ⟨rfl, hb8, hg8⟩; have HB8 := Lib.hid hb8; have HG8 := Lib.hid hg8; clear hb8 hg8))
          go_roundw
          case rel => exact ⟨k + 1, q, by omega, by omega, by go_num, rfl, by omega, by omega, ⟨Y, u, v, L, HB7.out.other HG8.out hne.out, HB8.out⟩, below_on (below_on HQA.out hg' HG7.out) hh' HG8.out⟩
          case measure => simp [intOf]; omega
        · have HK := Lib.hid hk
          clear hk
          obtain ⟨hu1, hu2⟩ := mod_bd f2 100000 (by decide)
          obtain ⟨hv1, hv2⟩ := mod_bd f3 1001 (by decide)
          generalize hfu : f2 % 100000 = u' at hu1 hu2
          generalize hfv : f3 % 1001 = v' at hv1 hv2
          have HU := Lib.hid hfu
          have HV := Lib.hid hfv
          clear hfu hfv
          obtain ⟨X, hX⟩ : ∃ X, lesser (1 + u') (hasV x u v l z) = X := ⟨_, rfl⟩
          have HX := Lib.hid hX
          clear hX
          go_wp2_with (first
            | (go_at_call 10; refine (within_at f0 3 2 _ (by decide) (by decide) HK).mono ?_; rintro e w6 ⟨rfl, rfl⟩))
          go_quiet ((first | (go_at_call_has 10 (Value.int .i64 100000); exact Calls.quiet_of_same (within_at f2 100000 u' _ (by decide) (by decide) HU)) | (go_at_call_has 10 (Value.int .i64 1001); exact Calls.quiet_of_same (within_at f3 1001 v' _ (by decide) (by decide) HV))))
          go_wp2_with (first
            | (go_at_call 12; refine (set_at g x u v l (1 + u') v' z X L _ (show Bk (World.drewN w6 nq) g x u v l from HA.out) HX.out HL.out).mono ?_; rintro e w7 ⟨rfl, hb7, hg7⟩; have HB7 := Lib.hid hb7; have HG7 := Lib.hid hg7; clear hb7 hg7)
            | (go_at_call 18; refine (rset h x u v l (1 + u') v' z X L _ (show Rk w7 h x u v l from Rk.other (w := World.drewN w6 nq) HR.out HG7.out (Ne.symm hne.out)) HX.out HL.out).mono ?_; rintro e w8 ⟨rfl, hb8, hg8⟩; have HB8 := Lib.hid hb8; have HG8 := Lib.hid hg8; clear hb8 hg8))
          go_roundw
          case rel => exact ⟨k + 1, q, by omega, by omega, by go_num, rfl, by omega, by omega, ⟨X, (1 + u'), v', L, HB7.out.other HG8.out hne.out, HB8.out⟩, below_on (below_on (w := World.drewN w6 nq) (below_drewN HQA.out nq) hg' HG7.out) hh' HG8.out⟩
          case measure => simp [intOf]; omega
    · obtain ⟨Y, hY⟩ : ∃ Y, hasV x u v l q = Y := ⟨_, rfl⟩
      obtain ⟨L, hL⟩ : ∃ L, hasL l q = L := ⟨_, rfl⟩
      have HY := Lib.hid hY
      have HL := Lib.hid hL
      clear hY hL
      by_cases hlt : k < len
      all_goals
        go_wp2_with (first
          | (go_at_call 13; refine (has_at g x u v l q Y L _ HGk.out HY.out HL.out).mono ?_; rintro e w7 ⟨rfl, hb7, hg7⟩; have HB7 := Lib.hid hb7; have HG7 := Lib.hid hg7; clear hb7 hg7)
          | (go_at_call 17; refine (rleft h x u v l q Y L _ (HHk.out.other HG7.out (Ne.symm hne.out)) HY.out HL.out).mono ?_; rintro e w8 ⟨rfl, hb8, hg8⟩; have HB8 := Lib.hid hb8; have HG8 := Lib.hid hg8; clear hb8 hg8))
        go_ret
        exact ⟨rfl, below_on (below_on HQk.out hg' HG7.out) hh' HG8.out⟩
end Go.Proofs.Ytbbmopekolgalaa
