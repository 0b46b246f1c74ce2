/- DiskCuts: the walk; no condition. -/
import Derived.Test.YtapoeegnnkfgiaaDKn
import Derived.Test.YtapoeegnnkfgiaaKn
set_option linter.unusedVariables false
set_option linter.unusedSimpArgs false
namespace Go.Proofs.Ytapoeegnnkfgiaa
open Go.RowKit Go.Proofs.YtapoeegnnkfgiaaW.PrintWords

/-- Each element of a slice of bools reads as a bool, below. -/
def Bls (w : World) (a : Option Addr) (n : Nat) : Prop := ∀ r, r < n → ∃ ad, a = some ad ∧ ad.block < w.heap.size ∧ ∃ t : Bool, w.cell? (ad.add r) = some (.bool t)
theorem dwithin_at (a n v : Int) (w : World) (h0 : 0 < n) (h1 : n ≤ 4000000000001) (hv : Hid (a % n = v)) :
    Calls Try.prog 14 #[.int .i64 a, .int .i64 n] w fun e w' => e = .returned (.int .i64 v) ∧ w' = w := by
  have h := hv.out; subst h; exact dwithin_any a n w h0 h1
theorem far_new {w : World} {g n c : Nat} (h : g < w.heap.size) : ∀ ad, some (⟨w.heap.size, 0, none⟩ : Addr) = some ad → ad.block ≠ g := by
  intro ad e
  have e2 := Option.some.inj e
  rw [← e2]
  exact Nat.ne_of_gt h
theorem mo_le {B b : Nat} (h : B ≤ b) : ∀ b', some b = some b' → B ≤ b' := by
  intro b' e
  have := Option.some.inj e
  omega

set_option maxRecDepth 100000 in
set_option maxHeartbeats 4000000 in
theorem cuts_walk (n : Int) (a1 : Option Addr) (len1 cap1 : Nat) (W : World) (hR : Bls W a1 len1) (hlen : len1 ≤ 9223372036854775807) :
    Calls Try.prog 3 #[.int .i64 n, .slice a1 len1 cap1] W fun e W' => e = .returned (.bool true) ∧ Below W.heap.size W W' := by
  obtain ⟨hn1, hn2⟩ := mod_bd' n 20 (by decide)
  obtain ⟨N, hN⟩ : ∃ N : Nat, n % 20 = (N : Int) := ⟨(n % 20).toNat, by omega⟩
  have hN2 : N < 20 := by omega
  have HNN := Lib.hid hN
  clear hN hn1 hn2
  have HR := Lib.hid hR
  clear hR
  obtain ⟨C, hmk, hz⟩ := make_at
  have HZ := Lib.hid hz
  clear hz
  go_enter Try.func3, Try.ntmps3
  go_wp2_with (first
    | (go_at_call 12; refine (dknown_any _).mono ?_; rintro e w1 ⟨rfl, hw1⟩; have HW1 := Lib.hid hw1; clear hw1)
    | (go_at_call 13; refine (new_any 4 _ (by decide) (by decide)).mono ?_; rintro e w2 ⟨g, b, rfl, hg, hb, hbg, hd, hm, hq⟩; have HD1 := Lib.hid hd; have HM1 := Lib.hid hm; have HQ1 := Lib.hid (below_then' HW1.out hq HW1.out.size); have gE := Nat.le_trans HW1.out.size hg; have bE := Nat.le_trans HW1.out.size hb; clear hd hm hq hg hb)
    | (go_at_call 14; refine (dwithin_at _ _ _ _ (by decide) (by decide) HNN).mono ?_; rintro e w3 ⟨rfl, rfl⟩)
    | (go_at_call 15; refine (cut_any g 4 b 0 (-1) N false _ HD1.out (by omega)).mono ?_; rintro e w4 ⟨rfl, hd, ho⟩; have HM2 := Lib.hid (HM1.out.kept ho (fun e => hbg (Option.some.inj e))); have HQ2 := Lib.hid (Tr.below (mo := none) HQ1.out (Tr.of ho) HQ1.out.size gE (fun b h => by cases h)); have HD2 := Lib.hid hd; clear hd ho))
  have HBG := Lib.hid hbg
  clear HW1 HD1 HM1 HQ1 hbg
  go_loopw [7, 8] (fun vD vk w => ∃ (k D m : Nat) (f : Int → Option Nat) (dead : Bool), k ≤ 30 ∧ vk = .int .i64 k ∧ vD = .int .i64 D ∧ D ≤ k ∧ D ≤ N ∧ m ≤ k ∧ (dead = true → D = N) ∧ Hid (Db w g 4 b D ((N : Int) - D) dead) ∧ Hid (Dm w b m f) ∧ Hid (Below W.heap.size W w)) (fun _ vk _ => (30 - intOf vk).toNat)
  case atStart => exact ⟨0, 0, 0, noneD, false, by omega, rfl, rfl, by omega, by omega, by omega, (fun h => by cases h), by have h := HD2.out; rw [show ((N : Int) - ((0 : Nat) : Int)) = N by omega]; exact h, HM2, HQ2⟩
  case round =>
    clear HD2 HM2 HQ2
    obtain ⟨k, D, m, f, dead, hk, rfl, rfl, hDk, hDN, hmk', hde, HD, HM, HQ⟩ := hrel
    by_cases h30 : k < 30
    · have d30 : decide ((k : Int) < 30) = true := decide_eq_true (by omega)
      have hA := below_alloc1 wr C
      have hgs := HD.out.lt
      have HD1 := Lib.hid (Db.belowW HD.out hA)
      have HM1 := Lib.hid (Dm.belowW HM.out hA)
      have HQ1 := Lib.hid (HQ.out.alloc HQ.out.size (.cells C 5))
      have HB1 := Lib.hid ((HZ.out wr).bts zeros_lt)
      clear hA
      have ht0 : 0 ≤ (k : Int).tmod 4 := Int.tmod_nonneg _ (by omega)
      have ht1 : (k : Int).tmod 4 < 4 := Int.tmod_lt_of_pos _ (by decide)
      cases dead
      case true =>
        obtain rfl : D = N := hde rfl
        have dN : decide ((D : Int) < D) = false := decide_eq_false (by omega)
        have dN2 : decide ((D : Int) ≤ D) = true := decide_eq_true (by omega)
        by_cases hl : k < len1
        · obtain ⟨ad, rfl, hblk, t, hc⟩ := HR.out k hl
          replace hc := (HQ.out.cell (p := ad.add k) (by rw [add_block]; exact hblk)).trans hc
          have dl : decide ((k : Int) < len1) = true := decide_eq_true (by omega)
          cases t
          case false =>
            go_wp2_with (first
              | (go_at_call 16; refine (write_dead g 4 b _ _ _ _ _ HD1.out).mono ?_; rintro e w6 ⟨rfl, rfl⟩)
              | (go_at_call 17; refine (dead_any g 4 b _ _ true _ HD1.out).mono ?_; rintro e w7 ⟨rfl, rfl⟩)
              | (go_at_call 18; refine (writes_any g 4 b _ _ true _ HD1.out).mono ?_; rintro e w7 ⟨rfl, rfl⟩))
            go_round
            case rel => exact ⟨k + 1, D, m, f, true, by omega, by go_num, rfl, by omega, by omega, by omega, (fun _ => rfl), HD1, HM1, HQ1⟩
            case measure => simp [intOf]; omega
          case true =>
            go_wp2_with (first
              | (go_at_call 16; refine (write_dead g 4 b _ _ _ _ _ HD1.out).mono ?_; rintro e w6 ⟨rfl, rfl⟩)
              | (go_at_call 17; refine (dead_any g 4 b _ _ true _ HD1.out).mono ?_; rintro e w7 ⟨rfl, rfl⟩))
            go_round
            case rel => exact ⟨k + 1, D, m, f, true, by omega, by go_num, rfl, by omega, by omega, by omega, (fun _ => rfl), HD1, HM1, HQ1⟩
            case measure => simp [intOf]; omega
        · have dl : decide ((k : Int) < len1) = false := decide_eq_false (by omega)
          go_wp2_with (first
            | (go_at_call 16; refine (write_dead g 4 b _ _ _ _ _ HD1.out).mono ?_; rintro e w6 ⟨rfl, rfl⟩)
            | (go_at_call 17; refine (dead_any g 4 b _ _ true _ HD1.out).mono ?_; rintro e w7 ⟨rfl, rfl⟩)
            | (go_at_call 18; refine (writes_any g 4 b _ _ true _ HD1.out).mono ?_; rintro e w7 ⟨rfl, rfl⟩))
          go_round
          case rel => exact ⟨k + 1, D, m, f, true, by omega, by go_num, rfl, by omega, by omega, by omega, (fun _ => rfl), HD1, HM1, HQ1⟩
          case measure => simp [intOf]; omega
      case false =>
        by_cases hDN2 : D = N
        · obtain rfl := hDN2
          have dN : decide ((D : Int) < D) = false := decide_eq_false (by omega)
          have HDC : Hid (Db (wr.alloc (.cells C 5)) g 4 b D 0 false) := by have h := HD1; rw [show ((D : Int) - D) = 0 by omega] at h; exact h
          by_cases hl : k < len1
          · obtain ⟨ad, rfl, hblk, t, hc⟩ := HR.out k hl
            replace hc := (HQ.out.cell (p := ad.add k) (by rw [add_block]; exact hblk)).trans hc
            have dl : decide ((k : Int) < len1) = true := decide_eq_true (by omega)
            cases t
            case false =>
              go_wp2_with (first
                | (go_at_call 16; refine (write_cut g 4 b D _ _ 512 _ HDC.out ht0 ht1).mono ?_; rintro e w6 ⟨rfl, hd, ho⟩; have HD2 := Lib.hid hd; have HM2 := Lib.hid (HM1.out.kept ho (fun e => HBG.out (Option.some.inj e))); have HQ2 := Lib.hid (Tr.below (mo := none) HQ1.out (Tr.of ho) HQ1.out.size gE (fun b h => by cases h)); clear hd ho)
                | (go_at_call 17; refine (dead_any g 4 b _ _ true _ HD2.out).mono ?_; rintro e w7 ⟨rfl, rfl⟩)
                | (go_at_call 18; refine (writes_any g 4 b _ _ true _ HD2.out).mono ?_; rintro e w7 ⟨rfl, rfl⟩))
              go_round
              case rel => exact ⟨k + 1, D, m, f, true, by omega, by go_num, rfl, by omega, by omega, by omega, (fun _ => rfl), by rw [show ((D : Int) - D) = 0 by omega]; exact HD2, HM2, HQ2⟩
              case measure => simp [intOf]; omega
            case true =>
              go_wp2_with (first
                | (go_at_call 16; refine (write_arg g 4 b _ _ _ _ _ _ _ HD1.out (Or.inr (Or.inl (by decide)))).mono ?_; rintro e w6 ⟨rfl, rfl⟩))
              go_round
              case rel => exact ⟨k + 1, D, m, f, false, by omega, by go_num, rfl, by omega, by omega, by omega, (fun h => by cases h), HD1, HM1, HQ1⟩
              case measure => simp [intOf]; omega
          · have dl : decide ((k : Int) < len1) = false := decide_eq_false (by omega)
            go_wp2_with (first
              | (go_at_call 16; refine (write_cut g 4 b D _ _ 512 _ HDC.out ht0 ht1).mono ?_; rintro e w6 ⟨rfl, hd, ho⟩; have HD2 := Lib.hid hd; have HM2 := Lib.hid (HM1.out.kept ho (fun e => HBG.out (Option.some.inj e))); have HQ2 := Lib.hid (Tr.below (mo := none) HQ1.out (Tr.of ho) HQ1.out.size gE (fun b h => by cases h)); clear hd ho)
              | (go_at_call 17; refine (dead_any g 4 b _ _ true _ HD2.out).mono ?_; rintro e w7 ⟨rfl, rfl⟩)
              | (go_at_call 18; refine (writes_any g 4 b _ _ true _ HD2.out).mono ?_; rintro e w7 ⟨rfl, rfl⟩))
            go_round
            case rel => exact ⟨k + 1, D, m, f, true, by omega, by go_num, rfl, by omega, by omega, by omega, (fun _ => rfl), by rw [show ((D : Int) - D) = 0 by omega]; exact HD2, HM2, HQ2⟩
            case measure => simp [intOf]; omega
        · have dN : decide ((D : Int) < N) = true := decide_eq_true (by omega)
          by_cases hl : k < len1
          · obtain ⟨ad, rfl, hblk, t, hc⟩ := HR.out k hl
            replace hc := (HQ.out.cell (p := ad.add k) (by rw [add_block]; exact hblk)).trans hc
            have dl : decide ((k : Int) < len1) = true := decide_eq_true (by omega)
            cases t
            case false =>
              go_wp2_with (first
                | (go_at_call 16; refine (write_pos g 4 b m D ((N : Int) - D) _ (some ⟨wr.heap.size, 0, none⟩) 512 zeros f _ HD1.out HM1.out HBG.out HB1.out ht0 ht1 (by decide) (by omega) (by omega) (fun ad e => by have e2 := Option.some.inj e; rw [← e2]; exact Nat.ne_of_gt hgs) (by omega) (by omega) (by omega)).mono ?_; rintro e w6 ⟨rfl, q, c', hq, ho, hd, hm, ht⟩; have HD2 := Lib.hid hd; have HM2 := Lib.hid hm; have HQ2 := Lib.hid (Tr.below HQ1.out ht HQ1.out.size gE (mo_le bE)); clear hq ho hd hm ht)
                | (go_at_call 17; refine (dead_any g 4 b _ _ false _ HD2.out).mono ?_; rintro e w7 ⟨rfl, rfl⟩)
                | (go_at_call 18; refine (writes_any g 4 b _ _ false _ HD2.out).mono ?_; rintro e w7 ⟨rfl, rfl⟩))
              go_round
              case rel => exact ⟨k + 1, D + 1, m + 1, _, false, by omega, by go_num, by go_num, by omega, by omega, by omega, (fun h => by cases h), by rw [show ((N : Int) - ((D + 1 : Nat) : Int)) = (N : Int) - D - 1 by omega, show (((D + 1 : Nat) : Int)) = (D : Int) + 1 by omega]; exact HD2, HM2, HQ2⟩
              case measure => simp [intOf]; omega
            case true =>
              go_wp2_with (first
                | (go_at_call 16; refine (write_arg g 4 b _ _ _ _ _ _ _ HD1.out (Or.inr (Or.inl (by decide)))).mono ?_; rintro e w6 ⟨rfl, rfl⟩))
              go_round
              case rel => exact ⟨k + 1, D, m, f, false, by omega, by go_num, rfl, by omega, by omega, by omega, (fun h => by cases h), HD1, HM1, HQ1⟩
              case measure => simp [intOf]; omega
          · have dl : decide ((k : Int) < len1) = false := decide_eq_false (by omega)
            go_wp2_with (first
              | (go_at_call 16; refine (write_pos g 4 b m D ((N : Int) - D) _ (some ⟨wr.heap.size, 0, none⟩) 512 zeros f _ HD1.out HM1.out HBG.out HB1.out ht0 ht1 (by decide) (by omega) (by omega) (fun ad e => by have e2 := Option.some.inj e; rw [← e2]; exact Nat.ne_of_gt hgs) (by omega) (by omega) (by omega)).mono ?_; rintro e w6 ⟨rfl, q, c', hq, ho, hd, hm, ht⟩; have HD2 := Lib.hid hd; have HM2 := Lib.hid hm; have HQ2 := Lib.hid (Tr.below HQ1.out ht HQ1.out.size gE (mo_le bE)); clear hq ho hd hm ht)
              | (go_at_call 17; refine (dead_any g 4 b _ _ false _ HD2.out).mono ?_; rintro e w7 ⟨rfl, rfl⟩)
              | (go_at_call 18; refine (writes_any g 4 b _ _ false _ HD2.out).mono ?_; rintro e w7 ⟨rfl, rfl⟩))
            go_round
            case rel => exact ⟨k + 1, D + 1, m + 1, _, false, by omega, by go_num, by go_num, by omega, by omega, by omega, (fun h => by cases h), by rw [show ((N : Int) - ((D + 1 : Nat) : Int)) = (N : Int) - D - 1 by omega, show (((D + 1 : Nat) : Int)) = (D : Int) + 1 by omega]; exact HD2, HM2, HQ2⟩
            case measure => simp [intOf]; omega
    · obtain rfl : k = 30 := by omega
      go_wp2_with (first
        | (go_at_call 19; refine (start_any g 4 b _ _ dead _ HD.out).mono ?_; rintro e w5 ⟨rfl, hd, ho⟩; have hm := HM.out.kept ho (fun e => HBG.out (Option.some.inj e)); have hq := Tr.below (mo := none) HQ.out (Tr.of ho) HQ.out.size gE (fun b h => by cases h); have hA := below_alloc1 w5 C; have HD2 := Lib.hid hd; have HD3 := Lib.hid (Db.belowW hd hA); have HM3 := Lib.hid (Dm.belowW hm hA); have HQ3 := Lib.hid (hq.alloc hq.size (.cells C 5)); have HB3 := Lib.hid ((HZ.out w5).bts zeros_lt); clear hd ho hm hq hA)
        | (go_at_call 17; refine (dead_any g 4 b _ _ false _ HD2.out).mono ?_; rintro e w7 ⟨rfl, rfl⟩)
        | (go_at_call 16; refine (write_neg g 4 b m D (-1) 0 _ 512 zeros f _ HD3.out HM3.out HBG.out HB3.out (by decide) (by decide) (by decide) (by decide) (by omega) (by omega) (by omega)).mono ?_; rintro e w6 ⟨rfl, q, c', hq, ho, hd, hm, ht⟩; have HQ4 := Lib.hid (Tr.below HQ3.out ht HQ3.out.size gE (mo_le bE)); clear hq ho hd hm ht))
      go_ret
      exact ⟨rfl, HQ4.out⟩
end Go.Proofs.Ytapoeegnnkfgiaa
