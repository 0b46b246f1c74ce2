/- Sum's New, Now, Crc; the document's Crc; the chapter's example; no condition. -/
import Derived.Test.YtdfhponhjjkdmaaAdd
set_option linter.unusedVariables false
set_option linter.unusedSimpArgs false
namespace Go.Proofs.Ytdfhponhjjkdmaa
open Go.RowKit Crc Go.Proofs.YtdfhponhjjkdmaaW.PrintWords

theorem below_then' {B : Nat} {w w1 w2 : World} (h : Below B w w1) (k : Below w1.heap.size w1 w2) (hB : B ≤ w1.heap.size) : Below B w w2 :=
  h.trans ⟨k.os, k.tape, k.output, k.size, fun i hi => k.block i (Nat.lt_of_lt_of_le hi hB)⟩
/-- What turns one new block alone turns nothing below. -/
theorem below_only {B g : Nat} {w w1 w2 : World} (h : Below B w w1) (k : w1.grownBy w2 (some g)) (hB : B ≤ w1.heap.size) (hg : B ≤ g) : Below B w w2 :=
  h.trans ⟨k.os, k.tape, k.output, k.size, fun i hi => k.block i (Nat.lt_of_lt_of_le hi hB) (by intro e; injection e with e; omega)⟩

theorem new_sum (w : World) : Calls Try.prog 9 #[] w fun e w' => e = .returned (.pointer (some ⟨w.heap.size, 0, none⟩)) ∧ Ok w' w.heap.size 0 ∧ Below w.heap.size w w' := by
  go_enter Try.func9, Try.ntmps9
  go_wp2
  go_ret
  exact ⟨rfl, .inl ⟨fun _ => 0, blk_new _ _⟩, (Below.refl _ _).alloc (Nat.le_refl _) _⟩
theorem Ok.c19 {w : World} {g : Nat} {c : Int} (h : Ok w g c) : w.cell? ⟨g, 19, none⟩ = some (.int .u32 c) := by
  rcases h with ⟨tf, h⟩ | h
  · exact h.c19
  · exact h.c19
theorem Ok.lt {w : World} {g : Nat} {c : Int} (h : Ok w g c) : g < w.heap.size := by
  rcases h with ⟨tf, h⟩ | h
  · exact h.lt
  · exact h.lt
theorem Ok.grown {w w' : World} {g : Nat} {c : Int} {row : Option Nat} (h : Ok w g c) (hg : w.grownBy w' row) (hne : some g ≠ row) : Ok w' g c := by
  rcases h with ⟨tf, h⟩ | h
  · exact .inl ⟨tf, h.grown hg hne⟩
  · exact .inr (h.grown hg hne)
theorem now_sum (g : Nat) (c : Int) (w : World) (h : Ok w g c) : Calls Try.prog 10 #[.pointer (some ⟨g, 0, none⟩)] w fun e w' => e = .returned (.int .u32 c) ∧ w' = w := by
  have h19 := h.c19
  go_enter Try.func10, Try.ntmps10
  go_wp2
  go_ret
  exact ⟨rfl, rfl⟩

set_option maxRecDepth 100000 in
set_option maxHeartbeats 4000000 in
theorem ref_crc (a : Option Addr) (n cap : Nat) (bs : List Nat) (w : World) (hB : Bts w a n bs) :
    Calls Try.prog 12 #[.slice a n cap] w fun e w' => e = .returned (.int .u32 ((crc bs : Nat) : Int)) ∧ w' = w := by
  have HB := Lib.hid hB
  have hn := hB.2.1
  have hlen := hB.1
  clear hB
  have hmax : bits .xor .u32 IntKind.u32.max 0 = 4294967295 := inv_xor 0 (by decide)
  go_enter Try.func12, Try.ntmps12
  go_wp2
  go_loop [3, 4] (fun v i => ∃ k F : Nat, k ≤ n ∧ i = .int .i64 k ∧ v = .int .u32 F ∧ F < 4294967296 ∧ Hid (fold 4294967295 (bs.take k) = F)) (fun _ i => n - (intOf i).toNat)
  case atStart => exact ⟨0, 4294967295, by omega, rfl, rfl, by decide, rfl⟩
  case round =>
    obtain ⟨k, F, hk, rfl, rfl, hF, HF⟩ := hrel
    by_cases hlt : k < n
    · obtain ⟨ad, rfl, hc⟩ := HB.out.2.2.2 k hlt
      have hb := HB.out.lt k hlt
      have HF2 : Hid (fold 4294967295 (bs.take (k + 1)) = byt F (bs.getD k 0)) := by rw [← HF.out]; exact fold_take _ bs k (by omega)
      generalize bs.getD k 0 = b at hc hb HF2
      have hx0 := xor_byte F b hF hb
      unfold byt at HF2
      have hG : (F ^^^ b) < 4294967296 := Nat.xor_lt_two_pow (n := 32) hF (by omega)
      generalize (F ^^^ b) = G at hx0 HF2 hG
      go_wp2
      go_loop [3, 5] (fun v i => ∃ m : Nat, m ≤ 8 ∧ i = .int .i64 m ∧ v = .int .u32 ((stpN m G : Nat) : Int)) (fun _ i => 8 - (intOf i).toNat)
      case atStart => exact ⟨0, by omega, rfl, rfl⟩
      case round =>
        obtain ⟨m, hm, rfl, rfl⟩ := hrel
        by_cases hm8 : m < 8
        · obtain ⟨q, hq⟩ : ∃ q : Nat, stpN m G = q := ⟨_, rfl⟩
          have hq1 : q < 4294967296 := by rw [← hq]; exact stpN_lt m G hG
          have hq2 : stpN (m + 1) G = stp q := by rw [← hq]; rfl
          rw [hq]
          clear hq
          by_cases hb : q % 2 = 1
          · have ha : bits .and .u32 (q : Int) 1 = 1 := by rw [and_one q hq1, hb]; rfl
            have hx := xor_half q hq1
            have hs : stp q = (q / 2 ^^^ 2197175160) := if_pos hb
            rw [hs] at hq2
            clear hs
            go_wp2
            go_round
            case rel => exact ⟨m + 1, by omega, by go_num, by rw [hq2]⟩
            case measure => simp [intOf]; omega
          · have ha : bits .and .u32 (q : Int) 1 = 0 := by rw [and_one q hq1, show q % 2 = 0 by omega]; rfl
            have hs : stp q = q / 2 := if_neg hb
            rw [hs] at hq2
            clear hs
            go_wp2
            go_round
            case rel => exact ⟨m + 1, by omega, by go_num, by rw [hq2]; go_num⟩
            case measure => simp [intOf]; omega
        · obtain rfl : m = 8 := by omega
          go_wp2
          go_round
          case rel => exact ⟨k + 1, stpN 8 G, by omega, by go_num, rfl, stpN_lt 8 G hG, HF2⟩
          case measure => simp [intOf]; omega
    · obtain rfl : k = n := by omega
      have hx3 := inv_xor F hF
      go_wp2
      go_ret
      have h1 := HF.out
      rw [List.take_of_length_le (by omega)] at h1
      have h2 : crc bs = 4294967295 - F := by unfold crc; rw [h1]
      rw [h2]
      exact ⟨rfl, rfl⟩

theorem Bts.below {w w' : World} {a : Option Addr} {n : Nat} {bs : List Nat} (h : Bts w a n bs) (hb : Below w.heap.size w w') : Bts w' a n bs :=
  ⟨h.1, h.2.1, h.2.2.1, fun j hj => by
    obtain ⟨ad, e, hc⟩ := h.2.2.2 j hj
    exact ⟨ad, e, (hb.cell (p := ad.add j) (World.block_lt_of_cell? w _ hc)).trans hc⟩⟩
theorem Bts.old {w : World} {a : Option Addr} {n : Nat} {bs : List Nat} (h : Bts w a n bs) (hn : 0 < n) (ad : Addr) (e : a = some ad) : ad.block < w.heap.size := by
  obtain ⟨ad', e', hc⟩ := h.2.2.2 0 hn
  have h1 := World.block_lt_of_cell? w _ hc
  rw [add_block] at h1
  rw [e] at e'
  injection e' with e'
  rw [e']; exact h1

set_option maxRecDepth 100000 in
set_option maxHeartbeats 1600000 in
theorem crc_any (a : Option Addr) (n cap : Nat) (bs : List Nat) (w : World) (hB : Bts w a n bs) :
    Calls Try.prog 13 #[.slice a n cap] w fun e w' => e = .returned (.int .u32 ((crc bs : Nat) : Int)) ∧ Below w.heap.size w w' := by
  go_enter Try.func13, Try.ntmps13
  go_wp2_with (first
    | (go_at_call 9; refine (new_sum _).mono ?_; rintro e w1 ⟨rfl, hs1, hb1⟩; have HS := Lib.hid hs1; have HQ := Lib.hid hb1; have HB1 := Lib.hid (hB.below hb1); clear hs1 hb1)
    | (go_at_call 11; refine (add_sum _ 4294967295 a n cap bs _ HS.out (by decide) HB1.out (fun ad e hp => by have := hB.old hp ad e; omega)).mono ?_; rintro e w2 ⟨rfl, hs2, hg2⟩; have HS2 := Lib.hid hs2; have HG2 := Lib.hid hg2; clear hs2 hg2)
    | (go_at_call 10; refine (now_sum _ _ _ (.inr HS2.out)).mono ?_; rintro e w3 ⟨rfl, rfl⟩))
  go_ret
  exact ⟨rfl, below_only HQ.out HG2.out HQ.out.size (Nat.le_refl _)⟩
end Go.Proofs.Ytdfhponhjjkdmaa
