/- SumApart: the walk; no condition. -/
import Derived.Test.YtdfhponhjjkdmaaSTurns
set_option linter.unusedVariables false
set_option linter.unusedSimpArgs false
namespace Go.Proofs.Ytdfhponhjjkdmaa
open Go.RowKit Crc Go.Proofs.YtdfhponhjjkdmaaW.PrintWords

theorem Bts.one {w : World} {ad : Addr} {n : Nat} {bs : List Nat} (h : Bts w (some ad) n bs) (k : Nat) (hk : k < n) : Bts w (some (ad.add k)) 1 [bs.getD k 0] := by
  refine ⟨rfl, by decide, fun b hb => ?_, fun j hj => ?_⟩
  · obtain rfl : b = bs.getD k 0 := by simpa using hb
    exact h.lt k hk
  · obtain rfl : j = 0 := by omega
    obtain ⟨ad', e, hc⟩ := h.2.2.2 k hk
    injection e with e
    subst e
    exact ⟨_, rfl, by rw [show (ad.add k).add 0 = ad.add k by unfold Addr.add; split <;> simp_all]; exact hc⟩

theorem far_of {ad : Addr} {k B g n : Nat} (h : ad.block < B) (hg : B ≤ g) : ∀ ad', some (ad.add k) = some ad' → 0 < n → ad'.block ≠ g := by
  intro ad' e _
  injection e with e
  rw [← e, add_block]
  omega
theorem some_ne {a b : Nat} (h : a < b) : some b ≠ some a := by intro e; injection e; omega
theorem some_ne' {a b : Nat} (h : a < b) : some a ≠ some b := by intro e; injection e; omega
theorem new_sum' (w : World) : Calls Try.prog 9 #[] w fun e w' => ∃ g, e = .returned (.pointer (some ⟨g, 0, none⟩)) ∧ w.heap.size = g ∧ Ok w' g 0 ∧ Below w.heap.size w w' :=
  (new_sum w).mono fun e w' ⟨h1, h2, h3⟩ => ⟨_, h1, rfl, h2, h3⟩
theorem Ok.below {w w' : World} {g : Nat} {c : Int} (h : Ok w g c) (hb : Below w.heap.size w w') : Ok w' g c := by
  rcases h with ⟨tf, h⟩ | h
  · exact .inl ⟨tf, blk_below h hb⟩
  · exact .inr (blk_below h hb)

set_option maxRecDepth 100000 in
set_option maxHeartbeats 8000000 in
theorem apart_walk (a0 : Option Addr) (len0 cap0 : Nat) (z0 : List Int) (a1 : Option Addr) (len1 cap1 : Nat) (z1 : List Int) (W : World) (hI0 : IntsAt .u8 W W.heap.size a0 len0 z0) (hl0 : len0 * 1 ≤ 140737488351232 ∧ len0 ≤ cap0) (hI1 : IntsAt .u8 W W.heap.size a1 len1 z1) (hl1 : len1 * 1 ≤ 140737488351232 ∧ len1 ≤ cap1) :
    Calls Try.prog 5 #[.slice a0 len0 cap0, .slice a1 len1 cap1] W fun e W' => e = .returned (.bool true) ∧ Below W.heap.size W W' := by
  obtain ⟨bs, hB⟩ := bts_of_ints hI0
  obtain ⟨cs, hC⟩ := bts_of_ints hI1
  obtain ⟨hla, hcap0⟩ := hl0
  obtain ⟨hlb, hcap1⟩ := hl1
  clear hI0 hI1
  have HB := Lib.hid hB
  have HC := Lib.hid hC
  have hbl := hB.1
  have hcl := hC.1
  clear hB hC
  by_cases hbig : 2000 < len0 + len1
  · have d1 : decide (2000 < (len0 : Int) + len1) = true := decide_eq_true (by omega)
    go_enter Try.func5, Try.ntmps5
    go_wp2_with (first
      | (go_at_call 8; refine (known_any _).mono ?_; rintro e w1 ⟨rfl, hw1⟩; have HW1 := Lib.hid hw1; clear hw1))
    go_ret
    exact ⟨rfl, HW1.out⟩
  have d1 : decide (2000 < (len0 : Int) + len1) = false := decide_eq_false (by omega)
  have tokA : Hid True := trivial
  go_enter Try.func5, Try.ntmps5
  go_wp2_with (first
    | (go_at_call 8; refine (known_any _).mono ?_; rintro e w1 ⟨rfl, hw1⟩; have HW1 := Lib.hid hw1; clear hw1)
    | (go_at_call 9; have tok := tokA; clear tok tokA; refine (new_sum' _).mono ?_; rintro e w2 ⟨g1, rfl, hg1, hs1, hb2⟩; have HQ2 : Hid (Below W.heap.size W w2) := below_then' HW1.out hb2 HW1.out.size; have HS1 := Lib.hid hs1; have gE1 : W.heap.size ≤ g1 := Nat.le_trans HW1.out.size (Nat.le_of_eq hg1); clear hs1 hb2 HW1 hg1)
    | (go_at_call 9; refine (new_sum' _).mono ?_; rintro e w3 ⟨g2, rfl, hg2, hs2, hb3⟩; have HQ3 : Hid (Below W.heap.size W w3) := below_then' HQ2.out hb3 HQ2.out.size; have HS2 := Lib.hid hs2; have hlt : g1 < g2 := Nat.lt_of_lt_of_le HS1.out.lt (Nat.le_of_eq hg2); have HS3 : Hid (Ok w3 g1 0) := HS1.out.below hb3; have gE2 : W.heap.size ≤ g2 := Nat.le_trans HQ2.out.size (Nat.le_of_eq hg2); clear hs2 hb3 HQ2 HS1 hg2))
  go_loopw [7] (fun i w => ∃ k F G : Nat, k ≤ 2000 ∧ i = .int .i64 k ∧ F < 4294967296 ∧ G < 4294967296 ∧ Hid (fold 4294967295 (bs.take k) = F) ∧ Hid (fold 4294967295 (cs.take k) = G) ∧ Hid (Ok w g1 ((4294967295 - F : Nat) : Int)) ∧ Hid (Ok w g2 ((4294967295 - G : Nat) : Int)) ∧ Hid (Below W.heap.size W w)) (fun i _ => (2000 - intOf i).toNat)
  case atStart => exact ⟨0, 4294967295, 4294967295, by omega, rfl, by decide, by decide, rfl, rfl, HS3, HS2, HQ3⟩
  case round =>
    clear HQ3 HS2 HS3
    obtain ⟨k, F, G, hk, rfl, hF, hG, HF, HG, HA, HD, HQ⟩ := hrel
    by_cases hk0 : k < len0
    · by_cases hk1 : k < len1
      · obtain ⟨ad, rfl, hc0⟩ := HB.out.2.2.2 k hk0
        have hold0 := HB.out.old (by omega) ad rfl
        have HBb := Lib.hid ((HB.out.below HQ.out).one k hk0)
        have HF2 : Hid (fold 4294967295 (bs.take (k + 1)) = fold F [bs.getD k 0]) := by rw [← HF.out]; exact fold_take _ bs k (by omega)
        have hF2 : fold F [bs.getD k 0] < 4294967296 := byt_lt F _ hF (by have := HB.out.lt k hk0; omega)
        clear hc0
        obtain ⟨ad1, rfl, hc1⟩ := HC.out.2.2.2 k hk1
        have hold1 := HC.out.old (by omega) ad1 rfl
        have HG2 : Hid (fold 4294967295 (cs.take (k + 1)) = fold G [cs.getD k 0]) := by rw [← HG.out]; exact fold_take _ cs k (by omega)
        have hG2 : fold G [cs.getD k 0] < 4294967296 := byt_lt G _ hG (by have := HC.out.lt k hk1; omega)
        clear hc1
        go_wp2_with (first
          | (go_at_call_has 11 (Value.pointer (some ⟨g1, 0, none⟩)); refine (add_sum g1 F (some (ad.add k)) 1 _ [bs.getD k 0] _ HA.out hF HBb.out (far_of hold0 gE1)).mono ?_; rintro e w4 ⟨rfl, hs4, hg4⟩; replace HA : Hid (Ok w4 g1 ((4294967295 - fold F [bs.getD k 0] : Nat) : Int)) := .inr hs4; replace HD : Hid (Ok w4 g2 ((4294967295 - G : Nat) : Int)) := HD.out.grown hg4 (some_ne hlt); replace HQ : Hid (Below W.heap.size W w4) := below_only HQ.out hg4 HQ.out.size gE1; clear hs4 hg4)
          | (go_at_call_has 11 (Value.pointer (some ⟨g2, 0, none⟩)); refine (add_sum g2 G (some (ad1.add k)) 1 _ [cs.getD k 0] _ HD.out hG (HC.out.below HQ.out |>.one k hk1) (far_of hold1 gE2)).mono ?_; rintro e w5 ⟨rfl, hs5, hg5⟩; replace HD : Hid (Ok w5 g2 ((4294967295 - fold G [cs.getD k 0] : Nat) : Int)) := .inr hs5; replace HA := Lib.hid (HA.out.grown hg5 (some_ne' hlt)); replace HQ : Hid (Below W.heap.size W w5) := below_only HQ.out hg5 HQ.out.size gE2; clear hs5 hg5))
        go_round
        case rel => exact ⟨k + 1, _, _, by omega, by go_num, hF2, hG2, HF2, HG2, HA, HD, HQ⟩
        case measure => simp [intOf]; omega
      · obtain ⟨ad, rfl, hc0⟩ := HB.out.2.2.2 k hk0
        have hold0 := HB.out.old (by omega) ad rfl
        have HBb := Lib.hid ((HB.out.below HQ.out).one k hk0)
        have HF2 : Hid (fold 4294967295 (bs.take (k + 1)) = fold F [bs.getD k 0]) := by rw [← HF.out]; exact fold_take _ bs k (by omega)
        have hF2 : fold F [bs.getD k 0] < 4294967296 := byt_lt F _ hF (by have := HB.out.lt k hk0; omega)
        clear hc0
        have HG2 : Hid (fold 4294967295 (cs.take (k + 1)) = G) := by rw [← HG.out, List.take_of_length_le (by omega), List.take_of_length_le (by omega)]; rfl
        have hG2 := hG
        go_wp2_with (first
          | (go_at_call_has 11 (Value.pointer (some ⟨g1, 0, none⟩)); refine (add_sum g1 F (some (ad.add k)) 1 _ [bs.getD k 0] _ HA.out hF HBb.out (far_of hold0 gE1)).mono ?_; rintro e w4 ⟨rfl, hs4, hg4⟩; replace HA : Hid (Ok w4 g1 ((4294967295 - fold F [bs.getD k 0] : Nat) : Int)) := .inr hs4; replace HD : Hid (Ok w4 g2 ((4294967295 - G : Nat) : Int)) := HD.out.grown hg4 (some_ne hlt); replace HQ : Hid (Below W.heap.size W w4) := below_only HQ.out hg4 HQ.out.size gE1; clear hs4 hg4))
        go_round
        case rel => exact ⟨k + 1, _, _, by omega, by go_num, hF2, hG2, HF2, HG2, HA, HD, HQ⟩
        case measure => simp [intOf]; omega
    · by_cases hk1 : k < len1
      · have HF2 : Hid (fold 4294967295 (bs.take (k + 1)) = F) := by rw [← HF.out, List.take_of_length_le (by omega), List.take_of_length_le (by omega)]; rfl
        have hF2 := hF
        obtain ⟨ad1, rfl, hc1⟩ := HC.out.2.2.2 k hk1
        have hold1 := HC.out.old (by omega) ad1 rfl
        have HG2 : Hid (fold 4294967295 (cs.take (k + 1)) = fold G [cs.getD k 0]) := by rw [← HG.out]; exact fold_take _ cs k (by omega)
        have hG2 : fold G [cs.getD k 0] < 4294967296 := byt_lt G _ hG (by have := HC.out.lt k hk1; omega)
        clear hc1
        go_wp2_with (first
          | (go_at_call_has 11 (Value.pointer (some ⟨g2, 0, none⟩)); refine (add_sum g2 G (some (ad1.add k)) 1 _ [cs.getD k 0] _ HD.out hG (HC.out.below HQ.out |>.one k hk1) (far_of hold1 gE2)).mono ?_; rintro e w5 ⟨rfl, hs5, hg5⟩; replace HD : Hid (Ok w5 g2 ((4294967295 - fold G [cs.getD k 0] : Nat) : Int)) := .inr hs5; replace HA := Lib.hid (HA.out.grown hg5 (some_ne' hlt)); replace HQ : Hid (Below W.heap.size W w5) := below_only HQ.out hg5 HQ.out.size gE2; clear hs5 hg5))
        go_round
        case rel => exact ⟨k + 1, _, _, by omega, by go_num, hF2, hG2, HF2, HG2, HA, HD, HQ⟩
        case measure => simp [intOf]; omega
      · have e1 := HF.out
        have e2 := HG.out
        rw [List.take_of_length_le (by omega)] at e1 e2
        have HC1 : Hid (((crc bs : Nat) : Int) = ((4294967295 - F : Nat) : Int)) := by unfold crc; rw [e1]; rfl
        have HC2 : Hid (((crc cs : Nat) : Int) = ((4294967295 - G : Nat) : Int)) := by unfold crc; rw [e2]; rfl
        have HB1 := Lib.hid (HB.out.below HQ.out)
        have HB2 := Lib.hid (HC.out.below HQ.out)
        generalize ((4294967295 - F : Nat) : Int) = x at HA HC1
        generalize ((4294967295 - G : Nat) : Int) = y at HD HC2
        clear e1 e2 HF HG
        go_wp2_with (first
          | (go_at_call_has 10 (Value.pointer (some ⟨g1, 0, none⟩)); refine (now_sum _ _ _ HA.out).mono ?_; rintro e w6 ⟨rfl, rfl⟩)
          | (go_at_call_has 10 (Value.pointer (some ⟨g2, 0, none⟩)); refine (now_sum _ _ _ HD.out).mono ?_; rintro e w6 ⟨rfl, rfl⟩)
          | (go_at_call_has 12 (Value.slice a0 len0 cap0); refine (ref_at _ _ _ _ _ _ HB1.out HC1).mono ?_; rintro e w6 ⟨rfl, rfl⟩)
          | (go_at_call 12; refine (ref_at _ _ _ _ _ _ HB2.out HC2).mono ?_; rintro e w6 ⟨rfl, rfl⟩))
        go_ret
        exact ⟨rfl, HQ.out⟩
end Go.Proofs.Ytdfhponhjjkdmaa
