/- GateApart: the walk; no condition. -/
import Derived.Test.YtdfhponhjjkdmaaGKn
import Derived.Deep.Strs
set_option linter.unusedVariables false
set_option linter.unusedSimpArgs false
namespace Go.Proofs.Ytdfhponhjjkdmaa
open Go.ChangeShapes Go.WideShapes Go.RowKit Go.Deep Go.Proofs.YtdfhponhjjkdmaaW.PrintWords

/-- Each element of a slice of texts reads as a text, below. -/
def Sts (w : World) (a : Option Addr) (n : Nat) : Prop :=
  ∀ r, r < n → ∃ ad, a = some ad ∧ ad.block < w.heap.size ∧ ∃ s : ByteArray, w.cell? (ad.add r) = some (.string s) ∧ s.size ≤ maxLen

theorem root_list : rootS.toList = [114, 111, 111, 116] := by rw [ByteArray.toList_eq]
theorem other_list : otherS.toList = [111, 116, 104, 101, 114] := by rw [ByteArray.toList_eq]
theorem add_seen (s : ByteArray) (fa : ByteArray → Option ByteArray) (hN : nameB s = true) (h : s ≠ rootS) : ∃ (E : Int) (F : ByteArray → Option ByteArray) (v : ByteArray), addE rootS s xS fa = E ∧ addF rootS s xS fa = F ∧ F s = some v ∧ (E = 0 ∨ E = 7) := by
  have hn : ¬ (nameB s = false ∨ nameB xS = false) := by rw [hN, name_x]; simp
  rcases hr : fa s with _ | z
  · have hE : addE rootS s xS fa = 0 := by unfold addE; rw [if_neg hn, if_neg (by rw [hr]; simp; exact h)]
    exact ⟨0, updS fa s xS, xS, hE, by unfold addF; rw [if_pos hE], by simp [updS], .inl rfl⟩
  · have hE : addE rootS s xS fa = 7 := by unfold addE; rw [if_neg hn, if_pos (.inl (by rw [hr]; rfl))]
    exact ⟨7, fa, z, hE, by unfold addF; rw [if_neg (by rw [hE]; decide)], hr, .inr rfl⟩

set_option maxRecDepth 100000 in
set_option maxHeartbeats 4000000 in
theorem gapart_walk (a0 : Option Addr) (len0 cap0 : Nat) (W : World) (hR : Sts W a0 len0) (hlen : len0 ≤ 9223372036854775807) :
    Calls Try.prog 7 #[.slice a0 len0 cap0] W fun e W' => e = .returned (.bool true) ∧ Below W.heap.size W W' := by
  have HR := Lib.hid hR
  clear hR
  have tokA : Hid True := trivial
  go_enter Try.func7, Try.ntmps7
  go_wp2_with (first
    | (go_at_call 14; refine (gknown_any _).mono ?_; rintro e w1 ⟨rfl, hw1⟩; have HW1 := Lib.hid hw1; clear hw1)
    | (go_at_call 15; have tok := tokA; clear tok tokA; refine (gnew _ _).mono ?_; rintro e w2 ⟨ga, rfl, hg1, hs1, hb2⟩; have HQ2 : Hid (Below W.heap.size W w2) := below_then' HW1.out hb2 HW1.out.size; have HS1 := Lib.hid hs1; have gE1 : W.heap.size ≤ ga := Nat.le_trans HW1.out.size (Nat.le_of_eq hg1); clear hs1 hb2 HW1 hg1)
    | (go_at_call 15; refine (gnew _ _).mono ?_; rintro e w3 ⟨gb, rfl, hg2, hs2, hb3⟩; have HQ3 : Hid (Below W.heap.size W w3) := below_then' HQ2.out hb3 HQ2.out.size; have HS2 := Lib.hid hs2; have hlt : ga < gb := Nat.lt_of_lt_of_le HS1.out.lt (Nat.le_of_eq hg2); have gE2 : W.heap.size ≤ gb := Nat.le_trans HQ2.out.size (Nat.le_of_eq hg2); have HB3 := Lib.hid hb3; clear hs2 hb3 hg2))
  have HS3 : Hid (Gs w3 ga none rootS 0 noneS 0 0) := by
    rcases HS1.out with ⟨_, _, h⟩ | ⟨_, e, _⟩
    · exact .inl ⟨rfl, rfl, blk_below h HB3.out⟩
    · cases e
  clear HS1 HB3 HQ2
  go_loopw [5] (fun i w => ∃ (k na : Nat) (ma mb : Option Nat) (fa : ByteArray → Option ByteArray) (xa xb : Int), k ≤ 30 ∧ na ≤ k ∧ i = .int .i64 k ∧ 0 ≤ xa ∧ xa ≤ k ∧ 0 ≤ xb ∧ xb ≤ k ∧ Hid (Gs w ga ma rootS na fa xa 0) ∧ Hid (Gs w gb mb otherS 0 noneS xb xb) ∧ Hid (Sp ma mb) ∧ Hid (∀ b, ma = some b → W.heap.size ≤ b) ∧ Hid (∀ b, mb = some b → W.heap.size ≤ b) ∧ Hid (Below W.heap.size W w)) (fun i _ => (30 - intOf i).toNat)
  case atStart => exact ⟨0, 0, none, none, noneS, 0, 0, by omega, by omega, rfl, by omega, by omega, by omega, by omega, HS3, HS2, fun b h => (by cases h), fun b h => (by cases h), fun b h => (by cases h), HQ3⟩
  case round =>
    clear HS3 HS2 HQ3
    obtain ⟨k, na, ma, mb, fa, xa, xb, hk, hna, rfl, hxa0, hxa, hxb0, hxb, HA, HB, HSp, HMa, HMb, HQ⟩ := hrel
    by_cases hlt1 : k < len0
    · by_cases hlt2 : k < 30
      · have d30 : decide ((k : Int) < 30) = true := decide_eq_true (by omega)
        obtain ⟨ad, rfl, hblk, s, hc, hs⟩ := HR.out k hlt1
        have HC0 := Lib.hid hc
        replace hc := (HQ.out.cell (p := ad.add k) (by rw [add_block]; exact hblk)).trans hc
        obtain ⟨B, hB⟩ : ∃ B, nameB s = B := ⟨_, rfl⟩
        have HN := Lib.hid hB
        clear hB
        rcases B with _ | _
        · go_wp2_with (first | (go_at_call 16; refine (rname_at s false hs HN _).mono ?_; rintro e w6 ⟨rfl, rfl⟩))
          go_round
          case rel => exact ⟨k + 1, na, ma, mb, fa, xa, xb, by omega, by omega, by go_num, hxa0, by omega, hxb0, by omega, HA, HB, HSp, HMa, HMb, HQ⟩
          case measure => simp [intOf]; omega
        by_cases e1 : s = rootS
        · subst e1
          go_wp2_with (first | (go_at_call 16; refine (rname_at _ true hs HN _).mono ?_; rintro e w6 ⟨rfl, rfl⟩))
          go_round
          case rel => exact ⟨k + 1, na, ma, mb, fa, xa, xb, by omega, by omega, by go_num, hxa0, by omega, hxb0, by omega, HA, HB, HSp, HMa, HMb, HQ⟩
          case measure => simp [intOf]; omega
        by_cases e2 : s = otherS
        · subst e2
          go_wp2_with (first | (go_at_call 16; refine (rname_at _ true hs HN _).mono ?_; rintro e w6 ⟨rfl, rfl⟩))
          go_round
          case rel => exact ⟨k + 1, na, ma, mb, fa, xa, xb, by omega, by omega, by go_num, hxa0, by omega, hxb0, by omega, HA, HB, HSp, HMa, HMb, HQ⟩
          case measure => simp [intOf]; omega
        have n1 := str_ne e1
        have n2 := str_ne e2
        rw [root_list] at n1
        rw [other_list] at n2
        obtain ⟨E, F, v, hE, hF, hv, h07⟩ := add_seen s fa HN.out e1
        have HE := Lib.hid hE
        have HF := Lib.hid hF
        have HV := Lib.hid hv
        clear hE hF hv
        rcases h07 with rfl | rfl
        · go_wp2_with (first
            | (go_at_call 16; refine (rname_at _ true hs HN _).mono ?_; rintro e w6 ⟨rfl, rfl⟩)
            | (go_at_call 17; refine (gadd_at ga ma rootS na fa F _ xa 0 s xS _ HA.out hs (by decide) (by unfold maxLen; omega) HE HF).mono ?_; rintro e w2 ⟨rfl, m2, hn2, hs2, ht2⟩; have HA2 := Lib.hid hs2; have HB2 := Lib.hid (HA.out.beside HB.out (Nat.ne_of_gt hlt) HSp.out ht2); have HSp2 := Lib.hid (HSp.out.next hn2 HB.out.mlt); have HMa2 := Lib.hid (hn2.le HQ.out.size HMa.out); have HQ2 := Lib.hid (Tr.below HQ.out ht2 HQ.out.size gE1 HMa.out); have hc2 := (HQ2.out.cell (p := ad.add k) (by rw [add_block]; exact hblk)).trans HC0.out; clear hn2 hs2 ht2)
            | (go_at_call_has 18 (Value.pointer (some ⟨gb, 0, none⟩)); refine (who_none gb mb otherS 0 noneS xb xb s _ HB2.out hs hxb0 (by omega) hxb0 (by omega) e2 rfl).mono ?_; rintro e w3 ⟨rfl, m3, hn3, hs3, ht3⟩; have HB3 := Lib.hid hs3; have HA3 := Lib.hid (HB2.out.beside HA2.out (Nat.ne_of_lt hlt) HSp2.out.symm ht3); have HSp3 := Lib.hid (Sp.symm (HSp2.out.symm.next hn3 HA2.out.mlt)); have HMb3 := Lib.hid (hn3.le HQ2.out.size HMb.out); have HQ3 := Lib.hid (Tr.below HQ2.out ht3 HQ2.out.size gE2 HMb.out); have hc3 := (HQ3.out.cell (p := ad.add k) (by rw [add_block]; exact hblk)).trans HC0.out; clear hn3 hs3 ht3)
            | (go_at_call_has 18 (Value.pointer (some ⟨ga, 0, none⟩)); refine (who_some ga m2 rootS (na + 1) F xa 0 s v _ HA3.out hs hxa0 (by omega) (by decide) (by decide) e1 HV.out).mono ?_; rintro e w4 ⟨rfl, m4, hn4, hs4, ht4⟩; have HA4 := Lib.hid hs4; have HB4 := Lib.hid (HA3.out.beside HB3.out (Nat.ne_of_gt hlt) HSp3.out ht4); have HSp4 := Lib.hid (HSp3.out.next hn4 HB3.out.mlt); have HMa4 := Lib.hid (hn4.le HQ3.out.size HMa2.out); have HMb4 := HMb3; have HQ4 := Lib.hid (Tr.below HQ3.out ht4 HQ3.out.size gE1 HMa2.out); clear hn4 hs4 ht4))
          go_round
          case rel => exact ⟨k + 1, na + 1, m4, m3, F, xa + 1, xb + 1, by omega, by omega, by go_num, by omega, by omega, by omega, by omega, HA4, HB4, HSp4, HMa4, HMb4, HQ4⟩
          case measure => simp [intOf]; omega
        · go_wp2_with (first
            | (go_at_call 16; refine (rname_at _ true hs HN _).mono ?_; rintro e w6 ⟨rfl, rfl⟩)
            | (go_at_call 17; refine (gadd_at ga ma rootS na fa F _ xa 0 s xS _ HA.out hs (by decide) (by unfold maxLen; omega) HE HF).mono ?_; rintro e w2 ⟨rfl, m2, hn2, hs2, ht2⟩; have HA2 := Lib.hid hs2; have HB2 := Lib.hid (HA.out.beside HB.out (Nat.ne_of_gt hlt) HSp.out ht2); have HSp2 := Lib.hid (HSp.out.next hn2 HB.out.mlt); have HMa2 := Lib.hid (hn2.le HQ.out.size HMa.out); have HQ2 := Lib.hid (Tr.below HQ.out ht2 HQ.out.size gE1 HMa.out); have hc2 := (HQ2.out.cell (p := ad.add k) (by rw [add_block]; exact hblk)).trans HC0.out; clear hn2 hs2 ht2)
            | (go_at_call_has 18 (Value.pointer (some ⟨gb, 0, none⟩)); refine (who_none gb mb otherS 0 noneS xb xb s _ HB2.out hs hxb0 (by omega) hxb0 (by omega) e2 rfl).mono ?_; rintro e w3 ⟨rfl, m3, hn3, hs3, ht3⟩; have HB3 := Lib.hid hs3; have HA3 := Lib.hid (HB2.out.beside HA2.out (Nat.ne_of_lt hlt) HSp2.out.symm ht3); have HSp3 := Lib.hid (Sp.symm (HSp2.out.symm.next hn3 HA2.out.mlt)); have HMb3 := Lib.hid (hn3.le HQ2.out.size HMb.out); have HQ3 := Lib.hid (Tr.below HQ2.out ht3 HQ2.out.size gE2 HMb.out); have hc3 := (HQ3.out.cell (p := ad.add k) (by rw [add_block]; exact hblk)).trans HC0.out; clear hn3 hs3 ht3)
            | (go_at_call_has 18 (Value.pointer (some ⟨ga, 0, none⟩)); refine (who_some ga m2 rootS (na + 1) F xa 0 s v _ HA3.out hs hxa0 (by omega) (by decide) (by decide) e1 HV.out).mono ?_; rintro e w4 ⟨rfl, m4, hn4, hs4, ht4⟩; have HA4 := Lib.hid hs4; have HB4 := Lib.hid (HA3.out.beside HB3.out (Nat.ne_of_gt hlt) HSp3.out ht4); have HSp4 := Lib.hid (HSp3.out.next hn4 HB3.out.mlt); have HMa4 := Lib.hid (hn4.le HQ3.out.size HMa2.out); have HMb4 := HMb3; have HQ4 := Lib.hid (Tr.below HQ3.out ht4 HQ3.out.size gE1 HMa2.out); clear hn4 hs4 ht4))
          go_round
          case rel => exact ⟨k + 1, na + 1, m4, m3, F, xa + 1, xb + 1, by omega, by omega, by go_num, by omega, by omega, by omega, by omega, HA4, HB4, HSp4, HMa4, HMb4, HQ4⟩
          case measure => simp [intOf]; omega
      · obtain rfl : k = 30 := by omega
        go_wp2_with (first
          | (go_at_call_has 20 (Value.pointer (some ⟨gb, 0, none⟩)); refine (refused_any _ _ _ _ _ _ _ _ HB.out).mono ?_; rintro e w6 ⟨rfl, rfl⟩)
          | (go_at_call_has 20 (Value.pointer (some ⟨ga, 0, none⟩)); refine (refused_any _ _ _ _ _ _ _ _ HA.out).mono ?_; rintro e w6 ⟨rfl, rfl⟩)
          | (go_at_call 19; refine (asked_any _ _ _ _ _ _ _ _ HB.out).mono ?_; rintro e w6 ⟨rfl, rfl⟩))
        go_ret
        exact ⟨rfl, HQ.out⟩
    · go_wp2_with (first
        | (go_at_call_has 20 (Value.pointer (some ⟨gb, 0, none⟩)); refine (refused_any _ _ _ _ _ _ _ _ HB.out).mono ?_; rintro e w6 ⟨rfl, rfl⟩)
        | (go_at_call_has 20 (Value.pointer (some ⟨ga, 0, none⟩)); refine (refused_any _ _ _ _ _ _ _ _ HA.out).mono ?_; rintro e w6 ⟨rfl, rfl⟩)
        | (go_at_call 19; refine (asked_any _ _ _ _ _ _ _ _ HB.out).mono ?_; rintro e w6 ⟨rfl, rfl⟩))
      go_ret
      exact ⟨rfl, HQ.out⟩
end Go.Proofs.Ytdfhponhjjkdmaa
