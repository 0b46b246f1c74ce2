/- SumTurns: the walk; no condition. -/
import Derived.Test.YtdfhponhjjkdmaaKn
set_option linter.unusedVariables false
set_option linter.unusedSimpArgs false
namespace Go.Proofs.Ytdfhponhjjkdmaa
open Go.RowKit Crc Go.Proofs.YtdfhponhjjkdmaaW.PrintWords

theorem info5 : (Try.prog.info? 5).map (fun i => (i.zero, i.size, i.bytes)) = some (some (.int .u8 0), 1, 1) := by kernel_rfl
theorem xor_u8 (a b : Nat) (ha : a < 256) (hb : b < 256) : bits .xor .u8 (a : Int) (b : Int) = ((a ^^^ b : Nat) : Int) := u8_xor_nat a b ha hb
theorem set_split (bs : List Nat) (k x : Nat) (hk : k < bs.length) : bs = bs.take k ++ bs.getD k 0 :: bs.drop (k + 1) ∧ bs.set k x = bs.take k ++ x :: bs.drop (k + 1) := by
  refine ⟨?_, ?_⟩
  · rw [List.getD_eq_getElem?_getD, List.getElem?_eq_getElem hk]
    show bs = bs.take k ++ bs[k] :: bs.drop (k + 1)
    rw [List.getElem_cons_drop, List.take_append_drop]
  · exact List.set_eq_take_append_cons_drop .. |>.trans (if_pos hk)
theorem crc_set (bs : List Nat) (k y : Nat) (hk : k < bs.length) (hb : ∀ b ∈ bs, b < 256) (hy : y < 256) (h0 : y ≠ 0) :
    crc (bs.set k (bs.getD k 0 ^^^ y)) ≠ crc bs ∧ ∀ b ∈ bs.set k (bs.getD k 0 ^^^ y), b < 256 := by
  have hx : bs.getD k 0 < 256 := by
    rw [List.getD_eq_getElem?_getD, List.getElem?_eq_getElem hk]
    exact hb _ (List.getElem_mem _)
  have hxy : (bs.getD k 0 ^^^ y) < 256 := Nat.xor_lt_two_pow (n := 8) hx hy
  have hne : (bs.getD k 0 ^^^ y) ≠ bs.getD k 0 := by
    intro e
    have h1 := congrArg (bs.getD k 0 ^^^ ·) e
    simp [← Nat.xor_assoc] at h1
    exact h0 h1
  refine ⟨?_, fun b hm => ?_⟩
  · obtain ⟨e1, e2⟩ := set_split bs k (bs.getD k 0 ^^^ y) hk
    intro e
    rw [e2] at e
    have e3 : crc (bs.take k ++ (bs.getD k 0 ^^^ y) :: bs.drop (k + 1)) = crc (bs.take k ++ bs.getD k 0 :: bs.drop (k + 1)) := by rw [← e1]; exact e
    exact crc_turn _ _ _ _ (fun x hx => hb x (List.mem_of_mem_take hx)) (fun x hx => hb x (List.mem_of_mem_drop hx)) hxy hx hne e3
  · rcases List.mem_or_eq_of_mem_set hm with h | h
    · exact hb b h
    · rw [h]; exact hxy

theorem own_form {w : World} {base n : Nat} {e : TypeId} {v : Value} {xs : List Value} (h : w.ownsRow base e 1 v n xs) (hn : 0 < n) : ∃ g cap, v = .slice (some ⟨g, 0, none⟩) n cap ∧ base ≤ g := by
  rcases h.2 with ⟨_, h0⟩ | ⟨g, cap, cur, rfl, hg, _⟩
  · omega
  · exact ⟨g, cap, rfl, hg⟩
theorem own_bts {w : World} {base n g cap : Nat} {bs : List Nat} (h : w.ownsRow base 5 1 (.slice (some ⟨g, 0, none⟩) n cap) n (nums .u8 (natz bs))) (hb : ∀ b ∈ bs, b < 256) : Bts w (some ⟨g, 0, none⟩) n bs := by
  obtain ⟨A, c, e, hr⟩ := own_reads h
  injection e with e1 e2 e3
  rw [← e1] at hr
  exact bts_of_reads hr hb

set_option maxRecDepth 100000 in
set_option maxHeartbeats 8000000 in
theorem turns_walk (a0 : Option Addr) (len0 cap0 : Nat) (z0 : List Int) (at_ y : Int) (W : World) (hI : IntsAt .u8 W W.heap.size a0 len0 z0) (hl : len0 * 1 ≤ 140737488351232 ∧ len0 ≤ cap0) (hy : (Lit.int .u8 y).wf = true) :
    Calls Try.prog 4 #[.slice a0 len0 cap0, .int .i64 at_, .int .u8 y] W fun e W' => e = .returned (.bool true) ∧ Below W.heap.size W W' := by
  obtain ⟨bs, hB⟩ := bts_of_ints hI
  have hy2 : 0 ≤ y ∧ y < 256 := by
    have h1 := hy
    simp only [Lit.wf, Bool.and_eq_true, decide_eq_true_eq] at h1
    have hmin : IntKind.u8.min = 0 := rfl
    have hmax : IntKind.u8.max = 255 := rfl
    omega
  clear hI hy
  by_cases hz : len0 = 0
  · subst hz
    go_enter Try.func4, Try.ntmps4
    go_wp2_with (first
      | (go_at_call 8; refine (known_any _).mono ?_; rintro e w1 ⟨rfl, hw1⟩; have HW1 := Lib.hid hw1; clear hw1))
    go_ret
    exact ⟨rfl, HW1.out⟩
  have b1 : ((len0 : Int) == 0) = false := beq_eq_false_iff_ne.mpr (by omega)
  by_cases hz2 : 2000 < len0
  · have d2 : decide (2000 < (len0 : Int)) = true := decide_eq_true (by omega)
    go_enter Try.func4, Try.ntmps4
    go_wp2_with (first
      | (go_at_call 8; refine (known_any _).mono ?_; rintro e w1 ⟨rfl, hw1⟩; have HW1 := Lib.hid hw1; clear hw1))
    go_ret
    exact ⟨rfl, HW1.out⟩
  have d2 : decide (2000 < (len0 : Int)) = false := decide_eq_false (by omega)
  by_cases hz3 : at_ < 0
  · have d3 : decide (at_ < 0) = true := decide_eq_true hz3
    go_enter Try.func4, Try.ntmps4
    go_wp2_with (first
      | (go_at_call 8; refine (known_any _).mono ?_; rintro e w1 ⟨rfl, hw1⟩; have HW1 := Lib.hid hw1; clear hw1))
    go_ret
    exact ⟨rfl, HW1.out⟩
  have d3 : decide (at_ < 0) = false := decide_eq_false hz3
  by_cases hz4 : y = 0
  · subst hz4
    go_enter Try.func4, Try.ntmps4
    go_wp2_with (first
      | (go_at_call 8; refine (known_any _).mono ?_; rintro e w1 ⟨rfl, hw1⟩; have HW1 := Lib.hid hw1; clear hw1))
    go_ret
    exact ⟨rfl, HW1.out⟩
  have b4 : (y == 0) = false := beq_eq_false_iff_ne.mpr hz4
  have HB0 := Lib.hid hB
  have hbl := hB.1
  have hb256 := hB.2.2.1
  clear hB
  obtain ⟨K, hK⟩ : ∃ K : Nat, at_ % (len0 : Int) = (K : Int) := ⟨(at_ % (len0 : Int)).toNat, by have := Int.emod_nonneg at_ (show (len0 : Int) ≠ 0 by omega); omega⟩
  have hK1 : K < len0 := by have := Int.emod_lt_of_pos at_ (show (0 : Int) < len0 by omega); omega
  obtain ⟨Y, rfl⟩ : ∃ Y : Nat, y = (Y : Int) := ⟨y.toNat, by omega⟩
  obtain ⟨hne, h256⟩ := crc_set bs K Y (by omega) hb256 (by omega) (by omega)
  have hx256 := (List.getD_eq_getElem?_getD (l := bs) (i := K) (a := 0)) ▸ (show bs[K]?.getD 0 < 256 by rw [List.getElem?_eq_getElem (by omega)]; exact hb256 _ (List.getElem_mem _))
  have hxr := xor_u8 (bs.getD K 0) Y hx256 (by omega)
  have HE : Hid ((natz bs).set K ((bs.getD K 0 ^^^ Y : Nat) : Int) = natz (bs.set K (bs.getD K 0 ^^^ Y))) := by
    show (bs.map Int.ofNat).set K _ = (bs.set K _).map Int.ofNat
    rw [List.map_set]; rfl
  have HX : Hid (rd (natz bs) (K : Int) = ((bs.getD K 0 : Nat) : Int)) := by show (natz bs).getD _ 0 = _; rw [natz_getD]; rfl
  generalize (bs.getD K 0 ^^^ Y) = Z at hne h256 hxr HE
  generalize bs.getD K 0 = X at hxr HX
  have hbl2 : (bs.set K Z).length = len0 := by simp [hbl]
  generalize bs.set K Z = bs2 at hne h256 HE hbl2
  obtain ⟨C0, hC0⟩ : ∃ C : Int, ((crc bs : Nat) : Int) = C := ⟨_, rfl⟩
  obtain ⟨C1, hC1⟩ : ∃ C : Int, ((crc bs2 : Nat) : Int) = C := ⟨_, rfl⟩
  have hC : (C1 != C0) = true := bne_iff_ne.mpr (by omega)
  have HC0 := Lib.hid hC0
  have HC1 := Lib.hid hC1
  have H256 := Lib.hid h256
  clear hC0 hC1 hne h256 hb256 hx256 hy2
  go_enter Try.func4, Try.ntmps4
  go_wp2_with (first
    | (go_at_call 8; refine (known_any _).mono ?_; rintro e w1 ⟨rfl, hw1⟩; have HW1 := Lib.hid hw1; have HB1 : Hid (Bts w1 a0 len0 bs) := HB0.out.below hw1; clear hw1)
    | (at_builtin; refine print_append_row (w0 := W) W.heap.size rfl (.tmp 26) (.tmp 27) 28 5 .u8 1 rfl Try.underlying28 info5 (by decide) (.slice (some ⟨w1.heap.size, 0, none⟩) 0 0) [] (natz bs) a0 len0 cap0 rfl rfl (own_lit w1 W.heap.size 5 .u8 [] HW1.out.size (by decide)) (HB1.out.below ((Below.refl _ _).alloc (Nat.le_refl _) _)).reads (HW1.out.alloc HW1.out.size _) (HW1.out.alloc HW1.out.size _).size (by simp; omega) ?_; intro v1 w2 ho1 hb1' hg1 hat1; have HO1 := Lib.hid ho1; have HQ2 := Lib.hid hb1'; clear ho1 hb1' hg1 hat1))
  have hlen : ([] ++ natz bs).length = len0 := by simp [natz, hbl]
  have ho1 := HO1.out
  rw [hlen] at ho1
  obtain ⟨g, cap, rfl, hg⟩ := own_form ho1 (by omega)
  have ho2 : w2.ownsRow W.heap.size 5 1 (.slice (some ⟨g, 0, none⟩) len0 cap) len0 (nums .u8 (natz bs)) := ho1
  have HO2 := Lib.hid ho2
  have HB2 : Hid (Bts w2 a0 len0 bs) := HB0.out.below HQ2.out
  obtain ⟨kc, kf⟩ := own_at ho2 (K : Int) (by omega) (by omega)
  rw [HX.out, Int.toNat_natCast] at kc
  rw [Int.toNat_natCast] at kf
  have hst := own_store ho2 (K : Int) (Z : Int)
  rw [Int.toNat_natCast, HE.out] at hst
  have HBa : Hid (Bts (w2.setCell ⟨g, K, none⟩ (.int .u8 Z)) (some ⟨g, 0, none⟩) len0 bs2) := own_bts hst.1 H256.out
  have HQ3 : Hid (Below W.heap.size W (w2.setCell ⟨g, K, none⟩ (.int .u8 Z))) := HQ2.out.setCell (p := ⟨g, K, none⟩) hg _
  have HBb : Hid (Bts (w2.setCell ⟨g, K, none⟩ (.int .u8 Z)) a0 len0 bs) := HB0.out.below HQ3.out
  clear ho1 ho2 hst HO1 HQ2 HB2 HO2 HW1 HB1 hlen
  go_simp
  go_wp2_with (first
    | (go_at_call_has 13 (Value.slice a0 len0 cap0); refine (crc_at _ _ _ _ _ _ HBb.out HC0).mono ?_; rintro e w6 ⟨rfl, hb6⟩; replace HBa := Lib.hid (HBa.out.below hb6); replace HBb := Lib.hid (HBb.out.below hb6); replace HQ3 := Lib.hid (below_then' HQ3.out hb6 HQ3.out.size); clear hb6)
    | (go_at_call 13; refine (crc_at _ _ _ _ _ _ HBa.out HC1).mono ?_; rintro e w5 ⟨rfl, hb5⟩; replace HBa := Lib.hid (HBa.out.below hb5); replace HBb := Lib.hid (HBb.out.below hb5); replace HQ3 := Lib.hid (below_then' HQ3.out hb5 HQ3.out.size); clear hb5)
    | (go_at_call 12; refine (ref_at _ _ _ _ _ _ HBa.out HC1).mono ?_; rintro e w7 ⟨rfl, rfl⟩))
  go_ret
  exact ⟨rfl, HQ3.out⟩
end Go.Proofs.Ytdfhponhjjkdmaa
