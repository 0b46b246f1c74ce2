/- SumCrcs: the walk; no condition. -/
import Derived.Test.YtdfhponhjjkdmaaBytes
set_option linter.unusedVariables false
set_option linter.unusedSimpArgs false
namespace Go.Proofs.Ytdfhponhjjkdmaa
open Go.RowKit Crc Go.Proofs.YtdfhponhjjkdmaaW.PrintWords

theorem OwnB.put {w : World} {B g n cap : Nat} {xs : List Nat} (h : OwnB w B (.slice (some ⟨g, 0, none⟩) n cap) xs) (j x : Nat) :
    OwnB (w.setCell ⟨g, j, none⟩ (.int .u8 (x : Int))) B (.slice (some ⟨g, 0, none⟩) n cap) (xs.set j x) ∧ w.grownBy (w.setCell ⟨g, j, none⟩ (.int .u8 (x : Int))) (some g) := by
  have hn := h.len
  subst hn
  have h1 := own_store h (j : Int) (x : Int)
  rw [Int.toNat_natCast] at h1
  have e : (natz xs).set j (x : Int) = natz (xs.set j x) := by
    show (xs.map Int.ofNat).set j _ = (xs.set j _).map Int.ofNat
    rw [List.map_set]; rfl
  rw [e] at h1
  refine ⟨?_, h1.2⟩
  unfold OwnB
  rw [List.length_set]
  exact h1.1
theorem OwnB.form {w : World} {B n cap : Nat} {A : Option Addr} {xs : List Nat} (h : OwnB w B (.slice A n cap) xs) (hn : 0 < n) : ∃ g, A = some ⟨g, 0, none⟩ := by
  have e := h.len
  subst e
  obtain ⟨g, c, e, _⟩ := own_form h hn
  injection e with e1 e2 e3
  exact ⟨g, e1⟩
theorem OwnB.cell {w : World} {B g n cap : Nat} {xs : List Nat} (h : OwnB w B (.slice (some ⟨g, 0, none⟩) n cap) xs) (j : Nat) (hj : j < n) : ∃ z : Int, w.cell? ⟨g, j, none⟩ = some (.int .u8 z) ∧ w.frozen? ⟨g, j, none⟩ = false := by
  have e := h.len
  subst e
  have h1 := own_at h (j : Int) (by omega) (by omega)
  rw [Int.toNat_natCast] at h1
  exact ⟨_, h1⟩
theorem far_own {w : World} {g B n cap : Nat} {c : Int} {A : Option Addr} {xs : List Nat} (h : Ok w g c) (ho : OwnB w B (.slice A n cap) xs) : ∀ ad, A = some ad → 0 < n → ad.block ≠ g := by
  intro ad e _ hb
  have h1 := h.own_ne ho
  subst e
  exact h1 (by simp [Value.ownBlock, hb])
theorem two_own {w w' : World} {B B' s : Nat} {v v' : Value} {xs ys : List Nat} (h : OwnB w B v xs) (hs : w.heap.size ≤ s) (h' : OwnB w' s v' ys) : v.ownBlock = none ∨ v.ownBlock ≠ v'.ownBlock := by
  rcases e : v.ownBlock with _ | k
  · exact .inl rfl
  · refine .inr (fun e2 => ?_)
    have h1 := h.lt k e
    have h2 := h'.base k e2.symm
    omega
theorem apart_of {w : World} {s : Nat} {v v' : Value} {ys : List Nat} (h : ∀ q, v.ownBlock = some q → q < s) (h' : OwnB w s v' ys) : v.ownBlock = none ∨ v.ownBlock ≠ v'.ownBlock := by
  rcases e : v.ownBlock with _ | k
  · exact .inl rfl
  · refine .inr (fun e2 => ?_)
    have h1 := h k e
    have h2 := h'.base k e2.symm
    omega
theorem ok_apart {w w1 : World} {g : Nat} {c : Int} {row : Option Nat} (h : Ok w g c) (hg : w.grownBy w1 row) (hne : some g ≠ row) : Ok w1 g c := h.grown hg hne
theorem own_row {v : Value} {row : Option Nat} (h : row ≠ v.ownBlock) : v.ownBlock = none ∨ v.ownBlock ≠ row := .inr (fun e => h e.symm)

set_option maxRecDepth 100000 in
set_option maxHeartbeats 2000000 in
theorem crcs_walk (a0 : Option Addr) (len0 cap0 : Nat) (W : World) (hR : Rws W a0 len0) (hlen : len0 ≤ 9223372036854775807) :
    Calls Try.prog 3 #[.slice a0 len0 cap0] W fun e W' => e = .returned (.bool true) ∧ Below W.heap.size W W' := by
  have HR := Lib.hid hR
  clear hR
  go_enter Try.func3, Try.ntmps3
  go_wp2_with (first
    | (go_at_call 8; refine (known_any _).mono ?_; rintro e w1 ⟨rfl, hw1⟩; have HW1 := Lib.hid hw1; clear hw1)
    | (go_at_call 9; refine (new_sum' _).mono ?_; rintro e w2 ⟨g, rfl, hg1, hs1, hb2⟩; have HQ2 : Hid (Below W.heap.size W w2) := below_then' HW1.out hb2 HW1.out.size; have HS2 := Lib.hid hs1; have gE : W.heap.size ≤ g := Nat.le_trans HW1.out.size (Nat.le_of_eq hg1); clear hs1 hb2 HW1 hg1)
    | (go_at_call 10; refine (now_sum _ _ _ HS2.out).mono ?_; rintro e w3 ⟨rfl, rfl⟩))
  go_loopw [4, 5] (fun vA i w => ∃ (k F : Nat) (A : Option Addr) (n c : Nat) (xs : List Nat), k ≤ 20 ∧ i = .int .i64 k ∧ vA = .slice A n c ∧ n ≤ 1000 * k ∧ F < 4294967296 ∧ Hid (fold 4294967295 xs = F) ∧ Hid (OwnB w W.heap.size (.slice A n c) xs) ∧ Hid (∀ b ∈ xs, b < 256) ∧ Hid (Ok w g ((4294967295 - F : Nat) : Int)) ∧ Hid (Below W.heap.size W w)) (fun _ i _ => (20 - intOf i).toNat)
  case atStart => exact ⟨0, 4294967295, none, 0, 0, [], by omega, rfl, rfl, by omega, by decide, rfl, ownB_nil _ _, fun b hb => by simp at hb, HS2, HQ2⟩
  case round =>
    clear HS2 HQ2
    obtain ⟨k, F, A, n, c, xs, hk, rfl, rfl, hn, hF, HF, HV, HX, HA, HQ⟩ := hrel
    by_cases hlt : k < len0
    · by_cases hlt2 : k < 20
      · have d20 : decide ((k : Int) < 20) = true := decide_eq_true (by omega)
        obtain ⟨ad, rfl, hblk, Ar, L, C, bs, hc, hb, hLC⟩ := HR.out k hlt
        have HC0 := Lib.hid hc
        have HBr := Lib.hid hb
        have hbl := hb.1
        replace hc := (HQ.out.cell (p := ad.add k) (by rw [add_block]; exact hblk)).trans hc
        have hc2 : (wr.alloc (.cells #[] 5)).cell? (ad.add k) = some (.slice Ar L C) := (((Below.refl wr.heap.size wr).alloc (Nat.le_refl _) (.cells #[] 5)).cell (p := ad.add k) (World.block_lt_of_cell? wr _ hc)).trans hc
        clear hb
        by_cases hbig : 1000 < L
        · go_wp2
          go_round
          case rel => exact ⟨k + 1, F, A, n, c, xs, by omega, by go_num, rfl, by omega, hF, HF, HV, HX, HA, HQ⟩
          case measure => simp [intOf]; omega
        · have HL : Hid (OwnB (wr.alloc (.cells #[] 5)) wr.heap.size (.slice (some ⟨wr.heap.size, 0, none⟩) 0 0) []) := ownB_lit wr _ (Nat.le_refl _)
          have HBL : Hid (Below wr.heap.size wr (wr.alloc (.cells #[] 5))) := (Below.refl _ _).alloc (Nat.le_refl _) _
          have HBr2 : Hid (Bts (wr.alloc (.cells #[] 5)) Ar L bs) := (HBr.out.below HQ.out).below HBL.out
          go_wp2_with (first
            | (at_builtin; refine app_bytes (w0 := wr) wr.heap.size (Nat.le_refl _) rfl (.tmp 34) (.tmp 38) rfl (.slice (some ⟨wr.heap.size, 0, none⟩) 0 0) [] bs Ar L C rfl rfl HL.out HBr2.out HBL.out (by simp; omega) ?_; intro A1 n1 c1 w2 hn1 ho1 hb1 hg1 hf1; have HO1 := Lib.hid ho1; have HA1 := Lib.hid (HA.out.below hb1); have HV1 := Lib.hid (HV.out.below hb1); have HQ1 : Hid (Below W.heap.size W w2) := below_then' HQ.out hb1 HQ.out.size; have HB1 := Lib.hid hb1; clear ho1 hb1 hg1 hf1))
          clear HL HBL HBr2 hc2
          obtain rfl : n1 = L := by simpa using hn1
          clear hn1
          have hO1 := HO1.out
          rw [List.nil_append] at hO1
          have hBt := hO1.bts HBr.out.2.2.1
          have hfar := far_own HA1.out hO1
          have hne1 := HA1.out.own_ne hO1
          have hne2 := HA1.out.own_ne HV1.out
          have hcall := add_sum g F A1 n1 c1 bs w2 HA1.out hF hBt hfar
          refine hcall.mono ?_
          clear hcall hfar hBt
          rintro e w3 ⟨rfl, hs3, hg3⟩
          have HA3 : Hid (Ok w3 g ((4294967295 - fold F bs : Nat) : Int)) := .inr hs3
          have HO3 := Lib.hid (hO1.other hg3 (own_row hne1))
          have HV3 := Lib.hid (HV1.out.other hg3 (own_row hne2))
          have HQ3 : Hid (Below W.heap.size W w3) := below_only HQ1.out hg3 HQ1.out.size gE
          have hwr : wr.heap.size ≤ w3.heap.size := Nat.le_trans HB1.out.size hg3.size
          clear hs3 hg3 HO1 hO1 hne1 hne2 HA1 HV1 HQ1 HB1
          obtain ⟨sr, hsr⟩ : ∃ sr : Nat, wr.heap.size = sr := ⟨_, rfl⟩
          have HO4 : Hid (OwnB w3 sr (.slice A1 n1 c1) bs) := by rw [← hsr]; exact HO3.out
          have HV0 : Hid (∀ q, (Value.slice A n c).ownBlock = some q → q < sr) := by rw [← hsr]; exact HV.out.lt
          have HSr : Hid (W.heap.size ≤ sr) := by rw [← hsr]; exact HQ.out.size
          clear HO3 hsr hwr HA HQ HV
          go_wp2
          go_loopw [7] (fun i w => ∃ (j : Nat) (ys : List Nat), j ≤ n1 ∧ i = .int .i64 j ∧ Hid (OwnB w sr (.slice A1 n1 c1) ys) ∧ Hid (w3.grownBy w (Value.slice A1 n1 c1).ownBlock)) (fun i _ => (1000 - intOf i).toNat)
          case atStart => exact ⟨0, bs, by omega, rfl, HO4, only_refl _ _⟩
          case round =>
            obtain ⟨j, ys, hj, rfl, HY, HG⟩ := hrel
            by_cases hjl : j < n1
            · obtain ⟨gm, rfl⟩ := HY.out.form (by omega)
              obtain ⟨z, kc, kf⟩ := HY.out.cell j hjl
              have hp := HY.out.put j 238
              have HP1 : Hid (OwnB _ _ _ _) := hp.1
              have HP2 : Hid (World.grownBy _ _ _) := only_trans HG.out hp.2
              clear hp
              go_wp2
              go_round
              case rel => exact ⟨j + 1, _, by omega, by go_num, HP1, HP2⟩
              case measure => simp [intOf]; omega
            · obtain rfl : j = n1 := by omega
              have HA4 := Lib.hid (HA3.out.grown HG.out (HA3.out.own_ne HO4.out))
              have HV4 : Hid (OwnB wr W.heap.size (.slice A n c) xs) := HV3.out.other HG.out (apart_of HV0.out HO4.out)
              have HQ4 : Hid (Below W.heap.size W wr) := below_grown HQ3.out (Nat.le_refl _) HG.out (fun q hq => Nat.le_trans HSr.out (HO4.out.base q hq))
              have hc4 := (HQ4.out.cell (p := ad.add k) (by rw [add_block]; exact hblk)).trans HC0.out
              have HB4 := Lib.hid (HBr.out.below HQ4.out)
              have hxl := HV4.out.len
              have hxb : xs.length ≤ 20000 := by omega
              have HXl := Lib.hid hxl
              have hxy : ∀ b ∈ xs ++ bs, b < 256 := fun b hb => (List.mem_append.1 hb).elim (HX.out b) (HBr.out.2.2.1 b)
              have HXY := Lib.hid hxy
              have hF2 := fold_lt F bs hF HBr.out.2.2.1
              have HF2 : Hid (fold 4294967295 (xs ++ bs) = fold F bs) := by
                show fold 4294967295 (xs ++ bs) = fold F bs
                rw [fold_append, HF.out]
              generalize fold F bs = F2 at HA4 HF2 hF2
              obtain ⟨X, hX⟩ : ∃ X : Int, ((4294967295 - F2 : Nat) : Int) = X := ⟨_, rfl⟩
              have HC : Hid (((crc (xs ++ bs) : Nat) : Int) = X) := by
                show ((crc (xs ++ bs) : Nat) : Int) = X
                unfold crc
                rw [HF2.out, hX]
              rw [hX] at HA4
              have HXX := Lib.hid hX
              clear hX hxl hxy HO4 HV0 HA3 HV3 HQ3 HY HF
              go_wp2_with (first
                | (at_builtin; refine app_bytes (w0 := W) W.heap.size (Nat.le_refl _) rfl (.tmp 52) (.tmp 56) rfl (.slice A n c) xs bs Ar j C rfl rfl HV4.out HB4.out HQ4.out (by omega) ?_; intro A2 n2 c2 w5 hn2 ho2 hb2 hg2 hf2; have HN2 := Lib.hid hn2; have HO2 := Lib.hid ho2; have HQ5 := Lib.hid hb2; have HA5 := Lib.hid (HA4.out.grown hg2 (HA4.out.own_ne HV4.out)); have HB5 := Lib.hid (ho2.bts HXY.out); clear hn2 ho2 hb2 hg2 hf2)
                | (go_at_call 10; refine (now_sum _ _ _ HA5.out).mono ?_; rintro e w6 ⟨rfl, rfl⟩)
                | (go_at_call 12; refine (ref_at _ _ _ _ _ _ HB5.out HC).mono ?_; rintro e w6 ⟨rfl, rfl⟩))
              go_round
              case rel => exact ⟨k + 1, F2, A2, n2, c2, xs ++ bs, by omega, by go_num, rfl, by have h1 := HN2.out; have h2 := HXl.out; omega, hF2, HF2, HO2, HXY, by rw [HXX.out]; exact HA5, HQ5⟩
              case measure => simp [intOf]; omega
      · obtain rfl : k = 20 := by omega
        have HB6 := Lib.hid (HV.out.bts HX.out)
        obtain ⟨X, hX⟩ : ∃ X : Int, ((crc xs : Nat) : Int) = X := ⟨_, rfl⟩
        have HC := Lib.hid hX
        clear hX
        go_wp2_with (first
          | (go_at_call 13; refine (crc_at _ _ _ _ _ _ HB6.out HC).mono ?_; rintro e w6 ⟨rfl, hb6⟩; replace HB6 := Lib.hid (HB6.out.below hb6); have HQ6 := Lib.hid (below_then' HQ.out hb6 HQ.out.size); clear hb6)
          | (go_at_call 12; refine (ref_at _ _ _ _ _ _ HB6.out HC).mono ?_; rintro e w6 ⟨rfl, rfl⟩))
        go_ret
        exact ⟨rfl, HQ6.out⟩
    · have HB6 := Lib.hid (HV.out.bts HX.out)
      obtain ⟨X, hX⟩ : ∃ X : Int, ((crc xs : Nat) : Int) = X := ⟨_, rfl⟩
      have HC := Lib.hid hX
      clear hX
      go_wp2_with (first
        | (go_at_call 13; refine (crc_at _ _ _ _ _ _ HB6.out HC).mono ?_; rintro e w6 ⟨rfl, hb6⟩; replace HB6 := Lib.hid (HB6.out.below hb6); have HQ6 := Lib.hid (below_then' HQ.out hb6 HQ.out.size); clear hb6)
        | (go_at_call 12; refine (ref_at _ _ _ _ _ _ HB6.out HC).mono ?_; rintro e w6 ⟨rfl, rfl⟩))
      go_ret
      exact ⟨rfl, HQ6.out⟩
end Go.Proofs.Ytdfhponhjjkdmaa
