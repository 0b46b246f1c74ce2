/- ThrottleBounds: the walk; no condition. -/
import Derived.Test.YtbbmopekolgalaaTBoundsLaw
import Derived.Test.YtbbmopekolgalaaTStill
import Derived.Test.YtbbmopekolgalaaWWords
set_option linter.unusedVariables false
set_option linter.unusedSimpArgs false
namespace Go.Proofs.Ytbbmopekolgalaa
open Go.RowKit Go.Proofs.YtbbmopekolgalaaW.PrintWords

theorem info3 : (Try.prog.info? 3).map (fun i => (i.zero, i.size, i.bytes)) = some (some (.int .i64 0), 1, 8) := by kernel_rfl
/-- Two rows of the call's own that lie apart. -/
def Apt (v u : Value) : Prop := ∀ k, v.ownBlock = some k → u.ownBlock ≠ some k
def Own (w : World) (B : Nat) (v : Value) (xs : List Int) : Prop := w.ownsRow B 3 1 v xs.length (nums .i64 xs)
theorem bk_own_ne {w : World} {g : Nat} {a b c d : Int} {B : Nat} {v : Value} {xs : List Int} (h : Bk w g a b c d) (ho : Own w B v xs) : some g ≠ v.ownBlock := by
  rcases ho.2 with ⟨rfl, _⟩ | ⟨g', cap, cur, rfl, _, hh, _⟩
  · simp [Value.ownBlock]
  · intro he
    have : g = g' := by simpa [Value.ownBlock] using he
    subst this
    unfold Bk at h
    rw [hh] at h
    injection h with h
    injection h with _ h
    exact absurd h (by decide)
theorem RestP.keep {w w' : World} {g : Nat} {b r N v : Int} {row : Option Nat} (h : RestP w g b r N v) (hg : w.grownBy w' row) (hne : some g ≠ row) : RestP w' g b r N v := by
  obtain ⟨x, l, hb, h1⟩ := h
  exact ⟨x, l, (hg.block g hb.lt hne).trans hb, h1⟩
theorem RestP.own_ne {w : World} {g : Nat} {b r N x : Int} {B : Nat} {v : Value} {xs : List Int} (h : RestP w g b r N x) (ho : Own w B v xs) : some g ≠ v.ownBlock := by
  obtain ⟨_, _, hb, _⟩ := h
  exact bk_own_ne hb ho
theorem Own.keepG {w w' : World} {B g : Nat} {v : Value} {xs : List Int} (h : Own w B v xs) (hg : w.grownBy w' (some g)) (hne : some g ≠ v.ownBlock) : Own w' B v xs :=
  own_other h hg (.inr (fun e => hne e.symm))
theorem Own.keepV {w w' : World} {B : Nat} {v u : Value} {xs : List Int} (h : Own w B v xs) (hg : w.grownBy w' u.ownBlock) (ha : Apt v u) : Own w' B v xs := by
  refine own_other h hg ?_
  rcases hv : v.ownBlock with _ | k
  · exact .inl rfl
  · exact .inr (fun e => ha k hv e.symm)

theorem Own.lt {w : World} {B : Nat} {v : Value} {xs : List Int} (h : Own w B v xs) (k : Nat) (hk : v.ownBlock = some k) : k < w.heap.size := own_lt h k hk
theorem apt_left {w : World} {B : Nat} {v v1 u : Value} {ys : List Int} (h : Apt v u) (hu : Own w B u ys) (hat : v1.ownBlock = v.ownBlock ∨ ∃ b, v1.ownBlock = some b ∧ w.heap.size ≤ b) : Apt v1 u := by
  intro k hk hk2
  rcases hat with e | ⟨b, e, hb⟩
  · exact h k (e ▸ hk) hk2
  · rw [e] at hk
    injection hk with hk
    have := hu.lt k hk2
    omega
theorem apt_right {w : World} {B : Nat} {v u u1 : Value} {xs : List Int} (h : Apt v u) (hv : Own w B v xs) (hat : u1.ownBlock = u.ownBlock ∨ ∃ b, u1.ownBlock = some b ∧ w.heap.size ≤ b) : Apt v u1 := by
  intro k hk hk2
  rcases hat with e | ⟨b, e, hb⟩
  · exact h k hk (e ▸ hk2)
  · rw [e] at hk2
    injection hk2 with hk2
    have := hv.lt k hk
    omega

set_option maxRecDepth 100000 in
set_option maxHeartbeats 8000000 in
theorem bounds_walk (burst rate : Int) (a2 : Option Addr) (len2 cap2 : Nat) (z2 : List Int) (a3 : Option Addr) (len3 cap3 : Nat) (z3 : List Int) (W : World) (hI2 : IntsAt .i64 W W.heap.size a2 len2 z2) (hl2 : len2 * 8 ≤ 140737488351232) (hI3 : IntsAt .i64 W W.heap.size a3 len3 z3) (hl3 : len3 * 8 ≤ 140737488351232) :
    Calls Try.prog 4 #[.int .i64 burst, .int .i64 rate, .slice a2 len2 cap2, .slice a3 len3 cap3] W fun e W' => e = .returned (.bool true) ∧ Below W.heap.size W W' := by
  obtain ⟨hb1, hb2⟩ := mod_bd burst 20 (by decide)
  obtain ⟨hr1, hr2⟩ := mod_bd rate 5 (by decide)
  generalize hb : burst % 20 = b at hb1 hb2
  generalize hr : rate % 5 = r at hr1 hr2
  have HB := Lib.hid hb
  have HR := Lib.hid hr
  clear hb hr
  have hlen2 : len2 ≤ 9223372036854775807 := by omega
  have hlen3 : len3 ≤ 9223372036854775807 := by omega
  have HI2 := Lib.hid hI2
  have HI3 := Lib.hid hI3
  clear hI2 hl2 hI3 hl3
  go_enter Try.func4, Try.ntmps4
  go_wp2_with (first
    | (go_at_call 9; refine (known_any _).mono ?_; rintro e w1 ⟨rfl, hw1⟩; have HW1 := Lib.hid hw1; clear hw1)
    | (go_at_call_has 10 (Value.int .i64 burst); refine (within_at _ _ b _ (by decide) (by decide) HB).mono ?_; rintro e w2 ⟨rfl, rfl⟩)
    | (go_at_call_has 10 (Value.int .i64 rate); refine (within_at _ _ r _ (by decide) (by decide) HR).mono ?_; rintro e w2 ⟨rfl, rfl⟩)
    | (go_at_call 11; refine (new_bk _ _ _ _).mono ?_; rintro e w3 ⟨g, rfl, hg, hb3, hw3⟩; have HB3 := Lib.hid hb3; have HW3 := Lib.hid hw3; clear hb3 hw3))
  have hg' : W.heap.size ≤ g := Nat.le_trans HW1.out.size hg
  have HQ : Hid (Below W.heap.size W w3) := below_then' HW1.out HW3.out HW1.out.size
  have HG : Hid (RestP w3 g (1 + b) r 0 0) := RestP.of HB3.out (by omega) (by omega) (by omega)
  have HV : Hid (Inv (1 + b) r 0 0 [] []) := Inv.start _ _ (by omega)
  have HA : Hid (Own w3 W.heap.size (.slice none 0 0) []) := own_nil _ _ _ _
  clear HW1 HW3 HB3 hg HB HR
  go_loopw [10, 11, 12, 13] (fun m vA vN i w => ∃ (k : Nat) (N V : Int) (ats ns : List Int), k ≤ len2 ∧ k ≤ len3 ∧ k ≤ 30 ∧ i = .int .i64 k ∧ m = .int .i64 N ∧ 0 ≤ N ∧ N ≤ 8 * k ∧ Hid (ns.length = k) ∧ Hid (Inv (1 + b) r N V ats ns) ∧ Hid (RestP w g (1 + b) r N V) ∧ Hid (Own w W.heap.size vA ats) ∧ Hid (Own w W.heap.size vN ns) ∧ Hid (Apt vA vN) ∧ Hid (Below W.heap.size W w)) (fun _ _ _ i _ => (30 - intOf i).toNat)
  case atStart => exact ⟨0, 0, 0, [], [], by omega, by omega, by omega, rfl, rfl, by omega, by omega, rfl, HV, HG, HA, HA, fun k h => by simp [Value.ownBlock] at h, HQ⟩
  case round =>
    clear HG HQ HV HA
    obtain ⟨k, N, V, ats, ns, hk1, hk2, hk3, rfl, rfl, hN1, hN2, HLN, HVk, HGk, HAk, HNk, HPk, HQk⟩ := hrel
    by_cases hlt : k < len2 ∧ k < len3 ∧ k < 30
    · obtain ⟨hlt, hlt2, hlt3⟩ := hlt
      have d30 : decide ((k : Int) < 30) = true := by simp; omega
      obtain ⟨ad2, rfl, hB2, hc2, _⟩ := HI2.out.2.2 k hlt
      obtain ⟨ad3, rfl, hB3, hc3, _⟩ := HI3.out.2.2 k hlt2
      replace hc2 := (HQk.out.cell (p := ad2.add k) (by rw [add_block]; exact hB2)).trans hc2
      generalize z2.getD k 0 = q2 at hc2
      generalize z3.getD k 0 = q3 at hc3
      obtain ⟨hz1, hz2⟩ := mod_bd q2 8 (by decide)
      generalize hz : q2 % 8 = z at hz1 hz2
      have HZ := Lib.hid hz
      clear hz
      obtain ⟨hy1, hy2⟩ := mod_bd q3 30 (by decide)
      generalize hy : q3 % 30 = y at hy1 hy2
      have HY := Lib.hid hy
      clear hy
      have HC3 := Lib.hid hc3
      clear hc3
      go_wp2_with (first
        | (go_at_call_has 10 (Value.int .i64 8); refine (within_at _ _ z _ (by decide) (by decide) HZ).mono ?_; rintro e w6 ⟨rfl, rfl⟩))
      obtain ⟨N', hN'⟩ : ∃ N' : Int, N + 1 + z = N' := ⟨_, rfl⟩
      rw [hN']
      obtain ⟨V', hV'⟩ : ∃ V' : Int, V' = if V + r * (N' - N) < 1 + b then V + r * (N' - N) else 1 + b := ⟨_, rfl⟩
      have HG' : Hid (RestP w6 g (1 + b) r N' V') := by rw [hV']; exact HGk.out.later (by omega) N' (by omega)
      have bV : 0 ≤ V' ∧ V' ≤ 1 + b := by
        have h1 : 0 ≤ r * (N' - N) := Int.mul_nonneg (by omega) (by omega)
        have h2 := HVk.out.v0
        rw [hV']; split <;> omega
      obtain ⟨bV1, bV2⟩ := bV
      have bN1 : N < N' := by omega
      have bN2 : N' ≤ 8 * k + 8 := by omega
      have HVV := Lib.hid hV'
      clear hV' hN' HGk hc2 HZ
      go_loopw [14, 15] (fun p j w => ∃ (c : Nat) (p' : Int), (c : Int) ≤ y ∧ j = .int .i64 c ∧ p = .int .i64 p' ∧ 0 ≤ p' ∧ p' ≤ c ∧ p' ≤ V' ∧ Hid (RestP w g (1 + b) r N' (V' - p')) ∧ Hid (Own w W.heap.size u11 ats) ∧ Hid (Own w W.heap.size u12 ns) ∧ Hid (Below W.heap.size W w)) (fun _ j _ => (30 - intOf j).toNat)
      case atStart => exact ⟨0, 0, by omega, rfl, rfl, by omega, by omega, by omega, by rw [Int.sub_zero]; exact HG', HAk, HNk, HQk⟩
      case round =>
        clear HG' HAk HNk HQk
        obtain ⟨c, p, hc, rfl, rfl, hp1, hp2, hp3, HGc, HAc, HNc, HQc⟩ := hrel
        have hc3 := (HQc.out.cell (p := ad3.add k) (by rw [add_block]; exact hB3)).trans HC3.out
        by_cases hcy : (c : Int) < y
        · by_cases hp : p < V'
          · go_wp2_with (first
              | (go_at_call 10; refine (within_at _ _ y _ (by decide) (by decide) HY).mono ?_; rintro e w7 ⟨rfl, rfl⟩)
              | (go_at_call 14; refine (RestP.pass HGc.out (by omega) (by omega) (by omega) (by omega) (by omega) (by omega) (by omega)).mono ?_; rintro e w8 ⟨rfl, hr8, hg8⟩; have HR8 := Lib.hid hr8; have HG8 := Lib.hid hg8; clear hr8 hg8))
            go_roundw
            case rel => exact ⟨c + 1, p + 1, by omega, by go_num, rfl, by omega, by omega, by omega, by rw [show V' - (p + 1) = V' - p - 1 by omega]; exact HR8, HAc.out.keepG HG8.out (HGc.out.own_ne HAc.out), HNc.out.keepG HG8.out (HGc.out.own_ne HNc.out), below_on HQc.out hg' HG8.out⟩
            case measure => simp [intOf]; omega
          · go_wp2_with (first
              | (go_at_call 10; refine (within_at _ _ y _ (by decide) (by decide) HY).mono ?_; rintro e w7 ⟨rfl, rfl⟩)
              | (go_at_call 14; refine (RestP.no HGc.out (by omega) (by omega) (by omega) (by omega) (by omega) (by omega) (by omega) (by omega)).mono ?_; rintro e w8 ⟨rfl, hr8, hg8⟩; have HR8 := Lib.hid hr8; have HG8 := Lib.hid hg8; clear hr8 hg8))
            go_roundw
            case rel => exact ⟨c + 1, p, by omega, by go_num, rfl, by omega, by omega, by omega, HR8, HAc.out.keepG HG8.out (HGc.out.own_ne HAc.out), HNc.out.keepG HG8.out (HGc.out.own_ne HNc.out), below_on HQc.out hg' HG8.out⟩
            case measure => simp [intOf]; omega
        · have hal : ats.length ≤ 30 := by have := HVk.out.len; have := HLN.out; omega
          have hnl : ns.length ≤ 30 := by have := HLN.out; omega
          go_wp2_with (first
            | (go_at_call 10; refine (within_at _ _ y _ (by decide) (by decide) HY).mono ?_; rintro e w7 ⟨rfl, rfl⟩)
            | (at_builtin; refine print_append_num W.heap.size rfl (.tmp 68) (.tmp 70) 29 3 .i64 8 rfl Try.underlying29 info3 (by decide) u11 ats N' rfl rfl HAc.out HQc.out HQc.out.size (by omega) ?_; intro v1 w9 ho1 hb1' hg1 hat1; have HO1 : Hid (Own w9 W.heap.size v1 (ats ++ [N'])) := ho1; have HB1 := Lib.hid hb1'; have HG1 := Lib.hid hg1; have HT1 := Lib.hid hat1; clear ho1 hb1' hg1 hat1)
            | (at_builtin; refine print_append_num W.heap.size rfl (.tmp 72) (.tmp 74) 29 3 .i64 8 rfl Try.underlying29 info3 (by decide) u12 ns p rfl rfl (HNc.out.keepV HG1.out (fun k h1 h2 => HPk.out k h2 h1)) HB1.out HB1.out.size (by omega) ?_; intro v2 w10 ho2 hb2' hg2 hat2; have HO2 : Hid (Own w10 W.heap.size v2 (ns ++ [p])) := ho2; have HB2 := Lib.hid hb2'; have HG2 := Lib.hid hg2; have HT2 := Lib.hid hat2; clear ho2 hb2' hg2 hat2))
          have hA1 := apt_left HPk.out HNc.out HT1.out
          have HP2 : Hid (Apt v1 v2) := apt_right hA1 HO1.out HT2.out
          have HA2 : Hid (Own w10 W.heap.size v1 (ats ++ [N'])) := HO1.out.keepV HG2.out hA1
          have HR2 : Hid (RestP w10 g (1 + b) r N' (V' - p)) := (HGc.out.keep HG1.out (HGc.out.own_ne HAc.out)).keep HG2.out ((HGc.out.keep HG1.out (HGc.out.own_ne HAc.out)).own_ne (HNc.out.keepV HG1.out (fun k h1 h2 => HPk.out k h2 h1)))
          have HVs : Hid (Inv (1 + b) r N' (V' - p) (ats ++ [N']) (ns ++ [p])) := HVk.out.step (by omega) N' V' p (by omega) HVV.out hp1 hp3 (by omega)
          have HL1 : Hid ((ats ++ [N']).length = k + 1) := by have h1 := HVk.out.len; have h2 : ns.length = k := HLN.out; show (ats ++ [N']).length = k + 1; rw [List.length_append, List.length_singleton]; omega
          have HL2 : Hid ((ns ++ [p]).length = k + 1) := by have h2 : ns.length = k := HLN.out; show (ns ++ [p]).length = k + 1; rw [List.length_append, List.length_singleton]; omega
          clear hA1 HG1 HG2 HT1 HT2 HO1 HAc HNc HGc HVk HPk HLN HVV HQc HB1 hc3 HC3 HY hal hnl
          obtain ⟨ats', hA'⟩ : ∃ l, ats ++ [N'] = l := ⟨_, rfl⟩
          obtain ⟨ns', hN'⟩ : ∃ l, ns ++ [p] = l := ⟨_, rfl⟩
          rw [hA'] at HA2 HVs HL1
          rw [hN'] at HO2 HVs HL2
          clear hA' hN'
          have hl1 : ats'.length = k + 1 := HL1.out
          have hl2 : ns'.length = k + 1 := HL2.out
          unfold Own at HA2 HO2
          rw [hl1] at HA2
          rw [hl2] at HO2
          obtain ⟨gA, cA, rfl, _, _⟩ := World.ownsRow.form HA2.out (Nat.succ_pos k)
          obtain ⟨gN, cN, rfl, _, _⟩ := World.ownsRow.form HO2.out (Nat.succ_pos k)
          have HcA : Hid (∀ i : Nat, i < k + 1 → w10.cell? ⟨gA, i, none⟩ = some (.int .i64 (ats'.getD i 0))) := fun i hi => (own_at HA2.out i (by omega) (by omega)).1
          have HcN : Hid (∀ i : Nat, i < k + 1 → w10.cell? ⟨gN, i, none⟩ = some (.int .i64 (ns'.getD i 0))) := fun i hi => (own_at HO2.out i (by omega) (by omega)).1
          clear hl1 hl2
          go_loop [16] (fun f => ∃ F : Nat, F ≤ k + 1 ∧ f = .int .i64 F) (fun f => k + 1 - (intOf f).toNat)
          case atStart => exact ⟨0, by omega, rfl⟩
          case round =>
            obtain ⟨F, hF, rfl⟩ := hrel
            by_cases hFk : F ≤ k
            · go_wp2
              go_loop [17, 18] (fun s j => ∃ d : Nat, F + d ≤ k + 1 ∧ s = .int .i64 (sm ns' F d) ∧ j = .int .i64 ((F + d : Nat) : Int)) (fun _ j => k + 1 - (intOf j).toNat)
              case atStart => exact ⟨0, by omega, rfl, rfl⟩
              case round =>
                obtain ⟨d, hd, rfl, rfl⟩ := hrel
                obtain ⟨hs1, hs2⟩ := sm_bd ns' 30 (by decide) HVs.out.n_ F d
                by_cases hdk : F + d ≤ k
                · have hcd := HcN.out (F + d) (by omega)
                  obtain ⟨hx1, hx2⟩ := HVs.out.n_ (F + d)
                  have HS : Hid (sm ns' F (d + 1) = sm ns' F d + ns'.getD (F + d) 0) := rfl
                  generalize ns'.getD (F + d) 0 = xx at hcd hx1 hx2 HS
                  generalize sm ns' F d = ss at hs1 hs2 HS ⊢
                  have hs3 : ss ≤ 930 := by omega
                  generalize hFd : F + d = Fd at hcd hdk ⊢
                  have HFd := Lib.hid hFd
                  clear hFd
                  go_wp2
                  go_round
                  case rel =>
                    have h := HFd.out
                    subst h
                    exact ⟨d + 1, by omega, by rw [HS.out], by go_num⟩
                  case measure => simp [intOf]; omega
                · obtain rfl : d = k + 1 - F := by omega
                  have hsum := HVs.out.sum F (by have := HL2.out; omega)
                  rw [HL2.out] at hsum
                  have hv0 := HVs.out.v0
                  obtain ⟨hq1, hq2⟩ := HVs.out.since_bd F
                  have hmm := mul_bd r (N' - since ats' F) 5 300 (by omega) (by omega) (by omega) (by omega)
                  obtain ⟨hmm1, hmm2⟩ := hmm
                  have hgt : sm ns' F (k + 1 - F) ≤ 1 + b + r * (N' - since ats' F) := by omega
                  generalize sm ns' F (k + 1 - F) = ss at hs1 hs2 hgt ⊢
                  have hFe : F + (k + 1 - F) = k + 1 := by omega
                  rw [hFe]
                  clear hsum hd hdk hFe hs2
                  by_cases hF0 : 0 < F
                  · have hsi : since ats' F = ats'.getD (F - 1) 0 := by unfold since; rw [if_neg (by omega)]
                    have hca := HcA.out (F - 1) (by omega)
                    rw [hsi] at hq1 hq2 hmm1 hmm2 hgt
                    generalize ats'.getD (F - 1) 0 = sx at hq1 hq2 hmm1 hmm2 hgt hca
                    clear hsi
                    go_wp2
                    go_round
                    case rel => exact ⟨F + 1, by omega, by go_num⟩
                    case measure => simp [intOf]; omega
                  · have hsi : since ats' F = 0 := by unfold since; rw [if_pos (by omega)]
                    rw [hsi] at hmm1 hmm2 hgt
                    rw [Int.sub_zero] at hmm1 hmm2 hgt
                    clear hsi hq1 hq2
                    go_wp2
                    go_round
                    case rel => exact ⟨F + 1, by omega, by go_num⟩
                    case measure => simp [intOf]; omega
            · obtain rfl : F = k + 1 := by omega
              go_wp2
              go_roundw
              case rel => exact ⟨k + 1, N', V' - p, ats', ns', by omega, by omega, by omega, by go_num, rfl, by omega, by omega, HL2.out, HVs.out, HR2.out, (show w10.ownsRow _ _ _ _ ats'.length _ by rw [HL1.out]; exact HA2.out), (show w10.ownsRow _ _ _ _ ns'.length _ by rw [HL2.out]; exact HO2.out), HP2.out, HB2.out⟩
              case measure => simp [intOf]; omega
    · by_cases h1 : k < len2
      · by_cases h2 : k < len3
        · have d30 : decide ((k : Int) < 30) = false := by simp; omega
          go_wp2
          go_ret
          exact ⟨rfl, HQk.out⟩
        · go_wp2
          go_ret
          exact ⟨rfl, HQk.out⟩
      · go_wp2
        go_ret
        exact ⟨rfl, HQk.out⟩
end Go.Proofs.Ytbbmopekolgalaa
