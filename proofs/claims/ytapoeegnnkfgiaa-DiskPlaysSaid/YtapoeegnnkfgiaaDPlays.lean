/- DiskPlays: the walk; no condition. -/
import Derived.Test.YtapoeegnnkfgiaaDPl
set_option linter.unusedVariables false
set_option linter.unusedSimpArgs false
namespace Go.Proofs.Ytapoeegnnkfgiaa
open Go.RowKit Go.Proofs.YtapoeegnnkfgiaaW.PrintWords

theorem below_drewN' {B : Nat} {a w : World} (h : Below B a w) (n : Nat) : Below B a (w.drewN n) := ⟨h.os, h.tape, h.output, h.size, h.block⟩
set_option maxRecDepth 100000 in
set_option maxHeartbeats 4000000 in
theorem plays_bad (a0 : Int) (a1 : Option Addr) (len1 cap1 : Nat) (W : World) (hin : a0 < 1 ∨ 16384 < a0) :
    Calls Try.prog 11 #[.int .i64 a0, .slice a1 len1 cap1] W fun e W' => e = .returned (.bool true) ∧ Below W.heap.size W W' := by
  have HIN := Lib.hid hin
  clear hin
  go_enter Try.func11, Try.ntmps11
  go_wp2_with (first
    | (go_at_call 12; refine (dknown_any _).mono ?_; rintro e w1 ⟨rfl, hw1⟩; have HW1 := Lib.hid hw1; clear hw1)
    | (go_at_call 13; refine (new_bad a0 _ HIN.out).mono ?_; rintro e w2 ⟨rfl, rfl⟩)
    | (go_at_call 32; refine (rnew_bad a0 _ HIN.out).mono ?_; rintro e w3 ⟨rfl, rfl⟩))
  go_loopw [9] (fun vi wr => vi = .int .i64 0 ∧ Hid (Below W.heap.size W wr)) (fun _ _ => 0)
  case atStart => exact ⟨rfl, HW1⟩
  case round =>
    clear HW1
    obtain ⟨rfl, HQ⟩ := hrel
    go_wp2_with fail
    go_ret
    exact ⟨rfl, HQ.out⟩

set_option maxRecDepth 100000 in
set_option maxHeartbeats 16000000 in
theorem plays_good (n : Nat) (a1 : Option Addr) (len1 cap1 : Nat) (W : World) (hn1 : 1 ≤ n) (hn : n ≤ 16384) (hR : Cls W a1 len1) (hlen : len1 ≤ 9223372036854775807) :
    Calls Try.prog 11 #[.int .i64 n, .slice a1 len1 cap1] W fun e W' => e = .returned (.bool true) ∧ Below W.heap.size W W' := by
  have HR := Lib.hid hR
  clear hR
  go_enter Try.func11, Try.ntmps11
  go_wp2_with (first
    | (go_at_call 12; refine (dknown_any _).mono ?_; rintro e w1 ⟨rfl, hw1⟩; have HW1 := Lib.hid hw1; clear hw1)
    | (go_at_call 13; refine (new_ds n _ hn1 hn).mono ?_; rintro e w2 ⟨g, b, rfl, hg, hb, hp, hq⟩
       have gE := Nat.le_trans HW1.out.size hg
       have bE := Nat.le_trans HW1.out.size hb
       have HP2 := Lib.hid hp
       have HQ2 := Lib.hid (below_then' HW1.out hq HW1.out.size)
       clear hg hb hp hq)
    | (go_at_call 32; refine (rnew_ds n _ hn1 hn).mono ?_; rintro e w3 ⟨x, t, rfl, hx, ht, hr, hq⟩
       have xE := Nat.le_trans HQ2.out.size hx
       have tE := Nat.le_trans HQ2.out.size ht
       have HQ3 := Lib.hid (below_then' HQ2.out hq HQ2.out.size)
       have HP3 := Lib.hid ((HP2.out.below hq).raise hq.size)
       have HR3 := Lib.hid hr
       have HFAR := Lib.hid (far_mk HP2.out.2.1 HP2.out.2.2.1 hx ht hq.size hr.2.1 hr.2.2.1)
       clear hx ht hr hq))
  clear HW1 HP2 HQ2
  obtain ⟨T, hT3⟩ : ∃ T, w3.heap.size = T := ⟨_, rfl⟩
  rw [hT3] at HP3 HR3 HFAR
  have WT : W.heap.size ≤ T := hT3 ▸ HQ3.out.size
  go_loopw [9] (fun vi wr => ∃ (k m : Nat) (s : DS), k ≤ 100 ∧ vi = .int .i64 k ∧ m ≤ k ∧ Hid (s.ok m) ∧ T ≤ wr.heap.size ∧ Hid (Pd wr T none g b n m s) ∧ Hid (Rd wr T none x t n s) ∧ Hid (Below W.heap.size W wr)) (fun vi _ => (100 - intOf vi).toNat)
  case atStart => exact ⟨0, 0, DS.new, by omega, rfl, by omega, DS.ok_new, Nat.le_of_eq hT3.symm, HP3, HR3, HQ3⟩
  case round =>
    clear HP3 HR3 HQ3 hT3
    obtain ⟨k, m, s, hk, rfl, hm, HS, hT, HP, HRD, HQ⟩ := hrel
    by_cases hk1 : k < len1
    · have dk1 : decide ((k : Int) < len1) = true := decide_eq_true (by omega)
      by_cases hk2 : k < 100
      · have dk2 : decide ((k : Int) < 100) = true := decide_eq_true (by omega)
        obtain ⟨ad, rfl, hblk, kind, N, Ab, bl, bc, zs, hN, hbl, hz, hc0, hc1, hc2⟩ := HR.out k hk1
        replace hc0 := (HQ.out.cell (p := ad.add (k * 3)) (by rw [add_block]; exact hblk)).trans hc0
        replace hc1 := (HQ.out.cell (p := ⟨(ad.add (k * 3)).block, (ad.add (k * 3)).off + 1, none⟩) (by show (ad.add (k * 3)).block < _; rw [add_block]; exact hblk)).trans hc1
        replace hc2 := (HQ.out.cell (p := ⟨(ad.add (k * 3)).block, (ad.add (k * 3)).off + 2, none⟩) (by show (ad.add (k * 3)).block < _; rw [add_block]; exact hblk)).trans hc2
        have hBA : Below wr.heap.size wr (wr.alloc (.cells #[.int .i64 kind, .int .i64 N, .slice Ab bl bc] 51)) := (Below.refl _ _).alloc (Nat.le_refl _) _
        have HK : Hid (Kb (wr.alloc (.cells #[.int .i64 kind, .int .i64 N, .slice Ab bl bc] 51)) wr.heap.size kind N Ab bl bc) := blk_new _ _
        have HPA := Lib.hid (HP.out.below hBA)
        have HRA := Lib.hid (HRD.out.below hBA)
        have HQA := Lib.hid (HQ.out.alloc HQ.out.size (.cells #[.int .i64 kind, .int .i64 N, .slice Ab bl bc] 51))
        have HZA := Lib.hid ((hz.below HQ.out).below hBA)
        have HZB : Hid (0 < bl → ∀ p, Ab = some p → p.block < W.heap.size) := fun h0 p e => hz.old h0 p e
        have TA := Nat.le_trans hT hBA.size
        have q0 := HK.out.c0
        have q1 := HK.out.c1
        have q2 := HK.out.c2
        have hgs : wr.heap.size ≠ g := Nat.ne_of_gt (Nat.lt_of_lt_of_le HFAR.out.l1 hT)
        have hbs : some wr.heap.size ≠ some b := ne_some (Nat.ne_of_gt (Nat.lt_of_lt_of_le HFAR.out.l2 hT))
        have hxs : wr.heap.size ≠ x := Nat.ne_of_gt (Nat.lt_of_lt_of_le HFAR.out.l3 hT)
        have hts : some wr.heap.size ≠ some t := ne_some (Nat.ne_of_gt (Nat.lt_of_lt_of_le HFAR.out.l4 hT))
        clear hz hBA
        by_cases e1 : kind = 1
        · subst e1
          obtain ⟨r, bs, hrs⟩ : ∃ r bs, s.rd n N = (r, bs) := ⟨_, _, rfl⟩
          have HRS := Lib.hid hrs
          clear hrs
          go_wp2_with (first
            | (go_at_call 31; refine (read_ds T g b n m none s N r bs _ HPA.out hn HRS).mono ?_
               rintro e w5 ⟨A5, l5, c5, rfl, hb5, hq5⟩
               have HP5 := Lib.hid (HPA.out.below hq5)
               have HR5 := Lib.hid (HRA.out.below hq5)
               have HQ5 := Lib.hid (below_then' HQA.out hq5 HQA.out.size)
               have T5 := Nat.le_trans TA hq5.size
               have HB5 := Lib.hid hb5
               have r1 := (HK.out.below hq5).c1
               clear hb5 hq5)
            | (go_at_call 33; refine (rread_ds T x t n none s N r bs _ HR5.out hn HRS).mono ?_
               rintro e w6 ⟨A6, l6, c6, rfl, hb6, hq6⟩
               have HP6 := Lib.hid (HP5.out.below hq6)
               have HR6 := Lib.hid (HR5.out.below hq6)
               have HQ6 := Lib.hid (below_then' HQ5.out hq6 HQ5.out.size)
               have T6 := Nat.le_trans T5 hq6.size
               have hv1 := (HB5.out.below hq6).conv c5
               have hv2 := hb6.conv c6
               clear hb6 hq6))
          have y0 := HR6.out.rb.c0
          have y2 := HR6.out.rb.c2
          have y4 := HR6.out.rb.c4
          go_quiet (first
            | (go_at_call 17; exact Calls.quiet_of_same (dead_any g n b _ _ _ _ HP6.out.db))
            | (go_at_call 18; exact Calls.quiet_of_same (writes_any g n b _ _ _ _ HP6.out.db))
            | (go_at_call 37; exact Calls.quiet_of_same (blocks_any g n b _ _ _ _ HP6.out.db)))
          go_wp2_with fail
          go_round
          case rel => exact ⟨k + 1, m, s, by omega, by go_num, by omega, HS, T6, HP6, HR6, below_drewN' HQ6.out _⟩
          case measure => simp [intOf]; omega
        have d1 : (kind == 1) = false := beq_eq_false_iff_ne.mpr e1
        by_cases e2 : kind = 2
        · subst e2
          go_wp2_with (first
            | (go_at_call 30; refine (block_any Ab bl bc zs _ HZA.out).mono ?_
               rintro e w5 ⟨A1, m1, C1, ys, rfl, hby, hA, hb⟩
               have hA5 : Below w5.heap.size w5 (w5.alloc (.cells #[] 5)) := (Below.refl _ _).alloc (Nat.le_refl _) _
               have HP5 := Lib.hid (HPA.out.below hb)
               have HR5 := Lib.hid (HRA.out.below hb)
               have HQ5 := Lib.hid (below_then' HQA.out hb HQA.out.size)
               have T5 := Nat.le_trans TA hb.size
               have HK5 := Lib.hid (HK.out.below hb)
               have HFB := Lib.hid (blk_far2 hA HZB.out HFAR.out gE bE xE tE TA)
               have HBM := Lib.hid (bd_m hA hbl)
               have HB5 := Lib.hid hby
               have HL5 : Hid (OwnB (w5.alloc (.cells #[] 5)) w5.heap.size (.slice (some ⟨w5.heap.size, 0, none⟩) 0 0) []) := ownB_lit w5 _ (Nat.le_refl _)
               have HA5 := Lib.hid hA5
               have HBA5 := Lib.hid (hby.below hA5)
               clear hby hA hb hA5)
            | (at_builtin; refine app_bytes (w0 := w5) w5.heap.size (Nat.le_refl _) rfl (.tmp 91) (.tmp 92) rfl (.slice (some ⟨w5.heap.size, 0, none⟩) 0 0) [] ys A1 m1 C1 rfl rfl HL5.out HBA5.out HA5.out (bd_app HBM.out) ?_
               intro A2 n2 c2 w6 hn2 ho2 hb2 hg2 hf2
               obtain rfl : m1 = n2 := (len_one n2 m1 hn2).symm
               obtain ⟨p, hp1, hp2, hpA⟩ := mine_at ho2 (Nat.lt_of_lt_of_le (lt_alloc w5 _) hg2.size)
               have HP6 := Lib.hid ((HP5.out.avoid hp1).below hb2)
               have HR6 := Lib.hid ((HR5.out.avoid hp1).below hb2)
               have HQ6 := Lib.hid (below_then' HQ5.out hb2 HQ5.out.size)
               have T6 := Nat.le_trans T5 hb2.size
               have HK6 := Lib.hid (HK5.out.below hb2)
               have HB6 := Lib.hid (HB5.out.below hb2)
               have HO6 : Hid (OwnB w6 w5.heap.size (.slice A2 m1 c2) ys) := ho2
               have HM6 := Lib.hid (HO6.out.bts HB5.out.2.2.1)
               have hpT := Nat.le_trans T5 hp1
               have HPA2 := Lib.hid hpA
               have HAV := Lib.hid (av_lt hp2)
               have HFM := Lib.hid (mine_far hpA hpT HFAR.out)
               have s1 := HK6.out.c1
               clear hn2 ho2 hb2 hg2 hf2 hp1 hp2 hpA))
          obtain ⟨r, s', hrs⟩ : ∃ r s', s.wr n N m1 ys = (r, s') := ⟨_, _, rfl⟩
          have HRS := Lib.hid hrs
          clear hrs HP5 HR5 HQ5 HK5 HB5 HL5 HA5 HBA5 HPA HRA HQA HZA HZB HK HP HRD HQ hc0 hc1 hc2 q0 q1 q2 TA hT
          go_region_with (first
            | (go_at_call 16; refine (write_ds T g b n m (some p) s s' N r A2 m1 c2 ys w6.drew HP6.out HS.out HM6.out hn T6 HAV.out HFM.out (by omega) HRS).mono ?_
               rintro e w7 ⟨rfl, hp7, ht7⟩
               have hr7 := Rd.tr (w := w6.drew) HR6.out HFAR.out ht7
               have hk7 := Kb.tr (w := w6.drew) HK6.out ht7 hgs hbs
               have hb7 := Bts.tr0 (w := w6.drew) HB6.out ht7 (fun h0 ad e => ⟨(HFB.out h0 ad e).1, ne_some (HFB.out h0 ad e).2.1⟩)
               have ho7 := OwnB.tr (w := w6.drew) HO6.out ht7 T5 HFAR.out.l1 HFAR.out.l2
               have hq7 := Tr.below (below_drew1 HQ6.out) ht7 HQ6.out.size gE (mo_le2 bE)
               have t7 := tr_le ht7 T6
               have av7 : ∀ p', some p = some p' → p' < w7.heap.size := fun p' e => Nat.lt_of_lt_of_le (HAV.out p' e) ht7.size
               have s7 := hk7.c1)
            | (go_at_call 34; refine (rwrite_ds T x t n m (some p) s s' N r A1 m1 C1 ys w7 hr7 HS.out hb7 hn t7 av7 (fun h0 ad e => (HFB.out h0 ad e).2.2.1) (by omega) HRS).mono ?_
               rintro e w8 ⟨rfl, hr8, ht8⟩
               have hp8 := Pd.tr hp7 HFAR.out ht8
               have ho8 := OwnB.tr ho7 ht8 T5 HFAR.out.l3 HFAR.out.l4
               have hq8 := Tr.below hq7 ht8 hq7.size xE (mo_le2 tE)
               have t8 := tr_le ht8 t7))
          all_goals (simp only [Exit.then]; go_at_K)
          all_goals go_wp2_with fail
          all_goals (
            have HPJ := Lib.hid hp8
            have HRJ := Lib.hid hr8
            have HQJ := Lib.hid hq8
            have HOJ := Lib.hid ho8
            clear hp8 hr8 hq8 ho8 hr7 hk7 hb7 ho7 hq7 t7 av7 s7 hp7 ht7 ht8 HP6 HR6 HQ6 HK6 HB6 HO6 HM6 T6 s1 HAV HFM
            go_loopw [17] (fun vj wi => ∃ (j : Nat) (zs : List Nat), j ≤ m1 ∧ vj = .int .i64 j ∧ Hid (OwnB wi w5.heap.size (.slice A2 m1 c2) zs) ∧ Hid (Pd wi T (some p) g b n (m + 1) s') ∧ Hid (Rd wi T (some p) x t n s') ∧ T ≤ wi.heap.size ∧ Hid (Below W.heap.size W wi)) (fun vj _ => m1 - (intOf vj).toNat)
            case atStart => exact ⟨0, ys, Nat.zero_le _, rfl, HOJ, HPJ, HRJ, t8, HQJ⟩
            case round =>
              clear HPJ HRJ HQJ HOJ t8
              obtain ⟨j, zs, hj, rfl, HOI, HPI, HRI, TI, HQI⟩ := hrel
              by_cases hjm : j < m1
              · have dj : decide ((j : Int) < m1) = true := decide_eq_true (by omega)
                have eA := HPA2.out (by omega)
                subst eA
                have hbm := HBM.out
                obtain ⟨z, hz1, hz2⟩ := HOI.out.cell j hjm
                have hpt := HOI.out.put j 238
                have HO2 := Lib.hid hpt.1
                have HP2 := Lib.hid (HPI.out.scrib hpT hpt.2)
                have HR2 := Lib.hid (HRI.out.scrib hpT hpt.2)
                have HQ2 := Lib.hid (below_grown HQI.out (Nat.le_refl _) hpt.2 (fun k e => by cases e; exact Nat.le_trans WT hpT))
                have T2 := Nat.le_trans TI hpt.2.size
                clear hpt
                go_wp2_with fail
                go_round
                case rel => exact ⟨j + 1, zs.set j 238, by omega, by go_num, HO2, HP2, HR2, T2, HQ2⟩
                case measure => simp [intOf]; omega
              · have dj : decide ((j : Int) < m1) = false := decide_eq_false (by omega)
                have y0 := HRI.out.rb.c0
                have y2 := HRI.out.rb.c2
                have y4 := HRI.out.rb.c4
                go_wp2_with fail
                go_quiet (first
                  | (go_at_call 17; exact Calls.quiet_of_same (dead_any g n b _ _ _ _ HPI.out.db))
                  | (go_at_call 18; exact Calls.quiet_of_same (writes_any g n b _ _ _ _ HPI.out.db))
                  | (go_at_call 37; exact Calls.quiet_of_same (blocks_any g n b _ _ _ _ HPI.out.db)))
                go_wp2_with fail
                go_round
                case rel => exact ⟨k + 1, m + 1, s', by omega, by go_num, by omega, HS.out.wr HRS.out, TI, HPI.out.free, HRI.out.free, below_drewN' HQI.out _⟩
                case measure => simp [intOf]; omega)
        have d2 : (kind == 2) = false := beq_eq_false_iff_ne.mpr e2
        by_cases e3 : kind = 3
        · subst e3
          go_wp2_with (first
            | (go_at_call 15; refine (cut_ds T g b n m none s N _ HPA.out).mono ?_
               rintro e w5 ⟨rfl, hp, ht⟩
               have HP5 := Lib.hid hp
               have HR5 := Lib.hid (HRA.out.tr HFAR.out ht)
               have HQ5 := Lib.hid (Tr.below HQA.out ht HQA.out.size gE (mo_le2 bE))
               have T5 := tr_le ht TA
               have r1 := (HK.out.tr ht hgs hbs).c1
               clear hp ht)
            | (go_at_call 35; refine (rcut_ds T x t n none s N _ HR5.out).mono ?_
               rintro e w6 ⟨rfl, hp, ht⟩
               have HR6 := Lib.hid hp
               have HP6 := Lib.hid (HP5.out.tr HFAR.out ht)
               have HQ6 := Lib.hid (Tr.below HQ5.out ht HQ5.out.size xE (mo_le2 tE))
               have T6 := tr_le ht T5
               clear hp ht))
          have y0 := HR6.out.rb.c0
          have y2 := HR6.out.rb.c2
          have y4 := HR6.out.rb.c4
          go_quiet (first
            | (go_at_call 17; exact Calls.quiet_of_same (dead_any g n b _ _ _ _ HP6.out.db))
            | (go_at_call 18; exact Calls.quiet_of_same (writes_any g n b _ _ _ _ HP6.out.db))
            | (go_at_call 37; exact Calls.quiet_of_same (blocks_any g n b _ _ _ _ HP6.out.db)))
          go_wp2_with fail
          go_round
          case rel => exact ⟨k + 1, m, s.cut N, by omega, by go_num, by omega, HS.out.cut hN, T6, HP6, HR6, below_drewN' HQ6.out _⟩
          case measure => simp [intOf]; omega
        have d3 : (kind == 3) = false := beq_eq_false_iff_ne.mpr e3
        by_cases e4 : kind = 4
        · subst e4
          go_wp2_with (first
            | (go_at_call 19; refine (start_ds T g b n m none s _ HPA.out).mono ?_
               rintro e w5 ⟨rfl, hp, ht⟩
               have HP5 := Lib.hid hp
               have HR5 := Lib.hid (HRA.out.tr HFAR.out ht)
               have HQ5 := Lib.hid (Tr.below HQA.out ht HQA.out.size gE (mo_le2 bE))
               have T5 := tr_le ht TA
               clear hp ht)
            | (go_at_call 36; refine (rstart_ds T x t n none s _ HR5.out).mono ?_
               rintro e w6 ⟨rfl, hp, ht⟩
               have HR6 := Lib.hid hp
               have HP6 := Lib.hid (HP5.out.tr HFAR.out ht)
               have HQ6 := Lib.hid (Tr.below HQ5.out ht HQ5.out.size xE (mo_le2 tE))
               have T6 := tr_le ht T5
               clear hp ht))
          have y0 := HR6.out.rb.c0
          have y2 := HR6.out.rb.c2
          have y4 := HR6.out.rb.c4
          go_quiet (first
            | (go_at_call 17; exact Calls.quiet_of_same (dead_any g n b _ _ _ _ HP6.out.db))
            | (go_at_call 18; exact Calls.quiet_of_same (writes_any g n b _ _ _ _ HP6.out.db))
            | (go_at_call 37; exact Calls.quiet_of_same (blocks_any g n b _ _ _ _ HP6.out.db)))
          go_wp2_with fail
          go_round
          case rel => exact ⟨k + 1, m, s.start, by omega, by go_num, by omega, HS.out.start, T6, HP6, HR6, below_drewN' HQ6.out _⟩
          case measure => simp [intOf]; omega
        have d4 : (kind == 4) = false := beq_eq_false_iff_ne.mpr e4
        go_wp2_with fail
        have y0 := HRA.out.rb.c0
        have y2 := HRA.out.rb.c2
        have y4 := HRA.out.rb.c4
        go_quiet (first
          | (go_at_call 17; exact Calls.quiet_of_same (dead_any g n b _ _ _ _ HPA.out.db))
          | (go_at_call 18; exact Calls.quiet_of_same (writes_any g n b _ _ _ _ HPA.out.db))
          | (go_at_call 37; exact Calls.quiet_of_same (blocks_any g n b _ _ _ _ HPA.out.db)))
        go_wp2_with fail
        go_round
        case rel => exact ⟨k + 1, m, s, by omega, by go_num, by omega, HS, TA, HPA, HRA, below_drewN' HQA.out _⟩
        case measure => simp [intOf]; omega
      · have dk2 : decide ((k : Int) < 100) = false := decide_eq_false (by omega)
        go_wp2_with fail
        go_ret
        exact ⟨rfl, HQ.out⟩
    · have dk1 : decide ((k : Int) < len1) = false := decide_eq_false (by omega)
      go_wp2_with fail
      go_ret
      exact ⟨rfl, HQ.out⟩
theorem plays_walk (a0 : Int) (a1 : Option Addr) (len1 cap1 : Nat) (W : World) (hR : Cls W a1 len1) (hlen : len1 ≤ 9223372036854775807) :
    Calls Try.prog 11 #[.int .i64 a0, .slice a1 len1 cap1] W fun e W' => e = .returned (.bool true) ∧ Below W.heap.size W W' := by
  by_cases h : a0 < 1 ∨ 16384 < a0
  · exact plays_bad a0 a1 len1 cap1 W h
  · obtain ⟨n, rfl⟩ : ∃ n : Nat, a0 = n := ⟨a0.toNat, by omega⟩
    exact plays_good n a1 len1 cap1 W (by omega) (by omega) hR hlen
end Go.Proofs.Ytapoeegnnkfgiaa
