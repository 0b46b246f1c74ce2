/- DiskStays: the walk; no condition. -/
import Derived.Test.YtapoeegnnkfgiaaDCallRow
set_option linter.unusedVariables false
set_option linter.unusedSimpArgs false
namespace Go.Proofs.Ytapoeegnnkfgiaa
open Go.RowKit Go.Proofs.YtapoeegnnkfgiaaW.PrintWords

theorem new_wr3 (ys : List Nat) : ∃ s, DS.new.wr (8 : Nat) 3 512 ys = (0, s) ∧ s.f 3 = some ys := ⟨_, rfl, rfl⟩

theorem rd3 {s : DS} {ys : List Nat} (h : s.f 3 = some ys) : Hid (s.start.rd (8 : Nat) 3 = (0, ys)) := by
  show s.start.rd (8 : Nat) 3 = (0, ys)
  unfold DS.rd DS.start
  simp [h]
theorem ne_g {A' Ab : Option Addr} {m' bl sz B g T : Nat} (hA : (A' = Ab ∧ m' = bl) ∨ (m' = 512 ∧ ∀ ad, A' = some ad → sz ≤ ad.block)) (hZ : 0 < bl → ∀ p, Ab = some p → p.block < B) (gE : B ≤ g) (gT : g < T) (hT : T ≤ sz) : 0 < m' → ∀ ad, A' = some ad → ad.block ≠ g := by
  intro h0 ad e
  rcases hA with ⟨h1, h2⟩ | ⟨_, h2⟩
  · have := hZ (by omega) ad (h1 ▸ e); omega
  · have := h2 ad e; omega
theorem from_T {A A1 : Option Addr} {m n1 sz T : Nat} (hA : (A = A1 ∧ m = n1) ∨ (m = 512 ∧ ∀ ad, A = some ad → sz ≤ ad.block)) (h1 : ∀ ad, A1 = some ad → T ≤ ad.block) (hT : T ≤ sz) : ∀ ad, A = some ad → T ≤ ad.block := by
  intro ad e
  rcases hA with ⟨h2, _⟩ | ⟨_, h2⟩
  · exact h1 ad (h2 ▸ e)
  · exact Nat.le_trans hT (h2 ad e)
theorem app_lt {xs ys : List Nat} (hx : ∀ y ∈ xs, y < 256) (hy : ∀ y ∈ ys, y < 256) : ∀ y ∈ xs ++ ys, y < 256 := fun y h => (List.mem_append.1 h).elim (hx y) (hy y)
theorem own_from {w : World} {B n c : Nat} {A : Option Addr} {xs : List Nat} (h : OwnB w B (.slice A n c) xs) (hn : 0 < n) : ∀ ad, A = some ad → B ≤ ad.block := by
  intro ad e
  obtain ⟨q, e2⟩ := h.form hn
  subst e2
  rw [← Option.some.inj e]
  exact h.base q rfl

set_option maxRecDepth 100000 in
set_option maxHeartbeats 4000000 in
theorem stays_walk (a0 : Option Addr) (len0 cap0 : Nat) (bs : List Nat) (a1 : Option Addr) (len1 cap1 : Nat) (W : World) (hB : Bts W a0 len0 bs) (hl0 : len0 ≤ 140737488351232) (hR : Cls W a1 len1) (hlen : len1 ≤ 9223372036854775807) :
    Calls Try.prog 10 #[.slice a0 len0 cap0, .slice a1 len1 cap1] W fun e W' => e = .returned (.bool true) ∧ Below W.heap.size W W' := by
  have HR := Lib.hid hR
  have HB := Lib.hid hB
  clear hR hB
  go_enter Try.func10, Try.ntmps10
  go_upto_region 5 with (first
    | (go_at_call 12; refine (dknown_any _).mono ?_; rintro e w1 ⟨rfl, hw1⟩; have HW1 := Lib.hid hw1; clear hw1)
    | (go_at_call 13; refine (new_ds 8 _ (by decide) (by decide)).mono ?_; rintro e w2 ⟨g, b, rfl, hg, hb, hp, hq⟩
       have hW2 := below_then' HW1.out hq HW1.out.size
       have gE := Nat.le_trans HW1.out.size hg
       have bE := Nat.le_trans HW1.out.size hb
       obtain ⟨T, hT⟩ : ∃ T, w2.heap.size = T := ⟨_, rfl⟩
       have HT := Lib.hid hT
       rw [hT] at hp
       have WT : W.heap.size ≤ T := hT ▸ hW2.size
       have hA : Below w2.heap.size w2 (w2.alloc (.cells #[.int .u8 1] 5)) := (Below.refl _ _).alloc (Nat.le_refl _) _
       have HL := Lib.hid (lit1 w2 T (Nat.le_of_eq hT.symm))
       have HAT : Hid (Below T w2 (w2.alloc (.cells #[.int .u8 1] 5))) := hT ▸ hA
       have HP2 := Lib.hid hp
       have HQ2 := Lib.hid hW2
       have HB2 := Lib.hid ((HB.out.below hW2).below hA)
       clear hg hb hp hq hW2 hT hA)
    | (at_builtin; refine app_bytes (w0 := w2) T (Nat.le_of_eq HT.out.symm) rfl (.tmp 18) (.tmp 19) rfl (.slice (some ⟨w2.heap.size, 0, none⟩) 1 1) [1] bs a0 len0 cap0 rfl rfl HL.out HB2.out HAT.out (by simp; omega) ?_
       intro A1 n1 c1 w3 hn1 ho1 hb1 hg1 hf1
       have hb3 : Below w2.heap.size w2 w3 := HT.out.symm ▸ hb1
       have HP3 := Lib.hid (HP2.out.below hb3)
       have HQ3 := Lib.hid (below_then' HQ2.out hb3 HQ2.out.size)
       have HB3 := Lib.hid (ho1.bts (app_lt (fun y hy => by have := List.mem_singleton.1 hy; omega) HB.out.2.2.1))
       have HA1 := Lib.hid (own_from ho1 (by rw [hn1]; show 0 < 1 + len0; omega))
       have T3 : T ≤ w3.heap.size := HT.out ▸ hb3.size
       clear hn1 ho1 hb1 hg1 hf1 hb3)
    | (go_at_call 30; refine (block_any A1 n1 c1 _ _ HB3.out).mono ?_; rintro e w4 ⟨A, m, C, ys, rfl, hby, hA, hb4⟩
       have HP4 := Lib.hid (HP3.out.below hb4)
       have HQ4 := Lib.hid (below_then' HQ3.out hb4 HQ3.out.size)
       have T4 := Nat.le_trans T3 hb4.size
       have HY4 := Lib.hid hby
       have HA4 := Lib.hid (from_T hA HA1.out T3)
       clear hby hA hb4))
  have gT := HP4.out.2.1
  have bT := HP4.out.2.2.1
  by_cases h512 : m = 512
  · subst h512
    obtain ⟨s1, e1, e3⟩ := new_wr3 ys
    have E1 := Lib.hid e1
    have E3 := Lib.hid e3
    clear e1 e3 HP2 HP3 HQ2 HQ3 HB2 HB3 HAT HL HA1 T3 HW1 HB
    go_wp2_with (first
      | (go_at_call 16; refine (write_ds T g b 8 0 none DS.new s1 3 0 A 512 C ys _ HP4.out DS.ok_new HY4.out (by decide) T4 (fun p e => by cases e) (fun _ ad e => (at_T gT bT HA4.out ad e).1) (by decide) E1).mono ?_
         rintro e w5 ⟨rfl, hp, ht⟩
         have HP5 := Lib.hid hp
         have HY5 := Lib.hid (HY4.out.tr ht (at_T gT bT HA4.out))
         have HQ5 := Lib.hid (Tr.below HQ4.out ht HQ4.out.size gE (mo_le2 bE))
         have T5 := tr_le ht T4
         clear hp ht))
    clear HP4 HY4 HQ4 T4
    go_loopw [8] (fun vk wr => ∃ (k m : Nat) (s : DS), k ≤ 60 ∧ vk = .int .i64 k ∧ m ≤ k + 1 ∧ Hid (s.ok m) ∧ Hid (s.f 3 = some ys) ∧ T ≤ wr.heap.size ∧ Hid (Pd wr T none g b 8 m s) ∧ Hid (Bts wr A 512 ys) ∧ Hid (Below W.heap.size W wr)) (fun vk _ => (60 - intOf vk).toNat)
    case atStart => exact ⟨0, 1, s1, by omega, rfl, by omega, DS.ok_new.wr E1.out, E3, T5, HP5, HY5, HQ5⟩
    case round =>
      clear HP5 HY5 HQ5 T5 E1 E3
      obtain ⟨k, m, s, hk, rfl, hm, HS, HF, hT, HP, HY, HQ⟩ := hrel
      by_cases hk1 : k < len1
      · have dk1 : decide ((k : Int) < len1) = true := decide_eq_true (by omega)
        by_cases hk2 : k < 60
        · have dk2 : decide ((k : Int) < 60) = true := decide_eq_true (by omega)
          obtain ⟨ad, rfl, hblk, kind, N, Ab, bl, bc, zs, hN, hbl, hz, hc0, hc1, hc2⟩ := HR.out k hk1
          replace hc0 := (HQ.out.cell (p := ad.add (k * 3)) (by rw [add_block]; exact hblk)).trans hc0
          replace hc1 := (HQ.out.cell (p := ⟨(ad.add (k * 3)).block, (ad.add (k * 3)).off + 1, none⟩) (by show (ad.add (k * 3)).block < _; rw [add_block]; exact hblk)).trans hc1
          replace hc2 := (HQ.out.cell (p := ⟨(ad.add (k * 3)).block, (ad.add (k * 3)).off + 2, none⟩) (by show (ad.add (k * 3)).block < _; rw [add_block]; exact hblk)).trans hc2
          have hBA : Below wr.heap.size wr (wr.alloc (.cells #[.int .i64 kind, .int .i64 N, .slice Ab bl bc] 51)) := (Below.refl _ _).alloc (Nat.le_refl _) _
          have HK : Hid (Kb (wr.alloc (.cells #[.int .i64 kind, .int .i64 N, .slice Ab bl bc] 51)) wr.heap.size kind N Ab bl bc) := blk_new _ _
          have HPA := Lib.hid (HP.out.below hBA)
          have HYA := Lib.hid (HY.out.below hBA)
          have HQA := Lib.hid (HQ.out.alloc HQ.out.size (.cells #[.int .i64 kind, .int .i64 N, .slice Ab bl bc] 51))
          have HZA := Lib.hid ((hz.below HQ.out).below hBA)
          have HZB : Hid (0 < bl → ∀ p, Ab = some p → p.block < W.heap.size) := fun h0 p e => hz.old h0 p e
          have TA := Nat.le_trans hT hBA.size
          have q0 := HK.out.c0
          have q1 := HK.out.c1
          have q2 := HK.out.c2
          have hgs : wr.heap.size ≠ g := by omega
          have hbs : some wr.heap.size ≠ some b := fun e => by have := Option.some.inj e; omega
          clear hz hBA
          by_cases e2 : kind = 2
          · subst e2
            by_cases e3 : N = 3
            · subst e3
              go_wp2_with fail
              go_round
              case rel => exact ⟨k + 1, m, s, by omega, by go_num, by omega, HS, HF, TA, HPA, HYA, HQA⟩
              case measure => simp [intOf]; omega
            · have d3 : (N != 3) = true := bne_iff_ne.mpr e3
              go_wp2_with fail
              clear hc0 hc1 hc2 HP HY HQ hT
              generalize wr.alloc (.cells #[.int .i64 2, .int .i64 N, .slice Ab bl bc] 51) = wa at HK HPA HYA HQA HZA TA q0 q1 q2 ⊢
              generalize wr.heap.size = h at HK hgs hbs q0 q1 q2 ⊢
              go_region_with (first
                | (go_at_call 30; refine (block_any Ab bl bc zs _ ?_).mono ?_; · exact HZA.out
                   rintro e w6 ⟨A', m', C', ys', rfl, hby, hA', hb⟩
                   have hp6 : Pd w6 T none g b 8 m s := Pd.below (w := wa.drew) HPA.out hb
                   have hk6 : Kb w6 h 2 N Ab bl bc := Kb.below (w := wa.drew) HK.out hb
                   have hy6 : Bts w6 A 512 ys := Bts.below (w := wa.drew) HYA.out hb
                   have hq6 : Below W.heap.size W w6 := below_then' (w1 := wa.drew) (below_drew1 HQA.out) hb HQA.out.size
                   have t6 : T ≤ w6.heap.size := Nat.le_trans TA hb.size
                   have p1 := hk6.c1
                   have hA6 := ne_g hA' HZB.out gE gT TA
                   obtain ⟨r, s', hrs⟩ : ∃ r s', s.wr (8 : Nat) N m' ys' = (r, s') := ⟨_, _, rfl⟩)
                | (go_at_call 16; refine (write_ds T g b 8 m none s s' N r A' m' C' ys' _ hp6 HS.out hby (by decide) t6 (fun p e => by cases e) hA6 (by omega) hrs).mono ?_
                   rintro e w7 ⟨rfl, hp7, ht⟩
                   have hy7 := Bts.tr hy6 ht (at_T gT bT HA4.out)
                   have hq7 := Tr.below hq6 ht hq6.size gE (mo_le2 bE)
                   have t7 := tr_le ht t6
                   have r0 := (hk6.tr ht hgs hbs).c0))
              all_goals (simp only [Exit.then]; go_at_K)
              all_goals go_wp2_with fail
              all_goals (
                go_round
                case rel => exact ⟨k + 1, m + 1, s', by omega, by go_num, by omega, HS.out.wr hrs, (wr_other hrs (Ne.symm e3)).trans HF.out, t7, hp7, hy7, hq7⟩
                case measure => simp [intOf]; omega)
          have d2 : (kind == 2) = false := beq_eq_false_iff_ne.mpr e2
          by_cases e3 : kind = 3
          · subst e3
            go_wp2_with (first
              | (go_at_call 15; refine (cut_ds T g b 8 m none s N _ HPA.out).mono ?_
                 rintro e w6 ⟨rfl, hp, ht⟩
                 have HP6 := Lib.hid hp
                 have HY6 := Lib.hid (HYA.out.tr ht (at_T gT bT HA4.out))
                 have HQ6 := Lib.hid (Tr.below HQA.out ht HQA.out.size gE (mo_le2 bE))
                 have T6 := tr_le ht TA
                 have r0 := (HK.out.tr ht hgs hbs).c0
                 clear hp ht))
            go_round
            case rel => exact ⟨k + 1, m, s.cut N, by omega, by go_num, by omega, HS.out.cut hN, HF, T6, HP6, HY6, HQ6⟩
            case measure => simp [intOf]; omega
          have d3 : (kind == 3) = false := beq_eq_false_iff_ne.mpr e3
          by_cases e4 : kind = 4
          · subst e4
            go_wp2_with (first
              | (go_at_call 19; refine (start_ds T g b 8 m none s _ HPA.out).mono ?_
                 rintro e w6 ⟨rfl, hp, ht⟩
                 have HP6 := Lib.hid hp
                 have HY6 := Lib.hid (HYA.out.tr ht (at_T gT bT HA4.out))
                 have HQ6 := Lib.hid (Tr.below HQA.out ht HQA.out.size gE (mo_le2 bE))
                 have T6 := tr_le ht TA
                 clear hp ht))
            go_round
            case rel => exact ⟨k + 1, m, s.start, by omega, by go_num, by omega, HS.out.start, HF, T6, HP6, HY6, HQ6⟩
            case measure => simp [intOf]; omega
          have d4 : (kind == 4) = false := beq_eq_false_iff_ne.mpr e4
          go_wp2_with fail
          go_round
          case rel => exact ⟨k + 1, m, s, by omega, by go_num, by omega, HS, HF, TA, HPA, HYA, HQA⟩
          case measure => simp [intOf]; omega
        · have dk2 : decide ((k : Int) < 60) = false := decide_eq_false (by omega)
          go_wp2_with (first
            | (go_at_call 19; refine (start_ds T g b 8 m none s _ HP.out).mono ?_
               rintro e w6 ⟨rfl, hp, ht⟩
               have HP6 := Lib.hid hp
               have HY6 := Lib.hid (HY.out.tr ht (at_T gT bT HA4.out))
               have HQ6 := Lib.hid (Tr.below HQ.out ht HQ.out.size gE (mo_le2 bE))
               clear hp ht)
            | (go_at_call 31; refine (read_ds T g b 8 m none s.start 3 0 ys _ HP6.out (by decide) (rd3 HF.out)).mono ?_
               rintro e w7 ⟨A2, l2, c2, rfl, hb, hq⟩
               have HQ7 := Lib.hid (below_then' HQ6.out hq HQ6.out.size)
               have hv1 := hb.conv c2
               have hv2 := (HY6.out.below hq).conv C
               clear hb hq))
          go_ret
          exact ⟨rfl, HQ7.out⟩
      · have dk1 : decide ((k : Int) < len1) = false := decide_eq_false (by omega)
        go_wp2_with (first
          | (go_at_call 19; refine (start_ds T g b 8 m none s _ HP.out).mono ?_
             rintro e w6 ⟨rfl, hp, ht⟩
             have HP6 := Lib.hid hp
             have HY6 := Lib.hid (HY.out.tr ht (at_T gT bT HA4.out))
             have HQ6 := Lib.hid (Tr.below HQ.out ht HQ.out.size gE (mo_le2 bE))
             clear hp ht)
          | (go_at_call 31; refine (read_ds T g b 8 m none s.start 3 0 ys _ HP6.out (by decide) (rd3 HF.out)).mono ?_
             rintro e w7 ⟨A2, l2, c2, rfl, hb, hq⟩
             have HQ7 := Lib.hid (below_then' HQ6.out hq HQ6.out.size)
             have hv1 := hb.conv c2
             have hv2 := (HY6.out.below hq).conv C
             clear hb hq))
        go_ret
        exact ⟨rfl, HQ7.out⟩
  · have d512 : ((m : Int) != 512) = true := bne_iff_ne.mpr (by omega)
    go_wp2
    go_ret
    exact ⟨rfl, HQ4.out⟩
end Go.Proofs.Ytapoeegnnkfgiaa
