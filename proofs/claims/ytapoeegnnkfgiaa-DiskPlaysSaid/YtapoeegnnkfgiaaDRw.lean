/- The document's Write, told; no condition. -/
import Derived.Test.YtapoeegnnkfgiaaDRef
import Derived.Deep.RegionLawGrows
set_option linter.unusedVariables false
set_option linter.unusedSimpArgs false
namespace Go.Proofs.Ytapoeegnnkfgiaa
open Go.RowKit Go.Deep Go.Proofs.YtapoeegnnkfgiaaW.PrintWords

theorem Bts.cells {w : World} {ad : Addr} {n : Nat} {bs : List Nat} (h : Bts w (some ad) n bs) : ∀ j u, (nums .u8 (natz bs))[j]? = some u → w.cell? (ad.add j) = some u := by
  intro j u hu
  have hl : (nums .u8 (natz bs)).length = bs.length := by simp [nums, natz]
  have hj : j < n := by
    rcases Nat.lt_or_ge j n with h1 | h1
    · exact h1
    · rw [List.getElem?_eq_none (by rw [hl, h.1]; exact h1)] at hu
      cases hu
  obtain ⟨ad', e, hc⟩ := h.2.2.2 j hj
  injection e with e
  subst e
  rw [hc, ← hu]
  have hjl : j < bs.length := by rw [h.1]; exact hj
  simp [nums, natz, List.getD_eq_getElem?_getD, List.getElem?_eq_getElem hjl]
theorem nums_one (bs : List Nat) : ∀ u ∈ nums .u8 (natz bs), u.oneCell' = true := by
  intro u hu
  unfold nums at hu
  obtain ⟨z, _, rfl⟩ := List.mem_map.1 hu
  rfl
theorem rwrite_dead (g n t : Nat) (x l : Int) (k : Int) (v : Value) (w : World) (h : Rb w g n t x l true) :
    Calls Try.prog 34 #[.pointer (some ⟨g, 0, none⟩), .int .i64 k, v] w fun e w' => e = .returned (.int .i64 12) ∧ w' = w := by
  have k4 := h.c4
  go_enter Try.func34, Try.ntmps34
  go_wp2
  go_ret
  exact ⟨rfl, rfl⟩
set_option maxHeartbeats 1000000 in
theorem rwrite_arg (g n t : Nat) (x l : Int) (k : Int) (a : Option Addr) (len c : Nat) (w : World) (h : Rb w g n t x l false) (hk : k < 0 ∨ (n : Int) ≤ k ∨ len ≠ 512) :
    Calls Try.prog 34 #[.pointer (some ⟨g, 0, none⟩), .int .i64 k, .slice a len c] w fun e w' => e = .returned (.int .i64 1) ∧ w' = w := by
  have k4 := h.c4
  have k0 := h.c0
  by_cases h1 : k < 0
  · have d1 : decide (k < 0) = true := decide_eq_true h1
    clear hk
    go_enter Try.func34, Try.ntmps34
    go_wp2
    go_ret
    exact ⟨rfl, rfl⟩
  have d1 : decide (k < 0) = false := decide_eq_false h1
  by_cases h2 : (n : Int) ≤ k
  · have d2 : decide ((n : Int) ≤ k) = true := decide_eq_true h2
    clear hk
    go_enter Try.func34, Try.ntmps34
    go_wp2
    go_ret
    exact ⟨rfl, rfl⟩
  have d2 : decide ((n : Int) ≤ k) = false := decide_eq_false h2
  have d3 : ((len : Int) != 512) = true := bne_iff_ne.mpr (by omega)
  clear hk
  go_enter Try.func34, Try.ntmps34
  go_wp2
  go_ret
  exact ⟨rfl, rfl⟩
set_option maxHeartbeats 1000000 in
theorem rwrite_cut (g n t : Nat) (x : Int) (k : Int) (a : Option Addr) (c : Nat) (w : World) (h : Rb w g n t x 0 false) (hk0 : 0 ≤ k) (hk1 : k < n) :
    Calls Try.prog 34 #[.pointer (some ⟨g, 0, none⟩), .int .i64 k, .slice a 512 c] w fun e w' => e = .returned (.int .i64 12) ∧ Rb w' g n t x 0 true ∧ w.grownBy w' (some g) := by
  have k4 := h.c4
  have k0 := h.c0
  have k3 := h.c3
  have f4 := h.fz 4
  have HD : Hid (Rb (w.setCell ⟨g, 4, none⟩ (.bool true)) g n t x 0 true) := h.s4 true
  have d1 : decide (k < 0) = false := decide_eq_false (by omega)
  have d2 : decide ((n : Int) ≤ k) = false := decide_eq_false (by omega)
  clear h
  go_enter Try.func34, Try.ntmps34
  go_wp2
  go_ret
  exact ⟨rfl, HD.out, only_set (only_refl _ _) _ _⟩
set_option maxHeartbeats 2000000 in
theorem rwrite_neg (g n t : Nat) (x l : Int) (K : Nat) (ad : Addr) (c : Nat) (bs : List Nat) (cs : Array Value) (w : World) (h : Rb w g n t x l false) (hT : Tb w t cs) (htg : t ≠ g) (hcs : cs.size = n) (hB : Bts w (some ad) 512 bs) (hk1 : K < n) (hn : n ≤ 16384) (hl : l < 0) (hx0 : 0 ≤ x) (hx1 : x ≤ 1000) :
    Calls Try.prog 34 #[.pointer (some ⟨g, 0, none⟩), .int .i64 K, .slice (some ad) 512 c] w fun e w' => e = .returned (.int .i64 0) ∧ ∃ q c', w.heap.size ≤ q ∧ Bts w' (some ⟨q, 0, none⟩) 512 bs ∧ Rb w' g n t (x + 1) l false ∧ Tb w' t (cs.setIfInBounds K (.slice (some ⟨q, 0, none⟩) 512 c')) ∧ Tr w w' g (some t) := by
  have k4 := h.c4
  have k0 := h.c0
  have k3 := h.c3
  have k1 := h.c1
  have d1 : decide ((K : Int) < 0) = false := decide_eq_false (by omega)
  have d2 : decide ((n : Int) ≤ K) = false := decide_eq_false (by omega)
  have d3 : (l == 0) = false := beq_eq_false_iff_ne.mpr (by omega)
  have d4 : decide (0 < l) = false := decide_eq_false (by omega)
  have HD := Lib.hid h
  have HM := Lib.hid hT
  have HB := Lib.hid hB
  obtain ⟨i0, hi, hzz⟩ := Option.map_eq_some_iff.1 info5
  simp only [Prod.mk.injEq] at hzz
  obtain ⟨hz0, hz1, hz2⟩ := hzz
  have HI := Lib.hid hi
  have HZ0 := Lib.hid hz0
  have HZ1 := Lib.hid hz1
  have HZ2 := Lib.hid hz2
  have hbl : bs.length = 512 := hB.1
  have hlen : (nums .u8 (natz bs)).length = 512 * 1 := by simp [nums, natz, hbl]
  have HLEN := Lib.hid hlen
  clear h hT hB hi hz0 hz1 hz2 hlen hbl
  go_enter Try.func34, Try.ntmps34
  go_wp2_with fail
  have hb0 : Below w.heap.size w (w.alloc (.cells #[] 5)) := (Below.refl w.heap.size w).alloc (Nat.le_refl _) _
  have HB0 := Lib.hid hb0
  have HBA := Lib.hid (HB.out.below hb0)
  have q1 := (HD.out.same (hb0.block g HD.out.lt)).c1
  clear hb0
  go_region_law (
    refine step_append_grows rfl (.tmp 51) (.tmp 52) 31 rfl 5 i0 (.int .u8 0) 1 1 Try.underlying31 HI.out HZ0.out HZ1.out HZ2.out rfl (by decide) (some ⟨w.heap.size, 0, none⟩) 0 0 [] (by simp [Act.eval, Act.put]) (fun e => by cases e) rfl (fun b e j u hu => by simp at hu) ad 512 c (nums .u8 (natz bs)) (by simp [Act.eval, Act.put]) HLEN.out HBA.out.cells (nums_one bs) (by decide) (by decide) (by decide) ?_
    intro v' w' hown hgrow
    obtain ⟨q, cap, rfl, hq⟩ := own_form hown (by decide)
    have hb' : Below w.heap.size w w' := below_grown (below_drew1 HB0.out) (Nat.le_refl _) hgrow (fun k e => by cases e)
    have hd' : Rb w' g n t x l false := HD.out.same (hb'.block g HD.out.lt)
    have hT' : Tb w' t cs := Eq.trans (hb'.block t HM.out.lt) HM.out
    have p1 := hd'.c1
    have p2 := hT'.cell K (Array.getElem?_eq_getElem (by omega))
    have pz := hT'.fz K
    have hs := only_set (only_refl w' (some t)) K (.slice (some ⟨q, 0, none⟩) 512 cap)
    have hd2 := hd'.grown hs (fun e => htg (Option.some.inj e).symm)
    have p3 := hd2.c2
    have pz3 := hd2.fz 2)
  all_goals (simp only [Exit.then]; go_at_K)
  all_goals go_wp2_with fail
  all_goals go_ret
  all_goals (
    have hq0 : w.heap.size ≤ q := Nat.le_trans HB0.out.size hq
    have hqt : t ≠ q := Nat.ne_of_lt (Nat.lt_of_lt_of_le HM.out.lt hq0)
    have hqg : g ≠ q := Nat.ne_of_lt (Nat.lt_of_lt_of_le HD.out.lt hq0)
    have hbs : Bts w' (some ⟨q, 0, none⟩) 512 bs := own_bts hown HB.out.2.2.1
    have hs2 := only_set (only_refl (w'.setCell ⟨t, K, none⟩ (.slice (some ⟨q, 0, none⟩) 512 cap)) (some g)) 2 (.int .i64 (x + 1))
    exact ⟨rfl, q, cap, hq0, (hbs.grown hs (fun ad' e _ he => by cases e; exact hqt (Option.some.inj he).symm)).grown hs2 (fun ad' e _ he => by cases e; exact hqg (Option.some.inj he).symm), hd2.s2 _, blk_grown (blk_set hT' K _) hs2 (fun e => htg (Option.some.inj e)), ((Tr.belowW (g := g) (mo := some t) hb').trans (Nx.refl _ _) (Tr.map hs)).trans (Nx.refl _ _) (Tr.of hs2)⟩)
set_option maxHeartbeats 2000000 in
theorem rwrite_pos (g n t : Nat) (x l : Int) (K : Nat) (ad : Addr) (c : Nat) (bs : List Nat) (cs : Array Value) (w : World) (h : Rb w g n t x l false) (hT : Tb w t cs) (htg : t ≠ g) (hcs : cs.size = n) (hB : Bts w (some ad) 512 bs) (hk1 : K < n) (hn : n ≤ 16384) (hl : 0 < l) (hl2 : l ≤ 9223372036854775807) (hag : ad.block ≠ g) (hx0 : 0 ≤ x) (hx1 : x ≤ 1000) :
    Calls Try.prog 34 #[.pointer (some ⟨g, 0, none⟩), .int .i64 K, .slice (some ad) 512 c] w fun e w' => e = .returned (.int .i64 0) ∧ ∃ q c', w.heap.size ≤ q ∧ Bts w' (some ⟨q, 0, none⟩) 512 bs ∧ Rb w' g n t (x + 1) (l - 1) false ∧ Tb w' t (cs.setIfInBounds K (.slice (some ⟨q, 0, none⟩) 512 c')) ∧ Tr w w' g (some t) := by
  have k4 := h.c4
  have k0 := h.c0
  have k3 := h.c3
  have k1 := h.c1
  have d1 : decide ((K : Int) < 0) = false := decide_eq_false (by omega)
  have d2 : decide ((n : Int) ≤ K) = false := decide_eq_false (by omega)
  have d3 : (l == 0) = false := beq_eq_false_iff_ne.mpr (by omega)
  have d4 : decide (0 < l) = true := decide_eq_true (by omega)
  have f3 := h.fz 3
  have HO : Hid (w.grownBy (w.setCell ⟨g, 3, none⟩ (.int .i64 (l - 1))) (some g)) := only_set (only_refl _ _) _ _
  have HD : Hid (Rb (w.setCell ⟨g, 3, none⟩ (.int .i64 (l - 1))) g n t x (l - 1) false) := h.s3 (l - 1)
  have k1' := HD.out.c1
  have HM : Hid (Tb (w.setCell ⟨g, 3, none⟩ (.int .i64 (l - 1))) t cs) := blk_grown hT HO.out (fun e => htg (Option.some.inj e))
  have HB : Hid (Bts (w.setCell ⟨g, 3, none⟩ (.int .i64 (l - 1))) (some ad) 512 bs) := hB.grown HO.out (fun ad' e _ he => by cases e; exact hag (Option.some.inj he))
  obtain ⟨i0, hi, hzz⟩ := Option.map_eq_some_iff.1 info5
  simp only [Prod.mk.injEq] at hzz
  obtain ⟨hz0, hz1, hz2⟩ := hzz
  have HI := Lib.hid hi
  have HZ0 := Lib.hid hz0
  have HZ1 := Lib.hid hz1
  have HZ2 := Lib.hid hz2
  have hbl : bs.length = 512 := hB.1
  have hlen : (nums .u8 (natz bs)).length = 512 * 1 := by simp [nums, natz, hbl]
  have HLEN := Lib.hid hlen
  clear h hT hB hi hz0 hz1 hz2 hlen hbl
  go_enter Try.func34, Try.ntmps34
  go_wp2_with fail
  generalize w.setCell ⟨g, 3, none⟩ (.int .i64 (l - 1)) = w1 at HO HD HM HB k1' ⊢
  have hb0 : Below w1.heap.size w1 (w1.alloc (.cells #[] 5)) := (Below.refl w1.heap.size w1).alloc (Nat.le_refl _) _
  have HB0 := Lib.hid hb0
  have HBA := Lib.hid (HB.out.below hb0)
  have q1 := (HD.out.same (hb0.block g HD.out.lt)).c1
  clear hb0
  go_region_law (
    refine step_append_grows rfl (.tmp 51) (.tmp 52) 31 rfl 5 i0 (.int .u8 0) 1 1 Try.underlying31 HI.out HZ0.out HZ1.out HZ2.out rfl (by decide) (some ⟨w1.heap.size, 0, none⟩) 0 0 [] (by simp [Act.eval, Act.put]) (fun e => by cases e) rfl (fun b e j u hu => by simp at hu) ad 512 c (nums .u8 (natz bs)) (by simp [Act.eval, Act.put]) HLEN.out HBA.out.cells (nums_one bs) (by decide) (by decide) (by decide) ?_
    intro v' w' hown hgrow
    obtain ⟨q, cap, rfl, hq⟩ := own_form hown (by decide)
    have hb' : Below w1.heap.size w1 w' := below_grown (below_drew1 HB0.out) (Nat.le_refl _) hgrow (fun k e => by cases e)
    have hd' : Rb w' g n t x (l - 1) false := HD.out.same (hb'.block g HD.out.lt)
    have hT' : Tb w' t cs := Eq.trans (hb'.block t HM.out.lt) HM.out
    have p1 := hd'.c1
    have p2 := hT'.cell K (Array.getElem?_eq_getElem (by omega))
    have pz := hT'.fz K
    have hs := only_set (only_refl w' (some t)) K (.slice (some ⟨q, 0, none⟩) 512 cap)
    have hd2 := hd'.grown hs (fun e => htg (Option.some.inj e).symm)
    have p3 := hd2.c2
    have pz3 := hd2.fz 2)
  all_goals (simp only [Exit.then]; go_at_K)
  all_goals go_wp2_with fail
  all_goals go_ret
  all_goals (
    have hq0 : w1.heap.size ≤ q := Nat.le_trans HB0.out.size hq
    have hqt : t ≠ q := Nat.ne_of_lt (Nat.lt_of_lt_of_le HM.out.lt hq0)
    have hqg : g ≠ q := Nat.ne_of_lt (Nat.lt_of_lt_of_le HD.out.lt hq0)
    have hbs : Bts w' (some ⟨q, 0, none⟩) 512 bs := own_bts hown HB.out.2.2.1
    have hs2 := only_set (only_refl (w'.setCell ⟨t, K, none⟩ (.slice (some ⟨q, 0, none⟩) 512 cap)) (some g)) 2 (.int .i64 (x + 1))
    exact ⟨rfl, q, cap, Nat.le_trans HO.out.size hq0, (hbs.grown hs (fun ad' e _ he => by cases e; exact hqt (Option.some.inj he).symm)).grown hs2 (fun ad' e _ he => by cases e; exact hqg (Option.some.inj he).symm), hd2.s2 _, blk_grown (blk_set hT' K _) hs2 (fun e => htg (Option.some.inj e)), (((Tr.of HO.out).trans (Nx.refl _ _) (Tr.belowW (g := g) (mo := some t) hb')).trans (Nx.refl _ _) (Tr.map hs)).trans (Nx.refl _ _) (Tr.of hs2)⟩)
set_option maxHeartbeats 1000000 in
theorem rwrite_ds (T g t n m : Nat) (av : Option Nat) (s s' : DS) (k r : Int) (a : Option Addr) (len c : Nat) (ys : List Nat) (w : World) (h : Rd w T av g t n s) (hok : s.ok m) (hB : Bts w a len ys) (hn : n ≤ 16384) (hT : T ≤ w.heap.size) (hav : ∀ p, av = some p → p < w.heap.size)
    (hag : 0 < len → ∀ ad, a = some ad → ad.block ≠ g) (hm : m ≤ 999) (hrs : Hid (s.wr n k len ys = (r, s'))) :
    Calls Try.prog 34 #[.pointer (some ⟨g, 0, none⟩), .int .i64 k, .slice a len c] w fun e w' => e = .returned (.int .i64 r) ∧ Rd w' T av g t n s' ∧ Tr w w' g (some t) := by
  have e := hrs.out
  obtain ⟨hx0, hx1, hl0, hl1⟩ := hok
  have hd := h.1
  unfold DS.wr at e
  by_cases h1 : s.d = true
  · rw [if_pos h1] at e
    injection e with e1 e2
    subst e1 e2
    rw [h1] at hd
    refine (rwrite_dead g n t _ _ k _ w hd).mono ?_
    rintro e w' ⟨rfl, rfl⟩
    exact ⟨rfl, h, Tr.refl _ _ _⟩
  rw [if_neg h1] at e
  have h1' : s.d = false := by cases hq : s.d <;> simp_all
  rw [h1'] at hd
  by_cases h2 : k < 0 ∨ (n : Int) ≤ k ∨ len ≠ 512
  · rw [if_pos h2] at e
    injection e with e1 e2
    subst e1 e2
    refine (rwrite_arg g n t _ _ k a len c w hd h2).mono ?_
    rintro e w' ⟨rfl, rfl⟩
    exact ⟨rfl, h, Tr.refl _ _ _⟩
  rw [if_neg h2] at e
  obtain ⟨k0, k1, k2⟩ : 0 ≤ k ∧ k < n ∧ len = 512 := by omega
  subst k2
  by_cases h3 : s.l = 0
  · rw [if_pos h3] at e
    injection e with e1 e2
    subst e1 e2
    rw [h3] at hd
    refine (rwrite_cut g n t _ k a c w hd k0 k1).mono ?_
    rintro e w' ⟨rfl, hd', ho⟩
    exact ⟨rfl, h.set (s' := ⟨s.x, s.l, true, s.f⟩) (by dsimp only; rw [h3]; exact hd') ho rfl, Tr.of ho⟩
  rw [if_neg h3] at e
  injection e with e1 e2
  obtain ⟨_, hg, hb, hbg, cs, hM, hcs, hF⟩ := id h
  obtain ⟨K, rfl⟩ : ∃ K : Nat, k = K := ⟨k.toNat, by omega⟩
  have hK : K < n := by omega
  obtain ⟨ad, rfl, _⟩ := hB.2.2.2 0 (by decide)
  by_cases h4 : 0 < s.l
  · rw [if_pos h4] at e2
    subst e1 e2
    refine (rwrite_pos g n t _ _ K ad c ys cs w hd hM hbg hcs hB hK hn h4 hl1 (hag (by decide) ad rfl) hx0 (by omega)).mono ?_
    rintro e w' ⟨rfl, q, c', hq, ho, hd', hm', ht⟩
    exact ⟨rfl, h.put hcs hF hd' hm' hq ho ht hT hav rfl, ht⟩
  · rw [if_neg h4] at e2
    subst e1 e2
    refine (rwrite_neg g n t _ _ K ad c ys cs w hd hM hbg hcs hB hK hn (by omega) hx0 (by omega)).mono ?_
    rintro e w' ⟨rfl, q, c', hq, ho, hd', hm', ht⟩
    exact ⟨rfl, h.put hcs hF hd' hm' hq ho ht hT hav rfl, ht⟩
end Go.Proofs.Ytapoeegnnkfgiaa
