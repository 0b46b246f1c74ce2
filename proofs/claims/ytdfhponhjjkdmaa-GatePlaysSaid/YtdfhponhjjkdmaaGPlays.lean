/- GatePlays: the walk; no condition. -/
import Derived.Test.YtdfhponhjjkdmaaGSt
import Derived.Test.YtdfhponhjjkdmaaBytes
set_option linter.unusedVariables false
set_option linter.unusedSimpArgs false
namespace Go.Proofs.Ytdfhponhjjkdmaa
open Go.ChangeShapes Go.WideShapes Go.RowKit Go.Deep Go.Proofs.YtdfhponhjjkdmaaW.PrintWords

/-- Each call of a slice of calls: where its fields stand. -/
def Cls (w : World) (a : Option Addr) (n : Nat) : Prop :=
  ∀ k, k < n → ∃ ad, a = some ad ∧ ad.block < w.heap.size ∧ ∃ (b : Bool) (key nm : ByteArray), key.size ≤ maxLen ∧ nm.size ≤ maxLen ∧ w.cell? (ad.add (k * 3)) = some (.bool b) ∧ w.cell? ⟨(ad.add (k * 3)).block, (ad.add (k * 3)).off + 1, none⟩ = some (.string key) ∧ w.cell? ⟨(ad.add (k * 3)).block, (ad.add (k * 3)).off + 2, none⟩ = some (.string nm)
/-- Two rows that lie apart. -/
def Ap (v u : Value) : Prop := ∀ k, v.ownBlock = some k → u.ownBlock ≠ some k
theorem info9 : (Try.prog.info? 9).map (fun i => (i.zero, i.size, i.bytes)) = some (some (.string ByteArray.empty), 1, 16) := by kernel_rfl
section
variable {ops : Array Oper} {rest : List Oper} {o : Oper} {a : Act} {Q : Exit → Act → World → Prop}
theorem app_str {w0 w : World} (B : Nat) (hB0 : B ≤ w0.heap.size) (hgd : o.guard = none) (s x : Operand) (ho : o.op = .call { callee := .builtin .append, args := #[s, x], argTypes := #[37, 37] })
    (v : Value) (xs : List ByteArray) (y : ByteArray) (hs : a.eval s = v) (hx : a.eval x = .slice (some ⟨w.heap.size, 0, none⟩) 1 1) (HO : OwnS w B v xs) (HB : Below B w0 w) (hl : xs.length ≤ 1000)
    (h : ∀ A1 n1 c1 w1, n1 = xs.length + 1 → OwnS w1 B (.slice A1 n1 c1) (xs ++ [y]) → Below B w0 w1 → w.grownBy w1 v.ownBlock → Fresh (.slice A1 n1 c1) v w.heap.size → wpList Try.prog ops Q rest (a.put o.dst (.slice A1 n1 c1)) w1) :
    wpList Try.prog ops Q (o :: rest) a (w.alloc (.cells #[.string y] 9)) := by
  have hpl : (pw_strs xs).length = xs.length := by simp [pw_strs]
  refine print_append (w0 := w0) B hgd s x 37 9 (.string ByteArray.empty) 16 ho Try.underlying37 info9 rfl (by decide) v (pw_strs xs) (.string y) hs hx rfl (by rw [hpl]; exact HO) HB (Nat.le_trans hB0 HB.size) (by rw [hpl]; omega) ?_
  intro v1 w1 ho1 hb1 hg1 hf1
  have e1 : pw_strs xs ++ [.string y] = pw_strs (xs ++ [y]) := by simp [pw_strs]
  have e2 : (pw_strs (xs ++ [y])).length = (xs ++ [y]).length := by simp [pw_strs]
  rw [e1, e2] at ho1
  obtain ⟨A1, c1, e⟩ := own_slice ho1
  subst e
  exact h A1 _ c1 w1 (by simp) ho1 hb1 hg1 hf1
end
theorem Ap.left {w : World} {B : Nat} {v v1 u : Value} {ys : List ByteArray} (h : Ap v u) (hu : OwnS w B u ys) (hf : Fresh v1 v w.heap.size) : Ap v1 u := by
  intro k hk hk2
  rcases hf with e | ⟨b, e, hb⟩
  · exact h k (e ▸ hk) hk2
  · rw [e] at hk
    injection hk with hk
    have := hu.lt k hk2
    omega
theorem Ap.right {w : World} {B : Nat} {v u u1 : Value} {xs : List ByteArray} (h : Ap v u) (hv : OwnS w B v xs) (hf : Fresh u1 u w.heap.size) : Ap v u1 := by
  intro k hk hk2
  rcases hf with e | ⟨b, e, hb⟩
  · exact h k hk (e ▸ hk2)
  · rw [e] at hk2
    injection hk2 with hk2
    have := hv.lt k hk
    omega
theorem Ap.ne {v u : Value} (h : Ap v u) : u.ownBlock = none ∨ u.ownBlock ≠ v.ownBlock := by
  rcases e : u.ownBlock with _ | k
  · exact .inl rfl
  · exact .inr (fun e2 => h k e2.symm e)
theorem Ap.ne' {v u : Value} (h : Ap v u) : v.ownBlock = none ∨ v.ownBlock ≠ u.ownBlock := by
  rcases e : v.ownBlock with _ | k
  · exact .inl rfl
  · exact .inr (fun e2 => h k e e2.symm)
theorem below_drewN {B : Nat} {a w : World} (h : Below B a w) (n : Nat) : Below B a (w.drewN n) := ⟨h.os, h.tape, h.output, h.size, h.block⟩

set_option maxRecDepth 100000 in
set_option maxHeartbeats 4000000 in
theorem gplays_walk (adm : ByteArray) (a1 : Option Addr) (len1 cap1 : Nat) (W : World) (hadm : adm.size ≤ 140737488351232) (hR : Cls W a1 len1) (hlen : len1 ≤ 9223372036854775807) :
    Calls Try.prog 6 #[.string adm, .slice a1 len1 cap1] W fun e W' => e = .returned (.bool true) ∧ Below W.heap.size W W' := by
  have HR := Lib.hid hR
  clear hR
  by_cases hbig : 300 < adm.size
  · have d1 : decide (300 < (adm.size : Int)) = true := decide_eq_true (by omega)
    go_enter Try.func6, Try.ntmps6
    go_wp2_with (first
      | (go_at_call 14; refine (gknown_any _).mono ?_; rintro e w1 ⟨rfl, hw1⟩; have HW1 := Lib.hid hw1; clear hw1))
    go_ret
    exact ⟨rfl, HW1.out⟩
  have d1 : decide (300 < (adm.size : Int)) = false := decide_eq_false (by omega)
  go_enter Try.func6, Try.ntmps6
  go_wp2_with (first
    | (go_at_call 14; refine (gknown_any _).mono ?_; rintro e w1 ⟨rfl, hw1⟩; have HW1 := Lib.hid hw1; clear hw1)
    | (go_at_call 15; refine (gnew _ _).mono ?_; rintro e w2 ⟨g, rfl, hg1, hs1, hb2⟩; have HQ2 : Hid (Below W.heap.size W w2) := below_then' HW1.out hb2 HW1.out.size; have HS2 := Lib.hid hs1; have gE : W.heap.size ≤ g := Nat.le_trans HW1.out.size (Nat.le_of_eq hg1); clear hs1 hb2 HW1 hg1))
  clear d1 hbig
  go_loopw [6, 7, 8, 9, 10] (fun vK vN vx vy i w => ∃ (k n nk : Nat) (mo : Option Nat) (f : ByteArray → Option ByteArray) (x y : Int) (xs ys : List ByteArray) (AK AN : Option Addr) (cK cN : Nat), k ≤ 60 ∧ n ≤ k ∧ nk ≤ k ∧ i = .int .i64 k ∧ vK = .slice AK nk cK ∧ vN = .slice AN nk cN ∧ vx = .int .i64 x ∧ vy = .int .i64 y ∧ 0 ≤ x ∧ x ≤ k ∧ 0 ≤ y ∧ y ≤ k ∧ Hid (xs.length = nk) ∧ Hid (Rel f xs ys) ∧ Hid (Gs w g mo adm n f x y) ∧ Hid (OwnS w W.heap.size (.slice AK nk cK) xs) ∧ Hid (OwnS w W.heap.size (.slice AN nk cN) ys) ∧ Hid (Ap (.slice AK nk cK) (.slice AN nk cN)) ∧ Hid (∀ b, mo = some b → W.heap.size ≤ b) ∧ Hid (Below W.heap.size W w)) (fun _ _ _ _ i _ => (60 - intOf i).toNat)
  case atStart => exact ⟨0, 0, 0, none, noneS, 0, 0, [], [], none, none, 0, 0, by omega, by omega, by omega, rfl, rfl, rfl, rfl, rfl, by omega, by omega, by omega, by omega, rfl, Rel.nil, HS2, own_nil _ _ _ _, own_nil _ _ _ _, fun k h => (by simp [Value.ownBlock] at h), fun b h => (by cases h), HQ2⟩
  case round =>
    clear HS2 HQ2
    obtain ⟨k, n, nk, mo, f, x, y, xs, ys, AK, AN, cK, cN, hk, hn, hnk, rfl, rfl, rfl, rfl, rfl, hx0, hx1, hy0, hy1, HL, HRel, HG, HK, HN, HAp, HMo, HQ⟩ := hrel
    by_cases hlt1 : k < len1
    · by_cases hlt2 : k < 60
      · have d60 : decide ((k : Int) < 60) = true := decide_eq_true (by omega)
        obtain ⟨ad, rfl, hblk, b, key, nm, hks, hns, hc0, hc1, hc2⟩ := HR.out k hlt1
        replace hc0 := (HQ.out.cell (p := ad.add (k * 3)) (by rw [add_block]; exact hblk)).trans hc0
        replace hc1 := (HQ.out.cell (p := ⟨(ad.add (k * 3)).block, (ad.add (k * 3)).off + 1, none⟩) (by show (ad.add (k * 3)).block < _; rw [add_block]; exact hblk)).trans hc1
        replace hc2 := (HQ.out.cell (p := ⟨(ad.add (k * 3)).block, (ad.add (k * 3)).off + 2, none⟩) (by show (ad.add (k * 3)).block < _; rw [add_block]; exact hblk)).trans hc2
        have HBA : Hid (Below wr.heap.size wr (wr.alloc (.cells #[.bool b, .string key, .string nm] 39))) := (Below.refl _ _).alloc (Nat.le_refl _) _
        have HC : Hid (Cb (wr.alloc (.cells #[.bool b, .string key, .string nm] 39)) wr.heap.size b key nm) := blk_new _ _
        have HQA : Hid (Below W.heap.size W (wr.alloc (.cells #[.bool b, .string key, .string nm] 39))) := HQ.out.alloc HQ.out.size _
        have HGA := Lib.hid (HG.out.belowW HBA.out)
        have HKA : Hid (OwnS (wr.alloc (.cells #[.bool b, .string key, .string nm] 39)) W.heap.size (.slice AK nk cK) xs) := World.ownsRow.alloc HK.out _
        have HNA : Hid (OwnS (wr.alloc (.cells #[.bool b, .string key, .string nm] 39)) W.heap.size (.slice AN nk cN) ys) := World.ownsRow.alloc HN.out _
        have k0 := HC.out.c0
        have k1 := HC.out.c1
        have k2 := HC.out.c2
        by_cases hbig : 500 < wrap64 ((key.size : Int) + nm.size)
        · have d5 : decide (500 < wrap64 ((key.size : Int) + nm.size)) = true := decide_eq_true hbig
          go_wp2
          go_round
          case rel => exact ⟨k + 1, n, nk, mo, f, x, y, xs, ys, AK, AN, cK, cN, by omega, by omega, by omega, by go_num, rfl, rfl, rfl, rfl, hx0, by omega, hy0, by omega, HL, HRel, HGA, HKA, HNA, HAp, HMo, HQA⟩
          case measure => simp [intOf]; omega
        · have d5 : decide (500 < wrap64 ((key.size : Int) + nm.size)) = false := decide_eq_false hbig
          go_wp2
          generalize wr.alloc (.cells #[.bool b, .string key, .string nm] 39) = wa at HC HQA HGA HKA HNA ⊢
          generalize wr.heap.size = sz at HC ⊢
          clear k0 k1 k2 hc0 hc1 hc2 HBA HG HK HN HQ d5 hbig
          go_loopw [12, 13] (fun va vj w => ∃ j : Nat, j ≤ nk ∧ vj = .int .i64 j ∧ va = .int .i64 (lastAt xs key j) ∧ Hid (Cb w sz b key nm) ∧ Hid (Gs w g mo adm n f x y) ∧ Hid (OwnS w W.heap.size (.slice AK nk cK) xs) ∧ Hid (OwnS w W.heap.size (.slice AN nk cN) ys) ∧ Hid (Below W.heap.size W w)) (fun _ vj _ => (60 - intOf vj).toNat)
          case atStart => exact ⟨0, by omega, rfl, rfl, HC, HGA, HKA, HNA, HQA⟩
          case round =>
            clear HC HGA HKA HNA HQA
            obtain ⟨j, hj, rfl, rfl, HC, HG, HK, HN, HQ⟩ := hrel
            by_cases hjl : j < nk
            · obtain ⟨adk, rfl, kc⟩ := HK.out.cell j hjl
              have k1 := HC.out.c1
              have hla : lastAt xs key (j + 1) = if xs.getD j ByteArray.empty = key then (j : Int) else lastAt xs key j := rfl
              generalize xs.getD j ByteArray.empty = kj at kc hla
              by_cases he : kj = key
              · subst he
                rw [if_pos rfl] at hla
                have HLa := Lib.hid hla
                clear hla
                go_wp2
                go_quiet (fail)
                go_wp2
                go_round
                case rel => exact ⟨j + 1, by omega, by go_num, by rw [HLa.out], HC, HG, HK, HN, below_drewN HQ.out _⟩
                case measure => simp [intOf]; omega
              · rw [if_neg he] at hla
                have HLa := Lib.hid hla
                have hne := str_ne he
                clear hla
                go_wp2
                go_quiet (fail)
                go_wp2
                go_round
                case rel => exact ⟨j + 1, by omega, by go_num, by rw [HLa.out], HC, HG, HK, HN, below_drewN HQ.out _⟩
                case measure => simp [intOf]; omega
            · obtain rfl : j = nk := by omega
              have hLx := HL.out
              obtain ⟨A, hA⟩ : ∃ A, lastAt xs key j = A := ⟨_, rfl⟩
              have bA := lastAt_bd xs key j
              rw [hA] at bA
              obtain ⟨bA1, bA2⟩ := bA
              have hf1 : A < 0 → f key = none := by have h := (HRel.out.2 key).1; rw [hLx, hA] at h; exact h
              have hf2 : 0 ≤ A → f key = some (ys.getD A.toNat ByteArray.empty) := by have h := (HRel.out.2 key).2; rw [hLx, hA] at h; exact h
              have HF1 := Lib.hid hf1
              have HF2 := Lib.hid hf2
              have hLy : ys.length = j := by rw [HRel.out.1, hLx]
              have HLy := Lib.hid hLy
              have hxl : xs.length ≤ 1000 := by omega
              have hyl : ys.length ≤ 1000 := by omega
              have HX1 := Lib.hid hxl
              have HY1 := Lib.hid hyl
              rw [hA]
              clear hA hf1 hf2 hLx hLy hxl hyl
              rcases b with _ | _
              · have k0 := HC.out.c0
                have k1 := HC.out.c1
                by_cases hka : key = adm
                · subst hka
                  go_wp2_with (first
                    | (go_at_call 18; refine (who_adm g mo _ n f x y key _ HG.out hks hx0 (by omega) hy0 (by omega) rfl).mono ?_; rintro e w2 ⟨rfl, m2, hn2, hs2, ht2⟩; have HG2 := Lib.hid hs2; have HK2 := Lib.hid (HK.out.step HG.out ht2); have HV2 := Lib.hid (HN.out.step HG.out ht2); have HC2 := Lib.hid (HC.out.step HG.out ht2); have HMo2 := Lib.hid (hn2.le HQ.out.size HMo.out); have HQ2 := Lib.hid (Tr.below HQ.out ht2 HQ.out.size gE HMo.out); have k12 := HC2.out.c1; clear hn2 hs2 ht2)
                    | (go_at_call 19; refine (asked_any _ _ _ _ _ _ _ _ HG2.out).mono ?_; rintro e w6 ⟨rfl, rfl⟩)
                    | (go_at_call 20; refine (refused_any _ _ _ _ _ _ _ _ HG2.out).mono ?_; rintro e w6 ⟨rfl, rfl⟩))
                  go_round
                  case rel => exact ⟨k + 1, n, j, m2, f, x + 1, y, xs, ys, AK, _, cK, cN, by omega, by omega, by omega, by go_num, rfl, rfl, rfl, rfl, by omega, by omega, by omega, by omega, HL, HRel, HG2, HK2, HV2, HAp, HMo2, HQ2⟩
                  case measure => simp [intOf]; omega
                have hkn := str_ne hka
                by_cases hA0 : 0 ≤ A
                · obtain ⟨q, rfl⟩ : ∃ q : Nat, A = (q : Int) := ⟨A.toNat, by omega⟩
                  have hfs := HF2.out hA0
                  rw [Int.toNat_natCast] at hfs
                  have hqj : q < j := by omega
                  have dA : decide (0 ≤ (q : Int)) = true := decide_eq_true hA0
                  have HFS := Lib.hid hfs
                  clear hfs
                  go_wp2_with (first
                    | (go_at_call 18; refine (who_some g mo adm n f x y key _ _ HG.out hks hx0 (by omega) hy0 (by omega) hka HFS.out).mono ?_; rintro e w2 ⟨rfl, m2, hn2, hs2, ht2⟩; have HG2 := Lib.hid hs2; have HK2 := Lib.hid (HK.out.step HG.out ht2); have HV2 := Lib.hid (HN.out.step HG.out ht2); have HC2 := Lib.hid (HC.out.step HG.out ht2); have HMo2 := Lib.hid (hn2.le HQ.out.size HMo.out); have HQ2 := Lib.hid (Tr.below HQ.out ht2 HQ.out.size gE HMo.out); have k12 := HC2.out.c1; obtain ⟨adn, hadn, kn⟩ := HV2.out.cell q hqj; subst hadn; clear hn2 hs2 ht2)
                    | (go_at_call 19; refine (asked_any _ _ _ _ _ _ _ _ HG2.out).mono ?_; rintro e w6 ⟨rfl, rfl⟩)
                    | (go_at_call 20; refine (refused_any _ _ _ _ _ _ _ _ HG2.out).mono ?_; rintro e w6 ⟨rfl, rfl⟩))
                  go_round
                  case rel => exact ⟨k + 1, n, j, m2, f, x + 1, y, xs, ys, AK, _, cK, cN, by omega, by omega, by omega, by go_num, rfl, rfl, rfl, rfl, by omega, by omega, by omega, by omega, HL, HRel, HG2, HK2, HV2, HAp, HMo2, HQ2⟩
                  case measure => simp [intOf]; omega
                · have hfs := HF1.out (by omega)
                  have HFS := Lib.hid hfs
                  have dA : decide (0 ≤ A) = false := decide_eq_false hA0
                  clear hfs
                  go_wp2_with (first
                    | (go_at_call 18; refine (who_none g mo adm n f x y key _ HG.out hks hx0 (by omega) hy0 (by omega) hka HFS.out).mono ?_; rintro e w2 ⟨rfl, m2, hn2, hs2, ht2⟩; have HG2 := Lib.hid hs2; have HK2 := Lib.hid (HK.out.step HG.out ht2); have HV2 := Lib.hid (HN.out.step HG.out ht2); have HC2 := Lib.hid (HC.out.step HG.out ht2); have HMo2 := Lib.hid (hn2.le HQ.out.size HMo.out); have HQ2 := Lib.hid (Tr.below HQ.out ht2 HQ.out.size gE HMo.out); have k12 := HC2.out.c1; clear hn2 hs2 ht2)
                    | (go_at_call 19; refine (asked_any _ _ _ _ _ _ _ _ HG2.out).mono ?_; rintro e w6 ⟨rfl, rfl⟩)
                    | (go_at_call 20; refine (refused_any _ _ _ _ _ _ _ _ HG2.out).mono ?_; rintro e w6 ⟨rfl, rfl⟩))
                  go_round
                  case rel => exact ⟨k + 1, n, j, m2, f, x + 1, y + 1, xs, ys, AK, _, cK, cN, by omega, by omega, by omega, by go_num, rfl, rfl, rfl, rfl, by omega, by omega, by omega, by omega, HL, HRel, HG2, HK2, HV2, HAp, HMo2, HQ2⟩
                  case measure => simp [intOf]; omega
              · obtain ⟨N1, hN1⟩ : ∃ b, nameB key = b := ⟨_, rfl⟩
                obtain ⟨N2, hN2⟩ : ∃ b, nameB nm = b := ⟨_, rfl⟩
                have HN1 := Lib.hid hN1
                have HN2 := Lib.hid hN2
                clear hN1 hN2
                have k0 := HC.out.c0
                have k1 := HC.out.c1
                have k2 := HC.out.c2
                rcases N1 with _ | _
                · have HE : Hid (addE adm key nm f = 1) := by show addE adm key nm f = 1; unfold addE; rw [if_pos (.inl HN1.out)]
                  have HF : Hid (addF adm key nm f = f) := by show addF adm key nm f = f; unfold addF; rw [if_neg (by rw [HE.out]; decide)]
                  go_wp2_with (first
                    | (go_at_call_has 16 (Value.string key); refine (rname_at key _ hks HN1 _).mono ?_; rintro e w6 ⟨rfl, rfl⟩)
                    | (go_at_call_has 16 (Value.string nm); refine (rname_at nm _ hns HN2 _).mono ?_; rintro e w6 ⟨rfl, rfl⟩)
                    | (go_at_call 17; refine (gadd_at g mo _ n f _ _ x y key nm _ HG.out hks hns (by unfold maxLen; omega) HE HF).mono ?_; rintro e w2 ⟨rfl, m2, hn2, hs2, ht2⟩; have HG2 := Lib.hid hs2; have HK2 := Lib.hid (HK.out.step HG.out ht2); have HV2 := Lib.hid (HN.out.step HG.out ht2); have HC2 := Lib.hid (HC.out.step HG.out ht2); have HMo2 := Lib.hid (hn2.le HQ.out.size HMo.out); have HQ2 := Lib.hid (Tr.below HQ.out ht2 HQ.out.size gE HMo.out); have k12 := HC2.out.c1; have k22 := HC2.out.c2; clear hn2 hs2 ht2))
                  go_round
                  case rel => exact ⟨k + 1, n + 1, j, m2, f, x, y, xs, ys, AK, AN, cK, cN, by omega, by omega, by omega, by go_num, rfl, rfl, rfl, rfl, hx0, by omega, hy0, by omega, HL, HRel, HG2, HK2, HV2, HAp, HMo2, HQ2⟩
                  case measure => simp [intOf]; omega
                rcases N2 with _ | _
                · have HE : Hid (addE adm key nm f = 1) := by show addE adm key nm f = 1; unfold addE; rw [if_pos (.inr HN2.out)]
                  have HF : Hid (addF adm key nm f = f) := by show addF adm key nm f = f; unfold addF; rw [if_neg (by rw [HE.out]; decide)]
                  go_wp2_with (first
                    | (go_at_call_has 16 (Value.string key); refine (rname_at key _ hks HN1 _).mono ?_; rintro e w6 ⟨rfl, rfl⟩)
                    | (go_at_call_has 16 (Value.string nm); refine (rname_at nm _ hns HN2 _).mono ?_; rintro e w6 ⟨rfl, rfl⟩)
                    | (go_at_call 17; refine (gadd_at g mo _ n f _ _ x y key nm _ HG.out hks hns (by unfold maxLen; omega) HE HF).mono ?_; rintro e w2 ⟨rfl, m2, hn2, hs2, ht2⟩; have HG2 := Lib.hid hs2; have HK2 := Lib.hid (HK.out.step HG.out ht2); have HV2 := Lib.hid (HN.out.step HG.out ht2); have HC2 := Lib.hid (HC.out.step HG.out ht2); have HMo2 := Lib.hid (hn2.le HQ.out.size HMo.out); have HQ2 := Lib.hid (Tr.below HQ.out ht2 HQ.out.size gE HMo.out); have k12 := HC2.out.c1; have k22 := HC2.out.c2; clear hn2 hs2 ht2))
                  go_round
                  case rel => exact ⟨k + 1, n + 1, j, m2, f, x, y, xs, ys, AK, AN, cK, cN, by omega, by omega, by omega, by go_num, rfl, rfl, rfl, rfl, hx0, by omega, hy0, by omega, HL, HRel, HG2, HK2, HV2, HAp, HMo2, HQ2⟩
                  case measure => simp [intOf]; omega
                have HNN : Hid (¬ (nameB key = false ∨ nameB nm = false)) := by show ¬ (nameB key = false ∨ nameB nm = false); rw [HN1.out, HN2.out]; simp
                by_cases hka : key = adm
                · have HE : Hid (addE adm key nm f = 7) := by show addE adm key nm f = 7; unfold addE; rw [if_neg HNN.out, if_pos (.inr hka)]
                  have HF : Hid (addF adm key nm f = f) := by show addF adm key nm f = f; unfold addF; rw [if_neg (by rw [HE.out]; decide)]
                  subst hka
                  go_wp2_with (first
                    | (go_at_call_has 16 (Value.string key); refine (rname_at key _ hks HN1 _).mono ?_; rintro e w6 ⟨rfl, rfl⟩)
                    | (go_at_call_has 16 (Value.string nm); refine (rname_at nm _ hns HN2 _).mono ?_; rintro e w6 ⟨rfl, rfl⟩)
                    | (go_at_call 17; refine (gadd_at g mo _ n f _ _ x y key nm _ HG.out hks hns (by unfold maxLen; omega) HE HF).mono ?_; rintro e w2 ⟨rfl, m2, hn2, hs2, ht2⟩; have HG2 := Lib.hid hs2; have HK2 := Lib.hid (HK.out.step HG.out ht2); have HV2 := Lib.hid (HN.out.step HG.out ht2); have HC2 := Lib.hid (HC.out.step HG.out ht2); have HMo2 := Lib.hid (hn2.le HQ.out.size HMo.out); have HQ2 := Lib.hid (Tr.below HQ.out ht2 HQ.out.size gE HMo.out); have k12 := HC2.out.c1; have k22 := HC2.out.c2; clear hn2 hs2 ht2))
                  go_round
                  case rel => exact ⟨k + 1, n + 1, j, m2, f, x, y, xs, ys, AK, AN, cK, cN, by omega, by omega, by omega, by go_num, rfl, rfl, rfl, rfl, hx0, by omega, hy0, by omega, HL, HRel, HG2, HK2, HV2, HAp, HMo2, HQ2⟩
                  case measure => simp [intOf]; omega
                have hkn := str_ne hka
                by_cases hA0 : 0 ≤ A
                · have HE : Hid (addE adm key nm f = 7) := by show addE adm key nm f = 7; unfold addE; rw [if_neg HNN.out, if_pos (.inl (by rw [HF2.out hA0]; rfl))]
                  have HF : Hid (addF adm key nm f = f) := by show addF adm key nm f = f; unfold addF; rw [if_neg (by rw [HE.out]; decide)]
                  have dA : decide (0 ≤ A) = true := decide_eq_true hA0
                  go_wp2_with (first
                    | (go_at_call_has 16 (Value.string key); refine (rname_at key _ hks HN1 _).mono ?_; rintro e w6 ⟨rfl, rfl⟩)
                    | (go_at_call_has 16 (Value.string nm); refine (rname_at nm _ hns HN2 _).mono ?_; rintro e w6 ⟨rfl, rfl⟩)
                    | (go_at_call 17; refine (gadd_at g mo _ n f _ _ x y key nm _ HG.out hks hns (by unfold maxLen; omega) HE HF).mono ?_; rintro e w2 ⟨rfl, m2, hn2, hs2, ht2⟩; have HG2 := Lib.hid hs2; have HK2 := Lib.hid (HK.out.step HG.out ht2); have HV2 := Lib.hid (HN.out.step HG.out ht2); have HC2 := Lib.hid (HC.out.step HG.out ht2); have HMo2 := Lib.hid (hn2.le HQ.out.size HMo.out); have HQ2 := Lib.hid (Tr.below HQ.out ht2 HQ.out.size gE HMo.out); have k12 := HC2.out.c1; have k22 := HC2.out.c2; clear hn2 hs2 ht2))
                  go_round
                  case rel => exact ⟨k + 1, n + 1, j, m2, f, x, y, xs, ys, AK, AN, cK, cN, by omega, by omega, by omega, by go_num, rfl, rfl, rfl, rfl, hx0, by omega, hy0, by omega, HL, HRel, HG2, HK2, HV2, HAp, HMo2, HQ2⟩
                  case measure => simp [intOf]; omega
                · have HE : Hid (addE adm key nm f = 0) := by show addE adm key nm f = 0; unfold addE; rw [if_neg HNN.out, if_neg (by rw [HF1.out (by omega)]; simp; exact hka)]
                  have HF : Hid (addF adm key nm f = updS f key nm) := by show addF adm key nm f = _; unfold addF; rw [if_pos HE.out]
                  have dA : decide (0 ≤ A) = false := decide_eq_false hA0
                  go_wp2_with (first
                    | (go_at_call_has 16 (Value.string key); refine (rname_at key _ hks HN1 _).mono ?_; rintro e w6 ⟨rfl, rfl⟩)
                    | (go_at_call_has 16 (Value.string nm); refine (rname_at nm _ hns HN2 _).mono ?_; rintro e w6 ⟨rfl, rfl⟩)
                    | (go_at_call 17; refine (gadd_at g mo _ n f _ _ x y key nm _ HG.out hks hns (by unfold maxLen; omega) HE HF).mono ?_; rintro e w2 ⟨rfl, m2, hn2, hs2, ht2⟩; have HG2 := Lib.hid hs2; have HK2 := Lib.hid (HK.out.step HG.out ht2); have HV2 := Lib.hid (HN.out.step HG.out ht2); have HC2 := Lib.hid (HC.out.step HG.out ht2); have HMo2 := Lib.hid (hn2.le HQ.out.size HMo.out); have HQ2 := Lib.hid (Tr.below HQ.out ht2 HQ.out.size gE HMo.out); have k12 := HC2.out.c1; have k22 := HC2.out.c2; clear hn2 hs2 ht2)
                    | (at_builtin; refine app_str (w0 := W) W.heap.size (Nat.le_refl _) rfl (.tmp 91) (.tmp 94) rfl (.slice AK j cK) xs key rfl rfl HK2.out HQ2.out HX1.out ?_; intro A1 n1 c1 w7 hn1 ho1 hb1 hg1 hf1; have HK3 := Lib.hid ho1; have HQ3 := Lib.hid hb1; have HG3 := Lib.hid (HG2.out.grown hg1 (HG2.out.own_ne HK2.out).1 (HG2.out.own_ne HK2.out).2); have HV3 := Lib.hid (HV2.out.grown hg1 HAp.out.ne); have HC3 := Lib.hid (HC2.out.grown hg1 (HC2.out.own_ne HK2.out)); have HAp3 := Lib.hid (HAp.out.left HV2.out hf1); have HNa := Lib.hid hn1; have k23 := HC3.out.c2; clear hn1 ho1 hb1 hg1 hf1)
                    | (at_builtin; refine app_str (w0 := W) W.heap.size (Nat.le_refl _) rfl (.tmp 96) (.tmp 99) rfl (.slice AN j cN) ys nm rfl rfl HV3.out HQ3.out HY1.out ?_; intro A2 n2 c2 w8 hn2 ho2 hb2 hg2 hf2; have HV4 := Lib.hid ho2; have HQ4 := Lib.hid hb2; have HG4 := Lib.hid (HG3.out.grown hg2 (HG3.out.own_ne HV3.out).1 (HG3.out.own_ne HV3.out).2); have HK4 := Lib.hid (HK3.out.grown hg2 HAp3.out.ne'); have HAp4 := Lib.hid (HAp3.out.right HK3.out hf2); have HNb := Lib.hid hn2; clear hn2 ho2 hb2 hg2 hf2))
                  obtain rfl : n1 = j + 1 := by rw [HNa.out, HL.out]
                  obtain rfl : n2 = j + 1 := by rw [HNb.out, HLy.out]
                  clear HNa HNb
                  have HLL : Hid ((xs ++ [key]).length = j + 1) := by show (xs ++ [key]).length = j + 1; rw [List.length_append, HL.out]; rfl
                  go_round
                  case rel => exact ⟨k + 1, n + 1, j + 1, m2, updS f key nm, x, y, xs ++ [key], ys ++ [nm], A1, A2, c1, c2, by omega, by omega, by omega, by go_num, rfl, rfl, rfl, rfl, hx0, by omega, hy0, by omega, HLL, HRel.out.add key nm, HG4, HK4, HV4, HAp4, HMo2, HQ4⟩
                  case measure => simp [intOf]; omega
      · obtain rfl : k = 60 := by omega
        go_wp2_with (first
          | (go_at_call 19; refine (asked_any _ _ _ _ _ _ _ _ HG.out).mono ?_; rintro e w6 ⟨rfl, rfl⟩)
          | (go_at_call 20; refine (refused_any _ _ _ _ _ _ _ _ HG.out).mono ?_; rintro e w6 ⟨rfl, rfl⟩))
        go_ret
        exact ⟨rfl, HQ.out⟩
    · go_wp2_with (first
        | (go_at_call 19; refine (asked_any _ _ _ _ _ _ _ _ HG.out).mono ?_; rintro e w6 ⟨rfl, rfl⟩)
        | (go_at_call 20; refine (refused_any _ _ _ _ _ _ _ _ HG.out).mono ?_; rintro e w6 ⟨rfl, rfl⟩))
      go_ret
      exact ⟨rfl, HQ.out⟩
end Go.Proofs.Ytdfhponhjjkdmaa
