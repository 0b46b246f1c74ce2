/- A Gate's Who, its example; no condition. -/
import Derived.Test.YtdfhponhjjkdmaaGAdd
set_option linter.unusedVariables false
set_option linter.unusedSimpArgs false
namespace Go.Proofs.Ytdfhponhjjkdmaa
open Go.RowKit Go.Proofs.YtdfhponhjjkdmaaW.PrintWords

theorem Mp.set {w : World} {b n g i : Nat} {f : ByteArray → Option ByteArray} (h : Mp w b n f) (hb : b ≠ g) (u : Value) : Mp (w.setCell ⟨g, i, none⟩ u) b n f :=
  h.kept (only_set (only_refl w (some g)) _ _) (by intro e; injection e with e; exact hb e)

set_option maxRecDepth 100000 in
set_option maxHeartbeats 4000000 in
theorem who_adm (g : Nat) (mo : Option Nat) (adm : ByteArray) (n : Nat) (f : ByteArray → Option ByteArray) (x y : Int) (k : ByteArray)  (w : World) (h : Gs w g mo adm n f x y) (hk : k.size ≤ maxLen) (hx0 : 0 ≤ x) (hx1 : x ≤ 1000) (hy0 : 0 ≤ y) (hy1 : y ≤ 1000) (ha : k = adm) :
    Calls Try.prog 18 #[.pointer (some ⟨g, 0, none⟩), .string k] w fun e w' => e = .returned (.tuple #[.string ByteArray.empty, .bool true, .int .i64 0]) ∧ ∃ mo', Nx w.heap.size mo mo' ∧ Gs w' g mo' adm n f (x + 1) y ∧ Tr w w' g mo := by
  have hmf : ∀ (fn : Fn) (first cap : Array Value) (w : World), (Instr.makeFunc fn first cap).run Try.prog w = .ok (.func fn first cap) w := fun _ _ _ _ => rfl
  subst ha
  go_enter Try.func18, Try.ntmps18
  go_wp2_with (first
    | (go_at_call 21; refine (gdo g mo _ n f x y _ h).mono ?_; rintro e w1 ⟨rfl, b, hnx, hbg, hb1, hm1, ht1⟩; have HN := Lib.hid hnx; have HT := Lib.hid ht1; have hb2 := hb1.s5 (x + 1); have HG := Lib.hid hb2; have k0 := hb2.c0; have k4 := hb2.c4; have k5 := hb1.c5; have z5 := hb1.fz 5; have k6 := hb2.c6; have z6 := hb2.fz 6; have hm2 := hm1.set (i := 5) hbg (.int .i64 (x + 1)); have HM := Lib.hid hm2; have hlk := hm2.look k hk; have HO : Hid (w1.grownBy (w1.setCell ⟨g, 5, none⟩ (.int .i64 (x + 1))) (some g)) := only_set (only_refl _ _) _ _; clear hnx hb1 hb2 hm1 hm2 ht1 h)
    | (go_at_call_has 25 (Value.pointer (some ⟨g, 5, none⟩)); refine (gadd _ x _ k5 z5 hx0 hx1).mono ?_; rintro e w2 ⟨rfl, rfl⟩)
    | (go_at_call_has 25 (Value.pointer (some ⟨g, 6, none⟩)); refine (gadd _ y _ k6 z6 hy0 hy1).mono ?_; rintro e w2 ⟨rfl, rfl⟩))
  first | go_ret2 | go_ret3 | go_ret
  exact ⟨rfl, some b, HN.out, Gs.of hbg HG.out HM.out, HT.out.trans HN.out (Tr.of HO.out)⟩

set_option maxRecDepth 100000 in
set_option maxHeartbeats 4000000 in
theorem who_some (g : Nat) (mo : Option Nat) (adm : ByteArray) (n : Nat) (f : ByteArray → Option ByteArray) (x y : Int) (k : ByteArray) (nm : ByteArray) (w : World) (h : Gs w g mo adm n f x y) (hk : k.size ≤ maxLen) (hx0 : 0 ≤ x) (hx1 : x ≤ 1000) (hy0 : 0 ≤ y) (hy1 : y ≤ 1000) (ha : k ≠ adm) (hf : f k = some nm) :
    Calls Try.prog 18 #[.pointer (some ⟨g, 0, none⟩), .string k] w fun e w' => e = .returned (.tuple #[.string nm, .bool false, .int .i64 0]) ∧ ∃ mo', Nx w.heap.size mo mo' ∧ Gs w' g mo' adm n f (x + 1) y ∧ Tr w w' g mo := by
  have hmf : ∀ (fn : Fn) (first cap : Array Value) (w : World), (Instr.makeFunc fn first cap).run Try.prog w = .ok (.func fn first cap) w := fun _ _ _ _ => rfl
  have hne := str_ne ha
  have HF := Lib.hid hf
  clear hf
  go_enter Try.func18, Try.ntmps18
  go_wp2_with (first
    | (go_at_call 21; refine (gdo g mo _ n f x y _ h).mono ?_; rintro e w1 ⟨rfl, b, hnx, hbg, hb1, hm1, ht1⟩; have HN := Lib.hid hnx; have HT := Lib.hid ht1; have hb2 := hb1.s5 (x + 1); have HG := Lib.hid hb2; have k0 := hb2.c0; have k4 := hb2.c4; have k5 := hb1.c5; have z5 := hb1.fz 5; have k6 := hb2.c6; have z6 := hb2.fz 6; have hm2 := hm1.set (i := 5) hbg (.int .i64 (x + 1)); have HM := Lib.hid hm2; have hlk := hm2.look k hk; rw [HF.out] at hlk; have HO : Hid (w1.grownBy (w1.setCell ⟨g, 5, none⟩ (.int .i64 (x + 1))) (some g)) := only_set (only_refl _ _) _ _; clear hnx hb1 hb2 hm1 hm2 ht1 h)
    | (go_at_call_has 25 (Value.pointer (some ⟨g, 5, none⟩)); refine (gadd _ x _ k5 z5 hx0 hx1).mono ?_; rintro e w2 ⟨rfl, rfl⟩)
    | (go_at_call_has 25 (Value.pointer (some ⟨g, 6, none⟩)); refine (gadd _ y _ k6 z6 hy0 hy1).mono ?_; rintro e w2 ⟨rfl, rfl⟩))
  first | go_ret2 | go_ret3 | go_ret
  exact ⟨rfl, some b, HN.out, Gs.of hbg HG.out HM.out, HT.out.trans HN.out (Tr.of HO.out)⟩

set_option maxRecDepth 100000 in
set_option maxHeartbeats 4000000 in
theorem who_none (g : Nat) (mo : Option Nat) (adm : ByteArray) (n : Nat) (f : ByteArray → Option ByteArray) (x y : Int) (k : ByteArray)  (w : World) (h : Gs w g mo adm n f x y) (hk : k.size ≤ maxLen) (hx0 : 0 ≤ x) (hx1 : x ≤ 1000) (hy0 : 0 ≤ y) (hy1 : y ≤ 1000) (ha : k ≠ adm) (hf : f k = none) :
    Calls Try.prog 18 #[.pointer (some ⟨g, 0, none⟩), .string k] w fun e w' => e = .returned (.tuple #[.string ByteArray.empty, .bool false, .int .i64 21]) ∧ ∃ mo', Nx w.heap.size mo mo' ∧ Gs w' g mo' adm n f (x + 1) (y + 1) ∧ Tr w w' g mo := by
  have hmf : ∀ (fn : Fn) (first cap : Array Value) (w : World), (Instr.makeFunc fn first cap).run Try.prog w = .ok (.func fn first cap) w := fun _ _ _ _ => rfl
  have hne := str_ne ha
  have HF := Lib.hid hf
  clear hf
  go_enter Try.func18, Try.ntmps18
  go_wp2_with (first
    | (go_at_call 21; refine (gdo g mo _ n f x y _ h).mono ?_; rintro e w1 ⟨rfl, b, hnx, hbg, hb1, hm1, ht1⟩; have HN := Lib.hid hnx; have HT := Lib.hid ht1; have hb2 := hb1.s5 (x + 1); have HG := Lib.hid hb2; have k0 := hb2.c0; have k4 := hb2.c4; have k5 := hb1.c5; have z5 := hb1.fz 5; have k6 := hb2.c6; have z6 := hb2.fz 6; have hm2 := hm1.set (i := 5) hbg (.int .i64 (x + 1)); have HM := Lib.hid hm2; have hlk := hm2.look k hk; rw [HF.out] at hlk; have HO : Hid (w1.grownBy (w1.setCell ⟨g, 5, none⟩ (.int .i64 (x + 1))) (some g)) := only_set (only_refl _ _) _ _; clear hnx hb1 hb2 hm1 hm2 ht1 h)
    | (go_at_call_has 25 (Value.pointer (some ⟨g, 5, none⟩)); refine (gadd _ x _ k5 z5 hx0 hx1).mono ?_; rintro e w2 ⟨rfl, rfl⟩)
    | (go_at_call_has 25 (Value.pointer (some ⟨g, 6, none⟩)); refine (gadd _ y _ k6 z6 hy0 hy1).mono ?_; rintro e w2 ⟨rfl, rfl⟩))
  first | go_ret2 | go_ret3 | go_ret
  exact ⟨rfl, some b, HN.out, Gs.of hbg (HG.out.s6 _) (HM.out.set hbg _), HT.out.trans HN.out (Tr.of (only_set HO.out _ _))⟩
end Go.Proofs.Ytdfhponhjjkdmaa
