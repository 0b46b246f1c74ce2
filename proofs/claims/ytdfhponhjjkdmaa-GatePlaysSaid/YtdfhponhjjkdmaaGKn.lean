/- A Gate's example; two Gates beside one another; no condition. -/
import Derived.Test.YtdfhponhjjkdmaaGWho
import Derived.Test.YtdfhponhjjkdmaaSum
set_option linter.unusedVariables false
set_option linter.unusedSimpArgs false
namespace Go.Proofs.Ytdfhponhjjkdmaa
open Go.RowKit Go.Proofs.YtdfhponhjjkdmaaW.PrintWords

abbrev rootS : ByteArray := ⟨#[114, 111, 111, 116]⟩
abbrev otherS : ByteArray := ⟨#[111, 116, 104, 101, 114]⟩
abbrev xS : ByteArray := ⟨#[120]⟩
theorem name_root : nameB rootS = true := by decide +kernel
theorem name_a : nameB ⟨#[97]⟩ = true := by decide +kernel
theorem name_x : nameB xS = true := by decide +kernel
theorem gadd_at (g : Nat) (mo : Option Nat) (adm : ByteArray) (n : Nat) (f F : ByteArray → Option ByteArray) (E x y : Int) (k nm : ByteArray) (w : World) (h : Gs w g mo adm n f x y) (hk : k.size ≤ maxLen) (hnm : nm.size ≤ maxLen) (hn : n < maxLen) (hE : Hid (addE adm k nm f = E)) (hF : Hid (addF adm k nm f = F)) :
    Calls Try.prog 17 #[.pointer (some ⟨g, 0, none⟩), .string k, .string nm] w fun e w' => e = .returned (.int .i64 E) ∧ ∃ mo', Nx w.heap.size mo mo' ∧ Gs w' g mo' adm (n + 1) F x y ∧ Tr w w' g mo := by
  rw [← hE.out, ← hF.out]; exact gadd_any g mo adm n f x y k nm w h hk hnm hn
theorem Nx.le {s B : Nat} {mo mo' : Option Nat} (h : Nx s mo mo') (hB : B ≤ s) (hm : ∀ b, mo = some b → B ≤ b) : ∀ b, mo' = some b → B ≤ b := by
  rcases h with e | ⟨b, e, hb⟩
  · rw [e]; exact hm
  · intro b' e'; rw [e] at e'; injection e' with e'; omega

set_option maxHeartbeats 1000000 in
theorem gknown_any (w : World) : Calls Try.prog 14 #[] w fun e w' => e = .returned (.bool true) ∧ Below w.heap.size w w' := by
  have HE : Hid (addE rootS rootS ⟨#[97]⟩ noneS = 7) := by show addE _ _ _ _ = 7; unfold addE; rw [name_root, name_a]; rfl
  have HF : Hid (addF rootS rootS ⟨#[97]⟩ noneS = noneS) := by show addF _ _ _ _ = _; unfold addF; rw [HE.out]; rfl
  go_enter Try.func14, Try.ntmps14
  go_wp2_with (first
    | (go_at_call 15; refine (gnew _ _).mono ?_; rintro e w1 ⟨g, rfl, hg, hs1, hb1⟩; have HS1 := Lib.hid hs1; have HQ1 := Lib.hid hb1; have hgE := Nat.le_of_eq hg; clear hs1 hb1 hg)
    | (go_at_call 18; refine (who_adm g none rootS 0 noneS 0 0 rootS _ HS1.out (by decide) (by decide) (by decide) (by decide) (by decide) rfl).mono ?_; rintro e w2 ⟨rfl, m2, hn2, hs2, ht2⟩; have HS2 := Lib.hid hs2; have HN2 := Lib.hid hn2; have HQ2 := Lib.hid (Tr.below HQ1.out ht2 HQ1.out.size hgE (fun b h => by cases h)); clear hs2 hn2 ht2)
    | (go_at_call 17; refine (gadd_at g m2 rootS 0 noneS noneS 7 _ _ rootS ⟨#[97]⟩ _ HS2.out (by decide) (by decide) (by decide) HE HF).mono ?_; rintro e w3 ⟨rfl, m3, hn3, hs3, ht3⟩; have HQ3 := Lib.hid (Tr.below HQ2.out ht3 HQ2.out.size hgE (HN2.out.le HQ1.out.size (fun b h => by cases h))); clear hs3 hn3 ht3))
  go_ret
  exact ⟨rfl, HQ3.out⟩

/-- Their maps' blocks lie apart. -/
def Sp (ma mb : Option Nat) : Prop := ∀ b, ma = some b → mb ≠ some b
theorem Sp.symm {ma mb : Option Nat} (h : Sp ma mb) : Sp mb ma := fun b h1 h2 => h b h2 h1
theorem Sp.next {s : Nat} {ma ma' mb : Option Nat} (h : Sp ma mb) (hn : Nx s ma ma') (hb : ∀ b, mb = some b → b < s) : Sp ma' mb := by
  rcases hn with e | ⟨b, e, hs⟩
  · rw [e]; exact h
  · intro b' e' h2
    rw [e] at e'
    injection e' with e'
    have := hb b' h2
    omega
theorem Gs.map_ne {w : World} {g g2 : Nat} {mo mo2 : Option Nat} {adm adm2 : ByteArray} {n n2 : Nat} {f f2 : ByteArray → Option ByteArray} {x y x2 y2 : Int} (h : Gs w g mo adm n f x y) (h2 : Gs w g2 mo2 adm2 n2 f2 x2 y2) : mo ≠ some g2 := by
  intro e
  rcases h with ⟨e1, _⟩ | ⟨b, e1, _, _, ⟨D, ⟨es, clock, hb, _⟩, _⟩⟩
  · rw [e1] at e; cases e
  · rw [e1] at e
    injection e with e
    subst e
    rcases h2 with ⟨_, _, h2⟩ | ⟨_, _, _, h2, _⟩
    · unfold Gb at h2; rw [hb] at h2; injection h2 with h2; cases h2
    · unfold Gb at h2; rw [hb] at h2; injection h2 with h2; cases h2
/-- A step of Gate a: Gate b stays, apart. -/
theorem Gs.beside {w w' : World} {g g2 : Nat} {mo mo2 : Option Nat} {adm adm2 : ByteArray} {n n2 : Nat} {f f2 : ByteArray → Option ByteArray} {x y x2 y2 : Int} (h : Gs w g mo adm n f x y) (h2 : Gs w g2 mo2 adm2 n2 f2 x2 y2) (hg : g2 ≠ g) (hs : Sp mo mo2) (k : Tr w w' g mo) : Gs w' g2 mo2 adm2 n2 f2 x2 y2 :=
  h2.other k hg (fun e => h.map_ne h2 e.symm) (h2.map_ne h) (by
    rcases e : mo2 with _ | b
    · exact .inl rfl
    · exact .inr (fun e2 => hs b e2.symm e))
end Go.Proofs.Ytdfhponhjjkdmaa
