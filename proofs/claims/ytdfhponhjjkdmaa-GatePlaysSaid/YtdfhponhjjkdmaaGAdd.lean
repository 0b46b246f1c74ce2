/- A Gate's calls; no condition. -/
import Derived.Test.YtdfhponhjjkdmaaName
set_option linter.unusedVariables false
set_option linter.unusedSimpArgs false
namespace Go.Proofs.Ytdfhponhjjkdmaa
open Go.RowKit Go.Proofs.YtdfhponhjjkdmaaW.PrintWords

/-- What has turned: the Gate's block g, its map's block mo, and new ones. -/
structure Tr (w w' : World) (g : Nat) (mo : Option Nat) : Prop where
  os : w'.os = w.os
  tape : w'.tape = w.tape
  output : w'.output = w.output
  size : w.heap.size ≤ w'.heap.size
  block : ∀ i, i < w.heap.size → i ≠ g → some i ≠ mo → w'.heap[i]? = w.heap[i]?
/-- The map's block: the same, or a new one. -/
def Nx (s : Nat) (mo mo' : Option Nat) : Prop := mo' = mo ∨ ∃ b, mo' = some b ∧ s ≤ b
theorem Tr.refl (w : World) (g : Nat) (mo : Option Nat) : Tr w w g mo := ⟨rfl, rfl, rfl, Nat.le_refl _, fun _ _ _ _ => rfl⟩
theorem Tr.of {w w' : World} {g : Nat} {mo : Option Nat} (h : w.grownBy w' (some g)) : Tr w w' g mo :=
  ⟨h.os, h.tape, h.output, h.size, fun i hi hg _ => h.block i hi (by intro e; injection e with e; exact hg e)⟩
theorem Tr.trans {w w1 w2 : World} {g : Nat} {mo mo1 : Option Nat} (h : Tr w w1 g mo) (hn : Nx w.heap.size mo mo1) (k : Tr w1 w2 g mo1) : Tr w w2 g mo :=
  ⟨k.os.trans h.os, k.tape.trans h.tape, k.output.trans h.output, Nat.le_trans h.size k.size, fun i hi hg hm => (k.block i (Nat.lt_of_lt_of_le hi h.size) hg (by
    rcases hn with e | ⟨b, e, hb⟩
    · rw [e]; exact hm
    · rw [e]; intro e2; injection e2 with e2; omega)).trans (h.block i hi hg hm)⟩
theorem Tr.map {w w' : World} {g b : Nat} (h : w.grownBy w' (some b)) : Tr w w' g (some b) :=
  ⟨h.os, h.tape, h.output, h.size, fun i hi _ hm => h.block i hi hm⟩
theorem Nx.refl (s : Nat) (mo : Option Nat) : Nx s mo mo := .inl rfl
/-- Nothing below has turned. -/
theorem Tr.below {B g : Nat} {mo : Option Nat} {w0 w w' : World} (h : Below B w0 w) (k : Tr w w' g mo) (hB : B ≤ w.heap.size) (hg : B ≤ g) (hm : ∀ b, mo = some b → B ≤ b) : Below B w0 w' :=
  h.trans ⟨k.os, k.tape, k.output, k.size, fun i hi => k.block i (Nat.lt_of_lt_of_le hi hB) (by omega) (fun e => by have := hm i e.symm; omega)⟩

/-- A Gate: its map's block mo, its admin, at most n names as f has them, how often it was asked, and refused. -/
def Gs (w : World) (g : Nat) (mo : Option Nat) (adm : ByteArray) (n : Nat) (f : ByteArray → Option ByteArray) (x y : Int) : Prop :=
  (mo = none ∧ f = noneS ∧ Gb w g adm 0 0 (.map none) x y) ∨ ∃ b, mo = some b ∧ b ≠ g ∧ Gb w g adm 1 0 (.map (some b)) x y ∧ Mp w b n f
theorem Gs.of {w : World} {g b : Nat} {adm : ByteArray} {n : Nat} {f : ByteArray → Option ByteArray} {x y : Int} (hb : b ≠ g) (h : Gb w g adm 1 0 (.map (some b)) x y) (hm : Mp w b n f) : Gs w g (some b) adm n f x y := .inr ⟨b, rfl, hb, h, hm⟩
theorem Gs.lt {w : World} {g : Nat} {mo : Option Nat} {adm : ByteArray} {n : Nat} {f : ByteArray → Option ByteArray} {x y : Int} (h : Gs w g mo adm n f x y) : g < w.heap.size := by
  rcases h with ⟨_, _, h⟩ | ⟨_, _, _, h, _⟩
  · exact h.lt
  · exact h.lt
theorem Gs.mlt {w : World} {g : Nat} {mo : Option Nat} {adm : ByteArray} {n : Nat} {f : ByteArray → Option ByteArray} {x y : Int} (h : Gs w g mo adm n f x y) (b : Nat) (hb : mo = some b) : b < w.heap.size := by
  rcases h with ⟨e, _, h⟩ | ⟨b', e, _, _, h⟩
  · rw [e] at hb; cases hb
  · rw [e] at hb; injection hb with hb; rw [← hb]; exact h.lt
/-- Another Gate stays. -/
theorem Gs.other {w w' : World} {g g2 : Nat} {mo mo2 : Option Nat} {adm : ByteArray} {n : Nat} {f : ByteArray → Option ByteArray} {x y : Int} (h : Gs w g mo adm n f x y) (k : Tr w w' g2 mo2) (h1 : g ≠ g2) (h2 : some g ≠ mo2) (h3 : mo ≠ some g2) (h4 : mo = none ∨ mo ≠ mo2) : Gs w' g mo adm n f x y := by
  rcases h with ⟨e, hf, h⟩ | ⟨b, e, hb, h, hm⟩
  · exact .inl ⟨e, hf, (k.block g h.lt h1 h2).trans h⟩
  · refine .inr ⟨b, e, hb, (k.block g h.lt h1 h2).trans h, ?_⟩
    have hbl := hm.lt
    have h5 := k.block b hbl (fun e2 => h3 (by rw [e, e2])) (fun e2 => by
      rcases h4 with h4 | h4
      · rw [e] at h4; cases h4
      · exact h4 (by rw [e, ← e2]))
    obtain ⟨D, ⟨es, clock, hb1, F, hs, hD⟩, hf⟩ := hm
    exact ⟨D, ⟨es, clock, h5.trans hb1, F, hs, hD⟩, hf⟩
/-- What lies in other blocks stays. -/
theorem Tr.cell {w w' : World} {g : Nat} {mo : Option Nat} {p : Addr} {v : Value} (k : Tr w w' g mo) (h : w.cell? p = some v) (h1 : p.block ≠ g) (h2 : some p.block ≠ mo) : w'.cell? p = some v := by
  have hl := World.block_lt_of_cell? w _ h
  have e := k.block p.block hl h1 h2
  unfold World.cell? at h ⊢
  rw [e]; exact h

theorem gdo (g : Nat) (mo : Option Nat) (adm : ByteArray) (n : Nat) (f : ByteArray → Option ByteArray) (x y : Int) (w : World) (h : Gs w g mo adm n f x y) :
    Calls Try.prog 21 #[.pointer (some ⟨g, 1, none⟩), .func (.func 23) #[.pointer (some ⟨g, 0, none⟩)] #[]] w fun e w' => e = .returned (.tuple #[]) ∧ ∃ b, Nx w.heap.size mo (some b) ∧ b ≠ g ∧ Gb w' g adm 1 0 (.map (some b)) x y ∧ Mp w' b n f ∧ Tr w w' g mo := by
  rcases h with ⟨e, hf, h⟩ | ⟨b, e, hb, h, hm⟩
  · subst hf
    refine (gdo_first g adm x y _ w h).mono ?_
    rintro r w' ⟨rfl, b, hb, h1, ⟨D, h2, h3⟩, h4⟩
    exact ⟨rfl, b, .inr ⟨b, rfl, hb⟩, by have := h.lt; omega, h1, ⟨D, h2.mono (Nat.zero_le _), h3⟩, Tr.of h4⟩
  · refine (gdo_done g adm x y _ _ w h).mono ?_
    rintro r w' ⟨rfl, rfl⟩
    exact ⟨rfl, b, .inl e.symm, hb, h, hm, Tr.refl _ _ _⟩

theorem gload (p : Addr) (x : Int) (w : World) (hc : w.cell? p = some (.int .i64 x)) :
    Calls Try.prog 26 #[.pointer (some p)] w fun e w' => e = .returned (.int .i64 x) ∧ w' = w := by
  have hl := run_call_load (P := Try.prog) Try.func30 (by kernel_rfl) (by kernel_rfl) (by kernel_rfl) .i64 (by kernel_rfl) hc
  go_enter Try.func26, Try.ntmps26
  go_wp2
  go_ret
  exact ⟨rfl, rfl⟩
theorem gadd (p : Addr) (x : Int) (w : World) (hc : w.cell? p = some (.int .i64 x)) (hz : w.frozen? p = false) (h0 : 0 ≤ x) (h1 : x ≤ 1000) :
    Calls Try.prog 25 #[.pointer (some p), .int .i64 1] w fun e w' => e = .returned (.int .i64 (x + 1)) ∧ w' = w.setCell p (.int .i64 (x + 1)) := by
  have hw : wrap64 (x + 1) = x + 1 := by unfold wrap64; omega
  have hl := run_call_add (P := Try.prog) Try.func29 (by kernel_rfl) (by kernel_rfl) (by kernel_rfl) .i64 (by kernel_rfl) (y := 1) (s := wrap64 (x + 1)) hc hz (by simp [go_sem, wrap64, IntKind.wrap_i64])
  rw [hw] at hl
  go_enter Try.func25, Try.ntmps25
  go_wp2
  go_ret
  exact ⟨rfl, rfl⟩
theorem gnew (adm : ByteArray) (w : World) : Calls Try.prog 15 #[.string adm] w fun e w' => ∃ g, e = .returned (.pointer (some ⟨g, 0, none⟩)) ∧ w.heap.size = g ∧ Gs w' g none adm 0 noneS 0 0 ∧ Below w.heap.size w w' := by
  go_enter Try.func15, Try.ntmps15
  go_wp2
  go_ret
  exact ⟨_, rfl, rfl, .inl ⟨rfl, rfl, blk_new _ _⟩, (Below.refl _ _).alloc (Nat.le_refl _) _⟩
theorem Gs.c5 {w : World} {g : Nat} {mo : Option Nat} {adm : ByteArray} {n : Nat} {f : ByteArray → Option ByteArray} {x y : Int} (h : Gs w g mo adm n f x y) : w.cell? ⟨g, 5, none⟩ = some (.int .i64 x) ∧ w.cell? ⟨g, 6, none⟩ = some (.int .i64 y) := by
  rcases h with ⟨_, _, h⟩ | ⟨_, _, _, h, _⟩
  · exact ⟨h.c5, h.c6⟩
  · exact ⟨h.c5, h.c6⟩
theorem asked_any (g : Nat) (mo : Option Nat) (adm : ByteArray) (n : Nat) (f : ByteArray → Option ByteArray) (x y : Int) (w : World) (h : Gs w g mo adm n f x y) :
    Calls Try.prog 19 #[.pointer (some ⟨g, 0, none⟩)] w fun e w' => e = .returned (.int .i64 x) ∧ w' = w := by
  have h5 := h.c5.1
  go_enter Try.func19, Try.ntmps19
  go_wp2_with (first | (go_at_call 26; refine (gload _ x _ h5).mono ?_; rintro e w' ⟨rfl, rfl⟩))
  go_ret
  exact ⟨rfl, rfl⟩
theorem refused_any (g : Nat) (mo : Option Nat) (adm : ByteArray) (n : Nat) (f : ByteArray → Option ByteArray) (x y : Int) (w : World) (h : Gs w g mo adm n f x y) :
    Calls Try.prog 20 #[.pointer (some ⟨g, 0, none⟩)] w fun e w' => e = .returned (.int .i64 y) ∧ w' = w := by
  have h5 := h.c5.2
  go_enter Try.func20, Try.ntmps20
  go_wp2_with (first | (go_at_call 26; refine (gload _ y _ h5).mono ?_; rintro e w' ⟨rfl, rfl⟩))
  go_ret
  exact ⟨rfl, rfl⟩

theorem str_ne {a b : ByteArray} (h : a ≠ b) : (a.toList == b.toList) = false := by
  rw [ByteArray.toList_eq, ByteArray.toList_eq]
  exact beq_eq_false_iff_ne.mpr (fun e => h (string_inj e))
/-- What Add answers. -/
def addE (adm k nm : ByteArray) (f : ByteArray → Option ByteArray) : Int := if nameB k = false ∨ nameB nm = false then 1 else if (f k).isSome = true ∨ k = adm then 7 else 0
/-- The names behind it. -/
def addF (adm k nm : ByteArray) (f : ByteArray → Option ByteArray) : ByteArray → Option ByteArray := if addE adm k nm f = 0 then updS f k nm else f
theorem name_at (k : ByteArray) (b : Bool) (hk : k.size ≤ maxLen) (h : Hid (nameB k = b)) (w : World) : Calls Try.prog 24 #[.string k] w fun e w' => e = .returned (.bool b) ∧ w' = w := by rw [← h.out]; exact pname k hk w
theorem rname_at (k : ByteArray) (b : Bool) (hk : k.size ≤ maxLen) (h : Hid (nameB k = b)) (w : World) : Calls Try.prog 16 #[.string k] w fun e w' => e = .returned (.bool b) ∧ w' = w := by rw [← h.out]; exact rname k hk w

set_option maxRecDepth 100000 in
set_option maxHeartbeats 4000000 in
theorem gadd_any (g : Nat) (mo : Option Nat) (adm : ByteArray) (n : Nat) (f : ByteArray → Option ByteArray) (x y : Int) (k nm : ByteArray) (w : World) (h : Gs w g mo adm n f x y) (hk : k.size ≤ maxLen) (hnm : nm.size ≤ maxLen) (hn : n < maxLen) :
    Calls Try.prog 17 #[.pointer (some ⟨g, 0, none⟩), .string k, .string nm] w fun e w' => e = .returned (.int .i64 (addE adm k nm f)) ∧ ∃ mo', Nx w.heap.size mo mo' ∧ Gs w' g mo' adm (n + 1) (addF adm k nm f) x y ∧ Tr w w' g mo := by
  have hmf : ∀ (fn : Fn) (first cap : Array Value) (w : World), (Instr.makeFunc fn first cap).run Try.prog w = .ok (.func fn first cap) w := fun _ _ _ _ => rfl
  obtain ⟨B1, hB1⟩ : ∃ b, nameB k = b := ⟨_, rfl⟩
  obtain ⟨B2, hB2⟩ : ∃ b, nameB nm = b := ⟨_, rfl⟩
  obtain ⟨r, hr⟩ : ∃ r, f k = r := ⟨_, rfl⟩
  have HB1 := Lib.hid hB1
  have HB2 := Lib.hid hB2
  have HR := Lib.hid hr
  clear hB1 hB2 hr
  go_enter Try.func17, Try.ntmps17
  go_wp2_with (first
    | (go_at_call 21; refine (gdo g mo adm n f x y _ h).mono ?_; rintro e w1 ⟨rfl, b, hnx, hbg, hb1, hm1, ht1⟩; have HN := Lib.hid hnx; have HM := Lib.hid hm1; have HT := Lib.hid ht1; have HG := Lib.hid hb1; have k0 := hb1.c0; have k4 := hb1.c4; have hlk := hm1.look k hk; rw [HR.out] at hlk; clear hnx hb1 hm1 ht1 h))
  have HE : Hid (∀ e : Int, addE adm k nm f = e → e ≠ 0 → ∃ mo', Nx w.heap.size mo mo' ∧ Gs w1 g mo' adm (n + 1) (addF adm k nm f) x y ∧ Tr w w1 g mo) := by
    intro e he hne
    have e0 : addF adm k nm f = f := by unfold addF; rw [if_neg (by rw [he]; exact hne)]
    rw [e0]
    obtain ⟨D, h2, h3⟩ := HM.out
    exact ⟨some b, HN.out, Gs.of hbg HG.out ⟨D, h2.mono (Nat.le_succ _), h3⟩, HT.out⟩
  rcases B1 with _ | _
  · have hE : addE adm k nm f = 1 := by unfold addE; rw [if_pos (.inl HB1.out)]
    have HF := Lib.hid (HE.out 1 hE (by decide))
    have HEE := Lib.hid hE
    clear hE HE
    go_wp2_with (first
      | (go_at_call_has 24 (Value.string k); refine (name_at k _ hk HB1 _).mono ?_; rintro e w2 ⟨rfl, rfl⟩)
      | (go_at_call_has 24 (Value.string nm); refine (name_at nm _ hnm HB2 _).mono ?_; rintro e w2 ⟨rfl, rfl⟩))
    go_ret
    exact ⟨by rw [HEE.out]; rfl, HF.out⟩
  rcases B2 with _ | _
  · have hE : addE adm k nm f = 1 := by unfold addE; rw [if_pos (.inr HB2.out)]
    have HF := Lib.hid (HE.out 1 hE (by decide))
    have HEE := Lib.hid hE
    clear hE HE
    go_wp2_with (first
      | (go_at_call_has 24 (Value.string k); refine (name_at k _ hk HB1 _).mono ?_; rintro e w2 ⟨rfl, rfl⟩)
      | (go_at_call_has 24 (Value.string nm); refine (name_at nm _ hnm HB2 _).mono ?_; rintro e w2 ⟨rfl, rfl⟩))
    go_ret
    exact ⟨by rw [HEE.out]; rfl, HF.out⟩
  have hN : ¬ (nameB k = false ∨ nameB nm = false) := by rw [HB1.out, HB2.out]; simp
  rcases r with _ | s0
  · by_cases he : k = adm
    · have hE : addE adm k nm f = 7 := by unfold addE; rw [if_neg hN, if_pos (.inr he)]
      have HF := Lib.hid (HE.out 7 hE (by decide))
      have HEE := Lib.hid hE
      clear hE HE hN
      subst he
      go_wp2_with (first
      | (go_at_call_has 24 (Value.string k); refine (name_at k _ hk HB1 _).mono ?_; rintro e w2 ⟨rfl, rfl⟩)
      | (go_at_call_has 24 (Value.string nm); refine (name_at nm _ hnm HB2 _).mono ?_; rintro e w2 ⟨rfl, rfl⟩))
      go_ret
      exact ⟨by rw [HEE.out]; rfl, HF.out⟩
    · have hE : addE adm k nm f = 0 := by unfold addE; rw [if_neg hN, if_neg (by rw [HR.out]; simp; exact he)]
      have HEE := Lib.hid hE
      obtain ⟨w9, hrun, hm2, hg2⟩ := HM.out.put k nm hk hnm hn
      have hne := str_ne he
      have HM2 := Lib.hid hm2
      have HG2 := Lib.hid hg2
      clear hE HE hN hm2 hg2
      go_wp2_with (first
      | (go_at_call_has 24 (Value.string k); refine (name_at k _ hk HB1 _).mono ?_; rintro e w2 ⟨rfl, rfl⟩)
      | (go_at_call_has 24 (Value.string nm); refine (name_at nm _ hnm HB2 _).mono ?_; rintro e w2 ⟨rfl, rfl⟩))
      go_ret
      refine ⟨by rw [HEE.out]; rfl, some b, HN.out, ?_, HT.out.trans HN.out (Tr.map HG2.out)⟩
      have e0 : addF adm k nm f = updS f k nm := by unfold addF; rw [if_pos HEE.out]
      rw [e0]
      exact Gs.of hbg (HG.out.grown HG2.out (fun e => hbg (by injection e with e; exact e.symm))) HM2.out
  · have hE : addE adm k nm f = 7 := by unfold addE; rw [if_neg hN, if_pos (.inl (by rw [HR.out]; rfl))]
    have HF := Lib.hid (HE.out 7 hE (by decide))
    have HEE := Lib.hid hE
    clear hE HE hN
    go_wp2_with (first
      | (go_at_call_has 24 (Value.string k); refine (name_at k _ hk HB1 _).mono ?_; rintro e w2 ⟨rfl, rfl⟩)
      | (go_at_call_has 24 (Value.string nm); refine (name_at nm _ hnm HB2 _).mono ?_; rintro e w2 ⟨rfl, rfl⟩))
    go_ret
    exact ⟨by rw [HEE.out]; rfl, HF.out⟩
end Go.Proofs.Ytdfhponhjjkdmaa
