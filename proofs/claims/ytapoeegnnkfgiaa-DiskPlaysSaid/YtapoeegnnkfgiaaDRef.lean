/- The document's Disk, told as the program's is: New, Read, Cut, Start; no condition. -/
import Derived.Test.YtapoeegnnkfgiaaDCall
set_option linter.unusedVariables false
set_option linter.unusedSimpArgs false
namespace Go.Proofs.Ytapoeegnnkfgiaa
open Go.RowKit Go.Deep Go.Proofs.YtapoeegnnkfgiaaW.PrintWords

/-- Block g is a Disk of the document's; its table is block t. -/
def Rb (w : World) (g : Nat) (n : Nat) (t : Nat) (x l : Int) (d : Bool) : Prop :=
  w.heap[g]? = some (.cells #[.int .i64 n, .slice (some ⟨t, 0, none⟩) n n, .int .i64 x, .int .i64 l, .bool d] 63 (0, 0))
section
variable {w w' : World} {g n t : Nat} {x l : Int} {d : Bool}
theorem Rb.c0 (h : Rb w g n t x l d) : w.cell? ⟨g, 0, none⟩ = some (.int .i64 n) := blk_cell h 0
theorem Rb.c1 (h : Rb w g n t x l d) : w.cell? ⟨g, 1, none⟩ = some (.slice (some ⟨t, 0, none⟩) n n) := blk_cell h 1
theorem Rb.c2 (h : Rb w g n t x l d) : w.cell? ⟨g, 2, none⟩ = some (.int .i64 x) := blk_cell h 2
theorem Rb.c3 (h : Rb w g n t x l d) : w.cell? ⟨g, 3, none⟩ = some (.int .i64 l) := blk_cell h 3
theorem Rb.c4 (h : Rb w g n t x l d) : w.cell? ⟨g, 4, none⟩ = some (.bool d) := blk_cell h 4
theorem Rb.fz (h : Rb w g n t x l d) (i : Nat) : w.frozen? ⟨g, i, none⟩ = false := blk_frozen h i
theorem Rb.s2 (h : Rb w g n t x l d) (z : Int) : Rb (w.setCell ⟨g, 2, none⟩ (.int .i64 z)) g n t z l d := blk_put h 2 _ rfl
theorem Rb.s3 (h : Rb w g n t x l d) (z : Int) : Rb (w.setCell ⟨g, 3, none⟩ (.int .i64 z)) g n t x z d := blk_put h 3 _ rfl
theorem Rb.s4 (h : Rb w g n t x l d) (z : Bool) : Rb (w.setCell ⟨g, 4, none⟩ (.bool z)) g n t x l z := blk_put h 4 _ rfl
theorem Rb.lt (h : Rb w g n t x l d) : g < w.heap.size := blk_lt h
theorem Rb.same (h : Rb w g n t x l d) (e : w'.heap[g]? = w.heap[g]?) : Rb w' g n t x l d := Eq.trans e h
theorem Rb.grown {row : Option Nat} (h : Rb w g n t x l d) (hg : w.grownBy w' row) (hne : some g ≠ row) : Rb w' g n t x l d := blk_grown h hg hne
end
/-- The table's block. -/
def Tb (w : World) (t : Nat) (cs : Array Value) : Prop := w.heap[t]? = some (.cells cs 31 (0, 0))
theorem Tb.lt {w : World} {t : Nat} {cs : Array Value} (h : Tb w t cs) : t < w.heap.size := blk_lt h
theorem Tb.cell {w : World} {t : Nat} {cs : Array Value} (h : Tb w t cs) (i : Nat) {v : Value} (e : cs[i]? = some v) : w.cell? ⟨t, i, none⟩ = some v := (blk_cell h i).trans e
theorem Tb.fz {w : World} {t : Nat} {cs : Array Value} (h : Tb w t cs) (i : Nat) : w.frozen? ⟨t, i, none⟩ = false := blk_frozen h i
/-- How a row of the table lies. -/
def RLie (w : World) (T : Nat) (av : Option Nat) (o : Option (List Nat)) (v : Option Value) : Prop :=
  (o = none → v = some (.slice none 0 0)) ∧ ∀ ys, o = some ys → ∃ p c, v = some (.slice (some ⟨p, 0, none⟩) 512 c) ∧ T ≤ p ∧ some p ≠ av ∧ Bts w (some ⟨p, 0, none⟩) 512 ys
theorem RLie.same {w w' : World} {T : Nat} {av : Option Nat} {o : Option (List Nat)} {q : Option Value} (h : RLie w T av o q) (hs : ∀ i, i < w.heap.size → T ≤ i → some i ≠ av → w'.heap[i]? = w.heap[i]?) : RLie w' T av o q :=
  ⟨h.1, fun ys e => by
    obtain ⟨p, c, e1, h1, h2, h3⟩ := h.2 ys e
    exact ⟨p, c, e1, h1, h2, h3.same (fun ad e2 _ => by
      have h4 := h3.old (by decide) _ rfl
      have e3 := Option.some.inj e2
      rw [← e3]
      exact hs p h4 h1 h2)⟩⟩
theorem RLie.avoid {w : World} {T p : Nat} {o : Option (List Nat)} {q : Option Value} {av : Option Nat} (h : RLie w T av o q) (hp : w.heap.size ≤ p) : RLie w T (some p) o q :=
  ⟨h.1, fun ys e => by
    obtain ⟨p', c, e1, h1, h2, h3⟩ := h.2 ys e
    have h4 : p' < w.heap.size := h3.old (by decide) _ rfl
    exact ⟨p', c, e1, h1, fun e2 => by have := Option.some.inj e2; omega, h3⟩⟩
theorem RLie.free {w : World} {T : Nat} {o : Option (List Nat)} {q : Option Value} {av : Option Nat} (h : RLie w T av o q) : RLie w T none o q :=
  ⟨h.1, fun ys e => by
    obtain ⟨p', c, e1, h1, h2, h3⟩ := h.2 ys e
    exact ⟨p', c, e1, h1, by simp, h3⟩⟩
/-- A Disk of the document's, told. -/
def Rd (w : World) (T : Nat) (av : Option Nat) (g t n : Nat) (s : DS) : Prop :=
  Rb w g n t s.x s.l s.d ∧ g < T ∧ t < T ∧ t ≠ g ∧ ∃ cs, Tb w t cs ∧ cs.size = n ∧ ∀ k : Nat, k < n → RLie w T av (s.f k) cs[k]?
section
variable {w w' : World} {T g t n : Nat} {av : Option Nat} {s : DS}
theorem Rd.rb (h : Rd w T av g t n s) : Rb w g n t s.x s.l s.d := h.1
theorem Rd.frame (h : Rd w T av g t n s) (hs : ∀ i, i < w.heap.size → (i = g ∨ i = t ∨ (T ≤ i ∧ some i ≠ av)) → w'.heap[i]? = w.heap[i]?) : Rd w' T av g t n s := by
  obtain ⟨h1, h2, h3, h4, cs, h5, h6, h7⟩ := h
  exact ⟨h1.same (hs g h1.lt (.inl rfl)), h2, h3, h4, cs, Eq.trans (hs t h5.lt (.inr (.inl rfl))) h5, h6, fun k hk => (h7 k hk).same (fun i hi a b => hs i hi (.inr (.inr ⟨a, b⟩)))⟩
theorem Rd.below (h : Rd w T av g t n s) (hb : Below w.heap.size w w') : Rd w' T av g t n s := h.frame (fun i hi _ => hb.block i hi)
theorem Rd.avoid {p : Nat} (h : Rd w T av g t n s) (hp : w.heap.size ≤ p) : Rd w T (some p) g t n s := by
  obtain ⟨h1, h2, h3, h4, cs, h5, h6, h7⟩ := h
  exact ⟨h1, h2, h3, h4, cs, h5, h6, fun k hk => (h7 k hk).avoid hp⟩
theorem Rd.free (h : Rd w T av g t n s) : Rd w T none g t n s := by
  obtain ⟨h1, h2, h3, h4, cs, h5, h6, h7⟩ := h
  exact ⟨h1, h2, h3, h4, cs, h5, h6, fun k hk => (h7 k hk).free⟩
theorem Rd.set {s' : DS} (h : Rd w T av g t n s) (hd : Rb w' g n t s'.x s'.l s'.d) (ho : w.grownBy w' (some g)) (hf : s'.f = s.f) : Rd w' T av g t n s' := by
  obtain ⟨h1, h2, h3, h4, cs, h5, h6, h7⟩ := h
  refine ⟨hd, h2, h3, h4, cs, Eq.trans (ho.block t h5.lt (fun e => h4 (Option.some.inj e))) h5, h6, fun k hk => ?_⟩
  rw [hf]
  exact (h7 k hk).same (fun i hi a b => ho.block i hi (fun e => by have := Option.some.inj e; omega))
theorem Rd.put {q c' k : Nat} {ys : List Nat} {cs : Array Value} {s' : DS} (h : Rd w T av g t n s) (hsz : cs.size = n) (hF : ∀ k : Nat, k < n → RLie w T av (s.f k) cs[k]?) (hd : Rb w' g n t s'.x s'.l s'.d) (hm : Tb w' t (cs.setIfInBounds k (.slice (some ⟨q, 0, none⟩) 512 c'))) (hq : w.heap.size ≤ q) (ho : Bts w' (some ⟨q, 0, none⟩) 512 ys)
    (ht : Tr w w' g (some t)) (hT : T ≤ w.heap.size) (hav : ∀ p, av = some p → p < w.heap.size) (hf : s'.f = fun j => if j = (k : Int) then some ys else s.f j) : Rd w' T av g t n s' := by
  obtain ⟨h1, h2, h3, h4, _⟩ := h
  refine ⟨hd, h2, h3, h4, _, hm, by rw [Array.size_setIfInBounds]; exact hsz, fun j hj => ?_⟩
  rw [hf]
  by_cases e : j = k
  · subst e
    dsimp only
    rw [if_pos rfl, Array.getElem?_setIfInBounds_self, if_pos (by omega)]
    refine ⟨(fun e => by cases e), fun ys' e' => ⟨q, c', rfl, by omega, fun e2 => ?_, ?_⟩⟩
    · have := hav q e2.symm; omega
    · cases e'
      exact ho
  · dsimp only
    rw [if_neg (by omega), Array.getElem?_setIfInBounds_ne (by omega)]
    exact (hF j hj).same (fun i hi a b => ht.block i hi (by omega) (fun e => by have := Option.some.inj e; omega))
end
theorem info31 : (Try.prog.info? 31).map (fun i => (i.zero, i.size, i.bytes)) = some (some (.slice none 0 0), 1, 24) := by kernel_rfl
theorem made_at (z : Value) (n k : Nat) (hk : k < n) : (madeCells #[z] n)[k]? = some z := by simp [madeCells, Nat.mod_one, hk]

set_option maxHeartbeats 1000000 in
theorem rnew_ds (n : Nat) (w : World) (h1 : 1 ≤ n) (h2 : n ≤ 16384) :
    Calls Try.prog 32 #[.int .i64 n] w fun e w' => ∃ g t, e = .returned (.tuple #[.pointer (some ⟨g, 0, none⟩), .int .i64 0]) ∧ w.heap.size ≤ g ∧ w.heap.size ≤ t ∧ Rd w' w'.heap.size none g t n DS.new ∧ Below w.heap.size w w' := by
  have hmk := print_make_of (P := Try.prog) 61 31 (.slice none 0 0) 24 Try.underlying61 info31 rfl (by decide) n (by omega)
  have d1 : decide ((n : Int) < 1) = false := decide_eq_false (by omega)
  have d2 : decide ((16384 : Int) < n) = false := decide_eq_false (by omega)
  go_enter Try.func32, Try.ntmps32
  go_wp2
  go_ret2
  refine ⟨_, w.heap.size, rfl, by simp, Nat.le_refl _, ⟨heap_alloc2_new _ _ _, by simp, (by simp; omega), by simp, madeCells #[.slice none 0 0] n, blk_alloc (blk_new w _) _, by simp [madeCells], fun k hk => ⟨fun _ => made_at _ n k hk, fun ys e => by cases e⟩⟩, ((Below.refl _ _).alloc (Nat.le_refl _) _).alloc (by simp) _⟩
theorem rnew_bad (n : Int) (w : World) (h : n < 1 ∨ 16384 < n) :
    Calls Try.prog 32 #[.int .i64 n] w fun e w' => e = .returned (.tuple #[.pointer none, .int .i64 1]) ∧ w' = w := by
  by_cases h1 : n < 1
  · have d1 : decide (n < 1) = true := decide_eq_true h1
    clear h
    go_enter Try.func32, Try.ntmps32
    go_wp2
    go_ret2
    exact ⟨rfl, rfl⟩
  · have d1 : decide (n < 1) = false := decide_eq_false h1
    have d2 : decide (16384 < n) = true := decide_eq_true (by omega)
    clear h
    go_enter Try.func32, Try.ntmps32
    go_wp2
    go_ret2
    exact ⟨rfl, rfl⟩
theorem rcut_ds (T g t n : Nat) (av : Option Nat) (s : DS) (k : Int) (w : World) (h : Rd w T av g t n s) :
    Calls Try.prog 35 #[.pointer (some ⟨g, 0, none⟩), .int .i64 k] w fun e w' => e = .returned (.tuple #[]) ∧ Rd w' T av g t n (s.cut k) ∧ Tr w w' g (some t) := by
  obtain ⟨z, hmx⟩ : ∃ z : Int, (if k < -1 then (-1 : Int) else k) = z := ⟨_, rfl⟩
  have k3 := h.rb.c3
  have f3 := h.rb.fz 3
  have HD : Hid (Rb (w.setCell ⟨g, 3, none⟩ (.int .i64 z)) g n t s.x z s.d) := h.rb.s3 z
  have HP := Lib.hid h
  have HZ := Lib.hid hmx
  clear h
  go_enter Try.func35, Try.ntmps35
  go_wp2
  go_end0
  refine ⟨rfl, HP.out.set (s' := s.cut k) ?_ (only_set (only_refl _ _) _ _) rfl, Tr.of (only_set (only_refl _ _) _ _)⟩
  unfold DS.cut
  dsimp only
  rw [HZ.out]
  exact HD.out
theorem rstart_ds (T g t n : Nat) (av : Option Nat) (s : DS) (w : World) (h : Rd w T av g t n s) :
    Calls Try.prog 36 #[.pointer (some ⟨g, 0, none⟩)] w fun e w' => e = .returned (.tuple #[]) ∧ Rd w' T av g t n s.start ∧ Tr w w' g (some t) := by
  have k4 := h.rb.c4
  have f4 := h.rb.fz 4
  have h2 := h.rb.s4 false
  have k3 := h2.c3
  have f3 := h2.fz 3
  have HD : Hid (Rb ((w.setCell ⟨g, 4, none⟩ (.bool false)).setCell ⟨g, 3, none⟩ (.int .i64 (-1))) g n t s.x (-1) false) := h2.s3 (-1)
  have HP := Lib.hid h
  clear h h2
  go_enter Try.func36, Try.ntmps36
  go_wp2
  go_end0
  exact ⟨rfl, HP.out.set (s' := s.start) HD.out (only_set (only_set (only_refl _ _) _ _) _ _) rfl, Tr.of (only_set (only_set (only_refl _ _) _ _) _ _)⟩
theorem Rd.raise {w : World} {T T' g t n : Nat} {av : Option Nat} (h : Rd w T av g t n DS.new) (hT : T ≤ T') : Rd w T' av g t n DS.new := by
  obtain ⟨h1, h2, h3, h4, cs, h5, h6, h7⟩ := h
  exact ⟨h1, by omega, by omega, h4, cs, h5, h6, fun k hk => ⟨(h7 k hk).1, fun ys e => by cases e⟩⟩
set_option maxHeartbeats 2000000 in
theorem rread_ds (T g t n : Nat) (av : Option Nat) (s : DS) (k r : Int) (bs : List Nat) (w : World) (h : Rd w T av g t n s) (hn : n ≤ 16384) (hrs : Hid (s.rd n k = (r, bs))) :
    Calls Try.prog 33 #[.pointer (some ⟨g, 0, none⟩), .int .i64 k] w fun e w' => ∃ A len c, e = .returned (.tuple #[.slice A len c, .int .i64 r]) ∧ Bts w' A len bs ∧ Below w.heap.size w w' := by
  have e := hrs.out
  clear hrs
  have hd := h.1
  have k0 := hd.c0
  have k1 := hd.c1
  have k4 := hd.c4
  unfold DS.rd at e
  by_cases h1 : s.d = true
  · rw [if_pos h1] at e
    injection e with e1 e2
    subst e1 e2
    rw [h1] at k4
    clear h hd
    go_enter Try.func33, Try.ntmps33
    go_wp2
    go_ret2
    exact ⟨_, _, _, rfl, bts_nil _, Below.refl _ _⟩
  rw [if_neg h1] at e
  have h1' : s.d = false := by cases hq : s.d <;> simp_all
  rw [h1'] at k4
  by_cases h2 : k < 0
  · rw [if_pos (.inl h2)] at e
    injection e with e1 e2
    subst e1 e2
    have d1 : decide (k < 0) = true := decide_eq_true h2
    clear h hd
    go_enter Try.func33, Try.ntmps33
    go_wp2
    go_ret2
    exact ⟨_, _, _, rfl, bts_nil _, Below.refl _ _⟩
  have d1 : decide (k < 0) = false := decide_eq_false h2
  by_cases h3 : (n : Int) ≤ k
  · rw [if_pos (.inr h3)] at e
    injection e with e1 e2
    subst e1 e2
    have d2 : decide ((n : Int) ≤ k) = true := decide_eq_true h3
    clear h hd
    go_enter Try.func33, Try.ntmps33
    go_wp2
    go_ret2
    first
      | exact ⟨_, _, _, rfl, bts_nil _, Below.refl _ _⟩
      | exact ⟨_, _, ⟨_, rfl⟩, bts_nil _, Below.refl _ _⟩
  rw [if_neg (by omega)] at e
  injection e with e1 e2
  subst e1
  obtain ⟨K, rfl⟩ : ∃ K : Nat, k = K := ⟨k.toNat, by omega⟩
  have hK : K < n := by omega
  have d1' : decide ((K : Int) < 0) = false := d1
  have d2 : decide ((n : Int) ≤ K) = false := decide_eq_false h3
  obtain ⟨_, hg, ht, htg, cs, hTb, hcs, hF⟩ := h
  have hL := hF K hK
  cases hq : s.f K with
  | none =>
    rw [hq] at e2 hL
    have hc := hTb.cell K (hL.1 rfl)
    obtain ⟨C, hmk, hz⟩ := make_at
    have HZ := Lib.hid hz
    obtain rfl : zeros = bs := e2
    clear hz hF hL hd hq hTb
    go_enter Try.func33, Try.ntmps33
    go_wp2
    go_ret2
    first
      | exact ⟨_, _, _, rfl, (HZ.out w).bts zeros_lt, below_alloc1 w C⟩
      | exact ⟨_, _, ⟨_, rfl⟩, (HZ.out w).bts zeros_lt, below_alloc1 w C⟩
  | some ys =>
    rw [hq] at e2 hL
    obtain ⟨p, c, e3, _, _, hB⟩ := hL.2 ys rfl
    have hc := hTb.cell K e3
    obtain rfl : ys = bs := e2
    have hA : Below w.heap.size w (w.alloc (.cells #[] 5)) := (Below.refl _ _).alloc (Nat.le_refl _) _
    have HL : Hid (OwnB (w.alloc (.cells #[] 5)) w.heap.size (.slice (some ⟨w.heap.size, 0, none⟩) 0 0) []) := ownB_lit w _ (Nat.le_refl _)
    have HB := Lib.hid (hB.below hA)
    have HA := Lib.hid hA
    have k1' := (Rb.same hd (hA.block g hd.lt)).c1
    have hc' : (w.alloc (.cells #[] 5)).cell? ⟨t, K, none⟩ = some (.slice (some ⟨p, 0, none⟩) 512 c) := (hA.cell (p := ⟨t, K, none⟩) hTb.lt).trans hc
    clear hF hL hd hq hTb hB hA
    go_enter Try.func33, Try.ntmps33
    go_wp2_with (first
      | (at_builtin; refine app_bytes (w0 := w) w.heap.size (Nat.le_refl _) rfl (.tmp 30) (.tmp 37) rfl (.slice (some ⟨w.heap.size, 0, none⟩) 0 0) [] ys (some ⟨p, 0, none⟩) 512 c rfl rfl HL.out HB.out HA.out (by decide) ?_
         intro A1 n1 c1 w2 hn1 ho1 hb1 hg1 hf1
         have HO := Lib.hid ho1
         have HQ := Lib.hid hb1
         clear hn1 ho1 hb1 hg1 hf1))
    go_ret2
    have ho := HO.out
    rw [List.nil_append] at ho
    first
      | exact ⟨_, _, _, rfl, ho.bts HB.out.2.2.1, HQ.out⟩
      | exact ⟨_, _, ⟨_, rfl⟩, ho.bts HB.out.2.2.1, HQ.out⟩
end Go.Proofs.Ytapoeegnnkfgiaa
