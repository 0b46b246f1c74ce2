/- The disk's state, told: what a Disk of the program's holds, and how each call turns it; no condition. -/
import Derived.Test.YtapoeegnnkfgiaaDBlk
set_option linter.unusedVariables false
set_option linter.unusedSimpArgs false
namespace Go.Proofs.Ytapoeegnnkfgiaa
open Go.RowKit Go.Proofs.YtapoeegnnkfgiaaW.PrintWords

/-- Writes that were done; writes that are left; whether the power is gone; the blocks that were written. -/
structure DS where
  x : Int
  l : Int
  d : Bool
  f : Int → Option (List Nat)
def DS.new : DS := ⟨0, -1, false, fun _ => none⟩
def DS.wr (s : DS) (n k : Int) (len : Nat) (ys : List Nat) : Int × DS :=
  if s.d = true then (12, s) else if k < 0 ∨ n ≤ k ∨ len ≠ 512 then (1, s) else if s.l = 0 then (12, ⟨s.x, s.l, true, s.f⟩) else (0, ⟨s.x + 1, if 0 < s.l then s.l - 1 else s.l, false, fun j => if j = k then some ys else s.f j⟩)
def DS.rd (s : DS) (n k : Int) : Int × List Nat :=
  if s.d = true then (12, []) else if k < 0 ∨ n ≤ k then (1, []) else (0, (s.f k).getD zeros)
def DS.cut (s : DS) (k : Int) : DS := ⟨s.x, if k < -1 then -1 else k, s.d, s.f⟩
def DS.start (s : DS) : DS := ⟨s.x, -1, false, s.f⟩
def DS.ok (s : DS) (m : Nat) : Prop := 0 ≤ s.x ∧ s.x ≤ m ∧ -1 ≤ s.l ∧ s.l ≤ 9223372036854775807
theorem DS.ok_new : DS.new.ok 0 := ⟨by decide, by decide, by decide, by decide⟩
theorem DS.ok.mono {s : DS} {m m' : Nat} (h : s.ok m) (hm : m ≤ m') : s.ok m' := ⟨h.1, by have := h.2.1; omega, h.2.2⟩
theorem DS.ok.wr {s s' : DS} {m len : Nat} {n k r : Int} {ys : List Nat} (h : s.ok m) (e : s.wr n k len ys = (r, s')) : s'.ok (m + 1) := by
  obtain ⟨h1, h2, h3, h4⟩ := h
  unfold DS.wr at e
  split at e
  · injection e with _ e; subst e; exact ⟨h1, by omega, h3, h4⟩
  · split at e
    · injection e with _ e; subst e; exact ⟨h1, by omega, h3, h4⟩
    · split at e
      · injection e with _ e; subst e; exact ⟨h1, by show s.x ≤ _; omega, h3, h4⟩
      · injection e with _ e; subst e
        refine ⟨by show 0 ≤ s.x + 1; omega, by show s.x + 1 ≤ _; omega, ?_, ?_⟩ <;> (show _ ≤ _; dsimp only; split <;> omega)
theorem DS.ok.start {s : DS} {m : Nat} (h : s.ok m) : s.start.ok m := ⟨h.1, h.2.1, by show (-1 : Int) ≤ -1; omega, by show (-1 : Int) ≤ _; omega⟩
theorem DS.ok.cut {s : DS} {m : Nat} (h : s.ok m) {k : Int} (hk : k ≤ 9223372036854775807) : (s.cut k).ok m :=
  ⟨h.1, h.2.1, by show (-1 : Int) ≤ if k < -1 then -1 else k; split <;> omega, by show (if k < -1 then (-1 : Int) else k) ≤ _; split <;> omega⟩

theorem Dm.same {w w' : World} {b n : Nat} {f : Int → Option Nat} (h : Dm w b n f) (e : w'.heap[b]? = w.heap[b]?) : Dm w' b n f := by
  obtain ⟨D, ⟨es, clock, hb, F, hs, hD⟩, hf⟩ := h
  exact ⟨D, ⟨es, clock, e.trans hb, F, hs, hD⟩, hf⟩
theorem Dm.mono {w : World} {b n n' : Nat} {f : Int → Option Nat} (h : Dm w b n f) (e : n ≤ n') : Dm w b n' f := by
  obtain ⟨D, h, hf⟩ := h
  exact ⟨D, h.mono e, hf⟩
theorem Db.same {w w' : World} {g b : Nat} {n x l : Int} {d : Bool} (h : Db w g n b x l d) (e : w'.heap[g]? = w.heap[g]?) : Db w' g n b x l d := Eq.trans e h

/-- How a block's bytes lie: none, or a row of their own from T on, which is not av. -/
def Lie (w : World) (T : Nat) (av : Option Nat) (o : Option (List Nat)) (q : Option Nat) : Prop :=
  (o = none → q = none) ∧ ∀ ys, o = some ys → ∃ p, q = some p ∧ T ≤ p ∧ some p ≠ av ∧ Bts w (some ⟨p, 0, none⟩) 512 ys
theorem Lie.same {w w' : World} {T : Nat} {av : Option Nat} {o : Option (List Nat)} {q : Option Nat} (h : Lie w T av o q) (hs : ∀ i, i < w.heap.size → T ≤ i → some i ≠ av → w'.heap[i]? = w.heap[i]?) : Lie w' T av o q :=
  ⟨h.1, fun ys e => by
    obtain ⟨p, e1, h1, h2, h3⟩ := h.2 ys e
    exact ⟨p, e1, h1, h2, h3.same (fun ad e2 _ => by
      have h4 := h3.old (by decide) _ rfl
      have e3 := Option.some.inj e2
      rw [← e3]
      exact hs p h4 h1 h2)⟩⟩
theorem Lie.avoid {w : World} {T p : Nat} {o : Option (List Nat)} {q av : Option Nat} (h : Lie w T av o q) (hp : w.heap.size ≤ p) : Lie w T (some p) o q :=
  ⟨h.1, fun ys e => by
    obtain ⟨p', e1, h1, h2, h3⟩ := h.2 ys e
    have h4 : p' < w.heap.size := h3.old (by decide) _ rfl
    exact ⟨p', e1, h1, fun e2 => by have := Option.some.inj e2; omega, h3⟩⟩
theorem Lie.free {w : World} {T : Nat} {o : Option (List Nat)} {q av : Option Nat} (h : Lie w T av o q) : Lie w T none o q :=
  ⟨h.1, fun ys e => by
    obtain ⟨p', e1, h1, h2, h3⟩ := h.2 ys e
    exact ⟨p', e1, h1, by simp, h3⟩⟩

/-- A Disk of the program's: block g, its map's block b; both below T, the bytes from T on. -/
def Pd (w : World) (T : Nat) (av : Option Nat) (g b n m : Nat) (s : DS) : Prop :=
  Db w g n b s.x s.l s.d ∧ g < T ∧ b < T ∧ b ≠ g ∧ ∃ F, Dm w b m F ∧ ∀ k, Lie w T av (s.f k) (F k)
section
variable {w w' : World} {T g b n m : Nat} {av : Option Nat} {s : DS}
theorem Pd.frame (h : Pd w T av g b n m s) (hs : ∀ i, i < w.heap.size → (i = g ∨ i = b ∨ (T ≤ i ∧ some i ≠ av)) → w'.heap[i]? = w.heap[i]?) : Pd w' T av g b n m s := by
  obtain ⟨h1, h2, h3, h4, F, h5, h6⟩ := h
  exact ⟨h1.same (hs g h1.lt (.inl rfl)), h2, h3, h4, F, h5.same (hs b h5.lt (.inr (.inl rfl))), fun k => (h6 k).same (fun i hi a b => hs i hi (.inr (.inr ⟨a, b⟩)))⟩
theorem Pd.below (h : Pd w T av g b n m s) (hb : Below w.heap.size w w') : Pd w' T av g b n m s := h.frame (fun i hi _ => hb.block i hi)
theorem Pd.avoid {p : Nat} (h : Pd w T av g b n m s) (hp : w.heap.size ≤ p) : Pd w T (some p) g b n m s := by
  obtain ⟨h1, h2, h3, h4, F, h5, h6⟩ := h
  exact ⟨h1, h2, h3, h4, F, h5, fun k => (h6 k).avoid hp⟩
theorem Pd.free (h : Pd w T av g b n m s) : Pd w T none g b n m s := by
  obtain ⟨h1, h2, h3, h4, F, h5, h6⟩ := h
  exact ⟨h1, h2, h3, h4, F, h5, fun k => (h6 k).free⟩
theorem Pd.mono {m' : Nat} (h : Pd w T av g b n m s) (hm : m ≤ m') : Pd w T av g b n m' s := by
  obtain ⟨h1, h2, h3, h4, F, h5, h6⟩ := h
  exact ⟨h1, h2, h3, h4, F, h5.mono hm, h6⟩
theorem Pd.db (h : Pd w T av g b n m s) : Db w g n b s.x s.l s.d := h.1
theorem Pd.set {s' : DS} (h : Pd w T av g b n m s) (hd : Db w' g n b s'.x s'.l s'.d) (ho : w.grownBy w' (some g)) (hf : s'.f = s.f) : Pd w' T av g b n m s' := by
  obtain ⟨h1, h2, h3, h4, F, h5, h6⟩ := h
  refine ⟨hd, h2, h3, h4, F, h5.kept ho (fun e => h4 (Option.some.inj e)), fun k => ?_⟩
  rw [hf]
  exact (h6 k).same (fun i hi a b => ho.block i hi (fun e => by have := Option.some.inj e; omega))
theorem Pd.put {q c' : Nat} {k : Int} {ys : List Nat} {F : Int → Option Nat} {s' : DS} (h : Pd w T av g b n m s) (hF : ∀ k, Lie w T av (s.f k) (F k)) (hd : Db w' g n b s'.x s'.l s'.d) (hm : Dm w' b (m + 1) (updD F k q)) (hq : w.heap.size ≤ q) (ho : OwnB w' w.heap.size (.slice (some ⟨q, 0, none⟩) 512 c') ys) (hy : ∀ y ∈ ys, y < 256)
    (ht : Tr w w' g (some b)) (hT : T ≤ w.heap.size) (hav : ∀ p, av = some p → p < w.heap.size) (hf : s'.f = fun j => if j = k then some ys else s.f j) : Pd w' T av g b n (m + 1) s' := by
  obtain ⟨h1, h2, h3, h4, _, h5, h6⟩ := h
  refine ⟨hd, h2, h3, h4, _, hm, fun j => ?_⟩
  rw [hf]
  unfold updD
  by_cases e : j = k
  · rw [if_pos e]
    dsimp only
    rw [if_pos e]
    refine ⟨(fun e => by cases e), fun ys' e' => ⟨q, rfl, by omega, fun e2 => ?_, ?_⟩⟩
    · have := hav q e2.symm; omega
    · cases e'
      exact ho.bts hy
  · rw [if_neg e]
    dsimp only
    rw [if_neg e]
    exact (hF j).same (fun i hi a b => ht.block i hi (by omega) (fun e => by have := Option.some.inj e; omega))
end

set_option maxHeartbeats 2000000 in
theorem write_ds (T g b n m : Nat) (av : Option Nat) (s s' : DS) (k r : Int) (a : Option Addr) (len c : Nat) (ys : List Nat) (w : World) (h : Pd w T av g b n m s) (hok : s.ok m) (hB : Bts w a len ys) (hn : n ≤ 16384) (hT : T ≤ w.heap.size) (hav : ∀ p, av = some p → p < w.heap.size)
    (hag : 0 < len → ∀ ad, a = some ad → ad.block ≠ g) (hm : m ≤ 999) (hrs : Hid (s.wr n k len ys = (r, s'))) :
    Calls Try.prog 16 #[.pointer (some ⟨g, 0, none⟩), .int .i64 k, .slice a len c] w fun e w' => e = .returned (.int .i64 r) ∧ Pd w' T av g b n (m + 1) s' ∧ Tr w w' g (some b) := by
  have e := hrs.out
  obtain ⟨hx0, hx1, hl0, hl1⟩ := hok
  have hd := h.1
  unfold DS.wr at e
  by_cases h1 : s.d = true
  · rw [if_pos h1] at e
    injection e with e1 e2
    subst e1 e2
    rw [h1] at hd
    refine (write_dead g n b _ _ k _ w hd).mono ?_
    rintro e w' ⟨rfl, rfl⟩
    exact ⟨rfl, h.mono (Nat.le_succ _), Tr.refl _ _ _⟩
  rw [if_neg h1] at e
  have h1' : s.d = false := by cases hq : s.d <;> simp_all
  rw [h1'] at hd
  by_cases h2 : k < 0 ∨ (n : Int) ≤ k ∨ len ≠ 512
  · rw [if_pos h2] at e
    injection e with e1 e2
    subst e1 e2
    refine (write_arg g n b _ _ k a len c w hd h2).mono ?_
    rintro e w' ⟨rfl, rfl⟩
    exact ⟨rfl, h.mono (Nat.le_succ _), Tr.refl _ _ _⟩
  rw [if_neg h2] at e
  obtain ⟨k0, k1, k2⟩ : 0 ≤ k ∧ k < n ∧ len = 512 := by omega
  subst k2
  by_cases h3 : s.l = 0
  · rw [if_pos h3] at e
    injection e with e1 e2
    subst e1 e2
    rw [h3] at hd
    refine (write_cut g n b _ k a c w hd k0 k1).mono ?_
    rintro e w' ⟨rfl, hd', ho⟩
    exact ⟨rfl, (h.set (s' := ⟨s.x, s.l, true, s.f⟩) (by dsimp only; rw [h3]; exact hd') ho rfl).mono (Nat.le_succ _), Tr.of ho⟩
  rw [if_neg h3] at e
  injection e with e1 e2
  obtain ⟨_, hg, hb, hbg, F, hM, hF⟩ := id h
  by_cases h4 : 0 < s.l
  · rw [if_pos h4] at e2
    subst e1 e2
    refine (write_pos g n b m _ _ k a c ys F w hd hM hbg hB k0 k1 (by omega) h4 hl1 (hag (by decide)) hx0 (by omega) (by omega)).mono ?_
    rintro e w' ⟨rfl, q, c', hq, ho, hd', hm', ht⟩
    exact ⟨rfl, h.put hF hd' hm' hq ho hB.2.2.1 ht hT hav rfl, ht⟩
  · rw [if_neg h4] at e2
    subst e1 e2
    refine (write_neg g n b m _ _ k a c ys F w hd hM hbg hB k0 k1 (by omega) (by omega) hx0 (by omega) (by omega)).mono ?_
    rintro e w' ⟨rfl, q, c', hq, ho, hd', hm', ht⟩
    exact ⟨rfl, h.put hF hd' hm' hq ho hB.2.2.1 ht hT hav rfl, ht⟩
end Go.Proofs.Ytapoeegnnkfgiaa
