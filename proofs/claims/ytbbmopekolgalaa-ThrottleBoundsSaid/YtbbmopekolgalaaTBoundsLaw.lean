/- The plain law of ThrottleBounds: what passes, over lists and numbers; and the bucket as time goes on. -/
import Derived.Test.YtbbmopekolgalaaTBegins
set_option linter.unusedVariables false
set_option linter.unusedSimpArgs false
namespace Go.Proofs.Ytbbmopekolgalaa
open Go.RowKit

/-- The sum of d numbers from place f on. -/
def sm (ns : List Int) (f : Nat) : Nat → Int
  | 0 => 0
  | d + 1 => sm ns f d + ns.getD (f + d) 0
/-- The tick ahead of a place. -/
def since (ats : List Int) (f : Nat) : Int := if f = 0 then 0 else ats.getD (f - 1) 0

theorem getD_snoc_lt (l : List Int) (x : Int) (i : Nat) (h : i < l.length) : (l ++ [x]).getD i 0 = l.getD i 0 := by
  simp [List.getD_eq_getElem?_getD, List.getElem?_append_left h]
theorem getD_snoc_eq (l : List Int) (x : Int) : (l ++ [x]).getD l.length 0 = x := by
  simp [List.getD_eq_getElem?_getD]
theorem sm_snoc (ns : List Int) (x : Int) (f : Nat) : ∀ d, f + d ≤ ns.length → sm (ns ++ [x]) f d = sm ns f d
  | 0, _ => rfl
  | d + 1, h => by rw [sm, sm, sm_snoc ns x f d (by omega), getD_snoc_lt _ _ _ (by omega)]
theorem sm_all (ns : List Int) (x : Int) (f : Nat) (h : f ≤ ns.length) : sm (ns ++ [x]) f (ns.length + 1 - f) = sm ns f (ns.length - f) + x := by
  rw [show ns.length + 1 - f = (ns.length - f) + 1 by omega, sm, sm_snoc ns x f _ (by omega), show f + (ns.length - f) = ns.length by omega, getD_snoc_eq]
theorem sm_bd (ns : List Int) (M : Int) (hM : 0 ≤ M) (h : ∀ i, 0 ≤ ns.getD i 0 ∧ ns.getD i 0 ≤ M) (f : Nat) : ∀ d : Nat, 0 ≤ sm ns f d ∧ sm ns f d ≤ M * d
  | 0 => by simp [sm]
  | d + 1 => by
    have h1 := sm_bd ns M hM h f d
    have h2 := h (f + d)
    have h3 : M * ((d + 1 : Nat) : Int) = M * d + M := by rw [Int.natCast_add, Int.mul_add]; simp
    rw [sm, h3]; omega
theorem since_snoc (ats : List Int) (x : Int) (f : Nat) (h : f ≤ ats.length) : since (ats ++ [x]) f = since ats f := by
  unfold since
  split
  · rfl
  · exact getD_snoc_lt _ _ _ (by omega)

/-- What has passed so far, and what there is: no more than the burst, and the rate for each tick. -/
structure Inv (b r N V : Int) (ats ns : List Int) : Prop where
  len : ats.length = ns.length
  at_ : ∀ i, 0 ≤ ats.getD i 0 ∧ ats.getD i 0 ≤ N
  n_ : ∀ i, 0 ≤ ns.getD i 0 ∧ ns.getD i 0 ≤ 30
  v0 : 0 ≤ V
  vb : V ≤ b
  N0 : 0 ≤ N
  sum : ∀ f, f < ns.length → sm ns f (ns.length - f) + V ≤ b + r * (N - since ats f)
theorem Inv.start (b r : Int) (hb : 0 ≤ b) : Inv b r 0 0 [] [] :=
  ⟨rfl, fun i => by simp, fun i => by simp, by omega, hb, by omega, fun f h => by simp at h⟩
theorem Inv.since_bd {b r N V : Int} {ats ns : List Int} (h : Inv b r N V ats ns) (f : Nat) : 0 ≤ since ats f ∧ since ats f ≤ N := by
  unfold since
  split
  · exact ⟨by omega, h.N0⟩
  · exact h.at_ _
theorem Inv.step {b r N V : Int} {ats ns : List Int} (h : Inv b r N V ats ns) (hr : 0 ≤ r) (N' V' p : Int) (hN : N ≤ N') (hV : V' = if V + r * (N' - N) < b then V + r * (N' - N) else b) (hp0 : 0 ≤ p) (hp : p ≤ V') (hp30 : p ≤ 30) :
    Inv b r N' (V' - p) (ats ++ [N']) (ns ++ [p]) := by
  have hm : 0 ≤ r * (N' - N) := Int.mul_nonneg hr (by omega)
  have hv0 := h.v0
  have hvb := h.vb
  have hVb : V' ≤ b := by rw [hV]; split <;> omega
  have hVle : V' ≤ V + r * (N' - N) := by rw [hV]; split <;> omega
  refine ⟨by simp [h.len], fun i => ?_, fun i => ?_, by omega, by omega, Int.le_trans h.N0 hN, fun f hf => ?_⟩
  · rcases Nat.lt_trichotomy i ats.length with hi | hi | hi
    · rw [getD_snoc_lt _ _ _ hi]; have := h.at_ i; omega
    · subst hi; rw [getD_snoc_eq]; have := h.N0; omega
    · have : (ats ++ [N']).getD i 0 = 0 := by simp [List.getD_eq_getElem?_getD, List.getElem?_eq_none (show (ats ++ [N']).length ≤ i by simp; omega)]
      rw [this]; have := h.N0; omega
  · rcases Nat.lt_trichotomy i ns.length with hi | hi | hi
    · rw [getD_snoc_lt _ _ _ hi]; exact h.n_ i
    · subst hi; rw [getD_snoc_eq]; omega
    · have : (ns ++ [p]).getD i 0 = 0 := by simp [List.getD_eq_getElem?_getD, List.getElem?_eq_none (show (ns ++ [p]).length ≤ i by simp; omega)]
      rw [this]; omega
  · have hl : (ns ++ [p]).length = ns.length + 1 := by simp
    rw [hl] at hf ⊢
    rw [sm_all ns p f (by omega), since_snoc ats N' f (by rw [h.len]; omega)]
    rcases Nat.lt_or_ge f ns.length with hlt | hge
    · have h1 := h.sum f hlt
      have h2 : r * (N' - since ats f) = r * (N - since ats f) + r * (N' - N) := by
        rw [← Int.mul_add]; congr 1; omega
      rw [h2]; omega
    · have hf' : ns.length - f = 0 := by omega
      rw [hf', sm]
      have h3 : 0 ≤ r * (N' - since ats f) := Int.mul_nonneg hr (by have := h.since_bd f; omega)
      omega

/-- A bucket that comes to v at tick N, where nothing wraps. -/
def RestP (w : World) (g : Nat) (b r N v : Int) : Prop := ∃ x l : Int, Bk w g x b r l ∧ 0 ≤ x ∧ x ≤ b ∧ 0 ≤ l ∧ l ≤ N ∧ v = if x + r * (N - l) < b then x + r * (N - l) else b
theorem RestP.later {w : World} {g : Nat} {b r N v : Int} (h : RestP w g b r N v) (hr : 0 ≤ r) (N' : Int) (hN : N ≤ N') : RestP w g b r N' (if v + r * (N' - N) < b then v + r * (N' - N) else b) := by
  obtain ⟨x, l, hb, h1, h2, h3, h4, rfl⟩ := h
  refine ⟨x, l, hb, h1, h2, h3, by omega, ?_⟩
  have hm : 0 ≤ r * (N' - N) := Int.mul_nonneg hr (by omega)
  have h2 : r * (N' - l) = r * (N - l) + r * (N' - N) := by rw [← Int.mul_add]; congr 1; omega
  rw [h2]
  split <;> split <;> split <;> omega
theorem RestP.rest {w : World} {g : Nat} {b r N v : Int} (h : RestP w g b r N v) (hb : b ≤ 1000) (hr : 0 ≤ r) (hr2 : r ≤ 100) (hN : N ≤ 1000000) : Rest w g b r N v := by
  obtain ⟨x, l, hbk, h1, h2, h3, h4, rfl⟩ := h
  obtain ⟨hm1, hm2⟩ := mul_bd r (N - l) 100 1000000 hr hr2 (by omega) (by omega)
  exact ⟨x, l, hbk, hasV_plain x b r l N h4 (by omega) hm1 (by omega) h1 (by omega) h2, hasL_at _ _ h4⟩
theorem RestP.of {w : World} {g : Nat} {b r N v : Int} (h : Bk w g v b r N) (h0 : 0 ≤ v) (hb : v ≤ b) (hN : 0 ≤ N) : RestP w g b r N v :=
  ⟨v, N, h, h0, hb, hN, Int.le_refl _, by rw [Int.sub_self, Int.mul_zero, Int.add_zero]; split <;> omega⟩
theorem RestP.pass {w : World} {g : Nat} {b r N v : Int} (h : RestP w g b r N v) (hb : b ≤ 1000) (hr : 0 ≤ r) (hr2 : r ≤ 100) (hN0 : 0 ≤ N) (hN : N ≤ 1000000) (hv : 1 ≤ v) (hvb : v ≤ b) :
    Calls Try.prog 14 #[.pointer (some ⟨g, 0, none⟩), .int .i64 N] w fun e w' => e = .returned (.bool true) ∧ RestP w' g b r N (v - 1) ∧ w.grownBy w' (some g) := by
  obtain ⟨x, l, hbk, h1, h2⟩ := h.rest hb hr hr2 hN
  exact (pass_at_yes g x b r l N v (v - 1) N w hbk h1 h2 hv (by unfold wrap64; omega)).mono fun e w' ⟨h1, h2, h3⟩ => ⟨h1, RestP.of h2 (by omega) (by omega) hN0, h3⟩
theorem RestP.no {w : World} {g : Nat} {b r N v : Int} (h : RestP w g b r N v) (hb : b ≤ 1000) (hr : 0 ≤ r) (hr2 : r ≤ 100) (hN0 : 0 ≤ N) (hN : N ≤ 1000000) (hv0 : 0 ≤ v) (hv : v < 1) (hvb : v ≤ b) :
    Calls Try.prog 14 #[.pointer (some ⟨g, 0, none⟩), .int .i64 N] w fun e w' => e = .returned (.bool false) ∧ RestP w' g b r N v ∧ w.grownBy w' (some g) := by
  obtain ⟨x, l, hbk, h1, h2⟩ := h.rest hb hr hr2 hN
  exact (pass_at_no g x b r l N v N w hbk h1 h2 hv).mono fun e w' ⟨h1, h2, h3⟩ => ⟨h1, RestP.of h2 hv0 hvb hN0, h3⟩
end Go.Proofs.Ytbbmopekolgalaa
