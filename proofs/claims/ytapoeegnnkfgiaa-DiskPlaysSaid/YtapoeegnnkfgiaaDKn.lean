/- The disk's example; no condition. -/
import Derived.Test.YtapoeegnnkfgiaaDWith
set_option linter.unusedVariables false
set_option linter.unusedSimpArgs false
namespace Go.Proofs.Ytapoeegnnkfgiaa
open Go.RowKit Go.Proofs.YtapoeegnnkfgiaaW.PrintWords

/-- 512 noughts. -/
def zeros : List Nat := List.replicate 512 0
theorem make_at : ∃ C : Array Value, (∀ W : World, (Instr.makeSlice 31 (.int .i64 512) (.int .i64 512)).run Try.prog W = .ok (.slice (some ⟨W.heap.size, 0, none⟩) 512 512) (W.alloc (.cells C 5))) ∧
    ∀ W : World, OwnB (W.alloc (.cells C 5)) W.heap.size (.slice (some ⟨W.heap.size, 0, none⟩) 512 512) zeros := by
  refine ⟨madeCells #[.int .u8 0] 512, print_make 31 5 .u8 1 Try.underlying31 info5 (by decide) 512 (by decide), fun W => ?_⟩
  have h := own_made W W.heap.size 5 .u8 512 (Nat.le_refl _) (by decide)
  have e : natz zeros = List.replicate 512 0 := by unfold natz zeros; rw [List.map_replicate]; rfl
  unfold OwnB
  rw [e, show zeros.length = 512 from List.length_replicate ..]
  exact h
theorem below_alloc1 (w : World) (C : Array Value) : Below w.heap.size w (w.alloc (.cells C 5)) := (Below.refl _ _).alloc (Nat.le_refl _) _
theorem zeros_lt : ∀ b ∈ zeros, b < 256 := fun b hb => by
  have := List.eq_of_mem_replicate hb
  omega
theorem Db.belowW {w w' : World} {g b : Nat} {n x l : Int} {d : Bool} (h : Db w g n b x l d) (hb : Below w.heap.size w w') : Db w' g n b x l d := blk_below h hb
theorem Dm.belowW {w w' : World} {b n : Nat} {f : Int → Option Nat} (h : Dm w b n f) (hb : Below w.heap.size w w') : Dm w' b n f := h.kept (row := none) ⟨hb.os, hb.tape, hb.output, hb.size, fun i hi _ => hb.block i hi⟩ (by simp)
set_option maxRecDepth 100000 in
set_option maxHeartbeats 2000000 in
theorem dknown_any (w : World) : Calls Try.prog 12 #[] w fun e w' => e = .returned (.bool true) ∧ Below w.heap.size w w' := by
  obtain ⟨C, hmk, hz⟩ := make_at
  have HZ := Lib.hid hz
  clear hz
  go_enter Try.func12, Try.ntmps12
  go_wp2_with (first
    | (go_at_call 13; refine (new_any 2 _ (by decide) (by decide)).mono ?_; rintro e w1 ⟨g, b, rfl, hg, hb, hbg, hd, hm, hq⟩; have HD1 := Lib.hid hd; have HM1 := Lib.hid hm; have HQ1 := Lib.hid hq; clear hd hm hq)
    | (go_at_call 15; refine (cut_any g 2 b 0 (-1) 1 false _ HD1.out (by decide)).mono ?_; rintro e w2 ⟨rfl, hd, ho⟩; have hm := HM1.out.kept ho (fun e => hbg (Option.some.inj e)); have hq := Tr.below (mo := none) HQ1.out (Tr.of ho) HQ1.out.size hg (fun b h => by cases h); have hA := below_alloc1 w2 C; have HD2 := Lib.hid (Db.belowW hd hA); have HM2 := Lib.hid (Dm.belowW hm hA); have HQ2 := Lib.hid (hq.alloc hq.size (.cells C 5)); have HB2 := Lib.hid ((HZ.out w2).bts zeros_lt); have hgs := hd.lt; clear hd ho hm hq hA)
    | (go_at_call_has 16 (Value.int .i64 0); refine (write_pos g 2 b 0 0 1 0 (some ⟨w2.heap.size, 0, none⟩) 512 zeros noneD _ HD2.out HM2.out hbg HB2.out (by decide) (by decide) (by decide) (by decide) (by decide) (fun ad e => by have e2 := Option.some.inj e; rw [← e2]; exact Nat.ne_of_gt hgs) (by decide) (by decide) (by decide)).mono ?_; rintro e w3 ⟨rfl, q, c', hq, ho, hd, hm, ht⟩; have HD3 := Lib.hid hd; have HQ3 := Lib.hid (Tr.below HQ2.out ht HQ2.out.size hg (fun b' h => by (have := Option.some.inj h); omega)); clear hq ho hd hm ht)
    | (go_at_call 16; refine (write_cut g 2 b 1 1 _ 512 _ HD3.out (by decide) (by decide)).mono ?_; rintro e w4 ⟨rfl, hd, ho⟩; have HD4 := Lib.hid hd; have HQ4 := Lib.hid (Tr.below (mo := none) HQ3.out (Tr.of ho) HQ3.out.size hg (fun b h => by cases h)); clear hd ho)
    | (go_at_call 17; refine (dead_any g 2 b 1 0 true _ HD4.out).mono ?_; rintro e w5 ⟨rfl, rfl⟩))
  go_ret
  exact ⟨rfl, HQ4.out⟩
end Go.Proofs.Ytapoeegnnkfgiaa
