/- Package nodes: Attr of a handle that is gone, by contract; law1's fresh. -/
import Derived.Test.YtdhegblgghembaaDoorNodes4
namespace Go.Proofs.YtdhegblgghembaaDoor
open Go.RowKit
set_option linter.unusedVariables false
set_option linter.unusedSimpArgs false

abbrev zero6 : Array Value := #[.int .i64 0, .int .i64 0, .int .i64 0, .int .i64 0, .int .i64 0, .int .i64 0]
theorem store6 {w : World} {r : Nat} {T : TypeId} (h : w.heap[r]? = some (.cells zero6 T (0, 0))) :
    ∃ W, W = ((((((w.setCell ⟨r, 0, none⟩ (.int .i64 0)).setCell ⟨r, 1, none⟩ (.int .i64 0)).setCell ⟨r, 2, none⟩ (.int .i64 0)).setCell ⟨r, 3, none⟩ (.int .i64 0)).setCell ⟨r, 4, none⟩ (.int .i64 0)).setCell ⟨r, 5, none⟩ (.int .i64 0)) ∧ W.heap[r]? = some (.cells zero6 T (0, 0)) ∧ Chg (· = r) w W := by
  refine ⟨_, rfl, ?_, (((((chg_at w r 0 _).then (chg_at _ r 1 _)).then (chg_at _ r 2 _)).then (chg_at _ r 3 _)).then (chg_at _ r 4 _)).then (chg_at _ r 5 _)⟩
  have := block_setCell (block_setCell (block_setCell (block_setCell (block_setCell (block_setCell h 0 (.int .i64 0)) 1 (.int .i64 0)) 2 (.int .i64 0)) 3 (.int .i64 0)) 4 (.int .i64 0)) 5 (.int .i64 0)
  simpa using this

set_option maxHeartbeats 2000000 in
set_option maxRecDepth 100000 in
theorem nattr_stale {B : Nat} (ad : Nat → Addr) (b : Nat) (n g : Int) (ps : List (Option Nat)) (gs : List Int) (vl vg : Value) (T : TypeId) (Sl Sg : Nat → Prop) (w : World) (he : Env B ad [10] w) (ht : TabAt w b ps gs vl vg T Sl Sg) (hl : ps.length = gs.length) (hr : ∀ x ∈ gs, 0 ≤ x ∧ x ≤ 1000000) (hs : atOf ps gs n g = none) :
    Calls Tryd.prog 19 #[.pointer (some ⟨b, 0, none⟩), hdlV n g] w fun e w' => e = .returned (.tuple #[.agg zero6, errV ad 10]) ∧ Chg Nil w w' := by
  have ha := ((Chg.refl Nil w).alloc (.cells #[.int .i64 n, .int .i64 g] 31)).alloc (.cells zero6 36)
  have HAT := Lib.hid (nat_any (B := B) ad b n g ps gs vl vg T Sl Sg _ (he.keepN ha) (ht.same ha) hl hr)
  rw [hs] at HAT
  have HA := Lib.hid ha
  have hbx := block_alloc (w.alloc (.cells #[.int .i64 n, .int .i64 g] 31)) (.cells zero6 36)
  simp only [World.size_alloc] at hbx
  have HBX := Lib.hid hbx
  clear he ht hl hr hs ha hbx
  unfold hdlV at *
  go_enter Tryd.func19, Tryd.ntmps19
  go_wp2_with fail
  refine HAT.out.mono ?_
  rintro e w2 ⟨rfl, hc2⟩
  simp only [Option.isSome_none, Bool.false_eq_true, if_false, ptrV, Option.map_none, errV_pos (ad := ad) (c := 10) (by decide)]
  have hb2 := hc2.keep HBX.out (fun f => f)
  have x0 := cell_of hb2 0
  have x1 := cell_of hb2 1
  have x2 := cell_of hb2 2
  have x3 := cell_of hb2 3
  have x4 := cell_of hb2 4
  have x5 := cell_of hb2 5
  have f0 := free_of hb2 0
  have f1 := free_of hb2 1
  have f2 := free_of hb2 2
  have f3 := free_of hb2 3
  have f4 := free_of hb2 4
  have f5 := free_of hb2 5
  have gx := lt_of_block hb2
  simp at x0 x1 x2 x3 x4 x5
  have HB2 := Lib.hid hb2
  clear hb2
  go_wp2_with fail
  obtain ⟨W, hW, q1, q2⟩ := store6 HB2.out
  rw [← hW]
  clear hW
  have hC : Chg Nil w W := (HA.out.then hc2).trans q2 (fun y hy e => by have : y = w.heap.size + 1 := e; omega)
  have k0 := cell_of q1 0
  have k1 := cell_of q1 1
  have k2 := cell_of q1 2
  have k3 := cell_of q1 3
  have k4 := cell_of q1 4
  have k5 := cell_of q1 5
  simp at k0 k1 k2 k3 k4 k5
  (try simp only [Exit.inBlock, Exit.then])
  refine bodyPost_ret (by simp [results, Tryd.results19, go_sem, k0, k1, k2, k3, k4, k5]; try rfl) rfl ?_
  exact ⟨rfl, hC⟩

theorem free0_rep (n : Nat) (h : 1 ≤ n) : free0 (List.replicate n none) = some 0 := by
  obtain ⟨m, rfl⟩ : ∃ m, n = m + 1 := ⟨n - 1, by omega⟩
  rfl
set_option maxHeartbeats 2000000 in
set_option maxRecDepth 100000 in
theorem fresh_any (w : World) : Calls Tryd.prog 15 #[] w fun e w' => e = .returned (.bool true) ∧ Chg Nil w w' := by
  go_enter Tryd.func15, Tryd.ntmps15
  go_wp2_with fail
  refine (nnew_any 2 w (by omega) (by omega)).mono ?_
  rintro e w2 ⟨b, vl, vg, T, Sl, Sg, rfl, hc2, ht2, hb, hSl, hSg⟩
  have HT2 := Lib.hid ht2
  have hz := hc2.size
  clear ht2
  go_wp2_with fail
  refine (nadd_ok b 0 1 0 _ _ vl vg T Sl Sg w2 HT2.out (.inl rfl) (by simp) (by simp) (free0_rep 2 (by omega)) rfl (by omega)).mono ?_
  rintro e w3 ⟨nb, hnb, rfl, hc3, ht3, _⟩
  have hC3 : Chg Nil w w3 := hc2.trans hc3 (fun x hx h => by rcases h with h | h; have := hSl x h; omega; have := hSg x h; omega)
  have hCt := fun W (c : Chg Nil w3 W) => ncount_any b _ _ vl vg T Sl Sg W (ht3.same c) (by simp)
  have HCT := Lib.hid hCt
  have HC3 := Lib.hid hC3
  clear ht3 hCt
  unfold hdlV
  go_wp2_with fail
  refine (HCT.out _ ((Chg.refl Nil w3).alloc _)).mono ?_
  rintro e w4 ⟨rfl, hc4⟩
  rw [show usedN ((List.replicate 2 none).set 0 (some nb)) = 1 from rfl]
  go_wp2_with fail
  go_ret
  exact ⟨rfl, (HC3.out.alloc _).then hc4⟩
end Go.Proofs.YtdhegblgghembaaDoor
