/- package share: right, order, and the closures that its methods hand to package slices, by contract. -/
import Derived.Test.YtofhnglgebllbaaDoorShareP
import Derived.Test.YtofhnglgebllbaaDoorCmp
import Derived.Test.YtofhnglgebllbaaDoorMake
import Derived.Deep.RegionHeld3
namespace Go.Proofs.YtofhnglgebllbaaDoor
open Go.RowKit Go.Lib Go.Sort
set_option linter.unusedVariables false
set_option linter.unusedSimpArgs false

set_option maxHeartbeats 1000000 in
theorem right_any (a d : Int) (w : World) : Calls Tryd.prog 111 #[.int .i64 a, .int .i64 d] w fun e w' => e = .returned (.bool (rightP a d)) ∧ w' = w := by
  have hcs : (1 ≤ a ∧ a ≤ 3 ∧ 0 ≤ d ∧ d ≤ 3 ∧ rightP a d = true) ∨ (1 ≤ a ∧ a ≤ 3 ∧ 0 ≤ d ∧ ¬ d ≤ 3 ∧ rightP a d = false) ∨ (1 ≤ a ∧ a ≤ 3 ∧ ¬ 0 ≤ d ∧ d ≤ 3 ∧ rightP a d = false) ∨ (1 ≤ a ∧ ¬ a ≤ 3 ∧ True ∧ True ∧ rightP a d = false) ∨ (¬ 1 ≤ a ∧ True ∧ True ∧ True ∧ rightP a d = false) := by
    unfold rightP
    by_cases h1 : 1 ≤ a <;> by_cases h2 : a ≤ 3 <;> by_cases h3 : 0 ≤ d <;> by_cases h4 : d ≤ 3 <;> simp [h1, h2, h3, h4] <;> omega
  rcases hcs with ⟨h1, h2, h3, h4, hc⟩ | ⟨h1, h2, h3, h4, hc⟩ | ⟨h1, h2, h3, h4, hc⟩ | ⟨h1, h2, h3, h4, hc⟩ | ⟨h1, h2, h3, h4, hc⟩
  all_goals
    rw [hc]
    clear hc
    go_enter Tryd.func111, Tryd.ntmps111
    go_wp2_with fail
    go_ret
    exact ⟨rfl, rfl⟩

/-- The order of opens. -/
def shCf (x y : Opn) : Int := orI [Lib.compareInt x.1.1 y.1.1, Lib.compareInt x.1.2 y.1.2, Lib.compareInt x.2.1 y.2.1]
theorem shCf_lt (x y : Opn) : shCf x y < 0 ↔ x.1.1 < y.1.1 ∨ x.1.1 = y.1.1 ∧ (x.1.2 < y.1.2 ∨ x.1.2 = y.1.2 ∧ x.2.1 < y.2.1) := by
  have key : ∀ a b : Int, Lib.compareInt a b = if a < b then -1 else if a > b then 1 else 0 := fun _ _ => rfl
  unfold shCf
  simp only [orI, key]
  rcases Int.lt_trichotomy x.1.1 y.1.1 with h | h | h
  · simp [h]
  · rcases Int.lt_trichotomy x.1.2 y.1.2 with h2 | h2 | h2
    · simp [h, h2]
    · rcases Int.lt_trichotomy x.2.1 y.2.1 with h3 | h3 | h3
      · simp [h, h2, h3]
      · simp [h, h2, h3]
      · have : ¬ x.2.1 < y.2.1 := by omega
        simp [h, h2, h3, this]
    · have a1 : ¬ x.1.2 < y.1.2 := by omega
      have a2 : ¬ x.1.2 = y.1.2 := by omega
      simp [h, h2, a1, a2]
  · have a1 : ¬ x.1.1 < y.1.1 := by omega
    have a2 : ¬ x.1.1 = y.1.1 := by omega
    simp [h, a1, a2]
theorem swo_sh : SWO (ltOf shCf) where
  irrefl x := by simp only [ltOf, decide_eq_false_iff_not, shCf_lt]; omega
  trans x y z h1 h2 := by simp only [ltOf, decide_eq_true_eq, shCf_lt] at *; omega
  ntrans x y z h1 h2 := by simp only [ltOf, decide_eq_false_iff_not, shCf_lt] at *; omega

/-- Grown and drawn on. -/
def Grown (w w' : World) : Prop := ∃ q os, w' = grow (w.drewN q) os
theorem Grown.refl (w : World) : Grown w w := ⟨0, #[], by rw [grow_empty]; rfl⟩
theorem Grown.drew {w a : World} (h : Grown w a) : Grown w a.drew := by
  obtain ⟨q, os, rfl⟩ := h; exact ⟨q + 1, os, rfl⟩
theorem Grown.alloc {w a : World} (h : Grown w a) (o : Obj) : Grown w (a.alloc o) := by
  obtain ⟨q, os, rfl⟩ := h; exact ⟨q, os ++ #[o], by rw [← grow_grow]; exact alloc_eq_grow _ _⟩
theorem block_drew (w : World) (o : Obj) : (w.alloc o).drew.heap[w.heap.size]? = some o := block_alloc w o
theorem cell_al {W : World} {a : Addr} {v : Value} (o : Obj) (h : W.cell? a = some v) : (W.alloc o).cell? a = some v := Lib.cell?_alloc_some o h
set_option maxHeartbeats 4000000 in
set_option maxRecDepth 100000 in
theorem shOrder_any (x y : Opn) (w : World) : Calls Tryd.prog 120 #[.agg (opnC x).toArray, .agg (opnC y).toArray] w fun e w' => e = .returned (.int .i64 (shCf x y)) ∧ Grown w w' := by
  obtain ⟨⟨xn, xg⟩, xo, xa, xd⟩ := x
  obtain ⟨⟨yn, yg⟩, yo, ya, yd⟩ := y
  obtain ⟨c1, h1⟩ : ∃ c, c = Lib.compareInt xn yn := ⟨_, rfl⟩
  obtain ⟨c2, h2⟩ : ∃ c, c = Lib.compareInt xg yg := ⟨_, rfl⟩
  obtain ⟨c3, h3⟩ : ∃ c, c = Lib.compareInt xo yo := ⟨_, rfl⟩
  have HX := Lib.hid (show shCf ((xn, xg), xo, xa, xd) ((yn, yg), yo, ya, yd) = orI [c1, c2, c3] by rw [h1, h2, h3]; rfl)
  have C1 := Lib.hid (fun w => (h1 ▸ compare_any xn yn w : Calls Tryd.prog 181 #[.int .i64 xn, .int .i64 yn] w fun e w' => e = .returned (.int .i64 c1) ∧ w' = w))
  have C2 := Lib.hid (fun w => (h2 ▸ compare_any xg yg w : Calls Tryd.prog 181 #[.int .i64 xg, .int .i64 yg] w fun e w' => e = .returned (.int .i64 c2) ∧ w' = w))
  have C3 := Lib.hid (fun w => (h3 ▸ compare_any xo yo w : Calls Tryd.prog 181 #[.int .i64 xo, .int .i64 yo] w fun e w' => e = .returned (.int .i64 c3) ∧ w' = w))
  have C4 := Lib.hid (show ∀ (b : Nat) (w : World), w.heap[b]? = some (.cells #[.int .i64 c1, .int .i64 c2, .int .i64 c3] 3 (0, 0)) → Calls Tryd.prog 180 #[.slice (some ⟨b, 0, none⟩) 3 3] w fun e w' => e = .returned (.int .i64 (orI [c1, c2, c3])) ∧ w' = w from fun b w hb => or_any [c1, c2, c3] b 3 w hb (by simp))
  clear h1 h2 h3
  unfold opnC
  have hb1 := block_alloc w (.cells #[.int .i64 xn, .int .i64 xg, .int .i64 xo, .int .i64 xa, .int .i64 xd] 76)
  have hb1' := block_alloc_old hb1 (.cells #[.int .i64 yn, .int .i64 yg, .int .i64 yo, .int .i64 ya, .int .i64 yd] 76)
  have hb2 := block_alloc (w.alloc (.cells #[.int .i64 xn, .int .i64 xg, .int .i64 xo, .int .i64 xa, .int .i64 xd] 76)) (.cells #[.int .i64 yn, .int .i64 yg, .int .i64 yo, .int .i64 ya, .int .i64 yd] 76)
  have hG := ((Grown.refl w).alloc (.cells #[.int .i64 xn, .int .i64 xg, .int .i64 xo, .int .i64 xa, .int .i64 xd] 76)).alloc (.cells #[.int .i64 yn, .int .i64 yg, .int .i64 yo, .int .i64 ya, .int .i64 yd] 76)
  have HG := Lib.hid hG
  obtain ⟨wx, hwx⟩ : ∃ wx, wx = (w.alloc (.cells #[.int .i64 xn, .int .i64 xg, .int .i64 xo, .int .i64 xa, .int .i64 xd] 76)).alloc (.cells #[.int .i64 yn, .int .i64 yg, .int .i64 yo, .int .i64 ya, .int .i64 yd] 76) := ⟨_, rfl⟩
  rw [← hwx] at hb1' hb2 HG
  simp only [World.size_alloc] at hb2
  have x0 := cell_of hb1' 0
  have x1 := cell_of hb1' 1
  have x2 := cell_of hb1' 2
  have y0 := cell_of hb2 0
  have y1 := cell_of hb2 1
  have y2 := cell_of hb2 2
  simp at x0 x1 x2 y0 y1 y2
  clear hb1 hb1' hb2 hG
  go_enter Tryd.func120, Tryd.ntmps120
  go_wp2_with fail
  rw [← hwx]
  clear hwx
  go_region_held3 (fun w' => w'.cell? ⟨w.heap.size, 0, none⟩ = some (.int .i64 xn) ∧ w'.cell? ⟨w.heap.size, 1, none⟩ = some (.int .i64 xg) ∧ w'.cell? ⟨w.heap.size, 2, none⟩ = some (.int .i64 xo) ∧ w'.cell? ⟨w.heap.size + 1, 0, none⟩ = some (.int .i64 yn) ∧ w'.cell? ⟨w.heap.size + 1, 1, none⟩ = some (.int .i64 yg) ∧ w'.cell? ⟨w.heap.size + 1, 2, none⟩ = some (.int .i64 yo))
    (first | assumption | exact ⟨x0, x1, x2, y0, y1, y2⟩ | exact ⟨cell_al _ x0, cell_al _ x1, cell_al _ x2, cell_al _ y0, cell_al _ y1, cell_al _ y2⟩)
    (first
      | (go_at_call 181; with_reducible refine (C1.out _).mono ?_; rintro e w2 ⟨rfl, rfl⟩)
      | (go_at_call 181; with_reducible refine (C2.out _).mono ?_; rintro e w2 ⟨rfl, rfl⟩)
      | (go_at_call 181; with_reducible refine (C3.out _).mono ?_; rintro e w2 ⟨rfl, rfl⟩)
      | (go_at_call 180; with_reducible refine (C4.out _ _ (block_drew wx _)).mono ?_; rintro e w2 ⟨rfl, rfl⟩))
  go_wp2_with fail
  go_ret
  refine ⟨by rw [HX.out]; rfl, ?_⟩
  repeat (first | exact HG.out | refine Grown.drew ?_ | refine Grown.alloc ?_ _)
end Go.Proofs.YtofhnglgebllbaaDoor
