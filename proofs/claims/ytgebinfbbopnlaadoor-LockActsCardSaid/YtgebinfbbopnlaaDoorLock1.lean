/- package lock: the orders of runs, by contract. -/
import Derived.Test.YtgebinfbbopnlaaDoorShare1
import Derived.Test.YtgebinfbbopnlaaDoorSlRun
namespace Go.Proofs.YtgebinfbbopnlaaDoor
open Go.RowKit Go.Lib Go.Sort
set_option linter.unusedVariables false
set_option linter.unusedSimpArgs false

theorem or4 (a b c d : Int) : (if a ≠ 0 then a else if b ≠ 0 then b else if c ≠ 0 then c else d) = orI [a, b, c, d] := by
  simp only [orI]
  by_cases h1 : a = 0 <;> by_cases h2 : b = 0 <;> by_cases h3 : c = 0 <;> by_cases h4 : d = 0 <;> simp [h1, h2, h3, h4]
set_option maxHeartbeats 4000000 in
set_option maxRecDepth 100000 in
theorem lockOrder_any (x y : Run) (w : World) : Calls Tryd.prog 55 #[.agg (runC x).toArray, .agg (runC y).toArray] w fun e w' => e = .returned (.int .i64 (lockCf x y)) ∧ Grown w w' := by
  obtain ⟨⟨xn, xg⟩, xo, xf, xt, xw⟩ := x
  obtain ⟨⟨yn, yg⟩, yo, yf, yt, yw⟩ := y
  obtain ⟨c1, h1⟩ : ∃ c, c = Lib.compareInt xn yn := ⟨_, rfl⟩
  obtain ⟨c2, h2⟩ : ∃ c, c = Lib.compareInt xg yg := ⟨_, rfl⟩
  obtain ⟨c3, h3⟩ : ∃ c, c = Lib.compareInt xf yf := ⟨_, rfl⟩
  obtain ⟨c4, h4⟩ : ∃ c, c = Lib.compareInt xo yo := ⟨_, rfl⟩
  have HX := Lib.hid (show lockCf ((xn, xg), xo, xf, xt, xw) ((yn, yg), yo, yf, yt, yw) = orI [c1, c2, c3, c4] by rw [h1, h2, h3, h4]; exact or4 _ _ _ _)
  have C1 := Lib.hid (fun w => (h1 ▸ compare_any xn yn w : Calls Tryd.prog 53 #[.int .i64 xn, .int .i64 yn] w fun e w' => e = .returned (.int .i64 c1) ∧ w' = w))
  have C2 := Lib.hid (fun w => (h2 ▸ compare_any xg yg w : Calls Tryd.prog 53 #[.int .i64 xg, .int .i64 yg] w fun e w' => e = .returned (.int .i64 c2) ∧ w' = w))
  have C3 := Lib.hid (fun w => (h3 ▸ compare_any xf yf w : Calls Tryd.prog 53 #[.int .i64 xf, .int .i64 yf] w fun e w' => e = .returned (.int .i64 c3) ∧ w' = w))
  have C4 := Lib.hid (fun w => (h4 ▸ compare_any xo yo w : Calls Tryd.prog 53 #[.int .i64 xo, .int .i64 yo] w fun e w' => e = .returned (.int .i64 c4) ∧ w' = w))
  have C5 := Lib.hid (show ∀ (b : Nat) (w : World), w.heap[b]? = some (.cells #[.int .i64 c1, .int .i64 c2, .int .i64 c3, .int .i64 c4] 3 (0, 0)) → Calls Tryd.prog 52 #[.slice (some ⟨b, 0, none⟩) 4 4] w fun e w' => e = .returned (.int .i64 (orI [c1, c2, c3, c4])) ∧ w' = w from fun b w hb => or_any [c1, c2, c3, c4] b 3 w hb (by simp))
  clear h1 h2 h3 h4
  unfold runC
  have hb1 := block_alloc w (.cells #[.int .i64 xn, .int .i64 xg, .int .i64 xo, .int .i64 xf, .int .i64 xt, .bool xw] 104)
  have hb1' := block_alloc_old hb1 (.cells #[.int .i64 yn, .int .i64 yg, .int .i64 yo, .int .i64 yf, .int .i64 yt, .bool yw] 104)
  have hb2 := block_alloc (w.alloc (.cells #[.int .i64 xn, .int .i64 xg, .int .i64 xo, .int .i64 xf, .int .i64 xt, .bool xw] 104)) (.cells #[.int .i64 yn, .int .i64 yg, .int .i64 yo, .int .i64 yf, .int .i64 yt, .bool yw] 104)
  have hG := ((Grown.refl w).alloc (.cells #[.int .i64 xn, .int .i64 xg, .int .i64 xo, .int .i64 xf, .int .i64 xt, .bool xw] 104)).alloc (.cells #[.int .i64 yn, .int .i64 yg, .int .i64 yo, .int .i64 yf, .int .i64 yt, .bool yw] 104)
  have HG := Lib.hid hG
  obtain ⟨wx, hwx⟩ : ∃ wx, wx = (w.alloc (.cells #[.int .i64 xn, .int .i64 xg, .int .i64 xo, .int .i64 xf, .int .i64 xt, .bool xw] 104)).alloc (.cells #[.int .i64 yn, .int .i64 yg, .int .i64 yo, .int .i64 yf, .int .i64 yt, .bool yw] 104) := ⟨_, rfl⟩
  rw [← hwx] at hb1' hb2 HG
  simp only [World.size_alloc] at hb2
  have x0 := cell_of hb1' 0
  have y0 := cell_of hb2 0
  have x1 := cell_of hb1' 1
  have y1 := cell_of hb2 1
  have x3 := cell_of hb1' 3
  have y3 := cell_of hb2 3
  have x2 := cell_of hb1' 2
  have y2 := cell_of hb2 2
  simp at x0 x1 x2 x3 y0 y1 y2 y3
  clear hb1 hb1' hb2 hG
  go_enter Tryd.func55, Tryd.ntmps55
  go_wp2_with fail
  rw [← hwx]
  clear hwx
  go_region_held3 (fun w' => w'.cell? ⟨w.heap.size, 0, none⟩ = some (.int .i64 xn) ∧ w'.cell? ⟨w.heap.size, 1, none⟩ = some (.int .i64 xg) ∧ w'.cell? ⟨w.heap.size, 2, none⟩ = some (.int .i64 xo) ∧ w'.cell? ⟨w.heap.size, 3, none⟩ = some (.int .i64 xf) ∧ w'.cell? ⟨w.heap.size + 1, 0, none⟩ = some (.int .i64 yn) ∧ w'.cell? ⟨w.heap.size + 1, 1, none⟩ = some (.int .i64 yg) ∧ w'.cell? ⟨w.heap.size + 1, 2, none⟩ = some (.int .i64 yo) ∧ w'.cell? ⟨w.heap.size + 1, 3, none⟩ = some (.int .i64 yf))
    (first | assumption | exact ⟨x0, x1, x2, x3, y0, y1, y2, y3⟩ | exact ⟨cell_al _ x0, cell_al _ x1, cell_al _ x2, cell_al _ x3, cell_al _ y0, cell_al _ y1, cell_al _ y2, cell_al _ y3⟩)
    (first
      | (go_at_call 53; with_reducible refine (C1.out _).mono ?_; rintro e w2 ⟨rfl, rfl⟩)
      | (go_at_call 53; with_reducible refine (C2.out _).mono ?_; rintro e w2 ⟨rfl, rfl⟩)
      | (go_at_call 53; with_reducible refine (C3.out _).mono ?_; rintro e w2 ⟨rfl, rfl⟩)
      | (go_at_call 53; with_reducible refine (C4.out _).mono ?_; rintro e w2 ⟨rfl, rfl⟩)
      | (go_at_call 52; with_reducible refine (C5.out _ _ (block_drew wx _)).mono ?_; rintro e w2 ⟨rfl, rfl⟩))
  go_wp2_with fail
  go_ret
  refine ⟨by rw [HX.out]; rfl, ?_⟩
  repeat (first | exact HG.out | refine Grown.drew ?_ | refine Grown.alloc ?_ _)
set_option maxHeartbeats 4000000 in
set_option maxRecDepth 100000 in
theorem joinOrder_any (x y : Run) (w : World) : Calls Tryd.prog 51 #[.agg (runC x).toArray, .agg (runC y).toArray] w fun e w' => e = .returned (.int .i64 (joinCf x y)) ∧ Grown w w' := by
  obtain ⟨⟨xn, xg⟩, xo, xf, xt, xw⟩ := x
  obtain ⟨⟨yn, yg⟩, yo, yf, yt, yw⟩ := y
  obtain ⟨c1, h1⟩ : ∃ c, c = Lib.compareInt xn yn := ⟨_, rfl⟩
  obtain ⟨c2, h2⟩ : ∃ c, c = Lib.compareInt xg yg := ⟨_, rfl⟩
  obtain ⟨c3, h3⟩ : ∃ c, c = Lib.compareInt xo yo := ⟨_, rfl⟩
  obtain ⟨c4, h4⟩ : ∃ c, c = Lib.compareInt xf yf := ⟨_, rfl⟩
  have HX := Lib.hid (show joinCf ((xn, xg), xo, xf, xt, xw) ((yn, yg), yo, yf, yt, yw) = orI [c1, c2, c3, c4] by rw [h1, h2, h3, h4]; exact or4 _ _ _ _)
  have C1 := Lib.hid (fun w => (h1 ▸ compare_any xn yn w : Calls Tryd.prog 53 #[.int .i64 xn, .int .i64 yn] w fun e w' => e = .returned (.int .i64 c1) ∧ w' = w))
  have C2 := Lib.hid (fun w => (h2 ▸ compare_any xg yg w : Calls Tryd.prog 53 #[.int .i64 xg, .int .i64 yg] w fun e w' => e = .returned (.int .i64 c2) ∧ w' = w))
  have C3 := Lib.hid (fun w => (h3 ▸ compare_any xo yo w : Calls Tryd.prog 53 #[.int .i64 xo, .int .i64 yo] w fun e w' => e = .returned (.int .i64 c3) ∧ w' = w))
  have C4 := Lib.hid (fun w => (h4 ▸ compare_any xf yf w : Calls Tryd.prog 53 #[.int .i64 xf, .int .i64 yf] w fun e w' => e = .returned (.int .i64 c4) ∧ w' = w))
  have C5 := Lib.hid (show ∀ (b : Nat) (w : World), w.heap[b]? = some (.cells #[.int .i64 c1, .int .i64 c2, .int .i64 c3, .int .i64 c4] 3 (0, 0)) → Calls Tryd.prog 52 #[.slice (some ⟨b, 0, none⟩) 4 4] w fun e w' => e = .returned (.int .i64 (orI [c1, c2, c3, c4])) ∧ w' = w from fun b w hb => or_any [c1, c2, c3, c4] b 3 w hb (by simp))
  clear h1 h2 h3 h4
  unfold runC
  have hb1 := block_alloc w (.cells #[.int .i64 xn, .int .i64 xg, .int .i64 xo, .int .i64 xf, .int .i64 xt, .bool xw] 104)
  have hb1' := block_alloc_old hb1 (.cells #[.int .i64 yn, .int .i64 yg, .int .i64 yo, .int .i64 yf, .int .i64 yt, .bool yw] 104)
  have hb2 := block_alloc (w.alloc (.cells #[.int .i64 xn, .int .i64 xg, .int .i64 xo, .int .i64 xf, .int .i64 xt, .bool xw] 104)) (.cells #[.int .i64 yn, .int .i64 yg, .int .i64 yo, .int .i64 yf, .int .i64 yt, .bool yw] 104)
  have hG := ((Grown.refl w).alloc (.cells #[.int .i64 xn, .int .i64 xg, .int .i64 xo, .int .i64 xf, .int .i64 xt, .bool xw] 104)).alloc (.cells #[.int .i64 yn, .int .i64 yg, .int .i64 yo, .int .i64 yf, .int .i64 yt, .bool yw] 104)
  have HG := Lib.hid hG
  obtain ⟨wx, hwx⟩ : ∃ wx, wx = (w.alloc (.cells #[.int .i64 xn, .int .i64 xg, .int .i64 xo, .int .i64 xf, .int .i64 xt, .bool xw] 104)).alloc (.cells #[.int .i64 yn, .int .i64 yg, .int .i64 yo, .int .i64 yf, .int .i64 yt, .bool yw] 104) := ⟨_, rfl⟩
  rw [← hwx] at hb1' hb2 HG
  simp only [World.size_alloc] at hb2
  have x0 := cell_of hb1' 0
  have y0 := cell_of hb2 0
  have x1 := cell_of hb1' 1
  have y1 := cell_of hb2 1
  have x2 := cell_of hb1' 2
  have y2 := cell_of hb2 2
  have x3 := cell_of hb1' 3
  have y3 := cell_of hb2 3
  simp at x0 x1 x2 x3 y0 y1 y2 y3
  clear hb1 hb1' hb2 hG
  go_enter Tryd.func51, Tryd.ntmps51
  go_wp2_with fail
  rw [← hwx]
  clear hwx
  go_region_held3 (fun w' => w'.cell? ⟨w.heap.size, 0, none⟩ = some (.int .i64 xn) ∧ w'.cell? ⟨w.heap.size, 1, none⟩ = some (.int .i64 xg) ∧ w'.cell? ⟨w.heap.size, 2, none⟩ = some (.int .i64 xo) ∧ w'.cell? ⟨w.heap.size, 3, none⟩ = some (.int .i64 xf) ∧ w'.cell? ⟨w.heap.size + 1, 0, none⟩ = some (.int .i64 yn) ∧ w'.cell? ⟨w.heap.size + 1, 1, none⟩ = some (.int .i64 yg) ∧ w'.cell? ⟨w.heap.size + 1, 2, none⟩ = some (.int .i64 yo) ∧ w'.cell? ⟨w.heap.size + 1, 3, none⟩ = some (.int .i64 yf))
    (first | assumption | exact ⟨x0, x1, x2, x3, y0, y1, y2, y3⟩ | exact ⟨cell_al _ x0, cell_al _ x1, cell_al _ x2, cell_al _ x3, cell_al _ y0, cell_al _ y1, cell_al _ y2, cell_al _ y3⟩)
    (first
      | (go_at_call 53; with_reducible refine (C1.out _).mono ?_; rintro e w2 ⟨rfl, rfl⟩)
      | (go_at_call 53; with_reducible refine (C2.out _).mono ?_; rintro e w2 ⟨rfl, rfl⟩)
      | (go_at_call 53; with_reducible refine (C3.out _).mono ?_; rintro e w2 ⟨rfl, rfl⟩)
      | (go_at_call 53; with_reducible refine (C4.out _).mono ?_; rintro e w2 ⟨rfl, rfl⟩)
      | (go_at_call 52; with_reducible refine (C5.out _ _ (block_drew wx _)).mono ?_; rintro e w2 ⟨rfl, rfl⟩))
  go_wp2_with fail
  go_ret
  refine ⟨by rw [HX.out]; rfl, ?_⟩
  repeat (first | exact HG.out | refine Grown.drew ?_ | refine Grown.alloc ?_ _)
end Go.Proofs.YtgebinfbbopnlaaDoor
