/- Package nodes: Add by contract. -/
import Derived.Test.YtgebinfbbopnlaaDoorNodes3
namespace Go.Proofs.YtgebinfbbopnlaaDoor
open Go.RowKit
set_option linter.unusedVariables false
set_option linter.unusedSimpArgs false

set_option maxHeartbeats 1000000 in
set_option maxRecDepth 100000 in
theorem nadd_bad {B : Nat} (ad : Nat → Addr) (b : Nat) (kind : Int) (w : World) (he : Env B ad [3] w) (hk : ¬ kind = 1) (hk2 : ¬ kind = 2) :
    Calls Tryd.prog 8 #[.pointer (some ⟨b, 0, none⟩), .int .i64 kind] w fun e w' => e = .returned (.tuple #[hdlV 0 0, errV ad 3]) ∧ Chg Nil w w' := by
  obtain ⟨q1, q1l⟩ := he.get (c := 3) (by simp)
  simp only [gl] at q1 q1l
  clear he
  unfold hdlV
  have d1 : (kind != 1) = true := by simpa using hk
  have d2 : (kind != 2) = true := by simpa using hk2
  clear hk hk2
  go_enter Tryd.func8, Tryd.ntmps8
  go_wp2_with fail
  go_region
  go_wp2_with fail
  have k0 : (w.alloc (.cells #[.int .i64 0, .int .i64 0] 33)).drew.cell? ⟨w.heap.size, 0, none⟩ = some (.int .i64 0) := by simp
  have k1 : (w.alloc (.cells #[.int .i64 0, .int .i64 0] 33)).drew.cell? ⟨w.heap.size, 1, none⟩ = some (.int .i64 0) := by simp
  have hC := ((Chg.refl Nil w).alloc (.cells #[.int .i64 0, .int .i64 0] 33)).drew
  revert k0 k1 hC
  generalize (w.alloc (.cells #[.int .i64 0, .int .i64 0] 33)).drew = w3
  intro k0 k1 hC
  (try simp only [Exit.inBlock, Exit.then])
  refine bodyPost_ret (by simp [results, Tryd.results8, go_sem, k0, k1]; try rfl) rfl ?_
  exact ⟨rfl, hC⟩

set_option maxHeartbeats 2000000 in
set_option maxRecDepth 100000 in
theorem nadd_full {B : Nat} (ad : Nat → Addr) (b : Nat) (kind : Int) (ps : List (Option Nat)) (gs : List Int) (vl vg : Value) (T : TypeId) (Sl Sg : Nat → Prop) (w : World) (he : Env B ad [9] w) (ht : TabAt w b ps gs vl vg T Sl Sg) (hk : kind = 1 ∨ kind = 2) (hl : ps.length ≤ 300) (hf : free0 ps = none) :
    Calls Tryd.prog 8 #[.pointer (some ⟨b, 0, none⟩), .int .i64 kind] w fun e w' => e = .returned (.tuple #[hdlV 0 0, errV ad 9]) ∧ Chg Nil w w' := by
  have ha := (Chg.refl Nil w).alloc (.cells #[.int .i64 0, .int .i64 0] 33)
  have hix : free0I ps = -1 := by unfold free0I; rw [hf]
  have HIX := Lib.hid (nindex_any vl ps Sl _ (ht.same ha).l hl)
  rw [hix] at HIX
  have HE := Lib.hid (he.keepN ha)
  obtain ⟨_, q9⟩ := he.get (c := 9) (by simp)
  simp only [gl] at q9
  have hne : ¬ (2 = w.heap.size) := Nat.ne_of_lt q9
  have HA := Lib.hid ha
  have HBX := Lib.hid (block_alloc w (.cells #[.int .i64 (0 : Int), .int .i64 0] 33))
  have e0 := cell_of (ht).blk 0
  have gb := lt_of_block ht.blk
  simp at e0
  clear he ht hl hf hix ha
  unfold hdlV
  rcases hk with rfl | rfl
  all_goals
    go_enter Tryd.func8, Tryd.ntmps8
    go_wp2_with fail
    refine HIX.out.mono ?_
    rintro e w2 ⟨rfl, hc2⟩
    obtain ⟨q1, q1l⟩ := (HE.out.keepN hc2).get (c := 9) (by simp)
    simp only [gl] at q1 q1l
    have hb2 := hc2.keep HBX.out (fun f => f)
    have x0 := cell_of hb2 0
    have x1 := cell_of hb2 1
    have f0 := free_of hb2 0
    have f1 := free_of hb2 1
    have gx := lt_of_block hb2
    simp at x0 x1
    clear hb2
    go_wp2_with fail
    go_region
    go_wp2_with fail
    have k0 : ((w2.setCell ⟨w.heap.size, 0, none⟩ (.int .i64 0)).setCell ⟨w.heap.size, 1, none⟩ (.int .i64 0)).drew.cell? ⟨w.heap.size, 0, none⟩ = some (.int .i64 0) := by have := cell_of (block_setCell (block_setCell (hc2.keep HBX.out (fun f => f)) 0 (.int .i64 0)) 1 (.int .i64 0)) 0; simpa using this
    have k1 : ((w2.setCell ⟨w.heap.size, 0, none⟩ (.int .i64 0)).setCell ⟨w.heap.size, 1, none⟩ (.int .i64 0)).drew.cell? ⟨w.heap.size, 1, none⟩ = some (.int .i64 0) := by have := cell_of (block_setCell (block_setCell (hc2.keep HBX.out (fun f => f)) 0 (.int .i64 0)) 1 (.int .i64 0)) 1; simpa using this
    have hC := ((((HA.out.then hc2).setCell (p := ⟨w.heap.size, 0, none⟩) (.inl (by simp)) (.int .i64 0)).setCell (p := ⟨w.heap.size, 1, none⟩) (.inl (by simp)) (.int .i64 0)).drew)
    revert k0 k1 hC
    generalize ((w2.setCell ⟨w.heap.size, 0, none⟩ (.int .i64 0)).setCell ⟨w.heap.size, 1, none⟩ (.int .i64 0)).drew = w3
    intro k0 k1 hC
    (try simp only [Exit.inBlock, Exit.then])
    refine bodyPost_ret (by simp [results, Tryd.results8, go_sem, k0, k1]; try rfl) rfl ?_
    exact ⟨rfl, hC⟩

def AddPost (w : World) (b k nb : Nat) (kind : Int) (ps : List (Option Nat)) (gs : List Int) (x : Int) (vl vg : Value) (T : TypeId) (Sl Sg : Nat → Prop) (e : Ending) (w' : World) : Prop :=
  e = .returned (.tuple #[hdlV k x, .nilIface]) ∧ Chg (fun y => Sl y ∨ Sg y) w w' ∧ TabAt w' b (ps.set k (some nb)) (gs.set k (x + 1)) vl vg T Sl Sg ∧
    ∃ dp, w'.heap[nb]? = some (.cells #[.int .i64 kind, .int .i64 0, .int .i64 0, .int .i64 0, .int .i64 0, .int .i64 0, dp] 91 (0, 0)) ∧
      ((kind = 2 ∧ dp = .pointer none) ∨ (kind = 1 ∧ dp = .pointer (some ⟨nb + 1, 0, none⟩) ∧ w'.heap[nb + 1]? = some (.cells #[.int .i64 0, .map none] 94 (0, 0))))
theorem add_done {w w2 : World} {b k g1 o1 n1 c1 g2 o2 n2 c2 bx nb : Nat} {y0 y1 : Value} {ps : List (Option Nat)} {gs : List Int} {z : Int} {T : TypeId} {Sl Sg : Nat → Prop} {TH : TypeId}
    (h : TabAt w2 b ps gs (.slice (some ⟨g1, o1, none⟩) n1 c1) (.slice (some ⟨g2, o2, none⟩) n2 c2) T Sl Sg) (hc : Chg Nil w w2) (hx : w2.heap[bx]? = some (.cells #[y0, y1] TH (0, 0))) (hbx : w.heap.size ≤ bx) (hs1 : Sl g1) (hs2 : Sg g2) (hb : b < w.heap.size) (hl1 : ∀ y, Sl y → y < w.heap.size) (hl2 : ∀ y, Sg y → y < w.heap.size) (hk : k < ps.length) (hkg : k < gs.length) (vk vx : Value) :
    ∃ W, W = ((((w2.setCell ⟨g1, o1 + k, none⟩ (ptrV (some nb))).setCell ⟨g2, o2 + k, none⟩ (.int .i64 z)).setCell ⟨bx, 0, none⟩ vk).setCell ⟨bx, 1, none⟩ vx) ∧
      TabAt W b (ps.set k (some nb)) (gs.set k z) (.slice (some ⟨g1, o1, none⟩) n1 c1) (.slice (some ⟨g2, o2, none⟩) n2 c2) T Sl Sg ∧ W.heap[bx]? = some (.cells #[vk, vx] TH (0, 0)) ∧ Chg (fun y => Sl y ∨ Sg y) w W ∧ W.heap.size = w2.heap.size := by
  refine ⟨_, rfl, ?_, ?_, ?_, by simp⟩
  · have h1 := (h.setL (p := some nb) hk).setG (p := z) hkg
    have c3 := (chg_at ((w2.setCell ⟨g1, o1 + k, none⟩ (ptrV (some nb))).setCell ⟨g2, o2 + k, none⟩ (.int .i64 z)) bx 0 vk).then (chg_at _ bx 1 vx)
    exact h1.keep c3 (fun e => by have : b = bx := e; omega) (fun y hy e => by have : y = bx := e; have := hl1 y hy; omega) (fun y hy e => by have : y = bx := e; have := hl2 y hy; omega)
  · have c1 := (chg_at w2 g1 (o1 + k) (ptrV (some nb))).keep hx (fun e => by have : bx = g1 := e; have := hl1 g1 hs1; omega)
    have c2 := (chg_at _ g2 (o2 + k) (.int .i64 z)).keep c1 (fun e => by have : bx = g2 := e; have := hl2 g2 hs2; omega)
    have := block_setCell (block_setCell c2 0 vk) 1 vx
    simpa using this
  · exact (((hc.nil (S := fun y => Sl y ∨ Sg y)).setCell (p := ⟨g1, o1 + k, none⟩) (.inr (.inl hs1)) _).setCell (p := ⟨g2, o2 + k, none⟩) (.inr (.inr hs2)) _ |>.setCell (p := ⟨bx, 0, none⟩) (.inl hbx) _).setCell (p := ⟨bx, 1, none⟩) (.inl hbx) _
set_option maxHeartbeats 4000000 in
set_option maxRecDepth 100000 in
theorem nadd_ok (b k : Nat) (kind x : Int) (ps : List (Option Nat)) (gs : List Int) (vl vg : Value) (T : TypeId) (Sl Sg : Nat → Prop) (w : World) (ht : TabAt w b ps gs vl vg T Sl Sg) (hk : kind = 1 ∨ kind = 2) (hl : ps.length ≤ 300) (hlg : ps.length = gs.length) (hf : free0 ps = some k) (hx : gs[k]? = some x) (hxr : 0 ≤ x ∧ x ≤ 1000000) :
    Calls Tryd.prog 8 #[.pointer (some ⟨b, 0, none⟩), .int .i64 kind] w fun e w' => ∃ nb, w.heap.size ≤ nb ∧ AddPost w b k nb kind ps gs x vl vg T Sl Sg e w' := by
  have ha := (Chg.refl Nil w).alloc (.cells #[.int .i64 0, .int .i64 0] 33)
  have hix : free0I ps = k := by unfold free0I; rw [hf]
  have HIX := Lib.hid (nindex_any vl ps Sl _ (ht.same ha).l hl)
  rw [hix] at HIX
  have HA := Lib.hid ha
  have HBX := Lib.hid (block_alloc w (.cells #[.int .i64 (0 : Int), .int .i64 0] 33))
  have HT := Lib.hid ht
  have e0 := cell_of ht.blk 0
  have gb := lt_of_block ht.blk
  simp at e0
  have hpk := free0_lt ps k hf
  have hkl : k < ps.length := (List.getElem?_eq_some_iff.1 hpk).1
  have hkg : k < gs.length := (List.getElem?_eq_some_iff.1 hx).1
  obtain ⟨g1, o1, c1, cs1, rfl, _, n1, _, _, _, hS1, gl1⟩ := ht.l.place (by omega)
  obtain ⟨g2, o2, c2, cs2, rfl, _, n2, _, _, _, hS2, gl2⟩ := ht.g.place (by omega)
  have hg12 : ¬ g1 = g2 := fun e => ht.lg g1 hS1 (e ▸ hS2)
  have hbg1 : ¬ b = g1 := fun e => ht.bl (e ▸ hS1)
  have hbg2 : ¬ b = g2 := fun e => ht.bg (e ▸ hS2)
  have j0 : (0 : Int) ≤ (k : Int) := by omega
  have j1 : (k : Int) < (ps.length : Int) := by omega
  have j2 : (k : Int) < (gs.length : Int) := by omega
  have kc1 : k < c1 := by omega
  have kc2 : k < c2 := by omega
  have hw1 : IntKind.i64.wrap (x + 1) = x + 1 := IntWalk.i64_in _ (by omega)
  have hw2 : IntKind.i64.wrap (x + 1 - 1) = x := by rw [IntWalk.i64_in _ (by omega)]; omega
  have HX := Lib.hid hx
  have HLG := Lib.hid hlg
  have HL1 := Lib.hid ht.lt1
  have HL2 := Lib.hid ht.lt2
  clear ht hl hf hix ha hpk hx hlg
  rcases hk with rfl | rfl
  case inl =>
    go_enter Tryd.func8, Tryd.ntmps8
    go_wp2_with fail
    refine HIX.out.mono ?_
    rintro e w2 ⟨rfl, hc2⟩
    have hT2 := (HT.out.same HA.out).same hc2
    have b0 := cell_of hT2.blk 0
    have b1 := cell_of hT2.blk 1
    have gb2 := lt_of_block hT2.blk
    simp at b0 b1
    have y1 := hT2.l.elem ptrC_len (List.getElem?_eq_getElem hkl) 0 _ rfl
    have y2 := hT2.g.elem intC_len HX.out 0 _ rfl
    have y10 := y1.1
    have y11 := y1.2.1
    have y12 := y1.2.2
    have y20 := y2.1
    have y21 := y2.2.1
    have y22 := y2.2.2
    simp only [Nat.mul_one, Nat.add_zero] at y10 y11 y20 y21
    have hb2 := hc2.keep HBX.out (fun f => f)
    have x0 := cell_of hb2 0
    have x1 := cell_of hb2 1
    have f0 := free_of hb2 0
    have f1 := free_of hb2 1
    have gx := lt_of_block hb2
    simp at x0 x1
    have nx1 : ¬ w.heap.size = g1 := by omega
    have nx2 : ¬ w.heap.size = g2 := by omega
    have nxb : ¬ w.heap.size = b := by omega
    have HT2 := Lib.hid hT2
    have HC2 := Lib.hid hc2
    have HB2 := Lib.hid hb2
    clear hT2 hb2 hc2 y1 y2
    go_wp2_with fail
    obtain ⟨W, hW, q1, q2, q3, q4⟩ := add_done (nb := w2.heap.size) (z := x + 1) HT2.out (HA.out.then HC2.out) HB2.out (Nat.le_refl _) hS1 hS2 gb HL1.out HL2.out hkl hkg (.int .i64 k) (.int .i64 x)
    simp only [ptrV, Option.map_some] at hW
    rw [← hW]
    clear hW
    have zz := (HA.out.then HC2.out).size
    have n1' := block_alloc W (.cells #[.int .i64 1, .int .i64 0, .int .i64 0, .int .i64 0, .int .i64 0, .int .i64 0, .pointer (some ⟨w2.heap.size + 1, 0, none⟩)] 91)
    rw [q4] at n1'
    have n2' := ((Chg.refl Nil _).alloc (.cells #[.int .i64 0, .map none] 94)).keep n1' (fun f => f)
    have n3' := block_alloc (W.alloc (.cells #[.int .i64 1, .int .i64 0, .int .i64 0, .int .i64 0, .int .i64 0, .int .i64 0, .pointer (some ⟨w2.heap.size + 1, 0, none⟩)] 91)) (.cells #[.int .i64 0, .map none] 94)
    simp only [World.size_alloc, q4] at n3'
    have cA := ((Chg.refl Nil W).alloc (.cells #[.int .i64 1, .int .i64 0, .int .i64 0, .int .i64 0, .int .i64 0, .int .i64 0, .pointer (some ⟨w2.heap.size + 1, 0, none⟩)] 91)).alloc (.cells #[.int .i64 0, .map none] 94)
    have q5 := cA.keep q2 (fun f => f)
    have k0 := cell_of q5 0
    have k1 := cell_of q5 1
    simp only [List.getElem?_toArray, List.getElem?_cons_zero, List.getElem?_cons_succ] at k0 k1
    revert n2' n3' cA k0 k1
    generalize (W.alloc (.cells #[.int .i64 1, .int .i64 0, .int .i64 0, .int .i64 0, .int .i64 0, .int .i64 0, .pointer (some ⟨w2.heap.size + 1, 0, none⟩)] 91)).alloc (.cells #[.int .i64 0, .map none] 94) = w5
    intro n2' n3' cA k0 k1
    (try simp only [Exit.inBlock, Exit.then])
    refine bodyPost_ret (by simp [results, Tryd.results8, go_sem, k0, k1]; try rfl) rfl ?_
    exact ⟨w2.heap.size, zz, rfl, q3.trans cA (fun _ _ f => f.elim), q1.same cA, _, n2', .inr ⟨rfl, rfl, n3'⟩⟩
  case inr =>
    go_enter Tryd.func8, Tryd.ntmps8
    go_wp2_with fail
    refine HIX.out.mono ?_
    rintro e w2 ⟨rfl, hc2⟩
    have hT2 := (HT.out.same HA.out).same hc2
    have b0 := cell_of hT2.blk 0
    have b1 := cell_of hT2.blk 1
    have gb2 := lt_of_block hT2.blk
    simp at b0 b1
    have y1 := hT2.l.elem ptrC_len (List.getElem?_eq_getElem hkl) 0 _ rfl
    have y2 := hT2.g.elem intC_len HX.out 0 _ rfl
    have y10 := y1.1
    have y11 := y1.2.1
    have y12 := y1.2.2
    have y20 := y2.1
    have y21 := y2.2.1
    have y22 := y2.2.2
    simp only [Nat.mul_one, Nat.add_zero] at y10 y11 y20 y21
    have hb2 := hc2.keep HBX.out (fun f => f)
    have x0 := cell_of hb2 0
    have x1 := cell_of hb2 1
    have f0 := free_of hb2 0
    have f1 := free_of hb2 1
    have gx := lt_of_block hb2
    simp at x0 x1
    have nx1 : ¬ w.heap.size = g1 := by omega
    have nx2 : ¬ w.heap.size = g2 := by omega
    have nxb : ¬ w.heap.size = b := by omega
    have HT2 := Lib.hid hT2
    have HC2 := Lib.hid hc2
    have HB2 := Lib.hid hb2
    clear hT2 hb2 hc2 y1 y2
    go_wp2_with fail
    obtain ⟨W, hW, q1, q2, q3, q4⟩ := add_done (nb := w2.heap.size) (z := x + 1) HT2.out (HA.out.then HC2.out) HB2.out (Nat.le_refl _) hS1 hS2 gb HL1.out HL2.out hkl hkg (.int .i64 k) (.int .i64 x)
    simp only [ptrV, Option.map_some] at hW
    rw [← hW]
    clear hW
    have zz := (HA.out.then HC2.out).size
    have n1' := block_alloc W (.cells #[.int .i64 2, .int .i64 0, .int .i64 0, .int .i64 0, .int .i64 0, .int .i64 0, .pointer none] 91)
    rw [q4] at n1'
    have cA := ((Chg.refl Nil W).alloc (.cells #[.int .i64 2, .int .i64 0, .int .i64 0, .int .i64 0, .int .i64 0, .int .i64 0, .pointer none] 91))
    have q5 := cA.keep q2 (fun f => f)
    have k0 := cell_of q5 0
    have k1 := cell_of q5 1
    simp only [List.getElem?_toArray, List.getElem?_cons_zero, List.getElem?_cons_succ] at k0 k1
    revert n1' cA k0 k1
    generalize (W.alloc (.cells #[.int .i64 2, .int .i64 0, .int .i64 0, .int .i64 0, .int .i64 0, .int .i64 0, .pointer none] 91)) = w5
    intro n1' cA k0 k1
    (try simp only [Exit.inBlock, Exit.then])
    refine bodyPost_ret (by simp [results, Tryd.results8, go_sem, k0, k1]; try rfl) rfl ?_
    exact ⟨w2.heap.size, zz, rfl, q3.trans cA (fun _ _ f => f.elim), q1.same cA, _, n1', .inl ⟨rfl, rfl⟩⟩
end Go.Proofs.YtgebinfbbopnlaaDoor
