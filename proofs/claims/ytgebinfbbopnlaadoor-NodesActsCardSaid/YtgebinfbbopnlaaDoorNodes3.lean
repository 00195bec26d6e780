/- Package nodes: Free, Count, New by contract. -/
import Derived.Test.YtgebinfbbopnlaaDoorNodes2
namespace Go.Proofs.YtgebinfbbopnlaaDoor
open Go.RowKit
set_option linter.unusedVariables false
set_option linter.unusedSimpArgs false

theorem info_ptr : (Tryd.prog.info? 89).map (fun i => (i.zero, i.size, i.bytes)) = some (some (.pointer none), 1, 8) := by kernel_rfl
theorem info_i64 : (Tryd.prog.info? 3).map (fun i => (i.zero, i.size, i.bytes)) = some (some (.int .i64 0), 1, 8) := by kernel_rfl

set_option maxHeartbeats 1000000 in
set_option maxRecDepth 100000 in
theorem nfree_stale {B : Nat} (ad : Nat → Addr) (b : Nat) (n g : Int) (ps : List (Option Nat)) (gs : List Int) (vl vg : Value) (T : TypeId) (Sl Sg : Nat → Prop) (w : World) (he : Env B ad [10] w) (ht : TabAt w b ps gs vl vg T Sl Sg) (hl : ps.length = gs.length) (hr : ∀ x ∈ gs, 0 ≤ x ∧ x ≤ 1000000) (hs : atOf ps gs n g = none) :
    Calls Tryd.prog 12 #[.pointer (some ⟨b, 0, none⟩), hdlV n g] w fun e w' => e = .returned (errV ad 10) ∧ Chg Nil w w' := by
  have ha := (Chg.refl Nil w).alloc (.cells #[.int .i64 n, .int .i64 g] 33)
  have HAT := Lib.hid (nat_any (B := B) ad b n g ps gs vl vg T Sl Sg _ (he.keepN ha) (ht.same ha) hl hr)
  rw [hs] at HAT
  have HA := Lib.hid ha
  clear he ht hl hr hs ha
  unfold hdlV at *
  go_enter Tryd.func12, Tryd.ntmps12
  go_wp2_with fail
  refine HAT.out.mono ?_
  rintro e w2 ⟨rfl, hc2⟩
  simp only [Option.isSome_none, Bool.false_eq_true, if_false, ptrV, Option.map_none, errV_pos (ad := ad) (c := 10) (by decide)]
  go_wp2_with fail
  go_ret
  exact ⟨rfl, HA.out.then hc2⟩

set_option maxHeartbeats 1000000 in
set_option maxRecDepth 100000 in
theorem nfree_ok {B : Nat} (ad : Nat → Addr) (b k nb : Nat) (g : Int) (ps : List (Option Nat)) (gs : List Int) (vl vg : Value) (T : TypeId) (Sl Sg : Nat → Prop) (w : World) (he : Env B ad [10] w) (ht : TabAt w b ps gs vl vg T Sl Sg) (hl : ps.length = gs.length) (hr : ∀ x ∈ gs, 0 ≤ x ∧ x ≤ 1000000) (hk : k < ps.length) (hs : atOf ps gs k g = some nb) :
    Calls Tryd.prog 12 #[.pointer (some ⟨b, 0, none⟩), hdlV k g] w fun e w' => e = .returned .nilIface ∧ Chg Sl w w' ∧ TabAt w' b (ps.set k none) gs vl vg T Sl Sg := by
  have ha := (Chg.refl Nil w).alloc (.cells #[.int .i64 k, .int .i64 g] 33)
  have hbx := block_alloc w (.cells #[.int .i64 (k : Int), .int .i64 g] 33)
  have HAT := Lib.hid (nat_any (B := B) ad b k g ps gs vl vg T Sl Sg _ (he.keepN ha) (ht.same ha) hl hr)
  rw [hs] at HAT
  have HA := Lib.hid ha
  have HBX := Lib.hid hbx
  have HT := Lib.hid (ht.same ha)
  obtain ⟨g1, o1, c1, cs1, rfl, _, n1, _, _, _, hS1, gl1⟩ := HT.out.l.place (by omega)
  clear he ht hl hr hs ha hbx
  unfold hdlV at *
  go_enter Tryd.func12, Tryd.ntmps12
  go_wp2_with fail
  refine HAT.out.mono ?_
  rintro e w2 ⟨rfl, hc2⟩
  simp only [Option.isSome_some, if_true, ptrV, Option.map_some, errV_zero]
  have HR := Lib.hid (HT.out.same hc2)
  have e0 := cell_of HR.out.blk 0
  have gb := lt_of_block HR.out.blk
  have hb2 := hc2.keep HBX.out (fun f => f)
  have b0 := cell_of hb2 0
  have gx := lt_of_block hb2
  simp at e0 b0
  have y := HR.out.l.elem ptrC_len (List.getElem?_eq_getElem hk) 0 _ rfl
  have y0 := y.1
  have y1 := y.2.1
  have y2 := y.2.2
  simp only [Nat.mul_one, Nat.add_zero] at y0 y1
  have j0 : (0 : Int) ≤ (k : Int) := by omega
  have j1 : (k : Int) < (ps.length : Int) := by omega
  have kc : k < c1 := by omega
  have HC2 := Lib.hid hc2
  clear y hb2 hc2
  go_wp2_with fail
  go_region
  go_wp2_with fail
  go_ret
  refine ⟨rfl, ?_, ?_⟩
  · exact (((HA.out.nil (S := Sl)).trans HC2.out (fun _ _ f => f.elim)).setCell (p := ⟨g1, o1 + k, none⟩) (.inr hS1) _).drew
  · exact ((HR.out.setL (p := none) hk).same ((Chg.refl Nil _).drew))

def RelCt (ps : List (Option Nat)) (w : World) (c i : Value) (wr : World) : Prop := ∃ k : Nat, k ≤ ps.length ∧ c = .int .i64 (usedN (ps.take k)) ∧ i = .int .i64 k ∧ Chg Nil w wr
set_option maxHeartbeats 1000000 in
set_option maxRecDepth 100000 in
theorem ncount_any (b : Nat) (ps : List (Option Nat)) (gs : List Int) (vl vg : Value) (T : TypeId) (Sl Sg : Nat → Prop) (w : World) (ht : TabAt w b ps gs vl vg T Sl Sg) (hl : ps.length ≤ 300) :
    Calls Tryd.prog 15 #[.pointer (some ⟨b, 0, none⟩)] w fun e w' => e = .returned (.int .i64 (usedN ps)) ∧ Chg Nil w w' := by
  have e0 := cell_of ht.blk 0
  simp at e0
  obtain ⟨al, cl, rfl⟩ := ht.l.shape
  have HT := Lib.hid ht
  clear ht
  go_enter Tryd.func15, Tryd.ntmps15
  go_wp2_with fail
  go_loopw [3, 11] (fun c i wr => RelCt ps w c i wr) (fun _ i _ => (ps.length - intOf i).toNat)
  case atStart => exact ⟨0, Nat.zero_le _, rfl, rfl, Chg.refl _ _⟩
  case round =>
    obtain ⟨k, hk, rfl, rfl, hC⟩ := hrel
    by_cases hlt : k < ps.length
    · obtain ⟨p, hp⟩ : ∃ p, ps[k]? = some p := ⟨ps[k], List.getElem?_eq_getElem hlt⟩
      obtain ⟨g1, o1, c1, cs1, e, _, n1, _, _, _, _, gl1⟩ := HT.out.l.place (by omega)
      cases e
      have y1 := ((HT.out.l.keep hC (fun _ _ f => f)).elem ptrC_len hp 0 _ rfl).1
      simp only [Nat.mul_one, Nat.add_zero] at y1
      have j0 : (0 : Int) ≤ (k : Int) := by omega
      have j1 : (k : Int) < (ps.length : Int) := by omega
      have kc : k < cl := by omega
      have hu := usedN_take ps k p hp
      have hu1 := usedN_le (ps.take k)
      have hu2 : (ps.take k).length = k := by simp; omega
      obtain ⟨u, hu3⟩ : ∃ u, u = usedN (ps.take k) := ⟨_, rfl⟩
      rw [← hu3] at hu hu1 ⊢
      have hub : u ≤ k := by omega
      have HU := Lib.hid hu
      clear hu hu1 hu2 hu3 hp
      cases p with
      | none =>
        simp only [ptrV, Option.map_none] at y1
        go_wp2_with fail
        go_roundw
        case rel => exact ⟨k + 1, by omega, by rw [HU.out]; simp, by go_num, hC⟩
        case measure => simp [intOf]; omega
      | some nb =>
        simp only [ptrV, Option.map_some] at y1
        go_wp2_with fail
        go_roundw
        case rel => exact ⟨k + 1, by omega, by rw [HU.out]; simp, by go_num, hC⟩
        case measure => simp [intOf]; omega
    · obtain rfl : k = ps.length := by omega
      have hu : ps.take ps.length = ps := List.take_of_length_le (Nat.le_refl _)
      rw [hu]
      clear hu
      go_wp2_with fail
      go_ret
      exact ⟨rfl, hC⟩

theorem three_blocks (w : World) (c1 c2 c3 : Array Value) (T1 T2 T3 : TypeId) : (((w.alloc (.cells c1 T1)).alloc (.cells c2 T2)).alloc (.cells c3 T3)).heap[w.heap.size]? = some (.cells c1 T1 (0, 0)) ∧
    (((w.alloc (.cells c1 T1)).alloc (.cells c2 T2)).alloc (.cells c3 T3)).heap[w.heap.size + 1]? = some (.cells c2 T2 (0, 0)) ∧ (((w.alloc (.cells c1 T1)).alloc (.cells c2 T2)).alloc (.cells c3 T3)).heap[w.heap.size + 1 + 1]? = some (.cells c3 T3 (0, 0)) := by
  have q1 := block_alloc w (.cells c1 T1)
  have q2 := block_alloc (w.alloc (.cells c1 T1)) (.cells c2 T2)
  have q3 := block_alloc ((w.alloc (.cells c1 T1)).alloc (.cells c2 T2)) (.cells c3 T3)
  refine ⟨(((Chg.refl Nil _).alloc _).alloc _).keep q1 (fun f => f), ?_, ?_⟩
  · have := ((Chg.refl Nil _).alloc (.cells c3 T3)).keep q2 (fun f => f); simpa using this
  · simpa using q3
theorem tab_new {W : World} {b g1 g2 n : Nat} {T : TypeId} (hn : n ≤ 300) (hb : W.heap[b]? = some (.cells #[.slice (some ⟨g1, 0, none⟩) n n, .slice (some ⟨g2, 0, none⟩) n n] T (0, 0)))
    (h1 : W.heap[g1]? = some (.cells (Array.replicate n (.pointer none)) 89 (0, 0))) (h2 : W.heap[g2]? = some (.cells (Array.replicate n (.int .i64 0)) 3 (0, 0))) (d1 : ¬ b = g1) (d2 : ¬ b = g2) (d3 : ¬ g1 = g2) :
    TabAt W b (List.replicate n none) (List.replicate n 0) (.slice (some ⟨g1, 0, none⟩) n n) (.slice (some ⟨g2, 0, none⟩) n n) T (· = g1) (· = g2) := by
  have hx1 : (List.replicate n (none : Option Nat)).flatMap ptrC = List.replicate n (.pointer none) := rep_flat ptrV n none
  have hx2 : (List.replicate n (0 : Int)).flatMap intC = List.replicate n (.int .i64 0) := rep_flat (fun x => .int .i64 x) n 0
  refine ⟨hb, ?_, ?_, d1, d2, fun x e1 e2 => d3 (e1 ▸ e2), fun x e => (by subst e; exact lt_of_block h1), fun x e => (by subst e; exact lt_of_block h2)⟩
  · rw [hx1, List.length_replicate]; exact sliceAt_made' (by omega) (by simpa using h1)
  · rw [hx2, List.length_replicate]; exact sliceAt_made' (by omega) (by simpa using h2)
def NewTab (w : World) (n : Nat) (e : Ending) (w' : World) : Prop := ∃ b vl vg T Sl Sg, e = .returned (.tuple #[.pointer (some ⟨b, 0, none⟩), .nilIface]) ∧ Chg Nil w w' ∧ TabAt w' b (List.replicate n none) (List.replicate n 0) vl vg T Sl Sg ∧ w.heap.size ≤ b ∧ (∀ x, Sl x → w.heap.size ≤ x) ∧ (∀ x, Sg x → w.heap.size ≤ x)
set_option maxHeartbeats 1000000 in
set_option maxRecDepth 100000 in
theorem nnew_any (n : Nat) (w : World) (h1 : 1 ≤ n) (h2 : n ≤ 300) : Calls Tryd.prog 6 #[.int .i64 n] w (NewTab w n) := by
  have g1 : ¬ (n : Int) < 1 := by omega
  have g2 : ¬ 300 < (n : Int) := by omega
  have hm1 := fun W => mk_one (P := Tryd.prog) (T := 83) Tryd.underlying83 info_ptr rfl W n (by omega) (by omega)
  have hm2 := fun W => mk_one (P := Tryd.prog) (T := 30) Tryd.underlying30 info_i64 rfl W n (by omega) (by omega)
  go_enter Tryd.func6, Tryd.ntmps6
  go_wp2_with fail
  go_region
  all_goals
    go_wp2_with fail
    go_ret2
  · obtain ⟨q1, q2, q3⟩ := three_blocks w (Array.replicate n (.pointer none)) (Array.replicate n (.int .i64 0)) #[.slice (some ⟨w.heap.size, 0, none⟩) n n, .slice (some ⟨w.heap.size + 1, 0, none⟩) n n] 89 3 85
    exact ⟨w.heap.size + 1 + 1, _, _, _, _, _, rfl, (((((Chg.refl Nil w).alloc _).alloc _).alloc _).drew), (tab_new h2 q3 q1 q2 (by omega) (by omega) (by omega)).same ((Chg.refl Nil _).drew), by omega, fun x e => (by have : x = _ := e; omega), fun x e => (by have : x = _ := e; omega)⟩
  · obtain ⟨q1, q2, q3⟩ := three_blocks w (Array.replicate n (.int .i64 0)) (Array.replicate n (.pointer none)) #[.slice (some ⟨w.heap.size + 1, 0, none⟩) n n, .slice (some ⟨w.heap.size, 0, none⟩) n n] 3 89 85
    exact ⟨w.heap.size + 1 + 1, _, _, _, _, _, rfl, (((((Chg.refl Nil w).alloc _).alloc _).alloc _).drew), (tab_new h2 q3 q2 q1 (by omega) (by omega) (by omega)).same ((Chg.refl Nil _).drew), by omega, fun x e => (by have : x = _ := e; omega), fun x e => (by have : x = _ := e; omega)⟩
end Go.Proofs.YtgebinfbbopnlaaDoor
