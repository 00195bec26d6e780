/- The reference's Fine, Bare, PathError by contract. -/
import Derived.Test.YtdhegblgghembaaDoorName7
namespace Go.Proofs.YtdhegblgghembaaDoor
open Go.RowKit Go.Lib
set_option linter.unusedVariables false
set_option linter.unusedSimpArgs false

def faultV (c : Nat) (n : Int) : Value := .agg #[.int .i64 c, .int .i64 n]
theorem fault_cells {W : World} {b : Nat} {T : TypeId} {x y : Value} (h : W.heap[b]? = some (.cells #[x, y] T (0, 0))) : W.cell? ⟨b, 0, none⟩ = some x ∧ W.cell? ⟨b, 1, none⟩ = some y := ⟨cell_of h 0, cell_of h 1⟩
set_option maxHeartbeats 1000000 in
theorem fine_any (w : World) : Calls Tryd.prog 81 #[] w fun e w' => e = .returned (faultV 0 (-1)) ∧ Chg Nil w w' := by
  go_enter Tryd.func81, Tryd.ntmps81
  go_wp2_with fail
  have k0 : (w.alloc (.cells #[.int .i64 0, .int .i64 (-1)] 100)).cell? ⟨w.heap.size, 0, none⟩ = some (.int .i64 0) := by simp
  have k1 : (w.alloc (.cells #[.int .i64 0, .int .i64 (-1)] 100)).cell? ⟨w.heap.size, 1, none⟩ = some (.int .i64 (-1)) := by simp
  refine bodyPost_ret (by simp [results, Tryd.results81, go_sem, k0, k1]; try rfl) rfl ⟨rfl, (Chg.refl _ _).alloc _⟩
set_option maxHeartbeats 1000000 in
theorem bare_any (c : Nat) (w : World) : Calls Tryd.prog 82 #[.int .i64 c] w fun e w' => e = .returned (faultV c (-1)) ∧ Chg Nil w w' := by
  go_enter Tryd.func82, Tryd.ntmps82
  go_wp2_with fail
  have k0 : (w.alloc (.cells #[.int .i64 c, .int .i64 (-1)] 100)).cell? ⟨w.heap.size, 0, none⟩ = some (.int .i64 c) := by simp
  have k1 : (w.alloc (.cells #[.int .i64 c, .int .i64 (-1)] 100)).cell? ⟨w.heap.size, 1, none⟩ = some (.int .i64 (-1)) := by simp
  refine bodyPost_ret (by simp [results, Tryd.results82, go_sem, k0, k1]; try rfl) rfl ⟨rfl, (Chg.refl _ _).alloc _⟩
theorem res_pe {tmps : Array Value} {b : Nat} {W : World} {c : Nat} {n : Int} (h2 : tmps.getD 2 undef = .pointer (some ⟨b, 0, none⟩)) (k0 : W.cell? ⟨b, 0, none⟩ = some (.int .i64 c)) (k1 : W.cell? ⟨b, 1, none⟩ = some (.int .i64 n)) :
    (results Tryd.f58 tmps).run Tryd.prog W = .ok (faultV c n) W := by
  simp at h2
  simp [results, Tryd.results58, go_sem, k0, k1, h2, faultV]
theorem two_put {w W : World} {b : Nat} {x y : Value} {T : TypeId} (hb : W.heap[b]? = some (.cells #[x, y] T (0, 0))) (hc : Chg Nil w W) (hg : w.heap.size ≤ b) (u v : Value) :
    ((W.setCell ⟨b, 0, none⟩ u).setCell ⟨b, 1, none⟩ v).cell? ⟨b, 0, none⟩ = some u ∧ ((W.setCell ⟨b, 0, none⟩ u).setCell ⟨b, 1, none⟩ v).cell? ⟨b, 1, none⟩ = some v ∧ Chg Nil w ((W.setCell ⟨b, 0, none⟩ u).setCell ⟨b, 1, none⟩ v) := by
  have h := block_setCell (block_setCell hb 0 u) 1 v
  refine ⟨by have := cell_of h 0; simpa using this, by have := cell_of h 1; simpa using this, (hc.setCell (.inl hg) _).setCell (.inl hg) _⟩
def RelPE (l : List ByteArray) (w : World) (i : Value) (wr : World) : Prop := ∃ k : Nat, k ≤ l.length ∧ i = .int .i64 k ∧ w = wr ∧ ∀ s ∈ l.take k, nameOk s
theorem pathC_none {l : List ByteArray} (h : ∀ s ∈ l, nameOk s) : pathC l = if 12 < l.length then (2, -1) else (0, -1) := by
  have hfb : firstBad l = none := by
    unfold firstBad
    rw [List.findIdx?_eq_none_iff]
    intro x hx
    have := h x hx
    simp [this]
  unfold pathC
  rw [hfb]
theorem pathC_some {l : List ByteArray} {k : Nat} {x : ByteArray} (hk : l[k]? = some x) (hx : ¬ nameOk x) (h : ∀ s ∈ l.take k, nameOk s) : pathC l = (4, (k : Int)) := by
  have : firstBad l = some k := by
    unfold firstBad
    rw [List.findIdx?_eq_some_iff_getElem]
    obtain ⟨hkl, e⟩ := List.getElem?_eq_some_iff.1 hk
    refine ⟨hkl, by simp [e, hx], fun j hj => ?_⟩
    have := h (l[j]'(by omega)) (by rw [List.mem_iff_getElem?]; exact ⟨j, by rw [List.getElem?_take, if_pos hj]; exact List.getElem?_eq_getElem _⟩)
    simp [this]
  unfold pathC
  rw [this]
set_option maxHeartbeats 2000000 in
set_option maxRecDepth 100000 in
theorem pathError_any {B2 : Nat} (a : Option Addr) (c : Nat) (l : List ByteArray) (w : World) (hl : TextsAt w B2 a l) (hB2 : B2 ≤ w.heap.size) (hc : l.length ≤ c) (h63 : l.length ≤ 9223372036854775807) :
    Calls Tryd.prog 58 #[.slice a l.length c] w fun e w' => e = .returned (faultV (pathC l).1 (pathC l).2) ∧ Chg Nil w w' := by
  have HT := Lib.hid (hl.keep hB2 ((Chg.refl Nil w).alloc (.cells #[.int .i64 0, .int .i64 0] 100)) (fun _ f => f.elim))
  have HBX := Lib.hid (block_alloc w (.cells #[.int .i64 0, .int .i64 0] 100))
  have HK := Lib.hid ((Chg.refl Nil w).alloc (.cells #[.int .i64 0, .int .i64 0] 100))
  clear hl
  go_enter Tryd.func58, Tryd.ntmps58
  go_wp2_with fail
  go_loopw [3] (fun i wr => RelPE l (w.alloc (.cells #[.int .i64 0, .int .i64 0] 100)) i wr) (fun i _ => (l.length - RowKit.intOf i).toNat)
  case atStart => exact ⟨0, Nat.zero_le _, rfl, rfl, by simp⟩
  case round =>
    obtain ⟨k, hk, rfl, rfl, hall⟩ := hrel
    have HA := Lib.hid hall
    clear hall
    by_cases hlt : k < l.length
    · obtain ⟨x, hx⟩ : ∃ x, l[k]? = some x := ⟨l[k], List.getElem?_eq_getElem hlt⟩
      obtain ⟨hx63, g, off, rfl, hg, c0⟩ := HT.out k x hx
      have hgw : g < w.heap.size + 1 := by omega
      have j0 : (0 : Int) ≤ (k : Int) := by omega
      have j1 : (k : Int) < (l.length : Int) := by omega
      have kc : k < c := by omega
      have HX := Lib.hid hx
      clear hx
      by_cases hs : nameOk x
      · have HS := Lib.hid hs
        have HN := Lib.hid (nameC_yes hs)
        clear hs
        go_wp2_with fail
        refine (nameError_any x _ hx63).mono ?_
        rintro e w2 ⟨rfl, rfl⟩
        rw [HN.out]
        go_wp2_with fail
        go_roundw
        case rel => exact ⟨k + 1, by omega, by go_num, rfl, fun s hs => by
          rw [List.take_add_one, HX.out] at hs
          rcases List.mem_append.1 hs with hs | hs
          · exact HA.out s hs
          · rw [List.mem_singleton.1 hs]; exact HS.out⟩
        case measure => simp [RowKit.intOf]; omega
      · have HN := Lib.hid (nameC_no hs)
        have HP := Lib.hid (pathC_some HX.out hs HA.out)
        clear hs
        go_wp2_with fail
        refine (nameError_any x _ hx63).mono ?_
        rintro e w2 ⟨rfl, rfl⟩
        rw [HN.out]
        go_wp2_with fail
        have k0 : (w.alloc (.cells #[.int .i64 4, .int .i64 (k : Int)] 100)).cell? ⟨w.heap.size, 0, none⟩ = some (.int .i64 ((4 : Nat) : Int)) := by simp
        have k1 : (w.alloc (.cells #[.int .i64 4, .int .i64 (k : Int)] 100)).cell? ⟨w.heap.size, 1, none⟩ = some (.int .i64 (k : Int)) := by simp
        exact bodyPost_ret (res_pe (b := w.heap.size) (c := 4) (n := (k : Int)) rfl k0 k1) rfl ⟨by rw [HP.out], (Chg.refl _ _).alloc _⟩
    · obtain rfl : k = l.length := by omega
      have hp := pathC_none (l := l) (fun s hs => HA.out s (by rw [List.take_of_length_le (Nat.le_refl _)]; exact hs))
      by_cases h12 : 12 < l.length
      · have HP := Lib.hid (hp.trans (if_pos h12))
        clear hp
        go_wp2_with fail
        refine (bare_any 2 _).mono ?_
        rintro e w2 ⟨rfl, hc2⟩
        have hb2 := hc2.keep HBX.out (fun f => f)
        have b0 := cell_of hb2 0
        have b1 := cell_of hb2 1
        have p0 := free_of hb2 0
        have p1 := free_of hb2 1
        have gb := lt_of_block hb2
        simp at b0 b1
        obtain ⟨k0, k1, k2⟩ := two_put hb2 (HK.out.then hc2) (Nat.le_refl _) (.int .i64 ((2 : Nat) : Int)) (.int .i64 (-1))
        have K := Lib.hid (And.intro k0 (And.intro k1 k2))
        clear hb2 hc2 k0 k1 k2
        unfold faultV
        go_wp2_with fail
        exact bodyPost_ret (res_pe (b := w.heap.size) (c := 2) (n := -1) rfl K.out.1 K.out.2.1) rfl ⟨by rw [HP.out], K.out.2.2⟩
      · have HP := Lib.hid (hp.trans (if_neg h12))
        have h12d : ¬ (12 : Int) < (l.length : Int) := by omega
        clear hp
        go_wp2_with fail
        refine (fine_any _).mono ?_
        rintro e w2 ⟨rfl, hc2⟩
        have hb2 := hc2.keep HBX.out (fun f => f)
        have b0 := cell_of hb2 0
        have b1 := cell_of hb2 1
        have p0 := free_of hb2 0
        have p1 := free_of hb2 1
        have gb := lt_of_block hb2
        simp at b0 b1
        obtain ⟨k0, k1, k2⟩ := two_put hb2 (HK.out.then hc2) (Nat.le_refl _) (.int .i64 ((0 : Nat) : Int)) (.int .i64 (-1))
        have K := Lib.hid (And.intro k0 (And.intro k1 k2))
        clear hb2 hc2 k0 k1 k2
        unfold faultV
        go_wp2_with fail
        exact bodyPost_ret (res_pe (b := w.heap.size) (c := 0) (n := -1) rfl K.out.1 K.out.2.1) rfl ⟨by rw [HP.out], K.out.2.2⟩
end Go.Proofs.YtdhegblgghembaaDoor
