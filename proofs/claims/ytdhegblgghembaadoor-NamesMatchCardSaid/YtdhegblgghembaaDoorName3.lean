/- package names: all names of a list; law1's faulted; by contract. -/
import Derived.Test.YtdhegblgghembaaDoorName2
import Derived.Test.YtdhegblgghembaaDoorFault
namespace Go.Proofs.YtdhegblgghembaaDoor
open Go.RowKit Go.Lib
set_option linter.unusedVariables false
set_option linter.unusedSimpArgs false

/-- The value v is the error of number c at a place (0: nil). -/
def NmErr (ad : Nat → Addr) (w : World) (v : Value) (c : Nat) (at_ : Int) : Prop :=
  (c = 0 ∧ at_ = -1 ∧ v = .nilIface) ∨ (0 < c ∧ c ≤ 15 ∧ at_ = -1 ∧ v = .iface 224 (.pointer (some (ad c)))) ∨
  (0 < c ∧ c ≤ 15 ∧ ∃ pb, v = .iface 150 (.pointer (some ⟨pb, 0, none⟩)) ∧ w.heap[pb]? = some (.cells #[.int .i64 at_, .iface 224 (.pointer (some (ad c)))] 154 (0, 0)))
theorem NmErr.keep {ad : Nat → Addr} {w w' : World} {v : Value} {c : Nat} {at_ : Int} (h : NmErr ad w v c at_) (hc : Chg Nil w w') : NmErr ad w' v c at_ := by
  rcases h with h | h | ⟨h1, h2, pb, h3, h4⟩
  · exact .inl h
  · exact .inr (.inl h)
  · exact .inr (.inr ⟨h1, h2, pb, h3, hc.keep h4 (fun f => f)⟩)
theorem nmErr_of {ad : Nat → Addr} {w : World} {c : Nat} (h : c ≤ 15) : NmErr ad w (errV ad c) c (-1) := by
  by_cases h0 : c = 0
  · subst h0; exact .inl ⟨rfl, rfl, rfl⟩
  · exact .inr (.inl ⟨by omega, h, rfl, errV_pos h0⟩)
theorem NmErr.le {ad : Nat → Addr} {w : World} {v : Value} {c : Nat} {at_ : Int} (h : NmErr ad w v c at_) : c ≤ 15 := by
  rcases h with h | h | h
  · omega
  · exact h.2.1
  · exact h.2.1
set_option maxHeartbeats 1000000 in
theorem faulted_ok {B : Nat} (ad : Nat → Addr) (v : Value) (c : Nat) (at_ : Int) (w : World) (he : EnvA B ad w) (h : NmErr ad w v c at_) :
    Calls Tryd.prog 55 #[v, .agg #[.int .i64 c, .int .i64 at_]] w fun e w' => e = .returned (.bool true) ∧ Chg Nil w w' := by
  have HE := Lib.hid he
  clear he
  have HK := Lib.hid ((Chg.refl Nil w).alloc (.cells #[.int .i64 c, .int .i64 at_] 100))
  have HBX := Lib.hid (block_alloc w (.cells #[.int .i64 c, .int .i64 at_] 100))
  have fin : ∀ (w2 : World), Chg Nil (w.alloc (.cells #[.int .i64 c, .int .i64 at_] 100)) w2 → w2.cell? ⟨w.heap.size, 0, none⟩ = some (.int .i64 c) ∧ w2.cell? ⟨w.heap.size, 1, none⟩ = some (.int .i64 at_) := fun w2 h2 => ⟨cell_of (h2.keep HBX.out (fun f => f)) 0, cell_of (h2.keep HBX.out (fun f => f)) 1⟩
  have FIN := Lib.hid fin
  clear fin
  rcases h with ⟨rfl, rfl, rfl⟩ | ⟨h0, h1, rfl, rfl⟩ | ⟨h0, h1, pb, rfl, hb⟩
  · go_enter Tryd.func55, Tryd.ntmps55
    go_wp2_with fail
    refine (code_nil _).mono ?_
    rintro e w1 ⟨rfl, rfl⟩
    obtain ⟨c0, c1⟩ := FIN.out _ (Chg.refl _ _)
    go_wp2_with fail
    go_ret
    exact ⟨rfl, HK.out⟩
  · have hc0 : ((c : Int) == 0) = false := by simp; omega
    go_enter Tryd.func55, Tryd.ntmps55
    go_wp2_with fail
    refine (code_err ad c _ (HE.out.keepN HK.out) h0 h1).mono ?_
    rintro e w1 ⟨rfl, hc1⟩
    obtain ⟨c0, c1⟩ := FIN.out _ hc1
    go_wp2_with fail
    go_ret
    exact ⟨rfl, HK.out.then hc1⟩
  · have hc0 : ((c : Int) == 0) = false := by simp; omega
    have HB := Lib.hid (HK.out.keep hb (fun f => f))
    clear hb
    go_enter Tryd.func55, Tryd.ntmps55
    go_wp2_with fail
    refine (code_fault ad c pb at_ _ (HE.out.keepN HK.out) h0 h1 HB.out).mono ?_
    rintro e w1 ⟨rfl, hc1⟩
    obtain ⟨c0, c1⟩ := FIN.out _ hc1
    go_wp2_with fail
    go_ret
    exact ⟨rfl, HK.out.then hc1⟩
/-- The first text of a list that is no name. -/
def firstBad (l : List ByteArray) : Option Nat := l.findIdx? fun s => decide (¬ nameOk s)
def pathC (l : List ByteArray) : Nat × Int := match firstBad l with
  | some i => (4, i)
  | none => if 12 < l.length then (2, -1) else (0, -1)
/-- A slice of texts, as its elements are read. -/
def TextsAt (w : World) (B : Nat) (a : Option Addr) (l : List ByteArray) : Prop := ∀ (k : Nat) x, l[k]? = some x → x.size ≤ 9223372036854775807 ∧ ∃ g off, a = some ⟨g, off, none⟩ ∧ g < B ∧ w.cell? ⟨g, off + k, none⟩ = some (.string x)
theorem TextsAt.keep {w w' : World} {B : Nat} {a : Option Addr} {l : List ByteArray} {S : Nat → Prop} (h : TextsAt w B a l) (hB : B ≤ w.heap.size) (c : Chg S w w') (hS : ∀ x, S x → B ≤ x) : TextsAt w' B a l := fun k x hx => by
  obtain ⟨h0, g, off, e, hg, hc⟩ := h k x hx
  exact ⟨h0, g, off, e, hg, (c.cell (p := ⟨g, off + k, none⟩) (by simp; omega) (fun s => by have := hS _ s; simp at this; omega)).trans hc⟩
def RelAll (l : List ByteArray) (w : World) (i : Value) (wr : World) : Prop := ∃ k : Nat, k ≤ l.length ∧ i = .int .i64 k ∧ Chg Nil w wr ∧ ∀ s ∈ l.take k, nameOk s
def AllPost (ad : Nat → Addr) (l : List ByteArray) (w : World) (e : Ending) (w' : World) : Prop := ∃ v, e = .returned v ∧ NmErr ad w' v (pathC l).1 (pathC l).2 ∧ Chg Nil w w'
set_option maxHeartbeats 2000000 in
set_option maxRecDepth 100000 in
theorem all_any {B B2 : Nat} (ad : Nat → Addr) (a : Option Addr) (c : Nat) (l : List ByteArray) (w : World) (he : Env B ad [2, 4] w) (hl : TextsAt w B2 a l) (hB2 : B2 ≤ w.heap.size) (hc : l.length ≤ c) (h63 : l.length ≤ 9223372036854775807) :
    Calls Tryd.prog 80 #[.slice a l.length c] w (AllPost ad l w) := by
  have HE := Lib.hid he
  have HT := Lib.hid hl
  clear he hl
  go_enter Tryd.func80, Tryd.ntmps80
  go_wp2_with fail
  go_loopw [8] (fun i wr => RelAll l w i wr) (fun i _ => (l.length - RowKit.intOf i).toNat)
  case atStart => exact ⟨0, Nat.zero_le _, rfl, Chg.refl _ _, by simp⟩
  case round =>
    obtain ⟨k, hk, rfl, hC, hall⟩ := hrel
    have HA := Lib.hid hall
    have HC := Lib.hid hC
    clear hall
    by_cases hlt : k < l.length
    · obtain ⟨x, hx⟩ : ∃ x, l[k]? = some x := ⟨l[k], List.getElem?_eq_getElem hlt⟩
      obtain ⟨hx63, g, off, rfl, hg, hcx⟩ := HT.out k x hx
      have hgw : g < wr.heap.size := by have := hC.size; omega
      have c0 := (hC.cell (p := ⟨g, off + k, none⟩) (by simp; omega) (fun f => f)).trans hcx
      have j0 : (0 : Int) ≤ (k : Int) := by omega
      have j1 : (k : Int) < (l.length : Int) := by omega
      have kc : k < c := by omega
      have HX := Lib.hid hx
      clear hx hcx hC
      by_cases hs : nameOk x
      · have HS := Lib.hid hs
        have HN := Lib.hid (nameC_yes hs)
        clear hs
        go_wp2_with fail
        refine (check_any ad x wr ((HE.out.keepN HC.out).sub (by decide)) hx63).mono ?_
        rintro e w2 ⟨rfl, hc2⟩
        rw [HN.out]
        simp only [errV_zero]
        go_wp2_with fail
        go_roundw
        case rel => exact ⟨k + 1, by omega, by go_num, HC.out.then hc2, fun s hs => by
          rw [List.take_add_one, HX.out] at hs
          rcases List.mem_append.1 hs with hs | hs
          · exact HA.out s hs
          · rw [List.mem_singleton.1 hs]; exact HS.out⟩
        case measure => simp [RowKit.intOf]; omega
      · have HN := Lib.hid (nameC_no hs)
        have HFB := Lib.hid (show pathC l = (4, (k : Int)) by
          unfold pathC
          have : firstBad l = some k := by
            unfold firstBad
            rw [List.findIdx?_eq_some_iff_getElem]
            obtain ⟨hkl, e⟩ := List.getElem?_eq_some_iff.1 HX.out
            refine ⟨hkl, by simp [e, hs], fun j hj => ?_⟩
            have := HA.out (l[j]'(by omega)) (by rw [List.mem_iff_getElem?]; exact ⟨j, by rw [List.getElem?_take, if_pos hj]; exact List.getElem?_eq_getElem _⟩)
            simp [this]
          rw [this])
        clear hs
        go_wp2_with fail
        refine (check_any ad x wr ((HE.out.keepN HC.out).sub (by decide)) hx63).mono ?_
        rintro e w2 ⟨rfl, hc2⟩
        rw [HN.out]
        simp only [errV_pos (show (4 : Nat) ≠ 0 by omega)]
        have HC2 := Lib.hid (HC.out.then hc2)
        clear hc2
        go_wp2_with fail
        go_ret
        exact ⟨_, rfl, by rw [HFB.out]; exact .inr (.inr ⟨by omega, by omega, w2.heap.size, rfl, block_alloc w2 _⟩), HC2.out.alloc _⟩
    · obtain rfl : k = l.length := by omega
      have hfb : firstBad l = none := by
        unfold firstBad
        rw [List.findIdx?_eq_none_iff]
        intro x hx
        have := HA.out x (by rw [List.take_of_length_le (Nat.le_refl _)]; exact hx)
        simp [this]
      by_cases h12 : 12 < l.length
      · have HFB := Lib.hid (show pathC l = (2, -1) by unfold pathC; rw [hfb]; simp [h12])
        obtain ⟨q1, q1l⟩ := (HE.out.keepN hC).get (c := 2) (by simp)
        simp only [gl] at q1 q1l
        clear hfb hC
        go_wp2_with fail
        go_ret
        exact ⟨_, rfl, by rw [HFB.out]; exact .inr (.inl ⟨by omega, by omega, rfl, rfl⟩), HC.out⟩
      · have HFB := Lib.hid (show pathC l = (0, -1) by unfold pathC; rw [hfb]; simp [h12])
        have h12d : ¬ (12 : Int) < (l.length : Int) := by omega
        clear hfb hC
        go_wp2_with fail
        go_ret
        exact ⟨_, rfl, by rw [HFB.out]; exact .inl ⟨rfl, rfl, rfl⟩, HC.out⟩
end Go.Proofs.YtdhegblgghembaaDoor
