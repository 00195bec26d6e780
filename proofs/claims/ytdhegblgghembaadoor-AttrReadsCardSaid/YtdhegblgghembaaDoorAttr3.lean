/- package attr: Same by contract; law1's asked. -/
import Derived.Test.YtdhegblgghembaaDoorAttr2
namespace Go.Proofs.YtdhegblgghembaaDoor
open Go.RowKit Go.Lib
set_option linter.unusedVariables false
set_option linter.unusedSimpArgs false

def sameF (a b : Nat → Int) (l : List Nat) : Bool := l.all fun f => a f == b f
theorem sameF_app (a b : Nat → Int) (l m : List Nat) : sameF a b (l ++ m) = (sameF a b l && sameF a b m) := List.all_append ..
theorem sameF_one (a b : Nat → Int) (f : Nat) : sameF a b [f] = (a f == b f) := by simp [sameF]
def RelS1 (a b : Nat → Int) (m : Nat) (w : World) (v i : Value) (wr : World) : Prop :=
  ∃ (k : Nat) (x : Bool), k ≤ (idxs m 5).length ∧ i = .int .i64 k ∧ v = .bool x ∧ x = sameF a b (((idxs m 5).take k).flatMap flds) ∧ Chg Nil w wr
def RelS2 (a b : Nat → Int) (x0 : Bool) (i : Nat) (w : World) (v j : Value) (wr : World) : Prop :=
  ∃ (q : Nat) (x : Bool), q ≤ (flds i).length ∧ j = .int .i64 q ∧ v = .bool x ∧ x = (x0 && sameF a b ((flds i).take q)) ∧ Chg Nil w wr
set_option maxHeartbeats 8000000 in
set_option maxRecDepth 100000 in
theorem same_any (a b : Nat → Int) (m : Nat) (hm : m ≤ 31) (w : World) :
    Calls Tryd.prog 23 #[.agg (attrC a).toArray, .agg (attrC b).toArray, .int .i64 m] w fun e w' => e = .returned (.tuple #[.bool (sameF a b ((idxs m 5).flatMap flds)), .nilIface]) ∧ Chg Nil w w' := by
  have HBA := Lib.hid (block_alloc_old (block_alloc w (.cells (attrC a).toArray 36)) (.cells (attrC b).toArray 36))
  have HBB := Lib.hid (block_alloc (w.alloc (.cells (attrC a).toArray 36)) (.cells (attrC b).toArray 36))
  go_enter Tryd.func23, Tryd.ntmps23
  go_wp2_with fail
  refine (right_yes m hm _).mono ?_
  rintro e w1 ⟨rfl, rfl⟩
  go_wp2_with fail
  refine (asked_any m hm _).mono ?_
  rintro e w4 ⟨v, Sp, rfl, hs4, hSp, hc4⟩
  have HC4 := Lib.hid (show Chg Nil w w4 from (((Chg.refl _ _).alloc _).alloc _).then hc4)
  have HA4 := Lib.hid (hc4.keep HBA.out (fun f => f))
  have HB4 := Lib.hid (hc4.keep HBB.out (fun f => f))
  have hn5 := idxs_len m 5
  obtain ⟨va, vc, rfl⟩ := hs4.shape
  have HS4 := Lib.hid hs4
  clear hc4 hs4 hSp
  go_wp2_with fail
  go_loopw [8, 21] (fun v i wr => RelS1 a b m w4 v i wr) (fun _ i _ => ((idxs m 5).length - RowKit.intOf i).toNat)
  case atStart => exact ⟨0, true, Nat.zero_le _, rfl, rfl, rfl, Chg.refl _ _⟩
  case round =>
    obtain ⟨k, x, hk, rfl, rfl, hx, hC⟩ := hrel
    obtain ⟨wo, hwo⟩ : ∃ wo : World, wo = wr := ⟨_, rfl⟩
    subst hwo
    by_cases hlt : k < (idxs m 5).length
    · obtain ⟨i, hi⟩ : ∃ i, (idxs m 5)[k]? = some i := ⟨(idxs m 5)[k], List.getElem?_eq_getElem hlt⟩
      have hi5 : i < 5 := idxs_lt (List.mem_of_getElem? hi)
      have hsl := HS4.out.keep hC (fun _ _ f => f)
      obtain ⟨g, off, cap, cs, e, hb, hnc, hcm, hoff, hcells, hSg, hgl⟩ := hsl.place (by omega)
      cases e
      have c0 := (hsl.elem partC_len hi 0 _ rfl).1
      have c1 := (hsl.elem partC_len hi 1 _ rfl).1
      simp only [Nat.add_zero] at c0
      have j0 : (0 : Int) ≤ (k : Int) := by omega
      have j1 : (k : Int) < ((idxs m 5).length : Int) := by omega
      have kc : k < vc := by omega
      have HX := Lib.hid hx
      have HTF := Lib.hid (take_flat hi)
      have HC := Lib.hid hC
      have HAO := Lib.hid (hC.keep HA4.out (fun f => f))
      have HBO := Lib.hid (hC.keep HB4.out (fun f => f))
      clear hx hC hb hcells hoff hsl hi
      have hcf := part_enter i hi5
      go_wp2_with fail
      refine (of_any i (w.heap.size + 1) hi5 _).mono ?_
      rintro e w5 ⟨rfl, hc5, hb5⟩
      have hcw : Chg Nil wo w5 := ((Chg.refl Nil wo).alloc _).then hc5
      have hbx := hc5.keep (block_alloc wo (.cells (partC i).toArray 128)) (fun f => f)
      have HBX := Lib.hid hbx
      have HBP := Lib.hid hb5
      have hz5 := hc5.size
      have hlb := lt_of_block hb5
      have x1 := cell_of hbx 1
      simp [partC] at hz5 hlb x1
      have HCW := Lib.hid hcw
      have hfl := flds_len i
      clear hc5 hb5 hcw c0 c1 hbx
      go_wp2_with fail
      refine (of_any i w.heap.size hi5 _).mono ?_
      rintro e w6 ⟨rfl, hc6, hb6⟩
      have hlb6 := lt_of_block hb6
      have HCW6 := Lib.hid (HCW.out.then hc6)
      have HBQ := Lib.hid hb6
      have HBP6 := Lib.hid (hc6.keep HBP.out (fun f => f))
      have HA6 := Lib.hid ((HCW.out.then hc6).keep HAO.out (fun f => f))
      have HB6 := Lib.hid ((HCW.out.then hc6).keep HBO.out (fun f => f))
      clear hc6 hb6 x1
      go_wp2_with fail
      go_loopw [8, 32] (fun v j wr => RelS2 a b x i w6 v j wr) (fun _ j _ => ((flds i).length - RowKit.intOf j).toNat)
      case atStart => exact ⟨0, x, Nat.zero_le _, rfl, rfl, by simp [sameF], Chg.refl _ _⟩
      case round =>
        obtain ⟨q, x2, hq, rfl, rfl, hx2, hC2⟩ := hrel
        by_cases hqt : q < (flds i).length
        · obtain ⟨f, hf⟩ : ∃ f, (flds i)[q]? = some f := ⟨(flds i)[q], List.getElem?_eq_getElem hqt⟩
          have hfl2 := flds_long hi5 (List.mem_of_getElem? hf)
          have bq := cell_of (hC2.keep HBQ.out (fun f => f)) q
          have bp := cell_of (hC2.keep HBP6.out (fun f => f)) q
          have bfa := cell_of (hC2.keep HA6.out (fun f => f)) f
          have bfb := cell_of (hC2.keep HB6.out (fun f => f)) f
          rw [List.getElem?_toArray, attrC_get a hfl2.2] at bfa
          rw [List.getElem?_toArray, attrC_get b hfl2.2] at bfb
          rw [List.getElem?_toArray, List.getElem?_map, hf] at bp bq
          simp [ptrC] at bp bq bfb
          have i0 : (0 : Int) ≤ (q : Int) := by omega
          have i1 : (q : Int) < ((flds i).length : Int) := by omega
          have HST := Lib.hid (show sameF a b ((flds i).take (q + 1)) = (sameF a b ((flds i).take q) && (a f == b f)) by rw [take_one hf, sameF_app, sameF_one])
          have HX2 := Lib.hid hx2
          have HC2 := Lib.hid hC2
          clear hx2 hC2 hf hfl2
          cases x2 with
          | true =>
            go_wp2_with fail
            go_quiet (fail)
            go_wp2_with fail
            exact ⟨⟨q + 1, _, by omega, by go_num, rfl, by rw [HST.out, ← Bool.and_assoc, ← HX2.out]; rfl, HC2.out.then (Chg.drewN _ _)⟩, by simp [RowKit.intOf]; omega⟩
          | false =>
            go_wp2_with fail
            go_quiet (fail)
            go_wp2_with fail
            exact ⟨⟨q + 1, false, by omega, by go_num, rfl, by rw [HST.out, ← Bool.and_assoc, ← HX2.out]; rfl, HC2.out.then (Chg.drewN _ _)⟩, by simp [RowKit.intOf]; omega⟩
        · obtain rfl : q = (flds i).length := by omega
          have HX2 := Lib.hid hx2
          have HC2 := Lib.hid hC2
          clear hx2 hC2
          go_wp2_with fail
          go_roundw
          case rel => exact ⟨k + 1, x2, by omega, by go_num, rfl, by
            have h9 := HX2.out
            rw [List.take_of_length_le (Nat.le_refl _)] at h9
            rw [HTF.out, sameF_app, ← HX.out]; exact h9, (HC.out.then HCW6.out).then HC2.out⟩
          case measure => simp [RowKit.intOf]; omega
    · obtain rfl : k = (idxs m 5).length := by omega
      rw [List.take_of_length_le (Nat.le_refl _)] at hx
      have HX := Lib.hid hx
      have HC := Lib.hid hC
      clear hx hC
      go_wp2_with fail
      go_ret2
      exact ⟨by rw [← HX.out]; rfl, HC4.out.then HC.out⟩
set_option maxHeartbeats 1000000 in
theorem same_bad (ad : Nat → Addr) (a b : Nat → Int) (m : Int) (hm : m < 0 ∨ 31 < m) (w : World) (he : Env w.heap.size ad [2] w) :
    Calls Tryd.prog 23 #[.agg (attrC a).toArray, .agg (attrC b).toArray, .int .i64 m] w fun e w' => e = .returned (.tuple #[.bool false, errV ad 2]) ∧ Chg Nil w w' := by
  obtain ⟨q1, q1l⟩ := ((he.alloc (.cells (attrC a).toArray 36)).alloc (.cells (attrC b).toArray 36)).get (c := 2) (by simp)
  simp only [gl] at q1 q1l
  clear he
  go_enter Tryd.func23, Tryd.ntmps23
  go_wp2_with fail
  refine (right_no m hm _).mono ?_
  rintro e w1 ⟨rfl, rfl⟩
  go_wp2_with fail
  go_quiet (fail)
  go_wp2_with fail
  go_ret2
  exact ⟨rfl, ((Chg.refl _ _).alloc _).alloc _ |>.then (Chg.drewN _ _)⟩
set_option maxHeartbeats 1000000 in
theorem encode_bad (ad : Nat → Addr) (a : Nat → Int) (m : Int) (hm : m < 0 ∨ 31 < m) (w : World) (he : Env w.heap.size ad [2] w) :
    Calls Tryd.prog 31 #[.agg (attrC a).toArray, .int .i64 m] w fun e w' => e = .returned (.tuple #[.string ⟨#[]⟩, errV ad 2]) ∧ Chg Nil w w' := by
  obtain ⟨q1, q1l⟩ := (he.alloc (.cells (attrC a).toArray 36)).get (c := 2) (by simp)
  simp only [gl] at q1 q1l
  clear he
  go_enter Tryd.func31, Tryd.ntmps31
  go_wp2_with fail
  refine (right_no m hm _).mono ?_
  rintro e w1 ⟨rfl, rfl⟩
  go_wp2_with fail
  go_quiet (fail)
  go_wp2_with fail
  go_ret2
  exact ⟨rfl, ((Chg.refl _ _).alloc _).then (Chg.drewN _ _)⟩
def attrOne (f : Nat) : Int := if f = 0 then 1 else 0
theorem encA_one : encA attrOne 0 = (⟨#[0, 0, 0, 0]⟩, 0) := by decide
set_option maxHeartbeats 1000000 in
theorem askedLaw_any (ad : Nat → Addr) (w : World) (he : Env w.heap.size ad [2, 9] w) :
    Calls Tryd.prog 22 #[] w fun e w' => e = .returned (.bool true) ∧ Chg Nil w w' := by
  have HE := Lib.hid (encode_any ad attrOne 0 (by omega) w he (fun f => by unfold attrOne; split <;> omega))
  rw [encA_one] at HE
  clear he
  go_enter Tryd.func22, Tryd.ntmps22
  go_wp2_with fail
  refine HE.out.mono ?_
  rintro e w1 ⟨rfl, hc1⟩
  simp only [errV_zero]
  go_wp2_with fail
  go_ret
  exact ⟨rfl, hc1⟩
end Go.Proofs.YtdhegblgghembaaDoor
