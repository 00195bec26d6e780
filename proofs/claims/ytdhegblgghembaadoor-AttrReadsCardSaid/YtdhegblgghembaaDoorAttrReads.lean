/- The walk of law AttrReads. -/
import Derived.Test.YtdhegblgghembaaDoorAttr7
import Derived.Test.YtdhegblgghembaaDoorCoded1
import Derived.Test.YtdhegblgghembaaDoorAttrSame
namespace Go.Proofs.YtdhegblgghembaaDoor
open Go.RowKit Go.Lib
set_option linter.unusedVariables false
set_option linter.unusedSimpArgs false

theorem decM_cases (s : ByteArray) (m : Nat) : decM s m = (noF, 0, 1) ∨ ∃ b n, decM s m = (b, n, 0) := by
  unfold decM
  split
  · split
    · exact .inr ⟨_, _, rfl⟩
    · exact .inl rfl
  · exact .inl rfl
theorem decA_cases (s : ByteArray) : decA s = (noF, 0, 1) ∨ ∃ b n, decA s = (b, n, 0) := by
  unfold decA
  split
  · exact decM_cases _ _
  · exact .inl rfl
set_option maxHeartbeats 4000000 in
set_option maxRecDepth 100000 in
theorem attrReads_any (ad : Nat → Addr) (s : ByteArray) (w : World) (he : EnvA w.heap.size ad w) :
    Calls Tryd.prog 6 #[.string s] w fun e w' => e = .returned (.bool true) ∧ Chg Nil w w' := by
  have HE := Lib.hid he
  clear he
  by_cases hs : 500 < s.size
  · go_enter Tryd.func6, Tryd.ntmps6
    go_wp2_with fail
    refine (askedLaw_any ad _ (HE.out.env.up.sub (by decide))).mono ?_
    rintro e w1 ⟨rfl, hc1⟩
    go_wp2_with fail
    go_ret
    exact ⟨rfl, hc1⟩
  have hsd : decide (500 < s.size) = false := by simpa using hs
  rcases decA_cases s with hd | ⟨b, n, hd⟩
  · have HD := Lib.hid hd
    clear hd
    go_enter Tryd.func6, Tryd.ntmps6
    go_wp2_with fail
    refine (askedLaw_any ad _ (HE.out.env.up.sub (by decide))).mono ?_
    rintro e w1 ⟨rfl, hc1⟩
    have HK1 := Lib.hid hc1
    clear hc1
    go_wp2_with fail
    refine (decode_any ad s w1 ((HE.out.keepN HK1.out).env.up.sub (by decide)) (by omega)).mono ?_
    rintro e w2 ⟨rfl, hc2⟩
    have HK2 := Lib.hid (HK1.out.then hc2)
    rw [HD.out]
    simp only [attrC, noF]
    have HBD := Lib.hid (block_alloc w2 (.cells (attrC noF).toArray 36))
    have HK3 := Lib.hid (HK2.out.alloc (.cells (attrC noF).toArray 36))
    clear hc2
    go_wp2_with fail
    refine (attrFrom_any s _ (by omega)).mono ?_
    rintro e w4 ⟨rfl, hc4⟩
    have HK4 := Lib.hid (HK3.out.then hc4)
    have HB4 := Lib.hid (hc4.keep HBD.out (fun f => f))
    rw [HD.out]
    have HK5 := Lib.hid (HK4.out.alloc (.cells (attrC noF).toArray 36))
    have hb5 := ((Chg.refl Nil w4).alloc (.cells (attrC noF).toArray 36)).keep HB4.out (fun f => f)
    have HB5 := Lib.hid hb5
    have d0 := cell_of hb5 0
    have d1 := cell_of hb5 1
    have d2 := cell_of hb5 2
    have d3 := cell_of hb5 3
    have d4 := cell_of hb5 4
    have d5 := cell_of hb5 5
    simp [attrC, noF] at d0 d1 d2 d3 d4 d5
    simp only [attrC, noF, okB]
    clear hc4 hb5
    go_wp2_with fail
    refine (coded1_ok ad 1 1 _ (HE.out.keepN HK5.out) (by decide) rfl).mono ?_
    rintro e w9 ⟨rfl, hc9⟩
    have hb9 := hc9.keep HB5.out (fun f => f)
    have e0 := cell_of hb9 0
    have e1 := cell_of hb9 1
    have e2 := cell_of hb9 2
    have e3 := cell_of hb9 3
    have e4 := cell_of hb9 4
    have e5 := cell_of hb9 5
    simp [attrC, noF] at e0 e1 e2 e3 e4 e5
    clear hb9
    go_wp2_with fail
    go_ret
    exact ⟨rfl, HK5.out.then hc9⟩
  · have HD := Lib.hid hd
    clear hd
    go_enter Tryd.func6, Tryd.ntmps6
    go_wp2_with fail
    refine (askedLaw_any ad _ (HE.out.env.up.sub (by decide))).mono ?_
    rintro e w1 ⟨rfl, hc1⟩
    have HK1 := Lib.hid hc1
    clear hc1
    go_wp2_with fail
    refine (decode_any ad s w1 ((HE.out.keepN HK1.out).env.up.sub (by decide)) (by omega)).mono ?_
    rintro e w2 ⟨rfl, hc2⟩
    have HK2 := Lib.hid (HK1.out.then hc2)
    rw [HD.out]
    simp only [attrC, errV_zero]
    have HBD := Lib.hid (block_alloc w2 (.cells (attrC b).toArray 36))
    have HK3 := Lib.hid (HK2.out.alloc (.cells (attrC b).toArray 36))
    clear hc2
    go_wp2_with fail
    refine (attrFrom_any s _ (by omega)).mono ?_
    rintro e w4 ⟨rfl, hc4⟩
    have HK4 := Lib.hid (HK3.out.then hc4)
    have HB4 := Lib.hid (hc4.keep HBD.out (fun f => f))
    rw [HD.out]
    have HK5 := Lib.hid (HK4.out.alloc (.cells (attrC b).toArray 36))
    have hb5 := ((Chg.refl Nil w4).alloc (.cells (attrC b).toArray 36)).keep HB4.out (fun f => f)
    have HB5 := Lib.hid hb5
    have d0 := cell_of hb5 0
    have d1 := cell_of hb5 1
    have d2 := cell_of hb5 2
    have d3 := cell_of hb5 3
    have d4 := cell_of hb5 4
    have d5 := cell_of hb5 5
    simp [attrC] at d0 d1 d2 d3 d4 d5
    simp only [attrC, okB]
    clear hc4 hb5
    go_wp2_with fail
    go_ret
    exact ⟨rfl, HK5.out⟩
end Go.Proofs.YtdhegblgghembaaDoor
