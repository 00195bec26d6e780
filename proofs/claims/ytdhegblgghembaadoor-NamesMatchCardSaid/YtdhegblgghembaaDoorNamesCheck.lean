/- The walk of law NamesCheck. -/
import Derived.Test.YtdhegblgghembaaDoorName6
import Derived.Test.YtdhegblgghembaaDoorName9
import Derived.Test.YtdhegblgghembaaDoorName10
namespace Go.Proofs.YtdhegblgghembaaDoor
open Go.RowKit Go.Lib
set_option linter.unusedVariables false
set_option linter.unusedSimpArgs false

theorem spL_nil {s : ByteArray} (h : (spC s).1 ≠ 0) : spL s = [] := by
  unfold spC at h
  unfold spL
  by_cases h0 : s = slash
  · rw [if_pos h0]
  · rw [if_neg h0] at h ⊢
    by_cases h1 : preS s = false ∨ sufS s = true
    · rw [if_pos h1]
    · rw [if_neg h1] at h ⊢
      rw [if_neg h]
theorem nameC_le (s : ByteArray) : nameC s ≤ 15 := by unfold nameC; split <;> omega
theorem spL_len {s : ByteArray} (h : s.size ≤ 1000000) : (spL s).length ≤ 1000001 := by
  unfold spL
  split
  · simp
  · split
    · simp
    · split
      · unfold txtsL
        rw [List.length_map]
        have := (wordsL_len (s.extract 1 s.size).data.toList).2
        have h9 : (s.extract 1 s.size).data.toList.length = (s.extract 1 s.size).size := Array.length_toList
        rw [ByteArray.size_extract] at h9
        omega
      · simp
set_option maxHeartbeats 2000000 in
set_option maxRecDepth 100000 in
theorem namesCheck_any (ad : Nat → Addr) (s : ByteArray) (w : World) (he : EnvA w.heap.size ad w) (hm : ∃ m, w.cell? ⟨16, 0, none⟩ = some (.int .i64 m)) :
    Calls Tryd.prog 11 #[.string s] w fun e w' => e = .returned (.bool true) ∧ Chg Nil w w' := by
  have HN := Lib.hid (named_any ad w he hm)
  have HE := Lib.hid he
  have hml : 16 < w.heap.size := by obtain ⟨m, hm⟩ := hm; exact World.block_lt_of_cell? _ _ hm
  have HM := Lib.hid hm
  clear he hm
  by_cases hs : 600 < s.size
  · go_enter Tryd.func11, Tryd.ntmps11
    go_wp2_with fail
    refine HN.out.mono ?_
    rintro e w1 ⟨rfl, hc1⟩
    go_wp2_with fail
    go_ret
    exact ⟨rfl, hc1⟩
  have hsd : decide (600 < s.size) = false := by simpa using hs
  go_enter Tryd.func11, Tryd.ntmps11
  go_wp2_with fail
  refine HN.out.mono ?_
  rintro e w1 ⟨rfl, hc1⟩
  have HK1 := Lib.hid hc1
  clear hc1
  go_wp2_with fail
  refine (check_any ad s w1 ((HE.out.keepN HK1.out).env.sub (by decide)) (by omega)).mono ?_
  rintro e w2 ⟨rfl, hc2⟩
  have HK2 := Lib.hid (HK1.out.then hc2)
  clear hc2
  go_wp2_with fail
  refine (nameError_any s w2 (by omega)).mono ?_
  rintro e w3 ⟨rfl, rfl⟩
  go_wp2_with fail
  refine (coded1_ok ad (nameC s) ((nameC s : Nat) : Int) _ (HE.out.keepN HK2.out) (nameC_le s) rfl).mono ?_
  rintro e w4 ⟨rfl, hc4⟩
  have HK4 := Lib.hid (HK2.out.then hc4)
  have HM4 := Lib.hid (show ∃ m, w4.cell? ⟨16, 0, none⟩ = some (.int .i64 m) by
    obtain ⟨m, hm⟩ := HM.out
    exact ⟨m, (HK4.out.cell (p := ⟨16, 0, none⟩) hml (fun f => f)).trans hm⟩)
  clear hc4
  go_wp2_with fail
  refine (split_any ad s w4 ((HE.out.keepN HK4.out).env.sub (by decide)) (by omega) HM4.out).mono ?_
  rintro e w5 ⟨a5, n5, c5, v, rfl, hv5, hn5, hnc5, ht5, hc5⟩
  have HK5 := Lib.hid (HK4.out.then hc5)
  have HV5 := Lib.hid hv5
  have HT5 := Lib.hid ht5
  have HL := Lib.hid (spL_len (s := s) (by omega))
  clear hc5 hv5 ht5
  subst hn5
  have hnc : (spL s).length ≤ c5 := hnc5
  go_wp2_with fail
  refine (splitOf_any s w5 (by omega)).mono ?_
  rintro e w6 ⟨a6, n6, c6, rfl, hn6, hnc6, ht6, hc6⟩
  have HK6 := Lib.hid (HK5.out.then hc6)
  have HV6 := Lib.hid (HV5.out.keep hc6)
  have HT6 := Lib.hid ht6
  have HT5' := Lib.hid (HT5.out.keep (Nat.le_refl _) hc6 (fun _ f => f.elim))
  have hz6 := hc6.size
  subst hn6
  clear ht6 hc6
  unfold faultV
  have HSN := Lib.hid (spL_nil (s := s))
  obtain ⟨cd, hcd⟩ : ∃ cd, cd = (spC s).1 := ⟨_, rfl⟩
  obtain ⟨an, han⟩ : ∃ an, an = (spC s).2 := ⟨_, rfl⟩
  rw [← hcd, ← han] at HV6
  rw [← hcd] at HSN
  rw [← hcd, ← han]
  clear hcd han
  have HK7 := Lib.hid (HK6.out.alloc (.cells #[.int .i64 cd, .int .i64 an] 100))
  have HV7 := Lib.hid (HV6.out.keep ((Chg.refl Nil w6).alloc (.cells #[.int .i64 cd, .int .i64 an] 100)))
  by_cases hc0 : cd = 0
  · have hv := HV7.out
    rcases hv with ⟨h1, h2, rfl⟩ | ⟨h, _⟩ | ⟨h, _⟩
    rotate_left
    · omega
    · omega
    have h1I : (cd : Int) = 0 := by omega
    rw [h1I, h2]
    have HTa := Lib.hid (HT5'.out.keep (by omega) ((Chg.refl Nil w6).alloc (.cells #[.int .i64 0, .int .i64 (-1)] 100)) (fun _ f => f.elim))
    have HTb := Lib.hid (HT6.out.keep (Nat.le_refl _) ((Chg.refl Nil w6).alloc (.cells #[.int .i64 0, .int .i64 (-1)] 100)) (fun _ f => f.elim))
    have HK8 := Lib.hid (HK6.out.alloc (.cells #[.int .i64 0, .int .i64 (-1)] 100))
    clear hc0 h1 h2 h1I
    go_wp2_with fail
    refine (sameTexts_ok _ _ _ _ _ _ HTa.out HTb.out (by simp; omega) (by simp) hnc hnc6 (by have := HL.out; omega)).mono ?_
    rintro e w9 ⟨rfl, hc9⟩
    go_wp2_with fail
    go_ret
    exact ⟨rfl, HK8.out.then hc9⟩
  · have HS0 := Lib.hid (HSN.out hc0)
    have hcI : (0 : Int) < (cd : Int) := by omega
    have hln : (spL s).length = 0 := by rw [HS0.out]; rfl
    clear hc0
    go_wp2_with fail
    refine (faulted_ok ad v cd an _ (HE.out.keepN HK7.out) HV7.out).mono ?_
    rintro e w9 ⟨rfl, hc9⟩
    go_wp2_with fail
    go_ret
    exact ⟨rfl, HK7.out.then hc9⟩
end Go.Proofs.YtdhegblgghembaaDoor
