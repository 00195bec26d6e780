/- The walks of the laws NamesMatch and NamesStar. -/
import Derived.Test.YtdhegblgghembaaDoorName18
import Derived.Test.YtdhegblgghembaaDoorName6
import Derived.Test.YtdhegblgghembaaDoorNamesCheck
namespace Go.Proofs.YtdhegblgghembaaDoor
open Go.RowKit Go.Lib
set_option linter.unusedVariables false
set_option linter.unusedSimpArgs false

set_option maxHeartbeats 2000000 in
set_option maxRecDepth 100000 in
theorem namesMatch_any (ad : Nat → Addr) (p s : ByteArray) (w : World) (he : EnvA w.heap.size ad w) (hm : ∃ m, w.cell? ⟨16, 0, none⟩ = some (.int .i64 m)) :
    Calls Tryd.prog 13 #[.string p, .string s] w fun e w' => e = .returned (.bool true) ∧ Chg Nil w w' := by
  have HN := Lib.hid (named_any ad w he hm)
  clear he hm
  by_cases hbad : 60 < p.size ∨ 60 < s.size
  · have hgo : (60 : Int) < (p.size : Int) ∨ (¬ (60 : Int) < (p.size : Int) ∧ (60 : Int) < (s.size : Int)) := by omega
    clear hbad
    rcases hgo with h | ⟨h, h1⟩
    all_goals
      go_enter Tryd.func13, Tryd.ntmps13
      go_wp2_with fail
      refine HN.out.mono ?_
      rintro e w1 ⟨rfl, hc1⟩
      go_wp2_with fail
      go_ret
      exact ⟨rfl, hc1⟩
  have h1 : ¬ (60 : Int) < (p.size : Int) := by omega
  have h2 : ¬ (60 : Int) < (s.size : Int) := by omega
  go_enter Tryd.func13, Tryd.ntmps13
  go_wp2_with fail
  refine HN.out.mono ?_
  rintro e w1 ⟨rfl, hc1⟩
  go_wp2_with fail
  refine (match_any p s w1 (by omega) (by omega)).mono ?_
  rintro e w2 ⟨rfl, hc2⟩
  go_wp2_with fail
  refine (matchOf_any p s w2 (by omega) (by omega)).mono ?_
  rintro e w3 ⟨rfl, hc3⟩
  go_wp2_with fail
  go_ret
  exact ⟨by simp, (hc1.then hc2).then hc3⟩

theorem app_list (a b : ByteArray) : (a ++ b).data.toList = a.data.toList ++ b.data.toList := by
  rw [ByteArray.data_append, Array.toList_append]
theorem app_size (a b : ByteArray) : (a ++ b).size = a.size + b.size := ByteArray.size_append
theorem match_yes (p s : ByteArray) (w : World) (hp : p.size ≤ 1000) (hs : s.size ≤ 1000) (h : Mt p.data.toList s.data.toList) :
    Calls Tryd.prog 59 #[.string p, .string s] w fun e w' => e = .returned (.bool true) ∧ Chg Nil w w' := by
  have := match_any p s w hp hs
  rw [mtB_yes h] at this
  exact this
set_option maxHeartbeats 2000000 in
set_option maxRecDepth 100000 in
theorem namesStar_any (ad : Nat → Addr) (a b x : ByteArray) (w : World) (za : a.size ≤ 140737488355327) (zb : b.size ≤ 140737488355327) (he : EnvA w.heap.size ad w) (hm : ∃ m, w.cell? ⟨16, 0, none⟩ = some (.int .i64 m)) :
    Calls Tryd.prog 14 #[.string a, .string b, .string x] w fun e w' => e = .returned (.bool true) ∧ Chg Nil w w' := by
  have HN := Lib.hid (named_any ad w he hm)
  clear he hm
  have za' : (a.size : Int) ≤ 140737488355327 := by omega
  have zb' : (b.size : Int) ≤ 140737488355327 := by omega
  by_cases hbad : (60 : Int) < (a.size : Int) + (b.size : Int) ∨ 60 < x.size
  · have hgo : (60 : Int) < (a.size : Int) + (b.size : Int) ∨ (¬ (60 : Int) < (a.size : Int) + (b.size : Int) ∧ (60 : Int) < (x.size : Int)) := by omega
    clear hbad
    rcases hgo with h | ⟨h, h1⟩
    all_goals
      go_enter Tryd.func14, Tryd.ntmps14
      go_wp2_with fail
      refine HN.out.mono ?_
      rintro e w1 ⟨rfl, hc1⟩
      go_wp2_with fail
      go_ret
      exact ⟨rfl, hc1⟩
  have h1 : ¬ (60 : Int) < (a.size : Int) + (b.size : Int) := by omega
  have h2 : ¬ (60 : Int) < (x.size : Int) := by omega
  have hx60 : x.size ≤ 60 := by omega
  have s1 : ¬ 9223372036854775807 < a.size + 1 := by omega
  have s2 : ¬ 9223372036854775807 < a.size + 1 + b.size := by omega
  have s3 : ¬ 9223372036854775807 < a.size + x.size := by omega
  have s4 : ¬ 9223372036854775807 < a.size + x.size + b.size := by omega
  have hap : ∀ u v : ByteArray, (u ++ v).size = u.size + v.size := app_size
  go_enter Tryd.func14, Tryd.ntmps14
  go_wp2_with fail
  refine HN.out.mono ?_
  rintro e w1 ⟨rfl, hc1⟩
  go_wp2_with fail
  refine (match_yes a a w1 (by omega) (by omega) (mt_self _)).mono ?_
  rintro e w2 ⟨rfl, hc2⟩
  go_wp2_with fail
  have p1 : (a ++ (⟨#[42]⟩ : ByteArray) ++ b).size ≤ 1000 := by rw [app_size, app_size]; show a.size + 1 + b.size ≤ 1000; omega
  have p2 : (a ++ x ++ b).size ≤ 1000 := by rw [app_size, app_size]; omega
  refine (match_yes _ _ w2 p1 p2 (by rw [app_list, app_list, app_list, app_list]; exact mt_hole _ _ _)).mono ?_
  rintro e w3 ⟨rfl, hc3⟩
  go_wp2_with fail
  refine (match_yes _ _ w3 (by decide) (by omega) (mt_one_star _)).mono ?_
  rintro e w4 ⟨rfl, hc4⟩
  have HC := Lib.hid (((hc1.then hc2).then hc3).then hc4)
  clear hc1 hc2 hc3 hc4 p1 p2 hap s1 s2 s3 s4
  by_cases h9 : x.size = 1
  · have h9I : ((x.size : Int) == 1) = true := by rw [h9]; rfl
    have h9J : ((x.size : Int) != 1) = false := by rw [h9]; rfl
    have HM : Hid (Mt [63] x.data.toList) := Lib.hid (by
      have hl : x.data.toList.length = 1 := by rw [sz]; exact h9
      obtain ⟨c, hc⟩ := List.length_eq_one_iff.1 hl
      rw [hc]
      exact (mt_one_sign (by decide) _).2 ⟨c, rfl, by simp [okS]⟩)
    clear h9
    go_wp2_with fail
    refine (match_yes _ _ w4 (by decide) (by omega) HM.out).mono ?_
    rintro e w5 ⟨rfl, hc5⟩
    go_wp2_with fail
    go_ret
    exact ⟨rfl, HC.out.then hc5⟩
  · have h9I : ((x.size : Int) == 1) = false := by rw [beq_eq_false_iff_ne]; omega
    have h9J : ((x.size : Int) != 1) = true := by rw [bne_iff_ne]; omega
    clear h9
    go_wp2_with fail
    go_ret
    exact ⟨rfl, HC.out⟩
end Go.Proofs.YtdhegblgghembaaDoor
