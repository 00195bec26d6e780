/- law1's named; the reference's NameError, PathError. -/
import Derived.Test.YtdhegblgghembaaDoorName5
import Derived.Test.YtdhegblgghembaaDoorCoded1
namespace Go.Proofs.YtdhegblgghembaaDoor
open Go.RowKit Go.Lib
set_option linter.unusedVariables false
set_option linter.unusedSimpArgs false

def ab : ByteArray := ⟨#[47, 97, 47, 98, 46, 99]⟩
theorem spC_ab : spC ab = (0, -1) := by decide +kernel
theorem spL_ab : spL ab = [⟨#[97]⟩, ⟨#[98, 46, 99]⟩] := by decide +kernel
theorem nameC_a1 : nameC ⟨#[97, 45, 49]⟩ = 0 := by decide +kernel
theorem nameC_dd : nameC ⟨#[46, 46]⟩ = 4 := by decide +kernel
set_option maxHeartbeats 2000000 in
set_option maxRecDepth 100000 in
theorem named_any (ad : Nat → Addr) (w : World) (he : EnvA w.heap.size ad w) (hm : ∃ m, w.cell? ⟨16, 0, none⟩ = some (.int .i64 m)) :
    Calls Tryd.prog 50 #[] w fun e w' => e = .returned (.bool true) ∧ Chg Nil w w' := by
  have HE := Lib.hid he
  have HSP := Lib.hid (split_any ad ab w (he.env.sub (by decide)) (by decide) hm)
  clear he hm
  unfold ab at HSP
  go_enter Tryd.func50, Tryd.ntmps50
  go_wp2_with fail
  refine HSP.out.mono ?_
  rintro e w1 ⟨a, n, c, v, rfl, hv, hn, hnc, ht, hc1⟩
  have hsp : spC ⟨#[47, 97, 47, 98, 46, 99]⟩ = (0, -1) := spC_ab
  have hsl : spL ⟨#[47, 97, 47, 98, 46, 99]⟩ = [⟨#[97]⟩, ⟨#[98, 46, 99]⟩] := spL_ab
  rw [hsp] at hv
  rw [hsl] at hn ht
  simp only [List.length_cons, List.length_nil] at hn
  subst hn
  rcases hv with ⟨_, _, rfl⟩ | ⟨h, _⟩ | ⟨h, _⟩
  rotate_left
  · exact absurd h (by simp)
  · exact absurd h (by simp)
  obtain ⟨_, g, off, rfl, hg, hcell⟩ := ht 1 ⟨#[98, 46, 99]⟩ rfl
  have HC1 := Lib.hid hc1
  have HCL := Lib.hid hcell
  clear hsp hsl ht hc1 hcell
  have hcc : 1 < c := by omega
  go_wp2_with fail
  refine (check_any ad _ w1 ((HE.out.keepN HC1.out).env.sub (by decide)) (by decide)).mono ?_
  rintro e w2 ⟨rfl, hc2⟩
  rw [nameC_a1]
  simp only [errV_zero]
  have HC2 := Lib.hid (HC1.out.then hc2)
  go_wp2_with fail
  refine (check_any ad _ w2 ((HE.out.keepN HC2.out).env.sub (by decide)) (by decide)).mono ?_
  rintro e w3 ⟨rfl, hc3⟩
  rw [nameC_dd]
  have HC3 := Lib.hid (HC2.out.then hc3)
  go_wp2_with fail
  refine (coded1_ok ad 4 4 _ (HE.out.keepN HC3.out) (by decide) rfl).mono ?_
  rintro e w4 ⟨rfl, hc4⟩
  have HC4 := Lib.hid (HC3.out.then hc4)
  have c1 := (((hc2.then hc3).then hc4).cell (p := ⟨g, off + 1, none⟩) hg (fun f => f)).trans HCL.out
  have hz4 := ((hc2.then hc3).then hc4).size
  have hg4 : g < w4.heap.size := by omega
  clear hc2 hc3 hc4
  go_wp2_with fail
  go_ret
  exact ⟨rfl, HC4.out⟩
end Go.Proofs.YtdhegblgghembaaDoor
