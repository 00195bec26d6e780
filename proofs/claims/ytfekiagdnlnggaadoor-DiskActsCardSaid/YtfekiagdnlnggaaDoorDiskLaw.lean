/- law4's spun: a closed fact of disks. -/
import Derived.Test.YtfekiagdnlnggaaDoorDisk6
namespace Go.Proofs.YtfekiagdnlnggaaDoor
open Go.RowKit
set_option linter.unusedVariables false
set_option linter.unusedSimpArgs false

theorem spun_plain : pWrite (pNew 2) 1 ⟨#[120]⟩ = (⟨-1, List.replicate 2 (zerosB 64), [zerosB 64, padS ⟨#[120]⟩], [(1, padS ⟨#[120]⟩)]⟩, 0) := by
  unfold pWrite pSpend pNew
  simp [List.replicate, ByteArray.size, List.set]
theorem padx : (padS ⟨#[120]⟩).size = 64 ∧ (padS ⟨#[120]⟩).data[0]? = some 120 := by
  constructor
  · unfold padS; rw [ByteArray.size_append, zerosB_size]; rfl
  · unfold padS; rw [ByteArray.data_append, Array.getElem?_append_left (by decide)]; rfl
set_option maxHeartbeats 1000000 in
set_option maxRecDepth 100000 in
theorem spun_any {B : Nat} (ad : Nat → Addr) (w : World) (he : Env B ad [2, 3, 15] w) :
    Calls Tryd.prog 40 #[] w fun e w' => e = .returned (.bool true) ∧ Chg Nil w w' := by
  have HE := Lib.hid he
  have hBw := he.size
  clear he
  go_enter Tryd.func40, Tryd.ntmps40
  go_wp2_with fail
  refine (new_good 2 w (by omega) (by omega)).mono ?_
  rintro e w1 ⟨b, S1, rfl, hc1, ht1, hS1⟩
  have HC1 := Lib.hid hc1
  have HT1 := Lib.hid ht1
  clear hc1 ht1
  go_wp2_with fail
  refine (sectors_any b (pNew 2) S1 w1 HT1.out).mono ?_
  rintro e w1' ⟨rfl, hw⟩
  have hw2 := hw.symm
  clear hw
  subst hw2
  have hl2 : ((pNew 2).now.length : Int) = 2 := rfl
  rw [hl2]
  clear hl2
  go_wp2_with fail
  refine (write_any (B := B) ad b 1 ⟨#[120]⟩ (pNew 2) S1 w1 (HE.out.keepN HC1.out) (fun x hx => Nat.le_trans hBw (hS1 x hx)) HT1.out (by show (0 + 1) * 24 ≤ _; omega)).mono ?_
  rintro e w2 ⟨rfl, hp2⟩
  rw [spun_plain] at hp2 ⊢
  obtain ⟨hc2, S2, ht2, hg2⟩ := hp2
  have HC2 := Lib.hid hc2
  have HT2 := Lib.hid ht2
  clear hc2 ht2 hg2
  obtain ⟨z, hz⟩ : ∃ z, z = padS ⟨#[120]⟩ := ⟨_, rfl⟩
  have hz1 := padx.1
  have hz2 := padx.2
  rw [← hz] at hz1 hz2 HT2 ⊢
  have e0 : errV ad 0 = .nilIface := errV_zero
  have hz3 : ∀ h : 0 < z.size, z[0]'h = 120 := fun h => (Array.getElem?_eq_some_iff.1 hz2).choose_spec
  clear hz hz2
  go_wp2_with fail
  refine (kread_any (B := B) ad b 1 _ S2 w2 (((HE.out.keepN HC1.out).keep HC2.out (fun x hx => Nat.le_trans hBw (hS1 x hx))).sub (by decide)) HT2.out).mono ?_
  rintro e w3 ⟨rfl, hc3⟩
  have hr : pRead ⟨-1, List.replicate 2 (zerosB 64), [zerosB 64, z], [(1, z)]⟩ 1 = (z, 0) := rfl
  rw [hr]
  have HC3 := Lib.hid hc3
  clear hc3 hr
  go_wp2_with (go_at_call 80; refine (waiting_any b _ S2 w3 (HT2.out.keep HC3.out (fun _ _ f => f))).mono ?_; rintro e w4 ⟨rfl, hw4⟩; have hw5 := hw4.symm; clear hw4; subst hw5)
  go_ret
  exact ⟨rfl, (HC1.out.trans HC2.out (fun x hx h => by have := hS1 x h; omega)).then HC3.out⟩
end Go.Proofs.YtfekiagdnlnggaaDoor
