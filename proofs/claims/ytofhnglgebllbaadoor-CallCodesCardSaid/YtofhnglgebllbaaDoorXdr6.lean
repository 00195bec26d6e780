/- package xdr: the Reader's Long and Bool by contract. -/
import Derived.Test.YtofhnglgebllbaaDoorXdr5
namespace Go.Proofs.YtofhnglgebllbaaDoor
open Go.RowKit Go.Lib
set_option linter.unusedVariables false
set_option linter.unusedSimpArgs false

set_option maxHeartbeats 1000000 in
set_option maxRecDepth 100000 in
theorem rlong_any {B : Nat} (ad : Nat → Addr) (b : Nat) (s : ByteArray) (w : World) (he : Env B ad [1] w) (hb : B ≤ b) (ht : RdAt w b s) (hs : s.size ≤ 9223372036854775807) :
    Calls Tryd.prog 153 #[.pointer (some ⟨b, 0, none⟩)] w fun e w' => e = .returned (.tuple #[.int .i64 ((rdNum s 8 (fun q => decide (q < 9223372036854775808))).1 : Int), errV ad (rdNum s 8 (fun q => decide (q < 9223372036854775808))).2.2]) ∧ Chg (· = b) w w' ∧ RdAt w' b (rdNum s 8 (fun q => decide (q < 9223372036854775808))).2.1 := by
  have HV := Lib.hid (value_any b 8 s w ht (by omega) hs)
  have HE := Lib.hid he
  have HT := Lib.hid ht
  clear he ht
  unfold rdNum
  by_cases hf : 8 ≤ s.size
  · have e1 : decide (8 ≤ s.size) = true := by simpa using hf
    have e2 : (if s.size < 8 then 0 else numK s 8) = numK s 8 := if_neg (by omega)
    rw [e1, e2] at HV
    have hq := numK_lt s 8
    obtain ⟨q, hqq⟩ : ∃ q, q = numK s 8 := ⟨_, rfl⟩
    rw [← hqq] at HV hq ⊢
    have hq2 : q < 18446744073709551616 := hq
    have hfI : (8 : Int) ≤ (s.size : Int) := by omega
    clear hqq hq e1 e2
    by_cases hok : ((fun q => decide (q < 9223372036854775808))) q = true
    · rw [if_pos ⟨hf, hok⟩]
      simp only [decide_eq_true_eq] at hok
      have hwc : IntKind.i64.wrap (q : Int) = q := IntWalk.i64_in _ (by omega)
      have hd : (q : Int) / 9223372036854775808 = 0 := by omega
      clear hok
      go_enter Tryd.func153, Tryd.ntmps153
      go_wp2_with fail
      refine HV.out.mono ?_
      rintro e w2 ⟨rfl, hc2⟩
      have hR2 := HT.out.keep hc2 (fun f => f)
      have HR2 := Lib.hid hR2
      obtain ⟨T, h2⟩ := hR2
      have c0 := cell_of h2 0
      have f0 := free_of h2 0
      have gb := lt_of_block h2
      simp at c0
      clear h2
      go_wp2_with fail
      go_ret2
      exact ⟨rfl, (hc2.nil (S := (· = b))).setCell (p := ⟨b, 0, none⟩) (.inr rfl) _, HR2.out.put _⟩
    · rw [if_neg (fun h => hok h.2)]
      simp only [decide_eq_true_eq] at hok
      have hd : ((q : Int) / 9223372036854775808 != 0) = true := by simp; omega
      clear hok
      go_enter Tryd.func153, Tryd.ntmps153
      go_wp2_with fail
      refine HV.out.mono ?_
      rintro e w2 ⟨rfl, hc2⟩
      obtain ⟨q1, q1l⟩ := (HE.out.keepN hc2).get (c := 1) (by simp)
      simp only [gl] at q1 q1l
      go_wp2_with fail
      go_quiet (fail)
      go_wp2_with fail
      go_ret2
      exact ⟨rfl, (hc2.nil).then (by repeat (first | exact Chg.refl _ _ | exact Chg.drewN _ _ | refine Chg.drew ?_ | refine Chg.drewsN ?_ _)), (HT.out.keep hc2 (fun f => f)).keep (U := Nil) (by repeat (first | exact Chg.refl _ _ | exact Chg.drewN _ _ | refine Chg.drew ?_ | refine Chg.drewsN ?_ _)) (fun f => f)⟩
  · rw [if_neg (fun h => hf h.1)]
    have e1 : decide (8 ≤ s.size) = false := by simpa using hf
    have e2 : (if s.size < 8 then 0 else numK s 8) = 0 := if_pos (by omega)
    rw [e1, e2] at HV
    clear e1 e2 hf
    go_enter Tryd.func153, Tryd.ntmps153
    go_wp2_with fail
    refine HV.out.mono ?_
    rintro e w2 ⟨rfl, hc2⟩
    obtain ⟨q1, q1l⟩ := (HE.out.keepN hc2).get (c := 1) (by simp)
    simp only [gl] at q1 q1l
    go_wp2_with fail
    go_quiet (fail)
    go_wp2_with fail
    go_ret2
    exact ⟨rfl, (hc2.nil).then (by repeat (first | exact Chg.refl _ _ | exact Chg.drewN _ _ | refine Chg.drew ?_ | refine Chg.drewsN ?_ _)), (HT.out.keep hc2 (fun f => f)).keep (U := Nil) (by repeat (first | exact Chg.refl _ _ | exact Chg.drewN _ _ | refine Chg.drew ?_ | refine Chg.drewsN ?_ _)) (fun f => f)⟩
end Go.Proofs.YtofhnglgebllbaaDoor
