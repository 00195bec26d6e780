/- The walk of law Names. -/
import Derived.Test.YtfekiagdnlnggaaDoorNames
import Derived.IntWalk
namespace Go.Proofs.YtfekiagdnlnggaaDoor
open Go.RowKit
set_option linter.unusedVariables false
set_option linter.unusedSimpArgs false

def numsL : List Int := [4000, 24, 12, 64, 4096, 300, 60, 8, 40, 60, 30, 12, 16, 20, 100, 60, 64, 4000, 100, 16, 1, 2, 1, 2]
theorem sameInts_24 (a b : Nat) (T1 T2 : TypeId) (w : World) (ha : w.heap[a]? = some (.cells (numsL.map (Value.int .i64)).toArray T1 (0, 0))) (hb : w.heap[b]? = some (.cells (numsL.map (Value.int .i64)).toArray T2 (0, 0))) :
    Calls Tryd.prog 26 #[.slice (some ⟨a, 0, none⟩) 24 24, .slice (some ⟨b, 0, none⟩) 24 24] w fun e w' => e = .returned (.bool true) ∧ Chg Nil w w' :=
  sameInts_eq numsL a b T1 T2 w ha hb (by decide)
theorem coded1_pos {B : Nat} (ad : Nat → Addr) (c : Nat) (code : Int) (w : World) (he : EnvA B ad w) (h0 : 0 < c) (hc : c ≤ 15) (hcode : (c : Int) = code) :
    Calls Tryd.prog 28 #[.iface 159 (.pointer (some (ad c))), .int .i64 code] w fun e w' => e = .returned (.bool true) ∧ Chg Nil w w' := by
  have := coded1_ok ad c code w he hc hcode
  rwa [errV_pos (by omega)] at this
theorem fa_methodError (v : Value) (w : World) : (Go.method 367 159 v "Error").run Tryd.prog w = .ok (148, v) w := by kernel_rfl
theorem error_any (a : Addr) (s : ByteArray) (w : World) (h : w.cell? a = some (.string s)) :
    Calls Tryd.prog 148 #[.pointer (some a)] w fun e w' => e = .returned (.string s) ∧ w = w' := by
  have hl := World.block_lt_of_cell? _ _ h
  go_enter Tryd.func148, Tryd.ntmps148
  go_wp2
  go_ret
  exact ⟨rfl, rfl⟩
theorem errNew_any (s : ByteArray) (w : World) :
    Calls Tryd.prog 29 #[.string s] w fun e w' => e = .returned (.iface 159 (.pointer (some ⟨w.heap.size, 0, none⟩))) ∧ w' = w.alloc (.cells #[.string s] 161) := by
  go_enter Tryd.func29, Tryd.ntmps29
  go_wp2
  go_ret
  exact ⟨rfl, rfl⟩

def RelN (w : World) (eb tb : Nat) (ad : Nat → Addr) (i : Value) (wr : World) : Prop :=
  ∃ k : Nat, k ≤ 15 ∧ i = .int .i64 k ∧ Chg Nil w wr ∧ (∀ j, j < 15 → wr.cell? ⟨eb, j, none⟩ = some (.iface 159 (.pointer (some (ad (j + 1)))))) ∧ (∀ j, j < 15 → wr.cell? ⟨tb, j, none⟩ = some (.string ⟨(errWord (j + 1)).toArray⟩))
theorem words_at {W : World} {tb : Nat} {T : TypeId} (h : W.heap[tb]? = some (.cells ((List.range 15).map fun j => Value.string ⟨(errWord (j + 1)).toArray⟩).toArray T (0, 0))) : ∀ j, j < 15 → W.cell? ⟨tb, j, none⟩ = some (.string ⟨(errWord (j + 1)).toArray⟩) := fun j hj => by
  rw [cell_of h]; simp [hj]

set_option maxHeartbeats 2000000 in
set_option maxRecDepth 100000 in
theorem names_any (ad : Nat → Addr) (w : World) (he : EnvA w.heap.size ad w) (hx : ∀ c ∈ allErrs, ∃ s : ByteArray, w.cell? (ad c) = some (.string s) ∧ s.data.toList = errText c) :
    Calls Tryd.prog 6 #[] w fun e w' => e = .returned (.bool true) ∧ Chg Nil w w' := by
  have HE := Lib.hid he
  have HX := Lib.hid hx
  clear he hx
  go_enter Tryd.func6, Tryd.ntmps6
  go_wp2_with fail
  refine (sameInts_24 w.heap.size (w.heap.size + 1) 3 3 _ ?_ ?_).mono ?_
  · exact block_alloc_old (block_alloc w _) _
  · have h := block_alloc (w.alloc (.cells (numsL.map (Value.int .i64)).toArray 3)) (.cells (numsL.map (Value.int .i64)).toArray 3)
    rw [show (w.alloc (.cells (numsL.map (Value.int .i64)).toArray 3)).heap.size = w.heap.size + 1 by simp] at h
    exact h
  rintro e w1 ⟨rfl, hc1⟩
  have hC1 : Chg Nil w w1 := (((Chg.refl _ _).alloc _).alloc _).then hc1
  have hE1 := (HE.out.keepN hC1).env
  obtain ⟨q1, l1⟩ := hE1.get (c := 1) (by decide)
  obtain ⟨q2, l2⟩ := hE1.get (c := 2) (by decide)
  obtain ⟨q3, l3⟩ := hE1.get (c := 3) (by decide)
  obtain ⟨q4, l4⟩ := hE1.get (c := 4) (by decide)
  obtain ⟨q5, l5⟩ := hE1.get (c := 5) (by decide)
  obtain ⟨q6, l6⟩ := hE1.get (c := 6) (by decide)
  obtain ⟨q7, l7⟩ := hE1.get (c := 7) (by decide)
  obtain ⟨q8, l8⟩ := hE1.get (c := 8) (by decide)
  obtain ⟨q9, l9⟩ := hE1.get (c := 9) (by decide)
  obtain ⟨q10, l10⟩ := hE1.get (c := 10) (by decide)
  obtain ⟨q11, l11⟩ := hE1.get (c := 11) (by decide)
  obtain ⟨q12, l12⟩ := hE1.get (c := 12) (by decide)
  obtain ⟨q13, l13⟩ := hE1.get (c := 13) (by decide)
  obtain ⟨q14, l14⟩ := hE1.get (c := 14) (by decide)
  obtain ⟨q15, l15⟩ := hE1.get (c := 15) (by decide)
  simp only [gl] at q1 q2 q3 q4 q5 q6 q7 q8 q9 q10 q11 q12 q13 q14 q15
  clear l1 l2 l3 l4 l5 l6 l7 l8 l9 l10 l11 l12 l13 l14 l15 hE1
  go_wp2_with fail
  clear q1 q2 q3 q4 q5 q6 q7 q8 q9 q10 q11 q12 q13 q14 q15
  go_loopw [5] (fun i wr => RelN w w1.heap.size (w1.heap.size + 1) ad i wr) (fun i _ => (15 - intOf i).toNat)
  case atStart =>
    refine ⟨0, by omega, rfl, (hC1.alloc _).alloc _, fun j hj => ?_, fun j hj => ?_⟩
    · rw [World.cell?_alloc_lt _ _ _ (by simp), World.cell?_alloc_at _ _ _ _ rfl]
      rcases (show j = 0 ∨ j = 1 ∨ j = 2 ∨ j = 3 ∨ j = 4 ∨ j = 5 ∨ j = 6 ∨ j = 7 ∨ j = 8 ∨ j = 9 ∨ j = 10 ∨ j = 11 ∨ j = 12 ∨ j = 13 ∨ j = 14 by omega) with rfl | rfl | rfl | rfl | rfl | rfl | rfl | rfl | rfl | rfl | rfl | rfl | rfl | rfl | rfl <;> rfl
    · rw [World.cell?_alloc_at _ _ _ _ (by simp)]
      rcases (show j = 0 ∨ j = 1 ∨ j = 2 ∨ j = 3 ∨ j = 4 ∨ j = 5 ∨ j = 6 ∨ j = 7 ∨ j = 8 ∨ j = 9 ∨ j = 10 ∨ j = 11 ∨ j = 12 ∨ j = 13 ∨ j = 14 by omega) with rfl | rfl | rfl | rfl | rfl | rfl | rfl | rfl | rfl | rfl | rfl | rfl | rfl | rfl | rfl <;> rfl
  case round =>
    obtain ⟨k, hk, rfl, hC, hec, htc⟩ := hrel
    by_cases hlt : k < 15
    · have hc := hec k hlt
      have ht := htc k hlt
      have hel := World.block_lt_of_cell? _ _ hc
      have htl := World.block_lt_of_cell? _ _ ht
      simp only at hel htl
      have hk15 : (k : Int) < 15 := by omega
      have hk0 : (0 : Int) ≤ (k : Int) := by omega
      have HEC := Lib.hid hec
      have HTC := Lib.hid htc
      obtain ⟨tw, htw⟩ : ∃ tw : ByteArray, tw = ⟨(errWord (k + 1)).toArray⟩ := ⟨_, rfl⟩
      rw [← htw] at ht
      have hsx : w.cell? (ad (k + 1)) = some (.string (⟨#[112, 105, 103, 101, 111, 110, 104, 111, 108, 101, 115, 58, 32]⟩ ++ tw)) := by
        obtain ⟨s, h1, h2⟩ := HX.out (k + 1) (by simp [allErrs]; omega)
        rw [h1, htw]
        congr 2
        obtain ⟨⟨sl⟩⟩ := s
        simp only at h2
        subst h2
        unfold errText
        rw [ByteArray.mk_append_mk]
      have htz : tw.size ≤ 10 := by
        rw [htw]
        rcases (show k = 0 ∨ k = 1 ∨ k = 2 ∨ k = 3 ∨ k = 4 ∨ k = 5 ∨ k = 6 ∨ k = 7 ∨ k = 8 ∨ k = 9 ∨ k = 10 ∨ k = 11 ∨ k = 12 ∨ k = 13 ∨ k = 14 by omega) with rfl | rfl | rfl | rfl | rfl | rfl | rfl | rfl | rfl | rfl | rfl | rfl | rfl | rfl | rfl <;> decide
      have hsxl := World.block_lt_of_cell? _ _ hsx
      have hwk : IntKind.i64.wrap ((k : Int) + 1) = (k : Int) + 1 := IntWalk.i64_in _ (by omega)
      have HTW := Lib.hid htw
      have HSX := Lib.hid (fun x (h : Chg Nil w x) => (h.cell hsxl (fun f => f)).trans hsx)
      clear hec htc htw hsx
      go_wp2_with fail
      refine (code_fault (B := w.heap.size) ad (k + 1) wr.heap.size 7 _ ((HE.out.keepN hC).alloc _) (by omega) (by omega) (block_alloc wr _)).mono ?_
      rintro e w2 ⟨rfl, hc2⟩
      have hC2 : Chg Nil w w2 := (hC.alloc _).then hc2
      have hR2 : Chg Nil wr w2 := ((Chg.refl Nil wr).alloc _).then hc2
      have HSS := Lib.hid (fun x (h : Chg Nil w2 x) => And.intro ((h.cell (p := ⟨w1.heap.size, k, none⟩) (Nat.lt_of_lt_of_le hel hR2.size) (fun f => f)).trans ((hR2.cell (p := ⟨w1.heap.size, k, none⟩) hel (fun f => f)).trans hc)) ((h.cell (p := ⟨w1.heap.size + 1, k, none⟩) (Nat.lt_of_lt_of_le htl hR2.size) (fun f => f)).trans ((hR2.cell (p := ⟨w1.heap.size + 1, k, none⟩) htl (fun f => f)).trans ht)))
      have mE := fa_methodError
      have hps : ByteArray.size ⟨#[112, 105, 103, 101, 111, 110, 104, 111, 108, 101, 115, 58, 32]⟩ = 13 := rfl
      have hadd : ∀ W, (Op.stringOp .add ⟨#[112, 105, 103, 101, 111, 110, 104, 111, 108, 101, 115, 58, 32]⟩ tw).run Tryd.prog W = .ok (.string (⟨#[112, 105, 103, 101, 111, 110, 104, 111, 108, 101, 115, 58, 32]⟩ ++ tw)) W := fun W => run_string_add_sum W _ _ (by rw [hps]; omega)
      have hadd2 : ∀ W, (binOp .add 9 (.string ⟨#[112, 105, 103, 101, 111, 110, 104, 111, 108, 101, 115, 58, 32]⟩) (.string tw)).run Tryd.prog W = .ok (.string (⟨#[112, 105, 103, 101, 111, 110, 104, 111, 108, 101, 115, 58, 32]⟩ ++ tw)) W := fun W => by rw [binOp_string_add]; exact hadd W
      clear hc ht
      go_wp2_with fail
      go_region_held3 (fun w' => w'.cell? ⟨w1.heap.size, k, none⟩ = some (.iface 159 (.pointer (some (ad (k + 1))))) ∧ w'.cell? ⟨w1.heap.size + 1, k, none⟩ = some (.string tw))
        (first | exact HK4.out | (refine HSS.out _ ?_; repeat (first | exact Chg.refl _ _ | refine Chg.drew ?_ | refine Chg.drewsN ?_ _ | refine Chg.alloc ?_ _)))
        (first
          | (go_at_call 148; refine (error_any _ _ _ (HSX.out _ (hC2.then (by repeat (first | exact Chg.refl _ _ | refine Chg.drew ?_ | refine Chg.drewsN ?_ _ | refine Chg.alloc ?_ _))))).mono ?_; rintro e w3 ⟨rfl, rfl⟩)
          | (go_at_call 28; refine (coded1_pos (B := w.heap.size) ad (k + 1) _ _ (HE.out.keepN (hC2.then (by repeat (first | exact Chg.refl _ _ | refine Chg.drew ?_ | refine Chg.drewsN ?_ _ | refine Chg.alloc ?_ _)))) (by omega) (by omega) (by omega)).mono ?_; rintro e w4 ⟨rfl, hc4⟩; have HC4 := Lib.hid (Chg.then (S := Nil) (a := w2) (by repeat (first | exact Chg.refl _ _ | refine Chg.drew ?_ | refine Chg.drewsN ?_ _ | refine Chg.alloc ?_ _)) hc4); have HK4 := Lib.hid (HSS.out _ HC4.out)))
      clear hps hadd hadd2 mE hwk
      have hR4 : Chg Nil wr w4 := hR2.then HC4.out
      go_wp2_with fail
      go_roundw
      case rel =>
        refine ⟨k + 1, by omega, by go_num, hC2.then HC4.out, fun j hj => ?_, fun j hj => ?_⟩
        · have hl := World.block_lt_of_cell? _ _ (HEC.out j hj)
          exact (hR4.cell (p := ⟨w1.heap.size, j, none⟩) hl (fun f => f)).trans (HEC.out j hj)
        · have hl := World.block_lt_of_cell? _ _ (HTC.out j hj)
          exact (hR4.cell (p := ⟨w1.heap.size + 1, j, none⟩) hl (fun f => f)).trans (HTC.out j hj)
      case measure => simp [intOf]; omega
    · have hk15 : ¬ ((k : Int) < 15) := by omega
      clear hec htc
      go_wp2_with fail
      refine (errNew_any _ wr).mono ?_
      rintro e w2 ⟨rfl, rfl⟩
      have hE2 := (HE.out.keepN hC).alloc (.cells #[.string ⟨#[97, 110, 111, 116, 104, 101, 114, 32, 111, 110, 101]⟩] 161)
      have hz := hC.size
      go_wp2_with fail
      refine (code_other (B := w.heap.size) ad ⟨wr.heap.size, 0, none⟩ _ hE2 ⟨_, _, block_alloc wr _⟩ (fun c hc e => ?_)).mono ?_
      · have := (hE2.env.row c hc).2.2
        rw [← e] at this
        simp at this; omega
      rintro e w3 ⟨rfl, hc3⟩
      have hE3 := hE2.keepN hc3
      have HC := Lib.hid (coded1_ok (B := w.heap.size) ad 0 0 w3 hE3 (by omega) rfl)
      rw [errV_zero] at HC
      go_wp2_with fail
      refine HC.out.mono ?_
      rintro e w4 ⟨rfl, hc4⟩
      go_wp2_with fail
      go_ret
      exact ⟨rfl, ((hC.alloc _).then hc3).then hc4⟩
end Go.Proofs.YtfekiagdnlnggaaDoor
