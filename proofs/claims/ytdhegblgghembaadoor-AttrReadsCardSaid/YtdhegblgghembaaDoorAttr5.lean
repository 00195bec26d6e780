/- The reference's AttrOf by contract. -/
import Derived.Test.YtdhegblgghembaaDoorAttr4
namespace Go.Proofs.YtdhegblgghembaaDoor
open Go.RowKit Go.Lib
set_option linter.unusedVariables false
set_option linter.unusedSimpArgs false

theorem fldsM_pre (m k : Nat) : ∀ d, ∃ r, fldsM m (k + d) = fldsM m k ++ r
  | 0 => ⟨[], by simp⟩
  | d + 1 => by
    obtain ⟨r, h⟩ := fldsM_pre m k d
    by_cases hb : m / 2 ^ fbit (k + d) % 2 = 1
    · exact ⟨r ++ [k + d], by rw [← Nat.add_assoc, fldsM_yes hb, h, List.append_assoc]⟩
    · exact ⟨r, by rw [← Nat.add_assoc, fldsM_no hb, h]⟩
theorem encM_bad {a : Nat → Int} {m k : Nat} {r0 : List UInt8 × Nat} {t : List UInt8} (hm : m ≤ 31) (hk : k ≤ 6) (h : encS a r0 (fldsM m k) = (t, 2)) : encS a r0 ((idxs m 5).flatMap flds) = (t, 2) := by
  obtain ⟨r, hr⟩ := fldsM_pre m k (6 - k)
  rw [show k + (6 - k) = 6 by omega] at hr
  rw [← fldsM_all m hm, hr, encS_app, h, encS_bad a t 2 (by omega)]
theorem encA_bad {a : Nat → Int} {m k : Nat} {t : List UInt8} (hm : m ≤ 31) (hk : k ≤ 6) (h : encS a (bigL 4 m, 0) (fldsM m k) = (t, 2)) : encA a m = (⟨#[]⟩, 2) := by
  unfold encA
  rw [encM_bad hm hk h, if_neg (by simp)]
theorem encA_good {a : Nat → Int} {m : Nat} {t : List UInt8} (hm : m ≤ 31) (h : encS a (bigL 4 m, 0) (fldsM m 6) = (t, 0)) : encA a m = (⟨t.toArray⟩, 0) := by
  unfold encA
  rw [← fldsM_all m hm, h, if_pos rfl]
theorem encM_skip {a : Nat → Int} {m k : Nat} {r0 : List UInt8 × Nat} (hb : ¬ m / 2 ^ fbit k % 2 = 1) : encS a r0 (fldsM m (k + 1)) = encS a r0 (fldsM m k) := by rw [fldsM_no hb]
theorem encM_step {a : Nat → Int} {m k : Nat} {r0 : List UInt8 × Nat} {t : List UInt8} (hb : m / 2 ^ fbit k % 2 = 1) (ht : t.length ≤ 3992) (h : encS a r0 (fldsM m k) = (t, 0)) : encS a r0 (fldsM m (k + 1)) = refF a t k := by
  rw [fldsM_yes hb, encS_app, h]
  show encStep a (t, 0) k = _
  unfold encStep
  rw [if_pos rfl, refF_wF a t k ht]
theorem refF_bad {a : Nat → Int} {t : List UInt8} {f : Nat} (h : a f < 0 ∨ (longF f = false ∧ 4294967296 ≤ a f)) : refF a t f = (t, 2) := if_pos h
theorem refF_ok {a : Nat → Int} {t : List UInt8} {f n : Nat} (h : a f = (n : Int)) (h2 : longF f = true ∨ n < 4294967296) : refF a t f = (t ++ bigL (if longF f then 8 else 4) n, 0) := by
  unfold refF
  rw [if_neg (by rw [h]; rcases h2 with h2 | h2 <;> simp [h2] <;> omega), h, Int.toNat_natCast]
theorem txt_big (t : List UInt8) (k n : Nat) : (⟨t.toArray⟩ : ByteArray) ++ bigB k n = ⟨(t ++ bigL k n).toArray⟩ := by
  apply ByteArray.ext
  simp [ByteArray.data_append, bigB]
def RelOf (a : Nat → Int) (m : Nat) (w : World) (o i : Value) (wr : World) : Prop :=
  ∃ (k : Nat) (t : List UInt8), k ≤ 6 ∧ i = .int .i64 k ∧ o = .string ⟨t.toArray⟩ ∧ encS a (bigL 4 m, 0) (fldsM m k) = (t, 0) ∧ t.length ≤ 4 + 8 * k ∧ Chg Nil w wr
set_option maxHeartbeats 8000000 in
set_option maxRecDepth 100000 in
theorem attrOf_any (a : Nat → Int) (m : Nat) (hm : m ≤ 31) (w : World) (ha : ∀ f, a f ≤ 9223372036854775807) :
    Calls Tryd.prog 32 #[.agg (attrC a).toArray, .int .i64 m] w fun e w' => e = .returned (.tuple #[.string (encA a m).1, .int .i64 ((encA a m).2 : Nat)]) ∧ Chg Nil w w' := by
  have hmI : ¬ (31 : Int) < (m : Int) := by omega
  have hmd : decide ((31 : Int) < (m : Int)) = false := by simp; omega
  have hk0 := (Chg.refl Nil w).alloc (.cells (attrC a).toArray 36)
  have hba := block_alloc w (.cells (attrC a).toArray 36)
  have HBA := Lib.hid hba
  have HK0 := Lib.hid hk0
  have HA := Lib.hid ha
  clear hk0 hba ha
  go_enter Tryd.func32, Tryd.ntmps32
  go_wp2_with fail
  refine (big_any m 4 _ (by omega) (by omega)).mono ?_
  rintro e w1 ⟨rfl, hc1⟩
  have hA1 := hc1.keep HBA.out (fun f => f)
  have HK1 := Lib.hid (HK0.out.then hc1)
  have a0 := cell_of hA1 0
  have a1 := cell_of hA1 1
  have a2 := cell_of hA1 2
  have a3 := cell_of hA1 3
  have a4 := cell_of hA1 4
  have a5 := cell_of hA1 5
  simp [attrC] at a0 a1 a2 a3 a4 a5
  have hb1 := block_alloc_old (block_alloc w1 (.cells (attrC a).toArray 3)) (.cells (bitsL.map fun n => Value.int .i64 n).toArray 3)
  have hb2 := block_alloc (w1.alloc (.cells (attrC a).toArray 3)) (.cells (bitsL.map fun n => Value.int .i64 n).toArray 3)
  have HB1 := Lib.hid hb1
  have HB2 := Lib.hid hb2
  have HK2 := Lib.hid ((HK1.out.alloc (.cells (attrC a).toArray 3)).alloc (.cells (bitsL.map fun n => Value.int .i64 n).toArray 3))
  clear hA1 hb1 hb2 hc1
  go_wp2_with fail
  go_loopw [6, 9] (fun o i wr => RelOf a m ((w1.alloc (.cells (attrC a).toArray 3)).alloc (.cells (bitsL.map fun n => Value.int .i64 n).toArray 3)) o i wr) (fun _ i _ => (6 - RowKit.intOf i).toNat)
  case atStart => exact ⟨0, bigL 4 m, by omega, rfl, rfl, rfl, by simp [bigL_len], Chg.refl _ _⟩
  case round =>
    obtain ⟨k, t, hk, rfl, rfl, hen, htl, hC⟩ := hrel
    have HEN := Lib.hid hen
    have HC := Lib.hid hC
    have hi := hC.keep HB1.out (fun f => f)
    have hj := hC.keep HB2.out (fun f => f)
    clear hen a0 a1 a2 a3 a4 a5
    by_cases hlt : k < 6
    · have hts : (⟨t.toArray⟩ : ByteArray).size = t.length := by simp [ByteArray.size]
      have hns : ∀ (n k8 : Nat), k8 ≤ 8 → ¬ 9223372036854775807 < (⟨t.toArray⟩ : ByteArray).size + (bigB k8 n).size := fun n k8 h8 => by rw [bigB_size, hts]; omega
      have HNS := Lib.hid hns
      have HTB := Lib.hid (txt_big t)
      obtain ⟨T, hT⟩ : ∃ T, T = (⟨t.toArray⟩ : ByteArray) := ⟨_, rfl⟩
      rw [← hT] at HNS HTB ⊢
      have HTT := Lib.hid hT
      clear hts hns hT
      rcases (show k = 0 ∨ k = 1 ∨ k = 2 ∨ k = 3 ∨ k = 4 ∨ k = 5 by omega) with rfl | rfl | rfl | rfl | rfl | rfl
      · have i0 := cell_of hi 0
        have j0 := cell_of hj 0
        simp [attrC, bitsL] at i0 j0
        have hf63 := HA.out 0
        clear hi hj
        by_cases hbit : m / 2 ^ fbit 0 % 2 = 1
        · have HST := Lib.hid (encM_step hbit (by omega) HEN.out)
          have h2 : (m : Int) % 2 = 1 := by simp [fbit] at hbit; omega
          clear hbit
          by_cases hneg : a 0 < 0
          · have HX := Lib.hid (encA_bad (k := 0 + 1) hm (by omega) (HST.out.trans (refF_bad (.inl hneg))))
            go_wp2_with fail
            go_ret2
            exact ⟨by rw [HX.out]; rfl, HK2.out.then HC.out⟩
          obtain ⟨n, hn⟩ : ∃ n : Nat, a 0 = n := ⟨(a 0).toNat, by omega⟩
          have HNN := Lib.hid hn
          rw [hn] at i0 hf63 hneg
          have hn63 : n ≤ 9223372036854775807 := by omega
          clear hn hneg
          by_cases h32 : 4294967296 ≤ n
          · have HX := Lib.hid (encA_bad (k := 0 + 1) hm (by omega) (HST.out.trans (refF_bad (.inr ⟨rfl, by rw [HNN.out]; omega⟩))))
            have HII := Lib.hid (show (decide (0 ≤ (n : Int)) && decide ((n : Int) < 4294967296)) = false by simp; omega)
            go_wp2_with fail
            refine (isInt_any n _).mono ?_
            rintro e w3 ⟨rfl, hc3⟩
            rw [HII.out]
            go_wp2_with fail
            go_ret2
            exact ⟨by rw [HX.out]; rfl, (HK2.out.then HC.out).then hc3⟩
          have hnn := Lib.hid (show n < 4294967296 by omega)
          clear h32
          have hns := HNS.out n 4 (by omega)
          go_wp2_with fail
          refine (isInt_any n _).mono ?_
          rintro e w3 ⟨rfl, hc3⟩
          rw [show (decide (0 ≤ (n : Int)) && decide ((n : Int) < 4294967296)) = true by have := hnn.out; simp; omega]
          have i0' := cell_of ((hC.then hc3).keep HB1.out (fun f => f)) 0
          simp [attrC] at i0'
          rw [HNN.out] at i0'
          clear i0
          go_wp2_with fail
          refine (big_any n 4 _ (by omega) (by omega)).mono ?_
          rintro e w4 ⟨rfl, hc4⟩
          go_wp2_with fail
          go_roundw
          case rel => exact ⟨0 + 1, t ++ bigL 4 n, by omega, rfl, by rw [HTB.out], HST.out.trans (refF_ok HNN.out (.inr hnn.out)), by simp [bigL_len]; omega, (HC.out.then hc3).then hc4⟩
          case measure => simp [RowKit.intOf]
        · have HSK := Lib.hid ((encM_skip hbit).trans HEN.out)
          have h2 : (m : Int) % 2 = 0 := by simp [fbit] at hbit; omega
          clear hbit
          go_wp2_with fail
          go_roundw
          case rel => exact ⟨0 + 1, t, by omega, rfl, by rw [HTT.out], HSK.out, by omega, HC.out⟩
          case measure => simp [RowKit.intOf]
      · have i0 := cell_of hi 1
        have j0 := cell_of hj 1
        simp [attrC, bitsL] at i0 j0
        have hf63 := HA.out 1
        clear hi hj
        by_cases hbit : m / 2 ^ fbit 1 % 2 = 1
        · have HST := Lib.hid (encM_step hbit (by omega) HEN.out)
          have h2 : (m : Int) / 2 % 2 = 1 := by simp [fbit] at hbit; omega
          clear hbit
          by_cases hneg : a 1 < 0
          · have HX := Lib.hid (encA_bad (k := 1 + 1) hm (by omega) (HST.out.trans (refF_bad (.inl hneg))))
            go_wp2_with fail
            go_ret2
            exact ⟨by rw [HX.out]; rfl, HK2.out.then HC.out⟩
          obtain ⟨n, hn⟩ : ∃ n : Nat, a 1 = n := ⟨(a 1).toNat, by omega⟩
          have HNN := Lib.hid hn
          rw [hn] at i0 hf63 hneg
          have hn63 : n ≤ 9223372036854775807 := by omega
          clear hn hneg
          have hns := HNS.out n 8 (by omega)
          go_wp2_with fail
          refine (big_any n 8 _ (by omega) (by omega)).mono ?_
          rintro e w4 ⟨rfl, hc4⟩
          go_wp2_with fail
          go_roundw
          case rel => exact ⟨1 + 1, t ++ bigL 8 n, by omega, rfl, by rw [HTB.out], HST.out.trans (refF_ok HNN.out (.inl rfl)), by simp [bigL_len]; omega, HC.out.then hc4⟩
          case measure => simp [RowKit.intOf]
        · have HSK := Lib.hid ((encM_skip hbit).trans HEN.out)
          have h2 : (m : Int) / 2 % 2 = 0 := by simp [fbit] at hbit; omega
          clear hbit
          go_wp2_with fail
          go_roundw
          case rel => exact ⟨1 + 1, t, by omega, rfl, by rw [HTT.out], HSK.out, by omega, HC.out⟩
          case measure => simp [RowKit.intOf]
      · have i0 := cell_of hi 2
        have j0 := cell_of hj 2
        simp [attrC, bitsL] at i0 j0
        have hf63 := HA.out 2
        clear hi hj
        by_cases hbit : m / 2 ^ fbit 2 % 2 = 1
        · have HST := Lib.hid (encM_step hbit (by omega) HEN.out)
          have h2 : (m : Int) / 4 % 2 = 1 := by simp [fbit] at hbit; omega
          clear hbit
          by_cases hneg : a 2 < 0
          · have HX := Lib.hid (encA_bad (k := 2 + 1) hm (by omega) (HST.out.trans (refF_bad (.inl hneg))))
            go_wp2_with fail
            go_ret2
            exact ⟨by rw [HX.out]; rfl, HK2.out.then HC.out⟩
          obtain ⟨n, hn⟩ : ∃ n : Nat, a 2 = n := ⟨(a 2).toNat, by omega⟩
          have HNN := Lib.hid hn
          rw [hn] at i0 hf63 hneg
          have hn63 : n ≤ 9223372036854775807 := by omega
          clear hn hneg
          by_cases h32 : 4294967296 ≤ n
          · have HX := Lib.hid (encA_bad (k := 2 + 1) hm (by omega) (HST.out.trans (refF_bad (.inr ⟨rfl, by rw [HNN.out]; omega⟩))))
            have HII := Lib.hid (show (decide (0 ≤ (n : Int)) && decide ((n : Int) < 4294967296)) = false by simp; omega)
            go_wp2_with fail
            refine (isInt_any n _).mono ?_
            rintro e w3 ⟨rfl, hc3⟩
            rw [HII.out]
            go_wp2_with fail
            go_ret2
            exact ⟨by rw [HX.out]; rfl, (HK2.out.then HC.out).then hc3⟩
          have hnn := Lib.hid (show n < 4294967296 by omega)
          clear h32
          have hns := HNS.out n 4 (by omega)
          go_wp2_with fail
          refine (isInt_any n _).mono ?_
          rintro e w3 ⟨rfl, hc3⟩
          rw [show (decide (0 ≤ (n : Int)) && decide ((n : Int) < 4294967296)) = true by have := hnn.out; simp; omega]
          have i0' := cell_of ((hC.then hc3).keep HB1.out (fun f => f)) 2
          simp [attrC] at i0'
          rw [HNN.out] at i0'
          clear i0
          go_wp2_with fail
          refine (big_any n 4 _ (by omega) (by omega)).mono ?_
          rintro e w4 ⟨rfl, hc4⟩
          go_wp2_with fail
          go_roundw
          case rel => exact ⟨2 + 1, t ++ bigL 4 n, by omega, rfl, by rw [HTB.out], HST.out.trans (refF_ok HNN.out (.inr hnn.out)), by simp [bigL_len]; omega, (HC.out.then hc3).then hc4⟩
          case measure => simp [RowKit.intOf]
        · have HSK := Lib.hid ((encM_skip hbit).trans HEN.out)
          have h2 : (m : Int) / 4 % 2 = 0 := by simp [fbit] at hbit; omega
          clear hbit
          go_wp2_with fail
          go_roundw
          case rel => exact ⟨2 + 1, t, by omega, rfl, by rw [HTT.out], HSK.out, by omega, HC.out⟩
          case measure => simp [RowKit.intOf]
      · have i0 := cell_of hi 3
        have j0 := cell_of hj 3
        simp [attrC, bitsL] at i0 j0
        have hf63 := HA.out 3
        clear hi hj
        by_cases hbit : m / 2 ^ fbit 3 % 2 = 1
        · have HST := Lib.hid (encM_step hbit (by omega) HEN.out)
          have h2 : (m : Int) / 8 % 2 = 1 := by simp [fbit] at hbit; omega
          clear hbit
          by_cases hneg : a 3 < 0
          · have HX := Lib.hid (encA_bad (k := 3 + 1) hm (by omega) (HST.out.trans (refF_bad (.inl hneg))))
            go_wp2_with fail
            go_ret2
            exact ⟨by rw [HX.out]; rfl, HK2.out.then HC.out⟩
          obtain ⟨n, hn⟩ : ∃ n : Nat, a 3 = n := ⟨(a 3).toNat, by omega⟩
          have HNN := Lib.hid hn
          rw [hn] at i0 hf63 hneg
          have hn63 : n ≤ 9223372036854775807 := by omega
          clear hn hneg
          have hns := HNS.out n 8 (by omega)
          go_wp2_with fail
          refine (big_any n 8 _ (by omega) (by omega)).mono ?_
          rintro e w4 ⟨rfl, hc4⟩
          go_wp2_with fail
          go_roundw
          case rel => exact ⟨3 + 1, t ++ bigL 8 n, by omega, rfl, by rw [HTB.out], HST.out.trans (refF_ok HNN.out (.inl rfl)), by simp [bigL_len]; omega, HC.out.then hc4⟩
          case measure => simp [RowKit.intOf]
        · have HSK := Lib.hid ((encM_skip hbit).trans HEN.out)
          have h2 : (m : Int) / 8 % 2 = 0 := by simp [fbit] at hbit; omega
          clear hbit
          go_wp2_with fail
          go_roundw
          case rel => exact ⟨3 + 1, t, by omega, rfl, by rw [HTT.out], HSK.out, by omega, HC.out⟩
          case measure => simp [RowKit.intOf]
      · have i0 := cell_of hi 4
        have j0 := cell_of hj 4
        simp [attrC, bitsL] at i0 j0
        have hf63 := HA.out 4
        clear hi hj
        by_cases hbit : m / 2 ^ fbit 4 % 2 = 1
        · have HST := Lib.hid (encM_step hbit (by omega) HEN.out)
          have h2 : (m : Int) / 16 % 2 = 1 := by simp [fbit] at hbit; omega
          clear hbit
          by_cases hneg : a 4 < 0
          · have HX := Lib.hid (encA_bad (k := 4 + 1) hm (by omega) (HST.out.trans (refF_bad (.inl hneg))))
            go_wp2_with fail
            go_ret2
            exact ⟨by rw [HX.out]; rfl, HK2.out.then HC.out⟩
          obtain ⟨n, hn⟩ : ∃ n : Nat, a 4 = n := ⟨(a 4).toNat, by omega⟩
          have HNN := Lib.hid hn
          rw [hn] at i0 hf63 hneg
          have hn63 : n ≤ 9223372036854775807 := by omega
          clear hn hneg
          by_cases h32 : 4294967296 ≤ n
          · have HX := Lib.hid (encA_bad (k := 4 + 1) hm (by omega) (HST.out.trans (refF_bad (.inr ⟨rfl, by rw [HNN.out]; omega⟩))))
            have HII := Lib.hid (show (decide (0 ≤ (n : Int)) && decide ((n : Int) < 4294967296)) = false by simp; omega)
            go_wp2_with fail
            refine (isInt_any n _).mono ?_
            rintro e w3 ⟨rfl, hc3⟩
            rw [HII.out]
            go_wp2_with fail
            go_ret2
            exact ⟨by rw [HX.out]; rfl, (HK2.out.then HC.out).then hc3⟩
          have hnn := Lib.hid (show n < 4294967296 by omega)
          clear h32
          have hns := HNS.out n 4 (by omega)
          go_wp2_with fail
          refine (isInt_any n _).mono ?_
          rintro e w3 ⟨rfl, hc3⟩
          rw [show (decide (0 ≤ (n : Int)) && decide ((n : Int) < 4294967296)) = true by have := hnn.out; simp; omega]
          have i0' := cell_of ((hC.then hc3).keep HB1.out (fun f => f)) 4
          simp [attrC] at i0'
          rw [HNN.out] at i0'
          clear i0
          go_wp2_with fail
          refine (big_any n 4 _ (by omega) (by omega)).mono ?_
          rintro e w4 ⟨rfl, hc4⟩
          go_wp2_with fail
          go_roundw
          case rel => exact ⟨4 + 1, t ++ bigL 4 n, by omega, rfl, by rw [HTB.out], HST.out.trans (refF_ok HNN.out (.inr hnn.out)), by simp [bigL_len]; omega, (HC.out.then hc3).then hc4⟩
          case measure => simp [RowKit.intOf]
        · have HSK := Lib.hid ((encM_skip hbit).trans HEN.out)
          have h2 : (m : Int) / 16 % 2 = 0 := by simp [fbit] at hbit; omega
          clear hbit
          go_wp2_with fail
          go_roundw
          case rel => exact ⟨4 + 1, t, by omega, rfl, by rw [HTT.out], HSK.out, by omega, HC.out⟩
          case measure => simp [RowKit.intOf]
      · have i0 := cell_of hi 5
        have j0 := cell_of hj 5
        simp [attrC, bitsL] at i0 j0
        have hf63 := HA.out 5
        clear hi hj
        by_cases hbit : m / 2 ^ fbit 5 % 2 = 1
        · have HST := Lib.hid (encM_step hbit (by omega) HEN.out)
          have h2 : (m : Int) / 16 % 2 = 1 := by simp [fbit] at hbit; omega
          clear hbit
          by_cases hneg : a 5 < 0
          · have HX := Lib.hid (encA_bad (k := 5 + 1) hm (by omega) (HST.out.trans (refF_bad (.inl hneg))))
            go_wp2_with fail
            go_ret2
            exact ⟨by rw [HX.out]; rfl, HK2.out.then HC.out⟩
          obtain ⟨n, hn⟩ : ∃ n : Nat, a 5 = n := ⟨(a 5).toNat, by omega⟩
          have HNN := Lib.hid hn
          rw [hn] at i0 hf63 hneg
          have hn63 : n ≤ 9223372036854775807 := by omega
          clear hn hneg
          by_cases h32 : 4294967296 ≤ n
          · have HX := Lib.hid (encA_bad (k := 5 + 1) hm (by omega) (HST.out.trans (refF_bad (.inr ⟨rfl, by rw [HNN.out]; omega⟩))))
            have HII := Lib.hid (show (decide (0 ≤ (n : Int)) && decide ((n : Int) < 4294967296)) = false by simp; omega)
            go_wp2_with fail
            refine (isInt_any n _).mono ?_
            rintro e w3 ⟨rfl, hc3⟩
            rw [HII.out]
            go_wp2_with fail
            go_ret2
            exact ⟨by rw [HX.out]; rfl, (HK2.out.then HC.out).then hc3⟩
          have hnn := Lib.hid (show n < 4294967296 by omega)
          clear h32
          have hns := HNS.out n 4 (by omega)
          go_wp2_with fail
          refine (isInt_any n _).mono ?_
          rintro e w3 ⟨rfl, hc3⟩
          rw [show (decide (0 ≤ (n : Int)) && decide ((n : Int) < 4294967296)) = true by have := hnn.out; simp; omega]
          have i0' := cell_of ((hC.then hc3).keep HB1.out (fun f => f)) 5
          simp [attrC] at i0'
          rw [HNN.out] at i0'
          clear i0
          go_wp2_with fail
          refine (big_any n 4 _ (by omega) (by omega)).mono ?_
          rintro e w4 ⟨rfl, hc4⟩
          go_wp2_with fail
          go_roundw
          case rel => exact ⟨5 + 1, t ++ bigL 4 n, by omega, rfl, by rw [HTB.out], HST.out.trans (refF_ok HNN.out (.inr hnn.out)), by simp [bigL_len]; omega, (HC.out.then hc3).then hc4⟩
          case measure => simp [RowKit.intOf]
        · have HSK := Lib.hid ((encM_skip hbit).trans HEN.out)
          have h2 : (m : Int) / 16 % 2 = 0 := by simp [fbit] at hbit; omega
          clear hbit
          go_wp2_with fail
          go_roundw
          case rel => exact ⟨5 + 1, t, by omega, rfl, by rw [HTT.out], HSK.out, by omega, HC.out⟩
          case measure => simp [RowKit.intOf]
    · obtain rfl : k = 6 := by omega
      have HX := Lib.hid (encA_good hm HEN.out)
      clear hi hj
      go_wp2_with fail
      go_ret2
      exact ⟨by rw [HX.out]; rfl, HK2.out.then HC.out⟩
set_option maxHeartbeats 1000000 in
theorem attrOf_bad (a : Nat → Int) (m : Int) (hm : m < 0 ∨ 31 < m) (w : World) :
    Calls Tryd.prog 32 #[.agg (attrC a).toArray, .int .i64 m] w fun e w' => e = .returned (.tuple #[.string ⟨#[]⟩, .int .i64 2]) ∧ Chg Nil w w' := by
  have hd1 : m < 0 ∨ (¬ m < 0 ∧ decide (31 < m) = true) := by simp; omega
  clear hm
  rcases hd1 with h | ⟨h, h'⟩
  all_goals
    go_enter Tryd.func32, Tryd.ntmps32
    go_wp2_with fail
    go_ret2
    exact ⟨rfl, (Chg.refl _ _).alloc _⟩
end Go.Proofs.YtdhegblgghembaaDoor

