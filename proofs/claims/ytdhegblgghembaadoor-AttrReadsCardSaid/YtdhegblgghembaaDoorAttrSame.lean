/- The walk of law AttrSame. -/
import Derived.Test.YtdhegblgghembaaDoorAttr3
import Derived.Test.YtdhegblgghembaaDoorCoded1
import Derived.Test.YtdhegblgghembaaDoorShape
import Derived.Deep.DeepCutAuto
namespace Go.Proofs.YtdhegblgghembaaDoor
open Go.RowKit Go.Lib
set_option linter.unusedVariables false
set_option linter.unusedSimpArgs false

theorem Env.up {B : Nat} {ad : Nat → Addr} {cs : List Nat} {w : World} (h : Env B ad cs w) : Env w.heap.size ad cs w :=
  ⟨Nat.le_refl _, fun c hc => ⟨(h.glob c hc).1, Nat.lt_of_lt_of_le (h.glob c hc).2 h.size⟩, fun c hc => ⟨(h.row c hc).1, (h.row c hc).2.1, Nat.lt_of_lt_of_le (h.row c hc).2.2 h.size⟩, h.dist⟩
def shAttr : Sh := .and .int (.and .int (.and .int (.and .int (.and (.and .int (.and .int .unit)) .unit))))
abbrev XAttr := Int × Int × Int × Int × (Int × Int × Unit) × Unit
def attrF (x : XAttr) (f : Nat) : Int := match f with
  | 0 => x.1 | 1 => x.2.1 | 2 => x.2.2.1 | 3 => x.2.2.2.1 | 4 => x.2.2.2.2.1.1 | 5 => x.2.2.2.2.1.2.1 | _ => 0
theorem attrF_val (x : XAttr) : shAttr.val x = .agg (attrC (attrF x)).toArray := rfl
/-- Does a part part them? -/
def dif (a b : Nat → Int) (m i : Nat) : Bool := m / 2 ^ i % 2 == 1 && !(sameF a b (flds i))
theorem sameF_idxs (a b : Nat → Int) (m : Nat) : ∀ k, sameF a b ((idxs m k).flatMap flds) = (List.range k).all fun i => !(dif a b m i)
  | 0 => rfl
  | k + 1 => by
    rw [List.range_succ, List.all_append, ← sameF_idxs a b m k]
    by_cases h : m / 2 ^ k % 2 = 1
    · rw [idxs_yes h, List.flatMap_append, sameF_app]
      simp [dif, h]
    · rw [idxs_no h]
      simp [dif, h]
theorem same_want (a b : Nat → Int) (m : Nat) : sameF a b ((idxs m 5).flatMap flds) = (((((!(dif a b m 0)) && !(dif a b m 1)) && !(dif a b m 2)) && !(dif a b m 3)) && !(dif a b m 4)) := by
  rw [sameF_idxs]
  simp [List.range_succ, Bool.and_assoc]
theorem dif_off {a b : Nat → Int} {m i : Nat} (h : ¬ m / 2 ^ i % 2 = 1) : dif a b m i = false := by simp [dif, h]
theorem dif_on {a b : Nat → Int} {m i : Nat} (hi : i < 4) (h : m / 2 ^ i % 2 = 1) : dif a b m i = !(a i == b i) := by
  unfold dif flds
  rw [if_neg (by omega)]
  simp [h, sameF]
theorem dif_on4 {a b : Nat → Int} {m : Nat} (h : m / 2 ^ 4 % 2 = 1) : dif a b m 4 = !(a 4 == b 4 && a 5 == b 5) := by
  unfold dif flds
  rw [if_pos rfl]
  simp [h, sameF]
set_option maxHeartbeats 8000000 in
set_option maxRecDepth 100000 in
theorem attrSame_any (ad : Nat → Addr) (xa xb : XAttr) (m : Int) (w : World) (he : EnvA w.heap.size ad w) (hm63 : m ≤ 9223372036854775807) :
    Calls Tryd.prog 4 #[.agg (attrC (attrF xa)).toArray, .agg (attrC (attrF xb)).toArray, .int .i64 m] w fun e w' => e = .returned (.bool true) ∧ Chg Nil w w' := by
  obtain ⟨a, ha⟩ : ∃ a, a = attrF xa := ⟨_, rfl⟩
  obtain ⟨b, hb⟩ : ∃ b, b = attrF xb := ⟨_, rfl⟩
  rw [← ha, ← hb]
  clear ha hb
  have hba := block_alloc_old (block_alloc w (.cells (attrC a).toArray 36)) (.cells (attrC b).toArray 36)
  have hbb := block_alloc (w.alloc (.cells (attrC a).toArray 36)) (.cells (attrC b).toArray 36)
  have HBA := Lib.hid hba
  have HBB := Lib.hid hbb
  have hk0 := ((Chg.refl Nil w).alloc (.cells (attrC a).toArray 36)).alloc (.cells (attrC b).toArray 36)
  have HK0 := Lib.hid hk0
  have HE := Lib.hid he
  clear he hba hbb hk0
  go_enter Tryd.func4, Tryd.ntmps4
  go_wp2_with fail
  refine (askedLaw_any ad _ ((HE.out.keepN HK0.out).env.up.sub (by decide))).mono ?_
  rintro e w1 ⟨rfl, hc1⟩
  have HK1 := Lib.hid (HK0.out.then hc1)
  have hA1 := hc1.keep HBA.out (fun f => f)
  have hB1 := hc1.keep HBB.out (fun f => f)
  have HA1 := Lib.hid hA1
  have HB1 := Lib.hid hB1
  have a0 := cell_of hA1 0
  have a1 := cell_of hA1 1
  have a2 := cell_of hA1 2
  have a3 := cell_of hA1 3
  have a4 := cell_of hA1 4
  have a5 := cell_of hA1 5
  have b0 := cell_of hB1 0
  have b1 := cell_of hB1 1
  have b2 := cell_of hB1 2
  have b3 := cell_of hB1 3
  have b4 := cell_of hB1 4
  have b5 := cell_of hB1 5
  simp [attrC] at a0 a1 a2 a3 a4 a5 b0 b1 b2 b3 b4 b5
  clear hA1 hB1 hc1
  by_cases hbad : m < 0 ∨ 31 < m
  · have hd1 : m < 0 ∨ (¬ m < 0 ∧ decide (31 < m) = true) := by simp; omega
    go_wp2_with fail
    refine (same_bad ad a b m hbad w1 ((HE.out.keepN HK1.out).env.up.sub (by decide))).mono ?_
    rintro e w2 ⟨rfl, hc2⟩
    have HK2 := Lib.hid (HK1.out.then hc2)
    clear hbad
    rcases hd1 with h | ⟨h, h'⟩
    all_goals
      go_wp2_with fail
      refine (coded1_ok ad 2 2 _ (HE.out.keepN HK2.out) (by decide) rfl).mono ?_
      rintro e w9 ⟨rfl, hc9⟩
      go_wp2_with fail
      go_ret
      exact ⟨rfl, HK2.out.then hc9⟩
  obtain ⟨n, rfl⟩ : ∃ n : Nat, m = n := ⟨m.toNat, by omega⟩
  have hn : n ≤ 31 := by omega
  have hnd : decide ((31 : Int) < (n : Int)) = false := by simp; omega
  clear hbad
  go_wp2_with fail
  refine (same_any a b n hn w1).mono ?_
  rintro e w2 ⟨rfl, hc2⟩
  have HK2 := Lib.hid (HK1.out.then hc2)
  have hA2 := hc2.keep HA1.out (fun f => f)
  have hB2 := hc2.keep HB1.out (fun f => f)
  clear a0 a1 a2 a3 a4 a5 b0 b1 b2 b3 b4 b5
  have a0 := cell_of hA2 0
  have a1 := cell_of hA2 1
  have a2 := cell_of hA2 2
  have a3 := cell_of hA2 3
  have a4 := cell_of hA2 4
  have a5 := cell_of hA2 5
  have b0 := cell_of hB2 0
  have b1 := cell_of hB2 1
  have b2 := cell_of hB2 2
  have b3 := cell_of hB2 3
  have b4 := cell_of hB2 4
  have b5 := cell_of hB2 5
  simp [attrC] at a0 a1 a2 a3 a4 a5 b0 b1 b2 b3 b4 b5
  have HSW := Lib.hid (same_want a b n)
  obtain ⟨Y, hY⟩ : ∃ Y, Y = sameF a b ((idxs n 5).flatMap flds) := ⟨_, rfl⟩
  rw [← hY] at HSW ⊢
  clear hA2 hB2 hc2 hY
  go_upto_region 7 with fail
  go_cut [10] (fun v wx => v = .bool (!(dif a b n 0)) ∧ w2 = wx)
  case first =>
    by_cases hbit : n / 2 ^ 0 % 2 = 1
    · have HD := Lib.hid (dif_on (a := a) (b := b) (by omega) hbit)
      have h2 : (n : Int) % 2 = 1 := by simp at hbit; omega
      clear hbit
      go_wp2_with fail
      go_meet
      case rel => exact ⟨by rw [HD.out]; simp, rfl⟩
    · have HD := Lib.hid (dif_off (a := a) (b := b) hbit)
      have h2 : (n : Int) % 2 = 0 := by simp at hbit; omega
      clear hbit
      go_wp2_with fail
      go_meet
      case rel => exact ⟨by rw [HD.out]; simp, rfl⟩
  case rest =>
  obtain ⟨rfl, rfl⟩ := hcut
  obtain ⟨x0, hx0⟩ : ∃ x, x = !(dif a b n 0) := ⟨_, rfl⟩
  rw [← hx0] at HSW ⊢
  clear hx0
  go_upto_region 8 with fail
  go_cut [53] (fun v wx => v = .bool (dif a b n 1) ∧ w2 = wx)
  case first =>
    by_cases hbit : n / 2 ^ 1 % 2 = 1
    · have HD := Lib.hid (dif_on (a := a) (b := b) (by omega) hbit)
      have h2 : (n : Int) / 2 % 2 = 1 := by simp at hbit; omega
      clear hbit
      go_wp2_with fail
      go_meet
      case rel => exact ⟨by rw [HD.out]; rfl, rfl⟩
    · have HD := Lib.hid (dif_off (a := a) (b := b) hbit)
      have h2 : (n : Int) / 2 % 2 = 0 := by simp at hbit; omega
      clear hbit
      go_wp2_with fail
      go_meet
      case rel => exact ⟨by rw [HD.out], rfl⟩
  case rest =>
  obtain ⟨rfl, rfl⟩ := hcut
  obtain ⟨d1, hd1⟩ : ∃ x, x = dif a b n 1 := ⟨_, rfl⟩
  rw [← hd1] at HSW ⊢
  clear hd1
  go_upto_if 53 with fail
  go_cut [10] (fun v wx => v = .bool (x0 && !d1) ∧ w2 = wx)
  case first =>
    cases d1
    all_goals
      go_wp2_with fail
      go_meet
      case rel => exact ⟨by simp, rfl⟩
  case rest =>
  obtain ⟨rfl, rfl⟩ := hcut
  obtain ⟨x1, hx1⟩ : ∃ x, x = (x0 && !d1) := ⟨_, rfl⟩
  rw [← hx1] at HSW ⊢
  clear hx1
  go_upto_region 10 with fail
  go_cut [64] (fun v wx => v = .bool (dif a b n 2) ∧ w2 = wx)
  case first =>
    by_cases hbit : n / 2 ^ 2 % 2 = 1
    · have HD := Lib.hid (dif_on (a := a) (b := b) (by omega) hbit)
      have h2 : (n : Int) / 4 % 2 = 1 := by simp at hbit; omega
      clear hbit
      go_wp2_with fail
      go_meet
      case rel => exact ⟨by rw [HD.out]; rfl, rfl⟩
    · have HD := Lib.hid (dif_off (a := a) (b := b) hbit)
      have h2 : (n : Int) / 4 % 2 = 0 := by simp at hbit; omega
      clear hbit
      go_wp2_with fail
      go_meet
      case rel => exact ⟨by rw [HD.out], rfl⟩
  case rest =>
  obtain ⟨rfl, rfl⟩ := hcut
  obtain ⟨d2, hd2⟩ : ∃ x, x = dif a b n 2 := ⟨_, rfl⟩
  rw [← hd2] at HSW ⊢
  clear hd2
  go_upto_if 64 with fail
  go_cut [10] (fun v wx => v = .bool (x1 && !d2) ∧ w2 = wx)
  case first =>
    cases d2
    all_goals
      go_wp2_with fail
      go_meet
      case rel => exact ⟨by simp, rfl⟩
  case rest =>
  obtain ⟨rfl, rfl⟩ := hcut
  obtain ⟨x2, hx2⟩ : ∃ x, x = (x1 && !d2) := ⟨_, rfl⟩
  rw [← hx2] at HSW ⊢
  clear hx2
  go_upto_region 12 with fail
  go_cut [75] (fun v wx => v = .bool (dif a b n 3) ∧ w2 = wx)
  case first =>
    by_cases hbit : n / 2 ^ 3 % 2 = 1
    · have HD := Lib.hid (dif_on (a := a) (b := b) (by omega) hbit)
      have h2 : (n : Int) / 8 % 2 = 1 := by simp at hbit; omega
      clear hbit
      go_wp2_with fail
      go_meet
      case rel => exact ⟨by rw [HD.out]; rfl, rfl⟩
    · have HD := Lib.hid (dif_off (a := a) (b := b) hbit)
      have h2 : (n : Int) / 8 % 2 = 0 := by simp at hbit; omega
      clear hbit
      go_wp2_with fail
      go_meet
      case rel => exact ⟨by rw [HD.out], rfl⟩
  case rest =>
  obtain ⟨rfl, rfl⟩ := hcut
  obtain ⟨d3, hd3⟩ : ∃ x, x = dif a b n 3 := ⟨_, rfl⟩
  rw [← hd3] at HSW ⊢
  clear hd3
  go_upto_if 75 with fail
  go_cut [10] (fun v wx => v = .bool (x2 && !d3) ∧ w2 = wx)
  case first =>
    cases d3
    all_goals
      go_wp2_with fail
      go_meet
      case rel => exact ⟨by simp, rfl⟩
  case rest =>
  obtain ⟨rfl, rfl⟩ := hcut
  obtain ⟨x3, hx3⟩ : ∃ x, x = (x2 && !d3) := ⟨_, rfl⟩
  rw [← hx3] at HSW ⊢
  clear hx3
  go_upto_region 14 with fail
  go_cut [85] (fun v wx => v = .bool (dif a b n 4) ∧ w2 = wx)
  case first =>
    by_cases hbit : n / 2 ^ 4 % 2 = 1
    · have HD := Lib.hid (dif_on4 (a := a) (b := b) hbit)
      have h2 : (n : Int) / 16 = 1 := by simp at hbit; omega
      clear hbit
      by_cases h4 : a 4 = b 4
      · by_cases h5 : a 5 = b 5
        · have HV := Lib.hid (show (!(a 4 == b 4 && a 5 == b 5)) = false by simp [h4, h5])
          go_wp2_with fail
          go_meet
          case rel => exact ⟨by rw [HD.out, HV.out], rfl⟩
        · have HV := Lib.hid (show (!(a 4 == b 4 && a 5 == b 5)) = true by simp [h5])
          go_wp2_with fail
          go_meet
          case rel => exact ⟨by rw [HD.out, HV.out], rfl⟩
      · have HV := Lib.hid (show (!(a 4 == b 4 && a 5 == b 5)) = true by simp [h4])
        go_wp2_with fail
        go_meet
        case rel => exact ⟨by rw [HD.out, HV.out], rfl⟩
    · have HD := Lib.hid (dif_off (a := a) (b := b) hbit)
      have h2 : (n : Int) / 16 = 0 := by simp at hbit; omega
      clear hbit
      go_wp2_with fail
      go_meet
      case rel => exact ⟨by rw [HD.out], rfl⟩
  case rest =>
  obtain ⟨rfl, rfl⟩ := hcut
  obtain ⟨d4, hd4⟩ : ∃ x, x = dif a b n 4 := ⟨_, rfl⟩
  rw [← hd4] at HSW ⊢
  clear hd4
  go_upto_if 85 with fail
  go_cut [10] (fun v wx => v = .bool (x3 && !d4) ∧ w2 = wx)
  case first =>
    cases d4
    all_goals
      go_wp2_with fail
      go_meet
      case rel => exact ⟨by simp, rfl⟩
  case rest =>
  obtain ⟨rfl, rfl⟩ := hcut
  obtain ⟨x4, hx4⟩ : ∃ x, x = (x3 && !d4) := ⟨_, rfl⟩
  rw [← hx4] at HSW ⊢
  clear hx4
  have hfin := HSW.out
  subst hfin
  cases Y
  all_goals
    go_wp2_with fail
    go_ret
    exact ⟨rfl, HK2.out⟩
end Go.Proofs.YtdhegblgghembaaDoor

