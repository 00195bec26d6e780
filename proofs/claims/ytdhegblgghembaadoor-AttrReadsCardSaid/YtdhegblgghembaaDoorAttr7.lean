/- The reference's AttrFrom by contract: what the program's Decode answers. -/
import Derived.Test.YtdhegblgghembaaDoorAttr5
import Derived.Test.YtdhegblgghembaaDoorAttr6
import Derived.Deep.RegionHeld3
namespace Go.Proofs.YtdhegblgghembaaDoor
open Go.RowKit Go.Lib
set_option linter.unusedVariables false
set_option linter.unusedSimpArgs false

theorem res_from {tmps : Array Value} {bA : Nat} {m v : Value} {W : World} {b : Nat → Int} (h2 : tmps.getD 2 undef = .pointer (some ⟨bA, 0, none⟩)) (h3 : tmps.getD 3 undef = m) (h4 : tmps.getD 4 undef = v) (hb : W.heap[bA]? = some (.cells (attrC b).toArray 36 (0, 0))) :
    (results Tryd.f30 tmps).run Tryd.prog W = .ok (.tuple #[.agg (attrC b).toArray, m, v]) W := by
  have k0 := cell_of hb 0
  have k1 := cell_of hb 1
  have k2 := cell_of hb 2
  have k3 := cell_of hb 3
  have k4 := cell_of hb 4
  have k5 := cell_of hb 5
  simp [attrC] at k0 k1 k2 k3 k4 k5
  simp at h2 h3 h4
  simp [results, Tryd.results30, go_sem, k0, k1, k2, k3, k4, k5, h2, h3, h4, attrC]
/-- One field cut: as one field read. -/
theorem cut_rd (s : ByteArray) (f : Nat) : (∃ q r, rdF s f = (q, r, 0) ∧ cutB s (if longF f then 8 else 4) = ((q : Int), r) ∧ r.size ≤ s.size) ∨ (rdF s f = (0, s, 1) ∧ cutB s (if longF f then 8 else 4) = (-1, s)) := by
  unfold rdF
  cases hl : longF f with
  | true =>
    simp only [if_true]
    unfold rdNum cutB
    by_cases h : 8 ≤ s.size ∧ decide (numK s 8 < 9223372036854775808) = true
    · rw [if_pos h, if_pos ⟨h.1, fun _ => by simpa using h.2⟩]
      exact .inl ⟨_, _, rfl, rfl, by rw [ByteArray.size_extract]; omega⟩
    · rw [if_neg h, if_neg (fun e => h ⟨e.1, by simpa using e.2 rfl⟩)]; exact .inr ⟨rfl, rfl⟩
  | false =>
    simp only [Bool.false_eq_true, if_false]
    unfold rdNum cutB
    by_cases h : 4 ≤ s.size
    · rw [if_pos ⟨h, rfl⟩, if_pos ⟨h, by omega⟩]
      exact .inl ⟨_, _, rfl, rfl, by rw [ByteArray.size_extract]; omega⟩
    · rw [if_neg (fun e => h e.1), if_neg (fun e => h e.1)]; exact .inr ⟨rfl, rfl⟩
theorem decM_none {s : ByteArray} {m k : Nat} (hm : m ≤ 31) (hk : k ≤ 6) (h : decS (s, noF) (fldsM m k) = none) : decM s m = (noF, 0, 1) := by
  obtain ⟨r, hr⟩ := fldsM_pre m k (6 - k)
  rw [show k + (6 - k) = 6 by omega] at hr
  unfold decM
  rw [← fldsM_all m hm, hr, decS_app, h]
  rfl
theorem decM_some {s r : ByteArray} {m : Nat} {b : Nat → Int} (hm : m ≤ 31) (h : decS (s, noF) (fldsM m 6) = some (r, b)) : decM s m = if r = ⟨#[]⟩ then (b, m, 0) else (noF, 0, 1) := by
  unfold decM
  rw [← fldsM_all m hm, h]
theorem decS_more {s t : ByteArray} {m k : Nat} {b : Nat → Int} (hb : m / 2 ^ fbit k % 2 = 1) (h : decS (s, noF) (fldsM m k) = some (t, b)) : decS (s, noF) (fldsM m (k + 1)) = decS (t, b) [k] := by
  rw [fldsM_yes hb, decS_app, h]; rfl
def okB (c : Nat) : Bool := c == 0
theorem zero_put {w W : World} {bA : Nat} {b : Nat → Int} (hb : W.heap[bA]? = some (.cells (attrC b).toArray 36 (0, 0))) (hc : Chg Nil w W) (hg : w.heap.size ≤ bA) (x0 x1 x2 x3 x4 x5 : Int) :
    ((((((W.setCell ⟨bA, 0, none⟩ (.int .i64 x0)).setCell ⟨bA, 1, none⟩ (.int .i64 x1)).setCell ⟨bA, 2, none⟩ (.int .i64 x2)).setCell ⟨bA, 3, none⟩ (.int .i64 x3)).setCell ⟨bA, 4, none⟩ (.int .i64 x4)).setCell ⟨bA, 5, none⟩ (.int .i64 x5)).heap[bA]? = some (.cells #[.int .i64 x0, .int .i64 x1, .int .i64 x2, .int .i64 x3, .int .i64 x4, .int .i64 x5] 36 (0, 0)) ∧
    Chg Nil w ((((((W.setCell ⟨bA, 0, none⟩ (.int .i64 x0)).setCell ⟨bA, 1, none⟩ (.int .i64 x1)).setCell ⟨bA, 2, none⟩ (.int .i64 x2)).setCell ⟨bA, 3, none⟩ (.int .i64 x3)).setCell ⟨bA, 4, none⟩ (.int .i64 x4)).setCell ⟨bA, 5, none⟩ (.int .i64 x5)) := by
  refine ⟨?_, (((((hc.setCell (.inl hg) _).setCell (.inl hg) _).setCell (.inl hg) _).setCell (.inl hg) _).setCell (.inl hg) _).setCell (.inl hg) _⟩
  have := block_setCell (block_setCell (block_setCell (block_setCell (block_setCell (block_setCell hb 0 (.int .i64 x0)) 1 (.int .i64 x1)) 2 (.int .i64 x2)) 3 (.int .i64 x3)) 4 (.int .i64 x4)) 5 (.int .i64 x5)
  simpa [attrC] using this
theorem from_fail {w W : World} {bA : Nat} {s : ByteArray} {b : Nat → Int} {a : Act} (hb : W.heap[bA]? = some (.cells (attrC b).toArray 36 (0, 0))) (hc : Chg Nil w W) (hg : w.heap.size ≤ bA) (hx : decA s = (noF, 0, 1)) (hd : a.defers = []) (h2 : a.tmps.getD 2 undef = .pointer (some ⟨bA, 0, none⟩)) (h3 : a.tmps.getD 3 undef = .int .i64 0) (h4 : a.tmps.getD 4 undef = .bool false) :
    bodyPost Tryd.prog Tryd.f30 (fun e w' => e = .returned (.tuple #[.agg (attrC (decA s).1).toArray, .int .i64 ((decA s).2.1 : Nat), .bool (okB (decA s).2.2)]) ∧ Chg Nil w w') Exit.ret a
      ((((((W.setCell ⟨bA, 0, none⟩ (.int .i64 0)).setCell ⟨bA, 1, none⟩ (.int .i64 0)).setCell ⟨bA, 2, none⟩ (.int .i64 0)).setCell ⟨bA, 3, none⟩ (.int .i64 0)).setCell ⟨bA, 4, none⟩ (.int .i64 0)).setCell ⟨bA, 5, none⟩ (.int .i64 0)) := by
  obtain ⟨h8, h9⟩ := zero_put hb hc hg 0 0 0 0 0 0
  refine bodyPost_ret (res_from (b := noF) h2 h3 h4 h8) hd ⟨?_, h9⟩
  rw [hx]; rfl
/-- The state of the loop: what is left, the six numbers. -/
def RelFr (s0 : ByteArray) (m : Nat) (w : World) (bI bB : Nat) (x i : Value) (wr : World) : Prop :=
  ∃ (k : Nat) (t : ByteArray) (b : Nat → Int), k ≤ 6 ∧ i = .int .i64 k ∧ x = .string t ∧ t.size ≤ 1000000 ∧ decS (s0, noF) (fldsM m k) = some (t, b) ∧ wr.heap[bI]? = some (.cells (attrC b).toArray 3 (0, 0)) ∧ Chg (· = bI) w wr
theorem keep_ints {W W' : World} {g bA : Nat} {b : Nat → Int} {E : TypeId} (hb : W.heap[g]? = some (.cells (attrC b).toArray E (0, 0))) (hn : ¬ g = bA) (c : Chg (· = bA) W W') :
    W'.cell? ⟨g, 0, none⟩ = some (.int .i64 (b 0)) ∧ W'.cell? ⟨g, 1, none⟩ = some (.int .i64 (b 1)) ∧ W'.cell? ⟨g, 2, none⟩ = some (.int .i64 (b 2)) ∧ W'.cell? ⟨g, 3, none⟩ = some (.int .i64 (b 3)) ∧ W'.cell? ⟨g, 4, none⟩ = some (.int .i64 (b 4)) ∧ W'.cell? ⟨g, 5, none⟩ = some (.int .i64 (b 5)) := by
  have h := c.keep hb hn
  exact ⟨cell_of h 0, cell_of h 1, cell_of h 2, cell_of h 3, cell_of h 4, cell_of h 5⟩
theorem info_int : (Tryd.prog.info? 3).map (fun i => (i.zero, i.size, i.bytes)) = some (some (.int .i64 0), 1, 8) := by kernel_rfl
theorem mk_six (W : World) : (Instr.makeSlice 22 (.int .i64 6) (.int .i64 6)).run Tryd.prog W = .ok (.slice (some ⟨W.heap.size, 0, none⟩) 6 6) (W.alloc (.cells (attrC noF).toArray 3)) :=
  mk_one (P := Tryd.prog) (T := 22) Tryd.underlying22 info_int rfl W 6 (by omega) (by omega)
set_option maxHeartbeats 8000000 in
set_option maxRecDepth 100000 in
theorem attrFrom_any (s : ByteArray) (w : World) (hs : s.size ≤ 1000000) :
    Calls Tryd.prog 30 #[.string s] w fun e w' => e = .returned (.tuple #[.agg (attrC (decA s).1).toArray, .int .i64 ((decA s).2.1 : Nat), .bool (okB (decA s).2.2)]) ∧ Chg Nil w w' := by
  have hba := block_alloc w (.cells (attrC noF).toArray 36)
  have HBA := Lib.hid hba
  have HK0 := Lib.hid ((Chg.refl Nil w).alloc (.cells (attrC noF).toArray 36))
  clear hba
  go_enter Tryd.func30, Tryd.ntmps30
  go_wp2_with fail
  refine (cut4_any s _ (by omega)).mono ?_
  rintro e w1 ⟨rfl, hc1⟩
  have HK1 := Lib.hid (HK0.out.then hc1)
  have HA1 := Lib.hid (hc1.keep HBA.out (fun f => f))
  clear hc1
  by_cases h4 : 4 ≤ s.size
  · have hcb : cutB s 4 = (((numK s 4 : Nat) : Int), s.extract 4 s.size) := if_pos ⟨h4, by omega⟩
    have hrd : rdNum s 4 (fun _ => true) = (numK s 4, s.extract 4 s.size, 0) := by unfold rdNum; rw [if_pos ⟨h4, rfl⟩]
    rw [hcb]
    obtain ⟨m, hm⟩ : ∃ m, m = numK s 4 := ⟨_, rfl⟩
    obtain ⟨s1, hs1⟩ : ∃ s1, s1 = s.extract 4 s.size := ⟨_, rfl⟩
    have hz1 : s1.size ≤ 1000000 := by rw [hs1, ByteArray.size_extract]; omega
    rw [← hm, ← hs1] at hrd ⊢
    clear hcb hm hs1
    by_cases hm31 : 31 < m
    · have HX := Lib.hid (show decA s = (noF, 0, 1) by unfold decA; rw [hrd, if_neg (by simp; omega)])
      have hmI : (31 : Int) < (m : Int) := by omega
      clear hrd hm31
      have a0 := cell_of HA1.out 0
      have a1 := cell_of HA1.out 1
      have a2 := cell_of HA1.out 2
      have a3 := cell_of HA1.out 3
      have a4 := cell_of HA1.out 4
      have a5 := cell_of HA1.out 5
      have f0 := free_of HA1.out 0
      have f1 := free_of HA1.out 1
      have f2 := free_of HA1.out 2
      have f3 := free_of HA1.out 3
      have f4 := free_of HA1.out 4
      have f5 := free_of HA1.out 5
      have gb := lt_of_block HA1.out
      simp [attrC, noF] at a0 a1 a2 a3 a4 a5
      go_wp2_with fail
      exact from_fail HA1.out HK1.out (Nat.le_refl _) HX.out rfl rfl rfl rfl
    have HDM := Lib.hid (show decA s = decM s1 m by unfold decA; rw [hrd, if_pos ⟨rfl, by simp; omega⟩])
    have hmI : ¬ (31 : Int) < (m : Int) := by omega
    have hmd : decide ((31 : Int) < (m : Int)) = false := by simp; omega
    clear hrd
    have hmk := mk_six
    have hbi := block_alloc_old (block_alloc w1 (.cells (attrC noF).toArray 3)) (.cells (bitsL.map fun n => Value.int .i64 n).toArray 3)
    have hbb := block_alloc (w1.alloc (.cells (attrC noF).toArray 3)) (.cells (bitsL.map fun n => Value.int .i64 n).toArray 3)
    have hkk := ((Chg.refl Nil w1).alloc (.cells (attrC noF).toArray 3)).alloc (.cells (bitsL.map fun n => Value.int .i64 n).toArray 3)
    have HBI := Lib.hid hbi
    have HBB := Lib.hid hbb
    have HKK := Lib.hid hkk
    have hla := lt_of_block HA1.out
    clear hbi hbb hkk
    go_wp2_with fail
    clear hmk
    go_loopw [0, 8] (fun x i wr => RelFr s1 m ((w1.alloc (.cells (attrC noF).toArray 3)).alloc (.cells (bitsL.map fun n => Value.int .i64 n).toArray 3)) w1.heap.size (w1.heap.size + 1) x i wr) (fun _ i _ => (6 - RowKit.intOf i).toNat)
    case atStart => exact ⟨0, s1, noF, by omega, rfl, rfl, hz1, rfl, HBI.out, Chg.refl _ _⟩
    case round =>
      obtain ⟨k, t, b, hk, rfl, rfl, htz, hen, hbk, hC⟩ := hrel
      have HEN := Lib.hid hen
      have HC := Lib.hid hC
      have hA := HC.out.keep (HKK.out.keep HA1.out (fun f => f)) (fun e => by have : w.heap.size = w1.heap.size := e; omega)
      have HA := Lib.hid hA
      have HAK := Lib.hid ((HK1.out.then HKK.out).trans HC.out (fun x hx e => by have : x = w1.heap.size := e; have := HK1.out.size; omega))
      have hj := hC.keep HBB.out (fun e => by simp at e)
      have HBK := Lib.hid hbk
      have gI := lt_of_block hbk
      clear hen hC hA
      by_cases hlt : k < 6
      · rcases (show k = 0 ∨ k = 1 ∨ k = 2 ∨ k = 3 ∨ k = 4 ∨ k = 5 by omega) with rfl | rfl | rfl | rfl | rfl | rfl
        · have j0 := cell_of hj 0
          have i0 := cell_of hbk 0
          have p0 := free_of hbk 0
          simp [bitsL] at j0
          simp [attrC] at i0
          clear hj hbk
          by_cases hbit : m / 2 ^ fbit 0 % 2 = 1
          · have h2 : (m : Int) % 2 = 1 := by simp [fbit] at hbit; omega
            have HMO := Lib.hid (decS_more hbit HEN.out)
            clear hbit
            rcases cut_rd t 0 with ⟨x, r, h5, h6, h7⟩ | ⟨h5, h6⟩
            · have HCU := Lib.hid (show cutB t 4 = ((x : Int), r) from h6)
              have HST := Lib.hid (HMO.out.trans (decS_one (b := b) h5))
              clear h5 h6
              go_wp2_with fail
              refine (cut4_any t _ (by omega)).mono ?_
              rintro e w3 ⟨rfl, hc3⟩
              rw [HCU.out]
              have hb3 := hc3.keep HBK.out (fun f => f)
              have i1 := cell_of hb3 0
              have p1 := free_of hb3 0
              have g1 := lt_of_block hb3
              simp [attrC] at i1
              have HB3 := Lib.hid (block_setCell hb3 0 (.int .i64 x))
              have HC3 := Lib.hid ((HC.out.then hc3.nil).setCell (p := ⟨w1.heap.size, 0, none⟩) (.inr rfl) (.int .i64 x))
              rw [attrC_set b (by omega) x] at HB3
              clear hb3 hc3 i0 p0
              go_wp2_with fail
              go_roundw
              case rel => exact ⟨0 + 1, r, setF b 0 x, by omega, rfl, rfl, by omega, HST.out, HB3.out, HC3.out⟩
              case measure => simp [RowKit.intOf]
            · have HCU := Lib.hid (show cutB t 4 = (-1, t) from h6)
              have HX := Lib.hid (HDM.out.trans (decM_none (k := 0 + 1) (by omega) (by omega) (HMO.out.trans (decS_none (b := b) h5))))
              clear h5 h6
              go_wp2_with fail
              refine (cut4_any t _ (by omega)).mono ?_
              rintro e w3 ⟨rfl, hc3⟩
              rw [HCU.out]
              have hA3 := hc3.keep HA.out (fun f => f)
              have HA3 := Lib.hid hA3
              have HK3 := Lib.hid (HAK.out.then hc3)
              have a0 := cell_of hA3 0
              have a1 := cell_of hA3 1
              have a2 := cell_of hA3 2
              have a3 := cell_of hA3 3
              have a4 := cell_of hA3 4
              have a5 := cell_of hA3 5
              have f0 := free_of hA3 0
              have f1 := free_of hA3 1
              have f2 := free_of hA3 2
              have f3 := free_of hA3 3
              have f4 := free_of hA3 4
              have f5 := free_of hA3 5
              have gb := lt_of_block hA3
              simp [attrC] at a0 a1 a2 a3 a4 a5
              clear hA3 hc3
              go_wp2_with fail
              exact from_fail HA3.out HK3.out (Nat.le_refl _) HX.out rfl rfl rfl rfl
          · have h2 : (m : Int) % 2 = 0 := by simp [fbit] at hbit; omega
            have HSK := Lib.hid (show decS (s1, noF) (fldsM m (0 + 1)) = some (t, b) by rw [fldsM_no hbit]; exact HEN.out)
            clear hbit
            go_wp2_with fail
            go_roundw
            case rel => exact ⟨0 + 1, t, b, by omega, rfl, rfl, by omega, HSK.out, HBK.out, HC.out⟩
            case measure => simp [RowKit.intOf]
        · have j0 := cell_of hj 1
          have i0 := cell_of hbk 1
          have p0 := free_of hbk 1
          simp [bitsL] at j0
          simp [attrC] at i0
          clear hj hbk
          by_cases hbit : m / 2 ^ fbit 1 % 2 = 1
          · have h2 : (m : Int) / 2 % 2 = 1 := by simp [fbit] at hbit; omega
            have HMO := Lib.hid (decS_more hbit HEN.out)
            clear hbit
            rcases cut_rd t 1 with ⟨x, r, h5, h6, h7⟩ | ⟨h5, h6⟩
            · have HCU := Lib.hid (show cutB t 8 = ((x : Int), r) from h6)
              have HST := Lib.hid (HMO.out.trans (decS_one (b := b) h5))
              clear h5 h6
              go_wp2_with fail
              refine (cut8_any t _ (by omega)).mono ?_
              rintro e w3 ⟨rfl, hc3⟩
              rw [HCU.out]
              have hb3 := hc3.keep HBK.out (fun f => f)
              have i1 := cell_of hb3 1
              have p1 := free_of hb3 1
              have g1 := lt_of_block hb3
              simp [attrC] at i1
              have HB3 := Lib.hid (block_setCell hb3 1 (.int .i64 x))
              have HC3 := Lib.hid ((HC.out.then hc3.nil).setCell (p := ⟨w1.heap.size, 1, none⟩) (.inr rfl) (.int .i64 x))
              rw [attrC_set b (by omega) x] at HB3
              clear hb3 hc3 i0 p0
              go_wp2_with fail
              go_roundw
              case rel => exact ⟨1 + 1, r, setF b 1 x, by omega, rfl, rfl, by omega, HST.out, HB3.out, HC3.out⟩
              case measure => simp [RowKit.intOf]
            · have HCU := Lib.hid (show cutB t 8 = (-1, t) from h6)
              have HX := Lib.hid (HDM.out.trans (decM_none (k := 1 + 1) (by omega) (by omega) (HMO.out.trans (decS_none (b := b) h5))))
              clear h5 h6
              go_wp2_with fail
              refine (cut8_any t _ (by omega)).mono ?_
              rintro e w3 ⟨rfl, hc3⟩
              rw [HCU.out]
              have hA3 := hc3.keep HA.out (fun f => f)
              have HA3 := Lib.hid hA3
              have HK3 := Lib.hid (HAK.out.then hc3)
              have a0 := cell_of hA3 0
              have a1 := cell_of hA3 1
              have a2 := cell_of hA3 2
              have a3 := cell_of hA3 3
              have a4 := cell_of hA3 4
              have a5 := cell_of hA3 5
              have f0 := free_of hA3 0
              have f1 := free_of hA3 1
              have f2 := free_of hA3 2
              have f3 := free_of hA3 3
              have f4 := free_of hA3 4
              have f5 := free_of hA3 5
              have gb := lt_of_block hA3
              simp [attrC] at a0 a1 a2 a3 a4 a5
              clear hA3 hc3
              go_wp2_with fail
              exact from_fail HA3.out HK3.out (Nat.le_refl _) HX.out rfl rfl rfl rfl
          · have h2 : (m : Int) / 2 % 2 = 0 := by simp [fbit] at hbit; omega
            have HSK := Lib.hid (show decS (s1, noF) (fldsM m (1 + 1)) = some (t, b) by rw [fldsM_no hbit]; exact HEN.out)
            clear hbit
            go_wp2_with fail
            go_roundw
            case rel => exact ⟨1 + 1, t, b, by omega, rfl, rfl, by omega, HSK.out, HBK.out, HC.out⟩
            case measure => simp [RowKit.intOf]
        · have j0 := cell_of hj 2
          have i0 := cell_of hbk 2
          have p0 := free_of hbk 2
          simp [bitsL] at j0
          simp [attrC] at i0
          clear hj hbk
          by_cases hbit : m / 2 ^ fbit 2 % 2 = 1
          · have h2 : (m : Int) / 4 % 2 = 1 := by simp [fbit] at hbit; omega
            have HMO := Lib.hid (decS_more hbit HEN.out)
            clear hbit
            rcases cut_rd t 2 with ⟨x, r, h5, h6, h7⟩ | ⟨h5, h6⟩
            · have HCU := Lib.hid (show cutB t 4 = ((x : Int), r) from h6)
              have HST := Lib.hid (HMO.out.trans (decS_one (b := b) h5))
              clear h5 h6
              go_wp2_with fail
              refine (cut4_any t _ (by omega)).mono ?_
              rintro e w3 ⟨rfl, hc3⟩
              rw [HCU.out]
              have hb3 := hc3.keep HBK.out (fun f => f)
              have i1 := cell_of hb3 2
              have p1 := free_of hb3 2
              have g1 := lt_of_block hb3
              simp [attrC] at i1
              have HB3 := Lib.hid (block_setCell hb3 2 (.int .i64 x))
              have HC3 := Lib.hid ((HC.out.then hc3.nil).setCell (p := ⟨w1.heap.size, 2, none⟩) (.inr rfl) (.int .i64 x))
              rw [attrC_set b (by omega) x] at HB3
              clear hb3 hc3 i0 p0
              go_wp2_with fail
              go_roundw
              case rel => exact ⟨2 + 1, r, setF b 2 x, by omega, rfl, rfl, by omega, HST.out, HB3.out, HC3.out⟩
              case measure => simp [RowKit.intOf]
            · have HCU := Lib.hid (show cutB t 4 = (-1, t) from h6)
              have HX := Lib.hid (HDM.out.trans (decM_none (k := 2 + 1) (by omega) (by omega) (HMO.out.trans (decS_none (b := b) h5))))
              clear h5 h6
              go_wp2_with fail
              refine (cut4_any t _ (by omega)).mono ?_
              rintro e w3 ⟨rfl, hc3⟩
              rw [HCU.out]
              have hA3 := hc3.keep HA.out (fun f => f)
              have HA3 := Lib.hid hA3
              have HK3 := Lib.hid (HAK.out.then hc3)
              have a0 := cell_of hA3 0
              have a1 := cell_of hA3 1
              have a2 := cell_of hA3 2
              have a3 := cell_of hA3 3
              have a4 := cell_of hA3 4
              have a5 := cell_of hA3 5
              have f0 := free_of hA3 0
              have f1 := free_of hA3 1
              have f2 := free_of hA3 2
              have f3 := free_of hA3 3
              have f4 := free_of hA3 4
              have f5 := free_of hA3 5
              have gb := lt_of_block hA3
              simp [attrC] at a0 a1 a2 a3 a4 a5
              clear hA3 hc3
              go_wp2_with fail
              exact from_fail HA3.out HK3.out (Nat.le_refl _) HX.out rfl rfl rfl rfl
          · have h2 : (m : Int) / 4 % 2 = 0 := by simp [fbit] at hbit; omega
            have HSK := Lib.hid (show decS (s1, noF) (fldsM m (2 + 1)) = some (t, b) by rw [fldsM_no hbit]; exact HEN.out)
            clear hbit
            go_wp2_with fail
            go_roundw
            case rel => exact ⟨2 + 1, t, b, by omega, rfl, rfl, by omega, HSK.out, HBK.out, HC.out⟩
            case measure => simp [RowKit.intOf]
        · have j0 := cell_of hj 3
          have i0 := cell_of hbk 3
          have p0 := free_of hbk 3
          simp [bitsL] at j0
          simp [attrC] at i0
          clear hj hbk
          by_cases hbit : m / 2 ^ fbit 3 % 2 = 1
          · have h2 : (m : Int) / 8 % 2 = 1 := by simp [fbit] at hbit; omega
            have HMO := Lib.hid (decS_more hbit HEN.out)
            clear hbit
            rcases cut_rd t 3 with ⟨x, r, h5, h6, h7⟩ | ⟨h5, h6⟩
            · have HCU := Lib.hid (show cutB t 8 = ((x : Int), r) from h6)
              have HST := Lib.hid (HMO.out.trans (decS_one (b := b) h5))
              clear h5 h6
              go_wp2_with fail
              refine (cut8_any t _ (by omega)).mono ?_
              rintro e w3 ⟨rfl, hc3⟩
              rw [HCU.out]
              have hb3 := hc3.keep HBK.out (fun f => f)
              have i1 := cell_of hb3 3
              have p1 := free_of hb3 3
              have g1 := lt_of_block hb3
              simp [attrC] at i1
              have HB3 := Lib.hid (block_setCell hb3 3 (.int .i64 x))
              have HC3 := Lib.hid ((HC.out.then hc3.nil).setCell (p := ⟨w1.heap.size, 3, none⟩) (.inr rfl) (.int .i64 x))
              rw [attrC_set b (by omega) x] at HB3
              clear hb3 hc3 i0 p0
              go_wp2_with fail
              go_roundw
              case rel => exact ⟨3 + 1, r, setF b 3 x, by omega, rfl, rfl, by omega, HST.out, HB3.out, HC3.out⟩
              case measure => simp [RowKit.intOf]
            · have HCU := Lib.hid (show cutB t 8 = (-1, t) from h6)
              have HX := Lib.hid (HDM.out.trans (decM_none (k := 3 + 1) (by omega) (by omega) (HMO.out.trans (decS_none (b := b) h5))))
              clear h5 h6
              go_wp2_with fail
              refine (cut8_any t _ (by omega)).mono ?_
              rintro e w3 ⟨rfl, hc3⟩
              rw [HCU.out]
              have hA3 := hc3.keep HA.out (fun f => f)
              have HA3 := Lib.hid hA3
              have HK3 := Lib.hid (HAK.out.then hc3)
              have a0 := cell_of hA3 0
              have a1 := cell_of hA3 1
              have a2 := cell_of hA3 2
              have a3 := cell_of hA3 3
              have a4 := cell_of hA3 4
              have a5 := cell_of hA3 5
              have f0 := free_of hA3 0
              have f1 := free_of hA3 1
              have f2 := free_of hA3 2
              have f3 := free_of hA3 3
              have f4 := free_of hA3 4
              have f5 := free_of hA3 5
              have gb := lt_of_block hA3
              simp [attrC] at a0 a1 a2 a3 a4 a5
              clear hA3 hc3
              go_wp2_with fail
              exact from_fail HA3.out HK3.out (Nat.le_refl _) HX.out rfl rfl rfl rfl
          · have h2 : (m : Int) / 8 % 2 = 0 := by simp [fbit] at hbit; omega
            have HSK := Lib.hid (show decS (s1, noF) (fldsM m (3 + 1)) = some (t, b) by rw [fldsM_no hbit]; exact HEN.out)
            clear hbit
            go_wp2_with fail
            go_roundw
            case rel => exact ⟨3 + 1, t, b, by omega, rfl, rfl, by omega, HSK.out, HBK.out, HC.out⟩
            case measure => simp [RowKit.intOf]
        · have j0 := cell_of hj 4
          have i0 := cell_of hbk 4
          have p0 := free_of hbk 4
          simp [bitsL] at j0
          simp [attrC] at i0
          clear hj hbk
          by_cases hbit : m / 2 ^ fbit 4 % 2 = 1
          · have h2 : (m : Int) / 16 % 2 = 1 := by simp [fbit] at hbit; omega
            have HMO := Lib.hid (decS_more hbit HEN.out)
            clear hbit
            rcases cut_rd t 4 with ⟨x, r, h5, h6, h7⟩ | ⟨h5, h6⟩
            · have HCU := Lib.hid (show cutB t 4 = ((x : Int), r) from h6)
              have HST := Lib.hid (HMO.out.trans (decS_one (b := b) h5))
              clear h5 h6
              go_wp2_with fail
              refine (cut4_any t _ (by omega)).mono ?_
              rintro e w3 ⟨rfl, hc3⟩
              rw [HCU.out]
              have hb3 := hc3.keep HBK.out (fun f => f)
              have i1 := cell_of hb3 4
              have p1 := free_of hb3 4
              have g1 := lt_of_block hb3
              simp [attrC] at i1
              have HB3 := Lib.hid (block_setCell hb3 4 (.int .i64 x))
              have HC3 := Lib.hid ((HC.out.then hc3.nil).setCell (p := ⟨w1.heap.size, 4, none⟩) (.inr rfl) (.int .i64 x))
              rw [attrC_set b (by omega) x] at HB3
              clear hb3 hc3 i0 p0
              go_wp2_with fail
              go_roundw
              case rel => exact ⟨4 + 1, r, setF b 4 x, by omega, rfl, rfl, by omega, HST.out, HB3.out, HC3.out⟩
              case measure => simp [RowKit.intOf]
            · have HCU := Lib.hid (show cutB t 4 = (-1, t) from h6)
              have HX := Lib.hid (HDM.out.trans (decM_none (k := 4 + 1) (by omega) (by omega) (HMO.out.trans (decS_none (b := b) h5))))
              clear h5 h6
              go_wp2_with fail
              refine (cut4_any t _ (by omega)).mono ?_
              rintro e w3 ⟨rfl, hc3⟩
              rw [HCU.out]
              have hA3 := hc3.keep HA.out (fun f => f)
              have HA3 := Lib.hid hA3
              have HK3 := Lib.hid (HAK.out.then hc3)
              have a0 := cell_of hA3 0
              have a1 := cell_of hA3 1
              have a2 := cell_of hA3 2
              have a3 := cell_of hA3 3
              have a4 := cell_of hA3 4
              have a5 := cell_of hA3 5
              have f0 := free_of hA3 0
              have f1 := free_of hA3 1
              have f2 := free_of hA3 2
              have f3 := free_of hA3 3
              have f4 := free_of hA3 4
              have f5 := free_of hA3 5
              have gb := lt_of_block hA3
              simp [attrC] at a0 a1 a2 a3 a4 a5
              clear hA3 hc3
              go_wp2_with fail
              exact from_fail HA3.out HK3.out (Nat.le_refl _) HX.out rfl rfl rfl rfl
          · have h2 : (m : Int) / 16 % 2 = 0 := by simp [fbit] at hbit; omega
            have HSK := Lib.hid (show decS (s1, noF) (fldsM m (4 + 1)) = some (t, b) by rw [fldsM_no hbit]; exact HEN.out)
            clear hbit
            go_wp2_with fail
            go_roundw
            case rel => exact ⟨4 + 1, t, b, by omega, rfl, rfl, by omega, HSK.out, HBK.out, HC.out⟩
            case measure => simp [RowKit.intOf]
        · have j0 := cell_of hj 5
          have i0 := cell_of hbk 5
          have p0 := free_of hbk 5
          simp [bitsL] at j0
          simp [attrC] at i0
          clear hj hbk
          by_cases hbit : m / 2 ^ fbit 5 % 2 = 1
          · have h2 : (m : Int) / 16 % 2 = 1 := by simp [fbit] at hbit; omega
            have HMO := Lib.hid (decS_more hbit HEN.out)
            clear hbit
            rcases cut_rd t 5 with ⟨x, r, h5, h6, h7⟩ | ⟨h5, h6⟩
            · have HCU := Lib.hid (show cutB t 4 = ((x : Int), r) from h6)
              have HST := Lib.hid (HMO.out.trans (decS_one (b := b) h5))
              clear h5 h6
              go_wp2_with fail
              refine (cut4_any t _ (by omega)).mono ?_
              rintro e w3 ⟨rfl, hc3⟩
              rw [HCU.out]
              have hb3 := hc3.keep HBK.out (fun f => f)
              have i1 := cell_of hb3 5
              have p1 := free_of hb3 5
              have g1 := lt_of_block hb3
              simp [attrC] at i1
              have HB3 := Lib.hid (block_setCell hb3 5 (.int .i64 x))
              have HC3 := Lib.hid ((HC.out.then hc3.nil).setCell (p := ⟨w1.heap.size, 5, none⟩) (.inr rfl) (.int .i64 x))
              rw [attrC_set b (by omega) x] at HB3
              clear hb3 hc3 i0 p0
              go_wp2_with fail
              go_roundw
              case rel => exact ⟨5 + 1, r, setF b 5 x, by omega, rfl, rfl, by omega, HST.out, HB3.out, HC3.out⟩
              case measure => simp [RowKit.intOf]
            · have HCU := Lib.hid (show cutB t 4 = (-1, t) from h6)
              have HX := Lib.hid (HDM.out.trans (decM_none (k := 5 + 1) (by omega) (by omega) (HMO.out.trans (decS_none (b := b) h5))))
              clear h5 h6
              go_wp2_with fail
              refine (cut4_any t _ (by omega)).mono ?_
              rintro e w3 ⟨rfl, hc3⟩
              rw [HCU.out]
              have hA3 := hc3.keep HA.out (fun f => f)
              have HA3 := Lib.hid hA3
              have HK3 := Lib.hid (HAK.out.then hc3)
              have a0 := cell_of hA3 0
              have a1 := cell_of hA3 1
              have a2 := cell_of hA3 2
              have a3 := cell_of hA3 3
              have a4 := cell_of hA3 4
              have a5 := cell_of hA3 5
              have f0 := free_of hA3 0
              have f1 := free_of hA3 1
              have f2 := free_of hA3 2
              have f3 := free_of hA3 3
              have f4 := free_of hA3 4
              have f5 := free_of hA3 5
              have gb := lt_of_block hA3
              simp [attrC] at a0 a1 a2 a3 a4 a5
              clear hA3 hc3
              go_wp2_with fail
              exact from_fail HA3.out HK3.out (Nat.le_refl _) HX.out rfl rfl rfl rfl
          · have h2 : (m : Int) / 16 % 2 = 0 := by simp [fbit] at hbit; omega
            have HSK := Lib.hid (show decS (s1, noF) (fldsM m (5 + 1)) = some (t, b) by rw [fldsM_no hbit]; exact HEN.out)
            clear hbit
            go_wp2_with fail
            go_roundw
            case rel => exact ⟨5 + 1, t, b, by omega, rfl, rfl, by omega, HSK.out, HBK.out, HC.out⟩
            case measure => simp [RowKit.intOf]
      · obtain rfl : k = 6 := by omega
        have HDS := Lib.hid (HDM.out.trans (decM_some (by omega) HEN.out))
        have hA3 := HA.out
        have a0 := cell_of hA3 0
        have a1 := cell_of hA3 1
        have a2 := cell_of hA3 2
        have a3 := cell_of hA3 3
        have a4 := cell_of hA3 4
        have a5 := cell_of hA3 5
        have f0 := free_of hA3 0
        have f1 := free_of hA3 1
        have f2 := free_of hA3 2
        have f3 := free_of hA3 3
        have f4 := free_of hA3 4
        have f5 := free_of hA3 5
        have gb := lt_of_block hA3
        simp [attrC] at a0 a1 a2 a3 a4 a5
        clear hA3 hj
        by_cases hte : t = ⟨#[]⟩
        · have HX := Lib.hid (HDS.out.trans (if_pos hte))
          subst hte
          have i0 := cell_of hbk 0
          have i1 := cell_of hbk 1
          have i2 := cell_of hbk 2
          have i3 := cell_of hbk 3
          have i4 := cell_of hbk 4
          have i5 := cell_of hbk 5
          simp [attrC] at i0 i1 i2 i3 i4 i5
          clear hbk
          go_wp2_with fail
          have hne : ¬ w1.heap.size = w.heap.size := by omega
          have H0 := keep_ints HBK.out hne (Chg.refl _ wr).drew
          have H6 := keep_ints HBK.out hne (Chg.drew ((((((chg_at wr w.heap.size 0 (.int .i64 (b 0))).setCell (p := ⟨w.heap.size, 1, none⟩) (.inr rfl) (.int .i64 (b 1))).setCell (p := ⟨w.heap.size, 2, none⟩) (.inr rfl) (.int .i64 (b 2))).setCell (p := ⟨w.heap.size, 3, none⟩) (.inr rfl) (.int .i64 (b 3))).setCell (p := ⟨w.heap.size, 4, none⟩) (.inr rfl) (.int .i64 (b 4))).setCell (p := ⟨w.heap.size, 5, none⟩) (.inr rfl) (.int .i64 (b 5))))
          have HF := Lib.hid (zero_put HA.out HAK.out (Nat.le_refl _) (b 0) (b 1) (b 2) (b 3) (b 4) (b 5))
          go_region_held3 (fun w' => w'.cell? ⟨w1.heap.size, 0, none⟩ = some (.int .i64 (b 0)) ∧ w'.cell? ⟨w1.heap.size, 1, none⟩ = some (.int .i64 (b 1)) ∧ w'.cell? ⟨w1.heap.size, 2, none⟩ = some (.int .i64 (b 2)) ∧ w'.cell? ⟨w1.heap.size, 3, none⟩ = some (.int .i64 (b 3)) ∧ w'.cell? ⟨w1.heap.size, 4, none⟩ = some (.int .i64 (b 4)) ∧ w'.cell? ⟨w1.heap.size, 5, none⟩ = some (.int .i64 (b 5)))
            (first | (with_reducible exact H0) | (with_reducible exact H6))
            (first | fail)
          all_goals
            go_wp2_with fail
            refine bodyPost_ret (res_from (b := b) rfl rfl rfl (show _ = _ from HF.out.1)) rfl ⟨?_, HF.out.2.drew⟩
            rw [HX.out]; rfl
        · have HX := Lib.hid (HDS.out.trans (if_neg hte))
          have htt := txt_full hte
          clear hte hbk
          go_wp2_with fail
          exact from_fail HA.out HAK.out (Nat.le_refl _) HX.out rfl rfl rfl rfl
  · have hcb : cutB s 4 = (-1, s) := if_neg (fun h => h4 h.1)
    have hr0 : rdNum s 4 (fun _ => true) = (0, s, 1) := if_neg (fun h => h4 h.1)
    have HX := Lib.hid (show decA s = (noF, 0, 1) by unfold decA; rw [hr0, if_neg (by simp)])
    rw [hcb]
    have a0 := cell_of HA1.out 0
    have a1 := cell_of HA1.out 1
    have a2 := cell_of HA1.out 2
    have a3 := cell_of HA1.out 3
    have a4 := cell_of HA1.out 4
    have a5 := cell_of HA1.out 5
    have f0 := free_of HA1.out 0
    have f1 := free_of HA1.out 1
    have f2 := free_of HA1.out 2
    have f3 := free_of HA1.out 3
    have f4 := free_of HA1.out 4
    have f5 := free_of HA1.out 5
    have gb := lt_of_block HA1.out
    simp [attrC, noF] at a0 a1 a2 a3 a4 a5
    clear hcb h4 hr0
    go_wp2_with fail
    exact from_fail HA1.out HK1.out (Nat.le_refl _) HX.out rfl rfl rfl rfl
end Go.Proofs.YtdhegblgghembaaDoor
