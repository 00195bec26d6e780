/- package attr: the parts, and those that a mask asks for, by contract. -/
import Derived.Test.YtdhegblgghembaaDoorXdr12
import Derived.Test.YtdhegblgghembaaDoorSteps
import Derived.RegionTactic
import Derived.Laws.EntriesVeiled
namespace Go.Proofs.YtdhegblgghembaaDoor
open Go.RowKit Go.Lib
set_option linter.unusedVariables false
set_option linter.unusedSimpArgs false

/-- The fields of a part, by their places in an Attr. -/
def flds (i : Nat) : List Nat := if i = 4 then [4, 5] else [i]
def longF (i : Nat) : Bool := i == 1 || i == 3
def partF : Nat → FuncId
  | 0 => 109
  | 1 => 110
  | 2 => 111
  | 3 => 112
  | _ => 113
def ptrC (b : Nat) (f : Nat) : Value := .pointer (some ⟨b, f, none⟩)
def partC (i : Nat) : List Value := [.bool (longF i), .func (.func (partF i)) #[] #[]]
theorem partC_len (i : Nat) : (partC i).length = 2 := rfl
theorem partC_one (i : Nat) : ∀ u ∈ partC i, u.oneCell' = true := by intro u hu; simp [partC] at hu; rcases hu with rfl | rfl <;> rfl
theorem info_part : (Tryd.prog.info? 128).map (fun i => (i.zero, i.size, i.bytes)) = some (some (.agg #[.bool false, .nilFunc]), 2, 16) := by kernel_rfl

set_option maxHeartbeats 1000000 in
theorem of_any (i b : Nat) (hi : i < 5) (w : World) :
    Calls Tryd.prog (partF i) #[.pointer (some ⟨b, 0, none⟩)] w fun e w' => e = .returned (.slice (some ⟨w.heap.size, 0, none⟩) (flds i).length (flds i).length) ∧ Chg Nil w w' ∧ w'.heap[w.heap.size]? = some (.cells ((flds i).map (ptrC b)).toArray 131 (0, 0)) := by
  rcases (show i = 0 ∨ i = 1 ∨ i = 2 ∨ i = 3 ∨ i = 4 by omega) with rfl | rfl | rfl | rfl | rfl
  · show Calls Tryd.prog 109 _ _ _
    go_enter Tryd.func109, Tryd.ntmps109
    go_wp2_with fail
    go_ret
    exact ⟨rfl, (Chg.refl _ _).alloc _, block_alloc w _⟩
  · show Calls Tryd.prog 110 _ _ _
    go_enter Tryd.func110, Tryd.ntmps110
    go_wp2_with fail
    go_ret
    exact ⟨rfl, (Chg.refl _ _).alloc _, block_alloc w _⟩
  · show Calls Tryd.prog 111 _ _ _
    go_enter Tryd.func111, Tryd.ntmps111
    go_wp2_with fail
    go_ret
    exact ⟨rfl, (Chg.refl _ _).alloc _, block_alloc w _⟩
  · show Calls Tryd.prog 112 _ _ _
    go_enter Tryd.func112, Tryd.ntmps112
    go_wp2_with fail
    go_ret
    exact ⟨rfl, (Chg.refl _ _).alloc _, block_alloc w _⟩
  · show Calls Tryd.prog 113 _ _ _
    go_enter Tryd.func113, Tryd.ntmps113
    go_wp2_with fail
    go_region
    all_goals
      go_wp2_with fail
      go_ret
      exact ⟨rfl, by repeat (first | exact Chg.refl _ _ | refine Chg.drew ?_ | refine Chg.alloc ?_ _), block_alloc w _⟩
set_option maxHeartbeats 1000000 in
theorem run_callFunc_enter {P : Program} {f : FuncId} {fn : Func} (hf : P.funcs[f]? = some fn) (hname : (fn.name == "runtime.NumGoroutine") = false) (hb : fn.body.isNone = false) (args : Array Value) (w : World) :
    (callFunc f args).run P w = .ok (.enter f args) w := by
  have h1 : fn.name ≠ "runtime.NumGoroutine" := by simpa using hname
  cases hbd : fn.body with
  | none => rw [hbd] at hb; cases hb
  | some x => simp [callFunc, hf, h1, hbd, Sem.run]
theorem part_enter (i : Nat) (hi : i < 5) : ∀ args W, (callFunc (partF i) args).run Tryd.prog W = .ok (.enter (partF i) args) W := by
  intro args W
  rcases (show i = 0 ∨ i = 1 ∨ i = 2 ∨ i = 3 ∨ i = 4 by omega) with rfl | rfl | rfl | rfl | rfl
  · exact run_callFunc_enter Tryd.func109 (by kernel_rfl) (by kernel_rfl) args W
  · exact run_callFunc_enter Tryd.func110 (by kernel_rfl) (by kernel_rfl) args W
  · exact run_callFunc_enter Tryd.func111 (by kernel_rfl) (by kernel_rfl) args W
  · exact run_callFunc_enter Tryd.func112 (by kernel_rfl) (by kernel_rfl) args W
  · exact run_callFunc_enter Tryd.func113 (by kernel_rfl) (by kernel_rfl) args W
set_option maxHeartbeats 1000000 in
theorem parts_any (w : World) :
    Calls Tryd.prog 86 #[] w fun e w' => e = .returned (.slice (some ⟨w.heap.size, 0, none⟩) 5 5) ∧ w' = w.alloc (.cells ((List.range 5).flatMap partC).toArray 128) := by
  go_enter Tryd.func86, Tryd.ntmps86
  go_wp2_with fail
  go_ret
  exact ⟨rfl, rfl⟩
set_option maxHeartbeats 1000000 in
theorem right_yes (m : Nat) (hm : m ≤ 31) (w : World) : Calls Tryd.prog 65 #[.int .i64 m] w fun e w' => e = .returned (.bool true) ∧ w = w' := by
  have h1 : (m : Int) ≤ 31 := by omega
  go_enter Tryd.func65, Tryd.ntmps65
  go_wp2_with fail
  go_ret
  exact ⟨rfl, rfl⟩
set_option maxHeartbeats 1000000 in
theorem right_no (m : Int) (hm : m < 0 ∨ 31 < m) (w : World) : Calls Tryd.prog 65 #[.int .i64 m] w fun e w' => e = .returned (.bool false) ∧ w = w' := by
  by_cases h : m < 0
  · have h1 : decide (0 ≤ m) = false := by simp; omega
    clear hm
    go_enter Tryd.func65, Tryd.ntmps65
    go_wp2_with fail
    go_ret
    exact ⟨rfl, rfl⟩
  · have h1 : ¬ m ≤ 31 := by omega
    have h2 : 0 ≤ m := by omega
    clear hm h
    go_enter Tryd.func65, Tryd.ntmps65
    go_wp2_with fail
    go_ret
    exact ⟨rfl, rfl⟩

/-- The parts that a mask asks for, up to k. -/
def idxs (m k : Nat) : List Nat := (List.range k).filter fun i => m / 2 ^ i % 2 == 1
theorem idxs_yes {m k : Nat} (h : m / 2 ^ k % 2 = 1) : idxs m (k + 1) = idxs m k ++ [k] := by unfold idxs; rw [List.range_succ, List.filter_append]; simp [h]
theorem idxs_no {m k : Nat} (h : ¬ m / 2 ^ k % 2 = 1) : idxs m (k + 1) = idxs m k := by unfold idxs; rw [List.range_succ, List.filter_append]; simp [h]
theorem idxs_len (m k : Nat) : (idxs m k).length ≤ k := by unfold idxs; exact Nat.le_trans (List.length_filter_le _ _) (by simp)
theorem idxs_lt {m k i : Nat} (h : i ∈ idxs m k) : i < k := by unfold idxs at h; simp at h; exact h.1
theorem and1 (n : Nat) (h : n ≤ 9223372036854775807) : bits .and .i64 (n : Int) 1 = ((n % 2 : Nat) : Int) := by
  have h1 : ((BitVec.ofInt 64 (n : Int)) &&& (1#64)).toNat = n % 2 := by
    rw [BitVec.toNat_and, show (1#64).toNat = 2 ^ 1 - 1 from rfl, Nat.and_two_pow_sub_one_eq_mod, BitVec.toNat_ofInt]
    omega
  show IntKind.i64.wrap _ = _
  have h2 : (BitVec.ofInt IntKind.i64.bits (n : Int) &&& BitVec.ofInt IntKind.i64.bits 1).toNat = n % 2 := h1
  rw [h2, IntWalk.i64_in _ (by omega)]
theorem cell_at_new (w : World) {b : Nat} (news : List Value) (T : TypeId) (hb : b = w.heap.size) : ∀ j u, news[j]? = some u → (w.alloc (.cells news.toArray T)).cell? ((⟨b, 0, none⟩ : Addr).add j) = some u := by
  subst hb; exact cell_new_list w news T
theorem ask_more {m k : Nat} {w wr w3 : World} {v v3 : Value} {S S3 : Nat → Prop} {o1 o2 : Obj} (hS : SliceAt wr v 128 2 (idxs m k).length ((idxs m k).flatMap partC) S) (hSg : ∀ x, S x → w.heap.size < x ∧ x < wr.heap.size) (hC : Chg Nil w wr) (hb : wr.heap[w.heap.size]? = some (.cells ((List.range 5).flatMap partC).toArray 128 (0, 0)))
    (hi : idxs m (k + 1) = idxs m k ++ [k]) (hs : SliceAt w3 v3 128 2 ((idxs m k).length + 1) ((idxs m k).flatMap partC ++ partC k) S3) (hc : Chg S ((wr.alloc o1).alloc o2) w3) (hg : Grow S S3 ((wr.alloc o1).alloc o2) w3) :
    SliceAt w3 v3 128 2 (idxs m (k + 1)).length ((idxs m (k + 1)).flatMap partC) S3 ∧ (∀ x, S3 x → w.heap.size < x ∧ x < w3.heap.size) ∧ Chg Nil w w3 ∧ w3.heap[w.heap.size]? = some (.cells ((List.range 5).flatMap partC).toArray 128 (0, 0)) := by
  have hz := hC.size
  have hl := lt_of_block hb
  refine ⟨by rw [hi, List.length_append, List.flatMap_append]; simpa using hs, fun x hx => ?_, ((hC.alloc o1).alloc o2).trans hc (fun x hx e => by have := (hSg x e).1; omega), hc.keep (block_alloc_old (block_alloc_old hb _) _) (fun e => by have := (hSg _ e).1; omega)⟩
  have hz3 := hc.size
  simp at hz3
  rcases hg x hx with h | h
  · have := hSg x h; omega
  · simp at h; omega
def RelAsk (m : Nat) (w : World) (v i : Value) (wr : World) : Prop :=
  ∃ (k : Nat) (S : Nat → Prop), k ≤ 5 ∧ i = .int .i64 k ∧ SliceAt wr v 128 2 (idxs m k).length ((idxs m k).flatMap partC) S ∧ (∀ x, S x → w.heap.size < x ∧ x < wr.heap.size) ∧ Chg Nil w wr ∧ wr.heap[w.heap.size]? = some (.cells ((List.range 5).flatMap partC).toArray 128 (0, 0))
set_option maxHeartbeats 4000000 in
set_option maxRecDepth 100000 in
theorem asked_any (m : Nat) (hm : m ≤ 31) (w : World) :
    Calls Tryd.prog 66 #[.int .i64 m] w fun e w' => ∃ v S, e = .returned v ∧ SliceAt w' v 128 2 (idxs m 5).length ((idxs m 5).flatMap partC) S ∧ (∀ x, S x → w.heap.size ≤ x ∧ x < w'.heap.size) ∧ Chg Nil w w' := by
  go_enter Tryd.func66, Tryd.ntmps66
  go_wp2_with fail
  refine (parts_any w).mono ?_
  rintro e w1 ⟨rfl, hw1⟩
  have HW1 := Lib.hid hw1
  clear hw1
  go_wp2_with fail
  go_loopw [3, 8] (fun v i wr => RelAsk m w v i wr) (fun _ i _ => (5 - RowKit.intOf i).toNat)
  case atStart =>
    refine ⟨0, Nil, by omega, rfl, sliceAt_nil _ _ _ _, fun x f => f.elim, ?_, ?_⟩
    · rw [HW1.out]; exact (Chg.refl _ _).alloc _
    · rw [HW1.out]; exact block_alloc w _
  case round =>
    obtain ⟨k, S, hk, rfl, hS, hSg, hC, hb⟩ := hrel
    by_cases hlt : k < 5
    · have hpl : (SliceAt wr (.slice (some ⟨w.heap.size, 0, none⟩) 5 5) 128 2 5 ((List.range 5).flatMap partC) (· = w.heap.size)) := ⟨rfl, .inr ⟨w.heap.size, 0, 5, _, rfl, hb, by omega, by unfold maxLen; omega, by decide, fun j u hj => by simpa using hj, rfl⟩⟩
      have hik : (List.range 5)[k]? = some k := by simp [hlt]
      have c0 := (hpl.elem partC_len hik 0 _ rfl).1
      have c1 := (hpl.elem partC_len hik 1 _ rfl).1
      have gl := (hpl.elem partC_len hik 0 _ rfl).2.2
      simp only [Nat.zero_add, Nat.add_zero] at c0 c1
      have hln := idxs_len m k
      have HS := Lib.hid hS
      have HB := Lib.hid hb
      clear hS hb hpl hik
      have hk5 : k = 0 ∨ k = 1 ∨ k = 2 ∨ k = 3 ∨ k = 4 := by omega
      by_cases hbit : m / 2 ^ k % 2 = 1
      · have HI := Lib.hid (idxs_yes hbit)
        rcases hk5 with rfl | rfl | rfl | rfl | rfl
        · have hbI : bits .and .i64 (m : Int) 1 = 1 := by have h9 := and1 (m) (by omega); simp at hbit h9 ⊢; rw [h9]; omega
          obtain ⟨va, vc, rfl⟩ := HS.out.shape
          clear hbit
          go_wp2_with (at_builtin; go_loud (refine wpList_appendS (n := (idxs m 0).length) (m := 1) rfl _ _ 124 rfl Tryd.underlying124 info_part rfl (by decide) rfl ((HS.out.keep ((Chg.refl Nil _).alloc _) (fun _ _ f => f)).keep ((Chg.refl Nil _).alloc _) (fun _ _ f => f)) rfl (partC 0) rfl (cell_at_new (wr.alloc (.cells (partC 0).toArray 128)) (partC 0) _ (by simp)) (partC_one 0) (by unfold maxLen; omega) (by omega) ?_); intro v3 w3 S3 hs3 hc3 hg3; obtain ⟨a3, cap3, rfl⟩ := hs3.shape)
          have HR := Lib.hid (ask_more HS.out hSg hC HB.out HI.out hs3 hc3 hg3)
          clear hs3 hc3 hg3
          go_roundw
          case rel => exact ⟨0 + 1, S3, by omega, rfl, HR.out⟩
          case measure => simp [RowKit.intOf]
        · have hbI : bits .and .i64 ((m : Int) / 2) 1 = 1 := by have h9 := and1 (m / 2) (by omega); simp at hbit h9 ⊢; rw [h9]; omega
          obtain ⟨va, vc, rfl⟩ := HS.out.shape
          clear hbit
          go_wp2_with (at_builtin; go_loud (refine wpList_appendS (n := (idxs m 1).length) (m := 1) rfl _ _ 124 rfl Tryd.underlying124 info_part rfl (by decide) rfl ((HS.out.keep ((Chg.refl Nil _).alloc _) (fun _ _ f => f)).keep ((Chg.refl Nil _).alloc _) (fun _ _ f => f)) rfl (partC 1) rfl (cell_at_new (wr.alloc (.cells (partC 1).toArray 128)) (partC 1) _ (by simp)) (partC_one 1) (by unfold maxLen; omega) (by omega) ?_); intro v3 w3 S3 hs3 hc3 hg3; obtain ⟨a3, cap3, rfl⟩ := hs3.shape)
          have HR := Lib.hid (ask_more HS.out hSg hC HB.out HI.out hs3 hc3 hg3)
          clear hs3 hc3 hg3
          go_roundw
          case rel => exact ⟨1 + 1, S3, by omega, rfl, HR.out⟩
          case measure => simp [RowKit.intOf]
        · have hbI : bits .and .i64 ((m : Int) / 4) 1 = 1 := by have h9 := and1 (m / 4) (by omega); simp at hbit h9 ⊢; rw [h9]; omega
          obtain ⟨va, vc, rfl⟩ := HS.out.shape
          clear hbit
          go_wp2_with (at_builtin; go_loud (refine wpList_appendS (n := (idxs m 2).length) (m := 1) rfl _ _ 124 rfl Tryd.underlying124 info_part rfl (by decide) rfl ((HS.out.keep ((Chg.refl Nil _).alloc _) (fun _ _ f => f)).keep ((Chg.refl Nil _).alloc _) (fun _ _ f => f)) rfl (partC 2) rfl (cell_at_new (wr.alloc (.cells (partC 2).toArray 128)) (partC 2) _ (by simp)) (partC_one 2) (by unfold maxLen; omega) (by omega) ?_); intro v3 w3 S3 hs3 hc3 hg3; obtain ⟨a3, cap3, rfl⟩ := hs3.shape)
          have HR := Lib.hid (ask_more HS.out hSg hC HB.out HI.out hs3 hc3 hg3)
          clear hs3 hc3 hg3
          go_roundw
          case rel => exact ⟨2 + 1, S3, by omega, rfl, HR.out⟩
          case measure => simp [RowKit.intOf]
        · have hbI : bits .and .i64 ((m : Int) / 8) 1 = 1 := by have h9 := and1 (m / 8) (by omega); simp at hbit h9 ⊢; rw [h9]; omega
          obtain ⟨va, vc, rfl⟩ := HS.out.shape
          clear hbit
          go_wp2_with (at_builtin; go_loud (refine wpList_appendS (n := (idxs m 3).length) (m := 1) rfl _ _ 124 rfl Tryd.underlying124 info_part rfl (by decide) rfl ((HS.out.keep ((Chg.refl Nil _).alloc _) (fun _ _ f => f)).keep ((Chg.refl Nil _).alloc _) (fun _ _ f => f)) rfl (partC 3) rfl (cell_at_new (wr.alloc (.cells (partC 3).toArray 128)) (partC 3) _ (by simp)) (partC_one 3) (by unfold maxLen; omega) (by omega) ?_); intro v3 w3 S3 hs3 hc3 hg3; obtain ⟨a3, cap3, rfl⟩ := hs3.shape)
          have HR := Lib.hid (ask_more HS.out hSg hC HB.out HI.out hs3 hc3 hg3)
          clear hs3 hc3 hg3
          go_roundw
          case rel => exact ⟨3 + 1, S3, by omega, rfl, HR.out⟩
          case measure => simp [RowKit.intOf]
        · have hbI : bits .and .i64 ((m : Int) / 16) 1 = 1 := by have h9 := and1 (m / 16) (by omega); simp at hbit h9 ⊢; rw [h9]; omega
          obtain ⟨va, vc, rfl⟩ := HS.out.shape
          clear hbit
          go_wp2_with (at_builtin; go_loud (refine wpList_appendS (n := (idxs m 4).length) (m := 1) rfl _ _ 124 rfl Tryd.underlying124 info_part rfl (by decide) rfl ((HS.out.keep ((Chg.refl Nil _).alloc _) (fun _ _ f => f)).keep ((Chg.refl Nil _).alloc _) (fun _ _ f => f)) rfl (partC 4) rfl (cell_at_new (wr.alloc (.cells (partC 4).toArray 128)) (partC 4) _ (by simp)) (partC_one 4) (by unfold maxLen; omega) (by omega) ?_); intro v3 w3 S3 hs3 hc3 hg3; obtain ⟨a3, cap3, rfl⟩ := hs3.shape)
          have HR := Lib.hid (ask_more HS.out hSg hC HB.out HI.out hs3 hc3 hg3)
          clear hs3 hc3 hg3
          go_roundw
          case rel => exact ⟨4 + 1, S3, by omega, rfl, HR.out⟩
          case measure => simp [RowKit.intOf]
      · have HI := Lib.hid (idxs_no hbit)
        rcases hk5 with rfl | rfl | rfl | rfl | rfl
        · have hbI : bits .and .i64 (m : Int) 1 = 0 := by have h9 := and1 (m) (by omega); simp at hbit h9 ⊢; rw [h9]; omega
          clear hbit
          go_wp2_with fail
          go_roundw
          case rel => exact ⟨0 + 1, S, by omega, rfl, by rw [HI.out]; exact HS.out.keep ((Chg.refl Nil _).alloc _) (fun _ _ f => f), fun x hx => by have := hSg x hx; simp; omega, hC.alloc _, block_alloc_old HB.out _⟩
          case measure => simp [RowKit.intOf]
        · have hbI : bits .and .i64 ((m : Int) / 2) 1 = 0 := by have h9 := and1 (m / 2) (by omega); simp at hbit h9 ⊢; rw [h9]; omega
          clear hbit
          go_wp2_with fail
          go_roundw
          case rel => exact ⟨1 + 1, S, by omega, rfl, by rw [HI.out]; exact HS.out.keep ((Chg.refl Nil _).alloc _) (fun _ _ f => f), fun x hx => by have := hSg x hx; simp; omega, hC.alloc _, block_alloc_old HB.out _⟩
          case measure => simp [RowKit.intOf]
        · have hbI : bits .and .i64 ((m : Int) / 4) 1 = 0 := by have h9 := and1 (m / 4) (by omega); simp at hbit h9 ⊢; rw [h9]; omega
          clear hbit
          go_wp2_with fail
          go_roundw
          case rel => exact ⟨2 + 1, S, by omega, rfl, by rw [HI.out]; exact HS.out.keep ((Chg.refl Nil _).alloc _) (fun _ _ f => f), fun x hx => by have := hSg x hx; simp; omega, hC.alloc _, block_alloc_old HB.out _⟩
          case measure => simp [RowKit.intOf]
        · have hbI : bits .and .i64 ((m : Int) / 8) 1 = 0 := by have h9 := and1 (m / 8) (by omega); simp at hbit h9 ⊢; rw [h9]; omega
          clear hbit
          go_wp2_with fail
          go_roundw
          case rel => exact ⟨3 + 1, S, by omega, rfl, by rw [HI.out]; exact HS.out.keep ((Chg.refl Nil _).alloc _) (fun _ _ f => f), fun x hx => by have := hSg x hx; simp; omega, hC.alloc _, block_alloc_old HB.out _⟩
          case measure => simp [RowKit.intOf]
        · have hbI : bits .and .i64 ((m : Int) / 16) 1 = 0 := by have h9 := and1 (m / 16) (by omega); simp at hbit h9 ⊢; rw [h9]; omega
          clear hbit
          go_wp2_with fail
          go_roundw
          case rel => exact ⟨4 + 1, S, by omega, rfl, by rw [HI.out]; exact HS.out.keep ((Chg.refl Nil _).alloc _) (fun _ _ f => f), fun x hx => by have := hSg x hx; simp; omega, hC.alloc _, block_alloc_old HB.out _⟩
          case measure => simp [RowKit.intOf]
    · obtain rfl : k = 5 := by omega
      have HS := Lib.hid hS
      have HC := Lib.hid hC
      have HB := Lib.hid hb
      clear hS hC hb
      obtain ⟨va, vc, rfl⟩ := HS.out.shape
      go_wp2_with fail
      go_ret
      exact ⟨_, _, rfl, HS.out, fun x hx => ⟨Nat.le_of_lt (hSg x hx).1, (hSg x hx).2⟩, HC.out⟩
end Go.Proofs.YtdhegblgghembaaDoor
