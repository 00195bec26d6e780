/- tree: contracts by what is owned (printed by walk.py). -/
import Derived.Test.YtofhnglgebllbaaDoorTrE
import Derived.Test.YtofhnglgebllbaaDoorOp13
namespace Go.Proofs.YtofhnglgebllbaaDoor
open Go.RowKit
set_option linter.unusedVariables false
set_option linter.unusedSimpArgs false
set_option linter.unnecessarySimpa false
set_option maxRecDepth 100000
set_option maxHeartbeats 1000000 in
theorem rooted_spec {B : Nat} (ad : Nat → Addr)  : Spec Tryd.prog 15 #[] [rEnvA B ad] (fun u L => u = .bool true ∧ L = [rEnvA B ad]) := by
  refine spec_of (#[undef, undef, undef, undef, undef, undef, undef, undef, undef, undef, undef, undef, undef, undef, undef, undef, undef, undef, undef, undef, undef, undef, undef, undef, undef, undef, undef, undef, undef, undef, undef, undef, undef]) Tryd.func15 rfl (by kernel_rfl) fun E w0 w h => ?_
  have h := h.envSub [10] 0 rfl (by decide)
  have h := h.envSub [4] 1 rfl (by decide)
  refine c_seq ?_
  refine c_reg ?_
  refine sq_p (.bool false) rfl (fun _ => by kernel_rfl) ?_
  refine lnil ?_
  refine thn_n ?_
  refine c_seq ?_
  refine c_reg ?_
  refine sq_call #[.int .i64 3] [1] rfl (treeNewL_spec ad 3 (by decide) (by decide)) (fun _ => by kernel_rfl) h ?_; rintro v_ L_ w ⟨b, tb, dm, pm, vl, vg, T, Sl, Sg, nb, mb, rfl, rfl⟩ h
  refine sq_p (.tuple #[.pointer (some ⟨b, 0, none⟩), .nilIface]) rfl (fun _ => by kernel_rfl) ?_
  refine sq_p (.pointer (some ⟨b, 0, none⟩)) rfl (fun _ => by kernel_rfl) ?_
  refine sq_p (.nilIface) rfl (fun _ => by kernel_rfl) ?_
  refine sq_p (.pointer (some ⟨b, 0, none⟩)) rfl (fun _ => by kernel_rfl) ?_
  refine sq_p (.nilIface) rfl (fun _ => by kernel_rfl) ?_
  refine lnil ?_
  refine thn_n ?_
  refine c_seq ?_
  refine c_seq ?_
  refine c_reg ?_
  refine sq_p (.nilIface) rfl (fun _ => by kernel_rfl) ?_
  refine sq_p (.bool false) rfl (fun _ => by kernel_rfl) ?_
  refine sq_p (.bool false) rfl (fun _ => by kernel_rfl) ?_
  refine sq_p (.pointer (some ⟨b, 0, none⟩)) (by kernel_rfl) (fun _ => by kernel_rfl) ?_
  refine sq_p (.bool false) (by kernel_rfl) (fun _ => by kernel_rfl) ?_
  refine sq_p (.bool false) rfl (fun _ => by kernel_rfl) ?_
  refine sq_p (.bool false) rfl (fun _ => by kernel_rfl) ?_
  refine sq_p (.pointer (some ⟨b, 0, none⟩)) (by kernel_rfl) (fun _ => by kernel_rfl) ?_
  refine sq_call #[.pointer (some ⟨b, 0, none⟩)] [0, 0] (by kernel_rfl) (nodesL_spec b 3 tb dm pm vl vg T Sl Sg [keepN (newND nb 2 none) 2 0 2 0 0] (by simp) (by decide)) (fun _ => by kernel_rfl) h ?_; rintro v_ L_ w ⟨rfl, rfl⟩ h
  refine sq_p (.bool false) (by kernel_rfl) (fun _ => by kernel_rfl) ?_
  refine sq_p (.bool false) rfl (fun _ => by kernel_rfl) ?_
  refine lnil ?_
  refine thn_n ?_
  refine c_false (by kernel_rfl) ?_
  refine c_skip ?_
  refine thn_n ?_
  refine c_seq ?_
  refine c_reg ?_
  refine sq_p (.pointer (some ⟨b, 0, none⟩)) rfl (fun _ => by kernel_rfl) ?_
  refine sq_p (.pointer (some ⟨b, 0, none⟩)) rfl (fun _ => by kernel_rfl) ?_
  refine sq_call #[.pointer (some ⟨b, 0, none⟩)] [0] rfl (root_spec b 3 tb dm pm) (fun _ => by kernel_rfl) h ?_; rintro v_ L_ w ⟨rfl, rfl⟩ h
  refine sq_call #[.pointer (some ⟨b, 0, none⟩), .agg #[.int .i64 0, .int .i64 0], .string (⟨#[97]⟩ : ByteArray), .int .i64 1] [0, 0, 0, 0, 0, 0, 0] rfl (createFL_spec ad b 3 tb dm pm vl vg T Sl Sg [keepN (newND nb 2 none) 2 0 2 0 0] [⟨(0, 0), mb, []⟩] (by decide) 0 (keepN (newND nb 2 none) 2 0 2 0 0) rfl 0 ⟨(0, 0), mb, []⟩ rfl rfl (by simp) ⟨#[97]⟩ (by decide) (by decide) (by show 1 < 3; decide) rfl (by show 0 < 60; decide) (by show (0 : Int) ≤ 0 ∧ (0 : Int) ≤ 1000000; decide)) (fun _ => by kernel_rfl) h ?_; rintro v_ L_ w ⟨nb2, db1, rfl, rfl⟩ h
  refine sq_p (.tuple #[.agg #[.int .i64 1, .int .i64 0], .nilIface]) rfl (fun _ => by kernel_rfl) ?_
  refine sq_p (.agg #[.int .i64 1, .int .i64 0]) rfl (fun _ => by kernel_rfl) ?_
  refine sq_p (.nilIface) rfl (fun _ => by kernel_rfl) ?_
  refine sq_new rfl (fun b => .pointer (some ⟨b, 0, none⟩)) [.int .i64 0, .int .i64 0] 29 (fun _ => by kernel_rfl) h ?_; intro k3 w h
  refine sq_st rfl 0 [.int .i64 1, .int .i64 0] [.int .i64 1, .int .i64 0] h 0 rfl (by kernel_rfl) ?_; intro w h
  refine sq_p (.nilIface) rfl (fun _ => by kernel_rfl) ?_
  refine lnil ?_
  refine thn_n ?_
  refine c_seq ?_
  refine c_reg ?_
  refine sq_p (.nilIface) rfl (fun _ => by kernel_rfl) ?_
  refine sq_p (.bool true) rfl (fun _ => by kernel_rfl) ?_
  refine sq_p (.bool true) rfl (fun _ => by kernel_rfl) ?_
  refine sq_q (by kernel_rfl) h (g_ld 0 [.int .i64 1, .int .i64 0] (.agg #[.int .i64 1, .int .i64 0]) (by kernel_rfl) 0 rfl) ?_
  refine sq_p (.agg #[.int .i64 1, .int .i64 0]) (by kernel_rfl) (fun _ => by kernel_rfl) ?_
  obtain ⟨b4, hb4⟩ : ∃ b_ : Bool, b_ = ((decide ((1 : Int) = 1)) && (decide ((0 : Int) = 0))) := ⟨_, rfl⟩
  refine sq_q (v := .bool b4) (by kernel_rfl) h (by subst hb4; exact g_eqH (by kernel_rfl)) ?_
  refine sq_p (.bool b4) rfl (fun _ => by kernel_rfl) ?_
  refine sq_p (.bool b4) rfl (fun _ => by kernel_rfl) ?_
  refine lnil ?_
  refine thn_n ?_
  refine c_ret ?_
  refine ret_end [.bool b4] [8] h (by kernel_rfl) (res_t (by kernel_rfl) res_n) ?_
  refine ⟨?_, rfl⟩
  show Value.bool _ = _
  subst hb4
  rfl
set_option maxHeartbeats 1000000 in
theorem treeFull_spec {B : Nat} (ad : Nat → Addr) (np kp : Int)  : Spec Tryd.prog 3 #[.int .i64 np, .int .i64 kp] [rEnvA B ad] (fun u L => u = .bool true ∧ L = [rEnvA B ad]) := by
  refine spec_of (#[.int .i64 np, .int .i64 kp, undef, undef, undef, undef, undef, undef, undef, undef, undef, undef, undef, undef, undef, undef, undef, undef, undef, undef, undef, undef, undef, undef, undef, undef, undef, undef, undef, undef, undef, undef, undef, undef, undef, undef, undef, undef, undef, undef, undef, undef, undef, undef, undef, undef, undef, undef, undef, undef, undef, undef, undef, undef, undef, undef, undef, undef, undef, undef, undef, undef, undef, undef, undef, undef, undef, undef, undef, undef, undef, undef, undef, undef, undef, undef, undef, undef, undef, undef, undef, undef, undef, undef, undef, undef, undef, undef, undef, undef, undef, undef, undef, undef, undef, undef, undef, undef, undef, undef, undef, undef, undef, undef, undef, undef, undef, undef, undef, undef, undef, undef]) Tryd.func3 rfl (by kernel_rfl) fun E w0 w h => ?_
  have h := h.envSub [10] 0 rfl (by decide)
  have h := h.envSub [4] 1 rfl (by decide)
  have h := h.envSub [9] 2 rfl (by decide)
  refine c_seq ?_
  refine c_reg ?_
  refine sq_p (.bool false) rfl (fun _ => by kernel_rfl) ?_
  refine lnil ?_
  refine thn_n ?_
  refine c_seq ?_
  refine c_reg ?_
  refine sq_call #[] [3] rfl (rooted_spec ad) (fun _ => by kernel_rfl) h ?_; rintro v_ L_ w ⟨rfl, rfl⟩ h
  refine sq_p (.bool true) rfl (fun _ => by kernel_rfl) ?_
  refine lnil ?_
  refine thn_n ?_
  refine c_seq ?_
  refine c_seq ?_
  refine c_reg ?_
  refine sq_p (.bool true) rfl (fun _ => by kernel_rfl) ?_
  refine sq_p (.bool false) rfl (fun _ => by kernel_rfl) ?_
  refine sq_p (.bool false) rfl (fun _ => by kernel_rfl) ?_
  refine sq_p (.int .i64 np) (by kernel_rfl) (fun _ => by kernel_rfl) ?_
  obtain ⟨b1, hb1⟩ : ∃ b_ : Bool, b_ = (decide (np < 0)) := ⟨_, rfl⟩
  refine sq_q (v := .bool b1) (by kernel_rfl) h (by subst hb1; exact g_pure (v := .bool (decide (np < 0))) fun _ => by kernel_rfl) ?_
  refine sq_p (.bool b1) rfl (fun _ => by kernel_rfl) ?_
  refine sq_p (.bool b1) rfl (fun _ => by kernel_rfl) ?_
  refine sq_m0 (v := .int .i64 np) b1 (by cases b1 <;> kernel_rfl) h (fun hB => by subst hB; exact g_pure (v := .int .i64 np) fun _ => by kernel_rfl) ?_
  obtain ⟨b2, hb2⟩ : ∃ b_ : Bool, b_ = (decide (np > 65)) := ⟨_, rfl⟩
  refine sq_m0 (v := .bool b2) b1 (by cases b1 <;> kernel_rfl) h (fun hB => by subst hB; exact by subst hb2; exact g_pure (v := .bool (decide (np > 65))) fun _ => by kernel_rfl) ?_
  obtain ⟨b3, hb3⟩ : ∃ b_ : Bool, b_ = (b1 || b2) := ⟨_, rfl⟩
  refine sq_q (v := .bool b3) rfl h (by subst hb3; exact g_pure (v := .bool (b1 || b2)) fun _ => by cases b1 <;> kernel_rfl) ?_
  refine sq_p (.bool b3) rfl (fun _ => by kernel_rfl) ?_
  refine sq_m0 (v := .int .i64 kp) b3 (by cases b3 <;> kernel_rfl) h (fun hB => by subst hB; exact g_pure (v := .int .i64 kp) fun _ => by kernel_rfl) ?_
  obtain ⟨b4, hb4⟩ : ∃ b_ : Bool, b_ = (decide (kp < 0)) := ⟨_, rfl⟩
  refine sq_m0 (v := .bool b4) b3 (by cases b3 <;> kernel_rfl) h (fun hB => by subst hB; exact by subst hb4; exact g_pure (v := .bool (decide (kp < 0))) fun _ => by kernel_rfl) ?_
  obtain ⟨b5, hb5⟩ : ∃ b_ : Bool, b_ = (b3 || b4) := ⟨_, rfl⟩
  refine sq_q (v := .bool b5) rfl h (by subst hb5; exact g_pure (v := .bool (b3 || b4)) fun _ => by cases b3 <;> kernel_rfl) ?_
  refine sq_p (.bool b5) rfl (fun _ => by kernel_rfl) ?_
  refine sq_m0 (v := .int .i64 kp) b5 (by cases b5 <;> kernel_rfl) h (fun hB => by subst hB; exact g_pure (v := .int .i64 kp) fun _ => by kernel_rfl) ?_
  obtain ⟨b6, hb6⟩ : ∃ b_ : Bool, b_ = (decide (kp > 12)) := ⟨_, rfl⟩
  refine sq_m0 (v := .bool b6) b5 (by cases b5 <;> kernel_rfl) h (fun hB => by subst hB; exact by subst hb6; exact g_pure (v := .bool (decide (kp > 12))) fun _ => by kernel_rfl) ?_
  obtain ⟨b7, hb7⟩ : ∃ b_ : Bool, b_ = (b5 || b6) := ⟨_, rfl⟩
  refine sq_q (v := .bool b7) rfl h (by subst hb7; exact g_pure (v := .bool (b5 || b6)) fun _ => by cases b5 <;> kernel_rfl) ?_
  refine lnil ?_
  refine thn_n ?_
  refine c_cond (b7) (by kernel_rfl) (fun hc8 => ?_) (fun hc8 => ?_)
  · skip
    have q9 : (b5 || b6) = true := by rw [← hb7]; exact hc8
    have q10 : ((((np < 0) ∨ (np > 65)) ∨ (kp < 0)) ∨ (kp > 12)) := by subst hb6; subst hb5; subst hb4; subst hb3; subst hb2; subst hb1; revert q9; first | (simp; done) | (simp; omega)
    refine c_seq ?_
    refine c_reg ?_
    refine sq_p (.bool true) rfl (fun _ => by kernel_rfl) ?_
    refine sq_p (.bool true) rfl (fun _ => by kernel_rfl) ?_
    refine lnil ?_
    refine thn_n ?_
    refine c_ret ?_
    refine thn_r ?_
    refine ret_end [.bool true] [0] h (by kernel_rfl) (res_t (by kernel_rfl) res_n) ?_
    exact ⟨rfl, rfl⟩
  · skip
    have q11 : (b5 || b6) = false := by rw [← hb7]; exact hc8
    have q12 : b5 = false := by revert q11; cases b5 <;> simp
    have q13 : b6 = false := by revert q11; cases b5 <;> cases b6 <;> simp
    have q14 : (b3 || b4) = false := by rw [← hb5]; exact q12
    have q15 : b3 = false := by revert q14; cases b3 <;> simp
    have q16 : b4 = false := by revert q14; cases b3 <;> cases b4 <;> simp
    have q17 : (b1 || b2) = false := by rw [← hb3]; exact q15
    have q18 : b1 = false := by revert q17; cases b1 <;> simp
    have q19 : b2 = false := by revert q17; cases b1 <;> cases b2 <;> simp
    have q20 : (decide (np < 0)) = false := by rw [← hb1]; exact q18
    have q20 := of_decide_eq_false q20
    have q21 : (decide (np > 65)) = false := by rw [← hb2]; exact q19
    have q21 := of_decide_eq_false q21
    have q22 : (decide (kp < 0)) = false := by rw [← hb4]; exact q16
    have q22 := of_decide_eq_false q22
    have q23 : (decide (kp > 12)) = false := by rw [← hb6]; exact q13
    have q23 := of_decide_eq_false q23
    refine c_skip ?_
    refine thn_n ?_
    refine c_seq ?_
    refine c_reg ?_
    refine sq_call #[.int .i64 300] [3] rfl (treeNewL_spec ad 300 (by decide) (by decide)) (fun _ => by kernel_rfl) h ?_; rintro v_ L_ w ⟨b, tb, dm, pm, vl, vg, T, Sl, Sg, nb, mb, rfl, rfl⟩ h
    refine sq_p (.tuple #[.pointer (some ⟨b, 0, none⟩), .nilIface]) rfl (fun _ => by kernel_rfl) ?_
    refine sq_p (.pointer (some ⟨b, 0, none⟩)) rfl (fun _ => by kernel_rfl) ?_
    refine sq_p (.nilIface) rfl (fun _ => by kernel_rfl) ?_
    refine sq_p (.pointer (some ⟨b, 0, none⟩)) rfl (fun _ => by kernel_rfl) ?_
    refine sq_p (.nilIface) rfl (fun _ => by kernel_rfl) ?_
    refine lnil ?_
    refine thn_n ?_
    refine c_seq ?_
    refine c_seq ?_
    refine c_reg ?_
    refine sq_p (.nilIface) rfl (fun _ => by kernel_rfl) ?_
    refine sq_p (.bool false) rfl (fun _ => by kernel_rfl) ?_
    refine sq_p (.bool false) rfl (fun _ => by kernel_rfl) ?_
    refine sq_p (.pointer (some ⟨b, 0, none⟩)) (by kernel_rfl) (fun _ => by kernel_rfl) ?_
    refine sq_p (.bool false) (by kernel_rfl) (fun _ => by kernel_rfl) ?_
    refine sq_p (.bool false) rfl (fun _ => by kernel_rfl) ?_
    refine lnil ?_
    refine thn_n ?_
    refine c_false (by kernel_rfl) ?_
    refine c_skip ?_
    refine thn_n ?_
    refine c_seq ?_
    refine c_seq ?_
    refine c_reg ?_
    refine sq_p (.int .i64 0) rfl (fun _ => by kernel_rfl) ?_
    refine lnil ?_
    refine thn_n ?_
    refine c_block ?_
    refine c_loop (X := Nat × List ND × Ents × (Nat → Value)) (fun ⟨i0, LA, eA, J0⟩ => ⟨#[.int .i64 np, .int .i64 kp, undef, undef, J0 4, .bool true, .pointer (some ⟨b, 0, none⟩), .nilIface, .int .i64 (i0 : Int), J0 9, J0 10, J0 11, undef, undef, undef, undef, undef, .bool true, .bool true, .bool false, .bool false, .int .i64 np, .bool b1, .bool b1, .bool b1, (if b1 = false then .int .i64 np else undef), (if b1 = false then .bool b2 else undef), .bool b3, .bool b3, (if b3 = false then .int .i64 kp else undef), (if b3 = false then .bool b4 else undef), .bool b5, .bool b5, (if b5 = false then .int .i64 kp else undef), (if b5 = false then .bool b6 else undef), .bool b7, undef, .tuple #[.pointer (some ⟨b, 0, none⟩), .nilIface], .tuple #[.pointer (some ⟨b, 0, none⟩), .nilIface], .pointer (some ⟨b, 0, none⟩), .nilIface, .nilIface, .bool false, .bool false, .pointer (some ⟨b, 0, none⟩), .bool false, .bool false, J0 47, J0 48, J0 49, J0 50, J0 51, J0 52, J0 53, J0 54, J0 55, J0 56, J0 57, J0 58, J0 59, J0 60, J0 61, J0 62, J0 63, J0 64, J0 65, J0 66, J0 67, undef, undef, undef, undef, undef, undef, undef, undef, undef, undef, undef, undef, undef, undef, undef, undef, undef, undef, undef, undef, undef, undef, undef, undef, undef, undef, undef, undef, undef, undef, undef, undef, undef, undef, undef, undef, undef, undef, undef, undef, undef, undef, undef, undef], []⟩)
      (fun ⟨i0, LA, eA, J0⟩ => [rCell true b [.pointer (some ⟨tb, 0, none⟩), .int .i64 (300 : Int), .int .i64 0, .int .i64 0, .map (some dm), .map (some pm)] 175, rTab tb (psO 300 LA) (gsO 300 LA) vl vg T Sl Sg, rNds (lO 300 LA), rMap true dm hk ([(⟨(0, 0), mb, eA⟩ : DN)].map dnKV), rDirs [(⟨(0, 0), mb, eA⟩ : DN)], rEnv B ad [10], rEnvA B ad, rEnv B ad [9], rEnv B ad [4]]) (fun ⟨i0, LA, eA, J0⟩ => (i0 : Int) ≤ np ∧ GrowAt i0 LA eA) (fun ⟨i0, LA, eA, J0⟩ => np.toNat - i0)
      ⟨0, [keepN (newND nb 2 none) 2 0 2 0 0], [], (fun n => (#[.int .i64 np, .int .i64 kp, undef, undef, .bool false, .bool true, .pointer (some ⟨b, 0, none⟩), .nilIface, .int .i64 0, undef, undef, undef, undef, undef, undef, undef, undef, .bool true, .bool true, .bool false, .bool false, .int .i64 np, .bool b1, .bool b1, .bool b1, (if b1 = false then .int .i64 np else undef), (if b1 = false then .bool b2 else undef), .bool b3, .bool b3, (if b3 = false then .int .i64 kp else undef), (if b3 = false then .bool b4 else undef), .bool b5, .bool b5, (if b5 = false then .int .i64 kp else undef), (if b5 = false then .bool b6 else undef), .bool b7, undef, .tuple #[.pointer (some ⟨b, 0, none⟩), .nilIface], .tuple #[.pointer (some ⟨b, 0, none⟩), .nilIface], .pointer (some ⟨b, 0, none⟩), .nilIface, .nilIface, .bool false, .bool false, .pointer (some ⟨b, 0, none⟩), .bool false, .bool false, undef, undef, undef, undef, undef, undef, undef, undef, undef, undef, undef, undef, undef, undef, undef, undef, undef, undef, undef, undef, undef, undef, undef, undef, undef, undef, undef, undef, undef, undef, undef, undef, undef, undef, undef, undef, undef, undef, undef, undef, undef, undef, undef, undef, undef, undef, undef, undef, undef, undef, undef, undef, undef, undef, undef, undef, undef, undef, undef, undef, undef, undef, undef, undef, undef] : Array Value).getD n undef)⟩ ⟨by omega, GrowAt.start nb⟩ (by kernel_rfl) [0, 0, 0, 0, 0, 0, 0, 0, 0] (by kernel_rfl) h ?_
    rintro ⟨i0, LA, eA, J0⟩ w hG h
    obtain ⟨hi0, hga⟩ : (i0 : Int) ≤ np ∧ GrowAt i0 LA eA := hG
    refine c_seq ?_
    refine c_seq ?_
    refine c_reg ?_
    refine sq_p (.int .i64 (i0 : Int)) rfl (fun _ => by kernel_rfl) ?_
    refine sq_p (.int .i64 np) rfl (fun _ => by kernel_rfl) ?_
    refine sq_p (.bool (decide ((i0 : Int) < np))) rfl (fun _ => by kernel_rfl) ?_
    refine lnil ?_
    refine thn_n ?_
    refine c_cond (decide ((i0 : Int) < np)) (by kernel_rfl) (fun hc24 => ?_) (fun hc24 => ?_)
    · skip
      have hc24 := of_decide_eq_true hc24
      refine c_skip ?_
      refine thn_n ?_
      refine c_seq ?_
      refine c_block ?_
      refine c_seq ?_
      refine c_reg ?_
      refine sq_p (.pointer (some ⟨b, 0, none⟩)) rfl (fun _ => by kernel_rfl) ?_
      refine sq_p (.pointer (some ⟨b, 0, none⟩)) rfl (fun _ => by kernel_rfl) ?_
      refine sq_call #[.pointer (some ⟨b, 0, none⟩)] [0] rfl (root_spec b 300 tb dm pm) (fun _ => by kernel_rfl) h ?_; rintro v_ L_ w ⟨rfl, rfl⟩ h
      refine sq_p (.int .i64 (i0 : Int)) rfl (fun _ => by kernel_rfl) ?_
      refine sq_call #[.int .i64 (i0 : Int)] [] rfl (decimal_spec (i0 : Int) (by omega) (by omega)) (fun _ => by kernel_rfl) h ?_; rintro v_ L_ w ⟨rfl, rfl⟩ h
      refine sq_q rfl h (g_eq (v' := .string (nmT 102 i0)) (g_cat (by kernel_rfl) (by have := decS_size (i0 : Int); show 1 + _ ≤ _; omega)) (congrArg Value.string (nmT_eq 102 i0))) ?_
      refine sq_call #[.pointer (some ⟨b, 0, none⟩), .agg #[.int .i64 0, .int .i64 0], .string (nmT 102 i0), .int .i64 1] [0, 0, 0, 0, 0, 0, 2, 1] rfl (createGL_spec ad b tb dm pm vl vg T Sl Sg mb i0 LA eA hga (by omega)) (fun _ => by kernel_rfl) h ?_; rintro v_ L_ w (⟨hq25, L29, es30, hg27, rfl, rfl⟩ | ⟨hq26, hg28, rfl, rfl⟩) h
      · skip
        refine sq_p (.tuple #[.agg #[.int .i64 (LA.length : Int), .int .i64 0], .nilIface]) rfl (fun _ => by kernel_rfl) ?_
        refine sq_p (.agg #[.int .i64 (LA.length : Int), .int .i64 0]) rfl (fun _ => by kernel_rfl) ?_
        refine sq_p (.nilIface) rfl (fun _ => by kernel_rfl) ?_
        refine sq_new rfl (fun b => .pointer (some ⟨b, 0, none⟩)) [.int .i64 0, .int .i64 0] 29 (fun _ => by kernel_rfl) h ?_; intro k31 w h
        refine sq_st rfl 0 [.int .i64 (LA.length : Int), .int .i64 0] [.int .i64 (LA.length : Int), .int .i64 0] h 0 rfl (by kernel_rfl) ?_; intro w h
        refine sq_p (.nilIface) rfl (fun _ => by kernel_rfl) ?_
        refine lnil ?_
        refine thn_n ?_
        refine c_seq ?_
        refine c_reg ?_
        refine sq_p (.int .i64 0) rfl (fun _ => by kernel_rfl) ?_
        refine lnil ?_
        refine thn_n ?_
        refine c_seq ?_
        refine c_seq ?_
        refine c_reg ?_
        refine sq_p (.int .i64 (i0 : Int)) rfl (fun _ => by kernel_rfl) ?_
        refine sq_p (.bool (decide ((i0 : Int) ≥ 60))) rfl (fun _ => by kernel_rfl) ?_
        refine lnil ?_
        refine thn_n ?_
        refine c_cond (decide ((i0 : Int) ≥ 60)) (by kernel_rfl) (fun hc32 => ?_) (fun hc32 => ?_)
        · skip
          have hc32 := of_decide_eq_true hc32
          exfalso; omega
        · skip
          have hc32 := of_decide_eq_false hc32
          refine c_skip ?_
          refine thn_n ?_
          refine c_seq ?_
          refine c_reg ?_
          refine sq_p (.nilIface) rfl (fun _ => by kernel_rfl) ?_
          refine sq_p (.int .i64 0) rfl (fun _ => by kernel_rfl) ?_
          refine sq_call #[.nilIface, .int .i64 0] [9] rfl (coded1_spec ad 0 0 (by decide) (by decide)) (fun _ => by kernel_rfl) h ?_; rintro v_ L_ w ⟨rfl, rfl⟩ h
          refine sq_p (.bool false) rfl (fun _ => by kernel_rfl) ?_
          refine lnil ?_
          refine thn_n ?_
          refine c_false (by kernel_rfl) ?_
          refine c_skip ?_
          refine blk_n (thn_n ?_)
          refine c_reg ?_
          refine sq_p (.int .i64 (i0 : Int)) rfl (fun _ => by kernel_rfl) ?_
          refine sq_q rfl h (g_eq (v := .int .i64 (IntKind.i64.wrap ((i0 : Int) + 1))) (v' := .int .i64 ((i0 + 1 : Nat) : Int)) (g_pure fun _ => by kernel_rfl) (wr (by omega))) ?_
          refine sq_p (.int .i64 ((i0 + 1 : Nat) : Int)) rfl (fun _ => by kernel_rfl) ?_
          refine lnil ?_
          refine loop_end (fun j => ⟨(i0 + 1), L29, es30, j⟩) (show (((i0 + 1) : Int) ≤ np ∧ GrowAt (i0 + 1) L29 es30) ∧ (np.toNat - (i0 + 1)) < (np.toNat - i0) from ⟨⟨by omega, hg27⟩, by omega⟩) (by kernel_rfl) [2, 2, 2, 2, 2, 2, 0, 2, 1] (by kernel_rfl) h
      · skip
        refine sq_p (.tuple #[.agg #[.int .i64 0, .int .i64 0], errV ad 9]) rfl (fun _ => by kernel_rfl) ?_
        refine sq_p (.agg #[.int .i64 0, .int .i64 0]) rfl (fun _ => by kernel_rfl) ?_
        refine sq_p (errV ad 9) rfl (fun _ => by kernel_rfl) ?_
        refine sq_new rfl (fun b => .pointer (some ⟨b, 0, none⟩)) [.int .i64 0, .int .i64 0] 29 (fun _ => by kernel_rfl) h ?_; intro k33 w h
        refine sq_st rfl 0 [.int .i64 0, .int .i64 0] [.int .i64 0, .int .i64 0] h 0 rfl (by kernel_rfl) ?_; intro w h
        refine sq_p (errV ad 9) rfl (fun _ => by kernel_rfl) ?_
        refine lnil ?_
        refine thn_n ?_
        refine c_seq ?_
        refine c_reg ?_
        refine sq_p (.int .i64 0) rfl (fun _ => by kernel_rfl) ?_
        refine lnil ?_
        refine thn_n ?_
        refine c_seq ?_
        refine c_seq ?_
        refine c_reg ?_
        refine sq_p (.int .i64 (i0 : Int)) rfl (fun _ => by kernel_rfl) ?_
        refine sq_p (.bool (decide ((i0 : Int) ≥ 60))) rfl (fun _ => by kernel_rfl) ?_
        refine lnil ?_
        refine thn_n ?_
        refine c_cond (decide ((i0 : Int) ≥ 60)) (by kernel_rfl) (fun hc34 => ?_) (fun hc34 => ?_)
        · skip
          have hc34 := of_decide_eq_true hc34
          refine c_reg ?_
          refine sq_p (.int .i64 9) rfl (fun _ => by kernel_rfl) ?_
          refine lnil ?_
          refine thn_n ?_
          refine c_seq ?_
          refine c_reg ?_
          refine sq_p (errV ad 9) rfl (fun _ => by kernel_rfl) ?_
          refine sq_p (.int .i64 9) rfl (fun _ => by kernel_rfl) ?_
          refine sq_call #[errV ad 9, .int .i64 9] [9] rfl (coded1_spec ad 9 9 (by decide) (by decide)) (fun _ => by kernel_rfl) h ?_; rintro v_ L_ w ⟨rfl, rfl⟩ h
          refine sq_p (.bool false) rfl (fun _ => by kernel_rfl) ?_
          refine lnil ?_
          refine thn_n ?_
          refine c_false (by kernel_rfl) ?_
          refine c_skip ?_
          refine blk_n (thn_n ?_)
          refine c_reg ?_
          refine sq_p (.int .i64 (i0 : Int)) rfl (fun _ => by kernel_rfl) ?_
          refine sq_q rfl h (g_eq (v := .int .i64 (IntKind.i64.wrap ((i0 : Int) + 1))) (v' := .int .i64 ((i0 + 1 : Nat) : Int)) (g_pure fun _ => by kernel_rfl) (wr (by omega))) ?_
          refine sq_p (.int .i64 ((i0 + 1 : Nat) : Int)) rfl (fun _ => by kernel_rfl) ?_
          refine lnil ?_
          refine loop_end (fun j => ⟨(i0 + 1), LA, eA, j⟩) (show (((i0 + 1) : Int) ≤ np ∧ GrowAt (i0 + 1) LA eA) ∧ (np.toNat - (i0 + 1)) < (np.toNat - i0) from ⟨⟨by omega, hg28⟩, by omega⟩) (by kernel_rfl) [2, 2, 2, 2, 2, 2, 0, 2, 1] (by kernel_rfl) h
        · skip
          have hc34 := of_decide_eq_false hc34
          exfalso; omega
    · skip
      have hc24 := of_decide_eq_false hc24
      refine c_exit ?_
      refine thn_e (rnd_e (blk_e (thn_n ?_)))
      refine c_seq ?_
      refine c_seq ?_
      refine c_reg ?_
      refine sq_p (.int .i64 np) rfl (fun _ => by kernel_rfl) ?_
      obtain ⟨b35, hb35⟩ : ∃ b_ : Bool, b_ = (decide (np = 0)) := ⟨_, rfl⟩
      refine sq_q (v := .bool b35) rfl h (by subst hb35; exact g_pure (v := .bool (decide (np = 0))) fun _ => by kernel_rfl) ?_
      refine sq_p (.bool b35) rfl (fun _ => by kernel_rfl) ?_
      refine sq_m0 (v := .int .i64 np) b35 (by cases b35 <;> kernel_rfl) h (fun hB => by subst hB; exact g_pure (v := .int .i64 np) fun _ => by kernel_rfl) ?_
      obtain ⟨b36, hb36⟩ : ∃ b_ : Bool, b_ = (decide (np ≥ 60)) := ⟨_, rfl⟩
      refine sq_m0 (v := .bool b36) b35 (by cases b35 <;> kernel_rfl) h (fun hB => by subst hB; exact by subst hb36; exact g_pure (v := .bool (decide (np ≥ 60))) fun _ => by kernel_rfl) ?_
      obtain ⟨b37, hb37⟩ : ∃ b_ : Bool, b_ = (b35 || b36) := ⟨_, rfl⟩
      refine sq_q (v := .bool b37) rfl h (by subst hb37; exact g_pure (v := .bool (b35 || b36)) fun _ => by cases b35 <;> kernel_rfl) ?_
      refine lnil ?_
      refine thn_n ?_
      refine c_cond (b37) (by kernel_rfl) (fun hc38 => ?_) (fun hc38 => ?_)
      · skip
        have q39 : (b35 || b36) = true := by rw [← hb37]; exact hc38
        refine c_seq ?_
        refine c_reg ?_
        refine sq_p (.bool true) rfl (fun _ => by kernel_rfl) ?_
        refine lnil ?_
        refine thn_n ?_
        refine c_ret ?_
        refine thn_r ?_
        refine ret_end [.bool true] [6] h (by kernel_rfl) (res_t (by kernel_rfl) res_n) ?_
        exact ⟨rfl, rfl⟩
      · skip
        have q40 : (b35 || b36) = false := by rw [← hb37]; exact hc38
        have q41 : b35 = false := by revert q40; cases b35 <;> simp
        have q42 : b36 = false := by revert q40; cases b35 <;> cases b36 <;> simp
        have q43 : (decide (np = 0)) = false := by rw [← hb35]; exact q41
        have q43 := of_decide_eq_false q43
        have q44 : (decide (np ≥ 60)) = false := by rw [← hb36]; exact q42
        have q44 := of_decide_eq_false q44
        refine c_skip ?_
        refine thn_n ?_
        refine c_seq ?_
        refine c_reg ?_
        refine sq_p (.pointer (some ⟨b, 0, none⟩)) rfl (fun _ => by kernel_rfl) ?_
        refine sq_p (.pointer (some ⟨b, 0, none⟩)) rfl (fun _ => by kernel_rfl) ?_
        refine sq_call #[.pointer (some ⟨b, 0, none⟩)] [0] rfl (root_spec b 300 tb dm pm) (fun _ => by kernel_rfl) h ?_; rintro v_ L_ w ⟨rfl, rfl⟩ h
        refine sq_call #[.pointer (some ⟨b, 0, none⟩), .agg #[.int .i64 0, .int .i64 0], .string (⟨#[100]⟩ : ByteArray), .int .i64 2] [0, 0, 0, 0, 0, 0, 2] rfl (createDG_spec ad b tb dm pm vl vg T Sl Sg mb i0 LA eA hga (by omega) (by omega)) (fun _ => by kernel_rfl) h ?_; rintro v_ L_ w ⟨L45, es46, mb2, hg47, hx48, ⟨R49, hR50⟩, rfl, rfl⟩ h
        refine sq_p (.tuple #[.agg #[.int .i64 ((i0 + 1 : Nat) : Int), .int .i64 0], .nilIface]) rfl (fun _ => by kernel_rfl) ?_
        refine sq_p (.agg #[.int .i64 ((i0 + 1 : Nat) : Int), .int .i64 0]) rfl (fun _ => by kernel_rfl) ?_
        refine sq_p (.nilIface) rfl (fun _ => by kernel_rfl) ?_
        refine sq_new rfl (fun b => .pointer (some ⟨b, 0, none⟩)) [.int .i64 0, .int .i64 0] 29 (fun _ => by kernel_rfl) h ?_; intro k51 w h
        refine sq_st rfl 0 [.int .i64 ((i0 + 1 : Nat) : Int), .int .i64 0] [.int .i64 ((i0 + 1 : Nat) : Int), .int .i64 0] h 0 rfl (by kernel_rfl) ?_; intro w h
        refine sq_p (.nilIface) rfl (fun _ => by kernel_rfl) ?_
        refine lnil ?_
        refine thn_n ?_
        refine c_seq ?_
        refine c_reg ?_
        refine sq_p (.pointer (some ⟨b, 0, none⟩)) rfl (fun _ => by kernel_rfl) ?_
        refine sq_p (.pointer (some ⟨b, 0, none⟩)) rfl (fun _ => by kernel_rfl) ?_
        refine sq_call #[.pointer (some ⟨b, 0, none⟩)] [1] rfl (root_spec b 300 tb dm pm) (fun _ => by kernel_rfl) h ?_; rintro v_ L_ w ⟨rfl, rfl⟩ h
        refine sq_call #[.pointer (some ⟨b, 0, none⟩), .agg #[.int .i64 0, .int .i64 0], .string (⟨#[102, 48]⟩ : ByteArray)] [0, 1, 1, 1, 1, 1, 1] rfl (lookupG_spec ad b tb dm pm vl vg T Sl Sg mb mb2 i0 L45 es46 [] R49 hR50 hg47.len (by omega) hx48) (fun _ => by kernel_rfl) h ?_; rintro v_ L_ w ⟨rfl, rfl⟩ h
        refine sq_p (.tuple #[.agg #[.int .i64 1, .int .i64 0], .nilIface]) rfl (fun _ => by kernel_rfl) ?_
        refine sq_p (.agg #[.int .i64 1, .int .i64 0]) rfl (fun _ => by kernel_rfl) ?_
        refine sq_p (.nilIface) rfl (fun _ => by kernel_rfl) ?_
        refine sq_new rfl (fun b => .pointer (some ⟨b, 0, none⟩)) [.int .i64 0, .int .i64 0] 29 (fun _ => by kernel_rfl) h ?_; intro k52 w h
        refine sq_st rfl 0 [.int .i64 1, .int .i64 0] [.int .i64 1, .int .i64 0] h 0 rfl (by kernel_rfl) ?_; intro w h
        refine sq_p (.nilIface) rfl (fun _ => by kernel_rfl) ?_
        refine lnil ?_
        refine thn_n ?_
        refine c_seq ?_
        refine c_seq ?_
        refine c_reg ?_
        refine sq_p (.nilIface) rfl (fun _ => by kernel_rfl) ?_
        refine sq_p (.bool false) rfl (fun _ => by kernel_rfl) ?_
        refine sq_p (.bool false) rfl (fun _ => by kernel_rfl) ?_
        refine sq_p (.nilIface) (by kernel_rfl) (fun _ => by kernel_rfl) ?_
        refine sq_p (.bool false) (by kernel_rfl) (fun _ => by kernel_rfl) ?_
        refine sq_p (.bool false) rfl (fun _ => by kernel_rfl) ?_
        refine lnil ?_
        refine thn_n ?_
        refine c_false (by kernel_rfl) ?_
        refine c_skip ?_
        refine thn_n ?_
        refine c_seq ?_
        refine c_seq ?_
        refine c_reg ?_
        refine sq_p (.int .i64 0) rfl (fun _ => by kernel_rfl) ?_
        refine lnil ?_
        refine thn_n ?_
        refine c_block ?_
        refine c_loop (X := Nat × List ND × Ents × (Nat → Value)) (fun ⟨i3, LB, eB, J1⟩ => ⟨#[.int .i64 np, .int .i64 kp, undef, undef, J1 4, .bool true, .pointer (some ⟨b, 0, none⟩), .nilIface, .int .i64 (i0 : Int), J0 9, J0 10, J0 11, .pointer (some ⟨k51, 0, none⟩), .pointer (some ⟨k52, 0, none⟩), .nilIface, .int .i64 (i3 : Int), J1 16, .bool true, .bool true, .bool false, .bool false, .int .i64 np, .bool b1, .bool b1, .bool b1, (if b1 = false then .int .i64 np else undef), (if b1 = false then .bool b2 else undef), .bool b3, .bool b3, (if b3 = false then .int .i64 kp else undef), (if b3 = false then .bool b4 else undef), .bool b5, .bool b5, (if b5 = false then .int .i64 kp else undef), (if b5 = false then .bool b6 else undef), .bool b7, undef, .tuple #[.pointer (some ⟨b, 0, none⟩), .nilIface], .tuple #[.pointer (some ⟨b, 0, none⟩), .nilIface], .pointer (some ⟨b, 0, none⟩), .nilIface, .nilIface, .bool false, .bool false, .pointer (some ⟨b, 0, none⟩), .bool false, .bool false, .int .i64 (i0 : Int), .int .i64 np, .bool (decide ((i0 : Int) < np)), J0 50, J0 51, J0 52, J0 53, J0 54, J0 55, J0 56, J0 57, J0 58, J0 59, J0 60, J0 61, J0 62, J0 63, J0 64, J0 65, J0 66, J0 67, .int .i64 np, .bool b35, .bool b35, (if b35 = false then .int .i64 np else undef), (if b35 = false then .bool b36 else undef), .bool b37, .tuple #[.agg #[.int .i64 ((i0 + 1 : Nat) : Int), .int .i64 0], .nilIface], .pointer (some ⟨b, 0, none⟩), .pointer (some ⟨b, 0, none⟩), .agg #[.int .i64 0, .int .i64 0], .tuple #[.agg #[.int .i64 ((i0 + 1 : Nat) : Int), .int .i64 0], .nilIface], .agg #[.int .i64 ((i0 + 1 : Nat) : Int), .int .i64 0], .nilIface, .tuple #[.agg #[.int .i64 1, .int .i64 0], .nilIface], .pointer (some ⟨b, 0, none⟩), .pointer (some ⟨b, 0, none⟩), .agg #[.int .i64 0, .int .i64 0], .tuple #[.agg #[.int .i64 1, .int .i64 0], .nilIface], .agg #[.int .i64 1, .int .i64 0], .nilIface, .nilIface, .bool false, .bool false, .nilIface, .bool false, .bool false, J1 94, J1 95, J1 96, J1 97, J1 98, J1 99, J1 100, J1 101, J1 102, J1 103, J1 104, J1 105, J1 106, J1 107, J1 108, J1 109, J1 110, J1 111], []⟩)
          (fun ⟨i3, LB, eB, J1⟩ => [rCell true k52 [.int .i64 1, .int .i64 0] 29, rCell true b [.pointer (some ⟨tb, 0, none⟩), .int .i64 (300 : Int), .int .i64 0, .int .i64 0, .map (some dm), .map (some pm)] 175, rTab tb (psO 300 LB) (gsO 300 LB) vl vg T Sl Sg, rNds (lO 300 LB), rMap true dm hk ([(⟨(0, 0), mb, es46⟩ : DN), ⟨(((i0 + 1 : Nat) : Int), 0), mb2, eB⟩].map dnKV), rDirs [(⟨(0, 0), mb, es46⟩ : DN), ⟨(((i0 + 1 : Nat) : Int), 0), mb2, eB⟩], rEnv B ad [10], rEnv B ad [4], rCell true k51 [.int .i64 ((i0 + 1 : Nat) : Int), .int .i64 0] 29, rEnvA B ad, rEnv B ad [9]]) (fun ⟨i3, LB, eB, J1⟩ => (i3 : Int) ≤ kp ∧ LinkAt i0 i3 LB eB) (fun ⟨i3, LB, eB, J1⟩ => kp.toNat - i3)
          ⟨0, L45, [], (fun n => (#[.int .i64 np, .int .i64 kp, undef, undef, J0 4, .bool true, .pointer (some ⟨b, 0, none⟩), .nilIface, .int .i64 (i0 : Int), J0 9, J0 10, J0 11, .pointer (some ⟨k51, 0, none⟩), .pointer (some ⟨k52, 0, none⟩), .nilIface, .int .i64 0, undef, .bool true, .bool true, .bool false, .bool false, .int .i64 np, .bool b1, .bool b1, .bool b1, (if b1 = false then .int .i64 np else undef), (if b1 = false then .bool b2 else undef), .bool b3, .bool b3, (if b3 = false then .int .i64 kp else undef), (if b3 = false then .bool b4 else undef), .bool b5, .bool b5, (if b5 = false then .int .i64 kp else undef), (if b5 = false then .bool b6 else undef), .bool b7, undef, .tuple #[.pointer (some ⟨b, 0, none⟩), .nilIface], .tuple #[.pointer (some ⟨b, 0, none⟩), .nilIface], .pointer (some ⟨b, 0, none⟩), .nilIface, .nilIface, .bool false, .bool false, .pointer (some ⟨b, 0, none⟩), .bool false, .bool false, .int .i64 (i0 : Int), .int .i64 np, .bool (decide ((i0 : Int) < np)), J0 50, J0 51, J0 52, J0 53, J0 54, J0 55, J0 56, J0 57, J0 58, J0 59, J0 60, J0 61, J0 62, J0 63, J0 64, J0 65, J0 66, J0 67, .int .i64 np, .bool b35, .bool b35, (if b35 = false then .int .i64 np else undef), (if b35 = false then .bool b36 else undef), .bool b37, .tuple #[.agg #[.int .i64 ((i0 + 1 : Nat) : Int), .int .i64 0], .nilIface], .pointer (some ⟨b, 0, none⟩), .pointer (some ⟨b, 0, none⟩), .agg #[.int .i64 0, .int .i64 0], .tuple #[.agg #[.int .i64 ((i0 + 1 : Nat) : Int), .int .i64 0], .nilIface], .agg #[.int .i64 ((i0 + 1 : Nat) : Int), .int .i64 0], .nilIface, .tuple #[.agg #[.int .i64 1, .int .i64 0], .nilIface], .pointer (some ⟨b, 0, none⟩), .pointer (some ⟨b, 0, none⟩), .agg #[.int .i64 0, .int .i64 0], .tuple #[.agg #[.int .i64 1, .int .i64 0], .nilIface], .agg #[.int .i64 1, .int .i64 0], .nilIface, .nilIface, .bool false, .bool false, .nilIface, .bool false, .bool false, undef, undef, undef, undef, undef, undef, undef, undef, undef, undef, undef, undef, undef, undef, undef, undef, undef, undef] : Array Value).getD n undef)⟩ ⟨by omega, by assumption⟩ (by kernel_rfl) [0, 0, 0, 0, 0, 0, 0, 0, 0, 0, 0] (by kernel_rfl) h ?_
        rintro ⟨i3, LB, eB, J1⟩ w hG h
        obtain ⟨hi3, hlk⟩ : (i3 : Int) ≤ kp ∧ LinkAt i0 i3 LB eB := hG
        refine c_seq ?_
        refine c_seq ?_
        refine c_reg ?_
        refine sq_p (.int .i64 (i3 : Int)) rfl (fun _ => by kernel_rfl) ?_
        refine sq_p (.int .i64 kp) rfl (fun _ => by kernel_rfl) ?_
        refine sq_p (.bool (decide ((i3 : Int) < kp))) rfl (fun _ => by kernel_rfl) ?_
        refine lnil ?_
        refine thn_n ?_
        refine c_cond (decide ((i3 : Int) < kp)) (by kernel_rfl) (fun hc53 => ?_) (fun hc53 => ?_)
        · skip
          have hc53 := of_decide_eq_true hc53
          refine c_skip ?_
          refine thn_n ?_
          refine c_seq ?_
          refine c_block ?_
          refine c_seq ?_
          refine c_reg ?_
          refine sq_p (.int .i64 0) rfl (fun _ => by kernel_rfl) ?_
          refine lnil ?_
          refine thn_n ?_
          refine c_seq ?_
          refine c_seq ?_
          refine c_reg ?_
          refine sq_p (.int .i64 (i3 : Int)) rfl (fun _ => by kernel_rfl) ?_
          refine sq_q rfl h (g_eq (v := .int .i64 (IntKind.i64.wrap ((i3 : Int) + 1))) (v' := .int .i64 ((i3 + 1 : Nat) : Int)) (g_pure fun _ => by kernel_rfl) (wr (by omega))) ?_
          refine sq_p (.bool (decide (((i3 + 1 : Nat) : Int) ≥ 8))) rfl (fun _ => by kernel_rfl) ?_
          refine lnil ?_
          refine thn_n ?_
          refine c_cond (decide (((i3 + 1 : Nat) : Int) ≥ 8)) (by kernel_rfl) (fun hc54 => ?_) (fun hc54 => ?_)
          · skip
            have hc54 := of_decide_eq_true hc54
            refine c_reg ?_
            refine sq_p (.int .i64 9) rfl (fun _ => by kernel_rfl) ?_
            refine lnil ?_
            refine thn_n ?_
            refine c_seq ?_
            refine d_start 10 [0, 7] (by kernel_rfl) h fun w h => ?_
            refine d_take 0 190 [0, 7] rfl (v := .pointer (some ⟨b, 0, none⟩)) (by kernel_rfl) (qp_thn (qp_blk (qp_thn (qp_rnd (qp_blk (qp_thn qp_body)))))) (yq (by kernel_rfl) (g_pure (v := .pointer (some ⟨b, 0, none⟩)) fun _ => by kernel_rfl)) h (by kernel_rfl) ?_
            refine d_take 1 189 [0, 7] rfl (v := .agg #[.int .i64 1, .int .i64 0]) (by kernel_rfl) (qp_thn (qp_blk (qp_thn (qp_rnd (qp_blk (qp_thn qp_body)))))) (yq (by kernel_rfl) (g_ld 0 [.int .i64 1, .int .i64 0] (.agg #[.int .i64 1, .int .i64 0]) (by kernel_rfl) 0 rfl)) h (by kernel_rfl) ?_
            refine d_take 2 187 [0, 7] rfl (v := .agg #[.int .i64 ((i0 + 1 : Nat) : Int), .int .i64 0]) (by kernel_rfl) (qp_thn (qp_blk (qp_thn (qp_rnd (qp_blk (qp_thn qp_body)))))) (yq (by kernel_rfl) (g_ld 0 [.int .i64 ((i0 + 1 : Nat) : Int), .int .i64 0] (.agg #[.int .i64 ((i0 + 1 : Nat) : Int), .int .i64 0]) (by kernel_rfl) 1 rfl)) h (by kernel_rfl) ?_
            refine d_take 3 135 [0, 7] rfl (v := .int .i64 (i3 : Int)) (by kernel_rfl) (qp_thn (qp_blk (qp_thn (qp_rnd (qp_blk (qp_thn qp_body)))))) (yq (by kernel_rfl) (g_pure (v := .int .i64 (i3 : Int)) fun _ => by kernel_rfl)) h (by kernel_rfl) ?_
            refine d_take 7 127 [0, 7] rfl (v := .int .i64 9) (by kernel_rfl) (qp_thn (qp_blk (qp_thn (qp_rnd (qp_blk (qp_thn qp_body)))))) (yq (by kernel_rfl) (g_pure (v := .int .i64 9) fun _ => by kernel_rfl)) h (by kernel_rfl) ?_
            refine d_ready [4] (by kernel_rfl) rfl ?_
            refine ad_call #[.int .i64 (i3 : Int)] [] [0, 7] rfl (by kernel_rfl) (decimal_spec (i3 : Int) (by omega) (by omega)) (fun _ => by kernel_rfl) h ?_ ?_
            · skip
              rintro v_ L_ w ⟨rfl, rfl⟩ h
              refine ⟨by kernel_rfl, ?_⟩
              refine d_take 5 159 [0, 7] rfl (v := .string (nmT 108 i3)) (by kernel_rfl) (qp_thn (qp_blk (qp_thn (qp_rnd (qp_blk (qp_thn qp_body)))))) (yq (by kernel_rfl) (g_eq (v' := .string (nmT 108 i3)) (g_cat (by kernel_rfl) (by have := decS_size (i3 : Int); show 1 + _ ≤ _; omega)) (congrArg Value.string (nmT_eq 108 i3)))) h (by kernel_rfl) ?_
              refine d_ready [6] (by kernel_rfl) rfl ?_
              refine ad_call #[.pointer (some ⟨b, 0, none⟩), .agg #[.int .i64 1, .int .i64 0], .agg #[.int .i64 ((i0 + 1 : Nat) : Int), .int .i64 0], .string (nmT 108 i3)] [1, 1, 1, 1, 1, 1, 1, 3] [8, 8] rfl (by kernel_rfl) (linkGL_spec ad b tb dm pm vl vg T Sl Sg mb mb2 i0 i3 LB es46 eB hlk (by omega) (by omega) (by omega)) (fun _ => by kernel_rfl) h ?_ ?_
              · skip
                rintro v_ L_ w (⟨hq55, L57, es58, hg59, rfl, rfl⟩ | ⟨hq56, hg60, rfl, rfl⟩) h
                · skip
                  refine ⟨by kernel_rfl, ?_⟩
                  exfalso; omega
                · skip
                  refine ⟨by kernel_rfl, ?_⟩
                  refine d_ready [8] (by kernel_rfl) rfl ?_
                  refine ad_call #[errV ad 9, .int .i64 9] [10] [9, 9] rfl (by kernel_rfl) (coded1_spec ad 9 9 (by decide) (by decide)) (fun _ => by kernel_rfl) h ?_ ?_
                  · skip
                    rintro v_ L_ w ⟨rfl, rfl⟩ h
                    refine ⟨by kernel_rfl, ?_⟩
                    refine d_take 9 511 [9, 9] rfl (v := .bool false) (by kernel_rfl) (qp_thn (qp_blk (qp_thn (qp_rnd (qp_blk (qp_thn qp_body)))))) (yq (by kernel_rfl) (g_pure (v := .bool false) fun _ => by kernel_rfl)) h (by kernel_rfl) ?_
                    refine d_done (by kernel_rfl) ?_
                    refine thn_n ?_
                    refine c_false (by kernel_rfl) ?_
                    refine c_skip ?_
                    refine blk_n (thn_n ?_)
                    refine c_reg ?_
                    refine sq_p (.int .i64 (i3 : Int)) rfl (fun _ => by kernel_rfl) ?_
                    refine sq_q rfl h (g_eq (v := .int .i64 (IntKind.i64.wrap ((i3 : Int) + 1))) (v' := .int .i64 ((i3 + 1 : Nat) : Int)) (g_pure fun _ => by kernel_rfl) (wr (by omega))) ?_
                    refine sq_p (.int .i64 ((i3 + 1 : Nat) : Int)) rfl (fun _ => by kernel_rfl) ?_
                    refine lnil ?_
                    refine loop_end (fun j => ⟨(i3 + 1), LB, eB, j⟩) (show (((i3 + 1) : Int) ≤ kp ∧ LinkAt i0 (i3 + 1) LB eB) ∧ (kp.toNat - (i3 + 1)) < (kp.toNat - i3) from ⟨⟨by omega, hg60⟩, by omega⟩) (by kernel_rfl) [9, 1, 1, 1, 1, 1, 1, 1, 2, 0, 0] (by kernel_rfl) h
                  exact ad_nil
              exact ad_nil
            exact ad_nil
          · skip
            have hc54 := of_decide_eq_false hc54
            refine c_skip ?_
            refine thn_n ?_
            refine c_seq ?_
            refine d_start 10 [0, 7] (by kernel_rfl) h fun w h => ?_
            refine d_take 0 190 [0, 7] rfl (v := .pointer (some ⟨b, 0, none⟩)) (by kernel_rfl) (qp_thn (qp_blk (qp_thn (qp_rnd (qp_blk (qp_thn qp_body)))))) (yq (by kernel_rfl) (g_pure (v := .pointer (some ⟨b, 0, none⟩)) fun _ => by kernel_rfl)) h (by kernel_rfl) ?_
            refine d_take 1 189 [0, 7] rfl (v := .agg #[.int .i64 1, .int .i64 0]) (by kernel_rfl) (qp_thn (qp_blk (qp_thn (qp_rnd (qp_blk (qp_thn qp_body)))))) (yq (by kernel_rfl) (g_ld 0 [.int .i64 1, .int .i64 0] (.agg #[.int .i64 1, .int .i64 0]) (by kernel_rfl) 0 rfl)) h (by kernel_rfl) ?_
            refine d_take 2 187 [0, 7] rfl (v := .agg #[.int .i64 ((i0 + 1 : Nat) : Int), .int .i64 0]) (by kernel_rfl) (qp_thn (qp_blk (qp_thn (qp_rnd (qp_blk (qp_thn qp_body)))))) (yq (by kernel_rfl) (g_ld 0 [.int .i64 ((i0 + 1 : Nat) : Int), .int .i64 0] (.agg #[.int .i64 ((i0 + 1 : Nat) : Int), .int .i64 0]) (by kernel_rfl) 1 rfl)) h (by kernel_rfl) ?_
            refine d_take 3 135 [0, 7] rfl (v := .int .i64 (i3 : Int)) (by kernel_rfl) (qp_thn (qp_blk (qp_thn (qp_rnd (qp_blk (qp_thn qp_body)))))) (yq (by kernel_rfl) (g_pure (v := .int .i64 (i3 : Int)) fun _ => by kernel_rfl)) h (by kernel_rfl) ?_
            refine d_take 7 127 [0, 7] rfl (v := .int .i64 0) (by kernel_rfl) (qp_thn (qp_blk (qp_thn (qp_rnd (qp_blk (qp_thn qp_body)))))) (yq (by kernel_rfl) (g_pure (v := .int .i64 0) fun _ => by kernel_rfl)) h (by kernel_rfl) ?_
            refine d_ready [4] (by kernel_rfl) rfl ?_
            refine ad_call #[.int .i64 (i3 : Int)] [] [0, 7] rfl (by kernel_rfl) (decimal_spec (i3 : Int) (by omega) (by omega)) (fun _ => by kernel_rfl) h ?_ ?_
            · skip
              rintro v_ L_ w ⟨rfl, rfl⟩ h
              refine ⟨by kernel_rfl, ?_⟩
              refine d_take 5 159 [0, 7] rfl (v := .string (nmT 108 i3)) (by kernel_rfl) (qp_thn (qp_blk (qp_thn (qp_rnd (qp_blk (qp_thn qp_body)))))) (yq (by kernel_rfl) (g_eq (v' := .string (nmT 108 i3)) (g_cat (by kernel_rfl) (by have := decS_size (i3 : Int); show 1 + _ ≤ _; omega)) (congrArg Value.string (nmT_eq 108 i3)))) h (by kernel_rfl) ?_
              refine d_ready [6] (by kernel_rfl) rfl ?_
              refine ad_call #[.pointer (some ⟨b, 0, none⟩), .agg #[.int .i64 1, .int .i64 0], .agg #[.int .i64 ((i0 + 1 : Nat) : Int), .int .i64 0], .string (nmT 108 i3)] [1, 1, 1, 1, 1, 1, 1, 3] [8, 8] rfl (by kernel_rfl) (linkGL_spec ad b tb dm pm vl vg T Sl Sg mb mb2 i0 i3 LB es46 eB hlk (by omega) (by omega) (by omega)) (fun _ => by kernel_rfl) h ?_ ?_
              · skip
                rintro v_ L_ w (⟨hq61, L63, es64, hg65, rfl, rfl⟩ | ⟨hq62, hg66, rfl, rfl⟩) h
                · skip
                  refine ⟨by kernel_rfl, ?_⟩
                  refine d_ready [8] (by kernel_rfl) rfl ?_
                  refine ad_call #[.nilIface, .int .i64 0] [10] [9, 9] rfl (by kernel_rfl) (coded1_spec ad 0 0 (by decide) (by decide)) (fun _ => by kernel_rfl) h ?_ ?_
                  · skip
                    rintro v_ L_ w ⟨rfl, rfl⟩ h
                    refine ⟨by kernel_rfl, ?_⟩
                    refine d_take 9 511 [9, 9] rfl (v := .bool false) (by kernel_rfl) (qp_thn (qp_blk (qp_thn (qp_rnd (qp_blk (qp_thn qp_body)))))) (yq (by kernel_rfl) (g_pure (v := .bool false) fun _ => by kernel_rfl)) h (by kernel_rfl) ?_
                    refine d_done (by kernel_rfl) ?_
                    refine thn_n ?_
                    refine c_false (by kernel_rfl) ?_
                    refine c_skip ?_
                    refine blk_n (thn_n ?_)
                    refine c_reg ?_
                    refine sq_p (.int .i64 (i3 : Int)) rfl (fun _ => by kernel_rfl) ?_
                    refine sq_q rfl h (g_eq (v := .int .i64 (IntKind.i64.wrap ((i3 : Int) + 1))) (v' := .int .i64 ((i3 + 1 : Nat) : Int)) (g_pure fun _ => by kernel_rfl) (wr (by omega))) ?_
                    refine sq_p (.int .i64 ((i3 + 1 : Nat) : Int)) rfl (fun _ => by kernel_rfl) ?_
                    refine lnil ?_
                    refine loop_end (fun j => ⟨(i3 + 1), L63, es64, j⟩) (show (((i3 + 1) : Int) ≤ kp ∧ LinkAt i0 (i3 + 1) L63 es64) ∧ (kp.toNat - (i3 + 1)) < (kp.toNat - i3) from ⟨⟨by omega, hg65⟩, by omega⟩) (by kernel_rfl) [9, 1, 1, 1, 1, 1, 1, 1, 2, 0, 0] (by kernel_rfl) h
                  exact ad_nil
                · skip
                  refine ⟨by kernel_rfl, ?_⟩
                  exfalso; omega
              exact ad_nil
            exact ad_nil
        · skip
          have hc53 := of_decide_eq_false hc53
          refine c_exit ?_
          refine thn_e (rnd_e (blk_e (thn_n ?_)))
          refine c_seq ?_
          refine c_reg ?_
          refine sq_p (.bool true) rfl (fun _ => by kernel_rfl) ?_
          refine lnil ?_
          refine thn_n ?_
          refine c_ret ?_
          refine ret_end [.bool true] [9] h (by kernel_rfl) (res_t (by kernel_rfl) res_n) ?_
          exact ⟨rfl, rfl⟩

theorem treeFull_any (ad : Nat → Addr) (np kp : Int) (w : World) (he : EnvA w.heap.size ad w) :
    Calls Tryd.prog 3 #[.int .i64 np, .int .i64 kp] w fun e w' => e = .returned (.bool true) ∧ Chg Nil w w' := by
  refine ((treeFull_spec (B := w.heap.size) ad np kp).reads (w := w) rfl ?_).mono ?_
  · intro r hr
    simp only [List.mem_cons, List.mem_nil_iff, or_false] at hr
    subst hr
    exact he
  · rintro e w' ⟨u, L', ⟨rfl, _⟩, he, hc'⟩
    exact ⟨he, hc'⟩

end Go.Proofs.YtofhnglgebllbaaDoor
