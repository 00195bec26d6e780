/- callnew: contracts by what is owned (printed by walk.py). -/
import Derived.Test.YtofhnglgebllbaaDoorNameS
namespace Go.Proofs.YtofhnglgebllbaaDoor
open Go.RowKit
set_option linter.unusedVariables false
set_option linter.unusedSimpArgs false
set_option linter.unnecessarySimpa false
set_option maxRecDepth 100000
set_option maxHeartbeats 1000000 in
theorem newCaller_spec {B : Nat} (ad : Nat → Addr) (s t : ByteArray) (hs : s.size ≤ 9223372036854775807) (ht : t.size ≤ 9223372036854775807) : Spec Tryd.prog 46 #[.string s, .string t] [rEnv B ad [4]] (fun u L => ((nameOk s ∧ nameOk t) ∧ ∃ b, u = .tuple #[.pointer (some ⟨b, 0, none⟩), .nilIface] ∧ L = [rEnv B ad [4]]) ∨ (¬ (nameOk s ∧ nameOk t) ∧ u = .tuple #[.pointer none, errV ad 4] ∧ L = [rEnv B ad [4]])) := by
  refine spec_of (#[.string s, .string t, undef, undef, undef, undef, undef, undef, undef, undef, undef, undef, undef, undef, undef, undef, undef, undef, undef]) Tryd.func46 rfl (by kernel_rfl) fun E w0 w h => ?_
  refine c_seq ?_
  refine c_reg ?_
  refine sq_p (.pointer none) rfl (fun _ => by kernel_rfl) ?_
  refine sq_p (.nilIface) rfl (fun _ => by kernel_rfl) ?_
  refine lnil ?_
  refine thn_n ?_
  refine c_seq ?_
  refine c_seq ?_
  refine c_reg ?_
  refine sq_p (.string s) rfl (fun _ => by kernel_rfl) ?_
  refine sq_call #[.string s] [0] rfl (check_two ad s (by omega)) (fun _ => by kernel_rfl) h ?_; rintro v_ L_ w (⟨hq1, rfl, rfl⟩ | ⟨hq1, rfl, rfl⟩) h
  · skip
    refine sq_p (.bool false) rfl (fun _ => by kernel_rfl) ?_
    refine sq_p (.bool false) rfl (fun _ => by kernel_rfl) ?_
    refine sq_p (.string t) (by kernel_rfl) (fun _ => by kernel_rfl) ?_
    refine sq_call #[.string t] [0] (by kernel_rfl) (check_two ad t (by omega)) (fun _ => by kernel_rfl) h ?_; rintro v_ L_ w (⟨hq2, rfl, rfl⟩ | ⟨hq2, rfl, rfl⟩) h
    · skip
      refine sq_p (.bool false) (by kernel_rfl) (fun _ => by kernel_rfl) ?_
      refine sq_p (.bool false) rfl (fun _ => by kernel_rfl) ?_
      refine lnil ?_
      refine thn_n ?_
      refine c_false (by kernel_rfl) ?_
      refine c_skip ?_
      refine thn_n ?_
      refine c_seq ?_
      refine c_reg ?_
      refine sq_p (.string s) rfl (fun _ => by kernel_rfl) ?_
      refine sq_p (.string t) rfl (fun _ => by kernel_rfl) ?_
      refine sq_p (.agg #[.string s, .string t, .int .i64 0, .string (⟨#[]⟩ : ByteArray)]) rfl (fun _ => by kernel_rfl) ?_
      refine sq_new rfl (fun b => .pointer (some ⟨b, 0, none⟩)) [.string s, .string t, .int .i64 0, .string (⟨#[]⟩ : ByteArray)] 204 (fun _ => by kernel_rfl) h ?_; intro k3 w h
      refine sq_p (.pointer (some ⟨k3, 0, none⟩)) rfl (fun _ => by kernel_rfl) ?_
      refine sq_p (.nilIface) rfl (fun _ => by kernel_rfl) ?_
      refine lnil ?_
      refine thn_n ?_
      refine c_ret ?_
      refine ret_end [.pointer (some ⟨k3, 0, none⟩), .nilIface] [1] h (by kernel_rfl) (res_t (by kernel_rfl) (res_t (by kernel_rfl) res_n)) ?_
      exact .inl ⟨⟨by assumption, by assumption⟩, _, rfl, rfl⟩
    · skip
      refine sq_p (.bool true) (by kernel_rfl) (fun _ => by kernel_rfl) ?_
      refine sq_p (.bool true) rfl (fun _ => by kernel_rfl) ?_
      refine lnil ?_
      refine thn_n ?_
      refine c_true (by kernel_rfl) ?_
      refine c_seq ?_
      refine d_start 3 [0] (by kernel_rfl) h fun w h => ?_
      refine d_take 0 2 [0] rfl (v := errV ad 4) (by kernel_rfl) (qp_thn (qp_thn qp_body)) (yq (by kernel_rfl) (g_ldr (b := gl 4) 0 [errV ad 4] (errV ad 4) (by kernel_rfl) 0 rfl (rdEnv (c := 4) (by decide) rfl))) h (by kernel_rfl) ?_
      refine d_take 1 1 [0] rfl (v := .pointer none) (by kernel_rfl) (qp_thn (qp_thn qp_body)) (yq (by kernel_rfl) (g_pure (v := .pointer none) fun _ => by kernel_rfl)) h (by kernel_rfl) ?_
      refine d_take 2 3 [0] rfl (v := errV ad 4) (by kernel_rfl) (qp_thn (qp_thn qp_body)) (yq (by kernel_rfl) (g_pure (v := errV ad 4) fun _ => by kernel_rfl)) h (by kernel_rfl) ?_
      refine d_done (by kernel_rfl) ?_
      refine thn_n ?_
      refine c_ret ?_
      refine thn_r ?_
      refine ret_end [.pointer none, errV ad 4] [0] h (by kernel_rfl) (res_t (by kernel_rfl) (res_t (by kernel_rfl) res_n)) ?_
      exact .inr ⟨fun hh => hq2 (by first | exact hh.1 | exact hh.2), rfl, rfl⟩
  · skip
    refine sq_p (.bool true) rfl (fun _ => by kernel_rfl) ?_
    refine sq_p (.bool true) rfl (fun _ => by kernel_rfl) ?_
    refine sn (by kernel_rfl) ?_
    refine sn (by kernel_rfl) ?_
    refine sn (by kernel_rfl) ?_
    refine sq_p (.bool true) rfl (fun _ => by kernel_rfl) ?_
    refine lnil ?_
    refine thn_n ?_
    refine c_true (by kernel_rfl) ?_
    refine c_seq ?_
    refine d_start 3 [0] (by kernel_rfl) h fun w h => ?_
    refine d_take 0 2 [0] rfl (v := errV ad 4) (by kernel_rfl) (qp_thn (qp_thn qp_body)) (yq (by kernel_rfl) (g_ldr (b := gl 4) 0 [errV ad 4] (errV ad 4) (by kernel_rfl) 0 rfl (rdEnv (c := 4) (by decide) rfl))) h (by kernel_rfl) ?_
    refine d_take 1 1 [0] rfl (v := .pointer none) (by kernel_rfl) (qp_thn (qp_thn qp_body)) (yq (by kernel_rfl) (g_pure (v := .pointer none) fun _ => by kernel_rfl)) h (by kernel_rfl) ?_
    refine d_take 2 3 [0] rfl (v := errV ad 4) (by kernel_rfl) (qp_thn (qp_thn qp_body)) (yq (by kernel_rfl) (g_pure (v := errV ad 4) fun _ => by kernel_rfl)) h (by kernel_rfl) ?_
    refine d_done (by kernel_rfl) ?_
    refine thn_n ?_
    refine c_ret ?_
    refine thn_r ?_
    refine ret_end [.pointer none, errV ad 4] [0] h (by kernel_rfl) (res_t (by kernel_rfl) (res_t (by kernel_rfl) res_n)) ?_
    exact .inr ⟨fun hh => hq1 (by first | exact hh.1 | exact hh.2), rfl, rfl⟩
set_option maxHeartbeats 1000000 in
theorem leaseNew_spec  : Spec Tryd.prog 69 #[] [] (fun u L => ∃ b, u = .pointer (some ⟨b, 0, none⟩) ∧ L = []) := by
  refine spec_of (#[undef, undef, undef, undef]) Tryd.func69 rfl (by kernel_rfl) fun E w0 w h => ?_
  refine c_seq ?_
  refine c_reg ?_
  refine sq_p (.pointer none) rfl (fun _ => by kernel_rfl) ?_
  refine lnil ?_
  refine thn_n ?_
  refine c_seq ?_
  refine c_reg ?_
  refine sq_newm rfl ik (fun _ => by kernel_rfl) h ?_; intro k1 w h
  refine sq_p (.agg #[.map (some k1), .int .i64 0, .int .i64 0]) rfl (fun _ => by kernel_rfl) ?_
  refine sq_new rfl (fun b => .pointer (some ⟨b, 0, none⟩)) [.map (some k1), .int .i64 0, .int .i64 0] 227 (fun _ => by kernel_rfl) h ?_; intro k2 w h
  refine sq_p (.pointer (some ⟨k2, 0, none⟩)) rfl (fun _ => by kernel_rfl) ?_
  refine lnil ?_
  refine thn_n ?_
  refine c_ret ?_
  refine ret_end [.pointer (some ⟨k2, 0, none⟩)] [] h (by kernel_rfl) (res_t (by kernel_rfl) res_n) ?_
  exact ⟨_, rfl, rfl⟩
set_option maxHeartbeats 1000000 in
theorem serveOf_spec (p : Nat) : Spec Tryd.prog 121 #[.pointer (some ⟨p, 0, none⟩)] [] (fun u L => ∃ b, u = .pointer (some ⟨b, 0, none⟩) ∧ L = []) := by
  refine spec_of (#[.pointer (some ⟨p, 0, none⟩), undef, undef, undef, undef, undef, undef, undef, undef, undef]) Tryd.func121 rfl (by kernel_rfl) fun E w0 w h => ?_
  refine c_seq ?_
  refine c_reg ?_
  refine sq_p (.pointer none) rfl (fun _ => by kernel_rfl) ?_
  refine lnil ?_
  refine thn_n ?_
  refine c_seq ?_
  refine c_reg ?_
  refine sq_p (.pointer (some ⟨p, 0, none⟩)) rfl (fun _ => by kernel_rfl) ?_
  refine sq_call #[] [] rfl (leaseNew_spec) (fun _ => by kernel_rfl) h ?_; rintro v_ L_ w ⟨p1, rfl, rfl⟩ h
  refine sq_newm rfl ik (fun _ => by kernel_rfl) h ?_; intro k2 w h
  refine sq_newm rfl ik (fun _ => by kernel_rfl) h ?_; intro k3 w h
  refine sq_newm rfl ik (fun _ => by kernel_rfl) h ?_; intro k4 w h
  refine sq_p (.agg #[.pointer (some ⟨p, 0, none⟩), .slice none 0 0, .slice none 0 0, .pointer (some ⟨p1, 0, none⟩), .map none, .map (some k2), .map (some k3), .map (some k4), .int .i64 0, .int .i64 0, .nilFunc]) rfl (fun _ => by kernel_rfl) ?_
  refine sq_new rfl (fun b => .pointer (some ⟨b, 0, none⟩)) [.pointer (some ⟨p, 0, none⟩), .slice none 0 0, .slice none 0 0, .pointer (some ⟨p1, 0, none⟩), .map none, .map (some k2), .map (some k3), .map (some k4), .int .i64 0, .int .i64 0, .nilFunc] 304 (fun _ => by kernel_rfl) h ?_; intro k5 w h
  refine sq_p (.pointer (some ⟨k5, 0, none⟩)) rfl (fun _ => by kernel_rfl) ?_
  refine lnil ?_
  refine thn_n ?_
  refine c_ret ?_
  refine ret_end [.pointer (some ⟨k5, 0, none⟩)] [] h (by kernel_rfl) (res_t (by kernel_rfl) res_n) ?_
  exact ⟨_, rfl, rfl⟩
set_option maxHeartbeats 1000000 in
theorem cacheNew_spec {B : Nat} (ad : Nat → Addr) (m : Int) : Spec Tryd.prog 122 #[.int .i64 m] [rEnv B ad [2]] (fun u L => ((1 ≤ m ∧ m ≤ 20) ∧ ∃ b, u = .tuple #[.pointer (some ⟨b, 0, none⟩), .nilIface] ∧ L = [rEnv B ad [2]]) ∨ (¬ (1 ≤ m ∧ m ≤ 20) ∧ u = .tuple #[.pointer none, errV ad 2] ∧ L = [rEnv B ad [2]])) := by
  refine spec_of (#[.int .i64 m, undef, undef, undef, undef, undef, undef, undef, undef, undef, undef, undef, undef, undef, undef]) Tryd.func122 rfl (by kernel_rfl) fun E w0 w h => ?_
  refine c_seq ?_
  refine c_reg ?_
  refine sq_p (.pointer none) rfl (fun _ => by kernel_rfl) ?_
  refine sq_p (.nilIface) rfl (fun _ => by kernel_rfl) ?_
  refine lnil ?_
  refine thn_n ?_
  refine c_seq ?_
  refine c_seq ?_
  refine c_reg ?_
  refine sq_p (.int .i64 m) rfl (fun _ => by kernel_rfl) ?_
  obtain ⟨b1, hb1⟩ : ∃ b_ : Bool, b_ = (decide (m < 1)) := ⟨_, rfl⟩
  refine sq_q (v := .bool b1) rfl h (by subst hb1; exact g_pure (v := .bool (decide (m < 1))) fun _ => by kernel_rfl) ?_
  refine sq_p (.bool b1) rfl (fun _ => by kernel_rfl) ?_
  refine sq_m0 (v := .int .i64 m) b1 (by cases b1 <;> kernel_rfl) h (fun hB => by subst hB; exact g_pure (v := .int .i64 m) fun _ => by kernel_rfl) ?_
  obtain ⟨b2, hb2⟩ : ∃ b_ : Bool, b_ = (decide (m > 20)) := ⟨_, rfl⟩
  refine sq_m0 (v := .bool b2) b1 (by cases b1 <;> kernel_rfl) h (fun hB => by subst hB; exact by subst hb2; exact g_pure (v := .bool (decide (m > 20))) fun _ => by kernel_rfl) ?_
  obtain ⟨b3, hb3⟩ : ∃ b_ : Bool, b_ = (b1 || b2) := ⟨_, rfl⟩
  refine sq_q (v := .bool b3) rfl h (by subst hb3; exact g_pure (v := .bool (b1 || b2)) fun _ => by cases b1 <;> kernel_rfl) ?_
  refine lnil ?_
  refine thn_n ?_
  refine c_cond (b3) (by kernel_rfl) (fun hc4 => ?_) (fun hc4 => ?_)
  · skip
    have q5 : (b1 || b2) = true := by rw [← hb3]; exact hc4
    have q6 : ((m < 1) ∨ (m > 20)) := by subst hb2; subst hb1; revert q5; first | (simp; done) | (simp; omega)
    refine c_seq ?_
    refine d_start 3 [0] (by kernel_rfl) h fun w h => ?_
    refine d_take 0 2 [0] rfl (v := errV ad 2) (by kernel_rfl) (qp_thn (qp_thn qp_body)) (yq (by kernel_rfl) (g_ldr (b := gl 2) 0 [errV ad 2] (errV ad 2) (by kernel_rfl) 0 rfl (rdEnv (c := 2) (by decide) rfl))) h (by kernel_rfl) ?_
    refine d_take 1 1 [0] rfl (v := .pointer none) (by kernel_rfl) (qp_thn (qp_thn qp_body)) (yq (by kernel_rfl) (g_pure (v := .pointer none) fun _ => by kernel_rfl)) h (by kernel_rfl) ?_
    refine d_take 2 3 [0] rfl (v := errV ad 2) (by kernel_rfl) (qp_thn (qp_thn qp_body)) (yq (by kernel_rfl) (g_pure (v := errV ad 2) fun _ => by kernel_rfl)) h (by kernel_rfl) ?_
    refine d_done (by kernel_rfl) ?_
    refine thn_n ?_
    refine c_ret ?_
    refine thn_r ?_
    refine ret_end [.pointer none, errV ad 2] [0] h (by kernel_rfl) (res_t (by kernel_rfl) (res_t (by kernel_rfl) res_n)) ?_
    exact .inr ⟨by subst hb3 hb2 hb1; revert hc4; simp; omega, rfl, rfl⟩
  · skip
    have q7 : (b1 || b2) = false := by rw [← hb3]; exact hc4
    have q8 : b1 = false := by revert q7; cases b1 <;> simp
    have q9 : b2 = false := by revert q7; cases b1 <;> cases b2 <;> simp
    have q10 : (decide (m < 1)) = false := by rw [← hb1]; exact q8
    have q10 := of_decide_eq_false q10
    have q11 : (decide (m > 20)) = false := by rw [← hb2]; exact q9
    have q11 := of_decide_eq_false q11
    refine c_skip ?_
    refine thn_n ?_
    refine c_seq ?_
    refine c_reg ?_
    refine sq_p (.int .i64 m) rfl (fun _ => by kernel_rfl) ?_
    refine sq_newm rfl ik (fun _ => by kernel_rfl) h ?_; intro k12 w h
    refine sq_p (.agg #[.int .i64 m, .map (some k12), .slice none 0 0]) rfl (fun _ => by kernel_rfl) ?_
    refine sq_new rfl (fun b => .pointer (some ⟨b, 0, none⟩)) [.int .i64 m, .map (some k12), .slice none 0 0] 308 (fun _ => by kernel_rfl) h ?_; intro k13 w h
    refine sq_p (.pointer (some ⟨k13, 0, none⟩)) rfl (fun _ => by kernel_rfl) ?_
    refine sq_p (.nilIface) rfl (fun _ => by kernel_rfl) ?_
    refine lnil ?_
    refine thn_n ?_
    refine c_ret ?_
    refine ret_end [.pointer (some ⟨k13, 0, none⟩), .nilIface] [2] h (by kernel_rfl) (res_t (by kernel_rfl) (res_t (by kernel_rfl) res_n)) ?_
    exact .inl ⟨by omega, _, rfl, rfl⟩
set_option maxHeartbeats 1000000 in
theorem newListener_spec {B : Nat} (ad : Nat → Addr) (s : ByteArray) (p : Nat) (m : Int) (hs : s.size ≤ 9223372036854775807) : Spec Tryd.prog 49 #[.string s, .pointer (some ⟨p, 0, none⟩), .int .i64 m] [rEnv B ad [4], rEnv B ad [3], rEnv B ad [2]] (fun u L => (nameOk s ∧ (1 ≤ m ∧ m ≤ 20) ∧ ∃ b, u = .tuple #[.pointer (some ⟨b, 0, none⟩), .nilIface] ∧ L = [rEnv B ad [4], rEnv B ad [3], rEnv B ad [2]]) ∨ (¬ nameOk s ∧ u = .tuple #[.pointer none, errV ad 4] ∧ L = [rEnv B ad [4], rEnv B ad [3], rEnv B ad [2]]) ∨ (nameOk s ∧ ¬ (1 ≤ m ∧ m ≤ 20) ∧ u = .tuple #[.pointer none, errV ad 2] ∧ L = [rEnv B ad [4], rEnv B ad [3], rEnv B ad [2]])) := by
  refine spec_of (#[.string s, .pointer (some ⟨p, 0, none⟩), .int .i64 m, undef, undef, undef, undef, undef, undef, undef, undef, undef, undef, undef, undef, undef, undef, undef, undef, undef, undef, undef, undef, undef, undef, undef, undef, undef, undef, undef, undef, undef]) Tryd.func49 rfl (by kernel_rfl) fun E w0 w h => ?_
  refine c_seq ?_
  refine c_reg ?_
  refine sq_p (.pointer none) rfl (fun _ => by kernel_rfl) ?_
  refine sq_p (.nilIface) rfl (fun _ => by kernel_rfl) ?_
  refine lnil ?_
  refine thn_n ?_
  refine c_seq ?_
  refine c_seq ?_
  refine c_reg ?_
  refine sq_p (.string s) rfl (fun _ => by kernel_rfl) ?_
  refine sq_call #[.string s] [0] rfl (check_two ad s (by omega)) (fun _ => by kernel_rfl) h ?_; rintro v_ L_ w (⟨hq1, rfl, rfl⟩ | ⟨hq1, rfl, rfl⟩) h
  · skip
    refine sq_p (.nilIface) rfl (fun _ => by kernel_rfl) ?_
    refine lnil ?_
    refine thn_n ?_
    refine c_seq ?_
    refine c_reg ?_
    refine sq_p (.nilIface) rfl (fun _ => by kernel_rfl) ?_
    refine sq_p (.bool false) rfl (fun _ => by kernel_rfl) ?_
    refine lnil ?_
    refine thn_n ?_
    refine c_false (by kernel_rfl) ?_
    refine c_skip ?_
    refine thn_n ?_
    refine c_seq ?_
    refine c_seq ?_
    refine c_reg ?_
    refine sq_p (.pointer (some ⟨p, 0, none⟩)) rfl (fun _ => by kernel_rfl) ?_
    refine sq_p (.bool false) rfl (fun _ => by kernel_rfl) ?_
    refine lnil ?_
    refine thn_n ?_
    refine c_false (by kernel_rfl) ?_
    refine c_skip ?_
    refine thn_n ?_
    refine c_seq ?_
    refine c_reg ?_
    refine sq_p (.int .i64 m) rfl (fun _ => by kernel_rfl) ?_
    refine sq_call #[.int .i64 m] [2] rfl (cacheNew_spec ad m) (fun _ => by kernel_rfl) h ?_; rintro v_ L_ w (⟨hq2, p3, rfl, rfl⟩ | ⟨hq2, rfl, rfl⟩) h
    · skip
      refine sq_p (.tuple #[.pointer (some ⟨p3, 0, none⟩), .nilIface]) rfl (fun _ => by kernel_rfl) ?_
      refine sq_p (.pointer (some ⟨p3, 0, none⟩)) rfl (fun _ => by kernel_rfl) ?_
      refine sq_p (.nilIface) rfl (fun _ => by kernel_rfl) ?_
      refine sq_p (.pointer (some ⟨p3, 0, none⟩)) rfl (fun _ => by kernel_rfl) ?_
      refine sq_p (.nilIface) rfl (fun _ => by kernel_rfl) ?_
      refine lnil ?_
      refine thn_n ?_
      refine c_seq ?_
      refine c_seq ?_
      refine c_reg ?_
      refine sq_p (.nilIface) rfl (fun _ => by kernel_rfl) ?_
      refine sq_p (.bool false) rfl (fun _ => by kernel_rfl) ?_
      refine lnil ?_
      refine thn_n ?_
      refine c_false (by kernel_rfl) ?_
      refine c_skip ?_
      refine thn_n ?_
      refine c_seq ?_
      refine c_reg ?_
      refine sq_p (.pointer (some ⟨p3, 0, none⟩)) rfl (fun _ => by kernel_rfl) ?_
      refine sq_p (.string s) rfl (fun _ => by kernel_rfl) ?_
      refine sq_p (.pointer (some ⟨p, 0, none⟩)) rfl (fun _ => by kernel_rfl) ?_
      refine sq_p (.agg #[.pointer (some ⟨p3, 0, none⟩), .string s, .pointer (some ⟨p, 0, none⟩)]) rfl (fun _ => by kernel_rfl) ?_
      refine sq_new rfl (fun b => .pointer (some ⟨b, 0, none⟩)) [.pointer (some ⟨p3, 0, none⟩), .string s, .pointer (some ⟨p, 0, none⟩)] 210 (fun _ => by kernel_rfl) h ?_; intro k4 w h
      refine sq_p (.pointer (some ⟨k4, 0, none⟩)) rfl (fun _ => by kernel_rfl) ?_
      refine sq_p (.nilIface) rfl (fun _ => by kernel_rfl) ?_
      refine lnil ?_
      refine thn_n ?_
      refine c_ret ?_
      refine ret_end [.pointer (some ⟨k4, 0, none⟩), .nilIface] [2, 2, 1] h (by kernel_rfl) (res_t (by kernel_rfl) (res_t (by kernel_rfl) res_n)) ?_
      exact .inl ⟨hq1, hq2, _, rfl, rfl⟩
    · skip
      refine sq_p (.tuple #[.pointer none, errV ad 2]) rfl (fun _ => by kernel_rfl) ?_
      refine sq_p (.pointer none) rfl (fun _ => by kernel_rfl) ?_
      refine sq_p (errV ad 2) rfl (fun _ => by kernel_rfl) ?_
      refine sq_p (.pointer none) rfl (fun _ => by kernel_rfl) ?_
      refine sq_p (errV ad 2) rfl (fun _ => by kernel_rfl) ?_
      refine lnil ?_
      refine thn_n ?_
      refine c_seq ?_
      refine c_seq ?_
      refine c_reg ?_
      refine sq_p (errV ad 2) rfl (fun _ => by kernel_rfl) ?_
      refine sq_p (.bool true) rfl (fun _ => by kernel_rfl) ?_
      refine lnil ?_
      refine thn_n ?_
      refine c_true (by kernel_rfl) ?_
      refine c_seq ?_
      refine c_reg ?_
      refine sq_p (errV ad 2) rfl (fun _ => by kernel_rfl) ?_
      refine sq_p (.pointer none) rfl (fun _ => by kernel_rfl) ?_
      refine sq_p (errV ad 2) rfl (fun _ => by kernel_rfl) ?_
      refine lnil ?_
      refine thn_n ?_
      refine c_ret ?_
      refine thn_r ?_
      refine ret_end [.pointer none, errV ad 2] [1, 1, 0] h (by kernel_rfl) (res_t (by kernel_rfl) (res_t (by kernel_rfl) res_n)) ?_
      exact .inr (.inr ⟨hq1, hq2, rfl, rfl⟩)
  · skip
    refine sq_p (errV ad 4) rfl (fun _ => by kernel_rfl) ?_
    refine lnil ?_
    refine thn_n ?_
    refine c_seq ?_
    refine c_reg ?_
    refine sq_p (errV ad 4) rfl (fun _ => by kernel_rfl) ?_
    refine sq_p (.bool true) rfl (fun _ => by kernel_rfl) ?_
    refine lnil ?_
    refine thn_n ?_
    refine c_true (by kernel_rfl) ?_
    refine c_seq ?_
    refine c_reg ?_
    refine sq_p (errV ad 4) rfl (fun _ => by kernel_rfl) ?_
    refine sq_p (.pointer none) rfl (fun _ => by kernel_rfl) ?_
    refine sq_p (errV ad 4) rfl (fun _ => by kernel_rfl) ?_
    refine lnil ?_
    refine thn_n ?_
    refine c_ret ?_
    refine thn_r ?_
    refine ret_end [.pointer none, errV ad 4] [0, 0, 0] h (by kernel_rfl) (res_t (by kernel_rfl) (res_t (by kernel_rfl) res_n)) ?_
    exact .inr (.inl ⟨hq1, rfl, rfl⟩)
set_option maxHeartbeats 1000000 in
theorem newListener0_spec {B : Nat} (ad : Nat → Addr) (s : ByteArray) (m : Int) (hs : s.size ≤ 9223372036854775807) : Spec Tryd.prog 49 #[.string s, .pointer none, .int .i64 m] [rEnv B ad [4], rEnv B ad [3], rEnv B ad [2]] (fun u L => (¬ nameOk s ∧ u = .tuple #[.pointer none, errV ad 4] ∧ L = [rEnv B ad [4], rEnv B ad [3], rEnv B ad [2]]) ∨ (nameOk s ∧ u = .tuple #[.pointer none, errV ad 3] ∧ L = [rEnv B ad [4], rEnv B ad [3], rEnv B ad [2]])) := by
  refine spec_of (#[.string s, .pointer none, .int .i64 m, undef, undef, undef, undef, undef, undef, undef, undef, undef, undef, undef, undef, undef, undef, undef, undef, undef, undef, undef, undef, undef, undef, undef, undef, undef, undef, undef, undef, undef]) Tryd.func49 rfl (by kernel_rfl) fun E w0 w h => ?_
  refine c_seq ?_
  refine c_reg ?_
  refine sq_p (.pointer none) rfl (fun _ => by kernel_rfl) ?_
  refine sq_p (.nilIface) rfl (fun _ => by kernel_rfl) ?_
  refine lnil ?_
  refine thn_n ?_
  refine c_seq ?_
  refine c_seq ?_
  refine c_reg ?_
  refine sq_p (.string s) rfl (fun _ => by kernel_rfl) ?_
  refine sq_call #[.string s] [0] rfl (check_two ad s (by omega)) (fun _ => by kernel_rfl) h ?_; rintro v_ L_ w (⟨hq1, rfl, rfl⟩ | ⟨hq1, rfl, rfl⟩) h
  · skip
    refine sq_p (.nilIface) rfl (fun _ => by kernel_rfl) ?_
    refine lnil ?_
    refine thn_n ?_
    refine c_seq ?_
    refine c_reg ?_
    refine sq_p (.nilIface) rfl (fun _ => by kernel_rfl) ?_
    refine sq_p (.bool false) rfl (fun _ => by kernel_rfl) ?_
    refine lnil ?_
    refine thn_n ?_
    refine c_false (by kernel_rfl) ?_
    refine c_skip ?_
    refine thn_n ?_
    refine c_seq ?_
    refine c_seq ?_
    refine c_reg ?_
    refine sq_p (.pointer none) rfl (fun _ => by kernel_rfl) ?_
    refine sq_p (.bool true) rfl (fun _ => by kernel_rfl) ?_
    refine lnil ?_
    refine thn_n ?_
    refine c_true (by kernel_rfl) ?_
    refine c_seq ?_
    refine d_start 3 [1] (by kernel_rfl) h fun w h => ?_
    refine d_take 0 2 [1] rfl (v := errV ad 3) (by kernel_rfl) (qp_thn (qp_thn qp_body)) (yq (by kernel_rfl) (g_ldr (b := gl 3) 0 [errV ad 3] (errV ad 3) (by kernel_rfl) 0 rfl (rdEnv (c := 3) (by decide) rfl))) h (by kernel_rfl) ?_
    refine d_take 1 1 [1] rfl (v := .pointer none) (by kernel_rfl) (qp_thn (qp_thn qp_body)) (yq (by kernel_rfl) (g_pure (v := .pointer none) fun _ => by kernel_rfl)) h (by kernel_rfl) ?_
    refine d_take 2 3 [1] rfl (v := errV ad 3) (by kernel_rfl) (qp_thn (qp_thn qp_body)) (yq (by kernel_rfl) (g_pure (v := errV ad 3) fun _ => by kernel_rfl)) h (by kernel_rfl) ?_
    refine d_done (by kernel_rfl) ?_
    refine thn_n ?_
    refine c_ret ?_
    refine thn_r ?_
    refine ret_end [.pointer none, errV ad 3] [0, 0, 0] h (by kernel_rfl) (res_t (by kernel_rfl) (res_t (by kernel_rfl) res_n)) ?_
    exact .inr ⟨hq1, rfl, rfl⟩
  · skip
    refine sq_p (errV ad 4) rfl (fun _ => by kernel_rfl) ?_
    refine lnil ?_
    refine thn_n ?_
    refine c_seq ?_
    refine c_reg ?_
    refine sq_p (errV ad 4) rfl (fun _ => by kernel_rfl) ?_
    refine sq_p (.bool true) rfl (fun _ => by kernel_rfl) ?_
    refine lnil ?_
    refine thn_n ?_
    refine c_true (by kernel_rfl) ?_
    refine c_seq ?_
    refine c_reg ?_
    refine sq_p (errV ad 4) rfl (fun _ => by kernel_rfl) ?_
    refine sq_p (.pointer none) rfl (fun _ => by kernel_rfl) ?_
    refine sq_p (errV ad 4) rfl (fun _ => by kernel_rfl) ?_
    refine lnil ?_
    refine thn_n ?_
    refine c_ret ?_
    refine thn_r ?_
    refine ret_end [.pointer none, errV ad 4] [0, 0, 0] h (by kernel_rfl) (res_t (by kernel_rfl) (res_t (by kernel_rfl) res_n)) ?_
    exact .inl ⟨hq1, rfl, rfl⟩
end Go.Proofs.YtofhnglgebllbaaDoor
