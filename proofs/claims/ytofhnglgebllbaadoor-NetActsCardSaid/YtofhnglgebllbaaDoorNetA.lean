/- net: contracts by what is owned (printed by walk.py). -/
import Derived.Test.YtofhnglgebllbaaDoorNetP
import Derived.Test.YtofhnglgebllbaaDoorNameS
namespace Go.Proofs.YtofhnglgebllbaaDoor
open Go.RowKit
set_option linter.unusedVariables false
set_option linter.unusedSimpArgs false
set_option linter.unnecessarySimpa false
set_option maxRecDepth 100000
set_option maxHeartbeats 1000000 in
theorem netSend_spec {B : Nat} (ad : Nat → Addr) (b : Nat) (v : Value) (tt : TypeId) (l : List Msg) (m : Msg) (hl : l.length ≤ 100) (hm1 : m.1.size ≤ 9223372036854775807) (hm2 : m.2.1.size ≤ 9223372036854775807) (hm3 : m.2.2.size ≤ 9223372036854775807) : Spec Tryd.prog 25 #[.pointer (some ⟨b, 0, none⟩), .agg #[.string m.1, .string m.2.1, .string m.2.2]] [rCell true b [v] tt, rRows true v 52 3 msgC l, rEnv B ad [4], rEnv B ad [2], rEnv B ad [9]] (fun u L => ∃ v', u = errV ad (netSend l m).2 ∧ L = [rCell true b [v'] tt, rRows true v' 52 3 msgC ((netSend l m).1), rEnv B ad [4], rEnv B ad [2], rEnv B ad [9]]) := by
  refine spec_of (#[.pointer (some ⟨b, 0, none⟩), .agg #[.string m.1, .string m.2.1, .string m.2.2], undef, undef, undef, undef, undef, undef, undef, undef, undef, undef, undef, undef, undef, undef, undef, undef, undef, undef, undef, undef, undef, undef, undef, undef, undef, undef, undef, undef, undef, undef, undef, undef, undef, undef, undef, undef, undef, undef, undef]) Tryd.func25 rfl (by kernel_rfl) fun E w0 w h => ?_
  refine c_seq ?_
  refine c_reg ?_
  refine sq_new rfl (fun b => .pointer (some ⟨b, 0, none⟩)) [.string m.1, .string m.2.1, .string m.2.2] 52 (fun _ => by kernel_rfl) h ?_; intro k1 w h
  refine sq_p (.nilIface) rfl (fun _ => by kernel_rfl) ?_
  refine lnil ?_
  refine thn_n ?_
  refine c_seq ?_
  refine c_block ?_
  refine c_seq ?_
  refine c_reg ?_
  refine sq_p (.pointer (some ⟨k1, 0, none⟩)) rfl (fun _ => by kernel_rfl) ?_
  refine sq_q rfl h (g_ld 0 [.string m.1] (.string m.1) (by kernel_rfl) 0 rfl) ?_
  refine sq_call #[.string m.1] [3] rfl (check_two ad m.1 (by omega)) (fun _ => by kernel_rfl) h ?_; rintro v_ L_ w (⟨hq2, rfl, rfl⟩ | ⟨hq2, rfl, rfl⟩) h
  · skip
    refine sq_p (.bool false) rfl (fun _ => by kernel_rfl) ?_
    refine sq_p (.bool false) rfl (fun _ => by kernel_rfl) ?_
    refine sq_p (.pointer (some ⟨k1, 1, none⟩)) (by kernel_rfl) (fun _ => by kernel_rfl) ?_
    refine sq_q (by kernel_rfl) h (g_ld 1 [.string m.2.1] (.string m.2.1) (by kernel_rfl) 1 rfl) ?_
    refine sq_call #[.string m.2.1] [0] (by kernel_rfl) (check_two ad m.2.1 (by omega)) (fun _ => by kernel_rfl) h ?_; rintro v_ L_ w (⟨hq3, rfl, rfl⟩ | ⟨hq3, rfl, rfl⟩) h
    · skip
      refine sq_p (.bool false) (by kernel_rfl) (fun _ => by kernel_rfl) ?_
      refine sq_p (.bool false) rfl (fun _ => by kernel_rfl) ?_
      refine sq_p (.bool false) rfl (fun _ => by kernel_rfl) ?_
      refine lnil ?_
      refine thn_n ?_
      refine c_false (by kernel_rfl) ?_
      refine c_seq ?_
      refine c_reg ?_
      refine sq_p (.pointer (some ⟨k1, 2, none⟩)) rfl (fun _ => by kernel_rfl) ?_
      refine sq_q rfl h (g_ld 2 [.string m.2.2] (.string m.2.2) (by kernel_rfl) 1 rfl) ?_
      refine sq_p (.int .i64 (m.2.2.size : Int)) rfl (fun _ => by kernel_rfl) ?_
      refine sq_p (.bool (decide ((m.2.2.size : Int) > 4000))) rfl (fun _ => by kernel_rfl) ?_
      refine sq_p (.bool (decide ((m.2.2.size : Int) > 4000))) rfl (fun _ => by kernel_rfl) ?_
      refine lnil ?_
      refine thn_n ?_
      refine c_cond (decide ((m.2.2.size : Int) > 4000)) (by kernel_rfl) (fun hc4 => ?_) (fun hc4 => ?_)
      · skip
        have hc4 := of_decide_eq_true hc4
        refine c_seq ?_
        refine c_reg ?_
        refine sq_q rfl h (g_ldr (b := gl 2) 0 [errV ad 2] (errV ad 2) (by kernel_rfl) 4 rfl (rdEnv (c := 2) (by decide) rfl)) ?_
        refine sq_p (errV ad 2) rfl (fun _ => by kernel_rfl) ?_
        refine lnil ?_
        refine thn_n ?_
        refine c_ret ?_
        refine blk_r (thn_r ?_)
        refine ret_end [errV ad 2] [2, 2, 0, 1, 1] h (by kernel_rfl) (res_t (by kernel_rfl) res_n) ?_
        rw [show netSend l m = _ from netSend_long hq2 hq3 (by omega)]
        exact ⟨_, rfl, rfl⟩
      · skip
        have hc4 := of_decide_eq_false hc4
        refine c_seq ?_
        refine c_reg ?_
        refine sq_p (.pointer (some ⟨b, 0, none⟩)) rfl (fun _ => by kernel_rfl) ?_
        refine sq_p (.pointer (some ⟨b, 0, none⟩)) rfl (fun _ => by kernel_rfl) ?_
        refine sq_p (.pointer (some ⟨b, 0, none⟩)) rfl (fun _ => by kernel_rfl) ?_
        refine sq_q rfl h (g_ld 0 [v] (v) (by kernel_rfl) 2 rfl) ?_
        refine sq_q rfl h (g_len (by kernel_rfl) 3 rfl) ?_
        refine sq_p (.bool (decide ((l.length : Int) ≥ 100))) rfl (fun _ => by kernel_rfl) ?_
        refine sq_p (.bool (decide ((l.length : Int) ≥ 100))) rfl (fun _ => by kernel_rfl) ?_
        refine lnil ?_
        refine thn_n ?_
        refine c_cond (decide ((l.length : Int) ≥ 100)) (by kernel_rfl) (fun hc5 => ?_) (fun hc5 => ?_)
        · skip
          have hc5 := of_decide_eq_true hc5
          refine c_seq ?_
          refine c_reg ?_
          refine sq_q rfl h (g_ldr (b := gl 9) 0 [errV ad 9] (errV ad 9) (by kernel_rfl) 5 rfl (rdEnv (c := 9) (by decide) rfl)) ?_
          refine sq_p (errV ad 9) rfl (fun _ => by kernel_rfl) ?_
          refine lnil ?_
          refine thn_n ?_
          refine c_ret ?_
          refine blk_r (thn_r ?_)
          refine ret_end [errV ad 9] [2, 2, 0, 1, 1] h (by kernel_rfl) (res_t (by kernel_rfl) res_n) ?_
          rw [show netSend l m = _ from netSend_full hq2 hq3 (by omega) (by omega)]
          exact ⟨_, rfl, rfl⟩
        · skip
          have hc5 := of_decide_eq_false hc5
          refine c_skip ?_
          refine blk_n (thn_n ?_)
          refine c_seq ?_
          refine d_start 11 [1] (by kernel_rfl) h fun w h => ?_
          refine d_take 0 254 [1] rfl (v := .pointer (some ⟨b, 0, none⟩)) (by kernel_rfl) (qp_thn qp_body) (yq (by kernel_rfl) (g_pure (v := .pointer (some ⟨b, 0, none⟩)) fun _ => by kernel_rfl)) h (by kernel_rfl) ?_
          refine d_take 1 97 [1] rfl (v := .pointer (some ⟨b, 0, none⟩)) (by kernel_rfl) (qp_thn qp_body) (yq (by kernel_rfl) (g_pure (v := .pointer (some ⟨b, 0, none⟩)) fun _ => by kernel_rfl)) h (by kernel_rfl) ?_
          refine d_take 2 99 [1] rfl (v := .pointer (some ⟨b, 0, none⟩)) (by kernel_rfl) (qp_thn qp_body) (yq (by kernel_rfl) (g_pure (v := .pointer (some ⟨b, 0, none⟩)) fun _ => by kernel_rfl)) h (by kernel_rfl) ?_
          refine d_take 3 103 [1] rfl (v := .pointer (some ⟨b, 0, none⟩)) (by kernel_rfl) (qp_thn qp_body) (yq (by kernel_rfl) (g_pure (v := .pointer (some ⟨b, 0, none⟩)) fun _ => by kernel_rfl)) h (by kernel_rfl) ?_
          refine d_take 5 31 [1] rfl (v := .agg #[.string m.1, .string m.2.1, .string m.2.2]) (by kernel_rfl) (qp_thn qp_body) (yq (by kernel_rfl) (g_ld 0 [.string m.1, .string m.2.1, .string m.2.2] (.agg #[.string m.1, .string m.2.1, .string m.2.2]) (by kernel_rfl) 0 rfl)) h (by kernel_rfl) ?_
          refine d_ready [4, 6] (by kernel_rfl) rfl ?_
          refine ad_q [1] rfl (by kernel_rfl) (v := v) (g_ld 0 [v] (v) (by kernel_rfl) 2 rfl) h (by kernel_rfl) ?_ ?_
          · skip
            refine d_ready [6] (by kernel_rfl) rfl ?_
            refine ad_new [2] rfl (by kernel_rfl) (fun b => .slice (some ⟨b, 0, none⟩) 1 1) [.string m.1, .string m.2.1, .string m.2.2] 52 (fun _ => by kernel_rfl) h ?_ ?_
            · skip
              intro k6 w h; refine ⟨by kernel_rfl, ?_⟩
              refine d_ready [7] (by kernel_rfl) rfl ?_
              refine ad_app (b := k6) (o := 0) [2] rfl (by kernel_rfl) 1 m (by kernel_rfl) h 4 rfl 0 rfl (rdCell 0 (by kernel_rfl)) (by (try simp only [List.length_append, List.length_cons, List.length_nil]); omega) ?_ ?_
              · skip
                intro v7 w h; refine ⟨by kernel_rfl, ?_⟩
                refine d_take 8 255 [2] rfl (v := .pointer (some ⟨b, 0, none⟩)) (by kernel_rfl) (qp_thn qp_body) (yq (by kernel_rfl) (g_pure (v := .pointer (some ⟨b, 0, none⟩)) fun _ => by kernel_rfl)) h (by kernel_rfl) ?_
                refine d_take 9 511 [2] rfl (v := .pointer (some ⟨b, 0, none⟩)) (by kernel_rfl) (qp_thn qp_body) (yq (by kernel_rfl) (g_pure (v := .pointer (some ⟨b, 0, none⟩)) fun _ => by kernel_rfl)) h (by kernel_rfl) ?_
                refine d_ready [10] (by kernel_rfl) rfl ?_
                refine ad_sto [2] rfl (by kernel_rfl) (h.slv 4 rfl) 0 [v7] h 3 rfl (by kernel_rfl) ?_ ?_
                · skip
                  intro w h; refine ⟨by kernel_rfl, ?_⟩
                  refine d_done (by kernel_rfl) ?_
                  refine thn_n ?_
                  refine c_seq ?_
                  refine c_reg ?_
                  refine sq_p (.nilIface) rfl (fun _ => by kernel_rfl) ?_
                  refine lnil ?_
                  refine thn_n ?_
                  refine c_ret ?_
                  refine ret_end [.nilIface] [3, 3, 1, 2, 2] h (by kernel_rfl) (res_t (by kernel_rfl) res_n) ?_
                  rw [show netSend l m = _ from netSend_ok hq2 hq3 (by omega) (by omega)]
                  exact ⟨_, rfl, rfl⟩
                exact ad_nil
              exact ad_nil
            exact ad_nil
          refine ad_new [2] rfl (by kernel_rfl) (fun b => .slice (some ⟨b, 0, none⟩) 1 1) [.string m.1, .string m.2.1, .string m.2.2] 52 (fun _ => by kernel_rfl) h ?_ ?_
          · skip
            intro k8 w h; refine ⟨by kernel_rfl, ?_⟩
            refine d_ready [4] (by kernel_rfl) rfl ?_
            refine ad_q [2] rfl (by kernel_rfl) (v := v) (g_ld 0 [v] (v) (by kernel_rfl) 3 rfl) h (by kernel_rfl) ?_ ?_
            · skip
              refine d_ready [7] (by kernel_rfl) rfl ?_
              refine ad_app (b := k8) (o := 0) [2] rfl (by kernel_rfl) 1 m (by kernel_rfl) h 4 rfl 0 rfl (rdCell 0 (by kernel_rfl)) (by (try simp only [List.length_append, List.length_cons, List.length_nil]); omega) ?_ ?_
              · skip
                intro v9 w h; refine ⟨by kernel_rfl, ?_⟩
                refine d_take 8 255 [2] rfl (v := .pointer (some ⟨b, 0, none⟩)) (by kernel_rfl) (qp_thn qp_body) (yq (by kernel_rfl) (g_pure (v := .pointer (some ⟨b, 0, none⟩)) fun _ => by kernel_rfl)) h (by kernel_rfl) ?_
                refine d_take 9 511 [2] rfl (v := .pointer (some ⟨b, 0, none⟩)) (by kernel_rfl) (qp_thn qp_body) (yq (by kernel_rfl) (g_pure (v := .pointer (some ⟨b, 0, none⟩)) fun _ => by kernel_rfl)) h (by kernel_rfl) ?_
                refine d_ready [10] (by kernel_rfl) rfl ?_
                refine ad_sto [2] rfl (by kernel_rfl) (h.slv 4 rfl) 0 [v9] h 3 rfl (by kernel_rfl) ?_ ?_
                · skip
                  intro w h; refine ⟨by kernel_rfl, ?_⟩
                  refine d_done (by kernel_rfl) ?_
                  refine thn_n ?_
                  refine c_seq ?_
                  refine c_reg ?_
                  refine sq_p (.nilIface) rfl (fun _ => by kernel_rfl) ?_
                  refine lnil ?_
                  refine thn_n ?_
                  refine c_ret ?_
                  refine ret_end [.nilIface] [3, 3, 1, 2, 2] h (by kernel_rfl) (res_t (by kernel_rfl) res_n) ?_
                  rw [show netSend l m = _ from netSend_ok hq2 hq3 (by omega) (by omega)]
                  exact ⟨_, rfl, rfl⟩
                exact ad_nil
              exact ad_nil
            exact ad_nil
          exact ad_nil
    · skip
      refine sq_p (.bool true) (by kernel_rfl) (fun _ => by kernel_rfl) ?_
      refine sq_p (.bool true) rfl (fun _ => by kernel_rfl) ?_
      refine sq_p (.bool true) rfl (fun _ => by kernel_rfl) ?_
      refine lnil ?_
      refine thn_n ?_
      refine c_true (by kernel_rfl) ?_
      refine c_seq ?_
      refine c_reg ?_
      refine sq_q rfl h (g_ldr (b := gl 4) 0 [errV ad 4] (errV ad 4) (by kernel_rfl) 0 rfl (rdEnv (c := 4) (by decide) rfl)) ?_
      refine sq_p (errV ad 4) rfl (fun _ => by kernel_rfl) ?_
      refine lnil ?_
      refine thn_n ?_
      refine c_ret ?_
      refine blk_r (thn_r ?_)
      refine ret_end [errV ad 4] [2, 2, 0, 1, 1] h (by kernel_rfl) (res_t (by kernel_rfl) res_n) ?_
      rw [show netSend l m = _ from netSend_bad (.inr hq3)]
      exact ⟨_, rfl, rfl⟩
  · skip
    refine sq_p (.bool true) rfl (fun _ => by kernel_rfl) ?_
    refine sq_p (.bool true) rfl (fun _ => by kernel_rfl) ?_
    refine sn (by kernel_rfl) ?_
    refine sn (by kernel_rfl) ?_
    refine sn (by kernel_rfl) ?_
    refine sn (by kernel_rfl) ?_
    refine sq_p (.bool true) rfl (fun _ => by kernel_rfl) ?_
    refine sq_p (.bool true) rfl (fun _ => by kernel_rfl) ?_
    refine lnil ?_
    refine thn_n ?_
    refine c_true (by kernel_rfl) ?_
    refine c_seq ?_
    refine c_reg ?_
    refine sq_q rfl h (g_ldr (b := gl 4) 0 [errV ad 4] (errV ad 4) (by kernel_rfl) 0 rfl (rdEnv (c := 4) (by decide) rfl)) ?_
    refine sq_p (errV ad 4) rfl (fun _ => by kernel_rfl) ?_
    refine lnil ?_
    refine thn_n ?_
    refine c_ret ?_
    refine blk_r (thn_r ?_)
    refine ret_end [errV ad 4] [2, 2, 0, 1, 1] h (by kernel_rfl) (res_t (by kernel_rfl) res_n) ?_
    rw [show netSend l m = _ from netSend_bad (.inl hq2)]
    exact ⟨_, rfl, rfl⟩
set_option maxHeartbeats 1000000 in
theorem netAt_spec {B : Nat} (ad : Nat → Addr) (b : Nat) (v : Value) (tt : TypeId) (l : List Msg) (k : Int) (hl : l.length ≤ 100) : Spec Tryd.prog 105 #[.pointer (some ⟨b, 0, none⟩), .int .i64 k] [rCell true b [v] tt, rRows true v 52 3 msgC l, rEnv B ad [5]] (fun u L => (∃ i : Nat, k = i ∧ i < l.length ∧ u = .nilIface ∧ L = [rCell true b [v] tt, rRows true v 52 3 msgC l, rEnv B ad [5]]) ∨ (¬ (0 ≤ k ∧ k < l.length) ∧ u = errV ad 5 ∧ L = [rCell true b [v] tt, rRows true v 52 3 msgC l, rEnv B ad [5]])) := by
  refine spec_of (#[.pointer (some ⟨b, 0, none⟩), .int .i64 k, undef, undef, undef, undef, undef, undef, undef, undef, undef, undef, undef, undef, undef, undef, undef]) Tryd.func105 rfl (by kernel_rfl) fun E w0 w h => ?_
  refine c_seq ?_
  refine c_reg ?_
  refine sq_p (.nilIface) rfl (fun _ => by kernel_rfl) ?_
  refine lnil ?_
  refine thn_n ?_
  refine c_seq ?_
  refine c_seq ?_
  refine c_reg ?_
  refine sq_p (.int .i64 k) rfl (fun _ => by kernel_rfl) ?_
  obtain ⟨b1, hb1⟩ : ∃ b_ : Bool, b_ = (decide (k < 0)) := ⟨_, rfl⟩
  refine sq_q (v := .bool b1) rfl h (by subst hb1; exact g_pure (v := .bool (decide (k < 0))) fun _ => by kernel_rfl) ?_
  refine sq_p (.bool b1) rfl (fun _ => by kernel_rfl) ?_
  refine sq_m0 (v := .int .i64 k) b1 (by cases b1 <;> kernel_rfl) h (fun hB => by subst hB; exact g_pure (v := .int .i64 k) fun _ => by kernel_rfl) ?_
  refine sq_m0 (v := .pointer (some ⟨b, 0, none⟩)) b1 (by cases b1 <;> kernel_rfl) h (fun hB => by subst hB; exact g_pure (v := .pointer (some ⟨b, 0, none⟩)) fun _ => by kernel_rfl) ?_
  refine sq_m0 (v := .pointer (some ⟨b, 0, none⟩)) b1 (by cases b1 <;> kernel_rfl) h (fun hB => by subst hB; exact g_pure (v := .pointer (some ⟨b, 0, none⟩)) fun _ => by kernel_rfl) ?_
  refine sq_m0 (v := .pointer (some ⟨b, 0, none⟩)) b1 (by cases b1 <;> kernel_rfl) h (fun hB => by subst hB; exact g_pure (v := .pointer (some ⟨b, 0, none⟩)) fun _ => by kernel_rfl) ?_
  refine sq_m0 (v := v) b1 (by cases b1 <;> kernel_rfl) h (fun hB => by subst hB; exact g_ld 0 [v] (v) (by kernel_rfl) 0 rfl) ?_
  refine sq_m0 (v := .int .i64 (l.length : Int)) b1 (by cases b1 <;> kernel_rfl) h (fun hB => by subst hB; exact g_len (by kernel_rfl) 1 rfl) ?_
  obtain ⟨b2, hb2⟩ : ∃ b_ : Bool, b_ = (decide (k ≥ (l.length : Int))) := ⟨_, rfl⟩
  refine sq_m0 (v := .bool b2) b1 (by cases b1 <;> kernel_rfl) h (fun hB => by subst hB; exact by subst hb2; exact g_pure (v := .bool (decide (k ≥ (l.length : Int)))) fun _ => by kernel_rfl) ?_
  obtain ⟨b3, hb3⟩ : ∃ b_ : Bool, b_ = (b1 || b2) := ⟨_, rfl⟩
  refine sq_q (v := .bool b3) rfl h (by subst hb3; exact g_pure (v := .bool (b1 || b2)) fun _ => by cases b1 <;> kernel_rfl) ?_
  refine lnil ?_
  refine thn_n ?_
  refine c_cond (b3) (by kernel_rfl) (fun hc4 => ?_) (fun hc4 => ?_)
  · skip
    have q5 : (b1 || b2) = true := by rw [← hb3]; exact hc4
    have q6 : ((k < 0) ∨ (k ≥ (l.length : Int))) := by subst hb2; subst hb1; revert q5; first | (simp; done) | (simp; omega)
    refine c_seq ?_
    refine c_reg ?_
    refine sq_q rfl h (g_ldr (b := gl 5) 0 [errV ad 5] (errV ad 5) (by kernel_rfl) 2 rfl (rdEnv (c := 5) (by decide) rfl)) ?_
    refine sq_p (errV ad 5) rfl (fun _ => by kernel_rfl) ?_
    refine lnil ?_
    refine thn_n ?_
    refine c_ret ?_
    refine thn_r ?_
    refine ret_end [errV ad 5] [0, 0, 0] h (by kernel_rfl) (res_t (by kernel_rfl) res_n) ?_
    exact .inr ⟨by omega, rfl, rfl⟩
  · skip
    have q7 : (b1 || b2) = false := by rw [← hb3]; exact hc4
    have q8 : b1 = false := by revert q7; cases b1 <;> simp
    have q9 : b2 = false := by revert q7; cases b1 <;> cases b2 <;> simp
    have q10 : (decide (k < 0)) = false := by rw [← hb1]; exact q8
    have q10 := of_decide_eq_false q10
    have q11 : (decide (k ≥ (l.length : Int))) = false := by rw [← hb2]; exact q9
    have q11 := of_decide_eq_false q11
    refine c_skip ?_
    refine thn_n ?_
    refine c_seq ?_
    refine c_reg ?_
    refine sq_p (.nilIface) rfl (fun _ => by kernel_rfl) ?_
    refine lnil ?_
    refine thn_n ?_
    refine c_ret ?_
    refine ret_end [.nilIface] [0, 0, 0] h (by kernel_rfl) (res_t (by kernel_rfl) res_n) ?_
    exact .inl ⟨k.toNat, by omega, by omega, rfl, rfl⟩
end Go.Proofs.YtofhnglgebllbaaDoor
