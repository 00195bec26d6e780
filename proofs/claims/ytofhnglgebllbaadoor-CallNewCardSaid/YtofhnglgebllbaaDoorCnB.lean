/- callnew: contracts by what is owned (printed by walk.py). -/
import Derived.Test.YtofhnglgebllbaaDoorCnA
import Derived.Test.YtofhnglgebllbaaDoorTabS
import Derived.Test.YtofhnglgebllbaaDoorKeyH
namespace Go.Proofs.YtofhnglgebllbaaDoor
open Go.RowKit
set_option linter.unusedVariables false
set_option linter.unusedSimpArgs false
set_option linter.unnecessarySimpa false
set_option maxRecDepth 100000
set_option maxHeartbeats 1000000 in
theorem nodesKeep_spec {B : Nat} (ad : Nat → Addr) (b nb : Nat) (vl vg : Value) (T : TypeId) (Sl Sg : Nat → Prop) (a0 a1 a2 a3 a4 a5 : Int) (na0 na1 na2 na3 na4 na5 : Int) (dp : Value) : Spec Tryd.prog 97 #[.pointer (some ⟨b, 0, none⟩), .agg #[.int .i64 0, .int .i64 0], .agg #[.int .i64 a0, .int .i64 a1, .int .i64 a2, .int .i64 a3, .int .i64 a4, .int .i64 a5]] [rTab b ((List.replicate 3 none).set 0 (some nb)) ((List.replicate 3 0).set 0 (0 + 1)) vl vg T Sl Sg, rCell true nb [.int .i64 na0, .int .i64 na1, .int .i64 na2, .int .i64 na3, .int .i64 na4, .int .i64 na5, dp] 273, rEnv B ad [10]] (fun u L => L = []) := by
  refine spec_of (#[.pointer (some ⟨b, 0, none⟩), .agg #[.int .i64 0, .int .i64 0], .agg #[.int .i64 a0, .int .i64 a1, .int .i64 a2, .int .i64 a3, .int .i64 a4, .int .i64 a5], undef, undef, undef, undef, undef, undef, undef, undef, undef, undef, undef, undef, undef, undef, undef, undef, undef, undef, undef, undef, undef, undef, undef]) Tryd.func97 rfl (by kernel_rfl) fun E w0 w h => ?_
  refine c_seq ?_
  refine c_reg ?_
  refine sq_new rfl (fun b => .pointer (some ⟨b, 0, none⟩)) [.int .i64 0, .int .i64 0] 29 (fun _ => by kernel_rfl) h ?_; intro k1 w h
  refine sq_new rfl (fun b => .pointer (some ⟨b, 0, none⟩)) [.int .i64 a0, .int .i64 a1, .int .i64 a2, .int .i64 a3, .int .i64 a4, .int .i64 a5] 180 (fun _ => by kernel_rfl) h ?_; intro k2 w h
  refine lnil ?_
  refine thn_n ?_
  refine c_seq ?_
  refine c_reg ?_
  refine sq_p (.pointer (some ⟨b, 0, none⟩)) rfl (fun _ => by kernel_rfl) ?_
  refine sq_q rfl h (g_ld 0 [.int .i64 0, .int .i64 0] (.agg #[.int .i64 0, .int .i64 0]) (by kernel_rfl) 1 rfl) ?_
  refine sq_call #[.pointer (some ⟨b, 0, none⟩), .agg #[.int .i64 0, .int .i64 0]] [2, 3] rfl (nodesAt_spec ad b nb 0 0 ((List.replicate 3 none).set 0 (some nb)) ((List.replicate 3 0).set 0 (0 + 1)) vl vg T Sl Sg rfl (by decide) rfl) (fun _ => by kernel_rfl) h ?_; rintro v_ L_ w ⟨rfl, rfl⟩ h
  refine sq_p (.tuple #[.pointer (some ⟨nb, 0, none⟩), .nilIface]) rfl (fun _ => by kernel_rfl) ?_
  refine sq_p (.pointer (some ⟨nb, 0, none⟩)) rfl (fun _ => by kernel_rfl) ?_
  refine sq_p (.nilIface) rfl (fun _ => by kernel_rfl) ?_
  refine sq_p (.pointer (some ⟨nb, 0, none⟩)) rfl (fun _ => by kernel_rfl) ?_
  refine sq_p (.nilIface) rfl (fun _ => by kernel_rfl) ?_
  refine lnil ?_
  refine thn_n ?_
  refine c_seq ?_
  refine c_reg ?_
  refine sq_p (.nilIface) rfl (fun _ => by kernel_rfl) ?_
  refine sq_p (.bool true) rfl (fun _ => by kernel_rfl) ?_
  refine lnil ?_
  refine thn_n ?_
  refine c_true (by kernel_rfl) ?_
  refine c_seq ?_
  refine c_reg ?_
  refine sq_p (.pointer (some ⟨nb, 0, none⟩)) rfl (fun _ => by kernel_rfl) ?_
  refine sq_p (.pointer (some ⟨nb, 0, none⟩)) rfl (fun _ => by kernel_rfl) ?_
  refine sq_p (.pointer (some ⟨nb, 0, none⟩)) rfl (fun _ => by kernel_rfl) ?_
  refine sq_p (.pointer (some ⟨nb, 3, none⟩)) rfl (fun _ => by kernel_rfl) ?_
  refine sq_q rfl h (g_ld 3 [.int .i64 na3] (.int .i64 na3) (by kernel_rfl) 4 rfl) ?_
  refine sq_p (.pointer (some ⟨k2, 3, none⟩)) rfl (fun _ => by kernel_rfl) ?_
  refine sq_st rfl 3 [.int .i64 na3] [.int .i64 a0, .int .i64 a1, .int .i64 a2, .int .i64 na3, .int .i64 a4, .int .i64 a5] h 2 rfl (by kernel_rfl) ?_; intro w h
  refine lnil ?_
  refine thn_n ?_
  refine c_reg ?_
  refine sq_p (.pointer (some ⟨nb, 0, none⟩)) rfl (fun _ => by kernel_rfl) ?_
  refine sq_q rfl h (g_ld 0 [.int .i64 a0, .int .i64 a1, .int .i64 a2, .int .i64 na3, .int .i64 a4, .int .i64 a5] (.agg #[.int .i64 a0, .int .i64 a1, .int .i64 a2, .int .i64 na3, .int .i64 a4, .int .i64 a5]) (by kernel_rfl) 2 rfl) ?_
  refine sq_p (.pointer (some ⟨nb, 0, none⟩)) rfl (fun _ => by kernel_rfl) ?_
  refine sq_p (.pointer (some ⟨nb, 0, none⟩)) rfl (fun _ => by kernel_rfl) ?_
  refine sq_st rfl 0 [.int .i64 a0, .int .i64 a1, .int .i64 a2, .int .i64 na3, .int .i64 a4, .int .i64 a5] [.int .i64 a0, .int .i64 a1, .int .i64 a2, .int .i64 na3, .int .i64 a4, .int .i64 a5, dp] h 4 rfl (by kernel_rfl) ?_; intro w h
  refine lnil ?_
  refine ret_end [] [] h (by kernel_rfl) (res_n) ?_
  rfl
set_option maxHeartbeats 1000000 in
theorem treeNew_spec {B : Nat} (ad : Nat → Addr) : Spec Tryd.prog 16 #[.int .i64 3] [rEnv B ad [10]] (fun u L => ∃ p, u = .tuple #[.pointer (some ⟨p, 0, none⟩), .nilIface] ∧ L = []) := by
  refine spec_of (#[.int .i64 3, undef, undef, undef, undef, undef, undef, undef, undef, undef, undef, undef, undef, undef, undef, undef, undef, undef, undef, undef, undef, undef, undef, undef, undef, undef, undef, undef, undef, undef, undef, undef, undef, undef, undef, undef, undef, undef, undef, undef, undef, undef, undef, undef, undef, undef, undef, undef, undef, undef]) Tryd.func16 rfl (by kernel_rfl) fun E w0 w h => ?_
  refine c_seq ?_
  refine c_reg ?_
  refine sq_p (.pointer none) rfl (fun _ => by kernel_rfl) ?_
  refine sq_p (.nilIface) rfl (fun _ => by kernel_rfl) ?_
  refine lnil ?_
  refine thn_n ?_
  refine c_seq ?_
  refine c_reg ?_
  refine sq_p (.int .i64 3) rfl (fun _ => by kernel_rfl) ?_
  refine sq_call #[.int .i64 3] [] rfl (nodesNew_spec 3 (by decide) (by decide)) (fun _ => by kernel_rfl) h ?_; rintro v_ L_ w ⟨b, vl, vg, T, Sl, Sg, rfl, rfl⟩ h
  refine sq_p (.tuple #[.pointer (some ⟨b, 0, none⟩), .nilIface]) rfl (fun _ => by kernel_rfl) ?_
  refine sq_p (.pointer (some ⟨b, 0, none⟩)) rfl (fun _ => by kernel_rfl) ?_
  refine sq_p (.nilIface) rfl (fun _ => by kernel_rfl) ?_
  refine sq_p (.pointer (some ⟨b, 0, none⟩)) rfl (fun _ => by kernel_rfl) ?_
  refine sq_p (.nilIface) rfl (fun _ => by kernel_rfl) ?_
  refine lnil ?_
  refine thn_n ?_
  refine c_seq ?_
  refine c_seq ?_
  refine c_reg ?_
  refine sq_p (.nilIface) rfl (fun _ => by kernel_rfl) ?_
  refine sq_p (.bool false) rfl (fun _ => by kernel_rfl) ?_
  refine lnil ?_
  refine thn_n ?_
  refine c_false (by kernel_rfl) ?_
  refine c_skip ?_
  refine thn_n ?_
  refine c_seq ?_
  refine c_reg ?_
  refine sq_p (.pointer (some ⟨b, 0, none⟩)) rfl (fun _ => by kernel_rfl) ?_
  refine sq_p (.int .i64 3) rfl (fun _ => by kernel_rfl) ?_
  refine sq_newm rfl hk (fun _ => by kernel_rfl) h ?_; intro k1 w h
  refine sq_newm rfl ik (fun _ => by kernel_rfl) h ?_; intro k2 w h
  refine sq_p (.agg #[.pointer (some ⟨b, 0, none⟩), .int .i64 3, .int .i64 0, .int .i64 0, .map (some k1), .map (some k2)]) rfl (fun _ => by kernel_rfl) ?_
  refine sq_new rfl (fun b => .pointer (some ⟨b, 0, none⟩)) [.pointer (some ⟨b, 0, none⟩), .int .i64 3, .int .i64 0, .int .i64 0, .map (some k1), .map (some k2)] 175 (fun _ => by kernel_rfl) h ?_; intro k3 w h
  refine sq_p (.pointer (some ⟨k3, 0, none⟩)) rfl (fun _ => by kernel_rfl) ?_
  refine lnil ?_
  refine thn_n ?_
  refine c_seq ?_
  refine c_reg ?_
  refine sq_p (.pointer (some ⟨k3, 0, none⟩)) rfl (fun _ => by kernel_rfl) ?_
  refine sq_p (.pointer (some ⟨b, 0, none⟩)) rfl (fun _ => by kernel_rfl) ?_
  refine sq_call #[.pointer (some ⟨b, 0, none⟩), .int .i64 2] [3] rfl (nodesAdd_spec b 0 0 _ _ vl vg T Sl Sg (by decide) (by decide) rfl rfl (by decide)) (fun _ => by kernel_rfl) h ?_; rintro v_ L_ w ⟨nb, rfl, rfl⟩ h
  refine sq_p (.tuple #[.agg #[.int .i64 0, .int .i64 0], .nilIface]) rfl (fun _ => by kernel_rfl) ?_
  refine sq_p (.agg #[.int .i64 0, .int .i64 0]) rfl (fun _ => by kernel_rfl) ?_
  refine sq_p (.nilIface) rfl (fun _ => by kernel_rfl) ?_
  refine sq_p (.pointer (some ⟨k3, 0, none⟩)) rfl (fun _ => by kernel_rfl) ?_
  refine sq_p (.pointer (some ⟨k3, 2, none⟩)) rfl (fun _ => by kernel_rfl) ?_
  refine sq_st rfl 2 [.int .i64 0, .int .i64 0] [.pointer (some ⟨b, 0, none⟩), .int .i64 3, .int .i64 0, .int .i64 0, .map (some k1), .map (some k2)] h 2 rfl (by kernel_rfl) ?_; intro w h
  refine lnil ?_
  refine thn_n ?_
  refine c_seq ?_
  refine d_start 10 [2] (by kernel_rfl) h fun w h => ?_
  refine d_take 0 496 [2] rfl (v := .pointer (some ⟨k3, 0, none⟩)) (by kernel_rfl) (qp_thn qp_body) (yq (by kernel_rfl) (g_pure (v := .pointer (some ⟨k3, 0, none⟩)) fun _ => by kernel_rfl)) h (by kernel_rfl) ?_
  refine d_take 1 497 [2] rfl (v := .pointer (some ⟨k3, 0, none⟩)) (by kernel_rfl) (qp_thn qp_body) (yq (by kernel_rfl) (g_pure (v := .pointer (some ⟨k3, 0, none⟩)) fun _ => by kernel_rfl)) h (by kernel_rfl) ?_
  refine d_take 2 499 [2] rfl (v := .pointer (some ⟨k3, 4, none⟩)) (by kernel_rfl) (qp_thn qp_body) (yq (by kernel_rfl) (g_pure (v := .pointer (some ⟨k3, 4, none⟩)) fun _ => by kernel_rfl)) h (by kernel_rfl) ?_
  refine d_take 3 503 [2] rfl (v := .map (some k1)) (by kernel_rfl) (qp_thn qp_body) (yq (by kernel_rfl) (g_ld 4 [.map (some k1)] (.map (some k1)) (by kernel_rfl) 0 rfl)) h (by kernel_rfl) ?_
  refine d_take 4 271 [2] rfl (v := .pointer (some ⟨k3, 0, none⟩)) (by kernel_rfl) (qp_thn qp_body) (yq (by kernel_rfl) (g_pure (v := .pointer (some ⟨k3, 0, none⟩)) fun _ => by kernel_rfl)) h (by kernel_rfl) ?_
  refine d_take 5 287 [2] rfl (v := .pointer (some ⟨k3, 0, none⟩)) (by kernel_rfl) (qp_thn qp_body) (yq (by kernel_rfl) (g_pure (v := .pointer (some ⟨k3, 0, none⟩)) fun _ => by kernel_rfl)) h (by kernel_rfl) ?_
  refine d_take 6 319 [2] rfl (v := .pointer (some ⟨k3, 2, none⟩)) (by kernel_rfl) (qp_thn qp_body) (yq (by kernel_rfl) (g_pure (v := .pointer (some ⟨k3, 2, none⟩)) fun _ => by kernel_rfl)) h (by kernel_rfl) ?_
  refine d_take 7 383 [2] rfl (v := .agg #[.int .i64 0, .int .i64 0]) (by kernel_rfl) (qp_thn qp_body) (yq (by kernel_rfl) (g_ld 2 [.int .i64 0, .int .i64 0] (.agg #[.int .i64 0, .int .i64 0]) (by kernel_rfl) 0 rfl)) h (by kernel_rfl) ?_
  refine d_ready [8] (by kernel_rfl) rfl ?_
  refine ad_newm [3] rfl (by kernel_rfl) ik (fun _ => by kernel_rfl) h ?_ ?_
  · skip
    intro k4 w h; refine ⟨by kernel_rfl, ?_⟩
    refine d_ready [9] (by kernel_rfl) rfl ?_
    refine ad_mapu [3] rfl (by kernel_rfl) (E := 177) keyHk (0, 0) (.map (some k4)) (by kernel_rfl) h 5 rfl ?_ ?_
    · skip
      intro w h; refine ⟨by kernel_rfl, ?_⟩
      refine d_done (by kernel_rfl) ?_
      refine thn_n ?_
      refine c_seq ?_
      refine d_start 11 [3] (by kernel_rfl) h fun w h => ?_
      refine d_take 0 1022 [3] rfl (v := .pointer (some ⟨b, 0, none⟩)) (by kernel_rfl) (qp_thn qp_body) (yq (by kernel_rfl) (g_pure (v := .pointer (some ⟨b, 0, none⟩)) fun _ => by kernel_rfl)) h (by kernel_rfl) ?_
      refine d_take 1 993 [3] rfl (v := .pointer (some ⟨k3, 0, none⟩)) (by kernel_rfl) (qp_thn qp_body) (yq (by kernel_rfl) (g_pure (v := .pointer (some ⟨k3, 0, none⟩)) fun _ => by kernel_rfl)) h (by kernel_rfl) ?_
      refine d_take 2 995 [3] rfl (v := .pointer (some ⟨k3, 0, none⟩)) (by kernel_rfl) (qp_thn qp_body) (yq (by kernel_rfl) (g_pure (v := .pointer (some ⟨k3, 0, none⟩)) fun _ => by kernel_rfl)) h (by kernel_rfl) ?_
      refine d_take 3 999 [3] rfl (v := .pointer (some ⟨k3, 2, none⟩)) (by kernel_rfl) (qp_thn qp_body) (yq (by kernel_rfl) (g_pure (v := .pointer (some ⟨k3, 2, none⟩)) fun _ => by kernel_rfl)) h (by kernel_rfl) ?_
      refine d_take 4 1007 [3] rfl (v := .agg #[.int .i64 0, .int .i64 0]) (by kernel_rfl) (qp_thn qp_body) (yq (by kernel_rfl) (g_ld 2 [.int .i64 0, .int .i64 0] (.agg #[.int .i64 0, .int .i64 0]) (by kernel_rfl) 0 rfl)) h (by kernel_rfl) ?_
      refine d_take 5 31 [3] rfl (v := .pointer (some ⟨k3, 0, none⟩)) (by kernel_rfl) (qp_thn qp_body) (yq (by kernel_rfl) (g_pure (v := .pointer (some ⟨k3, 0, none⟩)) fun _ => by kernel_rfl)) h (by kernel_rfl) ?_
      refine d_take 6 63 [3] rfl (v := .pointer (some ⟨k3, 0, none⟩)) (by kernel_rfl) (qp_thn qp_body) (yq (by kernel_rfl) (g_pure (v := .pointer (some ⟨k3, 0, none⟩)) fun _ => by kernel_rfl)) h (by kernel_rfl) ?_
      refine d_take 7 127 [3] rfl (v := .pointer (some ⟨k3, 2, none⟩)) (by kernel_rfl) (qp_thn qp_body) (yq (by kernel_rfl) (g_pure (v := .pointer (some ⟨k3, 2, none⟩)) fun _ => by kernel_rfl)) h (by kernel_rfl) ?_
      refine d_take 8 255 [3] rfl (v := .agg #[.int .i64 0, .int .i64 0]) (by kernel_rfl) (qp_thn qp_body) (yq (by kernel_rfl) (g_ld 2 [.int .i64 0, .int .i64 0] (.agg #[.int .i64 0, .int .i64 0]) (by kernel_rfl) 0 rfl)) h (by kernel_rfl) ?_
      refine d_take 9 511 [3] rfl (v := .agg #[.int .i64 2, .int .i64 0, .int .i64 2, .int .i64 0, .int .i64 0, .int .i64 0]) (by kernel_rfl) (qp_thn qp_body) (yq (by kernel_rfl) (g_pure (v := .agg #[.int .i64 2, .int .i64 0, .int .i64 2, .int .i64 0, .int .i64 0, .int .i64 0]) fun _ => by kernel_rfl)) h (by kernel_rfl) ?_
      refine d_ready [10] (by kernel_rfl) rfl ?_
      refine ad_call #[.pointer (some ⟨b, 0, none⟩), .agg #[.int .i64 0, .int .i64 0], .agg #[.int .i64 2, .int .i64 0, .int .i64 2, .int .i64 0, .int .i64 0, .int .i64 0]] [2, 1, 4] [1] rfl (by kernel_rfl) (nodesKeep_spec ad b nb vl vg T Sl Sg 2 0 2 0 0 0 2 0 0 0 0 0 _) (fun _ => by kernel_rfl) h ?_ ?_
      · skip
        rintro _ L_ w rfl h
        refine ⟨by kernel_rfl, ?_⟩
        refine d_done (by kernel_rfl) ?_
        refine thn_n ?_
        refine c_seq ?_
        refine c_reg ?_
        refine sq_p (.pointer (some ⟨k3, 0, none⟩)) rfl (fun _ => by kernel_rfl) ?_
        refine sq_p (.pointer (some ⟨k3, 0, none⟩)) rfl (fun _ => by kernel_rfl) ?_
        refine sq_p (.nilIface) rfl (fun _ => by kernel_rfl) ?_
        refine lnil ?_
        refine thn_n ?_
        refine c_ret ?_
        refine ret_end [.pointer (some ⟨k3, 0, none⟩), .nilIface] [] h (by kernel_rfl) (res_t (by kernel_rfl) (res_t (by kernel_rfl) res_n)) ?_
        exact ⟨_, rfl, rfl⟩
      exact ad_nil
    exact ad_nil
  exact ad_nil
end Go.Proofs.YtofhnglgebllbaaDoor
