/- net: contracts by what is owned (printed by walk.py). -/
import Derived.Test.YtofhnglgebllbaaDoorNetC
import Derived.Test.YtofhnglgebllbaaDoorNetD
import Derived.Test.YtofhnglgebllbaaDoorNetIns2
namespace Go.Proofs.YtofhnglgebllbaaDoor
open Go.RowKit
set_option linter.unusedVariables false
set_option linter.unusedSimpArgs false
set_option linter.unnecessarySimpa false
set_option maxRecDepth 100000

def twC (l : List Msg) (k : Int) : Nat := if 0 ≤ k ∧ k < l.length then (if 100 ≤ l.length then 9 else 0) else 5
def twL (l : List Msg) (k : Int) : List Msg := if 0 ≤ k ∧ k < l.length ∧ l.length < 100 then match l[k.toNat]? with | some x => netTw l k.toNat x | none => l else l
theorem twC_le (l : List Msg) (k : Int) : twC l k ≤ 15 := by unfold twC; split; split <;> simp; simp
theorem tw_none {l : List Msg} {k : Int} (h : ¬ (0 ≤ k ∧ k < l.length)) : twC l k = 5 ∧ twL l k = l := by
  unfold twC twL; rw [if_neg h, if_neg (fun hh => h ⟨hh.1, hh.2.1⟩)]; exact ⟨rfl, rfl⟩
theorem tw_full {l : List Msg} {k : Int} (h : 0 ≤ k ∧ k < l.length) (h2 : 100 ≤ l.length) : twC l k = 9 ∧ twL l k = l := by
  unfold twC twL; rw [if_pos h, if_pos h2, if_neg (fun hh => by omega)]; exact ⟨rfl, rfl⟩
theorem tw_ok {l : List Msg} {k : Int} {i : Nat} {x : Msg} (h : k = i) (hx : l[i]? = some x) (h2 : l.length < 100) : twC l k = 0 ∧ twL l k = netTw l i x := by
  subst h
  have := (List.getElem?_eq_some_iff.1 hx).1
  unfold twC twL
  rw [if_pos (by omega), if_neg (by omega), if_pos (by omega), Int.toNat_natCast, hx]
  exact ⟨rfl, rfl⟩
theorem twL_len {l : List Msg} {k : Int} (h : l.length ≤ 100) : (twL l k).length ≤ 100 := by
  unfold twL; split
  · split
    · exact netTw_len (by omega)
    · exact h
  · exact h

set_option maxHeartbeats 1000000 in
theorem netTwice_spec {B : Nat} (ad : Nat → Addr) (b : Nat) (v : Value) (tt : TypeId) (l : List Msg) (k : Int) (hl : l.length ≤ 100) : Spec Tryd.prog 32 #[.pointer (some ⟨b, 0, none⟩), .int .i64 k] [rCell true b [v] tt, rRows true v 52 3 msgC l, rEnv B ad [5], rEnv B ad [9]] (fun u L => ∃ v', u = errV ad (twC l k) ∧ L = [rCell true b [v'] tt, rRows true v' 52 3 msgC (twL l k), rEnv B ad [5], rEnv B ad [9]]) := by
  refine spec_of (#[.pointer (some ⟨b, 0, none⟩), .int .i64 k, undef, undef, undef, undef, undef, undef, undef, undef, undef, undef, undef, undef, undef, undef, undef, undef, undef, undef, undef, undef, undef, undef, undef, undef, undef, undef, undef, undef, undef, undef, undef, undef, undef, undef, undef]) Tryd.func32 rfl (by kernel_rfl) fun E w0 w h => ?_
  refine c_seq ?_
  refine c_reg ?_
  refine sq_p (.nilIface) rfl (fun _ => by kernel_rfl) ?_
  refine lnil ?_
  refine thn_n ?_
  refine c_seq ?_
  refine c_seq ?_
  refine c_reg ?_
  refine sq_p (.pointer (some ⟨b, 0, none⟩)) rfl (fun _ => by kernel_rfl) ?_
  refine sq_p (.int .i64 k) rfl (fun _ => by kernel_rfl) ?_
  refine sq_call #[.pointer (some ⟨b, 0, none⟩), .int .i64 k] [0, 0, 0] rfl (netAt_spec ad b v tt l k (by omega)) (fun _ => by kernel_rfl) h ?_; rintro v_ L_ w (⟨i1, hk2, hi3, rfl, rfl⟩ | ⟨hn4, rfl, rfl⟩) h
  · skip
    have hi1 : k = (i1 : Int) := hk2
    refine sq_p (.nilIface) rfl (fun _ => by kernel_rfl) ?_
    refine lnil ?_
    refine thn_n ?_
    refine c_seq ?_
    refine c_reg ?_
    refine sq_p (.nilIface) rfl (fun _ => by kernel_rfl) ?_
    refine sq_p (.bool false) rfl (fun _ => by kernel_rfl) ?_
    refine lnil ?_
    refine thn_n ?_
    refine c_false (by kernel_rfl) ?_
    refine c_skip ?_
    refine thn_n ?_
    refine c_seq ?_
    refine c_seq ?_
    refine c_reg ?_
    refine sq_p (.pointer (some ⟨b, 0, none⟩)) rfl (fun _ => by kernel_rfl) ?_
    refine sq_p (.pointer (some ⟨b, 0, none⟩)) rfl (fun _ => by kernel_rfl) ?_
    refine sq_p (.pointer (some ⟨b, 0, none⟩)) rfl (fun _ => by kernel_rfl) ?_
    refine sq_q rfl h (g_ld 0 [v] (v) (by kernel_rfl) 0 rfl) ?_
    refine sq_q rfl h (g_len (by kernel_rfl) 1 rfl) ?_
    refine sq_p (.bool (decide ((l.length : Int) ≥ 100))) rfl (fun _ => by kernel_rfl) ?_
    refine lnil ?_
    refine thn_n ?_
    refine c_cond (decide ((l.length : Int) ≥ 100)) (by kernel_rfl) (fun hc5 => ?_) (fun hc5 => ?_)
    · skip
      have hc5 := of_decide_eq_true hc5
      refine c_seq ?_
      refine c_reg ?_
      refine sq_q rfl h (g_ldr (b := gl 9) 0 [errV ad 9] (errV ad 9) (by kernel_rfl) 3 rfl (rdEnv (c := 9) (by decide) rfl)) ?_
      refine sq_p (errV ad 9) rfl (fun _ => by kernel_rfl) ?_
      refine lnil ?_
      refine thn_n ?_
      refine c_ret ?_
      refine thn_r ?_
      refine ret_end [errV ad 9] [0, 0, 0, 0] h (by kernel_rfl) (res_t (by kernel_rfl) res_n) ?_
      rw [(tw_full (by omega) (by omega)).1, (tw_full (by omega) (by omega)).2]
      exact ⟨_, rfl, rfl⟩
    · skip
      have hc5 := of_decide_eq_false hc5
      refine c_skip ?_
      refine thn_n ?_
      refine c_seq ?_
      refine d_start 19 [] (by kernel_rfl) h fun w h => ?_
      refine d_take 0 65534 [] rfl (v := .pointer (some ⟨b, 0, none⟩)) (by kernel_rfl) (qp_thn qp_body) (yq (by kernel_rfl) (g_pure (v := .pointer (some ⟨b, 0, none⟩)) fun _ => by kernel_rfl)) h (by kernel_rfl) ?_
      refine d_take 1 32737 [] rfl (v := .pointer (some ⟨b, 0, none⟩)) (by kernel_rfl) (qp_thn qp_body) (yq (by kernel_rfl) (g_pure (v := .pointer (some ⟨b, 0, none⟩)) fun _ => by kernel_rfl)) h (by kernel_rfl) ?_
      refine d_take 2 32739 [] rfl (v := .pointer (some ⟨b, 0, none⟩)) (by kernel_rfl) (qp_thn qp_body) (yq (by kernel_rfl) (g_pure (v := .pointer (some ⟨b, 0, none⟩)) fun _ => by kernel_rfl)) h (by kernel_rfl) ?_
      refine d_take 3 32743 [] rfl (v := .pointer (some ⟨b, 0, none⟩)) (by kernel_rfl) (qp_thn qp_body) (yq (by kernel_rfl) (g_pure (v := .pointer (some ⟨b, 0, none⟩)) fun _ => by kernel_rfl)) h (by kernel_rfl) ?_
      refine d_take 5 32671 [] rfl (v := .int .i64 k) (by kernel_rfl) (qp_thn qp_body) (yq (by kernel_rfl) (g_pure (v := .int .i64 k) fun _ => by kernel_rfl)) h (by kernel_rfl) ?_
      refine d_take 6 32703 [] rfl (v := .int .i64 (k + 1)) (by kernel_rfl) (qp_thn qp_body) (yq (by kernel_rfl) (g_eq (v := .int .i64 (IntKind.i64.wrap (k + 1))) (v' := .int .i64 (k + 1)) (g_pure fun _ => by kernel_rfl) (wr (by omega)))) h (by kernel_rfl) ?_
      refine d_take 7 2175 [] rfl (v := .pointer (some ⟨b, 0, none⟩)) (by kernel_rfl) (qp_thn qp_body) (yq (by kernel_rfl) (g_pure (v := .pointer (some ⟨b, 0, none⟩)) fun _ => by kernel_rfl)) h (by kernel_rfl) ?_
      refine d_take 8 2303 [] rfl (v := .pointer (some ⟨b, 0, none⟩)) (by kernel_rfl) (qp_thn qp_body) (yq (by kernel_rfl) (g_pure (v := .pointer (some ⟨b, 0, none⟩)) fun _ => by kernel_rfl)) h (by kernel_rfl) ?_
      refine d_take 9 2559 [] rfl (v := .pointer (some ⟨b, 0, none⟩)) (by kernel_rfl) (qp_thn qp_body) (yq (by kernel_rfl) (g_pure (v := .pointer (some ⟨b, 0, none⟩)) fun _ => by kernel_rfl)) h (by kernel_rfl) ?_
      refine d_take 11 2047 [] rfl (v := .int .i64 k) (by kernel_rfl) (qp_thn qp_body) (yq (by kernel_rfl) (g_pure (v := .int .i64 k) fun _ => by kernel_rfl)) h (by kernel_rfl) ?_
      refine d_ready [4, 10] (by kernel_rfl) rfl ?_
      refine ad_q [] rfl (by kernel_rfl) (v := v) (g_ld 0 [v] (v) (by kernel_rfl) 0 rfl) h (by kernel_rfl) ?_ ?_
      · skip
        refine d_ready [10] (by kernel_rfl) rfl ?_
        refine ad_q [] rfl (by kernel_rfl) (v := v) (g_ld 0 [v] (v) (by kernel_rfl) 0 rfl) h (by kernel_rfl) ?_ ?_
        · skip
          refine d_ready [12] (by kernel_rfl) rfl ?_
          have hi6 : i1 < l.length := by omega
          obtain ⟨x7, hx8⟩ : ∃ x, l[i1]? = some x := ⟨_, List.getElem?_eq_getElem hi6⟩
          refine ad_q [] rfl (by kernel_rfl) (v := .pointer (some ⟨blkN v, offN v + i1 * 3, none⟩)) (g_idxI i1 hi1 (by kernel_rfl) hi6 1 rfl) h (by kernel_rfl) ?_ ?_
          · skip
            refine d_ready [13] (by kernel_rfl) rfl ?_
            refine ad_q [] rfl (by kernel_rfl) (v := .agg #[.string x7.1, .string x7.2.1, .string x7.2.2]) (g_ldr (b := blkN v) (offN v + i1 * 3) [.string x7.1, .string x7.2.1, .string x7.2.2] (.agg #[.string x7.1, .string x7.2.1, .string x7.2.2]) (by kernel_rfl) 1 rfl (rdRow0 msgC_len hx8 (by kernel_rfl))) h (by kernel_rfl) ?_ ?_
            · skip
              refine d_ready [14] (by kernel_rfl) rfl ?_
              refine ad_new [] rfl (by kernel_rfl) (fun b => .slice (some ⟨b, 0, none⟩) 1 1) [.string x7.1, .string x7.2.1, .string x7.2.2] 52 (fun _ => by kernel_rfl) h ?_ ?_
              · skip
                intro k9 w h; refine ⟨by kernel_rfl, ?_⟩
                refine d_ready [15] (by kernel_rfl) rfl ?_
                refine ad_call #[v, .int .i64 (k + 1), .slice (some ⟨k9, 0, none⟩) 1 1] [2, 0] [] rfl (by kernel_rfl) (insMsg_spec v l i1 x7 k9 (by omega) hi3 (by omega)) (fun _ => by kernel_rfl) h ?_ ?_
                · skip
                  rintro v10 L_ w ⟨_, rfl, rfl⟩ h
                  refine ⟨by kernel_rfl, ?_⟩
                  refine d_take 16 65535 [] rfl (v := .pointer (some ⟨b, 0, none⟩)) (by kernel_rfl) (qp_thn qp_body) (yq (by kernel_rfl) (g_pure (v := .pointer (some ⟨b, 0, none⟩)) fun _ => by kernel_rfl)) h (by kernel_rfl) ?_
                  refine d_take 17 131071 [] rfl (v := .pointer (some ⟨b, 0, none⟩)) (by kernel_rfl) (qp_thn qp_body) (yq (by kernel_rfl) (g_pure (v := .pointer (some ⟨b, 0, none⟩)) fun _ => by kernel_rfl)) h (by kernel_rfl) ?_
                  refine d_ready [18] (by kernel_rfl) rfl ?_
                  refine ad_sto [] rfl (by kernel_rfl) (h.slv 0 rfl) 0 [v10] h 2 rfl (by kernel_rfl) ?_ ?_
                  · skip
                    intro w h; refine ⟨by kernel_rfl, ?_⟩
                    refine d_done (by kernel_rfl) ?_
                    refine thn_n ?_
                    refine c_seq ?_
                    refine c_reg ?_
                    refine sq_p (.nilIface) rfl (fun _ => by kernel_rfl) ?_
                    refine lnil ?_
                    refine thn_n ?_
                    refine c_ret ?_
                    refine ret_end [.nilIface] [2, 0, 1, 1] h (by kernel_rfl) (res_t (by kernel_rfl) res_n) ?_
                    rw [(tw_ok hk2 hx8 (by omega)).1, (tw_ok hk2 hx8 (by omega)).2]
                    exact ⟨_, rfl, rfl⟩
                  exact ad_nil
                exact ad_nil
              exact ad_nil
            exact ad_nil
          exact ad_nil
        exact ad_nil
      refine ad_q [] rfl (by kernel_rfl) (v := v) (g_ld 0 [v] (v) (by kernel_rfl) 0 rfl) h (by kernel_rfl) ?_ ?_
      · skip
        refine d_ready [4, 12] (by kernel_rfl) rfl ?_
        refine ad_q [] rfl (by kernel_rfl) (v := v) (g_ld 0 [v] (v) (by kernel_rfl) 0 rfl) h (by kernel_rfl) ?_ ?_
        · skip
          refine d_ready [12] (by kernel_rfl) rfl ?_
          have hi11 : i1 < l.length := by omega
          obtain ⟨x12, hx13⟩ : ∃ x, l[i1]? = some x := ⟨_, List.getElem?_eq_getElem hi11⟩
          refine ad_q [] rfl (by kernel_rfl) (v := .pointer (some ⟨blkN v, offN v + i1 * 3, none⟩)) (g_idxI i1 hi1 (by kernel_rfl) hi11 1 rfl) h (by kernel_rfl) ?_ ?_
          · skip
            refine d_ready [13] (by kernel_rfl) rfl ?_
            refine ad_q [] rfl (by kernel_rfl) (v := .agg #[.string x12.1, .string x12.2.1, .string x12.2.2]) (g_ldr (b := blkN v) (offN v + i1 * 3) [.string x12.1, .string x12.2.1, .string x12.2.2] (.agg #[.string x12.1, .string x12.2.1, .string x12.2.2]) (by kernel_rfl) 1 rfl (rdRow0 msgC_len hx13 (by kernel_rfl))) h (by kernel_rfl) ?_ ?_
            · skip
              refine d_ready [14] (by kernel_rfl) rfl ?_
              refine ad_new [] rfl (by kernel_rfl) (fun b => .slice (some ⟨b, 0, none⟩) 1 1) [.string x12.1, .string x12.2.1, .string x12.2.2] 52 (fun _ => by kernel_rfl) h ?_ ?_
              · skip
                intro k14 w h; refine ⟨by kernel_rfl, ?_⟩
                refine d_ready [15] (by kernel_rfl) rfl ?_
                refine ad_call #[v, .int .i64 (k + 1), .slice (some ⟨k14, 0, none⟩) 1 1] [2, 0] [] rfl (by kernel_rfl) (insMsg_spec v l i1 x12 k14 (by omega) hi3 (by omega)) (fun _ => by kernel_rfl) h ?_ ?_
                · skip
                  rintro v15 L_ w ⟨_, rfl, rfl⟩ h
                  refine ⟨by kernel_rfl, ?_⟩
                  refine d_take 16 65535 [] rfl (v := .pointer (some ⟨b, 0, none⟩)) (by kernel_rfl) (qp_thn qp_body) (yq (by kernel_rfl) (g_pure (v := .pointer (some ⟨b, 0, none⟩)) fun _ => by kernel_rfl)) h (by kernel_rfl) ?_
                  refine d_take 17 131071 [] rfl (v := .pointer (some ⟨b, 0, none⟩)) (by kernel_rfl) (qp_thn qp_body) (yq (by kernel_rfl) (g_pure (v := .pointer (some ⟨b, 0, none⟩)) fun _ => by kernel_rfl)) h (by kernel_rfl) ?_
                  refine d_ready [18] (by kernel_rfl) rfl ?_
                  refine ad_sto [] rfl (by kernel_rfl) (h.slv 0 rfl) 0 [v15] h 2 rfl (by kernel_rfl) ?_ ?_
                  · skip
                    intro w h; refine ⟨by kernel_rfl, ?_⟩
                    refine d_done (by kernel_rfl) ?_
                    refine thn_n ?_
                    refine c_seq ?_
                    refine c_reg ?_
                    refine sq_p (.nilIface) rfl (fun _ => by kernel_rfl) ?_
                    refine lnil ?_
                    refine thn_n ?_
                    refine c_ret ?_
                    refine ret_end [.nilIface] [2, 0, 1, 1] h (by kernel_rfl) (res_t (by kernel_rfl) res_n) ?_
                    rw [(tw_ok hk2 hx13 (by omega)).1, (tw_ok hk2 hx13 (by omega)).2]
                    exact ⟨_, rfl, rfl⟩
                  exact ad_nil
                exact ad_nil
              exact ad_nil
            exact ad_nil
          exact ad_nil
        have hi16 : i1 < l.length := by omega
        obtain ⟨x17, hx18⟩ : ∃ x, l[i1]? = some x := ⟨_, List.getElem?_eq_getElem hi16⟩
        refine ad_q [] rfl (by kernel_rfl) (v := .pointer (some ⟨blkN v, offN v + i1 * 3, none⟩)) (g_idxI i1 hi1 (by kernel_rfl) hi16 1 rfl) h (by kernel_rfl) ?_ ?_
        · skip
          refine d_ready [4, 13] (by kernel_rfl) rfl ?_
          refine ad_q [] rfl (by kernel_rfl) (v := v) (g_ld 0 [v] (v) (by kernel_rfl) 0 rfl) h (by kernel_rfl) ?_ ?_
          · skip
            refine d_ready [13] (by kernel_rfl) rfl ?_
            refine ad_q [] rfl (by kernel_rfl) (v := .agg #[.string x17.1, .string x17.2.1, .string x17.2.2]) (g_ldr (b := blkN v) (offN v + i1 * 3) [.string x17.1, .string x17.2.1, .string x17.2.2] (.agg #[.string x17.1, .string x17.2.1, .string x17.2.2]) (by kernel_rfl) 1 rfl (rdRow0 msgC_len hx18 (by kernel_rfl))) h (by kernel_rfl) ?_ ?_
            · skip
              refine d_ready [14] (by kernel_rfl) rfl ?_
              refine ad_new [] rfl (by kernel_rfl) (fun b => .slice (some ⟨b, 0, none⟩) 1 1) [.string x17.1, .string x17.2.1, .string x17.2.2] 52 (fun _ => by kernel_rfl) h ?_ ?_
              · skip
                intro k19 w h; refine ⟨by kernel_rfl, ?_⟩
                refine d_ready [15] (by kernel_rfl) rfl ?_
                refine ad_call #[v, .int .i64 (k + 1), .slice (some ⟨k19, 0, none⟩) 1 1] [2, 0] [] rfl (by kernel_rfl) (insMsg_spec v l i1 x17 k19 (by omega) hi3 (by omega)) (fun _ => by kernel_rfl) h ?_ ?_
                · skip
                  rintro v20 L_ w ⟨_, rfl, rfl⟩ h
                  refine ⟨by kernel_rfl, ?_⟩
                  refine d_take 16 65535 [] rfl (v := .pointer (some ⟨b, 0, none⟩)) (by kernel_rfl) (qp_thn qp_body) (yq (by kernel_rfl) (g_pure (v := .pointer (some ⟨b, 0, none⟩)) fun _ => by kernel_rfl)) h (by kernel_rfl) ?_
                  refine d_take 17 131071 [] rfl (v := .pointer (some ⟨b, 0, none⟩)) (by kernel_rfl) (qp_thn qp_body) (yq (by kernel_rfl) (g_pure (v := .pointer (some ⟨b, 0, none⟩)) fun _ => by kernel_rfl)) h (by kernel_rfl) ?_
                  refine d_ready [18] (by kernel_rfl) rfl ?_
                  refine ad_sto [] rfl (by kernel_rfl) (h.slv 0 rfl) 0 [v20] h 2 rfl (by kernel_rfl) ?_ ?_
                  · skip
                    intro w h; refine ⟨by kernel_rfl, ?_⟩
                    refine d_done (by kernel_rfl) ?_
                    refine thn_n ?_
                    refine c_seq ?_
                    refine c_reg ?_
                    refine sq_p (.nilIface) rfl (fun _ => by kernel_rfl) ?_
                    refine lnil ?_
                    refine thn_n ?_
                    refine c_ret ?_
                    refine ret_end [.nilIface] [2, 0, 1, 1] h (by kernel_rfl) (res_t (by kernel_rfl) res_n) ?_
                    rw [(tw_ok hk2 hx18 (by omega)).1, (tw_ok hk2 hx18 (by omega)).2]
                    exact ⟨_, rfl, rfl⟩
                  exact ad_nil
                exact ad_nil
              exact ad_nil
            exact ad_nil
          refine ad_q [] rfl (by kernel_rfl) (v := .agg #[.string x17.1, .string x17.2.1, .string x17.2.2]) (g_ldr (b := blkN v) (offN v + i1 * 3) [.string x17.1, .string x17.2.1, .string x17.2.2] (.agg #[.string x17.1, .string x17.2.1, .string x17.2.2]) (by kernel_rfl) 1 rfl (rdRow0 msgC_len hx18 (by kernel_rfl))) h (by kernel_rfl) ?_ ?_
          · skip
            refine d_ready [4, 14] (by kernel_rfl) rfl ?_
            refine ad_q [] rfl (by kernel_rfl) (v := v) (g_ld 0 [v] (v) (by kernel_rfl) 0 rfl) h (by kernel_rfl) ?_ ?_
            · skip
              refine d_ready [14] (by kernel_rfl) rfl ?_
              refine ad_new [] rfl (by kernel_rfl) (fun b => .slice (some ⟨b, 0, none⟩) 1 1) [.string x17.1, .string x17.2.1, .string x17.2.2] 52 (fun _ => by kernel_rfl) h ?_ ?_
              · skip
                intro k21 w h; refine ⟨by kernel_rfl, ?_⟩
                refine d_ready [15] (by kernel_rfl) rfl ?_
                refine ad_call #[v, .int .i64 (k + 1), .slice (some ⟨k21, 0, none⟩) 1 1] [2, 0] [] rfl (by kernel_rfl) (insMsg_spec v l i1 x17 k21 (by omega) hi3 (by omega)) (fun _ => by kernel_rfl) h ?_ ?_
                · skip
                  rintro v22 L_ w ⟨_, rfl, rfl⟩ h
                  refine ⟨by kernel_rfl, ?_⟩
                  refine d_take 16 65535 [] rfl (v := .pointer (some ⟨b, 0, none⟩)) (by kernel_rfl) (qp_thn qp_body) (yq (by kernel_rfl) (g_pure (v := .pointer (some ⟨b, 0, none⟩)) fun _ => by kernel_rfl)) h (by kernel_rfl) ?_
                  refine d_take 17 131071 [] rfl (v := .pointer (some ⟨b, 0, none⟩)) (by kernel_rfl) (qp_thn qp_body) (yq (by kernel_rfl) (g_pure (v := .pointer (some ⟨b, 0, none⟩)) fun _ => by kernel_rfl)) h (by kernel_rfl) ?_
                  refine d_ready [18] (by kernel_rfl) rfl ?_
                  refine ad_sto [] rfl (by kernel_rfl) (h.slv 0 rfl) 0 [v22] h 2 rfl (by kernel_rfl) ?_ ?_
                  · skip
                    intro w h; refine ⟨by kernel_rfl, ?_⟩
                    refine d_done (by kernel_rfl) ?_
                    refine thn_n ?_
                    refine c_seq ?_
                    refine c_reg ?_
                    refine sq_p (.nilIface) rfl (fun _ => by kernel_rfl) ?_
                    refine lnil ?_
                    refine thn_n ?_
                    refine c_ret ?_
                    refine ret_end [.nilIface] [2, 0, 1, 1] h (by kernel_rfl) (res_t (by kernel_rfl) res_n) ?_
                    rw [(tw_ok hk2 hx18 (by omega)).1, (tw_ok hk2 hx18 (by omega)).2]
                    exact ⟨_, rfl, rfl⟩
                  exact ad_nil
                exact ad_nil
              exact ad_nil
            refine ad_new [] rfl (by kernel_rfl) (fun b => .slice (some ⟨b, 0, none⟩) 1 1) [.string x17.1, .string x17.2.1, .string x17.2.2] 52 (fun _ => by kernel_rfl) h ?_ ?_
            · skip
              intro k23 w h; refine ⟨by kernel_rfl, ?_⟩
              refine d_ready [4] (by kernel_rfl) rfl ?_
              refine ad_q [] rfl (by kernel_rfl) (v := v) (g_ld 0 [v] (v) (by kernel_rfl) 1 rfl) h (by kernel_rfl) ?_ ?_
              · skip
                refine d_ready [15] (by kernel_rfl) rfl ?_
                refine ad_call #[v, .int .i64 (k + 1), .slice (some ⟨k23, 0, none⟩) 1 1] [2, 0] [] rfl (by kernel_rfl) (insMsg_spec v l i1 x17 k23 (by omega) hi3 (by omega)) (fun _ => by kernel_rfl) h ?_ ?_
                · skip
                  rintro v24 L_ w ⟨_, rfl, rfl⟩ h
                  refine ⟨by kernel_rfl, ?_⟩
                  refine d_take 16 65535 [] rfl (v := .pointer (some ⟨b, 0, none⟩)) (by kernel_rfl) (qp_thn qp_body) (yq (by kernel_rfl) (g_pure (v := .pointer (some ⟨b, 0, none⟩)) fun _ => by kernel_rfl)) h (by kernel_rfl) ?_
                  refine d_take 17 131071 [] rfl (v := .pointer (some ⟨b, 0, none⟩)) (by kernel_rfl) (qp_thn qp_body) (yq (by kernel_rfl) (g_pure (v := .pointer (some ⟨b, 0, none⟩)) fun _ => by kernel_rfl)) h (by kernel_rfl) ?_
                  refine d_ready [18] (by kernel_rfl) rfl ?_
                  refine ad_sto [] rfl (by kernel_rfl) (h.slv 0 rfl) 0 [v24] h 2 rfl (by kernel_rfl) ?_ ?_
                  · skip
                    intro w h; refine ⟨by kernel_rfl, ?_⟩
                    refine d_done (by kernel_rfl) ?_
                    refine thn_n ?_
                    refine c_seq ?_
                    refine c_reg ?_
                    refine sq_p (.nilIface) rfl (fun _ => by kernel_rfl) ?_
                    refine lnil ?_
                    refine thn_n ?_
                    refine c_ret ?_
                    refine ret_end [.nilIface] [2, 0, 1, 1] h (by kernel_rfl) (res_t (by kernel_rfl) res_n) ?_
                    rw [(tw_ok hk2 hx18 (by omega)).1, (tw_ok hk2 hx18 (by omega)).2]
                    exact ⟨_, rfl, rfl⟩
                  exact ad_nil
                exact ad_nil
              exact ad_nil
            exact ad_nil
          exact ad_nil
        exact ad_nil
      exact ad_nil
  · skip
    refine sq_p (errV ad 5) rfl (fun _ => by kernel_rfl) ?_
    refine lnil ?_
    refine thn_n ?_
    refine c_seq ?_
    refine c_reg ?_
    refine sq_p (errV ad 5) rfl (fun _ => by kernel_rfl) ?_
    refine sq_p (.bool true) rfl (fun _ => by kernel_rfl) ?_
    refine lnil ?_
    refine thn_n ?_
    refine c_true (by kernel_rfl) ?_
    refine c_seq ?_
    refine c_reg ?_
    refine sq_p (errV ad 5) rfl (fun _ => by kernel_rfl) ?_
    refine sq_p (errV ad 5) rfl (fun _ => by kernel_rfl) ?_
    refine lnil ?_
    refine thn_n ?_
    refine c_ret ?_
    refine thn_r ?_
    refine ret_end [errV ad 5] [0, 0, 0, 0] h (by kernel_rfl) (res_t (by kernel_rfl) res_n) ?_
    rw [(tw_none hn4).1, (tw_none hn4).2]
    exact ⟨_, rfl, rfl⟩

theorem rnetTwice_two (b : Nat) (v : Value) (tt : TypeId) (l : List Msg) (k : Int) (hl : l.length ≤ 100) : Spec Tryd.prog 33 #[.pointer (some ⟨b, 0, none⟩), .int .i64 k] [rCell true b [v] tt, rRows true v 48 3 msgC l] fun u L => ∃ v', u = .int .i64 (twC l k : Int) ∧ L = [rCell true b [v'] tt, rRows true v' 48 3 msgC (twL l k)] :=
  (rnetTwice_spec b v tt l k hl).mono fun u L h => by
    rcases h with ⟨i, x, v', h1, h2, h3, h4, h5⟩ | ⟨h1, h2, h3⟩ | ⟨h1, h2, h3, h4⟩
    · exact ⟨v', by rw [h4, (tw_ok h1 h2 h3).1]; rfl, by rw [h5, (tw_ok h1 h2 h3).2]⟩
    · exact ⟨v, by rw [h2, (tw_none h1).1]; rfl, by rw [h3, (tw_none h1).2]⟩
    · exact ⟨v, by rw [h3, (tw_full h1 h2).1]; rfl, by rw [h4, (tw_full h1 h2).2]⟩
abbrev mAB : Msg := (⟨#[97]⟩, ⟨#[98]⟩, ⟨#[120]⟩)
theorem sent_one : netSend [] mAB = ([mAB], 0) := netSend_ok (by decide) (by decide) (by decide) (by decide)
theorem sentSend_spec {B : Nat} (ad : Nat → Addr) (b : Nat) (tt : TypeId) : Spec Tryd.prog 25 #[.pointer (some ⟨b, 0, none⟩), .agg #[.string ⟨#[97]⟩, .string ⟨#[98]⟩, .string ⟨#[120]⟩]] [rCell true b [.slice none 0 0] tt, rRows true (.slice none 0 0) 52 3 msgC [], rEnv B ad [4], rEnv B ad [2], rEnv B ad [9]]
    fun u L => ∃ v', u = .nilIface ∧ L = [rCell true b [v'] tt, rRows true v' 52 3 msgC [mAB], rEnv B ad [4], rEnv B ad [2], rEnv B ad [9]] :=
  (netSend_spec ad b (.slice none 0 0) tt [] mAB (by decide) (by decide) (by decide) (by decide)).mono fun u L ⟨v', h1, h2⟩ => ⟨v', by rw [h1, sent_one]; rfl, by rw [h2, sent_one]⟩
theorem sentFor_spec (b : Nat) (v : Value) (tt : TypeId) (t : ByteArray) (z : Int) (hz : firstM [mAB] t = z) : Spec Tryd.prog 34 #[.pointer (some ⟨b, 0, none⟩), .string t] [rCell true b [v] tt, rRows true v 52 3 msgC [mAB]] fun u L => u = .int .i64 z ∧ L = [rCell true b [v] tt, rRows true v 52 3 msgC [mAB]] :=
  (netFor_spec b v tt [mAB] t (by decide)).mono fun u L ⟨h1, h2⟩ => ⟨by rw [h1, hz], h2⟩

set_option maxHeartbeats 1000000 in
theorem sent_spec {B : Nat} (ad : Nat → Addr) : Spec Tryd.prog 23 #[] [rEnv B ad [4], rEnv B ad [2], rEnv B ad [9]] (fun u L => u = .bool true ∧ L = [rEnv B ad [4], rEnv B ad [2], rEnv B ad [9]]) := by
  refine spec_of (#[undef, undef, undef, undef, undef, undef, undef, undef, undef, undef, undef, undef, undef, undef, undef, undef, undef, undef, undef, undef, undef, undef, undef, undef, undef, undef, undef, undef, undef, undef, undef, undef, undef, undef, undef]) Tryd.func23 rfl (by kernel_rfl) fun E w0 w h => ?_
  have h := h.nilRows 52 3 msgC
  refine c_seq ?_
  refine c_reg ?_
  refine sq_p (.bool false) rfl (fun _ => by kernel_rfl) ?_
  refine lnil ?_
  refine thn_n ?_
  refine c_seq ?_
  refine c_reg ?_
  refine sq_p (.agg #[.slice none 0 0]) rfl (fun _ => by kernel_rfl) ?_
  refine sq_new rfl (fun b => .pointer (some ⟨b, 0, none⟩)) [.slice none 0 0] 42 (fun _ => by kernel_rfl) h ?_; intro k1 w h
  refine sq_p (.pointer (some ⟨k1, 0, none⟩)) rfl (fun _ => by kernel_rfl) ?_
  refine lnil ?_
  refine thn_n ?_
  refine c_seq ?_
  refine c_reg ?_
  refine sq_p (.pointer (some ⟨k1, 0, none⟩)) rfl (fun _ => by kernel_rfl) ?_
  refine sq_p (.agg #[.string (⟨#[97]⟩ : ByteArray), .string (⟨#[98]⟩ : ByteArray), .string (⟨#[120]⟩ : ByteArray)]) rfl (fun _ => by kernel_rfl) ?_
  refine sq_call #[.pointer (some ⟨k1, 0, none⟩), .agg #[.string (⟨#[97]⟩ : ByteArray), .string (⟨#[98]⟩ : ByteArray), .string (⟨#[120]⟩ : ByteArray)]] [0, 0, 0, 0, 0] rfl (sentSend_spec ad k1 42) (fun _ => by kernel_rfl) h ?_; rintro v_ L_ w ⟨v2, rfl, rfl⟩ h
  refine sq_p (.nilIface) rfl (fun _ => by kernel_rfl) ?_
  refine lnil ?_
  refine thn_n ?_
  refine c_seq ?_
  refine c_reg ?_
  refine sq_p (.pointer (some ⟨k1, 0, none⟩)) rfl (fun _ => by kernel_rfl) ?_
  refine sq_call #[.pointer (some ⟨k1, 0, none⟩)] [0, 0] rfl (netList_spec k1 v2 42 [mAB] (by decide)) (fun _ => by kernel_rfl) h ?_; rintro v3 L_ w ⟨_, rfl, rfl⟩ h
  refine sq_p (v3) rfl (fun _ => by kernel_rfl) ?_
  refine lnil ?_
  refine thn_n ?_
  refine c_seq ?_
  refine c_reg ?_
  refine sq_p (.nilIface) rfl (fun _ => by kernel_rfl) ?_
  refine sq_p (.bool true) rfl (fun _ => by kernel_rfl) ?_
  refine sq_p (.bool true) rfl (fun _ => by kernel_rfl) ?_
  refine sq_p (v3) (by kernel_rfl) (fun _ => by kernel_rfl) ?_
  refine sq_q (by kernel_rfl) h (g_eq (v := .int .i64 (([mAB].length : Nat) : Int)) (v' := .int .i64 1) (g_len (by kernel_rfl) 0 rfl) rfl) ?_
  refine sq_p (.bool true) (by kernel_rfl) (fun _ => by kernel_rfl) ?_
  refine sq_p (.bool true) rfl (fun _ => by kernel_rfl) ?_
  refine sq_p (.bool true) rfl (fun _ => by kernel_rfl) ?_
  refine sq_p (v3) (by kernel_rfl) (fun _ => by kernel_rfl) ?_
  refine sq_q (by kernel_rfl) h (g_idx 0 (by kernel_rfl) (by decide : 0 < [mAB].length) 0 rfl) ?_
  refine sq_p (.pointer (some ⟨blkN v3, offN v3 + 0 * 3 + 2, none⟩)) (by kernel_rfl) (fun _ => by kernel_rfl) ?_
  refine sq_q (by kernel_rfl) h (g_ldr (b := blkN v3) (offN v3 + 0 * 3 + 2) [.string mAB.2.2] (.string mAB.2.2) (by kernel_rfl) 0 rfl (rdRow msgC_len (rfl : [mAB][0]? = some mAB) 2 (by kernel_rfl))) ?_
  obtain ⟨b4, hb4⟩ : ∃ b_ : Bool, b_ = (decide (mAB.2.2 = (⟨#[120]⟩ : ByteArray))) := ⟨_, rfl⟩
  refine sq_q (v := .bool b4) (by kernel_rfl) h (by subst hb4; exact g_eq (v := .bool (mAB.2.2.toList == (⟨#[120]⟩ : ByteArray).toList)) (v' := .bool (decide (mAB.2.2 = (⟨#[120]⟩ : ByteArray)))) (g_pure fun _ => by kernel_rfl) beqS) ?_
  refine sq_p (.bool b4) rfl (fun _ => by kernel_rfl) ?_
  refine sq_p (.bool b4) rfl (fun _ => by kernel_rfl) ?_
  refine sq_m1 (v := .pointer (some ⟨k1, 0, none⟩)) b4 (by cases b4 <;> kernel_rfl) h (fun hB => by subst hB; exact g_pure (v := .pointer (some ⟨k1, 0, none⟩)) fun _ => by kernel_rfl) ?_
  rcases Bool.eq_false_or_eq_true b4 with hc5 | hc5
  · skip
    subst hc5
    have q6 := hb4.symm
    have q6 := of_decide_eq_true q6
    refine sq_call #[.pointer (some ⟨k1, 0, none⟩), .string (⟨#[98]⟩ : ByteArray)] [1, 1] (by kernel_rfl) (sentFor_spec k1 v2 42 (⟨#[98]⟩ : ByteArray) 0 (by decide)) (fun _ => by kernel_rfl) h ?_; rintro v_ L_ w ⟨rfl, rfl⟩ h
    refine sq_p (.bool true) (by kernel_rfl) (fun _ => by kernel_rfl) ?_
    refine sq_p (.bool true) rfl (fun _ => by kernel_rfl) ?_
    refine sq_p (.bool true) rfl (fun _ => by kernel_rfl) ?_
    refine sq_p (.pointer (some ⟨k1, 0, none⟩)) (by kernel_rfl) (fun _ => by kernel_rfl) ?_
    refine sq_call #[.pointer (some ⟨k1, 0, none⟩), .string (⟨#[97]⟩ : ByteArray)] [0, 0] (by kernel_rfl) (sentFor_spec k1 v2 42 (⟨#[97]⟩ : ByteArray) (-1) (by decide)) (fun _ => by kernel_rfl) h ?_; rintro v_ L_ w ⟨rfl, rfl⟩ h
    refine sq_p (.bool true) (by kernel_rfl) (fun _ => by kernel_rfl) ?_
    refine sq_p (.bool true) rfl (fun _ => by kernel_rfl) ?_
    refine sq_p (.bool true) rfl (fun _ => by kernel_rfl) ?_
    refine lnil ?_
    refine thn_n ?_
    refine c_ret ?_
    refine ret_end [.bool true] [3, 3, 3] h (by kernel_rfl) (res_t (by kernel_rfl) res_n) ?_
    exact ⟨rfl, rfl⟩
  · skip
    subst hc5
    have q7 := hb4.symm
    have q7 := of_decide_eq_false q7
    exact absurd rfl q7
set_option maxHeartbeats 1000000 in
theorem message_spec (a b c : ByteArray) : Spec Tryd.prog 26 #[.agg #[.string a, .string b, .string c]] [] (fun u L => u = .agg #[.string a, .string b, .string c] ∧ L = []) := by
  refine spec_of (#[.agg #[.string a, .string b, .string c], undef, undef, undef, undef, undef, undef, undef, undef, undef]) Tryd.func26 rfl (by kernel_rfl) fun E w0 w h => ?_
  refine c_seq ?_
  refine c_reg ?_
  refine sq_new rfl (fun b => .pointer (some ⟨b, 0, none⟩)) [.string a, .string b, .string c] 48 (fun _ => by kernel_rfl) h ?_; intro k1 w h
  refine sq_new rfl (fun b => .pointer (some ⟨b, 0, none⟩)) [.string (⟨#[]⟩ : ByteArray), .string (⟨#[]⟩ : ByteArray), .string (⟨#[]⟩ : ByteArray)] 52 (fun _ => by kernel_rfl) h ?_; intro k2 w h
  refine lnil ?_
  refine thn_n ?_
  refine c_seq ?_
  refine c_reg ?_
  refine sq_p (.pointer (some ⟨k1, 0, none⟩)) rfl (fun _ => by kernel_rfl) ?_
  refine sq_q rfl h (g_ld 0 [.string a] (.string a) (by kernel_rfl) 1 rfl) ?_
  refine sq_p (.pointer (some ⟨k1, 1, none⟩)) rfl (fun _ => by kernel_rfl) ?_
  refine sq_q rfl h (g_ld 1 [.string b] (.string b) (by kernel_rfl) 1 rfl) ?_
  refine sq_p (.pointer (some ⟨k1, 2, none⟩)) rfl (fun _ => by kernel_rfl) ?_
  refine sq_q rfl h (g_ld 2 [.string c] (.string c) (by kernel_rfl) 1 rfl) ?_
  refine sq_p (.agg #[.string a, .string b, .string c]) rfl (fun _ => by kernel_rfl) ?_
  refine sq_st rfl 0 [.string a, .string b, .string c] [.string a, .string b, .string c] h 0 rfl (by kernel_rfl) ?_; intro w h
  refine lnil ?_
  refine thn_n ?_
  refine c_ret ?_
  refine ret_end [.agg #[.string a, .string b, .string c]] [] h (by kernel_rfl) (res_c 0 [.string a, .string b, .string c] (.agg #[.string a, .string b, .string c]) 0 rfl (by kernel_rfl) res_n) ?_
  exact ⟨rfl, rfl⟩
set_option maxHeartbeats 1000000 in
theorem backMessage_spec (a b c : ByteArray) : Spec Tryd.prog 30 #[.agg #[.string a, .string b, .string c]] [] (fun u L => u = .agg #[.string a, .string b, .string c] ∧ L = []) := by
  refine spec_of (#[.agg #[.string a, .string b, .string c], undef, undef, undef, undef, undef, undef, undef, undef, undef]) Tryd.func30 rfl (by kernel_rfl) fun E w0 w h => ?_
  refine c_seq ?_
  refine c_reg ?_
  refine sq_new rfl (fun b => .pointer (some ⟨b, 0, none⟩)) [.string a, .string b, .string c] 52 (fun _ => by kernel_rfl) h ?_; intro k1 w h
  refine sq_new rfl (fun b => .pointer (some ⟨b, 0, none⟩)) [.string (⟨#[]⟩ : ByteArray), .string (⟨#[]⟩ : ByteArray), .string (⟨#[]⟩ : ByteArray)] 48 (fun _ => by kernel_rfl) h ?_; intro k2 w h
  refine lnil ?_
  refine thn_n ?_
  refine c_seq ?_
  refine c_reg ?_
  refine sq_p (.pointer (some ⟨k1, 0, none⟩)) rfl (fun _ => by kernel_rfl) ?_
  refine sq_q rfl h (g_ld 0 [.string a] (.string a) (by kernel_rfl) 1 rfl) ?_
  refine sq_p (.pointer (some ⟨k1, 1, none⟩)) rfl (fun _ => by kernel_rfl) ?_
  refine sq_q rfl h (g_ld 1 [.string b] (.string b) (by kernel_rfl) 1 rfl) ?_
  refine sq_p (.pointer (some ⟨k1, 2, none⟩)) rfl (fun _ => by kernel_rfl) ?_
  refine sq_q rfl h (g_ld 2 [.string c] (.string c) (by kernel_rfl) 1 rfl) ?_
  refine sq_p (.agg #[.string a, .string b, .string c]) rfl (fun _ => by kernel_rfl) ?_
  refine sq_st rfl 0 [.string a, .string b, .string c] [.string a, .string b, .string c] h 0 rfl (by kernel_rfl) ?_; intro w h
  refine lnil ?_
  refine thn_n ?_
  refine c_ret ?_
  refine ret_end [.agg #[.string a, .string b, .string c]] [] h (by kernel_rfl) (res_c 0 [.string a, .string b, .string c] (.agg #[.string a, .string b, .string c]) 0 rfl (by kernel_rfl) res_n) ?_
  exact ⟨rfl, rfl⟩
end Go.Proofs.YtofhnglgebllbaaDoor
