/- net: contracts by what is owned (printed by walk.py). -/
import Derived.Test.YtofhnglgebllbaaDoorNetB
namespace Go.Proofs.YtofhnglgebllbaaDoor
open Go.RowKit
set_option linter.unusedVariables false
set_option linter.unusedSimpArgs false
set_option linter.unnecessarySimpa false
set_option maxRecDepth 100000
set_option maxHeartbeats 1000000 in
theorem rnetSend_spec (b : Nat) (v : Value) (tt : TypeId) (l : List Msg) (m : Msg) (hl : l.length ≤ 100) (hm1 : m.1.size ≤ 9223372036854775807) (hm2 : m.2.1.size ≤ 9223372036854775807) (hm3 : m.2.2.size ≤ 9223372036854775807) : Spec Tryd.prog 27 #[.pointer (some ⟨b, 0, none⟩), .agg #[.string m.1, .string m.2.1, .string m.2.2]] [rCell true b [v] tt, rRows true v 48 3 msgC l] (fun u L => ∃ v', u = .int .i64 ((netSend l m).2 : Int) ∧ L = [rCell true b [v'] tt, rRows true v' 48 3 msgC ((netSend l m).1)]) := by
  refine spec_of (#[.pointer (some ⟨b, 0, none⟩), .agg #[.string m.1, .string m.2.1, .string m.2.2], undef, undef, undef, undef, undef, undef, undef, undef, undef, undef, undef, undef, undef, undef, undef, undef, undef, undef, undef, undef, undef, undef, undef, undef, undef, undef, undef, undef, undef, undef, undef, undef, undef, undef, undef]) Tryd.func27 rfl (by kernel_rfl) fun E w0 w h => ?_
  refine c_seq ?_
  refine c_reg ?_
  refine sq_new rfl (fun b => .pointer (some ⟨b, 0, none⟩)) [.string m.1, .string m.2.1, .string m.2.2] 48 (fun _ => by kernel_rfl) h ?_; intro k1 w h
  refine sq_p (.int .i64 0) rfl (fun _ => by kernel_rfl) ?_
  refine lnil ?_
  refine thn_n ?_
  refine c_seq ?_
  refine c_seq ?_
  refine c_reg ?_
  refine sq_p (.pointer (some ⟨k1, 0, none⟩)) rfl (fun _ => by kernel_rfl) ?_
  refine sq_q rfl h (g_ld 0 [.string m.1] (.string m.1) (by kernel_rfl) 0 rfl) ?_
  refine sq_call #[.string m.1] [] rfl (nameError_two m.1 (by omega)) (fun _ => by kernel_rfl) h ?_; rintro v_ L_ w (⟨hq2, rfl, rfl⟩ | ⟨hq2, rfl, rfl⟩) h
  · skip
    refine sq_p (.bool false) rfl (fun _ => by kernel_rfl) ?_
    refine sq_p (.bool false) rfl (fun _ => by kernel_rfl) ?_
    refine sq_p (.pointer (some ⟨k1, 1, none⟩)) (by kernel_rfl) (fun _ => by kernel_rfl) ?_
    refine sq_q (by kernel_rfl) h (g_ld 1 [.string m.2.1] (.string m.2.1) (by kernel_rfl) 0 rfl) ?_
    refine sq_call #[.string m.2.1] [] (by kernel_rfl) (nameError_two m.2.1 (by omega)) (fun _ => by kernel_rfl) h ?_; rintro v_ L_ w (⟨hq3, rfl, rfl⟩ | ⟨hq3, rfl, rfl⟩) h
    · skip
      refine sq_p (.bool false) (by kernel_rfl) (fun _ => by kernel_rfl) ?_
      refine sq_p (.bool false) rfl (fun _ => by kernel_rfl) ?_
      refine lnil ?_
      refine thn_n ?_
      refine c_false (by kernel_rfl) ?_
      refine c_skip ?_
      refine thn_n ?_
      refine c_seq ?_
      refine c_seq ?_
      refine c_reg ?_
      refine sq_p (.pointer (some ⟨k1, 2, none⟩)) rfl (fun _ => by kernel_rfl) ?_
      refine sq_q rfl h (g_ld 2 [.string m.2.2] (.string m.2.2) (by kernel_rfl) 0 rfl) ?_
      refine sq_p (.int .i64 (m.2.2.size : Int)) rfl (fun _ => by kernel_rfl) ?_
      refine sq_p (.bool (decide ((m.2.2.size : Int) > 4000))) rfl (fun _ => by kernel_rfl) ?_
      refine lnil ?_
      refine thn_n ?_
      refine c_cond (decide ((m.2.2.size : Int) > 4000)) (by kernel_rfl) (fun hc4 => ?_) (fun hc4 => ?_)
      · skip
        have hc4 := of_decide_eq_true hc4
        refine c_seq ?_
        refine c_reg ?_
        refine sq_p (.int .i64 2) rfl (fun _ => by kernel_rfl) ?_
        refine lnil ?_
        refine thn_n ?_
        refine c_ret ?_
        refine thn_r ?_
        refine ret_end [.int .i64 2] [1, 1] h (by kernel_rfl) (res_t (by kernel_rfl) res_n) ?_
        rw [show netSend l m = _ from netSend_long hq2 hq3 (by omega)]
        exact ⟨_, rfl, rfl⟩
      · skip
        have hc4 := of_decide_eq_false hc4
        refine c_skip ?_
        refine thn_n ?_
        refine c_seq ?_
        refine c_seq ?_
        refine c_reg ?_
        refine sq_p (.pointer (some ⟨b, 0, none⟩)) rfl (fun _ => by kernel_rfl) ?_
        refine sq_p (.pointer (some ⟨b, 0, none⟩)) rfl (fun _ => by kernel_rfl) ?_
        refine sq_p (.pointer (some ⟨b, 0, none⟩)) rfl (fun _ => by kernel_rfl) ?_
        refine sq_q rfl h (g_ld 0 [v] (v) (by kernel_rfl) 1 rfl) ?_
        refine sq_q rfl h (g_len (by kernel_rfl) 2 rfl) ?_
        refine sq_p (.bool (decide ((l.length : Int) ≥ 100))) rfl (fun _ => by kernel_rfl) ?_
        refine lnil ?_
        refine thn_n ?_
        refine c_cond (decide ((l.length : Int) ≥ 100)) (by kernel_rfl) (fun hc5 => ?_) (fun hc5 => ?_)
        · skip
          have hc5 := of_decide_eq_true hc5
          refine c_seq ?_
          refine c_reg ?_
          refine sq_p (.int .i64 9) rfl (fun _ => by kernel_rfl) ?_
          refine lnil ?_
          refine thn_n ?_
          refine c_ret ?_
          refine thn_r ?_
          refine ret_end [.int .i64 9] [1, 1] h (by kernel_rfl) (res_t (by kernel_rfl) res_n) ?_
          rw [show netSend l m = _ from netSend_full hq2 hq3 (by omega) (by omega)]
          exact ⟨_, rfl, rfl⟩
        · skip
          have hc5 := of_decide_eq_false hc5
          refine c_skip ?_
          refine thn_n ?_
          refine c_seq ?_
          refine d_start 8 [0, 0] (by kernel_rfl) h fun w h => ?_
          refine d_take 0 48 [0, 0] rfl (v := .pointer (some ⟨b, 0, none⟩)) (by kernel_rfl) (qp_thn qp_body) (yq (by kernel_rfl) (g_pure (v := .pointer (some ⟨b, 0, none⟩)) fun _ => by kernel_rfl)) h (by kernel_rfl) ?_
          refine d_take 1 49 [0, 0] rfl (v := .pointer (some ⟨b, 0, none⟩)) (by kernel_rfl) (qp_thn qp_body) (yq (by kernel_rfl) (g_pure (v := .pointer (some ⟨b, 0, none⟩)) fun _ => by kernel_rfl)) h (by kernel_rfl) ?_
          refine d_take 2 51 [0, 0] rfl (v := .pointer (some ⟨b, 0, none⟩)) (by kernel_rfl) (qp_thn qp_body) (yq (by kernel_rfl) (g_pure (v := .pointer (some ⟨b, 0, none⟩)) fun _ => by kernel_rfl)) h (by kernel_rfl) ?_
          refine d_take 3 55 [0, 0] rfl (v := v) (by kernel_rfl) (qp_thn qp_body) (yq (by kernel_rfl) (g_ld 0 [v] (v) (by kernel_rfl) 1 rfl)) h (by kernel_rfl) ?_
          refine d_take 4 15 [0, 0] rfl (v := .agg #[.string m.1, .string m.2.1, .string m.2.2]) (by kernel_rfl) (qp_thn qp_body) (yq (by kernel_rfl) (g_ld 0 [.string m.1, .string m.2.1, .string m.2.2] (.agg #[.string m.1, .string m.2.1, .string m.2.2]) (by kernel_rfl) 0 rfl)) h (by kernel_rfl) ?_
          refine d_ready [5] (by kernel_rfl) rfl ?_
          refine ad_new [1, 1] rfl (by kernel_rfl) (fun b => .slice (some ⟨b, 0, none⟩) 1 1) [.string m.1, .string m.2.1, .string m.2.2] 48 (fun _ => by kernel_rfl) h ?_ ?_
          · skip
            intro k6 w h; refine ⟨by kernel_rfl, ?_⟩
            refine d_ready [6] (by kernel_rfl) rfl ?_
            refine ad_app (b := k6) (o := 0) [1, 1] rfl (by kernel_rfl) 1 m (by kernel_rfl) h 3 rfl 0 rfl (rdCell 0 (by kernel_rfl)) (by (try simp only [List.length_append, List.length_cons, List.length_nil]); omega) ?_ ?_
            · skip
              intro v7 w h; refine ⟨by kernel_rfl, ?_⟩
              refine d_take 7 127 [1, 1] rfl (v := v7) (by kernel_rfl) (qp_thn qp_body) (yq (by kernel_rfl) (g_pure (v := v7) fun _ => by kernel_rfl)) h (by kernel_rfl) ?_
              refine d_done (by kernel_rfl) ?_
              refine thn_n ?_
              refine c_seq ?_
              refine c_reg ?_
              refine sq_p (.pointer (some ⟨b, 0, none⟩)) rfl (fun _ => by kernel_rfl) ?_
              refine sq_p (v7) rfl (fun _ => by kernel_rfl) ?_
              refine sq_p (.pointer (some ⟨b, 0, none⟩)) rfl (fun _ => by kernel_rfl) ?_
              refine sq_p (.pointer (some ⟨b, 0, none⟩)) rfl (fun _ => by kernel_rfl) ?_
              refine sq_sto rfl (h.slv 3 rfl) 0 [v7] h 2 rfl (by kernel_rfl) ?_; intro w h
              refine lnil ?_
              refine thn_n ?_
              refine c_seq ?_
              refine c_reg ?_
              refine sq_p (.int .i64 0) rfl (fun _ => by kernel_rfl) ?_
              refine lnil ?_
              refine thn_n ?_
              refine c_ret ?_
              refine ret_end [.int .i64 0] [2, 2] h (by kernel_rfl) (res_t (by kernel_rfl) res_n) ?_
              rw [show netSend l m = _ from netSend_ok hq2 hq3 (by omega) (by omega)]
              exact ⟨_, rfl, rfl⟩
            exact ad_nil
          exact ad_nil
    · skip
      refine sq_p (.bool true) (by kernel_rfl) (fun _ => by kernel_rfl) ?_
      refine sq_p (.bool true) rfl (fun _ => by kernel_rfl) ?_
      refine lnil ?_
      refine thn_n ?_
      refine c_true (by kernel_rfl) ?_
      refine c_seq ?_
      refine c_reg ?_
      refine sq_p (.int .i64 4) rfl (fun _ => by kernel_rfl) ?_
      refine lnil ?_
      refine thn_n ?_
      refine c_ret ?_
      refine thn_r ?_
      refine ret_end [.int .i64 4] [1, 1] h (by kernel_rfl) (res_t (by kernel_rfl) res_n) ?_
      rw [show netSend l m = _ from netSend_bad (.inr hq3)]
      exact ⟨_, rfl, rfl⟩
  · skip
    refine sq_p (.bool true) rfl (fun _ => by kernel_rfl) ?_
    refine sq_p (.bool true) rfl (fun _ => by kernel_rfl) ?_
    refine sn (by kernel_rfl) ?_
    refine sn (by kernel_rfl) ?_
    refine sn (by kernel_rfl) ?_
    refine sn (by kernel_rfl) ?_
    refine sq_p (.bool true) rfl (fun _ => by kernel_rfl) ?_
    refine lnil ?_
    refine thn_n ?_
    refine c_true (by kernel_rfl) ?_
    refine c_seq ?_
    refine c_reg ?_
    refine sq_p (.int .i64 4) rfl (fun _ => by kernel_rfl) ?_
    refine lnil ?_
    refine thn_n ?_
    refine c_ret ?_
    refine thn_r ?_
    refine ret_end [.int .i64 4] [1, 1] h (by kernel_rfl) (res_t (by kernel_rfl) res_n) ?_
    rw [show netSend l m = _ from netSend_bad (.inl hq2)]
    exact ⟨_, rfl, rfl⟩
set_option maxHeartbeats 1000000 in
theorem rnetTake_spec (b : Nat) (v : Value) (tt : TypeId) (l : List Msg) (k : Int) (hl : l.length ≤ 100) : Spec Tryd.prog 29 #[.pointer (some ⟨b, 0, none⟩), .int .i64 k] [rCell true b [v] tt, rRows true v 48 3 msgC l] (fun u L => (∃ (i : Nat) (x : Msg) (v' : Value), k = i ∧ l[i]? = some x ∧ u = .tuple #[.agg #[.string x.1, .string x.2.1, .string x.2.2], .bool true] ∧ L = [rCell true b [v'] tt, rRows true v' 48 3 msgC (netDel l i)]) ∨ (¬ (0 ≤ k ∧ k < l.length) ∧ u = .tuple #[.agg #[.string ⟨#[]⟩, .string ⟨#[]⟩, .string ⟨#[]⟩], .bool false] ∧ L = [rCell true b [v] tt, rRows true v 48 3 msgC l])) := by
  refine spec_of (#[.pointer (some ⟨b, 0, none⟩), .int .i64 k, undef, undef, undef, undef, undef, undef, undef, undef, undef, undef, undef, undef, undef, undef, undef, undef, undef, undef, undef, undef, undef, undef, undef, undef, undef, undef, undef, undef, undef, undef, undef, undef, undef, undef, undef, undef, undef, undef, undef, undef, undef, undef, undef, undef, undef, undef]) Tryd.func29 rfl (by kernel_rfl) fun E w0 w h => ?_
  refine c_seq ?_
  refine c_reg ?_
  refine sq_new rfl (fun b => .pointer (some ⟨b, 0, none⟩)) [.string (⟨#[]⟩ : ByteArray), .string (⟨#[]⟩ : ByteArray), .string (⟨#[]⟩ : ByteArray)] 48 (fun _ => by kernel_rfl) h ?_; intro k1 w h
  refine sq_p (.bool false) rfl (fun _ => by kernel_rfl) ?_
  refine lnil ?_
  refine thn_n ?_
  refine c_seq ?_
  refine c_seq ?_
  refine c_reg ?_
  refine sq_p (.int .i64 k) rfl (fun _ => by kernel_rfl) ?_
  obtain ⟨b2, hb2⟩ : ∃ b_ : Bool, b_ = (decide (k < 0)) := ⟨_, rfl⟩
  refine sq_q (v := .bool b2) rfl h (by subst hb2; exact g_pure (v := .bool (decide (k < 0))) fun _ => by kernel_rfl) ?_
  refine sq_p (.bool b2) rfl (fun _ => by kernel_rfl) ?_
  refine sq_m0 (v := .int .i64 k) b2 (by cases b2 <;> kernel_rfl) h (fun hB => by subst hB; exact g_pure (v := .int .i64 k) fun _ => by kernel_rfl) ?_
  refine sq_m0 (v := .pointer (some ⟨b, 0, none⟩)) b2 (by cases b2 <;> kernel_rfl) h (fun hB => by subst hB; exact g_pure (v := .pointer (some ⟨b, 0, none⟩)) fun _ => by kernel_rfl) ?_
  refine sq_m0 (v := .pointer (some ⟨b, 0, none⟩)) b2 (by cases b2 <;> kernel_rfl) h (fun hB => by subst hB; exact g_pure (v := .pointer (some ⟨b, 0, none⟩)) fun _ => by kernel_rfl) ?_
  refine sq_m0 (v := .pointer (some ⟨b, 0, none⟩)) b2 (by cases b2 <;> kernel_rfl) h (fun hB => by subst hB; exact g_pure (v := .pointer (some ⟨b, 0, none⟩)) fun _ => by kernel_rfl) ?_
  refine sq_m0 (v := v) b2 (by cases b2 <;> kernel_rfl) h (fun hB => by subst hB; exact g_ld 0 [v] (v) (by kernel_rfl) 1 rfl) ?_
  refine sq_m0 (v := .int .i64 (l.length : Int)) b2 (by cases b2 <;> kernel_rfl) h (fun hB => by subst hB; exact g_len (by kernel_rfl) 2 rfl) ?_
  obtain ⟨b3, hb3⟩ : ∃ b_ : Bool, b_ = (decide (k ≥ (l.length : Int))) := ⟨_, rfl⟩
  refine sq_m0 (v := .bool b3) b2 (by cases b2 <;> kernel_rfl) h (fun hB => by subst hB; exact by subst hb3; exact g_pure (v := .bool (decide (k ≥ (l.length : Int)))) fun _ => by kernel_rfl) ?_
  obtain ⟨b4, hb4⟩ : ∃ b_ : Bool, b_ = (b2 || b3) := ⟨_, rfl⟩
  refine sq_q (v := .bool b4) rfl h (by subst hb4; exact g_pure (v := .bool (b2 || b3)) fun _ => by cases b2 <;> kernel_rfl) ?_
  refine lnil ?_
  refine thn_n ?_
  refine c_cond (b4) (by kernel_rfl) (fun hc5 => ?_) (fun hc5 => ?_)
  · skip
    have q6 : (b2 || b3) = true := by rw [← hb4]; exact hc5
    have q7 : ((k < 0) ∨ (k ≥ (l.length : Int))) := by subst hb3; subst hb2; revert q6; first | (simp; done) | (simp; omega)
    refine c_seq ?_
    refine c_reg ?_
    refine sq_p (.agg #[.string (⟨#[]⟩ : ByteArray), .string (⟨#[]⟩ : ByteArray), .string (⟨#[]⟩ : ByteArray)]) rfl (fun _ => by kernel_rfl) ?_
    refine sq_st rfl 0 [.string (⟨#[]⟩ : ByteArray), .string (⟨#[]⟩ : ByteArray), .string (⟨#[]⟩ : ByteArray)] [.string (⟨#[]⟩ : ByteArray), .string (⟨#[]⟩ : ByteArray), .string (⟨#[]⟩ : ByteArray)] h 0 rfl (by kernel_rfl) ?_; intro w h
    refine sq_p (.bool false) rfl (fun _ => by kernel_rfl) ?_
    refine lnil ?_
    refine thn_n ?_
    refine c_ret ?_
    refine thn_r ?_
    refine ret_end [.agg #[.string (⟨#[]⟩ : ByteArray), .string (⟨#[]⟩ : ByteArray), .string (⟨#[]⟩ : ByteArray)], .bool false] [1, 1] h (by kernel_rfl) (res_c 0 [.string (⟨#[]⟩ : ByteArray), .string (⟨#[]⟩ : ByteArray), .string (⟨#[]⟩ : ByteArray)] (.agg #[.string (⟨#[]⟩ : ByteArray), .string (⟨#[]⟩ : ByteArray), .string (⟨#[]⟩ : ByteArray)]) 0 rfl (by kernel_rfl) (res_t (by kernel_rfl) res_n)) ?_
    exact .inr ⟨by omega, rfl, rfl⟩
  · skip
    have q8 : (b2 || b3) = false := by rw [← hb4]; exact hc5
    have q9 : b2 = false := by revert q8; cases b2 <;> simp
    have q10 : b3 = false := by revert q8; cases b2 <;> cases b3 <;> simp
    have q11 : (decide (k < 0)) = false := by rw [← hb2]; exact q9
    have q11 := of_decide_eq_false q11
    have q12 : (decide (k ≥ (l.length : Int))) = false := by rw [← hb3]; exact q10
    have q12 := of_decide_eq_false q12
    refine c_skip ?_
    refine thn_n ?_
    refine c_seq ?_
    refine c_reg ?_
    refine sq_p (.pointer (some ⟨b, 0, none⟩)) rfl (fun _ => by kernel_rfl) ?_
    refine sq_p (.pointer (some ⟨b, 0, none⟩)) rfl (fun _ => by kernel_rfl) ?_
    refine sq_p (.pointer (some ⟨b, 0, none⟩)) rfl (fun _ => by kernel_rfl) ?_
    refine sq_q rfl h (g_ld 0 [v] (v) (by kernel_rfl) 1 rfl) ?_
    refine sq_p (.int .i64 k) rfl (fun _ => by kernel_rfl) ?_
    obtain ⟨j13, hj13⟩ : ∃ n : Nat, k = (n : Int) := ⟨(k).toNat, by omega⟩
    have hi14 : j13 < l.length := by omega
    obtain ⟨x15, hx16⟩ : ∃ x, l[j13]? = some x := ⟨_, List.getElem?_eq_getElem hi14⟩
    refine sq_q rfl h (g_idxI j13 hj13 (by kernel_rfl) hi14 2 rfl) ?_
    refine sq_q rfl h (g_ldr (b := blkN v) (offN v + j13 * 3) [.string x15.1, .string x15.2.1, .string x15.2.2] (.agg #[.string x15.1, .string x15.2.1, .string x15.2.2]) (by kernel_rfl) 2 rfl (rdRow0 msgC_len hx16 (by kernel_rfl))) ?_
    refine sq_new rfl (fun b => .pointer (some ⟨b, 0, none⟩)) [.string (⟨#[]⟩ : ByteArray), .string (⟨#[]⟩ : ByteArray), .string (⟨#[]⟩ : ByteArray)] 48 (fun _ => by kernel_rfl) h ?_; intro k17 w h
    refine sq_st rfl 0 [.string x15.1, .string x15.2.1, .string x15.2.2] [.string x15.1, .string x15.2.1, .string x15.2.2] h 0 rfl (by kernel_rfl) ?_; intro w h
    refine lnil ?_
    refine thn_n ?_
    refine c_seq ?_
    refine c_reg ?_
    refine sq_p (.slice none 0 0) rfl (fun _ => by kernel_rfl) ?_
    refine lnil ?_
    refine thn_n ?_
    refine c_seq ?_
    refine c_reg ?_
    refine sq_p (.slice none 0 0) rfl (fun _ => by kernel_rfl) ?_
    refine sq_p (.pointer (some ⟨b, 0, none⟩)) rfl (fun _ => by kernel_rfl) ?_
    refine sq_p (.pointer (some ⟨b, 0, none⟩)) rfl (fun _ => by kernel_rfl) ?_
    refine sq_p (.pointer (some ⟨b, 0, none⟩)) rfl (fun _ => by kernel_rfl) ?_
    refine sq_q rfl h (g_ld 0 [v] (v) (by kernel_rfl) 2 rfl) ?_
    refine sq_p (.int .i64 k) rfl (fun _ => by kernel_rfl) ?_
    refine sq_q rfl h (g_sub2 (v := v) (d := 48) (k := 3) (LV := none) (HV := (some (.int .i64 k))) 0 j13 (by kernel_rfl) rfl (bnd hj13) (by omega) (by omega) 3 rfl slRd_rows) ?_
    have h := h.nilRows 48 3 msgC
    refine sq_apps rfl 0 j13 (by kernel_rfl) msgC_len (fun _ => rfl) (by omega) (by omega) h 0 rfl 4 rfl slRd_rows (by simp; omega) ?_; intro v18 w h
    refine sq_p (v18) rfl (fun _ => by kernel_rfl) ?_
    refine lnil ?_
    refine thn_n ?_
    refine c_seq ?_
    refine c_reg ?_
    refine sq_p (.pointer (some ⟨b, 0, none⟩)) rfl (fun _ => by kernel_rfl) ?_
    refine sq_p (v18) rfl (fun _ => by kernel_rfl) ?_
    refine sq_p (.pointer (some ⟨b, 0, none⟩)) rfl (fun _ => by kernel_rfl) ?_
    refine sq_p (.pointer (some ⟨b, 0, none⟩)) rfl (fun _ => by kernel_rfl) ?_
    refine sq_p (.pointer (some ⟨b, 0, none⟩)) rfl (fun _ => by kernel_rfl) ?_
    refine sq_q rfl h (g_ld 0 [v] (v) (by kernel_rfl) 3 rfl) ?_
    refine sq_p (.int .i64 k) rfl (fun _ => by kernel_rfl) ?_
    refine sq_q rfl h (g_eq (v := .int .i64 (IntKind.i64.wrap (k + 1))) (v' := .int .i64 (k + 1)) (g_pure fun _ => by kernel_rfl) (wr (by omega))) ?_
    obtain ⟨j19, hj19⟩ : ∃ n : Nat, k + 1 = (n : Int) := ⟨(k + 1).toNat, by omega⟩
    refine sq_q rfl h (g_sub2 (v := v) (d := 48) (k := 3) (LV := (some (.int .i64 (k + 1)))) (HV := none) j19 l.length (by kernel_rfl) (bnd hj19) rfl (by omega) (by omega) 4 rfl slRd_rows) ?_
    refine sq_apps rfl j19 l.length (by kernel_rfl) msgC_len (fun _ => rfl) (by omega) (by omega) h 0 rfl 4 rfl slRd_rows (by simp; omega) ?_; intro v20 w h
    refine sq_p (.pointer (some ⟨b, 0, none⟩)) rfl (fun _ => by kernel_rfl) ?_
    refine sq_p (.pointer (some ⟨b, 0, none⟩)) rfl (fun _ => by kernel_rfl) ?_
    refine sq_sto rfl (h.slv 0 rfl) 0 [v20] h 3 rfl (by kernel_rfl) ?_; intro w h
    refine lnil ?_
    refine thn_n ?_
    refine c_seq ?_
    refine c_reg ?_
    refine sq_q rfl h (g_ld 0 [.string x15.1, .string x15.2.1, .string x15.2.2] (.agg #[.string x15.1, .string x15.2.1, .string x15.2.2]) (by kernel_rfl) 1 rfl) ?_
    refine sq_st rfl 0 [.string x15.1, .string x15.2.1, .string x15.2.2] [.string x15.1, .string x15.2.1, .string x15.2.2] h 2 rfl (by kernel_rfl) ?_; intro w h
    refine sq_p (.bool true) rfl (fun _ => by kernel_rfl) ?_
    refine lnil ?_
    refine thn_n ?_
    refine c_ret ?_
    refine ret_end [.agg #[.string x15.1, .string x15.2.1, .string x15.2.2], .bool true] [3, 0] h (by kernel_rfl) (res_c 0 [.string x15.1, .string x15.2.1, .string x15.2.2] (.agg #[.string x15.1, .string x15.2.1, .string x15.2.2]) 2 rfl (by kernel_rfl) (res_t (by kernel_rfl) res_n)) ?_
    have ej : j19 = j13 + 1 := by omega
    subst ej
    rw [show [] ++ (l.take j13).drop 0 ++ (l.take l.length).drop (j13 + 1) = netDel l j13 from by simp [netDel]]
    exact .inl ⟨j13, x15, _, by omega, hx16, rfl, rfl⟩
set_option maxHeartbeats 1000000 in
theorem rnetTwice_spec (b : Nat) (v : Value) (tt : TypeId) (l : List Msg) (k : Int) (hl : l.length ≤ 100) : Spec Tryd.prog 33 #[.pointer (some ⟨b, 0, none⟩), .int .i64 k] [rCell true b [v] tt, rRows true v 48 3 msgC l] (fun u L => (∃ (i : Nat) (x : Msg) (v' : Value), k = i ∧ l[i]? = some x ∧ l.length < 100 ∧ u = .int .i64 0 ∧ L = [rCell true b [v'] tt, rRows true v' 48 3 msgC (netTw l i x)]) ∨ (¬ (0 ≤ k ∧ k < l.length) ∧ u = .int .i64 5 ∧ L = [rCell true b [v] tt, rRows true v 48 3 msgC l]) ∨ ((0 ≤ k ∧ k < l.length) ∧ 100 ≤ l.length ∧ u = .int .i64 9 ∧ L = [rCell true b [v] tt, rRows true v 48 3 msgC l])) := by
  refine spec_of (#[.pointer (some ⟨b, 0, none⟩), .int .i64 k, undef, undef, undef, undef, undef, undef, undef, undef, undef, undef, undef, undef, undef, undef, undef, undef, undef, undef, undef, undef, undef, undef, undef, undef, undef, undef, undef, undef, undef, undef, undef, undef, undef, undef, undef, undef, undef, undef, undef, undef, undef, undef, undef, undef, undef, undef, undef, undef, undef, undef, undef, undef]) Tryd.func33 rfl (by kernel_rfl) fun E w0 w h => ?_
  refine c_seq ?_
  refine c_reg ?_
  refine sq_p (.int .i64 0) rfl (fun _ => by kernel_rfl) ?_
  refine lnil ?_
  refine thn_n ?_
  refine c_seq ?_
  refine c_seq ?_
  refine c_reg ?_
  refine sq_p (.int .i64 k) rfl (fun _ => by kernel_rfl) ?_
  obtain ⟨b1, hb1⟩ : ∃ b_ : Bool, b_ = (decide (k < 0)) := ⟨_, rfl⟩
  refine sq_q (v := .bool b1) rfl h (by subst hb1; exact g_pure (v := .bool (decide (k < 0))) fun _ => by kernel_rfl) ?_
  refine sq_p (.bool b1) rfl (fun _ => by kernel_rfl) ?_
  refine sq_m0 (v := .int .i64 k) b1 (by cases b1 <;> kernel_rfl) h (fun hB => by subst hB; exact g_pure (v := .int .i64 k) fun _ => by kernel_rfl) ?_
  refine sq_m0 (v := .pointer (some ⟨b, 0, none⟩)) b1 (by cases b1 <;> kernel_rfl) h (fun hB => by subst hB; exact g_pure (v := .pointer (some ⟨b, 0, none⟩)) fun _ => by kernel_rfl) ?_
  refine sq_m0 (v := .pointer (some ⟨b, 0, none⟩)) b1 (by cases b1 <;> kernel_rfl) h (fun hB => by subst hB; exact g_pure (v := .pointer (some ⟨b, 0, none⟩)) fun _ => by kernel_rfl) ?_
  refine sq_m0 (v := .pointer (some ⟨b, 0, none⟩)) b1 (by cases b1 <;> kernel_rfl) h (fun hB => by subst hB; exact g_pure (v := .pointer (some ⟨b, 0, none⟩)) fun _ => by kernel_rfl) ?_
  refine sq_m0 (v := v) b1 (by cases b1 <;> kernel_rfl) h (fun hB => by subst hB; exact g_ld 0 [v] (v) (by kernel_rfl) 0 rfl) ?_
  refine sq_m0 (v := .int .i64 (l.length : Int)) b1 (by cases b1 <;> kernel_rfl) h (fun hB => by subst hB; exact g_len (by kernel_rfl) 1 rfl) ?_
  obtain ⟨b2, hb2⟩ : ∃ b_ : Bool, b_ = (decide (k ≥ (l.length : Int))) := ⟨_, rfl⟩
  refine sq_m0 (v := .bool b2) b1 (by cases b1 <;> kernel_rfl) h (fun hB => by subst hB; exact by subst hb2; exact g_pure (v := .bool (decide (k ≥ (l.length : Int)))) fun _ => by kernel_rfl) ?_
  obtain ⟨b3, hb3⟩ : ∃ b_ : Bool, b_ = (b1 || b2) := ⟨_, rfl⟩
  refine sq_q (v := .bool b3) rfl h (by subst hb3; exact g_pure (v := .bool (b1 || b2)) fun _ => by cases b1 <;> kernel_rfl) ?_
  refine lnil ?_
  refine thn_n ?_
  refine c_cond (b3) (by kernel_rfl) (fun hc4 => ?_) (fun hc4 => ?_)
  · skip
    have q5 : (b1 || b2) = true := by rw [← hb3]; exact hc4
    have q6 : ((k < 0) ∨ (k ≥ (l.length : Int))) := by subst hb2; subst hb1; revert q5; first | (simp; done) | (simp; omega)
    refine c_seq ?_
    refine c_reg ?_
    refine sq_p (.int .i64 5) rfl (fun _ => by kernel_rfl) ?_
    refine lnil ?_
    refine thn_n ?_
    refine c_ret ?_
    refine thn_r ?_
    refine ret_end [.int .i64 5] [0, 0] h (by kernel_rfl) (res_t (by kernel_rfl) res_n) ?_
    exact .inr (.inl ⟨by omega, rfl, rfl⟩)
  · skip
    have q7 : (b1 || b2) = false := by rw [← hb3]; exact hc4
    have q8 : b1 = false := by revert q7; cases b1 <;> simp
    have q9 : b2 = false := by revert q7; cases b1 <;> cases b2 <;> simp
    have q10 : (decide (k < 0)) = false := by rw [← hb1]; exact q8
    have q10 := of_decide_eq_false q10
    have q11 : (decide (k ≥ (l.length : Int))) = false := by rw [← hb2]; exact q9
    have q11 := of_decide_eq_false q11
    refine c_skip ?_
    refine thn_n ?_
    refine c_seq ?_
    refine c_seq ?_
    refine c_reg ?_
    refine sq_p (.pointer (some ⟨b, 0, none⟩)) rfl (fun _ => by kernel_rfl) ?_
    refine sq_p (.pointer (some ⟨b, 0, none⟩)) rfl (fun _ => by kernel_rfl) ?_
    refine sq_p (.pointer (some ⟨b, 0, none⟩)) rfl (fun _ => by kernel_rfl) ?_
    refine sq_q rfl h (g_ld 0 [v] (v) (by kernel_rfl) 0 rfl) ?_
    refine sq_q rfl h (g_len (by kernel_rfl) 1 rfl) ?_
    refine sq_p (.bool (decide ((l.length : Int) ≥ 100))) rfl (fun _ => by kernel_rfl) ?_
    refine lnil ?_
    refine thn_n ?_
    refine c_cond (decide ((l.length : Int) ≥ 100)) (by kernel_rfl) (fun hc12 => ?_) (fun hc12 => ?_)
    · skip
      have hc12 := of_decide_eq_true hc12
      refine c_seq ?_
      refine c_reg ?_
      refine sq_p (.int .i64 9) rfl (fun _ => by kernel_rfl) ?_
      refine lnil ?_
      refine thn_n ?_
      refine c_ret ?_
      refine thn_r ?_
      refine ret_end [.int .i64 9] [0, 0] h (by kernel_rfl) (res_t (by kernel_rfl) res_n) ?_
      exact .inr (.inr ⟨by omega, by omega, rfl, rfl⟩)
    · skip
      have hc12 := of_decide_eq_false hc12
      refine c_skip ?_
      refine thn_n ?_
      refine c_seq ?_
      refine c_reg ?_
      refine sq_p (.slice none 0 0) rfl (fun _ => by kernel_rfl) ?_
      refine lnil ?_
      refine thn_n ?_
      refine c_seq ?_
      refine c_reg ?_
      refine sq_p (.slice none 0 0) rfl (fun _ => by kernel_rfl) ?_
      refine sq_p (.pointer (some ⟨b, 0, none⟩)) rfl (fun _ => by kernel_rfl) ?_
      refine sq_p (.pointer (some ⟨b, 0, none⟩)) rfl (fun _ => by kernel_rfl) ?_
      refine sq_p (.pointer (some ⟨b, 0, none⟩)) rfl (fun _ => by kernel_rfl) ?_
      refine sq_q rfl h (g_ld 0 [v] (v) (by kernel_rfl) 0 rfl) ?_
      refine sq_p (.int .i64 k) rfl (fun _ => by kernel_rfl) ?_
      refine sq_q rfl h (g_eq (v := .int .i64 (IntKind.i64.wrap (k + 1))) (v' := .int .i64 (k + 1)) (g_pure fun _ => by kernel_rfl) (wr (by omega))) ?_
      obtain ⟨j13, hj13⟩ : ∃ n : Nat, k + 1 = (n : Int) := ⟨(k + 1).toNat, by omega⟩
      refine sq_q rfl h (g_sub2 (v := v) (d := 48) (k := 3) (LV := none) (HV := (some (.int .i64 (k + 1)))) 0 j13 (by kernel_rfl) rfl (bnd hj13) (by omega) (by omega) 1 rfl slRd_rows) ?_
      have h := h.nilRows 48 3 msgC
      refine sq_apps rfl 0 j13 (by kernel_rfl) msgC_len (fun _ => rfl) (by omega) (by omega) h 0 rfl 2 rfl slRd_rows (by simp; omega) ?_; intro v14 w h
      refine sq_p (v14) rfl (fun _ => by kernel_rfl) ?_
      refine lnil ?_
      refine thn_n ?_
      refine c_seq ?_
      refine c_reg ?_
      refine sq_p (v14) rfl (fun _ => by kernel_rfl) ?_
      refine sq_p (.pointer (some ⟨b, 0, none⟩)) rfl (fun _ => by kernel_rfl) ?_
      refine sq_p (.pointer (some ⟨b, 0, none⟩)) rfl (fun _ => by kernel_rfl) ?_
      refine sq_p (.pointer (some ⟨b, 0, none⟩)) rfl (fun _ => by kernel_rfl) ?_
      refine sq_q rfl h (g_ld 0 [v] (v) (by kernel_rfl) 1 rfl) ?_
      refine sq_p (.int .i64 k) rfl (fun _ => by kernel_rfl) ?_
      obtain ⟨j15, hj15⟩ : ∃ n : Nat, k = (n : Int) := ⟨(k).toNat, by omega⟩
      have hi16 : j15 < l.length := by omega
      obtain ⟨x17, hx18⟩ : ∃ x, l[j15]? = some x := ⟨_, List.getElem?_eq_getElem hi16⟩
      refine sq_q rfl h (g_idxI j15 hj15 (by kernel_rfl) hi16 2 rfl) ?_
      refine sq_q rfl h (g_ldr (b := blkN v) (offN v + j15 * 3) [.string x17.1, .string x17.2.1, .string x17.2.2] (.agg #[.string x17.1, .string x17.2.1, .string x17.2.2]) (by kernel_rfl) 2 rfl (rdRow0 msgC_len hx18 (by kernel_rfl))) ?_
      refine sq_new rfl (fun b => .slice (some ⟨b, 0, none⟩) 1 1) [.string x17.1, .string x17.2.1, .string x17.2.2] 48 (fun _ => by kernel_rfl) h ?_; intro k19 w h
      refine sq_app (b := k19) (o := 0) rfl 1 x17 (by kernel_rfl) h 1 rfl 0 rfl (rdCell 0 (by kernel_rfl)) (by simp; omega) ?_; intro v20 w h
      refine sq_p (v20) rfl (fun _ => by kernel_rfl) ?_
      refine lnil ?_
      refine thn_n ?_
      refine c_seq ?_
      refine c_reg ?_
      refine sq_p (.pointer (some ⟨b, 0, none⟩)) rfl (fun _ => by kernel_rfl) ?_
      refine sq_p (v20) rfl (fun _ => by kernel_rfl) ?_
      refine sq_p (.pointer (some ⟨b, 0, none⟩)) rfl (fun _ => by kernel_rfl) ?_
      refine sq_p (.pointer (some ⟨b, 0, none⟩)) rfl (fun _ => by kernel_rfl) ?_
      refine sq_p (.pointer (some ⟨b, 0, none⟩)) rfl (fun _ => by kernel_rfl) ?_
      refine sq_q rfl h (g_ld 0 [v] (v) (by kernel_rfl) 2 rfl) ?_
      refine sq_p (.int .i64 k) rfl (fun _ => by kernel_rfl) ?_
      refine sq_q rfl h (g_eq (v := .int .i64 (IntKind.i64.wrap (k + 1))) (v' := .int .i64 (k + 1)) (g_pure fun _ => by kernel_rfl) (wr (by omega))) ?_
      refine sq_q rfl h (g_sub2 (v := v) (d := 48) (k := 3) (LV := (some (.int .i64 (k + 1)))) (HV := none) j13 l.length (by kernel_rfl) (bnd hj13) rfl (by omega) (by omega) 3 rfl slRd_rows) ?_
      refine sq_apps rfl j13 l.length (by kernel_rfl) msgC_len (fun _ => rfl) (by omega) (by omega) h 1 rfl 3 rfl slRd_rows (by simp; omega) ?_; intro v21 w h
      refine sq_p (.pointer (some ⟨b, 0, none⟩)) rfl (fun _ => by kernel_rfl) ?_
      refine sq_p (.pointer (some ⟨b, 0, none⟩)) rfl (fun _ => by kernel_rfl) ?_
      refine sq_sto rfl (h.slv 1 rfl) 0 [v21] h 2 rfl (by kernel_rfl) ?_; intro w h
      refine lnil ?_
      refine thn_n ?_
      refine c_seq ?_
      refine c_reg ?_
      refine sq_p (.int .i64 0) rfl (fun _ => by kernel_rfl) ?_
      refine lnil ?_
      refine thn_n ?_
      refine c_ret ?_
      refine ret_end [.int .i64 0] [2, 1] h (by kernel_rfl) (res_t (by kernel_rfl) res_n) ?_
      have ej : j13 = j15 + 1 := by omega
      subst ej
      rw [show [] ++ (l.take (j15 + 1)).drop 0 ++ [x17] ++ (l.take l.length).drop (j15 + 1) = netTw l j15 x17 from by simp [netTw]]
      exact .inl ⟨j15, x17, _, by omega, hx18, by omega, rfl, rfl⟩
set_option maxHeartbeats 1000000 in
theorem rnetFor_spec (b : Nat) (v : Value) (tt : TypeId) (l : List Msg) (t : ByteArray) (hl : l.length ≤ 100) : Spec Tryd.prog 35 #[.pointer (some ⟨b, 0, none⟩), .string t] [rCell true b [v] tt, rRows true v 48 3 msgC l] (fun u L => u = .int .i64 (firstM l t) ∧ L = [rCell true b [v] tt, rRows true v 48 3 msgC l]) := by
  refine spec_of (#[.pointer (some ⟨b, 0, none⟩), .string t, undef, undef, undef, undef, undef, undef, undef, undef, undef, undef, undef, undef, undef, undef, undef, undef, undef, undef, undef, undef, undef, undef, undef, undef]) Tryd.func35 rfl (by kernel_rfl) fun E w0 w h => ?_
  refine c_seq ?_
  refine c_reg ?_
  refine sq_p (.int .i64 0) rfl (fun _ => by kernel_rfl) ?_
  refine lnil ?_
  refine thn_n ?_
  refine c_seq ?_
  refine c_seq ?_
  refine c_reg ?_
  refine sq_p (.int .i64 0) rfl (fun _ => by kernel_rfl) ?_
  refine lnil ?_
  refine thn_n ?_
  refine c_block ?_
  refine c_loop (X := Nat × (Nat → Value)) (fun ⟨i, J0⟩ => ⟨#[.pointer (some ⟨b, 0, none⟩), .string t, undef, undef, J0 4, .int .i64 (i : Int), J0 6, J0 7, J0 8, J0 9, J0 10, J0 11, J0 12, J0 13, J0 14, J0 15, J0 16, J0 17, J0 18, J0 19, J0 20, J0 21, J0 22, J0 23, J0 24, J0 25], []⟩)
    (fun ⟨i, J0⟩ => [rCell true b [v] tt, rRows true v 48 3 msgC l]) (fun ⟨i, J0⟩ => i ≤ l.length ∧ ∀ j y, j < i → l[j]? = some y → toP t y = false) (fun ⟨i, J0⟩ => l.length - i)
    ⟨0, (fun n => (#[.pointer (some ⟨b, 0, none⟩), .string t, undef, undef, .int .i64 0, .int .i64 0, undef, undef, undef, undef, undef, undef, undef, undef, undef, undef, undef, undef, undef, undef, undef, undef, undef, undef, undef, undef] : Array Value).getD n undef)⟩ ⟨by omega, fun j y hj => by omega⟩ (by kernel_rfl) [0, 0] (by kernel_rfl) h ?_
  rintro ⟨i, J0⟩ w hG h
  obtain ⟨hi0, hno⟩ : i ≤ l.length ∧ ∀ j y, j < i → l[j]? = some y → toP t y = false := hG
  refine c_seq ?_
  refine c_seq ?_
  refine c_reg ?_
  refine sq_p (.int .i64 (i : Int)) rfl (fun _ => by kernel_rfl) ?_
  refine sq_p (.pointer (some ⟨b, 0, none⟩)) rfl (fun _ => by kernel_rfl) ?_
  refine sq_p (.pointer (some ⟨b, 0, none⟩)) rfl (fun _ => by kernel_rfl) ?_
  refine sq_p (.pointer (some ⟨b, 0, none⟩)) rfl (fun _ => by kernel_rfl) ?_
  refine sq_q rfl h (g_ld 0 [v] (v) (by kernel_rfl) 0 rfl) ?_
  refine sq_q rfl h (g_len (by kernel_rfl) 1 rfl) ?_
  refine sq_p (.bool (decide ((i : Int) < (l.length : Int)))) rfl (fun _ => by kernel_rfl) ?_
  refine lnil ?_
  refine thn_n ?_
  refine c_cond (decide ((i : Int) < (l.length : Int))) (by kernel_rfl) (fun hc1 => ?_) (fun hc1 => ?_)
  · skip
    have hc1 := of_decide_eq_true hc1
    refine c_skip ?_
    refine thn_n ?_
    refine c_seq ?_
    refine c_block ?_
    refine c_seq ?_
    refine c_reg ?_
    refine sq_p (.pointer (some ⟨b, 0, none⟩)) rfl (fun _ => by kernel_rfl) ?_
    refine sq_p (.pointer (some ⟨b, 0, none⟩)) rfl (fun _ => by kernel_rfl) ?_
    refine sq_p (.pointer (some ⟨b, 0, none⟩)) rfl (fun _ => by kernel_rfl) ?_
    refine sq_q rfl h (g_ld 0 [v] (v) (by kernel_rfl) 0 rfl) ?_
    refine sq_p (.int .i64 (i : Int)) rfl (fun _ => by kernel_rfl) ?_
    have hi2 : i < l.length := by omega
    obtain ⟨x3, hx4⟩ : ∃ x, l[i]? = some x := ⟨_, List.getElem?_eq_getElem hi2⟩
    refine sq_q rfl h (g_idx i (by kernel_rfl) hi2 1 rfl) ?_
    refine sq_p (.pointer (some ⟨blkN v, offN v + i * 3 + 1, none⟩)) rfl (fun _ => by kernel_rfl) ?_
    refine sq_q rfl h (g_ldr (b := blkN v) (offN v + i * 3 + 1) [.string x3.2.1] (.string x3.2.1) (by kernel_rfl) 1 rfl (rdRow msgC_len hx4 1 (by kernel_rfl))) ?_
    refine sq_p (.string t) rfl (fun _ => by kernel_rfl) ?_
    refine sq_q rfl h (g_eq (v := .bool (x3.2.1.toList == t.toList)) (v' := .bool (decide (x3.2.1 = t))) (g_pure fun _ => by kernel_rfl) beqS) ?_
    refine lnil ?_
    refine thn_n ?_
    refine c_cond (decide (x3.2.1 = t)) (by kernel_rfl) (fun hc5 => ?_) (fun hc5 => ?_)
    · skip
      have hc5 := of_decide_eq_true hc5
      refine c_seq ?_
      refine c_reg ?_
      refine sq_p (.int .i64 (i : Int)) rfl (fun _ => by kernel_rfl) ?_
      refine sq_p (.int .i64 (i : Int)) rfl (fun _ => by kernel_rfl) ?_
      refine lnil ?_
      refine thn_n ?_
      refine c_ret ?_
      refine blk_r (thn_r (rnd_r (blk_r (thn_r ?_))))
      refine ret_end [.int .i64 (i : Int)] [0, 0] h (by kernel_rfl) (res_t (by kernel_rfl) res_n) ?_
      rw [first_some hx4 (decide_eq_true hc5) hno]
      exact ⟨rfl, rfl⟩
    · skip
      have hc5 := of_decide_eq_false hc5
      refine c_skip ?_
      refine blk_n (thn_n ?_)
      refine c_reg ?_
      refine sq_p (.int .i64 (i : Int)) rfl (fun _ => by kernel_rfl) ?_
      refine sq_q rfl h (g_eq (v := .int .i64 (IntKind.i64.wrap ((i : Int) + 1))) (v' := .int .i64 ((i + 1 : Nat) : Int)) (g_pure fun _ => by kernel_rfl) (wr (by omega))) ?_
      refine sq_p (.int .i64 ((i + 1 : Nat) : Int)) rfl (fun _ => by kernel_rfl) ?_
      refine lnil ?_
      refine loop_end (fun j => ⟨(i + 1), j⟩) (show ((i + 1) ≤ l.length ∧ ∀ j y, j < (i + 1) → l[j]? = some y → toP t y = false) ∧ (l.length - (i + 1)) < (l.length - i) from ⟨⟨by omega, msg_no hno hx4 (decide_eq_false hc5)⟩, by omega⟩) (by kernel_rfl) [0, 0] (by kernel_rfl) h
  · skip
    have hc1 := of_decide_eq_false hc1
    refine c_exit ?_
    refine thn_e (rnd_e (blk_e (thn_n ?_)))
    refine c_seq ?_
    refine c_reg ?_
    refine sq_p (.int .i64 (-1)) rfl (fun _ => by kernel_rfl) ?_
    refine lnil ?_
    refine thn_n ?_
    refine c_ret ?_
    refine ret_end [.int .i64 (-1)] [0, 0] h (by kernel_rfl) (res_t (by kernel_rfl) res_n) ?_
    rw [first_none (fun j y hj => hno j y (by omega))]
    exact ⟨rfl, rfl⟩
end Go.Proofs.YtofhnglgebllbaaDoor
