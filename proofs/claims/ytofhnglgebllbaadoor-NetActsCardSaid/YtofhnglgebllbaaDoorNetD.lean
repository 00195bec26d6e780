/- net: contracts by what is owned (printed by walk.py). -/
import Derived.Test.YtofhnglgebllbaaDoorNetB
import Derived.Test.YtofhnglgebllbaaDoorOp10
namespace Go.Proofs.YtofhnglgebllbaaDoor
open Go.RowKit
set_option linter.unusedVariables false
set_option linter.unusedSimpArgs false
set_option linter.unnecessarySimpa false
set_option maxRecDepth 100000

theorem del_eq {l : List Msg} {k : Nat} (hk : k < l.length) (r : List Msg) : ((l.take k ++ (l.drop (k + 1) ++ r)).take (k + (l.length - (k + 1)))) = netDel l k := by
  unfold netDel
  rw [← List.append_assoc, List.take_append_of_le_length (by simp; omega), List.take_of_length_le (by simp; omega)]
theorem del_eq2 {l : List Msg} {k : Nat} (hk : k < l.length) (r r2 : List Msg) : ((((l.take k ++ (l.drop (k + 1) ++ r)).take (k + (l.length - (k + 1)))) ++ r2).take (k + (l.length - (k + 1)))) = netDel l k := by
  rw [List.take_append_of_le_length (by simp; omega), List.take_take, Nat.min_self, del_eq hk]

set_option maxHeartbeats 1000000 in
theorem delMsg_spec (v : Value) (l : List Msg) (k : Nat) (hk : k < l.length) (hl : l.length ≤ 100) : Spec Tryd.prog 106 #[v, .int .i64 (k : Int), .int .i64 ((k + 1 : Nat) : Int)] [rRows true v 52 3 msgC l] (fun u L => ∃ v', u = v' ∧ L = [rRows true v' 52 3 msgC (netDel l k)]) := by
  refine spec_of (#[v, .int .i64 (k : Int), .int .i64 ((k + 1 : Nat) : Int), undef, undef, undef, undef, undef, undef, undef, undef, undef, undef, undef, undef, undef, undef, undef, undef, undef, undef, undef, undef, undef, undef, undef, undef, undef, undef, undef, undef, undef, undef]) Tryd.func106 rfl (by kernel_rfl) fun E w0 w h => ?_
  refine c_seq ?_
  refine c_reg ?_
  refine sq_p (.slice none 0 0) rfl (fun _ => by kernel_rfl) ?_
  refine lnil ?_
  refine thn_n ?_
  refine c_seq ?_
  refine c_reg ?_
  refine sq_p (v) rfl (fun _ => by kernel_rfl) ?_
  refine sq_p (.int .i64 (k : Int)) rfl (fun _ => by kernel_rfl) ?_
  refine sq_p (.int .i64 ((k + 1 : Nat) : Int)) rfl (fun _ => by kernel_rfl) ?_
  refine sq_p (v) rfl (fun _ => by kernel_rfl) ?_
  refine sq_q rfl h (g_len (by kernel_rfl) 0 rfl) ?_
  refine sq_q rfl h (g_sub3 (v := v) (d := 52) (k := 3) k (k + 1) l.length (by kernel_rfl) rfl rfl rfl (by omega) (by omega) (by omega) 0 rfl slRd_rows) ?_
  refine lnil ?_
  refine thn_n ?_
  refine c_seq ?_
  refine c_seq ?_
  refine c_reg ?_
  refine sq_p (.int .i64 (k : Int)) rfl (fun _ => by kernel_rfl) ?_
  refine sq_p (.int .i64 ((k + 1 : Nat) : Int)) rfl (fun _ => by kernel_rfl) ?_
  refine sq_p (.bool (decide ((k : Int) = ((k + 1 : Nat) : Int)))) rfl (fun _ => by kernel_rfl) ?_
  refine lnil ?_
  refine thn_n ?_
  refine c_cond (decide ((k : Int) = ((k + 1 : Nat) : Int))) (by kernel_rfl) (fun hc1 => ?_) (fun hc1 => ?_)
  · skip
    have hc1 := of_decide_eq_true hc1
    exfalso; omega
  · skip
    have hc1 := of_decide_eq_false hc1
    refine c_skip ?_
    refine thn_n ?_
    refine c_seq ?_
    refine c_reg ?_
    refine sq_p (v) rfl (fun _ => by kernel_rfl) ?_
    refine sq_q rfl h (g_len (by kernel_rfl) 0 rfl) ?_
    refine sq_p (.int .i64 (l.length : Int)) rfl (fun _ => by kernel_rfl) ?_
    refine lnil ?_
    refine thn_n ?_
    refine c_seq ?_
    refine d_start 8 [] (by kernel_rfl) h fun w h => ?_
    refine d_take 0 58 [] rfl (v := v) (by kernel_rfl) (qp_thn qp_body) (yq (by kernel_rfl) (g_pure (v := v) fun _ => by kernel_rfl)) h (by kernel_rfl) ?_
    refine d_take 1 57 [] rfl (v := .int .i64 (k : Int)) (by kernel_rfl) (qp_thn qp_body) (yq (by kernel_rfl) (g_pure (v := .int .i64 (k : Int)) fun _ => by kernel_rfl)) h (by kernel_rfl) ?_
    refine d_take 3 23 [] rfl (v := v) (by kernel_rfl) (qp_thn qp_body) (yq (by kernel_rfl) (g_pure (v := v) fun _ => by kernel_rfl)) h (by kernel_rfl) ?_
    refine d_take 4 15 [] rfl (v := .int .i64 ((k + 1 : Nat) : Int)) (by kernel_rfl) (qp_thn qp_body) (yq (by kernel_rfl) (g_pure (v := .int .i64 ((k + 1 : Nat) : Int)) fun _ => by kernel_rfl)) h (by kernel_rfl) ?_
    refine d_ready [2, 5] (by kernel_rfl) rfl ?_
    refine ad_q [] rfl (by kernel_rfl) (v := subV 3 v 0 k) (g_sub2 (v := v) (d := 52) (k := 3) (LV := none) (HV := (some (.int .i64 (k : Int)))) 0 k (by kernel_rfl) rfl (bnd rfl) (by omega) (by omega) 0 rfl slRd_rows) h (by kernel_rfl) ?_ ?_
    · skip
      refine d_ready [5] (by kernel_rfl) rfl ?_
      refine ad_q [] rfl (by kernel_rfl) (v := subV 3 v (k + 1) l.length) (g_sub2 (v := v) (d := 52) (k := 3) (LV := (some (.int .i64 ((k + 1 : Nat) : Int)))) (HV := none) (k + 1) l.length (by kernel_rfl) (bnd rfl) rfl (by omega) (by omega) 0 rfl slRd_rows) h (by kernel_rfl) ?_ ?_
      · skip
        refine d_ready [6] (by kernel_rfl) rfl ?_
        refine ad_self (lo := k) (hi := k + 1) [] rfl (by kernel_rfl) (by kernel_rfl) msgC_len (fun _ => rfl) (by omega) (by omega) (by omega) h 0 rfl ?_ ?_
        · skip
          intro w h; refine ⟨by kernel_rfl, ?_⟩
          refine d_take 7 127 [] rfl (v := subV 3 v 0 (k + (l.length - (k + 1)))) (by kernel_rfl) (qp_thn qp_body) (yq (by kernel_rfl) (g_pure (v := subV 3 v 0 (k + (l.length - (k + 1)))) fun _ => by kernel_rfl)) h (by kernel_rfl) ?_
          refine d_done (by kernel_rfl) ?_
          refine thn_n ?_
          refine c_seq ?_
          refine c_reg ?_
          refine sq_p (subV 3 v 0 (k + (l.length - (k + 1)))) rfl (fun _ => by kernel_rfl) ?_
          refine sq_p (subV 3 v 0 (k + (l.length - (k + 1)))) rfl (fun _ => by kernel_rfl) ?_
          refine sq_q rfl h (g_len0 (v := v) (d := 52) (k := 3) (m := (k + (l.length - (k + 1)))) (by kernel_rfl) 0 rfl slRd_rows) ?_
          refine sq_p (.int .i64 (l.length : Int)) rfl (fun _ => by kernel_rfl) ?_
          refine sq_q rfl h (g_sub0 (v := v) (d := 52) (k := 3) (LV := (some (.int .i64 (((k + (l.length - (k + 1))) : Nat) : Int)))) (HV := (some (.int .i64 (l.length : Int)))) (k + (l.length - (k + 1))) (k + (l.length - (k + 1))) l.length (by kernel_rfl) (bnd rfl) (bnd rfl) (by first | omega | (simp; omega)) (by first | omega | (simp; omega)) 0 rfl slRd_rows) ?_
          refine sq_clear (lo := (k + (l.length - (k + 1)))) (hi := l.length) (z := .agg #[.string (⟨#[]⟩ : ByteArray), .string (⟨#[]⟩ : ByteArray), .string (⟨#[]⟩ : ByteArray)]) (⟨#[]⟩, ⟨#[]⟩, ⟨#[]⟩) rfl (by kernel_rfl) (fun _ => by kernel_rfl) (by kernel_rfl) msgC_len (by kernel_rfl) (by kernel_rfl) (by first | omega | (simp; omega)) (by first | omega | (simp; omega)) h 0 rfl ?_; intro w h
          refine lnil ?_
          refine thn_n ?_
          refine c_seq ?_
          refine c_reg ?_
          refine sq_p (subV 3 v 0 (k + (l.length - (k + 1)))) rfl (fun _ => by kernel_rfl) ?_
          refine sq_p (subV 3 v 0 (k + (l.length - (k + 1)))) rfl (fun _ => by kernel_rfl) ?_
          refine lnil ?_
          refine thn_n ?_
          refine c_ret ?_
          have h := h.cut msgC_len 0 rfl (m := k + (l.length - (k + 1))) (by simp; omega)
          refine ret_end [subV 3 v 0 (k + (l.length - (k + 1)))] [0] h (by kernel_rfl) (res_t (by kernel_rfl) res_n) ?_
          refine ⟨_, rfl, ?_⟩
          rw [del_eq2 hk]
          rfl
        exact ad_nil
      exact ad_nil
    refine ad_q [] rfl (by kernel_rfl) (v := subV 3 v (k + 1) l.length) (g_sub2 (v := v) (d := 52) (k := 3) (LV := (some (.int .i64 ((k + 1 : Nat) : Int)))) (HV := none) (k + 1) l.length (by kernel_rfl) (bnd rfl) rfl (by omega) (by omega) 0 rfl slRd_rows) h (by kernel_rfl) ?_ ?_
    · skip
      refine d_ready [2] (by kernel_rfl) rfl ?_
      refine ad_q [] rfl (by kernel_rfl) (v := subV 3 v 0 k) (g_sub2 (v := v) (d := 52) (k := 3) (LV := none) (HV := (some (.int .i64 (k : Int)))) 0 k (by kernel_rfl) rfl (bnd rfl) (by omega) (by omega) 0 rfl slRd_rows) h (by kernel_rfl) ?_ ?_
      · skip
        refine d_ready [6] (by kernel_rfl) rfl ?_
        refine ad_self (lo := k) (hi := k + 1) [] rfl (by kernel_rfl) (by kernel_rfl) msgC_len (fun _ => rfl) (by omega) (by omega) (by omega) h 0 rfl ?_ ?_
        · skip
          intro w h; refine ⟨by kernel_rfl, ?_⟩
          refine d_take 7 127 [] rfl (v := subV 3 v 0 (k + (l.length - (k + 1)))) (by kernel_rfl) (qp_thn qp_body) (yq (by kernel_rfl) (g_pure (v := subV 3 v 0 (k + (l.length - (k + 1)))) fun _ => by kernel_rfl)) h (by kernel_rfl) ?_
          refine d_done (by kernel_rfl) ?_
          refine thn_n ?_
          refine c_seq ?_
          refine c_reg ?_
          refine sq_p (subV 3 v 0 (k + (l.length - (k + 1)))) rfl (fun _ => by kernel_rfl) ?_
          refine sq_p (subV 3 v 0 (k + (l.length - (k + 1)))) rfl (fun _ => by kernel_rfl) ?_
          refine sq_q rfl h (g_len0 (v := v) (d := 52) (k := 3) (m := (k + (l.length - (k + 1)))) (by kernel_rfl) 0 rfl slRd_rows) ?_
          refine sq_p (.int .i64 (l.length : Int)) rfl (fun _ => by kernel_rfl) ?_
          refine sq_q rfl h (g_sub0 (v := v) (d := 52) (k := 3) (LV := (some (.int .i64 (((k + (l.length - (k + 1))) : Nat) : Int)))) (HV := (some (.int .i64 (l.length : Int)))) (k + (l.length - (k + 1))) (k + (l.length - (k + 1))) l.length (by kernel_rfl) (bnd rfl) (bnd rfl) (by first | omega | (simp; omega)) (by first | omega | (simp; omega)) 0 rfl slRd_rows) ?_
          refine sq_clear (lo := (k + (l.length - (k + 1)))) (hi := l.length) (z := .agg #[.string (⟨#[]⟩ : ByteArray), .string (⟨#[]⟩ : ByteArray), .string (⟨#[]⟩ : ByteArray)]) (⟨#[]⟩, ⟨#[]⟩, ⟨#[]⟩) rfl (by kernel_rfl) (fun _ => by kernel_rfl) (by kernel_rfl) msgC_len (by kernel_rfl) (by kernel_rfl) (by first | omega | (simp; omega)) (by first | omega | (simp; omega)) h 0 rfl ?_; intro w h
          refine lnil ?_
          refine thn_n ?_
          refine c_seq ?_
          refine c_reg ?_
          refine sq_p (subV 3 v 0 (k + (l.length - (k + 1)))) rfl (fun _ => by kernel_rfl) ?_
          refine sq_p (subV 3 v 0 (k + (l.length - (k + 1)))) rfl (fun _ => by kernel_rfl) ?_
          refine lnil ?_
          refine thn_n ?_
          refine c_ret ?_
          have h := h.cut msgC_len 0 rfl (m := k + (l.length - (k + 1))) (by simp; omega)
          refine ret_end [subV 3 v 0 (k + (l.length - (k + 1)))] [0] h (by kernel_rfl) (res_t (by kernel_rfl) res_n) ?_
          refine ⟨_, rfl, ?_⟩
          rw [del_eq2 hk]
          rfl
        exact ad_nil
      exact ad_nil
    exact ad_nil

theorem delMsg_at (v : Value) (l : List Msg) (k : Nat) {z z1 : Int} (hz : z = (k : Int)) (hz1 : z1 = (k : Int) + 1) (hk : k < l.length) (hl : l.length ≤ 100) : Spec Tryd.prog 106 #[v, .int .i64 z, .int .i64 z1] [rRows true v 52 3 msgC l] fun u L => ∃ v', u = v' ∧ L = [rRows true v' 52 3 msgC (netDel l k)] := by
  subst hz hz1; exact delMsg_spec v l k hk hl

set_option maxHeartbeats 1000000 in
theorem netTake_spec {B : Nat} (ad : Nat → Addr) (b : Nat) (v : Value) (tt : TypeId) (l : List Msg) (k : Int) (hl : l.length ≤ 100) : Spec Tryd.prog 28 #[.pointer (some ⟨b, 0, none⟩), .int .i64 k] [rCell true b [v] tt, rRows true v 52 3 msgC l, rEnv B ad [5]] (fun u L => (∃ (i : Nat) (x : Msg) (v' : Value), k = i ∧ l[i]? = some x ∧ u = .tuple #[.agg #[.string x.1, .string x.2.1, .string x.2.2], .nilIface] ∧ L = [rCell true b [v'] tt, rRows true v' 52 3 msgC (netDel l i), rEnv B ad [5]]) ∨ (¬ (0 ≤ k ∧ k < l.length) ∧ u = .tuple #[.agg #[.string ⟨#[]⟩, .string ⟨#[]⟩, .string ⟨#[]⟩], errV ad 5] ∧ L = [rCell true b [v] tt, rRows true v 52 3 msgC l, rEnv B ad [5]])) := by
  refine spec_of (#[.pointer (some ⟨b, 0, none⟩), .int .i64 k, undef, undef, undef, undef, undef, undef, undef, undef, undef, undef, undef, undef, undef, undef, undef, undef, undef, undef, undef, undef, undef, undef, undef, undef, undef, undef, undef, undef, undef, undef, undef, undef]) Tryd.func28 rfl (by kernel_rfl) fun E w0 w h => ?_
  refine c_seq ?_
  refine c_reg ?_
  refine sq_new rfl (fun b => .pointer (some ⟨b, 0, none⟩)) [.string (⟨#[]⟩ : ByteArray), .string (⟨#[]⟩ : ByteArray), .string (⟨#[]⟩ : ByteArray)] 52 (fun _ => by kernel_rfl) h ?_; intro k1 w h
  refine sq_p (.nilIface) rfl (fun _ => by kernel_rfl) ?_
  refine lnil ?_
  refine thn_n ?_
  refine c_seq ?_
  refine c_seq ?_
  refine c_reg ?_
  refine sq_p (.pointer (some ⟨b, 0, none⟩)) rfl (fun _ => by kernel_rfl) ?_
  refine sq_p (.int .i64 k) rfl (fun _ => by kernel_rfl) ?_
  refine sq_call #[.pointer (some ⟨b, 0, none⟩), .int .i64 k] [1, 1, 1] rfl (netAt_spec ad b v tt l k (by omega)) (fun _ => by kernel_rfl) h ?_; rintro v_ L_ w (⟨i2, hk3, hi4, rfl, rfl⟩ | ⟨hn5, rfl, rfl⟩) h
  · skip
    have hi2 : k = (i2 : Int) := hk3
    refine sq_p (.nilIface) rfl (fun _ => by kernel_rfl) ?_
    refine lnil ?_
    refine thn_n ?_
    refine c_seq ?_
    refine c_reg ?_
    refine sq_p (.nilIface) rfl (fun _ => by kernel_rfl) ?_
    refine sq_p (.bool false) rfl (fun _ => by kernel_rfl) ?_
    refine lnil ?_
    refine thn_n ?_
    refine c_false (by kernel_rfl) ?_
    refine c_skip ?_
    refine thn_n ?_
    refine c_seq ?_
    refine c_reg ?_
    refine sq_p (.pointer (some ⟨b, 0, none⟩)) rfl (fun _ => by kernel_rfl) ?_
    refine sq_p (.pointer (some ⟨b, 0, none⟩)) rfl (fun _ => by kernel_rfl) ?_
    refine sq_p (.pointer (some ⟨b, 0, none⟩)) rfl (fun _ => by kernel_rfl) ?_
    refine sq_q rfl h (g_ld 0 [v] (v) (by kernel_rfl) 0 rfl) ?_
    refine sq_p (.int .i64 k) rfl (fun _ => by kernel_rfl) ?_
    have hi6 : i2 < l.length := by omega
    obtain ⟨x7, hx8⟩ : ∃ x, l[i2]? = some x := ⟨_, List.getElem?_eq_getElem hi6⟩
    refine sq_q rfl h (g_idxI i2 hi2 (by kernel_rfl) hi6 1 rfl) ?_
    refine sq_q rfl h (g_ldr (b := blkN v) (offN v + i2 * 3) [.string x7.1, .string x7.2.1, .string x7.2.2] (.agg #[.string x7.1, .string x7.2.1, .string x7.2.2]) (by kernel_rfl) 1 rfl (rdRow0 msgC_len hx8 (by kernel_rfl))) ?_
    refine sq_new rfl (fun b => .pointer (some ⟨b, 0, none⟩)) [.string (⟨#[]⟩ : ByteArray), .string (⟨#[]⟩ : ByteArray), .string (⟨#[]⟩ : ByteArray)] 52 (fun _ => by kernel_rfl) h ?_; intro k9 w h
    refine sq_st rfl 0 [.string x7.1, .string x7.2.1, .string x7.2.2] [.string x7.1, .string x7.2.1, .string x7.2.2] h 0 rfl (by kernel_rfl) ?_; intro w h
    refine lnil ?_
    refine thn_n ?_
    refine c_seq ?_
    refine c_reg ?_
    refine sq_p (.pointer (some ⟨b, 0, none⟩)) rfl (fun _ => by kernel_rfl) ?_
    refine sq_p (.pointer (some ⟨b, 0, none⟩)) rfl (fun _ => by kernel_rfl) ?_
    refine sq_p (.pointer (some ⟨b, 0, none⟩)) rfl (fun _ => by kernel_rfl) ?_
    refine sq_p (.pointer (some ⟨b, 0, none⟩)) rfl (fun _ => by kernel_rfl) ?_
    refine sq_q rfl h (g_ld 0 [v] (v) (by kernel_rfl) 1 rfl) ?_
    refine sq_p (.int .i64 k) rfl (fun _ => by kernel_rfl) ?_
    refine sq_p (.int .i64 k) rfl (fun _ => by kernel_rfl) ?_
    refine sq_q rfl h (g_eq (v := .int .i64 (IntKind.i64.wrap (k + 1))) (v' := .int .i64 (k + 1)) (g_pure fun _ => by kernel_rfl) (wr (by omega))) ?_
    refine sq_call #[v, .int .i64 k, .int .i64 (k + 1)] [2] rfl (delMsg_at v l i2 (by omega) (by omega) (by omega) (by omega)) (fun _ => by kernel_rfl) h ?_; rintro v10 L_ w ⟨_, rfl, rfl⟩ h
    refine sq_p (.pointer (some ⟨b, 0, none⟩)) rfl (fun _ => by kernel_rfl) ?_
    refine sq_p (.pointer (some ⟨b, 0, none⟩)) rfl (fun _ => by kernel_rfl) ?_
    refine sq_sto rfl (h.slv 0 rfl) 0 [v10] h 2 rfl (by kernel_rfl) ?_; intro w h
    refine lnil ?_
    refine thn_n ?_
    refine c_seq ?_
    refine c_reg ?_
    refine sq_q rfl h (g_ld 0 [.string x7.1, .string x7.2.1, .string x7.2.2] (.agg #[.string x7.1, .string x7.2.1, .string x7.2.2]) (by kernel_rfl) 1 rfl) ?_
    refine sq_st rfl 0 [.string x7.1, .string x7.2.1, .string x7.2.2] [.string x7.1, .string x7.2.1, .string x7.2.2] h 4 rfl (by kernel_rfl) ?_; intro w h
    refine sq_p (.nilIface) rfl (fun _ => by kernel_rfl) ?_
    refine lnil ?_
    refine thn_n ?_
    refine c_ret ?_
    refine ret_end [.agg #[.string x7.1, .string x7.2.1, .string x7.2.2], .nilIface] [2, 0, 1] h (by kernel_rfl) (res_c 0 [.string x7.1, .string x7.2.1, .string x7.2.2] (.agg #[.string x7.1, .string x7.2.1, .string x7.2.2]) 4 rfl (by kernel_rfl) (res_t (by kernel_rfl) res_n)) ?_
    exact .inl ⟨i2, _, _, hk3, hx8, rfl, rfl⟩
  · skip
    refine sq_p (errV ad 5) rfl (fun _ => by kernel_rfl) ?_
    refine lnil ?_
    refine thn_n ?_
    refine c_seq ?_
    refine c_reg ?_
    refine sq_p (errV ad 5) rfl (fun _ => by kernel_rfl) ?_
    refine sq_p (.bool true) rfl (fun _ => by kernel_rfl) ?_
    refine lnil ?_
    refine thn_n ?_
    refine c_true (by kernel_rfl) ?_
    refine c_seq ?_
    refine c_reg ?_
    refine sq_p (.agg #[.string (⟨#[]⟩ : ByteArray), .string (⟨#[]⟩ : ByteArray), .string (⟨#[]⟩ : ByteArray)]) rfl (fun _ => by kernel_rfl) ?_
    refine sq_p (errV ad 5) rfl (fun _ => by kernel_rfl) ?_
    refine sq_st rfl 0 [.string (⟨#[]⟩ : ByteArray), .string (⟨#[]⟩ : ByteArray), .string (⟨#[]⟩ : ByteArray)] [.string (⟨#[]⟩ : ByteArray), .string (⟨#[]⟩ : ByteArray), .string (⟨#[]⟩ : ByteArray)] h 3 rfl (by kernel_rfl) ?_; intro w h
    refine sq_p (errV ad 5) rfl (fun _ => by kernel_rfl) ?_
    refine lnil ?_
    refine thn_n ?_
    refine c_ret ?_
    refine thn_r ?_
    refine ret_end [.agg #[.string (⟨#[]⟩ : ByteArray), .string (⟨#[]⟩ : ByteArray), .string (⟨#[]⟩ : ByteArray)], errV ad 5] [0, 0, 0] h (by kernel_rfl) (res_c 0 [.string (⟨#[]⟩ : ByteArray), .string (⟨#[]⟩ : ByteArray), .string (⟨#[]⟩ : ByteArray)] (.agg #[.string (⟨#[]⟩ : ByteArray), .string (⟨#[]⟩ : ByteArray), .string (⟨#[]⟩ : ByteArray)]) 3 rfl (by kernel_rfl) (res_t (by kernel_rfl) res_n)) ?_
    exact .inr ⟨hn5, rfl, rfl⟩
set_option maxHeartbeats 1000000 in
theorem netDrop_spec {B : Nat} (ad : Nat → Addr) (b : Nat) (v : Value) (tt : TypeId) (l : List Msg) (k : Int) (hl : l.length ≤ 100) : Spec Tryd.prog 31 #[.pointer (some ⟨b, 0, none⟩), .int .i64 k] [rCell true b [v] tt, rRows true v 52 3 msgC l, rEnv B ad [5]] (fun u L => (∃ (i : Nat) (x : Msg) (v' : Value), k = i ∧ l[i]? = some x ∧ u = .nilIface ∧ L = [rCell true b [v'] tt, rRows true v' 52 3 msgC (netDel l i), rEnv B ad [5]]) ∨ (¬ (0 ≤ k ∧ k < l.length) ∧ u = errV ad 5 ∧ L = [rCell true b [v] tt, rRows true v 52 3 msgC l, rEnv B ad [5]])) := by
  refine spec_of (#[.pointer (some ⟨b, 0, none⟩), .int .i64 k, undef, undef, undef, undef, undef, undef, undef, undef, undef, undef, undef, undef]) Tryd.func31 rfl (by kernel_rfl) fun E w0 w h => ?_
  refine c_seq ?_
  refine c_reg ?_
  refine sq_p (.nilIface) rfl (fun _ => by kernel_rfl) ?_
  refine lnil ?_
  refine thn_n ?_
  refine c_seq ?_
  refine c_reg ?_
  refine sq_p (.pointer (some ⟨b, 0, none⟩)) rfl (fun _ => by kernel_rfl) ?_
  refine sq_p (.int .i64 k) rfl (fun _ => by kernel_rfl) ?_
  refine sq_call #[.pointer (some ⟨b, 0, none⟩), .int .i64 k] [0, 0, 0] rfl (netTake_spec ad b v tt l k (by omega)) (fun _ => by kernel_rfl) h ?_; rintro v_ L_ w (⟨i1, y2, v3, hk4, hx5, rfl, rfl⟩ | ⟨hn6, rfl, rfl⟩) h
  · skip
    refine sq_p (.tuple #[.agg #[.string y2.1, .string y2.2.1, .string y2.2.2], .nilIface]) rfl (fun _ => by kernel_rfl) ?_
    refine sq_p (.agg #[.string y2.1, .string y2.2.1, .string y2.2.2]) rfl (fun _ => by kernel_rfl) ?_
    refine sq_p (.nilIface) rfl (fun _ => by kernel_rfl) ?_
    refine sq_new rfl (fun b => .pointer (some ⟨b, 0, none⟩)) [.string (⟨#[]⟩ : ByteArray), .string (⟨#[]⟩ : ByteArray), .string (⟨#[]⟩ : ByteArray)] 52 (fun _ => by kernel_rfl) h ?_; intro k7 w h
    refine sq_st rfl 0 [.string y2.1, .string y2.2.1, .string y2.2.2] [.string y2.1, .string y2.2.1, .string y2.2.2] h 0 rfl (by kernel_rfl) ?_; intro w h
    refine sq_p (.nilIface) rfl (fun _ => by kernel_rfl) ?_
    refine lnil ?_
    refine thn_n ?_
    refine c_seq ?_
    refine c_reg ?_
    refine sq_p (.nilIface) rfl (fun _ => by kernel_rfl) ?_
    refine sq_p (.nilIface) rfl (fun _ => by kernel_rfl) ?_
    refine lnil ?_
    refine thn_n ?_
    refine c_ret ?_
    refine ret_end [.nilIface] [1, 1, 1] h (by kernel_rfl) (res_t (by kernel_rfl) res_n) ?_
    exact .inl ⟨_, _, _, hk4, hx5, rfl, rfl⟩
  · skip
    refine sq_p (.tuple #[.agg #[.string ⟨#[]⟩, .string ⟨#[]⟩, .string ⟨#[]⟩], errV ad 5]) rfl (fun _ => by kernel_rfl) ?_
    refine sq_p (.agg #[.string ⟨#[]⟩, .string ⟨#[]⟩, .string ⟨#[]⟩]) rfl (fun _ => by kernel_rfl) ?_
    refine sq_p (errV ad 5) rfl (fun _ => by kernel_rfl) ?_
    refine sq_new rfl (fun b => .pointer (some ⟨b, 0, none⟩)) [.string (⟨#[]⟩ : ByteArray), .string (⟨#[]⟩ : ByteArray), .string (⟨#[]⟩ : ByteArray)] 52 (fun _ => by kernel_rfl) h ?_; intro k8 w h
    refine sq_st rfl 0 [.string ⟨#[]⟩, .string ⟨#[]⟩, .string ⟨#[]⟩] [.string ⟨#[]⟩, .string ⟨#[]⟩, .string ⟨#[]⟩] h 0 rfl (by kernel_rfl) ?_; intro w h
    refine sq_p (errV ad 5) rfl (fun _ => by kernel_rfl) ?_
    refine lnil ?_
    refine thn_n ?_
    refine c_seq ?_
    refine c_reg ?_
    refine sq_p (errV ad 5) rfl (fun _ => by kernel_rfl) ?_
    refine sq_p (errV ad 5) rfl (fun _ => by kernel_rfl) ?_
    refine lnil ?_
    refine thn_n ?_
    refine c_ret ?_
    refine ret_end [errV ad 5] [1, 1, 1] h (by kernel_rfl) (res_t (by kernel_rfl) res_n) ?_
    exact .inr ⟨hn6, rfl, rfl⟩
end Go.Proofs.YtofhnglgebllbaaDoor
