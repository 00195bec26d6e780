/- share: contracts by what is owned (printed by walk.py). -/
import Derived.Test.YtofhnglgebllbaaDoorShA
import Derived.Test.YtofhnglgebllbaaDoorShareR
namespace Go.Proofs.YtofhnglgebllbaaDoor
open Go.RowKit
set_option linter.unusedVariables false
set_option linter.unusedSimpArgs false
set_option maxRecDepth 100000
set_option maxHeartbeats 1000000 in
theorem ropen_spec (b : Nat) (v : Value) (l : List Opn) (n g o a d : Int) (hk : SharesOk l) : Spec Tryd.prog 58 #[.pointer (some ⟨b, 0, none⟩), .agg #[.int .i64 n, .int .i64 g], .int .i64 o, .int .i64 a, .int .i64 d] [rCell true b [v] 112, rRows true v 222 5 opnC l] (fun u L => u = .int .i64 ((shOpen l (n, g) o a d).2 : Int) ∧ ∃ v', L = [rCell true b [v'] 112, rRows true v' 222 5 opnC (shOpen l (n, g) o a d).1]) := by
  have hl := hk.few
  refine spec_of (#[.pointer (some ⟨b, 0, none⟩), .agg #[.int .i64 n, .int .i64 g], .int .i64 o, .int .i64 a, .int .i64 d, undef, undef, undef, undef, undef, undef, undef, undef, undef, undef, undef, undef, undef, undef, undef, undef, undef, undef, undef, undef, undef, undef, undef, undef, undef, undef, undef, undef, undef, undef, undef, undef, undef, undef, undef, undef, undef, undef, undef, undef, undef, undef, undef, undef, undef, undef, undef, undef, undef, undef, undef, undef, undef, undef, undef, undef, undef, undef, undef, undef, undef, undef, undef, undef, undef, undef, undef, undef, undef, undef, undef, undef, undef, undef, undef, undef, undef, undef, undef, undef, undef, undef, undef, undef, undef, undef, undef, undef, undef, undef, undef, undef, undef, undef, undef, undef, undef, undef, undef, undef, undef, undef, undef, undef, undef, undef, undef, undef, undef, undef, undef, undef, undef, undef]) Tryd.func58 rfl (by kernel_rfl) fun E w0 w h => ?_
  refine c_seq ?_
  refine c_reg ?_
  refine sq_new rfl (fun b => .pointer (some ⟨b, 0, none⟩)) [.int .i64 n, .int .i64 g] 29 (fun _ => by kernel_rfl) h ?_; intro k1 w h
  refine sq_p (.int .i64 0) rfl (fun _ => by kernel_rfl) ?_
  refine lnil ?_
  refine thn_n ?_
  refine c_seq ?_
  refine c_reg ?_
  refine sq_p (.int .i64 a) rfl (fun _ => by kernel_rfl) ?_
  refine sq_p (.int .i64 d) rfl (fun _ => by kernel_rfl) ?_
  refine sq_call #[.int .i64 a, .int .i64 d] [] rfl (rbound_spec a d) (fun _ => by kernel_rfl) h ?_; rintro v_ L_ w ⟨rfl, rfl⟩ h
  refine sq_p (.bool (!rightP a d)) rfl (fun _ => by kernel_rfl) ?_
  refine lnil ?_
  refine thn_n ?_
  refine c_seq ?_
  refine c_seq ?_
  refine c_reg ?_
  refine sq_p (.bool (!rightP a d)) rfl (fun _ => by kernel_rfl) ?_
  refine lnil ?_
  refine thn_n ?_
  refine c_cond (!rightP a d) (by kernel_rfl) (fun hc2 => ?_) (fun hc2 => ?_)
  · skip
    have q3 : (rightP a d) = false := by simpa using hc2
    have hR : rightP a d = false := by simpa using hc2
    refine c_seq ?_
    refine c_reg ?_
    refine sq_p (.int .i64 2) rfl (fun _ => by kernel_rfl) ?_
    refine lnil ?_
    refine thn_n ?_
    refine c_ret ?_
    refine thn_r ?_
    refine ret_end [.int .i64 2] [1, 1] h (by kernel_rfl) (res_t (by kernel_rfl) res_n) ?_
    rw [shO_bad hR]
    exact ⟨rfl, _, rfl⟩
  · skip
    have q4 : (rightP a d) = true := by simpa using hc2
    have hR : rightP a d = true := by simpa using hc2
    obtain ⟨hA0, hD⟩ := rightP_iff.1 hR; have hA : Few4 a := .inr hA0
    refine c_skip ?_
    refine thn_n ?_
    refine c_seq ?_
    refine c_seq ?_
    refine c_reg ?_
    refine sq_p (.int .i64 0) rfl (fun _ => by kernel_rfl) ?_
    refine lnil ?_
    refine thn_n ?_
    refine c_block ?_
    refine c_loop (X := Nat × (Nat → Value)) (fun ⟨i, J0⟩ => ⟨#[.pointer (some ⟨b, 0, none⟩), .agg #[.int .i64 n, .int .i64 g], .int .i64 o, .int .i64 a, .int .i64 d, undef, .pointer (some ⟨k1, 0, none⟩), undef, undef, undef, J0 10, .bool (!rightP a d), .int .i64 (i : Int), J0 13, undef, undef, .int .i64 a, .int .i64 d, .bool (!rightP a d), .bool (!rightP a d), J0 20, J0 21, J0 22, J0 23, J0 24, J0 25, J0 26, J0 27, J0 28, J0 29, J0 30, J0 31, J0 32, J0 33, J0 34, J0 35, J0 36, J0 37, J0 38, J0 39, J0 40, J0 41, J0 42, J0 43, J0 44, J0 45, J0 46, J0 47, J0 48, J0 49, J0 50, J0 51, J0 52, J0 53, J0 54, J0 55, J0 56, J0 57, undef, undef, undef, undef, undef, undef, undef, undef, undef, undef, undef, undef, undef, undef, undef, undef, undef, undef, undef, undef, undef, undef, undef, undef, undef, undef, undef, undef, undef, undef, undef, undef, undef, undef, undef, undef, undef, undef, undef, undef, undef, undef, undef, undef, undef, undef, undef, undef, undef, undef, undef, undef, undef, undef, undef, undef, undef, undef, undef, undef, undef], []⟩)
      (fun ⟨i, J0⟩ => [rCell true k1 [.int .i64 n, .int .i64 g] 29, rCell true b [v] 112, rRows true v 222 5 opnC l]) (fun ⟨i, J0⟩ => i ≤ l.length ∧ ∀ j y, j < i → l[j]? = some y → againstP (n, g) o a d y = false) (fun ⟨i, J0⟩ => l.length - i)
      ⟨0, (fun n => (#[.pointer (some ⟨b, 0, none⟩), .agg #[.int .i64 n, .int .i64 g], .int .i64 o, .int .i64 a, .int .i64 d, undef, .pointer (some ⟨k1, 0, none⟩), undef, undef, undef, .int .i64 0, .bool (!rightP a d), .int .i64 0, undef, undef, undef, .int .i64 a, .int .i64 d, .bool (!rightP a d), .bool (!rightP a d), undef, undef, undef, undef, undef, undef, undef, undef, undef, undef, undef, undef, undef, undef, undef, undef, undef, undef, undef, undef, undef, undef, undef, undef, undef, undef, undef, undef, undef, undef, undef, undef, undef, undef, undef, undef, undef, undef, undef, undef, undef, undef, undef, undef, undef, undef, undef, undef, undef, undef, undef, undef, undef, undef, undef, undef, undef, undef, undef, undef, undef, undef, undef, undef, undef, undef, undef, undef, undef, undef, undef, undef, undef, undef, undef, undef, undef, undef, undef, undef, undef, undef, undef, undef, undef, undef, undef, undef, undef, undef, undef, undef, undef, undef, undef, undef, undef, undef, undef] : Array Value).getD n undef)⟩ ⟨by omega, fun j y hj => by omega⟩ (by kernel_rfl) [0, 0, 0] (by kernel_rfl) h ?_
    rintro ⟨i, J0⟩ w hG h
    obtain ⟨hi0, hno⟩ : i ≤ l.length ∧ ∀ j y, j < i → l[j]? = some y → againstP (n, g) o a d y = false := hG
    refine c_seq ?_
    refine c_seq ?_
    refine c_reg ?_
    refine sq_p (.int .i64 (i : Int)) rfl (fun _ => by kernel_rfl) ?_
    refine sq_p (.pointer (some ⟨b, 0, none⟩)) rfl (fun _ => by kernel_rfl) ?_
    refine sq_p (.pointer (some ⟨b, 0, none⟩)) rfl (fun _ => by kernel_rfl) ?_
    refine sq_p (.pointer (some ⟨b, 0, none⟩)) rfl (fun _ => by kernel_rfl) ?_
    refine sq_q rfl h (g_ld 0 [v] (v) (by kernel_rfl) 1 rfl) ?_
    refine sq_q rfl h (g_len (by kernel_rfl) 2 rfl) ?_
    refine sq_p (.bool (decide ((i : Int) < (l.length : Int)))) rfl (fun _ => by kernel_rfl) ?_
    refine lnil ?_
    refine thn_n ?_
    refine c_cond (decide ((i : Int) < (l.length : Int))) (by kernel_rfl) (fun hc5 => ?_) (fun hc5 => ?_)
    · skip
      have hc5 := of_decide_eq_true hc5
      refine c_skip ?_
      refine thn_n ?_
      refine c_seq ?_
      refine c_block ?_
      refine c_seq ?_
      refine c_reg ?_
      refine sq_p (.pointer (some ⟨b, 0, none⟩)) rfl (fun _ => by kernel_rfl) ?_
      refine sq_p (.pointer (some ⟨b, 0, none⟩)) rfl (fun _ => by kernel_rfl) ?_
      refine sq_p (.pointer (some ⟨b, 0, none⟩)) rfl (fun _ => by kernel_rfl) ?_
      refine sq_q rfl h (g_ld 0 [v] (v) (by kernel_rfl) 1 rfl) ?_
      refine sq_p (.int .i64 (i : Int)) rfl (fun _ => by kernel_rfl) ?_
      have hi6 : i < l.length := by omega
      obtain ⟨x7, hx8⟩ : ∃ x, l[i]? = some x := ⟨_, List.getElem?_eq_getElem hi6⟩
      refine sq_q rfl h (g_idx i (by kernel_rfl) hi6 2 rfl) ?_
      refine sq_q rfl h (g_ldr (b := blkN v) (offN v + i * 5) [.int .i64 x7.1.1, .int .i64 x7.1.2, .int .i64 x7.2.1, .int .i64 x7.2.2.1, .int .i64 x7.2.2.2] (.agg #[.int .i64 x7.1.1, .int .i64 x7.1.2, .int .i64 x7.2.1, .int .i64 x7.2.2.1, .int .i64 x7.2.2.2]) (by kernel_rfl) 2 rfl (rdRow0 opnC_len hx8 (by kernel_rfl))) ?_
      refine sq_new rfl (fun b => .pointer (some ⟨b, 0, none⟩)) [.int .i64 0, .int .i64 0, .int .i64 0, .int .i64 0, .int .i64 0] 222 (fun _ => by kernel_rfl) h ?_; intro k9 w h
      refine sq_st rfl 0 [.int .i64 x7.1.1, .int .i64 x7.1.2, .int .i64 x7.2.1, .int .i64 x7.2.2.1, .int .i64 x7.2.2.2] [.int .i64 x7.1.1, .int .i64 x7.1.2, .int .i64 x7.2.1, .int .i64 x7.2.2.1, .int .i64 x7.2.2.2] h 0 rfl (by kernel_rfl) ?_; intro w h
      refine lnil ?_
      refine thn_n ?_
      refine c_seq ?_
      refine c_reg ?_
      refine sq_p (.pointer (some ⟨k9, 0, none⟩)) rfl (fun _ => by kernel_rfl) ?_
      refine sq_q rfl h (g_ld 0 [.int .i64 x7.1.1, .int .i64 x7.1.2] (.agg #[.int .i64 x7.1.1, .int .i64 x7.1.2]) (by kernel_rfl) 0 rfl) ?_
      refine sq_q rfl h (g_ld 0 [.int .i64 n, .int .i64 g] (.agg #[.int .i64 n, .int .i64 g]) (by kernel_rfl) 1 rfl) ?_
      obtain ⟨b10, hb10⟩ : ∃ b_ : Bool, b_ = ((decide (x7.1.1 = n)) && (decide (x7.1.2 = g))) := ⟨_, rfl⟩
      refine sq_q (v := .bool b10) rfl h (by subst hb10; exact g_eqH (by kernel_rfl)) ?_
      refine sq_p (.bool b10) rfl (fun _ => by kernel_rfl) ?_
      refine sq_m1 (v := .pointer (some ⟨k9, 2, none⟩)) b10 (by cases b10 <;> kernel_rfl) h (fun hB => by subst hB; exact g_pure (v := .pointer (some ⟨k9, 2, none⟩)) fun _ => by kernel_rfl) ?_
      refine sq_m1 (v := .int .i64 x7.2.1) b10 (by cases b10 <;> kernel_rfl) h (fun hB => by subst hB; exact g_ld 2 [.int .i64 x7.2.1] (.int .i64 x7.2.1) (by kernel_rfl) 0 rfl) ?_
      refine sq_m1 (v := .int .i64 o) b10 (by cases b10 <;> kernel_rfl) h (fun hB => by subst hB; exact g_pure (v := .int .i64 o) fun _ => by kernel_rfl) ?_
      obtain ⟨b11, hb11⟩ : ∃ b_ : Bool, b_ = (!(decide (x7.2.1 = o))) := ⟨_, rfl⟩
      refine sq_m1 (v := .bool b11) b10 (by cases b10 <;> kernel_rfl) h (fun hB => by subst hB; exact by subst hb11; exact g_pure (v := .bool (!(decide (x7.2.1 = o)))) fun _ => by kernel_rfl) ?_
      obtain ⟨b12, hb12⟩ : ∃ b_ : Bool, b_ = (b10 && b11) := ⟨_, rfl⟩
      refine sq_q (v := .bool b12) rfl h (by subst hb12; exact g_pure (v := .bool (b10 && b11)) fun _ => by cases b10 <;> kernel_rfl) ?_
      refine sq_p (.bool b12) rfl (fun _ => by kernel_rfl) ?_
      refine sq_m1 (v := .pointer (some ⟨k9, 4, none⟩)) b12 (by cases b12 <;> kernel_rfl) h (fun hB => by subst hB; exact g_pure (v := .pointer (some ⟨k9, 4, none⟩)) fun _ => by kernel_rfl) ?_
      refine sq_m1 (v := .int .i64 x7.2.2.2) b12 (by cases b12 <;> kernel_rfl) h (fun hB => by subst hB; exact g_ld 4 [.int .i64 x7.2.2.2] (.int .i64 x7.2.2.2) (by kernel_rfl) 0 rfl) ?_
      refine sq_m1 (v := .int .i64 a) b12 (by cases b12 <;> kernel_rfl) h (fun hB => by subst hB; exact g_pure (v := .int .i64 a) fun _ => by kernel_rfl) ?_
      rcases Bool.eq_false_or_eq_true b12 with hc13 | hc13
      · skip
        subst hc13
        have q14 := hb12.symm
        have q15 : b10 = true := by revert q14; cases b10 <;> simp
        have q16 : b11 = true := by revert q14; cases b10 <;> cases b11 <;> simp
        have q17 : ((decide (x7.1.1 = n)) && (decide (x7.1.2 = g))) = true := by rw [← hb10]; exact q15
        have q18 : (decide (x7.1.1 = n)) = true := by revert q17; cases (decide (x7.1.1 = n)) <;> simp
        have q19 : (decide (x7.1.2 = g)) = true := by revert q17; cases (decide (x7.1.1 = n)) <;> cases (decide (x7.1.2 = g)) <;> simp
        have q18 := of_decide_eq_true q18
        have q19 := of_decide_eq_true q19
        have q20 : (!(decide (x7.2.1 = o))) = true := by rw [← hb11]; exact q16
        have q21 : (decide (x7.2.1 = o)) = false := by simpa using q20
        have q21 := of_decide_eq_false q21
        refine sq_call #[.int .i64 x7.2.2.2, .int .i64 a] [] (by kernel_rfl) (rmeets_spec (bnd_deny (hk.bnd _ (List.mem_of_getElem? hx8))) (hA)) (fun _ => by kernel_rfl) h ?_; rintro v_ L_ w ⟨rfl, rfl⟩ h
        obtain ⟨b22, hb22⟩ : ∃ b_ : Bool, b_ = (mtP x7.2.2.2 a) := ⟨_, rfl⟩
        refine sq_q (v := .bool b22) (by kernel_rfl) h (by subst hb22; exact g_pure (v := .bool (mtP x7.2.2.2 a)) fun _ => by kernel_rfl) ?_
        refine sq_m0 (v := .pointer (some ⟨k9, 3, none⟩)) b22 (by cases b22 <;> kernel_rfl) h (fun hB => by subst hB; exact g_pure (v := .pointer (some ⟨k9, 3, none⟩)) fun _ => by kernel_rfl) ?_
        refine sq_m0 (v := .int .i64 x7.2.2.1) b22 (by cases b22 <;> kernel_rfl) h (fun hB => by subst hB; exact g_ld 3 [.int .i64 x7.2.2.1] (.int .i64 x7.2.2.1) (by kernel_rfl) 0 rfl) ?_
        refine sq_m0 (v := .int .i64 d) b22 (by cases b22 <;> kernel_rfl) h (fun hB => by subst hB; exact g_pure (v := .int .i64 d) fun _ => by kernel_rfl) ?_
        rcases Bool.eq_false_or_eq_true b22 with hc23 | hc23
        · skip
          subst hc23
          have q24 := hb22.symm
          refine sn (by kernel_rfl) ?_
          refine sq_p (.bool true) (by kernel_rfl) (fun _ => by kernel_rfl) ?_
          refine sq_p (.bool true) rfl (fun _ => by kernel_rfl) ?_
          refine lnil ?_
          refine thn_n ?_
          refine c_true (by kernel_rfl) ?_
          refine c_seq ?_
          refine c_reg ?_
          refine sq_p (.int .i64 11) rfl (fun _ => by kernel_rfl) ?_
          refine lnil ?_
          refine thn_n ?_
          refine c_ret ?_
          refine blk_r (thn_r (rnd_r (blk_r (thn_r ?_))))
          refine ret_end [.int .i64 11] [2, 2] h (by kernel_rfl) (res_t (by kernel_rfl) res_n) ?_
          have hT : againstP (n, g) o a d x7 = true := by (first | exact against_no (by assumption) (by assumption) (by assumption) | exact against_is (by assumption) (by assumption) (by assumption) (by first | exact or_t1 (by assumption) | exact or_t2 (by assumption) | exact or_f (by assumption) (by assumption)))
          rw [shO_held hR (any_some hx8 hT)]
          exact ⟨rfl, _, rfl⟩
        · skip
          subst hc23
          have q25 := hb22.symm
          refine sq_call #[.int .i64 x7.2.2.1, .int .i64 d] [] (by kernel_rfl) (rmeets_spec (bnd_acc (hk.bnd _ (List.mem_of_getElem? hx8))) (hD)) (fun _ => by kernel_rfl) h ?_; rintro v_ L_ w ⟨rfl, rfl⟩ h
          obtain ⟨b26, hb26⟩ : ∃ b_ : Bool, b_ = (mtP x7.2.2.1 d) := ⟨_, rfl⟩
          refine sq_q (v := .bool b26) (by kernel_rfl) h (by subst hb26; exact g_pure (v := .bool (mtP x7.2.2.1 d)) fun _ => by kernel_rfl) ?_
          refine sq_p (.bool b26) rfl (fun _ => by kernel_rfl) ?_
          refine lnil ?_
          refine thn_n ?_
          refine c_cond (b26) (by kernel_rfl) (fun hc27 => ?_) (fun hc27 => ?_)
          · skip
            have q28 : (mtP x7.2.2.1 d) = true := by rw [← hb26]; exact hc27
            refine c_seq ?_
            refine c_reg ?_
            refine sq_p (.int .i64 11) rfl (fun _ => by kernel_rfl) ?_
            refine lnil ?_
            refine thn_n ?_
            refine c_ret ?_
            refine blk_r (thn_r (rnd_r (blk_r (thn_r ?_))))
            refine ret_end [.int .i64 11] [2, 2] h (by kernel_rfl) (res_t (by kernel_rfl) res_n) ?_
            have hT : againstP (n, g) o a d x7 = true := by (first | exact against_no (by assumption) (by assumption) (by assumption) | exact against_is (by assumption) (by assumption) (by assumption) (by first | exact or_t1 (by assumption) | exact or_t2 (by assumption) | exact or_f (by assumption) (by assumption)))
            rw [shO_held hR (any_some hx8 hT)]
            exact ⟨rfl, _, rfl⟩
          · skip
            have q29 : (mtP x7.2.2.1 d) = false := by rw [← hb26]; exact hc27
            refine c_skip ?_
            refine blk_n (thn_n ?_)
            refine c_reg ?_
            refine sq_p (.int .i64 (i : Int)) rfl (fun _ => by kernel_rfl) ?_
            refine sq_q rfl h (g_eq (v := .int .i64 (IntKind.i64.wrap ((i : Int) + 1))) (v' := .int .i64 ((i + 1 : Nat) : Int)) (g_pure fun _ => by kernel_rfl) (wr (by omega))) ?_
            refine sq_p (.int .i64 ((i + 1 : Nat) : Int)) rfl (fun _ => by kernel_rfl) ?_
            refine lnil ?_
            refine loop_end (fun j => ⟨(i + 1), j⟩) (show ((i + 1) ≤ l.length ∧ ∀ j y, j < (i + 1) → l[j]? = some y → againstP (n, g) o a d y = false) ∧ (l.length - (i + 1)) < (l.length - i) from ⟨⟨by omega, opn_no hno hx8 (by (first | exact against_no (by assumption) (by assumption) (by assumption) | exact against_is (by assumption) (by assumption) (by assumption) (by first | exact or_t1 (by assumption) | exact or_t2 (by assumption) | exact or_f (by assumption) (by assumption))))⟩, by omega⟩) (by kernel_rfl) [1, 1, 1] (by kernel_rfl) h
      · skip
        subst hc13
        have q30 := hb12.symm
        refine sn (by kernel_rfl) ?_
        refine sn (by kernel_rfl) ?_
        refine sn (by kernel_rfl) ?_
        refine sn (by kernel_rfl) ?_
        refine sn (by kernel_rfl) ?_
        refine sn (by kernel_rfl) ?_
        refine sn (by kernel_rfl) ?_
        refine sq_p (.bool false) rfl (fun _ => by kernel_rfl) ?_
        refine lnil ?_
        refine thn_n ?_
        refine c_false (by kernel_rfl) ?_
        refine c_skip ?_
        refine blk_n (thn_n ?_)
        refine c_reg ?_
        refine sq_p (.int .i64 (i : Int)) rfl (fun _ => by kernel_rfl) ?_
        refine sq_q rfl h (g_eq (v := .int .i64 (IntKind.i64.wrap ((i : Int) + 1))) (v' := .int .i64 ((i + 1 : Nat) : Int)) (g_pure fun _ => by kernel_rfl) (wr (by omega))) ?_
        refine sq_p (.int .i64 ((i + 1 : Nat) : Int)) rfl (fun _ => by kernel_rfl) ?_
        refine lnil ?_
        refine loop_end (fun j => ⟨(i + 1), j⟩) (show ((i + 1) ≤ l.length ∧ ∀ j y, j < (i + 1) → l[j]? = some y → againstP (n, g) o a d y = false) ∧ (l.length - (i + 1)) < (l.length - i) from ⟨⟨by omega, opn_no hno hx8 (by (first | exact against_no (by assumption) (by assumption) (by assumption) | exact against_is (by assumption) (by assumption) (by assumption) (by first | exact or_t1 (by assumption) | exact or_t2 (by assumption) | exact or_f (by assumption) (by assumption))))⟩, by omega⟩) (by kernel_rfl) [1, 1, 1] (by kernel_rfl) h
    · skip
      have hc5 := of_decide_eq_false hc5
      refine c_exit ?_
      refine thn_e (rnd_e (blk_e (thn_n ?_)))
      refine c_seq ?_
      refine c_reg ?_
      refine sq_p (.pointer (some ⟨b, 0, none⟩)) rfl (fun _ => by kernel_rfl) ?_
      refine sq_q rfl h (g_ld 0 [.int .i64 n, .int .i64 g] (.agg #[.int .i64 n, .int .i64 g]) (by kernel_rfl) 0 rfl) ?_
      refine sq_p (.int .i64 o) rfl (fun _ => by kernel_rfl) ?_
      refine sq_call #[.pointer (some ⟨b, 0, none⟩), .agg #[.int .i64 n, .int .i64 g], .int .i64 o] [1, 1] rfl (rfind_spec b v l n g o (by omega)) (fun _ => by kernel_rfl) h ?_; rintro v_ L_ w (⟨i31, y32, hf33, hy32, rfl, rfl⟩ | ⟨hf35, rfl, rfl⟩) h
      · skip
        have hbi31 := (List.getElem?_eq_some_iff.1 hy32).1
        refine sq_p (.int .i64 (i31 : Int)) rfl (fun _ => by kernel_rfl) ?_
        refine lnil ?_
        refine thn_n ?_
        refine c_seq ?_
        refine c_seq ?_
        refine c_reg ?_
        refine sq_p (.int .i64 (i31 : Int)) rfl (fun _ => by kernel_rfl) ?_
        refine sq_p (.bool (decide ((i31 : Int) ≥ 0))) rfl (fun _ => by kernel_rfl) ?_
        refine lnil ?_
        refine thn_n ?_
        refine c_cond (decide ((i31 : Int) ≥ 0)) (by kernel_rfl) (fun hc36 => ?_) (fun hc36 => ?_)
        · skip
          have hc36 := of_decide_eq_true hc36
          refine c_seq ?_
          refine d_start 18 [0] (by kernel_rfl) h fun w h => ?_
          refine d_take 0 32752 [0] rfl (v := .pointer (some ⟨b, 0, none⟩)) (by kernel_rfl) (qp_thn (qp_thn qp_body)) (yq (by kernel_rfl) (g_pure (v := .pointer (some ⟨b, 0, none⟩)) fun _ => by kernel_rfl)) h (by kernel_rfl) ?_
          refine d_take 1 32753 [0] rfl (v := .pointer (some ⟨b, 0, none⟩)) (by kernel_rfl) (qp_thn (qp_thn qp_body)) (yq (by kernel_rfl) (g_pure (v := .pointer (some ⟨b, 0, none⟩)) fun _ => by kernel_rfl)) h (by kernel_rfl) ?_
          refine d_take 2 32755 [0] rfl (v := .pointer (some ⟨b, 0, none⟩)) (by kernel_rfl) (qp_thn (qp_thn qp_body)) (yq (by kernel_rfl) (g_pure (v := .pointer (some ⟨b, 0, none⟩)) fun _ => by kernel_rfl)) h (by kernel_rfl) ?_
          refine d_take 3 32759 [0] rfl (v := v) (by kernel_rfl) (qp_thn (qp_thn qp_body)) (yq (by kernel_rfl) (g_ld 0 [v] (v) (by kernel_rfl) 0 rfl)) h (by kernel_rfl) ?_
          refine d_take 4 32751 [0] rfl (v := .int .i64 (i31 : Int)) (by kernel_rfl) (qp_thn (qp_thn qp_body)) (yq (by kernel_rfl) (g_pure (v := .int .i64 (i31 : Int)) fun _ => by kernel_rfl)) h (by kernel_rfl) ?_
          refine d_take 5 8735 [0] rfl (v := .pointer (some ⟨b, 0, none⟩)) (by kernel_rfl) (qp_thn (qp_thn qp_body)) (yq (by kernel_rfl) (g_pure (v := .pointer (some ⟨b, 0, none⟩)) fun _ => by kernel_rfl)) h (by kernel_rfl) ?_
          refine d_take 6 8767 [0] rfl (v := .pointer (some ⟨b, 0, none⟩)) (by kernel_rfl) (qp_thn (qp_thn qp_body)) (yq (by kernel_rfl) (g_pure (v := .pointer (some ⟨b, 0, none⟩)) fun _ => by kernel_rfl)) h (by kernel_rfl) ?_
          refine d_take 7 8831 [0] rfl (v := .pointer (some ⟨b, 0, none⟩)) (by kernel_rfl) (qp_thn (qp_thn qp_body)) (yq (by kernel_rfl) (g_pure (v := .pointer (some ⟨b, 0, none⟩)) fun _ => by kernel_rfl)) h (by kernel_rfl) ?_
          refine d_take 8 8959 [0] rfl (v := v) (by kernel_rfl) (qp_thn (qp_thn qp_body)) (yq (by kernel_rfl) (g_ld 0 [v] (v) (by kernel_rfl) 0 rfl)) h (by kernel_rfl) ?_
          refine d_take 9 8703 [0] rfl (v := .int .i64 (i31 : Int)) (by kernel_rfl) (qp_thn (qp_thn qp_body)) (yq (by kernel_rfl) (g_pure (v := .int .i64 (i31 : Int)) fun _ => by kernel_rfl)) h (by kernel_rfl) ?_
          refine d_take 13 8191 [0] rfl (v := .int .i64 a) (by kernel_rfl) (qp_thn (qp_thn qp_body)) (yq (by kernel_rfl) (g_pure (v := .int .i64 a) fun _ => by kernel_rfl)) h (by kernel_rfl) ?_
          refine d_ready [10] (by kernel_rfl) rfl ?_
          refine ad_q [0] rfl (by kernel_rfl) (v := .pointer (some ⟨blkN v, offN v + i31 * 5, none⟩)) (g_idx i31 (by kernel_rfl) hbi31 1 rfl) h (by kernel_rfl) ?_ ?_
          · skip
            refine d_take 11 10239 [0] rfl (v := .pointer (some ⟨blkN v, offN v + i31 * 5 + 3, none⟩)) (by kernel_rfl) (qp_thn (qp_thn qp_body)) (yq (by kernel_rfl) (g_pure (v := .pointer (some ⟨blkN v, offN v + i31 * 5 + 3, none⟩)) fun _ => by kernel_rfl)) h (by kernel_rfl) ?_
            refine d_ready [12] (by kernel_rfl) rfl ?_
            refine ad_q [0] rfl (by kernel_rfl) (v := .int .i64 y32.2.2.1) (g_ldr (b := blkN v) (offN v + i31 * 5 + 3) [.int .i64 y32.2.2.1] (.int .i64 y32.2.2.1) (by kernel_rfl) 1 rfl (rdRow opnC_len hy32 3 (by kernel_rfl))) h (by kernel_rfl) ?_ ?_
            · skip
              refine d_ready [14] (by kernel_rfl) rfl ?_
              refine ad_call #[.int .i64 y32.2.2.1, .int .i64 a] [] [0] rfl (by kernel_rfl) (rsum_spec (bnd_acc (hk.bnd _ (List.mem_of_getElem? hy32))) (hA)) (fun _ => by kernel_rfl) h ?_ ?_
              · skip
                rintro v_ L_ w ⟨rfl, rfl⟩ h
                refine ⟨by kernel_rfl, ?_⟩
                refine d_ready [15] (by kernel_rfl) rfl ?_
                refine ad_q [0] rfl (by kernel_rfl) (v := .pointer (some ⟨blkN v, offN v + i31 * 5, none⟩)) (g_idx i31 (by kernel_rfl) hbi31 1 rfl) h (by kernel_rfl) ?_ ?_
                · skip
                  refine d_take 16 65535 [0] rfl (v := .pointer (some ⟨blkN v, offN v + i31 * 5 + 3, none⟩)) (by kernel_rfl) (qp_thn (qp_thn qp_body)) (yq (by kernel_rfl) (g_pure (v := .pointer (some ⟨blkN v, offN v + i31 * 5 + 3, none⟩)) fun _ => by kernel_rfl)) h (by kernel_rfl) ?_
                  refine d_ready [17] (by kernel_rfl) rfl ?_
                  refine ad_str [0] rfl (by kernel_rfl) (b := blkN v) (offN v + i31 * 5 + 3) [.int .i64 (bits .or .i64 y32.2.2.1 a)] h 1 rfl (by kernel_rfl) (wrRow opnC_len hy32 3 (y32.1, y32.2.1, bits .or .i64 y32.2.2.1 a, y32.2.2.2) (by kernel_rfl) (by kernel_rfl)) ?_ ?_
                  · skip
                    intro w h; refine ⟨by kernel_rfl, ?_⟩
                    refine d_done (by kernel_rfl) ?_
                    refine thn_n ?_
                    refine c_seq ?_
                    refine d_start 18 [0] (by kernel_rfl) h fun w h => ?_
                    refine d_take 0 32752 [0] rfl (v := .pointer (some ⟨b, 0, none⟩)) (by kernel_rfl) (qp_thn (qp_thn qp_body)) (yq (by kernel_rfl) (g_pure (v := .pointer (some ⟨b, 0, none⟩)) fun _ => by kernel_rfl)) h (by kernel_rfl) ?_
                    refine d_take 1 32753 [0] rfl (v := .pointer (some ⟨b, 0, none⟩)) (by kernel_rfl) (qp_thn (qp_thn qp_body)) (yq (by kernel_rfl) (g_pure (v := .pointer (some ⟨b, 0, none⟩)) fun _ => by kernel_rfl)) h (by kernel_rfl) ?_
                    refine d_take 2 32755 [0] rfl (v := .pointer (some ⟨b, 0, none⟩)) (by kernel_rfl) (qp_thn (qp_thn qp_body)) (yq (by kernel_rfl) (g_pure (v := .pointer (some ⟨b, 0, none⟩)) fun _ => by kernel_rfl)) h (by kernel_rfl) ?_
                    refine d_take 3 32759 [0] rfl (v := v) (by kernel_rfl) (qp_thn (qp_thn qp_body)) (yq (by kernel_rfl) (g_ld 0 [v] (v) (by kernel_rfl) 0 rfl)) h (by kernel_rfl) ?_
                    refine d_take 4 32751 [0] rfl (v := .int .i64 (i31 : Int)) (by kernel_rfl) (qp_thn (qp_thn qp_body)) (yq (by kernel_rfl) (g_pure (v := .int .i64 (i31 : Int)) fun _ => by kernel_rfl)) h (by kernel_rfl) ?_
                    refine d_take 5 8735 [0] rfl (v := .pointer (some ⟨b, 0, none⟩)) (by kernel_rfl) (qp_thn (qp_thn qp_body)) (yq (by kernel_rfl) (g_pure (v := .pointer (some ⟨b, 0, none⟩)) fun _ => by kernel_rfl)) h (by kernel_rfl) ?_
                    refine d_take 6 8767 [0] rfl (v := .pointer (some ⟨b, 0, none⟩)) (by kernel_rfl) (qp_thn (qp_thn qp_body)) (yq (by kernel_rfl) (g_pure (v := .pointer (some ⟨b, 0, none⟩)) fun _ => by kernel_rfl)) h (by kernel_rfl) ?_
                    refine d_take 7 8831 [0] rfl (v := .pointer (some ⟨b, 0, none⟩)) (by kernel_rfl) (qp_thn (qp_thn qp_body)) (yq (by kernel_rfl) (g_pure (v := .pointer (some ⟨b, 0, none⟩)) fun _ => by kernel_rfl)) h (by kernel_rfl) ?_
                    refine d_take 8 8959 [0] rfl (v := v) (by kernel_rfl) (qp_thn (qp_thn qp_body)) (yq (by kernel_rfl) (g_ld 0 [v] (v) (by kernel_rfl) 0 rfl)) h (by kernel_rfl) ?_
                    refine d_take 9 8703 [0] rfl (v := .int .i64 (i31 : Int)) (by kernel_rfl) (qp_thn (qp_thn qp_body)) (yq (by kernel_rfl) (g_pure (v := .int .i64 (i31 : Int)) fun _ => by kernel_rfl)) h (by kernel_rfl) ?_
                    refine d_take 13 8191 [0] rfl (v := .int .i64 d) (by kernel_rfl) (qp_thn (qp_thn qp_body)) (yq (by kernel_rfl) (g_pure (v := .int .i64 d) fun _ => by kernel_rfl)) h (by kernel_rfl) ?_
                    refine d_ready [10] (by kernel_rfl) rfl ?_
                    have hi37 : i31 < (l.set i31 (y32.1, y32.2.1, bits .or .i64 y32.2.2.1 a, y32.2.2.2)).length := by (try simp only [List.length_set]); omega
                    obtain ⟨x38, hx39⟩ : ∃ x, (l.set i31 (y32.1, y32.2.1, bits .or .i64 y32.2.2.1 a, y32.2.2.2))[i31]? = some x := ⟨_, List.getElem?_eq_getElem hi37⟩
                    have ex38 : x38 = (y32.1, y32.2.1, bits .or .i64 y32.2.2.1 a, y32.2.2.2) := by rw [List.getElem?_set_self (by omega)] at hx39; exact (Option.some.inj hx39).symm
                    refine ad_q [0] rfl (by kernel_rfl) (v := .pointer (some ⟨blkN v, offN v + i31 * 5, none⟩)) (g_idx i31 (by kernel_rfl) hi37 1 rfl) h (by kernel_rfl) ?_ ?_
                    · skip
                      refine d_take 11 10239 [0] rfl (v := .pointer (some ⟨blkN v, offN v + i31 * 5 + 4, none⟩)) (by kernel_rfl) (qp_thn (qp_thn qp_body)) (yq (by kernel_rfl) (g_pure (v := .pointer (some ⟨blkN v, offN v + i31 * 5 + 4, none⟩)) fun _ => by kernel_rfl)) h (by kernel_rfl) ?_
                      refine d_ready [12] (by kernel_rfl) rfl ?_
                      refine ad_q [0] rfl (by kernel_rfl) (v := .int .i64 x38.2.2.2) (g_ldr (b := blkN v) (offN v + i31 * 5 + 4) [.int .i64 x38.2.2.2] (.int .i64 x38.2.2.2) (by kernel_rfl) 1 rfl (rdRow opnC_len hx39 4 (by kernel_rfl))) h (by kernel_rfl) ?_ ?_
                      · skip
                        refine d_ready [14] (by kernel_rfl) rfl ?_
                        refine ad_call #[.int .i64 x38.2.2.2, .int .i64 d] [] [0] rfl (by kernel_rfl) (rsum_spec (by rw [ex38]; exact (bnd_deny (x := y32) (hk.bnd _ (List.mem_of_getElem? hy32)))) (hD)) (fun _ => by kernel_rfl) h ?_ ?_
                        · skip
                          rintro v_ L_ w ⟨rfl, rfl⟩ h
                          refine ⟨by kernel_rfl, ?_⟩
                          refine d_ready [15] (by kernel_rfl) rfl ?_
                          refine ad_q [0] rfl (by kernel_rfl) (v := .pointer (some ⟨blkN v, offN v + i31 * 5, none⟩)) (g_idx i31 (by kernel_rfl) hi37 1 rfl) h (by kernel_rfl) ?_ ?_
                          · skip
                            refine d_take 16 65535 [0] rfl (v := .pointer (some ⟨blkN v, offN v + i31 * 5 + 4, none⟩)) (by kernel_rfl) (qp_thn (qp_thn qp_body)) (yq (by kernel_rfl) (g_pure (v := .pointer (some ⟨blkN v, offN v + i31 * 5 + 4, none⟩)) fun _ => by kernel_rfl)) h (by kernel_rfl) ?_
                            refine d_ready [17] (by kernel_rfl) rfl ?_
                            refine ad_str [0] rfl (by kernel_rfl) (b := blkN v) (offN v + i31 * 5 + 4) [.int .i64 (bits .or .i64 x38.2.2.2 d)] h 1 rfl (by kernel_rfl) (wrRow opnC_len hx39 4 (x38.1, x38.2.1, x38.2.2.1, bits .or .i64 x38.2.2.2 d) (by kernel_rfl) (by kernel_rfl)) ?_ ?_
                            · skip
                              intro w h; refine ⟨by kernel_rfl, ?_⟩
                              refine d_done (by kernel_rfl) ?_
                              refine thn_n ?_
                              refine c_seq ?_
                              refine c_reg ?_
                              refine sq_p (.int .i64 0) rfl (fun _ => by kernel_rfl) ?_
                              refine lnil ?_
                              refine thn_n ?_
                              refine c_ret ?_
                              refine thn_r ?_
                              refine ret_end [.int .i64 0] [0, 0] h (by kernel_rfl) (res_t (by kernel_rfl) res_n) ?_
                              rw [shO_some hR (any_none fun j y hj => hno j y (by omega)) hf33 hy32]
                              have hL : (l.set i31 (y32.1, y32.2.1, bits .or .i64 y32.2.2.1 a, y32.2.2.2)).set i31 (x38.1, x38.2.1, x38.2.2.1, bits .or .i64 x38.2.2.2 d) = l.set i31 (y32.1, y32.2.1, bits .or .i64 y32.2.2.1 a, bits .or .i64 y32.2.2.2 d) := by rw [List.set_set, ex38]
                              rw [hL]
                              exact ⟨rfl, _, rfl⟩
                            exact ad_nil
                          exact ad_nil
                        exact ad_nil
                      exact ad_nil
                    exact ad_nil
                  exact ad_nil
                exact ad_nil
              exact ad_nil
            exact ad_nil
          exact ad_nil
        · skip
          have hc36 := of_decide_eq_false hc36
          exfalso; omega
      · skip
        refine sq_p (.int .i64 (-1)) rfl (fun _ => by kernel_rfl) ?_
        refine lnil ?_
        refine thn_n ?_
        refine c_seq ?_
        refine c_seq ?_
        refine c_reg ?_
        refine sq_p (.int .i64 (-1)) rfl (fun _ => by kernel_rfl) ?_
        refine sq_p (.bool (decide ((-1) ≥ 0))) rfl (fun _ => by kernel_rfl) ?_
        refine lnil ?_
        refine thn_n ?_
        refine c_cond (decide ((-1) ≥ 0)) (by kernel_rfl) (fun hc40 => ?_) (fun hc40 => ?_)
        · skip
          have hc40 := of_decide_eq_true hc40
          exfalso; omega
        · skip
          have hc40 := of_decide_eq_false hc40
          refine c_skip ?_
          refine thn_n ?_
          refine c_seq ?_
          refine c_seq ?_
          refine c_reg ?_
          refine sq_p (.pointer (some ⟨b, 0, none⟩)) rfl (fun _ => by kernel_rfl) ?_
          refine sq_p (.pointer (some ⟨b, 0, none⟩)) rfl (fun _ => by kernel_rfl) ?_
          refine sq_p (.pointer (some ⟨b, 0, none⟩)) rfl (fun _ => by kernel_rfl) ?_
          refine sq_q rfl h (g_ld 0 [v] (v) (by kernel_rfl) 0 rfl) ?_
          refine sq_q rfl h (g_len (by kernel_rfl) 1 rfl) ?_
          refine sq_p (.bool (decide ((l.length : Int) ≥ 40))) rfl (fun _ => by kernel_rfl) ?_
          refine lnil ?_
          refine thn_n ?_
          refine c_cond (decide ((l.length : Int) ≥ 40)) (by kernel_rfl) (fun hc41 => ?_) (fun hc41 => ?_)
          · skip
            have hc41 := of_decide_eq_true hc41
            refine c_seq ?_
            refine c_reg ?_
            refine sq_p (.int .i64 9) rfl (fun _ => by kernel_rfl) ?_
            refine lnil ?_
            refine thn_n ?_
            refine c_ret ?_
            refine thn_r ?_
            refine ret_end [.int .i64 9] [0, 0] h (by kernel_rfl) (res_t (by kernel_rfl) res_n) ?_
            rw [shO_none hR (any_none fun j y hj => hno j y (by omega)) hf35, if_pos (by omega)]
            exact ⟨rfl, _, rfl⟩
          · skip
            have hc41 := of_decide_eq_false hc41
            refine c_skip ?_
            refine thn_n ?_
            refine c_seq ?_
            refine d_start 12 [0, 1] (by kernel_rfl) h fun w h => ?_
            refine d_take 0 1008 [0, 1] rfl (v := .pointer (some ⟨b, 0, none⟩)) (by kernel_rfl) (qp_thn qp_body) (yq (by kernel_rfl) (g_pure (v := .pointer (some ⟨b, 0, none⟩)) fun _ => by kernel_rfl)) h (by kernel_rfl) ?_
            refine d_take 1 1009 [0, 1] rfl (v := .pointer (some ⟨b, 0, none⟩)) (by kernel_rfl) (qp_thn qp_body) (yq (by kernel_rfl) (g_pure (v := .pointer (some ⟨b, 0, none⟩)) fun _ => by kernel_rfl)) h (by kernel_rfl) ?_
            refine d_take 2 1011 [0, 1] rfl (v := .pointer (some ⟨b, 0, none⟩)) (by kernel_rfl) (qp_thn qp_body) (yq (by kernel_rfl) (g_pure (v := .pointer (some ⟨b, 0, none⟩)) fun _ => by kernel_rfl)) h (by kernel_rfl) ?_
            refine d_take 3 1015 [0, 1] rfl (v := v) (by kernel_rfl) (qp_thn qp_body) (yq (by kernel_rfl) (g_ld 0 [v] (v) (by kernel_rfl) 0 rfl)) h (by kernel_rfl) ?_
            refine d_take 4 239 [0, 1] rfl (v := .agg #[.int .i64 n, .int .i64 g]) (by kernel_rfl) (qp_thn qp_body) (yq (by kernel_rfl) (g_ld 0 [.int .i64 n, .int .i64 g] (.agg #[.int .i64 n, .int .i64 g]) (by kernel_rfl) 1 rfl)) h (by kernel_rfl) ?_
            refine d_take 5 223 [0, 1] rfl (v := .int .i64 o) (by kernel_rfl) (qp_thn qp_body) (yq (by kernel_rfl) (g_pure (v := .int .i64 o) fun _ => by kernel_rfl)) h (by kernel_rfl) ?_
            refine d_take 6 191 [0, 1] rfl (v := .int .i64 a) (by kernel_rfl) (qp_thn qp_body) (yq (by kernel_rfl) (g_pure (v := .int .i64 a) fun _ => by kernel_rfl)) h (by kernel_rfl) ?_
            refine d_take 7 127 [0, 1] rfl (v := .int .i64 d) (by kernel_rfl) (qp_thn qp_body) (yq (by kernel_rfl) (g_pure (v := .int .i64 d) fun _ => by kernel_rfl)) h (by kernel_rfl) ?_
            refine d_take 8 255 [0, 1] rfl (v := .agg #[.int .i64 n, .int .i64 g, .int .i64 o, .int .i64 a, .int .i64 d]) (by kernel_rfl) (qp_thn qp_body) (yq (by kernel_rfl) (g_pure (v := .agg #[.int .i64 n, .int .i64 g, .int .i64 o, .int .i64 a, .int .i64 d]) fun _ => by kernel_rfl)) h (by kernel_rfl) ?_
            refine d_ready [9] (by kernel_rfl) rfl ?_
            refine ad_new [1, 2] rfl (by kernel_rfl) (fun b => .slice (some ⟨b, 0, none⟩) 1 1) [.int .i64 n, .int .i64 g, .int .i64 o, .int .i64 a, .int .i64 d] 222 (fun _ => by kernel_rfl) h ?_ ?_
            · skip
              intro k42 w h; refine ⟨by kernel_rfl, ?_⟩
              refine d_ready [10] (by kernel_rfl) rfl ?_
              refine ad_app (b := k42) (o := 0) [1, 2] rfl (by kernel_rfl) 1 ((n, g), o, a, d) (by kernel_rfl) h 2 rfl 0 rfl (rdCell 0 (by kernel_rfl)) (by (try simp only [List.length_append, List.length_cons, List.length_nil]); omega) ?_ ?_
              · skip
                intro v43 w h; refine ⟨by kernel_rfl, ?_⟩
                refine d_take 11 2047 [1, 2] rfl (v := v43) (by kernel_rfl) (qp_thn qp_body) (yq (by kernel_rfl) (g_pure (v := v43) fun _ => by kernel_rfl)) h (by kernel_rfl) ?_
                refine d_done (by kernel_rfl) ?_
                refine thn_n ?_
                refine c_seq ?_
                refine c_reg ?_
                refine sq_p (.pointer (some ⟨b, 0, none⟩)) rfl (fun _ => by kernel_rfl) ?_
                refine sq_p (v43) rfl (fun _ => by kernel_rfl) ?_
                refine sq_p (.pointer (some ⟨b, 0, none⟩)) rfl (fun _ => by kernel_rfl) ?_
                refine sq_p (.pointer (some ⟨b, 0, none⟩)) rfl (fun _ => by kernel_rfl) ?_
                refine sq_sto rfl (h.slv 2 rfl) 0 [v43] h 1 rfl (by kernel_rfl) ?_; intro w h
                refine lnil ?_
                refine thn_n ?_
                refine c_seq ?_
                refine c_reg ?_
                refine sq_p (.int .i64 0) rfl (fun _ => by kernel_rfl) ?_
                refine lnil ?_
                refine thn_n ?_
                refine c_ret ?_
                refine ret_end [.int .i64 0] [1, 1] h (by kernel_rfl) (res_t (by kernel_rfl) res_n) ?_
                rw [shO_none hR (any_none fun j y hj => hno j y (by omega)) hf35, if_neg (by omega)]
                exact ⟨rfl, _, rfl⟩
              exact ad_nil
            exact ad_nil
end Go.Proofs.YtofhnglgebllbaaDoor
