/- net: contracts by what is owned (printed by walk.py). -/
import Derived.Test.YtofhnglgebllbaaDoorNetE2
import Derived.Test.YtofhnglgebllbaaDoorNetE
import Derived.Test.YtofhnglgebllbaaDoorCoded3S
namespace Go.Proofs.YtofhnglgebllbaaDoor
open Go.RowKit
set_option linter.unusedVariables false
set_option linter.unusedSimpArgs false
set_option linter.unnecessarySimpa false
set_option maxRecDepth 100000

def shNAct : Sh := .and .str (.and (.and .str (.and .str (.and .str .unit))) (.and .int .unit))
abbrev NAct := ByteArray × (ByteArray × ByteArray × ByteArray × Unit) × Int × Unit
def nactC (x : NAct) : List Value := [.string x.1, .string x.2.1.1, .string x.2.1.2.1, .string x.2.1.2.2.1, .int .i64 x.2.2.1]
theorem nactC_len (x : NAct) : (nactC x).length = 5 := rfl
def NActOk (x : NAct) : Prop := x.1.size ≤ 140737488355327 ∧ x.2.1.1.size ≤ 140737488355327 ∧ x.2.1.2.1.size ≤ 140737488355327 ∧ x.2.1.2.2.1.size ≤ 140737488355327 ∧ -9223372036854775808 ≤ x.2.2.1 ∧ x.2.2.1 ≤ 9223372036854775807

set_option maxHeartbeats 1000000 in
theorem netActs_spec {B : Nat} (ad : Nat → Addr) (v : Value) (acts : List NAct) (hacts : ∀ x ∈ acts, NActOk x) : Spec Tryd.prog 4 #[v] [rArg v 5 nactC acts, rEnvA B ad] (fun u L => u = .bool true ∧ L = [rArg v 5 nactC acts, rEnvA B ad]) := by
  refine spec_of (#[v, undef, undef, undef, undef, undef, undef, undef, undef, undef, undef, undef, undef, undef, undef, undef, undef, undef, undef, undef, undef, undef, undef, undef, undef, undef, undef, undef, undef, undef, undef, undef, undef, undef, undef, undef, undef, undef, undef, undef, undef, undef, undef, undef, undef, undef, undef, undef, undef, undef, undef, undef, undef, undef, undef, undef, undef, undef, undef, undef, undef, undef, undef, undef, undef, undef, undef, undef, undef, undef, undef, undef, undef, undef, undef, undef, undef, undef, undef, undef, undef, undef, undef, undef, undef, undef, undef, undef, undef, undef, undef, undef, undef, undef, undef, undef, undef, undef, undef, undef, undef, undef, undef, undef, undef, undef, undef, undef, undef, undef, undef, undef, undef, undef, undef, undef, undef, undef, undef, undef, undef, undef, undef, undef, undef, undef, undef, undef, undef, undef, undef, undef, undef, undef, undef, undef, undef, undef, undef, undef, undef, undef, undef, undef, undef, undef, undef, undef, undef, undef, undef, undef, undef, undef, undef, undef, undef, undef, undef, undef, undef, undef, undef, undef, undef, undef, undef, undef, undef, undef, undef, undef, undef, undef, undef, undef, undef, undef, undef, undef, undef, undef, undef, undef]) Tryd.func4 rfl (by kernel_rfl) fun E w0 w h => ?_
  have h := h.envSub [4] 1 rfl (by decide)
  have h := h.envSub [2] 2 rfl (by decide)
  have h := h.envSub [9] 3 rfl (by decide)
  have h := h.envSub [5] 4 rfl (by decide)
  refine c_seq ?_
  refine c_reg ?_
  refine sq_p (.bool false) rfl (fun _ => by kernel_rfl) ?_
  refine lnil ?_
  refine thn_n ?_
  refine c_seq ?_
  refine c_reg ?_
  refine sq_call #[] [3, 2, 1] rfl (sent_spec ad) (fun _ => by kernel_rfl) h ?_; rintro v_ L_ w ⟨rfl, rfl⟩ h
  refine sq_p (.bool true) rfl (fun _ => by kernel_rfl) ?_
  refine lnil ?_
  refine thn_n ?_
  refine c_seq ?_
  refine c_seq ?_
  refine c_reg ?_
  refine sq_p (.bool true) rfl (fun _ => by kernel_rfl) ?_
  refine sq_p (.bool false) rfl (fun _ => by kernel_rfl) ?_
  refine sq_p (.bool false) rfl (fun _ => by kernel_rfl) ?_
  refine sq_p (v) (by kernel_rfl) (fun _ => by kernel_rfl) ?_
  refine sq_q (by kernel_rfl) h (g_lenA 50 (by kernel_rfl) 4 rfl) ?_
  obtain ⟨b1, hb1⟩ : ∃ b_ : Bool, b_ = (decide ((acts.length : Int) > 150)) := ⟨_, rfl⟩
  refine sq_q (v := .bool b1) (by kernel_rfl) h (by subst hb1; exact g_pure (v := .bool (decide ((acts.length : Int) > 150))) fun _ => by kernel_rfl) ?_
  refine sq_p (.bool b1) rfl (fun _ => by kernel_rfl) ?_
  refine lnil ?_
  refine thn_n ?_
  refine c_cond (b1) (by kernel_rfl) (fun hc2 => ?_) (fun hc2 => ?_)
  · skip
    have q3 : (decide ((acts.length : Int) > 150)) = true := by rw [← hb1]; exact hc2
    have q3 := of_decide_eq_true q3
    refine c_seq ?_
    refine c_reg ?_
    refine sq_p (.bool true) rfl (fun _ => by kernel_rfl) ?_
    refine sq_p (.bool true) rfl (fun _ => by kernel_rfl) ?_
    refine lnil ?_
    refine thn_n ?_
    refine c_ret ?_
    refine thn_r ?_
    refine ret_end [.bool true] [4, 4] h (by kernel_rfl) (res_t (by kernel_rfl) res_n) ?_
    exact ⟨rfl, rfl⟩
  · skip
    have q4 : (decide ((acts.length : Int) > 150)) = false := by rw [← hb1]; exact hc2
    have q4 := of_decide_eq_false q4
    refine c_skip ?_
    refine thn_n ?_
    refine c_seq ?_
    refine c_reg ?_
    refine sq_p (.agg #[.slice none 0 0]) rfl (fun _ => by kernel_rfl) ?_
    refine sq_new rfl (fun b => .pointer (some ⟨b, 0, none⟩)) [.slice none 0 0] 42 (fun _ => by kernel_rfl) h ?_; intro k5 w h
    refine sq_p (.pointer (some ⟨k5, 0, none⟩)) rfl (fun _ => by kernel_rfl) ?_
    refine lnil ?_
    refine thn_n ?_
    refine c_seq ?_
    refine c_reg ?_
    refine sq_p (.agg #[.slice none 0 0]) rfl (fun _ => by kernel_rfl) ?_
    refine sq_new rfl (fun b => .pointer (some ⟨b, 0, none⟩)) [.slice none 0 0] 46 (fun _ => by kernel_rfl) h ?_; intro k6 w h
    refine sq_p (.pointer (some ⟨k6, 0, none⟩)) rfl (fun _ => by kernel_rfl) ?_
    refine lnil ?_
    refine thn_n ?_
    refine c_seq ?_
    refine c_seq ?_
    refine c_reg ?_
    refine sq_p (.int .i64 0) rfl (fun _ => by kernel_rfl) ?_
    refine lnil ?_
    refine thn_n ?_
    refine c_block ?_
    have h := h.nilRows 52 3 msgC
    have h := h.nilRows 48 3 msgC
    refine c_loop (X := Nat × List Msg × Value × Value × (Nat → Value)) (fun ⟨n0, lt, vt, vm, J0⟩ => ⟨#[v, undef, J0 2, .bool true, .pointer (some ⟨k5, 0, none⟩), .pointer (some ⟨k6, 0, none⟩), .int .i64 (n0 : Int), J0 7, J0 8, J0 9, J0 10, J0 11, J0 12, J0 13, J0 14, undef, undef, .bool true, .bool true, .bool false, .bool false, v, .int .i64 (acts.length : Int), .bool b1, .bool b1, undef, .agg #[.slice none 0 0], .pointer (some ⟨k5, 0, none⟩), .agg #[.slice none 0 0], .pointer (some ⟨k6, 0, none⟩), J0 30, J0 31, J0 32, J0 33, J0 34, J0 35, J0 36, J0 37, J0 38, J0 39, J0 40, J0 41, J0 42, J0 43, J0 44, J0 45, J0 46, J0 47, J0 48, J0 49, J0 50, J0 51, J0 52, J0 53, J0 54, J0 55, J0 56, J0 57, J0 58, J0 59, J0 60, J0 61, J0 62, J0 63, J0 64, J0 65, J0 66, J0 67, J0 68, J0 69, J0 70, J0 71, J0 72, J0 73, J0 74, J0 75, J0 76, J0 77, J0 78, J0 79, J0 80, J0 81, J0 82, J0 83, J0 84, J0 85, J0 86, J0 87, J0 88, J0 89, J0 90, J0 91, J0 92, J0 93, J0 94, J0 95, J0 96, J0 97, J0 98, J0 99, J0 100, J0 101, J0 102, J0 103, J0 104, J0 105, J0 106, J0 107, J0 108, J0 109, J0 110, J0 111, J0 112, J0 113, J0 114, J0 115, J0 116, J0 117, J0 118, J0 119, J0 120, J0 121, J0 122, J0 123, J0 124, J0 125, J0 126, J0 127, J0 128, J0 129, J0 130, J0 131, J0 132, J0 133, J0 134, J0 135, J0 136, J0 137, J0 138, J0 139, J0 140, J0 141, J0 142, J0 143, J0 144, J0 145, J0 146, J0 147, J0 148, J0 149, J0 150, J0 151, J0 152, J0 153, J0 154, undef, undef, undef, undef, undef, undef, undef, undef, undef, undef, undef, undef, undef, undef, undef, undef, undef, undef, undef, undef, undef, undef, undef, undef, undef, undef, undef, undef, undef], []⟩)
      (fun ⟨n0, lt, vt, vm, J0⟩ => [rRows true vm 48 3 msgC lt, rRows true vt 52 3 msgC lt, rCell true k6 [vm] 46, rCell true k5 [vt] 42, rEnv B ad [4], rEnv B ad [2], rEnv B ad [9], rEnv B ad [5], rArg v 5 nactC acts, rEnvA B ad]) (fun ⟨n0, lt, vt, vm, J0⟩ => n0 ≤ acts.length ∧ lt.length ≤ 100) (fun ⟨n0, lt, vt, vm, J0⟩ => acts.length - n0)
      ⟨0, [], (.slice none 0 0), (.slice none 0 0), (fun n => (#[v, undef, .bool false, .bool true, .pointer (some ⟨k5, 0, none⟩), .pointer (some ⟨k6, 0, none⟩), .int .i64 0, undef, undef, undef, undef, undef, undef, undef, undef, undef, undef, .bool true, .bool true, .bool false, .bool false, v, .int .i64 (acts.length : Int), .bool b1, .bool b1, undef, .agg #[.slice none 0 0], .pointer (some ⟨k5, 0, none⟩), .agg #[.slice none 0 0], .pointer (some ⟨k6, 0, none⟩), undef, undef, undef, undef, undef, undef, undef, undef, undef, undef, undef, undef, undef, undef, undef, undef, undef, undef, undef, undef, undef, undef, undef, undef, undef, undef, undef, undef, undef, undef, undef, undef, undef, undef, undef, undef, undef, undef, undef, undef, undef, undef, undef, undef, undef, undef, undef, undef, undef, undef, undef, undef, undef, undef, undef, undef, undef, undef, undef, undef, undef, undef, undef, undef, undef, undef, undef, undef, undef, undef, undef, undef, undef, undef, undef, undef, undef, undef, undef, undef, undef, undef, undef, undef, undef, undef, undef, undef, undef, undef, undef, undef, undef, undef, undef, undef, undef, undef, undef, undef, undef, undef, undef, undef, undef, undef, undef, undef, undef, undef, undef, undef, undef, undef, undef, undef, undef, undef, undef, undef, undef, undef, undef, undef, undef, undef, undef, undef, undef, undef, undef, undef, undef, undef, undef, undef, undef, undef, undef, undef, undef, undef, undef, undef, undef, undef, undef, undef, undef, undef, undef, undef, undef, undef] : Array Value).getD n undef)⟩ ⟨by omega, by decide⟩ (by kernel_rfl) [0, 0, 0, 0, 0, 0, 0, 0, 0, 0] (by kernel_rfl) h ?_
    rintro ⟨n0, lt, vt, vm, J0⟩ w hG h
    obtain ⟨hn0, hl0⟩ : n0 ≤ acts.length ∧ lt.length ≤ 100 := hG
    refine c_seq ?_
    refine c_seq ?_
    refine c_reg ?_
    refine sq_p (.int .i64 (n0 : Int)) rfl (fun _ => by kernel_rfl) ?_
    refine sq_p (v) rfl (fun _ => by kernel_rfl) ?_
    refine sq_q rfl h (g_lenA 50 (by kernel_rfl) 8 rfl) ?_
    refine sq_p (.bool (decide ((n0 : Int) < (acts.length : Int)))) rfl (fun _ => by kernel_rfl) ?_
    refine lnil ?_
    refine thn_n ?_
    refine c_cond (decide ((n0 : Int) < (acts.length : Int))) (by kernel_rfl) (fun hc7 => ?_) (fun hc7 => ?_)
    · skip
      have hc7 := of_decide_eq_true hc7
      refine c_skip ?_
      refine thn_n ?_
      refine c_seq ?_
      refine c_block ?_
      refine c_seq ?_
      refine c_reg ?_
      refine sq_p (v) rfl (fun _ => by kernel_rfl) ?_
      refine sq_p (.int .i64 (n0 : Int)) rfl (fun _ => by kernel_rfl) ?_
      have hi8 : n0 < acts.length := by omega
      obtain ⟨x9, hx10⟩ : ∃ x, acts[n0]? = some x := ⟨_, List.getElem?_eq_getElem hi8⟩
      obtain ⟨hs0, hs1, hs2, hs3, hs4, hs5⟩ := hacts _ (List.mem_of_getElem? hx10)
      refine sq_q rfl h (g_idxA 50 n0 (by kernel_rfl) hi8 8 rfl) ?_
      refine sq_q rfl h (g_ldr (b := blkN v) (offN v + n0 * 5) [.string x9.1, .string x9.2.1.1, .string x9.2.1.2.1, .string x9.2.1.2.2.1, .int .i64 x9.2.2.1] (.agg #[.string x9.1, .string x9.2.1.1, .string x9.2.1.2.1, .string x9.2.1.2.2.1, .int .i64 x9.2.2.1]) (by kernel_rfl) 8 rfl (rdArg0 hx10 (by kernel_rfl))) ?_
      refine sq_new rfl (fun b => .pointer (some ⟨b, 0, none⟩)) [.string (⟨#[]⟩ : ByteArray), .string (⟨#[]⟩ : ByteArray), .string (⟨#[]⟩ : ByteArray), .string (⟨#[]⟩ : ByteArray), .int .i64 0] 50 (fun _ => by kernel_rfl) h ?_; intro k11 w h
      refine sq_st rfl 0 [.string x9.1, .string x9.2.1.1, .string x9.2.1.2.1, .string x9.2.1.2.2.1, .int .i64 x9.2.2.1] [.string x9.1, .string x9.2.1.1, .string x9.2.1.2.1, .string x9.2.1.2.2.1, .int .i64 x9.2.2.1] h 0 rfl (by kernel_rfl) ?_; intro w h
      refine lnil ?_
      refine thn_n ?_
      refine c_seq ?_
      refine c_seq ?_
      refine c_reg ?_
      refine sq_p (.pointer (some ⟨k11, 1, none⟩)) rfl (fun _ => by kernel_rfl) ?_
      refine sq_p (.pointer (some ⟨k11, 3, none⟩)) rfl (fun _ => by kernel_rfl) ?_
      refine sq_q rfl h (g_ld 3 [.string x9.2.1.2.2.1] (.string x9.2.1.2.2.1) (by kernel_rfl) 0 rfl) ?_
      refine sq_p (.int .i64 (x9.2.1.2.2.1.size : Int)) rfl (fun _ => by kernel_rfl) ?_
      obtain ⟨b12, hb12⟩ : ∃ b_ : Bool, b_ = (decide ((x9.2.1.2.2.1.size : Int) > 5000)) := ⟨_, rfl⟩
      refine sq_q (v := .bool b12) rfl h (by subst hb12; exact g_pure (v := .bool (decide ((x9.2.1.2.2.1.size : Int) > 5000))) fun _ => by kernel_rfl) ?_
      refine sq_p (.bool b12) rfl (fun _ => by kernel_rfl) ?_
      refine sq_m0 (v := .pointer (some ⟨k11, 1, none⟩)) b12 (by cases b12 <;> kernel_rfl) h (fun hB => by subst hB; exact g_pure (v := .pointer (some ⟨k11, 1, none⟩)) fun _ => by kernel_rfl) ?_
      refine sq_m0 (v := .pointer (some ⟨k11, 1, none⟩)) b12 (by cases b12 <;> kernel_rfl) h (fun hB => by subst hB; exact g_pure (v := .pointer (some ⟨k11, 1, none⟩)) fun _ => by kernel_rfl) ?_
      refine sq_m0 (v := .string x9.2.1.1) b12 (by cases b12 <;> kernel_rfl) h (fun hB => by subst hB; exact g_ld 1 [.string x9.2.1.1] (.string x9.2.1.1) (by kernel_rfl) 0 rfl) ?_
      refine sq_m0 (v := .int .i64 (x9.2.1.1.size : Int)) b12 (by cases b12 <;> kernel_rfl) h (fun hB => by subst hB; exact g_pure (v := .int .i64 (x9.2.1.1.size : Int)) fun _ => by kernel_rfl) ?_
      refine sq_m0 (v := .pointer (some ⟨k11, 1, none⟩)) b12 (by cases b12 <;> kernel_rfl) h (fun hB => by subst hB; exact g_pure (v := .pointer (some ⟨k11, 1, none⟩)) fun _ => by kernel_rfl) ?_
      refine sq_m0 (v := .pointer (some ⟨k11, 2, none⟩)) b12 (by cases b12 <;> kernel_rfl) h (fun hB => by subst hB; exact g_pure (v := .pointer (some ⟨k11, 2, none⟩)) fun _ => by kernel_rfl) ?_
      refine sq_m0 (v := .string x9.2.1.2.1) b12 (by cases b12 <;> kernel_rfl) h (fun hB => by subst hB; exact g_ld 2 [.string x9.2.1.2.1] (.string x9.2.1.2.1) (by kernel_rfl) 0 rfl) ?_
      refine sq_m0 (v := .int .i64 (x9.2.1.2.1.size : Int)) b12 (by cases b12 <;> kernel_rfl) h (fun hB => by subst hB; exact g_pure (v := .int .i64 (x9.2.1.2.1.size : Int)) fun _ => by kernel_rfl) ?_
      refine sq_m0 (v := .int .i64 ((x9.2.1.1.size + x9.2.1.2.1.size : Nat) : Int)) b12 (by cases b12 <;> kernel_rfl) h (fun hB => by subst hB; exact g_eq (v := .int .i64 (IntKind.i64.wrap ((x9.2.1.1.size : Int) + (x9.2.1.2.1.size : Int)))) (v' := .int .i64 ((x9.2.1.1.size + x9.2.1.2.1.size : Nat) : Int)) (g_pure fun _ => by kernel_rfl) (wr (by omega))) ?_
      obtain ⟨b13, hb13⟩ : ∃ b_ : Bool, b_ = (decide (((x9.2.1.1.size + x9.2.1.2.1.size : Nat) : Int) > 200)) := ⟨_, rfl⟩
      refine sq_m0 (v := .bool b13) b12 (by cases b12 <;> kernel_rfl) h (fun hB => by subst hB; exact by subst hb13; exact g_pure (v := .bool (decide (((x9.2.1.1.size + x9.2.1.2.1.size : Nat) : Int) > 200))) fun _ => by kernel_rfl) ?_
      obtain ⟨b14, hb14⟩ : ∃ b_ : Bool, b_ = (b12 || b13) := ⟨_, rfl⟩
      refine sq_q (v := .bool b14) rfl h (by subst hb14; exact g_pure (v := .bool (b12 || b13)) fun _ => by cases b12 <;> kernel_rfl) ?_
      refine lnil ?_
      refine thn_n ?_
      refine c_cond (b14) (by kernel_rfl) (fun hc15 => ?_) (fun hc15 => ?_)
      · skip
        have q16 : (b12 || b13) = true := by rw [← hb14]; exact hc15
        have q17 : (((x9.2.1.2.2.1.size : Int) > 5000) ∨ (((x9.2.1.1.size + x9.2.1.2.1.size : Nat) : Int) > 200)) := by subst hb13; subst hb12; revert q16; first | (simp; done) | (simp; omega)
        refine c_seq ?_
        refine c_reg ?_
        refine sq_p (.bool true) rfl (fun _ => by kernel_rfl) ?_
        refine lnil ?_
        refine thn_n ?_
        refine c_ret ?_
        refine thn_r (blk_r (thn_r (rnd_r (blk_r (thn_r ?_)))))
        refine ret_end [.bool true] [9, 9] h (by kernel_rfl) (res_t (by kernel_rfl) res_n) ?_
        exact ⟨rfl, rfl⟩
      · skip
        have q18 : (b12 || b13) = false := by rw [← hb14]; exact hc15
        have q19 : b12 = false := by revert q18; cases b12 <;> simp
        have q20 : b13 = false := by revert q18; cases b12 <;> cases b13 <;> simp
        have q21 : (decide ((x9.2.1.2.2.1.size : Int) > 5000)) = false := by rw [← hb12]; exact q19
        have q21 := of_decide_eq_false q21
        have q22 : (decide (((x9.2.1.1.size + x9.2.1.2.1.size : Nat) : Int) > 200)) = false := by rw [← hb13]; exact q20
        have q22 := of_decide_eq_false q22
        refine c_skip ?_
        refine thn_n ?_
        refine c_seq ?_
        refine c_reg ?_
        refine sq_p (.pointer (some ⟨k11, 0, none⟩)) rfl (fun _ => by kernel_rfl) ?_
        refine sq_q rfl h (g_ld 0 [.string x9.1] (.string x9.1) (by kernel_rfl) 0 rfl) ?_
        refine lnil ?_
        refine thn_n ?_
        refine c_block ?_
        refine c_seq ?_
        refine c_reg ?_
        refine sq_q rfl h (g_eq (v := .bool (x9.1.toList == (⟨#[115, 101, 110, 100]⟩ : ByteArray).toList)) (v' := .bool (decide (x9.1 = (⟨#[115, 101, 110, 100]⟩ : ByteArray)))) (g_pure fun _ => by kernel_rfl) beqS) ?_
        refine sq_p (.bool (decide (x9.1 = (⟨#[115, 101, 110, 100]⟩ : ByteArray)))) rfl (fun _ => by kernel_rfl) ?_
        refine lnil ?_
        refine thn_n ?_
        refine c_cond (decide (x9.1 = (⟨#[115, 101, 110, 100]⟩ : ByteArray))) (by kernel_rfl) (fun hc23 => ?_) (fun hc23 => ?_)
        · skip
          have hc23 := of_decide_eq_true hc23
          refine c_seq ?_
          refine d_start 11 [0] (by kernel_rfl) h fun w h => ?_
          refine d_take 0 238 [0] rfl (v := .pointer (some ⟨k5, 0, none⟩)) (by kernel_rfl) (qp_thn (qp_blk (qp_blk (qp_thn (qp_rnd (qp_blk (qp_thn qp_body))))))) (yq (by kernel_rfl) (g_pure (v := .pointer (some ⟨k5, 0, none⟩)) fun _ => by kernel_rfl)) h (by kernel_rfl) ?_
          refine d_take 1 225 [0] rfl (v := .pointer (some ⟨k11, 1, none⟩)) (by kernel_rfl) (qp_thn (qp_blk (qp_blk (qp_thn (qp_rnd (qp_blk (qp_thn qp_body))))))) (yq (by kernel_rfl) (g_pure (v := .pointer (some ⟨k11, 1, none⟩)) fun _ => by kernel_rfl)) h (by kernel_rfl) ?_
          refine d_take 2 227 [0] rfl (v := .agg #[.string x9.2.1.1, .string x9.2.1.2.1, .string x9.2.1.2.2.1]) (by kernel_rfl) (qp_thn (qp_blk (qp_blk (qp_thn (qp_rnd (qp_blk (qp_thn qp_body))))))) (yq (by kernel_rfl) (g_ld 1 [.string x9.2.1.1, .string x9.2.1.2.1, .string x9.2.1.2.2.1] (.agg #[.string x9.2.1.1, .string x9.2.1.2.1, .string x9.2.1.2.2.1]) (by kernel_rfl) 0 rfl)) h (by kernel_rfl) ?_
          refine d_take 5 223 [0] rfl (v := .pointer (some ⟨k6, 0, none⟩)) (by kernel_rfl) (qp_thn (qp_blk (qp_blk (qp_thn (qp_rnd (qp_blk (qp_thn qp_body))))))) (yq (by kernel_rfl) (g_pure (v := .pointer (some ⟨k6, 0, none⟩)) fun _ => by kernel_rfl)) h (by kernel_rfl) ?_
          refine d_take 6 63 [0] rfl (v := .pointer (some ⟨k11, 1, none⟩)) (by kernel_rfl) (qp_thn (qp_blk (qp_blk (qp_thn (qp_rnd (qp_blk (qp_thn qp_body))))))) (yq (by kernel_rfl) (g_pure (v := .pointer (some ⟨k11, 1, none⟩)) fun _ => by kernel_rfl)) h (by kernel_rfl) ?_
          refine d_take 7 127 [0] rfl (v := .agg #[.string x9.2.1.1, .string x9.2.1.2.1, .string x9.2.1.2.2.1]) (by kernel_rfl) (qp_thn (qp_blk (qp_blk (qp_thn (qp_rnd (qp_blk (qp_thn qp_body))))))) (yq (by kernel_rfl) (g_ld 1 [.string x9.2.1.1, .string x9.2.1.2.1, .string x9.2.1.2.2.1] (.agg #[.string x9.2.1.1, .string x9.2.1.2.1, .string x9.2.1.2.2.1]) (by kernel_rfl) 0 rfl)) h (by kernel_rfl) ?_
          refine d_ready [3] (by kernel_rfl) rfl ?_
          refine ad_call #[.agg #[.string x9.2.1.1, .string x9.2.1.2.1, .string x9.2.1.2.2.1]] [] [0] rfl (by kernel_rfl) (message_spec x9.2.1.1 x9.2.1.2.1 x9.2.1.2.2.1) (fun _ => by kernel_rfl) h ?_ ?_
          · skip
            rintro v_ L_ w ⟨rfl, rfl⟩ h
            refine ⟨by kernel_rfl, ?_⟩
            refine d_ready [4] (by kernel_rfl) rfl ?_
            refine ad_call #[.pointer (some ⟨k5, 0, none⟩), .agg #[.string x9.2.1.1, .string x9.2.1.2.1, .string x9.2.1.2.2.1]] [4, 2, 3, 3, 3] [5] rfl (by kernel_rfl) (netSend_spec ad k5 vt 42 lt (x9.2.1.1, x9.2.1.2.1, x9.2.1.2.2.1) (by omega) (by simp only []; omega) (by simp only []; omega) (by simp only []; omega)) (fun _ => by kernel_rfl) h ?_ ?_
            · skip
              rintro v_ L_ w ⟨v24, rfl, rfl⟩ h
              refine ⟨by kernel_rfl, ?_⟩
              refine d_ready [8] (by kernel_rfl) rfl ?_
              refine ad_call #[.pointer (some ⟨k6, 0, none⟩), .agg #[.string x9.2.1.1, .string x9.2.1.2.1, .string x9.2.1.2.2.1]] [7, 6] [7] rfl (by kernel_rfl) (rnetSend_spec k6 vm 46 lt (x9.2.1.1, x9.2.1.2.1, x9.2.1.2.2.1) (by omega) (by simp only []; omega) (by simp only []; omega) (by simp only []; omega)) (fun _ => by kernel_rfl) h ?_ ?_
              · skip
                rintro v_ L_ w ⟨v25, rfl, rfl⟩ h
                refine ⟨by kernel_rfl, ?_⟩
                refine d_ready [9] (by kernel_rfl) rfl ?_
                refine ad_call #[errV ad ((netSend lt (x9.2.1.1, x9.2.1.2.1, x9.2.1.2.2.1)).2), .int .i64 ((netSend lt (x9.2.1.1, x9.2.1.2.1, x9.2.1.2.2.1)).2 : Int)] [10] [8] rfl (by kernel_rfl) (coded3_spec ad ((netSend lt (x9.2.1.1, x9.2.1.2.1, x9.2.1.2.2.1)).2) ((netSend lt (x9.2.1.1, x9.2.1.2.1, x9.2.1.2.2.1)).2 : Int) (netSend_le _ _) rfl) (fun _ => by kernel_rfl) h ?_ ?_
                · skip
                  rintro v_ L_ w ⟨rfl, rfl⟩ h
                  refine ⟨by kernel_rfl, ?_⟩
                  refine d_take 10 1023 [8] rfl (v := .bool false) (by kernel_rfl) (qp_thn (qp_blk (qp_blk (qp_thn (qp_rnd (qp_blk (qp_thn qp_body))))))) (yq (by kernel_rfl) (g_pure (v := .bool false) fun _ => by kernel_rfl)) h (by kernel_rfl) ?_
                  refine d_done (by kernel_rfl) ?_
                  refine thn_n ?_
                  refine c_false (by kernel_rfl) ?_
                  refine c_skip ?_
                  refine blk_n (blk_n (thn_n ?_))
                  refine c_reg ?_
                  refine sq_p (.int .i64 (n0 : Int)) rfl (fun _ => by kernel_rfl) ?_
                  refine sq_q rfl h (g_eq (v := .int .i64 (IntKind.i64.wrap ((n0 : Int) + 1))) (v' := .int .i64 ((n0 + 1 : Nat) : Int)) (g_pure fun _ => by kernel_rfl) (wr (by omega))) ?_
                  refine sq_p (.int .i64 ((n0 + 1 : Nat) : Int)) rfl (fun _ => by kernel_rfl) ?_
                  refine lnil ?_
                  refine loop_end (fun j => ⟨(n0 + 1), (netSend lt (x9.2.1.1, x9.2.1.2.1, x9.2.1.2.2.1)).1, v24, v25, j⟩) (show ((n0 + 1) ≤ acts.length ∧ ((netSend lt (x9.2.1.1, x9.2.1.2.1, x9.2.1.2.2.1)).1).length ≤ 100) ∧ (acts.length - (n0 + 1)) < (acts.length - n0) from ⟨⟨by omega, (netSend_len hl0)⟩, by omega⟩) (by kernel_rfl) [2, 3, 1, 1, 1, 1, 1, 2, 2, 0] (by kernel_rfl) h
                exact ad_nil
              exact ad_nil
            exact ad_nil
          exact ad_nil
        · skip
          have hc23 := of_decide_eq_false hc23
          refine c_seq ?_
          refine c_reg ?_
          refine sq_q rfl h (g_eq (v := .bool (x9.1.toList == (⟨#[116, 97, 107, 101]⟩ : ByteArray).toList)) (v' := .bool (decide (x9.1 = (⟨#[116, 97, 107, 101]⟩ : ByteArray)))) (g_pure fun _ => by kernel_rfl) beqS) ?_
          refine sq_p (.bool (decide (x9.1 = (⟨#[116, 97, 107, 101]⟩ : ByteArray)))) rfl (fun _ => by kernel_rfl) ?_
          refine lnil ?_
          refine thn_n ?_
          refine c_cond (decide (x9.1 = (⟨#[116, 97, 107, 101]⟩ : ByteArray))) (by kernel_rfl) (fun hc26 => ?_) (fun hc26 => ?_)
          · skip
            have hc26 := of_decide_eq_true hc26
            refine c_seq ?_
            refine c_reg ?_
            refine sq_p (.pointer (some ⟨k5, 0, none⟩)) rfl (fun _ => by kernel_rfl) ?_
            refine sq_p (.pointer (some ⟨k11, 4, none⟩)) rfl (fun _ => by kernel_rfl) ?_
            refine sq_q rfl h (g_ld 4 [.int .i64 x9.2.2.1] (.int .i64 x9.2.2.1) (by kernel_rfl) 0 rfl) ?_
            refine sq_call #[.pointer (some ⟨k5, 0, none⟩), .int .i64 x9.2.2.1] [4, 2, 6] rfl (netTake_spec ad k5 vt 42 lt x9.2.2.1 (by omega)) (fun _ => by kernel_rfl) h ?_; rintro v_ L_ w (⟨i27, y28, v29, hk30, hx31, rfl, rfl⟩ | ⟨hn32, rfl, rfl⟩) h
            · skip
              have hii27 := (List.getElem?_eq_some_iff.1 hx31).1
              refine sq_p (.tuple #[.agg #[.string y28.1, .string y28.2.1, .string y28.2.2], .nilIface]) rfl (fun _ => by kernel_rfl) ?_
              refine sq_p (.agg #[.string y28.1, .string y28.2.1, .string y28.2.2]) rfl (fun _ => by kernel_rfl) ?_
              refine sq_p (.nilIface) rfl (fun _ => by kernel_rfl) ?_
              refine sq_new rfl (fun b => .pointer (some ⟨b, 0, none⟩)) [.string (⟨#[]⟩ : ByteArray), .string (⟨#[]⟩ : ByteArray), .string (⟨#[]⟩ : ByteArray)] 52 (fun _ => by kernel_rfl) h ?_; intro k33 w h
              refine sq_st rfl 0 [.string y28.1, .string y28.2.1, .string y28.2.2] [.string y28.1, .string y28.2.1, .string y28.2.2] h 0 rfl (by kernel_rfl) ?_; intro w h
              refine sq_p (.nilIface) rfl (fun _ => by kernel_rfl) ?_
              refine lnil ?_
              refine thn_n ?_
              refine c_seq ?_
              refine c_reg ?_
              refine sq_p (.pointer (some ⟨k6, 0, none⟩)) rfl (fun _ => by kernel_rfl) ?_
              refine sq_p (.pointer (some ⟨k11, 4, none⟩)) rfl (fun _ => by kernel_rfl) ?_
              refine sq_q rfl h (g_ld 4 [.int .i64 x9.2.2.1] (.int .i64 x9.2.2.1) (by kernel_rfl) 4 rfl) ?_
              refine sq_call #[.pointer (some ⟨k6, 0, none⟩), .int .i64 x9.2.2.1] [6, 5] rfl (rnetTake_spec k6 vm 46 lt x9.2.2.1 (by omega)) (fun _ => by kernel_rfl) h ?_; rintro v_ L_ w (⟨i34, y35, v36, hk37, hx38, rfl, rfl⟩ | ⟨hn39, rfl, rfl⟩) h
              · skip
                obtain rfl : i27 = i34 := by omega
                rw [hx31] at hx38; cases hx38
                refine sq_p (.tuple #[.agg #[.string y28.1, .string y28.2.1, .string y28.2.2], .bool true]) rfl (fun _ => by kernel_rfl) ?_
                refine sq_p (.agg #[.string y28.1, .string y28.2.1, .string y28.2.2]) rfl (fun _ => by kernel_rfl) ?_
                refine sq_p (.bool true) rfl (fun _ => by kernel_rfl) ?_
                refine sq_new rfl (fun b => .pointer (some ⟨b, 0, none⟩)) [.string (⟨#[]⟩ : ByteArray), .string (⟨#[]⟩ : ByteArray), .string (⟨#[]⟩ : ByteArray)] 48 (fun _ => by kernel_rfl) h ?_; intro k40 w h
                refine sq_st rfl 0 [.string y28.1, .string y28.2.1, .string y28.2.2] [.string y28.1, .string y28.2.1, .string y28.2.2] h 0 rfl (by kernel_rfl) ?_; intro w h
                refine sq_p (.bool true) rfl (fun _ => by kernel_rfl) ?_
                refine lnil ?_
                refine thn_n ?_
                refine c_seq ?_
                refine c_seq ?_
                refine c_reg ?_
                refine sq_p (.bool true) rfl (fun _ => by kernel_rfl) ?_
                refine sq_p (.bool false) rfl (fun _ => by kernel_rfl) ?_
                refine lnil ?_
                refine thn_n ?_
                refine c_false (by kernel_rfl) ?_
                refine c_skip ?_
                refine thn_n ?_
                refine c_seq ?_
                refine d_start 8 [0, 2] (by kernel_rfl) h fun w h => ?_
                refine d_take 0 0 [0, 2] rfl (v := .nilIface) (by kernel_rfl) (qp_thn (qp_blk (qp_blk (qp_thn (qp_rnd (qp_blk (qp_thn qp_body))))))) (yq (by kernel_rfl) (g_pure (v := .nilIface) fun _ => by kernel_rfl)) h (by kernel_rfl) ?_
                refine d_take 1 1 [0, 2] rfl (v := .bool false) (by kernel_rfl) (qp_thn (qp_blk (qp_blk (qp_thn (qp_rnd (qp_blk (qp_thn qp_body))))))) (yq (by kernel_rfl) (g_pure (v := .bool false) fun _ => by kernel_rfl)) h (by kernel_rfl) ?_
                refine d_take 2 3 [0, 2] rfl (v := .bool false) (by kernel_rfl) (qp_thn (qp_blk (qp_blk (qp_thn (qp_rnd (qp_blk (qp_thn qp_body))))))) (yq (by kernel_rfl) (g_pure (v := .bool false) fun _ => by kernel_rfl)) h (by kernel_rfl) ?_
                refine d_take 3 39 [0, 2] rfl (v := .agg #[.string y28.1, .string y28.2.1, .string y28.2.2]) (by kernel_rfl) (qp_thn (qp_blk (qp_blk (qp_thn (qp_rnd (qp_blk (qp_thn qp_body))))))) (yq (by kernel_rfl) (g_ld 0 [.string y28.1, .string y28.2.1, .string y28.2.2] (.agg #[.string y28.1, .string y28.2.1, .string y28.2.2]) (by kernel_rfl) 1 rfl)) h (by kernel_rfl) ?_
                refine d_take 5 31 [0, 2] rfl (v := .agg #[.string y28.1, .string y28.2.1, .string y28.2.2]) (by kernel_rfl) (qp_thn (qp_blk (qp_blk (qp_thn (qp_rnd (qp_blk (qp_thn qp_body))))))) (yq (by kernel_rfl) (g_ld 0 [.string y28.1, .string y28.2.1, .string y28.2.2] (.agg #[.string y28.1, .string y28.2.1, .string y28.2.2]) (by kernel_rfl) 0 rfl)) h (by kernel_rfl) ?_
                refine d_ready [4] (by kernel_rfl) rfl ?_
                refine ad_call #[.agg #[.string y28.1, .string y28.2.1, .string y28.2.2]] [] [0, 2] rfl (by kernel_rfl) (backMessage_spec y28.1 y28.2.1 y28.2.2) (fun _ => by kernel_rfl) h ?_ ?_
                · skip
                  rintro v_ L_ w ⟨rfl, rfl⟩ h
                  refine ⟨by kernel_rfl, ?_⟩
                  obtain ⟨b41, hb41⟩ : ∃ b_ : Bool, b_ = (!((decide (y28.1 = y28.1)) && ((decide (y28.2.1 = y28.2.1)) && (decide (y28.2.2 = y28.2.2))))) := ⟨_, rfl⟩
                  refine d_take 6 63 [0, 2] rfl (v := .bool b41) (by kernel_rfl) (qp_thn (qp_blk (qp_blk (qp_thn (qp_rnd (qp_blk (qp_thn qp_body))))))) (yq (by kernel_rfl) (by subst hb41; exact g_neM3 (by kernel_rfl))) h (by kernel_rfl) ?_
                  refine d_take 7 127 [0, 2] rfl (v := .bool b41) (by kernel_rfl) (qp_thn (qp_blk (qp_blk (qp_thn (qp_rnd (qp_blk (qp_thn qp_body))))))) (yq (by kernel_rfl) (g_pure (v := .bool b41) fun _ => by kernel_rfl)) h (by kernel_rfl) ?_
                  refine d_done (by kernel_rfl) ?_
                  refine thn_n ?_
                  refine c_cond (b41) (by kernel_rfl) (fun hc42 => ?_) (fun hc42 => ?_)
                  · skip
                    have q43 : (!((decide (y28.1 = y28.1)) && ((decide (y28.2.1 = y28.2.1)) && (decide (y28.2.2 = y28.2.2))))) = true := by rw [← hb41]; exact hc42
                    have q44 : ((decide (y28.1 = y28.1)) && ((decide (y28.2.1 = y28.2.1)) && (decide (y28.2.2 = y28.2.2)))) = false := by revert q43; cases ((decide (y28.1 = y28.1)) && ((decide (y28.2.1 = y28.2.1)) && (decide (y28.2.2 = y28.2.2)))) <;> simp
                    exfalso; revert hc42; subst hb41; simp
                  · skip
                    have q45 : (!((decide (y28.1 = y28.1)) && ((decide (y28.2.1 = y28.2.1)) && (decide (y28.2.2 = y28.2.2))))) = false := by rw [← hb41]; exact hc42
                    have q46 : ((decide (y28.1 = y28.1)) && ((decide (y28.2.1 = y28.2.1)) && (decide (y28.2.2 = y28.2.2)))) = true := by revert q45; cases ((decide (y28.1 = y28.1)) && ((decide (y28.2.1 = y28.2.1)) && (decide (y28.2.2 = y28.2.2)))) <;> simp
                    have q47 : (decide (y28.1 = y28.1)) = true := by revert q46; cases (decide (y28.1 = y28.1)) <;> simp
                    have q48 : ((decide (y28.2.1 = y28.2.1)) && (decide (y28.2.2 = y28.2.2))) = true := by revert q46; cases (decide (y28.1 = y28.1)) <;> cases ((decide (y28.2.1 = y28.2.1)) && (decide (y28.2.2 = y28.2.2))) <;> simp
                    have q47 := of_decide_eq_true q47
                    have q49 : (decide (y28.2.1 = y28.2.1)) = true := by revert q48; cases (decide (y28.2.1 = y28.2.1)) <;> simp
                    have q50 : (decide (y28.2.2 = y28.2.2)) = true := by revert q48; cases (decide (y28.2.1 = y28.2.1)) <;> cases (decide (y28.2.2 = y28.2.2)) <;> simp
                    have q49 := of_decide_eq_true q49
                    have q50 := of_decide_eq_true q50
                    refine c_skip ?_
                    refine blk_n (blk_n (thn_n ?_))
                    refine c_reg ?_
                    refine sq_p (.int .i64 (n0 : Int)) rfl (fun _ => by kernel_rfl) ?_
                    refine sq_q rfl h (g_eq (v := .int .i64 (IntKind.i64.wrap ((n0 : Int) + 1))) (v' := .int .i64 ((n0 + 1 : Nat) : Int)) (g_pure fun _ => by kernel_rfl) (wr (by omega))) ?_
                    refine sq_p (.int .i64 ((n0 + 1 : Nat) : Int)) rfl (fun _ => by kernel_rfl) ?_
                    refine lnil ?_
                    refine loop_end (fun j => ⟨(n0 + 1), netDel lt i27, v29, v36, j⟩) (show ((n0 + 1) ≤ acts.length ∧ (netDel lt i27).length ≤ 100) ∧ (acts.length - (n0 + 1)) < (acts.length - n0) from ⟨⟨by omega, (Nat.le_trans (netDel_len _ _) hl0)⟩, by omega⟩) (by kernel_rfl) [2, 4, 1, 2, 4, 4, 4, 2, 3, 3] (by kernel_rfl) h
                exact ad_nil
              · skip
                exfalso; omega
            · skip
              refine sq_p (.tuple #[.agg #[.string ⟨#[]⟩, .string ⟨#[]⟩, .string ⟨#[]⟩], errV ad 5]) rfl (fun _ => by kernel_rfl) ?_
              refine sq_p (.agg #[.string ⟨#[]⟩, .string ⟨#[]⟩, .string ⟨#[]⟩]) rfl (fun _ => by kernel_rfl) ?_
              refine sq_p (errV ad 5) rfl (fun _ => by kernel_rfl) ?_
              refine sq_new rfl (fun b => .pointer (some ⟨b, 0, none⟩)) [.string (⟨#[]⟩ : ByteArray), .string (⟨#[]⟩ : ByteArray), .string (⟨#[]⟩ : ByteArray)] 52 (fun _ => by kernel_rfl) h ?_; intro k51 w h
              refine sq_st rfl 0 [.string ⟨#[]⟩, .string ⟨#[]⟩, .string ⟨#[]⟩] [.string ⟨#[]⟩, .string ⟨#[]⟩, .string ⟨#[]⟩] h 0 rfl (by kernel_rfl) ?_; intro w h
              refine sq_p (errV ad 5) rfl (fun _ => by kernel_rfl) ?_
              refine lnil ?_
              refine thn_n ?_
              refine c_seq ?_
              refine c_reg ?_
              refine sq_p (.pointer (some ⟨k6, 0, none⟩)) rfl (fun _ => by kernel_rfl) ?_
              refine sq_p (.pointer (some ⟨k11, 4, none⟩)) rfl (fun _ => by kernel_rfl) ?_
              refine sq_q rfl h (g_ld 4 [.int .i64 x9.2.2.1] (.int .i64 x9.2.2.1) (by kernel_rfl) 4 rfl) ?_
              refine sq_call #[.pointer (some ⟨k6, 0, none⟩), .int .i64 x9.2.2.1] [6, 5] rfl (rnetTake_spec k6 vm 46 lt x9.2.2.1 (by omega)) (fun _ => by kernel_rfl) h ?_; rintro v_ L_ w (⟨i52, y53, v54, hk55, hx56, rfl, rfl⟩ | ⟨hn57, rfl, rfl⟩) h
              · skip
                have := (List.getElem?_eq_some_iff.1 hx56).1
                exfalso; omega
              · skip
                refine sq_p (.tuple #[.agg #[.string ⟨#[]⟩, .string ⟨#[]⟩, .string ⟨#[]⟩], .bool false]) rfl (fun _ => by kernel_rfl) ?_
                refine sq_p (.agg #[.string ⟨#[]⟩, .string ⟨#[]⟩, .string ⟨#[]⟩]) rfl (fun _ => by kernel_rfl) ?_
                refine sq_p (.bool false) rfl (fun _ => by kernel_rfl) ?_
                refine sq_new rfl (fun b => .pointer (some ⟨b, 0, none⟩)) [.string (⟨#[]⟩ : ByteArray), .string (⟨#[]⟩ : ByteArray), .string (⟨#[]⟩ : ByteArray)] 48 (fun _ => by kernel_rfl) h ?_; intro k58 w h
                refine sq_st rfl 0 [.string ⟨#[]⟩, .string ⟨#[]⟩, .string ⟨#[]⟩] [.string ⟨#[]⟩, .string ⟨#[]⟩, .string ⟨#[]⟩] h 0 rfl (by kernel_rfl) ?_; intro w h
                refine sq_p (.bool false) rfl (fun _ => by kernel_rfl) ?_
                refine lnil ?_
                refine thn_n ?_
                refine c_seq ?_
                refine c_seq ?_
                refine c_reg ?_
                refine sq_p (.bool false) rfl (fun _ => by kernel_rfl) ?_
                refine sq_p (.bool true) rfl (fun _ => by kernel_rfl) ?_
                refine lnil ?_
                refine thn_n ?_
                refine c_true (by kernel_rfl) ?_
                refine c_seq ?_
                refine c_seq ?_
                refine c_reg ?_
                refine sq_p (errV ad 5) rfl (fun _ => by kernel_rfl) ?_
                refine sq_call #[errV ad 5, .int .i64 5] [12] rfl (coded3_spec ad 5 5 (by decide) rfl) (fun _ => by kernel_rfl) h ?_; rintro v_ L_ w ⟨rfl, rfl⟩ h
                refine sq_p (.bool false) rfl (fun _ => by kernel_rfl) ?_
                refine sq_p (.bool false) rfl (fun _ => by kernel_rfl) ?_
                refine sq_q (by kernel_rfl) h (g_ld 0 [.string ⟨#[]⟩, .string ⟨#[]⟩, .string ⟨#[]⟩] (.agg #[.string ⟨#[]⟩, .string ⟨#[]⟩, .string ⟨#[]⟩]) (by kernel_rfl) 4 rfl) ?_
                refine sq_p (.agg #[.string (⟨#[]⟩ : ByteArray), .string (⟨#[]⟩ : ByteArray), .string (⟨#[]⟩ : ByteArray)]) (by kernel_rfl) (fun _ => by kernel_rfl) ?_
                obtain ⟨b59, hb59⟩ : ∃ b_ : Bool, b_ = (!((decide (⟨#[]⟩ = (⟨#[]⟩ : ByteArray))) && ((decide (⟨#[]⟩ = (⟨#[]⟩ : ByteArray))) && (decide (⟨#[]⟩ = (⟨#[]⟩ : ByteArray)))))) := ⟨_, rfl⟩
                refine sq_q (v := .bool b59) (by kernel_rfl) h (by subst hb59; exact g_neN3 (by kernel_rfl)) ?_
                refine sq_p (.bool b59) rfl (fun _ => by kernel_rfl) ?_
                refine lnil ?_
                refine thn_n ?_
                refine c_cond (b59) (by kernel_rfl) (fun hc60 => ?_) (fun hc60 => ?_)
                · skip
                  have q61 : (!((decide (⟨#[]⟩ = (⟨#[]⟩ : ByteArray))) && ((decide (⟨#[]⟩ = (⟨#[]⟩ : ByteArray))) && (decide (⟨#[]⟩ = (⟨#[]⟩ : ByteArray)))))) = true := by rw [← hb59]; exact hc60
                  have q62 : ((decide (⟨#[]⟩ = (⟨#[]⟩ : ByteArray))) && ((decide (⟨#[]⟩ = (⟨#[]⟩ : ByteArray))) && (decide (⟨#[]⟩ = (⟨#[]⟩ : ByteArray))))) = false := by revert q61; cases ((decide (⟨#[]⟩ = (⟨#[]⟩ : ByteArray))) && ((decide (⟨#[]⟩ = (⟨#[]⟩ : ByteArray))) && (decide (⟨#[]⟩ = (⟨#[]⟩ : ByteArray))))) <;> simp
                  exfalso; revert hc60; subst hb59; simp
                · skip
                  have q63 : (!((decide (⟨#[]⟩ = (⟨#[]⟩ : ByteArray))) && ((decide (⟨#[]⟩ = (⟨#[]⟩ : ByteArray))) && (decide (⟨#[]⟩ = (⟨#[]⟩ : ByteArray)))))) = false := by rw [← hb59]; exact hc60
                  have q64 : ((decide (⟨#[]⟩ = (⟨#[]⟩ : ByteArray))) && ((decide (⟨#[]⟩ = (⟨#[]⟩ : ByteArray))) && (decide (⟨#[]⟩ = (⟨#[]⟩ : ByteArray))))) = true := by revert q63; cases ((decide (⟨#[]⟩ = (⟨#[]⟩ : ByteArray))) && ((decide (⟨#[]⟩ = (⟨#[]⟩ : ByteArray))) && (decide (⟨#[]⟩ = (⟨#[]⟩ : ByteArray))))) <;> simp
                  have q65 : (decide (⟨#[]⟩ = (⟨#[]⟩ : ByteArray))) = true := by revert q64; cases (decide (⟨#[]⟩ = (⟨#[]⟩ : ByteArray))) <;> simp
                  have q66 : ((decide (⟨#[]⟩ = (⟨#[]⟩ : ByteArray))) && (decide (⟨#[]⟩ = (⟨#[]⟩ : ByteArray)))) = true := by revert q64; cases (decide (⟨#[]⟩ = (⟨#[]⟩ : ByteArray))) <;> cases ((decide (⟨#[]⟩ = (⟨#[]⟩ : ByteArray))) && (decide (⟨#[]⟩ = (⟨#[]⟩ : ByteArray)))) <;> simp
                  have q65 := of_decide_eq_true q65
                  have q67 : (decide (⟨#[]⟩ = (⟨#[]⟩ : ByteArray))) = true := by revert q66; cases (decide (⟨#[]⟩ = (⟨#[]⟩ : ByteArray))) <;> simp
                  have q68 : (decide (⟨#[]⟩ = (⟨#[]⟩ : ByteArray))) = true := by revert q66; cases (decide (⟨#[]⟩ = (⟨#[]⟩ : ByteArray))) <;> cases (decide (⟨#[]⟩ = (⟨#[]⟩ : ByteArray))) <;> simp
                  have q67 := of_decide_eq_true q67
                  have q68 := of_decide_eq_true q68
                  refine c_skip ?_
                  refine thn_n ?_
                  refine c_exit ?_
                  refine thn_e (blk_x rfl (blk_e (thn_n ?_)))
                  refine c_reg ?_
                  refine sq_p (.int .i64 (n0 : Int)) rfl (fun _ => by kernel_rfl) ?_
                  refine sq_q rfl h (g_eq (v := .int .i64 (IntKind.i64.wrap ((n0 : Int) + 1))) (v' := .int .i64 ((n0 + 1 : Nat) : Int)) (g_pure fun _ => by kernel_rfl) (wr (by omega))) ?_
                  refine sq_p (.int .i64 ((n0 + 1 : Nat) : Int)) rfl (fun _ => by kernel_rfl) ?_
                  refine lnil ?_
                  refine loop_end (fun j => ⟨(n0 + 1), lt, vt, vm, j⟩) (show ((n0 + 1) ≤ acts.length ∧ lt.length ≤ 100) ∧ (acts.length - (n0 + 1)) < (acts.length - n0) from ⟨⟨by omega, hl0⟩, by omega⟩) (by kernel_rfl) [3, 5, 2, 3, 5, 5, 5, 3, 4, 0] (by kernel_rfl) h
          · skip
            have hc26 := of_decide_eq_false hc26
            refine c_seq ?_
            refine c_reg ?_
            refine sq_q rfl h (g_eq (v := .bool (x9.1.toList == (⟨#[100, 114, 111, 112]⟩ : ByteArray).toList)) (v' := .bool (decide (x9.1 = (⟨#[100, 114, 111, 112]⟩ : ByteArray)))) (g_pure fun _ => by kernel_rfl) beqS) ?_
            refine sq_p (.bool (decide (x9.1 = (⟨#[100, 114, 111, 112]⟩ : ByteArray)))) rfl (fun _ => by kernel_rfl) ?_
            refine lnil ?_
            refine thn_n ?_
            refine c_cond (decide (x9.1 = (⟨#[100, 114, 111, 112]⟩ : ByteArray))) (by kernel_rfl) (fun hc69 => ?_) (fun hc69 => ?_)
            · skip
              have hc69 := of_decide_eq_true hc69
              refine c_seq ?_
              refine c_reg ?_
              refine sq_p (.pointer (some ⟨k5, 0, none⟩)) rfl (fun _ => by kernel_rfl) ?_
              refine sq_p (.pointer (some ⟨k11, 4, none⟩)) rfl (fun _ => by kernel_rfl) ?_
              refine sq_q rfl h (g_ld 4 [.int .i64 x9.2.2.1] (.int .i64 x9.2.2.1) (by kernel_rfl) 0 rfl) ?_
              refine sq_call #[.pointer (some ⟨k5, 0, none⟩), .int .i64 x9.2.2.1] [4, 2, 6] rfl (netDrop_spec ad k5 vt 42 lt x9.2.2.1 (by omega)) (fun _ => by kernel_rfl) h ?_; rintro v_ L_ w (⟨i70, y71, v72, hk73, hx74, rfl, rfl⟩ | ⟨hn75, rfl, rfl⟩) h
              · skip
                have hii70 := (List.getElem?_eq_some_iff.1 hx74).1
                refine sq_p (.nilIface) rfl (fun _ => by kernel_rfl) ?_
                refine lnil ?_
                refine thn_n ?_
                refine c_seq ?_
                refine c_reg ?_
                refine sq_p (.pointer (some ⟨k6, 0, none⟩)) rfl (fun _ => by kernel_rfl) ?_
                refine sq_p (.pointer (some ⟨k11, 4, none⟩)) rfl (fun _ => by kernel_rfl) ?_
                refine sq_q rfl h (g_ld 4 [.int .i64 x9.2.2.1] (.int .i64 x9.2.2.1) (by kernel_rfl) 3 rfl) ?_
                refine sq_call #[.pointer (some ⟨k6, 0, none⟩), .int .i64 x9.2.2.1] [5, 4] rfl (rnetTake_spec k6 vm 46 lt x9.2.2.1 (by omega)) (fun _ => by kernel_rfl) h ?_; rintro v_ L_ w (⟨i76, y77, v78, hk79, hx80, rfl, rfl⟩ | ⟨hn81, rfl, rfl⟩) h
                · skip
                  obtain rfl : i70 = i76 := by omega
                  rw [hx74] at hx80; cases hx80
                  refine sq_p (.tuple #[.agg #[.string y71.1, .string y71.2.1, .string y71.2.2], .bool true]) rfl (fun _ => by kernel_rfl) ?_
                  refine sq_p (.agg #[.string y71.1, .string y71.2.1, .string y71.2.2]) rfl (fun _ => by kernel_rfl) ?_
                  refine sq_p (.bool true) rfl (fun _ => by kernel_rfl) ?_
                  refine sq_new rfl (fun b => .pointer (some ⟨b, 0, none⟩)) [.string (⟨#[]⟩ : ByteArray), .string (⟨#[]⟩ : ByteArray), .string (⟨#[]⟩ : ByteArray)] 48 (fun _ => by kernel_rfl) h ?_; intro k82 w h
                  refine sq_st rfl 0 [.string y71.1, .string y71.2.1, .string y71.2.2] [.string y71.1, .string y71.2.1, .string y71.2.2] h 0 rfl (by kernel_rfl) ?_; intro w h
                  refine sq_p (.bool true) rfl (fun _ => by kernel_rfl) ?_
                  refine lnil ?_
                  refine thn_n ?_
                  refine c_seq ?_
                  refine c_reg ?_
                  refine sq_p (.bool true) rfl (fun _ => by kernel_rfl) ?_
                  refine sq_p (.nilIface) rfl (fun _ => by kernel_rfl) ?_
                  refine sq_p (.bool true) rfl (fun _ => by kernel_rfl) ?_
                  refine sq_p (.bool false) rfl (fun _ => by kernel_rfl) ?_
                  refine sq_p (.bool false) rfl (fun _ => by kernel_rfl) ?_
                  refine sq_p (.bool true) (by kernel_rfl) (fun _ => by kernel_rfl) ?_
                  refine sq_p (.bool false) (by kernel_rfl) (fun _ => by kernel_rfl) ?_
                  refine sq_p (.bool false) (by kernel_rfl) (fun _ => by kernel_rfl) ?_
                  refine sn (by kernel_rfl) ?_
                  refine sn (by kernel_rfl) ?_
                  refine sn (by kernel_rfl) ?_
                  refine sq_p (.bool false) (by kernel_rfl) (fun _ => by kernel_rfl) ?_
                  refine sq_p (.bool false) rfl (fun _ => by kernel_rfl) ?_
                  refine lnil ?_
                  refine thn_n ?_
                  refine c_false (by kernel_rfl) ?_
                  refine c_skip ?_
                  refine blk_n (blk_n (thn_n ?_))
                  refine c_reg ?_
                  refine sq_p (.int .i64 (n0 : Int)) rfl (fun _ => by kernel_rfl) ?_
                  refine sq_q rfl h (g_eq (v := .int .i64 (IntKind.i64.wrap ((n0 : Int) + 1))) (v' := .int .i64 ((n0 + 1 : Nat) : Int)) (g_pure fun _ => by kernel_rfl) (wr (by omega))) ?_
                  refine sq_p (.int .i64 ((n0 + 1 : Nat) : Int)) rfl (fun _ => by kernel_rfl) ?_
                  refine lnil ?_
                  refine loop_end (fun j => ⟨(n0 + 1), netDel lt i70, v72, v78, j⟩) (show ((n0 + 1) ≤ acts.length ∧ (netDel lt i70).length ≤ 100) ∧ (acts.length - (n0 + 1)) < (acts.length - n0) from ⟨⟨by omega, (Nat.le_trans (netDel_len _ _) hl0)⟩, by omega⟩) (by kernel_rfl) [2, 3, 1, 1, 3, 3, 3, 1, 2, 2] (by kernel_rfl) h
                · skip
                  exfalso; omega
              · skip
                refine sq_p (errV ad 5) rfl (fun _ => by kernel_rfl) ?_
                refine lnil ?_
                refine thn_n ?_
                refine c_seq ?_
                refine c_reg ?_
                refine sq_p (.pointer (some ⟨k6, 0, none⟩)) rfl (fun _ => by kernel_rfl) ?_
                refine sq_p (.pointer (some ⟨k11, 4, none⟩)) rfl (fun _ => by kernel_rfl) ?_
                refine sq_q rfl h (g_ld 4 [.int .i64 x9.2.2.1] (.int .i64 x9.2.2.1) (by kernel_rfl) 3 rfl) ?_
                refine sq_call #[.pointer (some ⟨k6, 0, none⟩), .int .i64 x9.2.2.1] [5, 4] rfl (rnetTake_spec k6 vm 46 lt x9.2.2.1 (by omega)) (fun _ => by kernel_rfl) h ?_; rintro v_ L_ w (⟨i83, y84, v85, hk86, hx87, rfl, rfl⟩ | ⟨hn88, rfl, rfl⟩) h
                · skip
                  have := (List.getElem?_eq_some_iff.1 hx87).1
                  exfalso; omega
                · skip
                  refine sq_p (.tuple #[.agg #[.string ⟨#[]⟩, .string ⟨#[]⟩, .string ⟨#[]⟩], .bool false]) rfl (fun _ => by kernel_rfl) ?_
                  refine sq_p (.agg #[.string ⟨#[]⟩, .string ⟨#[]⟩, .string ⟨#[]⟩]) rfl (fun _ => by kernel_rfl) ?_
                  refine sq_p (.bool false) rfl (fun _ => by kernel_rfl) ?_
                  refine sq_new rfl (fun b => .pointer (some ⟨b, 0, none⟩)) [.string (⟨#[]⟩ : ByteArray), .string (⟨#[]⟩ : ByteArray), .string (⟨#[]⟩ : ByteArray)] 48 (fun _ => by kernel_rfl) h ?_; intro k89 w h
                  refine sq_st rfl 0 [.string ⟨#[]⟩, .string ⟨#[]⟩, .string ⟨#[]⟩] [.string ⟨#[]⟩, .string ⟨#[]⟩, .string ⟨#[]⟩] h 0 rfl (by kernel_rfl) ?_; intro w h
                  refine sq_p (.bool false) rfl (fun _ => by kernel_rfl) ?_
                  refine lnil ?_
                  refine thn_n ?_
                  refine c_seq ?_
                  refine c_reg ?_
                  refine sq_p (.bool false) rfl (fun _ => by kernel_rfl) ?_
                  refine sq_p (errV ad 5) rfl (fun _ => by kernel_rfl) ?_
                  refine sq_p (.bool false) rfl (fun _ => by kernel_rfl) ?_
                  refine sq_p (.bool false) rfl (fun _ => by kernel_rfl) ?_
                  refine sq_p (.bool false) rfl (fun _ => by kernel_rfl) ?_
                  refine sq_p (.bool false) (by kernel_rfl) (fun _ => by kernel_rfl) ?_
                  refine sq_p (.bool true) (by kernel_rfl) (fun _ => by kernel_rfl) ?_
                  refine sq_p (.bool true) (by kernel_rfl) (fun _ => by kernel_rfl) ?_
                  refine sq_p (errV ad 5) (by kernel_rfl) (fun _ => by kernel_rfl) ?_
                  refine sq_call #[errV ad 5, .int .i64 5] [11] (by kernel_rfl) (coded3_spec ad 5 5 (by decide) rfl) (fun _ => by kernel_rfl) h ?_; rintro v_ L_ w ⟨rfl, rfl⟩ h
                  refine sq_p (.bool false) (by kernel_rfl) (fun _ => by kernel_rfl) ?_
                  refine sq_p (.bool false) (by kernel_rfl) (fun _ => by kernel_rfl) ?_
                  refine sq_p (.bool false) rfl (fun _ => by kernel_rfl) ?_
                  refine lnil ?_
                  refine thn_n ?_
                  refine c_false (by kernel_rfl) ?_
                  refine c_skip ?_
                  refine blk_n (blk_n (thn_n ?_))
                  refine c_reg ?_
                  refine sq_p (.int .i64 (n0 : Int)) rfl (fun _ => by kernel_rfl) ?_
                  refine sq_q rfl h (g_eq (v := .int .i64 (IntKind.i64.wrap ((n0 : Int) + 1))) (v' := .int .i64 ((n0 + 1 : Nat) : Int)) (g_pure fun _ => by kernel_rfl) (wr (by omega))) ?_
                  refine sq_p (.int .i64 ((n0 + 1 : Nat) : Int)) rfl (fun _ => by kernel_rfl) ?_
                  refine lnil ?_
                  refine loop_end (fun j => ⟨(n0 + 1), lt, vt, vm, j⟩) (show ((n0 + 1) ≤ acts.length ∧ lt.length ≤ 100) ∧ (acts.length - (n0 + 1)) < (acts.length - n0) from ⟨⟨by omega, hl0⟩, by omega⟩) (by kernel_rfl) [3, 4, 2, 2, 4, 4, 4, 2, 3, 0] (by kernel_rfl) h
            · skip
              have hc69 := of_decide_eq_false hc69
              refine c_seq ?_
              refine c_reg ?_
              refine sq_q rfl h (g_eq (v := .bool (x9.1.toList == (⟨#[116, 119, 105, 99, 101]⟩ : ByteArray).toList)) (v' := .bool (decide (x9.1 = (⟨#[116, 119, 105, 99, 101]⟩ : ByteArray)))) (g_pure fun _ => by kernel_rfl) beqS) ?_
              refine sq_p (.bool (decide (x9.1 = (⟨#[116, 119, 105, 99, 101]⟩ : ByteArray)))) rfl (fun _ => by kernel_rfl) ?_
              refine lnil ?_
              refine thn_n ?_
              refine c_cond (decide (x9.1 = (⟨#[116, 119, 105, 99, 101]⟩ : ByteArray))) (by kernel_rfl) (fun hc90 => ?_) (fun hc90 => ?_)
              · skip
                have hc90 := of_decide_eq_true hc90
                refine c_seq ?_
                refine d_start 10 [0] (by kernel_rfl) h fun w h => ?_
                refine d_take 0 118 [0] rfl (v := .pointer (some ⟨k5, 0, none⟩)) (by kernel_rfl) (qp_thn (qp_blk (qp_blk (qp_thn (qp_rnd (qp_blk (qp_thn qp_body))))))) (yq (by kernel_rfl) (g_pure (v := .pointer (some ⟨k5, 0, none⟩)) fun _ => by kernel_rfl)) h (by kernel_rfl) ?_
                refine d_take 1 113 [0] rfl (v := .pointer (some ⟨k11, 4, none⟩)) (by kernel_rfl) (qp_thn (qp_blk (qp_blk (qp_thn (qp_rnd (qp_blk (qp_thn qp_body))))))) (yq (by kernel_rfl) (g_pure (v := .pointer (some ⟨k11, 4, none⟩)) fun _ => by kernel_rfl)) h (by kernel_rfl) ?_
                refine d_take 2 115 [0] rfl (v := .int .i64 x9.2.2.1) (by kernel_rfl) (qp_thn (qp_blk (qp_blk (qp_thn (qp_rnd (qp_blk (qp_thn qp_body))))))) (yq (by kernel_rfl) (g_ld 4 [.int .i64 x9.2.2.1] (.int .i64 x9.2.2.1) (by kernel_rfl) 0 rfl)) h (by kernel_rfl) ?_
                refine d_take 4 111 [0] rfl (v := .pointer (some ⟨k6, 0, none⟩)) (by kernel_rfl) (qp_thn (qp_blk (qp_blk (qp_thn (qp_rnd (qp_blk (qp_thn qp_body))))))) (yq (by kernel_rfl) (g_pure (v := .pointer (some ⟨k6, 0, none⟩)) fun _ => by kernel_rfl)) h (by kernel_rfl) ?_
                refine d_take 5 31 [0] rfl (v := .pointer (some ⟨k11, 4, none⟩)) (by kernel_rfl) (qp_thn (qp_blk (qp_blk (qp_thn (qp_rnd (qp_blk (qp_thn qp_body))))))) (yq (by kernel_rfl) (g_pure (v := .pointer (some ⟨k11, 4, none⟩)) fun _ => by kernel_rfl)) h (by kernel_rfl) ?_
                refine d_take 6 63 [0] rfl (v := .int .i64 x9.2.2.1) (by kernel_rfl) (qp_thn (qp_blk (qp_blk (qp_thn (qp_rnd (qp_blk (qp_thn qp_body))))))) (yq (by kernel_rfl) (g_ld 4 [.int .i64 x9.2.2.1] (.int .i64 x9.2.2.1) (by kernel_rfl) 0 rfl)) h (by kernel_rfl) ?_
                refine d_ready [3] (by kernel_rfl) rfl ?_
                refine ad_call #[.pointer (some ⟨k5, 0, none⟩), .int .i64 x9.2.2.1] [4, 2, 6, 5] [4] rfl (by kernel_rfl) (netTwice_spec ad k5 vt 42 lt x9.2.2.1 (by omega)) (fun _ => by kernel_rfl) h ?_ ?_
                · skip
                  rintro v_ L_ w ⟨v91, rfl, rfl⟩ h
                  refine ⟨by kernel_rfl, ?_⟩
                  refine d_ready [7] (by kernel_rfl) rfl ?_
                  refine ad_call #[.pointer (some ⟨k6, 0, none⟩), .int .i64 x9.2.2.1] [6, 5] [6] rfl (by kernel_rfl) (rnetTwice_two k6 vm 46 lt x9.2.2.1 (by omega)) (fun _ => by kernel_rfl) h ?_ ?_
                  · skip
                    rintro v_ L_ w ⟨v92, rfl, rfl⟩ h
                    refine ⟨by kernel_rfl, ?_⟩
                    refine d_ready [8] (by kernel_rfl) rfl ?_
                    refine ad_call #[errV ad (twC lt x9.2.2.1), .int .i64 (twC lt x9.2.2.1 : Int)] [10] [7] rfl (by kernel_rfl) (coded3_spec ad (twC lt x9.2.2.1) (twC lt x9.2.2.1 : Int) (twC_le _ _) rfl) (fun _ => by kernel_rfl) h ?_ ?_
                    · skip
                      rintro v_ L_ w ⟨rfl, rfl⟩ h
                      refine ⟨by kernel_rfl, ?_⟩
                      refine d_take 9 511 [7] rfl (v := .bool false) (by kernel_rfl) (qp_thn (qp_blk (qp_blk (qp_thn (qp_rnd (qp_blk (qp_thn qp_body))))))) (yq (by kernel_rfl) (g_pure (v := .bool false) fun _ => by kernel_rfl)) h (by kernel_rfl) ?_
                      refine d_done (by kernel_rfl) ?_
                      refine thn_n ?_
                      refine c_false (by kernel_rfl) ?_
                      refine c_skip ?_
                      refine blk_n (blk_n (thn_n ?_))
                      refine c_reg ?_
                      refine sq_p (.int .i64 (n0 : Int)) rfl (fun _ => by kernel_rfl) ?_
                      refine sq_q rfl h (g_eq (v := .int .i64 (IntKind.i64.wrap ((n0 : Int) + 1))) (v' := .int .i64 ((n0 + 1 : Nat) : Int)) (g_pure fun _ => by kernel_rfl) (wr (by omega))) ?_
                      refine sq_p (.int .i64 ((n0 + 1 : Nat) : Int)) rfl (fun _ => by kernel_rfl) ?_
                      refine lnil ?_
                      refine loop_end (fun j => ⟨(n0 + 1), twL lt x9.2.2.1, v91, v92, j⟩) (show ((n0 + 1) ≤ acts.length ∧ (twL lt x9.2.2.1).length ≤ 100) ∧ (acts.length - (n0 + 1)) < (acts.length - n0) from ⟨⟨by omega, (twL_len hl0)⟩, by omega⟩) (by kernel_rfl) [2, 3, 1, 1, 4, 4, 2, 1, 2, 0] (by kernel_rfl) h
                    exact ad_nil
                  exact ad_nil
                exact ad_nil
              · skip
                have hc90 := of_decide_eq_false hc90
                refine c_seq ?_
                refine d_start 11 [0] (by kernel_rfl) h fun w h => ?_
                refine d_take 0 494 [0] rfl (v := .pointer (some ⟨k5, 0, none⟩)) (by kernel_rfl) (qp_thn (qp_blk (qp_blk (qp_thn (qp_rnd (qp_blk (qp_thn qp_body))))))) (yq (by kernel_rfl) (g_pure (v := .pointer (some ⟨k5, 0, none⟩)) fun _ => by kernel_rfl)) h (by kernel_rfl) ?_
                refine d_take 1 481 [0] rfl (v := .pointer (some ⟨k11, 1, none⟩)) (by kernel_rfl) (qp_thn (qp_blk (qp_blk (qp_thn (qp_rnd (qp_blk (qp_thn qp_body))))))) (yq (by kernel_rfl) (g_pure (v := .pointer (some ⟨k11, 1, none⟩)) fun _ => by kernel_rfl)) h (by kernel_rfl) ?_
                refine d_take 2 483 [0] rfl (v := .pointer (some ⟨k11, 2, none⟩)) (by kernel_rfl) (qp_thn (qp_blk (qp_blk (qp_thn (qp_rnd (qp_blk (qp_thn qp_body))))))) (yq (by kernel_rfl) (g_pure (v := .pointer (some ⟨k11, 2, none⟩)) fun _ => by kernel_rfl)) h (by kernel_rfl) ?_
                refine d_take 3 487 [0] rfl (v := .string x9.2.1.2.1) (by kernel_rfl) (qp_thn (qp_blk (qp_blk (qp_thn (qp_rnd (qp_blk (qp_thn qp_body))))))) (yq (by kernel_rfl) (g_ld 2 [.string x9.2.1.2.1] (.string x9.2.1.2.1) (by kernel_rfl) 0 rfl)) h (by kernel_rfl) ?_
                refine d_take 5 479 [0] rfl (v := .pointer (some ⟨k6, 0, none⟩)) (by kernel_rfl) (qp_thn (qp_blk (qp_blk (qp_thn (qp_rnd (qp_blk (qp_thn qp_body))))))) (yq (by kernel_rfl) (g_pure (v := .pointer (some ⟨k6, 0, none⟩)) fun _ => by kernel_rfl)) h (by kernel_rfl) ?_
                refine d_take 6 63 [0] rfl (v := .pointer (some ⟨k11, 1, none⟩)) (by kernel_rfl) (qp_thn (qp_blk (qp_blk (qp_thn (qp_rnd (qp_blk (qp_thn qp_body))))))) (yq (by kernel_rfl) (g_pure (v := .pointer (some ⟨k11, 1, none⟩)) fun _ => by kernel_rfl)) h (by kernel_rfl) ?_
                refine d_take 7 127 [0] rfl (v := .pointer (some ⟨k11, 2, none⟩)) (by kernel_rfl) (qp_thn (qp_blk (qp_blk (qp_thn (qp_rnd (qp_blk (qp_thn qp_body))))))) (yq (by kernel_rfl) (g_pure (v := .pointer (some ⟨k11, 2, none⟩)) fun _ => by kernel_rfl)) h (by kernel_rfl) ?_
                refine d_take 8 255 [0] rfl (v := .string x9.2.1.2.1) (by kernel_rfl) (qp_thn (qp_blk (qp_blk (qp_thn (qp_rnd (qp_blk (qp_thn qp_body))))))) (yq (by kernel_rfl) (g_ld 2 [.string x9.2.1.2.1] (.string x9.2.1.2.1) (by kernel_rfl) 0 rfl)) h (by kernel_rfl) ?_
                refine d_ready [4] (by kernel_rfl) rfl ?_
                refine ad_call #[.pointer (some ⟨k5, 0, none⟩), .string x9.2.1.2.1] [4, 2] [2] rfl (by kernel_rfl) (netFor_spec k5 vt 42 lt x9.2.1.2.1 (by omega)) (fun _ => by kernel_rfl) h ?_ ?_
                · skip
                  rintro v_ L_ w ⟨rfl, rfl⟩ h
                  refine ⟨by kernel_rfl, ?_⟩
                  refine d_ready [9] (by kernel_rfl) rfl ?_
                  refine ad_call #[.pointer (some ⟨k6, 0, none⟩), .string x9.2.1.2.1] [4, 3] [4] rfl (by kernel_rfl) (rnetFor_spec k6 vm 46 lt x9.2.1.2.1 (by omega)) (fun _ => by kernel_rfl) h ?_ ?_
                  · skip
                    rintro v_ L_ w ⟨rfl, rfl⟩ h
                    refine ⟨by kernel_rfl, ?_⟩
                    refine d_take 10 1023 [4] rfl (v := .bool (!(decide (firstM lt x9.2.1.2.1 = firstM lt x9.2.1.2.1)))) (by kernel_rfl) (qp_thn (qp_blk (qp_blk (qp_thn (qp_rnd (qp_blk (qp_thn qp_body))))))) (yq (by kernel_rfl) (g_pure (v := .bool (!(decide (firstM lt x9.2.1.2.1 = firstM lt x9.2.1.2.1)))) fun _ => by kernel_rfl)) h (by kernel_rfl) ?_
                    refine d_done (by kernel_rfl) ?_
                    refine thn_n ?_
                    refine c_cond (!(decide (firstM lt x9.2.1.2.1 = firstM lt x9.2.1.2.1))) (by kernel_rfl) (fun hc93 => ?_) (fun hc93 => ?_)
                    · skip
                      have q94 : (decide (firstM lt x9.2.1.2.1 = firstM lt x9.2.1.2.1)) = false := by simpa using hc93
                      have q94 := of_decide_eq_false q94
                      exfalso; omega
                    · skip
                      have q95 : (decide (firstM lt x9.2.1.2.1 = firstM lt x9.2.1.2.1)) = true := by simpa using hc93
                      have q95 := of_decide_eq_true q95
                      refine c_skip ?_
                      refine blk_n (blk_n (thn_n ?_))
                      refine c_reg ?_
                      refine sq_p (.int .i64 (n0 : Int)) rfl (fun _ => by kernel_rfl) ?_
                      refine sq_q rfl h (g_eq (v := .int .i64 (IntKind.i64.wrap ((n0 : Int) + 1))) (v' := .int .i64 ((n0 + 1 : Nat) : Int)) (g_pure fun _ => by kernel_rfl) (wr (by omega))) ?_
                      refine sq_p (.int .i64 ((n0 + 1 : Nat) : Int)) rfl (fun _ => by kernel_rfl) ?_
                      refine lnil ?_
                      refine loop_end (fun j => ⟨(n0 + 1), lt, vt, vm, j⟩) (show ((n0 + 1) ≤ acts.length ∧ lt.length ≤ 100) ∧ (acts.length - (n0 + 1)) < (acts.length - n0) from ⟨⟨by omega, hl0⟩, by omega⟩) (by kernel_rfl) [1, 2, 0, 0, 1, 1, 1, 1, 1, 1] (by kernel_rfl) h
                  exact ad_nil
                exact ad_nil
    · skip
      have hc7 := of_decide_eq_false hc7
      refine c_exit ?_
      refine thn_e (rnd_e (blk_e (thn_n ?_)))
      refine c_seq ?_
      refine c_reg ?_
      refine sq_p (.pointer (some ⟨k5, 0, none⟩)) rfl (fun _ => by kernel_rfl) ?_
      refine sq_call #[.pointer (some ⟨k5, 0, none⟩)] [3, 1] rfl (netList_spec k5 vt 42 lt (by omega)) (fun _ => by kernel_rfl) h ?_; rintro v96 L_ w ⟨_, rfl, rfl⟩ h
      refine sq_p (v96) rfl (fun _ => by kernel_rfl) ?_
      refine lnil ?_
      refine thn_n ?_
      refine c_seq ?_
      refine c_seq ?_
      refine c_reg ?_
      refine sq_p (v96) rfl (fun _ => by kernel_rfl) ?_
      refine sq_q rfl h (g_len (by kernel_rfl) 0 rfl) ?_
      refine sq_p (.pointer (some ⟨k6, 0, none⟩)) rfl (fun _ => by kernel_rfl) ?_
      refine sq_p (.pointer (some ⟨k6, 0, none⟩)) rfl (fun _ => by kernel_rfl) ?_
      refine sq_p (.pointer (some ⟨k6, 0, none⟩)) rfl (fun _ => by kernel_rfl) ?_
      refine sq_q rfl h (g_ld 0 [vm] (vm) (by kernel_rfl) 4 rfl) ?_
      refine sq_q rfl h (g_len (by kernel_rfl) 3 rfl) ?_
      refine sq_p (.bool (!(decide ((lt.length : Int) = (lt.length : Int))))) rfl (fun _ => by kernel_rfl) ?_
      refine lnil ?_
      refine thn_n ?_
      refine c_cond (!(decide ((lt.length : Int) = (lt.length : Int)))) (by kernel_rfl) (fun hc97 => ?_) (fun hc97 => ?_)
      · skip
        have q98 : (decide ((lt.length : Int) = (lt.length : Int))) = false := by simpa using hc97
        have q98 := of_decide_eq_false q98
        exfalso; omega
      · skip
        have q99 : (decide ((lt.length : Int) = (lt.length : Int))) = true := by simpa using hc97
        have q99 := of_decide_eq_true q99
        refine c_skip ?_
        refine thn_n ?_
        refine c_seq ?_
        refine c_seq ?_
        refine c_reg ?_
        refine sq_p (.int .i64 0) rfl (fun _ => by kernel_rfl) ?_
        refine lnil ?_
        refine thn_n ?_
        refine c_block ?_
        refine c_loop (X := Nat × (Nat → Value)) (fun ⟨n1, J1⟩ => ⟨#[v, undef, J1 2, .bool true, .pointer (some ⟨k5, 0, none⟩), .pointer (some ⟨k6, 0, none⟩), .int .i64 (n0 : Int), J0 7, J0 8, J0 9, J0 10, J0 11, J0 12, J0 13, J0 14, v96, .int .i64 (n1 : Int), .bool true, .bool true, .bool false, .bool false, v, .int .i64 (acts.length : Int), .bool b1, .bool b1, undef, .agg #[.slice none 0 0], .pointer (some ⟨k5, 0, none⟩), .agg #[.slice none 0 0], .pointer (some ⟨k6, 0, none⟩), .int .i64 (n0 : Int), v, .int .i64 (acts.length : Int), .bool (decide ((n0 : Int) < (acts.length : Int))), J0 34, J0 35, J0 36, J0 37, J0 38, J0 39, J0 40, J0 41, J0 42, J0 43, J0 44, J0 45, J0 46, J0 47, J0 48, J0 49, J0 50, J0 51, J0 52, J0 53, J0 54, J0 55, J0 56, J0 57, J0 58, J0 59, J0 60, J0 61, J0 62, J0 63, J0 64, J0 65, J0 66, J0 67, J0 68, J0 69, J0 70, J0 71, J0 72, J0 73, J0 74, J0 75, J0 76, J0 77, J0 78, J0 79, J0 80, J0 81, J0 82, J0 83, J0 84, J0 85, J0 86, J0 87, J0 88, J0 89, J0 90, J0 91, J0 92, J0 93, J0 94, J0 95, J0 96, J0 97, J0 98, J0 99, J0 100, J0 101, J0 102, J0 103, J0 104, J0 105, J0 106, J0 107, J0 108, J0 109, J0 110, J0 111, J0 112, J0 113, J0 114, J0 115, J0 116, J0 117, J0 118, J0 119, J0 120, J0 121, J0 122, J0 123, J0 124, J0 125, J0 126, J0 127, J0 128, J0 129, J0 130, J0 131, J0 132, J0 133, J0 134, J0 135, J0 136, J0 137, J0 138, J0 139, J0 140, J0 141, J0 142, J0 143, J0 144, J0 145, J0 146, J0 147, J0 148, J0 149, J0 150, J0 151, J0 152, J0 153, J0 154, .pointer (some ⟨k5, 0, none⟩), v96, v96, .int .i64 (lt.length : Int), .pointer (some ⟨k6, 0, none⟩), .pointer (some ⟨k6, 0, none⟩), .pointer (some ⟨k6, 0, none⟩), vm, .int .i64 (lt.length : Int), .bool (!(decide ((lt.length : Int) = (lt.length : Int)))), J1 165, J1 166, J1 167, J1 168, J1 169, J1 170, J1 171, J1 172, J1 173, J1 174, J1 175, J1 176, J1 177, J1 178, J1 179, J1 180, J1 181, J1 182, J1 183], []⟩)
          (fun ⟨n1, J1⟩ => [rRows true v96 52 3 msgC lt, rCell true k5 [vt] 42, rRows true vt 52 3 msgC lt, rRows true vm 48 3 msgC lt, rCell true k6 [vm] 46, rEnv B ad [4], rEnv B ad [2], rEnv B ad [9], rEnv B ad [5], rArg v 5 nactC acts, rEnvA B ad]) (fun ⟨n1, J1⟩ => n1 ≤ lt.length) (fun ⟨n1, J1⟩ => lt.length - n1)
          ⟨0, (fun n => (#[v, undef, J0 2, .bool true, .pointer (some ⟨k5, 0, none⟩), .pointer (some ⟨k6, 0, none⟩), .int .i64 (n0 : Int), J0 7, J0 8, J0 9, J0 10, J0 11, J0 12, J0 13, J0 14, v96, .int .i64 0, .bool true, .bool true, .bool false, .bool false, v, .int .i64 (acts.length : Int), .bool b1, .bool b1, undef, .agg #[.slice none 0 0], .pointer (some ⟨k5, 0, none⟩), .agg #[.slice none 0 0], .pointer (some ⟨k6, 0, none⟩), .int .i64 (n0 : Int), v, .int .i64 (acts.length : Int), .bool (decide ((n0 : Int) < (acts.length : Int))), J0 34, J0 35, J0 36, J0 37, J0 38, J0 39, J0 40, J0 41, J0 42, J0 43, J0 44, J0 45, J0 46, J0 47, J0 48, J0 49, J0 50, J0 51, J0 52, J0 53, J0 54, J0 55, J0 56, J0 57, J0 58, J0 59, J0 60, J0 61, J0 62, J0 63, J0 64, J0 65, J0 66, J0 67, J0 68, J0 69, J0 70, J0 71, J0 72, J0 73, J0 74, J0 75, J0 76, J0 77, J0 78, J0 79, J0 80, J0 81, J0 82, J0 83, J0 84, J0 85, J0 86, J0 87, J0 88, J0 89, J0 90, J0 91, J0 92, J0 93, J0 94, J0 95, J0 96, J0 97, J0 98, J0 99, J0 100, J0 101, J0 102, J0 103, J0 104, J0 105, J0 106, J0 107, J0 108, J0 109, J0 110, J0 111, J0 112, J0 113, J0 114, J0 115, J0 116, J0 117, J0 118, J0 119, J0 120, J0 121, J0 122, J0 123, J0 124, J0 125, J0 126, J0 127, J0 128, J0 129, J0 130, J0 131, J0 132, J0 133, J0 134, J0 135, J0 136, J0 137, J0 138, J0 139, J0 140, J0 141, J0 142, J0 143, J0 144, J0 145, J0 146, J0 147, J0 148, J0 149, J0 150, J0 151, J0 152, J0 153, J0 154, .pointer (some ⟨k5, 0, none⟩), v96, v96, .int .i64 (lt.length : Int), .pointer (some ⟨k6, 0, none⟩), .pointer (some ⟨k6, 0, none⟩), .pointer (some ⟨k6, 0, none⟩), vm, .int .i64 (lt.length : Int), .bool (!(decide ((lt.length : Int) = (lt.length : Int)))), undef, undef, undef, undef, undef, undef, undef, undef, undef, undef, undef, undef, undef, undef, undef, undef, undef, undef, undef] : Array Value).getD n undef)⟩ (by omega) (by kernel_rfl) [0, 0, 0, 0, 0, 0, 0, 0, 0, 0, 0] (by kernel_rfl) h ?_
        rintro ⟨n1, J1⟩ w hG h
        have hn1 : n1 ≤ lt.length := hG
        refine c_seq ?_
        refine c_seq ?_
        refine c_reg ?_
        refine sq_p (.int .i64 (n1 : Int)) rfl (fun _ => by kernel_rfl) ?_
        refine sq_p (v96) rfl (fun _ => by kernel_rfl) ?_
        refine sq_q rfl h (g_len (by kernel_rfl) 0 rfl) ?_
        refine sq_p (.bool (decide ((n1 : Int) < (lt.length : Int)))) rfl (fun _ => by kernel_rfl) ?_
        refine lnil ?_
        refine thn_n ?_
        refine c_cond (decide ((n1 : Int) < (lt.length : Int))) (by kernel_rfl) (fun hc100 => ?_) (fun hc100 => ?_)
        · skip
          have hc100 := of_decide_eq_true hc100
          refine c_skip ?_
          refine thn_n ?_
          refine c_seq ?_
          refine c_block ?_
          refine c_seq ?_
          refine d_start 13 [0, 2, 2] (by kernel_rfl) h fun w h => ?_
          refine d_take 0 4066 [0, 2, 2] rfl (v := v96) (by kernel_rfl) (qp_thn (qp_blk (qp_thn (qp_rnd (qp_blk (qp_thn qp_body)))))) (yq (by kernel_rfl) (g_pure (v := v96) fun _ => by kernel_rfl)) h (by kernel_rfl) ?_
          refine d_take 1 4065 [0, 2, 2] rfl (v := .int .i64 (n1 : Int)) (by kernel_rfl) (qp_thn (qp_blk (qp_thn (qp_rnd (qp_blk (qp_thn qp_body)))))) (yq (by kernel_rfl) (g_pure (v := .int .i64 (n1 : Int)) fun _ => by kernel_rfl)) h (by kernel_rfl) ?_
          have hi101 : n1 < lt.length := by omega
          obtain ⟨x102, hx103⟩ : ∃ x, lt[n1]? = some x := ⟨_, List.getElem?_eq_getElem hi101⟩
          refine d_take 2 4067 [0, 2, 2] rfl (v := .pointer (some ⟨blkN v96, offN v96 + n1 * 3, none⟩)) (by kernel_rfl) (qp_thn (qp_blk (qp_thn (qp_rnd (qp_blk (qp_thn qp_body)))))) (yq (by kernel_rfl) (g_idx n1 (by kernel_rfl) hi101 0 rfl)) h (by kernel_rfl) ?_
          refine d_take 3 4071 [0, 2, 2] rfl (v := .agg #[.string x102.1, .string x102.2.1, .string x102.2.2]) (by kernel_rfl) (qp_thn (qp_blk (qp_thn (qp_rnd (qp_blk (qp_thn qp_body)))))) (yq (by kernel_rfl) (g_ldr (b := blkN v96) (offN v96 + n1 * 3) [.string x102.1, .string x102.2.1, .string x102.2.2] (.agg #[.string x102.1, .string x102.2.1, .string x102.2.2]) (by kernel_rfl) 0 rfl (rdRow0 msgC_len hx103 (by kernel_rfl)))) h (by kernel_rfl) ?_
          refine d_take 5 543 [0, 2, 2] rfl (v := .pointer (some ⟨k6, 0, none⟩)) (by kernel_rfl) (qp_thn (qp_blk (qp_thn (qp_rnd (qp_blk (qp_thn qp_body)))))) (yq (by kernel_rfl) (g_pure (v := .pointer (some ⟨k6, 0, none⟩)) fun _ => by kernel_rfl)) h (by kernel_rfl) ?_
          refine d_take 6 575 [0, 2, 2] rfl (v := .pointer (some ⟨k6, 0, none⟩)) (by kernel_rfl) (qp_thn (qp_blk (qp_thn (qp_rnd (qp_blk (qp_thn qp_body)))))) (yq (by kernel_rfl) (g_pure (v := .pointer (some ⟨k6, 0, none⟩)) fun _ => by kernel_rfl)) h (by kernel_rfl) ?_
          refine d_take 7 639 [0, 2, 2] rfl (v := .pointer (some ⟨k6, 0, none⟩)) (by kernel_rfl) (qp_thn (qp_blk (qp_thn (qp_rnd (qp_blk (qp_thn qp_body)))))) (yq (by kernel_rfl) (g_pure (v := .pointer (some ⟨k6, 0, none⟩)) fun _ => by kernel_rfl)) h (by kernel_rfl) ?_
          refine d_take 8 767 [0, 2, 2] rfl (v := vm) (by kernel_rfl) (qp_thn (qp_blk (qp_thn (qp_rnd (qp_blk (qp_thn qp_body)))))) (yq (by kernel_rfl) (g_ld 0 [vm] (vm) (by kernel_rfl) 2 rfl)) h (by kernel_rfl) ?_
          refine d_take 9 511 [0, 2, 2] rfl (v := .int .i64 (n1 : Int)) (by kernel_rfl) (qp_thn (qp_blk (qp_thn (qp_rnd (qp_blk (qp_thn qp_body)))))) (yq (by kernel_rfl) (g_pure (v := .int .i64 (n1 : Int)) fun _ => by kernel_rfl)) h (by kernel_rfl) ?_
          have hi104 : n1 < lt.length := by omega
          obtain ⟨x105, hx106⟩ : ∃ x, lt[n1]? = some x := ⟨_, List.getElem?_eq_getElem hi104⟩
          refine d_take 10 1023 [0, 2, 2] rfl (v := .pointer (some ⟨blkN vm, offN vm + n1 * 3, none⟩)) (by kernel_rfl) (qp_thn (qp_blk (qp_thn (qp_rnd (qp_blk (qp_thn qp_body)))))) (yq (by kernel_rfl) (g_idx n1 (by kernel_rfl) hi104 1 rfl)) h (by kernel_rfl) ?_
          refine d_take 11 2047 [0, 2, 2] rfl (v := .agg #[.string x105.1, .string x105.2.1, .string x105.2.2]) (by kernel_rfl) (qp_thn (qp_blk (qp_thn (qp_rnd (qp_blk (qp_thn qp_body)))))) (yq (by kernel_rfl) (g_ldr (b := blkN vm) (offN vm + n1 * 3) [.string x105.1, .string x105.2.1, .string x105.2.2] (.agg #[.string x105.1, .string x105.2.1, .string x105.2.2]) (by kernel_rfl) 1 rfl (rdRow0 msgC_len hx106 (by kernel_rfl)))) h (by kernel_rfl) ?_
          refine d_ready [4] (by kernel_rfl) rfl ?_
          refine ad_call #[.agg #[.string x102.1, .string x102.2.1, .string x102.2.2]] [] [0, 2, 2] rfl (by kernel_rfl) (backMessage_spec x102.1 x102.2.1 x102.2.2) (fun _ => by kernel_rfl) h ?_ ?_
          · skip
            rintro v_ L_ w ⟨rfl, rfl⟩ h
            refine ⟨by kernel_rfl, ?_⟩
            refine d_take 12 4095 [0, 2, 2] rfl (v := .bool (!((decide (x102.1 = x105.1)) && ((decide (x102.2.1 = x105.2.1)) && (decide (x102.2.2 = x105.2.2)))))) (by kernel_rfl) (qp_thn (qp_blk (qp_thn (qp_rnd (qp_blk (qp_thn qp_body)))))) (yq (by kernel_rfl) (g_neM3 (by kernel_rfl))) h (by kernel_rfl) ?_
            refine d_done (by kernel_rfl) ?_
            refine thn_n ?_
            refine c_cond (!((decide (x102.1 = x105.1)) && ((decide (x102.2.1 = x105.2.1)) && (decide (x102.2.2 = x105.2.2))))) (by kernel_rfl) (fun hc107 => ?_) (fun hc107 => ?_)
            · skip
              have q108 : ((decide (x102.1 = x105.1)) && ((decide (x102.2.1 = x105.2.1)) && (decide (x102.2.2 = x105.2.2)))) = false := by revert hc107; cases ((decide (x102.1 = x105.1)) && ((decide (x102.2.1 = x105.2.1)) && (decide (x102.2.2 = x105.2.2)))) <;> simp
              exfalso
              rw [hx103] at hx106; cases hx106; simp at hc107
            · skip
              have q109 : ((decide (x102.1 = x105.1)) && ((decide (x102.2.1 = x105.2.1)) && (decide (x102.2.2 = x105.2.2)))) = true := by revert hc107; cases ((decide (x102.1 = x105.1)) && ((decide (x102.2.1 = x105.2.1)) && (decide (x102.2.2 = x105.2.2)))) <;> simp
              have q110 : (decide (x102.1 = x105.1)) = true := by revert q109; cases (decide (x102.1 = x105.1)) <;> simp
              have q111 : ((decide (x102.2.1 = x105.2.1)) && (decide (x102.2.2 = x105.2.2))) = true := by revert q109; cases (decide (x102.1 = x105.1)) <;> cases ((decide (x102.2.1 = x105.2.1)) && (decide (x102.2.2 = x105.2.2))) <;> simp
              have q110 := of_decide_eq_true q110
              have q112 : (decide (x102.2.1 = x105.2.1)) = true := by revert q111; cases (decide (x102.2.1 = x105.2.1)) <;> simp
              have q113 : (decide (x102.2.2 = x105.2.2)) = true := by revert q111; cases (decide (x102.2.1 = x105.2.1)) <;> cases (decide (x102.2.2 = x105.2.2)) <;> simp
              have q112 := of_decide_eq_true q112
              have q113 := of_decide_eq_true q113
              refine c_skip ?_
              refine blk_n (thn_n ?_)
              refine c_reg ?_
              refine sq_p (.int .i64 (n1 : Int)) rfl (fun _ => by kernel_rfl) ?_
              refine sq_q rfl h (g_eq (v := .int .i64 (IntKind.i64.wrap ((n1 : Int) + 1))) (v' := .int .i64 ((n1 + 1 : Nat) : Int)) (g_pure fun _ => by kernel_rfl) (wr (by omega))) ?_
              refine sq_p (.int .i64 ((n1 + 1 : Nat) : Int)) rfl (fun _ => by kernel_rfl) ?_
              refine lnil ?_
              refine loop_end (fun j => ⟨(n1 + 1), j⟩) (show ((n1 + 1) ≤ lt.length) ∧ (lt.length - (n1 + 1)) < (lt.length - n1) from ⟨by omega, by omega⟩) (by kernel_rfl) [0, 0, 0, 0, 0, 0, 0, 0, 0, 0, 0] (by kernel_rfl) h
          exact ad_nil
        · skip
          have hc100 := of_decide_eq_false hc100
          refine c_exit ?_
          refine thn_e (rnd_e (blk_e (thn_n ?_)))
          refine c_seq ?_
          refine c_reg ?_
          refine sq_p (.bool true) rfl (fun _ => by kernel_rfl) ?_
          refine lnil ?_
          refine thn_n ?_
          refine c_ret ?_
          refine ret_end [.bool true] [9, 9] h (by kernel_rfl) (res_t (by kernel_rfl) res_n) ?_
          exact ⟨rfl, rfl⟩

theorem netActs_any (ad : Nat → Addr) (a0 : Option Addr) (cap : Nat) (acts : List NAct) (w : World) (he : EnvA w.heap.size ad w) (hs : (Sh.slice shNAct).At w w.heap.size (a0, cap, acts)) (hz : (Sh.slice shNAct).Sz (a0, cap, acts)) :
    Calls Tryd.prog 4 #[.slice a0 acts.length cap] w fun e w' => e = .returned (.bool true) ∧ Chg Nil w w' := by
  have hok : ∀ x ∈ acts, NActOk x := fun x hx => by
    obtain ⟨i, hi, rfl⟩ := List.mem_iff_getElem.1 hx
    obtain ⟨z1, ⟨z2, z3, z4, _⟩, _⟩ := hz.2 i acts[i] (List.getElem?_eq_getElem hi)
    obtain ⟨⟨_, _, q, _⟩, _⟩ := hs.2.2 i acts[i] (List.getElem?_eq_getElem hi)
    exact ⟨z1, z2, z3, z4, q⟩
  refine ((netActs_spec (B := w.heap.size) ad (.slice a0 acts.length cap) acts hok).reads (w := w) rfl ?_).mono ?_
  · intro r hr
    simp only [List.mem_cons, List.mem_nil_iff, or_false] at hr
    rcases hr with rfl | rfl
    · exact arg_of_sh hs
    · exact he
  · rintro e w' ⟨u, L', ⟨rfl, _⟩, he, hc'⟩
    exact ⟨he, hc'⟩

end Go.Proofs.YtofhnglgebllbaaDoor
