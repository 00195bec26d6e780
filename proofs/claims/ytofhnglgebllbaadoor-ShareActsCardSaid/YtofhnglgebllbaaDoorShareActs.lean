/- share: contracts by what is owned (printed by walk.py). -/
import Derived.Test.YtofhnglgebllbaaDoorShE
import Derived.Test.YtofhnglgebllbaaDoorArg
namespace Go.Proofs.YtofhnglgebllbaaDoor
open Go.RowKit
set_option linter.unusedVariables false
set_option linter.unusedSimpArgs false
set_option linter.unnecessarySimpa false
set_option maxRecDepth 100000
theorem shOk_nil : SharesOk [] := ⟨fun x hx => by simp at hx, by decide, List.Pairwise.nil⟩
set_option maxHeartbeats 1000000 in
theorem shareActs_spec {B : Nat} (ad : Nat → Addr) (v : Value) (acts : List SAct) : Spec Tryd.prog 10 #[v] [rArg v 6 sactC acts, rEnvA B ad] (fun u L => u = .bool true ∧ L = [rArg v 6 sactC acts, rEnvA B ad]) := by
  refine spec_of (#[v, undef, undef, undef, undef, undef, undef, undef, undef, undef, undef, undef, undef, undef, undef, undef, undef, undef, undef, undef, undef, undef, undef, undef, undef, undef, undef, undef, undef, undef, undef, undef, undef, undef, undef, undef, undef, undef, undef, undef, undef, undef, undef, undef, undef, undef, undef, undef, undef, undef, undef, undef, undef, undef, undef, undef, undef, undef, undef, undef, undef, undef, undef, undef, undef, undef, undef, undef, undef, undef, undef, undef, undef, undef, undef, undef, undef, undef, undef, undef, undef, undef, undef, undef, undef, undef, undef, undef, undef, undef, undef, undef, undef, undef, undef, undef, undef, undef, undef, undef, undef, undef, undef, undef, undef, undef, undef, undef, undef, undef, undef, undef, undef, undef, undef, undef, undef, undef, undef, undef, undef, undef, undef, undef, undef, undef, undef, undef, undef, undef, undef, undef, undef, undef, undef, undef, undef, undef, undef, undef, undef, undef, undef, undef, undef, undef]) Tryd.func10 rfl (by kernel_rfl) fun E w0 w h => ?_
  have h := h.envSub [2, 9, 11] 1 rfl (by decide)
  have h := h.envSub [2, 3, 5] 2 rfl (by decide)
  have h := h.envSub [2, 5] 3 rfl (by decide)
  have h := h.envSub [2, 11] 4 rfl (by decide)
  have h := h.envSub [5] 5 rfl (by decide)
  refine c_seq ?_
  refine c_reg ?_
  refine sq_p (.bool false) rfl (fun _ => by kernel_rfl) ?_
  refine lnil ?_
  refine thn_n ?_
  refine c_seq ?_
  refine c_reg ?_
  refine sq_call #[] [4] rfl (shared_spec ad) (fun _ => by kernel_rfl) h ?_; rintro v_ L_ w ⟨rfl, rfl⟩ h
  refine sq_p (.bool true) rfl (fun _ => by kernel_rfl) ?_
  refine lnil ?_
  refine thn_n ?_
  refine c_seq ?_
  refine c_seq ?_
  refine c_reg ?_
  refine sq_p (.bool true) rfl (fun _ => by kernel_rfl) ?_
  refine sq_p (.bool false) rfl (fun _ => by kernel_rfl) ?_
  refine sq_p (.bool false) rfl (fun _ => by kernel_rfl) ?_
  refine sq_p (v) (by kernel_rfl) (fun _ => by kernel_rfl) ?_
  refine sq_q (by kernel_rfl) h (g_lenA 71 (by kernel_rfl) 5 rfl) ?_
  obtain ⟨b1, hb1⟩ : ∃ b_ : Bool, b_ = (decide ((acts.length : Int) > 80)) := ⟨_, rfl⟩
  refine sq_q (v := .bool b1) (by kernel_rfl) h (by subst hb1; exact g_pure (v := .bool (decide ((acts.length : Int) > 80))) fun _ => by kernel_rfl) ?_
  refine sq_p (.bool b1) rfl (fun _ => by kernel_rfl) ?_
  refine lnil ?_
  refine thn_n ?_
  refine c_cond (b1) (by kernel_rfl) (fun hc2 => ?_) (fun hc2 => ?_)
  · skip
    have q3 : (decide ((acts.length : Int) > 80)) = true := by rw [← hb1]; exact hc2
    have q3 := of_decide_eq_true q3
    refine c_seq ?_
    refine c_reg ?_
    refine sq_p (.bool true) rfl (fun _ => by kernel_rfl) ?_
    refine sq_p (.bool true) rfl (fun _ => by kernel_rfl) ?_
    refine lnil ?_
    refine thn_n ?_
    refine c_ret ?_
    refine thn_r ?_
    refine ret_end [.bool true] [5, 5] h (by kernel_rfl) (res_t (by kernel_rfl) res_n) ?_
    exact ⟨rfl, rfl⟩
  · skip
    have q4 : (decide ((acts.length : Int) > 80)) = false := by rw [← hb1]; exact hc2
    have q4 := of_decide_eq_false q4
    refine c_skip ?_
    refine thn_n ?_
    refine c_seq ?_
    refine c_reg ?_
    refine sq_p (.agg #[.slice none 0 0]) rfl (fun _ => by kernel_rfl) ?_
    refine sq_new rfl (fun b => .pointer (some ⟨b, 0, none⟩)) [.slice none 0 0] 69 (fun _ => by kernel_rfl) h ?_; intro k5 w h
    refine sq_p (.pointer (some ⟨k5, 0, none⟩)) rfl (fun _ => by kernel_rfl) ?_
    refine lnil ?_
    refine thn_n ?_
    refine c_seq ?_
    refine c_reg ?_
    refine sq_p (.agg #[.slice none 0 0]) rfl (fun _ => by kernel_rfl) ?_
    refine sq_new rfl (fun b => .pointer (some ⟨b, 0, none⟩)) [.slice none 0 0] 112 (fun _ => by kernel_rfl) h ?_; intro k6 w h
    refine sq_p (.pointer (some ⟨k6, 0, none⟩)) rfl (fun _ => by kernel_rfl) ?_
    refine lnil ?_
    refine thn_n ?_
    refine c_seq ?_
    refine c_seq ?_
    refine c_reg ?_
    refine sq_p (.int .i64 0) rfl (fun _ => by kernel_rfl) ?_
    refine lnil ?_
    refine thn_n ?_
    refine c_block ?_
    have h := h.nilRows 76 5 opnC
    have h := h.nilRows 222 5 opnC
    refine c_loop (X := Nat × List Opn × Value × TypeId × Value × (Nat → Value)) (fun ⟨n0, lt, vt, tt, vm, J0⟩ => ⟨#[v, undef, J0 2, .bool true, .pointer (some ⟨k5, 0, none⟩), .pointer (some ⟨k6, 0, none⟩), .int .i64 (n0 : Int), J0 7, J0 8, J0 9, .bool true, .bool true, .bool false, .bool false, v, .int .i64 (acts.length : Int), .bool b1, .bool b1, undef, .agg #[.slice none 0 0], .pointer (some ⟨k5, 0, none⟩), .agg #[.slice none 0 0], .pointer (some ⟨k6, 0, none⟩), J0 23, J0 24, J0 25, J0 26, J0 27, J0 28, J0 29, J0 30, J0 31, J0 32, J0 33, J0 34, J0 35, J0 36, J0 37, J0 38, J0 39, J0 40, J0 41, J0 42, J0 43, J0 44, J0 45, J0 46, J0 47, J0 48, J0 49, J0 50, J0 51, J0 52, J0 53, J0 54, J0 55, J0 56, J0 57, J0 58, J0 59, J0 60, J0 61, J0 62, J0 63, J0 64, J0 65, J0 66, J0 67, J0 68, J0 69, J0 70, J0 71, J0 72, J0 73, J0 74, J0 75, J0 76, J0 77, J0 78, J0 79, J0 80, J0 81, J0 82, J0 83, J0 84, J0 85, J0 86, J0 87, J0 88, J0 89, J0 90, J0 91, J0 92, J0 93, J0 94, J0 95, J0 96, J0 97, J0 98, J0 99, J0 100, J0 101, J0 102, J0 103, J0 104, J0 105, J0 106, J0 107, J0 108, J0 109, J0 110, J0 111, J0 112, J0 113, J0 114, J0 115, J0 116, J0 117, J0 118, J0 119, J0 120, J0 121, J0 122, J0 123, J0 124, J0 125, J0 126, J0 127, J0 128, J0 129, J0 130, J0 131, J0 132, J0 133, J0 134, J0 135, J0 136, J0 137, J0 138, J0 139, undef, undef, undef, undef, undef, undef], []⟩)
      (fun ⟨n0, lt, vt, tt, vm, J0⟩ => [rRows true vm 222 5 opnC lt, rRows true vt 76 5 opnC lt, rCell true k6 [vm] 112, rCell true k5 [vt] tt, rEnv B ad [2, 9, 11], rEnv B ad [5], rEnv B ad [2, 11], rEnv B ad [2, 5], rEnv B ad [2, 3, 5], rArg v 6 sactC acts, rEnvA B ad]) (fun ⟨n0, lt, vt, tt, vm, J0⟩ => n0 ≤ acts.length ∧ SharesOk lt) (fun ⟨n0, lt, vt, tt, vm, J0⟩ => acts.length - n0)
      ⟨0, [], (.slice none 0 0), 69, (.slice none 0 0), (fun n => (#[v, undef, .bool false, .bool true, .pointer (some ⟨k5, 0, none⟩), .pointer (some ⟨k6, 0, none⟩), .int .i64 0, undef, undef, undef, .bool true, .bool true, .bool false, .bool false, v, .int .i64 (acts.length : Int), .bool b1, .bool b1, undef, .agg #[.slice none 0 0], .pointer (some ⟨k5, 0, none⟩), .agg #[.slice none 0 0], .pointer (some ⟨k6, 0, none⟩), undef, undef, undef, undef, undef, undef, undef, undef, undef, undef, undef, undef, undef, undef, undef, undef, undef, undef, undef, undef, undef, undef, undef, undef, undef, undef, undef, undef, undef, undef, undef, undef, undef, undef, undef, undef, undef, undef, undef, undef, undef, undef, undef, undef, undef, undef, undef, undef, undef, undef, undef, undef, undef, undef, undef, undef, undef, undef, undef, undef, undef, undef, undef, undef, undef, undef, undef, undef, undef, undef, undef, undef, undef, undef, undef, undef, undef, undef, undef, undef, undef, undef, undef, undef, undef, undef, undef, undef, undef, undef, undef, undef, undef, undef, undef, undef, undef, undef, undef, undef, undef, undef, undef, undef, undef, undef, undef, undef, undef, undef, undef, undef, undef, undef, undef, undef, undef, undef, undef, undef, undef, undef, undef] : Array Value).getD n undef)⟩ ⟨by omega, shOk_nil⟩ (by kernel_rfl) [0, 0, 0, 0, 0, 0, 0, 0, 0, 0, 0] (by kernel_rfl) h ?_
    rintro ⟨n0, lt, vt, tt, vm, J0⟩ w hG h
    obtain ⟨hn0, hk0⟩ : n0 ≤ acts.length ∧ SharesOk lt := hG
    have hl0 := hk0.few
    refine c_seq ?_
    refine c_seq ?_
    refine c_reg ?_
    refine sq_p (.int .i64 (n0 : Int)) rfl (fun _ => by kernel_rfl) ?_
    refine sq_p (v) rfl (fun _ => by kernel_rfl) ?_
    refine sq_q rfl h (g_lenA 71 (by kernel_rfl) 9 rfl) ?_
    refine sq_p (.bool (decide ((n0 : Int) < (acts.length : Int)))) rfl (fun _ => by kernel_rfl) ?_
    refine lnil ?_
    refine thn_n ?_
    refine c_cond (decide ((n0 : Int) < (acts.length : Int))) (by kernel_rfl) (fun hc7 => ?_) (fun hc7 => ?_)
    · skip
      have hc7 := of_decide_eq_true hc7
      refine c_skip ?_
      refine thn_n ?_
      refine c_seq ?_
      refine c_block ?_
      refine c_seq ?_
      refine c_reg ?_
      refine sq_p (v) rfl (fun _ => by kernel_rfl) ?_
      refine sq_p (.int .i64 (n0 : Int)) rfl (fun _ => by kernel_rfl) ?_
      have hi8 : n0 < acts.length := by omega
      obtain ⟨x9, hx10⟩ : ∃ x, acts[n0]? = some x := ⟨_, List.getElem?_eq_getElem hi8⟩
      refine sq_q rfl h (g_idxA 71 n0 (by kernel_rfl) hi8 9 rfl) ?_
      refine sq_q rfl h (g_ldr (b := blkN v) (offN v + n0 * 6) [.string x9.1, .int .i64 x9.2.1.1, .int .i64 x9.2.1.2.1, .int .i64 x9.2.2.1, .int .i64 x9.2.2.2.1, .int .i64 x9.2.2.2.2.1] (.agg #[.string x9.1, .int .i64 x9.2.1.1, .int .i64 x9.2.1.2.1, .int .i64 x9.2.2.1, .int .i64 x9.2.2.2.1, .int .i64 x9.2.2.2.2.1]) (by kernel_rfl) 9 rfl (rdArg0 hx10 (by kernel_rfl))) ?_
      refine sq_new rfl (fun b => .pointer (some ⟨b, 0, none⟩)) [.string (⟨#[]⟩ : ByteArray), .int .i64 0, .int .i64 0, .int .i64 0, .int .i64 0, .int .i64 0] 71 (fun _ => by kernel_rfl) h ?_; intro k11 w h
      refine sq_st rfl 0 [.string x9.1, .int .i64 x9.2.1.1, .int .i64 x9.2.1.2.1, .int .i64 x9.2.2.1, .int .i64 x9.2.2.2.1, .int .i64 x9.2.2.2.2.1] [.string x9.1, .int .i64 x9.2.1.1, .int .i64 x9.2.1.2.1, .int .i64 x9.2.2.1, .int .i64 x9.2.2.2.1, .int .i64 x9.2.2.2.2.1] h 0 rfl (by kernel_rfl) ?_; intro w h
      refine lnil ?_
      refine thn_n ?_
      refine c_seq ?_
      refine c_reg ?_
      refine sq_p (.nilIface) rfl (fun _ => by kernel_rfl) ?_
      refine lnil ?_
      refine thn_n ?_
      refine c_seq ?_
      refine c_reg ?_
      refine sq_p (.int .i64 0) rfl (fun _ => by kernel_rfl) ?_
      refine lnil ?_
      refine thn_n ?_
      refine c_seq ?_
      refine c_seq ?_
      refine c_reg ?_
      refine sq_p (.pointer (some ⟨k11, 0, none⟩)) rfl (fun _ => by kernel_rfl) ?_
      refine sq_q rfl h (g_ld 0 [.string x9.1] (.string x9.1) (by kernel_rfl) 0 rfl) ?_
      refine lnil ?_
      refine thn_n ?_
      refine c_block ?_
      refine c_seq ?_
      refine c_reg ?_
      refine sq_q rfl h (g_eq (v := .bool (x9.1.toList == (⟨#[111, 112, 101, 110]⟩ : ByteArray).toList)) (v' := .bool (decide (x9.1 = (⟨#[111, 112, 101, 110]⟩ : ByteArray)))) (g_pure fun _ => by kernel_rfl) beqS) ?_
      refine sq_p (.bool (decide (x9.1 = (⟨#[111, 112, 101, 110]⟩ : ByteArray)))) rfl (fun _ => by kernel_rfl) ?_
      refine lnil ?_
      refine thn_n ?_
      refine c_cond (decide (x9.1 = (⟨#[111, 112, 101, 110]⟩ : ByteArray))) (by kernel_rfl) (fun hc12 => ?_) (fun hc12 => ?_)
      · skip
        have hc12 := of_decide_eq_true hc12
        refine c_seq ?_
        refine c_reg ?_
        refine sq_p (.pointer (some ⟨k5, 0, none⟩)) rfl (fun _ => by kernel_rfl) ?_
        refine sq_p (.pointer (some ⟨k11, 1, none⟩)) rfl (fun _ => by kernel_rfl) ?_
        refine sq_q rfl h (g_ld 1 [.int .i64 x9.2.1.1, .int .i64 x9.2.1.2.1] (.agg #[.int .i64 x9.2.1.1, .int .i64 x9.2.1.2.1]) (by kernel_rfl) 0 rfl) ?_
        refine sq_p (.pointer (some ⟨k11, 3, none⟩)) rfl (fun _ => by kernel_rfl) ?_
        refine sq_q rfl h (g_ld 3 [.int .i64 x9.2.2.1] (.int .i64 x9.2.2.1) (by kernel_rfl) 0 rfl) ?_
        refine sq_p (.pointer (some ⟨k11, 4, none⟩)) rfl (fun _ => by kernel_rfl) ?_
        refine sq_q rfl h (g_ld 4 [.int .i64 x9.2.2.2.1] (.int .i64 x9.2.2.2.1) (by kernel_rfl) 0 rfl) ?_
        refine sq_p (.pointer (some ⟨k11, 5, none⟩)) rfl (fun _ => by kernel_rfl) ?_
        refine sq_q rfl h (g_ld 5 [.int .i64 x9.2.2.2.2.1] (.int .i64 x9.2.2.2.2.1) (by kernel_rfl) 0 rfl) ?_
        refine sq_call #[.pointer (some ⟨k5, 0, none⟩), .agg #[.int .i64 x9.2.1.1, .int .i64 x9.2.1.2.1], .int .i64 x9.2.2.1, .int .i64 x9.2.2.2.1, .int .i64 x9.2.2.2.2.1] [4, 2, 3] rfl (shOpen_spec x9.2.1.1 x9.2.1.2.1 x9.2.2.1 x9.2.2.2.1 x9.2.2.2.2.1 (by omega)) (fun _ => by kernel_rfl) h ?_; rintro v_ L_ w ⟨v13, tt14, rfl, rfl⟩ h
        refine sq_p (errV ad ((shOpen lt (x9.2.1.1, x9.2.1.2.1) x9.2.2.1 x9.2.2.2.1 x9.2.2.2.2.1).2)) rfl (fun _ => by kernel_rfl) ?_
        refine lnil ?_
        refine thn_n ?_
        refine c_reg ?_
        refine sq_p (.pointer (some ⟨k6, 0, none⟩)) rfl (fun _ => by kernel_rfl) ?_
        refine sq_p (.pointer (some ⟨k11, 1, none⟩)) rfl (fun _ => by kernel_rfl) ?_
        refine sq_q rfl h (g_ld 1 [.int .i64 x9.2.1.1, .int .i64 x9.2.1.2.1] (.agg #[.int .i64 x9.2.1.1, .int .i64 x9.2.1.2.1]) (by kernel_rfl) 3 rfl) ?_
        refine sq_p (.pointer (some ⟨k11, 3, none⟩)) rfl (fun _ => by kernel_rfl) ?_
        refine sq_q rfl h (g_ld 3 [.int .i64 x9.2.2.1] (.int .i64 x9.2.2.1) (by kernel_rfl) 3 rfl) ?_
        refine sq_p (.pointer (some ⟨k11, 4, none⟩)) rfl (fun _ => by kernel_rfl) ?_
        refine sq_q rfl h (g_ld 4 [.int .i64 x9.2.2.2.1] (.int .i64 x9.2.2.2.1) (by kernel_rfl) 3 rfl) ?_
        refine sq_p (.pointer (some ⟨k11, 5, none⟩)) rfl (fun _ => by kernel_rfl) ?_
        refine sq_q rfl h (g_ld 5 [.int .i64 x9.2.2.2.2.1] (.int .i64 x9.2.2.2.2.1) (by kernel_rfl) 3 rfl) ?_
        refine sq_call #[.pointer (some ⟨k6, 0, none⟩), .agg #[.int .i64 x9.2.1.1, .int .i64 x9.2.1.2.1], .int .i64 x9.2.2.1, .int .i64 x9.2.2.2.1, .int .i64 x9.2.2.2.2.1] [5, 4] rfl (ropen_spec k6 vm lt x9.2.1.1 x9.2.1.2.1 x9.2.2.1 x9.2.2.2.1 x9.2.2.2.2.1 hk0) (fun _ => by kernel_rfl) h ?_; rintro v_ L_ w ⟨rfl, v15, rfl⟩ h
        refine sq_p (.int .i64 ((shOpen lt (x9.2.1.1, x9.2.1.2.1) x9.2.2.1 x9.2.2.2.1 x9.2.2.2.2.1).2 : Int)) rfl (fun _ => by kernel_rfl) ?_
        refine lnil ?_
        refine blk_n (thn_n ?_)
        refine c_seq ?_
        refine c_reg ?_
        refine sq_p (errV ad ((shOpen lt (x9.2.1.1, x9.2.1.2.1) x9.2.2.1 x9.2.2.2.1 x9.2.2.2.2.1).2)) rfl (fun _ => by kernel_rfl) ?_
        refine sq_p (.int .i64 ((shOpen lt (x9.2.1.1, x9.2.1.2.1) x9.2.2.1 x9.2.2.2.1 x9.2.2.2.2.1).2 : Int)) rfl (fun _ => by kernel_rfl) ?_
        refine sq_call #[errV ad ((shOpen lt (x9.2.1.1, x9.2.1.2.1) x9.2.2.1 x9.2.2.2.1 x9.2.2.2.2.1).2), .int .i64 ((shOpen lt (x9.2.1.1, x9.2.1.2.1) x9.2.2.1 x9.2.2.2.1 x9.2.2.2.2.1).2 : Int)] [11] rfl (coded2_spec ad ((shOpen lt (x9.2.1.1, x9.2.1.2.1) x9.2.2.1 x9.2.2.2.1 x9.2.2.2.2.1).2) ((shOpen lt (x9.2.1.1, x9.2.1.2.1) x9.2.2.1 x9.2.2.2.1 x9.2.2.2.2.1).2 : Int) (le_open _ _ _ _ _) rfl) (fun _ => by kernel_rfl) h ?_; rintro v_ L_ w ⟨rfl, rfl⟩ h
        refine sq_p (.bool false) rfl (fun _ => by kernel_rfl) ?_
        refine lnil ?_
        refine thn_n ?_
        refine c_false (by kernel_rfl) ?_
        refine c_skip ?_
        refine blk_n (thn_n ?_)
        refine c_reg ?_
        refine sq_p (.int .i64 (n0 : Int)) rfl (fun _ => by kernel_rfl) ?_
        refine sq_q rfl h (g_eq (v := .int .i64 (IntKind.i64.wrap ((n0 : Int) + 1))) (v' := .int .i64 ((n0 + 1 : Nat) : Int)) (g_pure fun _ => by kernel_rfl) (wr (by omega))) ?_
        refine sq_p (.int .i64 ((n0 + 1 : Nat) : Int)) rfl (fun _ => by kernel_rfl) ?_
        refine lnil ?_
        refine loop_end (fun j => ⟨(n0 + 1), (shOpen lt (x9.2.1.1, x9.2.1.2.1) x9.2.2.1 x9.2.2.2.1 x9.2.2.2.2.1).1, v13, tt14, v15, j⟩) (show ((n0 + 1) ≤ acts.length ∧ SharesOk ((shOpen lt (x9.2.1.1, x9.2.1.2.1) x9.2.2.1 x9.2.2.2.1 x9.2.2.2.2.1).1)) ∧ (acts.length - (n0 + 1)) < (acts.length - n0) from ⟨⟨by omega, (hk0.open_ (x9.2.1.1, x9.2.1.2.1) x9.2.2.1 x9.2.2.2.1 x9.2.2.2.2.1)⟩, by omega⟩) (by kernel_rfl) [2, 3, 1, 1, 1, 2, 2, 2, 2, 2, 0] (by kernel_rfl) h
      · skip
        have hc12 := of_decide_eq_false hc12
        refine c_seq ?_
        refine c_reg ?_
        refine sq_q rfl h (g_eq (v := .bool (x9.1.toList == (⟨#[100, 111, 119, 110]⟩ : ByteArray).toList)) (v' := .bool (decide (x9.1 = (⟨#[100, 111, 119, 110]⟩ : ByteArray)))) (g_pure fun _ => by kernel_rfl) beqS) ?_
        refine sq_p (.bool (decide (x9.1 = (⟨#[100, 111, 119, 110]⟩ : ByteArray)))) rfl (fun _ => by kernel_rfl) ?_
        refine lnil ?_
        refine thn_n ?_
        refine c_cond (decide (x9.1 = (⟨#[100, 111, 119, 110]⟩ : ByteArray))) (by kernel_rfl) (fun hc16 => ?_) (fun hc16 => ?_)
        · skip
          have hc16 := of_decide_eq_true hc16
          refine c_seq ?_
          refine c_reg ?_
          refine sq_p (.pointer (some ⟨k5, 0, none⟩)) rfl (fun _ => by kernel_rfl) ?_
          refine sq_p (.pointer (some ⟨k11, 1, none⟩)) rfl (fun _ => by kernel_rfl) ?_
          refine sq_q rfl h (g_ld 1 [.int .i64 x9.2.1.1, .int .i64 x9.2.1.2.1] (.agg #[.int .i64 x9.2.1.1, .int .i64 x9.2.1.2.1]) (by kernel_rfl) 0 rfl) ?_
          refine sq_p (.pointer (some ⟨k11, 3, none⟩)) rfl (fun _ => by kernel_rfl) ?_
          refine sq_q rfl h (g_ld 3 [.int .i64 x9.2.2.1] (.int .i64 x9.2.2.1) (by kernel_rfl) 0 rfl) ?_
          refine sq_p (.pointer (some ⟨k11, 4, none⟩)) rfl (fun _ => by kernel_rfl) ?_
          refine sq_q rfl h (g_ld 4 [.int .i64 x9.2.2.2.1] (.int .i64 x9.2.2.2.1) (by kernel_rfl) 0 rfl) ?_
          refine sq_p (.pointer (some ⟨k11, 5, none⟩)) rfl (fun _ => by kernel_rfl) ?_
          refine sq_q rfl h (g_ld 5 [.int .i64 x9.2.2.2.2.1] (.int .i64 x9.2.2.2.2.1) (by kernel_rfl) 0 rfl) ?_
          refine sq_call #[.pointer (some ⟨k5, 0, none⟩), .agg #[.int .i64 x9.2.1.1, .int .i64 x9.2.1.2.1], .int .i64 x9.2.2.1, .int .i64 x9.2.2.2.1, .int .i64 x9.2.2.2.2.1] [4, 2, 7] rfl (shDown_spec x9.2.1.1 x9.2.1.2.1 x9.2.2.1 x9.2.2.2.1 x9.2.2.2.2.1) (fun _ => by kernel_rfl) h ?_; rintro v_ L_ w ⟨v17, tt18, rfl, rfl⟩ h
          refine sq_p (errV ad ((shDown lt (x9.2.1.1, x9.2.1.2.1) x9.2.2.1 x9.2.2.2.1 x9.2.2.2.2.1).2)) rfl (fun _ => by kernel_rfl) ?_
          refine lnil ?_
          refine thn_n ?_
          refine c_reg ?_
          refine sq_p (.pointer (some ⟨k6, 0, none⟩)) rfl (fun _ => by kernel_rfl) ?_
          refine sq_p (.pointer (some ⟨k11, 1, none⟩)) rfl (fun _ => by kernel_rfl) ?_
          refine sq_q rfl h (g_ld 1 [.int .i64 x9.2.1.1, .int .i64 x9.2.1.2.1] (.agg #[.int .i64 x9.2.1.1, .int .i64 x9.2.1.2.1]) (by kernel_rfl) 3 rfl) ?_
          refine sq_p (.pointer (some ⟨k11, 3, none⟩)) rfl (fun _ => by kernel_rfl) ?_
          refine sq_q rfl h (g_ld 3 [.int .i64 x9.2.2.1] (.int .i64 x9.2.2.1) (by kernel_rfl) 3 rfl) ?_
          refine sq_p (.pointer (some ⟨k11, 4, none⟩)) rfl (fun _ => by kernel_rfl) ?_
          refine sq_q rfl h (g_ld 4 [.int .i64 x9.2.2.2.1] (.int .i64 x9.2.2.2.1) (by kernel_rfl) 3 rfl) ?_
          refine sq_p (.pointer (some ⟨k11, 5, none⟩)) rfl (fun _ => by kernel_rfl) ?_
          refine sq_q rfl h (g_ld 5 [.int .i64 x9.2.2.2.2.1] (.int .i64 x9.2.2.2.2.1) (by kernel_rfl) 3 rfl) ?_
          refine sq_call #[.pointer (some ⟨k6, 0, none⟩), .agg #[.int .i64 x9.2.1.1, .int .i64 x9.2.1.2.1], .int .i64 x9.2.2.1, .int .i64 x9.2.2.2.1, .int .i64 x9.2.2.2.2.1] [5, 4] rfl (rdown_spec k6 vm lt x9.2.1.1 x9.2.1.2.1 x9.2.2.1 x9.2.2.2.1 x9.2.2.2.2.1 hk0) (fun _ => by kernel_rfl) h ?_; rintro v_ L_ w ⟨rfl, v19, rfl⟩ h
          refine sq_p (.int .i64 ((shDown lt (x9.2.1.1, x9.2.1.2.1) x9.2.2.1 x9.2.2.2.1 x9.2.2.2.2.1).2 : Int)) rfl (fun _ => by kernel_rfl) ?_
          refine lnil ?_
          refine blk_n (thn_n ?_)
          refine c_seq ?_
          refine c_reg ?_
          refine sq_p (errV ad ((shDown lt (x9.2.1.1, x9.2.1.2.1) x9.2.2.1 x9.2.2.2.1 x9.2.2.2.2.1).2)) rfl (fun _ => by kernel_rfl) ?_
          refine sq_p (.int .i64 ((shDown lt (x9.2.1.1, x9.2.1.2.1) x9.2.2.1 x9.2.2.2.1 x9.2.2.2.2.1).2 : Int)) rfl (fun _ => by kernel_rfl) ?_
          refine sq_call #[errV ad ((shDown lt (x9.2.1.1, x9.2.1.2.1) x9.2.2.1 x9.2.2.2.1 x9.2.2.2.2.1).2), .int .i64 ((shDown lt (x9.2.1.1, x9.2.1.2.1) x9.2.2.1 x9.2.2.2.1 x9.2.2.2.2.1).2 : Int)] [11] rfl (coded2_spec ad ((shDown lt (x9.2.1.1, x9.2.1.2.1) x9.2.2.1 x9.2.2.2.1 x9.2.2.2.2.1).2) ((shDown lt (x9.2.1.1, x9.2.1.2.1) x9.2.2.1 x9.2.2.2.1 x9.2.2.2.2.1).2 : Int) (le_down _ _ _ _ _) rfl) (fun _ => by kernel_rfl) h ?_; rintro v_ L_ w ⟨rfl, rfl⟩ h
          refine sq_p (.bool false) rfl (fun _ => by kernel_rfl) ?_
          refine lnil ?_
          refine thn_n ?_
          refine c_false (by kernel_rfl) ?_
          refine c_skip ?_
          refine blk_n (thn_n ?_)
          refine c_reg ?_
          refine sq_p (.int .i64 (n0 : Int)) rfl (fun _ => by kernel_rfl) ?_
          refine sq_q rfl h (g_eq (v := .int .i64 (IntKind.i64.wrap ((n0 : Int) + 1))) (v' := .int .i64 ((n0 + 1 : Nat) : Int)) (g_pure fun _ => by kernel_rfl) (wr (by omega))) ?_
          refine sq_p (.int .i64 ((n0 + 1 : Nat) : Int)) rfl (fun _ => by kernel_rfl) ?_
          refine lnil ?_
          refine loop_end (fun j => ⟨(n0 + 1), (shDown lt (x9.2.1.1, x9.2.1.2.1) x9.2.2.1 x9.2.2.2.1 x9.2.2.2.2.1).1, v17, tt18, v19, j⟩) (show ((n0 + 1) ≤ acts.length ∧ SharesOk ((shDown lt (x9.2.1.1, x9.2.1.2.1) x9.2.2.1 x9.2.2.2.1 x9.2.2.2.2.1).1)) ∧ (acts.length - (n0 + 1)) < (acts.length - n0) from ⟨⟨by omega, (hk0.down (x9.2.1.1, x9.2.1.2.1) x9.2.2.1 x9.2.2.2.1 x9.2.2.2.2.1)⟩, by omega⟩) (by kernel_rfl) [2, 3, 1, 1, 3, 3, 3, 3, 1, 2, 0] (by kernel_rfl) h
        · skip
          have hc16 := of_decide_eq_false hc16
          refine c_seq ?_
          refine c_reg ?_
          refine sq_q rfl h (g_eq (v := .bool (x9.1.toList == (⟨#[99, 108, 111, 115, 101]⟩ : ByteArray).toList)) (v' := .bool (decide (x9.1 = (⟨#[99, 108, 111, 115, 101]⟩ : ByteArray)))) (g_pure fun _ => by kernel_rfl) beqS) ?_
          refine sq_p (.bool (decide (x9.1 = (⟨#[99, 108, 111, 115, 101]⟩ : ByteArray)))) rfl (fun _ => by kernel_rfl) ?_
          refine lnil ?_
          refine thn_n ?_
          refine c_cond (decide (x9.1 = (⟨#[99, 108, 111, 115, 101]⟩ : ByteArray))) (by kernel_rfl) (fun hc20 => ?_) (fun hc20 => ?_)
          · skip
            have hc20 := of_decide_eq_true hc20
            refine c_seq ?_
            refine c_reg ?_
            refine sq_p (.pointer (some ⟨k5, 0, none⟩)) rfl (fun _ => by kernel_rfl) ?_
            refine sq_p (.pointer (some ⟨k11, 1, none⟩)) rfl (fun _ => by kernel_rfl) ?_
            refine sq_q rfl h (g_ld 1 [.int .i64 x9.2.1.1, .int .i64 x9.2.1.2.1] (.agg #[.int .i64 x9.2.1.1, .int .i64 x9.2.1.2.1]) (by kernel_rfl) 0 rfl) ?_
            refine sq_p (.pointer (some ⟨k11, 3, none⟩)) rfl (fun _ => by kernel_rfl) ?_
            refine sq_q rfl h (g_ld 3 [.int .i64 x9.2.2.1] (.int .i64 x9.2.2.1) (by kernel_rfl) 0 rfl) ?_
            refine sq_call #[.pointer (some ⟨k5, 0, none⟩), .agg #[.int .i64 x9.2.1.1, .int .i64 x9.2.1.2.1], .int .i64 x9.2.2.1] [4, 2, 4] rfl (shClose_spec k5 vt tt lt x9.2.1.1 x9.2.1.2.1 x9.2.2.1 (by omega)) (fun _ => by kernel_rfl) h ?_; rintro v_ L_ w ⟨v21, rfl, rfl⟩ h
            refine sq_p (errV ad ((shClose lt (x9.2.1.1, x9.2.1.2.1) x9.2.2.1).2)) rfl (fun _ => by kernel_rfl) ?_
            refine lnil ?_
            refine thn_n ?_
            refine c_reg ?_
            refine sq_p (.pointer (some ⟨k6, 0, none⟩)) rfl (fun _ => by kernel_rfl) ?_
            refine sq_p (.pointer (some ⟨k11, 1, none⟩)) rfl (fun _ => by kernel_rfl) ?_
            refine sq_q rfl h (g_ld 1 [.int .i64 x9.2.1.1, .int .i64 x9.2.1.2.1] (.agg #[.int .i64 x9.2.1.1, .int .i64 x9.2.1.2.1]) (by kernel_rfl) 3 rfl) ?_
            refine sq_p (.pointer (some ⟨k11, 3, none⟩)) rfl (fun _ => by kernel_rfl) ?_
            refine sq_q rfl h (g_ld 3 [.int .i64 x9.2.2.1] (.int .i64 x9.2.2.1) (by kernel_rfl) 3 rfl) ?_
            refine sq_call #[.pointer (some ⟨k6, 0, none⟩), .agg #[.int .i64 x9.2.1.1, .int .i64 x9.2.1.2.1], .int .i64 x9.2.2.1] [5, 4] rfl (rclose_spec k6 vm lt x9.2.1.1 x9.2.1.2.1 x9.2.2.1 hk0) (fun _ => by kernel_rfl) h ?_; rintro v_ L_ w ⟨rfl, v23, rfl⟩ h
            refine sq_p (.int .i64 ((shClose lt (x9.2.1.1, x9.2.1.2.1) x9.2.2.1).2 : Int)) rfl (fun _ => by kernel_rfl) ?_
            refine lnil ?_
            refine blk_n (thn_n ?_)
            refine c_seq ?_
            refine c_reg ?_
            refine sq_p (errV ad ((shClose lt (x9.2.1.1, x9.2.1.2.1) x9.2.2.1).2)) rfl (fun _ => by kernel_rfl) ?_
            refine sq_p (.int .i64 ((shClose lt (x9.2.1.1, x9.2.1.2.1) x9.2.2.1).2 : Int)) rfl (fun _ => by kernel_rfl) ?_
            refine sq_call #[errV ad ((shClose lt (x9.2.1.1, x9.2.1.2.1) x9.2.2.1).2), .int .i64 ((shClose lt (x9.2.1.1, x9.2.1.2.1) x9.2.2.1).2 : Int)] [11] rfl (coded2_spec ad ((shClose lt (x9.2.1.1, x9.2.1.2.1) x9.2.2.1).2) ((shClose lt (x9.2.1.1, x9.2.1.2.1) x9.2.2.1).2 : Int) (le_close _ _ _) rfl) (fun _ => by kernel_rfl) h ?_; rintro v_ L_ w ⟨rfl, rfl⟩ h
            refine sq_p (.bool false) rfl (fun _ => by kernel_rfl) ?_
            refine lnil ?_
            refine thn_n ?_
            refine c_false (by kernel_rfl) ?_
            refine c_skip ?_
            refine blk_n (thn_n ?_)
            refine c_reg ?_
            refine sq_p (.int .i64 (n0 : Int)) rfl (fun _ => by kernel_rfl) ?_
            refine sq_q rfl h (g_eq (v := .int .i64 (IntKind.i64.wrap ((n0 : Int) + 1))) (v' := .int .i64 ((n0 + 1 : Nat) : Int)) (g_pure fun _ => by kernel_rfl) (wr (by omega))) ?_
            refine sq_p (.int .i64 ((n0 + 1 : Nat) : Int)) rfl (fun _ => by kernel_rfl) ?_
            refine lnil ?_
            refine loop_end (fun j => ⟨(n0 + 1), (shClose lt (x9.2.1.1, x9.2.1.2.1) x9.2.2.1).1, v21, tt, v23, j⟩) (show ((n0 + 1) ≤ acts.length ∧ SharesOk ((shClose lt (x9.2.1.1, x9.2.1.2.1) x9.2.2.1).1)) ∧ (acts.length - (n0 + 1)) < (acts.length - n0) from ⟨⟨by omega, (hk0.filter _)⟩, by omega⟩) (by kernel_rfl) [2, 3, 1, 1, 3, 1, 2, 2, 2, 2, 0] (by kernel_rfl) h
          · skip
            have hc20 := of_decide_eq_false hc20
            refine c_seq ?_
            refine c_reg ?_
            refine sq_q rfl h (g_eq (v := .bool (x9.1.toList == (⟨#[109, 97, 121]⟩ : ByteArray).toList)) (v' := .bool (decide (x9.1 = (⟨#[109, 97, 121]⟩ : ByteArray)))) (g_pure fun _ => by kernel_rfl) beqS) ?_
            refine sq_p (.bool (decide (x9.1 = (⟨#[109, 97, 121]⟩ : ByteArray)))) rfl (fun _ => by kernel_rfl) ?_
            refine lnil ?_
            refine thn_n ?_
            refine c_cond (decide (x9.1 = (⟨#[109, 97, 121]⟩ : ByteArray))) (by kernel_rfl) (fun hc24 => ?_) (fun hc24 => ?_)
            · skip
              have hc24 := of_decide_eq_true hc24
              refine c_seq ?_
              refine c_reg ?_
              refine sq_p (.pointer (some ⟨k5, 0, none⟩)) rfl (fun _ => by kernel_rfl) ?_
              refine sq_p (.pointer (some ⟨k11, 1, none⟩)) rfl (fun _ => by kernel_rfl) ?_
              refine sq_q rfl h (g_ld 1 [.int .i64 x9.2.1.1, .int .i64 x9.2.1.2.1] (.agg #[.int .i64 x9.2.1.1, .int .i64 x9.2.1.2.1]) (by kernel_rfl) 0 rfl) ?_
              refine sq_p (.pointer (some ⟨k11, 3, none⟩)) rfl (fun _ => by kernel_rfl) ?_
              refine sq_q rfl h (g_ld 3 [.int .i64 x9.2.2.1] (.int .i64 x9.2.2.1) (by kernel_rfl) 0 rfl) ?_
              refine sq_p (.pointer (some ⟨k11, 4, none⟩)) rfl (fun _ => by kernel_rfl) ?_
              refine sq_q rfl h (g_ld 4 [.int .i64 x9.2.2.2.1] (.int .i64 x9.2.2.2.1) (by kernel_rfl) 0 rfl) ?_
              refine sq_call #[.pointer (some ⟨k5, 0, none⟩), .agg #[.int .i64 x9.2.1.1, .int .i64 x9.2.1.2.1], .int .i64 x9.2.2.1, .int .i64 x9.2.2.2.1] [4, 2, 6] rfl (shMay_spec x9.2.1.1 x9.2.1.2.1 x9.2.2.1 x9.2.2.2.1) (fun _ => by kernel_rfl) h ?_; rintro v_ L_ w ⟨rfl, rfl⟩ h
              refine sq_p (errV ad (shMay lt (x9.2.1.1, x9.2.1.2.1) x9.2.2.1 x9.2.2.2.1)) rfl (fun _ => by kernel_rfl) ?_
              refine lnil ?_
              refine thn_n ?_
              refine c_reg ?_
              refine sq_p (.pointer (some ⟨k6, 0, none⟩)) rfl (fun _ => by kernel_rfl) ?_
              refine sq_p (.pointer (some ⟨k11, 1, none⟩)) rfl (fun _ => by kernel_rfl) ?_
              refine sq_q rfl h (g_ld 1 [.int .i64 x9.2.1.1, .int .i64 x9.2.1.2.1] (.agg #[.int .i64 x9.2.1.1, .int .i64 x9.2.1.2.1]) (by kernel_rfl) 3 rfl) ?_
              refine sq_p (.pointer (some ⟨k11, 3, none⟩)) rfl (fun _ => by kernel_rfl) ?_
              refine sq_q rfl h (g_ld 3 [.int .i64 x9.2.2.1] (.int .i64 x9.2.2.1) (by kernel_rfl) 3 rfl) ?_
              refine sq_p (.pointer (some ⟨k11, 4, none⟩)) rfl (fun _ => by kernel_rfl) ?_
              refine sq_q rfl h (g_ld 4 [.int .i64 x9.2.2.2.1] (.int .i64 x9.2.2.2.1) (by kernel_rfl) 3 rfl) ?_
              refine sq_call #[.pointer (some ⟨k6, 0, none⟩), .agg #[.int .i64 x9.2.1.1, .int .i64 x9.2.1.2.1], .int .i64 x9.2.2.1, .int .i64 x9.2.2.2.1] [5, 4] rfl (rmay_spec k6 vm lt x9.2.1.1 x9.2.1.2.1 x9.2.2.1 x9.2.2.2.1 hk0) (fun _ => by kernel_rfl) h ?_; rintro v_ L_ w ⟨rfl, rfl⟩ h
              refine sq_p (.int .i64 ((shMay lt (x9.2.1.1, x9.2.1.2.1) x9.2.2.1 x9.2.2.2.1) : Int)) rfl (fun _ => by kernel_rfl) ?_
              refine lnil ?_
              refine blk_n (thn_n ?_)
              refine c_seq ?_
              refine c_reg ?_
              refine sq_p (errV ad (shMay lt (x9.2.1.1, x9.2.1.2.1) x9.2.2.1 x9.2.2.2.1)) rfl (fun _ => by kernel_rfl) ?_
              refine sq_p (.int .i64 ((shMay lt (x9.2.1.1, x9.2.1.2.1) x9.2.2.1 x9.2.2.2.1) : Int)) rfl (fun _ => by kernel_rfl) ?_
              refine sq_call #[errV ad (shMay lt (x9.2.1.1, x9.2.1.2.1) x9.2.2.1 x9.2.2.2.1), .int .i64 ((shMay lt (x9.2.1.1, x9.2.1.2.1) x9.2.2.1 x9.2.2.2.1) : Int)] [11] rfl (coded2_spec ad (shMay lt (x9.2.1.1, x9.2.1.2.1) x9.2.2.1 x9.2.2.2.1) ((shMay lt (x9.2.1.1, x9.2.1.2.1) x9.2.2.1 x9.2.2.2.1) : Int) (le_may _ _ _ _) rfl) (fun _ => by kernel_rfl) h ?_; rintro v_ L_ w ⟨rfl, rfl⟩ h
              refine sq_p (.bool false) rfl (fun _ => by kernel_rfl) ?_
              refine lnil ?_
              refine thn_n ?_
              refine c_false (by kernel_rfl) ?_
              refine c_skip ?_
              refine blk_n (thn_n ?_)
              refine c_reg ?_
              refine sq_p (.int .i64 (n0 : Int)) rfl (fun _ => by kernel_rfl) ?_
              refine sq_q rfl h (g_eq (v := .int .i64 (IntKind.i64.wrap ((n0 : Int) + 1))) (v' := .int .i64 ((n0 + 1 : Nat) : Int)) (g_pure fun _ => by kernel_rfl) (wr (by omega))) ?_
              refine sq_p (.int .i64 ((n0 + 1 : Nat) : Int)) rfl (fun _ => by kernel_rfl) ?_
              refine lnil ?_
              refine loop_end (fun j => ⟨(n0 + 1), lt, vt, tt, vm, j⟩) (show ((n0 + 1) ≤ acts.length ∧ SharesOk lt) ∧ (acts.length - (n0 + 1)) < (acts.length - n0) from ⟨⟨by omega, hk0⟩, by omega⟩) (by kernel_rfl) [2, 3, 1, 1, 3, 3, 3, 1, 2, 2, 0] (by kernel_rfl) h
            · skip
              have hc24 := of_decide_eq_false hc24
              refine c_seq ?_
              refine c_reg ?_
              refine sq_q rfl h (g_eq (v := .bool (x9.1.toList == (⟨#[97, 110, 121, 111, 110, 101]⟩ : ByteArray).toList)) (v' := .bool (decide (x9.1 = (⟨#[97, 110, 121, 111, 110, 101]⟩ : ByteArray)))) (g_pure fun _ => by kernel_rfl) beqS) ?_
              refine sq_p (.bool (decide (x9.1 = (⟨#[97, 110, 121, 111, 110, 101]⟩ : ByteArray)))) rfl (fun _ => by kernel_rfl) ?_
              refine lnil ?_
              refine thn_n ?_
              refine c_cond (decide (x9.1 = (⟨#[97, 110, 121, 111, 110, 101]⟩ : ByteArray))) (by kernel_rfl) (fun hc28 => ?_) (fun hc28 => ?_)
              · skip
                have hc28 := of_decide_eq_true hc28
                refine c_seq ?_
                refine c_reg ?_
                refine sq_p (.pointer (some ⟨k5, 0, none⟩)) rfl (fun _ => by kernel_rfl) ?_
                refine sq_p (.pointer (some ⟨k11, 1, none⟩)) rfl (fun _ => by kernel_rfl) ?_
                refine sq_q rfl h (g_ld 1 [.int .i64 x9.2.1.1, .int .i64 x9.2.1.2.1] (.agg #[.int .i64 x9.2.1.1, .int .i64 x9.2.1.2.1]) (by kernel_rfl) 0 rfl) ?_
                refine sq_p (.pointer (some ⟨k11, 4, none⟩)) rfl (fun _ => by kernel_rfl) ?_
                refine sq_q rfl h (g_ld 4 [.int .i64 x9.2.2.2.1] (.int .i64 x9.2.2.2.1) (by kernel_rfl) 0 rfl) ?_
                refine sq_call #[.pointer (some ⟨k5, 0, none⟩), .agg #[.int .i64 x9.2.1.1, .int .i64 x9.2.1.2.1], .int .i64 x9.2.2.2.1] [4, 2, 5] rfl (shAnyone_spec x9.2.1.1 x9.2.1.2.1 x9.2.2.2.1) (fun _ => by kernel_rfl) h ?_; rintro v_ L_ w ⟨rfl, rfl⟩ h
                refine sq_p (errV ad (shAnyone lt (x9.2.1.1, x9.2.1.2.1) x9.2.2.2.1)) rfl (fun _ => by kernel_rfl) ?_
                refine lnil ?_
                refine thn_n ?_
                refine c_reg ?_
                refine sq_p (.pointer (some ⟨k6, 0, none⟩)) rfl (fun _ => by kernel_rfl) ?_
                refine sq_p (.pointer (some ⟨k11, 1, none⟩)) rfl (fun _ => by kernel_rfl) ?_
                refine sq_q rfl h (g_ld 1 [.int .i64 x9.2.1.1, .int .i64 x9.2.1.2.1] (.agg #[.int .i64 x9.2.1.1, .int .i64 x9.2.1.2.1]) (by kernel_rfl) 3 rfl) ?_
                refine sq_p (.pointer (some ⟨k11, 4, none⟩)) rfl (fun _ => by kernel_rfl) ?_
                refine sq_q rfl h (g_ld 4 [.int .i64 x9.2.2.2.1] (.int .i64 x9.2.2.2.1) (by kernel_rfl) 3 rfl) ?_
                refine sq_call #[.pointer (some ⟨k6, 0, none⟩), .agg #[.int .i64 x9.2.1.1, .int .i64 x9.2.1.2.1], .int .i64 x9.2.2.2.1] [5, 4] rfl (ranyone_spec k6 vm lt x9.2.1.1 x9.2.1.2.1 x9.2.2.2.1 hk0) (fun _ => by kernel_rfl) h ?_; rintro v_ L_ w ⟨rfl, rfl⟩ h
                refine sq_p (.int .i64 ((shAnyone lt (x9.2.1.1, x9.2.1.2.1) x9.2.2.2.1) : Int)) rfl (fun _ => by kernel_rfl) ?_
                refine lnil ?_
                refine blk_n (thn_n ?_)
                refine c_seq ?_
                refine c_reg ?_
                refine sq_p (errV ad (shAnyone lt (x9.2.1.1, x9.2.1.2.1) x9.2.2.2.1)) rfl (fun _ => by kernel_rfl) ?_
                refine sq_p (.int .i64 ((shAnyone lt (x9.2.1.1, x9.2.1.2.1) x9.2.2.2.1) : Int)) rfl (fun _ => by kernel_rfl) ?_
                refine sq_call #[errV ad (shAnyone lt (x9.2.1.1, x9.2.1.2.1) x9.2.2.2.1), .int .i64 ((shAnyone lt (x9.2.1.1, x9.2.1.2.1) x9.2.2.2.1) : Int)] [11] rfl (coded2_spec ad (shAnyone lt (x9.2.1.1, x9.2.1.2.1) x9.2.2.2.1) ((shAnyone lt (x9.2.1.1, x9.2.1.2.1) x9.2.2.2.1) : Int) (le_any _ _ _) rfl) (fun _ => by kernel_rfl) h ?_; rintro v_ L_ w ⟨rfl, rfl⟩ h
                refine sq_p (.bool false) rfl (fun _ => by kernel_rfl) ?_
                refine lnil ?_
                refine thn_n ?_
                refine c_false (by kernel_rfl) ?_
                refine c_skip ?_
                refine blk_n (thn_n ?_)
                refine c_reg ?_
                refine sq_p (.int .i64 (n0 : Int)) rfl (fun _ => by kernel_rfl) ?_
                refine sq_q rfl h (g_eq (v := .int .i64 (IntKind.i64.wrap ((n0 : Int) + 1))) (v' := .int .i64 ((n0 + 1 : Nat) : Int)) (g_pure fun _ => by kernel_rfl) (wr (by omega))) ?_
                refine sq_p (.int .i64 ((n0 + 1 : Nat) : Int)) rfl (fun _ => by kernel_rfl) ?_
                refine lnil ?_
                refine loop_end (fun j => ⟨(n0 + 1), lt, vt, tt, vm, j⟩) (show ((n0 + 1) ≤ acts.length ∧ SharesOk lt) ∧ (acts.length - (n0 + 1)) < (acts.length - n0) from ⟨⟨by omega, hk0⟩, by omega⟩) (by kernel_rfl) [2, 3, 1, 1, 3, 3, 1, 2, 2, 2, 0] (by kernel_rfl) h
              · skip
                have hc28 := of_decide_eq_false hc28
                refine c_seq ?_
                refine c_reg ?_
                refine sq_q rfl h (g_eq (v := .bool (x9.1.toList == (⟨#[100, 114, 111, 112]⟩ : ByteArray).toList)) (v' := .bool (decide (x9.1 = (⟨#[100, 114, 111, 112]⟩ : ByteArray)))) (g_pure fun _ => by kernel_rfl) beqS) ?_
                refine sq_p (.bool (decide (x9.1 = (⟨#[100, 114, 111, 112]⟩ : ByteArray)))) rfl (fun _ => by kernel_rfl) ?_
                refine lnil ?_
                refine thn_n ?_
                refine c_cond (decide (x9.1 = (⟨#[100, 114, 111, 112]⟩ : ByteArray))) (by kernel_rfl) (fun hc32 => ?_) (fun hc32 => ?_)
                · skip
                  have hc32 := of_decide_eq_true hc32
                  refine c_seq ?_
                  refine d_start 9 [0] (by kernel_rfl) h fun w h => ?_
                  refine d_take 0 118 [0] rfl (v := .pointer (some ⟨k5, 0, none⟩)) (by kernel_rfl) (qp_thn (qp_blk (qp_thn (qp_blk (qp_thn (qp_rnd (qp_blk (qp_thn qp_body)))))))) (yq (by kernel_rfl) (g_pure (v := .pointer (some ⟨k5, 0, none⟩)) fun _ => by kernel_rfl)) h (by kernel_rfl) ?_
                  refine d_take 1 113 [0] rfl (v := .pointer (some ⟨k11, 3, none⟩)) (by kernel_rfl) (qp_thn (qp_blk (qp_thn (qp_blk (qp_thn (qp_rnd (qp_blk (qp_thn qp_body)))))))) (yq (by kernel_rfl) (g_pure (v := .pointer (some ⟨k11, 3, none⟩)) fun _ => by kernel_rfl)) h (by kernel_rfl) ?_
                  refine d_take 2 115 [0] rfl (v := .int .i64 x9.2.2.1) (by kernel_rfl) (qp_thn (qp_blk (qp_thn (qp_blk (qp_thn (qp_rnd (qp_blk (qp_thn qp_body)))))))) (yq (by kernel_rfl) (g_ld 3 [.int .i64 x9.2.2.1] (.int .i64 x9.2.2.1) (by kernel_rfl) 0 rfl)) h (by kernel_rfl) ?_
                  refine d_take 4 111 [0] rfl (v := .pointer (some ⟨k6, 0, none⟩)) (by kernel_rfl) (qp_thn (qp_blk (qp_thn (qp_blk (qp_thn (qp_rnd (qp_blk (qp_thn qp_body)))))))) (yq (by kernel_rfl) (g_pure (v := .pointer (some ⟨k6, 0, none⟩)) fun _ => by kernel_rfl)) h (by kernel_rfl) ?_
                  refine d_take 5 31 [0] rfl (v := .pointer (some ⟨k11, 3, none⟩)) (by kernel_rfl) (qp_thn (qp_blk (qp_thn (qp_blk (qp_thn (qp_rnd (qp_blk (qp_thn qp_body)))))))) (yq (by kernel_rfl) (g_pure (v := .pointer (some ⟨k11, 3, none⟩)) fun _ => by kernel_rfl)) h (by kernel_rfl) ?_
                  refine d_take 6 63 [0] rfl (v := .int .i64 x9.2.2.1) (by kernel_rfl) (qp_thn (qp_blk (qp_thn (qp_blk (qp_thn (qp_rnd (qp_blk (qp_thn qp_body)))))))) (yq (by kernel_rfl) (g_ld 3 [.int .i64 x9.2.2.1] (.int .i64 x9.2.2.1) (by kernel_rfl) 0 rfl)) h (by kernel_rfl) ?_
                  refine d_ready [3] (by kernel_rfl) rfl ?_
                  refine ad_call #[.pointer (some ⟨k5, 0, none⟩), .int .i64 x9.2.2.1] [4, 2] [2] rfl (by kernel_rfl) (shDrop_spec x9.2.2.1) (fun _ => by kernel_rfl) h ?_ ?_
                  · skip
                    rintro v_ L_ w ⟨v33, tt34, rfl, rfl⟩ h
                    refine ⟨by kernel_rfl, ?_⟩
                    refine d_ready [7] (by kernel_rfl) rfl ?_
                    refine ad_call #[.pointer (some ⟨k6, 0, none⟩), .int .i64 x9.2.2.1] [4, 3] [4] rfl (by kernel_rfl) (rdrop_spec k6 vm lt x9.2.2.1 (by omega)) (fun _ => by kernel_rfl) h ?_ ?_
                    · skip
                      rintro v_ L_ w ⟨rfl, v35, rfl⟩ h
                      refine ⟨by kernel_rfl, ?_⟩
                      refine d_take 8 255 [4] rfl (v := .bool (!(decide ((lt.length : Int) - ((shDrop lt x9.2.2.1).length : Int) = (lt.length : Int) - ((shDrop lt x9.2.2.1).length : Int))))) (by kernel_rfl) (qp_thn (qp_blk (qp_thn (qp_blk (qp_thn (qp_rnd (qp_blk (qp_thn qp_body)))))))) (yq (by kernel_rfl) (g_pure (v := .bool (!(decide ((lt.length : Int) - ((shDrop lt x9.2.2.1).length : Int) = (lt.length : Int) - ((shDrop lt x9.2.2.1).length : Int))))) fun _ => by kernel_rfl)) h (by kernel_rfl) ?_
                      refine d_done (by kernel_rfl) ?_
                      refine thn_n ?_
                      refine c_cond (!(decide ((lt.length : Int) - ((shDrop lt x9.2.2.1).length : Int) = (lt.length : Int) - ((shDrop lt x9.2.2.1).length : Int)))) (by kernel_rfl) (fun hc36 => ?_) (fun hc36 => ?_)
                      · skip
                        have q37 : (decide ((lt.length : Int) - ((shDrop lt x9.2.2.1).length : Int) = (lt.length : Int) - ((shDrop lt x9.2.2.1).length : Int))) = false := by simpa using hc36
                        have q37 := of_decide_eq_false q37
                        exfalso; omega
                      · skip
                        have q38 : (decide ((lt.length : Int) - ((shDrop lt x9.2.2.1).length : Int) = (lt.length : Int) - ((shDrop lt x9.2.2.1).length : Int))) = true := by simpa using hc36
                        have q38 := of_decide_eq_true q38
                        refine c_skip ?_
                        refine blk_n (thn_n ?_)
                        refine c_seq ?_
                        refine c_reg ?_
                        refine sq_p (.nilIface) rfl (fun _ => by kernel_rfl) ?_
                        refine sq_p (.int .i64 0) rfl (fun _ => by kernel_rfl) ?_
                        refine sq_call #[.nilIface, .int .i64 0] [11] rfl (coded2_spec ad 0 0 (by decide) rfl) (fun _ => by kernel_rfl) h ?_; rintro v_ L_ w ⟨rfl, rfl⟩ h
                        refine sq_p (.bool false) rfl (fun _ => by kernel_rfl) ?_
                        refine lnil ?_
                        refine thn_n ?_
                        refine c_false (by kernel_rfl) ?_
                        refine c_skip ?_
                        refine blk_n (thn_n ?_)
                        refine c_reg ?_
                        refine sq_p (.int .i64 (n0 : Int)) rfl (fun _ => by kernel_rfl) ?_
                        refine sq_q rfl h (g_eq (v := .int .i64 (IntKind.i64.wrap ((n0 : Int) + 1))) (v' := .int .i64 ((n0 + 1 : Nat) : Int)) (g_pure fun _ => by kernel_rfl) (wr (by omega))) ?_
                        refine sq_p (.int .i64 ((n0 + 1 : Nat) : Int)) rfl (fun _ => by kernel_rfl) ?_
                        refine lnil ?_
                        refine loop_end (fun j => ⟨(n0 + 1), (shDrop lt x9.2.2.1), v33, tt34, v35, j⟩) (show ((n0 + 1) ≤ acts.length ∧ SharesOk (shDrop lt x9.2.2.1)) ∧ (acts.length - (n0 + 1)) < (acts.length - n0) from ⟨⟨by omega, (hk0.filter _)⟩, by omega⟩) (by kernel_rfl) [2, 3, 1, 1, 2, 2, 2, 2, 2, 2, 0] (by kernel_rfl) h
                    exact ad_nil
                  exact ad_nil
                · skip
                  have hc32 := of_decide_eq_false hc32
                  refine c_skip ?_
                  refine blk_n (thn_n ?_)
                  refine c_seq ?_
                  refine c_reg ?_
                  refine sq_p (.nilIface) rfl (fun _ => by kernel_rfl) ?_
                  refine sq_p (.int .i64 0) rfl (fun _ => by kernel_rfl) ?_
                  refine sq_call #[.nilIface, .int .i64 0] [11] rfl (coded2_spec ad 0 0 (by decide) rfl) (fun _ => by kernel_rfl) h ?_; rintro v_ L_ w ⟨rfl, rfl⟩ h
                  refine sq_p (.bool false) rfl (fun _ => by kernel_rfl) ?_
                  refine lnil ?_
                  refine thn_n ?_
                  refine c_false (by kernel_rfl) ?_
                  refine c_skip ?_
                  refine blk_n (thn_n ?_)
                  refine c_reg ?_
                  refine sq_p (.int .i64 (n0 : Int)) rfl (fun _ => by kernel_rfl) ?_
                  refine sq_q rfl h (g_eq (v := .int .i64 (IntKind.i64.wrap ((n0 : Int) + 1))) (v' := .int .i64 ((n0 + 1 : Nat) : Int)) (g_pure fun _ => by kernel_rfl) (wr (by omega))) ?_
                  refine sq_p (.int .i64 ((n0 + 1 : Nat) : Int)) rfl (fun _ => by kernel_rfl) ?_
                  refine lnil ?_
                  refine loop_end (fun j => ⟨(n0 + 1), lt, vt, tt, vm, j⟩) (show ((n0 + 1) ≤ acts.length ∧ SharesOk lt) ∧ (acts.length - (n0 + 1)) < (acts.length - n0) from ⟨⟨by omega, hk0⟩, by omega⟩) (by kernel_rfl) [2, 2, 2, 2, 2, 2, 2, 2, 2, 2, 0] (by kernel_rfl) h
    · skip
      have hc7 := of_decide_eq_false hc7
      refine c_exit ?_
      refine thn_e (rnd_e (blk_e (thn_n ?_)))
      refine c_seq ?_
      refine c_reg ?_
      refine sq_p (.pointer (some ⟨k5, 0, none⟩)) rfl (fun _ => by kernel_rfl) ?_
      refine sq_call #[.pointer (some ⟨k5, 0, none⟩)] [3, 1] rfl (shList_spec (by omega)) (fun _ => by kernel_rfl) h ?_; rintro v42 L_ w ⟨_, l39, ⟨hp40, ho41⟩, rfl, rfl⟩ h
      have hLen := hp40.length_eq
      refine sq_call #[v42] [0] rfl (opens_spec v42 l39 (by omega)) (fun _ => by kernel_rfl) h ?_; rintro v43 L_ w ⟨_, rfl, rfl⟩ h
      refine sq_p (.pointer (some ⟨k6, 0, none⟩)) rfl (fun _ => by kernel_rfl) ?_
      refine sq_call #[.pointer (some ⟨k6, 0, none⟩)] [5, 4] rfl (rlist_spec k6 vm lt (by omega)) (fun _ => by kernel_rfl) h ?_; rintro v47 L_ w ⟨_, l44, ⟨hp45, ho46⟩, rfl, rfl⟩ h
      have hLL := sorted_one hk0 hp40 hp45 ho41 ho46
      subst hLL
      refine sq_call #[v43, v47] [3, 0] rfl (sameOpens_spec v43 v47 l39 (by omega)) (fun _ => by kernel_rfl) h ?_; rintro v_ L_ w ⟨rfl, rfl⟩ h
      refine sq_p (.bool true) rfl (fun _ => by kernel_rfl) ?_
      refine lnil ?_
      refine thn_n ?_
      refine c_ret ?_
      refine ret_end [.bool true] [12, 12] h (by kernel_rfl) (res_t (by kernel_rfl) res_n) ?_
      exact ⟨rfl, rfl⟩

theorem shareActs_any (ad : Nat → Addr) (a0 : Option Addr) (cap : Nat) (acts : List SAct) (w : World) (he : EnvA w.heap.size ad w) (hs : (Sh.slice shSAct).At w w.heap.size (a0, cap, acts)) :
    Calls Tryd.prog 10 #[.slice a0 acts.length cap] w fun e w' => e = .returned (.bool true) ∧ Chg Nil w w' := by
  refine ((shareActs_spec (B := w.heap.size) ad (.slice a0 acts.length cap) acts).reads (w := w) rfl ?_).mono ?_
  · intro r hr
    simp only [List.mem_cons, List.mem_nil_iff, or_false] at hr
    rcases hr with rfl | rfl
    · exact arg_of_sh hs
    · exact he
  · rintro e w' ⟨u, L', ⟨rfl, _⟩, he, hc'⟩
    exact ⟨he, hc'⟩

end Go.Proofs.YtofhnglgebllbaaDoor
