/- callnew: contracts by what is owned (printed by walk.py). -/
import Derived.Test.YtofhnglgebllbaaDoorCnB
import Derived.Test.YtofhnglgebllbaaDoorAsks
namespace Go.Proofs.YtofhnglgebllbaaDoor
open Go.RowKit
set_option linter.unusedVariables false
set_option linter.unusedSimpArgs false
set_option linter.unnecessarySimpa false
set_option maxRecDepth 100000
set_option maxHeartbeats 1000000 in
theorem serveNew_spec {B : Nat} (ad : Nat → Addr) : Spec Tryd.prog 48 #[.int .i64 3] [rEnv B ad [10]] (fun u L => ∃ p, u = .tuple #[.pointer (some ⟨p, 0, none⟩), .nilIface] ∧ L = []) := by
  refine spec_of (#[.int .i64 3, undef, undef, undef, undef, undef, undef, undef, undef, undef, undef, undef, undef, undef, undef, undef]) Tryd.func48 rfl (by kernel_rfl) fun E w0 w h => ?_
  refine c_seq ?_
  refine c_reg ?_
  refine sq_p (.pointer none) rfl (fun _ => by kernel_rfl) ?_
  refine sq_p (.nilIface) rfl (fun _ => by kernel_rfl) ?_
  refine lnil ?_
  refine thn_n ?_
  refine c_seq ?_
  refine c_reg ?_
  refine sq_p (.int .i64 3) rfl (fun _ => by kernel_rfl) ?_
  refine sq_call #[.int .i64 3] [0] rfl (treeNew_spec ad) (fun _ => by kernel_rfl) h ?_; rintro v_ L_ w ⟨p1, rfl, rfl⟩ h
  refine sq_p (.tuple #[.pointer (some ⟨p1, 0, none⟩), .nilIface]) rfl (fun _ => by kernel_rfl) ?_
  refine sq_p (.pointer (some ⟨p1, 0, none⟩)) rfl (fun _ => by kernel_rfl) ?_
  refine sq_p (.nilIface) rfl (fun _ => by kernel_rfl) ?_
  refine sq_p (.pointer (some ⟨p1, 0, none⟩)) rfl (fun _ => by kernel_rfl) ?_
  refine sq_p (.nilIface) rfl (fun _ => by kernel_rfl) ?_
  refine lnil ?_
  refine thn_n ?_
  refine c_seq ?_
  refine c_seq ?_
  refine c_reg ?_
  refine sq_p (.nilIface) rfl (fun _ => by kernel_rfl) ?_
  refine sq_p (.bool false) rfl (fun _ => by kernel_rfl) ?_
  refine lnil ?_
  refine thn_n ?_
  refine c_false (by kernel_rfl) ?_
  refine c_skip ?_
  refine thn_n ?_
  refine c_seq ?_
  refine c_reg ?_
  refine sq_p (.pointer (some ⟨p1, 0, none⟩)) rfl (fun _ => by kernel_rfl) ?_
  refine sq_call #[.pointer (some ⟨p1, 0, none⟩)] [] rfl (serveOf_spec p1) (fun _ => by kernel_rfl) h ?_; rintro v_ L_ w ⟨p2, rfl, rfl⟩ h
  refine sq_p (.pointer (some ⟨p2, 0, none⟩)) rfl (fun _ => by kernel_rfl) ?_
  refine sq_p (.nilIface) rfl (fun _ => by kernel_rfl) ?_
  refine lnil ?_
  refine thn_n ?_
  refine c_ret ?_
  refine ret_end [.pointer (some ⟨p2, 0, none⟩), .nilIface] [] h (by kernel_rfl) (res_t (by kernel_rfl) (res_t (by kernel_rfl) res_n)) ?_
  exact ⟨_, rfl, rfl⟩
set_option maxHeartbeats 1000000 in
theorem callNewT_spec {B : Nat} (ad : Nat → Addr) (a b : ByteArray) (m : Int) (ha : a.size ≤ 140737488355327) (hb : b.size ≤ 140737488355327) : Spec Tryd.prog 6 #[.string a, .string b, .int .i64 m, .bool true] [rEnvA B ad] (fun u L => u = .bool true ∧ L = [rEnvA B ad]) := by
  refine spec_of (#[.string a, .string b, .int .i64 m, .bool true, undef, undef, undef, undef, undef, undef, undef, undef, undef, undef, undef, undef, undef, undef, undef, undef, undef, undef, undef, undef, undef, undef, undef, undef, undef, undef, undef, undef, undef, undef, undef, undef, undef, undef, undef, undef, undef, undef, undef, undef, undef, undef, undef, undef, undef, undef, undef, undef, undef, undef, undef, undef, undef, undef, undef, undef, undef, undef, undef, undef, undef, undef, undef, undef, undef, undef, undef, undef, undef, undef, undef, undef, undef, undef, undef, undef, undef, undef, undef, undef, undef, undef, undef, undef, undef, undef, undef, undef, undef, undef, undef, undef, undef, undef, undef]) Tryd.func6 rfl (by kernel_rfl) fun E w0 w h => ?_
  have h := h.envSub [4] 0 rfl (by decide)
  have h := h.envSub [3] 1 rfl (by decide)
  have h := h.envSub [2] 2 rfl (by decide)
  have h := h.envSub [10] 3 rfl (by decide)
  refine c_seq ?_
  refine c_reg ?_
  refine sq_p (.bool false) rfl (fun _ => by kernel_rfl) ?_
  refine lnil ?_
  refine thn_n ?_
  refine c_seq ?_
  refine c_reg ?_
  refine sq_call #[] [4] rfl (asks_spec ad) (fun _ => by kernel_rfl) h ?_; rintro v_ L_ w ⟨rfl, rfl⟩ h
  refine sq_p (.bool true) rfl (fun _ => by kernel_rfl) ?_
  refine lnil ?_
  refine thn_n ?_
  refine c_seq ?_
  refine c_seq ?_
  refine c_reg ?_
  refine sq_p (.bool true) rfl (fun _ => by kernel_rfl) ?_
  refine sq_p (.bool false) rfl (fun _ => by kernel_rfl) ?_
  refine sq_p (.bool false) rfl (fun _ => by kernel_rfl) ?_
  refine sq_p (.string a) (by kernel_rfl) (fun _ => by kernel_rfl) ?_
  refine sq_p (.int .i64 (a.size : Int)) (by kernel_rfl) (fun _ => by kernel_rfl) ?_
  refine sq_p (.string b) (by kernel_rfl) (fun _ => by kernel_rfl) ?_
  refine sq_p (.int .i64 (b.size : Int)) (by kernel_rfl) (fun _ => by kernel_rfl) ?_
  refine sq_q (by kernel_rfl) h (g_eq (v := .int .i64 (IntKind.i64.wrap ((a.size : Int) + (b.size : Int)))) (v' := .int .i64 ((a.size + b.size : Nat) : Int)) (g_pure fun _ => by kernel_rfl) (wr (by omega))) ?_
  obtain ⟨b1, hb1⟩ : ∃ b_ : Bool, b_ = (decide (((a.size + b.size : Nat) : Int) > 200)) := ⟨_, rfl⟩
  refine sq_q (v := .bool b1) (by kernel_rfl) h (by subst hb1; exact g_pure (v := .bool (decide (((a.size + b.size : Nat) : Int) > 200))) fun _ => by kernel_rfl) ?_
  refine sq_p (.bool b1) rfl (fun _ => by kernel_rfl) ?_
  refine lnil ?_
  refine thn_n ?_
  refine c_cond (b1) (by kernel_rfl) (fun hc2 => ?_) (fun hc2 => ?_)
  · skip
    have q3 : (decide (((a.size + b.size : Nat) : Int) > 200)) = true := by rw [← hb1]; exact hc2
    have q3 := of_decide_eq_true q3
    refine c_seq ?_
    refine c_reg ?_
    refine sq_p (.bool true) rfl (fun _ => by kernel_rfl) ?_
    refine sq_p (.bool true) rfl (fun _ => by kernel_rfl) ?_
    refine lnil ?_
    refine thn_n ?_
    refine c_ret ?_
    refine thn_r ?_
    refine ret_end [.bool true] [0] h (by kernel_rfl) (res_t (by kernel_rfl) res_n) ?_
    exact ⟨rfl, rfl⟩
  · skip
    have q4 : (decide (((a.size + b.size : Nat) : Int) > 200)) = false := by rw [← hb1]; exact hc2
    have q4 := of_decide_eq_false q4
    refine c_skip ?_
    refine thn_n ?_
    refine c_seq ?_
    refine c_reg ?_
    refine sq_p (.string a) rfl (fun _ => by kernel_rfl) ?_
    refine sq_p (.string b) rfl (fun _ => by kernel_rfl) ?_
    refine sq_call #[.string a, .string b] [4] rfl (newCaller_spec ad a b (by omega) (by omega)) (fun _ => by kernel_rfl) h ?_; rintro v_ L_ w (⟨hq5, p6, rfl, rfl⟩ | ⟨hq7, rfl, rfl⟩) h
    · skip
      refine sq_p (.tuple #[.pointer (some ⟨p6, 0, none⟩), .nilIface]) rfl (fun _ => by kernel_rfl) ?_
      refine sq_p (.pointer (some ⟨p6, 0, none⟩)) rfl (fun _ => by kernel_rfl) ?_
      refine sq_p (.nilIface) rfl (fun _ => by kernel_rfl) ?_
      refine sq_p (.pointer (some ⟨p6, 0, none⟩)) rfl (fun _ => by kernel_rfl) ?_
      refine sq_p (.nilIface) rfl (fun _ => by kernel_rfl) ?_
      refine lnil ?_
      refine thn_n ?_
      refine c_seq ?_
      refine c_seq ?_
      refine c_reg ?_
      refine sq_p (.string a) rfl (fun _ => by kernel_rfl) ?_
      refine sq_call #[.string a] [] rfl (nameError_two a (by omega)) (fun _ => by kernel_rfl) h ?_; rintro v_ L_ w (⟨hq8, rfl, rfl⟩ | ⟨hq8, rfl, rfl⟩) h
      · skip
        refine sq_p (.bool false) rfl (fun _ => by kernel_rfl) ?_
        refine sq_p (.bool false) rfl (fun _ => by kernel_rfl) ?_
        refine sq_p (.string b) (by kernel_rfl) (fun _ => by kernel_rfl) ?_
        refine sq_call #[.string b] [] (by kernel_rfl) (nameError_two b (by omega)) (fun _ => by kernel_rfl) h ?_; rintro v_ L_ w (⟨hq9, rfl, rfl⟩ | ⟨hq9, rfl, rfl⟩) h
        · skip
          refine sq_p (.bool false) (by kernel_rfl) (fun _ => by kernel_rfl) ?_
          refine sq_p (.bool false) rfl (fun _ => by kernel_rfl) ?_
          refine lnil ?_
          refine thn_n ?_
          refine c_false (by kernel_rfl) ?_
          refine c_seq ?_
          refine c_reg ?_
          refine sq_p (.nilIface) rfl (fun _ => by kernel_rfl) ?_
          refine sq_p (.bool false) rfl (fun _ => by kernel_rfl) ?_
          refine sq_p (.bool false) rfl (fun _ => by kernel_rfl) ?_
          refine sq_p (.pointer (some ⟨p6, 0, none⟩)) (by kernel_rfl) (fun _ => by kernel_rfl) ?_
          refine sq_p (.bool false) (by kernel_rfl) (fun _ => by kernel_rfl) ?_
          refine sq_p (.bool false) rfl (fun _ => by kernel_rfl) ?_
          refine lnil ?_
          refine thn_n ?_
          refine c_false (by kernel_rfl) ?_
          refine c_skip ?_
          refine thn_n ?_
          refine c_seq ?_
          refine c_reg ?_
          refine sq_call #[.int .i64 3] [2] rfl (serveNew_spec ad) (fun _ => by kernel_rfl) h ?_; rintro v_ L_ w ⟨p10, rfl, rfl⟩ h
          refine sq_p (.tuple #[.pointer (some ⟨p10, 0, none⟩), .nilIface]) rfl (fun _ => by kernel_rfl) ?_
          refine sq_p (.pointer (some ⟨p10, 0, none⟩)) rfl (fun _ => by kernel_rfl) ?_
          refine sq_p (.nilIface) rfl (fun _ => by kernel_rfl) ?_
          refine sq_p (.pointer (some ⟨p10, 0, none⟩)) rfl (fun _ => by kernel_rfl) ?_
          refine sq_p (.nilIface) rfl (fun _ => by kernel_rfl) ?_
          refine lnil ?_
          refine thn_n ?_
          refine c_seq ?_
          refine c_seq ?_
          refine c_reg ?_
          refine sq_p (.nilIface) rfl (fun _ => by kernel_rfl) ?_
          refine sq_p (.bool false) rfl (fun _ => by kernel_rfl) ?_
          refine sq_p (.bool false) rfl (fun _ => by kernel_rfl) ?_
          refine sq_p (.pointer (some ⟨p10, 0, none⟩)) (by kernel_rfl) (fun _ => by kernel_rfl) ?_
          refine sq_p (.bool false) (by kernel_rfl) (fun _ => by kernel_rfl) ?_
          refine sq_p (.bool false) rfl (fun _ => by kernel_rfl) ?_
          refine lnil ?_
          refine thn_n ?_
          refine c_false (by kernel_rfl) ?_
          refine c_skip ?_
          refine thn_n ?_
          refine c_seq ?_
          refine c_seq ?_
          refine c_reg ?_
          refine sq_p (.bool true) rfl (fun _ => by kernel_rfl) ?_
          refine lnil ?_
          refine thn_n ?_
          refine c_true (by kernel_rfl) ?_
          refine c_reg ?_
          refine sq_p (.pointer none) rfl (fun _ => by kernel_rfl) ?_
          refine lnil ?_
          refine thn_n ?_
          refine c_seq ?_
          refine c_reg ?_
          refine sq_p (.string a) rfl (fun _ => by kernel_rfl) ?_
          refine sq_p (.pointer none) rfl (fun _ => by kernel_rfl) ?_
          refine sq_p (.int .i64 m) rfl (fun _ => by kernel_rfl) ?_
          refine sq_call #[.string a, .pointer none, .int .i64 m] [0, 2, 1] rfl (newListener0_spec ad a m (by omega)) (fun _ => by kernel_rfl) h ?_; rintro v_ L_ w (⟨hq13, rfl, rfl⟩ | ⟨hq14, rfl, rfl⟩) h
          · skip
            exact absurd hq5.1 hq13
          · skip
            refine sq_p (.tuple #[.pointer none, errV ad 3]) rfl (fun _ => by kernel_rfl) ?_
            refine sq_p (.pointer none) rfl (fun _ => by kernel_rfl) ?_
            refine sq_p (errV ad 3) rfl (fun _ => by kernel_rfl) ?_
            refine sq_p (.pointer none) rfl (fun _ => by kernel_rfl) ?_
            refine sq_p (errV ad 3) rfl (fun _ => by kernel_rfl) ?_
            refine lnil ?_
            refine thn_n ?_
            refine c_seq ?_
            refine c_reg ?_
            refine sq_p (.string a) rfl (fun _ => by kernel_rfl) ?_
            refine sq_call #[.string a] [] rfl (nameError_two a (by omega)) (fun _ => by kernel_rfl) h ?_; rintro v_ L_ w (⟨hq15, rfl, rfl⟩ | ⟨hq15, rfl, rfl⟩) h
            · skip
              refine sq_p (.int .i64 0) rfl (fun _ => by kernel_rfl) ?_
              refine lnil ?_
              refine thn_n ?_
              refine c_seq ?_
              refine c_seq ?_
              refine c_reg ?_
              refine sq_p (.int .i64 0) rfl (fun _ => by kernel_rfl) ?_
              refine sq_p (.bool true) rfl (fun _ => by kernel_rfl) ?_
              refine sq_p (.bool true) rfl (fun _ => by kernel_rfl) ?_
              refine sq_p (.bool true) (by kernel_rfl) (fun _ => by kernel_rfl) ?_
              refine sq_p (.bool true) rfl (fun _ => by kernel_rfl) ?_
              refine lnil ?_
              refine thn_n ?_
              refine c_true (by kernel_rfl) ?_
              refine c_reg ?_
              refine sq_p (.int .i64 3) rfl (fun _ => by kernel_rfl) ?_
              refine lnil ?_
              refine thn_n ?_
              refine c_seq ?_
              refine c_seq ?_
              refine c_reg ?_
              refine sq_p (.int .i64 3) rfl (fun _ => by kernel_rfl) ?_
              refine sq_p (.bool false) rfl (fun _ => by kernel_rfl) ?_
              refine sq_p (.bool false) rfl (fun _ => by kernel_rfl) ?_
              refine sn (by kernel_rfl) ?_
              refine sn (by kernel_rfl) ?_
              refine sn (by kernel_rfl) ?_
              refine sn (by kernel_rfl) ?_
              refine sn (by kernel_rfl) ?_
              refine sn (by kernel_rfl) ?_
              refine sq_p (.bool false) rfl (fun _ => by kernel_rfl) ?_
              refine lnil ?_
              refine thn_n ?_
              refine c_false (by kernel_rfl) ?_
              refine c_skip ?_
              refine thn_n ?_
              refine c_seq ?_
              refine c_reg ?_
              refine sq_p (errV ad 3) rfl (fun _ => by kernel_rfl) ?_
              refine sq_p (.int .i64 3) rfl (fun _ => by kernel_rfl) ?_
              refine sq_call #[errV ad 3, .int .i64 3] [3] rfl (coded3_spec ad 3 3 (by decide) rfl) (fun _ => by kernel_rfl) h ?_; rintro v_ L_ w ⟨rfl, rfl⟩ h
              refine sq_p (.bool true) rfl (fun _ => by kernel_rfl) ?_
              refine sq_p (.pointer none) (by kernel_rfl) (fun _ => by kernel_rfl) ?_
              refine sq_p (.bool false) (by kernel_rfl) (fun _ => by kernel_rfl) ?_
              refine sq_p (.int .i64 3) (by kernel_rfl) (fun _ => by kernel_rfl) ?_
              refine sq_p (.bool false) (by kernel_rfl) (fun _ => by kernel_rfl) ?_
              refine sq_p (.bool true) (by kernel_rfl) (fun _ => by kernel_rfl) ?_
              refine sq_p (.bool true) rfl (fun _ => by kernel_rfl) ?_
              refine sq_p (.bool true) rfl (fun _ => by kernel_rfl) ?_
              refine lnil ?_
              refine thn_n ?_
              refine c_ret ?_
              refine ret_end [.bool true] [0] h (by kernel_rfl) (res_t (by kernel_rfl) res_n) ?_
              exact ⟨rfl, rfl⟩
            · skip
              exact absurd hq5.1 hq15
        · skip
          exact absurd hq5.2 hq9
      · skip
        exact absurd hq5.1 hq8
    · skip
      refine sq_p (.tuple #[.pointer none, errV ad 4]) rfl (fun _ => by kernel_rfl) ?_
      refine sq_p (.pointer none) rfl (fun _ => by kernel_rfl) ?_
      refine sq_p (errV ad 4) rfl (fun _ => by kernel_rfl) ?_
      refine sq_p (.pointer none) rfl (fun _ => by kernel_rfl) ?_
      refine sq_p (errV ad 4) rfl (fun _ => by kernel_rfl) ?_
      refine lnil ?_
      refine thn_n ?_
      refine c_seq ?_
      refine c_seq ?_
      refine c_reg ?_
      refine sq_p (.string a) rfl (fun _ => by kernel_rfl) ?_
      refine sq_call #[.string a] [] rfl (nameError_two a (by omega)) (fun _ => by kernel_rfl) h ?_; rintro v_ L_ w (⟨hq16, rfl, rfl⟩ | ⟨hq16, rfl, rfl⟩) h
      · skip
        refine sq_p (.bool false) rfl (fun _ => by kernel_rfl) ?_
        refine sq_p (.bool false) rfl (fun _ => by kernel_rfl) ?_
        refine sq_p (.string b) (by kernel_rfl) (fun _ => by kernel_rfl) ?_
        refine sq_call #[.string b] [] (by kernel_rfl) (nameError_two b (by omega)) (fun _ => by kernel_rfl) h ?_; rintro v_ L_ w (⟨hq17, rfl, rfl⟩ | ⟨hq17, rfl, rfl⟩) h
        · skip
          exact absurd ⟨hq16, hq17⟩ hq7
        · skip
          refine sq_p (.bool true) (by kernel_rfl) (fun _ => by kernel_rfl) ?_
          refine sq_p (.bool true) rfl (fun _ => by kernel_rfl) ?_
          refine lnil ?_
          refine thn_n ?_
          refine c_true (by kernel_rfl) ?_
          refine c_seq ?_
          refine c_reg ?_
          refine sq_p (errV ad 4) rfl (fun _ => by kernel_rfl) ?_
          refine sq_call #[errV ad 4, .int .i64 4] [1] rfl (coded3_spec ad 4 4 (by decide) rfl) (fun _ => by kernel_rfl) h ?_; rintro v_ L_ w ⟨rfl, rfl⟩ h
          refine sq_p (.bool false) rfl (fun _ => by kernel_rfl) ?_
          refine sq_p (.bool false) rfl (fun _ => by kernel_rfl) ?_
          refine sq_p (.pointer none) (by kernel_rfl) (fun _ => by kernel_rfl) ?_
          refine sq_p (.bool false) (by kernel_rfl) (fun _ => by kernel_rfl) ?_
          refine sq_p (.bool false) rfl (fun _ => by kernel_rfl) ?_
          refine lnil ?_
          refine thn_n ?_
          refine c_false (by kernel_rfl) ?_
          refine c_skip ?_
          refine thn_n ?_
          refine c_seq ?_
          refine c_reg ?_
          refine sq_call #[.int .i64 3] [2] rfl (serveNew_spec ad) (fun _ => by kernel_rfl) h ?_; rintro v_ L_ w ⟨p18, rfl, rfl⟩ h
          refine sq_p (.tuple #[.pointer (some ⟨p18, 0, none⟩), .nilIface]) rfl (fun _ => by kernel_rfl) ?_
          refine sq_p (.pointer (some ⟨p18, 0, none⟩)) rfl (fun _ => by kernel_rfl) ?_
          refine sq_p (.nilIface) rfl (fun _ => by kernel_rfl) ?_
          refine sq_p (.pointer (some ⟨p18, 0, none⟩)) rfl (fun _ => by kernel_rfl) ?_
          refine sq_p (.nilIface) rfl (fun _ => by kernel_rfl) ?_
          refine lnil ?_
          refine thn_n ?_
          refine c_seq ?_
          refine c_seq ?_
          refine c_reg ?_
          refine sq_p (.nilIface) rfl (fun _ => by kernel_rfl) ?_
          refine sq_p (.bool false) rfl (fun _ => by kernel_rfl) ?_
          refine sq_p (.bool false) rfl (fun _ => by kernel_rfl) ?_
          refine sq_p (.pointer (some ⟨p18, 0, none⟩)) (by kernel_rfl) (fun _ => by kernel_rfl) ?_
          refine sq_p (.bool false) (by kernel_rfl) (fun _ => by kernel_rfl) ?_
          refine sq_p (.bool false) rfl (fun _ => by kernel_rfl) ?_
          refine lnil ?_
          refine thn_n ?_
          refine c_false (by kernel_rfl) ?_
          refine c_skip ?_
          refine thn_n ?_
          refine c_seq ?_
          refine c_seq ?_
          refine c_reg ?_
          refine sq_p (.bool true) rfl (fun _ => by kernel_rfl) ?_
          refine lnil ?_
          refine thn_n ?_
          refine c_true (by kernel_rfl) ?_
          refine c_reg ?_
          refine sq_p (.pointer none) rfl (fun _ => by kernel_rfl) ?_
          refine lnil ?_
          refine thn_n ?_
          refine c_seq ?_
          refine c_reg ?_
          refine sq_p (.string a) rfl (fun _ => by kernel_rfl) ?_
          refine sq_p (.pointer none) rfl (fun _ => by kernel_rfl) ?_
          refine sq_p (.int .i64 m) rfl (fun _ => by kernel_rfl) ?_
          refine sq_call #[.string a, .pointer none, .int .i64 m] [1, 2, 1] rfl (newListener0_spec ad a m (by omega)) (fun _ => by kernel_rfl) h ?_; rintro v_ L_ w (⟨hq21, rfl, rfl⟩ | ⟨hq22, rfl, rfl⟩) h
          · skip
            exact absurd hq16 hq21
          · skip
            refine sq_p (.tuple #[.pointer none, errV ad 3]) rfl (fun _ => by kernel_rfl) ?_
            refine sq_p (.pointer none) rfl (fun _ => by kernel_rfl) ?_
            refine sq_p (errV ad 3) rfl (fun _ => by kernel_rfl) ?_
            refine sq_p (.pointer none) rfl (fun _ => by kernel_rfl) ?_
            refine sq_p (errV ad 3) rfl (fun _ => by kernel_rfl) ?_
            refine lnil ?_
            refine thn_n ?_
            refine c_seq ?_
            refine c_reg ?_
            refine sq_p (.string a) rfl (fun _ => by kernel_rfl) ?_
            refine sq_call #[.string a] [] rfl (nameError_two a (by omega)) (fun _ => by kernel_rfl) h ?_; rintro v_ L_ w (⟨hq23, rfl, rfl⟩ | ⟨hq23, rfl, rfl⟩) h
            · skip
              refine sq_p (.int .i64 0) rfl (fun _ => by kernel_rfl) ?_
              refine lnil ?_
              refine thn_n ?_
              refine c_seq ?_
              refine c_seq ?_
              refine c_reg ?_
              refine sq_p (.int .i64 0) rfl (fun _ => by kernel_rfl) ?_
              refine sq_p (.bool true) rfl (fun _ => by kernel_rfl) ?_
              refine sq_p (.bool true) rfl (fun _ => by kernel_rfl) ?_
              refine sq_p (.bool true) (by kernel_rfl) (fun _ => by kernel_rfl) ?_
              refine sq_p (.bool true) rfl (fun _ => by kernel_rfl) ?_
              refine lnil ?_
              refine thn_n ?_
              refine c_true (by kernel_rfl) ?_
              refine c_reg ?_
              refine sq_p (.int .i64 3) rfl (fun _ => by kernel_rfl) ?_
              refine lnil ?_
              refine thn_n ?_
              refine c_seq ?_
              refine c_seq ?_
              refine c_reg ?_
              refine sq_p (.int .i64 3) rfl (fun _ => by kernel_rfl) ?_
              refine sq_p (.bool false) rfl (fun _ => by kernel_rfl) ?_
              refine sq_p (.bool false) rfl (fun _ => by kernel_rfl) ?_
              refine sn (by kernel_rfl) ?_
              refine sn (by kernel_rfl) ?_
              refine sn (by kernel_rfl) ?_
              refine sn (by kernel_rfl) ?_
              refine sn (by kernel_rfl) ?_
              refine sn (by kernel_rfl) ?_
              refine sq_p (.bool false) rfl (fun _ => by kernel_rfl) ?_
              refine lnil ?_
              refine thn_n ?_
              refine c_false (by kernel_rfl) ?_
              refine c_skip ?_
              refine thn_n ?_
              refine c_seq ?_
              refine c_reg ?_
              refine sq_p (errV ad 3) rfl (fun _ => by kernel_rfl) ?_
              refine sq_p (.int .i64 3) rfl (fun _ => by kernel_rfl) ?_
              refine sq_call #[errV ad 3, .int .i64 3] [3] rfl (coded3_spec ad 3 3 (by decide) rfl) (fun _ => by kernel_rfl) h ?_; rintro v_ L_ w ⟨rfl, rfl⟩ h
              refine sq_p (.bool true) rfl (fun _ => by kernel_rfl) ?_
              refine sq_p (.pointer none) (by kernel_rfl) (fun _ => by kernel_rfl) ?_
              refine sq_p (.bool false) (by kernel_rfl) (fun _ => by kernel_rfl) ?_
              refine sq_p (.int .i64 3) (by kernel_rfl) (fun _ => by kernel_rfl) ?_
              refine sq_p (.bool false) (by kernel_rfl) (fun _ => by kernel_rfl) ?_
              refine sq_p (.bool true) (by kernel_rfl) (fun _ => by kernel_rfl) ?_
              refine sq_p (.bool true) rfl (fun _ => by kernel_rfl) ?_
              refine sq_p (.bool true) rfl (fun _ => by kernel_rfl) ?_
              refine lnil ?_
              refine thn_n ?_
              refine c_ret ?_
              refine ret_end [.bool true] [0] h (by kernel_rfl) (res_t (by kernel_rfl) res_n) ?_
              exact ⟨rfl, rfl⟩
            · skip
              exact absurd hq16 hq23
      · skip
        refine sq_p (.bool true) rfl (fun _ => by kernel_rfl) ?_
        refine sq_p (.bool true) rfl (fun _ => by kernel_rfl) ?_
        refine sn (by kernel_rfl) ?_
        refine sn (by kernel_rfl) ?_
        refine sn (by kernel_rfl) ?_
        refine sq_p (.bool true) rfl (fun _ => by kernel_rfl) ?_
        refine lnil ?_
        refine thn_n ?_
        refine c_true (by kernel_rfl) ?_
        refine c_seq ?_
        refine c_reg ?_
        refine sq_p (errV ad 4) rfl (fun _ => by kernel_rfl) ?_
        refine sq_call #[errV ad 4, .int .i64 4] [1] rfl (coded3_spec ad 4 4 (by decide) rfl) (fun _ => by kernel_rfl) h ?_; rintro v_ L_ w ⟨rfl, rfl⟩ h
        refine sq_p (.bool false) rfl (fun _ => by kernel_rfl) ?_
        refine sq_p (.bool false) rfl (fun _ => by kernel_rfl) ?_
        refine sq_p (.pointer none) (by kernel_rfl) (fun _ => by kernel_rfl) ?_
        refine sq_p (.bool false) (by kernel_rfl) (fun _ => by kernel_rfl) ?_
        refine sq_p (.bool false) rfl (fun _ => by kernel_rfl) ?_
        refine lnil ?_
        refine thn_n ?_
        refine c_false (by kernel_rfl) ?_
        refine c_skip ?_
        refine thn_n ?_
        refine c_seq ?_
        refine c_reg ?_
        refine sq_call #[.int .i64 3] [2] rfl (serveNew_spec ad) (fun _ => by kernel_rfl) h ?_; rintro v_ L_ w ⟨p24, rfl, rfl⟩ h
        refine sq_p (.tuple #[.pointer (some ⟨p24, 0, none⟩), .nilIface]) rfl (fun _ => by kernel_rfl) ?_
        refine sq_p (.pointer (some ⟨p24, 0, none⟩)) rfl (fun _ => by kernel_rfl) ?_
        refine sq_p (.nilIface) rfl (fun _ => by kernel_rfl) ?_
        refine sq_p (.pointer (some ⟨p24, 0, none⟩)) rfl (fun _ => by kernel_rfl) ?_
        refine sq_p (.nilIface) rfl (fun _ => by kernel_rfl) ?_
        refine lnil ?_
        refine thn_n ?_
        refine c_seq ?_
        refine c_seq ?_
        refine c_reg ?_
        refine sq_p (.nilIface) rfl (fun _ => by kernel_rfl) ?_
        refine sq_p (.bool false) rfl (fun _ => by kernel_rfl) ?_
        refine sq_p (.bool false) rfl (fun _ => by kernel_rfl) ?_
        refine sq_p (.pointer (some ⟨p24, 0, none⟩)) (by kernel_rfl) (fun _ => by kernel_rfl) ?_
        refine sq_p (.bool false) (by kernel_rfl) (fun _ => by kernel_rfl) ?_
        refine sq_p (.bool false) rfl (fun _ => by kernel_rfl) ?_
        refine lnil ?_
        refine thn_n ?_
        refine c_false (by kernel_rfl) ?_
        refine c_skip ?_
        refine thn_n ?_
        refine c_seq ?_
        refine c_seq ?_
        refine c_reg ?_
        refine sq_p (.bool true) rfl (fun _ => by kernel_rfl) ?_
        refine lnil ?_
        refine thn_n ?_
        refine c_true (by kernel_rfl) ?_
        refine c_reg ?_
        refine sq_p (.pointer none) rfl (fun _ => by kernel_rfl) ?_
        refine lnil ?_
        refine thn_n ?_
        refine c_seq ?_
        refine c_reg ?_
        refine sq_p (.string a) rfl (fun _ => by kernel_rfl) ?_
        refine sq_p (.pointer none) rfl (fun _ => by kernel_rfl) ?_
        refine sq_p (.int .i64 m) rfl (fun _ => by kernel_rfl) ?_
        refine sq_call #[.string a, .pointer none, .int .i64 m] [1, 2, 1] rfl (newListener0_spec ad a m (by omega)) (fun _ => by kernel_rfl) h ?_; rintro v_ L_ w (⟨hq27, rfl, rfl⟩ | ⟨hq28, rfl, rfl⟩) h
        · skip
          refine sq_p (.tuple #[.pointer none, errV ad 4]) rfl (fun _ => by kernel_rfl) ?_
          refine sq_p (.pointer none) rfl (fun _ => by kernel_rfl) ?_
          refine sq_p (errV ad 4) rfl (fun _ => by kernel_rfl) ?_
          refine sq_p (.pointer none) rfl (fun _ => by kernel_rfl) ?_
          refine sq_p (errV ad 4) rfl (fun _ => by kernel_rfl) ?_
          refine lnil ?_
          refine thn_n ?_
          refine c_seq ?_
          refine c_reg ?_
          refine sq_p (.string a) rfl (fun _ => by kernel_rfl) ?_
          refine sq_call #[.string a] [] rfl (nameError_two a (by omega)) (fun _ => by kernel_rfl) h ?_; rintro v_ L_ w (⟨hq29, rfl, rfl⟩ | ⟨hq29, rfl, rfl⟩) h
          · skip
            exact absurd hq29 hq16
          · skip
            refine sq_p (.int .i64 4) rfl (fun _ => by kernel_rfl) ?_
            refine lnil ?_
            refine thn_n ?_
            refine c_seq ?_
            refine c_seq ?_
            refine c_reg ?_
            refine sq_p (.int .i64 4) rfl (fun _ => by kernel_rfl) ?_
            refine sq_p (.bool false) rfl (fun _ => by kernel_rfl) ?_
            refine sq_p (.bool false) rfl (fun _ => by kernel_rfl) ?_
            refine sn (by kernel_rfl) ?_
            refine sq_p (.bool false) rfl (fun _ => by kernel_rfl) ?_
            refine lnil ?_
            refine thn_n ?_
            refine c_false (by kernel_rfl) ?_
            refine c_skip ?_
            refine thn_n ?_
            refine c_seq ?_
            refine c_seq ?_
            refine c_reg ?_
            refine sq_p (.int .i64 4) rfl (fun _ => by kernel_rfl) ?_
            refine sq_p (.bool false) rfl (fun _ => by kernel_rfl) ?_
            refine sq_p (.bool false) rfl (fun _ => by kernel_rfl) ?_
            refine sn (by kernel_rfl) ?_
            refine sn (by kernel_rfl) ?_
            refine sn (by kernel_rfl) ?_
            refine sn (by kernel_rfl) ?_
            refine sn (by kernel_rfl) ?_
            refine sn (by kernel_rfl) ?_
            refine sq_p (.bool false) rfl (fun _ => by kernel_rfl) ?_
            refine lnil ?_
            refine thn_n ?_
            refine c_false (by kernel_rfl) ?_
            refine c_skip ?_
            refine thn_n ?_
            refine c_seq ?_
            refine c_reg ?_
            refine sq_p (errV ad 4) rfl (fun _ => by kernel_rfl) ?_
            refine sq_p (.int .i64 4) rfl (fun _ => by kernel_rfl) ?_
            refine sq_call #[errV ad 4, .int .i64 4] [3] rfl (coded3_spec ad 4 4 (by decide) rfl) (fun _ => by kernel_rfl) h ?_; rintro v_ L_ w ⟨rfl, rfl⟩ h
            refine sq_p (.bool true) rfl (fun _ => by kernel_rfl) ?_
            refine sq_p (.pointer none) (by kernel_rfl) (fun _ => by kernel_rfl) ?_
            refine sq_p (.bool false) (by kernel_rfl) (fun _ => by kernel_rfl) ?_
            refine sq_p (.int .i64 4) (by kernel_rfl) (fun _ => by kernel_rfl) ?_
            refine sq_p (.bool false) (by kernel_rfl) (fun _ => by kernel_rfl) ?_
            refine sq_p (.bool true) (by kernel_rfl) (fun _ => by kernel_rfl) ?_
            refine sq_p (.bool true) rfl (fun _ => by kernel_rfl) ?_
            refine sq_p (.bool true) rfl (fun _ => by kernel_rfl) ?_
            refine lnil ?_
            refine thn_n ?_
            refine c_ret ?_
            refine ret_end [.bool true] [0] h (by kernel_rfl) (res_t (by kernel_rfl) res_n) ?_
            exact ⟨rfl, rfl⟩
        · skip
          exact absurd hq28 hq16
set_option maxHeartbeats 1000000 in
theorem callNewF_spec {B : Nat} (ad : Nat → Addr) (a b : ByteArray) (m : Int) (ha : a.size ≤ 140737488355327) (hb : b.size ≤ 140737488355327) : Spec Tryd.prog 6 #[.string a, .string b, .int .i64 m, .bool false] [rEnvA B ad] (fun u L => u = .bool true ∧ L = [rEnvA B ad]) := by
  refine spec_of (#[.string a, .string b, .int .i64 m, .bool false, undef, undef, undef, undef, undef, undef, undef, undef, undef, undef, undef, undef, undef, undef, undef, undef, undef, undef, undef, undef, undef, undef, undef, undef, undef, undef, undef, undef, undef, undef, undef, undef, undef, undef, undef, undef, undef, undef, undef, undef, undef, undef, undef, undef, undef, undef, undef, undef, undef, undef, undef, undef, undef, undef, undef, undef, undef, undef, undef, undef, undef, undef, undef, undef, undef, undef, undef, undef, undef, undef, undef, undef, undef, undef, undef, undef, undef, undef, undef, undef, undef, undef, undef, undef, undef, undef, undef, undef, undef, undef, undef, undef, undef, undef, undef]) Tryd.func6 rfl (by kernel_rfl) fun E w0 w h => ?_
  have h := h.envSub [4] 0 rfl (by decide)
  have h := h.envSub [3] 1 rfl (by decide)
  have h := h.envSub [2] 2 rfl (by decide)
  have h := h.envSub [10] 3 rfl (by decide)
  refine c_seq ?_
  refine c_reg ?_
  refine sq_p (.bool false) rfl (fun _ => by kernel_rfl) ?_
  refine lnil ?_
  refine thn_n ?_
  refine c_seq ?_
  refine c_reg ?_
  refine sq_call #[] [4] rfl (asks_spec ad) (fun _ => by kernel_rfl) h ?_; rintro v_ L_ w ⟨rfl, rfl⟩ h
  refine sq_p (.bool true) rfl (fun _ => by kernel_rfl) ?_
  refine lnil ?_
  refine thn_n ?_
  refine c_seq ?_
  refine c_seq ?_
  refine c_reg ?_
  refine sq_p (.bool true) rfl (fun _ => by kernel_rfl) ?_
  refine sq_p (.bool false) rfl (fun _ => by kernel_rfl) ?_
  refine sq_p (.bool false) rfl (fun _ => by kernel_rfl) ?_
  refine sq_p (.string a) (by kernel_rfl) (fun _ => by kernel_rfl) ?_
  refine sq_p (.int .i64 (a.size : Int)) (by kernel_rfl) (fun _ => by kernel_rfl) ?_
  refine sq_p (.string b) (by kernel_rfl) (fun _ => by kernel_rfl) ?_
  refine sq_p (.int .i64 (b.size : Int)) (by kernel_rfl) (fun _ => by kernel_rfl) ?_
  refine sq_q (by kernel_rfl) h (g_eq (v := .int .i64 (IntKind.i64.wrap ((a.size : Int) + (b.size : Int)))) (v' := .int .i64 ((a.size + b.size : Nat) : Int)) (g_pure fun _ => by kernel_rfl) (wr (by omega))) ?_
  obtain ⟨b1, hb1⟩ : ∃ b_ : Bool, b_ = (decide (((a.size + b.size : Nat) : Int) > 200)) := ⟨_, rfl⟩
  refine sq_q (v := .bool b1) (by kernel_rfl) h (by subst hb1; exact g_pure (v := .bool (decide (((a.size + b.size : Nat) : Int) > 200))) fun _ => by kernel_rfl) ?_
  refine sq_p (.bool b1) rfl (fun _ => by kernel_rfl) ?_
  refine lnil ?_
  refine thn_n ?_
  refine c_cond (b1) (by kernel_rfl) (fun hc2 => ?_) (fun hc2 => ?_)
  · skip
    have q3 : (decide (((a.size + b.size : Nat) : Int) > 200)) = true := by rw [← hb1]; exact hc2
    have q3 := of_decide_eq_true q3
    refine c_seq ?_
    refine c_reg ?_
    refine sq_p (.bool true) rfl (fun _ => by kernel_rfl) ?_
    refine sq_p (.bool true) rfl (fun _ => by kernel_rfl) ?_
    refine lnil ?_
    refine thn_n ?_
    refine c_ret ?_
    refine thn_r ?_
    refine ret_end [.bool true] [0] h (by kernel_rfl) (res_t (by kernel_rfl) res_n) ?_
    exact ⟨rfl, rfl⟩
  · skip
    have q4 : (decide (((a.size + b.size : Nat) : Int) > 200)) = false := by rw [← hb1]; exact hc2
    have q4 := of_decide_eq_false q4
    refine c_skip ?_
    refine thn_n ?_
    refine c_seq ?_
    refine c_reg ?_
    refine sq_p (.string a) rfl (fun _ => by kernel_rfl) ?_
    refine sq_p (.string b) rfl (fun _ => by kernel_rfl) ?_
    refine sq_call #[.string a, .string b] [4] rfl (newCaller_spec ad a b (by omega) (by omega)) (fun _ => by kernel_rfl) h ?_; rintro v_ L_ w (⟨hq5, p6, rfl, rfl⟩ | ⟨hq7, rfl, rfl⟩) h
    · skip
      refine sq_p (.tuple #[.pointer (some ⟨p6, 0, none⟩), .nilIface]) rfl (fun _ => by kernel_rfl) ?_
      refine sq_p (.pointer (some ⟨p6, 0, none⟩)) rfl (fun _ => by kernel_rfl) ?_
      refine sq_p (.nilIface) rfl (fun _ => by kernel_rfl) ?_
      refine sq_p (.pointer (some ⟨p6, 0, none⟩)) rfl (fun _ => by kernel_rfl) ?_
      refine sq_p (.nilIface) rfl (fun _ => by kernel_rfl) ?_
      refine lnil ?_
      refine thn_n ?_
      refine c_seq ?_
      refine c_seq ?_
      refine c_reg ?_
      refine sq_p (.string a) rfl (fun _ => by kernel_rfl) ?_
      refine sq_call #[.string a] [] rfl (nameError_two a (by omega)) (fun _ => by kernel_rfl) h ?_; rintro v_ L_ w (⟨hq8, rfl, rfl⟩ | ⟨hq8, rfl, rfl⟩) h
      · skip
        refine sq_p (.bool false) rfl (fun _ => by kernel_rfl) ?_
        refine sq_p (.bool false) rfl (fun _ => by kernel_rfl) ?_
        refine sq_p (.string b) (by kernel_rfl) (fun _ => by kernel_rfl) ?_
        refine sq_call #[.string b] [] (by kernel_rfl) (nameError_two b (by omega)) (fun _ => by kernel_rfl) h ?_; rintro v_ L_ w (⟨hq9, rfl, rfl⟩ | ⟨hq9, rfl, rfl⟩) h
        · skip
          refine sq_p (.bool false) (by kernel_rfl) (fun _ => by kernel_rfl) ?_
          refine sq_p (.bool false) rfl (fun _ => by kernel_rfl) ?_
          refine lnil ?_
          refine thn_n ?_
          refine c_false (by kernel_rfl) ?_
          refine c_seq ?_
          refine c_reg ?_
          refine sq_p (.nilIface) rfl (fun _ => by kernel_rfl) ?_
          refine sq_p (.bool false) rfl (fun _ => by kernel_rfl) ?_
          refine sq_p (.bool false) rfl (fun _ => by kernel_rfl) ?_
          refine sq_p (.pointer (some ⟨p6, 0, none⟩)) (by kernel_rfl) (fun _ => by kernel_rfl) ?_
          refine sq_p (.bool false) (by kernel_rfl) (fun _ => by kernel_rfl) ?_
          refine sq_p (.bool false) rfl (fun _ => by kernel_rfl) ?_
          refine lnil ?_
          refine thn_n ?_
          refine c_false (by kernel_rfl) ?_
          refine c_skip ?_
          refine thn_n ?_
          refine c_seq ?_
          refine c_reg ?_
          refine sq_call #[.int .i64 3] [2] rfl (serveNew_spec ad) (fun _ => by kernel_rfl) h ?_; rintro v_ L_ w ⟨p10, rfl, rfl⟩ h
          refine sq_p (.tuple #[.pointer (some ⟨p10, 0, none⟩), .nilIface]) rfl (fun _ => by kernel_rfl) ?_
          refine sq_p (.pointer (some ⟨p10, 0, none⟩)) rfl (fun _ => by kernel_rfl) ?_
          refine sq_p (.nilIface) rfl (fun _ => by kernel_rfl) ?_
          refine sq_p (.pointer (some ⟨p10, 0, none⟩)) rfl (fun _ => by kernel_rfl) ?_
          refine sq_p (.nilIface) rfl (fun _ => by kernel_rfl) ?_
          refine lnil ?_
          refine thn_n ?_
          refine c_seq ?_
          refine c_seq ?_
          refine c_reg ?_
          refine sq_p (.nilIface) rfl (fun _ => by kernel_rfl) ?_
          refine sq_p (.bool false) rfl (fun _ => by kernel_rfl) ?_
          refine sq_p (.bool false) rfl (fun _ => by kernel_rfl) ?_
          refine sq_p (.pointer (some ⟨p10, 0, none⟩)) (by kernel_rfl) (fun _ => by kernel_rfl) ?_
          refine sq_p (.bool false) (by kernel_rfl) (fun _ => by kernel_rfl) ?_
          refine sq_p (.bool false) rfl (fun _ => by kernel_rfl) ?_
          refine lnil ?_
          refine thn_n ?_
          refine c_false (by kernel_rfl) ?_
          refine c_skip ?_
          refine thn_n ?_
          refine c_seq ?_
          refine c_seq ?_
          refine c_reg ?_
          refine sq_p (.bool false) rfl (fun _ => by kernel_rfl) ?_
          refine lnil ?_
          refine thn_n ?_
          refine c_false (by kernel_rfl) ?_
          refine c_skip ?_
          refine thn_n ?_
          refine c_seq ?_
          refine c_reg ?_
          refine sq_p (.string a) rfl (fun _ => by kernel_rfl) ?_
          refine sq_p (.pointer (some ⟨p10, 0, none⟩)) rfl (fun _ => by kernel_rfl) ?_
          refine sq_p (.int .i64 m) rfl (fun _ => by kernel_rfl) ?_
          refine sq_call #[.string a, .pointer (some ⟨p10, 0, none⟩), .int .i64 m] [0, 2, 1] rfl (newListener_spec ad a p10 m (by omega)) (fun _ => by kernel_rfl) h ?_; rintro v_ L_ w (⟨hq11, hq11b, p12, rfl, rfl⟩ | ⟨hq13, rfl, rfl⟩ | ⟨hq14, hq14b, rfl, rfl⟩) h
          · skip
            refine sq_p (.tuple #[.pointer (some ⟨p12, 0, none⟩), .nilIface]) rfl (fun _ => by kernel_rfl) ?_
            refine sq_p (.pointer (some ⟨p12, 0, none⟩)) rfl (fun _ => by kernel_rfl) ?_
            refine sq_p (.nilIface) rfl (fun _ => by kernel_rfl) ?_
            refine sq_p (.pointer (some ⟨p12, 0, none⟩)) rfl (fun _ => by kernel_rfl) ?_
            refine sq_p (.nilIface) rfl (fun _ => by kernel_rfl) ?_
            refine lnil ?_
            refine thn_n ?_
            refine c_seq ?_
            refine c_reg ?_
            refine sq_p (.string a) rfl (fun _ => by kernel_rfl) ?_
            refine sq_call #[.string a] [] rfl (nameError_two a (by omega)) (fun _ => by kernel_rfl) h ?_; rintro v_ L_ w (⟨hq15, rfl, rfl⟩ | ⟨hq15, rfl, rfl⟩) h
            · skip
              refine sq_p (.int .i64 0) rfl (fun _ => by kernel_rfl) ?_
              refine lnil ?_
              refine thn_n ?_
              refine c_seq ?_
              refine c_seq ?_
              refine c_reg ?_
              refine sq_p (.int .i64 0) rfl (fun _ => by kernel_rfl) ?_
              refine sq_p (.bool true) rfl (fun _ => by kernel_rfl) ?_
              refine sq_p (.bool true) rfl (fun _ => by kernel_rfl) ?_
              refine sq_p (.bool false) (by kernel_rfl) (fun _ => by kernel_rfl) ?_
              refine sq_p (.bool false) rfl (fun _ => by kernel_rfl) ?_
              refine lnil ?_
              refine thn_n ?_
              refine c_false (by kernel_rfl) ?_
              refine c_skip ?_
              refine thn_n ?_
              refine c_seq ?_
              refine c_seq ?_
              refine c_reg ?_
              refine sq_p (.int .i64 0) rfl (fun _ => by kernel_rfl) ?_
              refine sq_p (.bool true) rfl (fun _ => by kernel_rfl) ?_
              refine sq_p (.bool true) rfl (fun _ => by kernel_rfl) ?_
              refine sq_p (.int .i64 m) (by kernel_rfl) (fun _ => by kernel_rfl) ?_
              obtain ⟨b16, hb16⟩ : ∃ b_ : Bool, b_ = (decide (m < 1)) := ⟨_, rfl⟩
              refine sq_q (v := .bool b16) (by kernel_rfl) h (by subst hb16; exact g_pure (v := .bool (decide (m < 1))) fun _ => by kernel_rfl) ?_
              refine sq_p (.bool b16) (by kernel_rfl) (fun _ => by kernel_rfl) ?_
              refine sq_m0 (v := .int .i64 m) b16 (by cases b16 <;> kernel_rfl) h (fun hB => by subst hB; exact g_pure (v := .int .i64 m) fun _ => by kernel_rfl) ?_
              obtain ⟨b17, hb17⟩ : ∃ b_ : Bool, b_ = (decide (m > 20)) := ⟨_, rfl⟩
              refine sq_m0 (v := .bool b17) b16 (by cases b16 <;> kernel_rfl) h (fun hB => by subst hB; exact by subst hb17; exact g_pure (v := .bool (decide (m > 20))) fun _ => by kernel_rfl) ?_
              obtain ⟨b18, hb18⟩ : ∃ b_ : Bool, b_ = (b16 || b17) := ⟨_, rfl⟩
              refine sq_q (v := .bool b18) (by kernel_rfl) h (by subst hb18; exact g_pure (v := .bool (b16 || b17)) fun _ => by cases b16 <;> kernel_rfl) ?_
              refine sq_p (.bool b18) rfl (fun _ => by kernel_rfl) ?_
              refine lnil ?_
              refine thn_n ?_
              refine c_cond (b18) (by kernel_rfl) (fun hc19 => ?_) (fun hc19 => ?_)
              · skip
                have q20 : (b16 || b17) = true := by rw [← hb18]; exact hc19
                have q21 : ((m < 1) ∨ (m > 20)) := by subst hb17; subst hb16; revert q20; first | (simp; done) | (simp; omega)
                exfalso; omega
              · skip
                have q22 : (b16 || b17) = false := by rw [← hb18]; exact hc19
                have q23 : b16 = false := by revert q22; cases b16 <;> simp
                have q24 : b17 = false := by revert q22; cases b16 <;> cases b17 <;> simp
                have q25 : (decide (m < 1)) = false := by rw [← hb16]; exact q23
                have q25 := of_decide_eq_false q25
                have q26 : (decide (m > 20)) = false := by rw [← hb17]; exact q24
                have q26 := of_decide_eq_false q26
                refine c_skip ?_
                refine thn_n ?_
                refine c_seq ?_
                refine c_reg ?_
                refine sq_p (.nilIface) rfl (fun _ => by kernel_rfl) ?_
                refine sq_p (.int .i64 0) rfl (fun _ => by kernel_rfl) ?_
                refine sq_call #[.nilIface, .int .i64 0] [3] rfl (coded3_spec ad 0 0 (by decide) rfl) (fun _ => by kernel_rfl) h ?_; rintro v_ L_ w ⟨rfl, rfl⟩ h
                refine sq_p (.bool true) rfl (fun _ => by kernel_rfl) ?_
                refine sq_p (.pointer (some ⟨p12, 0, none⟩)) (by kernel_rfl) (fun _ => by kernel_rfl) ?_
                refine sq_p (.bool true) (by kernel_rfl) (fun _ => by kernel_rfl) ?_
                refine sq_p (.int .i64 0) (by kernel_rfl) (fun _ => by kernel_rfl) ?_
                refine sq_p (.bool true) (by kernel_rfl) (fun _ => by kernel_rfl) ?_
                refine sq_p (.bool true) (by kernel_rfl) (fun _ => by kernel_rfl) ?_
                refine sq_p (.bool true) rfl (fun _ => by kernel_rfl) ?_
                refine sq_p (.bool true) rfl (fun _ => by kernel_rfl) ?_
                refine lnil ?_
                refine thn_n ?_
                refine c_ret ?_
                refine ret_end [.bool true] [0] h (by kernel_rfl) (res_t (by kernel_rfl) res_n) ?_
                exact ⟨rfl, rfl⟩
            · skip
              exact absurd hq5.1 hq15
          · skip
            exact absurd hq5.1 hq13
          · skip
            refine sq_p (.tuple #[.pointer none, errV ad 2]) rfl (fun _ => by kernel_rfl) ?_
            refine sq_p (.pointer none) rfl (fun _ => by kernel_rfl) ?_
            refine sq_p (errV ad 2) rfl (fun _ => by kernel_rfl) ?_
            refine sq_p (.pointer none) rfl (fun _ => by kernel_rfl) ?_
            refine sq_p (errV ad 2) rfl (fun _ => by kernel_rfl) ?_
            refine lnil ?_
            refine thn_n ?_
            refine c_seq ?_
            refine c_reg ?_
            refine sq_p (.string a) rfl (fun _ => by kernel_rfl) ?_
            refine sq_call #[.string a] [] rfl (nameError_two a (by omega)) (fun _ => by kernel_rfl) h ?_; rintro v_ L_ w (⟨hq27, rfl, rfl⟩ | ⟨hq27, rfl, rfl⟩) h
            · skip
              refine sq_p (.int .i64 0) rfl (fun _ => by kernel_rfl) ?_
              refine lnil ?_
              refine thn_n ?_
              refine c_seq ?_
              refine c_seq ?_
              refine c_reg ?_
              refine sq_p (.int .i64 0) rfl (fun _ => by kernel_rfl) ?_
              refine sq_p (.bool true) rfl (fun _ => by kernel_rfl) ?_
              refine sq_p (.bool true) rfl (fun _ => by kernel_rfl) ?_
              refine sq_p (.bool false) (by kernel_rfl) (fun _ => by kernel_rfl) ?_
              refine sq_p (.bool false) rfl (fun _ => by kernel_rfl) ?_
              refine lnil ?_
              refine thn_n ?_
              refine c_false (by kernel_rfl) ?_
              refine c_skip ?_
              refine thn_n ?_
              refine c_seq ?_
              refine c_seq ?_
              refine c_reg ?_
              refine sq_p (.int .i64 0) rfl (fun _ => by kernel_rfl) ?_
              refine sq_p (.bool true) rfl (fun _ => by kernel_rfl) ?_
              refine sq_p (.bool true) rfl (fun _ => by kernel_rfl) ?_
              refine sq_p (.int .i64 m) (by kernel_rfl) (fun _ => by kernel_rfl) ?_
              obtain ⟨b28, hb28⟩ : ∃ b_ : Bool, b_ = (decide (m < 1)) := ⟨_, rfl⟩
              refine sq_q (v := .bool b28) (by kernel_rfl) h (by subst hb28; exact g_pure (v := .bool (decide (m < 1))) fun _ => by kernel_rfl) ?_
              refine sq_p (.bool b28) (by kernel_rfl) (fun _ => by kernel_rfl) ?_
              refine sq_m0 (v := .int .i64 m) b28 (by cases b28 <;> kernel_rfl) h (fun hB => by subst hB; exact g_pure (v := .int .i64 m) fun _ => by kernel_rfl) ?_
              obtain ⟨b29, hb29⟩ : ∃ b_ : Bool, b_ = (decide (m > 20)) := ⟨_, rfl⟩
              refine sq_m0 (v := .bool b29) b28 (by cases b28 <;> kernel_rfl) h (fun hB => by subst hB; exact by subst hb29; exact g_pure (v := .bool (decide (m > 20))) fun _ => by kernel_rfl) ?_
              obtain ⟨b30, hb30⟩ : ∃ b_ : Bool, b_ = (b28 || b29) := ⟨_, rfl⟩
              refine sq_q (v := .bool b30) (by kernel_rfl) h (by subst hb30; exact g_pure (v := .bool (b28 || b29)) fun _ => by cases b28 <;> kernel_rfl) ?_
              refine sq_p (.bool b30) rfl (fun _ => by kernel_rfl) ?_
              refine lnil ?_
              refine thn_n ?_
              refine c_cond (b30) (by kernel_rfl) (fun hc31 => ?_) (fun hc31 => ?_)
              · skip
                have q32 : (b28 || b29) = true := by rw [← hb30]; exact hc31
                have q33 : ((m < 1) ∨ (m > 20)) := by subst hb29; subst hb28; revert q32; first | (simp; done) | (simp; omega)
                refine c_reg ?_
                refine sq_p (.int .i64 2) rfl (fun _ => by kernel_rfl) ?_
                refine lnil ?_
                refine thn_n ?_
                refine c_seq ?_
                refine c_reg ?_
                refine sq_p (errV ad 2) rfl (fun _ => by kernel_rfl) ?_
                refine sq_p (.int .i64 2) rfl (fun _ => by kernel_rfl) ?_
                refine sq_call #[errV ad 2, .int .i64 2] [3] rfl (coded3_spec ad 2 2 (by decide) rfl) (fun _ => by kernel_rfl) h ?_; rintro v_ L_ w ⟨rfl, rfl⟩ h
                refine sq_p (.bool true) rfl (fun _ => by kernel_rfl) ?_
                refine sq_p (.pointer none) (by kernel_rfl) (fun _ => by kernel_rfl) ?_
                refine sq_p (.bool false) (by kernel_rfl) (fun _ => by kernel_rfl) ?_
                refine sq_p (.int .i64 2) (by kernel_rfl) (fun _ => by kernel_rfl) ?_
                refine sq_p (.bool false) (by kernel_rfl) (fun _ => by kernel_rfl) ?_
                refine sq_p (.bool true) (by kernel_rfl) (fun _ => by kernel_rfl) ?_
                refine sq_p (.bool true) rfl (fun _ => by kernel_rfl) ?_
                refine sq_p (.bool true) rfl (fun _ => by kernel_rfl) ?_
                refine lnil ?_
                refine thn_n ?_
                refine c_ret ?_
                refine ret_end [.bool true] [0] h (by kernel_rfl) (res_t (by kernel_rfl) res_n) ?_
                exact ⟨rfl, rfl⟩
              · skip
                have q34 : (b28 || b29) = false := by rw [← hb30]; exact hc31
                have q35 : b28 = false := by revert q34; cases b28 <;> simp
                have q36 : b29 = false := by revert q34; cases b28 <;> cases b29 <;> simp
                have q37 : (decide (m < 1)) = false := by rw [← hb28]; exact q35
                have q37 := of_decide_eq_false q37
                have q38 : (decide (m > 20)) = false := by rw [← hb29]; exact q36
                have q38 := of_decide_eq_false q38
                exfalso; omega
            · skip
              exact absurd hq5.1 hq27
        · skip
          exact absurd hq5.2 hq9
      · skip
        exact absurd hq5.1 hq8
    · skip
      refine sq_p (.tuple #[.pointer none, errV ad 4]) rfl (fun _ => by kernel_rfl) ?_
      refine sq_p (.pointer none) rfl (fun _ => by kernel_rfl) ?_
      refine sq_p (errV ad 4) rfl (fun _ => by kernel_rfl) ?_
      refine sq_p (.pointer none) rfl (fun _ => by kernel_rfl) ?_
      refine sq_p (errV ad 4) rfl (fun _ => by kernel_rfl) ?_
      refine lnil ?_
      refine thn_n ?_
      refine c_seq ?_
      refine c_seq ?_
      refine c_reg ?_
      refine sq_p (.string a) rfl (fun _ => by kernel_rfl) ?_
      refine sq_call #[.string a] [] rfl (nameError_two a (by omega)) (fun _ => by kernel_rfl) h ?_; rintro v_ L_ w (⟨hq39, rfl, rfl⟩ | ⟨hq39, rfl, rfl⟩) h
      · skip
        refine sq_p (.bool false) rfl (fun _ => by kernel_rfl) ?_
        refine sq_p (.bool false) rfl (fun _ => by kernel_rfl) ?_
        refine sq_p (.string b) (by kernel_rfl) (fun _ => by kernel_rfl) ?_
        refine sq_call #[.string b] [] (by kernel_rfl) (nameError_two b (by omega)) (fun _ => by kernel_rfl) h ?_; rintro v_ L_ w (⟨hq40, rfl, rfl⟩ | ⟨hq40, rfl, rfl⟩) h
        · skip
          exact absurd ⟨hq39, hq40⟩ hq7
        · skip
          refine sq_p (.bool true) (by kernel_rfl) (fun _ => by kernel_rfl) ?_
          refine sq_p (.bool true) rfl (fun _ => by kernel_rfl) ?_
          refine lnil ?_
          refine thn_n ?_
          refine c_true (by kernel_rfl) ?_
          refine c_seq ?_
          refine c_reg ?_
          refine sq_p (errV ad 4) rfl (fun _ => by kernel_rfl) ?_
          refine sq_call #[errV ad 4, .int .i64 4] [1] rfl (coded3_spec ad 4 4 (by decide) rfl) (fun _ => by kernel_rfl) h ?_; rintro v_ L_ w ⟨rfl, rfl⟩ h
          refine sq_p (.bool false) rfl (fun _ => by kernel_rfl) ?_
          refine sq_p (.bool false) rfl (fun _ => by kernel_rfl) ?_
          refine sq_p (.pointer none) (by kernel_rfl) (fun _ => by kernel_rfl) ?_
          refine sq_p (.bool false) (by kernel_rfl) (fun _ => by kernel_rfl) ?_
          refine sq_p (.bool false) rfl (fun _ => by kernel_rfl) ?_
          refine lnil ?_
          refine thn_n ?_
          refine c_false (by kernel_rfl) ?_
          refine c_skip ?_
          refine thn_n ?_
          refine c_seq ?_
          refine c_reg ?_
          refine sq_call #[.int .i64 3] [2] rfl (serveNew_spec ad) (fun _ => by kernel_rfl) h ?_; rintro v_ L_ w ⟨p41, rfl, rfl⟩ h
          refine sq_p (.tuple #[.pointer (some ⟨p41, 0, none⟩), .nilIface]) rfl (fun _ => by kernel_rfl) ?_
          refine sq_p (.pointer (some ⟨p41, 0, none⟩)) rfl (fun _ => by kernel_rfl) ?_
          refine sq_p (.nilIface) rfl (fun _ => by kernel_rfl) ?_
          refine sq_p (.pointer (some ⟨p41, 0, none⟩)) rfl (fun _ => by kernel_rfl) ?_
          refine sq_p (.nilIface) rfl (fun _ => by kernel_rfl) ?_
          refine lnil ?_
          refine thn_n ?_
          refine c_seq ?_
          refine c_seq ?_
          refine c_reg ?_
          refine sq_p (.nilIface) rfl (fun _ => by kernel_rfl) ?_
          refine sq_p (.bool false) rfl (fun _ => by kernel_rfl) ?_
          refine sq_p (.bool false) rfl (fun _ => by kernel_rfl) ?_
          refine sq_p (.pointer (some ⟨p41, 0, none⟩)) (by kernel_rfl) (fun _ => by kernel_rfl) ?_
          refine sq_p (.bool false) (by kernel_rfl) (fun _ => by kernel_rfl) ?_
          refine sq_p (.bool false) rfl (fun _ => by kernel_rfl) ?_
          refine lnil ?_
          refine thn_n ?_
          refine c_false (by kernel_rfl) ?_
          refine c_skip ?_
          refine thn_n ?_
          refine c_seq ?_
          refine c_seq ?_
          refine c_reg ?_
          refine sq_p (.bool false) rfl (fun _ => by kernel_rfl) ?_
          refine lnil ?_
          refine thn_n ?_
          refine c_false (by kernel_rfl) ?_
          refine c_skip ?_
          refine thn_n ?_
          refine c_seq ?_
          refine c_reg ?_
          refine sq_p (.string a) rfl (fun _ => by kernel_rfl) ?_
          refine sq_p (.pointer (some ⟨p41, 0, none⟩)) rfl (fun _ => by kernel_rfl) ?_
          refine sq_p (.int .i64 m) rfl (fun _ => by kernel_rfl) ?_
          refine sq_call #[.string a, .pointer (some ⟨p41, 0, none⟩), .int .i64 m] [1, 2, 1] rfl (newListener_spec ad a p41 m (by omega)) (fun _ => by kernel_rfl) h ?_; rintro v_ L_ w (⟨hq42, hq42b, p43, rfl, rfl⟩ | ⟨hq44, rfl, rfl⟩ | ⟨hq45, hq45b, rfl, rfl⟩) h
          · skip
            refine sq_p (.tuple #[.pointer (some ⟨p43, 0, none⟩), .nilIface]) rfl (fun _ => by kernel_rfl) ?_
            refine sq_p (.pointer (some ⟨p43, 0, none⟩)) rfl (fun _ => by kernel_rfl) ?_
            refine sq_p (.nilIface) rfl (fun _ => by kernel_rfl) ?_
            refine sq_p (.pointer (some ⟨p43, 0, none⟩)) rfl (fun _ => by kernel_rfl) ?_
            refine sq_p (.nilIface) rfl (fun _ => by kernel_rfl) ?_
            refine lnil ?_
            refine thn_n ?_
            refine c_seq ?_
            refine c_reg ?_
            refine sq_p (.string a) rfl (fun _ => by kernel_rfl) ?_
            refine sq_call #[.string a] [] rfl (nameError_two a (by omega)) (fun _ => by kernel_rfl) h ?_; rintro v_ L_ w (⟨hq46, rfl, rfl⟩ | ⟨hq46, rfl, rfl⟩) h
            · skip
              refine sq_p (.int .i64 0) rfl (fun _ => by kernel_rfl) ?_
              refine lnil ?_
              refine thn_n ?_
              refine c_seq ?_
              refine c_seq ?_
              refine c_reg ?_
              refine sq_p (.int .i64 0) rfl (fun _ => by kernel_rfl) ?_
              refine sq_p (.bool true) rfl (fun _ => by kernel_rfl) ?_
              refine sq_p (.bool true) rfl (fun _ => by kernel_rfl) ?_
              refine sq_p (.bool false) (by kernel_rfl) (fun _ => by kernel_rfl) ?_
              refine sq_p (.bool false) rfl (fun _ => by kernel_rfl) ?_
              refine lnil ?_
              refine thn_n ?_
              refine c_false (by kernel_rfl) ?_
              refine c_skip ?_
              refine thn_n ?_
              refine c_seq ?_
              refine c_seq ?_
              refine c_reg ?_
              refine sq_p (.int .i64 0) rfl (fun _ => by kernel_rfl) ?_
              refine sq_p (.bool true) rfl (fun _ => by kernel_rfl) ?_
              refine sq_p (.bool true) rfl (fun _ => by kernel_rfl) ?_
              refine sq_p (.int .i64 m) (by kernel_rfl) (fun _ => by kernel_rfl) ?_
              obtain ⟨b47, hb47⟩ : ∃ b_ : Bool, b_ = (decide (m < 1)) := ⟨_, rfl⟩
              refine sq_q (v := .bool b47) (by kernel_rfl) h (by subst hb47; exact g_pure (v := .bool (decide (m < 1))) fun _ => by kernel_rfl) ?_
              refine sq_p (.bool b47) (by kernel_rfl) (fun _ => by kernel_rfl) ?_
              refine sq_m0 (v := .int .i64 m) b47 (by cases b47 <;> kernel_rfl) h (fun hB => by subst hB; exact g_pure (v := .int .i64 m) fun _ => by kernel_rfl) ?_
              obtain ⟨b48, hb48⟩ : ∃ b_ : Bool, b_ = (decide (m > 20)) := ⟨_, rfl⟩
              refine sq_m0 (v := .bool b48) b47 (by cases b47 <;> kernel_rfl) h (fun hB => by subst hB; exact by subst hb48; exact g_pure (v := .bool (decide (m > 20))) fun _ => by kernel_rfl) ?_
              obtain ⟨b49, hb49⟩ : ∃ b_ : Bool, b_ = (b47 || b48) := ⟨_, rfl⟩
              refine sq_q (v := .bool b49) (by kernel_rfl) h (by subst hb49; exact g_pure (v := .bool (b47 || b48)) fun _ => by cases b47 <;> kernel_rfl) ?_
              refine sq_p (.bool b49) rfl (fun _ => by kernel_rfl) ?_
              refine lnil ?_
              refine thn_n ?_
              refine c_cond (b49) (by kernel_rfl) (fun hc50 => ?_) (fun hc50 => ?_)
              · skip
                have q51 : (b47 || b48) = true := by rw [← hb49]; exact hc50
                have q52 : ((m < 1) ∨ (m > 20)) := by subst hb48; subst hb47; revert q51; first | (simp; done) | (simp; omega)
                exfalso; omega
              · skip
                have q53 : (b47 || b48) = false := by rw [← hb49]; exact hc50
                have q54 : b47 = false := by revert q53; cases b47 <;> simp
                have q55 : b48 = false := by revert q53; cases b47 <;> cases b48 <;> simp
                have q56 : (decide (m < 1)) = false := by rw [← hb47]; exact q54
                have q56 := of_decide_eq_false q56
                have q57 : (decide (m > 20)) = false := by rw [← hb48]; exact q55
                have q57 := of_decide_eq_false q57
                refine c_skip ?_
                refine thn_n ?_
                refine c_seq ?_
                refine c_reg ?_
                refine sq_p (.nilIface) rfl (fun _ => by kernel_rfl) ?_
                refine sq_p (.int .i64 0) rfl (fun _ => by kernel_rfl) ?_
                refine sq_call #[.nilIface, .int .i64 0] [3] rfl (coded3_spec ad 0 0 (by decide) rfl) (fun _ => by kernel_rfl) h ?_; rintro v_ L_ w ⟨rfl, rfl⟩ h
                refine sq_p (.bool true) rfl (fun _ => by kernel_rfl) ?_
                refine sq_p (.pointer (some ⟨p43, 0, none⟩)) (by kernel_rfl) (fun _ => by kernel_rfl) ?_
                refine sq_p (.bool true) (by kernel_rfl) (fun _ => by kernel_rfl) ?_
                refine sq_p (.int .i64 0) (by kernel_rfl) (fun _ => by kernel_rfl) ?_
                refine sq_p (.bool true) (by kernel_rfl) (fun _ => by kernel_rfl) ?_
                refine sq_p (.bool true) (by kernel_rfl) (fun _ => by kernel_rfl) ?_
                refine sq_p (.bool true) rfl (fun _ => by kernel_rfl) ?_
                refine sq_p (.bool true) rfl (fun _ => by kernel_rfl) ?_
                refine lnil ?_
                refine thn_n ?_
                refine c_ret ?_
                refine ret_end [.bool true] [0] h (by kernel_rfl) (res_t (by kernel_rfl) res_n) ?_
                exact ⟨rfl, rfl⟩
            · skip
              exact absurd hq39 hq46
          · skip
            exact absurd hq39 hq44
          · skip
            refine sq_p (.tuple #[.pointer none, errV ad 2]) rfl (fun _ => by kernel_rfl) ?_
            refine sq_p (.pointer none) rfl (fun _ => by kernel_rfl) ?_
            refine sq_p (errV ad 2) rfl (fun _ => by kernel_rfl) ?_
            refine sq_p (.pointer none) rfl (fun _ => by kernel_rfl) ?_
            refine sq_p (errV ad 2) rfl (fun _ => by kernel_rfl) ?_
            refine lnil ?_
            refine thn_n ?_
            refine c_seq ?_
            refine c_reg ?_
            refine sq_p (.string a) rfl (fun _ => by kernel_rfl) ?_
            refine sq_call #[.string a] [] rfl (nameError_two a (by omega)) (fun _ => by kernel_rfl) h ?_; rintro v_ L_ w (⟨hq58, rfl, rfl⟩ | ⟨hq58, rfl, rfl⟩) h
            · skip
              refine sq_p (.int .i64 0) rfl (fun _ => by kernel_rfl) ?_
              refine lnil ?_
              refine thn_n ?_
              refine c_seq ?_
              refine c_seq ?_
              refine c_reg ?_
              refine sq_p (.int .i64 0) rfl (fun _ => by kernel_rfl) ?_
              refine sq_p (.bool true) rfl (fun _ => by kernel_rfl) ?_
              refine sq_p (.bool true) rfl (fun _ => by kernel_rfl) ?_
              refine sq_p (.bool false) (by kernel_rfl) (fun _ => by kernel_rfl) ?_
              refine sq_p (.bool false) rfl (fun _ => by kernel_rfl) ?_
              refine lnil ?_
              refine thn_n ?_
              refine c_false (by kernel_rfl) ?_
              refine c_skip ?_
              refine thn_n ?_
              refine c_seq ?_
              refine c_seq ?_
              refine c_reg ?_
              refine sq_p (.int .i64 0) rfl (fun _ => by kernel_rfl) ?_
              refine sq_p (.bool true) rfl (fun _ => by kernel_rfl) ?_
              refine sq_p (.bool true) rfl (fun _ => by kernel_rfl) ?_
              refine sq_p (.int .i64 m) (by kernel_rfl) (fun _ => by kernel_rfl) ?_
              obtain ⟨b59, hb59⟩ : ∃ b_ : Bool, b_ = (decide (m < 1)) := ⟨_, rfl⟩
              refine sq_q (v := .bool b59) (by kernel_rfl) h (by subst hb59; exact g_pure (v := .bool (decide (m < 1))) fun _ => by kernel_rfl) ?_
              refine sq_p (.bool b59) (by kernel_rfl) (fun _ => by kernel_rfl) ?_
              refine sq_m0 (v := .int .i64 m) b59 (by cases b59 <;> kernel_rfl) h (fun hB => by subst hB; exact g_pure (v := .int .i64 m) fun _ => by kernel_rfl) ?_
              obtain ⟨b60, hb60⟩ : ∃ b_ : Bool, b_ = (decide (m > 20)) := ⟨_, rfl⟩
              refine sq_m0 (v := .bool b60) b59 (by cases b59 <;> kernel_rfl) h (fun hB => by subst hB; exact by subst hb60; exact g_pure (v := .bool (decide (m > 20))) fun _ => by kernel_rfl) ?_
              obtain ⟨b61, hb61⟩ : ∃ b_ : Bool, b_ = (b59 || b60) := ⟨_, rfl⟩
              refine sq_q (v := .bool b61) (by kernel_rfl) h (by subst hb61; exact g_pure (v := .bool (b59 || b60)) fun _ => by cases b59 <;> kernel_rfl) ?_
              refine sq_p (.bool b61) rfl (fun _ => by kernel_rfl) ?_
              refine lnil ?_
              refine thn_n ?_
              refine c_cond (b61) (by kernel_rfl) (fun hc62 => ?_) (fun hc62 => ?_)
              · skip
                have q63 : (b59 || b60) = true := by rw [← hb61]; exact hc62
                have q64 : ((m < 1) ∨ (m > 20)) := by subst hb60; subst hb59; revert q63; first | (simp; done) | (simp; omega)
                refine c_reg ?_
                refine sq_p (.int .i64 2) rfl (fun _ => by kernel_rfl) ?_
                refine lnil ?_
                refine thn_n ?_
                refine c_seq ?_
                refine c_reg ?_
                refine sq_p (errV ad 2) rfl (fun _ => by kernel_rfl) ?_
                refine sq_p (.int .i64 2) rfl (fun _ => by kernel_rfl) ?_
                refine sq_call #[errV ad 2, .int .i64 2] [3] rfl (coded3_spec ad 2 2 (by decide) rfl) (fun _ => by kernel_rfl) h ?_; rintro v_ L_ w ⟨rfl, rfl⟩ h
                refine sq_p (.bool true) rfl (fun _ => by kernel_rfl) ?_
                refine sq_p (.pointer none) (by kernel_rfl) (fun _ => by kernel_rfl) ?_
                refine sq_p (.bool false) (by kernel_rfl) (fun _ => by kernel_rfl) ?_
                refine sq_p (.int .i64 2) (by kernel_rfl) (fun _ => by kernel_rfl) ?_
                refine sq_p (.bool false) (by kernel_rfl) (fun _ => by kernel_rfl) ?_
                refine sq_p (.bool true) (by kernel_rfl) (fun _ => by kernel_rfl) ?_
                refine sq_p (.bool true) rfl (fun _ => by kernel_rfl) ?_
                refine sq_p (.bool true) rfl (fun _ => by kernel_rfl) ?_
                refine lnil ?_
                refine thn_n ?_
                refine c_ret ?_
                refine ret_end [.bool true] [0] h (by kernel_rfl) (res_t (by kernel_rfl) res_n) ?_
                exact ⟨rfl, rfl⟩
              · skip
                have q65 : (b59 || b60) = false := by rw [← hb61]; exact hc62
                have q66 : b59 = false := by revert q65; cases b59 <;> simp
                have q67 : b60 = false := by revert q65; cases b59 <;> cases b60 <;> simp
                have q68 : (decide (m < 1)) = false := by rw [← hb59]; exact q66
                have q68 := of_decide_eq_false q68
                have q69 : (decide (m > 20)) = false := by rw [← hb60]; exact q67
                have q69 := of_decide_eq_false q69
                exfalso; omega
            · skip
              exact absurd hq39 hq58
      · skip
        refine sq_p (.bool true) rfl (fun _ => by kernel_rfl) ?_
        refine sq_p (.bool true) rfl (fun _ => by kernel_rfl) ?_
        refine sn (by kernel_rfl) ?_
        refine sn (by kernel_rfl) ?_
        refine sn (by kernel_rfl) ?_
        refine sq_p (.bool true) rfl (fun _ => by kernel_rfl) ?_
        refine lnil ?_
        refine thn_n ?_
        refine c_true (by kernel_rfl) ?_
        refine c_seq ?_
        refine c_reg ?_
        refine sq_p (errV ad 4) rfl (fun _ => by kernel_rfl) ?_
        refine sq_call #[errV ad 4, .int .i64 4] [1] rfl (coded3_spec ad 4 4 (by decide) rfl) (fun _ => by kernel_rfl) h ?_; rintro v_ L_ w ⟨rfl, rfl⟩ h
        refine sq_p (.bool false) rfl (fun _ => by kernel_rfl) ?_
        refine sq_p (.bool false) rfl (fun _ => by kernel_rfl) ?_
        refine sq_p (.pointer none) (by kernel_rfl) (fun _ => by kernel_rfl) ?_
        refine sq_p (.bool false) (by kernel_rfl) (fun _ => by kernel_rfl) ?_
        refine sq_p (.bool false) rfl (fun _ => by kernel_rfl) ?_
        refine lnil ?_
        refine thn_n ?_
        refine c_false (by kernel_rfl) ?_
        refine c_skip ?_
        refine thn_n ?_
        refine c_seq ?_
        refine c_reg ?_
        refine sq_call #[.int .i64 3] [2] rfl (serveNew_spec ad) (fun _ => by kernel_rfl) h ?_; rintro v_ L_ w ⟨p70, rfl, rfl⟩ h
        refine sq_p (.tuple #[.pointer (some ⟨p70, 0, none⟩), .nilIface]) rfl (fun _ => by kernel_rfl) ?_
        refine sq_p (.pointer (some ⟨p70, 0, none⟩)) rfl (fun _ => by kernel_rfl) ?_
        refine sq_p (.nilIface) rfl (fun _ => by kernel_rfl) ?_
        refine sq_p (.pointer (some ⟨p70, 0, none⟩)) rfl (fun _ => by kernel_rfl) ?_
        refine sq_p (.nilIface) rfl (fun _ => by kernel_rfl) ?_
        refine lnil ?_
        refine thn_n ?_
        refine c_seq ?_
        refine c_seq ?_
        refine c_reg ?_
        refine sq_p (.nilIface) rfl (fun _ => by kernel_rfl) ?_
        refine sq_p (.bool false) rfl (fun _ => by kernel_rfl) ?_
        refine sq_p (.bool false) rfl (fun _ => by kernel_rfl) ?_
        refine sq_p (.pointer (some ⟨p70, 0, none⟩)) (by kernel_rfl) (fun _ => by kernel_rfl) ?_
        refine sq_p (.bool false) (by kernel_rfl) (fun _ => by kernel_rfl) ?_
        refine sq_p (.bool false) rfl (fun _ => by kernel_rfl) ?_
        refine lnil ?_
        refine thn_n ?_
        refine c_false (by kernel_rfl) ?_
        refine c_skip ?_
        refine thn_n ?_
        refine c_seq ?_
        refine c_seq ?_
        refine c_reg ?_
        refine sq_p (.bool false) rfl (fun _ => by kernel_rfl) ?_
        refine lnil ?_
        refine thn_n ?_
        refine c_false (by kernel_rfl) ?_
        refine c_skip ?_
        refine thn_n ?_
        refine c_seq ?_
        refine c_reg ?_
        refine sq_p (.string a) rfl (fun _ => by kernel_rfl) ?_
        refine sq_p (.pointer (some ⟨p70, 0, none⟩)) rfl (fun _ => by kernel_rfl) ?_
        refine sq_p (.int .i64 m) rfl (fun _ => by kernel_rfl) ?_
        refine sq_call #[.string a, .pointer (some ⟨p70, 0, none⟩), .int .i64 m] [1, 2, 1] rfl (newListener_spec ad a p70 m (by omega)) (fun _ => by kernel_rfl) h ?_; rintro v_ L_ w (⟨hq71, hq71b, p72, rfl, rfl⟩ | ⟨hq73, rfl, rfl⟩ | ⟨hq74, hq74b, rfl, rfl⟩) h
        · skip
          exact absurd hq71 hq39
        · skip
          refine sq_p (.tuple #[.pointer none, errV ad 4]) rfl (fun _ => by kernel_rfl) ?_
          refine sq_p (.pointer none) rfl (fun _ => by kernel_rfl) ?_
          refine sq_p (errV ad 4) rfl (fun _ => by kernel_rfl) ?_
          refine sq_p (.pointer none) rfl (fun _ => by kernel_rfl) ?_
          refine sq_p (errV ad 4) rfl (fun _ => by kernel_rfl) ?_
          refine lnil ?_
          refine thn_n ?_
          refine c_seq ?_
          refine c_reg ?_
          refine sq_p (.string a) rfl (fun _ => by kernel_rfl) ?_
          refine sq_call #[.string a] [] rfl (nameError_two a (by omega)) (fun _ => by kernel_rfl) h ?_; rintro v_ L_ w (⟨hq75, rfl, rfl⟩ | ⟨hq75, rfl, rfl⟩) h
          · skip
            exact absurd hq75 hq39
          · skip
            refine sq_p (.int .i64 4) rfl (fun _ => by kernel_rfl) ?_
            refine lnil ?_
            refine thn_n ?_
            refine c_seq ?_
            refine c_seq ?_
            refine c_reg ?_
            refine sq_p (.int .i64 4) rfl (fun _ => by kernel_rfl) ?_
            refine sq_p (.bool false) rfl (fun _ => by kernel_rfl) ?_
            refine sq_p (.bool false) rfl (fun _ => by kernel_rfl) ?_
            refine sn (by kernel_rfl) ?_
            refine sq_p (.bool false) rfl (fun _ => by kernel_rfl) ?_
            refine lnil ?_
            refine thn_n ?_
            refine c_false (by kernel_rfl) ?_
            refine c_skip ?_
            refine thn_n ?_
            refine c_seq ?_
            refine c_seq ?_
            refine c_reg ?_
            refine sq_p (.int .i64 4) rfl (fun _ => by kernel_rfl) ?_
            refine sq_p (.bool false) rfl (fun _ => by kernel_rfl) ?_
            refine sq_p (.bool false) rfl (fun _ => by kernel_rfl) ?_
            refine sn (by kernel_rfl) ?_
            refine sn (by kernel_rfl) ?_
            refine sn (by kernel_rfl) ?_
            refine sn (by kernel_rfl) ?_
            refine sn (by kernel_rfl) ?_
            refine sn (by kernel_rfl) ?_
            refine sq_p (.bool false) rfl (fun _ => by kernel_rfl) ?_
            refine lnil ?_
            refine thn_n ?_
            refine c_false (by kernel_rfl) ?_
            refine c_skip ?_
            refine thn_n ?_
            refine c_seq ?_
            refine c_reg ?_
            refine sq_p (errV ad 4) rfl (fun _ => by kernel_rfl) ?_
            refine sq_p (.int .i64 4) rfl (fun _ => by kernel_rfl) ?_
            refine sq_call #[errV ad 4, .int .i64 4] [3] rfl (coded3_spec ad 4 4 (by decide) rfl) (fun _ => by kernel_rfl) h ?_; rintro v_ L_ w ⟨rfl, rfl⟩ h
            refine sq_p (.bool true) rfl (fun _ => by kernel_rfl) ?_
            refine sq_p (.pointer none) (by kernel_rfl) (fun _ => by kernel_rfl) ?_
            refine sq_p (.bool false) (by kernel_rfl) (fun _ => by kernel_rfl) ?_
            refine sq_p (.int .i64 4) (by kernel_rfl) (fun _ => by kernel_rfl) ?_
            refine sq_p (.bool false) (by kernel_rfl) (fun _ => by kernel_rfl) ?_
            refine sq_p (.bool true) (by kernel_rfl) (fun _ => by kernel_rfl) ?_
            refine sq_p (.bool true) rfl (fun _ => by kernel_rfl) ?_
            refine sq_p (.bool true) rfl (fun _ => by kernel_rfl) ?_
            refine lnil ?_
            refine thn_n ?_
            refine c_ret ?_
            refine ret_end [.bool true] [0] h (by kernel_rfl) (res_t (by kernel_rfl) res_n) ?_
            exact ⟨rfl, rfl⟩
        · skip
          exact absurd hq74 hq39

theorem callNew_spec {B : Nat} (ad : Nat → Addr) (a b : ByteArray) (m : Int) (nn : Bool) (ha : a.size ≤ 140737488355327) (hb : b.size ≤ 140737488355327) : Spec Tryd.prog 6 #[.string a, .string b, .int .i64 m, .bool nn] [rEnvA B ad] fun u L => u = .bool true ∧ L = [rEnvA B ad] := by
  cases nn
  · exact callNewF_spec ad a b m ha hb
  · exact callNewT_spec ad a b m ha hb


theorem callNew_any (ad : Nat → Addr) (a b : ByteArray) (m : Int) (nn : Bool) (w : World) (he : EnvA w.heap.size ad w) (ha : a.size ≤ 140737488355327) (hb : b.size ≤ 140737488355327) :
    Calls Tryd.prog 6 #[.string a, .string b, .int .i64 m, .bool nn] w fun e w' => e = .returned (.bool true) ∧ Chg Nil w w' := by
  refine ((callNew_spec (B := w.heap.size) ad a b m nn ha hb).reads (w := w) rfl ?_).mono ?_
  · intro r hr
    simp only [List.mem_cons, List.mem_nil_iff, or_false] at hr
    subst hr
    exact he
  · rintro e w' ⟨u, L', ⟨rfl, _⟩, he, hc'⟩
    exact ⟨he, hc'⟩

end Go.Proofs.YtofhnglgebllbaaDoor
