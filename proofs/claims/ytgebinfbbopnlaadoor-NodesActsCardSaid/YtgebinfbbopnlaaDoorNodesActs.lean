/- nodes: contracts by what is owned (printed by walk.py). -/
import Derived.Test.YtgebinfbbopnlaaDoorNoC
import Derived.Test.YtgebinfbbopnlaaDoorEqA
namespace Go.Proofs.YtgebinfbbopnlaaDoor
open Go.RowKit
set_option linter.unusedVariables false
set_option linter.unusedSimpArgs false
set_option linter.unnecessarySimpa false
set_option maxRecDepth 100000
set_option maxHeartbeats 20000000 in
theorem nodesActs_spec {B : Nat} (ad : Nat → Addr) (mo : Int) (v : Value) (acts : List Nda) (hacts : ∀ x ∈ acts, NdaOk x)  : Spec Tryd.prog 3 #[.int .i64 mo, v] [rArg v 5 ndaC acts, rEnvA B ad] (fun u L => u = .bool true ∧ L = [rArg v 5 ndaC acts, rEnvA B ad]) := by
  refine spec_of (#[.int .i64 mo, v, undef, undef, undef, undef, undef, undef, undef, undef, undef, undef, undef, undef, undef, undef, undef, undef, undef, undef, undef, undef, undef, undef, undef, undef, undef, undef, undef, undef, undef, undef, undef, undef, undef, undef, undef, undef, undef, undef, undef, undef, undef, undef, undef, undef, undef, undef, undef, undef, undef, undef, undef, undef, undef, undef, undef, undef, undef, undef, undef, undef, undef, undef, undef, undef, undef, undef, undef, undef, undef, undef, undef, undef, undef, undef, undef, undef, undef, undef, undef, undef, undef, undef, undef, undef, undef, undef, undef, undef, undef, undef, undef, undef, undef, undef, undef, undef, undef, undef, undef, undef, undef, undef, undef, undef, undef, undef, undef, undef, undef, undef, undef, undef, undef, undef, undef, undef, undef, undef, undef, undef, undef, undef, undef, undef, undef, undef, undef, undef, undef, undef, undef, undef, undef, undef, undef, undef, undef, undef, undef, undef, undef, undef, undef, undef, undef, undef, undef, undef, undef, undef, undef, undef, undef, undef, undef, undef, undef, undef, undef, undef, undef, undef, undef, undef, undef, undef, undef, undef, undef, undef, undef, undef, undef, undef, undef, undef, undef, undef, undef, undef, undef, undef, undef, undef, undef, undef, undef, undef, undef, undef, undef, undef, undef, undef, undef, undef, undef, undef, undef, undef, undef, undef, undef, undef, undef, undef, undef, undef, undef, undef, undef, undef, undef, undef, undef, undef, undef, undef, undef, undef, undef, undef, undef, undef, undef, undef, undef, undef, undef, undef, undef, undef, undef, undef, undef, undef, undef, undef, undef, undef, undef, undef, undef, undef, undef, undef, undef, undef, undef, undef, undef, undef, undef, undef, undef, undef, undef, undef, undef, undef, undef, undef, undef, undef, undef, undef, undef, undef, undef, undef, undef, undef, undef, undef, undef, undef, undef, undef, undef, undef, undef, undef, undef, undef, undef, undef, undef, undef, undef, undef, undef, undef, undef, undef, undef, undef, undef, undef, undef, undef, undef, undef, undef, undef, undef, undef, undef, undef, undef, undef, undef, undef, undef, undef, undef, undef, undef, undef, undef, undef, undef, undef, undef, undef, undef, undef, undef, undef, undef, undef, undef, undef, undef, undef, undef, undef, undef, undef, undef, undef, undef, undef, undef, undef, undef, undef, undef, undef, undef, undef, undef, undef, undef, undef, undef, undef, undef, undef, undef, undef, undef, undef, undef, undef, undef, undef, undef, undef, undef, undef, undef, undef, undef, undef, undef, undef, undef, undef, undef, undef, undef, undef, undef, undef, undef, undef, undef, undef, undef, undef]) Tryd.func3 rfl (by kernel_rfl) fun E w0 w h => ?_
  have h := h.envSub [3] 1 rfl (by decide)
  have h := h.envSub [9] 2 rfl (by decide)
  have h := h.envSub [10] 3 rfl (by decide)
  have h := h.envSub [2] 4 rfl (by decide)
  have h := h.envSub [8] 5 rfl (by decide)
  refine c_seq ?_
  refine c_reg ?_
  refine sq_p (.bool false) rfl (fun _ => by kernel_rfl) ?_
  refine lnil ?_
  refine thn_n ?_
  refine c_seq ?_
  refine c_reg ?_
  refine sq_call #[] [] rfl (fresh_spec) (fun _ => by kernel_rfl) h ?_; rintro v_ L_ w ⟨rfl, rfl⟩ h
  refine sq_p (.bool true) rfl (fun _ => by kernel_rfl) ?_
  refine lnil ?_
  refine thn_n ?_
  refine c_seq ?_
  refine c_seq ?_
  refine c_reg ?_
  refine sq_p (.bool true) rfl (fun _ => by kernel_rfl) ?_
  refine sq_p (.bool false) rfl (fun _ => by kernel_rfl) ?_
  refine sq_p (.bool false) rfl (fun _ => by kernel_rfl) ?_
  refine sq_p (v) (by kernel_rfl) (fun _ => by kernel_rfl) ?_
  refine sq_q (by kernel_rfl) h (g_lenA 35 (by kernel_rfl) 5 rfl) ?_
  obtain ⟨b1, hb1⟩ : ∃ b_ : Bool, b_ = (decide ((acts.length : Int) > 60)) := ⟨_, rfl⟩
  refine sq_q (v := .bool b1) (by kernel_rfl) h (by subst hb1; exact g_pure (v := .bool (decide ((acts.length : Int) > 60))) fun _ => by kernel_rfl) ?_
  refine sq_p (.bool b1) rfl (fun _ => by kernel_rfl) ?_
  refine lnil ?_
  refine thn_n ?_
  refine c_cond (b1) (by kernel_rfl) (fun hc2 => ?_) (fun hc2 => ?_)
  · skip
    have q3 : (decide ((acts.length : Int) > 60)) = true := by rw [← hb1]; exact hc2
    have q3 := of_decide_eq_true q3
    refine c_seq ?_
    refine c_reg ?_
    refine sq_p (.bool true) rfl (fun _ => by kernel_rfl) ?_
    refine sq_p (.bool true) rfl (fun _ => by kernel_rfl) ?_
    refine lnil ?_
    refine thn_n ?_
    refine c_ret ?_
    refine thn_r ?_
    refine ret_end [.bool true] [5, 5] h (by kernel_rfl) (res_t (by kernel_rfl) res_n) ?_
    exact ⟨rfl, rfl⟩
  · skip
    have q4 : (decide ((acts.length : Int) > 60)) = false := by rw [← hb1]; exact hc2
    have q4 := of_decide_eq_false q4
    refine c_skip ?_
    refine thn_n ?_
    refine c_seq ?_
    refine c_reg ?_
    refine sq_p (.int .i64 mo) rfl (fun _ => by kernel_rfl) ?_
    refine sq_call #[.int .i64 mo] [1] rfl (newAny_spec ad mo) (fun _ => by kernel_rfl) h ?_; rintro v_ L_ w (⟨hq5, rfl, rfl⟩ | ⟨hq5b, tb, vl, vg, T, Sl, Sg, rfl, rfl⟩) h
    · skip
      refine sq_p (.tuple #[.pointer none, errV ad 2]) rfl (fun _ => by kernel_rfl) ?_
      refine sq_p (.pointer none) rfl (fun _ => by kernel_rfl) ?_
      refine sq_p (errV ad 2) rfl (fun _ => by kernel_rfl) ?_
      refine sq_p (.pointer none) rfl (fun _ => by kernel_rfl) ?_
      refine sq_p (errV ad 2) rfl (fun _ => by kernel_rfl) ?_
      refine lnil ?_
      refine thn_n ?_
      refine c_seq ?_
      refine c_seq ?_
      refine c_reg ?_
      refine sq_p (.int .i64 mo) rfl (fun _ => by kernel_rfl) ?_
      obtain ⟨b6, hb6⟩ : ∃ b_ : Bool, b_ = (decide (mo < 1)) := ⟨_, rfl⟩
      refine sq_q (v := .bool b6) rfl h (by subst hb6; exact g_pure (v := .bool (decide (mo < 1))) fun _ => by kernel_rfl) ?_
      refine sq_p (.bool b6) rfl (fun _ => by kernel_rfl) ?_
      refine sq_m0 (v := .int .i64 mo) b6 (by cases b6 <;> kernel_rfl) h (fun hB => by subst hB; exact g_pure (v := .int .i64 mo) fun _ => by kernel_rfl) ?_
      obtain ⟨b7, hb7⟩ : ∃ b_ : Bool, b_ = (decide (mo > 300)) := ⟨_, rfl⟩
      refine sq_m0 (v := .bool b7) b6 (by cases b6 <;> kernel_rfl) h (fun hB => by subst hB; exact by subst hb7; exact g_pure (v := .bool (decide (mo > 300))) fun _ => by kernel_rfl) ?_
      obtain ⟨b8, hb8⟩ : ∃ b_ : Bool, b_ = (b6 || b7) := ⟨_, rfl⟩
      refine sq_q (v := .bool b8) rfl h (by subst hb8; exact g_pure (v := .bool (b6 || b7)) fun _ => by cases b6 <;> kernel_rfl) ?_
      refine lnil ?_
      refine thn_n ?_
      refine c_cond (b8) (by kernel_rfl) (fun hc9 => ?_) (fun hc9 => ?_)
      · skip
        have q10 : (b6 || b7) = true := by rw [← hb8]; exact hc9
        have q11 : ((mo < 1) ∨ (mo > 300)) := by subst hb7; subst hb6; revert q10; first | (simp; done) | (simp; omega)
        refine c_seq ?_
        refine c_reg ?_
        refine sq_p (errV ad 2) rfl (fun _ => by kernel_rfl) ?_
        refine sq_call #[errV ad 2, .int .i64 2] [6] rfl (coded1_spec ad 2 2 (by decide) (by first | decide | omega)) (fun _ => by kernel_rfl) h ?_; rintro v_ L_ w ⟨rfl, rfl⟩ h
        refine sq_p (.bool true) rfl (fun _ => by kernel_rfl) ?_
        refine sq_p (.pointer none) (by kernel_rfl) (fun _ => by kernel_rfl) ?_
        refine sq_p (.bool true) (by kernel_rfl) (fun _ => by kernel_rfl) ?_
        refine sq_p (.bool true) rfl (fun _ => by kernel_rfl) ?_
        refine sq_p (.bool true) rfl (fun _ => by kernel_rfl) ?_
        refine lnil ?_
        refine thn_n ?_
        refine c_ret ?_
        refine thn_r ?_
        refine ret_end [.bool true] [6, 0] h (by kernel_rfl) (res_t (by kernel_rfl) res_n) ?_
        exact ⟨rfl, rfl⟩
      · skip
        have q12 : (b6 || b7) = false := by rw [← hb8]; exact hc9
        have q13 : b6 = false := by revert q12; cases b6 <;> simp
        have q14 : b7 = false := by revert q12; cases b6 <;> cases b7 <;> simp
        have q15 : (decide (mo < 1)) = false := by rw [← hb6]; exact q13
        have q15 := of_decide_eq_false q15
        have q16 : (decide (mo > 300)) = false := by rw [← hb7]; exact q14
        have q16 := of_decide_eq_false q16
        exfalso; revert hc9; subst hb8; subst hb7; subst hb6; simp; omega
    · skip
      obtain ⟨m, rfl⟩ : ∃ m : Nat, mo = m := ⟨mo.toNat, by omega⟩
      rw [Int.toNat_natCast] at h
      refine sq_p (.tuple #[.pointer (some ⟨tb, 0, none⟩), .nilIface]) rfl (fun _ => by kernel_rfl) ?_
      refine sq_p (.pointer (some ⟨tb, 0, none⟩)) rfl (fun _ => by kernel_rfl) ?_
      refine sq_p (.nilIface) rfl (fun _ => by kernel_rfl) ?_
      refine sq_p (.pointer (some ⟨tb, 0, none⟩)) rfl (fun _ => by kernel_rfl) ?_
      refine sq_p (.nilIface) rfl (fun _ => by kernel_rfl) ?_
      refine lnil ?_
      refine thn_n ?_
      refine c_seq ?_
      refine c_seq ?_
      refine c_reg ?_
      refine sq_p (.int .i64 (m : Int)) rfl (fun _ => by kernel_rfl) ?_
      obtain ⟨b17, hb17⟩ : ∃ b_ : Bool, b_ = (decide ((m : Int) < 1)) := ⟨_, rfl⟩
      refine sq_q (v := .bool b17) rfl h (by subst hb17; exact g_pure (v := .bool (decide ((m : Int) < 1))) fun _ => by kernel_rfl) ?_
      refine sq_p (.bool b17) rfl (fun _ => by kernel_rfl) ?_
      refine sq_m0 (v := .int .i64 (m : Int)) b17 (by cases b17 <;> kernel_rfl) h (fun hB => by subst hB; exact g_pure (v := .int .i64 (m : Int)) fun _ => by kernel_rfl) ?_
      obtain ⟨b18, hb18⟩ : ∃ b_ : Bool, b_ = (decide ((m : Int) > 300)) := ⟨_, rfl⟩
      refine sq_m0 (v := .bool b18) b17 (by cases b17 <;> kernel_rfl) h (fun hB => by subst hB; exact by subst hb18; exact g_pure (v := .bool (decide ((m : Int) > 300))) fun _ => by kernel_rfl) ?_
      obtain ⟨b19, hb19⟩ : ∃ b_ : Bool, b_ = (b17 || b18) := ⟨_, rfl⟩
      refine sq_q (v := .bool b19) rfl h (by subst hb19; exact g_pure (v := .bool (b17 || b18)) fun _ => by cases b17 <;> kernel_rfl) ?_
      refine lnil ?_
      refine thn_n ?_
      refine c_cond (b19) (by kernel_rfl) (fun hc20 => ?_) (fun hc20 => ?_)
      · skip
        have q21 : (b17 || b18) = true := by rw [← hb19]; exact hc20
        have q22 : (((m : Int) < 1) ∨ ((m : Int) > 300)) := by subst hb18; subst hb17; revert q21; first | (simp; done) | (simp; omega)
        exfalso; revert hc20; subst hb19; subst hb18; subst hb17; simp; omega
      · skip
        have q23 : (b17 || b18) = false := by rw [← hb19]; exact hc20
        have q24 : b17 = false := by revert q23; cases b17 <;> simp
        have q25 : b18 = false := by revert q23; cases b17 <;> cases b18 <;> simp
        have q26 : (decide ((m : Int) < 1)) = false := by rw [← hb17]; exact q24
        have q26 := of_decide_eq_false q26
        have q27 : (decide ((m : Int) > 300)) = false := by rw [← hb18]; exact q25
        have q27 := of_decide_eq_false q27
        refine c_skip ?_
        refine thn_n ?_
        refine c_seq ?_
        refine c_seq ?_
        refine c_reg ?_
        refine sq_p (.nilIface) rfl (fun _ => by kernel_rfl) ?_
        refine sq_p (.bool false) rfl (fun _ => by kernel_rfl) ?_
        refine sq_p (.bool false) rfl (fun _ => by kernel_rfl) ?_
        refine sq_p (.pointer (some ⟨tb, 0, none⟩)) (by kernel_rfl) (fun _ => by kernel_rfl) ?_
        refine sq_p (.bool false) (by kernel_rfl) (fun _ => by kernel_rfl) ?_
        refine sq_p (.bool false) rfl (fun _ => by kernel_rfl) ?_
        refine lnil ?_
        refine thn_n ?_
        refine c_false (by kernel_rfl) ?_
        refine c_skip ?_
        refine thn_n ?_
        refine c_seq ?_
        refine c_reg ?_
        refine sq_p (.int .i64 (m : Int)) rfl (fun _ => by kernel_rfl) ?_
        refine sq_mks rfl (enc := idC) (E := 3) (bytes := 8) (0 : Int) m rfl (by kernel_rfl) rfl (by omega) (by omega) h ?_; intro v28 w h
        refine sq_p (v28) rfl (fun _ => by kernel_rfl) ?_
        refine lnil ?_
        refine thn_n ?_
        refine c_seq ?_
        refine c_reg ?_
        refine sq_p (.slice none 0 0) rfl (fun _ => by kernel_rfl) ?_
        refine lnil ?_
        refine thn_n ?_
        refine c_seq ?_
        refine c_seq ?_
        refine c_reg ?_
        refine sq_p (.int .i64 0) rfl (fun _ => by kernel_rfl) ?_
        refine lnil ?_
        refine thn_n ?_
        refine c_block ?_
        have h := h.nilRows 39 9 spotC
        refine c_loop (X := Nat × List (Option Nat) × List Int × List (Option ND) × List Spot × Value × (Nat → Value)) (fun ⟨i0, ps, gs, l, here, vh, J0⟩ => ⟨#[.int .i64 (m : Int), v, undef, undef, J0 4, .bool true, .pointer (some ⟨tb, 0, none⟩), .nilIface, v28, vh, .int .i64 (i0 : Int), J0 11, J0 12, J0 13, J0 14, J0 15, J0 16, J0 17, J0 18, J0 19, J0 20, J0 21, J0 22, J0 23, J0 24, J0 25, J0 26, J0 27, J0 28, .bool true, .bool true, .bool false, .bool false, v, .int .i64 (acts.length : Int), .bool b1, .bool b1, undef, .tuple #[.pointer (some ⟨tb, 0, none⟩), .nilIface], .int .i64 (m : Int), .tuple #[.pointer (some ⟨tb, 0, none⟩), .nilIface], .pointer (some ⟨tb, 0, none⟩), .nilIface, .int .i64 (m : Int), .bool b17, .bool b17, (if b17 = false then .int .i64 (m : Int) else undef), (if b17 = false then .bool b18 else undef), .bool b19, undef, undef, undef, undef, undef, undef, .nilIface, .bool false, .bool false, .pointer (some ⟨tb, 0, none⟩), .bool false, .bool false, .int .i64 (m : Int), v28, J0 63, J0 64, J0 65, J0 66, J0 67, J0 68, J0 69, J0 70, J0 71, J0 72, J0 73, J0 74, J0 75, J0 76, J0 77, J0 78, J0 79, J0 80, J0 81, J0 82, J0 83, J0 84, J0 85, J0 86, J0 87, J0 88, J0 89, J0 90, J0 91, J0 92, J0 93, J0 94, J0 95, J0 96, J0 97, J0 98, J0 99, J0 100, J0 101, J0 102, J0 103, J0 104, J0 105, J0 106, J0 107, J0 108, J0 109, J0 110, J0 111, J0 112, J0 113, J0 114, J0 115, J0 116, J0 117, J0 118, J0 119, J0 120, J0 121, J0 122, J0 123, J0 124, J0 125, J0 126, J0 127, J0 128, J0 129, J0 130, J0 131, J0 132, J0 133, J0 134, J0 135, J0 136, J0 137, J0 138, J0 139, J0 140, J0 141, J0 142, J0 143, J0 144, J0 145, J0 146, J0 147, J0 148, J0 149, J0 150, J0 151, J0 152, J0 153, J0 154, J0 155, J0 156, J0 157, J0 158, J0 159, J0 160, J0 161, J0 162, J0 163, J0 164, J0 165, J0 166, J0 167, J0 168, J0 169, J0 170, J0 171, J0 172, J0 173, J0 174, J0 175, J0 176, J0 177, J0 178, J0 179, J0 180, J0 181, J0 182, J0 183, J0 184, J0 185, J0 186, J0 187, J0 188, J0 189, J0 190, J0 191, J0 192, J0 193, J0 194, J0 195, J0 196, J0 197, J0 198, J0 199, J0 200, J0 201, J0 202, J0 203, J0 204, J0 205, J0 206, J0 207, J0 208, J0 209, J0 210, J0 211, J0 212, J0 213, J0 214, J0 215, J0 216, J0 217, J0 218, J0 219, J0 220, J0 221, J0 222, J0 223, J0 224, J0 225, J0 226, J0 227, J0 228, J0 229, J0 230, J0 231, J0 232, J0 233, J0 234, J0 235, J0 236, J0 237, J0 238, J0 239, J0 240, J0 241, J0 242, J0 243, J0 244, J0 245, J0 246, J0 247, J0 248, J0 249, J0 250, J0 251, J0 252, J0 253, J0 254, J0 255, J0 256, J0 257, J0 258, J0 259, J0 260, J0 261, J0 262, J0 263, J0 264, J0 265, J0 266, J0 267, J0 268, J0 269, J0 270, J0 271, J0 272, J0 273, J0 274, J0 275, J0 276, J0 277, J0 278, J0 279, J0 280, J0 281, J0 282, J0 283, J0 284, J0 285, J0 286, J0 287, J0 288, J0 289, J0 290, J0 291, J0 292, J0 293, J0 294, J0 295, J0 296, J0 297, J0 298, J0 299, J0 300, J0 301, J0 302, J0 303, J0 304, J0 305, J0 306, J0 307, J0 308, J0 309, J0 310, J0 311, J0 312, J0 313, J0 314, J0 315, J0 316, J0 317, J0 318, J0 319, J0 320, J0 321, J0 322, J0 323, J0 324, J0 325, J0 326, J0 327, J0 328, J0 329, J0 330, J0 331, J0 332, J0 333, J0 334, J0 335, J0 336, J0 337, J0 338, J0 339, J0 340, J0 341, J0 342, J0 343, J0 344, J0 345, J0 346, J0 347, J0 348, J0 349, J0 350, J0 351, J0 352, J0 353, J0 354, J0 355, J0 356, J0 357, J0 358, J0 359, J0 360, J0 361, J0 362, J0 363, J0 364, J0 365, J0 366, J0 367, J0 368, J0 369, J0 370, J0 371, J0 372, J0 373, J0 374, J0 375, J0 376, J0 377, J0 378, J0 379, J0 380, J0 381, J0 382, J0 383, J0 384, J0 385, J0 386, J0 387, J0 388, J0 389, J0 390, J0 391], []⟩)
          (fun ⟨i0, ps, gs, l, here, vh, J0⟩ => [rRows true vh 39 9 spotC here, rRows true v28 3 1 idC gs, rTab tb ps gs vl vg T Sl Sg, rNds l, rEnv B ad [2], rEnv B ad [8], rEnv B ad [10], rEnv B ad [9], rEnv B ad [3], rArg v 5 ndaC acts, rEnvA B ad]) (fun ⟨i0, ps, gs, l, here, vh, J0⟩ => i0 ≤ acts.length ∧ NRel m i0 ps gs l here) (fun ⟨i0, ps, gs, l, here, vh, J0⟩ => acts.length - i0)
          ⟨0, List.replicate m none, List.replicate m 0, List.replicate m none, [], (.slice none 0 0), (fun n => (#[.int .i64 (m : Int), v, undef, undef, .bool false, .bool true, .pointer (some ⟨tb, 0, none⟩), .nilIface, v28, .slice none 0 0, .int .i64 0, undef, undef, undef, undef, undef, undef, undef, undef, undef, undef, undef, undef, undef, undef, undef, undef, undef, undef, .bool true, .bool true, .bool false, .bool false, v, .int .i64 (acts.length : Int), .bool b1, .bool b1, undef, .tuple #[.pointer (some ⟨tb, 0, none⟩), .nilIface], .int .i64 (m : Int), .tuple #[.pointer (some ⟨tb, 0, none⟩), .nilIface], .pointer (some ⟨tb, 0, none⟩), .nilIface, .int .i64 (m : Int), .bool b17, .bool b17, (if b17 = false then .int .i64 (m : Int) else undef), (if b17 = false then .bool b18 else undef), .bool b19, undef, undef, undef, undef, undef, undef, .nilIface, .bool false, .bool false, .pointer (some ⟨tb, 0, none⟩), .bool false, .bool false, .int .i64 (m : Int), v28, undef, undef, undef, undef, undef, undef, undef, undef, undef, undef, undef, undef, undef, undef, undef, undef, undef, undef, undef, undef, undef, undef, undef, undef, undef, undef, undef, undef, undef, undef, undef, undef, undef, undef, undef, undef, undef, undef, undef, undef, undef, undef, undef, undef, undef, undef, undef, undef, undef, undef, undef, undef, undef, undef, undef, undef, undef, undef, undef, undef, undef, undef, undef, undef, undef, undef, undef, undef, undef, undef, undef, undef, undef, undef, undef, undef, undef, undef, undef, undef, undef, undef, undef, undef, undef, undef, undef, undef, undef, undef, undef, undef, undef, undef, undef, undef, undef, undef, undef, undef, undef, undef, undef, undef, undef, undef, undef, undef, undef, undef, undef, undef, undef, undef, undef, undef, undef, undef, undef, undef, undef, undef, undef, undef, undef, undef, undef, undef, undef, undef, undef, undef, undef, undef, undef, undef, undef, undef, undef, undef, undef, undef, undef, undef, undef, undef, undef, undef, undef, undef, undef, undef, undef, undef, undef, undef, undef, undef, undef, undef, undef, undef, undef, undef, undef, undef, undef, undef, undef, undef, undef, undef, undef, undef, undef, undef, undef, undef, undef, undef, undef, undef, undef, undef, undef, undef, undef, undef, undef, undef, undef, undef, undef, undef, undef, undef, undef, undef, undef, undef, undef, undef, undef, undef, undef, undef, undef, undef, undef, undef, undef, undef, undef, undef, undef, undef, undef, undef, undef, undef, undef, undef, undef, undef, undef, undef, undef, undef, undef, undef, undef, undef, undef, undef, undef, undef, undef, undef, undef, undef, undef, undef, undef, undef, undef, undef, undef, undef, undef, undef, undef, undef, undef, undef, undef, undef, undef, undef, undef, undef, undef, undef, undef, undef, undef, undef, undef, undef, undef, undef, undef, undef, undef, undef, undef, undef, undef, undef, undef, undef, undef, undef, undef, undef, undef, undef, undef, undef, undef, undef, undef, undef, undef, undef, undef, undef, undef, undef, undef, undef, undef, undef, undef, undef, undef, undef, undef, undef, undef, undef, undef, undef, undef, undef, undef, undef, undef, undef, undef, undef, undef, undef, undef, undef, undef, undef, undef, undef, undef] : Array Value).getD n undef)⟩ ⟨by omega, NRel.new m⟩ (by kernel_rfl) [0, 0, 0, 0, 0, 0, 0, 0, 0, 0, 0] (by kernel_rfl) h ?_
        rintro ⟨i0, ps, gs, l, here, vh, J0⟩ w hG h
        obtain ⟨hi0, hR⟩ : i0 ≤ acts.length ∧ NRel m i0 ps gs l here := hG
        have hfw := hR.few
        refine c_seq ?_
        refine c_seq ?_
        refine c_reg ?_
        refine sq_p (.int .i64 (i0 : Int)) rfl (fun _ => by kernel_rfl) ?_
        refine sq_p (v) rfl (fun _ => by kernel_rfl) ?_
        refine sq_q rfl h (g_lenA 35 (by kernel_rfl) 9 rfl) ?_
        refine sq_p (.bool (decide ((i0 : Int) < (acts.length : Int)))) rfl (fun _ => by kernel_rfl) ?_
        refine lnil ?_
        refine thn_n ?_
        refine c_cond (decide ((i0 : Int) < (acts.length : Int))) (by kernel_rfl) (fun hc29 => ?_) (fun hc29 => ?_)
        · skip
          have hc29 := of_decide_eq_true hc29
          refine c_skip ?_
          refine thn_n ?_
          refine c_seq ?_
          refine c_block ?_
          refine c_seq ?_
          refine c_reg ?_
          refine sq_p (v) rfl (fun _ => by kernel_rfl) ?_
          refine sq_p (.int .i64 (i0 : Int)) rfl (fun _ => by kernel_rfl) ?_
          have hi30 : i0 < acts.length := by omega
          obtain ⟨x31, hx32⟩ : ∃ x, acts[i0]? = some x := ⟨_, List.getElem?_eq_getElem hi30⟩
          obtain ⟨ho1, ho2, ho3, ho4⟩ := hacts x31 (List.mem_of_getElem? hx32)
          refine sq_q rfl h (g_idxA 35 i0 (by kernel_rfl) hi30 9 rfl) ?_
          refine sq_q rfl h (g_ldr (b := blkN v) (offN v + i0 * 5) [.string x31.1, .int .i64 x31.2.1.1, .int .i64 x31.2.1.2.1, .int .i64 x31.2.2.1, .int .i64 x31.2.2.2.1] (.agg #[.string x31.1, .int .i64 x31.2.1.1, .int .i64 x31.2.1.2.1, .int .i64 x31.2.2.1, .int .i64 x31.2.2.2.1]) (by kernel_rfl) 9 rfl (rdArg0 hx32 (by kernel_rfl))) ?_
          refine sq_new rfl (fun b => .pointer (some ⟨b, 0, none⟩)) [.string (⟨#[]⟩ : ByteArray), .int .i64 0, .int .i64 0, .int .i64 0, .int .i64 0] 35 (fun _ => by kernel_rfl) h ?_; intro k33 w h
          refine sq_st rfl 0 [.string x31.1, .int .i64 x31.2.1.1, .int .i64 x31.2.1.2.1, .int .i64 x31.2.2.1, .int .i64 x31.2.2.2.1] [.string x31.1, .int .i64 x31.2.1.1, .int .i64 x31.2.1.2.1, .int .i64 x31.2.2.1, .int .i64 x31.2.2.2.1] h 0 rfl (by kernel_rfl) ?_; intro w h
          refine lnil ?_
          refine thn_n ?_
          refine c_seq ?_
          refine c_reg ?_
          refine sq_p (.int .i64 (-1)) rfl (fun _ => by kernel_rfl) ?_
          refine lnil ?_
          refine thn_n ?_
          refine c_seq ?_
          refine c_seq ?_
          refine c_reg ?_
          refine sq_p (.int .i64 0) rfl (fun _ => by kernel_rfl) ?_
          refine lnil ?_
          refine thn_n ?_
          refine c_block ?_
          refine c_loop (X := Nat × Int × (Nat → Value)) (fun ⟨j0, kx, J1⟩ => ⟨#[.int .i64 (m : Int), v, undef, undef, J0 4, .bool true, .pointer (some ⟨tb, 0, none⟩), .nilIface, v28, vh, .int .i64 (i0 : Int), .pointer (some ⟨k33, 0, none⟩), .int .i64 kx, .int .i64 (j0 : Int), J0 14, J0 15, J0 16, J0 17, J0 18, J0 19, J0 20, J0 21, J0 22, J0 23, J0 24, J0 25, J0 26, J0 27, J0 28, .bool true, .bool true, .bool false, .bool false, v, .int .i64 (acts.length : Int), .bool b1, .bool b1, undef, .tuple #[.pointer (some ⟨tb, 0, none⟩), .nilIface], .int .i64 (m : Int), .tuple #[.pointer (some ⟨tb, 0, none⟩), .nilIface], .pointer (some ⟨tb, 0, none⟩), .nilIface, .int .i64 (m : Int), .bool b17, .bool b17, (if b17 = false then .int .i64 (m : Int) else undef), (if b17 = false then .bool b18 else undef), .bool b19, undef, undef, undef, undef, undef, undef, .nilIface, .bool false, .bool false, .pointer (some ⟨tb, 0, none⟩), .bool false, .bool false, .int .i64 (m : Int), v28, .int .i64 (i0 : Int), v, .int .i64 (acts.length : Int), .bool (decide ((i0 : Int) < (acts.length : Int))), J0 67, J0 68, v, .int .i64 (i0 : Int), .pointer (some ⟨blkN v, offN v + i0 * 5, none⟩), .agg #[.string x31.1, .int .i64 x31.2.1.1, .int .i64 x31.2.1.2.1, .int .i64 x31.2.2.1, .int .i64 x31.2.2.2.1], J1 73, J1 74, J1 75, J1 76, J1 77, J1 78, J1 79, J1 80, J1 81, J1 82, J1 83, J1 84, J1 85, J1 86, J1 87, J0 88, J0 89, J0 90, J0 91, J0 92, J0 93, J0 94, J0 95, J0 96, J0 97, J0 98, J0 99, J0 100, J0 101, J0 102, J0 103, J0 104, J0 105, J0 106, J0 107, J0 108, J0 109, J0 110, J0 111, J0 112, J0 113, J0 114, J0 115, J0 116, J0 117, J0 118, J0 119, J0 120, J0 121, J0 122, J0 123, J0 124, J0 125, J0 126, J0 127, J0 128, J0 129, J0 130, J0 131, J0 132, J0 133, J0 134, J0 135, J0 136, J0 137, J0 138, J0 139, J0 140, J0 141, J0 142, J0 143, J0 144, J0 145, J0 146, J0 147, J0 148, J0 149, J0 150, J0 151, J0 152, J0 153, J0 154, J0 155, J0 156, J0 157, J0 158, J0 159, J0 160, J0 161, J0 162, J0 163, J0 164, J0 165, J0 166, J0 167, J0 168, J0 169, J0 170, J0 171, J0 172, J0 173, J0 174, J0 175, J0 176, J0 177, J0 178, J0 179, J0 180, J0 181, J0 182, J0 183, J0 184, J0 185, J0 186, J0 187, J0 188, J0 189, J0 190, J0 191, J0 192, J0 193, J0 194, J0 195, J0 196, J0 197, J0 198, J0 199, J0 200, J0 201, J0 202, J0 203, J0 204, J0 205, J0 206, J0 207, J0 208, J0 209, J0 210, J0 211, J0 212, J0 213, J0 214, J0 215, J0 216, J0 217, J0 218, J0 219, J0 220, J0 221, J0 222, J0 223, J0 224, J0 225, J0 226, J0 227, J0 228, J0 229, J0 230, J0 231, J0 232, J0 233, J0 234, J0 235, J0 236, J0 237, J0 238, J0 239, J0 240, J0 241, J0 242, J0 243, J0 244, J0 245, J0 246, J0 247, J0 248, J0 249, J0 250, J0 251, J0 252, J0 253, J0 254, J0 255, J0 256, J0 257, J0 258, J0 259, J0 260, J0 261, J0 262, J0 263, J0 264, J0 265, J0 266, J0 267, J0 268, J0 269, J0 270, J0 271, J0 272, J0 273, J0 274, J0 275, J0 276, J0 277, J0 278, J0 279, J0 280, J0 281, J0 282, J0 283, J0 284, J0 285, J0 286, J0 287, J0 288, J0 289, J0 290, J0 291, J0 292, J0 293, J0 294, J0 295, J0 296, J0 297, J0 298, J0 299, J0 300, J0 301, J0 302, J0 303, J0 304, J0 305, J0 306, J0 307, J0 308, J0 309, J0 310, J0 311, J0 312, J0 313, J0 314, J0 315, J0 316, J0 317, J0 318, J0 319, J0 320, J0 321, J0 322, J0 323, J0 324, J0 325, J0 326, J0 327, J0 328, J0 329, J0 330, J0 331, J0 332, J0 333, J0 334, J0 335, J0 336, J0 337, J0 338, J0 339, J0 340, J0 341, J0 342, J0 343, J0 344, J0 345, J0 346, J0 347, J0 348, J0 349, J0 350, J0 351, J0 352, J0 353, J0 354, J0 355, J0 356, J0 357, J0 358, J0 359, J0 360, J0 361, J0 362, J0 363, J0 364, J0 365, J0 366, J0 367, J0 368, J0 369, J0 370, J0 371, J0 372, J0 373, J0 374, J0 375, J0 376, J0 377, J0 378, J0 379, J0 380, J0 381, J0 382, J0 383, J0 384, J0 385, J0 386, J0 387, J0 388, J0 389, J0 390, J0 391], []⟩)
            (fun ⟨j0, kx, J1⟩ => [rCell true k33 [.string x31.1, .int .i64 x31.2.1.1, .int .i64 x31.2.1.2.1, .int .i64 x31.2.2.1, .int .i64 x31.2.2.2.1] 35, rRows true vh 39 9 spotC here, rRows true v28 3 1 idC gs, rTab tb ps gs vl vg T Sl Sg, rNds l, rEnv B ad [2], rEnv B ad [8], rEnv B ad [10], rEnv B ad [9], rEnv B ad [3], rArg v 5 ndaC acts, rEnvA B ad]) (fun ⟨j0, kx, J1⟩ => j0 ≤ here.length ∧ SearchAt here x31.2.1.1 x31.2.1.2.1 j0 kx) (fun ⟨j0, kx, J1⟩ => here.length - j0)
            ⟨0, (-1), (fun n => (#[.int .i64 (m : Int), v, undef, undef, J0 4, .bool true, .pointer (some ⟨tb, 0, none⟩), .nilIface, v28, vh, .int .i64 (i0 : Int), .pointer (some ⟨k33, 0, none⟩), .int .i64 (-1), .int .i64 0, J0 14, J0 15, J0 16, J0 17, J0 18, J0 19, J0 20, J0 21, J0 22, J0 23, J0 24, J0 25, J0 26, J0 27, J0 28, .bool true, .bool true, .bool false, .bool false, v, .int .i64 (acts.length : Int), .bool b1, .bool b1, undef, .tuple #[.pointer (some ⟨tb, 0, none⟩), .nilIface], .int .i64 (m : Int), .tuple #[.pointer (some ⟨tb, 0, none⟩), .nilIface], .pointer (some ⟨tb, 0, none⟩), .nilIface, .int .i64 (m : Int), .bool b17, .bool b17, (if b17 = false then .int .i64 (m : Int) else undef), (if b17 = false then .bool b18 else undef), .bool b19, undef, undef, undef, undef, undef, undef, .nilIface, .bool false, .bool false, .pointer (some ⟨tb, 0, none⟩), .bool false, .bool false, .int .i64 (m : Int), v28, .int .i64 (i0 : Int), v, .int .i64 (acts.length : Int), .bool (decide ((i0 : Int) < (acts.length : Int))), J0 67, J0 68, v, .int .i64 (i0 : Int), .pointer (some ⟨blkN v, offN v + i0 * 5, none⟩), .agg #[.string x31.1, .int .i64 x31.2.1.1, .int .i64 x31.2.1.2.1, .int .i64 x31.2.2.1, .int .i64 x31.2.2.2.1], J0 73, J0 74, J0 75, J0 76, J0 77, J0 78, J0 79, J0 80, J0 81, J0 82, J0 83, J0 84, J0 85, J0 86, J0 87, J0 88, J0 89, J0 90, J0 91, J0 92, J0 93, J0 94, J0 95, J0 96, J0 97, J0 98, J0 99, J0 100, J0 101, J0 102, J0 103, J0 104, J0 105, J0 106, J0 107, J0 108, J0 109, J0 110, J0 111, J0 112, J0 113, J0 114, J0 115, J0 116, J0 117, J0 118, J0 119, J0 120, J0 121, J0 122, J0 123, J0 124, J0 125, J0 126, J0 127, J0 128, J0 129, J0 130, J0 131, J0 132, J0 133, J0 134, J0 135, J0 136, J0 137, J0 138, J0 139, J0 140, J0 141, J0 142, J0 143, J0 144, J0 145, J0 146, J0 147, J0 148, J0 149, J0 150, J0 151, J0 152, J0 153, J0 154, J0 155, J0 156, J0 157, J0 158, J0 159, J0 160, J0 161, J0 162, J0 163, J0 164, J0 165, J0 166, J0 167, J0 168, J0 169, J0 170, J0 171, J0 172, J0 173, J0 174, J0 175, J0 176, J0 177, J0 178, J0 179, J0 180, J0 181, J0 182, J0 183, J0 184, J0 185, J0 186, J0 187, J0 188, J0 189, J0 190, J0 191, J0 192, J0 193, J0 194, J0 195, J0 196, J0 197, J0 198, J0 199, J0 200, J0 201, J0 202, J0 203, J0 204, J0 205, J0 206, J0 207, J0 208, J0 209, J0 210, J0 211, J0 212, J0 213, J0 214, J0 215, J0 216, J0 217, J0 218, J0 219, J0 220, J0 221, J0 222, J0 223, J0 224, J0 225, J0 226, J0 227, J0 228, J0 229, J0 230, J0 231, J0 232, J0 233, J0 234, J0 235, J0 236, J0 237, J0 238, J0 239, J0 240, J0 241, J0 242, J0 243, J0 244, J0 245, J0 246, J0 247, J0 248, J0 249, J0 250, J0 251, J0 252, J0 253, J0 254, J0 255, J0 256, J0 257, J0 258, J0 259, J0 260, J0 261, J0 262, J0 263, J0 264, J0 265, J0 266, J0 267, J0 268, J0 269, J0 270, J0 271, J0 272, J0 273, J0 274, J0 275, J0 276, J0 277, J0 278, J0 279, J0 280, J0 281, J0 282, J0 283, J0 284, J0 285, J0 286, J0 287, J0 288, J0 289, J0 290, J0 291, J0 292, J0 293, J0 294, J0 295, J0 296, J0 297, J0 298, J0 299, J0 300, J0 301, J0 302, J0 303, J0 304, J0 305, J0 306, J0 307, J0 308, J0 309, J0 310, J0 311, J0 312, J0 313, J0 314, J0 315, J0 316, J0 317, J0 318, J0 319, J0 320, J0 321, J0 322, J0 323, J0 324, J0 325, J0 326, J0 327, J0 328, J0 329, J0 330, J0 331, J0 332, J0 333, J0 334, J0 335, J0 336, J0 337, J0 338, J0 339, J0 340, J0 341, J0 342, J0 343, J0 344, J0 345, J0 346, J0 347, J0 348, J0 349, J0 350, J0 351, J0 352, J0 353, J0 354, J0 355, J0 356, J0 357, J0 358, J0 359, J0 360, J0 361, J0 362, J0 363, J0 364, J0 365, J0 366, J0 367, J0 368, J0 369, J0 370, J0 371, J0 372, J0 373, J0 374, J0 375, J0 376, J0 377, J0 378, J0 379, J0 380, J0 381, J0 382, J0 383, J0 384, J0 385, J0 386, J0 387, J0 388, J0 389, J0 390, J0 391] : Array Value).getD n undef)⟩ ⟨by omega, .inl ⟨rfl, fun i s h => by omega⟩⟩ (by kernel_rfl) [0, 0, 0, 0, 0, 0, 0, 0, 0, 0, 0, 0] (by kernel_rfl) h ?_
          rintro ⟨j0, kx, J1⟩ w hG h
          obtain ⟨hj0, hS⟩ : j0 ≤ here.length ∧ SearchAt here x31.2.1.1 x31.2.1.2.1 j0 kx := hG
          refine c_seq ?_
          refine c_seq ?_
          refine c_reg ?_
          refine sq_p (.int .i64 (j0 : Int)) rfl (fun _ => by kernel_rfl) ?_
          refine sq_p (vh) rfl (fun _ => by kernel_rfl) ?_
          refine sq_q rfl h (g_len (by kernel_rfl) 1 rfl) ?_
          refine sq_p (.bool (decide ((j0 : Int) < (here.length : Int)))) rfl (fun _ => by kernel_rfl) ?_
          refine lnil ?_
          refine thn_n ?_
          refine c_cond (decide ((j0 : Int) < (here.length : Int))) (by kernel_rfl) (fun hc34 => ?_) (fun hc34 => ?_)
          · skip
            have hc34 := of_decide_eq_true hc34
            refine c_skip ?_
            refine thn_n ?_
            refine c_seq ?_
            refine c_block ?_
            refine c_seq ?_
            refine d_start 8 [0, 0] (by kernel_rfl) h fun w h => ?_
            refine d_take 0 98 [0, 0] rfl (v := vh) (by kernel_rfl) (qp_thn (qp_blk (qp_thn (qp_rnd (qp_blk (qp_thn (qp_blk (qp_thn (qp_rnd (qp_blk (qp_thn qp_body))))))))))) (yq (by kernel_rfl) (g_pure (v := vh) fun _ => by kernel_rfl)) h (by kernel_rfl) ?_
            refine d_take 1 97 [0, 0] rfl (v := .int .i64 (j0 : Int)) (by kernel_rfl) (qp_thn (qp_blk (qp_thn (qp_rnd (qp_blk (qp_thn (qp_blk (qp_thn (qp_rnd (qp_blk (qp_thn qp_body))))))))))) (yq (by kernel_rfl) (g_pure (v := .int .i64 (j0 : Int)) fun _ => by kernel_rfl)) h (by kernel_rfl) ?_
            have hi35 : j0 < here.length := by omega
            obtain ⟨x36, hx37⟩ : ∃ x, here[j0]? = some x := ⟨_, List.getElem?_eq_getElem hi35⟩
            refine d_take 2 99 [0, 0] rfl (v := .pointer (some ⟨blkN vh, offN vh + j0 * 9, none⟩)) (by kernel_rfl) (qp_thn (qp_blk (qp_thn (qp_rnd (qp_blk (qp_thn (qp_blk (qp_thn (qp_rnd (qp_blk (qp_thn qp_body))))))))))) (yq (by kernel_rfl) (g_idx j0 (by kernel_rfl) hi35 1 rfl)) h (by kernel_rfl) ?_
            refine d_take 3 103 [0, 0] rfl (v := .pointer (some ⟨blkN vh, offN vh + j0 * 9, none⟩)) (by kernel_rfl) (qp_thn (qp_blk (qp_thn (qp_rnd (qp_blk (qp_thn (qp_blk (qp_thn (qp_rnd (qp_blk (qp_thn qp_body))))))))))) (yq (by kernel_rfl) (g_pure (v := .pointer (some ⟨blkN vh, offN vh + j0 * 9, none⟩)) fun _ => by kernel_rfl)) h (by kernel_rfl) ?_
            refine d_take 4 111 [0, 0] rfl (v := .agg #[.int .i64 x36.n, .int .i64 x36.g]) (by kernel_rfl) (qp_thn (qp_blk (qp_thn (qp_rnd (qp_blk (qp_thn (qp_blk (qp_thn (qp_rnd (qp_blk (qp_thn qp_body))))))))))) (yq (by kernel_rfl) (g_ldr (b := blkN vh) (offN vh + j0 * 9) [.int .i64 x36.n, .int .i64 x36.g] (.agg #[.int .i64 x36.n, .int .i64 x36.g]) (by kernel_rfl) 1 rfl (rdRow0 spotC_len hx37 (by kernel_rfl)))) h (by kernel_rfl) ?_
            refine d_take 5 31 [0, 0] rfl (v := .pointer (some ⟨k33, 1, none⟩)) (by kernel_rfl) (qp_thn (qp_blk (qp_thn (qp_rnd (qp_blk (qp_thn (qp_blk (qp_thn (qp_rnd (qp_blk (qp_thn qp_body))))))))))) (yq (by kernel_rfl) (g_pure (v := .pointer (some ⟨k33, 1, none⟩)) fun _ => by kernel_rfl)) h (by kernel_rfl) ?_
            refine d_take 6 63 [0, 0] rfl (v := .agg #[.int .i64 x31.2.1.1, .int .i64 x31.2.1.2.1]) (by kernel_rfl) (qp_thn (qp_blk (qp_thn (qp_rnd (qp_blk (qp_thn (qp_blk (qp_thn (qp_rnd (qp_blk (qp_thn qp_body))))))))))) (yq (by kernel_rfl) (g_ld 1 [.int .i64 x31.2.1.1, .int .i64 x31.2.1.2.1] (.agg #[.int .i64 x31.2.1.1, .int .i64 x31.2.1.2.1]) (by kernel_rfl) 0 rfl)) h (by kernel_rfl) ?_
            refine d_take 7 127 [0, 0] rfl (v := .bool ((decide (x36.n = x31.2.1.1)) && (decide (x36.g = x31.2.1.2.1)))) (by kernel_rfl) (qp_thn (qp_blk (qp_thn (qp_rnd (qp_blk (qp_thn (qp_blk (qp_thn (qp_rnd (qp_blk (qp_thn qp_body))))))))))) (yq (by kernel_rfl) (g_eqH (by kernel_rfl))) h (by kernel_rfl) ?_
            refine d_done (by kernel_rfl) ?_
            refine thn_n ?_
            refine c_cond (((decide (x36.n = x31.2.1.1)) && (decide (x36.g = x31.2.1.2.1)))) (by kernel_rfl) (fun hc38 => ?_) (fun hc38 => ?_)
            · skip
              have q39 : (decide (x36.n = x31.2.1.1)) = true := by revert hc38; cases (decide (x36.n = x31.2.1.1)) <;> simp
              have q40 : (decide (x36.g = x31.2.1.2.1)) = true := by revert hc38; cases (decide (x36.n = x31.2.1.1)) <;> cases (decide (x36.g = x31.2.1.2.1)) <;> simp
              have q39 := of_decide_eq_true q39
              have q40 := of_decide_eq_true q40
              have hmT : (x36.n = x31.2.1.1 ∧ x36.g = x31.2.1.2.1) := by simpa using hc38
              refine c_reg ?_
              refine sq_p (.int .i64 (j0 : Int)) rfl (fun _ => by kernel_rfl) ?_
              refine sq_p (.int .i64 (j0 : Int)) rfl (fun _ => by kernel_rfl) ?_
              refine lnil ?_
              refine blk_n (thn_n ?_)
              refine c_reg ?_
              refine sq_p (.int .i64 (j0 : Int)) rfl (fun _ => by kernel_rfl) ?_
              refine sq_q rfl h (g_eq (v := .int .i64 (IntKind.i64.wrap ((j0 : Int) + 1))) (v' := .int .i64 ((j0 + 1 : Nat) : Int)) (g_pure fun _ => by kernel_rfl) (wr (by omega))) ?_
              refine sq_p (.int .i64 ((j0 + 1 : Nat) : Int)) rfl (fun _ => by kernel_rfl) ?_
              refine lnil ?_
              refine loop_end (fun j => ⟨(j0 + 1), (j0 : Int), j⟩) (show ((j0 + 1) ≤ here.length ∧ SearchAt here x31.2.1.1 x31.2.1.2.1 (j0 + 1) (j0 : Int)) ∧ (here.length - (j0 + 1)) < (here.length - j0) from ⟨⟨by omega, SearchAt.hit hx37 hmT⟩, by omega⟩) (by kernel_rfl) [0, 0, 0, 0, 0, 0, 0, 0, 0, 0, 0, 0] (by kernel_rfl) h
            · skip
              have q41 : ¬ (x36.n = x31.2.1.1 ∧ x36.g = x31.2.1.2.1) := fun hh => by rw [decide_eq_true hh.1, decide_eq_true hh.2] at hc38; cases hc38
              have hmT : ¬ (x36.n = x31.2.1.1 ∧ x36.g = x31.2.1.2.1) := by simpa using hc38
              refine c_skip ?_
              refine blk_n (thn_n ?_)
              refine c_reg ?_
              refine sq_p (.int .i64 (j0 : Int)) rfl (fun _ => by kernel_rfl) ?_
              refine sq_q rfl h (g_eq (v := .int .i64 (IntKind.i64.wrap ((j0 : Int) + 1))) (v' := .int .i64 ((j0 + 1 : Nat) : Int)) (g_pure fun _ => by kernel_rfl) (wr (by omega))) ?_
              refine sq_p (.int .i64 ((j0 + 1 : Nat) : Int)) rfl (fun _ => by kernel_rfl) ?_
              refine lnil ?_
              refine loop_end (fun j => ⟨(j0 + 1), kx, j⟩) (show ((j0 + 1) ≤ here.length ∧ SearchAt here x31.2.1.1 x31.2.1.2.1 (j0 + 1) kx) ∧ (here.length - (j0 + 1)) < (here.length - j0) from ⟨⟨by omega, hS.miss hx37 hmT⟩, by omega⟩) (by kernel_rfl) [0, 0, 0, 0, 0, 0, 0, 0, 0, 0, 0, 0] (by kernel_rfl) h
          · skip
            have hc34 := of_decide_eq_false hc34
            refine c_exit ?_
            refine thn_e (rnd_e (blk_e (thn_n ?_)))
            refine c_seq ?_
            refine c_reg ?_
            refine sq_p (.int .i64 0) rfl (fun _ => by kernel_rfl) ?_
            refine lnil ?_
            refine thn_n ?_
            refine c_seq ?_
            refine c_seq ?_
            refine c_reg ?_
            refine sq_p (.int .i64 kx) rfl (fun _ => by kernel_rfl) ?_
            refine sq_p (.bool (decide (kx < 0))) rfl (fun _ => by kernel_rfl) ?_
            refine lnil ?_
            refine thn_n ?_
            refine c_mid (midM (X := Int × (Nat → Value)) w0 E (fun ⟨stl, JM1⟩ => ⟨#[.int .i64 (m : Int), v, undef, undef, J0 4, .bool true, .pointer (some ⟨tb, 0, none⟩), .nilIface, v28, vh, .int .i64 (i0 : Int), .pointer (some ⟨k33, 0, none⟩), .int .i64 kx, .int .i64 (j0 : Int), .int .i64 stl, J0 15, J0 16, J0 17, J0 18, J0 19, J0 20, J0 21, J0 22, J0 23, J0 24, J0 25, J0 26, J0 27, J0 28, .bool true, .bool true, .bool false, .bool false, v, .int .i64 (acts.length : Int), .bool b1, .bool b1, undef, .tuple #[.pointer (some ⟨tb, 0, none⟩), .nilIface], .int .i64 (m : Int), .tuple #[.pointer (some ⟨tb, 0, none⟩), .nilIface], .pointer (some ⟨tb, 0, none⟩), .nilIface, .int .i64 (m : Int), .bool b17, .bool b17, (if b17 = false then .int .i64 (m : Int) else undef), (if b17 = false then .bool b18 else undef), .bool b19, undef, undef, undef, undef, undef, undef, .nilIface, .bool false, .bool false, .pointer (some ⟨tb, 0, none⟩), .bool false, .bool false, .int .i64 (m : Int), v28, .int .i64 (i0 : Int), v, .int .i64 (acts.length : Int), .bool (decide ((i0 : Int) < (acts.length : Int))), J0 67, J0 68, v, .int .i64 (i0 : Int), .pointer (some ⟨blkN v, offN v + i0 * 5, none⟩), .agg #[.string x31.1, .int .i64 x31.2.1.1, .int .i64 x31.2.1.2.1, .int .i64 x31.2.2.1, .int .i64 x31.2.2.2.1], .int .i64 (j0 : Int), vh, .int .i64 (here.length : Int), .bool (decide ((j0 : Int) < (here.length : Int))), J1 77, J1 78, J1 79, J1 80, J1 81, J1 82, J1 83, J1 84, J1 85, J1 86, J1 87, .int .i64 kx, .bool (decide (kx < 0)), J0 90, J0 91, J0 92, J0 93, J0 94, J0 95, J0 96, J0 97, J0 98, J0 99, J0 100, J0 101, J0 102, J0 103, J0 104, J0 105, J0 106, J0 107, J0 108, J0 109, J0 110, J0 111, J0 112, J0 113, J0 114, J0 115, J0 116, J0 117, J0 118, J0 119, J0 120, J0 121, J0 122, J0 123, J0 124, J0 125, J0 126, J0 127, J0 128, J0 129, J0 130, J0 131, J0 132, J0 133, J0 134, J0 135, J0 136, J0 137, J0 138, J0 139, J0 140, J0 141, J0 142, J0 143, J0 144, J0 145, J0 146, J0 147, J0 148, J0 149, J0 150, J0 151, J0 152, J0 153, J0 154, J0 155, J0 156, J0 157, J0 158, J0 159, J0 160, J0 161, J0 162, J0 163, J0 164, J0 165, J0 166, J0 167, J0 168, J0 169, J0 170, J0 171, J0 172, J0 173, J0 174, J0 175, J0 176, J0 177, J0 178, J0 179, J0 180, J0 181, J0 182, J0 183, J0 184, J0 185, J0 186, J0 187, J0 188, J0 189, J0 190, J0 191, J0 192, J0 193, J0 194, J0 195, J0 196, J0 197, J0 198, J0 199, J0 200, J0 201, J0 202, J0 203, J0 204, J0 205, J0 206, J0 207, J0 208, J0 209, J0 210, J0 211, J0 212, J0 213, J0 214, J0 215, J0 216, J0 217, J0 218, J0 219, J0 220, J0 221, J0 222, J0 223, J0 224, J0 225, J0 226, J0 227, J0 228, J0 229, J0 230, J0 231, J0 232, J0 233, J0 234, J0 235, J0 236, J0 237, J0 238, J0 239, J0 240, J0 241, J0 242, J0 243, J0 244, J0 245, J0 246, J0 247, J0 248, J0 249, J0 250, J0 251, J0 252, J0 253, J0 254, J0 255, J0 256, J0 257, J0 258, J0 259, J0 260, J0 261, J0 262, J0 263, J0 264, J0 265, J0 266, J0 267, J0 268, J0 269, J0 270, J0 271, J0 272, J0 273, J0 274, J0 275, J0 276, J0 277, J0 278, J0 279, J0 280, J0 281, J0 282, J0 283, J0 284, J0 285, J0 286, J0 287, J0 288, J0 289, J0 290, J0 291, J0 292, J0 293, J0 294, J0 295, J0 296, J0 297, J0 298, J0 299, J0 300, J0 301, J0 302, J0 303, J0 304, J0 305, J0 306, J0 307, J0 308, J0 309, J0 310, J0 311, J0 312, J0 313, J0 314, J0 315, J0 316, J0 317, J0 318, J0 319, J0 320, J0 321, J0 322, J0 323, J0 324, J0 325, J0 326, J0 327, J0 328, J0 329, J0 330, J0 331, J0 332, J0 333, J0 334, J0 335, J0 336, J0 337, J0 338, J0 339, J0 340, J0 341, J0 342, J0 343, J0 344, J0 345, J0 346, J0 347, J0 348, J0 349, J0 350, J0 351, J0 352, J0 353, J0 354, J0 355, J0 356, J0 357, J0 358, J0 359, J0 360, J0 361, J0 362, J0 363, J0 364, J0 365, J0 366, J0 367, J0 368, J0 369, J0 370, J0 371, J0 372, J0 373, J0 374, J0 375, J0 376, J0 377, J0 378, J0 379, J0 380, J0 381, J0 382, J0 383, J0 384, J0 385, J0 386, J0 387, J0 388, J0 389, J0 390, J0 391], []⟩) (fun ⟨stl, JM1⟩ => [rCell true k33 [.string x31.1, .int .i64 x31.2.1.1, .int .i64 x31.2.1.2.1, .int .i64 x31.2.2.1, .int .i64 x31.2.2.2.1] 35, rRows true vh 39 9 spotC here, rRows true v28 3 1 idC gs, rTab tb ps gs vl vg T Sl Sg, rNds l, rEnv B ad [2], rEnv B ad [8], rEnv B ad [10], rEnv B ad [9], rEnv B ad [3], rArg v 5 ndaC acts, rEnvA B ad]) (fun ⟨stl, JM1⟩ => MidK here x31.2.1.1 x31.2.1.2.1 kx stl)) ?_ ?_
            · skip
              refine c_cond (decide (kx < 0)) (by kernel_rfl) (fun hc42 => ?_) (fun hc42 => ?_)
              · skip
                have hc42 := of_decide_eq_true hc42
                have hM89 : MidK here x31.2.1.1 x31.2.1.2.1 kx 10 := .inl ⟨rfl, by omega, hS.none (by omega) (by omega)⟩
                refine c_reg ?_
                refine sq_p (.int .i64 10) rfl (fun _ => by kernel_rfl) ?_
                refine lnil ?_
                refine mid_n ?_
                have hQ43 : MidK here x31.2.1.1 x31.2.1.2.1 kx 10 := hM89
                refine mid_end (fun j => ⟨10, j⟩) hQ43 (by kernel_rfl) [0, 0, 0, 0, 0, 0, 0, 0, 0, 0, 0, 0] (by kernel_rfl) h
              · skip
                have hc42 := of_decide_eq_false hc42
                have hM89 : MidK here x31.2.1.1 x31.2.1.2.1 kx 0 := .inr ⟨rfl, hS.some (by omega)⟩
                refine c_skip ?_
                refine mid_n ?_
                have hQ44 : MidK here x31.2.1.1 x31.2.1.2.1 kx 0 := hM89
                refine mid_end (fun j => ⟨0, j⟩) hQ44 (by kernel_rfl) [0, 0, 0, 0, 0, 0, 0, 0, 0, 0, 0, 0] (by kernel_rfl) h
            · skip
              rintro a_ w ⟨⟨stl, JM1⟩, hG, rfl, h⟩
              have hK : MidK here x31.2.1.1 x31.2.1.2.1 kx stl := hG
              refine thn_n ?_
              refine c_seq ?_
              refine c_seq ?_
              refine c_reg ?_
              refine sq_p (.pointer (some ⟨k33, 0, none⟩)) rfl (fun _ => by kernel_rfl) ?_
              refine sq_q rfl h (g_ld 0 [.string x31.1] (.string x31.1) (by kernel_rfl) 0 rfl) ?_
              refine lnil ?_
              refine thn_n ?_
              refine c_mid (midM (X := List (Option Nat) × List Int × List (Option ND) × List Spot × Value × (Nat → Value)) w0 E (fun ⟨psM, gsM, lM, hereM, vhM, JM2⟩ => ⟨#[.int .i64 (m : Int), v, undef, undef, JM2 4, .bool true, .pointer (some ⟨tb, 0, none⟩), .nilIface, v28, vhM, .int .i64 (i0 : Int), .pointer (some ⟨k33, 0, none⟩), .int .i64 kx, .int .i64 (j0 : Int), .int .i64 stl, JM2 15, JM2 16, JM2 17, JM2 18, JM2 19, JM2 20, JM2 21, JM2 22, JM2 23, J0 24, J0 25, J0 26, J0 27, J0 28, .bool true, .bool true, .bool false, .bool false, v, .int .i64 (acts.length : Int), .bool b1, .bool b1, undef, .tuple #[.pointer (some ⟨tb, 0, none⟩), .nilIface], .int .i64 (m : Int), .tuple #[.pointer (some ⟨tb, 0, none⟩), .nilIface], .pointer (some ⟨tb, 0, none⟩), .nilIface, .int .i64 (m : Int), .bool b17, .bool b17, (if b17 = false then .int .i64 (m : Int) else undef), (if b17 = false then .bool b18 else undef), .bool b19, undef, undef, undef, undef, undef, undef, .nilIface, .bool false, .bool false, .pointer (some ⟨tb, 0, none⟩), .bool false, .bool false, .int .i64 (m : Int), v28, .int .i64 (i0 : Int), v, .int .i64 (acts.length : Int), .bool (decide ((i0 : Int) < (acts.length : Int))), J0 67, J0 68, v, .int .i64 (i0 : Int), .pointer (some ⟨blkN v, offN v + i0 * 5, none⟩), .agg #[.string x31.1, .int .i64 x31.2.1.1, .int .i64 x31.2.1.2.1, .int .i64 x31.2.2.1, .int .i64 x31.2.2.2.1], .int .i64 (j0 : Int), vh, .int .i64 (here.length : Int), .bool (decide ((j0 : Int) < (here.length : Int))), J1 77, J1 78, J1 79, J1 80, J1 81, J1 82, J1 83, J1 84, J1 85, J1 86, J1 87, .int .i64 kx, .bool (decide (kx < 0)), .pointer (some ⟨k33, 0, none⟩), .string x31.1, JM2 92, JM2 93, JM2 94, JM2 95, JM2 96, JM2 97, JM2 98, JM2 99, JM2 100, JM2 101, JM2 102, JM2 103, JM2 104, JM2 105, JM2 106, JM2 107, JM2 108, JM2 109, JM2 110, JM2 111, JM2 112, JM2 113, JM2 114, JM2 115, JM2 116, JM2 117, JM2 118, JM2 119, JM2 120, JM2 121, JM2 122, JM2 123, JM2 124, JM2 125, JM2 126, JM2 127, JM2 128, JM2 129, JM2 130, JM2 131, JM2 132, JM2 133, JM2 134, JM2 135, JM2 136, JM2 137, JM2 138, JM2 139, JM2 140, JM2 141, JM2 142, JM2 143, JM2 144, JM2 145, JM2 146, JM2 147, JM2 148, JM2 149, JM2 150, JM2 151, JM2 152, JM2 153, JM2 154, JM2 155, JM2 156, JM2 157, JM2 158, JM2 159, JM2 160, JM2 161, JM2 162, JM2 163, JM2 164, JM2 165, JM2 166, JM2 167, JM2 168, JM2 169, JM2 170, JM2 171, JM2 172, JM2 173, JM2 174, JM2 175, JM2 176, JM2 177, JM2 178, JM2 179, JM2 180, JM2 181, JM2 182, JM2 183, JM2 184, JM2 185, JM2 186, JM2 187, JM2 188, JM2 189, JM2 190, JM2 191, JM2 192, JM2 193, JM2 194, JM2 195, JM2 196, JM2 197, JM2 198, JM2 199, JM2 200, JM2 201, JM2 202, JM2 203, JM2 204, JM2 205, JM2 206, JM2 207, JM2 208, JM2 209, JM2 210, JM2 211, JM2 212, JM2 213, JM2 214, JM2 215, JM2 216, JM2 217, JM2 218, JM2 219, JM2 220, JM2 221, JM2 222, JM2 223, JM2 224, JM2 225, JM2 226, JM2 227, JM2 228, JM2 229, JM2 230, JM2 231, JM2 232, JM2 233, JM2 234, JM2 235, JM2 236, JM2 237, JM2 238, JM2 239, JM2 240, JM2 241, JM2 242, JM2 243, JM2 244, JM2 245, JM2 246, JM2 247, JM2 248, JM2 249, JM2 250, JM2 251, JM2 252, JM2 253, JM2 254, JM2 255, JM2 256, JM2 257, JM2 258, JM2 259, JM2 260, JM2 261, JM2 262, JM2 263, JM2 264, JM2 265, JM2 266, JM2 267, JM2 268, JM2 269, JM2 270, JM2 271, JM2 272, JM2 273, JM2 274, JM2 275, JM2 276, JM2 277, JM2 278, JM2 279, JM2 280, JM2 281, JM2 282, JM2 283, JM2 284, JM2 285, JM2 286, JM2 287, JM2 288, JM2 289, JM2 290, JM2 291, JM2 292, JM2 293, JM2 294, JM2 295, JM2 296, JM2 297, JM2 298, JM2 299, JM2 300, JM2 301, JM2 302, JM2 303, JM2 304, JM2 305, JM2 306, JM2 307, JM2 308, JM2 309, JM2 310, JM2 311, JM2 312, JM2 313, JM2 314, JM2 315, JM2 316, JM2 317, JM2 318, JM2 319, JM2 320, JM2 321, JM2 322, JM2 323, JM2 324, JM2 325, JM2 326, JM2 327, JM2 328, JM2 329, JM2 330, JM2 331, JM2 332, JM2 333, JM2 334, JM2 335, JM2 336, JM2 337, JM2 338, JM2 339, JM2 340, JM2 341, J0 342, J0 343, J0 344, J0 345, J0 346, J0 347, J0 348, J0 349, J0 350, J0 351, J0 352, J0 353, J0 354, J0 355, J0 356, J0 357, J0 358, J0 359, J0 360, J0 361, J0 362, J0 363, J0 364, J0 365, J0 366, J0 367, J0 368, J0 369, J0 370, J0 371, J0 372, J0 373, J0 374, J0 375, J0 376, J0 377, J0 378, J0 379, J0 380, J0 381, J0 382, J0 383, J0 384, J0 385, J0 386, J0 387, J0 388, J0 389, J0 390, J0 391], []⟩) (fun ⟨psM, gsM, lM, hereM, vhM, JM2⟩ => [rCell true k33 [.string x31.1, .int .i64 x31.2.1.1, .int .i64 x31.2.1.2.1, .int .i64 x31.2.2.1, .int .i64 x31.2.2.2.1] 35, rRows true vhM 39 9 spotC hereM, rRows true v28 3 1 idC gsM, rTab tb psM gsM vl vg T Sl Sg, rNds lM, rEnv B ad [2], rEnv B ad [8], rEnv B ad [10], rEnv B ad [9], rEnv B ad [3], rArg v 5 ndaC acts, rEnvA B ad]) (fun ⟨psM, gsM, lM, hereM, vhM, JM2⟩ => NRel m (i0 + 1) psM gsM lM hereM)) ?_ ?_
              · skip
                refine c_block ?_
                refine c_seq ?_
                refine c_reg ?_
                refine sq_q rfl h (g_eq (v := .bool (x31.1.toList == (⟨#[97, 100, 100]⟩ : ByteArray).toList)) (v' := .bool (decide (x31.1 = (⟨#[97, 100, 100]⟩ : ByteArray)))) (g_pure fun _ => by kernel_rfl) beqS) ?_
                refine sq_p (.bool (decide (x31.1 = (⟨#[97, 100, 100]⟩ : ByteArray)))) rfl (fun _ => by kernel_rfl) ?_
                refine lnil ?_
                refine thn_n ?_
                refine c_cond (decide (x31.1 = (⟨#[97, 100, 100]⟩ : ByteArray))) (by kernel_rfl) (fun hc45 => ?_) (fun hc45 => ?_)
                · skip
                  have hc45 := of_decide_eq_true hc45
                  refine c_seq ?_
                  refine c_reg ?_
                  refine sq_p (.pointer (some ⟨tb, 0, none⟩)) rfl (fun _ => by kernel_rfl) ?_
                  refine sq_p (.pointer (some ⟨k33, 3, none⟩)) rfl (fun _ => by kernel_rfl) ?_
                  refine sq_q rfl h (g_ld 3 [.int .i64 x31.2.2.1] (.int .i64 x31.2.2.1) (by kernel_rfl) 0 rfl) ?_
                  refine sq_call #[.pointer (some ⟨tb, 0, none⟩), .int .i64 x31.2.2.1] [3, 3, 7, 6] rfl (tabAdd_spec ad tb x31.2.2.1 ps gs vl vg T Sl Sg l (by rw [hR.lp]; omega) (by rw [hR.lp, hR.lg]) (fun y hy => by have := hR.rng y hy; omega)) (fun _ => by kernel_rfl) h ?_; rintro v_ L_ w (⟨ha46, ha46b, rfl, rfl⟩ | ⟨ha47, hf49, rfl, rfl⟩ | ⟨ha48, kf, xk, nb52, dq53, hf49k, hxk50, hnq51, rfl, rfl⟩) h
                  · skip
                    refine sq_p (.tuple #[.agg #[.int .i64 0, .int .i64 0], errV ad 3]) rfl (fun _ => by kernel_rfl) ?_
                    refine sq_p (.agg #[.int .i64 0, .int .i64 0]) rfl (fun _ => by kernel_rfl) ?_
                    refine sq_p (errV ad 3) rfl (fun _ => by kernel_rfl) ?_
                    refine sq_new rfl (fun b => .pointer (some ⟨b, 0, none⟩)) [.int .i64 0, .int .i64 0] 33 (fun _ => by kernel_rfl) h ?_; intro k54 w h
                    refine sq_st rfl 0 [.int .i64 0, .int .i64 0] [.int .i64 0, .int .i64 0] h 0 rfl (by kernel_rfl) ?_; intro w h
                    refine sq_p (errV ad 3) rfl (fun _ => by kernel_rfl) ?_
                    refine lnil ?_
                    refine thn_n ?_
                    refine c_seq ?_
                    refine c_seq ?_
                    refine c_reg ?_
                    refine sq_p (.pointer (some ⟨k33, 3, none⟩)) rfl (fun _ => by kernel_rfl) ?_
                    refine sq_q rfl h (g_ld 3 [.int .i64 x31.2.2.1] (.int .i64 x31.2.2.1) (by kernel_rfl) 5 rfl) ?_
                    obtain ⟨b55, hb55⟩ : ∃ b_ : Bool, b_ = (!(decide (x31.2.2.1 = 1))) := ⟨_, rfl⟩
                    refine sq_q (v := .bool b55) rfl h (by subst hb55; exact g_pure (v := .bool (!(decide (x31.2.2.1 = 1)))) fun _ => by kernel_rfl) ?_
                    refine sq_p (.bool b55) rfl (fun _ => by kernel_rfl) ?_
                    refine sq_m1 (v := .pointer (some ⟨k33, 3, none⟩)) b55 (by cases b55 <;> kernel_rfl) h (fun hB => by subst hB; exact g_pure (v := .pointer (some ⟨k33, 3, none⟩)) fun _ => by kernel_rfl) ?_
                    refine sq_m1 (v := .int .i64 x31.2.2.1) b55 (by cases b55 <;> kernel_rfl) h (fun hB => by subst hB; exact g_ld 3 [.int .i64 x31.2.2.1] (.int .i64 x31.2.2.1) (by kernel_rfl) 5 rfl) ?_
                    obtain ⟨b56, hb56⟩ : ∃ b_ : Bool, b_ = (!(decide (x31.2.2.1 = 2))) := ⟨_, rfl⟩
                    refine sq_m1 (v := .bool b56) b55 (by cases b55 <;> kernel_rfl) h (fun hB => by subst hB; exact by subst hb56; exact g_pure (v := .bool (!(decide (x31.2.2.1 = 2)))) fun _ => by kernel_rfl) ?_
                    obtain ⟨b57, hb57⟩ : ∃ b_ : Bool, b_ = (b55 && b56) := ⟨_, rfl⟩
                    refine sq_q (v := .bool b57) rfl h (by subst hb57; exact g_pure (v := .bool (b55 && b56)) fun _ => by cases b55 <;> kernel_rfl) ?_
                    refine lnil ?_
                    refine thn_n ?_
                    refine c_cond (b57) (by kernel_rfl) (fun hc58 => ?_) (fun hc58 => ?_)
                    · skip
                      have q59 : (b55 && b56) = true := by rw [← hb57]; exact hc58
                      have q60 : b55 = true := by revert q59; cases b55 <;> simp
                      have q61 : b56 = true := by revert q59; cases b55 <;> cases b56 <;> simp
                      have q62 : (!(decide (x31.2.2.1 = 1))) = true := by rw [← hb55]; exact q60
                      have q63 : (decide (x31.2.2.1 = 1)) = false := by simpa using q62
                      have q63 := of_decide_eq_false q63
                      have q64 : (!(decide (x31.2.2.1 = 2))) = true := by rw [← hb56]; exact q61
                      have q65 : (decide (x31.2.2.1 = 2)) = false := by simpa using q64
                      have q65 := of_decide_eq_false q65
                      refine c_seq ?_
                      refine c_seq ?_
                      refine c_reg ?_
                      refine sq_p (errV ad 3) rfl (fun _ => by kernel_rfl) ?_
                      refine sq_call #[errV ad 3, .int .i64 3] [12] rfl (coded1_spec ad 3 3 (by decide) (by first | decide | omega)) (fun _ => by kernel_rfl) h ?_; rintro v_ L_ w ⟨rfl, rfl⟩ h
                      refine sq_p (.bool false) rfl (fun _ => by kernel_rfl) ?_
                      refine sq_p (.bool false) rfl (fun _ => by kernel_rfl) ?_
                      refine sq_q (by kernel_rfl) h (g_ld 0 [.int .i64 0, .int .i64 0] (.agg #[.int .i64 0, .int .i64 0]) (by kernel_rfl) 1 rfl) ?_
                      refine sq_p (.agg #[.int .i64 0, .int .i64 0]) (by kernel_rfl) (fun _ => by kernel_rfl) ?_
                      refine sq_q (by kernel_rfl) h (g_eq (v := .bool (!((decide ((0 : Int) = 0)) && (decide ((0 : Int) = 0))))) (v' := .bool false) (g_neH (by kernel_rfl)) (by rfl)) ?_
                      refine sq_p (.bool false) rfl (fun _ => by kernel_rfl) ?_
                      refine lnil ?_
                      refine thn_n ?_
                      refine c_false (by kernel_rfl) ?_
                      refine c_skip ?_
                      refine thn_n ?_
                      refine c_exit ?_
                      refine thn_e (blk_x rfl (mid_e (thn_e (blk_e (thn_n ?_)))))
                      refine c_reg ?_
                      refine sq_p (.int .i64 (i0 : Int)) rfl (fun _ => by kernel_rfl) ?_
                      refine sq_q rfl h (g_eq (v := .int .i64 (IntKind.i64.wrap ((i0 : Int) + 1))) (v' := .int .i64 ((i0 + 1 : Nat) : Int)) (g_pure fun _ => by kernel_rfl) (wr (by omega))) ?_
                      refine sq_p (.int .i64 ((i0 + 1 : Nat) : Int)) rfl (fun _ => by kernel_rfl) ?_
                      refine lnil ?_
                      refine loop_end (fun j => ⟨(i0 + 1), ps, gs, l, here, vh, j⟩) (show ((i0 + 1) ≤ acts.length ∧ NRel m (i0 + 1) ps gs l here) ∧ (acts.length - (i0 + 1)) < (acts.length - i0) from ⟨⟨by omega, (hR.mono (by omega))⟩, by omega⟩) (by kernel_rfl) [7, 7, 2, 2, 5, 5, 5, 3, 2, 3, 0] (by kernel_rfl) h
                    · skip
                      have q66 : (b55 && b56) = false := by rw [← hb57]; exact hc58
                      exfalso; revert hc58; subst hb57; subst hb56; subst hb55; simp; omega
                  · skip
                    refine sq_p (.tuple #[.agg #[.int .i64 0, .int .i64 0], errV ad 9]) rfl (fun _ => by kernel_rfl) ?_
                    refine sq_p (.agg #[.int .i64 0, .int .i64 0]) rfl (fun _ => by kernel_rfl) ?_
                    refine sq_p (errV ad 9) rfl (fun _ => by kernel_rfl) ?_
                    refine sq_new rfl (fun b => .pointer (some ⟨b, 0, none⟩)) [.int .i64 0, .int .i64 0] 33 (fun _ => by kernel_rfl) h ?_; intro k67 w h
                    refine sq_st rfl 0 [.int .i64 0, .int .i64 0] [.int .i64 0, .int .i64 0] h 0 rfl (by kernel_rfl) ?_; intro w h
                    refine sq_p (errV ad 9) rfl (fun _ => by kernel_rfl) ?_
                    refine lnil ?_
                    refine thn_n ?_
                    refine c_seq ?_
                    refine c_seq ?_
                    refine c_reg ?_
                    refine sq_p (.pointer (some ⟨k33, 3, none⟩)) rfl (fun _ => by kernel_rfl) ?_
                    refine sq_q rfl h (g_ld 3 [.int .i64 x31.2.2.1] (.int .i64 x31.2.2.1) (by kernel_rfl) 5 rfl) ?_
                    obtain ⟨b68, hb68⟩ : ∃ b_ : Bool, b_ = (!(decide (x31.2.2.1 = 1))) := ⟨_, rfl⟩
                    refine sq_q (v := .bool b68) rfl h (by subst hb68; exact g_pure (v := .bool (!(decide (x31.2.2.1 = 1)))) fun _ => by kernel_rfl) ?_
                    refine sq_p (.bool b68) rfl (fun _ => by kernel_rfl) ?_
                    refine sq_m1 (v := .pointer (some ⟨k33, 3, none⟩)) b68 (by cases b68 <;> kernel_rfl) h (fun hB => by subst hB; exact g_pure (v := .pointer (some ⟨k33, 3, none⟩)) fun _ => by kernel_rfl) ?_
                    refine sq_m1 (v := .int .i64 x31.2.2.1) b68 (by cases b68 <;> kernel_rfl) h (fun hB => by subst hB; exact g_ld 3 [.int .i64 x31.2.2.1] (.int .i64 x31.2.2.1) (by kernel_rfl) 5 rfl) ?_
                    obtain ⟨b69, hb69⟩ : ∃ b_ : Bool, b_ = (!(decide (x31.2.2.1 = 2))) := ⟨_, rfl⟩
                    refine sq_m1 (v := .bool b69) b68 (by cases b68 <;> kernel_rfl) h (fun hB => by subst hB; exact by subst hb69; exact g_pure (v := .bool (!(decide (x31.2.2.1 = 2)))) fun _ => by kernel_rfl) ?_
                    obtain ⟨b70, hb70⟩ : ∃ b_ : Bool, b_ = (b68 && b69) := ⟨_, rfl⟩
                    refine sq_q (v := .bool b70) rfl h (by subst hb70; exact g_pure (v := .bool (b68 && b69)) fun _ => by cases b68 <;> kernel_rfl) ?_
                    refine lnil ?_
                    refine thn_n ?_
                    refine c_cond (b70) (by kernel_rfl) (fun hc71 => ?_) (fun hc71 => ?_)
                    · skip
                      have q72 : (b68 && b69) = true := by rw [← hb70]; exact hc71
                      have q73 : b68 = true := by revert q72; cases b68 <;> simp
                      have q74 : b69 = true := by revert q72; cases b68 <;> cases b69 <;> simp
                      have q75 : (!(decide (x31.2.2.1 = 1))) = true := by rw [← hb68]; exact q73
                      have q76 : (decide (x31.2.2.1 = 1)) = false := by simpa using q75
                      have q76 := of_decide_eq_false q76
                      have q77 : (!(decide (x31.2.2.1 = 2))) = true := by rw [← hb69]; exact q74
                      have q78 : (decide (x31.2.2.1 = 2)) = false := by simpa using q77
                      have q78 := of_decide_eq_false q78
                      exfalso; revert hc71; subst hb70; subst hb69; subst hb68; simp; omega
                    · skip
                      have q79 : (b68 && b69) = false := by rw [← hb70]; exact hc71
                      refine c_skip ?_
                      refine thn_n ?_
                      refine c_seq ?_
                      refine c_reg ?_
                      refine sq_p (.int .i64 0) rfl (fun _ => by kernel_rfl) ?_
                      refine lnil ?_
                      refine thn_n ?_
                      refine c_seq ?_
                      refine c_block ?_
                      refine c_loop (X := Nat × (Nat → Value)) (fun ⟨n3, J2⟩ => ⟨#[.int .i64 (m : Int), v, undef, undef, J0 4, .bool true, .pointer (some ⟨tb, 0, none⟩), .nilIface, v28, vh, .int .i64 (i0 : Int), .pointer (some ⟨k33, 0, none⟩), .int .i64 kx, .int .i64 (j0 : Int), .int .i64 stl, .pointer (some ⟨k67, 0, none⟩), errV ad 9, .int .i64 (n3 : Int), J0 18, J0 19, J0 20, J0 21, J0 22, J0 23, J0 24, J0 25, J0 26, J0 27, J0 28, .bool true, .bool true, .bool false, .bool false, v, .int .i64 (acts.length : Int), .bool b1, .bool b1, undef, .tuple #[.pointer (some ⟨tb, 0, none⟩), .nilIface], .int .i64 (m : Int), .tuple #[.pointer (some ⟨tb, 0, none⟩), .nilIface], .pointer (some ⟨tb, 0, none⟩), .nilIface, .int .i64 (m : Int), .bool b17, .bool b17, (if b17 = false then .int .i64 (m : Int) else undef), (if b17 = false then .bool b18 else undef), .bool b19, undef, undef, undef, undef, undef, undef, .nilIface, .bool false, .bool false, .pointer (some ⟨tb, 0, none⟩), .bool false, .bool false, .int .i64 (m : Int), v28, .int .i64 (i0 : Int), v, .int .i64 (acts.length : Int), .bool (decide ((i0 : Int) < (acts.length : Int))), J0 67, J0 68, v, .int .i64 (i0 : Int), .pointer (some ⟨blkN v, offN v + i0 * 5, none⟩), .agg #[.string x31.1, .int .i64 x31.2.1.1, .int .i64 x31.2.1.2.1, .int .i64 x31.2.2.1, .int .i64 x31.2.2.2.1], .int .i64 (j0 : Int), vh, .int .i64 (here.length : Int), .bool (decide ((j0 : Int) < (here.length : Int))), J1 77, J1 78, J1 79, J1 80, J1 81, J1 82, J1 83, J1 84, J1 85, J1 86, J1 87, .int .i64 kx, .bool (decide (kx < 0)), .pointer (some ⟨k33, 0, none⟩), .string x31.1, .bool (decide (x31.1 = (⟨#[97, 100, 100]⟩ : ByteArray))), .bool (decide (x31.1 = (⟨#[97, 100, 100]⟩ : ByteArray))), .tuple #[.agg #[.int .i64 0, .int .i64 0], errV ad 9], .pointer (some ⟨tb, 0, none⟩), .pointer (some ⟨k33, 3, none⟩), .int .i64 x31.2.2.1, .tuple #[.agg #[.int .i64 0, .int .i64 0], errV ad 9], .agg #[.int .i64 0, .int .i64 0], errV ad 9, .pointer (some ⟨k33, 3, none⟩), .int .i64 x31.2.2.1, .bool b68, .bool b68, (if b68 = true then .pointer (some ⟨k33, 3, none⟩) else undef), (if b68 = true then .int .i64 x31.2.2.1 else undef), (if b68 = true then .bool b69 else undef), .bool b70, J0 109, J0 110, J0 111, J0 112, J0 113, J0 114, J0 115, J0 116, J2 117, J2 118, J2 119, J2 120, J2 121, J0 122, J0 123, J0 124, J0 125, J0 126, J0 127, J0 128, J0 129, J0 130, J0 131, J0 132, J0 133, J0 134, J0 135, J0 136, J0 137, J0 138, J0 139, J0 140, J0 141, J0 142, J0 143, J0 144, J0 145, J0 146, J0 147, J0 148, J0 149, J0 150, J0 151, J0 152, J0 153, J0 154, J0 155, J0 156, J0 157, J0 158, J0 159, J0 160, J0 161, J0 162, J0 163, J0 164, J0 165, J0 166, J0 167, J0 168, J0 169, J0 170, J0 171, J0 172, J0 173, J0 174, J0 175, J0 176, J0 177, J0 178, J0 179, J0 180, J0 181, J0 182, J0 183, J0 184, J0 185, J0 186, J0 187, J0 188, J0 189, J0 190, J0 191, J0 192, J0 193, J0 194, J0 195, J0 196, J0 197, J0 198, J0 199, J0 200, J0 201, J0 202, J0 203, J0 204, J0 205, J0 206, J0 207, J0 208, J0 209, J0 210, J0 211, J0 212, J0 213, J0 214, J0 215, J0 216, J0 217, J0 218, J0 219, J0 220, J0 221, J0 222, J0 223, J0 224, J0 225, J0 226, J0 227, J0 228, J0 229, J0 230, J0 231, J0 232, J0 233, J0 234, J0 235, J0 236, J0 237, J0 238, J0 239, J0 240, J0 241, J0 242, J0 243, J0 244, J0 245, J0 246, J0 247, J0 248, J0 249, J0 250, J0 251, J0 252, J0 253, J0 254, J0 255, J0 256, J0 257, J0 258, J0 259, J0 260, J0 261, J0 262, J0 263, J0 264, J0 265, J0 266, J0 267, J0 268, J0 269, J0 270, J0 271, J0 272, J0 273, J0 274, J0 275, J0 276, J0 277, J0 278, J0 279, J0 280, J0 281, J0 282, J0 283, J0 284, J0 285, J0 286, J0 287, J0 288, J0 289, J0 290, J0 291, J0 292, J0 293, J0 294, J0 295, J0 296, J0 297, J0 298, J0 299, J0 300, J0 301, J0 302, J0 303, J0 304, J0 305, J0 306, J0 307, J0 308, J0 309, J0 310, J0 311, J0 312, J0 313, J0 314, J0 315, J0 316, J0 317, J0 318, J0 319, J0 320, J0 321, J0 322, J0 323, J0 324, J0 325, J0 326, J0 327, J0 328, J0 329, J0 330, J0 331, J0 332, J0 333, J0 334, J0 335, J0 336, J0 337, J0 338, J0 339, J0 340, J0 341, J0 342, J0 343, J0 344, J0 345, J0 346, J0 347, J0 348, J0 349, J0 350, J0 351, J0 352, J0 353, J0 354, J0 355, J0 356, J0 357, J0 358, J0 359, J0 360, J0 361, J0 362, J0 363, J0 364, J0 365, J0 366, J0 367, J0 368, J0 369, J0 370, J0 371, J0 372, J0 373, J0 374, J0 375, J0 376, J0 377, J0 378, J0 379, J0 380, J0 381, J0 382, J0 383, J0 384, J0 385, J0 386, J0 387, J0 388, J0 389, J0 390, J0 391], []⟩)
                        (fun ⟨n3, J2⟩ => [rCell true k67 [.int .i64 0, .int .i64 0] 33, rTab tb ps gs vl vg T Sl Sg, rNds l, rEnv B ad [3], rEnv B ad [9], rCell true k33 [.string x31.1, .int .i64 x31.2.1.1, .int .i64 x31.2.1.2.1, .int .i64 x31.2.2.1, .int .i64 x31.2.2.2.1] 35, rRows true vh 39 9 spotC here, rRows true v28 3 1 idC gs, rEnv B ad [2], rEnv B ad [8], rEnv B ad [10], rArg v 5 ndaC acts, rEnvA B ad]) (fun ⟨n3, J2⟩ => ∀ q : Nat, q < n3 → ∃ s ∈ here, s.n = (q : Int)) (fun ⟨n3, J2⟩ => m + 1 - n3)
                        ⟨0, (fun n => (#[.int .i64 (m : Int), v, undef, undef, J0 4, .bool true, .pointer (some ⟨tb, 0, none⟩), .nilIface, v28, vh, .int .i64 (i0 : Int), .pointer (some ⟨k33, 0, none⟩), .int .i64 kx, .int .i64 (j0 : Int), .int .i64 stl, .pointer (some ⟨k67, 0, none⟩), errV ad 9, .int .i64 0, J0 18, J0 19, J0 20, J0 21, J0 22, J0 23, J0 24, J0 25, J0 26, J0 27, J0 28, .bool true, .bool true, .bool false, .bool false, v, .int .i64 (acts.length : Int), .bool b1, .bool b1, undef, .tuple #[.pointer (some ⟨tb, 0, none⟩), .nilIface], .int .i64 (m : Int), .tuple #[.pointer (some ⟨tb, 0, none⟩), .nilIface], .pointer (some ⟨tb, 0, none⟩), .nilIface, .int .i64 (m : Int), .bool b17, .bool b17, (if b17 = false then .int .i64 (m : Int) else undef), (if b17 = false then .bool b18 else undef), .bool b19, undef, undef, undef, undef, undef, undef, .nilIface, .bool false, .bool false, .pointer (some ⟨tb, 0, none⟩), .bool false, .bool false, .int .i64 (m : Int), v28, .int .i64 (i0 : Int), v, .int .i64 (acts.length : Int), .bool (decide ((i0 : Int) < (acts.length : Int))), J0 67, J0 68, v, .int .i64 (i0 : Int), .pointer (some ⟨blkN v, offN v + i0 * 5, none⟩), .agg #[.string x31.1, .int .i64 x31.2.1.1, .int .i64 x31.2.1.2.1, .int .i64 x31.2.2.1, .int .i64 x31.2.2.2.1], .int .i64 (j0 : Int), vh, .int .i64 (here.length : Int), .bool (decide ((j0 : Int) < (here.length : Int))), J1 77, J1 78, J1 79, J1 80, J1 81, J1 82, J1 83, J1 84, J1 85, J1 86, J1 87, .int .i64 kx, .bool (decide (kx < 0)), .pointer (some ⟨k33, 0, none⟩), .string x31.1, .bool (decide (x31.1 = (⟨#[97, 100, 100]⟩ : ByteArray))), .bool (decide (x31.1 = (⟨#[97, 100, 100]⟩ : ByteArray))), .tuple #[.agg #[.int .i64 0, .int .i64 0], errV ad 9], .pointer (some ⟨tb, 0, none⟩), .pointer (some ⟨k33, 3, none⟩), .int .i64 x31.2.2.1, .tuple #[.agg #[.int .i64 0, .int .i64 0], errV ad 9], .agg #[.int .i64 0, .int .i64 0], errV ad 9, .pointer (some ⟨k33, 3, none⟩), .int .i64 x31.2.2.1, .bool b68, .bool b68, (if b68 = true then .pointer (some ⟨k33, 3, none⟩) else undef), (if b68 = true then .int .i64 x31.2.2.1 else undef), (if b68 = true then .bool b69 else undef), .bool b70, J0 109, J0 110, J0 111, J0 112, J0 113, J0 114, J0 115, J0 116, J0 117, J0 118, J0 119, J0 120, J0 121, J0 122, J0 123, J0 124, J0 125, J0 126, J0 127, J0 128, J0 129, J0 130, J0 131, J0 132, J0 133, J0 134, J0 135, J0 136, J0 137, J0 138, J0 139, J0 140, J0 141, J0 142, J0 143, J0 144, J0 145, J0 146, J0 147, J0 148, J0 149, J0 150, J0 151, J0 152, J0 153, J0 154, J0 155, J0 156, J0 157, J0 158, J0 159, J0 160, J0 161, J0 162, J0 163, J0 164, J0 165, J0 166, J0 167, J0 168, J0 169, J0 170, J0 171, J0 172, J0 173, J0 174, J0 175, J0 176, J0 177, J0 178, J0 179, J0 180, J0 181, J0 182, J0 183, J0 184, J0 185, J0 186, J0 187, J0 188, J0 189, J0 190, J0 191, J0 192, J0 193, J0 194, J0 195, J0 196, J0 197, J0 198, J0 199, J0 200, J0 201, J0 202, J0 203, J0 204, J0 205, J0 206, J0 207, J0 208, J0 209, J0 210, J0 211, J0 212, J0 213, J0 214, J0 215, J0 216, J0 217, J0 218, J0 219, J0 220, J0 221, J0 222, J0 223, J0 224, J0 225, J0 226, J0 227, J0 228, J0 229, J0 230, J0 231, J0 232, J0 233, J0 234, J0 235, J0 236, J0 237, J0 238, J0 239, J0 240, J0 241, J0 242, J0 243, J0 244, J0 245, J0 246, J0 247, J0 248, J0 249, J0 250, J0 251, J0 252, J0 253, J0 254, J0 255, J0 256, J0 257, J0 258, J0 259, J0 260, J0 261, J0 262, J0 263, J0 264, J0 265, J0 266, J0 267, J0 268, J0 269, J0 270, J0 271, J0 272, J0 273, J0 274, J0 275, J0 276, J0 277, J0 278, J0 279, J0 280, J0 281, J0 282, J0 283, J0 284, J0 285, J0 286, J0 287, J0 288, J0 289, J0 290, J0 291, J0 292, J0 293, J0 294, J0 295, J0 296, J0 297, J0 298, J0 299, J0 300, J0 301, J0 302, J0 303, J0 304, J0 305, J0 306, J0 307, J0 308, J0 309, J0 310, J0 311, J0 312, J0 313, J0 314, J0 315, J0 316, J0 317, J0 318, J0 319, J0 320, J0 321, J0 322, J0 323, J0 324, J0 325, J0 326, J0 327, J0 328, J0 329, J0 330, J0 331, J0 332, J0 333, J0 334, J0 335, J0 336, J0 337, J0 338, J0 339, J0 340, J0 341, J0 342, J0 343, J0 344, J0 345, J0 346, J0 347, J0 348, J0 349, J0 350, J0 351, J0 352, J0 353, J0 354, J0 355, J0 356, J0 357, J0 358, J0 359, J0 360, J0 361, J0 362, J0 363, J0 364, J0 365, J0 366, J0 367, J0 368, J0 369, J0 370, J0 371, J0 372, J0 373, J0 374, J0 375, J0 376, J0 377, J0 378, J0 379, J0 380, J0 381, J0 382, J0 383, J0 384, J0 385, J0 386, J0 387, J0 388, J0 389, J0 390, J0 391] : Array Value).getD n undef)⟩ (fun q hq => by omega) (by kernel_rfl) [0, 0, 0, 0, 0, 0, 0, 0, 0, 0, 0, 0, 0] (by kernel_rfl) h ?_
                      rintro ⟨n3, J2⟩ w hG h
                      have hU3 : ∀ q : Nat, q < n3 → ∃ s ∈ here, s.n = (q : Int) := hG
                      have hL3 := hR.used_le hU3
                      refine c_seq ?_
                      refine c_seq ?_
                      refine c_reg ?_
                      refine sq_p (vh) rfl (fun _ => by kernel_rfl) ?_
                      refine sq_p (.int .i64 (n3 : Int)) rfl (fun _ => by kernel_rfl) ?_
                      refine sq_call #[vh, .int .i64 (n3 : Int)] [6] rfl (used_spec vh here (n3 : Int) (by have := hR.few; omega)) (fun _ => by kernel_rfl) h ?_; rintro v_ L_ w ⟨bu80, hbu81, rfl, rfl⟩ h
                      refine lnil ?_
                      refine thn_n ?_
                      refine c_cond (bu80) (by kernel_rfl) (fun hc82 => ?_) (fun hc82 => ?_)
                      · skip
                        have hN3 : ∀ q : Nat, q < n3 + 1 → ∃ s ∈ here, s.n = (q : Int) := fun q hq => by
                          by_cases e : q = n3
                          · rw [e]; exact hbu81.1 hc82
                          · exact hU3 q (by omega)
                        refine c_skip ?_
                        refine thn_n ?_
                        refine c_block ?_
                        refine c_reg ?_
                        refine sq_p (.int .i64 (n3 : Int)) rfl (fun _ => by kernel_rfl) ?_
                        refine sq_q rfl h (g_eq (v := .int .i64 (IntKind.i64.wrap ((n3 : Int) + 1))) (v' := .int .i64 ((n3 + 1 : Nat) : Int)) (g_pure fun _ => by kernel_rfl) (wr (by omega))) ?_
                        refine sq_p (.int .i64 ((n3 + 1 : Nat) : Int)) rfl (fun _ => by kernel_rfl) ?_
                        refine lnil ?_
                        refine blk_n ?_
                        refine loop_end (fun j => ⟨(n3 + 1), j⟩) (show (∀ q : Nat, q < (n3 + 1) → ∃ s ∈ here, s.n = (q : Int)) ∧ (m + 1 - (n3 + 1)) < (m + 1 - n3) from ⟨hN3, by omega⟩) (by kernel_rfl) [1, 1, 1, 1, 1, 1, 0, 0, 0, 0, 0, 0, 0] (by kernel_rfl) h
                      · skip
                        have hF3 := hR.first hU3 (fun s hs e => by have := hbu81.2 ⟨s, hs, e⟩; rw [this] at hc82; cases hc82)
                        refine c_exit ?_
                        refine thn_e (rnd_e (blk_e (thn_n ?_)))
                        refine c_seq ?_
                        refine c_seq ?_
                        refine c_reg ?_
                        refine sq_p (.int .i64 (n3 : Int)) rfl (fun _ => by kernel_rfl) ?_
                        refine sq_p (.int .i64 (m : Int)) rfl (fun _ => by kernel_rfl) ?_
                        refine sq_p (.bool (decide ((n3 : Int) ≥ (m : Int)))) rfl (fun _ => by kernel_rfl) ?_
                        refine lnil ?_
                        refine thn_n ?_
                        refine c_cond (decide ((n3 : Int) ≥ (m : Int))) (by kernel_rfl) (fun hc83 => ?_) (fun hc83 => ?_)
                        · skip
                          have hc83 := of_decide_eq_true hc83
                          refine c_seq ?_
                          refine c_seq ?_
                          refine c_reg ?_
                          refine sq_p (errV ad 9) rfl (fun _ => by kernel_rfl) ?_
                          refine sq_call #[errV ad 9, .int .i64 9] [12] rfl (coded1_spec ad 9 9 (by decide) (by first | decide | omega)) (fun _ => by kernel_rfl) h ?_; rintro v_ L_ w ⟨rfl, rfl⟩ h
                          refine sq_p (.bool false) rfl (fun _ => by kernel_rfl) ?_
                          refine sq_p (.bool false) rfl (fun _ => by kernel_rfl) ?_
                          refine sq_q (by kernel_rfl) h (g_ld 0 [.int .i64 0, .int .i64 0] (.agg #[.int .i64 0, .int .i64 0]) (by kernel_rfl) 2 rfl) ?_
                          refine sq_p (.agg #[.int .i64 0, .int .i64 0]) (by kernel_rfl) (fun _ => by kernel_rfl) ?_
                          refine sq_q (by kernel_rfl) h (g_eq (v := .bool (!((decide ((0 : Int) = 0)) && (decide ((0 : Int) = 0))))) (v' := .bool false) (g_neH (by kernel_rfl)) (by rfl)) ?_
                          refine sq_p (.bool false) rfl (fun _ => by kernel_rfl) ?_
                          refine lnil ?_
                          refine thn_n ?_
                          refine c_false (by kernel_rfl) ?_
                          refine c_skip ?_
                          refine thn_n ?_
                          refine c_exit ?_
                          refine thn_e (blk_x rfl (mid_e (thn_e (blk_e (thn_n ?_)))))
                          refine c_reg ?_
                          refine sq_p (.int .i64 (i0 : Int)) rfl (fun _ => by kernel_rfl) ?_
                          refine sq_q rfl h (g_eq (v := .int .i64 (IntKind.i64.wrap ((i0 : Int) + 1))) (v' := .int .i64 ((i0 + 1 : Nat) : Int)) (g_pure fun _ => by kernel_rfl) (wr (by omega))) ?_
                          refine sq_p (.int .i64 ((i0 + 1 : Nat) : Int)) rfl (fun _ => by kernel_rfl) ?_
                          refine lnil ?_
                          refine loop_end (fun j => ⟨(i0 + 1), ps, gs, l, here, vh, j⟩) (show ((i0 + 1) ≤ acts.length ∧ NRel m (i0 + 1) ps gs l here) ∧ (acts.length - (i0 + 1)) < (acts.length - i0) from ⟨⟨by omega, (hR.mono (by omega))⟩, by omega⟩) (by kernel_rfl) [1, 7, 2, 2, 5, 5, 5, 3, 2, 3, 0] (by kernel_rfl) h
                        · skip
                          have hc83 := of_decide_eq_false hc83
                          have := hF3.1 (by omega); rw [hf49] at this; cases this
                  · skip
                    refine sq_p (.tuple #[.agg #[.int .i64 (kf : Int), .int .i64 xk], .nilIface]) rfl (fun _ => by kernel_rfl) ?_
                    refine sq_p (.agg #[.int .i64 (kf : Int), .int .i64 xk]) rfl (fun _ => by kernel_rfl) ?_
                    refine sq_p (.nilIface) rfl (fun _ => by kernel_rfl) ?_
                    refine sq_new rfl (fun b => .pointer (some ⟨b, 0, none⟩)) [.int .i64 0, .int .i64 0] 33 (fun _ => by kernel_rfl) h ?_; intro k84 w h
                    refine sq_st rfl 0 [.int .i64 (kf : Int), .int .i64 xk] [.int .i64 (kf : Int), .int .i64 xk] h 0 rfl (by kernel_rfl) ?_; intro w h
                    refine sq_p (.nilIface) rfl (fun _ => by kernel_rfl) ?_
                    refine lnil ?_
                    refine thn_n ?_
                    refine c_seq ?_
                    refine c_seq ?_
                    refine c_reg ?_
                    refine sq_p (.pointer (some ⟨k33, 3, none⟩)) rfl (fun _ => by kernel_rfl) ?_
                    refine sq_q rfl h (g_ld 3 [.int .i64 x31.2.2.1] (.int .i64 x31.2.2.1) (by kernel_rfl) 5 rfl) ?_
                    obtain ⟨b85, hb85⟩ : ∃ b_ : Bool, b_ = (!(decide (x31.2.2.1 = 1))) := ⟨_, rfl⟩
                    refine sq_q (v := .bool b85) rfl h (by subst hb85; exact g_pure (v := .bool (!(decide (x31.2.2.1 = 1)))) fun _ => by kernel_rfl) ?_
                    refine sq_p (.bool b85) rfl (fun _ => by kernel_rfl) ?_
                    refine sq_m1 (v := .pointer (some ⟨k33, 3, none⟩)) b85 (by cases b85 <;> kernel_rfl) h (fun hB => by subst hB; exact g_pure (v := .pointer (some ⟨k33, 3, none⟩)) fun _ => by kernel_rfl) ?_
                    refine sq_m1 (v := .int .i64 x31.2.2.1) b85 (by cases b85 <;> kernel_rfl) h (fun hB => by subst hB; exact g_ld 3 [.int .i64 x31.2.2.1] (.int .i64 x31.2.2.1) (by kernel_rfl) 5 rfl) ?_
                    obtain ⟨b86, hb86⟩ : ∃ b_ : Bool, b_ = (!(decide (x31.2.2.1 = 2))) := ⟨_, rfl⟩
                    refine sq_m1 (v := .bool b86) b85 (by cases b85 <;> kernel_rfl) h (fun hB => by subst hB; exact by subst hb86; exact g_pure (v := .bool (!(decide (x31.2.2.1 = 2)))) fun _ => by kernel_rfl) ?_
                    obtain ⟨b87, hb87⟩ : ∃ b_ : Bool, b_ = (b85 && b86) := ⟨_, rfl⟩
                    refine sq_q (v := .bool b87) rfl h (by subst hb87; exact g_pure (v := .bool (b85 && b86)) fun _ => by cases b85 <;> kernel_rfl) ?_
                    refine lnil ?_
                    refine thn_n ?_
                    refine c_cond (b87) (by kernel_rfl) (fun hc88 => ?_) (fun hc88 => ?_)
                    · skip
                      have q89 : (b85 && b86) = true := by rw [← hb87]; exact hc88
                      have q90 : b85 = true := by revert q89; cases b85 <;> simp
                      have q91 : b86 = true := by revert q89; cases b85 <;> cases b86 <;> simp
                      have q92 : (!(decide (x31.2.2.1 = 1))) = true := by rw [← hb85]; exact q90
                      have q93 : (decide (x31.2.2.1 = 1)) = false := by simpa using q92
                      have q93 := of_decide_eq_false q93
                      have q94 : (!(decide (x31.2.2.1 = 2))) = true := by rw [← hb86]; exact q91
                      have q95 : (decide (x31.2.2.1 = 2)) = false := by simpa using q94
                      have q95 := of_decide_eq_false q95
                      exfalso; revert hc88; subst hb87; subst hb86; subst hb85; simp; omega
                    · skip
                      have q96 : (b85 && b86) = false := by rw [← hb87]; exact hc88
                      refine c_skip ?_
                      refine thn_n ?_
                      refine c_seq ?_
                      refine c_reg ?_
                      refine sq_p (.int .i64 0) rfl (fun _ => by kernel_rfl) ?_
                      refine lnil ?_
                      refine thn_n ?_
                      refine c_seq ?_
                      refine c_block ?_
                      refine c_loop (X := Nat × (Nat → Value)) (fun ⟨n3, J3⟩ => ⟨#[.int .i64 (m : Int), v, undef, undef, J0 4, .bool true, .pointer (some ⟨tb, 0, none⟩), .nilIface, v28, vh, .int .i64 (i0 : Int), .pointer (some ⟨k33, 0, none⟩), .int .i64 kx, .int .i64 (j0 : Int), .int .i64 stl, .pointer (some ⟨k84, 0, none⟩), .nilIface, .int .i64 (n3 : Int), J0 18, J0 19, J0 20, J0 21, J0 22, J0 23, J0 24, J0 25, J0 26, J0 27, J0 28, .bool true, .bool true, .bool false, .bool false, v, .int .i64 (acts.length : Int), .bool b1, .bool b1, undef, .tuple #[.pointer (some ⟨tb, 0, none⟩), .nilIface], .int .i64 (m : Int), .tuple #[.pointer (some ⟨tb, 0, none⟩), .nilIface], .pointer (some ⟨tb, 0, none⟩), .nilIface, .int .i64 (m : Int), .bool b17, .bool b17, (if b17 = false then .int .i64 (m : Int) else undef), (if b17 = false then .bool b18 else undef), .bool b19, undef, undef, undef, undef, undef, undef, .nilIface, .bool false, .bool false, .pointer (some ⟨tb, 0, none⟩), .bool false, .bool false, .int .i64 (m : Int), v28, .int .i64 (i0 : Int), v, .int .i64 (acts.length : Int), .bool (decide ((i0 : Int) < (acts.length : Int))), J0 67, J0 68, v, .int .i64 (i0 : Int), .pointer (some ⟨blkN v, offN v + i0 * 5, none⟩), .agg #[.string x31.1, .int .i64 x31.2.1.1, .int .i64 x31.2.1.2.1, .int .i64 x31.2.2.1, .int .i64 x31.2.2.2.1], .int .i64 (j0 : Int), vh, .int .i64 (here.length : Int), .bool (decide ((j0 : Int) < (here.length : Int))), J1 77, J1 78, J1 79, J1 80, J1 81, J1 82, J1 83, J1 84, J1 85, J1 86, J1 87, .int .i64 kx, .bool (decide (kx < 0)), .pointer (some ⟨k33, 0, none⟩), .string x31.1, .bool (decide (x31.1 = (⟨#[97, 100, 100]⟩ : ByteArray))), .bool (decide (x31.1 = (⟨#[97, 100, 100]⟩ : ByteArray))), .tuple #[.agg #[.int .i64 (kf : Int), .int .i64 xk], .nilIface], .pointer (some ⟨tb, 0, none⟩), .pointer (some ⟨k33, 3, none⟩), .int .i64 x31.2.2.1, .tuple #[.agg #[.int .i64 (kf : Int), .int .i64 xk], .nilIface], .agg #[.int .i64 (kf : Int), .int .i64 xk], .nilIface, .pointer (some ⟨k33, 3, none⟩), .int .i64 x31.2.2.1, .bool b85, .bool b85, (if b85 = true then .pointer (some ⟨k33, 3, none⟩) else undef), (if b85 = true then .int .i64 x31.2.2.1 else undef), (if b85 = true then .bool b86 else undef), .bool b87, J0 109, J0 110, J0 111, J0 112, J0 113, J0 114, J0 115, J0 116, J3 117, J3 118, J3 119, J3 120, J3 121, J0 122, J0 123, J0 124, J0 125, J0 126, J0 127, J0 128, J0 129, J0 130, J0 131, J0 132, J0 133, J0 134, J0 135, J0 136, J0 137, J0 138, J0 139, J0 140, J0 141, J0 142, J0 143, J0 144, J0 145, J0 146, J0 147, J0 148, J0 149, J0 150, J0 151, J0 152, J0 153, J0 154, J0 155, J0 156, J0 157, J0 158, J0 159, J0 160, J0 161, J0 162, J0 163, J0 164, J0 165, J0 166, J0 167, J0 168, J0 169, J0 170, J0 171, J0 172, J0 173, J0 174, J0 175, J0 176, J0 177, J0 178, J0 179, J0 180, J0 181, J0 182, J0 183, J0 184, J0 185, J0 186, J0 187, J0 188, J0 189, J0 190, J0 191, J0 192, J0 193, J0 194, J0 195, J0 196, J0 197, J0 198, J0 199, J0 200, J0 201, J0 202, J0 203, J0 204, J0 205, J0 206, J0 207, J0 208, J0 209, J0 210, J0 211, J0 212, J0 213, J0 214, J0 215, J0 216, J0 217, J0 218, J0 219, J0 220, J0 221, J0 222, J0 223, J0 224, J0 225, J0 226, J0 227, J0 228, J0 229, J0 230, J0 231, J0 232, J0 233, J0 234, J0 235, J0 236, J0 237, J0 238, J0 239, J0 240, J0 241, J0 242, J0 243, J0 244, J0 245, J0 246, J0 247, J0 248, J0 249, J0 250, J0 251, J0 252, J0 253, J0 254, J0 255, J0 256, J0 257, J0 258, J0 259, J0 260, J0 261, J0 262, J0 263, J0 264, J0 265, J0 266, J0 267, J0 268, J0 269, J0 270, J0 271, J0 272, J0 273, J0 274, J0 275, J0 276, J0 277, J0 278, J0 279, J0 280, J0 281, J0 282, J0 283, J0 284, J0 285, J0 286, J0 287, J0 288, J0 289, J0 290, J0 291, J0 292, J0 293, J0 294, J0 295, J0 296, J0 297, J0 298, J0 299, J0 300, J0 301, J0 302, J0 303, J0 304, J0 305, J0 306, J0 307, J0 308, J0 309, J0 310, J0 311, J0 312, J0 313, J0 314, J0 315, J0 316, J0 317, J0 318, J0 319, J0 320, J0 321, J0 322, J0 323, J0 324, J0 325, J0 326, J0 327, J0 328, J0 329, J0 330, J0 331, J0 332, J0 333, J0 334, J0 335, J0 336, J0 337, J0 338, J0 339, J0 340, J0 341, J0 342, J0 343, J0 344, J0 345, J0 346, J0 347, J0 348, J0 349, J0 350, J0 351, J0 352, J0 353, J0 354, J0 355, J0 356, J0 357, J0 358, J0 359, J0 360, J0 361, J0 362, J0 363, J0 364, J0 365, J0 366, J0 367, J0 368, J0 369, J0 370, J0 371, J0 372, J0 373, J0 374, J0 375, J0 376, J0 377, J0 378, J0 379, J0 380, J0 381, J0 382, J0 383, J0 384, J0 385, J0 386, J0 387, J0 388, J0 389, J0 390, J0 391], []⟩)
                        (fun ⟨n3, J3⟩ => [rCell true k84 [.int .i64 (kf : Int), .int .i64 xk] 33, rTab tb (ps.set kf (some nb52)) (gs.set kf (xk + 1)) vl vg T Sl Sg, rNds (l.set kf (some (newND nb52 x31.2.2.1 dq53))), rEnv B ad [3], rEnv B ad [9], rCell true k33 [.string x31.1, .int .i64 x31.2.1.1, .int .i64 x31.2.1.2.1, .int .i64 x31.2.2.1, .int .i64 x31.2.2.2.1] 35, rRows true vh 39 9 spotC here, rRows true v28 3 1 idC gs, rEnv B ad [2], rEnv B ad [8], rEnv B ad [10], rArg v 5 ndaC acts, rEnvA B ad]) (fun ⟨n3, J3⟩ => ∀ q : Nat, q < n3 → ∃ s ∈ here, s.n = (q : Int)) (fun ⟨n3, J3⟩ => m + 1 - n3)
                        ⟨0, (fun n => (#[.int .i64 (m : Int), v, undef, undef, J0 4, .bool true, .pointer (some ⟨tb, 0, none⟩), .nilIface, v28, vh, .int .i64 (i0 : Int), .pointer (some ⟨k33, 0, none⟩), .int .i64 kx, .int .i64 (j0 : Int), .int .i64 stl, .pointer (some ⟨k84, 0, none⟩), .nilIface, .int .i64 0, J0 18, J0 19, J0 20, J0 21, J0 22, J0 23, J0 24, J0 25, J0 26, J0 27, J0 28, .bool true, .bool true, .bool false, .bool false, v, .int .i64 (acts.length : Int), .bool b1, .bool b1, undef, .tuple #[.pointer (some ⟨tb, 0, none⟩), .nilIface], .int .i64 (m : Int), .tuple #[.pointer (some ⟨tb, 0, none⟩), .nilIface], .pointer (some ⟨tb, 0, none⟩), .nilIface, .int .i64 (m : Int), .bool b17, .bool b17, (if b17 = false then .int .i64 (m : Int) else undef), (if b17 = false then .bool b18 else undef), .bool b19, undef, undef, undef, undef, undef, undef, .nilIface, .bool false, .bool false, .pointer (some ⟨tb, 0, none⟩), .bool false, .bool false, .int .i64 (m : Int), v28, .int .i64 (i0 : Int), v, .int .i64 (acts.length : Int), .bool (decide ((i0 : Int) < (acts.length : Int))), J0 67, J0 68, v, .int .i64 (i0 : Int), .pointer (some ⟨blkN v, offN v + i0 * 5, none⟩), .agg #[.string x31.1, .int .i64 x31.2.1.1, .int .i64 x31.2.1.2.1, .int .i64 x31.2.2.1, .int .i64 x31.2.2.2.1], .int .i64 (j0 : Int), vh, .int .i64 (here.length : Int), .bool (decide ((j0 : Int) < (here.length : Int))), J1 77, J1 78, J1 79, J1 80, J1 81, J1 82, J1 83, J1 84, J1 85, J1 86, J1 87, .int .i64 kx, .bool (decide (kx < 0)), .pointer (some ⟨k33, 0, none⟩), .string x31.1, .bool (decide (x31.1 = (⟨#[97, 100, 100]⟩ : ByteArray))), .bool (decide (x31.1 = (⟨#[97, 100, 100]⟩ : ByteArray))), .tuple #[.agg #[.int .i64 (kf : Int), .int .i64 xk], .nilIface], .pointer (some ⟨tb, 0, none⟩), .pointer (some ⟨k33, 3, none⟩), .int .i64 x31.2.2.1, .tuple #[.agg #[.int .i64 (kf : Int), .int .i64 xk], .nilIface], .agg #[.int .i64 (kf : Int), .int .i64 xk], .nilIface, .pointer (some ⟨k33, 3, none⟩), .int .i64 x31.2.2.1, .bool b85, .bool b85, (if b85 = true then .pointer (some ⟨k33, 3, none⟩) else undef), (if b85 = true then .int .i64 x31.2.2.1 else undef), (if b85 = true then .bool b86 else undef), .bool b87, J0 109, J0 110, J0 111, J0 112, J0 113, J0 114, J0 115, J0 116, J0 117, J0 118, J0 119, J0 120, J0 121, J0 122, J0 123, J0 124, J0 125, J0 126, J0 127, J0 128, J0 129, J0 130, J0 131, J0 132, J0 133, J0 134, J0 135, J0 136, J0 137, J0 138, J0 139, J0 140, J0 141, J0 142, J0 143, J0 144, J0 145, J0 146, J0 147, J0 148, J0 149, J0 150, J0 151, J0 152, J0 153, J0 154, J0 155, J0 156, J0 157, J0 158, J0 159, J0 160, J0 161, J0 162, J0 163, J0 164, J0 165, J0 166, J0 167, J0 168, J0 169, J0 170, J0 171, J0 172, J0 173, J0 174, J0 175, J0 176, J0 177, J0 178, J0 179, J0 180, J0 181, J0 182, J0 183, J0 184, J0 185, J0 186, J0 187, J0 188, J0 189, J0 190, J0 191, J0 192, J0 193, J0 194, J0 195, J0 196, J0 197, J0 198, J0 199, J0 200, J0 201, J0 202, J0 203, J0 204, J0 205, J0 206, J0 207, J0 208, J0 209, J0 210, J0 211, J0 212, J0 213, J0 214, J0 215, J0 216, J0 217, J0 218, J0 219, J0 220, J0 221, J0 222, J0 223, J0 224, J0 225, J0 226, J0 227, J0 228, J0 229, J0 230, J0 231, J0 232, J0 233, J0 234, J0 235, J0 236, J0 237, J0 238, J0 239, J0 240, J0 241, J0 242, J0 243, J0 244, J0 245, J0 246, J0 247, J0 248, J0 249, J0 250, J0 251, J0 252, J0 253, J0 254, J0 255, J0 256, J0 257, J0 258, J0 259, J0 260, J0 261, J0 262, J0 263, J0 264, J0 265, J0 266, J0 267, J0 268, J0 269, J0 270, J0 271, J0 272, J0 273, J0 274, J0 275, J0 276, J0 277, J0 278, J0 279, J0 280, J0 281, J0 282, J0 283, J0 284, J0 285, J0 286, J0 287, J0 288, J0 289, J0 290, J0 291, J0 292, J0 293, J0 294, J0 295, J0 296, J0 297, J0 298, J0 299, J0 300, J0 301, J0 302, J0 303, J0 304, J0 305, J0 306, J0 307, J0 308, J0 309, J0 310, J0 311, J0 312, J0 313, J0 314, J0 315, J0 316, J0 317, J0 318, J0 319, J0 320, J0 321, J0 322, J0 323, J0 324, J0 325, J0 326, J0 327, J0 328, J0 329, J0 330, J0 331, J0 332, J0 333, J0 334, J0 335, J0 336, J0 337, J0 338, J0 339, J0 340, J0 341, J0 342, J0 343, J0 344, J0 345, J0 346, J0 347, J0 348, J0 349, J0 350, J0 351, J0 352, J0 353, J0 354, J0 355, J0 356, J0 357, J0 358, J0 359, J0 360, J0 361, J0 362, J0 363, J0 364, J0 365, J0 366, J0 367, J0 368, J0 369, J0 370, J0 371, J0 372, J0 373, J0 374, J0 375, J0 376, J0 377, J0 378, J0 379, J0 380, J0 381, J0 382, J0 383, J0 384, J0 385, J0 386, J0 387, J0 388, J0 389, J0 390, J0 391] : Array Value).getD n undef)⟩ (fun q hq => by omega) (by kernel_rfl) [0, 0, 0, 0, 0, 0, 0, 0, 0, 0, 0, 0, 0] (by kernel_rfl) h ?_
                      rintro ⟨n3, J3⟩ w hG h
                      have hU3 : ∀ q : Nat, q < n3 → ∃ s ∈ here, s.n = (q : Int) := hG
                      have hL3 := hR.used_le hU3
                      refine c_seq ?_
                      refine c_seq ?_
                      refine c_reg ?_
                      refine sq_p (vh) rfl (fun _ => by kernel_rfl) ?_
                      refine sq_p (.int .i64 (n3 : Int)) rfl (fun _ => by kernel_rfl) ?_
                      refine sq_call #[vh, .int .i64 (n3 : Int)] [6] rfl (used_spec vh here (n3 : Int) (by have := hR.few; omega)) (fun _ => by kernel_rfl) h ?_; rintro v_ L_ w ⟨bu97, hbu98, rfl, rfl⟩ h
                      refine lnil ?_
                      refine thn_n ?_
                      refine c_cond (bu97) (by kernel_rfl) (fun hc99 => ?_) (fun hc99 => ?_)
                      · skip
                        have hN3 : ∀ q : Nat, q < n3 + 1 → ∃ s ∈ here, s.n = (q : Int) := fun q hq => by
                          by_cases e : q = n3
                          · rw [e]; exact hbu98.1 hc99
                          · exact hU3 q (by omega)
                        refine c_skip ?_
                        refine thn_n ?_
                        refine c_block ?_
                        refine c_reg ?_
                        refine sq_p (.int .i64 (n3 : Int)) rfl (fun _ => by kernel_rfl) ?_
                        refine sq_q rfl h (g_eq (v := .int .i64 (IntKind.i64.wrap ((n3 : Int) + 1))) (v' := .int .i64 ((n3 + 1 : Nat) : Int)) (g_pure fun _ => by kernel_rfl) (wr (by omega))) ?_
                        refine sq_p (.int .i64 ((n3 + 1 : Nat) : Int)) rfl (fun _ => by kernel_rfl) ?_
                        refine lnil ?_
                        refine blk_n ?_
                        refine loop_end (fun j => ⟨(n3 + 1), j⟩) (show (∀ q : Nat, q < (n3 + 1) → ∃ s ∈ here, s.n = (q : Int)) ∧ (m + 1 - (n3 + 1)) < (m + 1 - n3) from ⟨hN3, by omega⟩) (by kernel_rfl) [1, 1, 1, 1, 1, 1, 0, 0, 0, 0, 0, 0, 0] (by kernel_rfl) h
                      · skip
                        have hF3 := hR.first hU3 (fun s hs e => by have := hbu98.2 ⟨s, hs, e⟩; rw [this] at hc99; cases hc99)
                        refine c_exit ?_
                        refine thn_e (rnd_e (blk_e (thn_n ?_)))
                        refine c_seq ?_
                        refine c_seq ?_
                        refine c_reg ?_
                        refine sq_p (.int .i64 (n3 : Int)) rfl (fun _ => by kernel_rfl) ?_
                        refine sq_p (.int .i64 (m : Int)) rfl (fun _ => by kernel_rfl) ?_
                        refine sq_p (.bool (decide ((n3 : Int) ≥ (m : Int)))) rfl (fun _ => by kernel_rfl) ?_
                        refine lnil ?_
                        refine thn_n ?_
                        refine c_cond (decide ((n3 : Int) ≥ (m : Int))) (by kernel_rfl) (fun hc100 => ?_) (fun hc100 => ?_)
                        · skip
                          have hc100 := of_decide_eq_true hc100
                          have := hF3.2 (by omega); rw [hf49k] at this; cases this
                        · skip
                          have hc100 := of_decide_eq_false hc100
                          obtain rfl : kf = n3 := Option.some.inj (hf49k.symm.trans (hF3.1 (by omega)))
                          have hkb := get_ltS hxk50
                          have hxr := hR.rng xk (List.mem_of_getElem? hxk50)
                          refine c_skip ?_
                          refine thn_n ?_
                          refine c_seq ?_
                          refine c_reg ?_
                          refine sq_p (.int .i64 (kf : Int)) rfl (fun _ => by kernel_rfl) ?_
                          refine sq_p (v28) rfl (fun _ => by kernel_rfl) ?_
                          refine sq_p (.int .i64 (kf : Int)) rfl (fun _ => by kernel_rfl) ?_
                          refine sq_q rfl h (g_idx kf (by kernel_rfl) hkb 7 rfl) ?_
                          refine sq_q rfl h (g_ldr (b := blkN v28) (offN v28 + kf * 1) [.int .i64 xk] (.int .i64 xk) (by kernel_rfl) 7 rfl (rdRow0 idC_len hxk50 (by kernel_rfl))) ?_
                          refine sq_p (.agg #[.int .i64 (kf : Int), .int .i64 xk]) rfl (fun _ => by kernel_rfl) ?_
                          refine sq_new rfl (fun b => .pointer (some ⟨b, 0, none⟩)) [.int .i64 0, .int .i64 0] 33 (fun _ => by kernel_rfl) h ?_; intro k101 w h
                          refine sq_st rfl 0 [.int .i64 (kf : Int), .int .i64 xk] [.int .i64 (kf : Int), .int .i64 xk] h 0 rfl (by kernel_rfl) ?_; intro w h
                          refine lnil ?_
                          refine thn_n ?_
                          refine c_seq ?_
                          refine c_reg ?_
                          refine sq_p (v28) rfl (fun _ => by kernel_rfl) ?_
                          refine sq_p (.int .i64 (kf : Int)) rfl (fun _ => by kernel_rfl) ?_
                          refine sq_q rfl h (g_idx kf (by kernel_rfl) hkb 8 rfl) ?_
                          refine sq_q rfl h (g_ldr (b := blkN v28) (offN v28 + kf * 1) [.int .i64 xk] (.int .i64 xk) (by kernel_rfl) 8 rfl (rdRow0 idC_len hxk50 (by kernel_rfl))) ?_
                          refine sq_q rfl h (g_eq (v := .int .i64 (IntKind.i64.wrap (xk + 1))) (v' := .int .i64 (xk + 1)) (g_pure fun _ => by kernel_rfl) (wr (by omega))) ?_
                          refine sq_q rfl h (g_idx kf (by kernel_rfl) hkb 8 rfl) ?_
                          refine sq_str rfl (b := blkN v28) (offN v28 + kf * 1) [.int .i64 (xk + 1)] h 8 rfl (by kernel_rfl) (wrRow idC_len hxk50 0 (xk + 1) (by kernel_rfl) (by kernel_rfl)) ?_; intro w h
                          have hx102 : (gs.set kf (xk + 1))[kf]? = some (xk + 1) := List.getElem?_set_self hkb
                          have hi103 : kf < (gs.set kf (xk + 1)).length := by rw [List.length_set]; exact hkb
                          refine lnil ?_
                          refine thn_n ?_
                          refine c_seq ?_
                          refine c_seq ?_
                          refine c_reg ?_
                          refine sq_p (.nilIface) rfl (fun _ => by kernel_rfl) ?_
                          refine sq_p (.bool false) rfl (fun _ => by kernel_rfl) ?_
                          refine sq_p (.bool false) rfl (fun _ => by kernel_rfl) ?_
                          refine sq_q (by kernel_rfl) h (g_ld 0 [.int .i64 (kf : Int), .int .i64 xk] (.agg #[.int .i64 (kf : Int), .int .i64 xk]) (by kernel_rfl) 2 rfl) ?_
                          refine sq_q (by kernel_rfl) h (g_ld 0 [.int .i64 (kf : Int), .int .i64 xk] (.agg #[.int .i64 (kf : Int), .int .i64 xk]) (by kernel_rfl) 0 rfl) ?_
                          obtain ⟨b104, hb104⟩ : ∃ b_ : Bool, b_ = (!((decide ((kf : Int) = (kf : Int))) && (decide (xk = xk)))) := ⟨_, rfl⟩
                          refine sq_q (v := .bool b104) (by kernel_rfl) h (by subst hb104; exact g_neH (by kernel_rfl)) ?_
                          refine sq_p (.bool b104) rfl (fun _ => by kernel_rfl) ?_
                          refine lnil ?_
                          refine thn_n ?_
                          refine c_cond (b104) (by kernel_rfl) (fun hc105 => ?_) (fun hc105 => ?_)
                          · skip
                            have q106 : (!((decide ((kf : Int) = (kf : Int))) && (decide (xk = xk)))) = true := by rw [← hb104]; exact hc105
                            have q107 : ((decide ((kf : Int) = (kf : Int))) && (decide (xk = xk))) = false := by revert q106; cases ((decide ((kf : Int) = (kf : Int))) && (decide (xk = xk))) <;> simp
                            have q108 : ¬ ((kf : Int) = (kf : Int) ∧ xk = xk) := fun hh => by rw [decide_eq_true hh.1, decide_eq_true hh.2] at q107; cases q107
                            exfalso; revert hc105; subst hb104; simp
                          · skip
                            have q109 : (!((decide ((kf : Int) = (kf : Int))) && (decide (xk = xk)))) = false := by rw [← hb104]; exact hc105
                            have q110 : ((decide ((kf : Int) = (kf : Int))) && (decide (xk = xk))) = true := by revert q109; cases ((decide ((kf : Int) = (kf : Int))) && (decide (xk = xk))) <;> simp
                            have q111 : (decide ((kf : Int) = (kf : Int))) = true := by revert q110; cases (decide ((kf : Int) = (kf : Int))) <;> simp
                            have q112 : (decide (xk = xk)) = true := by revert q110; cases (decide ((kf : Int) = (kf : Int))) <;> cases (decide (xk = xk)) <;> simp
                            have q111 := of_decide_eq_true q111
                            have q112 := of_decide_eq_true q112
                            refine c_skip ?_
                            refine thn_n ?_
                            refine c_reg ?_
                            refine sq_p (vh) rfl (fun _ => by kernel_rfl) ?_
                            refine sq_q rfl h (g_ld 0 [.int .i64 (kf : Int), .int .i64 xk] (.agg #[.int .i64 (kf : Int), .int .i64 xk]) (by kernel_rfl) 2 rfl) ?_
                            refine sq_p (.pointer (some ⟨k33, 3, none⟩)) rfl (fun _ => by kernel_rfl) ?_
                            refine sq_q rfl h (g_ld 3 [.int .i64 x31.2.2.1] (.int .i64 x31.2.2.1) (by kernel_rfl) 7 rfl) ?_
                            refine sq_p (.agg #[.int .i64 x31.2.2.1, .int .i64 0, .int .i64 0, .int .i64 0, .int .i64 0, .int .i64 0]) rfl (fun _ => by kernel_rfl) ?_
                            refine sq_p (.agg #[.int .i64 (kf : Int), .int .i64 xk, .int .i64 x31.2.2.1, .int .i64 0, .int .i64 0, .int .i64 0, .int .i64 0, .int .i64 0, .int .i64 0]) rfl (fun _ => by kernel_rfl) ?_
                            refine sq_new rfl (fun b => .slice (some ⟨b, 0, none⟩) 1 1) [.int .i64 (kf : Int), .int .i64 xk, .int .i64 x31.2.2.1, .int .i64 0, .int .i64 0, .int .i64 0, .int .i64 0, .int .i64 0, .int .i64 0] 39 (fun _ => by kernel_rfl) h ?_; intro k113 w h
                            refine sq_app (b := k113) (o := 0) rfl 1 (⟨(kf : Int), xk, x31.2.2.1, 0, 0, 0, 0, 0, 0⟩ : Spot) (by kernel_rfl) h 2 rfl 0 rfl (rdCell 0 (by kernel_rfl)) (by (try simp only [List.length_append, List.length_cons, List.length_nil, List.length_take, List.length_drop]); omega) ?_; intro v114 w h
                            refine sq_p (v114) rfl (fun _ => by kernel_rfl) ?_
                            refine lnil ?_
                            refine blk_n (mid_n ?_)
                            have hQ115 : NRel m (i0 + 1) (ps.set kf (some nb52)) (gs.set kf (xk + 1)) (l.set kf (some (newND nb52 x31.2.2.1 dq53))) (here ++ [(⟨(kf : Int), xk, x31.2.2.1, 0, 0, 0, 0, 0, 0⟩ : Spot)]) := (hR.add hf49k hxk50 hnq51)
                            refine mid_end (fun j => ⟨(ps.set kf (some nb52)), (gs.set kf (xk + 1)), (l.set kf (some (newND nb52 x31.2.2.1 dq53))), (here ++ [(⟨(kf : Int), xk, x31.2.2.1, 0, 0, 0, 0, 0, 0⟩ : Spot)]), v114, j⟩) hQ115 (by kernel_rfl) [8, 2, 7, 3, 3, 5, 5, 5, 4, 3, 3, 3] (by kernel_rfl) h
                · skip
                  have hc45 := of_decide_eq_false hc45
                  refine c_seq ?_
                  refine c_reg ?_
                  refine sq_q rfl h (g_eq (v := .bool (x31.1.toList == (⟨#[115, 101, 116]⟩ : ByteArray).toList)) (v' := .bool (decide (x31.1 = (⟨#[115, 101, 116]⟩ : ByteArray)))) (g_pure fun _ => by kernel_rfl) beqS) ?_
                  refine sq_p (.bool (decide (x31.1 = (⟨#[115, 101, 116]⟩ : ByteArray)))) rfl (fun _ => by kernel_rfl) ?_
                  refine lnil ?_
                  refine thn_n ?_
                  refine c_cond (decide (x31.1 = (⟨#[115, 101, 116]⟩ : ByteArray))) (by kernel_rfl) (fun hc116 => ?_) (fun hc116 => ?_)
                  · skip
                    have hc116 := of_decide_eq_true hc116
                    rcases hK with ⟨hst, hkn, hno⟩ | ⟨hst, mm, sm, hkm, hm, hs1, hs2⟩
                    · skip
                      obtain rfl : stl = 10 := hst
                      refine c_seq ?_
                      refine c_reg ?_
                      refine sq_p (.int .i64 10) rfl (fun _ => by kernel_rfl) ?_
                      refine sq_p (.int .i64 10) rfl (fun _ => by kernel_rfl) ?_
                      refine lnil ?_
                      refine thn_n ?_
                      refine c_seq ?_
                      refine c_seq ?_
                      refine c_reg ?_
                      refine sq_p (.int .i64 10) rfl (fun _ => by kernel_rfl) ?_
                      refine sq_p (.bool false) rfl (fun _ => by kernel_rfl) ?_
                      refine sq_p (.bool false) rfl (fun _ => by kernel_rfl) ?_
                      refine sn (by kernel_rfl) ?_
                      refine sn (by kernel_rfl) ?_
                      refine sn (by kernel_rfl) ?_
                      refine sn (by kernel_rfl) ?_
                      refine sn (by kernel_rfl) ?_
                      refine sn (by kernel_rfl) ?_
                      refine sn (by kernel_rfl) ?_
                      refine sn (by kernel_rfl) ?_
                      refine sq_p (.bool false) rfl (fun _ => by kernel_rfl) ?_
                      refine lnil ?_
                      refine thn_n ?_
                      refine c_false (by kernel_rfl) ?_
                      refine c_skip ?_
                      refine thn_n ?_
                      refine c_seq ?_
                      refine c_seq ?_
                      refine c_reg ?_
                      refine sq_p (.pointer (some ⟨tb, 0, none⟩)) rfl (fun _ => by kernel_rfl) ?_
                      refine sq_p (.pointer (some ⟨k33, 1, none⟩)) rfl (fun _ => by kernel_rfl) ?_
                      refine sq_q rfl h (g_ld 1 [.int .i64 x31.2.1.1, .int .i64 x31.2.1.2.1] (.agg #[.int .i64 x31.2.1.1, .int .i64 x31.2.1.2.1]) (by kernel_rfl) 0 rfl) ?_
                      refine sq_p (.pointer (some ⟨k33, 3, none⟩)) rfl (fun _ => by kernel_rfl) ?_
                      refine sq_q rfl h (g_ld 3 [.int .i64 x31.2.2.1] (.int .i64 x31.2.2.1) (by kernel_rfl) 0 rfl) ?_
                      refine sq_p (.pointer (some ⟨k33, 4, none⟩)) rfl (fun _ => by kernel_rfl) ?_
                      refine sq_q rfl h (g_ld 4 [.int .i64 x31.2.2.2.1] (.int .i64 x31.2.2.2.1) (by kernel_rfl) 0 rfl) ?_
                      refine sq_p (.pointer (some ⟨k33, 1, none⟩)) rfl (fun _ => by kernel_rfl) ?_
                      refine sq_q rfl h (g_ld 1 [.int .i64 x31.2.1.1, .int .i64 x31.2.1.2.1] (.agg #[.int .i64 x31.2.1.1, .int .i64 x31.2.1.2.1]) (by kernel_rfl) 0 rfl) ?_
                      have haX : atOf ps gs x31.2.1.1 x31.2.1.2.1 = none := hR.at_none hno
                      refine sq_call #[.pointer (some ⟨tb, 0, none⟩), .agg #[.int .i64 x31.2.1.1, .int .i64 x31.2.1.2.1], .int .i64 x31.2.2.1, .int .i64 x31.2.2.2.1, .agg #[.int .i64 x31.2.1.1, .int .i64 x31.2.1.2.1]] [3, 3, 5] rfl (setN_spec ad tb ps gs vl vg T Sl Sg l (by rw [hR.lp, hR.lg]) (fun y hy => by have := hR.rng y hy; omega) x31.2.1.1 x31.2.1.2.1 haX x31.2.2.1 x31.2.2.2.1 x31.2.1.1 x31.2.1.2.1) (fun _ => by kernel_rfl) h ?_; rintro v_ L_ w ⟨rfl, rfl⟩ h
                      refine sq_p (.int .i64 10) rfl (fun _ => by kernel_rfl) ?_
                      refine sq_call #[errV ad 10, .int .i64 10] [11] rfl (coded1_spec ad 10 10 (by decide) (by first | decide | omega)) (fun _ => by kernel_rfl) h ?_; rintro v_ L_ w ⟨rfl, rfl⟩ h
                      refine sq_p (.bool false) rfl (fun _ => by kernel_rfl) ?_
                      refine lnil ?_
                      refine thn_n ?_
                      refine c_false (by kernel_rfl) ?_
                      refine c_skip ?_
                      refine thn_n ?_
                      refine c_seq ?_
                      refine c_reg ?_
                      refine sq_p (.int .i64 10) rfl (fun _ => by kernel_rfl) ?_
                      refine sq_p (.bool false) rfl (fun _ => by kernel_rfl) ?_
                      refine lnil ?_
                      refine thn_n ?_
                      refine c_false (by kernel_rfl) ?_
                      refine c_skip ?_
                      refine blk_n (mid_n ?_)
                      have hQ117 : NRel m (i0 + 1) ps gs l here := (hR.mono (by omega))
                      refine mid_end (fun j => ⟨ps, gs, l, here, vh, j⟩) hQ117 (by kernel_rfl) [4, 4, 4, 1, 1, 2, 2, 1, 1, 1, 1, 0] (by kernel_rfl) h
                    · skip
                      obtain rfl : stl = 0 := hst
                      have hkp := h
                      obtain rfl : kx = (mm : Int) := hkm
                      have h := hkp
                      clear hkp
                      have hmb := get_ltS hm
                      refine c_seq ?_
                      refine c_reg ?_
                      refine sq_p (.int .i64 0) rfl (fun _ => by kernel_rfl) ?_
                      refine sq_p (.int .i64 0) rfl (fun _ => by kernel_rfl) ?_
                      refine lnil ?_
                      refine thn_n ?_
                      refine c_seq ?_
                      refine c_seq ?_
                      refine c_reg ?_
                      refine sq_p (.int .i64 0) rfl (fun _ => by kernel_rfl) ?_
                      refine sq_p (.bool true) rfl (fun _ => by kernel_rfl) ?_
                      refine sq_p (.bool true) rfl (fun _ => by kernel_rfl) ?_
                      refine sq_p (.pointer (some ⟨k33, 3, none⟩)) (by kernel_rfl) (fun _ => by kernel_rfl) ?_
                      refine sq_q (by kernel_rfl) h (g_ld 3 [.int .i64 x31.2.2.1] (.int .i64 x31.2.2.1) (by kernel_rfl) 0 rfl) ?_
                      obtain ⟨b118, hb118⟩ : ∃ b_ : Bool, b_ = (decide (x31.2.2.1 < 0)) := ⟨_, rfl⟩
                      refine sq_q (v := .bool b118) (by kernel_rfl) h (by subst hb118; exact g_pure (v := .bool (decide (x31.2.2.1 < 0))) fun _ => by kernel_rfl) ?_
                      refine sq_p (.bool b118) (by kernel_rfl) (fun _ => by kernel_rfl) ?_
                      refine sq_m0 (v := .pointer (some ⟨k33, 4, none⟩)) b118 (by cases b118 <;> kernel_rfl) h (fun hB => by subst hB; exact g_pure (v := .pointer (some ⟨k33, 4, none⟩)) fun _ => by kernel_rfl) ?_
                      refine sq_m0 (v := .int .i64 x31.2.2.2.1) b118 (by cases b118 <;> kernel_rfl) h (fun hB => by subst hB; exact g_ld 4 [.int .i64 x31.2.2.2.1] (.int .i64 x31.2.2.2.1) (by kernel_rfl) 0 rfl) ?_
                      obtain ⟨b119, hb119⟩ : ∃ b_ : Bool, b_ = (decide (x31.2.2.2.1 < 0)) := ⟨_, rfl⟩
                      refine sq_m0 (v := .bool b119) b118 (by cases b118 <;> kernel_rfl) h (fun hB => by subst hB; exact by subst hb119; exact g_pure (v := .bool (decide (x31.2.2.2.1 < 0))) fun _ => by kernel_rfl) ?_
                      obtain ⟨b120, hb120⟩ : ∃ b_ : Bool, b_ = (b118 || b119) := ⟨_, rfl⟩
                      refine sq_q (v := .bool b120) (by kernel_rfl) h (by subst hb120; exact g_pure (v := .bool (b118 || b119)) fun _ => by cases b118 <;> kernel_rfl) ?_
                      refine sq_p (.bool b120) rfl (fun _ => by kernel_rfl) ?_
                      refine lnil ?_
                      refine thn_n ?_
                      refine c_cond (b120) (by kernel_rfl) (fun hc121 => ?_) (fun hc121 => ?_)
                      · skip
                        have q122 : (b118 || b119) = true := by rw [← hb120]; exact hc121
                        have q123 : ((x31.2.2.1 < 0) ∨ (x31.2.2.2.1 < 0)) := by subst hb119; subst hb118; revert q122; first | (simp; done) | (simp; omega)
                        refine c_reg ?_
                        refine sq_p (.int .i64 2) rfl (fun _ => by kernel_rfl) ?_
                        refine lnil ?_
                        refine thn_n ?_
                        refine c_seq ?_
                        refine c_seq ?_
                        refine c_reg ?_
                        refine sq_p (.pointer (some ⟨tb, 0, none⟩)) rfl (fun _ => by kernel_rfl) ?_
                        refine sq_p (.pointer (some ⟨k33, 1, none⟩)) rfl (fun _ => by kernel_rfl) ?_
                        refine sq_q rfl h (g_ld 1 [.int .i64 x31.2.1.1, .int .i64 x31.2.1.2.1] (.agg #[.int .i64 x31.2.1.1, .int .i64 x31.2.1.2.1]) (by kernel_rfl) 0 rfl) ?_
                        refine sq_p (.pointer (some ⟨k33, 3, none⟩)) rfl (fun _ => by kernel_rfl) ?_
                        refine sq_q rfl h (g_ld 3 [.int .i64 x31.2.2.1] (.int .i64 x31.2.2.1) (by kernel_rfl) 0 rfl) ?_
                        refine sq_p (.pointer (some ⟨k33, 4, none⟩)) rfl (fun _ => by kernel_rfl) ?_
                        refine sq_q rfl h (g_ld 4 [.int .i64 x31.2.2.2.1] (.int .i64 x31.2.2.2.1) (by kernel_rfl) 0 rfl) ?_
                        refine sq_p (.pointer (some ⟨k33, 1, none⟩)) rfl (fun _ => by kernel_rfl) ?_
                        refine sq_q rfl h (g_ld 1 [.int .i64 x31.2.1.1, .int .i64 x31.2.1.2.1] (.agg #[.int .i64 x31.2.1.1, .int .i64 x31.2.1.2.1]) (by kernel_rfl) 0 rfl) ?_
                        obtain ⟨kk, N, hn1, hn2, hn3, hn4, hn5, hn6, hn7⟩ := hR.at_some (List.mem_of_getElem? hm)
                        have haX : atOf ps gs x31.2.1.1 x31.2.1.2.1 = some N.nb := by rw [← hs1, ← hs2, hn1]; exact hn3
                        have hcX : 0 ≤ N.change ∧ N.change ≤ 1000000 := by rw [← hn4.change]; omega
                        have hszX := hn4.sz
                        refine sq_call #[.pointer (some ⟨tb, 0, none⟩), .agg #[.int .i64 x31.2.1.1, .int .i64 x31.2.1.2.1], .int .i64 x31.2.2.1, .int .i64 x31.2.2.2.1, .agg #[.int .i64 x31.2.1.1, .int .i64 x31.2.1.2.1]] [3, 3, 5, 3] rfl (setBad_spec ad tb ps gs vl vg T Sl Sg l (by rw [hR.lp, hR.lg]) (fun y hy => by have := hR.rng y hy; omega) x31.2.1.1 x31.2.1.2.1 kk N hn2 haX x31.2.2.1 x31.2.2.2.1 x31.2.1.1 x31.2.1.2.1 (by omega)) (fun _ => by kernel_rfl) h ?_; rintro v_ L_ w ⟨rfl, rfl⟩ h
                        refine sq_p (.int .i64 2) rfl (fun _ => by kernel_rfl) ?_
                        refine sq_call #[errV ad 2, .int .i64 2] [11] rfl (coded1_spec ad 2 2 (by decide) (by first | decide | omega)) (fun _ => by kernel_rfl) h ?_; rintro v_ L_ w ⟨rfl, rfl⟩ h
                        refine sq_p (.bool false) rfl (fun _ => by kernel_rfl) ?_
                        refine lnil ?_
                        refine thn_n ?_
                        refine c_false (by kernel_rfl) ?_
                        refine c_skip ?_
                        refine thn_n ?_
                        refine c_seq ?_
                        refine c_reg ?_
                        refine sq_p (.int .i64 2) rfl (fun _ => by kernel_rfl) ?_
                        refine sq_p (.bool false) rfl (fun _ => by kernel_rfl) ?_
                        refine lnil ?_
                        refine thn_n ?_
                        refine c_false (by kernel_rfl) ?_
                        refine c_skip ?_
                        refine blk_n (mid_n ?_)
                        have hQ124 : NRel m (i0 + 1) ps gs l here := (hR.mono (by omega))
                        refine mid_end (fun j => ⟨ps, gs, l, here, vh, j⟩) hQ124 (by kernel_rfl) [5, 5, 5, 1, 1, 2, 2, 1, 1, 1, 1, 0] (by kernel_rfl) h
                      · skip
                        have q125 : (b118 || b119) = false := by rw [← hb120]; exact hc121
                        have q126 : b118 = false := by revert q125; cases b118 <;> simp
                        have q127 : b119 = false := by revert q125; cases b118 <;> cases b119 <;> simp
                        have q128 : (decide (x31.2.2.1 < 0)) = false := by rw [← hb118]; exact q126
                        have q128 := of_decide_eq_false q128
                        have q129 : (decide (x31.2.2.2.1 < 0)) = false := by rw [← hb119]; exact q127
                        have q129 := of_decide_eq_false q129
                        refine c_skip ?_
                        refine thn_n ?_
                        refine c_seq ?_
                        refine c_seq ?_
                        refine c_reg ?_
                        refine sq_p (.pointer (some ⟨tb, 0, none⟩)) rfl (fun _ => by kernel_rfl) ?_
                        refine sq_p (.pointer (some ⟨k33, 1, none⟩)) rfl (fun _ => by kernel_rfl) ?_
                        refine sq_q rfl h (g_ld 1 [.int .i64 x31.2.1.1, .int .i64 x31.2.1.2.1] (.agg #[.int .i64 x31.2.1.1, .int .i64 x31.2.1.2.1]) (by kernel_rfl) 0 rfl) ?_
                        refine sq_p (.pointer (some ⟨k33, 3, none⟩)) rfl (fun _ => by kernel_rfl) ?_
                        refine sq_q rfl h (g_ld 3 [.int .i64 x31.2.2.1] (.int .i64 x31.2.2.1) (by kernel_rfl) 0 rfl) ?_
                        refine sq_p (.pointer (some ⟨k33, 4, none⟩)) rfl (fun _ => by kernel_rfl) ?_
                        refine sq_q rfl h (g_ld 4 [.int .i64 x31.2.2.2.1] (.int .i64 x31.2.2.2.1) (by kernel_rfl) 0 rfl) ?_
                        refine sq_p (.pointer (some ⟨k33, 1, none⟩)) rfl (fun _ => by kernel_rfl) ?_
                        refine sq_q rfl h (g_ld 1 [.int .i64 x31.2.1.1, .int .i64 x31.2.1.2.1] (.agg #[.int .i64 x31.2.1.1, .int .i64 x31.2.1.2.1]) (by kernel_rfl) 0 rfl) ?_
                        obtain ⟨kk, N, hn1, hn2, hn3, hn4, hn5, hn6, hn7⟩ := hR.at_some (List.mem_of_getElem? hm)
                        have haX : atOf ps gs x31.2.1.1 x31.2.1.2.1 = some N.nb := by rw [← hs1, ← hs2, hn1]; exact hn3
                        have hcX : 0 ≤ N.change ∧ N.change ≤ 1000000 := by rw [← hn4.change]; omega
                        have hszX := hn4.sz
                        refine sq_call #[.pointer (some ⟨tb, 0, none⟩), .agg #[.int .i64 x31.2.1.1, .int .i64 x31.2.1.2.1], .int .i64 x31.2.2.1, .int .i64 x31.2.2.2.1, .agg #[.int .i64 x31.2.1.1, .int .i64 x31.2.1.2.1]] [3, 3, 5, 3] rfl (setA_spec ad tb ps gs vl vg T Sl Sg l (by rw [hR.lp, hR.lg]) (fun y hy => by have := hR.rng y hy; omega) x31.2.1.1 x31.2.1.2.1 kk N hn2 haX x31.2.2.1 x31.2.2.2.1 x31.2.1.1 x31.2.1.2.1 (by omega) hcX) (fun _ => by kernel_rfl) h ?_; rintro v_ L_ w ⟨rfl, rfl⟩ h
                        refine sq_p (.int .i64 0) rfl (fun _ => by kernel_rfl) ?_
                        refine sq_call #[.nilIface, .int .i64 0] [11] rfl (coded1_spec ad 0 0 (by decide) (by first | decide | omega)) (fun _ => by kernel_rfl) h ?_; rintro v_ L_ w ⟨rfl, rfl⟩ h
                        refine sq_p (.bool false) rfl (fun _ => by kernel_rfl) ?_
                        refine lnil ?_
                        refine thn_n ?_
                        refine c_false (by kernel_rfl) ?_
                        refine c_skip ?_
                        refine thn_n ?_
                        refine c_seq ?_
                        refine c_reg ?_
                        refine sq_p (.int .i64 0) rfl (fun _ => by kernel_rfl) ?_
                        refine sq_p (.bool true) rfl (fun _ => by kernel_rfl) ?_
                        refine lnil ?_
                        refine thn_n ?_
                        refine c_true (by kernel_rfl) ?_
                        refine c_seq ?_
                        refine c_reg ?_
                        refine sq_p (vh) rfl (fun _ => by kernel_rfl) ?_
                        refine sq_p (.int .i64 (mm : Int)) rfl (fun _ => by kernel_rfl) ?_
                        refine sq_p (.pointer (some ⟨k33, 4, none⟩)) rfl (fun _ => by kernel_rfl) ?_
                        refine sq_q rfl h (g_ld 4 [.int .i64 x31.2.2.2.1] (.int .i64 x31.2.2.2.1) (by kernel_rfl) 5 rfl) ?_
                        refine sq_q rfl h (g_idx mm (by kernel_rfl) hmb 6 rfl) ?_
                        refine sq_p (.pointer (some ⟨blkN vh, offN vh + mm * 9 + 2, none⟩)) rfl (fun _ => by kernel_rfl) ?_
                        refine sq_p (.pointer (some ⟨blkN vh, offN vh + mm * 9 + 4, none⟩)) rfl (fun _ => by kernel_rfl) ?_
                        refine sq_str rfl (b := blkN vh) (offN vh + mm * 9 + 4) [.int .i64 x31.2.2.2.1] h 6 rfl (by kernel_rfl) (wrRow spotC_len hm 4 (⟨sm.n, sm.g, sm.kind, sm.asize, x31.2.2.2.1, sm.change, sm.upn, sm.upg, sm.sz⟩ : Spot) (by kernel_rfl) (by kernel_rfl)) ?_; intro w h
                        have hx130 : (here.set mm (⟨sm.n, sm.g, sm.kind, sm.asize, x31.2.2.2.1, sm.change, sm.upn, sm.upg, sm.sz⟩ : Spot))[mm]? = some (⟨sm.n, sm.g, sm.kind, sm.asize, x31.2.2.2.1, sm.change, sm.upn, sm.upg, sm.sz⟩ : Spot) := List.getElem?_set_self hmb
                        have hi131 : mm < (here.set mm (⟨sm.n, sm.g, sm.kind, sm.asize, x31.2.2.2.1, sm.change, sm.upn, sm.upg, sm.sz⟩ : Spot)).length := by rw [List.length_set]; exact hmb
                        refine lnil ?_
                        refine thn_n ?_
                        refine c_seq ?_
                        refine c_reg ?_
                        refine sq_p (vh) rfl (fun _ => by kernel_rfl) ?_
                        refine sq_p (.int .i64 (mm : Int)) rfl (fun _ => by kernel_rfl) ?_
                        refine sq_q rfl h (g_idx mm (by kernel_rfl) hi131 6 rfl) ?_
                        refine sq_p (.pointer (some ⟨blkN vh, offN vh + mm * 9 + 2, none⟩)) rfl (fun _ => by kernel_rfl) ?_
                        refine sq_p (.pointer (some ⟨blkN vh, offN vh + mm * 9 + 5, none⟩)) rfl (fun _ => by kernel_rfl) ?_
                        refine sq_q rfl h (g_ldr (b := blkN vh) (offN vh + mm * 9 + 5) [.int .i64 sm.change] (.int .i64 sm.change) (by kernel_rfl) 6 rfl (rdRow spotC_len hx130 5 (by kernel_rfl))) ?_
                        refine sq_q rfl h (g_eq (v := .int .i64 (IntKind.i64.wrap (sm.change + 1))) (v' := .int .i64 (sm.change + 1)) (g_pure fun _ => by kernel_rfl) (wr (by omega))) ?_
                        refine sq_q rfl h (g_idx mm (by kernel_rfl) hi131 6 rfl) ?_
                        refine sq_p (.pointer (some ⟨blkN vh, offN vh + mm * 9 + 2, none⟩)) rfl (fun _ => by kernel_rfl) ?_
                        refine sq_p (.pointer (some ⟨blkN vh, offN vh + mm * 9 + 5, none⟩)) rfl (fun _ => by kernel_rfl) ?_
                        refine sq_str rfl (b := blkN vh) (offN vh + mm * 9 + 5) [.int .i64 (sm.change + 1)] h 6 rfl (by kernel_rfl) (wrRow spotC_len hx130 5 (⟨sm.n, sm.g, sm.kind, sm.asize, x31.2.2.2.1, sm.change + 1, sm.upn, sm.upg, sm.sz⟩ : Spot) (by kernel_rfl) (by kernel_rfl)) ?_; intro w h
                        have hx132 : ((here.set mm (⟨sm.n, sm.g, sm.kind, sm.asize, x31.2.2.2.1, sm.change, sm.upn, sm.upg, sm.sz⟩ : Spot)).set mm (⟨sm.n, sm.g, sm.kind, sm.asize, x31.2.2.2.1, sm.change + 1, sm.upn, sm.upg, sm.sz⟩ : Spot))[mm]? = some (⟨sm.n, sm.g, sm.kind, sm.asize, x31.2.2.2.1, sm.change + 1, sm.upn, sm.upg, sm.sz⟩ : Spot) := List.getElem?_set_self hi131
                        have hi133 : mm < ((here.set mm (⟨sm.n, sm.g, sm.kind, sm.asize, x31.2.2.2.1, sm.change, sm.upn, sm.upg, sm.sz⟩ : Spot)).set mm (⟨sm.n, sm.g, sm.kind, sm.asize, x31.2.2.2.1, sm.change + 1, sm.upn, sm.upg, sm.sz⟩ : Spot)).length := by rw [List.length_set]; exact hi131
                        refine lnil ?_
                        refine thn_n ?_
                        refine c_seq ?_
                        refine c_reg ?_
                        refine sq_p (vh) rfl (fun _ => by kernel_rfl) ?_
                        refine sq_p (.int .i64 (mm : Int)) rfl (fun _ => by kernel_rfl) ?_
                        refine sq_q rfl h (g_idx mm (by kernel_rfl) hi133 6 rfl) ?_
                        refine sq_p (.pointer (some ⟨blkN vh, offN vh + mm * 9 + 2, none⟩)) rfl (fun _ => by kernel_rfl) ?_
                        refine sq_p (.pointer (some ⟨blkN vh, offN vh + mm * 9 + 2, none⟩)) rfl (fun _ => by kernel_rfl) ?_
                        refine sq_q rfl h (g_ldr (b := blkN vh) (offN vh + mm * 9 + 2) [.int .i64 sm.kind] (.int .i64 sm.kind) (by kernel_rfl) 6 rfl (rdRow spotC_len hx132 2 (by kernel_rfl))) ?_
                        refine sq_p (.bool (decide (sm.kind = 2))) rfl (fun _ => by kernel_rfl) ?_
                        refine lnil ?_
                        refine thn_n ?_
                        refine c_cond (decide (sm.kind = 2)) (by kernel_rfl) (fun hc134 => ?_) (fun hc134 => ?_)
                        · skip
                          have hc134 := of_decide_eq_true hc134
                          refine c_seq ?_
                          refine c_reg ?_
                          refine sq_p (vh) rfl (fun _ => by kernel_rfl) ?_
                          refine sq_p (.int .i64 (mm : Int)) rfl (fun _ => by kernel_rfl) ?_
                          refine sq_p (.pointer (some ⟨k33, 3, none⟩)) rfl (fun _ => by kernel_rfl) ?_
                          refine sq_q rfl h (g_ld 3 [.int .i64 x31.2.2.1] (.int .i64 x31.2.2.1) (by kernel_rfl) 5 rfl) ?_
                          refine sq_q rfl h (g_idx mm (by kernel_rfl) hi133 6 rfl) ?_
                          refine sq_p (.pointer (some ⟨blkN vh, offN vh + mm * 9 + 2, none⟩)) rfl (fun _ => by kernel_rfl) ?_
                          refine sq_p (.pointer (some ⟨blkN vh, offN vh + mm * 9 + 3, none⟩)) rfl (fun _ => by kernel_rfl) ?_
                          refine sq_str rfl (b := blkN vh) (offN vh + mm * 9 + 3) [.int .i64 x31.2.2.1] h 6 rfl (by kernel_rfl) (wrRow spotC_len hx132 3 (⟨sm.n, sm.g, sm.kind, x31.2.2.1, x31.2.2.2.1, sm.change + 1, sm.upn, sm.upg, sm.sz⟩ : Spot) (by kernel_rfl) (by kernel_rfl)) ?_; intro w h
                          have hx135 : (((here.set mm (⟨sm.n, sm.g, sm.kind, sm.asize, x31.2.2.2.1, sm.change, sm.upn, sm.upg, sm.sz⟩ : Spot)).set mm (⟨sm.n, sm.g, sm.kind, sm.asize, x31.2.2.2.1, sm.change + 1, sm.upn, sm.upg, sm.sz⟩ : Spot)).set mm (⟨sm.n, sm.g, sm.kind, x31.2.2.1, x31.2.2.2.1, sm.change + 1, sm.upn, sm.upg, sm.sz⟩ : Spot))[mm]? = some (⟨sm.n, sm.g, sm.kind, x31.2.2.1, x31.2.2.2.1, sm.change + 1, sm.upn, sm.upg, sm.sz⟩ : Spot) := List.getElem?_set_self hi133
                          have hi136 : mm < (((here.set mm (⟨sm.n, sm.g, sm.kind, sm.asize, x31.2.2.2.1, sm.change, sm.upn, sm.upg, sm.sz⟩ : Spot)).set mm (⟨sm.n, sm.g, sm.kind, sm.asize, x31.2.2.2.1, sm.change + 1, sm.upn, sm.upg, sm.sz⟩ : Spot)).set mm (⟨sm.n, sm.g, sm.kind, x31.2.2.1, x31.2.2.2.1, sm.change + 1, sm.upn, sm.upg, sm.sz⟩ : Spot)).length := by rw [List.length_set]; exact hi133
                          refine lnil ?_
                          refine thn_n ?_
                          refine c_reg ?_
                          refine sq_p (vh) rfl (fun _ => by kernel_rfl) ?_
                          refine sq_p (.int .i64 (mm : Int)) rfl (fun _ => by kernel_rfl) ?_
                          refine sq_p (.pointer (some ⟨k33, 1, none⟩)) rfl (fun _ => by kernel_rfl) ?_
                          refine sq_q rfl h (g_ld 1 [.int .i64 x31.2.1.1, .int .i64 x31.2.1.2.1] (.agg #[.int .i64 x31.2.1.1, .int .i64 x31.2.1.2.1]) (by kernel_rfl) 5 rfl) ?_
                          refine sq_q rfl h (g_idx mm (by kernel_rfl) hi136 6 rfl) ?_
                          refine sq_p (.pointer (some ⟨blkN vh, offN vh + mm * 9 + 2, none⟩)) rfl (fun _ => by kernel_rfl) ?_
                          refine sq_p (.pointer (some ⟨blkN vh, offN vh + mm * 9 + 6, none⟩)) rfl (fun _ => by kernel_rfl) ?_
                          refine sq_str rfl (b := blkN vh) (offN vh + mm * 9 + 6) [.int .i64 x31.2.1.1, .int .i64 x31.2.1.2.1] h 6 rfl (by kernel_rfl) (wrRow spotC_len hx135 6 (⟨sm.n, sm.g, sm.kind, x31.2.2.1, x31.2.2.2.1, sm.change + 1, x31.2.1.1, x31.2.1.2.1, sm.sz⟩ : Spot) (by kernel_rfl) (by kernel_rfl)) ?_; intro w h
                          have hx137 : ((((here.set mm (⟨sm.n, sm.g, sm.kind, sm.asize, x31.2.2.2.1, sm.change, sm.upn, sm.upg, sm.sz⟩ : Spot)).set mm (⟨sm.n, sm.g, sm.kind, sm.asize, x31.2.2.2.1, sm.change + 1, sm.upn, sm.upg, sm.sz⟩ : Spot)).set mm (⟨sm.n, sm.g, sm.kind, x31.2.2.1, x31.2.2.2.1, sm.change + 1, sm.upn, sm.upg, sm.sz⟩ : Spot)).set mm (⟨sm.n, sm.g, sm.kind, x31.2.2.1, x31.2.2.2.1, sm.change + 1, x31.2.1.1, x31.2.1.2.1, sm.sz⟩ : Spot))[mm]? = some (⟨sm.n, sm.g, sm.kind, x31.2.2.1, x31.2.2.2.1, sm.change + 1, x31.2.1.1, x31.2.1.2.1, sm.sz⟩ : Spot) := List.getElem?_set_self hi136
                          have hi138 : mm < ((((here.set mm (⟨sm.n, sm.g, sm.kind, sm.asize, x31.2.2.2.1, sm.change, sm.upn, sm.upg, sm.sz⟩ : Spot)).set mm (⟨sm.n, sm.g, sm.kind, sm.asize, x31.2.2.2.1, sm.change + 1, sm.upn, sm.upg, sm.sz⟩ : Spot)).set mm (⟨sm.n, sm.g, sm.kind, x31.2.2.1, x31.2.2.2.1, sm.change + 1, sm.upn, sm.upg, sm.sz⟩ : Spot)).set mm (⟨sm.n, sm.g, sm.kind, x31.2.2.1, x31.2.2.2.1, sm.change + 1, x31.2.1.1, x31.2.1.2.1, sm.sz⟩ : Spot)).length := by rw [List.length_set]; exact hi136
                          refine lnil ?_
                          refine blk_n (mid_n ?_)
                          have hQ139 : NRel m (i0 + 1) ps gs (l.set kk (some (setND N x31.2.2.1 x31.2.2.2.1 x31.2.1.1 x31.2.1.2.1))) ((((here.set mm (⟨sm.n, sm.g, sm.kind, sm.asize, x31.2.2.2.1, sm.change, sm.upn, sm.upg, sm.sz⟩ : Spot)).set mm (⟨sm.n, sm.g, sm.kind, sm.asize, x31.2.2.2.1, sm.change + 1, sm.upn, sm.upg, sm.sz⟩ : Spot)).set mm (⟨sm.n, sm.g, sm.kind, x31.2.2.1, x31.2.2.2.1, sm.change + 1, sm.upn, sm.upg, sm.sz⟩ : Spot)).set mm (⟨sm.n, sm.g, sm.kind, x31.2.2.1, x31.2.2.2.1, sm.change + 1, x31.2.1.1, x31.2.1.2.1, sm.sz⟩ : Spot)) := (by simp only [List.set_set]; exact hR.upd hm hn1 hn2 (setND_nb _ _ _ _ _) rfl rfl (hn4.setD (by simpa using hc134) x31.2.2.1 x31.2.2.2.1 x31.2.1.1 x31.2.1.2.1) (by show 0 ≤ sm.change + 1; omega) (by show sm.change + 1 ≤ _; omega))
                          refine mid_end (fun j => ⟨ps, gs, (l.set kk (some (setND N x31.2.2.1 x31.2.2.2.1 x31.2.1.1 x31.2.1.2.1))), ((((here.set mm (⟨sm.n, sm.g, sm.kind, sm.asize, x31.2.2.2.1, sm.change, sm.upn, sm.upg, sm.sz⟩ : Spot)).set mm (⟨sm.n, sm.g, sm.kind, sm.asize, x31.2.2.2.1, sm.change + 1, sm.upn, sm.upg, sm.sz⟩ : Spot)).set mm (⟨sm.n, sm.g, sm.kind, x31.2.2.1, x31.2.2.2.1, sm.change + 1, sm.upn, sm.upg, sm.sz⟩ : Spot)).set mm (⟨sm.n, sm.g, sm.kind, x31.2.2.1, x31.2.2.2.1, sm.change + 1, x31.2.1.1, x31.2.1.2.1, sm.sz⟩ : Spot)), vh, j⟩) hQ139 (by kernel_rfl) [5, 5, 5, 1, 1, 2, 2, 1, 1, 1, 1, 0] (by kernel_rfl) h
                        · skip
                          have hc134 := of_decide_eq_false hc134
                          refine c_skip ?_
                          refine blk_n (mid_n ?_)
                          have hQ140 : NRel m (i0 + 1) ps gs (l.set kk (some (setND N x31.2.2.1 x31.2.2.2.1 x31.2.1.1 x31.2.1.2.1))) ((here.set mm (⟨sm.n, sm.g, sm.kind, sm.asize, x31.2.2.2.1, sm.change, sm.upn, sm.upg, sm.sz⟩ : Spot)).set mm (⟨sm.n, sm.g, sm.kind, sm.asize, x31.2.2.2.1, sm.change + 1, sm.upn, sm.upg, sm.sz⟩ : Spot)) := (by simp only [List.set_set]; exact hR.upd hm hn1 hn2 (setND_nb _ _ _ _ _) rfl rfl (hn4.setF (by simpa using hc134) x31.2.2.1 x31.2.2.2.1 x31.2.1.1 x31.2.1.2.1) (by show 0 ≤ sm.change + 1; omega) (by show sm.change + 1 ≤ _; omega))
                          refine mid_end (fun j => ⟨ps, gs, (l.set kk (some (setND N x31.2.2.1 x31.2.2.2.1 x31.2.1.1 x31.2.1.2.1))), ((here.set mm (⟨sm.n, sm.g, sm.kind, sm.asize, x31.2.2.2.1, sm.change, sm.upn, sm.upg, sm.sz⟩ : Spot)).set mm (⟨sm.n, sm.g, sm.kind, sm.asize, x31.2.2.2.1, sm.change + 1, sm.upn, sm.upg, sm.sz⟩ : Spot)), vh, j⟩) hQ140 (by kernel_rfl) [5, 5, 5, 1, 1, 2, 2, 1, 1, 1, 1, 0] (by kernel_rfl) h
                  · skip
                    have hc116 := of_decide_eq_false hc116
                    refine c_seq ?_
                    refine c_reg ?_
                    refine sq_q rfl h (g_eq (v := .bool (x31.1.toList == (⟨#[116, 111, 117, 99, 104]⟩ : ByteArray).toList)) (v' := .bool (decide (x31.1 = (⟨#[116, 111, 117, 99, 104]⟩ : ByteArray)))) (g_pure fun _ => by kernel_rfl) beqS) ?_
                    refine sq_p (.bool (decide (x31.1 = (⟨#[116, 111, 117, 99, 104]⟩ : ByteArray)))) rfl (fun _ => by kernel_rfl) ?_
                    refine lnil ?_
                    refine thn_n ?_
                    refine c_cond (decide (x31.1 = (⟨#[116, 111, 117, 99, 104]⟩ : ByteArray))) (by kernel_rfl) (fun hc141 => ?_) (fun hc141 => ?_)
                    · skip
                      have hc141 := of_decide_eq_true hc141
                      rcases hK with ⟨hst, hkn, hno⟩ | ⟨hst, mm, sm, hkm, hm, hs1, hs2⟩
                      · skip
                        obtain rfl : stl = 10 := hst
                        refine c_seq ?_
                        refine c_seq ?_
                        refine c_reg ?_
                        refine sq_p (.pointer (some ⟨tb, 0, none⟩)) rfl (fun _ => by kernel_rfl) ?_
                        refine sq_p (.pointer (some ⟨k33, 1, none⟩)) rfl (fun _ => by kernel_rfl) ?_
                        refine sq_q rfl h (g_ld 1 [.int .i64 x31.2.1.1, .int .i64 x31.2.1.2.1] (.agg #[.int .i64 x31.2.1.1, .int .i64 x31.2.1.2.1]) (by kernel_rfl) 0 rfl) ?_
                        have haX : atOf ps gs x31.2.1.1 x31.2.1.2.1 = none := hR.at_none hno
                        refine sq_call #[.pointer (some ⟨tb, 0, none⟩), .agg #[.int .i64 x31.2.1.1, .int .i64 x31.2.1.2.1]] [3, 3, 5] rfl (touchN_spec ad tb ps gs vl vg T Sl Sg l (by rw [hR.lp, hR.lg]) (fun y hy => by have := hR.rng y hy; omega) x31.2.1.1 x31.2.1.2.1 haX) (fun _ => by kernel_rfl) h ?_; rintro v_ L_ w ⟨rfl, rfl⟩ h
                        refine sq_p (.int .i64 10) rfl (fun _ => by kernel_rfl) ?_
                        refine sq_call #[errV ad 10, .int .i64 10] [11] rfl (coded1_spec ad 10 10 (by decide) (by first | decide | omega)) (fun _ => by kernel_rfl) h ?_; rintro v_ L_ w ⟨rfl, rfl⟩ h
                        refine sq_p (.bool false) rfl (fun _ => by kernel_rfl) ?_
                        refine lnil ?_
                        refine thn_n ?_
                        refine c_false (by kernel_rfl) ?_
                        refine c_skip ?_
                        refine thn_n ?_
                        refine c_seq ?_
                        refine c_reg ?_
                        refine sq_p (.int .i64 kx) rfl (fun _ => by kernel_rfl) ?_
                        refine sq_p (.bool (decide (kx ≥ 0))) rfl (fun _ => by kernel_rfl) ?_
                        refine lnil ?_
                        refine thn_n ?_
                        refine c_cond (decide (kx ≥ 0)) (by kernel_rfl) (fun hc142 => ?_) (fun hc142 => ?_)
                        · skip
                          have hc142 := of_decide_eq_true hc142
                          exfalso; omega
                        · skip
                          have hc142 := of_decide_eq_false hc142
                          refine c_skip ?_
                          refine blk_n (mid_n ?_)
                          have hQ143 : NRel m (i0 + 1) ps gs l here := (hR.mono (by omega))
                          refine mid_end (fun j => ⟨ps, gs, l, here, vh, j⟩) hQ143 (by kernel_rfl) [4, 4, 4, 1, 1, 2, 2, 1, 1, 1, 1, 0] (by kernel_rfl) h
                      · skip
                        obtain rfl : stl = 0 := hst
                        have hkp := h
                        obtain rfl : kx = (mm : Int) := hkm
                        have h := hkp
                        clear hkp
                        have hmb := get_ltS hm
                        refine c_seq ?_
                        refine c_seq ?_
                        refine c_reg ?_
                        refine sq_p (.pointer (some ⟨tb, 0, none⟩)) rfl (fun _ => by kernel_rfl) ?_
                        refine sq_p (.pointer (some ⟨k33, 1, none⟩)) rfl (fun _ => by kernel_rfl) ?_
                        refine sq_q rfl h (g_ld 1 [.int .i64 x31.2.1.1, .int .i64 x31.2.1.2.1] (.agg #[.int .i64 x31.2.1.1, .int .i64 x31.2.1.2.1]) (by kernel_rfl) 0 rfl) ?_
                        obtain ⟨kk, N, hn1, hn2, hn3, hn4, hn5, hn6, hn7⟩ := hR.at_some (List.mem_of_getElem? hm)
                        have haX : atOf ps gs x31.2.1.1 x31.2.1.2.1 = some N.nb := by rw [← hs1, ← hs2, hn1]; exact hn3
                        have hcX : 0 ≤ N.change ∧ N.change ≤ 1000000 := by rw [← hn4.change]; omega
                        have hszX := hn4.sz
                        refine sq_call #[.pointer (some ⟨tb, 0, none⟩), .agg #[.int .i64 x31.2.1.1, .int .i64 x31.2.1.2.1]] [3, 3, 5] rfl (touch_spec ad tb ps gs vl vg T Sl Sg l (by rw [hR.lp, hR.lg]) (fun y hy => by have := hR.rng y hy; omega) x31.2.1.1 x31.2.1.2.1 kk N hn2 haX hcX) (fun _ => by kernel_rfl) h ?_; rintro v_ L_ w ⟨rfl, rfl⟩ h
                        refine sq_p (.int .i64 0) rfl (fun _ => by kernel_rfl) ?_
                        refine sq_call #[.nilIface, .int .i64 0] [11] rfl (coded1_spec ad 0 0 (by decide) (by first | decide | omega)) (fun _ => by kernel_rfl) h ?_; rintro v_ L_ w ⟨rfl, rfl⟩ h
                        refine sq_p (.bool false) rfl (fun _ => by kernel_rfl) ?_
                        refine lnil ?_
                        refine thn_n ?_
                        refine c_false (by kernel_rfl) ?_
                        refine c_skip ?_
                        refine thn_n ?_
                        refine c_seq ?_
                        refine c_reg ?_
                        refine sq_p (.int .i64 (mm : Int)) rfl (fun _ => by kernel_rfl) ?_
                        refine sq_p (.bool (decide ((mm : Int) ≥ 0))) rfl (fun _ => by kernel_rfl) ?_
                        refine lnil ?_
                        refine thn_n ?_
                        refine c_cond (decide ((mm : Int) ≥ 0)) (by kernel_rfl) (fun hc144 => ?_) (fun hc144 => ?_)
                        · skip
                          have hc144 := of_decide_eq_true hc144
                          refine c_reg ?_
                          refine sq_p (vh) rfl (fun _ => by kernel_rfl) ?_
                          refine sq_p (.int .i64 (mm : Int)) rfl (fun _ => by kernel_rfl) ?_
                          refine sq_q rfl h (g_idx mm (by kernel_rfl) hmb 5 rfl) ?_
                          refine sq_p (.pointer (some ⟨blkN vh, offN vh + mm * 9 + 2, none⟩)) rfl (fun _ => by kernel_rfl) ?_
                          refine sq_p (.pointer (some ⟨blkN vh, offN vh + mm * 9 + 5, none⟩)) rfl (fun _ => by kernel_rfl) ?_
                          refine sq_q rfl h (g_ldr (b := blkN vh) (offN vh + mm * 9 + 5) [.int .i64 sm.change] (.int .i64 sm.change) (by kernel_rfl) 5 rfl (rdRow spotC_len hm 5 (by kernel_rfl))) ?_
                          refine sq_q rfl h (g_eq (v := .int .i64 (IntKind.i64.wrap (sm.change + 1))) (v' := .int .i64 (sm.change + 1)) (g_pure fun _ => by kernel_rfl) (wr (by omega))) ?_
                          refine sq_q rfl h (g_idx mm (by kernel_rfl) hmb 5 rfl) ?_
                          refine sq_p (.pointer (some ⟨blkN vh, offN vh + mm * 9 + 2, none⟩)) rfl (fun _ => by kernel_rfl) ?_
                          refine sq_p (.pointer (some ⟨blkN vh, offN vh + mm * 9 + 5, none⟩)) rfl (fun _ => by kernel_rfl) ?_
                          refine sq_str rfl (b := blkN vh) (offN vh + mm * 9 + 5) [.int .i64 (sm.change + 1)] h 5 rfl (by kernel_rfl) (wrRow spotC_len hm 5 (⟨sm.n, sm.g, sm.kind, sm.asize, sm.links, sm.change + 1, sm.upn, sm.upg, sm.sz⟩ : Spot) (by kernel_rfl) (by kernel_rfl)) ?_; intro w h
                          have hx145 : (here.set mm (⟨sm.n, sm.g, sm.kind, sm.asize, sm.links, sm.change + 1, sm.upn, sm.upg, sm.sz⟩ : Spot))[mm]? = some (⟨sm.n, sm.g, sm.kind, sm.asize, sm.links, sm.change + 1, sm.upn, sm.upg, sm.sz⟩ : Spot) := List.getElem?_set_self hmb
                          have hi146 : mm < (here.set mm (⟨sm.n, sm.g, sm.kind, sm.asize, sm.links, sm.change + 1, sm.upn, sm.upg, sm.sz⟩ : Spot)).length := by rw [List.length_set]; exact hmb
                          refine lnil ?_
                          refine blk_n (mid_n ?_)
                          have hQ147 : NRel m (i0 + 1) ps gs (l.set kk (some { N with change := N.change + 1 })) (here.set mm (⟨sm.n, sm.g, sm.kind, sm.asize, sm.links, sm.change + 1, sm.upn, sm.upg, sm.sz⟩ : Spot)) := (by first | (simp only [List.set_set]; exact hR.upd hm hn1 hn2 rfl rfl rfl hn4.touch (by first | (show 0 ≤ sm.change + 1; omega) | (show 0 ≤ sm.change; omega)) (by first | (show sm.change + 1 ≤ _; omega) | (show sm.change ≤ _; omega))) | exact hR.upd hm hn1 hn2 rfl rfl rfl hn4.touch (by first | (show 0 ≤ sm.change + 1; omega) | (show 0 ≤ sm.change; omega)) (by first | (show sm.change + 1 ≤ _; omega) | (show sm.change ≤ _; omega)))
                          refine mid_end (fun j => ⟨ps, gs, (l.set kk (some { N with change := N.change + 1 })), (here.set mm (⟨sm.n, sm.g, sm.kind, sm.asize, sm.links, sm.change + 1, sm.upn, sm.upg, sm.sz⟩ : Spot)), vh, j⟩) hQ147 (by kernel_rfl) [4, 4, 4, 1, 1, 2, 2, 1, 1, 1, 1, 0] (by kernel_rfl) h
                        · skip
                          have hc144 := of_decide_eq_false hc144
                          exfalso; omega
                    · skip
                      have hc141 := of_decide_eq_false hc141
                      refine c_seq ?_
                      refine c_reg ?_
                      refine sq_q rfl h (g_eq (v := .bool (x31.1.toList == (⟨#[102, 114, 101, 101]⟩ : ByteArray).toList)) (v' := .bool (decide (x31.1 = (⟨#[102, 114, 101, 101]⟩ : ByteArray)))) (g_pure fun _ => by kernel_rfl) beqS) ?_
                      refine sq_p (.bool (decide (x31.1 = (⟨#[102, 114, 101, 101]⟩ : ByteArray)))) rfl (fun _ => by kernel_rfl) ?_
                      refine lnil ?_
                      refine thn_n ?_
                      refine c_cond (decide (x31.1 = (⟨#[102, 114, 101, 101]⟩ : ByteArray))) (by kernel_rfl) (fun hc148 => ?_) (fun hc148 => ?_)
                      · skip
                        have hc148 := of_decide_eq_true hc148
                        rcases hK with ⟨hst, hkn, hno⟩ | ⟨hst, mm, sm, hkm, hm, hs1, hs2⟩
                        · skip
                          obtain rfl : stl = 10 := hst
                          refine c_seq ?_
                          refine c_seq ?_
                          refine c_reg ?_
                          refine sq_p (.pointer (some ⟨tb, 0, none⟩)) rfl (fun _ => by kernel_rfl) ?_
                          refine sq_p (.pointer (some ⟨k33, 1, none⟩)) rfl (fun _ => by kernel_rfl) ?_
                          refine sq_q rfl h (g_ld 1 [.int .i64 x31.2.1.1, .int .i64 x31.2.1.2.1] (.agg #[.int .i64 x31.2.1.1, .int .i64 x31.2.1.2.1]) (by kernel_rfl) 0 rfl) ?_
                          have haX : atOf ps gs x31.2.1.1 x31.2.1.2.1 = none := hR.at_none hno
                          refine sq_call #[.pointer (some ⟨tb, 0, none⟩), .agg #[.int .i64 x31.2.1.1, .int .i64 x31.2.1.2.1]] [3, 3, 5] rfl (freeN_spec ad tb ps gs vl vg T Sl Sg l (by rw [hR.lp, hR.lg]) (fun y hy => by have := hR.rng y hy; omega) x31.2.1.1 x31.2.1.2.1 haX) (fun _ => by kernel_rfl) h ?_; rintro v_ L_ w ⟨rfl, rfl⟩ h
                          refine sq_p (.int .i64 10) rfl (fun _ => by kernel_rfl) ?_
                          refine sq_call #[errV ad 10, .int .i64 10] [11] rfl (coded1_spec ad 10 10 (by decide) (by first | decide | omega)) (fun _ => by kernel_rfl) h ?_; rintro v_ L_ w ⟨rfl, rfl⟩ h
                          refine sq_p (.bool false) rfl (fun _ => by kernel_rfl) ?_
                          refine lnil ?_
                          refine thn_n ?_
                          refine c_false (by kernel_rfl) ?_
                          refine c_skip ?_
                          refine thn_n ?_
                          refine c_seq ?_
                          refine c_reg ?_
                          refine sq_p (.int .i64 kx) rfl (fun _ => by kernel_rfl) ?_
                          refine sq_p (.bool (decide (kx ≥ 0))) rfl (fun _ => by kernel_rfl) ?_
                          refine lnil ?_
                          refine thn_n ?_
                          refine c_cond (decide (kx ≥ 0)) (by kernel_rfl) (fun hc149 => ?_) (fun hc149 => ?_)
                          · skip
                            have hc149 := of_decide_eq_true hc149
                            exfalso; omega
                          · skip
                            have hc149 := of_decide_eq_false hc149
                            refine c_skip ?_
                            refine blk_n (mid_n ?_)
                            have hQ150 : NRel m (i0 + 1) ps gs l here := (hR.mono (by omega))
                            refine mid_end (fun j => ⟨ps, gs, l, here, vh, j⟩) hQ150 (by kernel_rfl) [4, 4, 4, 1, 1, 2, 2, 1, 1, 1, 1, 0] (by kernel_rfl) h
                        · skip
                          obtain rfl : stl = 0 := hst
                          have hkp := h
                          obtain rfl : kx = (mm : Int) := hkm
                          have h := hkp
                          clear hkp
                          have hmb := get_ltS hm
                          refine c_seq ?_
                          refine c_seq ?_
                          refine c_reg ?_
                          refine sq_p (.pointer (some ⟨tb, 0, none⟩)) rfl (fun _ => by kernel_rfl) ?_
                          refine sq_p (.pointer (some ⟨k33, 1, none⟩)) rfl (fun _ => by kernel_rfl) ?_
                          refine sq_q rfl h (g_ld 1 [.int .i64 x31.2.1.1, .int .i64 x31.2.1.2.1] (.agg #[.int .i64 x31.2.1.1, .int .i64 x31.2.1.2.1]) (by kernel_rfl) 0 rfl) ?_
                          obtain ⟨kk, N, hn1, hn2, hn3, hn4, hn5, hn6, hn7⟩ := hR.at_some (List.mem_of_getElem? hm)
                          have haX : atOf ps gs x31.2.1.1 x31.2.1.2.1 = some N.nb := by rw [← hs1, ← hs2, hn1]; exact hn3
                          have hcX : 0 ≤ N.change ∧ N.change ≤ 1000000 := by rw [← hn4.change]; omega
                          have hszX := hn4.sz
                          refine sq_call #[.pointer (some ⟨tb, 0, none⟩), .agg #[.int .i64 x31.2.1.1, .int .i64 x31.2.1.2.1]] [3, 3, 5] rfl (freeR_spec ad tb ps gs vl vg T Sl Sg l (by rw [hR.lp, hR.lg]) (fun y hy => by have := hR.rng y hy; omega) x31.2.1.1 x31.2.1.2.1 kk N.nb (hs1.symm.trans hn1) hn7 haX) (fun _ => by kernel_rfl) h ?_; rintro v_ L_ w ⟨rfl, rfl⟩ h
                          refine sq_p (.int .i64 0) rfl (fun _ => by kernel_rfl) ?_
                          refine sq_call #[.nilIface, .int .i64 0] [11] rfl (coded1_spec ad 0 0 (by decide) (by first | decide | omega)) (fun _ => by kernel_rfl) h ?_; rintro v_ L_ w ⟨rfl, rfl⟩ h
                          refine sq_p (.bool false) rfl (fun _ => by kernel_rfl) ?_
                          refine lnil ?_
                          refine thn_n ?_
                          refine c_false (by kernel_rfl) ?_
                          refine c_skip ?_
                          refine thn_n ?_
                          refine c_seq ?_
                          refine c_reg ?_
                          refine sq_p (.int .i64 (mm : Int)) rfl (fun _ => by kernel_rfl) ?_
                          refine sq_p (.bool (decide ((mm : Int) ≥ 0))) rfl (fun _ => by kernel_rfl) ?_
                          refine lnil ?_
                          refine thn_n ?_
                          refine c_cond (decide ((mm : Int) ≥ 0)) (by kernel_rfl) (fun hc151 => ?_) (fun hc151 => ?_)
                          · skip
                            have hc151 := of_decide_eq_true hc151
                            refine c_seq ?_
                            refine c_reg ?_
                            refine sq_p (.slice none 0 0) rfl (fun _ => by kernel_rfl) ?_
                            refine lnil ?_
                            refine thn_n ?_
                            refine c_seq ?_
                            refine c_reg ?_
                            refine sq_p (.slice none 0 0) rfl (fun _ => by kernel_rfl) ?_
                            refine sq_p (vh) rfl (fun _ => by kernel_rfl) ?_
                            refine sq_p (.int .i64 (mm : Int)) rfl (fun _ => by kernel_rfl) ?_
                            refine sq_q rfl h (g_sub2 (v := vh) (d := 39) (k := 9) (LV := none) (HV := (some (.int .i64 (mm : Int)))) 0 mm (by kernel_rfl) rfl (bnd rfl) (by first | omega | (simp; omega)) (by first | omega | (simp; omega)) 5 rfl slRd_rows) ?_
                            have h := h.nilRows 39 9 spotC
                            refine sq_apps rfl 0 mm (by kernel_rfl) spotC_len (fun _ => rfl) (by omega) (by omega) h 0 rfl 6 rfl slRd_rows (by (try simp only [List.length_append, List.length_cons, List.length_nil, List.length_take, List.length_drop]); omega) ?_; intro v152 w h
                            refine sq_p (v152) rfl (fun _ => by kernel_rfl) ?_
                            refine lnil ?_
                            refine thn_n ?_
                            refine c_reg ?_
                            refine sq_p (v152) rfl (fun _ => by kernel_rfl) ?_
                            refine sq_p (vh) rfl (fun _ => by kernel_rfl) ?_
                            refine sq_p (.int .i64 (mm : Int)) rfl (fun _ => by kernel_rfl) ?_
                            refine sq_q rfl h (g_eq (v := .int .i64 (IntKind.i64.wrap ((mm : Int) + 1))) (v' := .int .i64 ((mm + 1 : Nat) : Int)) (g_pure fun _ => by kernel_rfl) (wr (by omega))) ?_
                            refine sq_q rfl h (g_sub2 (v := vh) (d := 39) (k := 9) (LV := (some (.int .i64 ((mm + 1 : Nat) : Int)))) (HV := none) (mm + 1) here.length (by kernel_rfl) (bnd rfl) rfl (by first | omega | (simp; omega)) (by first | omega | (simp; omega)) 6 rfl slRd_rows) ?_
                            refine sq_apps rfl (mm + 1) here.length (by kernel_rfl) spotC_len (fun _ => rfl) (by omega) (by omega) h 0 rfl 6 rfl slRd_rows (by (try simp only [List.length_append, List.length_cons, List.length_nil, List.length_take, List.length_drop]); omega) ?_; intro v153 w h
                            refine sq_p (v153) rfl (fun _ => by kernel_rfl) ?_
                            refine lnil ?_
                            refine blk_n (mid_n ?_)
                            have hQ154 : NRel m (i0 + 1) (ps.set kk none) gs (l.set kk none) ([] ++ (here.take mm).drop 0 ++ (here.take here.length).drop (mm + 1)) := (by rw [erase_eq]; exact (hR.gone hm hn1 hn2).mono (by omega))
                            refine mid_end (fun j => ⟨(ps.set kk none), gs, (l.set kk none), ([] ++ (here.take mm).drop 0 ++ (here.take here.length).drop (mm + 1)), v153, j⟩) hQ154 (by kernel_rfl) [5, 0, 5, 1, 1, 3, 3, 1, 2, 2, 2, 0] (by kernel_rfl) h
                          · skip
                            have hc151 := of_decide_eq_false hc151
                            exfalso; omega
                      · skip
                        have hc148 := of_decide_eq_false hc148
                        refine c_seq ?_
                        refine c_reg ?_
                        refine sq_q rfl h (g_eq (v := .bool (x31.1.toList == (⟨#[119, 114, 105, 116, 101]⟩ : ByteArray).toList)) (v' := .bool (decide (x31.1 = (⟨#[119, 114, 105, 116, 101]⟩ : ByteArray)))) (g_pure fun _ => by kernel_rfl) beqS) ?_
                        refine sq_p (.bool (decide (x31.1 = (⟨#[119, 114, 105, 116, 101]⟩ : ByteArray)))) rfl (fun _ => by kernel_rfl) ?_
                        refine lnil ?_
                        refine thn_n ?_
                        refine c_cond (decide (x31.1 = (⟨#[119, 114, 105, 116, 101]⟩ : ByteArray))) (by kernel_rfl) (fun hc155 => ?_) (fun hc155 => ?_)
                        · skip
                          have hc155 := of_decide_eq_true hc155
                          rcases hK with ⟨hst, hkn, hno⟩ | ⟨hst, mm, sm, hkm, hm, hs1, hs2⟩
                          · skip
                            obtain rfl : stl = 10 := hst
                            refine c_seq ?_
                            refine c_reg ?_
                            refine sq_p (.pointer (some ⟨tb, 0, none⟩)) rfl (fun _ => by kernel_rfl) ?_
                            refine sq_p (.pointer (some ⟨k33, 1, none⟩)) rfl (fun _ => by kernel_rfl) ?_
                            refine sq_q rfl h (g_ld 1 [.int .i64 x31.2.1.1, .int .i64 x31.2.1.2.1] (.agg #[.int .i64 x31.2.1.1, .int .i64 x31.2.1.2.1]) (by kernel_rfl) 0 rfl) ?_
                            have haX : atOf ps gs x31.2.1.1 x31.2.1.2.1 = none := hR.at_none hno
                            refine sq_call #[.pointer (some ⟨tb, 0, none⟩), .agg #[.int .i64 x31.2.1.1, .int .i64 x31.2.1.2.1]] [3, 3, 5] rfl (dataN_spec ad tb ps gs vl vg T Sl Sg l (by rw [hR.lp, hR.lg]) (fun y hy => by have := hR.rng y hy; omega) x31.2.1.1 x31.2.1.2.1 haX) (fun _ => by kernel_rfl) h ?_; rintro v_ L_ w ⟨rfl, rfl⟩ h
                            refine sq_p (.tuple #[.pointer none, errV ad 10]) rfl (fun _ => by kernel_rfl) ?_
                            refine sq_p (.pointer none) rfl (fun _ => by kernel_rfl) ?_
                            refine sq_p (errV ad 10) rfl (fun _ => by kernel_rfl) ?_
                            refine sq_p (.pointer none) rfl (fun _ => by kernel_rfl) ?_
                            refine sq_p (errV ad 10) rfl (fun _ => by kernel_rfl) ?_
                            refine lnil ?_
                            refine thn_n ?_
                            refine c_seq ?_
                            refine c_reg ?_
                            refine sq_p (.int .i64 10) rfl (fun _ => by kernel_rfl) ?_
                            refine sq_p (.int .i64 10) rfl (fun _ => by kernel_rfl) ?_
                            refine lnil ?_
                            refine thn_n ?_
                            refine c_seq ?_
                            refine c_seq ?_
                            refine c_reg ?_
                            refine sq_p (.int .i64 10) rfl (fun _ => by kernel_rfl) ?_
                            refine sq_p (.bool false) rfl (fun _ => by kernel_rfl) ?_
                            refine sq_p (.bool false) rfl (fun _ => by kernel_rfl) ?_
                            refine sn (by kernel_rfl) ?_
                            refine sn (by kernel_rfl) ?_
                            refine sn (by kernel_rfl) ?_
                            refine sn (by kernel_rfl) ?_
                            refine sn (by kernel_rfl) ?_
                            refine sn (by kernel_rfl) ?_
                            refine sn (by kernel_rfl) ?_
                            refine sq_p (.bool false) rfl (fun _ => by kernel_rfl) ?_
                            refine lnil ?_
                            refine thn_n ?_
                            refine c_false (by kernel_rfl) ?_
                            refine c_skip ?_
                            refine thn_n ?_
                            refine c_seq ?_
                            refine c_seq ?_
                            refine c_reg ?_
                            refine sq_p (.int .i64 10) rfl (fun _ => by kernel_rfl) ?_
                            refine sq_p (.bool true) rfl (fun _ => by kernel_rfl) ?_
                            refine lnil ?_
                            refine thn_n ?_
                            refine c_true (by kernel_rfl) ?_
                            refine c_seq ?_
                            refine c_seq ?_
                            refine c_reg ?_
                            refine sq_p (errV ad 10) rfl (fun _ => by kernel_rfl) ?_
                            refine sq_p (.int .i64 10) rfl (fun _ => by kernel_rfl) ?_
                            refine sq_call #[errV ad 10, .int .i64 10] [11] rfl (coded1_spec ad 10 10 (by decide) (by first | decide | omega)) (fun _ => by kernel_rfl) h ?_; rintro v_ L_ w ⟨rfl, rfl⟩ h
                            refine sq_p (.bool false) rfl (fun _ => by kernel_rfl) ?_
                            refine sq_p (.bool false) rfl (fun _ => by kernel_rfl) ?_
                            refine sq_p (.pointer none) (by kernel_rfl) (fun _ => by kernel_rfl) ?_
                            refine sq_p (.bool false) (by kernel_rfl) (fun _ => by kernel_rfl) ?_
                            refine sq_p (.bool false) rfl (fun _ => by kernel_rfl) ?_
                            refine lnil ?_
                            refine thn_n ?_
                            refine c_false (by kernel_rfl) ?_
                            refine c_skip ?_
                            refine thn_n ?_
                            refine c_exit ?_
                            refine thn_e (blk_x rfl (mid_e (thn_e (blk_e (thn_n ?_)))))
                            refine c_reg ?_
                            refine sq_p (.int .i64 (i0 : Int)) rfl (fun _ => by kernel_rfl) ?_
                            refine sq_q rfl h (g_eq (v := .int .i64 (IntKind.i64.wrap ((i0 : Int) + 1))) (v' := .int .i64 ((i0 + 1 : Nat) : Int)) (g_pure fun _ => by kernel_rfl) (wr (by omega))) ?_
                            refine sq_p (.int .i64 ((i0 + 1 : Nat) : Int)) rfl (fun _ => by kernel_rfl) ?_
                            refine lnil ?_
                            refine loop_end (fun j => ⟨(i0 + 1), ps, gs, l, here, vh, j⟩) (show ((i0 + 1) ≤ acts.length ∧ NRel m (i0 + 1) ps gs l here) ∧ (acts.length - (i0 + 1)) < (acts.length - i0) from ⟨⟨by omega, (hR.mono (by omega))⟩, by omega⟩) (by kernel_rfl) [5, 5, 1, 1, 3, 3, 1, 2, 2, 2, 0] (by kernel_rfl) h
                          · skip
                            obtain rfl : stl = 0 := hst
                            have hkp := h
                            obtain rfl : kx = (mm : Int) := hkm
                            have h := hkp
                            clear hkp
                            have hmb := get_ltS hm
                            refine c_seq ?_
                            refine c_reg ?_
                            refine sq_p (.pointer (some ⟨tb, 0, none⟩)) rfl (fun _ => by kernel_rfl) ?_
                            refine sq_p (.pointer (some ⟨k33, 1, none⟩)) rfl (fun _ => by kernel_rfl) ?_
                            refine sq_q rfl h (g_ld 1 [.int .i64 x31.2.1.1, .int .i64 x31.2.1.2.1] (.agg #[.int .i64 x31.2.1.1, .int .i64 x31.2.1.2.1]) (by kernel_rfl) 0 rfl) ?_
                            obtain ⟨kk, N, hn1, hn2, hn3, hn4, hn5, hn6, hn7⟩ := hR.at_some (List.mem_of_getElem? hm)
                            have haX : atOf ps gs x31.2.1.1 x31.2.1.2.1 = some N.nb := by rw [← hs1, ← hs2, hn1]; exact hn3
                            have hcX : 0 ≤ N.change ∧ N.change ≤ 1000000 := by rw [← hn4.change]; omega
                            have hszX := hn4.sz
                            refine sq_call #[.pointer (some ⟨tb, 0, none⟩), .agg #[.int .i64 x31.2.1.1, .int .i64 x31.2.1.2.1]] [3, 3, 5, 4] rfl (dataR_spec ad tb ps gs vl vg T Sl Sg l (by rw [hR.lp, hR.lg]) (fun y hy => by have := hR.rng y hy; omega) x31.2.1.1 x31.2.1.2.1 kk N sm hn2 haX hn4) (fun _ => by kernel_rfl) h ?_; rintro v_ L_ w (⟨hd156, rfl, rfl⟩ | ⟨hd157, qd, hqd, hqz, rfl, rfl⟩) h
                            · skip
                              refine sq_p (.tuple #[.pointer none, errV ad 8]) rfl (fun _ => by kernel_rfl) ?_
                              refine sq_p (.pointer none) rfl (fun _ => by kernel_rfl) ?_
                              refine sq_p (errV ad 8) rfl (fun _ => by kernel_rfl) ?_
                              refine sq_p (.pointer none) rfl (fun _ => by kernel_rfl) ?_
                              refine sq_p (errV ad 8) rfl (fun _ => by kernel_rfl) ?_
                              refine lnil ?_
                              refine thn_n ?_
                              refine c_seq ?_
                              refine c_reg ?_
                              refine sq_p (.int .i64 0) rfl (fun _ => by kernel_rfl) ?_
                              refine sq_p (.int .i64 0) rfl (fun _ => by kernel_rfl) ?_
                              refine lnil ?_
                              refine thn_n ?_
                              refine c_seq ?_
                              refine c_seq ?_
                              refine c_reg ?_
                              refine sq_p (.int .i64 0) rfl (fun _ => by kernel_rfl) ?_
                              refine sq_p (.bool true) rfl (fun _ => by kernel_rfl) ?_
                              refine sq_p (.bool true) rfl (fun _ => by kernel_rfl) ?_
                              refine sq_p (vh) (by kernel_rfl) (fun _ => by kernel_rfl) ?_
                              refine sq_p (.int .i64 (mm : Int)) (by kernel_rfl) (fun _ => by kernel_rfl) ?_
                              refine sq_q (by kernel_rfl) h (g_idx mm (by kernel_rfl) hmb 5 rfl) ?_
                              refine sq_p (.pointer (some ⟨blkN vh, offN vh + mm * 9 + 2, none⟩)) (by kernel_rfl) (fun _ => by kernel_rfl) ?_
                              refine sq_p (.pointer (some ⟨blkN vh, offN vh + mm * 9 + 2, none⟩)) (by kernel_rfl) (fun _ => by kernel_rfl) ?_
                              refine sq_q (by kernel_rfl) h (g_ldr (b := blkN vh) (offN vh + mm * 9 + 2) [.int .i64 sm.kind] (.int .i64 sm.kind) (by kernel_rfl) 5 rfl (rdRow spotC_len hm 2 (by kernel_rfl))) ?_
                              obtain ⟨b158, hb158⟩ : ∃ b_ : Bool, b_ = (decide (sm.kind = 2)) := ⟨_, rfl⟩
                              refine sq_q (v := .bool b158) (by kernel_rfl) h (by subst hb158; exact g_pure (v := .bool (decide (sm.kind = 2))) fun _ => by kernel_rfl) ?_
                              refine sq_p (.bool b158) rfl (fun _ => by kernel_rfl) ?_
                              refine lnil ?_
                              refine thn_n ?_
                              refine c_cond (b158) (by kernel_rfl) (fun hc159 => ?_) (fun hc159 => ?_)
                              · skip
                                have q160 : (decide (sm.kind = 2)) = true := by rw [← hb158]; exact hc159
                                have q160 := of_decide_eq_true q160
                                refine c_reg ?_
                                refine sq_p (.int .i64 8) rfl (fun _ => by kernel_rfl) ?_
                                refine lnil ?_
                                refine thn_n ?_
                                refine c_seq ?_
                                refine c_seq ?_
                                refine c_reg ?_
                                refine sq_p (.int .i64 8) rfl (fun _ => by kernel_rfl) ?_
                                refine sq_p (.bool true) rfl (fun _ => by kernel_rfl) ?_
                                refine lnil ?_
                                refine thn_n ?_
                                refine c_true (by kernel_rfl) ?_
                                refine c_seq ?_
                                refine c_seq ?_
                                refine c_reg ?_
                                refine sq_p (errV ad 8) rfl (fun _ => by kernel_rfl) ?_
                                refine sq_p (.int .i64 8) rfl (fun _ => by kernel_rfl) ?_
                                refine sq_call #[errV ad 8, .int .i64 8] [11] rfl (coded1_spec ad 8 8 (by decide) (by first | decide | omega)) (fun _ => by kernel_rfl) h ?_; rintro v_ L_ w ⟨rfl, rfl⟩ h
                                refine sq_p (.bool false) rfl (fun _ => by kernel_rfl) ?_
                                refine sq_p (.bool false) rfl (fun _ => by kernel_rfl) ?_
                                refine sq_p (.pointer none) (by kernel_rfl) (fun _ => by kernel_rfl) ?_
                                refine sq_p (.bool false) (by kernel_rfl) (fun _ => by kernel_rfl) ?_
                                refine sq_p (.bool false) rfl (fun _ => by kernel_rfl) ?_
                                refine lnil ?_
                                refine thn_n ?_
                                refine c_false (by kernel_rfl) ?_
                                refine c_skip ?_
                                refine thn_n ?_
                                refine c_exit ?_
                                refine thn_e (blk_x rfl (mid_e (thn_e (blk_e (thn_n ?_)))))
                                refine c_reg ?_
                                refine sq_p (.int .i64 (i0 : Int)) rfl (fun _ => by kernel_rfl) ?_
                                refine sq_q rfl h (g_eq (v := .int .i64 (IntKind.i64.wrap ((i0 : Int) + 1))) (v' := .int .i64 ((i0 + 1 : Nat) : Int)) (g_pure fun _ => by kernel_rfl) (wr (by omega))) ?_
                                refine sq_p (.int .i64 ((i0 + 1 : Nat) : Int)) rfl (fun _ => by kernel_rfl) ?_
                                refine lnil ?_
                                refine loop_end (fun j => ⟨(i0 + 1), ps, gs, l, here, vh, j⟩) (show ((i0 + 1) ≤ acts.length ∧ NRel m (i0 + 1) ps gs l here) ∧ (acts.length - (i0 + 1)) < (acts.length - i0) from ⟨⟨by omega, (hR.mono (by omega))⟩, by omega⟩) (by kernel_rfl) [6, 6, 1, 1, 4, 2, 1, 2, 2, 2, 0] (by kernel_rfl) h
                              · skip
                                have q161 : (decide (sm.kind = 2)) = false := by rw [← hb158]; exact hc159
                                have q161 := of_decide_eq_false q161
                                exfalso; revert hc159; subst hb158; simp; omega
                            · skip
                              refine sq_p (.tuple #[.pointer (some ⟨qd.db, 0, none⟩), .nilIface]) rfl (fun _ => by kernel_rfl) ?_
                              refine sq_p (.pointer (some ⟨qd.db, 0, none⟩)) rfl (fun _ => by kernel_rfl) ?_
                              refine sq_p (.nilIface) rfl (fun _ => by kernel_rfl) ?_
                              refine sq_p (.pointer (some ⟨qd.db, 0, none⟩)) rfl (fun _ => by kernel_rfl) ?_
                              refine sq_p (.nilIface) rfl (fun _ => by kernel_rfl) ?_
                              refine lnil ?_
                              refine thn_n ?_
                              refine c_seq ?_
                              refine c_reg ?_
                              refine sq_p (.int .i64 0) rfl (fun _ => by kernel_rfl) ?_
                              refine sq_p (.int .i64 0) rfl (fun _ => by kernel_rfl) ?_
                              refine lnil ?_
                              refine thn_n ?_
                              refine c_seq ?_
                              refine c_seq ?_
                              refine c_reg ?_
                              refine sq_p (.int .i64 0) rfl (fun _ => by kernel_rfl) ?_
                              refine sq_p (.bool true) rfl (fun _ => by kernel_rfl) ?_
                              refine sq_p (.bool true) rfl (fun _ => by kernel_rfl) ?_
                              refine sq_p (vh) (by kernel_rfl) (fun _ => by kernel_rfl) ?_
                              refine sq_p (.int .i64 (mm : Int)) (by kernel_rfl) (fun _ => by kernel_rfl) ?_
                              refine sq_q (by kernel_rfl) h (g_idx mm (by kernel_rfl) hmb 5 rfl) ?_
                              refine sq_p (.pointer (some ⟨blkN vh, offN vh + mm * 9 + 2, none⟩)) (by kernel_rfl) (fun _ => by kernel_rfl) ?_
                              refine sq_p (.pointer (some ⟨blkN vh, offN vh + mm * 9 + 2, none⟩)) (by kernel_rfl) (fun _ => by kernel_rfl) ?_
                              refine sq_q (by kernel_rfl) h (g_ldr (b := blkN vh) (offN vh + mm * 9 + 2) [.int .i64 sm.kind] (.int .i64 sm.kind) (by kernel_rfl) 5 rfl (rdRow spotC_len hm 2 (by kernel_rfl))) ?_
                              obtain ⟨b162, hb162⟩ : ∃ b_ : Bool, b_ = (decide (sm.kind = 2)) := ⟨_, rfl⟩
                              refine sq_q (v := .bool b162) (by kernel_rfl) h (by subst hb162; exact g_pure (v := .bool (decide (sm.kind = 2))) fun _ => by kernel_rfl) ?_
                              refine sq_p (.bool b162) rfl (fun _ => by kernel_rfl) ?_
                              refine lnil ?_
                              refine thn_n ?_
                              refine c_cond (b162) (by kernel_rfl) (fun hc163 => ?_) (fun hc163 => ?_)
                              · skip
                                have q164 : (decide (sm.kind = 2)) = true := by rw [← hb162]; exact hc163
                                have q164 := of_decide_eq_true q164
                                exfalso; revert hc163; subst hb162; simp; omega
                              · skip
                                have q165 : (decide (sm.kind = 2)) = false := by rw [← hb162]; exact hc163
                                have q165 := of_decide_eq_false q165
                                refine c_skip ?_
                                refine thn_n ?_
                                refine c_seq ?_
                                refine c_seq ?_
                                refine c_reg ?_
                                refine sq_p (.int .i64 0) rfl (fun _ => by kernel_rfl) ?_
                                refine sq_p (.bool false) rfl (fun _ => by kernel_rfl) ?_
                                refine lnil ?_
                                refine thn_n ?_
                                refine c_false (by kernel_rfl) ?_
                                refine c_skip ?_
                                refine thn_n ?_
                                refine c_seq ?_
                                refine c_seq ?_
                                refine c_reg ?_
                                refine sq_p (.nilIface) rfl (fun _ => by kernel_rfl) ?_
                                refine sq_p (.bool false) rfl (fun _ => by kernel_rfl) ?_
                                refine sq_p (.bool false) rfl (fun _ => by kernel_rfl) ?_
                                refine sq_p (.pointer (some ⟨qd.db, 0, none⟩)) (by kernel_rfl) (fun _ => by kernel_rfl) ?_
                                refine sq_p (.bool false) (by kernel_rfl) (fun _ => by kernel_rfl) ?_
                                refine sq_p (.bool false) rfl (fun _ => by kernel_rfl) ?_
                                refine sq_p (.bool false) rfl (fun _ => by kernel_rfl) ?_
                                refine sq_p (.pointer (some ⟨qd.db, 0, none⟩)) (by kernel_rfl) (fun _ => by kernel_rfl) ?_
                                refine sq_p (vh) (by kernel_rfl) (fun _ => by kernel_rfl) ?_
                                refine sq_p (.int .i64 (mm : Int)) (by kernel_rfl) (fun _ => by kernel_rfl) ?_
                                refine sq_q (by kernel_rfl) h (g_idx mm (by kernel_rfl) hmb 5 rfl) ?_
                                refine sq_p (.pointer (some ⟨blkN vh, offN vh + mm * 9 + 8, none⟩)) (by kernel_rfl) (fun _ => by kernel_rfl) ?_
                                refine sq_q (by kernel_rfl) h (g_ldr (b := blkN vh) (offN vh + mm * 9 + 8) [.int .i64 sm.sz] (.int .i64 sm.sz) (by kernel_rfl) 5 rfl (rdRow spotC_len hm 8 (by kernel_rfl))) ?_
                                refine sq_call #[.pointer (some ⟨qd.db, 0, none⟩), .int .i64 sm.sz, .string (⟨#[120, 121]⟩ : ByteArray)] [1, 6] (by kernel_rfl) (writeX_spec ad l kk N qd sm hn2 hqd hqz hn4 hd157) (fun _ => by kernel_rfl) h ?_; rintro v_ L_ w (⟨hw166, Nw, hNb, hNl, rfl, rfl⟩ | ⟨hw167, lw168, rfl, rfl⟩) h
                                · skip
                                  refine sq_p (.bool false) (by kernel_rfl) (fun _ => by kernel_rfl) ?_
                                  refine sq_p (.bool false) rfl (fun _ => by kernel_rfl) ?_
                                  refine lnil ?_
                                  refine thn_n ?_
                                  refine c_false (by kernel_rfl) ?_
                                  refine c_skip ?_
                                  refine thn_n ?_
                                  refine c_reg ?_
                                  refine sq_p (vh) rfl (fun _ => by kernel_rfl) ?_
                                  refine sq_p (.int .i64 (mm : Int)) rfl (fun _ => by kernel_rfl) ?_
                                  refine sq_p (vh) rfl (fun _ => by kernel_rfl) ?_
                                  refine sq_p (.int .i64 (mm : Int)) rfl (fun _ => by kernel_rfl) ?_
                                  refine sq_q rfl h (g_idx mm (by kernel_rfl) hmb 6 rfl) ?_
                                  refine sq_p (.pointer (some ⟨blkN vh, offN vh + mm * 9 + 8, none⟩)) rfl (fun _ => by kernel_rfl) ?_
                                  refine sq_q rfl h (g_ldr (b := blkN vh) (offN vh + mm * 9 + 8) [.int .i64 sm.sz] (.int .i64 sm.sz) (by kernel_rfl) 6 rfl (rdRow spotC_len hm 8 (by kernel_rfl))) ?_
                                  refine sq_q rfl h (g_eq (v := .int .i64 (IntKind.i64.wrap (sm.sz + 2))) (v' := .int .i64 (sm.sz + 2)) (g_pure fun _ => by kernel_rfl) (wr (by omega))) ?_
                                  refine sq_q rfl h (g_idx mm (by kernel_rfl) hmb 6 rfl) ?_
                                  refine sq_p (.pointer (some ⟨blkN vh, offN vh + mm * 9 + 8, none⟩)) rfl (fun _ => by kernel_rfl) ?_
                                  refine sq_str rfl (b := blkN vh) (offN vh + mm * 9 + 8) [.int .i64 (sm.sz + 2)] h 6 rfl (by kernel_rfl) (wrRow spotC_len hm 8 (⟨sm.n, sm.g, sm.kind, sm.asize, sm.links, sm.change, sm.upn, sm.upg, sm.sz + 2⟩ : Spot) (by kernel_rfl) (by kernel_rfl)) ?_; intro w h
                                  have hx169 : (here.set mm (⟨sm.n, sm.g, sm.kind, sm.asize, sm.links, sm.change, sm.upn, sm.upg, sm.sz + 2⟩ : Spot))[mm]? = some (⟨sm.n, sm.g, sm.kind, sm.asize, sm.links, sm.change, sm.upn, sm.upg, sm.sz + 2⟩ : Spot) := List.getElem?_set_self hmb
                                  have hi170 : mm < (here.set mm (⟨sm.n, sm.g, sm.kind, sm.asize, sm.links, sm.change, sm.upn, sm.upg, sm.sz + 2⟩ : Spot)).length := by rw [List.length_set]; exact hmb
                                  refine lnil ?_
                                  refine blk_n (mid_n ?_)
                                  have hQ171 : NRel m (i0 + 1) ps gs (l.set kk (some Nw)) (here.set mm (⟨sm.n, sm.g, sm.kind, sm.asize, sm.links, sm.change, sm.upn, sm.upg, sm.sz + 2⟩ : Spot)) := (by first | (simp only [List.set_set]; exact hR.upd hm hn1 hn2 hNb rfl rfl hNl (by first | (show 0 ≤ sm.change + 1; omega) | (show 0 ≤ sm.change; omega)) (by first | (show sm.change + 1 ≤ _; omega) | (show sm.change ≤ _; omega))) | exact hR.upd hm hn1 hn2 hNb rfl rfl hNl (by first | (show 0 ≤ sm.change + 1; omega) | (show 0 ≤ sm.change; omega)) (by first | (show sm.change + 1 ≤ _; omega) | (show sm.change ≤ _; omega)))
                                  refine mid_end (fun j => ⟨ps, gs, (l.set kk (some Nw)), (here.set mm (⟨sm.n, sm.g, sm.kind, sm.asize, sm.links, sm.change, sm.upn, sm.upg, sm.sz + 2⟩ : Spot)), vh, j⟩) hQ171 (by kernel_rfl) [5, 5, 5, 2, 0, 0, 1, 0, 0, 0, 0, 0] (by kernel_rfl) h
                                · skip
                                  refine sq_p (.bool true) (by kernel_rfl) (fun _ => by kernel_rfl) ?_
                                  refine sq_p (.bool true) rfl (fun _ => by kernel_rfl) ?_
                                  refine lnil ?_
                                  refine thn_n ?_
                                  refine c_true (by kernel_rfl) ?_
                                  refine c_seq ?_
                                  refine c_reg ?_
                                  refine sq_p (.nilIface) rfl (fun _ => by kernel_rfl) ?_
                                  refine sq_p (.bool true) rfl (fun _ => by kernel_rfl) ?_
                                  refine sq_p (.bool true) rfl (fun _ => by kernel_rfl) ?_
                                  refine sq_p (.pointer (some ⟨qd.db, 0, none⟩)) (by kernel_rfl) (fun _ => by kernel_rfl) ?_
                                  refine sq_p (.bool true) (by kernel_rfl) (fun _ => by kernel_rfl) ?_
                                  refine sq_p (.bool true) rfl (fun _ => by kernel_rfl) ?_
                                  refine sq_p (.bool true) rfl (fun _ => by kernel_rfl) ?_
                                  refine sq_p (vh) (by kernel_rfl) (fun _ => by kernel_rfl) ?_
                                  refine sq_p (.int .i64 (mm : Int)) (by kernel_rfl) (fun _ => by kernel_rfl) ?_
                                  refine sq_q (by kernel_rfl) h (g_idx mm (by kernel_rfl) hmb 6 rfl) ?_
                                  refine sq_p (.pointer (some ⟨blkN vh, offN vh + mm * 9 + 8, none⟩)) (by kernel_rfl) (fun _ => by kernel_rfl) ?_
                                  refine sq_q (by kernel_rfl) h (g_ldr (b := blkN vh) (offN vh + mm * 9 + 8) [.int .i64 sm.sz] (.int .i64 sm.sz) (by kernel_rfl) 6 rfl (rdRow spotC_len hm 8 (by kernel_rfl))) ?_
                                  obtain ⟨b172, hb172⟩ : ∃ b_ : Bool, b_ = (decide (sm.sz > 4094)) := ⟨_, rfl⟩
                                  refine sq_q (v := .bool b172) (by kernel_rfl) h (by subst hb172; exact g_pure (v := .bool (decide (sm.sz > 4094))) fun _ => by kernel_rfl) ?_
                                  refine sq_p (.bool b172) rfl (fun _ => by kernel_rfl) ?_
                                  refine sq_p (.bool b172) rfl (fun _ => by kernel_rfl) ?_
                                  refine lnil ?_
                                  refine thn_n ?_
                                  refine c_ret ?_
                                  refine thn_r (blk_r (mid_r (thn_r (blk_r (thn_r (rnd_r (blk_r (thn_r ?_))))))))
                                  refine ret_end [.bool b172] [10, 10] h (by kernel_rfl) (res_t (by kernel_rfl) res_n) ?_
                                  refine ⟨?_, rfl⟩
                                  show Value.bool _ = _
                                  subst hb172
                                  simp; omega
                        · skip
                          have hc155 := of_decide_eq_false hc155
                          refine c_skip ?_
                          refine blk_n (mid_n ?_)
                          have hQ173 : NRel m (i0 + 1) ps gs l here := (hR.mono (by omega))
                          refine mid_end (fun j => ⟨ps, gs, l, here, vh, j⟩) hQ173 (by kernel_rfl) [0, 0, 0, 0, 0, 0, 0, 0, 0, 0, 0, 0] (by kernel_rfl) h
              · skip
                rintro a_ w ⟨⟨psM, gsM, lM, hereM, vhM, JM2⟩, hG, rfl, h⟩
                have hRM : NRel m (i0 + 1) psM gsM lM hereM := hG
                have hfwM := hRM.few
                refine thn_n ?_
                refine c_seq ?_
                refine c_seq ?_
                refine c_reg ?_
                refine sq_p (.pointer (some ⟨tb, 0, none⟩)) rfl (fun _ => by kernel_rfl) ?_
                refine sq_call #[.pointer (some ⟨tb, 0, none⟩)] [3] rfl (countR_spec tb psM gsM vl vg T Sl Sg lM hereM hRM (by omega)) (fun _ => by kernel_rfl) h ?_; rintro v_ L_ w ⟨rfl, rfl⟩ h
                refine sq_p (vhM) rfl (fun _ => by kernel_rfl) ?_
                refine sq_q rfl h (g_len (by kernel_rfl) 2 rfl) ?_
                refine sq_p (.bool (!(decide ((hereM.length : Int) = (hereM.length : Int))))) rfl (fun _ => by kernel_rfl) ?_
                refine lnil ?_
                refine thn_n ?_
                refine c_cond (!(decide ((hereM.length : Int) = (hereM.length : Int)))) (by kernel_rfl) (fun hc174 => ?_) (fun hc174 => ?_)
                · skip
                  have q175 : (decide ((hereM.length : Int) = (hereM.length : Int))) = false := by simpa using hc174
                  have q175 := of_decide_eq_false q175
                  exfalso; revert hc174; simp
                · skip
                  have q176 : (decide ((hereM.length : Int) = (hereM.length : Int))) = true := by simpa using hc174
                  have q176 := of_decide_eq_true q176
                  refine c_skip ?_
                  refine thn_n ?_
                  refine c_seq ?_
                  refine c_reg ?_
                  refine sq_p (.pointer (some ⟨tb, 0, none⟩)) rfl (fun _ => by kernel_rfl) ?_
                  refine sq_p (.pointer (some ⟨k33, 1, none⟩)) rfl (fun _ => by kernel_rfl) ?_
                  refine sq_q rfl h (g_ld 1 [.int .i64 x31.2.1.1, .int .i64 x31.2.1.2.1] (.agg #[.int .i64 x31.2.1.1, .int .i64 x31.2.1.2.1]) (by kernel_rfl) 1 rfl) ?_
                  refine sq_call #[.pointer (some ⟨tb, 0, none⟩), .agg #[.int .i64 x31.2.1.1, .int .i64 x31.2.1.2.1]] [0, 3, 5] rfl (attrR_spec ad tb psM gsM vl vg T Sl Sg lM hereM hRM (by omega) x31.2.1.1 x31.2.1.2.1) (fun _ => by kernel_rfl) h ?_; rintro v_ L_ w (⟨ma177, sa178, hA179, rfl, rfl⟩ | ⟨hA180, rfl, rfl⟩) h
                  · skip
                    refine sq_p (.tuple #[.agg #[.int .i64 sa178.kind, .int .i64 (spSize sa178), .int .i64 sa178.links, .int .i64 sa178.change, .int .i64 sa178.upn, .int .i64 sa178.upg], .nilIface]) rfl (fun _ => by kernel_rfl) ?_
                    refine sq_p (.agg #[.int .i64 sa178.kind, .int .i64 (spSize sa178), .int .i64 sa178.links, .int .i64 sa178.change, .int .i64 sa178.upn, .int .i64 sa178.upg]) rfl (fun _ => by kernel_rfl) ?_
                    refine sq_p (.nilIface) rfl (fun _ => by kernel_rfl) ?_
                    refine sq_new rfl (fun b => .pointer (some ⟨b, 0, none⟩)) [.int .i64 0, .int .i64 0, .int .i64 0, .int .i64 0, .int .i64 0, .int .i64 0] 37 (fun _ => by kernel_rfl) h ?_; intro k181 w h
                    refine sq_st rfl 0 [.int .i64 sa178.kind, .int .i64 (spSize sa178), .int .i64 sa178.links, .int .i64 sa178.change, .int .i64 sa178.upn, .int .i64 sa178.upg] [.int .i64 sa178.kind, .int .i64 (spSize sa178), .int .i64 sa178.links, .int .i64 sa178.change, .int .i64 sa178.upn, .int .i64 sa178.upg] h 0 rfl (by kernel_rfl) ?_; intro w h
                    refine sq_p (.nilIface) rfl (fun _ => by kernel_rfl) ?_
                    refine lnil ?_
                    refine thn_n ?_
                    refine c_seq ?_
                    refine c_reg ?_
                    refine sq_p (.agg #[.int .i64 0, .int .i64 0, .int .i64 0, .int .i64 0, .int .i64 0, .int .i64 0]) rfl (fun _ => by kernel_rfl) ?_
                    refine sq_new rfl (fun b => .pointer (some ⟨b, 0, none⟩)) [.int .i64 0, .int .i64 0, .int .i64 0, .int .i64 0, .int .i64 0, .int .i64 0] 37 (fun _ => by kernel_rfl) h ?_; intro k182 w h
                    refine sq_st rfl 0 [.int .i64 0, .int .i64 0, .int .i64 0, .int .i64 0, .int .i64 0, .int .i64 0] [.int .i64 0, .int .i64 0, .int .i64 0, .int .i64 0, .int .i64 0, .int .i64 0] h 0 rfl (by kernel_rfl) ?_; intro w h
                    refine lnil ?_
                    refine thn_n ?_
                    refine c_seq ?_
                    refine c_reg ?_
                    refine sq_p (.int .i64 10) rfl (fun _ => by kernel_rfl) ?_
                    refine lnil ?_
                    refine thn_n ?_
                    refine c_seq ?_
                    refine c_seq ?_
                    refine c_reg ?_
                    refine sq_p (.int .i64 0) rfl (fun _ => by kernel_rfl) ?_
                    refine lnil ?_
                    refine thn_n ?_
                    refine c_block ?_
                    refine c_loop (X := Nat × Int × Int × Int × Int × Int × Int × Int × (Nat → Value)) (fun ⟨j4, c0, c1, c2, c3, c4, c5, e4, J4⟩ => ⟨#[.int .i64 (m : Int), v, undef, undef, JM2 4, .bool true, .pointer (some ⟨tb, 0, none⟩), .nilIface, v28, vhM, .int .i64 (i0 : Int), .pointer (some ⟨k33, 0, none⟩), .int .i64 kx, .int .i64 (j0 : Int), .int .i64 stl, JM2 15, JM2 16, JM2 17, JM2 18, JM2 19, JM2 20, JM2 21, JM2 22, JM2 23, .pointer (some ⟨k181, 0, none⟩), .nilIface, .pointer (some ⟨k182, 0, none⟩), .int .i64 e4, .int .i64 (j4 : Int), .bool true, .bool true, .bool false, .bool false, v, .int .i64 (acts.length : Int), .bool b1, .bool b1, undef, .tuple #[.pointer (some ⟨tb, 0, none⟩), .nilIface], .int .i64 (m : Int), .tuple #[.pointer (some ⟨tb, 0, none⟩), .nilIface], .pointer (some ⟨tb, 0, none⟩), .nilIface, .int .i64 (m : Int), .bool b17, .bool b17, (if b17 = false then .int .i64 (m : Int) else undef), (if b17 = false then .bool b18 else undef), .bool b19, undef, undef, undef, undef, undef, undef, .nilIface, .bool false, .bool false, .pointer (some ⟨tb, 0, none⟩), .bool false, .bool false, .int .i64 (m : Int), v28, .int .i64 (i0 : Int), v, .int .i64 (acts.length : Int), .bool (decide ((i0 : Int) < (acts.length : Int))), J0 67, J0 68, v, .int .i64 (i0 : Int), .pointer (some ⟨blkN v, offN v + i0 * 5, none⟩), .agg #[.string x31.1, .int .i64 x31.2.1.1, .int .i64 x31.2.1.2.1, .int .i64 x31.2.2.1, .int .i64 x31.2.2.2.1], .int .i64 (j0 : Int), vh, .int .i64 (here.length : Int), .bool (decide ((j0 : Int) < (here.length : Int))), J1 77, J1 78, J1 79, J1 80, J1 81, J1 82, J1 83, J1 84, J1 85, J1 86, J1 87, .int .i64 kx, .bool (decide (kx < 0)), .pointer (some ⟨k33, 0, none⟩), .string x31.1, JM2 92, JM2 93, JM2 94, JM2 95, JM2 96, JM2 97, JM2 98, JM2 99, JM2 100, JM2 101, JM2 102, JM2 103, JM2 104, JM2 105, JM2 106, JM2 107, JM2 108, JM2 109, JM2 110, JM2 111, JM2 112, JM2 113, JM2 114, JM2 115, JM2 116, JM2 117, JM2 118, JM2 119, JM2 120, JM2 121, JM2 122, JM2 123, JM2 124, JM2 125, JM2 126, JM2 127, JM2 128, JM2 129, JM2 130, JM2 131, JM2 132, JM2 133, JM2 134, JM2 135, JM2 136, JM2 137, JM2 138, JM2 139, JM2 140, JM2 141, JM2 142, JM2 143, JM2 144, JM2 145, JM2 146, JM2 147, JM2 148, JM2 149, JM2 150, JM2 151, JM2 152, JM2 153, JM2 154, JM2 155, JM2 156, JM2 157, JM2 158, JM2 159, JM2 160, JM2 161, JM2 162, JM2 163, JM2 164, JM2 165, JM2 166, JM2 167, JM2 168, JM2 169, JM2 170, JM2 171, JM2 172, JM2 173, JM2 174, JM2 175, JM2 176, JM2 177, JM2 178, JM2 179, JM2 180, JM2 181, JM2 182, JM2 183, JM2 184, JM2 185, JM2 186, JM2 187, JM2 188, JM2 189, JM2 190, JM2 191, JM2 192, JM2 193, JM2 194, JM2 195, JM2 196, JM2 197, JM2 198, JM2 199, JM2 200, JM2 201, JM2 202, JM2 203, JM2 204, JM2 205, JM2 206, JM2 207, JM2 208, JM2 209, JM2 210, JM2 211, JM2 212, JM2 213, JM2 214, JM2 215, JM2 216, JM2 217, JM2 218, JM2 219, JM2 220, JM2 221, JM2 222, JM2 223, JM2 224, JM2 225, JM2 226, JM2 227, JM2 228, JM2 229, JM2 230, JM2 231, JM2 232, JM2 233, JM2 234, JM2 235, JM2 236, JM2 237, JM2 238, JM2 239, JM2 240, JM2 241, JM2 242, JM2 243, JM2 244, JM2 245, JM2 246, JM2 247, JM2 248, JM2 249, JM2 250, JM2 251, JM2 252, JM2 253, JM2 254, JM2 255, JM2 256, JM2 257, JM2 258, JM2 259, JM2 260, JM2 261, JM2 262, JM2 263, JM2 264, JM2 265, JM2 266, JM2 267, JM2 268, JM2 269, JM2 270, JM2 271, JM2 272, JM2 273, JM2 274, JM2 275, JM2 276, JM2 277, JM2 278, JM2 279, JM2 280, JM2 281, JM2 282, JM2 283, JM2 284, JM2 285, JM2 286, JM2 287, JM2 288, JM2 289, JM2 290, JM2 291, JM2 292, JM2 293, JM2 294, JM2 295, JM2 296, JM2 297, JM2 298, JM2 299, JM2 300, JM2 301, JM2 302, JM2 303, JM2 304, JM2 305, JM2 306, JM2 307, JM2 308, JM2 309, JM2 310, JM2 311, JM2 312, JM2 313, JM2 314, JM2 315, JM2 316, JM2 317, JM2 318, JM2 319, JM2 320, JM2 321, JM2 322, JM2 323, JM2 324, JM2 325, JM2 326, JM2 327, JM2 328, JM2 329, JM2 330, JM2 331, JM2 332, JM2 333, JM2 334, JM2 335, JM2 336, JM2 337, JM2 338, JM2 339, JM2 340, JM2 341, .pointer (some ⟨tb, 0, none⟩), .int .i64 (hereM.length : Int), vhM, .int .i64 (hereM.length : Int), .bool (!(decide ((hereM.length : Int) = (hereM.length : Int)))), .tuple #[.agg #[.int .i64 sa178.kind, .int .i64 (spSize sa178), .int .i64 sa178.links, .int .i64 sa178.change, .int .i64 sa178.upn, .int .i64 sa178.upg], .nilIface], .pointer (some ⟨tb, 0, none⟩), .pointer (some ⟨k33, 1, none⟩), .agg #[.int .i64 x31.2.1.1, .int .i64 x31.2.1.2.1], .tuple #[.agg #[.int .i64 sa178.kind, .int .i64 (spSize sa178), .int .i64 sa178.links, .int .i64 sa178.change, .int .i64 sa178.upn, .int .i64 sa178.upg], .nilIface], .agg #[.int .i64 sa178.kind, .int .i64 (spSize sa178), .int .i64 sa178.links, .int .i64 sa178.change, .int .i64 sa178.upn, .int .i64 sa178.upg], .nilIface, .agg #[.int .i64 0, .int .i64 0, .int .i64 0, .int .i64 0, .int .i64 0, .int .i64 0], J4 355, J4 356, J4 357, J4 358, J4 359, J4 360, J4 361, J4 362, J4 363, J4 364, J4 365, J4 366, J4 367, J4 368, J4 369, J4 370, J4 371, J4 372, J4 373, J4 374, J4 375, J4 376, J4 377, J4 378, J4 379, J4 380, J4 381, J4 382, J0 383, J0 384, J0 385, J0 386, J0 387, J0 388, J0 389, J0 390, J0 391], []⟩)
                      (fun ⟨j4, c0, c1, c2, c3, c4, c5, e4, J4⟩ => [rCell true k182 [.int .i64 c0, .int .i64 c1, .int .i64 c2, .int .i64 c3, .int .i64 c4, .int .i64 c5] 37, rCell true k181 [.int .i64 sa178.kind, .int .i64 (spSize sa178), .int .i64 sa178.links, .int .i64 sa178.change, .int .i64 sa178.upn, .int .i64 sa178.upg] 37, rTab tb psM gsM vl vg T Sl Sg, rNds lM, rEnv B ad [10], rCell true k33 [.string x31.1, .int .i64 x31.2.1.1, .int .i64 x31.2.1.2.1, .int .i64 x31.2.2.1, .int .i64 x31.2.2.2.1] 35, rRows true vhM 39 9 spotC hereM, rRows true v28 3 1 idC gsM, rEnv B ad [2], rEnv B ad [8], rEnv B ad [9], rEnv B ad [3], rArg v 5 ndaC acts, rEnvA B ad]) (fun ⟨j4, c0, c1, c2, c3, c4, c5, e4, J4⟩ => j4 ≤ hereM.length ∧ (j4 ≤ ma177 → c0 = 0 ∧ c1 = 0 ∧ c2 = 0 ∧ c3 = 0 ∧ c4 = 0 ∧ c5 = 0 ∧ e4 = 10) ∧ (ma177 < j4 → c0 = sa178.kind ∧ c1 = spSize sa178 ∧ c2 = sa178.links ∧ c3 = sa178.change ∧ c4 = sa178.upn ∧ c5 = sa178.upg ∧ e4 = 0)) (fun ⟨j4, c0, c1, c2, c3, c4, c5, e4, J4⟩ => hereM.length - j4)
                      ⟨0, 0, 0, 0, 0, 0, 0, 10, (fun n => (#[.int .i64 (m : Int), v, undef, undef, JM2 4, .bool true, .pointer (some ⟨tb, 0, none⟩), .nilIface, v28, vhM, .int .i64 (i0 : Int), .pointer (some ⟨k33, 0, none⟩), .int .i64 kx, .int .i64 (j0 : Int), .int .i64 stl, JM2 15, JM2 16, JM2 17, JM2 18, JM2 19, JM2 20, JM2 21, JM2 22, JM2 23, .pointer (some ⟨k181, 0, none⟩), .nilIface, .pointer (some ⟨k182, 0, none⟩), .int .i64 10, .int .i64 0, .bool true, .bool true, .bool false, .bool false, v, .int .i64 (acts.length : Int), .bool b1, .bool b1, undef, .tuple #[.pointer (some ⟨tb, 0, none⟩), .nilIface], .int .i64 (m : Int), .tuple #[.pointer (some ⟨tb, 0, none⟩), .nilIface], .pointer (some ⟨tb, 0, none⟩), .nilIface, .int .i64 (m : Int), .bool b17, .bool b17, (if b17 = false then .int .i64 (m : Int) else undef), (if b17 = false then .bool b18 else undef), .bool b19, undef, undef, undef, undef, undef, undef, .nilIface, .bool false, .bool false, .pointer (some ⟨tb, 0, none⟩), .bool false, .bool false, .int .i64 (m : Int), v28, .int .i64 (i0 : Int), v, .int .i64 (acts.length : Int), .bool (decide ((i0 : Int) < (acts.length : Int))), J0 67, J0 68, v, .int .i64 (i0 : Int), .pointer (some ⟨blkN v, offN v + i0 * 5, none⟩), .agg #[.string x31.1, .int .i64 x31.2.1.1, .int .i64 x31.2.1.2.1, .int .i64 x31.2.2.1, .int .i64 x31.2.2.2.1], .int .i64 (j0 : Int), vh, .int .i64 (here.length : Int), .bool (decide ((j0 : Int) < (here.length : Int))), J1 77, J1 78, J1 79, J1 80, J1 81, J1 82, J1 83, J1 84, J1 85, J1 86, J1 87, .int .i64 kx, .bool (decide (kx < 0)), .pointer (some ⟨k33, 0, none⟩), .string x31.1, JM2 92, JM2 93, JM2 94, JM2 95, JM2 96, JM2 97, JM2 98, JM2 99, JM2 100, JM2 101, JM2 102, JM2 103, JM2 104, JM2 105, JM2 106, JM2 107, JM2 108, JM2 109, JM2 110, JM2 111, JM2 112, JM2 113, JM2 114, JM2 115, JM2 116, JM2 117, JM2 118, JM2 119, JM2 120, JM2 121, JM2 122, JM2 123, JM2 124, JM2 125, JM2 126, JM2 127, JM2 128, JM2 129, JM2 130, JM2 131, JM2 132, JM2 133, JM2 134, JM2 135, JM2 136, JM2 137, JM2 138, JM2 139, JM2 140, JM2 141, JM2 142, JM2 143, JM2 144, JM2 145, JM2 146, JM2 147, JM2 148, JM2 149, JM2 150, JM2 151, JM2 152, JM2 153, JM2 154, JM2 155, JM2 156, JM2 157, JM2 158, JM2 159, JM2 160, JM2 161, JM2 162, JM2 163, JM2 164, JM2 165, JM2 166, JM2 167, JM2 168, JM2 169, JM2 170, JM2 171, JM2 172, JM2 173, JM2 174, JM2 175, JM2 176, JM2 177, JM2 178, JM2 179, JM2 180, JM2 181, JM2 182, JM2 183, JM2 184, JM2 185, JM2 186, JM2 187, JM2 188, JM2 189, JM2 190, JM2 191, JM2 192, JM2 193, JM2 194, JM2 195, JM2 196, JM2 197, JM2 198, JM2 199, JM2 200, JM2 201, JM2 202, JM2 203, JM2 204, JM2 205, JM2 206, JM2 207, JM2 208, JM2 209, JM2 210, JM2 211, JM2 212, JM2 213, JM2 214, JM2 215, JM2 216, JM2 217, JM2 218, JM2 219, JM2 220, JM2 221, JM2 222, JM2 223, JM2 224, JM2 225, JM2 226, JM2 227, JM2 228, JM2 229, JM2 230, JM2 231, JM2 232, JM2 233, JM2 234, JM2 235, JM2 236, JM2 237, JM2 238, JM2 239, JM2 240, JM2 241, JM2 242, JM2 243, JM2 244, JM2 245, JM2 246, JM2 247, JM2 248, JM2 249, JM2 250, JM2 251, JM2 252, JM2 253, JM2 254, JM2 255, JM2 256, JM2 257, JM2 258, JM2 259, JM2 260, JM2 261, JM2 262, JM2 263, JM2 264, JM2 265, JM2 266, JM2 267, JM2 268, JM2 269, JM2 270, JM2 271, JM2 272, JM2 273, JM2 274, JM2 275, JM2 276, JM2 277, JM2 278, JM2 279, JM2 280, JM2 281, JM2 282, JM2 283, JM2 284, JM2 285, JM2 286, JM2 287, JM2 288, JM2 289, JM2 290, JM2 291, JM2 292, JM2 293, JM2 294, JM2 295, JM2 296, JM2 297, JM2 298, JM2 299, JM2 300, JM2 301, JM2 302, JM2 303, JM2 304, JM2 305, JM2 306, JM2 307, JM2 308, JM2 309, JM2 310, JM2 311, JM2 312, JM2 313, JM2 314, JM2 315, JM2 316, JM2 317, JM2 318, JM2 319, JM2 320, JM2 321, JM2 322, JM2 323, JM2 324, JM2 325, JM2 326, JM2 327, JM2 328, JM2 329, JM2 330, JM2 331, JM2 332, JM2 333, JM2 334, JM2 335, JM2 336, JM2 337, JM2 338, JM2 339, JM2 340, JM2 341, .pointer (some ⟨tb, 0, none⟩), .int .i64 (hereM.length : Int), vhM, .int .i64 (hereM.length : Int), .bool (!(decide ((hereM.length : Int) = (hereM.length : Int)))), .tuple #[.agg #[.int .i64 sa178.kind, .int .i64 (spSize sa178), .int .i64 sa178.links, .int .i64 sa178.change, .int .i64 sa178.upn, .int .i64 sa178.upg], .nilIface], .pointer (some ⟨tb, 0, none⟩), .pointer (some ⟨k33, 1, none⟩), .agg #[.int .i64 x31.2.1.1, .int .i64 x31.2.1.2.1], .tuple #[.agg #[.int .i64 sa178.kind, .int .i64 (spSize sa178), .int .i64 sa178.links, .int .i64 sa178.change, .int .i64 sa178.upn, .int .i64 sa178.upg], .nilIface], .agg #[.int .i64 sa178.kind, .int .i64 (spSize sa178), .int .i64 sa178.links, .int .i64 sa178.change, .int .i64 sa178.upn, .int .i64 sa178.upg], .nilIface, .agg #[.int .i64 0, .int .i64 0, .int .i64 0, .int .i64 0, .int .i64 0, .int .i64 0], J0 355, J0 356, J0 357, J0 358, J0 359, J0 360, J0 361, J0 362, J0 363, J0 364, J0 365, J0 366, J0 367, J0 368, J0 369, J0 370, J0 371, J0 372, J0 373, J0 374, J0 375, J0 376, J0 377, J0 378, J0 379, J0 380, J0 381, J0 382, J0 383, J0 384, J0 385, J0 386, J0 387, J0 388, J0 389, J0 390, J0 391] : Array Value).getD n undef)⟩ ⟨by omega, fun _ => ⟨rfl, rfl, rfl, rfl, rfl, rfl, rfl⟩, fun q => by omega⟩ (by kernel_rfl) [0, 0, 0, 0, 0, 0, 0, 0, 0, 0, 0, 0, 0, 0] (by kernel_rfl) h ?_
                    rintro ⟨j4, c0, c1, c2, c3, c4, c5, e4, J4⟩ w hG h
                    obtain ⟨hj4, hZ4, hV4⟩ : j4 ≤ hereM.length ∧ (j4 ≤ ma177 → c0 = 0 ∧ c1 = 0 ∧ c2 = 0 ∧ c3 = 0 ∧ c4 = 0 ∧ c5 = 0 ∧ e4 = 10) ∧ (ma177 < j4 → c0 = sa178.kind ∧ c1 = spSize sa178 ∧ c2 = sa178.links ∧ c3 = sa178.change ∧ c4 = sa178.upn ∧ c5 = sa178.upg ∧ e4 = 0) := hG
                    refine c_seq ?_
                    refine c_seq ?_
                    refine c_reg ?_
                    refine sq_p (.int .i64 (j4 : Int)) rfl (fun _ => by kernel_rfl) ?_
                    refine sq_p (vhM) rfl (fun _ => by kernel_rfl) ?_
                    refine sq_q rfl h (g_len (by kernel_rfl) 6 rfl) ?_
                    refine sq_p (.bool (decide ((j4 : Int) < (hereM.length : Int)))) rfl (fun _ => by kernel_rfl) ?_
                    refine lnil ?_
                    refine thn_n ?_
                    refine c_cond (decide ((j4 : Int) < (hereM.length : Int))) (by kernel_rfl) (fun hc183 => ?_) (fun hc183 => ?_)
                    · skip
                      have hc183 := of_decide_eq_true hc183
                      refine c_skip ?_
                      refine thn_n ?_
                      refine c_seq ?_
                      refine c_block ?_
                      refine c_seq ?_
                      refine d_start 8 [5, 5] (by kernel_rfl) h fun w h => ?_
                      refine d_take 0 98 [5, 5] rfl (v := vhM) (by kernel_rfl) (qp_thn (qp_blk (qp_thn (qp_rnd (qp_blk (qp_thn (qp_blk (qp_thn (qp_rnd (qp_blk (qp_thn qp_body))))))))))) (yq (by kernel_rfl) (g_pure (v := vhM) fun _ => by kernel_rfl)) h (by kernel_rfl) ?_
                      refine d_take 1 97 [5, 5] rfl (v := .int .i64 (j4 : Int)) (by kernel_rfl) (qp_thn (qp_blk (qp_thn (qp_rnd (qp_blk (qp_thn (qp_blk (qp_thn (qp_rnd (qp_blk (qp_thn qp_body))))))))))) (yq (by kernel_rfl) (g_pure (v := .int .i64 (j4 : Int)) fun _ => by kernel_rfl)) h (by kernel_rfl) ?_
                      have hi184 : j4 < hereM.length := by omega
                      obtain ⟨x185, hx186⟩ : ∃ x, hereM[j4]? = some x := ⟨_, List.getElem?_eq_getElem hi184⟩
                      refine d_take 2 99 [5, 5] rfl (v := .pointer (some ⟨blkN vhM, offN vhM + j4 * 9, none⟩)) (by kernel_rfl) (qp_thn (qp_blk (qp_thn (qp_rnd (qp_blk (qp_thn (qp_blk (qp_thn (qp_rnd (qp_blk (qp_thn qp_body))))))))))) (yq (by kernel_rfl) (g_idx j4 (by kernel_rfl) hi184 1 rfl)) h (by kernel_rfl) ?_
                      refine d_take 3 103 [5, 5] rfl (v := .pointer (some ⟨blkN vhM, offN vhM + j4 * 9, none⟩)) (by kernel_rfl) (qp_thn (qp_blk (qp_thn (qp_rnd (qp_blk (qp_thn (qp_blk (qp_thn (qp_rnd (qp_blk (qp_thn qp_body))))))))))) (yq (by kernel_rfl) (g_pure (v := .pointer (some ⟨blkN vhM, offN vhM + j4 * 9, none⟩)) fun _ => by kernel_rfl)) h (by kernel_rfl) ?_
                      refine d_take 4 111 [5, 5] rfl (v := .agg #[.int .i64 x185.n, .int .i64 x185.g]) (by kernel_rfl) (qp_thn (qp_blk (qp_thn (qp_rnd (qp_blk (qp_thn (qp_blk (qp_thn (qp_rnd (qp_blk (qp_thn qp_body))))))))))) (yq (by kernel_rfl) (g_ldr (b := blkN vhM) (offN vhM + j4 * 9) [.int .i64 x185.n, .int .i64 x185.g] (.agg #[.int .i64 x185.n, .int .i64 x185.g]) (by kernel_rfl) 1 rfl (rdRow0 spotC_len hx186 (by kernel_rfl)))) h (by kernel_rfl) ?_
                      refine d_take 5 31 [5, 5] rfl (v := .pointer (some ⟨k33, 1, none⟩)) (by kernel_rfl) (qp_thn (qp_blk (qp_thn (qp_rnd (qp_blk (qp_thn (qp_blk (qp_thn (qp_rnd (qp_blk (qp_thn qp_body))))))))))) (yq (by kernel_rfl) (g_pure (v := .pointer (some ⟨k33, 1, none⟩)) fun _ => by kernel_rfl)) h (by kernel_rfl) ?_
                      refine d_take 6 63 [5, 5] rfl (v := .agg #[.int .i64 x31.2.1.1, .int .i64 x31.2.1.2.1]) (by kernel_rfl) (qp_thn (qp_blk (qp_thn (qp_rnd (qp_blk (qp_thn (qp_blk (qp_thn (qp_rnd (qp_blk (qp_thn qp_body))))))))))) (yq (by kernel_rfl) (g_ld 1 [.int .i64 x31.2.1.1, .int .i64 x31.2.1.2.1] (.agg #[.int .i64 x31.2.1.1, .int .i64 x31.2.1.2.1]) (by kernel_rfl) 0 rfl)) h (by kernel_rfl) ?_
                      refine d_take 7 127 [5, 5] rfl (v := .bool ((decide (x185.n = x31.2.1.1)) && (decide (x185.g = x31.2.1.2.1)))) (by kernel_rfl) (qp_thn (qp_blk (qp_thn (qp_rnd (qp_blk (qp_thn (qp_blk (qp_thn (qp_rnd (qp_blk (qp_thn qp_body))))))))))) (yq (by kernel_rfl) (g_eqH (by kernel_rfl))) h (by kernel_rfl) ?_
                      refine d_done (by kernel_rfl) ?_
                      refine thn_n ?_
                      refine c_cond (((decide (x185.n = x31.2.1.1)) && (decide (x185.g = x31.2.1.2.1)))) (by kernel_rfl) (fun hc187 => ?_) (fun hc187 => ?_)
                      · skip
                        have q188 : (decide (x185.n = x31.2.1.1)) = true := by revert hc187; cases (decide (x185.n = x31.2.1.1)) <;> simp
                        have q189 : (decide (x185.g = x31.2.1.2.1)) = true := by revert hc187; cases (decide (x185.n = x31.2.1.1)) <;> cases (decide (x185.g = x31.2.1.2.1)) <;> simp
                        have q188 := of_decide_eq_true q188
                        have q189 := of_decide_eq_true q189
                        have hmT : (x185.n = x31.2.1.1 ∧ x185.g = x31.2.1.2.1) := by simpa using hc187
                        have hjA : j4 = ma177 := hRM.same hx186 hA179.1 (hmT.1.trans hA179.2.1.symm)
                        have hyA : x185 = sa178 := by have hh := hx186; rw [hjA, hA179.1] at hh; exact (Option.some.inj hh).symm
                        refine c_seq ?_
                        refine c_reg ?_
                        refine sq_p (vhM) rfl (fun _ => by kernel_rfl) ?_
                        refine sq_p (.int .i64 (j4 : Int)) rfl (fun _ => by kernel_rfl) ?_
                        refine sq_q rfl h (g_idx j4 (by kernel_rfl) hi184 6 rfl) ?_
                        refine sq_p (.pointer (some ⟨blkN vhM, offN vhM + j4 * 9 + 2, none⟩)) rfl (fun _ => by kernel_rfl) ?_
                        refine sq_q rfl h (g_ldr (b := blkN vhM) (offN vhM + j4 * 9 + 2) [.int .i64 x185.kind, .int .i64 x185.asize, .int .i64 x185.links, .int .i64 x185.change, .int .i64 x185.upn, .int .i64 x185.upg] (.agg #[.int .i64 x185.kind, .int .i64 x185.asize, .int .i64 x185.links, .int .i64 x185.change, .int .i64 x185.upn, .int .i64 x185.upg]) (by kernel_rfl) 6 rfl (rdRow spotC_len hx186 2 (by kernel_rfl))) ?_
                        refine sq_st rfl 0 [.int .i64 x185.kind, .int .i64 x185.asize, .int .i64 x185.links, .int .i64 x185.change, .int .i64 x185.upn, .int .i64 x185.upg] [.int .i64 x185.kind, .int .i64 x185.asize, .int .i64 x185.links, .int .i64 x185.change, .int .i64 x185.upn, .int .i64 x185.upg] h 0 rfl (by kernel_rfl) ?_; intro w h
                        refine lnil ?_
                        refine thn_n ?_
                        refine c_seq ?_
                        refine c_reg ?_
                        refine sq_p (.int .i64 0) rfl (fun _ => by kernel_rfl) ?_
                        refine lnil ?_
                        refine thn_n ?_
                        refine c_seq ?_
                        refine c_reg ?_
                        refine sq_p (.pointer (some ⟨k182, 0, none⟩)) rfl (fun _ => by kernel_rfl) ?_
                        refine sq_q rfl h (g_ld 0 [.int .i64 x185.kind] (.int .i64 x185.kind) (by kernel_rfl) 0 rfl) ?_
                        refine sq_p (.bool (decide (x185.kind = 1))) rfl (fun _ => by kernel_rfl) ?_
                        refine lnil ?_
                        refine thn_n ?_
                        refine c_cond (decide (x185.kind = 1)) (by kernel_rfl) (fun hc190 => ?_) (fun hc190 => ?_)
                        · skip
                          have hc190 := of_decide_eq_true hc190
                          refine c_reg ?_
                          refine sq_p (vhM) rfl (fun _ => by kernel_rfl) ?_
                          refine sq_p (.int .i64 (j4 : Int)) rfl (fun _ => by kernel_rfl) ?_
                          refine sq_q rfl h (g_idx j4 (by kernel_rfl) hi184 6 rfl) ?_
                          refine sq_p (.pointer (some ⟨blkN vhM, offN vhM + j4 * 9 + 8, none⟩)) rfl (fun _ => by kernel_rfl) ?_
                          refine sq_q rfl h (g_ldr (b := blkN vhM) (offN vhM + j4 * 9 + 8) [.int .i64 x185.sz] (.int .i64 x185.sz) (by kernel_rfl) 6 rfl (rdRow spotC_len hx186 8 (by kernel_rfl))) ?_
                          refine sq_p (.pointer (some ⟨k182, 1, none⟩)) rfl (fun _ => by kernel_rfl) ?_
                          refine sq_st rfl 1 [.int .i64 x185.sz] [.int .i64 x185.kind, .int .i64 x185.sz, .int .i64 x185.links, .int .i64 x185.change, .int .i64 x185.upn, .int .i64 x185.upg] h 0 rfl (by kernel_rfl) ?_; intro w h
                          refine lnil ?_
                          refine blk_n (thn_n ?_)
                          refine c_reg ?_
                          refine sq_p (.int .i64 (j4 : Int)) rfl (fun _ => by kernel_rfl) ?_
                          refine sq_q rfl h (g_eq (v := .int .i64 (IntKind.i64.wrap ((j4 : Int) + 1))) (v' := .int .i64 ((j4 + 1 : Nat) : Int)) (g_pure fun _ => by kernel_rfl) (wr (by omega))) ?_
                          refine sq_p (.int .i64 ((j4 + 1 : Nat) : Int)) rfl (fun _ => by kernel_rfl) ?_
                          refine lnil ?_
                          refine loop_end (fun j => ⟨(j4 + 1), x185.kind, x185.sz, x185.links, x185.change, x185.upn, x185.upg, (0 : Int), j⟩) (show ((j4 + 1) ≤ hereM.length ∧ ((j4 + 1) ≤ ma177 → x185.kind = 0 ∧ x185.sz = 0 ∧ x185.links = 0 ∧ x185.change = 0 ∧ x185.upn = 0 ∧ x185.upg = 0 ∧ (0 : Int) = 10) ∧ (ma177 < (j4 + 1) → x185.kind = sa178.kind ∧ x185.sz = spSize sa178 ∧ x185.links = sa178.links ∧ x185.change = sa178.change ∧ x185.upn = sa178.upn ∧ x185.upg = sa178.upg ∧ (0 : Int) = 0)) ∧ (hereM.length - (j4 + 1)) < (hereM.length - j4) from ⟨⟨by omega, fun q => by omega, fun _ => ⟨by rw [hyA], (by rw [hyA]; unfold spSize; rw [if_pos (by rw [← hyA]; assumption)]), by rw [hyA], by rw [hyA], by rw [hyA], by rw [hyA], rfl⟩⟩, by omega⟩) (by kernel_rfl) [0, 0, 0, 0, 0, 0, 0, 0, 0, 0, 0, 0, 0, 0] (by kernel_rfl) h
                        · skip
                          have hc190 := of_decide_eq_false hc190
                          refine c_skip ?_
                          refine blk_n (thn_n ?_)
                          refine c_reg ?_
                          refine sq_p (.int .i64 (j4 : Int)) rfl (fun _ => by kernel_rfl) ?_
                          refine sq_q rfl h (g_eq (v := .int .i64 (IntKind.i64.wrap ((j4 : Int) + 1))) (v' := .int .i64 ((j4 + 1 : Nat) : Int)) (g_pure fun _ => by kernel_rfl) (wr (by omega))) ?_
                          refine sq_p (.int .i64 ((j4 + 1 : Nat) : Int)) rfl (fun _ => by kernel_rfl) ?_
                          refine lnil ?_
                          refine loop_end (fun j => ⟨(j4 + 1), x185.kind, x185.asize, x185.links, x185.change, x185.upn, x185.upg, (0 : Int), j⟩) (show ((j4 + 1) ≤ hereM.length ∧ ((j4 + 1) ≤ ma177 → x185.kind = 0 ∧ x185.asize = 0 ∧ x185.links = 0 ∧ x185.change = 0 ∧ x185.upn = 0 ∧ x185.upg = 0 ∧ (0 : Int) = 10) ∧ (ma177 < (j4 + 1) → x185.kind = sa178.kind ∧ x185.asize = spSize sa178 ∧ x185.links = sa178.links ∧ x185.change = sa178.change ∧ x185.upn = sa178.upn ∧ x185.upg = sa178.upg ∧ (0 : Int) = 0)) ∧ (hereM.length - (j4 + 1)) < (hereM.length - j4) from ⟨⟨by omega, fun q => by omega, fun _ => ⟨by rw [hyA], (by rw [hyA]; unfold spSize; rw [if_neg (by rw [← hyA]; assumption)]), by rw [hyA], by rw [hyA], by rw [hyA], by rw [hyA], rfl⟩⟩, by omega⟩) (by kernel_rfl) [0, 0, 0, 0, 0, 0, 0, 0, 0, 0, 0, 0, 0, 0] (by kernel_rfl) h
                      · skip
                        have q191 : ¬ (x185.n = x31.2.1.1 ∧ x185.g = x31.2.1.2.1) := fun hh => by rw [decide_eq_true hh.1, decide_eq_true hh.2] at hc187; cases hc187
                        have hmT : ¬ (x185.n = x31.2.1.1 ∧ x185.g = x31.2.1.2.1) := by simpa using hc187
                        have hjA : j4 ≠ ma177 := fun e => hmT (by have hh := hx186; rw [e, hA179.1] at hh; rw [← Option.some.inj hh]; exact hA179.2)
                        refine c_skip ?_
                        refine blk_n (thn_n ?_)
                        refine c_reg ?_
                        refine sq_p (.int .i64 (j4 : Int)) rfl (fun _ => by kernel_rfl) ?_
                        refine sq_q rfl h (g_eq (v := .int .i64 (IntKind.i64.wrap ((j4 : Int) + 1))) (v' := .int .i64 ((j4 + 1 : Nat) : Int)) (g_pure fun _ => by kernel_rfl) (wr (by omega))) ?_
                        refine sq_p (.int .i64 ((j4 + 1 : Nat) : Int)) rfl (fun _ => by kernel_rfl) ?_
                        refine lnil ?_
                        refine loop_end (fun j => ⟨(j4 + 1), c0, c1, c2, c3, c4, c5, e4, j⟩) (show ((j4 + 1) ≤ hereM.length ∧ ((j4 + 1) ≤ ma177 → c0 = 0 ∧ c1 = 0 ∧ c2 = 0 ∧ c3 = 0 ∧ c4 = 0 ∧ c5 = 0 ∧ e4 = 10) ∧ (ma177 < (j4 + 1) → c0 = sa178.kind ∧ c1 = spSize sa178 ∧ c2 = sa178.links ∧ c3 = sa178.change ∧ c4 = sa178.upn ∧ c5 = sa178.upg ∧ e4 = 0)) ∧ (hereM.length - (j4 + 1)) < (hereM.length - j4) from ⟨⟨by omega, fun q => hZ4 (by omega), fun q => hV4 (by omega)⟩, by omega⟩) (by kernel_rfl) [0, 0, 0, 0, 0, 0, 0, 0, 0, 0, 0, 0, 0, 0] (by kernel_rfl) h
                    · skip
                      have hc183 := of_decide_eq_false hc183
                      obtain ⟨hv0, hv1, hv2, hv3, hv4, hv5, hve⟩ := hV4 (by have := get_ltS hA179.1; omega)
                      refine c_exit ?_
                      refine thn_e (rnd_e (blk_e (thn_n ?_)))
                      refine c_seq ?_
                      refine c_reg ?_
                      refine sq_p (.nilIface) rfl (fun _ => by kernel_rfl) ?_
                      refine sq_p (.int .i64 e4) rfl (fun _ => by kernel_rfl) ?_
                      refine sq_call #[.nilIface, .int .i64 e4] [13] rfl (coded1_spec ad 0 e4 (by decide) (by first | decide | omega)) (fun _ => by kernel_rfl) h ?_; rintro v_ L_ w ⟨rfl, rfl⟩ h
                      refine sq_p (.bool false) rfl (fun _ => by kernel_rfl) ?_
                      refine sq_p (.bool false) rfl (fun _ => by kernel_rfl) ?_
                      refine sq_q (by kernel_rfl) h (g_ld 0 [.int .i64 sa178.kind, .int .i64 (spSize sa178), .int .i64 sa178.links, .int .i64 sa178.change, .int .i64 sa178.upn, .int .i64 sa178.upg] (.agg #[.int .i64 sa178.kind, .int .i64 (spSize sa178), .int .i64 sa178.links, .int .i64 sa178.change, .int .i64 sa178.upn, .int .i64 sa178.upg]) (by kernel_rfl) 2 rfl) ?_
                      refine sq_q (by kernel_rfl) h (g_ld 0 [.int .i64 c0, .int .i64 c1, .int .i64 c2, .int .i64 c3, .int .i64 c4, .int .i64 c5] (.agg #[.int .i64 c0, .int .i64 c1, .int .i64 c2, .int .i64 c3, .int .i64 c4, .int .i64 c5]) (by kernel_rfl) 1 rfl) ?_
                      obtain ⟨b192, hb192⟩ : ∃ b_ : Bool, b_ = (!((decide (sa178.kind = c0)) && ((decide (spSize sa178 = c1)) && ((decide (sa178.links = c2)) && ((decide (sa178.change = c3)) && ((decide (sa178.upn = c4)) && (decide (sa178.upg = c5)))))))) := ⟨_, rfl⟩
                      refine sq_q (v := .bool b192) (by kernel_rfl) h (by subst hb192; exact g_neA (by kernel_rfl)) ?_
                      refine sq_p (.bool b192) rfl (fun _ => by kernel_rfl) ?_
                      refine lnil ?_
                      refine thn_n ?_
                      refine c_cond (b192) (by kernel_rfl) (fun hc193 => ?_) (fun hc193 => ?_)
                      · skip
                        have q194 : (!((decide (sa178.kind = c0)) && ((decide (spSize sa178 = c1)) && ((decide (sa178.links = c2)) && ((decide (sa178.change = c3)) && ((decide (sa178.upn = c4)) && (decide (sa178.upg = c5)))))))) = true := by rw [← hb192]; exact hc193
                        have q195 : ((decide (sa178.kind = c0)) && ((decide (spSize sa178 = c1)) && ((decide (sa178.links = c2)) && ((decide (sa178.change = c3)) && ((decide (sa178.upn = c4)) && (decide (sa178.upg = c5))))))) = false := by revert q194; cases ((decide (sa178.kind = c0)) && ((decide (spSize sa178 = c1)) && ((decide (sa178.links = c2)) && ((decide (sa178.change = c3)) && ((decide (sa178.upn = c4)) && (decide (sa178.upg = c5))))))) <;> simp
                        exfalso; revert hc193; subst hb192; simp [hv0, hv1, hv2, hv3, hv4, hv5]
                      · skip
                        have q196 : (!((decide (sa178.kind = c0)) && ((decide (spSize sa178 = c1)) && ((decide (sa178.links = c2)) && ((decide (sa178.change = c3)) && ((decide (sa178.upn = c4)) && (decide (sa178.upg = c5)))))))) = false := by rw [← hb192]; exact hc193
                        have q197 : ((decide (sa178.kind = c0)) && ((decide (spSize sa178 = c1)) && ((decide (sa178.links = c2)) && ((decide (sa178.change = c3)) && ((decide (sa178.upn = c4)) && (decide (sa178.upg = c5))))))) = true := by revert q196; cases ((decide (sa178.kind = c0)) && ((decide (spSize sa178 = c1)) && ((decide (sa178.links = c2)) && ((decide (sa178.change = c3)) && ((decide (sa178.upn = c4)) && (decide (sa178.upg = c5))))))) <;> simp
                        have q198 : (decide (sa178.kind = c0)) = true := by revert q197; cases (decide (sa178.kind = c0)) <;> simp
                        have q199 : ((decide (spSize sa178 = c1)) && ((decide (sa178.links = c2)) && ((decide (sa178.change = c3)) && ((decide (sa178.upn = c4)) && (decide (sa178.upg = c5)))))) = true := by revert q197; cases (decide (sa178.kind = c0)) <;> cases ((decide (spSize sa178 = c1)) && ((decide (sa178.links = c2)) && ((decide (sa178.change = c3)) && ((decide (sa178.upn = c4)) && (decide (sa178.upg = c5)))))) <;> simp
                        have q198 := of_decide_eq_true q198
                        have q200 : (decide (spSize sa178 = c1)) = true := by revert q199; cases (decide (spSize sa178 = c1)) <;> simp
                        have q201 : ((decide (sa178.links = c2)) && ((decide (sa178.change = c3)) && ((decide (sa178.upn = c4)) && (decide (sa178.upg = c5))))) = true := by revert q199; cases (decide (spSize sa178 = c1)) <;> cases ((decide (sa178.links = c2)) && ((decide (sa178.change = c3)) && ((decide (sa178.upn = c4)) && (decide (sa178.upg = c5))))) <;> simp
                        have q200 := of_decide_eq_true q200
                        have q202 : (decide (sa178.links = c2)) = true := by revert q201; cases (decide (sa178.links = c2)) <;> simp
                        have q203 : ((decide (sa178.change = c3)) && ((decide (sa178.upn = c4)) && (decide (sa178.upg = c5)))) = true := by revert q201; cases (decide (sa178.links = c2)) <;> cases ((decide (sa178.change = c3)) && ((decide (sa178.upn = c4)) && (decide (sa178.upg = c5)))) <;> simp
                        have q202 := of_decide_eq_true q202
                        have q204 : (decide (sa178.change = c3)) = true := by revert q203; cases (decide (sa178.change = c3)) <;> simp
                        have q205 : ((decide (sa178.upn = c4)) && (decide (sa178.upg = c5))) = true := by revert q203; cases (decide (sa178.change = c3)) <;> cases ((decide (sa178.upn = c4)) && (decide (sa178.upg = c5))) <;> simp
                        have q204 := of_decide_eq_true q204
                        have q206 : (decide (sa178.upn = c4)) = true := by revert q205; cases (decide (sa178.upn = c4)) <;> simp
                        have q207 : (decide (sa178.upg = c5)) = true := by revert q205; cases (decide (sa178.upn = c4)) <;> cases (decide (sa178.upg = c5)) <;> simp
                        have q206 := of_decide_eq_true q206
                        have q207 := of_decide_eq_true q207
                        refine c_skip ?_
                        refine blk_n (thn_n ?_)
                        refine c_reg ?_
                        refine sq_p (.int .i64 (i0 : Int)) rfl (fun _ => by kernel_rfl) ?_
                        refine sq_q rfl h (g_eq (v := .int .i64 (IntKind.i64.wrap ((i0 : Int) + 1))) (v' := .int .i64 ((i0 + 1 : Nat) : Int)) (g_pure fun _ => by kernel_rfl) (wr (by omega))) ?_
                        refine sq_p (.int .i64 ((i0 + 1 : Nat) : Int)) rfl (fun _ => by kernel_rfl) ?_
                        refine lnil ?_
                        refine loop_end (fun j => ⟨(i0 + 1), psM, gsM, lM, hereM, vhM, j⟩) (show ((i0 + 1) ≤ acts.length ∧ NRel m (i0 + 1) psM gsM lM hereM) ∧ (acts.length - (i0 + 1)) < (acts.length - i0) from ⟨⟨by omega, hRM⟩, by omega⟩) (by kernel_rfl) [7, 7, 3, 3, 5, 5, 3, 4, 4, 4, 0] (by kernel_rfl) h
                  · skip
                    refine sq_p (.tuple #[.agg #[.int .i64 0, .int .i64 0, .int .i64 0, .int .i64 0, .int .i64 0, .int .i64 0], errV ad 10]) rfl (fun _ => by kernel_rfl) ?_
                    refine sq_p (.agg #[.int .i64 0, .int .i64 0, .int .i64 0, .int .i64 0, .int .i64 0, .int .i64 0]) rfl (fun _ => by kernel_rfl) ?_
                    refine sq_p (errV ad 10) rfl (fun _ => by kernel_rfl) ?_
                    refine sq_new rfl (fun b => .pointer (some ⟨b, 0, none⟩)) [.int .i64 0, .int .i64 0, .int .i64 0, .int .i64 0, .int .i64 0, .int .i64 0] 37 (fun _ => by kernel_rfl) h ?_; intro k208 w h
                    refine sq_st rfl 0 [.int .i64 0, .int .i64 0, .int .i64 0, .int .i64 0, .int .i64 0, .int .i64 0] [.int .i64 0, .int .i64 0, .int .i64 0, .int .i64 0, .int .i64 0, .int .i64 0] h 0 rfl (by kernel_rfl) ?_; intro w h
                    refine sq_p (errV ad 10) rfl (fun _ => by kernel_rfl) ?_
                    refine lnil ?_
                    refine thn_n ?_
                    refine c_seq ?_
                    refine c_reg ?_
                    refine sq_p (.agg #[.int .i64 0, .int .i64 0, .int .i64 0, .int .i64 0, .int .i64 0, .int .i64 0]) rfl (fun _ => by kernel_rfl) ?_
                    refine sq_new rfl (fun b => .pointer (some ⟨b, 0, none⟩)) [.int .i64 0, .int .i64 0, .int .i64 0, .int .i64 0, .int .i64 0, .int .i64 0] 37 (fun _ => by kernel_rfl) h ?_; intro k209 w h
                    refine sq_st rfl 0 [.int .i64 0, .int .i64 0, .int .i64 0, .int .i64 0, .int .i64 0, .int .i64 0] [.int .i64 0, .int .i64 0, .int .i64 0, .int .i64 0, .int .i64 0, .int .i64 0] h 0 rfl (by kernel_rfl) ?_; intro w h
                    refine lnil ?_
                    refine thn_n ?_
                    refine c_seq ?_
                    refine c_reg ?_
                    refine sq_p (.int .i64 10) rfl (fun _ => by kernel_rfl) ?_
                    refine lnil ?_
                    refine thn_n ?_
                    refine c_seq ?_
                    refine c_seq ?_
                    refine c_reg ?_
                    refine sq_p (.int .i64 0) rfl (fun _ => by kernel_rfl) ?_
                    refine lnil ?_
                    refine thn_n ?_
                    refine c_block ?_
                    refine c_loop (X := Nat × (Nat → Value)) (fun ⟨j4, J5⟩ => ⟨#[.int .i64 (m : Int), v, undef, undef, JM2 4, .bool true, .pointer (some ⟨tb, 0, none⟩), .nilIface, v28, vhM, .int .i64 (i0 : Int), .pointer (some ⟨k33, 0, none⟩), .int .i64 kx, .int .i64 (j0 : Int), .int .i64 stl, JM2 15, JM2 16, JM2 17, JM2 18, JM2 19, JM2 20, JM2 21, JM2 22, JM2 23, .pointer (some ⟨k208, 0, none⟩), errV ad 10, .pointer (some ⟨k209, 0, none⟩), .int .i64 10, .int .i64 (j4 : Int), .bool true, .bool true, .bool false, .bool false, v, .int .i64 (acts.length : Int), .bool b1, .bool b1, undef, .tuple #[.pointer (some ⟨tb, 0, none⟩), .nilIface], .int .i64 (m : Int), .tuple #[.pointer (some ⟨tb, 0, none⟩), .nilIface], .pointer (some ⟨tb, 0, none⟩), .nilIface, .int .i64 (m : Int), .bool b17, .bool b17, (if b17 = false then .int .i64 (m : Int) else undef), (if b17 = false then .bool b18 else undef), .bool b19, undef, undef, undef, undef, undef, undef, .nilIface, .bool false, .bool false, .pointer (some ⟨tb, 0, none⟩), .bool false, .bool false, .int .i64 (m : Int), v28, .int .i64 (i0 : Int), v, .int .i64 (acts.length : Int), .bool (decide ((i0 : Int) < (acts.length : Int))), J0 67, J0 68, v, .int .i64 (i0 : Int), .pointer (some ⟨blkN v, offN v + i0 * 5, none⟩), .agg #[.string x31.1, .int .i64 x31.2.1.1, .int .i64 x31.2.1.2.1, .int .i64 x31.2.2.1, .int .i64 x31.2.2.2.1], .int .i64 (j0 : Int), vh, .int .i64 (here.length : Int), .bool (decide ((j0 : Int) < (here.length : Int))), J1 77, J1 78, J1 79, J1 80, J1 81, J1 82, J1 83, J1 84, J1 85, J1 86, J1 87, .int .i64 kx, .bool (decide (kx < 0)), .pointer (some ⟨k33, 0, none⟩), .string x31.1, JM2 92, JM2 93, JM2 94, JM2 95, JM2 96, JM2 97, JM2 98, JM2 99, JM2 100, JM2 101, JM2 102, JM2 103, JM2 104, JM2 105, JM2 106, JM2 107, JM2 108, JM2 109, JM2 110, JM2 111, JM2 112, JM2 113, JM2 114, JM2 115, JM2 116, JM2 117, JM2 118, JM2 119, JM2 120, JM2 121, JM2 122, JM2 123, JM2 124, JM2 125, JM2 126, JM2 127, JM2 128, JM2 129, JM2 130, JM2 131, JM2 132, JM2 133, JM2 134, JM2 135, JM2 136, JM2 137, JM2 138, JM2 139, JM2 140, JM2 141, JM2 142, JM2 143, JM2 144, JM2 145, JM2 146, JM2 147, JM2 148, JM2 149, JM2 150, JM2 151, JM2 152, JM2 153, JM2 154, JM2 155, JM2 156, JM2 157, JM2 158, JM2 159, JM2 160, JM2 161, JM2 162, JM2 163, JM2 164, JM2 165, JM2 166, JM2 167, JM2 168, JM2 169, JM2 170, JM2 171, JM2 172, JM2 173, JM2 174, JM2 175, JM2 176, JM2 177, JM2 178, JM2 179, JM2 180, JM2 181, JM2 182, JM2 183, JM2 184, JM2 185, JM2 186, JM2 187, JM2 188, JM2 189, JM2 190, JM2 191, JM2 192, JM2 193, JM2 194, JM2 195, JM2 196, JM2 197, JM2 198, JM2 199, JM2 200, JM2 201, JM2 202, JM2 203, JM2 204, JM2 205, JM2 206, JM2 207, JM2 208, JM2 209, JM2 210, JM2 211, JM2 212, JM2 213, JM2 214, JM2 215, JM2 216, JM2 217, JM2 218, JM2 219, JM2 220, JM2 221, JM2 222, JM2 223, JM2 224, JM2 225, JM2 226, JM2 227, JM2 228, JM2 229, JM2 230, JM2 231, JM2 232, JM2 233, JM2 234, JM2 235, JM2 236, JM2 237, JM2 238, JM2 239, JM2 240, JM2 241, JM2 242, JM2 243, JM2 244, JM2 245, JM2 246, JM2 247, JM2 248, JM2 249, JM2 250, JM2 251, JM2 252, JM2 253, JM2 254, JM2 255, JM2 256, JM2 257, JM2 258, JM2 259, JM2 260, JM2 261, JM2 262, JM2 263, JM2 264, JM2 265, JM2 266, JM2 267, JM2 268, JM2 269, JM2 270, JM2 271, JM2 272, JM2 273, JM2 274, JM2 275, JM2 276, JM2 277, JM2 278, JM2 279, JM2 280, JM2 281, JM2 282, JM2 283, JM2 284, JM2 285, JM2 286, JM2 287, JM2 288, JM2 289, JM2 290, JM2 291, JM2 292, JM2 293, JM2 294, JM2 295, JM2 296, JM2 297, JM2 298, JM2 299, JM2 300, JM2 301, JM2 302, JM2 303, JM2 304, JM2 305, JM2 306, JM2 307, JM2 308, JM2 309, JM2 310, JM2 311, JM2 312, JM2 313, JM2 314, JM2 315, JM2 316, JM2 317, JM2 318, JM2 319, JM2 320, JM2 321, JM2 322, JM2 323, JM2 324, JM2 325, JM2 326, JM2 327, JM2 328, JM2 329, JM2 330, JM2 331, JM2 332, JM2 333, JM2 334, JM2 335, JM2 336, JM2 337, JM2 338, JM2 339, JM2 340, JM2 341, .pointer (some ⟨tb, 0, none⟩), .int .i64 (hereM.length : Int), vhM, .int .i64 (hereM.length : Int), .bool (!(decide ((hereM.length : Int) = (hereM.length : Int)))), .tuple #[.agg #[.int .i64 0, .int .i64 0, .int .i64 0, .int .i64 0, .int .i64 0, .int .i64 0], errV ad 10], .pointer (some ⟨tb, 0, none⟩), .pointer (some ⟨k33, 1, none⟩), .agg #[.int .i64 x31.2.1.1, .int .i64 x31.2.1.2.1], .tuple #[.agg #[.int .i64 0, .int .i64 0, .int .i64 0, .int .i64 0, .int .i64 0, .int .i64 0], errV ad 10], .agg #[.int .i64 0, .int .i64 0, .int .i64 0, .int .i64 0, .int .i64 0, .int .i64 0], errV ad 10, .agg #[.int .i64 0, .int .i64 0, .int .i64 0, .int .i64 0, .int .i64 0, .int .i64 0], J5 355, J5 356, J5 357, J5 358, J5 359, J5 360, J5 361, J5 362, J5 363, J5 364, J5 365, J5 366, J5 367, J5 368, J5 369, J5 370, J5 371, J5 372, J5 373, J5 374, J5 375, J5 376, J5 377, J5 378, J5 379, J5 380, J5 381, J5 382, J0 383, J0 384, J0 385, J0 386, J0 387, J0 388, J0 389, J0 390, J0 391], []⟩)
                      (fun ⟨j4, J5⟩ => [rCell true k209 [.int .i64 0, .int .i64 0, .int .i64 0, .int .i64 0, .int .i64 0, .int .i64 0] 37, rCell true k208 [.int .i64 0, .int .i64 0, .int .i64 0, .int .i64 0, .int .i64 0, .int .i64 0] 37, rTab tb psM gsM vl vg T Sl Sg, rNds lM, rEnv B ad [10], rCell true k33 [.string x31.1, .int .i64 x31.2.1.1, .int .i64 x31.2.1.2.1, .int .i64 x31.2.2.1, .int .i64 x31.2.2.2.1] 35, rRows true vhM 39 9 spotC hereM, rRows true v28 3 1 idC gsM, rEnv B ad [2], rEnv B ad [8], rEnv B ad [9], rEnv B ad [3], rArg v 5 ndaC acts, rEnvA B ad]) (fun ⟨j4, J5⟩ => j4 ≤ hereM.length) (fun ⟨j4, J5⟩ => hereM.length - j4)
                      ⟨0, (fun n => (#[.int .i64 (m : Int), v, undef, undef, JM2 4, .bool true, .pointer (some ⟨tb, 0, none⟩), .nilIface, v28, vhM, .int .i64 (i0 : Int), .pointer (some ⟨k33, 0, none⟩), .int .i64 kx, .int .i64 (j0 : Int), .int .i64 stl, JM2 15, JM2 16, JM2 17, JM2 18, JM2 19, JM2 20, JM2 21, JM2 22, JM2 23, .pointer (some ⟨k208, 0, none⟩), errV ad 10, .pointer (some ⟨k209, 0, none⟩), .int .i64 10, .int .i64 0, .bool true, .bool true, .bool false, .bool false, v, .int .i64 (acts.length : Int), .bool b1, .bool b1, undef, .tuple #[.pointer (some ⟨tb, 0, none⟩), .nilIface], .int .i64 (m : Int), .tuple #[.pointer (some ⟨tb, 0, none⟩), .nilIface], .pointer (some ⟨tb, 0, none⟩), .nilIface, .int .i64 (m : Int), .bool b17, .bool b17, (if b17 = false then .int .i64 (m : Int) else undef), (if b17 = false then .bool b18 else undef), .bool b19, undef, undef, undef, undef, undef, undef, .nilIface, .bool false, .bool false, .pointer (some ⟨tb, 0, none⟩), .bool false, .bool false, .int .i64 (m : Int), v28, .int .i64 (i0 : Int), v, .int .i64 (acts.length : Int), .bool (decide ((i0 : Int) < (acts.length : Int))), J0 67, J0 68, v, .int .i64 (i0 : Int), .pointer (some ⟨blkN v, offN v + i0 * 5, none⟩), .agg #[.string x31.1, .int .i64 x31.2.1.1, .int .i64 x31.2.1.2.1, .int .i64 x31.2.2.1, .int .i64 x31.2.2.2.1], .int .i64 (j0 : Int), vh, .int .i64 (here.length : Int), .bool (decide ((j0 : Int) < (here.length : Int))), J1 77, J1 78, J1 79, J1 80, J1 81, J1 82, J1 83, J1 84, J1 85, J1 86, J1 87, .int .i64 kx, .bool (decide (kx < 0)), .pointer (some ⟨k33, 0, none⟩), .string x31.1, JM2 92, JM2 93, JM2 94, JM2 95, JM2 96, JM2 97, JM2 98, JM2 99, JM2 100, JM2 101, JM2 102, JM2 103, JM2 104, JM2 105, JM2 106, JM2 107, JM2 108, JM2 109, JM2 110, JM2 111, JM2 112, JM2 113, JM2 114, JM2 115, JM2 116, JM2 117, JM2 118, JM2 119, JM2 120, JM2 121, JM2 122, JM2 123, JM2 124, JM2 125, JM2 126, JM2 127, JM2 128, JM2 129, JM2 130, JM2 131, JM2 132, JM2 133, JM2 134, JM2 135, JM2 136, JM2 137, JM2 138, JM2 139, JM2 140, JM2 141, JM2 142, JM2 143, JM2 144, JM2 145, JM2 146, JM2 147, JM2 148, JM2 149, JM2 150, JM2 151, JM2 152, JM2 153, JM2 154, JM2 155, JM2 156, JM2 157, JM2 158, JM2 159, JM2 160, JM2 161, JM2 162, JM2 163, JM2 164, JM2 165, JM2 166, JM2 167, JM2 168, JM2 169, JM2 170, JM2 171, JM2 172, JM2 173, JM2 174, JM2 175, JM2 176, JM2 177, JM2 178, JM2 179, JM2 180, JM2 181, JM2 182, JM2 183, JM2 184, JM2 185, JM2 186, JM2 187, JM2 188, JM2 189, JM2 190, JM2 191, JM2 192, JM2 193, JM2 194, JM2 195, JM2 196, JM2 197, JM2 198, JM2 199, JM2 200, JM2 201, JM2 202, JM2 203, JM2 204, JM2 205, JM2 206, JM2 207, JM2 208, JM2 209, JM2 210, JM2 211, JM2 212, JM2 213, JM2 214, JM2 215, JM2 216, JM2 217, JM2 218, JM2 219, JM2 220, JM2 221, JM2 222, JM2 223, JM2 224, JM2 225, JM2 226, JM2 227, JM2 228, JM2 229, JM2 230, JM2 231, JM2 232, JM2 233, JM2 234, JM2 235, JM2 236, JM2 237, JM2 238, JM2 239, JM2 240, JM2 241, JM2 242, JM2 243, JM2 244, JM2 245, JM2 246, JM2 247, JM2 248, JM2 249, JM2 250, JM2 251, JM2 252, JM2 253, JM2 254, JM2 255, JM2 256, JM2 257, JM2 258, JM2 259, JM2 260, JM2 261, JM2 262, JM2 263, JM2 264, JM2 265, JM2 266, JM2 267, JM2 268, JM2 269, JM2 270, JM2 271, JM2 272, JM2 273, JM2 274, JM2 275, JM2 276, JM2 277, JM2 278, JM2 279, JM2 280, JM2 281, JM2 282, JM2 283, JM2 284, JM2 285, JM2 286, JM2 287, JM2 288, JM2 289, JM2 290, JM2 291, JM2 292, JM2 293, JM2 294, JM2 295, JM2 296, JM2 297, JM2 298, JM2 299, JM2 300, JM2 301, JM2 302, JM2 303, JM2 304, JM2 305, JM2 306, JM2 307, JM2 308, JM2 309, JM2 310, JM2 311, JM2 312, JM2 313, JM2 314, JM2 315, JM2 316, JM2 317, JM2 318, JM2 319, JM2 320, JM2 321, JM2 322, JM2 323, JM2 324, JM2 325, JM2 326, JM2 327, JM2 328, JM2 329, JM2 330, JM2 331, JM2 332, JM2 333, JM2 334, JM2 335, JM2 336, JM2 337, JM2 338, JM2 339, JM2 340, JM2 341, .pointer (some ⟨tb, 0, none⟩), .int .i64 (hereM.length : Int), vhM, .int .i64 (hereM.length : Int), .bool (!(decide ((hereM.length : Int) = (hereM.length : Int)))), .tuple #[.agg #[.int .i64 0, .int .i64 0, .int .i64 0, .int .i64 0, .int .i64 0, .int .i64 0], errV ad 10], .pointer (some ⟨tb, 0, none⟩), .pointer (some ⟨k33, 1, none⟩), .agg #[.int .i64 x31.2.1.1, .int .i64 x31.2.1.2.1], .tuple #[.agg #[.int .i64 0, .int .i64 0, .int .i64 0, .int .i64 0, .int .i64 0, .int .i64 0], errV ad 10], .agg #[.int .i64 0, .int .i64 0, .int .i64 0, .int .i64 0, .int .i64 0, .int .i64 0], errV ad 10, .agg #[.int .i64 0, .int .i64 0, .int .i64 0, .int .i64 0, .int .i64 0, .int .i64 0], J0 355, J0 356, J0 357, J0 358, J0 359, J0 360, J0 361, J0 362, J0 363, J0 364, J0 365, J0 366, J0 367, J0 368, J0 369, J0 370, J0 371, J0 372, J0 373, J0 374, J0 375, J0 376, J0 377, J0 378, J0 379, J0 380, J0 381, J0 382, J0 383, J0 384, J0 385, J0 386, J0 387, J0 388, J0 389, J0 390, J0 391] : Array Value).getD n undef)⟩ (by omega) (by kernel_rfl) [0, 0, 0, 0, 0, 0, 0, 0, 0, 0, 0, 0, 0, 0] (by kernel_rfl) h ?_
                    rintro ⟨j4, J5⟩ w hG h
                    have hj4 : j4 ≤ hereM.length := hG
                    refine c_seq ?_
                    refine c_seq ?_
                    refine c_reg ?_
                    refine sq_p (.int .i64 (j4 : Int)) rfl (fun _ => by kernel_rfl) ?_
                    refine sq_p (vhM) rfl (fun _ => by kernel_rfl) ?_
                    refine sq_q rfl h (g_len (by kernel_rfl) 6 rfl) ?_
                    refine sq_p (.bool (decide ((j4 : Int) < (hereM.length : Int)))) rfl (fun _ => by kernel_rfl) ?_
                    refine lnil ?_
                    refine thn_n ?_
                    refine c_cond (decide ((j4 : Int) < (hereM.length : Int))) (by kernel_rfl) (fun hc210 => ?_) (fun hc210 => ?_)
                    · skip
                      have hc210 := of_decide_eq_true hc210
                      refine c_skip ?_
                      refine thn_n ?_
                      refine c_seq ?_
                      refine c_block ?_
                      refine c_seq ?_
                      refine d_start 8 [5, 5] (by kernel_rfl) h fun w h => ?_
                      refine d_take 0 98 [5, 5] rfl (v := vhM) (by kernel_rfl) (qp_thn (qp_blk (qp_thn (qp_rnd (qp_blk (qp_thn (qp_blk (qp_thn (qp_rnd (qp_blk (qp_thn qp_body))))))))))) (yq (by kernel_rfl) (g_pure (v := vhM) fun _ => by kernel_rfl)) h (by kernel_rfl) ?_
                      refine d_take 1 97 [5, 5] rfl (v := .int .i64 (j4 : Int)) (by kernel_rfl) (qp_thn (qp_blk (qp_thn (qp_rnd (qp_blk (qp_thn (qp_blk (qp_thn (qp_rnd (qp_blk (qp_thn qp_body))))))))))) (yq (by kernel_rfl) (g_pure (v := .int .i64 (j4 : Int)) fun _ => by kernel_rfl)) h (by kernel_rfl) ?_
                      have hi211 : j4 < hereM.length := by omega
                      obtain ⟨x212, hx213⟩ : ∃ x, hereM[j4]? = some x := ⟨_, List.getElem?_eq_getElem hi211⟩
                      refine d_take 2 99 [5, 5] rfl (v := .pointer (some ⟨blkN vhM, offN vhM + j4 * 9, none⟩)) (by kernel_rfl) (qp_thn (qp_blk (qp_thn (qp_rnd (qp_blk (qp_thn (qp_blk (qp_thn (qp_rnd (qp_blk (qp_thn qp_body))))))))))) (yq (by kernel_rfl) (g_idx j4 (by kernel_rfl) hi211 1 rfl)) h (by kernel_rfl) ?_
                      refine d_take 3 103 [5, 5] rfl (v := .pointer (some ⟨blkN vhM, offN vhM + j4 * 9, none⟩)) (by kernel_rfl) (qp_thn (qp_blk (qp_thn (qp_rnd (qp_blk (qp_thn (qp_blk (qp_thn (qp_rnd (qp_blk (qp_thn qp_body))))))))))) (yq (by kernel_rfl) (g_pure (v := .pointer (some ⟨blkN vhM, offN vhM + j4 * 9, none⟩)) fun _ => by kernel_rfl)) h (by kernel_rfl) ?_
                      refine d_take 4 111 [5, 5] rfl (v := .agg #[.int .i64 x212.n, .int .i64 x212.g]) (by kernel_rfl) (qp_thn (qp_blk (qp_thn (qp_rnd (qp_blk (qp_thn (qp_blk (qp_thn (qp_rnd (qp_blk (qp_thn qp_body))))))))))) (yq (by kernel_rfl) (g_ldr (b := blkN vhM) (offN vhM + j4 * 9) [.int .i64 x212.n, .int .i64 x212.g] (.agg #[.int .i64 x212.n, .int .i64 x212.g]) (by kernel_rfl) 1 rfl (rdRow0 spotC_len hx213 (by kernel_rfl)))) h (by kernel_rfl) ?_
                      refine d_take 5 31 [5, 5] rfl (v := .pointer (some ⟨k33, 1, none⟩)) (by kernel_rfl) (qp_thn (qp_blk (qp_thn (qp_rnd (qp_blk (qp_thn (qp_blk (qp_thn (qp_rnd (qp_blk (qp_thn qp_body))))))))))) (yq (by kernel_rfl) (g_pure (v := .pointer (some ⟨k33, 1, none⟩)) fun _ => by kernel_rfl)) h (by kernel_rfl) ?_
                      refine d_take 6 63 [5, 5] rfl (v := .agg #[.int .i64 x31.2.1.1, .int .i64 x31.2.1.2.1]) (by kernel_rfl) (qp_thn (qp_blk (qp_thn (qp_rnd (qp_blk (qp_thn (qp_blk (qp_thn (qp_rnd (qp_blk (qp_thn qp_body))))))))))) (yq (by kernel_rfl) (g_ld 1 [.int .i64 x31.2.1.1, .int .i64 x31.2.1.2.1] (.agg #[.int .i64 x31.2.1.1, .int .i64 x31.2.1.2.1]) (by kernel_rfl) 0 rfl)) h (by kernel_rfl) ?_
                      refine d_take 7 127 [5, 5] rfl (v := .bool ((decide (x212.n = x31.2.1.1)) && (decide (x212.g = x31.2.1.2.1)))) (by kernel_rfl) (qp_thn (qp_blk (qp_thn (qp_rnd (qp_blk (qp_thn (qp_blk (qp_thn (qp_rnd (qp_blk (qp_thn qp_body))))))))))) (yq (by kernel_rfl) (g_eqH (by kernel_rfl))) h (by kernel_rfl) ?_
                      refine d_done (by kernel_rfl) ?_
                      refine thn_n ?_
                      refine c_cond (((decide (x212.n = x31.2.1.1)) && (decide (x212.g = x31.2.1.2.1)))) (by kernel_rfl) (fun hc214 => ?_) (fun hc214 => ?_)
                      · skip
                        have q215 : (decide (x212.n = x31.2.1.1)) = true := by revert hc214; cases (decide (x212.n = x31.2.1.1)) <;> simp
                        have q216 : (decide (x212.g = x31.2.1.2.1)) = true := by revert hc214; cases (decide (x212.n = x31.2.1.1)) <;> cases (decide (x212.g = x31.2.1.2.1)) <;> simp
                        have q215 := of_decide_eq_true q215
                        have q216 := of_decide_eq_true q216
                        have hmT : (x212.n = x31.2.1.1 ∧ x212.g = x31.2.1.2.1) := by simpa using hc214
                        exact absurd hmT (hA180 _ (List.mem_of_getElem? hx213))
                      · skip
                        have q217 : ¬ (x212.n = x31.2.1.1 ∧ x212.g = x31.2.1.2.1) := fun hh => by rw [decide_eq_true hh.1, decide_eq_true hh.2] at hc214; cases hc214
                        have hmT : ¬ (x212.n = x31.2.1.1 ∧ x212.g = x31.2.1.2.1) := by simpa using hc214
                        refine c_skip ?_
                        refine blk_n (thn_n ?_)
                        refine c_reg ?_
                        refine sq_p (.int .i64 (j4 : Int)) rfl (fun _ => by kernel_rfl) ?_
                        refine sq_q rfl h (g_eq (v := .int .i64 (IntKind.i64.wrap ((j4 : Int) + 1))) (v' := .int .i64 ((j4 + 1 : Nat) : Int)) (g_pure fun _ => by kernel_rfl) (wr (by omega))) ?_
                        refine sq_p (.int .i64 ((j4 + 1 : Nat) : Int)) rfl (fun _ => by kernel_rfl) ?_
                        refine lnil ?_
                        refine loop_end (fun j => ⟨(j4 + 1), j⟩) (show ((j4 + 1) ≤ hereM.length) ∧ (hereM.length - (j4 + 1)) < (hereM.length - j4) from ⟨by omega, by omega⟩) (by kernel_rfl) [0, 0, 0, 0, 0, 0, 0, 0, 0, 0, 0, 0, 0, 0] (by kernel_rfl) h
                    · skip
                      have hc210 := of_decide_eq_false hc210
                      refine c_exit ?_
                      refine thn_e (rnd_e (blk_e (thn_n ?_)))
                      refine c_seq ?_
                      refine c_reg ?_
                      refine sq_p (errV ad 10) rfl (fun _ => by kernel_rfl) ?_
                      refine sq_p (.int .i64 10) rfl (fun _ => by kernel_rfl) ?_
                      refine sq_call #[errV ad 10, .int .i64 10] [13] rfl (coded1_spec ad 10 10 (by decide) (by first | decide | omega)) (fun _ => by kernel_rfl) h ?_; rintro v_ L_ w ⟨rfl, rfl⟩ h
                      refine sq_p (.bool false) rfl (fun _ => by kernel_rfl) ?_
                      refine sq_p (.bool false) rfl (fun _ => by kernel_rfl) ?_
                      refine sq_q (by kernel_rfl) h (g_ld 0 [.int .i64 0, .int .i64 0, .int .i64 0, .int .i64 0, .int .i64 0, .int .i64 0] (.agg #[.int .i64 0, .int .i64 0, .int .i64 0, .int .i64 0, .int .i64 0, .int .i64 0]) (by kernel_rfl) 2 rfl) ?_
                      refine sq_q (by kernel_rfl) h (g_ld 0 [.int .i64 0, .int .i64 0, .int .i64 0, .int .i64 0, .int .i64 0, .int .i64 0] (.agg #[.int .i64 0, .int .i64 0, .int .i64 0, .int .i64 0, .int .i64 0, .int .i64 0]) (by kernel_rfl) 1 rfl) ?_
                      refine sq_q (by kernel_rfl) h (g_eq (v := .bool (!((decide ((0 : Int) = 0)) && ((decide ((0 : Int) = 0)) && ((decide ((0 : Int) = 0)) && ((decide ((0 : Int) = 0)) && ((decide ((0 : Int) = 0)) && (decide ((0 : Int) = 0))))))))) (v' := .bool false) (g_neA (by kernel_rfl)) (by rfl)) ?_
                      refine sq_p (.bool false) rfl (fun _ => by kernel_rfl) ?_
                      refine lnil ?_
                      refine thn_n ?_
                      refine c_false (by kernel_rfl) ?_
                      refine c_skip ?_
                      refine blk_n (thn_n ?_)
                      refine c_reg ?_
                      refine sq_p (.int .i64 (i0 : Int)) rfl (fun _ => by kernel_rfl) ?_
                      refine sq_q rfl h (g_eq (v := .int .i64 (IntKind.i64.wrap ((i0 : Int) + 1))) (v' := .int .i64 ((i0 + 1 : Nat) : Int)) (g_pure fun _ => by kernel_rfl) (wr (by omega))) ?_
                      refine sq_p (.int .i64 ((i0 + 1 : Nat) : Int)) rfl (fun _ => by kernel_rfl) ?_
                      refine lnil ?_
                      refine loop_end (fun j => ⟨(i0 + 1), psM, gsM, lM, hereM, vhM, j⟩) (show ((i0 + 1) ≤ acts.length ∧ NRel m (i0 + 1) psM gsM lM hereM) ∧ (acts.length - (i0 + 1)) < (acts.length - i0) from ⟨⟨by omega, hRM⟩, by omega⟩) (by kernel_rfl) [7, 7, 3, 3, 5, 5, 3, 4, 4, 4, 0] (by kernel_rfl) h
        · skip
          have hc29 := of_decide_eq_false hc29
          refine c_exit ?_
          refine thn_e (rnd_e (blk_e (thn_n ?_)))
          refine c_seq ?_
          refine c_reg ?_
          refine sq_p (.bool true) rfl (fun _ => by kernel_rfl) ?_
          refine lnil ?_
          refine thn_n ?_
          refine c_ret ?_
          refine ret_end [.bool true] [9, 9] h (by kernel_rfl) (res_t (by kernel_rfl) res_n) ?_
          exact ⟨rfl, rfl⟩

theorem nodesActs_any (ad : Nat → Addr) (mo : Int) (a0 : Option Addr) (cap : Nat) (acts : List Nda) (w : World) (he : EnvA w.heap.size ad w) (hs : (Sh.slice shNda).At w w.heap.size (a0, cap, acts)) :
    Calls Tryd.prog 3 #[.int .i64 mo, .slice a0 acts.length cap] w fun e w' => e = .returned (.bool true) ∧ Chg Nil w w' := by
  have hok : ∀ x ∈ acts, NdaOk x := fun x hx => by
    obtain ⟨i, hi, rfl⟩ := List.mem_iff_getElem.1 hx
    obtain ⟨⟨_, _, q1, q2, _⟩, _⟩ := hs.2.2 i acts[i] (List.getElem?_eq_getElem hi)
    exact ⟨q1.1, q1.2, q2.1, q2.2⟩
  refine ((nodesActs_spec (B := w.heap.size) ad mo (.slice a0 acts.length cap) acts hok).reads (w := w) rfl ?_).mono ?_
  · intro r hr
    simp only [List.mem_cons, List.mem_nil_iff, or_false] at hr
    rcases hr with rfl | rfl
    · exact arg_of_sh hs
    · exact he
  · rintro e w' ⟨u, L', ⟨rfl, _⟩, he, hc'⟩
    exact ⟨he, hc'⟩

end Go.Proofs.YtgebinfbbopnlaaDoor
