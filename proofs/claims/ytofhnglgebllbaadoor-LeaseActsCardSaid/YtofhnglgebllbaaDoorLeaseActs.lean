/- lease: contracts by what is owned (printed by walk.py). -/
import Derived.Test.YtofhnglgebllbaaDoorLsG
namespace Go.Proofs.YtofhnglgebllbaaDoor
open Go.RowKit
set_option linter.unusedVariables false
set_option linter.unusedSimpArgs false
set_option linter.unnecessarySimpa false
set_option maxRecDepth 100000

def shLAct : Sh := .and .str (.and .str (.and .int (.and .int .unit)))
abbrev LAct := ByteArray × ByteArray × Int × Int × Unit
def lactC (x : LAct) : List Value := [.string x.1, .string x.2.1, .int .i64 x.2.2.1, .int .i64 x.2.2.2.1]
theorem lactC_len (x : LAct) : (lactC x).length = 4 := rfl
def LActOk (x : LAct) : Prop := x.1.size ≤ 140737488355327 ∧ x.2.1.size ≤ 140737488355327 ∧ -9223372036854775808 ≤ x.2.2.1 ∧ x.2.2.1 ≤ 9223372036854775807 ∧ -9223372036854775808 ≤ x.2.2.2.1 ∧ x.2.2.2.1 ≤ 9223372036854775807
theorem ids_len (l : List Ls) : (lsIds l).length ≤ l.length := by unfold lsIds; rw [List.length_map]; exact List.length_filter_le _ _
theorem tickG_len (l : List Ls) (now : Int) : (tickG l now).length ≤ l.length := by unfold tickG; rw [List.length_map]; exact List.length_filter_le _ _
theorem LsOk.tick {l : List Ls} {last now n : Int} (h : LsOk l last now) (hn : 0 ≤ n) : LsOk (tickL l (now + n)) last (now + n) := (h.later hn).filter _
theorem LsOk.ren {l : List Ls} {last now : Int} (h : LsOk l last now) {j : Nat} {e : Ls} (hj : l[j]? = some e) (hc : lsC e = true) : LsOk (l.set j (lsSet e true now)) last now :=
  h.set hj (c := true) fun x hx hn a b => hn (by rw [h.uniq hx (List.mem_of_getElem? hj) a (b.trans hc.symm)])

set_option maxHeartbeats 1000000 in
theorem leaseActs_spec {B : Nat} (ad : Nat → Addr) (v : Value) (acts : List LAct) (hacts : ∀ x ∈ acts, LActOk x) : Spec Tryd.prog 11 #[v] [rArg v 4 lactC acts, rEnvA B ad] (fun u L => u = .bool true ∧ L = [rArg v 4 lactC acts, rEnvA B ad]) := by
  refine spec_of (#[v, undef, undef, undef, undef, undef, undef, undef, undef, undef, undef, undef, undef, undef, undef, undef, undef, undef, undef, undef, undef, undef, undef, undef, undef, undef, undef, undef, undef, undef, undef, undef, undef, undef, undef, undef, undef, undef, undef, undef, undef, undef, undef, undef, undef, undef, undef, undef, undef, undef, undef, undef, undef, undef, undef, undef, undef, undef, undef, undef, undef, undef, undef, undef, undef, undef, undef, undef, undef, undef, undef, undef, undef, undef, undef, undef, undef, undef, undef, undef, undef, undef, undef, undef, undef, undef, undef, undef, undef, undef, undef, undef, undef, undef, undef, undef, undef, undef, undef, undef, undef, undef, undef, undef, undef, undef, undef, undef, undef, undef, undef, undef, undef, undef, undef, undef, undef, undef, undef, undef, undef, undef, undef, undef, undef, undef, undef, undef, undef, undef, undef, undef, undef, undef, undef, undef, undef, undef, undef, undef, undef, undef, undef, undef, undef, undef, undef, undef, undef, undef, undef, undef, undef, undef, undef, undef, undef, undef, undef, undef, undef, undef, undef, undef, undef, undef, undef, undef, undef, undef, undef, undef, undef, undef, undef, undef, undef, undef, undef, undef, undef, undef, undef, undef, undef, undef, undef, undef, undef, undef, undef]) Tryd.func11 rfl (by kernel_rfl) fun E w0 w h => ?_
  have h := h.envSub [4] 1 rfl (by decide)
  have h := h.envSub [9] 2 rfl (by decide)
  have h := h.envSub [5] 3 rfl (by decide)
  have h := h.envSub [3] 4 rfl (by decide)
  have h := h.envSub [2] 5 rfl (by decide)
  refine c_seq ?_
  refine c_reg ?_
  refine sq_p (.bool false) rfl (fun _ => by kernel_rfl) ?_
  refine lnil ?_
  refine thn_n ?_
  refine c_seq ?_
  refine c_reg ?_
  refine sq_call #[] [4, 3, 2, 1] rfl (knownL_spec ad) (fun _ => by kernel_rfl) h ?_; rintro v_ L_ w ⟨rfl, rfl⟩ h
  refine sq_p (.bool true) rfl (fun _ => by kernel_rfl) ?_
  refine lnil ?_
  refine thn_n ?_
  refine c_seq ?_
  refine c_seq ?_
  refine c_reg ?_
  refine sq_p (.bool true) rfl (fun _ => by kernel_rfl) ?_
  refine sq_p (.bool false) rfl (fun _ => by kernel_rfl) ?_
  refine sq_p (.bool false) rfl (fun _ => by kernel_rfl) ?_
  refine sq_p (v) (by kernel_rfl) (fun _ => by kernel_rfl) ?_
  refine sq_q (by kernel_rfl) h (g_lenA 126 (by kernel_rfl) 5 rfl) ?_
  obtain ⟨b1, hb1⟩ : ∃ b_ : Bool, b_ = (decide ((acts.length : Int) > 60)) := ⟨_, rfl⟩
  refine sq_q (v := .bool b1) (by kernel_rfl) h (by subst hb1; exact g_pure (v := .bool (decide ((acts.length : Int) > 60))) fun _ => by kernel_rfl) ?_
  refine sq_p (.bool b1) rfl (fun _ => by kernel_rfl) ?_
  refine lnil ?_
  refine thn_n ?_
  refine c_cond (b1) (by kernel_rfl) (fun hc2 => ?_) (fun hc2 => ?_)
  · skip
    have q3 : (decide ((acts.length : Int) > 60)) = true := by rw [← hb1]; exact hc2
    have q3 := of_decide_eq_true q3
    refine c_seq ?_
    refine c_reg ?_
    refine sq_p (.bool true) rfl (fun _ => by kernel_rfl) ?_
    refine sq_p (.bool true) rfl (fun _ => by kernel_rfl) ?_
    refine lnil ?_
    refine thn_n ?_
    refine c_ret ?_
    refine thn_r ?_
    refine ret_end [.bool true] [5, 5] h (by kernel_rfl) (res_t (by kernel_rfl) res_n) ?_
    exact ⟨rfl, rfl⟩
  · skip
    have q4 : (decide ((acts.length : Int) > 60)) = false := by rw [← hb1]; exact hc2
    have q4 := of_decide_eq_false q4
    refine c_skip ?_
    refine thn_n ?_
    refine c_seq ?_
    refine c_reg ?_
    refine sq_call #[] [] rfl (leaseNew2_spec) (fun _ => by kernel_rfl) h ?_; rintro v_ L_ w ⟨p5, p6, rfl, rfl⟩ h
    refine sq_p (.pointer (some ⟨p5, 0, none⟩)) rfl (fun _ => by kernel_rfl) ?_
    refine lnil ?_
    refine thn_n ?_
    refine c_seq ?_
    refine c_seq ?_
    refine c_reg ?_
    refine sq_p (.pointer (some ⟨p5, 0, none⟩)) rfl (fun _ => by kernel_rfl) ?_
    refine sq_p (.bool false) rfl (fun _ => by kernel_rfl) ?_
    refine lnil ?_
    refine thn_n ?_
    refine c_false (by kernel_rfl) ?_
    refine c_skip ?_
    refine thn_n ?_
    refine c_seq ?_
    refine c_reg ?_
    refine sq_p (.agg #[.slice none 0 0, .int .i64 0, .int .i64 0]) rfl (fun _ => by kernel_rfl) ?_
    refine sq_new rfl (fun b => .pointer (some ⟨b, 0, none⟩)) [.slice none 0 0, .int .i64 0, .int .i64 0] 124 (fun _ => by kernel_rfl) h ?_; intro k7 w h
    refine sq_p (.pointer (some ⟨k7, 0, none⟩)) rfl (fun _ => by kernel_rfl) ?_
    refine lnil ?_
    refine thn_n ?_
    refine c_seq ?_
    refine c_seq ?_
    refine c_reg ?_
    refine sq_p (.int .i64 0) rfl (fun _ => by kernel_rfl) ?_
    refine lnil ?_
    refine thn_n ?_
    refine c_block ?_
    have h := h.nilRows 235 4 rclC
    refine c_loop (X := Nat × List Ls × Int × Int × Value × (Nat → Value)) (fun ⟨n0, lt, la, nw, vm, J0⟩ => ⟨#[v, undef, J0 2, .bool true, .pointer (some ⟨p5, 0, none⟩), .pointer (some ⟨k7, 0, none⟩), .int .i64 (n0 : Int), J0 7, J0 8, J0 9, J0 10, J0 11, J0 12, J0 13, J0 14, J0 15, J0 16, J0 17, J0 18, J0 19, J0 20, J0 21, J0 22, J0 23, J0 24, .bool true, .bool true, .bool false, .bool false, v, .int .i64 (acts.length : Int), .bool b1, .bool b1, undef, .pointer (some ⟨p5, 0, none⟩), .pointer (some ⟨p5, 0, none⟩), .bool false, .agg #[.slice none 0 0, .int .i64 0, .int .i64 0], .pointer (some ⟨k7, 0, none⟩), J0 39, J0 40, J0 41, J0 42, J0 43, J0 44, J0 45, J0 46, J0 47, J0 48, J0 49, J0 50, J0 51, J0 52, J0 53, J0 54, J0 55, J0 56, J0 57, J0 58, J0 59, J0 60, J0 61, J0 62, J0 63, J0 64, J0 65, J0 66, J0 67, J0 68, J0 69, J0 70, J0 71, J0 72, J0 73, J0 74, J0 75, J0 76, J0 77, J0 78, J0 79, J0 80, J0 81, J0 82, J0 83, J0 84, J0 85, J0 86, J0 87, J0 88, J0 89, J0 90, J0 91, J0 92, J0 93, J0 94, J0 95, J0 96, J0 97, J0 98, J0 99, J0 100, J0 101, J0 102, J0 103, J0 104, J0 105, J0 106, J0 107, J0 108, J0 109, J0 110, J0 111, J0 112, J0 113, J0 114, J0 115, J0 116, J0 117, J0 118, J0 119, J0 120, J0 121, J0 122, J0 123, J0 124, J0 125, J0 126, J0 127, J0 128, J0 129, J0 130, J0 131, J0 132, J0 133, J0 134, J0 135, J0 136, J0 137, J0 138, J0 139, J0 140, J0 141, J0 142, J0 143, J0 144, J0 145, J0 146, J0 147, J0 148, J0 149, J0 150, J0 151, J0 152, J0 153, J0 154, J0 155, J0 156, J0 157, J0 158, J0 159, J0 160, J0 161, J0 162, J0 163, J0 164, J0 165, J0 166, J0 167, J0 168, J0 169, J0 170, J0 171, J0 172, J0 173, J0 174, J0 175, J0 176, J0 177, J0 178, J0 179, J0 180, J0 181, J0 182, J0 183, J0 184, J0 185, J0 186, J0 187, J0 188, J0 189, J0 190], []⟩)
      (fun ⟨n0, lt, la, nw, vm, J0⟩ => [rRows true vm 235 4 rclC lt, rCell true k7 [vm, .int .i64 la, .int .i64 nw] 124, rCell true p5 [.map (some p6), .int .i64 la, .int .i64 nw] 227, rMap true p6 ik (lt.map lsKV), rFam true 231 cliC (lt.map lsF), rEnv B ad [4], rEnv B ad [9], rEnv B ad [5], rEnv B ad [3], rEnv B ad [2], rArg v 4 lactC acts, rEnvA B ad]) (fun ⟨n0, lt, la, nw, vm, J0⟩ => n0 ≤ acts.length ∧ LsOk lt la nw ∧ 0 ≤ la ∧ la ≤ n0 ∧ 0 ≤ nw ∧ nw ≤ 1126999418470400) (fun ⟨n0, lt, la, nw, vm, J0⟩ => acts.length - n0)
      ⟨0, [], 0, 0, (.slice none 0 0), (fun n => (#[v, undef, .bool false, .bool true, .pointer (some ⟨p5, 0, none⟩), .pointer (some ⟨k7, 0, none⟩), .int .i64 0, undef, undef, undef, undef, undef, undef, undef, undef, undef, undef, undef, undef, undef, undef, undef, undef, undef, undef, .bool true, .bool true, .bool false, .bool false, v, .int .i64 (acts.length : Int), .bool b1, .bool b1, undef, .pointer (some ⟨p5, 0, none⟩), .pointer (some ⟨p5, 0, none⟩), .bool false, .agg #[.slice none 0 0, .int .i64 0, .int .i64 0], .pointer (some ⟨k7, 0, none⟩), undef, undef, undef, undef, undef, undef, undef, undef, undef, undef, undef, undef, undef, undef, undef, undef, undef, undef, undef, undef, undef, undef, undef, undef, undef, undef, undef, undef, undef, undef, undef, undef, undef, undef, undef, undef, undef, undef, undef, undef, undef, undef, undef, undef, undef, undef, undef, undef, undef, undef, undef, undef, undef, undef, undef, undef, undef, undef, undef, undef, undef, undef, undef, undef, undef, undef, undef, undef, undef, undef, undef, undef, undef, undef, undef, undef, undef, undef, undef, undef, undef, undef, undef, undef, undef, undef, undef, undef, undef, undef, undef, undef, undef, undef, undef, undef, undef, undef, undef, undef, undef, undef, undef, undef, undef, undef, undef, undef, undef, undef, undef, undef, undef, undef, undef, undef, undef, undef, undef, undef, undef, undef, undef, undef, undef, undef, undef, undef, undef, undef, undef, undef, undef, undef, undef, undef, undef, undef, undef, undef, undef, undef, undef, undef, undef, undef, undef, undef, undef, undef, undef, undef] : Array Value).getD n undef)⟩ ⟨by omega, lsOk_nil, by omega, by omega, by omega, by omega⟩ (by kernel_rfl) [0, 0, 0, 0, 0, 0, 0, 0, 0, 0, 0, 0] (by kernel_rfl) h ?_
    rintro ⟨n0, lt, la, nw, vm, J0⟩ w hG h
    obtain ⟨hn0, hk0, hla0, hla, hnw0, hnw⟩ : n0 ≤ acts.length ∧ LsOk lt la nw ∧ 0 ≤ la ∧ la ≤ n0 ∧ 0 ≤ nw ∧ nw ≤ 1126999418470400 := hG
    have hfew0 := hk0.few
    refine c_seq ?_
    refine c_seq ?_
    refine c_reg ?_
    refine sq_p (.int .i64 (n0 : Int)) rfl (fun _ => by kernel_rfl) ?_
    refine sq_p (v) rfl (fun _ => by kernel_rfl) ?_
    refine sq_q rfl h (g_lenA 126 (by kernel_rfl) 10 rfl) ?_
    refine sq_p (.bool (decide ((n0 : Int) < (acts.length : Int)))) rfl (fun _ => by kernel_rfl) ?_
    refine lnil ?_
    refine thn_n ?_
    refine c_cond (decide ((n0 : Int) < (acts.length : Int))) (by kernel_rfl) (fun hc8 => ?_) (fun hc8 => ?_)
    · skip
      have hc8 := of_decide_eq_true hc8
      refine c_skip ?_
      refine thn_n ?_
      refine c_seq ?_
      refine c_block ?_
      refine c_seq ?_
      refine c_reg ?_
      refine sq_p (v) rfl (fun _ => by kernel_rfl) ?_
      refine sq_p (.int .i64 (n0 : Int)) rfl (fun _ => by kernel_rfl) ?_
      have hi9 : n0 < acts.length := by omega
      obtain ⟨x10, hx11⟩ : ∃ x, acts[n0]? = some x := ⟨_, List.getElem?_eq_getElem hi9⟩
      obtain ⟨hs0, hs1, hs2, hs3, hs4, hs5⟩ := hacts _ (List.mem_of_getElem? hx11)
      refine sq_q rfl h (g_idxA 126 n0 (by kernel_rfl) hi9 10 rfl) ?_
      refine sq_q rfl h (g_ldr (b := blkN v) (offN v + n0 * 4) [.string x10.1, .string x10.2.1, .int .i64 x10.2.2.1, .int .i64 x10.2.2.2.1] (.agg #[.string x10.1, .string x10.2.1, .int .i64 x10.2.2.1, .int .i64 x10.2.2.2.1]) (by kernel_rfl) 10 rfl (rdArg0 hx11 (by kernel_rfl))) ?_
      refine sq_new rfl (fun b => .pointer (some ⟨b, 0, none⟩)) [.string (⟨#[]⟩ : ByteArray), .string (⟨#[]⟩ : ByteArray), .int .i64 0, .int .i64 0] 126 (fun _ => by kernel_rfl) h ?_; intro k12 w h
      refine sq_st rfl 0 [.string x10.1, .string x10.2.1, .int .i64 x10.2.2.1, .int .i64 x10.2.2.2.1] [.string x10.1, .string x10.2.1, .int .i64 x10.2.2.1, .int .i64 x10.2.2.2.1] h 0 rfl (by kernel_rfl) ?_; intro w h
      refine lnil ?_
      refine thn_n ?_
      refine c_seq ?_
      refine c_seq ?_
      refine c_reg ?_
      refine sq_p (.pointer (some ⟨k12, 1, none⟩)) rfl (fun _ => by kernel_rfl) ?_
      refine sq_q rfl h (g_ld 1 [.string x10.2.1] (.string x10.2.1) (by kernel_rfl) 0 rfl) ?_
      refine sq_p (.int .i64 (x10.2.1.size : Int)) rfl (fun _ => by kernel_rfl) ?_
      obtain ⟨b13, hb13⟩ : ∃ b_ : Bool, b_ = (decide ((x10.2.1.size : Int) > 100)) := ⟨_, rfl⟩
      refine sq_q (v := .bool b13) rfl h (by subst hb13; exact g_pure (v := .bool (decide ((x10.2.1.size : Int) > 100))) fun _ => by kernel_rfl) ?_
      refine sq_p (.bool b13) rfl (fun _ => by kernel_rfl) ?_
      refine sq_m0 (v := .pointer (some ⟨k7, 0, none⟩)) b13 (by cases b13 <;> kernel_rfl) h (fun hB => by subst hB; exact g_pure (v := .pointer (some ⟨k7, 0, none⟩)) fun _ => by kernel_rfl) ?_
      refine sq_m0 (v := .pointer (some ⟨k7, 0, none⟩)) b13 (by cases b13 <;> kernel_rfl) h (fun hB => by subst hB; exact g_pure (v := .pointer (some ⟨k7, 0, none⟩)) fun _ => by kernel_rfl) ?_
      refine sq_m0 (v := .pointer (some ⟨k7, 2, none⟩)) b13 (by cases b13 <;> kernel_rfl) h (fun hB => by subst hB; exact g_pure (v := .pointer (some ⟨k7, 2, none⟩)) fun _ => by kernel_rfl) ?_
      refine sq_m0 (v := .int .i64 nw) b13 (by cases b13 <;> kernel_rfl) h (fun hB => by subst hB; exact g_ld 2 [.int .i64 nw] (.int .i64 nw) (by kernel_rfl) 2 rfl) ?_
      obtain ⟨b14, hb14⟩ : ∃ b_ : Bool, b_ = (decide (nw > 1125899906842624)) := ⟨_, rfl⟩
      refine sq_m0 (v := .bool b14) b13 (by cases b13 <;> kernel_rfl) h (fun hB => by subst hB; exact by subst hb14; exact g_pure (v := .bool (decide (nw > 1125899906842624))) fun _ => by kernel_rfl) ?_
      obtain ⟨b15, hb15⟩ : ∃ b_ : Bool, b_ = (b13 || b14) := ⟨_, rfl⟩
      refine sq_q (v := .bool b15) rfl h (by subst hb15; exact g_pure (v := .bool (b13 || b14)) fun _ => by cases b13 <;> kernel_rfl) ?_
      refine lnil ?_
      refine thn_n ?_
      refine c_cond (b15) (by kernel_rfl) (fun hc16 => ?_) (fun hc16 => ?_)
      · skip
        have q17 : (b13 || b14) = true := by rw [← hb15]; exact hc16
        have q18 : (((x10.2.1.size : Int) > 100) ∨ (nw > 1125899906842624)) := by subst hb14; subst hb13; revert q17; first | (simp; done) | (simp; omega)
        refine c_seq ?_
        refine c_reg ?_
        refine sq_p (.bool true) rfl (fun _ => by kernel_rfl) ?_
        refine lnil ?_
        refine thn_n ?_
        refine c_ret ?_
        refine thn_r (blk_r (thn_r (rnd_r (blk_r (thn_r ?_)))))
        refine ret_end [.bool true] [11, 11] h (by kernel_rfl) (res_t (by kernel_rfl) res_n) ?_
        exact ⟨rfl, rfl⟩
      · skip
        have q19 : (b13 || b14) = false := by rw [← hb15]; exact hc16
        have q20 : b13 = false := by revert q19; cases b13 <;> simp
        have q21 : b14 = false := by revert q19; cases b13 <;> cases b14 <;> simp
        have q22 : (decide ((x10.2.1.size : Int) > 100)) = false := by rw [← hb13]; exact q20
        have q22 := of_decide_eq_false q22
        have q23 : (decide (nw > 1125899906842624)) = false := by rw [← hb14]; exact q21
        have q23 := of_decide_eq_false q23
        refine c_skip ?_
        refine thn_n ?_
        refine c_seq ?_
        refine c_seq ?_
        refine c_reg ?_
        refine sq_p (.pointer (some ⟨k12, 0, none⟩)) rfl (fun _ => by kernel_rfl) ?_
        refine sq_q rfl h (g_ld 0 [.string x10.1] (.string x10.1) (by kernel_rfl) 0 rfl) ?_
        refine lnil ?_
        refine thn_n ?_
        refine c_block ?_
        refine c_seq ?_
        refine c_reg ?_
        refine sq_q rfl h (g_eq (v := .bool (x10.1.toList == (⟨#[114, 101, 103, 105, 115, 116, 101, 114]⟩ : ByteArray).toList)) (v' := .bool (decide (x10.1 = (⟨#[114, 101, 103, 105, 115, 116, 101, 114]⟩ : ByteArray)))) (g_pure fun _ => by kernel_rfl) beqS) ?_
        refine sq_p (.bool (decide (x10.1 = (⟨#[114, 101, 103, 105, 115, 116, 101, 114]⟩ : ByteArray)))) rfl (fun _ => by kernel_rfl) ?_
        refine lnil ?_
        refine thn_n ?_
        refine c_cond (decide (x10.1 = (⟨#[114, 101, 103, 105, 115, 116, 101, 114]⟩ : ByteArray))) (by kernel_rfl) (fun hc24 => ?_) (fun hc24 => ?_)
        · skip
          have hc24 := of_decide_eq_true hc24
          refine c_seq ?_
          refine c_reg ?_
          refine sq_p (.pointer (some ⟨p5, 0, none⟩)) rfl (fun _ => by kernel_rfl) ?_
          refine sq_p (.pointer (some ⟨k12, 1, none⟩)) rfl (fun _ => by kernel_rfl) ?_
          refine sq_q rfl h (g_ld 1 [.string x10.2.1] (.string x10.2.1) (by kernel_rfl) 0 rfl) ?_
          refine sq_p (.pointer (some ⟨k12, 3, none⟩)) rfl (fun _ => by kernel_rfl) ?_
          refine sq_q rfl h (g_ld 3 [.int .i64 x10.2.2.2.1] (.int .i64 x10.2.2.2.1) (by kernel_rfl) 0 rfl) ?_
          refine sq_call #[.pointer (some ⟨p5, 0, none⟩), .string x10.2.1, .int .i64 x10.2.2.2.1] [3, 3, 3, 3, 3] rfl (register_spec ad p5 p6 lt la nw hk0 (by omega) (by omega) x10.2.1 x10.2.2.2.1 (by omega)) (fun _ => by kernel_rfl) h ?_; rintro v_ L_ w (⟨hq25, rfl, rfl⟩ | ⟨hq26, ks27, hks28, hl29, hh30, rfl, rfl⟩ | ⟨hq31, hf32, bk33, rfl, rfl⟩) h
          · skip
            refine sq_p (.tuple #[.int .i64 0, .int .i64 0, errV ad 4]) rfl (fun _ => by kernel_rfl) ?_
            refine sq_p (.int .i64 0) rfl (fun _ => by kernel_rfl) ?_
            refine sq_p (.int .i64 0) rfl (fun _ => by kernel_rfl) ?_
            refine sq_p (errV ad 4) rfl (fun _ => by kernel_rfl) ?_
            refine sq_p (.int .i64 0) rfl (fun _ => by kernel_rfl) ?_
            refine sq_p (.int .i64 0) rfl (fun _ => by kernel_rfl) ?_
            refine sq_p (errV ad 4) rfl (fun _ => by kernel_rfl) ?_
            refine lnil ?_
            refine thn_n ?_
            refine c_seq ?_
            refine c_reg ?_
            refine sq_p (.pointer (some ⟨k7, 0, none⟩)) rfl (fun _ => by kernel_rfl) ?_
            refine sq_p (.pointer (some ⟨k12, 1, none⟩)) rfl (fun _ => by kernel_rfl) ?_
            refine sq_q rfl h (g_ld 1 [.string x10.2.1] (.string x10.2.1) (by kernel_rfl) 5 rfl) ?_
            refine sq_call #[.pointer (some ⟨k7, 0, none⟩), .string x10.2.1] [7, 6] rfl (rregister_spec k7 vm lt la nw hk0 (by omega) (by omega) x10.2.1 (by omega) 0 0) (fun _ => by kernel_rfl) h ?_; rintro v_ L_ w (⟨hq34, rfl, rfl⟩ | ⟨hq35, ks36, hks37, hl38, hh39, rfl, rfl⟩ | ⟨hq40, hf41, v42, rfl, rfl⟩) h
            · skip
              refine sq_p (.tuple #[.int .i64 0, .int .i64 4]) rfl (fun _ => by kernel_rfl) ?_
              refine sq_p (.int .i64 0) rfl (fun _ => by kernel_rfl) ?_
              refine sq_p (.int .i64 4) rfl (fun _ => by kernel_rfl) ?_
              refine sq_p (.int .i64 0) rfl (fun _ => by kernel_rfl) ?_
              refine sq_p (.int .i64 4) rfl (fun _ => by kernel_rfl) ?_
              refine lnil ?_
              refine thn_n ?_
              refine c_seq ?_
              refine c_reg ?_
              refine sq_p (errV ad 4) rfl (fun _ => by kernel_rfl) ?_
              refine sq_p (.int .i64 4) rfl (fun _ => by kernel_rfl) ?_
              refine sq_call #[errV ad 4, .int .i64 4] [12] rfl (coded2_spec ad 4 4 (by decide) rfl) (fun _ => by kernel_rfl) h ?_; rintro v_ L_ w ⟨rfl, rfl⟩ h
              refine sq_p (.bool false) rfl (fun _ => by kernel_rfl) ?_
              refine sq_p (.bool false) rfl (fun _ => by kernel_rfl) ?_
              refine sq_p (.int .i64 0) (by kernel_rfl) (fun _ => by kernel_rfl) ?_
              refine sq_p (.int .i64 0) (by kernel_rfl) (fun _ => by kernel_rfl) ?_
              refine sq_p (.bool false) (by kernel_rfl) (fun _ => by kernel_rfl) ?_
              refine sq_p (.bool false) rfl (fun _ => by kernel_rfl) ?_
              refine sq_p (.bool false) rfl (fun _ => by kernel_rfl) ?_
              refine sq_p (.int .i64 0) (by kernel_rfl) (fun _ => by kernel_rfl) ?_
              refine sq_p (.int .i64 0) (by kernel_rfl) (fun _ => by kernel_rfl) ?_
              refine sq_p (.bool false) (by kernel_rfl) (fun _ => by kernel_rfl) ?_
              refine sq_p (.bool false) rfl (fun _ => by kernel_rfl) ?_
              refine lnil ?_
              refine thn_n ?_
              refine c_false (by kernel_rfl) ?_
              refine c_skip ?_
              refine blk_n (thn_n ?_)
              refine c_seq ?_
              refine c_reg ?_
              refine sq_p (.pointer (some ⟨p5, 0, none⟩)) rfl (fun _ => by kernel_rfl) ?_
              refine sq_call #[.pointer (some ⟨p5, 0, none⟩)] [3, 3, 3] rfl (list_spec p5 p6 lt la nw hk0 (by omega) (by omega)) (fun _ => by kernel_rfl) h ?_; rintro v43 L_ w ⟨_, rfl, rfl⟩ h
              refine sq_p (.pointer (some ⟨k7, 0, none⟩)) rfl (fun _ => by kernel_rfl) ?_
              refine sq_call #[.pointer (some ⟨k7, 0, none⟩)] [5, 5] rfl (rlist_spec k7 vm lt la nw hk0 (by omega) (by omega)) (fun _ => by kernel_rfl) h ?_; rintro v44 L_ w ⟨_, rfl, rfl⟩ h
              have hokk : LsOk lt la nw := hk0
              have hsl : (lsIds lt).length ≤ 1000 := by have h1 := ids_len lt; have h2 := hokk.few; omega
              refine sq_call #[v43, v44] [3, 0] rfl (sameInts_spec v43 v44 (lsIds lt) hsl) (fun _ => by kernel_rfl) h ?_; rintro v_ L_ w ⟨rfl, rfl⟩ h
              refine sq_p (.bool false) rfl (fun _ => by kernel_rfl) ?_
              refine lnil ?_
              refine thn_n ?_
              refine c_false (by kernel_rfl) ?_
              refine c_skip ?_
              refine blk_n (thn_n ?_)
              refine c_reg ?_
              refine sq_p (.int .i64 (n0 : Int)) rfl (fun _ => by kernel_rfl) ?_
              refine sq_q rfl h (g_eq (v := .int .i64 (IntKind.i64.wrap ((n0 : Int) + 1))) (v' := .int .i64 ((n0 + 1 : Nat) : Int)) (g_pure fun _ => by kernel_rfl) (wr (by omega))) ?_
              refine sq_p (.int .i64 ((n0 + 1 : Nat) : Int)) rfl (fun _ => by kernel_rfl) ?_
              refine lnil ?_
              refine loop_end (fun j => ⟨(n0 + 1), lt, la, nw, vm, j⟩) (show ((n0 + 1) ≤ acts.length ∧ LsOk lt la nw ∧ 0 ≤ la ∧ la ≤ (n0 + 1) ∧ 0 ≤ nw ∧ nw ≤ 1126999418470400) ∧ (acts.length - (n0 + 1)) < (acts.length - n0) from ⟨⟨by omega, hk0, by omega, by omega, by omega, by omega⟩, by omega⟩) (by kernel_rfl) [3, 2, 2, 2, 2, 3, 3, 4, 4, 4, 4, 2] (by kernel_rfl) h
            · skip
              exact absurd hq35 hq25
            · skip
              exact absurd hq40 hq25
          · skip
            refine sq_p (.tuple #[.int .i64 0, .int .i64 0, errV ad 9]) rfl (fun _ => by kernel_rfl) ?_
            refine sq_p (.int .i64 0) rfl (fun _ => by kernel_rfl) ?_
            refine sq_p (.int .i64 0) rfl (fun _ => by kernel_rfl) ?_
            refine sq_p (errV ad 9) rfl (fun _ => by kernel_rfl) ?_
            refine sq_p (.int .i64 0) rfl (fun _ => by kernel_rfl) ?_
            refine sq_p (.int .i64 0) rfl (fun _ => by kernel_rfl) ?_
            refine sq_p (errV ad 9) rfl (fun _ => by kernel_rfl) ?_
            refine lnil ?_
            refine thn_n ?_
            refine c_seq ?_
            refine c_reg ?_
            refine sq_p (.pointer (some ⟨k7, 0, none⟩)) rfl (fun _ => by kernel_rfl) ?_
            refine sq_p (.pointer (some ⟨k12, 1, none⟩)) rfl (fun _ => by kernel_rfl) ?_
            refine sq_q rfl h (g_ld 1 [.string x10.2.1] (.string x10.2.1) (by kernel_rfl) 5 rfl) ?_
            refine sq_call #[.pointer (some ⟨k7, 0, none⟩), .string x10.2.1] [7, 6] rfl (rregister_spec k7 vm lt la nw hk0 (by omega) (by omega) x10.2.1 (by omega) 0 0) (fun _ => by kernel_rfl) h ?_; rintro v_ L_ w (⟨hq45, rfl, rfl⟩ | ⟨hq46, ks47, hks48, hl49, hh50, rfl, rfl⟩ | ⟨hq51, hf52, v53, rfl, rfl⟩) h
            · skip
              exact absurd hq26 hq45
            · skip
              refine sq_p (.tuple #[.int .i64 0, .int .i64 9]) rfl (fun _ => by kernel_rfl) ?_
              refine sq_p (.int .i64 0) rfl (fun _ => by kernel_rfl) ?_
              refine sq_p (.int .i64 9) rfl (fun _ => by kernel_rfl) ?_
              refine sq_p (.int .i64 0) rfl (fun _ => by kernel_rfl) ?_
              refine sq_p (.int .i64 9) rfl (fun _ => by kernel_rfl) ?_
              refine lnil ?_
              refine thn_n ?_
              refine c_seq ?_
              refine c_reg ?_
              refine sq_p (errV ad 9) rfl (fun _ => by kernel_rfl) ?_
              refine sq_p (.int .i64 9) rfl (fun _ => by kernel_rfl) ?_
              refine sq_call #[errV ad 9, .int .i64 9] [12] rfl (coded2_spec ad 9 9 (by decide) rfl) (fun _ => by kernel_rfl) h ?_; rintro v_ L_ w ⟨rfl, rfl⟩ h
              refine sq_p (.bool false) rfl (fun _ => by kernel_rfl) ?_
              refine sq_p (.bool false) rfl (fun _ => by kernel_rfl) ?_
              refine sq_p (.int .i64 0) (by kernel_rfl) (fun _ => by kernel_rfl) ?_
              refine sq_p (.int .i64 0) (by kernel_rfl) (fun _ => by kernel_rfl) ?_
              refine sq_p (.bool false) (by kernel_rfl) (fun _ => by kernel_rfl) ?_
              refine sq_p (.bool false) rfl (fun _ => by kernel_rfl) ?_
              refine sq_p (.bool false) rfl (fun _ => by kernel_rfl) ?_
              refine sq_p (.int .i64 0) (by kernel_rfl) (fun _ => by kernel_rfl) ?_
              refine sq_p (.int .i64 0) (by kernel_rfl) (fun _ => by kernel_rfl) ?_
              refine sq_p (.bool false) (by kernel_rfl) (fun _ => by kernel_rfl) ?_
              refine sq_p (.bool false) rfl (fun _ => by kernel_rfl) ?_
              refine lnil ?_
              refine thn_n ?_
              refine c_false (by kernel_rfl) ?_
              refine c_skip ?_
              refine blk_n (thn_n ?_)
              refine c_seq ?_
              refine c_reg ?_
              refine sq_p (.pointer (some ⟨p5, 0, none⟩)) rfl (fun _ => by kernel_rfl) ?_
              refine sq_call #[.pointer (some ⟨p5, 0, none⟩)] [3, 3, 3] rfl (list_spec p5 p6 lt la nw hk0 (by omega) (by omega)) (fun _ => by kernel_rfl) h ?_; rintro v54 L_ w ⟨_, rfl, rfl⟩ h
              refine sq_p (.pointer (some ⟨k7, 0, none⟩)) rfl (fun _ => by kernel_rfl) ?_
              refine sq_call #[.pointer (some ⟨k7, 0, none⟩)] [5, 5] rfl (rlist_spec k7 vm lt la nw hk0 (by omega) (by omega)) (fun _ => by kernel_rfl) h ?_; rintro v55 L_ w ⟨_, rfl, rfl⟩ h
              have hokk : LsOk lt la nw := hk0
              have hsl : (lsIds lt).length ≤ 1000 := by have h1 := ids_len lt; have h2 := hokk.few; omega
              refine sq_call #[v54, v55] [3, 0] rfl (sameInts_spec v54 v55 (lsIds lt) hsl) (fun _ => by kernel_rfl) h ?_; rintro v_ L_ w ⟨rfl, rfl⟩ h
              refine sq_p (.bool false) rfl (fun _ => by kernel_rfl) ?_
              refine lnil ?_
              refine thn_n ?_
              refine c_false (by kernel_rfl) ?_
              refine c_skip ?_
              refine blk_n (thn_n ?_)
              refine c_reg ?_
              refine sq_p (.int .i64 (n0 : Int)) rfl (fun _ => by kernel_rfl) ?_
              refine sq_q rfl h (g_eq (v := .int .i64 (IntKind.i64.wrap ((n0 : Int) + 1))) (v' := .int .i64 ((n0 + 1 : Nat) : Int)) (g_pure fun _ => by kernel_rfl) (wr (by omega))) ?_
              refine sq_p (.int .i64 ((n0 + 1 : Nat) : Int)) rfl (fun _ => by kernel_rfl) ?_
              refine lnil ?_
              refine loop_end (fun j => ⟨(n0 + 1), lt, la, nw, vm, j⟩) (show ((n0 + 1) ≤ acts.length ∧ LsOk lt la nw ∧ 0 ≤ la ∧ la ≤ (n0 + 1) ∧ 0 ≤ nw ∧ nw ≤ 1126999418470400) ∧ (acts.length - (n0 + 1)) < (acts.length - n0) from ⟨⟨by omega, hk0, by omega, by omega, by omega, by omega⟩, by omega⟩) (by kernel_rfl) [3, 2, 2, 2, 2, 3, 3, 4, 4, 4, 4, 2] (by kernel_rfl) h
            · skip
              have := hf52 _ hks28 hh30
              exfalso; omega
          · skip
            refine sq_p (.tuple #[.int .i64 (la + 1), .int .i64 (la + 1), .nilIface]) rfl (fun _ => by kernel_rfl) ?_
            refine sq_p (.int .i64 (la + 1)) rfl (fun _ => by kernel_rfl) ?_
            refine sq_p (.int .i64 (la + 1)) rfl (fun _ => by kernel_rfl) ?_
            refine sq_p (.nilIface) rfl (fun _ => by kernel_rfl) ?_
            refine sq_p (.int .i64 (la + 1)) rfl (fun _ => by kernel_rfl) ?_
            refine sq_p (.int .i64 (la + 1)) rfl (fun _ => by kernel_rfl) ?_
            refine sq_p (.nilIface) rfl (fun _ => by kernel_rfl) ?_
            refine lnil ?_
            refine thn_n ?_
            refine c_seq ?_
            refine c_reg ?_
            refine sq_p (.pointer (some ⟨k7, 0, none⟩)) rfl (fun _ => by kernel_rfl) ?_
            refine sq_p (.pointer (some ⟨k12, 1, none⟩)) rfl (fun _ => by kernel_rfl) ?_
            refine sq_q rfl h (g_ld 1 [.string x10.2.1] (.string x10.2.1) (by kernel_rfl) 5 rfl) ?_
            refine sq_call #[.pointer (some ⟨k7, 0, none⟩), .string x10.2.1] [7, 6] rfl (rregister_spec k7 vm lt la nw hk0 (by omega) (by omega) x10.2.1 (by omega) x10.2.2.2.1 bk33) (fun _ => by kernel_rfl) h ?_; rintro v_ L_ w (⟨hq56, rfl, rfl⟩ | ⟨hq57, ks58, hks59, hl60, hh61, rfl, rfl⟩ | ⟨hq62, hf63, v64, rfl, rfl⟩) h
            · skip
              exact absurd hq31 hq56
            · skip
              have := hf32 _ hks59 hh61
              exfalso; omega
            · skip
              refine sq_p (.tuple #[.int .i64 (la + 1), .int .i64 0]) rfl (fun _ => by kernel_rfl) ?_
              refine sq_p (.int .i64 (la + 1)) rfl (fun _ => by kernel_rfl) ?_
              refine sq_p (.int .i64 0) rfl (fun _ => by kernel_rfl) ?_
              refine sq_p (.int .i64 (la + 1)) rfl (fun _ => by kernel_rfl) ?_
              refine sq_p (.int .i64 0) rfl (fun _ => by kernel_rfl) ?_
              refine lnil ?_
              refine thn_n ?_
              refine c_seq ?_
              refine c_reg ?_
              refine sq_p (.nilIface) rfl (fun _ => by kernel_rfl) ?_
              refine sq_p (.int .i64 0) rfl (fun _ => by kernel_rfl) ?_
              refine sq_call #[.nilIface, .int .i64 0] [12] rfl (coded2_spec ad 0 0 (by decide) rfl) (fun _ => by kernel_rfl) h ?_; rintro v_ L_ w ⟨rfl, rfl⟩ h
              refine sq_p (.bool false) rfl (fun _ => by kernel_rfl) ?_
              refine sq_p (.bool false) rfl (fun _ => by kernel_rfl) ?_
              refine sq_p (.int .i64 (la + 1)) (by kernel_rfl) (fun _ => by kernel_rfl) ?_
              refine sq_p (.int .i64 (la + 1)) (by kernel_rfl) (fun _ => by kernel_rfl) ?_
              obtain ⟨b65, hb65⟩ : ∃ b_ : Bool, b_ = (!(decide (la + 1 = la + 1))) := ⟨_, rfl⟩
              refine sq_q (v := .bool b65) (by kernel_rfl) h (by subst hb65; exact g_pure (v := .bool (!(decide (la + 1 = la + 1)))) fun _ => by kernel_rfl) ?_
              refine sq_p (.bool b65) rfl (fun _ => by kernel_rfl) ?_
              refine sq_p (.bool b65) rfl (fun _ => by kernel_rfl) ?_
              refine sq_m0 (v := .int .i64 (la + 1)) b65 (by cases b65 <;> kernel_rfl) h (fun hB => by subst hB; exact g_pure (v := .int .i64 (la + 1)) fun _ => by kernel_rfl) ?_
              refine sq_m0 (v := .int .i64 (la + 1)) b65 (by cases b65 <;> kernel_rfl) h (fun hB => by subst hB; exact g_pure (v := .int .i64 (la + 1)) fun _ => by kernel_rfl) ?_
              obtain ⟨b66, hb66⟩ : ∃ b_ : Bool, b_ = (!(decide (la + 1 = la + 1))) := ⟨_, rfl⟩
              refine sq_m0 (v := .bool b66) b65 (by cases b65 <;> kernel_rfl) h (fun hB => by subst hB; exact by subst hb66; exact g_pure (v := .bool (!(decide (la + 1 = la + 1)))) fun _ => by kernel_rfl) ?_
              obtain ⟨b67, hb67⟩ : ∃ b_ : Bool, b_ = (b65 || b66) := ⟨_, rfl⟩
              refine sq_q (v := .bool b67) rfl h (by subst hb67; exact g_pure (v := .bool (b65 || b66)) fun _ => by cases b65 <;> kernel_rfl) ?_
              refine lnil ?_
              refine thn_n ?_
              refine c_cond (b67) (by kernel_rfl) (fun hc68 => ?_) (fun hc68 => ?_)
              · skip
                have q69 : (b65 || b66) = true := by rw [← hb67]; exact hc68
                exfalso; revert hc68; subst hb67; subst hb66; subst hb65; simp
              · skip
                have q70 : (b65 || b66) = false := by rw [← hb67]; exact hc68
                have q71 : b65 = false := by revert q70; cases b65 <;> simp
                have q72 : b66 = false := by revert q70; cases b65 <;> cases b66 <;> simp
                have q73 : (!(decide (la + 1 = la + 1))) = false := by rw [← hb65]; exact q71
                have q74 : (decide (la + 1 = la + 1)) = true := by simpa using q73
                have q74 := of_decide_eq_true q74
                have q75 : (!(decide (la + 1 = la + 1))) = false := by rw [← hb66]; exact q72
                have q76 : (decide (la + 1 = la + 1)) = true := by simpa using q75
                have q76 := of_decide_eq_true q76
                refine c_skip ?_
                refine blk_n (thn_n ?_)
                refine c_seq ?_
                refine c_reg ?_
                refine sq_p (.pointer (some ⟨p5, 0, none⟩)) rfl (fun _ => by kernel_rfl) ?_
                refine sq_call #[.pointer (some ⟨p5, 0, none⟩)] [3, 3, 3] rfl (list_spec p5 p6 (regL lt x10.2.1 x10.2.2.2.1 la bk33) (la + 1) nw (hk0.reg _ _ _) (by omega) (by omega)) (fun _ => by kernel_rfl) h ?_; rintro v77 L_ w ⟨_, rfl, rfl⟩ h
                refine sq_p (.pointer (some ⟨k7, 0, none⟩)) rfl (fun _ => by kernel_rfl) ?_
                refine sq_call #[.pointer (some ⟨k7, 0, none⟩)] [5, 5] rfl (rlist_spec k7 v64 (regL lt x10.2.1 x10.2.2.2.1 la bk33) (la + 1) nw (hk0.reg _ _ _) (by omega) (by omega)) (fun _ => by kernel_rfl) h ?_; rintro v78 L_ w ⟨_, rfl, rfl⟩ h
                have hokk : LsOk (regL lt x10.2.1 x10.2.2.2.1 la bk33) (la + 1) nw := (hk0.reg _ _ _)
                have hsl : (lsIds (regL lt x10.2.1 x10.2.2.2.1 la bk33)).length ≤ 1000 := by have h1 := ids_len (regL lt x10.2.1 x10.2.2.2.1 la bk33); have h2 := hokk.few; omega
                refine sq_call #[v77, v78] [3, 0] rfl (sameInts_spec v77 v78 (lsIds (regL lt x10.2.1 x10.2.2.2.1 la bk33)) hsl) (fun _ => by kernel_rfl) h ?_; rintro v_ L_ w ⟨rfl, rfl⟩ h
                refine sq_p (.bool false) rfl (fun _ => by kernel_rfl) ?_
                refine lnil ?_
                refine thn_n ?_
                refine c_false (by kernel_rfl) ?_
                refine c_skip ?_
                refine blk_n (thn_n ?_)
                refine c_reg ?_
                refine sq_p (.int .i64 (n0 : Int)) rfl (fun _ => by kernel_rfl) ?_
                refine sq_q rfl h (g_eq (v := .int .i64 (IntKind.i64.wrap ((n0 : Int) + 1))) (v' := .int .i64 ((n0 + 1 : Nat) : Int)) (g_pure fun _ => by kernel_rfl) (wr (by omega))) ?_
                refine sq_p (.int .i64 ((n0 + 1 : Nat) : Int)) rfl (fun _ => by kernel_rfl) ?_
                refine lnil ?_
                refine loop_end (fun j => ⟨(n0 + 1), (regL lt x10.2.1 x10.2.2.2.1 la bk33), (la + 1), nw, v64, j⟩) (show ((n0 + 1) ≤ acts.length ∧ LsOk (regL lt x10.2.1 x10.2.2.2.1 la bk33) (la + 1) nw ∧ 0 ≤ (la + 1) ∧ (la + 1) ≤ (n0 + 1) ∧ 0 ≤ nw ∧ nw ≤ 1126999418470400) ∧ (acts.length - (n0 + 1)) < (acts.length - n0) from ⟨⟨by omega, (hk0.reg _ _ _), by omega, by omega, by omega, by omega⟩, by omega⟩) (by kernel_rfl) [3, 2, 2, 2, 2, 3, 3, 4, 4, 4, 4, 2] (by kernel_rfl) h
        · skip
          have hc24 := of_decide_eq_false hc24
          refine c_seq ?_
          refine c_reg ?_
          refine sq_q rfl h (g_eq (v := .bool (x10.1.toList == (⟨#[99, 111, 110, 102, 105, 114, 109]⟩ : ByteArray).toList)) (v' := .bool (decide (x10.1 = (⟨#[99, 111, 110, 102, 105, 114, 109]⟩ : ByteArray)))) (g_pure fun _ => by kernel_rfl) beqS) ?_
          refine sq_p (.bool (decide (x10.1 = (⟨#[99, 111, 110, 102, 105, 114, 109]⟩ : ByteArray)))) rfl (fun _ => by kernel_rfl) ?_
          refine lnil ?_
          refine thn_n ?_
          refine c_cond (decide (x10.1 = (⟨#[99, 111, 110, 102, 105, 114, 109]⟩ : ByteArray))) (by kernel_rfl) (fun hc79 => ?_) (fun hc79 => ?_)
          · skip
            have hc79 := of_decide_eq_true hc79
            refine c_seq ?_
            refine c_reg ?_
            refine sq_p (.pointer (some ⟨p5, 0, none⟩)) rfl (fun _ => by kernel_rfl) ?_
            refine sq_p (.pointer (some ⟨k12, 2, none⟩)) rfl (fun _ => by kernel_rfl) ?_
            refine sq_q rfl h (g_ld 2 [.int .i64 x10.2.2.1] (.int .i64 x10.2.2.1) (by kernel_rfl) 0 rfl) ?_
            refine sq_p (.pointer (some ⟨k12, 3, none⟩)) rfl (fun _ => by kernel_rfl) ?_
            refine sq_q rfl h (g_ld 3 [.int .i64 x10.2.2.2.1] (.int .i64 x10.2.2.2.1) (by kernel_rfl) 0 rfl) ?_
            refine sq_call #[.pointer (some ⟨p5, 0, none⟩), .int .i64 x10.2.2.1, .int .i64 x10.2.2.2.1] [3, 3, 3, 5, 5] rfl (confirm_spec ad p5 p6 lt la nw hk0 (by omega) (by omega) x10.2.2.1 x10.2.2.2.1) (fun _ => by kernel_rfl) h ?_; rintro v_ L_ w (⟨hn80, rfl, rfl⟩ | ⟨j81, e82, hj83, hi84, hk85, rfl, rfl⟩ | ⟨j86, e87, hj88, hi89, hk90, rfl, rfl⟩) h
            · skip
              refine sq_p (.tuple #[.int .i64 0, errV ad 5]) rfl (fun _ => by kernel_rfl) ?_
              refine sq_p (.int .i64 0) rfl (fun _ => by kernel_rfl) ?_
              refine sq_p (errV ad 5) rfl (fun _ => by kernel_rfl) ?_
              refine sq_p (.int .i64 0) rfl (fun _ => by kernel_rfl) ?_
              refine sq_p (errV ad 5) rfl (fun _ => by kernel_rfl) ?_
              refine lnil ?_
              refine thn_n ?_
              refine c_seq ?_
              refine c_reg ?_
              refine sq_p (.pointer (some ⟨k7, 0, none⟩)) rfl (fun _ => by kernel_rfl) ?_
              refine sq_p (.pointer (some ⟨k12, 2, none⟩)) rfl (fun _ => by kernel_rfl) ?_
              refine sq_q rfl h (g_ld 2 [.int .i64 x10.2.2.1] (.int .i64 x10.2.2.1) (by kernel_rfl) 5 rfl) ?_
              refine sq_p (.pointer (some ⟨k12, 3, none⟩)) rfl (fun _ => by kernel_rfl) ?_
              refine sq_q rfl h (g_ld 3 [.int .i64 x10.2.2.2.1] (.int .i64 x10.2.2.2.1) (by kernel_rfl) 5 rfl) ?_
              refine sq_call #[.pointer (some ⟨k7, 0, none⟩), .int .i64 x10.2.2.1, .int .i64 x10.2.2.2.1] [7, 6] rfl (rconfirm_spec k7 vm lt la nw hk0 (by omega) (by omega) x10.2.2.1 x10.2.2.2.1) (fun _ => by kernel_rfl) h ?_; rintro v_ L_ w (⟨hn91, rfl, rfl⟩ | ⟨j92, e93, hj94, hi95, hk96, rfl, rfl⟩ | ⟨j97, e98, hj99, hi100, hk101, v102, rfl, rfl⟩) h
              · skip
                refine sq_p (.tuple #[.int .i64 0, .int .i64 5]) rfl (fun _ => by kernel_rfl) ?_
                refine sq_p (.int .i64 0) rfl (fun _ => by kernel_rfl) ?_
                refine sq_p (.int .i64 5) rfl (fun _ => by kernel_rfl) ?_
                refine sq_p (.int .i64 0) rfl (fun _ => by kernel_rfl) ?_
                refine sq_p (.int .i64 5) rfl (fun _ => by kernel_rfl) ?_
                refine lnil ?_
                refine thn_n ?_
                refine c_seq ?_
                refine c_reg ?_
                refine sq_p (errV ad 5) rfl (fun _ => by kernel_rfl) ?_
                refine sq_p (.int .i64 5) rfl (fun _ => by kernel_rfl) ?_
                refine sq_call #[errV ad 5, .int .i64 5] [12] rfl (coded2_spec ad 5 5 (by decide) rfl) (fun _ => by kernel_rfl) h ?_; rintro v_ L_ w ⟨rfl, rfl⟩ h
                refine sq_p (.bool false) rfl (fun _ => by kernel_rfl) ?_
                refine sq_p (.bool false) rfl (fun _ => by kernel_rfl) ?_
                refine sq_p (.int .i64 0) (by kernel_rfl) (fun _ => by kernel_rfl) ?_
                refine sq_p (.int .i64 0) (by kernel_rfl) (fun _ => by kernel_rfl) ?_
                refine sq_p (.bool false) (by kernel_rfl) (fun _ => by kernel_rfl) ?_
                refine sq_p (.bool false) rfl (fun _ => by kernel_rfl) ?_
                refine lnil ?_
                refine thn_n ?_
                refine c_false (by kernel_rfl) ?_
                refine c_skip ?_
                refine blk_n (thn_n ?_)
                refine c_seq ?_
                refine c_reg ?_
                refine sq_p (.pointer (some ⟨p5, 0, none⟩)) rfl (fun _ => by kernel_rfl) ?_
                refine sq_call #[.pointer (some ⟨p5, 0, none⟩)] [3, 3, 3] rfl (list_spec p5 p6 lt la nw hk0 (by omega) (by omega)) (fun _ => by kernel_rfl) h ?_; rintro v103 L_ w ⟨_, rfl, rfl⟩ h
                refine sq_p (.pointer (some ⟨k7, 0, none⟩)) rfl (fun _ => by kernel_rfl) ?_
                refine sq_call #[.pointer (some ⟨k7, 0, none⟩)] [5, 5] rfl (rlist_spec k7 vm lt la nw hk0 (by omega) (by omega)) (fun _ => by kernel_rfl) h ?_; rintro v104 L_ w ⟨_, rfl, rfl⟩ h
                have hokk : LsOk lt la nw := hk0
                have hsl : (lsIds lt).length ≤ 1000 := by have h1 := ids_len lt; have h2 := hokk.few; omega
                refine sq_call #[v103, v104] [3, 0] rfl (sameInts_spec v103 v104 (lsIds lt) hsl) (fun _ => by kernel_rfl) h ?_; rintro v_ L_ w ⟨rfl, rfl⟩ h
                refine sq_p (.bool false) rfl (fun _ => by kernel_rfl) ?_
                refine lnil ?_
                refine thn_n ?_
                refine c_false (by kernel_rfl) ?_
                refine c_skip ?_
                refine blk_n (thn_n ?_)
                refine c_reg ?_
                refine sq_p (.int .i64 (n0 : Int)) rfl (fun _ => by kernel_rfl) ?_
                refine sq_q rfl h (g_eq (v := .int .i64 (IntKind.i64.wrap ((n0 : Int) + 1))) (v' := .int .i64 ((n0 + 1 : Nat) : Int)) (g_pure fun _ => by kernel_rfl) (wr (by omega))) ?_
                refine sq_p (.int .i64 ((n0 + 1 : Nat) : Int)) rfl (fun _ => by kernel_rfl) ?_
                refine lnil ?_
                refine loop_end (fun j => ⟨(n0 + 1), lt, la, nw, vm, j⟩) (show ((n0 + 1) ≤ acts.length ∧ LsOk lt la nw ∧ 0 ≤ la ∧ la ≤ (n0 + 1) ∧ 0 ≤ nw ∧ nw ≤ 1126999418470400) ∧ (acts.length - (n0 + 1)) < (acts.length - n0) from ⟨⟨by omega, hk0, by omega, by omega, by omega, by omega⟩, by omega⟩) (by kernel_rfl) [3, 2, 2, 2, 2, 6, 6, 3, 3, 4, 4, 2] (by kernel_rfl) h
              · skip
                exact absurd hi95 (hn80 _ (List.mem_of_getElem? hj94))
              · skip
                exact absurd hi100 (hn80 _ (List.mem_of_getElem? hj99))
            · skip
              refine sq_p (.tuple #[.int .i64 0, errV ad 3]) rfl (fun _ => by kernel_rfl) ?_
              refine sq_p (.int .i64 0) rfl (fun _ => by kernel_rfl) ?_
              refine sq_p (errV ad 3) rfl (fun _ => by kernel_rfl) ?_
              refine sq_p (.int .i64 0) rfl (fun _ => by kernel_rfl) ?_
              refine sq_p (errV ad 3) rfl (fun _ => by kernel_rfl) ?_
              refine lnil ?_
              refine thn_n ?_
              refine c_seq ?_
              refine c_reg ?_
              refine sq_p (.pointer (some ⟨k7, 0, none⟩)) rfl (fun _ => by kernel_rfl) ?_
              refine sq_p (.pointer (some ⟨k12, 2, none⟩)) rfl (fun _ => by kernel_rfl) ?_
              refine sq_q rfl h (g_ld 2 [.int .i64 x10.2.2.1] (.int .i64 x10.2.2.1) (by kernel_rfl) 5 rfl) ?_
              refine sq_p (.pointer (some ⟨k12, 3, none⟩)) rfl (fun _ => by kernel_rfl) ?_
              refine sq_q rfl h (g_ld 3 [.int .i64 x10.2.2.2.1] (.int .i64 x10.2.2.2.1) (by kernel_rfl) 5 rfl) ?_
              refine sq_call #[.pointer (some ⟨k7, 0, none⟩), .int .i64 x10.2.2.1, .int .i64 x10.2.2.2.1] [7, 6] rfl (rconfirm_spec k7 vm lt la nw hk0 (by omega) (by omega) x10.2.2.1 x10.2.2.2.1) (fun _ => by kernel_rfl) h ?_; rintro v_ L_ w (⟨hn105, rfl, rfl⟩ | ⟨j106, e107, hj108, hi109, hk110, rfl, rfl⟩ | ⟨j111, e112, hj113, hi114, hk115, v116, rfl, rfl⟩) h
              · skip
                exact absurd hi84 (hn105 _ (List.mem_of_getElem? hj83))
              · skip
                refine sq_p (.tuple #[.int .i64 0, .int .i64 3]) rfl (fun _ => by kernel_rfl) ?_
                refine sq_p (.int .i64 0) rfl (fun _ => by kernel_rfl) ?_
                refine sq_p (.int .i64 3) rfl (fun _ => by kernel_rfl) ?_
                refine sq_p (.int .i64 0) rfl (fun _ => by kernel_rfl) ?_
                refine sq_p (.int .i64 3) rfl (fun _ => by kernel_rfl) ?_
                refine lnil ?_
                refine thn_n ?_
                refine c_seq ?_
                refine c_reg ?_
                refine sq_p (errV ad 3) rfl (fun _ => by kernel_rfl) ?_
                refine sq_p (.int .i64 3) rfl (fun _ => by kernel_rfl) ?_
                refine sq_call #[errV ad 3, .int .i64 3] [12] rfl (coded2_spec ad 3 3 (by decide) rfl) (fun _ => by kernel_rfl) h ?_; rintro v_ L_ w ⟨rfl, rfl⟩ h
                refine sq_p (.bool false) rfl (fun _ => by kernel_rfl) ?_
                refine sq_p (.bool false) rfl (fun _ => by kernel_rfl) ?_
                refine sq_p (.int .i64 0) (by kernel_rfl) (fun _ => by kernel_rfl) ?_
                refine sq_p (.int .i64 0) (by kernel_rfl) (fun _ => by kernel_rfl) ?_
                refine sq_p (.bool false) (by kernel_rfl) (fun _ => by kernel_rfl) ?_
                refine sq_p (.bool false) rfl (fun _ => by kernel_rfl) ?_
                refine lnil ?_
                refine thn_n ?_
                refine c_false (by kernel_rfl) ?_
                refine c_skip ?_
                refine blk_n (thn_n ?_)
                refine c_seq ?_
                refine c_reg ?_
                refine sq_p (.pointer (some ⟨p5, 0, none⟩)) rfl (fun _ => by kernel_rfl) ?_
                refine sq_call #[.pointer (some ⟨p5, 0, none⟩)] [3, 3, 3] rfl (list_spec p5 p6 lt la nw hk0 (by omega) (by omega)) (fun _ => by kernel_rfl) h ?_; rintro v117 L_ w ⟨_, rfl, rfl⟩ h
                refine sq_p (.pointer (some ⟨k7, 0, none⟩)) rfl (fun _ => by kernel_rfl) ?_
                refine sq_call #[.pointer (some ⟨k7, 0, none⟩)] [5, 5] rfl (rlist_spec k7 vm lt la nw hk0 (by omega) (by omega)) (fun _ => by kernel_rfl) h ?_; rintro v118 L_ w ⟨_, rfl, rfl⟩ h
                have hokk : LsOk lt la nw := hk0
                have hsl : (lsIds lt).length ≤ 1000 := by have h1 := ids_len lt; have h2 := hokk.few; omega
                refine sq_call #[v117, v118] [3, 0] rfl (sameInts_spec v117 v118 (lsIds lt) hsl) (fun _ => by kernel_rfl) h ?_; rintro v_ L_ w ⟨rfl, rfl⟩ h
                refine sq_p (.bool false) rfl (fun _ => by kernel_rfl) ?_
                refine lnil ?_
                refine thn_n ?_
                refine c_false (by kernel_rfl) ?_
                refine c_skip ?_
                refine blk_n (thn_n ?_)
                refine c_reg ?_
                refine sq_p (.int .i64 (n0 : Int)) rfl (fun _ => by kernel_rfl) ?_
                refine sq_q rfl h (g_eq (v := .int .i64 (IntKind.i64.wrap ((n0 : Int) + 1))) (v' := .int .i64 ((n0 + 1 : Nat) : Int)) (g_pure fun _ => by kernel_rfl) (wr (by omega))) ?_
                refine sq_p (.int .i64 ((n0 + 1 : Nat) : Int)) rfl (fun _ => by kernel_rfl) ?_
                refine lnil ?_
                refine loop_end (fun j => ⟨(n0 + 1), lt, la, nw, vm, j⟩) (show ((n0 + 1) ≤ acts.length ∧ LsOk lt la nw ∧ 0 ≤ la ∧ la ≤ (n0 + 1) ∧ 0 ≤ nw ∧ nw ≤ 1126999418470400) ∧ (acts.length - (n0 + 1)) < (acts.length - n0) from ⟨⟨by omega, hk0, by omega, by omega, by omega, by omega⟩, by omega⟩) (by kernel_rfl) [3, 2, 2, 2, 2, 6, 6, 3, 3, 4, 4, 2] (by kernel_rfl) h
              · skip
                exact absurd hk115 hk85
            · skip
              refine sq_p (.tuple #[.int .i64 (confG lt e87), .nilIface]) rfl (fun _ => by kernel_rfl) ?_
              refine sq_p (.int .i64 (confG lt e87)) rfl (fun _ => by kernel_rfl) ?_
              refine sq_p (.nilIface) rfl (fun _ => by kernel_rfl) ?_
              refine sq_p (.int .i64 (confG lt e87)) rfl (fun _ => by kernel_rfl) ?_
              refine sq_p (.nilIface) rfl (fun _ => by kernel_rfl) ?_
              refine lnil ?_
              refine thn_n ?_
              refine c_seq ?_
              refine c_reg ?_
              refine sq_p (.pointer (some ⟨k7, 0, none⟩)) rfl (fun _ => by kernel_rfl) ?_
              refine sq_p (.pointer (some ⟨k12, 2, none⟩)) rfl (fun _ => by kernel_rfl) ?_
              refine sq_q rfl h (g_ld 2 [.int .i64 x10.2.2.1] (.int .i64 x10.2.2.1) (by kernel_rfl) 5 rfl) ?_
              refine sq_p (.pointer (some ⟨k12, 3, none⟩)) rfl (fun _ => by kernel_rfl) ?_
              refine sq_q rfl h (g_ld 3 [.int .i64 x10.2.2.2.1] (.int .i64 x10.2.2.2.1) (by kernel_rfl) 5 rfl) ?_
              refine sq_call #[.pointer (some ⟨k7, 0, none⟩), .int .i64 x10.2.2.1, .int .i64 x10.2.2.2.1] [7, 6] rfl (rconfirm_spec k7 vm lt la nw hk0 (by omega) (by omega) x10.2.2.1 x10.2.2.2.1) (fun _ => by kernel_rfl) h ?_; rintro v_ L_ w (⟨hn119, rfl, rfl⟩ | ⟨j120, e121, hj122, hi123, hk124, rfl, rfl⟩ | ⟨j125, e126, hj127, hi128, hk129, v130, rfl, rfl⟩) h
              · skip
                exact absurd hi89 (hn119 _ (List.mem_of_getElem? hj88))
              · skip
                exact absurd hk90 hk124
              · skip
                obtain rfl : j86 = j125 := ls_at hk0.sorted hj88 hj127 (hi89.trans hi128.symm)
                rw [hj88] at hj127; cases hj127
                refine sq_p (.tuple #[.int .i64 (confG lt e87), .int .i64 0]) rfl (fun _ => by kernel_rfl) ?_
                refine sq_p (.int .i64 (confG lt e87)) rfl (fun _ => by kernel_rfl) ?_
                refine sq_p (.int .i64 0) rfl (fun _ => by kernel_rfl) ?_
                refine sq_p (.int .i64 (confG lt e87)) rfl (fun _ => by kernel_rfl) ?_
                refine sq_p (.int .i64 0) rfl (fun _ => by kernel_rfl) ?_
                refine lnil ?_
                refine thn_n ?_
                refine c_seq ?_
                refine c_reg ?_
                refine sq_p (.nilIface) rfl (fun _ => by kernel_rfl) ?_
                refine sq_p (.int .i64 0) rfl (fun _ => by kernel_rfl) ?_
                refine sq_call #[.nilIface, .int .i64 0] [12] rfl (coded2_spec ad 0 0 (by decide) rfl) (fun _ => by kernel_rfl) h ?_; rintro v_ L_ w ⟨rfl, rfl⟩ h
                refine sq_p (.bool false) rfl (fun _ => by kernel_rfl) ?_
                refine sq_p (.bool false) rfl (fun _ => by kernel_rfl) ?_
                refine sq_p (.int .i64 (confG lt e87)) (by kernel_rfl) (fun _ => by kernel_rfl) ?_
                refine sq_p (.int .i64 (confG lt e87)) (by kernel_rfl) (fun _ => by kernel_rfl) ?_
                obtain ⟨b131, hb131⟩ : ∃ b_ : Bool, b_ = (!(decide (confG lt e87 = confG lt e87))) := ⟨_, rfl⟩
                refine sq_q (v := .bool b131) (by kernel_rfl) h (by subst hb131; exact g_pure (v := .bool (!(decide (confG lt e87 = confG lt e87)))) fun _ => by kernel_rfl) ?_
                refine sq_p (.bool b131) rfl (fun _ => by kernel_rfl) ?_
                refine lnil ?_
                refine thn_n ?_
                refine c_cond (b131) (by kernel_rfl) (fun hc132 => ?_) (fun hc132 => ?_)
                · skip
                  have q133 : (!(decide (confG lt e87 = confG lt e87))) = true := by rw [← hb131]; exact hc132
                  have q134 : (decide (confG lt e87 = confG lt e87)) = false := by simpa using q133
                  have q134 := of_decide_eq_false q134
                  exfalso; revert hc132; subst hb131; simp
                · skip
                  have q135 : (!(decide (confG lt e87 = confG lt e87))) = false := by rw [← hb131]; exact hc132
                  have q136 : (decide (confG lt e87 = confG lt e87)) = true := by simpa using q135
                  have q136 := of_decide_eq_true q136
                  refine c_skip ?_
                  refine blk_n (thn_n ?_)
                  refine c_seq ?_
                  refine c_reg ?_
                  refine sq_p (.pointer (some ⟨p5, 0, none⟩)) rfl (fun _ => by kernel_rfl) ?_
                  refine sq_call #[.pointer (some ⟨p5, 0, none⟩)] [3, 3, 3] rfl (list_spec p5 p6 (confL lt j86 e87 nw) la nw (hk0.conf hj88) (by omega) (by omega)) (fun _ => by kernel_rfl) h ?_; rintro v137 L_ w ⟨_, rfl, rfl⟩ h
                  refine sq_p (.pointer (some ⟨k7, 0, none⟩)) rfl (fun _ => by kernel_rfl) ?_
                  refine sq_call #[.pointer (some ⟨k7, 0, none⟩)] [5, 5] rfl (rlist_spec k7 v130 (confL lt j86 e87 nw) la nw (hk0.conf hj88) (by omega) (by omega)) (fun _ => by kernel_rfl) h ?_; rintro v138 L_ w ⟨_, rfl, rfl⟩ h
                  have hokk : LsOk (confL lt j86 e87 nw) la nw := (hk0.conf hj88)
                  have hsl : (lsIds (confL lt j86 e87 nw)).length ≤ 1000 := by have h1 := ids_len (confL lt j86 e87 nw); have h2 := hokk.few; omega
                  refine sq_call #[v137, v138] [3, 0] rfl (sameInts_spec v137 v138 (lsIds (confL lt j86 e87 nw)) hsl) (fun _ => by kernel_rfl) h ?_; rintro v_ L_ w ⟨rfl, rfl⟩ h
                  refine sq_p (.bool false) rfl (fun _ => by kernel_rfl) ?_
                  refine lnil ?_
                  refine thn_n ?_
                  refine c_false (by kernel_rfl) ?_
                  refine c_skip ?_
                  refine blk_n (thn_n ?_)
                  refine c_reg ?_
                  refine sq_p (.int .i64 (n0 : Int)) rfl (fun _ => by kernel_rfl) ?_
                  refine sq_q rfl h (g_eq (v := .int .i64 (IntKind.i64.wrap ((n0 : Int) + 1))) (v' := .int .i64 ((n0 + 1 : Nat) : Int)) (g_pure fun _ => by kernel_rfl) (wr (by omega))) ?_
                  refine sq_p (.int .i64 ((n0 + 1 : Nat) : Int)) rfl (fun _ => by kernel_rfl) ?_
                  refine lnil ?_
                  refine loop_end (fun j => ⟨(n0 + 1), (confL lt j86 e87 nw), la, nw, v130, j⟩) (show ((n0 + 1) ≤ acts.length ∧ LsOk (confL lt j86 e87 nw) la nw ∧ 0 ≤ la ∧ la ≤ (n0 + 1) ∧ 0 ≤ nw ∧ nw ≤ 1126999418470400) ∧ (acts.length - (n0 + 1)) < (acts.length - n0) from ⟨⟨by omega, (hk0.conf hj88), by omega, by omega, by omega, by omega⟩, by omega⟩) (by kernel_rfl) [3, 2, 2, 2, 2, 6, 6, 3, 3, 4, 4, 2] (by kernel_rfl) h
          · skip
            have hc79 := of_decide_eq_false hc79
            refine c_seq ?_
            refine c_reg ?_
            refine sq_q rfl h (g_eq (v := .bool (x10.1.toList == (⟨#[114, 101, 110, 101, 119]⟩ : ByteArray).toList)) (v' := .bool (decide (x10.1 = (⟨#[114, 101, 110, 101, 119]⟩ : ByteArray)))) (g_pure fun _ => by kernel_rfl) beqS) ?_
            refine sq_p (.bool (decide (x10.1 = (⟨#[114, 101, 110, 101, 119]⟩ : ByteArray)))) rfl (fun _ => by kernel_rfl) ?_
            refine lnil ?_
            refine thn_n ?_
            refine c_cond (decide (x10.1 = (⟨#[114, 101, 110, 101, 119]⟩ : ByteArray))) (by kernel_rfl) (fun hc139 => ?_) (fun hc139 => ?_)
            · skip
              have hc139 := of_decide_eq_true hc139
              refine c_seq ?_
              refine d_start 10 [0] (by kernel_rfl) h fun w h => ?_
              refine d_take 0 118 [0] rfl (v := .pointer (some ⟨p5, 0, none⟩)) (by kernel_rfl) (qp_thn (qp_blk (qp_thn (qp_blk (qp_thn (qp_rnd (qp_blk (qp_thn qp_body)))))))) (yq (by kernel_rfl) (g_pure (v := .pointer (some ⟨p5, 0, none⟩)) fun _ => by kernel_rfl)) h (by kernel_rfl) ?_
              refine d_take 1 113 [0] rfl (v := .pointer (some ⟨k12, 2, none⟩)) (by kernel_rfl) (qp_thn (qp_blk (qp_thn (qp_blk (qp_thn (qp_rnd (qp_blk (qp_thn qp_body)))))))) (yq (by kernel_rfl) (g_pure (v := .pointer (some ⟨k12, 2, none⟩)) fun _ => by kernel_rfl)) h (by kernel_rfl) ?_
              refine d_take 2 115 [0] rfl (v := .int .i64 x10.2.2.1) (by kernel_rfl) (qp_thn (qp_blk (qp_thn (qp_blk (qp_thn (qp_rnd (qp_blk (qp_thn qp_body)))))))) (yq (by kernel_rfl) (g_ld 2 [.int .i64 x10.2.2.1] (.int .i64 x10.2.2.1) (by kernel_rfl) 0 rfl)) h (by kernel_rfl) ?_
              refine d_take 4 111 [0] rfl (v := .pointer (some ⟨k7, 0, none⟩)) (by kernel_rfl) (qp_thn (qp_blk (qp_thn (qp_blk (qp_thn (qp_rnd (qp_blk (qp_thn qp_body)))))))) (yq (by kernel_rfl) (g_pure (v := .pointer (some ⟨k7, 0, none⟩)) fun _ => by kernel_rfl)) h (by kernel_rfl) ?_
              refine d_take 5 31 [0] rfl (v := .pointer (some ⟨k12, 2, none⟩)) (by kernel_rfl) (qp_thn (qp_blk (qp_thn (qp_blk (qp_thn (qp_rnd (qp_blk (qp_thn qp_body)))))))) (yq (by kernel_rfl) (g_pure (v := .pointer (some ⟨k12, 2, none⟩)) fun _ => by kernel_rfl)) h (by kernel_rfl) ?_
              refine d_take 6 63 [0] rfl (v := .int .i64 x10.2.2.1) (by kernel_rfl) (qp_thn (qp_blk (qp_thn (qp_blk (qp_thn (qp_rnd (qp_blk (qp_thn qp_body)))))))) (yq (by kernel_rfl) (g_ld 2 [.int .i64 x10.2.2.1] (.int .i64 x10.2.2.1) (by kernel_rfl) 0 rfl)) h (by kernel_rfl) ?_
              refine d_ready [3] (by kernel_rfl) rfl ?_
              refine ad_call #[.pointer (some ⟨p5, 0, none⟩), .int .i64 x10.2.2.1] [3, 3, 3, 5] [4] rfl (by kernel_rfl) (renew_spec ad p5 p6 lt la nw hk0 (by omega) (by omega) x10.2.2.1) (fun _ => by kernel_rfl) h ?_ ?_
              · skip
                rintro v_ L_ w (⟨j141, e142, hj143, hi144, hc145, rfl, rfl⟩ | ⟨hn140, rfl, rfl⟩) h
                · skip
                  refine ⟨by kernel_rfl, ?_⟩
                  refine d_ready [7] (by kernel_rfl) rfl ?_
                  refine ad_call #[.pointer (some ⟨k7, 0, none⟩), .int .i64 x10.2.2.1] [6, 5] [6] rfl (by kernel_rfl) (rrenew_spec k7 vm lt la nw hk0 (by omega) (by omega) x10.2.2.1) (fun _ => by kernel_rfl) h ?_ ?_
                  · skip
                    rintro v_ L_ w (⟨j147, e148, hj149, hi150, hc151, v152, rfl, rfl⟩ | ⟨hn146, rfl, rfl⟩) h
                    · skip
                      refine ⟨by kernel_rfl, ?_⟩
                      obtain rfl : j141 = j147 := ls_at hk0.sorted hj143 hj149 (hi144.trans hi150.symm)
                      rw [hj143] at hj149; cases hj149
                      refine d_ready [8] (by kernel_rfl) rfl ?_
                      refine ad_call #[.nilIface, .int .i64 0] [12] [7] rfl (by kernel_rfl) (coded2_spec ad 0 0 (by decide) rfl) (fun _ => by kernel_rfl) h ?_ ?_
                      · skip
                        rintro v_ L_ w ⟨rfl, rfl⟩ h
                        refine ⟨by kernel_rfl, ?_⟩
                        refine d_take 9 511 [7] rfl (v := .bool false) (by kernel_rfl) (qp_thn (qp_blk (qp_thn (qp_blk (qp_thn (qp_rnd (qp_blk (qp_thn qp_body)))))))) (yq (by kernel_rfl) (g_pure (v := .bool false) fun _ => by kernel_rfl)) h (by kernel_rfl) ?_
                        refine d_done (by kernel_rfl) ?_
                        refine thn_n ?_
                        refine c_false (by kernel_rfl) ?_
                        refine c_skip ?_
                        refine blk_n (thn_n ?_)
                        refine c_seq ?_
                        refine c_reg ?_
                        refine sq_p (.pointer (some ⟨p5, 0, none⟩)) rfl (fun _ => by kernel_rfl) ?_
                        refine sq_call #[.pointer (some ⟨p5, 0, none⟩)] [3, 3, 3] rfl (list_spec p5 p6 (lt.set j141 (lsSet e142 true nw)) la nw (hk0.ren hj143 hc145) (by omega) (by omega)) (fun _ => by kernel_rfl) h ?_; rintro v153 L_ w ⟨_, rfl, rfl⟩ h
                        refine sq_p (.pointer (some ⟨k7, 0, none⟩)) rfl (fun _ => by kernel_rfl) ?_
                        refine sq_call #[.pointer (some ⟨k7, 0, none⟩)] [5, 5] rfl (rlist_spec k7 v152 (lt.set j141 (lsSet e142 true nw)) la nw (hk0.ren hj143 hc145) (by omega) (by omega)) (fun _ => by kernel_rfl) h ?_; rintro v154 L_ w ⟨_, rfl, rfl⟩ h
                        have hokk : LsOk (lt.set j141 (lsSet e142 true nw)) la nw := (hk0.ren hj143 hc145)
                        have hsl : (lsIds (lt.set j141 (lsSet e142 true nw))).length ≤ 1000 := by have h1 := ids_len (lt.set j141 (lsSet e142 true nw)); have h2 := hokk.few; omega
                        refine sq_call #[v153, v154] [3, 0] rfl (sameInts_spec v153 v154 (lsIds (lt.set j141 (lsSet e142 true nw))) hsl) (fun _ => by kernel_rfl) h ?_; rintro v_ L_ w ⟨rfl, rfl⟩ h
                        refine sq_p (.bool false) rfl (fun _ => by kernel_rfl) ?_
                        refine lnil ?_
                        refine thn_n ?_
                        refine c_false (by kernel_rfl) ?_
                        refine c_skip ?_
                        refine blk_n (thn_n ?_)
                        refine c_reg ?_
                        refine sq_p (.int .i64 (n0 : Int)) rfl (fun _ => by kernel_rfl) ?_
                        refine sq_q rfl h (g_eq (v := .int .i64 (IntKind.i64.wrap ((n0 : Int) + 1))) (v' := .int .i64 ((n0 + 1 : Nat) : Int)) (g_pure fun _ => by kernel_rfl) (wr (by omega))) ?_
                        refine sq_p (.int .i64 ((n0 + 1 : Nat) : Int)) rfl (fun _ => by kernel_rfl) ?_
                        refine lnil ?_
                        refine loop_end (fun j => ⟨(n0 + 1), (lt.set j141 (lsSet e142 true nw)), la, nw, v152, j⟩) (show ((n0 + 1) ≤ acts.length ∧ LsOk (lt.set j141 (lsSet e142 true nw)) la nw ∧ 0 ≤ la ∧ la ≤ (n0 + 1) ∧ 0 ≤ nw ∧ nw ≤ 1126999418470400) ∧ (acts.length - (n0 + 1)) < (acts.length - n0) from ⟨⟨by omega, (hk0.ren hj143 hc145), by omega, by omega, by omega, by omega⟩, by omega⟩) (by kernel_rfl) [3, 2, 2, 2, 2, 5, 5, 3, 4, 4, 4, 2] (by kernel_rfl) h
                      exact ad_nil
                    · skip
                      refine ⟨by kernel_rfl, ?_⟩
                      exact absurd ⟨hi144, hc145⟩ (hn146 _ (List.mem_of_getElem? hj143))
                  exact ad_nil
                · skip
                  refine ⟨by kernel_rfl, ?_⟩
                  refine d_ready [7] (by kernel_rfl) rfl ?_
                  refine ad_call #[.pointer (some ⟨k7, 0, none⟩), .int .i64 x10.2.2.1] [6, 5] [6] rfl (by kernel_rfl) (rrenew_spec k7 vm lt la nw hk0 (by omega) (by omega) x10.2.2.1) (fun _ => by kernel_rfl) h ?_ ?_
                  · skip
                    rintro v_ L_ w (⟨j156, e157, hj158, hi159, hc160, v161, rfl, rfl⟩ | ⟨hn155, rfl, rfl⟩) h
                    · skip
                      refine ⟨by kernel_rfl, ?_⟩
                      exact absurd ⟨hi159, hc160⟩ (hn140 _ (List.mem_of_getElem? hj158))
                    · skip
                      refine ⟨by kernel_rfl, ?_⟩
                      refine d_ready [8] (by kernel_rfl) rfl ?_
                      refine ad_call #[errV ad 5, .int .i64 5] [12] [7] rfl (by kernel_rfl) (coded2_spec ad 5 5 (by decide) rfl) (fun _ => by kernel_rfl) h ?_ ?_
                      · skip
                        rintro v_ L_ w ⟨rfl, rfl⟩ h
                        refine ⟨by kernel_rfl, ?_⟩
                        refine d_take 9 511 [7] rfl (v := .bool false) (by kernel_rfl) (qp_thn (qp_blk (qp_thn (qp_blk (qp_thn (qp_rnd (qp_blk (qp_thn qp_body)))))))) (yq (by kernel_rfl) (g_pure (v := .bool false) fun _ => by kernel_rfl)) h (by kernel_rfl) ?_
                        refine d_done (by kernel_rfl) ?_
                        refine thn_n ?_
                        refine c_false (by kernel_rfl) ?_
                        refine c_skip ?_
                        refine blk_n (thn_n ?_)
                        refine c_seq ?_
                        refine c_reg ?_
                        refine sq_p (.pointer (some ⟨p5, 0, none⟩)) rfl (fun _ => by kernel_rfl) ?_
                        refine sq_call #[.pointer (some ⟨p5, 0, none⟩)] [3, 3, 3] rfl (list_spec p5 p6 lt la nw hk0 (by omega) (by omega)) (fun _ => by kernel_rfl) h ?_; rintro v162 L_ w ⟨_, rfl, rfl⟩ h
                        refine sq_p (.pointer (some ⟨k7, 0, none⟩)) rfl (fun _ => by kernel_rfl) ?_
                        refine sq_call #[.pointer (some ⟨k7, 0, none⟩)] [5, 5] rfl (rlist_spec k7 vm lt la nw hk0 (by omega) (by omega)) (fun _ => by kernel_rfl) h ?_; rintro v163 L_ w ⟨_, rfl, rfl⟩ h
                        have hokk : LsOk lt la nw := hk0
                        have hsl : (lsIds lt).length ≤ 1000 := by have h1 := ids_len lt; have h2 := hokk.few; omega
                        refine sq_call #[v162, v163] [3, 0] rfl (sameInts_spec v162 v163 (lsIds lt) hsl) (fun _ => by kernel_rfl) h ?_; rintro v_ L_ w ⟨rfl, rfl⟩ h
                        refine sq_p (.bool false) rfl (fun _ => by kernel_rfl) ?_
                        refine lnil ?_
                        refine thn_n ?_
                        refine c_false (by kernel_rfl) ?_
                        refine c_skip ?_
                        refine blk_n (thn_n ?_)
                        refine c_reg ?_
                        refine sq_p (.int .i64 (n0 : Int)) rfl (fun _ => by kernel_rfl) ?_
                        refine sq_q rfl h (g_eq (v := .int .i64 (IntKind.i64.wrap ((n0 : Int) + 1))) (v' := .int .i64 ((n0 + 1 : Nat) : Int)) (g_pure fun _ => by kernel_rfl) (wr (by omega))) ?_
                        refine sq_p (.int .i64 ((n0 + 1 : Nat) : Int)) rfl (fun _ => by kernel_rfl) ?_
                        refine lnil ?_
                        refine loop_end (fun j => ⟨(n0 + 1), lt, la, nw, vm, j⟩) (show ((n0 + 1) ≤ acts.length ∧ LsOk lt la nw ∧ 0 ≤ la ∧ la ≤ (n0 + 1) ∧ 0 ≤ nw ∧ nw ≤ 1126999418470400) ∧ (acts.length - (n0 + 1)) < (acts.length - n0) from ⟨⟨by omega, hk0, by omega, by omega, by omega, by omega⟩, by omega⟩) (by kernel_rfl) [3, 2, 2, 2, 2, 5, 5, 3, 4, 4, 4, 2] (by kernel_rfl) h
                      exact ad_nil
                  exact ad_nil
              exact ad_nil
            · skip
              have hc139 := of_decide_eq_false hc139
              refine c_seq ?_
              refine c_reg ?_
              refine sq_q rfl h (g_eq (v := .bool (x10.1.toList == (⟨#[116, 105, 99, 107]⟩ : ByteArray).toList)) (v' := .bool (decide (x10.1 = (⟨#[116, 105, 99, 107]⟩ : ByteArray)))) (g_pure fun _ => by kernel_rfl) beqS) ?_
              refine sq_p (.bool (decide (x10.1 = (⟨#[116, 105, 99, 107]⟩ : ByteArray)))) rfl (fun _ => by kernel_rfl) ?_
              refine lnil ?_
              refine thn_n ?_
              refine c_cond (decide (x10.1 = (⟨#[116, 105, 99, 107]⟩ : ByteArray))) (by kernel_rfl) (fun hc164 => ?_) (fun hc164 => ?_)
              · skip
                have hc164 := of_decide_eq_true hc164
                refine c_seq ?_
                refine c_reg ?_
                refine sq_p (.pointer (some ⟨p5, 0, none⟩)) rfl (fun _ => by kernel_rfl) ?_
                refine sq_p (.pointer (some ⟨k12, 3, none⟩)) rfl (fun _ => by kernel_rfl) ?_
                refine sq_q rfl h (g_ld 3 [.int .i64 x10.2.2.2.1] (.int .i64 x10.2.2.2.1) (by kernel_rfl) 0 rfl) ?_
                refine sq_call #[.pointer (some ⟨p5, 0, none⟩), .int .i64 x10.2.2.2.1] [3, 3, 3, 7] rfl (tick_spec ad p5 p6 lt la nw hk0 (by omega) (by omega) x10.2.2.2.1) (fun _ => by kernel_rfl) h ?_; rintro v_ L_ w (⟨hn165, hn166, v167, rfl, rfl⟩ | ⟨hb168, rfl, rfl⟩) h
                · skip
                  refine sq_p (.tuple #[v167, .nilIface]) rfl (fun _ => by kernel_rfl) ?_
                  refine sq_p (v167) rfl (fun _ => by kernel_rfl) ?_
                  refine sq_p (.nilIface) rfl (fun _ => by kernel_rfl) ?_
                  refine sq_p (v167) rfl (fun _ => by kernel_rfl) ?_
                  refine sq_p (.nilIface) rfl (fun _ => by kernel_rfl) ?_
                  refine lnil ?_
                  refine thn_n ?_
                  refine c_seq ?_
                  refine c_reg ?_
                  refine sq_p (.pointer (some ⟨k7, 0, none⟩)) rfl (fun _ => by kernel_rfl) ?_
                  refine sq_p (.pointer (some ⟨k12, 3, none⟩)) rfl (fun _ => by kernel_rfl) ?_
                  refine sq_q rfl h (g_ld 3 [.int .i64 x10.2.2.2.1] (.int .i64 x10.2.2.2.1) (by kernel_rfl) 5 rfl) ?_
                  refine sq_call #[.pointer (some ⟨k7, 0, none⟩), .int .i64 x10.2.2.2.1] [7, 6] rfl (rtick_spec k7 vm lt la nw hk0 (by omega) (by omega) x10.2.2.2.1) (fun _ => by kernel_rfl) h ?_; rintro v_ L_ w (⟨hn169, hn170, v171, v172, rfl, rfl⟩ | ⟨hb173, rfl, rfl⟩) h
                  · skip
                    refine sq_p (.tuple #[v171, .int .i64 0]) rfl (fun _ => by kernel_rfl) ?_
                    refine sq_p (v171) rfl (fun _ => by kernel_rfl) ?_
                    refine sq_p (.int .i64 0) rfl (fun _ => by kernel_rfl) ?_
                    refine sq_p (v171) rfl (fun _ => by kernel_rfl) ?_
                    refine sq_p (.int .i64 0) rfl (fun _ => by kernel_rfl) ?_
                    refine lnil ?_
                    refine thn_n ?_
                    refine c_seq ?_
                    refine c_reg ?_
                    refine sq_p (.nilIface) rfl (fun _ => by kernel_rfl) ?_
                    refine sq_p (.int .i64 0) rfl (fun _ => by kernel_rfl) ?_
                    refine sq_call #[.nilIface, .int .i64 0] [14] rfl (coded2_spec ad 0 0 (by decide) rfl) (fun _ => by kernel_rfl) h ?_; rintro v_ L_ w ⟨rfl, rfl⟩ h
                    refine sq_p (.bool false) rfl (fun _ => by kernel_rfl) ?_
                    refine sq_p (.bool false) rfl (fun _ => by kernel_rfl) ?_
                    refine sq_p (v167) (by kernel_rfl) (fun _ => by kernel_rfl) ?_
                    refine sq_p (v171) (by kernel_rfl) (fun _ => by kernel_rfl) ?_
                    have hsl : (tickG lt (nw + x10.2.2.2.1)).length ≤ 1000 := by have h1 := tickG_len lt (nw + x10.2.2.2.1); omega
                    refine sq_call #[v167, v171] [4, 1] (by kernel_rfl) (sameInts_spec v167 v171 (tickG lt (nw + x10.2.2.2.1)) hsl) (fun _ => by kernel_rfl) h ?_; rintro v_ L_ w ⟨rfl, rfl⟩ h
                    refine sq_p (.bool false) (by kernel_rfl) (fun _ => by kernel_rfl) ?_
                    refine sq_p (.bool false) rfl (fun _ => by kernel_rfl) ?_
                    refine lnil ?_
                    refine thn_n ?_
                    refine c_false (by kernel_rfl) ?_
                    refine c_skip ?_
                    refine blk_n (thn_n ?_)
                    refine c_seq ?_
                    refine c_reg ?_
                    refine sq_p (.pointer (some ⟨p5, 0, none⟩)) rfl (fun _ => by kernel_rfl) ?_
                    refine sq_call #[.pointer (some ⟨p5, 0, none⟩)] [5, 5, 5] rfl (list_spec p5 p6 (tickL lt (nw + x10.2.2.2.1)) la (nw + x10.2.2.2.1) (hk0.tick hn165) (by omega) (by omega)) (fun _ => by kernel_rfl) h ?_; rintro v174 L_ w ⟨_, rfl, rfl⟩ h
                    refine sq_p (.pointer (some ⟨k7, 0, none⟩)) rfl (fun _ => by kernel_rfl) ?_
                    refine sq_call #[.pointer (some ⟨k7, 0, none⟩)] [7, 7] rfl (rlist_spec k7 v172 (tickL lt (nw + x10.2.2.2.1)) la (nw + x10.2.2.2.1) (hk0.tick hn165) (by omega) (by omega)) (fun _ => by kernel_rfl) h ?_; rintro v175 L_ w ⟨_, rfl, rfl⟩ h
                    have hokk : LsOk (tickL lt (nw + x10.2.2.2.1)) la (nw + x10.2.2.2.1) := (hk0.tick hn165)
                    have hsl : (lsIds (tickL lt (nw + x10.2.2.2.1))).length ≤ 1000 := by have h1 := ids_len (tickL lt (nw + x10.2.2.2.1)); have h2 := hokk.few; omega
                    refine sq_call #[v174, v175] [3, 0] rfl (sameInts_spec v174 v175 (lsIds (tickL lt (nw + x10.2.2.2.1))) hsl) (fun _ => by kernel_rfl) h ?_; rintro v_ L_ w ⟨rfl, rfl⟩ h
                    refine sq_p (.bool false) rfl (fun _ => by kernel_rfl) ?_
                    refine lnil ?_
                    refine thn_n ?_
                    refine c_false (by kernel_rfl) ?_
                    refine c_skip ?_
                    refine blk_n (thn_n ?_)
                    refine c_reg ?_
                    refine sq_p (.int .i64 (n0 : Int)) rfl (fun _ => by kernel_rfl) ?_
                    refine sq_q rfl h (g_eq (v := .int .i64 (IntKind.i64.wrap ((n0 : Int) + 1))) (v' := .int .i64 ((n0 + 1 : Nat) : Int)) (g_pure fun _ => by kernel_rfl) (wr (by omega))) ?_
                    refine sq_p (.int .i64 ((n0 + 1 : Nat) : Int)) rfl (fun _ => by kernel_rfl) ?_
                    refine lnil ?_
                    refine loop_end (fun j => ⟨(n0 + 1), (tickL lt (nw + x10.2.2.2.1)), la, (nw + x10.2.2.2.1), v172, j⟩) (show ((n0 + 1) ≤ acts.length ∧ LsOk (tickL lt (nw + x10.2.2.2.1)) la (nw + x10.2.2.2.1) ∧ 0 ≤ la ∧ la ≤ (n0 + 1) ∧ 0 ≤ (nw + x10.2.2.2.1) ∧ (nw + x10.2.2.2.1) ≤ 1126999418470400) ∧ (acts.length - (n0 + 1)) < (acts.length - n0) from ⟨⟨by omega, (hk0.tick hn165), by omega, by omega, by omega, by omega⟩, by omega⟩) (by kernel_rfl) [3, 2, 2, 2, 2, 7, 7, 7, 7, 5, 6, 4] (by kernel_rfl) h
                  · skip
                    exfalso; omega
                · skip
                  refine sq_p (.tuple #[.slice none 0 0, errV ad 2]) rfl (fun _ => by kernel_rfl) ?_
                  refine sq_p (.slice none 0 0) rfl (fun _ => by kernel_rfl) ?_
                  refine sq_p (errV ad 2) rfl (fun _ => by kernel_rfl) ?_
                  refine sq_p (.slice none 0 0) rfl (fun _ => by kernel_rfl) ?_
                  refine sq_p (errV ad 2) rfl (fun _ => by kernel_rfl) ?_
                  refine lnil ?_
                  refine thn_n ?_
                  refine c_seq ?_
                  refine c_reg ?_
                  refine sq_p (.pointer (some ⟨k7, 0, none⟩)) rfl (fun _ => by kernel_rfl) ?_
                  refine sq_p (.pointer (some ⟨k12, 3, none⟩)) rfl (fun _ => by kernel_rfl) ?_
                  refine sq_q rfl h (g_ld 3 [.int .i64 x10.2.2.2.1] (.int .i64 x10.2.2.2.1) (by kernel_rfl) 4 rfl) ?_
                  refine sq_call #[.pointer (some ⟨k7, 0, none⟩), .int .i64 x10.2.2.2.1] [6, 5] rfl (rtick_spec k7 vm lt la nw hk0 (by omega) (by omega) x10.2.2.2.1) (fun _ => by kernel_rfl) h ?_; rintro v_ L_ w (⟨hn176, hn177, v178, v179, rfl, rfl⟩ | ⟨hb180, rfl, rfl⟩) h
                  · skip
                    exfalso; omega
                  · skip
                    refine sq_p (.tuple #[.slice none 0 0, .int .i64 2]) rfl (fun _ => by kernel_rfl) ?_
                    refine sq_p (.slice none 0 0) rfl (fun _ => by kernel_rfl) ?_
                    refine sq_p (.int .i64 2) rfl (fun _ => by kernel_rfl) ?_
                    refine sq_p (.slice none 0 0) rfl (fun _ => by kernel_rfl) ?_
                    refine sq_p (.int .i64 2) rfl (fun _ => by kernel_rfl) ?_
                    refine lnil ?_
                    refine thn_n ?_
                    refine c_seq ?_
                    refine c_reg ?_
                    refine sq_p (errV ad 2) rfl (fun _ => by kernel_rfl) ?_
                    refine sq_p (.int .i64 2) rfl (fun _ => by kernel_rfl) ?_
                    refine sq_call #[errV ad 2, .int .i64 2] [12] rfl (coded2_spec ad 2 2 (by decide) rfl) (fun _ => by kernel_rfl) h ?_; rintro v_ L_ w ⟨rfl, rfl⟩ h
                    refine sq_p (.bool false) rfl (fun _ => by kernel_rfl) ?_
                    refine sq_p (.bool false) rfl (fun _ => by kernel_rfl) ?_
                    refine sq_p (.slice none 0 0) (by kernel_rfl) (fun _ => by kernel_rfl) ?_
                    refine sq_p (.slice none 0 0) (by kernel_rfl) (fun _ => by kernel_rfl) ?_
                    refine sq_call #[.slice none 0 0, .slice none 0 0] [] (by kernel_rfl) (sameNil_spec) (fun _ => by kernel_rfl) h ?_; rintro v_ L_ w ⟨rfl, rfl⟩ h
                    refine sq_p (.bool false) (by kernel_rfl) (fun _ => by kernel_rfl) ?_
                    refine sq_p (.bool false) rfl (fun _ => by kernel_rfl) ?_
                    refine lnil ?_
                    refine thn_n ?_
                    refine c_false (by kernel_rfl) ?_
                    refine c_skip ?_
                    refine blk_n (thn_n ?_)
                    refine c_seq ?_
                    refine c_reg ?_
                    refine sq_p (.pointer (some ⟨p5, 0, none⟩)) rfl (fun _ => by kernel_rfl) ?_
                    refine sq_call #[.pointer (some ⟨p5, 0, none⟩)] [3, 3, 3] rfl (list_spec p5 p6 lt la nw hk0 (by omega) (by omega)) (fun _ => by kernel_rfl) h ?_; rintro v181 L_ w ⟨_, rfl, rfl⟩ h
                    refine sq_p (.pointer (some ⟨k7, 0, none⟩)) rfl (fun _ => by kernel_rfl) ?_
                    refine sq_call #[.pointer (some ⟨k7, 0, none⟩)] [5, 5] rfl (rlist_spec k7 vm lt la nw hk0 (by omega) (by omega)) (fun _ => by kernel_rfl) h ?_; rintro v182 L_ w ⟨_, rfl, rfl⟩ h
                    have hokk : LsOk lt la nw := hk0
                    have hsl : (lsIds lt).length ≤ 1000 := by have h1 := ids_len lt; have h2 := hokk.few; omega
                    refine sq_call #[v181, v182] [3, 0] rfl (sameInts_spec v181 v182 (lsIds lt) hsl) (fun _ => by kernel_rfl) h ?_; rintro v_ L_ w ⟨rfl, rfl⟩ h
                    refine sq_p (.bool false) rfl (fun _ => by kernel_rfl) ?_
                    refine lnil ?_
                    refine thn_n ?_
                    refine c_false (by kernel_rfl) ?_
                    refine c_skip ?_
                    refine blk_n (thn_n ?_)
                    refine c_reg ?_
                    refine sq_p (.int .i64 (n0 : Int)) rfl (fun _ => by kernel_rfl) ?_
                    refine sq_q rfl h (g_eq (v := .int .i64 (IntKind.i64.wrap ((n0 : Int) + 1))) (v' := .int .i64 ((n0 + 1 : Nat) : Int)) (g_pure fun _ => by kernel_rfl) (wr (by omega))) ?_
                    refine sq_p (.int .i64 ((n0 + 1 : Nat) : Int)) rfl (fun _ => by kernel_rfl) ?_
                    refine lnil ?_
                    refine loop_end (fun j => ⟨(n0 + 1), lt, la, nw, vm, j⟩) (show ((n0 + 1) ≤ acts.length ∧ LsOk lt la nw ∧ 0 ≤ la ∧ la ≤ (n0 + 1) ∧ 0 ≤ nw ∧ nw ≤ 1126999418470400) ∧ (acts.length - (n0 + 1)) < (acts.length - n0) from ⟨⟨by omega, hk0, by omega, by omega, by omega, by omega⟩, by omega⟩) (by kernel_rfl) [3, 2, 2, 2, 2, 5, 5, 5, 5, 3, 4, 2] (by kernel_rfl) h
              · skip
                have hc164 := of_decide_eq_false hc164
                refine c_seq ?_
                refine c_reg ?_
                refine sq_p (.pointer (some ⟨p5, 0, none⟩)) rfl (fun _ => by kernel_rfl) ?_
                refine sq_p (.pointer (some ⟨k12, 2, none⟩)) rfl (fun _ => by kernel_rfl) ?_
                refine sq_q rfl h (g_ld 2 [.int .i64 x10.2.2.1] (.int .i64 x10.2.2.1) (by kernel_rfl) 0 rfl) ?_
                refine sq_call #[.pointer (some ⟨p5, 0, none⟩), .int .i64 x10.2.2.1] [3, 3, 3, 5] rfl (name_spec ad p5 p6 lt la nw hk0 (by omega) (by omega) x10.2.2.1) (fun _ => by kernel_rfl) h ?_; rintro v_ L_ w (⟨j184, e185, hj186, hi187, hc188, rfl, rfl⟩ | ⟨hn183, rfl, rfl⟩) h
                · skip
                  refine sq_p (.tuple #[.string (lsN e185), .nilIface]) rfl (fun _ => by kernel_rfl) ?_
                  refine sq_p (.string (lsN e185)) rfl (fun _ => by kernel_rfl) ?_
                  refine sq_p (.nilIface) rfl (fun _ => by kernel_rfl) ?_
                  refine sq_p (.string (lsN e185)) rfl (fun _ => by kernel_rfl) ?_
                  refine sq_p (.nilIface) rfl (fun _ => by kernel_rfl) ?_
                  refine lnil ?_
                  refine thn_n ?_
                  refine c_seq ?_
                  refine c_reg ?_
                  refine sq_p (.pointer (some ⟨k7, 0, none⟩)) rfl (fun _ => by kernel_rfl) ?_
                  refine sq_p (.pointer (some ⟨k12, 2, none⟩)) rfl (fun _ => by kernel_rfl) ?_
                  refine sq_q rfl h (g_ld 2 [.int .i64 x10.2.2.1] (.int .i64 x10.2.2.1) (by kernel_rfl) 4 rfl) ?_
                  refine sq_call #[.pointer (some ⟨k7, 0, none⟩), .int .i64 x10.2.2.1] [6, 5] rfl (rname_spec k7 vm lt la nw hk0 (by omega) (by omega) x10.2.2.1) (fun _ => by kernel_rfl) h ?_; rintro v_ L_ w (⟨j190, e191, hj192, hi193, hc194, rfl, rfl⟩ | ⟨hn189, rfl, rfl⟩) h
                  · skip
                    obtain rfl : j184 = j190 := ls_at hk0.sorted hj186 hj192 (hi187.trans hi193.symm)
                    rw [hj186] at hj192; cases hj192
                    refine sq_p (.tuple #[.string (lsN e185), .int .i64 0]) rfl (fun _ => by kernel_rfl) ?_
                    refine sq_p (.string (lsN e185)) rfl (fun _ => by kernel_rfl) ?_
                    refine sq_p (.int .i64 0) rfl (fun _ => by kernel_rfl) ?_
                    refine sq_p (.string (lsN e185)) rfl (fun _ => by kernel_rfl) ?_
                    refine sq_p (.int .i64 0) rfl (fun _ => by kernel_rfl) ?_
                    refine lnil ?_
                    refine thn_n ?_
                    refine c_seq ?_
                    refine c_reg ?_
                    refine sq_p (.nilIface) rfl (fun _ => by kernel_rfl) ?_
                    refine sq_p (.int .i64 0) rfl (fun _ => by kernel_rfl) ?_
                    refine sq_call #[.nilIface, .int .i64 0] [12] rfl (coded2_spec ad 0 0 (by decide) rfl) (fun _ => by kernel_rfl) h ?_; rintro v_ L_ w ⟨rfl, rfl⟩ h
                    refine sq_p (.bool false) rfl (fun _ => by kernel_rfl) ?_
                    refine sq_p (.bool false) rfl (fun _ => by kernel_rfl) ?_
                    refine sq_p (.string (lsN e185)) (by kernel_rfl) (fun _ => by kernel_rfl) ?_
                    refine sq_p (.string (lsN e185)) (by kernel_rfl) (fun _ => by kernel_rfl) ?_
                    obtain ⟨b196, hb196⟩ : ∃ b_ : Bool, b_ = (!(decide (lsN e185 = lsN e185))) := ⟨_, rfl⟩
                    refine sq_q (v := .bool b196) (by kernel_rfl) h (by subst hb196; exact g_eq (v := .bool !((lsN e185).toList == (lsN e185).toList)) (v' := .bool (!(decide (lsN e185 = lsN e185)))) (g_pure fun _ => by kernel_rfl) bneS) ?_
                    refine sq_p (.bool b196) rfl (fun _ => by kernel_rfl) ?_
                    refine lnil ?_
                    refine thn_n ?_
                    refine c_cond (b196) (by kernel_rfl) (fun hc197 => ?_) (fun hc197 => ?_)
                    · skip
                      have q198 : (!(decide (lsN e185 = lsN e185))) = true := by rw [← hb196]; exact hc197
                      have q199 : (decide (lsN e185 = lsN e185)) = false := by simpa using q198
                      have q199 := of_decide_eq_false q199
                      exfalso; revert hc197; subst hb196; simp
                    · skip
                      have q200 : (!(decide (lsN e185 = lsN e185))) = false := by rw [← hb196]; exact hc197
                      have q201 : (decide (lsN e185 = lsN e185)) = true := by simpa using q200
                      have q201 := of_decide_eq_true q201
                      refine c_skip ?_
                      refine blk_n (thn_n ?_)
                      refine c_seq ?_
                      refine c_reg ?_
                      refine sq_p (.pointer (some ⟨p5, 0, none⟩)) rfl (fun _ => by kernel_rfl) ?_
                      refine sq_call #[.pointer (some ⟨p5, 0, none⟩)] [3, 3, 3] rfl (list_spec p5 p6 lt la nw hk0 (by omega) (by omega)) (fun _ => by kernel_rfl) h ?_; rintro v202 L_ w ⟨_, rfl, rfl⟩ h
                      refine sq_p (.pointer (some ⟨k7, 0, none⟩)) rfl (fun _ => by kernel_rfl) ?_
                      refine sq_call #[.pointer (some ⟨k7, 0, none⟩)] [5, 5] rfl (rlist_spec k7 vm lt la nw hk0 (by omega) (by omega)) (fun _ => by kernel_rfl) h ?_; rintro v203 L_ w ⟨_, rfl, rfl⟩ h
                      have hokk : LsOk lt la nw := hk0
                      have hsl : (lsIds lt).length ≤ 1000 := by have h1 := ids_len lt; have h2 := hokk.few; omega
                      refine sq_call #[v202, v203] [3, 0] rfl (sameInts_spec v202 v203 (lsIds lt) hsl) (fun _ => by kernel_rfl) h ?_; rintro v_ L_ w ⟨rfl, rfl⟩ h
                      refine sq_p (.bool false) rfl (fun _ => by kernel_rfl) ?_
                      refine lnil ?_
                      refine thn_n ?_
                      refine c_false (by kernel_rfl) ?_
                      refine c_skip ?_
                      refine blk_n (thn_n ?_)
                      refine c_reg ?_
                      refine sq_p (.int .i64 (n0 : Int)) rfl (fun _ => by kernel_rfl) ?_
                      refine sq_q rfl h (g_eq (v := .int .i64 (IntKind.i64.wrap ((n0 : Int) + 1))) (v' := .int .i64 ((n0 + 1 : Nat) : Int)) (g_pure fun _ => by kernel_rfl) (wr (by omega))) ?_
                      refine sq_p (.int .i64 ((n0 + 1 : Nat) : Int)) rfl (fun _ => by kernel_rfl) ?_
                      refine lnil ?_
                      refine loop_end (fun j => ⟨(n0 + 1), lt, la, nw, vm, j⟩) (show ((n0 + 1) ≤ acts.length ∧ LsOk lt la nw ∧ 0 ≤ la ∧ la ≤ (n0 + 1) ∧ 0 ≤ nw ∧ nw ≤ 1126999418470400) ∧ (acts.length - (n0 + 1)) < (acts.length - n0) from ⟨⟨by omega, hk0, by omega, by omega, by omega, by omega⟩, by omega⟩) (by kernel_rfl) [3, 2, 2, 2, 2, 5, 5, 3, 4, 4, 4, 2] (by kernel_rfl) h
                  · skip
                    exact absurd ⟨hi187, hc188⟩ (hn189 _ (List.mem_of_getElem? hj186))
                · skip
                  refine sq_p (.tuple #[.string (⟨#[]⟩ : ByteArray), errV ad 5]) rfl (fun _ => by kernel_rfl) ?_
                  refine sq_p (.string (⟨#[]⟩ : ByteArray)) rfl (fun _ => by kernel_rfl) ?_
                  refine sq_p (errV ad 5) rfl (fun _ => by kernel_rfl) ?_
                  refine sq_p (.string (⟨#[]⟩ : ByteArray)) rfl (fun _ => by kernel_rfl) ?_
                  refine sq_p (errV ad 5) rfl (fun _ => by kernel_rfl) ?_
                  refine lnil ?_
                  refine thn_n ?_
                  refine c_seq ?_
                  refine c_reg ?_
                  refine sq_p (.pointer (some ⟨k7, 0, none⟩)) rfl (fun _ => by kernel_rfl) ?_
                  refine sq_p (.pointer (some ⟨k12, 2, none⟩)) rfl (fun _ => by kernel_rfl) ?_
                  refine sq_q rfl h (g_ld 2 [.int .i64 x10.2.2.1] (.int .i64 x10.2.2.1) (by kernel_rfl) 4 rfl) ?_
                  refine sq_call #[.pointer (some ⟨k7, 0, none⟩), .int .i64 x10.2.2.1] [6, 5] rfl (rname_spec k7 vm lt la nw hk0 (by omega) (by omega) x10.2.2.1) (fun _ => by kernel_rfl) h ?_; rintro v_ L_ w (⟨j205, e206, hj207, hi208, hc209, rfl, rfl⟩ | ⟨hn204, rfl, rfl⟩) h
                  · skip
                    exact absurd ⟨hi208, hc209⟩ (hn183 _ (List.mem_of_getElem? hj207))
                  · skip
                    refine sq_p (.tuple #[.string (⟨#[]⟩ : ByteArray), .int .i64 5]) rfl (fun _ => by kernel_rfl) ?_
                    refine sq_p (.string (⟨#[]⟩ : ByteArray)) rfl (fun _ => by kernel_rfl) ?_
                    refine sq_p (.int .i64 5) rfl (fun _ => by kernel_rfl) ?_
                    refine sq_p (.string (⟨#[]⟩ : ByteArray)) rfl (fun _ => by kernel_rfl) ?_
                    refine sq_p (.int .i64 5) rfl (fun _ => by kernel_rfl) ?_
                    refine lnil ?_
                    refine thn_n ?_
                    refine c_seq ?_
                    refine c_reg ?_
                    refine sq_p (errV ad 5) rfl (fun _ => by kernel_rfl) ?_
                    refine sq_p (.int .i64 5) rfl (fun _ => by kernel_rfl) ?_
                    refine sq_call #[errV ad 5, .int .i64 5] [12] rfl (coded2_spec ad 5 5 (by decide) rfl) (fun _ => by kernel_rfl) h ?_; rintro v_ L_ w ⟨rfl, rfl⟩ h
                    refine sq_p (.bool false) rfl (fun _ => by kernel_rfl) ?_
                    refine sq_p (.bool false) rfl (fun _ => by kernel_rfl) ?_
                    refine sq_p (.string (⟨#[]⟩ : ByteArray)) (by kernel_rfl) (fun _ => by kernel_rfl) ?_
                    refine sq_p (.string (⟨#[]⟩ : ByteArray)) (by kernel_rfl) (fun _ => by kernel_rfl) ?_
                    obtain ⟨b211, hb211⟩ : ∃ b_ : Bool, b_ = (!(decide ((⟨#[]⟩ : ByteArray) = (⟨#[]⟩ : ByteArray)))) := ⟨_, rfl⟩
                    refine sq_q (v := .bool b211) (by kernel_rfl) h (by subst hb211; exact g_eq (v := .bool !((⟨#[]⟩ : ByteArray).toList == (⟨#[]⟩ : ByteArray).toList)) (v' := .bool (!(decide ((⟨#[]⟩ : ByteArray) = (⟨#[]⟩ : ByteArray))))) (g_pure fun _ => by kernel_rfl) bneS) ?_
                    refine sq_p (.bool b211) rfl (fun _ => by kernel_rfl) ?_
                    refine lnil ?_
                    refine thn_n ?_
                    refine c_cond (b211) (by kernel_rfl) (fun hc212 => ?_) (fun hc212 => ?_)
                    · skip
                      have q213 : (!(decide ((⟨#[]⟩ : ByteArray) = (⟨#[]⟩ : ByteArray)))) = true := by rw [← hb211]; exact hc212
                      have q214 : (decide ((⟨#[]⟩ : ByteArray) = (⟨#[]⟩ : ByteArray))) = false := by simpa using q213
                      have q214 := of_decide_eq_false q214
                      exfalso; revert hc212; subst hb211; simp
                    · skip
                      have q215 : (!(decide ((⟨#[]⟩ : ByteArray) = (⟨#[]⟩ : ByteArray)))) = false := by rw [← hb211]; exact hc212
                      have q216 : (decide ((⟨#[]⟩ : ByteArray) = (⟨#[]⟩ : ByteArray))) = true := by simpa using q215
                      have q216 := of_decide_eq_true q216
                      refine c_skip ?_
                      refine blk_n (thn_n ?_)
                      refine c_seq ?_
                      refine c_reg ?_
                      refine sq_p (.pointer (some ⟨p5, 0, none⟩)) rfl (fun _ => by kernel_rfl) ?_
                      refine sq_call #[.pointer (some ⟨p5, 0, none⟩)] [3, 3, 3] rfl (list_spec p5 p6 lt la nw hk0 (by omega) (by omega)) (fun _ => by kernel_rfl) h ?_; rintro v217 L_ w ⟨_, rfl, rfl⟩ h
                      refine sq_p (.pointer (some ⟨k7, 0, none⟩)) rfl (fun _ => by kernel_rfl) ?_
                      refine sq_call #[.pointer (some ⟨k7, 0, none⟩)] [5, 5] rfl (rlist_spec k7 vm lt la nw hk0 (by omega) (by omega)) (fun _ => by kernel_rfl) h ?_; rintro v218 L_ w ⟨_, rfl, rfl⟩ h
                      have hokk : LsOk lt la nw := hk0
                      have hsl : (lsIds lt).length ≤ 1000 := by have h1 := ids_len lt; have h2 := hokk.few; omega
                      refine sq_call #[v217, v218] [3, 0] rfl (sameInts_spec v217 v218 (lsIds lt) hsl) (fun _ => by kernel_rfl) h ?_; rintro v_ L_ w ⟨rfl, rfl⟩ h
                      refine sq_p (.bool false) rfl (fun _ => by kernel_rfl) ?_
                      refine lnil ?_
                      refine thn_n ?_
                      refine c_false (by kernel_rfl) ?_
                      refine c_skip ?_
                      refine blk_n (thn_n ?_)
                      refine c_reg ?_
                      refine sq_p (.int .i64 (n0 : Int)) rfl (fun _ => by kernel_rfl) ?_
                      refine sq_q rfl h (g_eq (v := .int .i64 (IntKind.i64.wrap ((n0 : Int) + 1))) (v' := .int .i64 ((n0 + 1 : Nat) : Int)) (g_pure fun _ => by kernel_rfl) (wr (by omega))) ?_
                      refine sq_p (.int .i64 ((n0 + 1 : Nat) : Int)) rfl (fun _ => by kernel_rfl) ?_
                      refine lnil ?_
                      refine loop_end (fun j => ⟨(n0 + 1), lt, la, nw, vm, j⟩) (show ((n0 + 1) ≤ acts.length ∧ LsOk lt la nw ∧ 0 ≤ la ∧ la ≤ (n0 + 1) ∧ 0 ≤ nw ∧ nw ≤ 1126999418470400) ∧ (acts.length - (n0 + 1)) < (acts.length - n0) from ⟨⟨by omega, hk0, by omega, by omega, by omega, by omega⟩, by omega⟩) (by kernel_rfl) [3, 2, 2, 2, 2, 5, 5, 3, 4, 4, 4, 2] (by kernel_rfl) h
    · skip
      have hc8 := of_decide_eq_false hc8
      refine c_exit ?_
      refine thn_e (rnd_e (blk_e (thn_n ?_)))
      refine c_seq ?_
      refine c_reg ?_
      refine sq_p (.bool true) rfl (fun _ => by kernel_rfl) ?_
      refine lnil ?_
      refine thn_n ?_
      refine c_ret ?_
      refine ret_end [.bool true] [10, 10] h (by kernel_rfl) (res_t (by kernel_rfl) res_n) ?_
      exact ⟨rfl, rfl⟩

theorem leaseActs_any (ad : Nat → Addr) (a0 : Option Addr) (cap : Nat) (acts : List LAct) (w : World) (he : EnvA w.heap.size ad w) (hs : (Sh.slice shLAct).At w w.heap.size (a0, cap, acts)) (hz : (Sh.slice shLAct).Sz (a0, cap, acts)) :
    Calls Tryd.prog 11 #[.slice a0 acts.length cap] w fun e w' => e = .returned (.bool true) ∧ Chg Nil w w' := by
  have hok : ∀ x ∈ acts, LActOk x := fun x hx => by
    obtain ⟨i, hi, rfl⟩ := List.mem_iff_getElem.1 hx
    obtain ⟨z1, z2, _⟩ := hz.2 i acts[i] (List.getElem?_eq_getElem hi)
    obtain ⟨⟨_, _, q, q2, _⟩, _⟩ := hs.2.2 i acts[i] (List.getElem?_eq_getElem hi)
    exact ⟨z1, z2, q.1, q.2, q2.1, q2.2⟩
  refine ((leaseActs_spec (B := w.heap.size) ad (.slice a0 acts.length cap) acts hok).reads (w := w) rfl ?_).mono ?_
  · intro r hr
    simp only [List.mem_cons, List.mem_nil_iff, or_false] at hr
    rcases hr with rfl | rfl
    · exact arg_of_sh hs
    · exact he
  · rintro e w' ⟨u, L', ⟨rfl, _⟩, he, hc'⟩
    exact ⟨he, hc'⟩

end Go.Proofs.YtofhnglgebllbaaDoor
