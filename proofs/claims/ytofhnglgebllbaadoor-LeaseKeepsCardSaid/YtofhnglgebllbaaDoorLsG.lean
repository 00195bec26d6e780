/- lease: contracts by what is owned (printed by walk.py). -/
import Derived.Test.YtofhnglgebllbaaDoorLsF
import Derived.Test.YtofhnglgebllbaaDoorLsD
namespace Go.Proofs.YtofhnglgebllbaaDoor
open Go.RowKit
set_option linter.unusedVariables false
set_option linter.unusedSimpArgs false
set_option linter.unnecessarySimpa false
set_option maxRecDepth 100000
set_option maxHeartbeats 1000000 in
theorem leaseNew2_spec  : Spec Tryd.prog 69 #[] [] (fun u L => ∃ b mb, u = .pointer (some ⟨b, 0, none⟩) ∧ L = [rCell true b [.map (some mb), .int .i64 0, .int .i64 0] 227, rMap true mb ik ([].map lsKV), rFam true 231 cliC ([].map lsF)]) := by
  refine spec_of (#[undef, undef, undef, undef]) Tryd.func69 rfl (by kernel_rfl) fun E w0 w h => ?_
  refine c_seq ?_
  refine c_reg ?_
  refine sq_p (.pointer none) rfl (fun _ => by kernel_rfl) ?_
  refine lnil ?_
  refine thn_n ?_
  refine c_seq ?_
  refine c_reg ?_
  refine sq_newm rfl ik (fun _ => by kernel_rfl) h ?_; intro k1 w h
  refine sq_p (.agg #[.map (some k1), .int .i64 0, .int .i64 0]) rfl (fun _ => by kernel_rfl) ?_
  refine sq_new rfl (fun b => .pointer (some ⟨b, 0, none⟩)) [.map (some k1), .int .i64 0, .int .i64 0] 227 (fun _ => by kernel_rfl) h ?_; intro k2 w h
  refine sq_p (.pointer (some ⟨k2, 0, none⟩)) rfl (fun _ => by kernel_rfl) ?_
  refine lnil ?_
  refine thn_n ?_
  refine c_ret ?_
  have h := h.famNil 231 cliC
  refine ret_end [.pointer (some ⟨k2, 0, none⟩)] [1, 1, 0] h (by kernel_rfl) (res_t (by kernel_rfl) res_n) ?_
  exact ⟨_, _, rfl, rfl⟩
set_option maxHeartbeats 1000000 in
theorem sameNil_spec  : Spec Tryd.prog 78 #[.slice none 0 0, .slice none 0 0] [] (fun u L => u = .bool true ∧ L = []) := by
  refine spec_of (#[.slice none 0 0, .slice none 0 0, undef, undef, undef, undef, undef, undef, undef, undef, undef, undef, undef, undef, undef, undef, undef, undef, undef, undef, undef, undef, undef, undef, undef, undef]) Tryd.func78 rfl (by kernel_rfl) fun E w0 w h => ?_
  refine c_seq ?_
  refine c_reg ?_
  refine sq_p (.bool false) rfl (fun _ => by kernel_rfl) ?_
  refine lnil ?_
  refine thn_n ?_
  refine c_seq ?_
  refine c_seq ?_
  refine c_reg ?_
  refine sq_p (.slice none 0 0) rfl (fun _ => by kernel_rfl) ?_
  refine sq_p (.int .i64 0) rfl (fun _ => by kernel_rfl) ?_
  refine sq_p (.slice none 0 0) rfl (fun _ => by kernel_rfl) ?_
  refine sq_p (.int .i64 0) rfl (fun _ => by kernel_rfl) ?_
  refine sq_p (.bool false) rfl (fun _ => by kernel_rfl) ?_
  refine lnil ?_
  refine thn_n ?_
  refine c_false (by kernel_rfl) ?_
  refine c_skip ?_
  refine thn_n ?_
  refine c_seq ?_
  refine c_seq ?_
  refine c_reg ?_
  refine sq_p (.int .i64 0) rfl (fun _ => by kernel_rfl) ?_
  refine lnil ?_
  refine thn_n ?_
  refine c_block ?_
  refine c_loop (X := Nat × (Nat → Value)) (fun ⟨i, J0⟩ => ⟨#[.slice none 0 0, .slice none 0 0, undef, undef, J0 4, .int .i64 (i : Int), .slice none 0 0, .int .i64 0, .slice none 0 0, .int .i64 0, .bool false, J0 11, J0 12, J0 13, J0 14, J0 15, J0 16, J0 17, J0 18, J0 19, J0 20, J0 21, J0 22, J0 23, J0 24, J0 25], []⟩)
    (fun ⟨i, J0⟩ => []) (fun ⟨i, J0⟩ => i = 0) (fun ⟨i, J0⟩ => i)
    ⟨0, (fun n => (#[.slice none 0 0, .slice none 0 0, undef, undef, .bool false, .int .i64 0, .slice none 0 0, .int .i64 0, .slice none 0 0, .int .i64 0, .bool false, undef, undef, undef, undef, undef, undef, undef, undef, undef, undef, undef, undef, undef, undef, undef] : Array Value).getD n undef)⟩ rfl (by kernel_rfl) [] (by kernel_rfl) h ?_
  rintro ⟨i, J0⟩ w hG h
  have hi0 : i = 0 := hG
  refine c_seq ?_
  refine c_seq ?_
  refine c_reg ?_
  refine sq_p (.int .i64 (i : Int)) rfl (fun _ => by kernel_rfl) ?_
  refine sq_p (.slice none 0 0) rfl (fun _ => by kernel_rfl) ?_
  refine sq_p (.int .i64 0) rfl (fun _ => by kernel_rfl) ?_
  refine sq_p (.bool (decide ((i : Int) < 0))) rfl (fun _ => by kernel_rfl) ?_
  refine lnil ?_
  refine thn_n ?_
  refine c_cond (decide ((i : Int) < 0)) (by kernel_rfl) (fun hc1 => ?_) (fun hc1 => ?_)
  · skip
    have hc1 := of_decide_eq_true hc1
    exfalso; omega
  · skip
    have hc1 := of_decide_eq_false hc1
    refine c_exit ?_
    refine thn_e (rnd_e (blk_e (thn_n ?_)))
    refine c_seq ?_
    refine c_reg ?_
    refine sq_p (.bool true) rfl (fun _ => by kernel_rfl) ?_
    refine lnil ?_
    refine thn_n ?_
    refine c_ret ?_
    refine ret_end [.bool true] [] h (by kernel_rfl) (res_t (by kernel_rfl) res_n) ?_
    exact ⟨rfl, rfl⟩

theorem names_nil {ks : List ByteArray} (h : Names [] ks) : ks = [] := by
  cases ks with
  | nil => rfl
  | cons a r => obtain ⟨e, he, _⟩ := (h.2 a).1 (by simp); cases he
theorem known0 (bk : Nat) : LsOk [(1, bk, ⟨#[97]⟩, 7, 1, false, 0)] 1 0 := lsOk_nil.reg ⟨#[97]⟩ 7 bk
theorem known1 (bk : Nat) : LsOk [(1, bk, ⟨#[97]⟩, 7, 1, true, 0)] 1 0 := (known0 bk).conf (j := 0) (e := (1, bk, ⟨#[97]⟩, 7, 1, false, 0)) rfl
theorem knownReg_spec {B : Nat} (ad : Nat → Addr) (b mb : Nat) : Spec Tryd.prog 70 #[.pointer (some ⟨b, 0, none⟩), .string ⟨#[97]⟩, .int .i64 7] [rCell true b [.map (some mb), .int .i64 0, .int .i64 0] 227, rMap true mb ik ([].map lsKV), rFam true 231 cliC ([].map lsF), rEnv B ad [4], rEnv B ad [9]] fun u L => ∃ bk : Nat, u = .tuple #[.int .i64 1, .int .i64 1, .nilIface] ∧ L = [rCell true b [.map (some mb), .int .i64 1, .int .i64 0] 227, rMap true mb ik ([(1, bk, ⟨#[97]⟩, 7, 1, false, 0)].map lsKV), rFam true 231 cliC ([(1, bk, ⟨#[97]⟩, 7, 1, false, 0)].map lsF), rEnv B ad [4], rEnv B ad [9]] :=
  (register_spec ad b mb [] 0 0 lsOk_nil (by decide) (by decide) ⟨#[97]⟩ 7 (by decide)).mono fun u L h => by
    rcases h with ⟨h1, _⟩ | ⟨_, ks, h2, h3, _⟩ | ⟨_, _, bk, h4, h5⟩
    · exact absurd (show nameOk ⟨#[97]⟩ by decide) h1
    · rw [names_nil h2] at h3; exact absurd h3 (by decide)
    · exact ⟨bk, h4, h5⟩
theorem knownConf_spec {B : Nat} (ad : Nat → Addr) (b mb : Nat) (bk : Nat) : Spec Tryd.prog 72 #[.pointer (some ⟨b, 0, none⟩), .int .i64 1, .int .i64 1] [rCell true b [.map (some mb), .int .i64 1, .int .i64 0] 227, rMap true mb ik ([(1, bk, ⟨#[97]⟩, 7, 1, false, 0)].map lsKV), rFam true 231 cliC ([(1, bk, ⟨#[97]⟩, 7, 1, false, 0)].map lsF), rEnv B ad [5], rEnv B ad [3]] fun u L => u = .tuple #[.int .i64 0, .nilIface] ∧ L = [rCell true b [.map (some mb), .int .i64 1, .int .i64 0] 227, rMap true mb ik ([(1, bk, ⟨#[97]⟩, 7, 1, true, 0)].map lsKV), rFam true 231 cliC ([(1, bk, ⟨#[97]⟩, 7, 1, true, 0)].map lsF), rEnv B ad [5], rEnv B ad [3]] :=
  (confirm_spec ad b mb [(1, bk, ⟨#[97]⟩, 7, 1, false, 0)] 1 0 (known0 bk) (by decide) (by decide) 1 1).mono fun u L h => by
    rcases h with ⟨h1, _⟩ | ⟨j, e, _, _, h1, _⟩ | ⟨j, e, hj, _, _, h4, h5⟩
    · exact absurd rfl (h1 (1, bk, ⟨#[97]⟩, 7, 1, false, 0) (by simp))
    · exact absurd rfl h1
    · cases j with
      | succ j => simp at hj
      | zero =>
        cases (show some (1, bk, ⟨#[97]⟩, 7, 1, false, 0) = some e from hj)
        have hp : confP ((1, bk, ⟨#[97]⟩, 7, 1, false, 0) : Ls) (1, bk, ⟨#[97]⟩, 7, 1, false, 0) = true := by simp [confP]
        have hg : confG [((1, bk, ⟨#[97]⟩, 7, 1, false, 0) : Ls)] (1, bk, ⟨#[97]⟩, 7, 1, false, 0) = 0 := by unfold confG; rw [List.find?_cons_of_neg (by simp [hp])]; rfl
        have hl : confL [((1, bk, ⟨#[97]⟩, 7, 1, false, 0) : Ls)] 0 (1, bk, ⟨#[97]⟩, 7, 1, false, 0) 0 = [(1, bk, ⟨#[97]⟩, 7, 1, true, 0)] := by
          unfold confL
          show List.filter _ [lsSet (1, bk, ⟨#[97]⟩, 7, 1, false, 0) true 0] = _
          rw [List.filter_cons_of_pos (by simp [confP, lsSet])]; rfl
        rw [hg] at h4; rw [hl] at h5
        exact ⟨h4, h5⟩
theorem knownName_spec {B : Nat} (ad : Nat → Addr) (b mb : Nat) (bk : Nat) : Spec Tryd.prog 79 #[.pointer (some ⟨b, 0, none⟩), .int .i64 1] [rCell true b [.map (some mb), .int .i64 1, .int .i64 0] 227, rMap true mb ik ([(1, bk, ⟨#[97]⟩, 7, 1, true, 0)].map lsKV), rFam true 231 cliC ([(1, bk, ⟨#[97]⟩, 7, 1, true, 0)].map lsF), rEnv B ad [5]] fun u L => u = .tuple #[.string ⟨#[97]⟩, .nilIface] ∧ L = [rCell true b [.map (some mb), .int .i64 1, .int .i64 0] 227, rMap true mb ik ([(1, bk, ⟨#[97]⟩, 7, 1, true, 0)].map lsKV), rFam true 231 cliC ([(1, bk, ⟨#[97]⟩, 7, 1, true, 0)].map lsF), rEnv B ad [5]] :=
  (name_spec ad b mb [(1, bk, ⟨#[97]⟩, 7, 1, true, 0)] 1 0 (known1 bk) (by decide) (by decide) 1).mono fun u L h => by
    rcases h with ⟨j, e, hj, _, _, h4, h5⟩ | ⟨h1, _⟩
    · cases j with
      | succ j => simp at hj
      | zero => cases (show some (1, bk, ⟨#[97]⟩, 7, 1, true, 0) = some e from hj); exact ⟨h4, h5⟩
    · exact absurd ⟨rfl, rfl⟩ (h1 (1, bk, ⟨#[97]⟩, 7, 1, true, 0) (by simp))

set_option maxHeartbeats 1000000 in
theorem knownL_spec {B : Nat} (ad : Nat → Addr) : Spec Tryd.prog 68 #[] [rEnv B ad [4], rEnv B ad [9], rEnv B ad [5], rEnv B ad [3]] (fun u L => u = .bool true ∧ L = [rEnv B ad [4], rEnv B ad [9], rEnv B ad [5], rEnv B ad [3]]) := by
  refine spec_of (#[undef, undef, undef, undef, undef, undef, undef, undef, undef, undef, undef, undef, undef, undef, undef, undef, undef, undef, undef, undef, undef, undef, undef, undef, undef, undef, undef, undef, undef, undef, undef, undef, undef, undef, undef, undef, undef, undef, undef, undef, undef, undef, undef, undef, undef, undef, undef, undef, undef, undef, undef, undef, undef, undef, undef, undef, undef]) Tryd.func68 rfl (by kernel_rfl) fun E w0 w h => ?_
  refine c_seq ?_
  refine c_reg ?_
  refine sq_p (.bool false) rfl (fun _ => by kernel_rfl) ?_
  refine lnil ?_
  refine thn_n ?_
  refine c_seq ?_
  refine c_reg ?_
  refine sq_call #[] [] rfl (leaseNew2_spec) (fun _ => by kernel_rfl) h ?_; rintro v_ L_ w ⟨p1, p2, rfl, rfl⟩ h
  refine sq_p (.pointer (some ⟨p1, 0, none⟩)) rfl (fun _ => by kernel_rfl) ?_
  refine lnil ?_
  refine thn_n ?_
  refine c_seq ?_
  refine c_seq ?_
  refine c_reg ?_
  refine sq_p (.pointer (some ⟨p1, 0, none⟩)) rfl (fun _ => by kernel_rfl) ?_
  refine sq_p (.bool false) rfl (fun _ => by kernel_rfl) ?_
  refine lnil ?_
  refine thn_n ?_
  refine c_false (by kernel_rfl) ?_
  refine c_skip ?_
  refine thn_n ?_
  refine c_seq ?_
  refine c_reg ?_
  refine sq_p (.pointer (some ⟨p1, 0, none⟩)) rfl (fun _ => by kernel_rfl) ?_
  refine sq_call #[.pointer (some ⟨p1, 0, none⟩), .string (⟨#[97]⟩ : ByteArray), .int .i64 7] [0, 0, 0, 0, 0] rfl (knownReg_spec ad p1 p2) (fun _ => by kernel_rfl) h ?_; rintro v_ L_ w ⟨bk3, rfl, rfl⟩ h
  refine sq_p (.tuple #[.int .i64 1, .int .i64 1, .nilIface]) rfl (fun _ => by kernel_rfl) ?_
  refine sq_p (.int .i64 1) rfl (fun _ => by kernel_rfl) ?_
  refine sq_p (.int .i64 1) rfl (fun _ => by kernel_rfl) ?_
  refine sq_p (.nilIface) rfl (fun _ => by kernel_rfl) ?_
  refine sq_p (.int .i64 1) rfl (fun _ => by kernel_rfl) ?_
  refine sq_p (.int .i64 1) rfl (fun _ => by kernel_rfl) ?_
  refine sq_p (.nilIface) rfl (fun _ => by kernel_rfl) ?_
  refine lnil ?_
  refine thn_n ?_
  refine c_seq ?_
  refine c_reg ?_
  refine sq_p (.pointer (some ⟨p1, 0, none⟩)) rfl (fun _ => by kernel_rfl) ?_
  refine sq_p (.int .i64 1) rfl (fun _ => by kernel_rfl) ?_
  refine sq_p (.int .i64 1) rfl (fun _ => by kernel_rfl) ?_
  refine sq_call #[.pointer (some ⟨p1, 0, none⟩), .int .i64 1, .int .i64 1] [0, 0, 0, 2, 2] rfl (knownConf_spec ad p1 p2 bk3) (fun _ => by kernel_rfl) h ?_; rintro v_ L_ w ⟨rfl, rfl⟩ h
  refine sq_p (.tuple #[.int .i64 0, .nilIface]) rfl (fun _ => by kernel_rfl) ?_
  refine sq_p (.int .i64 0) rfl (fun _ => by kernel_rfl) ?_
  refine sq_p (.nilIface) rfl (fun _ => by kernel_rfl) ?_
  refine sq_p (.int .i64 0) rfl (fun _ => by kernel_rfl) ?_
  refine sq_p (.nilIface) rfl (fun _ => by kernel_rfl) ?_
  refine lnil ?_
  refine thn_n ?_
  refine c_seq ?_
  refine c_reg ?_
  refine sq_p (.pointer (some ⟨p1, 0, none⟩)) rfl (fun _ => by kernel_rfl) ?_
  refine sq_p (.int .i64 1) rfl (fun _ => by kernel_rfl) ?_
  refine sq_call #[.pointer (some ⟨p1, 0, none⟩), .int .i64 1] [0, 0, 0, 0] rfl (knownName_spec ad p1 p2 bk3) (fun _ => by kernel_rfl) h ?_; rintro v_ L_ w ⟨rfl, rfl⟩ h
  refine sq_p (.tuple #[.string (⟨#[97]⟩ : ByteArray), .nilIface]) rfl (fun _ => by kernel_rfl) ?_
  refine sq_p (.string (⟨#[97]⟩ : ByteArray)) rfl (fun _ => by kernel_rfl) ?_
  refine sq_p (.nilIface) rfl (fun _ => by kernel_rfl) ?_
  refine sq_p (.string (⟨#[97]⟩ : ByteArray)) rfl (fun _ => by kernel_rfl) ?_
  refine sq_p (.nilIface) rfl (fun _ => by kernel_rfl) ?_
  refine lnil ?_
  refine thn_n ?_
  refine c_seq ?_
  refine c_reg ?_
  refine sq_p (.nilIface) rfl (fun _ => by kernel_rfl) ?_
  refine sq_p (.bool true) rfl (fun _ => by kernel_rfl) ?_
  refine sq_p (.bool true) rfl (fun _ => by kernel_rfl) ?_
  refine sq_p (.nilIface) (by kernel_rfl) (fun _ => by kernel_rfl) ?_
  refine sq_p (.bool true) (by kernel_rfl) (fun _ => by kernel_rfl) ?_
  refine sq_p (.bool true) rfl (fun _ => by kernel_rfl) ?_
  refine sq_p (.bool true) rfl (fun _ => by kernel_rfl) ?_
  refine sq_p (.nilIface) (by kernel_rfl) (fun _ => by kernel_rfl) ?_
  refine sq_p (.bool true) (by kernel_rfl) (fun _ => by kernel_rfl) ?_
  refine sq_p (.bool true) rfl (fun _ => by kernel_rfl) ?_
  refine sq_p (.bool true) rfl (fun _ => by kernel_rfl) ?_
  refine sq_p (.int .i64 1) (by kernel_rfl) (fun _ => by kernel_rfl) ?_
  refine sq_p (.bool true) (by kernel_rfl) (fun _ => by kernel_rfl) ?_
  refine sq_p (.bool true) rfl (fun _ => by kernel_rfl) ?_
  refine sq_p (.bool true) rfl (fun _ => by kernel_rfl) ?_
  refine sq_p (.int .i64 1) (by kernel_rfl) (fun _ => by kernel_rfl) ?_
  refine sq_p (.bool true) (by kernel_rfl) (fun _ => by kernel_rfl) ?_
  refine sq_p (.bool true) rfl (fun _ => by kernel_rfl) ?_
  refine sq_p (.bool true) rfl (fun _ => by kernel_rfl) ?_
  refine sq_p (.int .i64 0) (by kernel_rfl) (fun _ => by kernel_rfl) ?_
  refine sq_p (.bool true) (by kernel_rfl) (fun _ => by kernel_rfl) ?_
  refine sq_p (.bool true) rfl (fun _ => by kernel_rfl) ?_
  refine sq_p (.bool true) rfl (fun _ => by kernel_rfl) ?_
  refine sq_p (.string (⟨#[97]⟩ : ByteArray)) (by kernel_rfl) (fun _ => by kernel_rfl) ?_
  obtain ⟨b4, hb4⟩ : ∃ b_ : Bool, b_ = (decide ((⟨#[97]⟩ : ByteArray) = (⟨#[97]⟩ : ByteArray))) := ⟨_, rfl⟩
  refine sq_q (v := .bool b4) (by kernel_rfl) h (by subst hb4; exact g_eq (v := .bool ((⟨#[97]⟩ : ByteArray).toList == (⟨#[97]⟩ : ByteArray).toList)) (v' := .bool (decide ((⟨#[97]⟩ : ByteArray) = (⟨#[97]⟩ : ByteArray)))) (g_pure fun _ => by kernel_rfl) beqS) ?_
  refine sq_p (.bool b4) rfl (fun _ => by kernel_rfl) ?_
  refine sq_p (.bool b4) rfl (fun _ => by kernel_rfl) ?_
  refine lnil ?_
  refine thn_n ?_
  refine c_ret ?_
  refine ret_end [.bool b4] [5, 5, 3, 3] h (by kernel_rfl) (res_t (by kernel_rfl) res_n) ?_
  refine ⟨?_, rfl⟩
  show Value.bool _ = _
  subst hb4; first | (congr 1; done) | (congr 1; decide)
end Go.Proofs.YtofhnglgebllbaaDoor
