/- lease: contracts by what is owned (printed by walk.py). -/
import Derived.Test.YtofhnglgebllbaaDoorLsC
namespace Go.Proofs.YtofhnglgebllbaaDoor
open Go.RowKit
set_option linter.unusedVariables false
set_option linter.unusedSimpArgs false
set_option linter.unnecessarySimpa false
set_option maxRecDepth 100000
set_option maxHeartbeats 1000000 in
theorem register_spec {B : Nat} (ad : Nat → Addr) (b mb : Nat) (l : List Ls) (last now : Int) (hk : LsOk l last now) (hb : last ≤ 1000) (hw : now ≤ 9000000000000000) (nm : ByteArray) (boot : Int) (hnm : nm.size ≤ 9223372036854775807) : Spec Tryd.prog 70 #[.pointer (some ⟨b, 0, none⟩), .string nm, .int .i64 boot] [rCell true b [.map (some mb), .int .i64 last, .int .i64 now] 227, rMap true mb ik (l.map lsKV), rFam true 231 cliC (l.map lsF), rEnv B ad [4], rEnv B ad [9]] (fun u L => (¬ nameOk nm ∧ u = .tuple #[.int .i64 0, .int .i64 0, errV ad 4] ∧ L = [rCell true b [.map (some mb), .int .i64 last, .int .i64 now] 227, rMap true mb ik (l.map lsKV), rFam true 231 cliC (l.map lsF), rEnv B ad [4], rEnv B ad [9]]) ∨ (nameOk nm ∧ ∃ ks, Names l ks ∧ 12 ≤ ks.length ∧ ¬ (∃ e ∈ l, lsN e = nm) ∧ u = .tuple #[.int .i64 0, .int .i64 0, errV ad 9] ∧ L = [rCell true b [.map (some mb), .int .i64 last, .int .i64 now] 227, rMap true mb ik (l.map lsKV), rFam true 231 cliC (l.map lsF), rEnv B ad [4], rEnv B ad [9]]) ∨ (nameOk nm ∧ (∀ ks, Names l ks → ¬ (∃ e ∈ l, lsN e = nm) → ks.length < 12) ∧ ∃ bk, u = .tuple #[.int .i64 (last + 1), .int .i64 (last + 1), .nilIface] ∧ L = [rCell true b [.map (some mb), .int .i64 (last + 1), .int .i64 now] 227, rMap true mb ik ((regL l nm boot last bk).map lsKV), rFam true 231 cliC ((regL l nm boot last bk).map lsF), rEnv B ad [4], rEnv B ad [9]])) := by
  have hfw := hk.few
  have hpos := hk.pos
  refine spec_of (#[.pointer (some ⟨b, 0, none⟩), .string nm, .int .i64 boot, undef, undef, undef, undef, undef, undef, undef, undef, undef, undef, undef, undef, undef, undef, undef, undef, undef, undef, undef, undef, undef, undef, undef, undef, undef, undef, undef, undef, undef, undef, undef, undef, undef, undef, undef, undef, undef, undef, undef, undef, undef, undef, undef, undef, undef, undef, undef, undef, undef, undef, undef, undef, undef, undef, undef, undef, undef, undef, undef, undef, undef, undef, undef, undef, undef, undef]) Tryd.func70 rfl (by kernel_rfl) fun E w0 w h => ?_
  refine c_seq ?_
  refine c_reg ?_
  refine sq_p (.int .i64 0) rfl (fun _ => by kernel_rfl) ?_
  refine sq_p (.int .i64 0) rfl (fun _ => by kernel_rfl) ?_
  refine sq_p (.nilIface) rfl (fun _ => by kernel_rfl) ?_
  refine lnil ?_
  refine thn_n ?_
  refine c_seq ?_
  refine c_seq ?_
  refine c_reg ?_
  refine sq_p (.string nm) rfl (fun _ => by kernel_rfl) ?_
  refine sq_call #[.string nm] [3] rfl (check_two ad nm hnm) (fun _ => by kernel_rfl) h ?_; rintro v_ L_ w (⟨hq1, rfl, rfl⟩ | ⟨hq1, rfl, rfl⟩) h
  · skip
    refine sq_p (.nilIface) rfl (fun _ => by kernel_rfl) ?_
    refine lnil ?_
    refine thn_n ?_
    refine c_seq ?_
    refine c_reg ?_
    refine sq_p (.nilIface) rfl (fun _ => by kernel_rfl) ?_
    refine sq_p (.bool false) rfl (fun _ => by kernel_rfl) ?_
    refine lnil ?_
    refine thn_n ?_
    refine c_false (by kernel_rfl) ?_
    refine c_skip ?_
    refine thn_n ?_
    refine c_seq ?_
    refine c_reg ?_
    refine sq_p (.pointer (some ⟨b, 0, none⟩)) rfl (fun _ => by kernel_rfl) ?_
    refine sq_p (.string nm) rfl (fun _ => by kernel_rfl) ?_
    refine sq_call #[.pointer (some ⟨b, 0, none⟩), .string nm, .bool false] [1, 1, 1] rfl (find_spec b mb l last now hk (by omega) (by omega) nm false) (fun _ => by kernel_rfl) h ?_; rintro v_ L_ w ⟨z2, hz3, rfl, rfl⟩ h
    refine sq_p (.int .i64 z2) rfl (fun _ => by kernel_rfl) ?_
    refine lnil ?_
    refine thn_n ?_
    refine c_seq ?_
    refine c_seq ?_
    refine c_reg ?_
    refine sq_p (.int .i64 z2) rfl (fun _ => by kernel_rfl) ?_
    obtain ⟨b4, hb4⟩ : ∃ b_ : Bool, b_ = (decide (z2 < 0)) := ⟨_, rfl⟩
    refine sq_q (v := .bool b4) rfl h (by subst hb4; exact g_pure (v := .bool (decide (z2 < 0))) fun _ => by kernel_rfl) ?_
    refine sq_p (.bool b4) rfl (fun _ => by kernel_rfl) ?_
    refine sq_m1 (v := .pointer (some ⟨b, 0, none⟩)) b4 (by cases b4 <;> kernel_rfl) h (fun hB => by subst hB; exact g_pure (v := .pointer (some ⟨b, 0, none⟩)) fun _ => by kernel_rfl) ?_
    refine sq_m1 (v := .string nm) b4 (by cases b4 <;> kernel_rfl) h (fun hB => by subst hB; exact g_pure (v := .string nm) fun _ => by kernel_rfl) ?_
    rcases Bool.eq_false_or_eq_true b4 with hc5 | hc5
    · skip
      subst hc5
      have q6 := hb4.symm
      have q6 := of_decide_eq_true q6
      refine sq_call #[.pointer (some ⟨b, 0, none⟩), .string nm, .bool true] [0, 0, 0] (by kernel_rfl) (find_spec b mb l last now hk (by omega) (by omega) nm true) (fun _ => by kernel_rfl) h ?_; rintro v_ L_ w ⟨z7, hz8, rfl, rfl⟩ h
      obtain ⟨b9, hb9⟩ : ∃ b_ : Bool, b_ = (decide (z7 < 0)) := ⟨_, rfl⟩
      refine sq_q (v := .bool b9) (by kernel_rfl) h (by subst hb9; exact g_pure (v := .bool (decide (z7 < 0))) fun _ => by kernel_rfl) ?_
      refine sq_p (.bool b9) rfl (fun _ => by kernel_rfl) ?_
      refine sq_p (.bool b9) rfl (fun _ => by kernel_rfl) ?_
      refine sq_m1 (v := .pointer (some ⟨b, 0, none⟩)) b9 (by cases b9 <;> kernel_rfl) h (fun hB => by subst hB; exact g_pure (v := .pointer (some ⟨b, 0, none⟩)) fun _ => by kernel_rfl) ?_
      rcases Bool.eq_false_or_eq_true b9 with hc10 | hc10
      · skip
        subst hc10
        have q11 := hb9.symm
        have q11 := of_decide_eq_true q11
        refine sq_call #[.pointer (some ⟨b, 0, none⟩)] [0, 0, 0] (by kernel_rfl) (known_spec b mb l last now hk hb hw) (fun _ => by kernel_rfl) h ?_; rintro v_ L_ w ⟨ks12, hks13, rfl, rfl⟩ h
        obtain ⟨b14, hb14⟩ : ∃ b_ : Bool, b_ = (decide ((ks12.length : Int) ≥ 12)) := ⟨_, rfl⟩
        refine sq_q (v := .bool b14) (by kernel_rfl) h (by subst hb14; exact g_pure (v := .bool (decide ((ks12.length : Int) ≥ 12))) fun _ => by kernel_rfl) ?_
        refine sq_p (.bool b14) rfl (fun _ => by kernel_rfl) ?_
        refine lnil ?_
        refine thn_n ?_
        refine c_cond (b14) (by kernel_rfl) (fun hc15 => ?_) (fun hc15 => ?_)
        · skip
          have q16 : (decide ((ks12.length : Int) ≥ 12)) = true := by rw [← hb14]; exact hc15
          have q16 := of_decide_eq_true q16
          refine c_seq ?_
          refine d_start 4 [4] (by kernel_rfl) h fun w h => ?_
          refine d_take 0 6 [4] rfl (v := errV ad 9) (by kernel_rfl) (qp_thn (qp_thn qp_body)) (yq (by kernel_rfl) (g_ldr (b := gl 9) 0 [errV ad 9] (errV ad 9) (by kernel_rfl) 0 rfl (rdEnv (c := 9) (by decide) rfl))) h (by kernel_rfl) ?_
          refine d_take 1 1 [4] rfl (v := .int .i64 0) (by kernel_rfl) (qp_thn (qp_thn qp_body)) (yq (by kernel_rfl) (g_pure (v := .int .i64 0) fun _ => by kernel_rfl)) h (by kernel_rfl) ?_
          refine d_take 2 3 [4] rfl (v := .int .i64 0) (by kernel_rfl) (qp_thn (qp_thn qp_body)) (yq (by kernel_rfl) (g_pure (v := .int .i64 0) fun _ => by kernel_rfl)) h (by kernel_rfl) ?_
          refine d_take 3 7 [4] rfl (v := errV ad 9) (by kernel_rfl) (qp_thn (qp_thn qp_body)) (yq (by kernel_rfl) (g_pure (v := errV ad 9) fun _ => by kernel_rfl)) h (by kernel_rfl) ?_
          refine d_done (by kernel_rfl) ?_
          refine thn_n ?_
          refine c_ret ?_
          refine thn_r ?_
          refine ret_end [.int .i64 0, .int .i64 0, errV ad 9] [0, 0, 0, 0, 0] h (by kernel_rfl) (res_t (by kernel_rfl) (res_t (by kernel_rfl) (res_t (by kernel_rfl) res_n))) ?_
          exact .inr (.inl ⟨hq1, ks12, hks13, by omega, (none_both hk hz3 hz8).1 ⟨by omega, by omega⟩, rfl, rfl⟩)
        · skip
          have q17 : (decide ((ks12.length : Int) ≥ 12)) = false := by rw [← hb14]; exact hc15
          have q17 := of_decide_eq_false q17
          refine c_skip ?_
          refine thn_n ?_
          refine c_seq ?_
          refine c_reg ?_
          refine sq_p (.pointer (some ⟨b, 0, none⟩)) rfl (fun _ => by kernel_rfl) ?_
          refine sq_p (.pointer (some ⟨b, 0, none⟩)) rfl (fun _ => by kernel_rfl) ?_
          refine sq_p (.pointer (some ⟨b, 0, none⟩)) rfl (fun _ => by kernel_rfl) ?_
          refine sq_q rfl h (g_ld 0 [.map (some mb)] (.map (some mb)) (by kernel_rfl) 0 rfl) ?_
          refine sq_p (.int .i64 z2) rfl (fun _ => by kernel_rfl) ?_
          refine sq_mapd rfl (K := 3) (E := 229) (keyInt (by kernel_rfl)) z2 (by kernel_rfl) h 1 rfl ?_; intro w h
          refine lnil ?_
          refine thn_n ?_
          refine c_seq ?_
          refine c_reg ?_
          refine sq_p (.pointer (some ⟨b, 0, none⟩)) rfl (fun _ => by kernel_rfl) ?_
          refine sq_p (.pointer (some ⟨b, 0, none⟩)) rfl (fun _ => by kernel_rfl) ?_
          refine sq_p (.pointer (some ⟨b, 1, none⟩)) rfl (fun _ => by kernel_rfl) ?_
          refine sq_q rfl h (g_ld 1 [.int .i64 last] (.int .i64 last) (by kernel_rfl) 0 rfl) ?_
          refine sq_q rfl h (g_eq (v := .int .i64 (IntKind.i64.wrap (last + 1))) (v' := .int .i64 (last + 1)) (g_pure fun _ => by kernel_rfl) (wr (by omega))) ?_
          refine sq_p (.pointer (some ⟨b, 0, none⟩)) rfl (fun _ => by kernel_rfl) ?_
          refine sq_p (.pointer (some ⟨b, 1, none⟩)) rfl (fun _ => by kernel_rfl) ?_
          refine sq_st rfl 1 [.int .i64 (last + 1)] [.map (some mb), .int .i64 (last + 1), .int .i64 now] h 0 rfl (by kernel_rfl) ?_; intro w h
          refine lnil ?_
          refine thn_n ?_
          refine c_seq ?_
          refine d_start 17 [0] (by kernel_rfl) h fun w h => ?_
          refine d_take 0 65520 [0] rfl (v := .pointer (some ⟨b, 0, none⟩)) (by kernel_rfl) (qp_thn qp_body) (yq (by kernel_rfl) (g_pure (v := .pointer (some ⟨b, 0, none⟩)) fun _ => by kernel_rfl)) h (by kernel_rfl) ?_
          refine d_take 1 65521 [0] rfl (v := .pointer (some ⟨b, 0, none⟩)) (by kernel_rfl) (qp_thn qp_body) (yq (by kernel_rfl) (g_pure (v := .pointer (some ⟨b, 0, none⟩)) fun _ => by kernel_rfl)) h (by kernel_rfl) ?_
          refine d_take 2 65523 [0] rfl (v := .pointer (some ⟨b, 0, none⟩)) (by kernel_rfl) (qp_thn qp_body) (yq (by kernel_rfl) (g_pure (v := .pointer (some ⟨b, 0, none⟩)) fun _ => by kernel_rfl)) h (by kernel_rfl) ?_
          refine d_take 3 65527 [0] rfl (v := .map (some mb)) (by kernel_rfl) (qp_thn qp_body) (yq (by kernel_rfl) (g_ld 0 [.map (some mb)] (.map (some mb)) (by kernel_rfl) 0 rfl)) h (by kernel_rfl) ?_
          refine d_take 4 65295 [0] rfl (v := .pointer (some ⟨b, 0, none⟩)) (by kernel_rfl) (qp_thn qp_body) (yq (by kernel_rfl) (g_pure (v := .pointer (some ⟨b, 0, none⟩)) fun _ => by kernel_rfl)) h (by kernel_rfl) ?_
          refine d_take 5 65311 [0] rfl (v := .pointer (some ⟨b, 0, none⟩)) (by kernel_rfl) (qp_thn qp_body) (yq (by kernel_rfl) (g_pure (v := .pointer (some ⟨b, 0, none⟩)) fun _ => by kernel_rfl)) h (by kernel_rfl) ?_
          refine d_take 6 65343 [0] rfl (v := .pointer (some ⟨b, 1, none⟩)) (by kernel_rfl) (qp_thn qp_body) (yq (by kernel_rfl) (g_pure (v := .pointer (some ⟨b, 1, none⟩)) fun _ => by kernel_rfl)) h (by kernel_rfl) ?_
          refine d_take 7 65407 [0] rfl (v := .int .i64 (last + 1)) (by kernel_rfl) (qp_thn qp_body) (yq (by kernel_rfl) (g_ld 1 [.int .i64 (last + 1)] (.int .i64 (last + 1)) (by kernel_rfl) 0 rfl)) h (by kernel_rfl) ?_
          refine d_take 8 16127 [0] rfl (v := .string nm) (by kernel_rfl) (qp_thn qp_body) (yq (by kernel_rfl) (g_pure (v := .string nm) fun _ => by kernel_rfl)) h (by kernel_rfl) ?_
          refine d_take 9 15871 [0] rfl (v := .int .i64 boot) (by kernel_rfl) (qp_thn qp_body) (yq (by kernel_rfl) (g_pure (v := .int .i64 boot) fun _ => by kernel_rfl)) h (by kernel_rfl) ?_
          refine d_take 10 1023 [0] rfl (v := .pointer (some ⟨b, 0, none⟩)) (by kernel_rfl) (qp_thn qp_body) (yq (by kernel_rfl) (g_pure (v := .pointer (some ⟨b, 0, none⟩)) fun _ => by kernel_rfl)) h (by kernel_rfl) ?_
          refine d_take 11 2047 [0] rfl (v := .pointer (some ⟨b, 0, none⟩)) (by kernel_rfl) (qp_thn qp_body) (yq (by kernel_rfl) (g_pure (v := .pointer (some ⟨b, 0, none⟩)) fun _ => by kernel_rfl)) h (by kernel_rfl) ?_
          refine d_take 12 4095 [0] rfl (v := .pointer (some ⟨b, 1, none⟩)) (by kernel_rfl) (qp_thn qp_body) (yq (by kernel_rfl) (g_pure (v := .pointer (some ⟨b, 1, none⟩)) fun _ => by kernel_rfl)) h (by kernel_rfl) ?_
          refine d_take 13 8191 [0] rfl (v := .int .i64 (last + 1)) (by kernel_rfl) (qp_thn qp_body) (yq (by kernel_rfl) (g_ld 1 [.int .i64 (last + 1)] (.int .i64 (last + 1)) (by kernel_rfl) 0 rfl)) h (by kernel_rfl) ?_
          refine d_take 14 16383 [0] rfl (v := .agg #[.string nm, .int .i64 boot, .int .i64 (last + 1), .bool false, .int .i64 0]) (by kernel_rfl) (qp_thn qp_body) (yq (by kernel_rfl) (g_pure (v := .agg #[.string nm, .int .i64 boot, .int .i64 (last + 1), .bool false, .int .i64 0]) fun _ => by kernel_rfl)) h (by kernel_rfl) ?_
          refine d_ready [15] (by kernel_rfl) rfl ?_
          refine ad_new [1] rfl (by kernel_rfl) (fun b => .pointer (some ⟨b, 0, none⟩)) [.string nm, .int .i64 boot, .int .i64 (last + 1), .bool false, .int .i64 0] 231 (fun _ => by kernel_rfl) h ?_ ?_
          · skip
            intro k18 w h; refine ⟨by kernel_rfl, ?_⟩
            refine d_ready [16] (by kernel_rfl) rfl ?_
            refine ad_mapu [1] rfl (by kernel_rfl) (K := 3) (E := 229) (keyInt (by kernel_rfl)) (last + 1) (.pointer (some ⟨k18, 0, none⟩)) (by kernel_rfl) h 2 rfl ?_ ?_
            · skip
              intro w h; refine ⟨by kernel_rfl, ?_⟩
              refine d_done (by kernel_rfl) ?_
              refine thn_n ?_
              refine c_seq ?_
              refine d_start 11 [1] (by kernel_rfl) h fun w h => ?_
              refine d_take 0 240 [1] rfl (v := .pointer (some ⟨b, 0, none⟩)) (by kernel_rfl) (qp_thn qp_body) (yq (by kernel_rfl) (g_pure (v := .pointer (some ⟨b, 0, none⟩)) fun _ => by kernel_rfl)) h (by kernel_rfl) ?_
              refine d_take 1 241 [1] rfl (v := .pointer (some ⟨b, 0, none⟩)) (by kernel_rfl) (qp_thn qp_body) (yq (by kernel_rfl) (g_pure (v := .pointer (some ⟨b, 0, none⟩)) fun _ => by kernel_rfl)) h (by kernel_rfl) ?_
              refine d_take 2 243 [1] rfl (v := .pointer (some ⟨b, 1, none⟩)) (by kernel_rfl) (qp_thn qp_body) (yq (by kernel_rfl) (g_pure (v := .pointer (some ⟨b, 1, none⟩)) fun _ => by kernel_rfl)) h (by kernel_rfl) ?_
              refine d_take 3 247 [1] rfl (v := .int .i64 (last + 1)) (by kernel_rfl) (qp_thn qp_body) (yq (by kernel_rfl) (g_ld 1 [.int .i64 (last + 1)] (.int .i64 (last + 1)) (by kernel_rfl) 0 rfl)) h (by kernel_rfl) ?_
              refine d_take 4 271 [1] rfl (v := .pointer (some ⟨b, 0, none⟩)) (by kernel_rfl) (qp_thn qp_body) (yq (by kernel_rfl) (g_pure (v := .pointer (some ⟨b, 0, none⟩)) fun _ => by kernel_rfl)) h (by kernel_rfl) ?_
              refine d_take 5 287 [1] rfl (v := .pointer (some ⟨b, 0, none⟩)) (by kernel_rfl) (qp_thn qp_body) (yq (by kernel_rfl) (g_pure (v := .pointer (some ⟨b, 0, none⟩)) fun _ => by kernel_rfl)) h (by kernel_rfl) ?_
              refine d_take 6 319 [1] rfl (v := .pointer (some ⟨b, 1, none⟩)) (by kernel_rfl) (qp_thn qp_body) (yq (by kernel_rfl) (g_pure (v := .pointer (some ⟨b, 1, none⟩)) fun _ => by kernel_rfl)) h (by kernel_rfl) ?_
              refine d_take 7 383 [1] rfl (v := .int .i64 (last + 1)) (by kernel_rfl) (qp_thn qp_body) (yq (by kernel_rfl) (g_ld 1 [.int .i64 (last + 1)] (.int .i64 (last + 1)) (by kernel_rfl) 0 rfl)) h (by kernel_rfl) ?_
              refine d_take 8 255 [1] rfl (v := .int .i64 (last + 1)) (by kernel_rfl) (qp_thn qp_body) (yq (by kernel_rfl) (g_pure (v := .int .i64 (last + 1)) fun _ => by kernel_rfl)) h (by kernel_rfl) ?_
              refine d_take 9 511 [1] rfl (v := .int .i64 (last + 1)) (by kernel_rfl) (qp_thn qp_body) (yq (by kernel_rfl) (g_pure (v := .int .i64 (last + 1)) fun _ => by kernel_rfl)) h (by kernel_rfl) ?_
              refine d_take 10 1023 [1] rfl (v := .nilIface) (by kernel_rfl) (qp_thn qp_body) (yq (by kernel_rfl) (g_pure (v := .nilIface) fun _ => by kernel_rfl)) h (by kernel_rfl) ?_
              refine d_done (by kernel_rfl) ?_
              refine thn_n ?_
              refine c_ret ?_
              have hp1 : aput (adel (l.map lsKV) z2) (last + 1) (.pointer (some ⟨k18, 0, none⟩)) = (regL l nm boot last k18).map lsKV := by rw [adel_ls z2 hk.sorted, reg_del hk hz3]; exact aput_ls (c := (nm, boot, last + 1, false, 0)) (fun e he => by have := hk.ids e (List.mem_filter.1 he).1; omega)
              rw [hp1] at h
              have h := h.pickE (M := [rFam true 231 cliC (l.map lsF), rCell true k18 [.string nm, .int .i64 boot, .int .i64 (last + 1), .bool false, .int .i64 0] 231, rCell true b [.map (some mb), .int .i64 (last + 1), .int .i64 now] 227, rMap true mb ik ((regL l nm boot last k18).map lsKV), rEnv B ad [4], rEnv B ad [9]]) [3, 0, 0, 0, 0, 0] (by kernel_rfl)
              have h := h.famSub (l' := (l.filter (regP nm)).map lsF) (List.filter_sublist.map lsF)
              have h := h.pickE (M := [rCell true k18 [.string nm, .int .i64 boot, .int .i64 (last + 1), .bool false, .int .i64 0] 231, rFam true 231 cliC ((l.filter (regP nm)).map lsF), rCell true b [.map (some mb), .int .i64 (last + 1), .int .i64 now] 227, rMap true mb ik ((regL l nm boot last k18).map lsKV), rEnv B ad [4], rEnv B ad [9]]) [1, 0, 0, 0, 0, 0] (by kernel_rfl)
              have h := h.famAdd (x := (nm, boot, last + 1, false, 0)) rfl
              rw [show (l.filter (regP nm)).map lsF ++ [(k18, (nm, boot, last + 1, false, 0))] = (regL l nm boot last k18).map lsF from by unfold regL regE; rw [List.map_append]; rfl] at h
              refine ret_end [.int .i64 (last + 1), .int .i64 (last + 1), .nilIface] [1, 1, 0, 0, 0] h (by kernel_rfl) (res_t (by kernel_rfl) (res_t (by kernel_rfl) (res_t (by kernel_rfl) res_n))) ?_
              exact .inr (.inr ⟨hq1, fun ks2 hk2 hno => by rw [hk2.len hks13]; omega, k18, rfl, rfl⟩)
            exact ad_nil
          exact ad_nil
      · skip
        subst hc10
        have q19 := hb9.symm
        have q19 := of_decide_eq_false q19
        refine sn (by kernel_rfl) ?_
        refine sn (by kernel_rfl) ?_
        refine sq_p (.bool false) rfl (fun _ => by kernel_rfl) ?_
        refine lnil ?_
        refine thn_n ?_
        refine c_false (by kernel_rfl) ?_
        refine c_skip ?_
        refine thn_n ?_
        refine c_seq ?_
        refine c_reg ?_
        refine sq_p (.pointer (some ⟨b, 0, none⟩)) rfl (fun _ => by kernel_rfl) ?_
        refine sq_p (.pointer (some ⟨b, 0, none⟩)) rfl (fun _ => by kernel_rfl) ?_
        refine sq_p (.pointer (some ⟨b, 0, none⟩)) rfl (fun _ => by kernel_rfl) ?_
        refine sq_q rfl h (g_ld 0 [.map (some mb)] (.map (some mb)) (by kernel_rfl) 0 rfl) ?_
        refine sq_p (.int .i64 z2) rfl (fun _ => by kernel_rfl) ?_
        refine sq_mapd rfl (K := 3) (E := 229) (keyInt (by kernel_rfl)) z2 (by kernel_rfl) h 1 rfl ?_; intro w h
        refine lnil ?_
        refine thn_n ?_
        refine c_seq ?_
        refine c_reg ?_
        refine sq_p (.pointer (some ⟨b, 0, none⟩)) rfl (fun _ => by kernel_rfl) ?_
        refine sq_p (.pointer (some ⟨b, 0, none⟩)) rfl (fun _ => by kernel_rfl) ?_
        refine sq_p (.pointer (some ⟨b, 1, none⟩)) rfl (fun _ => by kernel_rfl) ?_
        refine sq_q rfl h (g_ld 1 [.int .i64 last] (.int .i64 last) (by kernel_rfl) 0 rfl) ?_
        refine sq_q rfl h (g_eq (v := .int .i64 (IntKind.i64.wrap (last + 1))) (v' := .int .i64 (last + 1)) (g_pure fun _ => by kernel_rfl) (wr (by omega))) ?_
        refine sq_p (.pointer (some ⟨b, 0, none⟩)) rfl (fun _ => by kernel_rfl) ?_
        refine sq_p (.pointer (some ⟨b, 1, none⟩)) rfl (fun _ => by kernel_rfl) ?_
        refine sq_st rfl 1 [.int .i64 (last + 1)] [.map (some mb), .int .i64 (last + 1), .int .i64 now] h 0 rfl (by kernel_rfl) ?_; intro w h
        refine lnil ?_
        refine thn_n ?_
        refine c_seq ?_
        refine d_start 17 [0] (by kernel_rfl) h fun w h => ?_
        refine d_take 0 65520 [0] rfl (v := .pointer (some ⟨b, 0, none⟩)) (by kernel_rfl) (qp_thn qp_body) (yq (by kernel_rfl) (g_pure (v := .pointer (some ⟨b, 0, none⟩)) fun _ => by kernel_rfl)) h (by kernel_rfl) ?_
        refine d_take 1 65521 [0] rfl (v := .pointer (some ⟨b, 0, none⟩)) (by kernel_rfl) (qp_thn qp_body) (yq (by kernel_rfl) (g_pure (v := .pointer (some ⟨b, 0, none⟩)) fun _ => by kernel_rfl)) h (by kernel_rfl) ?_
        refine d_take 2 65523 [0] rfl (v := .pointer (some ⟨b, 0, none⟩)) (by kernel_rfl) (qp_thn qp_body) (yq (by kernel_rfl) (g_pure (v := .pointer (some ⟨b, 0, none⟩)) fun _ => by kernel_rfl)) h (by kernel_rfl) ?_
        refine d_take 3 65527 [0] rfl (v := .map (some mb)) (by kernel_rfl) (qp_thn qp_body) (yq (by kernel_rfl) (g_ld 0 [.map (some mb)] (.map (some mb)) (by kernel_rfl) 0 rfl)) h (by kernel_rfl) ?_
        refine d_take 4 65295 [0] rfl (v := .pointer (some ⟨b, 0, none⟩)) (by kernel_rfl) (qp_thn qp_body) (yq (by kernel_rfl) (g_pure (v := .pointer (some ⟨b, 0, none⟩)) fun _ => by kernel_rfl)) h (by kernel_rfl) ?_
        refine d_take 5 65311 [0] rfl (v := .pointer (some ⟨b, 0, none⟩)) (by kernel_rfl) (qp_thn qp_body) (yq (by kernel_rfl) (g_pure (v := .pointer (some ⟨b, 0, none⟩)) fun _ => by kernel_rfl)) h (by kernel_rfl) ?_
        refine d_take 6 65343 [0] rfl (v := .pointer (some ⟨b, 1, none⟩)) (by kernel_rfl) (qp_thn qp_body) (yq (by kernel_rfl) (g_pure (v := .pointer (some ⟨b, 1, none⟩)) fun _ => by kernel_rfl)) h (by kernel_rfl) ?_
        refine d_take 7 65407 [0] rfl (v := .int .i64 (last + 1)) (by kernel_rfl) (qp_thn qp_body) (yq (by kernel_rfl) (g_ld 1 [.int .i64 (last + 1)] (.int .i64 (last + 1)) (by kernel_rfl) 0 rfl)) h (by kernel_rfl) ?_
        refine d_take 8 16127 [0] rfl (v := .string nm) (by kernel_rfl) (qp_thn qp_body) (yq (by kernel_rfl) (g_pure (v := .string nm) fun _ => by kernel_rfl)) h (by kernel_rfl) ?_
        refine d_take 9 15871 [0] rfl (v := .int .i64 boot) (by kernel_rfl) (qp_thn qp_body) (yq (by kernel_rfl) (g_pure (v := .int .i64 boot) fun _ => by kernel_rfl)) h (by kernel_rfl) ?_
        refine d_take 10 1023 [0] rfl (v := .pointer (some ⟨b, 0, none⟩)) (by kernel_rfl) (qp_thn qp_body) (yq (by kernel_rfl) (g_pure (v := .pointer (some ⟨b, 0, none⟩)) fun _ => by kernel_rfl)) h (by kernel_rfl) ?_
        refine d_take 11 2047 [0] rfl (v := .pointer (some ⟨b, 0, none⟩)) (by kernel_rfl) (qp_thn qp_body) (yq (by kernel_rfl) (g_pure (v := .pointer (some ⟨b, 0, none⟩)) fun _ => by kernel_rfl)) h (by kernel_rfl) ?_
        refine d_take 12 4095 [0] rfl (v := .pointer (some ⟨b, 1, none⟩)) (by kernel_rfl) (qp_thn qp_body) (yq (by kernel_rfl) (g_pure (v := .pointer (some ⟨b, 1, none⟩)) fun _ => by kernel_rfl)) h (by kernel_rfl) ?_
        refine d_take 13 8191 [0] rfl (v := .int .i64 (last + 1)) (by kernel_rfl) (qp_thn qp_body) (yq (by kernel_rfl) (g_ld 1 [.int .i64 (last + 1)] (.int .i64 (last + 1)) (by kernel_rfl) 0 rfl)) h (by kernel_rfl) ?_
        refine d_take 14 16383 [0] rfl (v := .agg #[.string nm, .int .i64 boot, .int .i64 (last + 1), .bool false, .int .i64 0]) (by kernel_rfl) (qp_thn qp_body) (yq (by kernel_rfl) (g_pure (v := .agg #[.string nm, .int .i64 boot, .int .i64 (last + 1), .bool false, .int .i64 0]) fun _ => by kernel_rfl)) h (by kernel_rfl) ?_
        refine d_ready [15] (by kernel_rfl) rfl ?_
        refine ad_new [1] rfl (by kernel_rfl) (fun b => .pointer (some ⟨b, 0, none⟩)) [.string nm, .int .i64 boot, .int .i64 (last + 1), .bool false, .int .i64 0] 231 (fun _ => by kernel_rfl) h ?_ ?_
        · skip
          intro k20 w h; refine ⟨by kernel_rfl, ?_⟩
          refine d_ready [16] (by kernel_rfl) rfl ?_
          refine ad_mapu [1] rfl (by kernel_rfl) (K := 3) (E := 229) (keyInt (by kernel_rfl)) (last + 1) (.pointer (some ⟨k20, 0, none⟩)) (by kernel_rfl) h 2 rfl ?_ ?_
          · skip
            intro w h; refine ⟨by kernel_rfl, ?_⟩
            refine d_done (by kernel_rfl) ?_
            refine thn_n ?_
            refine c_seq ?_
            refine d_start 11 [1] (by kernel_rfl) h fun w h => ?_
            refine d_take 0 240 [1] rfl (v := .pointer (some ⟨b, 0, none⟩)) (by kernel_rfl) (qp_thn qp_body) (yq (by kernel_rfl) (g_pure (v := .pointer (some ⟨b, 0, none⟩)) fun _ => by kernel_rfl)) h (by kernel_rfl) ?_
            refine d_take 1 241 [1] rfl (v := .pointer (some ⟨b, 0, none⟩)) (by kernel_rfl) (qp_thn qp_body) (yq (by kernel_rfl) (g_pure (v := .pointer (some ⟨b, 0, none⟩)) fun _ => by kernel_rfl)) h (by kernel_rfl) ?_
            refine d_take 2 243 [1] rfl (v := .pointer (some ⟨b, 1, none⟩)) (by kernel_rfl) (qp_thn qp_body) (yq (by kernel_rfl) (g_pure (v := .pointer (some ⟨b, 1, none⟩)) fun _ => by kernel_rfl)) h (by kernel_rfl) ?_
            refine d_take 3 247 [1] rfl (v := .int .i64 (last + 1)) (by kernel_rfl) (qp_thn qp_body) (yq (by kernel_rfl) (g_ld 1 [.int .i64 (last + 1)] (.int .i64 (last + 1)) (by kernel_rfl) 0 rfl)) h (by kernel_rfl) ?_
            refine d_take 4 271 [1] rfl (v := .pointer (some ⟨b, 0, none⟩)) (by kernel_rfl) (qp_thn qp_body) (yq (by kernel_rfl) (g_pure (v := .pointer (some ⟨b, 0, none⟩)) fun _ => by kernel_rfl)) h (by kernel_rfl) ?_
            refine d_take 5 287 [1] rfl (v := .pointer (some ⟨b, 0, none⟩)) (by kernel_rfl) (qp_thn qp_body) (yq (by kernel_rfl) (g_pure (v := .pointer (some ⟨b, 0, none⟩)) fun _ => by kernel_rfl)) h (by kernel_rfl) ?_
            refine d_take 6 319 [1] rfl (v := .pointer (some ⟨b, 1, none⟩)) (by kernel_rfl) (qp_thn qp_body) (yq (by kernel_rfl) (g_pure (v := .pointer (some ⟨b, 1, none⟩)) fun _ => by kernel_rfl)) h (by kernel_rfl) ?_
            refine d_take 7 383 [1] rfl (v := .int .i64 (last + 1)) (by kernel_rfl) (qp_thn qp_body) (yq (by kernel_rfl) (g_ld 1 [.int .i64 (last + 1)] (.int .i64 (last + 1)) (by kernel_rfl) 0 rfl)) h (by kernel_rfl) ?_
            refine d_take 8 255 [1] rfl (v := .int .i64 (last + 1)) (by kernel_rfl) (qp_thn qp_body) (yq (by kernel_rfl) (g_pure (v := .int .i64 (last + 1)) fun _ => by kernel_rfl)) h (by kernel_rfl) ?_
            refine d_take 9 511 [1] rfl (v := .int .i64 (last + 1)) (by kernel_rfl) (qp_thn qp_body) (yq (by kernel_rfl) (g_pure (v := .int .i64 (last + 1)) fun _ => by kernel_rfl)) h (by kernel_rfl) ?_
            refine d_take 10 1023 [1] rfl (v := .nilIface) (by kernel_rfl) (qp_thn qp_body) (yq (by kernel_rfl) (g_pure (v := .nilIface) fun _ => by kernel_rfl)) h (by kernel_rfl) ?_
            refine d_done (by kernel_rfl) ?_
            refine thn_n ?_
            refine c_ret ?_
            have hp1 : aput (adel (l.map lsKV) z2) (last + 1) (.pointer (some ⟨k20, 0, none⟩)) = (regL l nm boot last k20).map lsKV := by rw [adel_ls z2 hk.sorted, reg_del hk hz3]; exact aput_ls (c := (nm, boot, last + 1, false, 0)) (fun e he => by have := hk.ids e (List.mem_filter.1 he).1; omega)
            rw [hp1] at h
            have h := h.pickE (M := [rFam true 231 cliC (l.map lsF), rCell true k20 [.string nm, .int .i64 boot, .int .i64 (last + 1), .bool false, .int .i64 0] 231, rCell true b [.map (some mb), .int .i64 (last + 1), .int .i64 now] 227, rMap true mb ik ((regL l nm boot last k20).map lsKV), rEnv B ad [4], rEnv B ad [9]]) [3, 0, 0, 0, 0, 0] (by kernel_rfl)
            have h := h.famSub (l' := (l.filter (regP nm)).map lsF) (List.filter_sublist.map lsF)
            have h := h.pickE (M := [rCell true k20 [.string nm, .int .i64 boot, .int .i64 (last + 1), .bool false, .int .i64 0] 231, rFam true 231 cliC ((l.filter (regP nm)).map lsF), rCell true b [.map (some mb), .int .i64 (last + 1), .int .i64 now] 227, rMap true mb ik ((regL l nm boot last k20).map lsKV), rEnv B ad [4], rEnv B ad [9]]) [1, 0, 0, 0, 0, 0] (by kernel_rfl)
            have h := h.famAdd (x := (nm, boot, last + 1, false, 0)) rfl
            rw [show (l.filter (regP nm)).map lsF ++ [(k20, (nm, boot, last + 1, false, 0))] = (regL l nm boot last k20).map lsF from by unfold regL regE; rw [List.map_append]; rfl] at h
            refine ret_end [.int .i64 (last + 1), .int .i64 (last + 1), .nilIface] [1, 1, 0, 0, 0] h (by kernel_rfl) (res_t (by kernel_rfl) (res_t (by kernel_rfl) (res_t (by kernel_rfl) res_n))) ?_
            exact .inr (.inr ⟨hq1, fun ks2 hk2 hno => by exfalso; have := (none_both hk hz3 hz8).2 hno; omega, k20, rfl, rfl⟩)
          exact ad_nil
        exact ad_nil
    · skip
      subst hc5
      have q21 := hb4.symm
      have q21 := of_decide_eq_false q21
      refine sn (by kernel_rfl) ?_
      refine sn (by kernel_rfl) ?_
      refine sq_p (.bool false) rfl (fun _ => by kernel_rfl) ?_
      refine sq_p (.bool false) rfl (fun _ => by kernel_rfl) ?_
      refine sn (by kernel_rfl) ?_
      refine sn (by kernel_rfl) ?_
      refine sn (by kernel_rfl) ?_
      refine sq_p (.bool false) rfl (fun _ => by kernel_rfl) ?_
      refine lnil ?_
      refine thn_n ?_
      refine c_false (by kernel_rfl) ?_
      refine c_skip ?_
      refine thn_n ?_
      refine c_seq ?_
      refine c_reg ?_
      refine sq_p (.pointer (some ⟨b, 0, none⟩)) rfl (fun _ => by kernel_rfl) ?_
      refine sq_p (.pointer (some ⟨b, 0, none⟩)) rfl (fun _ => by kernel_rfl) ?_
      refine sq_p (.pointer (some ⟨b, 0, none⟩)) rfl (fun _ => by kernel_rfl) ?_
      refine sq_q rfl h (g_ld 0 [.map (some mb)] (.map (some mb)) (by kernel_rfl) 0 rfl) ?_
      refine sq_p (.int .i64 z2) rfl (fun _ => by kernel_rfl) ?_
      refine sq_mapd rfl (K := 3) (E := 229) (keyInt (by kernel_rfl)) z2 (by kernel_rfl) h 1 rfl ?_; intro w h
      refine lnil ?_
      refine thn_n ?_
      refine c_seq ?_
      refine c_reg ?_
      refine sq_p (.pointer (some ⟨b, 0, none⟩)) rfl (fun _ => by kernel_rfl) ?_
      refine sq_p (.pointer (some ⟨b, 0, none⟩)) rfl (fun _ => by kernel_rfl) ?_
      refine sq_p (.pointer (some ⟨b, 1, none⟩)) rfl (fun _ => by kernel_rfl) ?_
      refine sq_q rfl h (g_ld 1 [.int .i64 last] (.int .i64 last) (by kernel_rfl) 0 rfl) ?_
      refine sq_q rfl h (g_eq (v := .int .i64 (IntKind.i64.wrap (last + 1))) (v' := .int .i64 (last + 1)) (g_pure fun _ => by kernel_rfl) (wr (by omega))) ?_
      refine sq_p (.pointer (some ⟨b, 0, none⟩)) rfl (fun _ => by kernel_rfl) ?_
      refine sq_p (.pointer (some ⟨b, 1, none⟩)) rfl (fun _ => by kernel_rfl) ?_
      refine sq_st rfl 1 [.int .i64 (last + 1)] [.map (some mb), .int .i64 (last + 1), .int .i64 now] h 0 rfl (by kernel_rfl) ?_; intro w h
      refine lnil ?_
      refine thn_n ?_
      refine c_seq ?_
      refine d_start 17 [0] (by kernel_rfl) h fun w h => ?_
      refine d_take 0 65520 [0] rfl (v := .pointer (some ⟨b, 0, none⟩)) (by kernel_rfl) (qp_thn qp_body) (yq (by kernel_rfl) (g_pure (v := .pointer (some ⟨b, 0, none⟩)) fun _ => by kernel_rfl)) h (by kernel_rfl) ?_
      refine d_take 1 65521 [0] rfl (v := .pointer (some ⟨b, 0, none⟩)) (by kernel_rfl) (qp_thn qp_body) (yq (by kernel_rfl) (g_pure (v := .pointer (some ⟨b, 0, none⟩)) fun _ => by kernel_rfl)) h (by kernel_rfl) ?_
      refine d_take 2 65523 [0] rfl (v := .pointer (some ⟨b, 0, none⟩)) (by kernel_rfl) (qp_thn qp_body) (yq (by kernel_rfl) (g_pure (v := .pointer (some ⟨b, 0, none⟩)) fun _ => by kernel_rfl)) h (by kernel_rfl) ?_
      refine d_take 3 65527 [0] rfl (v := .map (some mb)) (by kernel_rfl) (qp_thn qp_body) (yq (by kernel_rfl) (g_ld 0 [.map (some mb)] (.map (some mb)) (by kernel_rfl) 0 rfl)) h (by kernel_rfl) ?_
      refine d_take 4 65295 [0] rfl (v := .pointer (some ⟨b, 0, none⟩)) (by kernel_rfl) (qp_thn qp_body) (yq (by kernel_rfl) (g_pure (v := .pointer (some ⟨b, 0, none⟩)) fun _ => by kernel_rfl)) h (by kernel_rfl) ?_
      refine d_take 5 65311 [0] rfl (v := .pointer (some ⟨b, 0, none⟩)) (by kernel_rfl) (qp_thn qp_body) (yq (by kernel_rfl) (g_pure (v := .pointer (some ⟨b, 0, none⟩)) fun _ => by kernel_rfl)) h (by kernel_rfl) ?_
      refine d_take 6 65343 [0] rfl (v := .pointer (some ⟨b, 1, none⟩)) (by kernel_rfl) (qp_thn qp_body) (yq (by kernel_rfl) (g_pure (v := .pointer (some ⟨b, 1, none⟩)) fun _ => by kernel_rfl)) h (by kernel_rfl) ?_
      refine d_take 7 65407 [0] rfl (v := .int .i64 (last + 1)) (by kernel_rfl) (qp_thn qp_body) (yq (by kernel_rfl) (g_ld 1 [.int .i64 (last + 1)] (.int .i64 (last + 1)) (by kernel_rfl) 0 rfl)) h (by kernel_rfl) ?_
      refine d_take 8 16127 [0] rfl (v := .string nm) (by kernel_rfl) (qp_thn qp_body) (yq (by kernel_rfl) (g_pure (v := .string nm) fun _ => by kernel_rfl)) h (by kernel_rfl) ?_
      refine d_take 9 15871 [0] rfl (v := .int .i64 boot) (by kernel_rfl) (qp_thn qp_body) (yq (by kernel_rfl) (g_pure (v := .int .i64 boot) fun _ => by kernel_rfl)) h (by kernel_rfl) ?_
      refine d_take 10 1023 [0] rfl (v := .pointer (some ⟨b, 0, none⟩)) (by kernel_rfl) (qp_thn qp_body) (yq (by kernel_rfl) (g_pure (v := .pointer (some ⟨b, 0, none⟩)) fun _ => by kernel_rfl)) h (by kernel_rfl) ?_
      refine d_take 11 2047 [0] rfl (v := .pointer (some ⟨b, 0, none⟩)) (by kernel_rfl) (qp_thn qp_body) (yq (by kernel_rfl) (g_pure (v := .pointer (some ⟨b, 0, none⟩)) fun _ => by kernel_rfl)) h (by kernel_rfl) ?_
      refine d_take 12 4095 [0] rfl (v := .pointer (some ⟨b, 1, none⟩)) (by kernel_rfl) (qp_thn qp_body) (yq (by kernel_rfl) (g_pure (v := .pointer (some ⟨b, 1, none⟩)) fun _ => by kernel_rfl)) h (by kernel_rfl) ?_
      refine d_take 13 8191 [0] rfl (v := .int .i64 (last + 1)) (by kernel_rfl) (qp_thn qp_body) (yq (by kernel_rfl) (g_ld 1 [.int .i64 (last + 1)] (.int .i64 (last + 1)) (by kernel_rfl) 0 rfl)) h (by kernel_rfl) ?_
      refine d_take 14 16383 [0] rfl (v := .agg #[.string nm, .int .i64 boot, .int .i64 (last + 1), .bool false, .int .i64 0]) (by kernel_rfl) (qp_thn qp_body) (yq (by kernel_rfl) (g_pure (v := .agg #[.string nm, .int .i64 boot, .int .i64 (last + 1), .bool false, .int .i64 0]) fun _ => by kernel_rfl)) h (by kernel_rfl) ?_
      refine d_ready [15] (by kernel_rfl) rfl ?_
      refine ad_new [1] rfl (by kernel_rfl) (fun b => .pointer (some ⟨b, 0, none⟩)) [.string nm, .int .i64 boot, .int .i64 (last + 1), .bool false, .int .i64 0] 231 (fun _ => by kernel_rfl) h ?_ ?_
      · skip
        intro k22 w h; refine ⟨by kernel_rfl, ?_⟩
        refine d_ready [16] (by kernel_rfl) rfl ?_
        refine ad_mapu [1] rfl (by kernel_rfl) (K := 3) (E := 229) (keyInt (by kernel_rfl)) (last + 1) (.pointer (some ⟨k22, 0, none⟩)) (by kernel_rfl) h 2 rfl ?_ ?_
        · skip
          intro w h; refine ⟨by kernel_rfl, ?_⟩
          refine d_done (by kernel_rfl) ?_
          refine thn_n ?_
          refine c_seq ?_
          refine d_start 11 [1] (by kernel_rfl) h fun w h => ?_
          refine d_take 0 240 [1] rfl (v := .pointer (some ⟨b, 0, none⟩)) (by kernel_rfl) (qp_thn qp_body) (yq (by kernel_rfl) (g_pure (v := .pointer (some ⟨b, 0, none⟩)) fun _ => by kernel_rfl)) h (by kernel_rfl) ?_
          refine d_take 1 241 [1] rfl (v := .pointer (some ⟨b, 0, none⟩)) (by kernel_rfl) (qp_thn qp_body) (yq (by kernel_rfl) (g_pure (v := .pointer (some ⟨b, 0, none⟩)) fun _ => by kernel_rfl)) h (by kernel_rfl) ?_
          refine d_take 2 243 [1] rfl (v := .pointer (some ⟨b, 1, none⟩)) (by kernel_rfl) (qp_thn qp_body) (yq (by kernel_rfl) (g_pure (v := .pointer (some ⟨b, 1, none⟩)) fun _ => by kernel_rfl)) h (by kernel_rfl) ?_
          refine d_take 3 247 [1] rfl (v := .int .i64 (last + 1)) (by kernel_rfl) (qp_thn qp_body) (yq (by kernel_rfl) (g_ld 1 [.int .i64 (last + 1)] (.int .i64 (last + 1)) (by kernel_rfl) 0 rfl)) h (by kernel_rfl) ?_
          refine d_take 4 271 [1] rfl (v := .pointer (some ⟨b, 0, none⟩)) (by kernel_rfl) (qp_thn qp_body) (yq (by kernel_rfl) (g_pure (v := .pointer (some ⟨b, 0, none⟩)) fun _ => by kernel_rfl)) h (by kernel_rfl) ?_
          refine d_take 5 287 [1] rfl (v := .pointer (some ⟨b, 0, none⟩)) (by kernel_rfl) (qp_thn qp_body) (yq (by kernel_rfl) (g_pure (v := .pointer (some ⟨b, 0, none⟩)) fun _ => by kernel_rfl)) h (by kernel_rfl) ?_
          refine d_take 6 319 [1] rfl (v := .pointer (some ⟨b, 1, none⟩)) (by kernel_rfl) (qp_thn qp_body) (yq (by kernel_rfl) (g_pure (v := .pointer (some ⟨b, 1, none⟩)) fun _ => by kernel_rfl)) h (by kernel_rfl) ?_
          refine d_take 7 383 [1] rfl (v := .int .i64 (last + 1)) (by kernel_rfl) (qp_thn qp_body) (yq (by kernel_rfl) (g_ld 1 [.int .i64 (last + 1)] (.int .i64 (last + 1)) (by kernel_rfl) 0 rfl)) h (by kernel_rfl) ?_
          refine d_take 8 255 [1] rfl (v := .int .i64 (last + 1)) (by kernel_rfl) (qp_thn qp_body) (yq (by kernel_rfl) (g_pure (v := .int .i64 (last + 1)) fun _ => by kernel_rfl)) h (by kernel_rfl) ?_
          refine d_take 9 511 [1] rfl (v := .int .i64 (last + 1)) (by kernel_rfl) (qp_thn qp_body) (yq (by kernel_rfl) (g_pure (v := .int .i64 (last + 1)) fun _ => by kernel_rfl)) h (by kernel_rfl) ?_
          refine d_take 10 1023 [1] rfl (v := .nilIface) (by kernel_rfl) (qp_thn qp_body) (yq (by kernel_rfl) (g_pure (v := .nilIface) fun _ => by kernel_rfl)) h (by kernel_rfl) ?_
          refine d_done (by kernel_rfl) ?_
          refine thn_n ?_
          refine c_ret ?_
          have hp1 : aput (adel (l.map lsKV) z2) (last + 1) (.pointer (some ⟨k22, 0, none⟩)) = (regL l nm boot last k22).map lsKV := by rw [adel_ls z2 hk.sorted, reg_del hk hz3]; exact aput_ls (c := (nm, boot, last + 1, false, 0)) (fun e he => by have := hk.ids e (List.mem_filter.1 he).1; omega)
          rw [hp1] at h
          have h := h.pickE (M := [rFam true 231 cliC (l.map lsF), rCell true k22 [.string nm, .int .i64 boot, .int .i64 (last + 1), .bool false, .int .i64 0] 231, rCell true b [.map (some mb), .int .i64 (last + 1), .int .i64 now] 227, rMap true mb ik ((regL l nm boot last k22).map lsKV), rEnv B ad [4], rEnv B ad [9]]) [3, 0, 0, 0, 0, 0] (by kernel_rfl)
          have h := h.famSub (l' := (l.filter (regP nm)).map lsF) (List.filter_sublist.map lsF)
          have h := h.pickE (M := [rCell true k22 [.string nm, .int .i64 boot, .int .i64 (last + 1), .bool false, .int .i64 0] 231, rFam true 231 cliC ((l.filter (regP nm)).map lsF), rCell true b [.map (some mb), .int .i64 (last + 1), .int .i64 now] 227, rMap true mb ik ((regL l nm boot last k22).map lsKV), rEnv B ad [4], rEnv B ad [9]]) [1, 0, 0, 0, 0, 0] (by kernel_rfl)
          have h := h.famAdd (x := (nm, boot, last + 1, false, 0)) rfl
          rw [show (l.filter (regP nm)).map lsF ++ [(k22, (nm, boot, last + 1, false, 0))] = (regL l nm boot last k22).map lsF from by unfold regL regE; rw [List.map_append]; rfl] at h
          refine ret_end [.int .i64 (last + 1), .int .i64 (last + 1), .nilIface] [1, 1, 0, 0, 0] h (by kernel_rfl) (res_t (by kernel_rfl) (res_t (by kernel_rfl) (res_t (by kernel_rfl) res_n))) ?_
          exact .inr (.inr ⟨hq1, fun ks2 hk2 hno => by exfalso; rcases hz3 with ⟨x, hx, q, _⟩ | ⟨_, q⟩; exact hno ⟨x, hx, q⟩; omega, k22, rfl, rfl⟩)
        exact ad_nil
      exact ad_nil
  · skip
    refine sq_p (errV ad 4) rfl (fun _ => by kernel_rfl) ?_
    refine lnil ?_
    refine thn_n ?_
    refine c_seq ?_
    refine c_reg ?_
    refine sq_p (errV ad 4) rfl (fun _ => by kernel_rfl) ?_
    refine sq_p (.bool true) rfl (fun _ => by kernel_rfl) ?_
    refine lnil ?_
    refine thn_n ?_
    refine c_true (by kernel_rfl) ?_
    refine c_seq ?_
    refine c_reg ?_
    refine sq_p (errV ad 4) rfl (fun _ => by kernel_rfl) ?_
    refine sq_p (.int .i64 0) rfl (fun _ => by kernel_rfl) ?_
    refine sq_p (.int .i64 0) rfl (fun _ => by kernel_rfl) ?_
    refine sq_p (errV ad 4) rfl (fun _ => by kernel_rfl) ?_
    refine lnil ?_
    refine thn_n ?_
    refine c_ret ?_
    refine thn_r ?_
    refine ret_end [.int .i64 0, .int .i64 0, errV ad 4] [1, 1, 1, 0, 0] h (by kernel_rfl) (res_t (by kernel_rfl) (res_t (by kernel_rfl) (res_t (by kernel_rfl) res_n))) ?_
    exact .inl ⟨hq1, rfl, rfl⟩
set_option maxHeartbeats 1000000 in
theorem confirmN_spec {B : Nat} (ad : Nat → Addr) (b mb : Nat) (l : List Ls) (last now : Int) (hk : LsOk l last now) (hb : last ≤ 1000) (hw : now ≤ 9000000000000000) (i : Int) (hn : ∀ e ∈ l, e.1 ≠ i) (k : Int) : Spec Tryd.prog 72 #[.pointer (some ⟨b, 0, none⟩), .int .i64 i, .int .i64 k] [rCell true b [.map (some mb), .int .i64 last, .int .i64 now] 227, rMap true mb ik (l.map lsKV), rFam true 231 cliC (l.map lsF), rEnv B ad [5], rEnv B ad [3]] (fun u L => u = .tuple #[.int .i64 0, errV ad 5] ∧ L = [rCell true b [.map (some mb), .int .i64 last, .int .i64 now] 227, rMap true mb ik (l.map lsKV), rFam true 231 cliC (l.map lsF), rEnv B ad [5], rEnv B ad [3]]) := by
  refine spec_of (#[.pointer (some ⟨b, 0, none⟩), .int .i64 i, .int .i64 k, undef, undef, undef, undef, undef, undef, undef, undef, undef, undef, undef, undef, undef, undef, undef, undef, undef, undef, undef, undef, undef, undef, undef, undef, undef, undef, undef, undef, undef, undef, undef, undef, undef, undef, undef, undef, undef, undef, undef, undef, undef, undef, undef, undef, undef, undef, undef, undef, undef, undef, undef, undef, undef, undef, undef, undef]) Tryd.func72 rfl (by kernel_rfl) fun E w0 w h => ?_
  refine c_seq ?_
  refine c_reg ?_
  refine sq_p (.int .i64 0) rfl (fun _ => by kernel_rfl) ?_
  refine sq_p (.nilIface) rfl (fun _ => by kernel_rfl) ?_
  refine lnil ?_
  refine thn_n ?_
  refine c_seq ?_
  refine c_reg ?_
  refine sq_p (.pointer (some ⟨b, 0, none⟩)) rfl (fun _ => by kernel_rfl) ?_
  refine sq_p (.pointer (some ⟨b, 0, none⟩)) rfl (fun _ => by kernel_rfl) ?_
  refine sq_p (.pointer (some ⟨b, 0, none⟩)) rfl (fun _ => by kernel_rfl) ?_
  refine sq_q rfl h (g_ld 0 [.map (some mb)] (.map (some mb)) (by kernel_rfl) 0 rfl) ?_
  refine sq_p (.int .i64 i) rfl (fun _ => by kernel_rfl) ?_
  refine sq_q rfl h (g_eq (v' := .tuple #[.pointer none, .bool false]) (g_look (K := 3) (E := 229) (z := (.pointer none)) (kv := (l.map lsKV)) (ok := true) (keyInt (by kernel_rfl)) i (by kernel_rfl) (fun _ => by kernel_rfl) 1 rfl) (by rw [aget_none_ls hn]; rfl)) ?_
  refine sq_p (.tuple #[.pointer none, .bool false]) rfl (fun _ => by kernel_rfl) ?_
  refine sq_p (.pointer none) rfl (fun _ => by kernel_rfl) ?_
  refine sq_p (.bool false) rfl (fun _ => by kernel_rfl) ?_
  refine sq_p (.pointer none) rfl (fun _ => by kernel_rfl) ?_
  refine sq_p (.bool false) rfl (fun _ => by kernel_rfl) ?_
  refine lnil ?_
  refine thn_n ?_
  refine c_seq ?_
  refine c_block ?_
  refine c_seq ?_
  refine c_reg ?_
  refine sq_p (.bool false) rfl (fun _ => by kernel_rfl) ?_
  refine sq_p (.bool true) rfl (fun _ => by kernel_rfl) ?_
  refine sq_p (.bool true) rfl (fun _ => by kernel_rfl) ?_
  refine lnil ?_
  refine thn_n ?_
  refine c_true (by kernel_rfl) ?_
  refine c_seq ?_
  refine d_start 3 [3] (by kernel_rfl) h fun w h => ?_
  refine d_take 0 2 [3] rfl (v := errV ad 5) (by kernel_rfl) (qp_thn (qp_blk (qp_thn qp_body))) (yq (by kernel_rfl) (g_ldr (b := gl 5) 0 [errV ad 5] (errV ad 5) (by kernel_rfl) 0 rfl (rdEnv (c := 5) (by decide) rfl))) h (by kernel_rfl) ?_
  refine d_take 1 1 [3] rfl (v := .int .i64 0) (by kernel_rfl) (qp_thn (qp_blk (qp_thn qp_body))) (yq (by kernel_rfl) (g_pure (v := .int .i64 0) fun _ => by kernel_rfl)) h (by kernel_rfl) ?_
  refine d_take 2 3 [3] rfl (v := errV ad 5) (by kernel_rfl) (qp_thn (qp_blk (qp_thn qp_body))) (yq (by kernel_rfl) (g_pure (v := errV ad 5) fun _ => by kernel_rfl)) h (by kernel_rfl) ?_
  refine d_done (by kernel_rfl) ?_
  refine thn_n ?_
  refine c_ret ?_
  refine blk_r (thn_r ?_)
  refine ret_end [.int .i64 0, errV ad 5] [0, 0, 0, 0, 0] h (by kernel_rfl) (res_t (by kernel_rfl) (res_t (by kernel_rfl) res_n)) ?_
  exact ⟨rfl, rfl⟩

theorem set_sorted {l : List Ls} (hd : l.Pairwise (fun x y : Ls => x.1 < y.1)) {j : Nat} {e e' : Ls} (hj : l[j]? = some e) (h1 : e'.1 = e.1) : (l.set j e').Pairwise (fun x y : Ls => x.1 < y.1) := by
  have e1 : (l.set j e').map (fun x : Ls => x.1) = l.map fun x => x.1 := by
    rw [List.map_set, h1]
    apply List.ext_getElem?
    intro i
    rw [List.getElem?_set]
    by_cases hij : j = i
    · subst hij
      obtain ⟨hlt, rfl⟩ := List.getElem?_eq_some_iff.1 hj
      simp [hlt]
    · rw [if_neg hij]
  have h2 : (l.map fun x : Ls => x.1).Pairwise (· < ·) := by rw [List.pairwise_map]; exact hd
  rw [← e1, List.pairwise_map] at h2
  exact h2

set_option maxHeartbeats 1000000 in
theorem confirmT_spec {B : Nat} (ad : Nat → Addr) (b mb : Nat) (l : List Ls) (last now : Int) (hk : LsOk l last now) (hb : last ≤ 1000) (hw : now ≤ 9000000000000000) (i : Int) (j bk : Nat) (nm : ByteArray) (bt ky sn : Int) (hj : l[j]? = some (i, bk, nm, bt, ky, true, sn)) (k : Int) : Spec Tryd.prog 72 #[.pointer (some ⟨b, 0, none⟩), .int .i64 i, .int .i64 k] [rCell true b [.map (some mb), .int .i64 last, .int .i64 now] 227, rMap true mb ik (l.map lsKV), rFam true 231 cliC (l.map lsF), rEnv B ad [5], rEnv B ad [3]] (fun u L => (ky ≠ k ∧ u = .tuple #[.int .i64 0, errV ad 3] ∧ L = [rCell true b [.map (some mb), .int .i64 last, .int .i64 now] 227, rMap true mb ik (l.map lsKV), rFam true 231 cliC (l.map lsF), rEnv B ad [5], rEnv B ad [3]]) ∨ (ky = k ∧ u = .tuple #[.int .i64 (confG l (i, bk, nm, bt, ky, true, sn)), .nilIface] ∧ L = [rCell true b [.map (some mb), .int .i64 last, .int .i64 now] 227, rMap true mb ik ((confL l j (i, bk, nm, bt, ky, true, sn) now).map lsKV), rFam true 231 cliC ((confL l j (i, bk, nm, bt, ky, true, sn) now).map lsF), rEnv B ad [5], rEnv B ad [3]])) := by
  have hfw := hk.few
  have hpos := hk.pos
  refine spec_of (#[.pointer (some ⟨b, 0, none⟩), .int .i64 i, .int .i64 k, undef, undef, undef, undef, undef, undef, undef, undef, undef, undef, undef, undef, undef, undef, undef, undef, undef, undef, undef, undef, undef, undef, undef, undef, undef, undef, undef, undef, undef, undef, undef, undef, undef, undef, undef, undef, undef, undef, undef, undef, undef, undef, undef, undef, undef, undef, undef, undef, undef, undef, undef, undef, undef, undef, undef, undef]) Tryd.func72 rfl (by kernel_rfl) fun E w0 w h => ?_
  have hx0 : (l.map lsF)[j]? = some (bk, nm, bt, ky, true, sn) := by rw [List.getElem?_map, hj]; rfl
  refine c_seq ?_
  refine c_reg ?_
  refine sq_p (.int .i64 0) rfl (fun _ => by kernel_rfl) ?_
  refine sq_p (.nilIface) rfl (fun _ => by kernel_rfl) ?_
  refine lnil ?_
  refine thn_n ?_
  refine c_seq ?_
  refine c_reg ?_
  refine sq_p (.pointer (some ⟨b, 0, none⟩)) rfl (fun _ => by kernel_rfl) ?_
  refine sq_p (.pointer (some ⟨b, 0, none⟩)) rfl (fun _ => by kernel_rfl) ?_
  refine sq_p (.pointer (some ⟨b, 0, none⟩)) rfl (fun _ => by kernel_rfl) ?_
  refine sq_q rfl h (g_ld 0 [.map (some mb)] (.map (some mb)) (by kernel_rfl) 0 rfl) ?_
  refine sq_p (.int .i64 i) rfl (fun _ => by kernel_rfl) ?_
  refine sq_q rfl h (g_eq (v' := .tuple #[.pointer (some ⟨bk, 0, none⟩), .bool true]) (g_look (K := 3) (E := 229) (z := (.pointer none)) (kv := (l.map lsKV)) (ok := true) (keyInt (by kernel_rfl)) i (by kernel_rfl) (fun _ => by kernel_rfl) 1 rfl) (by rw [show aget (l.map lsKV) i = _ from aget_some_ls hk.sorted (List.mem_of_getElem? hj)]; rfl)) ?_
  refine sq_p (.tuple #[.pointer (some ⟨bk, 0, none⟩), .bool true]) rfl (fun _ => by kernel_rfl) ?_
  refine sq_p (.pointer (some ⟨bk, 0, none⟩)) rfl (fun _ => by kernel_rfl) ?_
  refine sq_p (.bool true) rfl (fun _ => by kernel_rfl) ?_
  refine sq_p (.pointer (some ⟨bk, 0, none⟩)) rfl (fun _ => by kernel_rfl) ?_
  refine sq_p (.bool true) rfl (fun _ => by kernel_rfl) ?_
  refine lnil ?_
  refine thn_n ?_
  refine c_seq ?_
  refine c_block ?_
  refine c_seq ?_
  refine c_reg ?_
  refine sq_p (.bool true) rfl (fun _ => by kernel_rfl) ?_
  refine sq_p (.bool false) rfl (fun _ => by kernel_rfl) ?_
  refine sq_p (.bool false) rfl (fun _ => by kernel_rfl) ?_
  refine lnil ?_
  refine thn_n ?_
  refine c_false (by kernel_rfl) ?_
  refine c_seq ?_
  refine c_reg ?_
  refine sq_p (.pointer (some ⟨bk, 0, none⟩)) rfl (fun _ => by kernel_rfl) ?_
  refine sq_p (.pointer (some ⟨bk, 0, none⟩)) rfl (fun _ => by kernel_rfl) ?_
  refine sq_p (.pointer (some ⟨bk, 2, none⟩)) rfl (fun _ => by kernel_rfl) ?_
  refine sq_q rfl h (g_ldr (b := bk) 2 [.int .i64 ky] (.int .i64 ky) (by kernel_rfl) 2 rfl (rdFam hx0 2 (by kernel_rfl))) ?_
  refine sq_p (.int .i64 k) rfl (fun _ => by kernel_rfl) ?_
  refine sq_p (.bool (!(decide (ky = k)))) rfl (fun _ => by kernel_rfl) ?_
  refine sq_p (.bool (!(decide (ky = k)))) rfl (fun _ => by kernel_rfl) ?_
  refine lnil ?_
  refine thn_n ?_
  refine c_cond (!(decide (ky = k))) (by kernel_rfl) (fun hc1 => ?_) (fun hc1 => ?_)
  · skip
    have q2 : (decide (ky = k)) = false := by simpa using hc1
    have q2 := of_decide_eq_false q2
    refine c_seq ?_
    refine d_start 3 [4] (by kernel_rfl) h fun w h => ?_
    refine d_take 0 2 [4] rfl (v := errV ad 3) (by kernel_rfl) (qp_thn (qp_blk (qp_thn qp_body))) (yq (by kernel_rfl) (g_ldr (b := gl 3) 0 [errV ad 3] (errV ad 3) (by kernel_rfl) 0 rfl (rdEnv (c := 3) (by decide) rfl))) h (by kernel_rfl) ?_
    refine d_take 1 1 [4] rfl (v := .int .i64 0) (by kernel_rfl) (qp_thn (qp_blk (qp_thn qp_body))) (yq (by kernel_rfl) (g_pure (v := .int .i64 0) fun _ => by kernel_rfl)) h (by kernel_rfl) ?_
    refine d_take 2 3 [4] rfl (v := errV ad 3) (by kernel_rfl) (qp_thn (qp_blk (qp_thn qp_body))) (yq (by kernel_rfl) (g_pure (v := errV ad 3) fun _ => by kernel_rfl)) h (by kernel_rfl) ?_
    refine d_done (by kernel_rfl) ?_
    refine thn_n ?_
    refine c_ret ?_
    refine blk_r (thn_r ?_)
    refine ret_end [.int .i64 0, errV ad 3] [0, 0, 0, 0, 0] h (by kernel_rfl) (res_t (by kernel_rfl) (res_t (by kernel_rfl) res_n)) ?_
    exact .inl ⟨by omega, rfl, rfl⟩
  · skip
    have q3 : (decide (ky = k)) = true := by simpa using hc1
    have q3 := of_decide_eq_true q3
    refine c_skip ?_
    refine blk_n (thn_n ?_)
    refine c_seq ?_
    refine c_seq ?_
    refine c_reg ?_
    refine sq_p (.pointer (some ⟨bk, 0, none⟩)) rfl (fun _ => by kernel_rfl) ?_
    refine sq_p (.pointer (some ⟨bk, 0, none⟩)) rfl (fun _ => by kernel_rfl) ?_
    refine sq_p (.pointer (some ⟨bk, 3, none⟩)) rfl (fun _ => by kernel_rfl) ?_
    refine sq_q rfl h (g_ldr (b := bk) 3 [.bool true] (.bool true) (by kernel_rfl) 2 rfl (rdFam hx0 3 (by kernel_rfl))) ?_
    refine sq_p (.bool false) rfl (fun _ => by kernel_rfl) ?_
    refine lnil ?_
    refine thn_n ?_
    refine c_false (by kernel_rfl) ?_
    refine c_skip ?_
    refine thn_n ?_
    refine c_seq ?_
    refine c_reg ?_
    refine sq_p (.pointer (some ⟨bk, 0, none⟩)) rfl (fun _ => by kernel_rfl) ?_
    refine sq_p (.pointer (some ⟨b, 0, none⟩)) rfl (fun _ => by kernel_rfl) ?_
    refine sq_p (.pointer (some ⟨b, 0, none⟩)) rfl (fun _ => by kernel_rfl) ?_
    refine sq_p (.pointer (some ⟨b, 2, none⟩)) rfl (fun _ => by kernel_rfl) ?_
    refine sq_q rfl h (g_ld 2 [.int .i64 now] (.int .i64 now) (by kernel_rfl) 0 rfl) ?_
    refine sq_p (.pointer (some ⟨bk, 0, none⟩)) rfl (fun _ => by kernel_rfl) ?_
    refine sq_p (.pointer (some ⟨bk, 4, none⟩)) rfl (fun _ => by kernel_rfl) ?_
    refine sq_str rfl (b := bk) 4 [.int .i64 now] h 2 rfl (by kernel_rfl) (wrFam hx0 4 (nm, bt, ky, true, now) (by kernel_rfl) (by kernel_rfl)) ?_; intro w h
    have hx4 := fam_set (x' := (bk, (nm, bt, ky, true, now))) hx0
    refine lnil ?_
    refine thn_n ?_
    refine c_seq ?_
    refine c_reg ?_
    refine sq_p (.int .i64 0) rfl (fun _ => by kernel_rfl) ?_
    refine sq_p (.int .i64 0) rfl (fun _ => by kernel_rfl) ?_
    refine sq_p (.nilIface) rfl (fun _ => by kernel_rfl) ?_
    refine lnil ?_
    refine thn_n ?_
    refine c_ret ?_
    rw [show (l.map lsF).set j (bk, (nm, bt, ky, true, now)) = (l.set j (lsSet (i, bk, nm, bt, ky, true, sn) true now)).map lsF from set_F (e' := (lsSet (i, bk, nm, bt, ky, true, sn) true now))] at h
    rw [← set_kv (e' := (lsSet (i, bk, nm, bt, ky, true, sn) true now)) hj rfl rfl, (conf_same hk hj rfl).1] at h
    refine ret_end [.int .i64 0, .nilIface] [0, 0, 0, 0, 0] h (by kernel_rfl) (res_t (by kernel_rfl) (res_t (by kernel_rfl) res_n)) ?_
    rw [← (conf_same (now := now) hk hj rfl).2]
    exact .inr ⟨by omega, rfl, rfl⟩
set_option maxHeartbeats 1000000 in
theorem confirmF_spec {B : Nat} (ad : Nat → Addr) (b mb : Nat) (l : List Ls) (last now : Int) (hk : LsOk l last now) (hb : last ≤ 1000) (hw : now ≤ 9000000000000000) (i : Int) (j bk : Nat) (nm : ByteArray) (bt ky sn : Int) (hj : l[j]? = some (i, bk, nm, bt, ky, false, sn)) (k : Int) : Spec Tryd.prog 72 #[.pointer (some ⟨b, 0, none⟩), .int .i64 i, .int .i64 k] [rCell true b [.map (some mb), .int .i64 last, .int .i64 now] 227, rMap true mb ik (l.map lsKV), rFam true 231 cliC (l.map lsF), rEnv B ad [5], rEnv B ad [3]] (fun u L => (ky ≠ k ∧ u = .tuple #[.int .i64 0, errV ad 3] ∧ L = [rCell true b [.map (some mb), .int .i64 last, .int .i64 now] 227, rMap true mb ik (l.map lsKV), rFam true 231 cliC (l.map lsF), rEnv B ad [5], rEnv B ad [3]]) ∨ (ky = k ∧ u = .tuple #[.int .i64 (confG l (i, bk, nm, bt, ky, false, sn)), .nilIface] ∧ L = [rCell true b [.map (some mb), .int .i64 last, .int .i64 now] 227, rMap true mb ik ((confL l j (i, bk, nm, bt, ky, false, sn) now).map lsKV), rFam true 231 cliC ((confL l j (i, bk, nm, bt, ky, false, sn) now).map lsF), rEnv B ad [5], rEnv B ad [3]])) := by
  have hfw := hk.few
  have hpos := hk.pos
  refine spec_of (#[.pointer (some ⟨b, 0, none⟩), .int .i64 i, .int .i64 k, undef, undef, undef, undef, undef, undef, undef, undef, undef, undef, undef, undef, undef, undef, undef, undef, undef, undef, undef, undef, undef, undef, undef, undef, undef, undef, undef, undef, undef, undef, undef, undef, undef, undef, undef, undef, undef, undef, undef, undef, undef, undef, undef, undef, undef, undef, undef, undef, undef, undef, undef, undef, undef, undef, undef, undef]) Tryd.func72 rfl (by kernel_rfl) fun E w0 w h => ?_
  have hx0 : (l.map lsF)[j]? = some (bk, nm, bt, ky, false, sn) := by rw [List.getElem?_map, hj]; rfl
  refine c_seq ?_
  refine c_reg ?_
  refine sq_p (.int .i64 0) rfl (fun _ => by kernel_rfl) ?_
  refine sq_p (.nilIface) rfl (fun _ => by kernel_rfl) ?_
  refine lnil ?_
  refine thn_n ?_
  refine c_seq ?_
  refine c_reg ?_
  refine sq_p (.pointer (some ⟨b, 0, none⟩)) rfl (fun _ => by kernel_rfl) ?_
  refine sq_p (.pointer (some ⟨b, 0, none⟩)) rfl (fun _ => by kernel_rfl) ?_
  refine sq_p (.pointer (some ⟨b, 0, none⟩)) rfl (fun _ => by kernel_rfl) ?_
  refine sq_q rfl h (g_ld 0 [.map (some mb)] (.map (some mb)) (by kernel_rfl) 0 rfl) ?_
  refine sq_p (.int .i64 i) rfl (fun _ => by kernel_rfl) ?_
  refine sq_q rfl h (g_eq (v' := .tuple #[.pointer (some ⟨bk, 0, none⟩), .bool true]) (g_look (K := 3) (E := 229) (z := (.pointer none)) (kv := (l.map lsKV)) (ok := true) (keyInt (by kernel_rfl)) i (by kernel_rfl) (fun _ => by kernel_rfl) 1 rfl) (by rw [show aget (l.map lsKV) i = _ from aget_some_ls hk.sorted (List.mem_of_getElem? hj)]; rfl)) ?_
  refine sq_p (.tuple #[.pointer (some ⟨bk, 0, none⟩), .bool true]) rfl (fun _ => by kernel_rfl) ?_
  refine sq_p (.pointer (some ⟨bk, 0, none⟩)) rfl (fun _ => by kernel_rfl) ?_
  refine sq_p (.bool true) rfl (fun _ => by kernel_rfl) ?_
  refine sq_p (.pointer (some ⟨bk, 0, none⟩)) rfl (fun _ => by kernel_rfl) ?_
  refine sq_p (.bool true) rfl (fun _ => by kernel_rfl) ?_
  refine lnil ?_
  refine thn_n ?_
  refine c_seq ?_
  refine c_block ?_
  refine c_seq ?_
  refine c_reg ?_
  refine sq_p (.bool true) rfl (fun _ => by kernel_rfl) ?_
  refine sq_p (.bool false) rfl (fun _ => by kernel_rfl) ?_
  refine sq_p (.bool false) rfl (fun _ => by kernel_rfl) ?_
  refine lnil ?_
  refine thn_n ?_
  refine c_false (by kernel_rfl) ?_
  refine c_seq ?_
  refine c_reg ?_
  refine sq_p (.pointer (some ⟨bk, 0, none⟩)) rfl (fun _ => by kernel_rfl) ?_
  refine sq_p (.pointer (some ⟨bk, 0, none⟩)) rfl (fun _ => by kernel_rfl) ?_
  refine sq_p (.pointer (some ⟨bk, 2, none⟩)) rfl (fun _ => by kernel_rfl) ?_
  refine sq_q rfl h (g_ldr (b := bk) 2 [.int .i64 ky] (.int .i64 ky) (by kernel_rfl) 2 rfl (rdFam hx0 2 (by kernel_rfl))) ?_
  refine sq_p (.int .i64 k) rfl (fun _ => by kernel_rfl) ?_
  refine sq_p (.bool (!(decide (ky = k)))) rfl (fun _ => by kernel_rfl) ?_
  refine sq_p (.bool (!(decide (ky = k)))) rfl (fun _ => by kernel_rfl) ?_
  refine lnil ?_
  refine thn_n ?_
  refine c_cond (!(decide (ky = k))) (by kernel_rfl) (fun hc1 => ?_) (fun hc1 => ?_)
  · skip
    have q2 : (decide (ky = k)) = false := by simpa using hc1
    have q2 := of_decide_eq_false q2
    refine c_seq ?_
    refine d_start 3 [4] (by kernel_rfl) h fun w h => ?_
    refine d_take 0 2 [4] rfl (v := errV ad 3) (by kernel_rfl) (qp_thn (qp_blk (qp_thn qp_body))) (yq (by kernel_rfl) (g_ldr (b := gl 3) 0 [errV ad 3] (errV ad 3) (by kernel_rfl) 0 rfl (rdEnv (c := 3) (by decide) rfl))) h (by kernel_rfl) ?_
    refine d_take 1 1 [4] rfl (v := .int .i64 0) (by kernel_rfl) (qp_thn (qp_blk (qp_thn qp_body))) (yq (by kernel_rfl) (g_pure (v := .int .i64 0) fun _ => by kernel_rfl)) h (by kernel_rfl) ?_
    refine d_take 2 3 [4] rfl (v := errV ad 3) (by kernel_rfl) (qp_thn (qp_blk (qp_thn qp_body))) (yq (by kernel_rfl) (g_pure (v := errV ad 3) fun _ => by kernel_rfl)) h (by kernel_rfl) ?_
    refine d_done (by kernel_rfl) ?_
    refine thn_n ?_
    refine c_ret ?_
    refine blk_r (thn_r ?_)
    refine ret_end [.int .i64 0, errV ad 3] [0, 0, 0, 0, 0] h (by kernel_rfl) (res_t (by kernel_rfl) (res_t (by kernel_rfl) res_n)) ?_
    exact .inl ⟨by omega, rfl, rfl⟩
  · skip
    have q3 : (decide (ky = k)) = true := by simpa using hc1
    have q3 := of_decide_eq_true q3
    refine c_skip ?_
    refine blk_n (thn_n ?_)
    refine c_seq ?_
    refine c_seq ?_
    refine c_reg ?_
    refine sq_p (.pointer (some ⟨bk, 0, none⟩)) rfl (fun _ => by kernel_rfl) ?_
    refine sq_p (.pointer (some ⟨bk, 0, none⟩)) rfl (fun _ => by kernel_rfl) ?_
    refine sq_p (.pointer (some ⟨bk, 3, none⟩)) rfl (fun _ => by kernel_rfl) ?_
    refine sq_q rfl h (g_ldr (b := bk) 3 [.bool false] (.bool false) (by kernel_rfl) 2 rfl (rdFam hx0 3 (by kernel_rfl))) ?_
    refine sq_p (.bool true) rfl (fun _ => by kernel_rfl) ?_
    refine lnil ?_
    refine thn_n ?_
    refine c_true (by kernel_rfl) ?_
    refine c_seq ?_
    refine c_reg ?_
    refine sq_p (.pointer (some ⟨b, 0, none⟩)) rfl (fun _ => by kernel_rfl) ?_
    refine sq_p (.pointer (some ⟨bk, 0, none⟩)) rfl (fun _ => by kernel_rfl) ?_
    refine sq_p (.pointer (some ⟨bk, 0, none⟩)) rfl (fun _ => by kernel_rfl) ?_
    refine sq_p (.pointer (some ⟨bk, 0, none⟩)) rfl (fun _ => by kernel_rfl) ?_
    refine sq_q rfl h (g_ldr (b := bk) 0 [.string nm] (.string nm) (by kernel_rfl) 2 rfl (rdFam hx0 0 (by kernel_rfl))) ?_
    refine sq_call #[.pointer (some ⟨b, 0, none⟩), .string nm, .bool true] [0, 0, 0] rfl (find_spec b mb l last now hk (by omega) (by omega) nm true) (fun _ => by kernel_rfl) h ?_; rintro v_ L_ w ⟨z4, hz5, rfl, rfl⟩ h
    refine sq_q rfl h (g_maxI (u := 0) (v := z4) (by kernel_rfl)) ?_
    refine sq_p (.int .i64 (max 0 z4)) rfl (fun _ => by kernel_rfl) ?_
    refine lnil ?_
    refine thn_n ?_
    refine c_seq ?_
    refine c_reg ?_
    refine sq_p (.pointer (some ⟨b, 0, none⟩)) rfl (fun _ => by kernel_rfl) ?_
    refine sq_p (.pointer (some ⟨b, 0, none⟩)) rfl (fun _ => by kernel_rfl) ?_
    refine sq_p (.pointer (some ⟨b, 0, none⟩)) rfl (fun _ => by kernel_rfl) ?_
    refine sq_q rfl h (g_ld 0 [.map (some mb)] (.map (some mb)) (by kernel_rfl) 0 rfl) ?_
    refine sq_p (.int .i64 (max 0 z4)) rfl (fun _ => by kernel_rfl) ?_
    refine sq_mapd rfl (K := 3) (E := 229) (keyInt (by kernel_rfl)) (max 0 z4) (by kernel_rfl) h 1 rfl ?_; intro w h
    refine lnil ?_
    refine thn_n ?_
    refine c_reg ?_
    refine sq_p (.pointer (some ⟨bk, 0, none⟩)) rfl (fun _ => by kernel_rfl) ?_
    refine sq_p (.pointer (some ⟨bk, 0, none⟩)) rfl (fun _ => by kernel_rfl) ?_
    refine sq_p (.pointer (some ⟨bk, 3, none⟩)) rfl (fun _ => by kernel_rfl) ?_
    refine sq_str rfl (b := bk) 3 [.bool true] h 2 rfl (by kernel_rfl) (wrFam hx0 3 (nm, bt, ky, true, sn) (by kernel_rfl) (by kernel_rfl)) ?_; intro w h
    have hx6 := fam_set (x' := (bk, (nm, bt, ky, true, sn))) hx0
    refine lnil ?_
    refine thn_n ?_
    refine c_seq ?_
    refine c_reg ?_
    refine sq_p (.pointer (some ⟨bk, 0, none⟩)) rfl (fun _ => by kernel_rfl) ?_
    refine sq_p (.pointer (some ⟨b, 0, none⟩)) rfl (fun _ => by kernel_rfl) ?_
    refine sq_p (.pointer (some ⟨b, 0, none⟩)) rfl (fun _ => by kernel_rfl) ?_
    refine sq_p (.pointer (some ⟨b, 2, none⟩)) rfl (fun _ => by kernel_rfl) ?_
    refine sq_q rfl h (g_ld 2 [.int .i64 now] (.int .i64 now) (by kernel_rfl) 0 rfl) ?_
    refine sq_p (.pointer (some ⟨bk, 0, none⟩)) rfl (fun _ => by kernel_rfl) ?_
    refine sq_p (.pointer (some ⟨bk, 4, none⟩)) rfl (fun _ => by kernel_rfl) ?_
    refine sq_str rfl (b := bk) 4 [.int .i64 now] h 2 rfl (by kernel_rfl) (wrFam hx6 4 (nm, bt, ky, true, now) (by kernel_rfl) (by kernel_rfl)) ?_; intro w h
    have hx7 := fam_set (x' := (bk, (nm, bt, ky, true, now))) hx6
    refine lnil ?_
    refine thn_n ?_
    refine c_seq ?_
    refine c_reg ?_
    refine sq_p (.int .i64 (max 0 z4)) rfl (fun _ => by kernel_rfl) ?_
    refine sq_p (.int .i64 (max 0 z4)) rfl (fun _ => by kernel_rfl) ?_
    refine sq_p (.nilIface) rfl (fun _ => by kernel_rfl) ?_
    refine lnil ?_
    refine thn_n ?_
    refine c_ret ?_
    rw [show ((l.map lsF).set j (bk, (nm, bt, ky, true, sn))).set j (bk, (nm, bt, ky, true, now)) = (l.map lsF).set j (bk, (nm, bt, ky, true, now)) from by rw [List.set_set]] at h
    rw [show (l.map lsF).set j (bk, (nm, bt, ky, true, now)) = (l.set j (lsSet (i, bk, nm, bt, ky, false, sn) true now)).map lsF from set_F (e' := (lsSet (i, bk, nm, bt, ky, false, sn) true now))] at h
    have hcd := conf_del (now := now) hk hj rfl hz5
    rw [← set_kv (e' := (lsSet (i, bk, nm, bt, ky, false, sn) true now)) hj rfl rfl, adel_ls (max 0 z4) (set_sorted (e' := (lsSet (i, bk, nm, bt, ky, false, sn) true now)) hk.sorted hj rfl), hcd.1] at h
    have h := h.pickE (M := [rFam true 231 cliC ((l.set j (lsSet (i, bk, nm, bt, ky, false, sn) true now)).map lsF), rCell true b [.map (some mb), .int .i64 last, .int .i64 now] 227, rMap true mb ik ((confL l j (i, bk, nm, bt, ky, false, sn) now).map lsKV), rEnv B ad [5], rEnv B ad [3]]) [2, 0, 0, 0, 0] (by kernel_rfl)
    have h := h.famSub (l' := (confL l j (i, bk, nm, bt, ky, false, sn) now).map lsF) (List.filter_sublist.map lsF)
    refine ret_end [.int .i64 (max 0 z4), .nilIface] [1, 1, 0, 0, 0] h (by kernel_rfl) (res_t (by kernel_rfl) (res_t (by kernel_rfl) res_n)) ?_
    rw [← hcd.2]
    exact .inr ⟨by omega, rfl, rfl⟩

theorem confirm_spec {B : Nat} (ad : Nat → Addr) (b mb : Nat) (l : List Ls) (last now : Int) (hk : LsOk l last now) (hb : last ≤ 1000) (hw : now ≤ 9000000000000000)  (i k : Int) : Spec Tryd.prog 72 #[.pointer (some ⟨b, 0, none⟩), .int .i64 i, .int .i64 k] [rCell true b [.map (some mb), .int .i64 last, .int .i64 now] 227, rMap true mb ik (l.map lsKV), rFam true 231 cliC (l.map lsF), rEnv B ad [5], rEnv B ad [3]] fun u L => ((∀ e ∈ l, e.1 ≠ i) ∧ u = .tuple #[.int .i64 0, errV ad 5] ∧ L = [rCell true b [.map (some mb), .int .i64 last, .int .i64 now] 227, rMap true mb ik (l.map lsKV), rFam true 231 cliC (l.map lsF), rEnv B ad [5], rEnv B ad [3]]) ∨ (∃ (j : Nat) (e : Ls), l[j]? = some e ∧ e.1 = i ∧ i ≠ k ∧ u = .tuple #[.int .i64 0, errV ad 3] ∧ L = [rCell true b [.map (some mb), .int .i64 last, .int .i64 now] 227, rMap true mb ik (l.map lsKV), rFam true 231 cliC (l.map lsF), rEnv B ad [5], rEnv B ad [3]]) ∨ (∃ (j : Nat) (e : Ls), l[j]? = some e ∧ e.1 = i ∧ i = k ∧ u = .tuple #[.int .i64 (confG l e), .nilIface] ∧ L = [rCell true b [.map (some mb), .int .i64 last, .int .i64 now] 227, rMap true mb ik ((confL l j e now).map lsKV), rFam true 231 cliC ((confL l j e now).map lsF), rEnv B ad [5], rEnv B ad [3]]) := by
  by_cases h : ∃ e ∈ l, e.1 = i
  · obtain ⟨⟨i2, bk, nm, bt, ky, c, sn⟩, he, rfl⟩ := h
    obtain ⟨j, hj⟩ := List.getElem?_of_mem he
    have hky : ky = i2 := (hk.ids _ he).2.2
    cases c
    · refine (confirmF_spec ad b mb l last now hk hb hw i2 j bk nm bt ky sn hj k).mono ?_
      rintro u L (⟨h1, h2, h3⟩ | ⟨h1, h2, h3⟩)
      · exact .inr (.inl ⟨j, _, hj, rfl, by rw [← hky]; exact h1, h2, h3⟩)
      · exact .inr (.inr ⟨j, _, hj, rfl, by rw [← hky]; exact h1, h2, h3⟩)
    · refine (confirmT_spec ad b mb l last now hk hb hw i2 j bk nm bt ky sn hj k).mono ?_
      rintro u L (⟨h1, h2, h3⟩ | ⟨h1, h2, h3⟩)
      · exact .inr (.inl ⟨j, _, hj, rfl, by rw [← hky]; exact h1, h2, h3⟩)
      · exact .inr (.inr ⟨j, _, hj, rfl, by rw [← hky]; exact h1, h2, h3⟩)
  · exact (confirmN_spec ad b mb l last now hk hb hw i (fun e he hh => h ⟨e, he, hh⟩) k).mono fun u L ⟨h1, h2⟩ => .inl ⟨fun e he hh => h ⟨e, he, hh⟩, h1, h2⟩

set_option maxHeartbeats 1000000 in
theorem tick_spec {B : Nat} (ad : Nat → Addr) (b mb : Nat) (l : List Ls) (last now : Int) (hk : LsOk l last now) (hb : last ≤ 1000) (hw : now ≤ 8000000000000000) (n : Int) : Spec Tryd.prog 76 #[.pointer (some ⟨b, 0, none⟩), .int .i64 n] [rCell true b [.map (some mb), .int .i64 last, .int .i64 now] 227, rMap true mb ik (l.map lsKV), rFam true 231 cliC (l.map lsF), rEnv B ad [2]] (fun u L => (0 ≤ n ∧ n ≤ 1099511627776 ∧ ∃ v', u = .tuple #[v', .nilIface] ∧ L = [rRows true v' 3 1 idC (tickG l (now + n)), rCell true b [.map (some mb), .int .i64 last, .int .i64 (now + n)] 227, rMap true mb ik ((tickL l (now + n)).map lsKV), rFam true 231 cliC ((tickL l (now + n)).map lsF), rEnv B ad [2]]) ∨ ((n < 0 ∨ 1099511627776 < n) ∧ u = .tuple #[.slice none 0 0, errV ad 2] ∧ L = [rCell true b [.map (some mb), .int .i64 last, .int .i64 now] 227, rMap true mb ik (l.map lsKV), rFam true 231 cliC (l.map lsF), rEnv B ad [2]])) := by
  have hfw := hk.few
  have hpos := hk.pos
  refine spec_of (#[.pointer (some ⟨b, 0, none⟩), .int .i64 n, undef, undef, undef, undef, undef, undef, undef, undef, undef, undef, undef, undef, undef, undef, undef, undef, undef, undef, undef, undef, undef, undef, undef, undef, undef, undef, undef, undef, undef, undef, undef, undef, undef, undef, undef, undef, undef, undef, undef, undef, undef, undef, undef, undef, undef, undef, undef, undef, undef, undef, undef, undef, undef, undef]) Tryd.func76 rfl (by kernel_rfl) fun E w0 w h => ?_
  refine c_seq ?_
  refine c_reg ?_
  refine sq_p (.slice none 0 0) rfl (fun _ => by kernel_rfl) ?_
  refine sq_p (.nilIface) rfl (fun _ => by kernel_rfl) ?_
  refine lnil ?_
  refine thn_n ?_
  refine c_seq ?_
  refine c_seq ?_
  refine c_reg ?_
  refine sq_p (.int .i64 n) rfl (fun _ => by kernel_rfl) ?_
  obtain ⟨b1, hb1⟩ : ∃ b_ : Bool, b_ = (decide (n < 0)) := ⟨_, rfl⟩
  refine sq_q (v := .bool b1) rfl h (by subst hb1; exact g_pure (v := .bool (decide (n < 0))) fun _ => by kernel_rfl) ?_
  refine sq_p (.bool b1) rfl (fun _ => by kernel_rfl) ?_
  refine sq_m0 (v := .int .i64 n) b1 (by cases b1 <;> kernel_rfl) h (fun hB => by subst hB; exact g_pure (v := .int .i64 n) fun _ => by kernel_rfl) ?_
  obtain ⟨b2, hb2⟩ : ∃ b_ : Bool, b_ = (decide (n > 1099511627776)) := ⟨_, rfl⟩
  refine sq_m0 (v := .bool b2) b1 (by cases b1 <;> kernel_rfl) h (fun hB => by subst hB; exact by subst hb2; exact g_pure (v := .bool (decide (n > 1099511627776))) fun _ => by kernel_rfl) ?_
  obtain ⟨b3, hb3⟩ : ∃ b_ : Bool, b_ = (b1 || b2) := ⟨_, rfl⟩
  refine sq_q (v := .bool b3) rfl h (by subst hb3; exact g_pure (v := .bool (b1 || b2)) fun _ => by cases b1 <;> kernel_rfl) ?_
  refine lnil ?_
  refine thn_n ?_
  refine c_cond (b3) (by kernel_rfl) (fun hc4 => ?_) (fun hc4 => ?_)
  · skip
    have q5 : (b1 || b2) = true := by rw [← hb3]; exact hc4
    have q6 : ((n < 0) ∨ (n > 1099511627776)) := by subst hb2; subst hb1; revert q5; first | (simp; done) | (simp; omega)
    refine c_seq ?_
    refine d_start 3 [3] (by kernel_rfl) h fun w h => ?_
    refine d_take 0 2 [3] rfl (v := errV ad 2) (by kernel_rfl) (qp_thn (qp_thn qp_body)) (yq (by kernel_rfl) (g_ldr (b := gl 2) 0 [errV ad 2] (errV ad 2) (by kernel_rfl) 0 rfl (rdEnv (c := 2) (by decide) rfl))) h (by kernel_rfl) ?_
    refine d_take 1 1 [3] rfl (v := .slice none 0 0) (by kernel_rfl) (qp_thn (qp_thn qp_body)) (yq (by kernel_rfl) (g_pure (v := .slice none 0 0) fun _ => by kernel_rfl)) h (by kernel_rfl) ?_
    refine d_take 2 3 [3] rfl (v := errV ad 2) (by kernel_rfl) (qp_thn (qp_thn qp_body)) (yq (by kernel_rfl) (g_pure (v := errV ad 2) fun _ => by kernel_rfl)) h (by kernel_rfl) ?_
    refine d_done (by kernel_rfl) ?_
    refine thn_n ?_
    refine c_ret ?_
    refine thn_r ?_
    refine ret_end [.slice none 0 0, errV ad 2] [0, 0, 0, 0] h (by kernel_rfl) (res_t (by kernel_rfl) (res_t (by kernel_rfl) res_n)) ?_
    exact .inr ⟨by omega, rfl, rfl⟩
  · skip
    have q7 : (b1 || b2) = false := by rw [← hb3]; exact hc4
    have q8 : b1 = false := by revert q7; cases b1 <;> simp
    have q9 : b2 = false := by revert q7; cases b1 <;> cases b2 <;> simp
    have q10 : (decide (n < 0)) = false := by rw [← hb1]; exact q8
    have q10 := of_decide_eq_false q10
    have q11 : (decide (n > 1099511627776)) = false := by rw [← hb2]; exact q9
    have q11 := of_decide_eq_false q11
    refine c_skip ?_
    refine thn_n ?_
    refine c_seq ?_
    refine c_reg ?_
    refine sq_p (.pointer (some ⟨b, 0, none⟩)) rfl (fun _ => by kernel_rfl) ?_
    refine sq_p (.pointer (some ⟨b, 0, none⟩)) rfl (fun _ => by kernel_rfl) ?_
    refine sq_p (.pointer (some ⟨b, 2, none⟩)) rfl (fun _ => by kernel_rfl) ?_
    refine sq_q rfl h (g_ld 2 [.int .i64 now] (.int .i64 now) (by kernel_rfl) 0 rfl) ?_
    refine sq_p (.int .i64 n) rfl (fun _ => by kernel_rfl) ?_
    refine sq_q rfl h (g_eq (v := .int .i64 (IntKind.i64.wrap (now + n))) (v' := .int .i64 (now + n)) (g_pure fun _ => by kernel_rfl) (wr (by omega))) ?_
    refine sq_p (.pointer (some ⟨b, 0, none⟩)) rfl (fun _ => by kernel_rfl) ?_
    refine sq_p (.pointer (some ⟨b, 2, none⟩)) rfl (fun _ => by kernel_rfl) ?_
    refine sq_st rfl 2 [.int .i64 (now + n)] [.map (some mb), .int .i64 last, .int .i64 (now + n)] h 0 rfl (by kernel_rfl) ?_; intro w h
    refine lnil ?_
    refine thn_n ?_
    refine c_seq ?_
    refine c_seq ?_
    refine c_reg ?_
    refine sq_p (.pointer (some ⟨b, 0, none⟩)) rfl (fun _ => by kernel_rfl) ?_
    refine sq_call #[.pointer (some ⟨b, 0, none⟩)] [0, 0, 0] rfl (list_spec b mb l last (now + n) (hk.later (by omega)) hb (by omega)) (fun _ => by kernel_rfl) h ?_; rintro v12 L_ w ⟨_, rfl, rfl⟩ h
    refine sq_q rfl h (g_len (by kernel_rfl) 0 rfl) ?_
    refine sq_p (.int .i64 0) rfl (fun _ => by kernel_rfl) ?_
    refine lnil ?_
    refine thn_n ?_
    refine c_block ?_
    have h := h.nilRows 3 1 idC
    refine c_loop (X := Nat × List Ls × List Int × Value × (Nat → Value)) (fun ⟨i, cur, gl, vg, J0⟩ => ⟨#[.pointer (some ⟨b, 0, none⟩), .int .i64 n, undef, undef, vg, .nilIface, undef, J0 7, .int .i64 n, .bool b1, .bool b1, (if b1 = false then .int .i64 n else undef), (if b1 = false then .bool b2 else undef), .bool b3, undef, .pointer (some ⟨b, 0, none⟩), .pointer (some ⟨b, 0, none⟩), .pointer (some ⟨b, 2, none⟩), .int .i64 now, .int .i64 n, .int .i64 (now + n), .pointer (some ⟨b, 0, none⟩), .pointer (some ⟨b, 2, none⟩), .pointer (some ⟨b, 0, none⟩), v12, .int .i64 ((lsIds l).length : Int), .int .i64 (i : Int), J0 27, J0 28, J0 29, J0 30, J0 31, J0 32, J0 33, J0 34, J0 35, J0 36, J0 37, J0 38, J0 39, J0 40, J0 41, J0 42, J0 43, J0 44, J0 45, J0 46, J0 47, J0 48, J0 49, J0 50, J0 51, J0 52, J0 53, J0 54, undef], []⟩)
      (fun ⟨i, cur, gl, vg, J0⟩ => [rRows true vg 3 1 idC gl, rRows true v12 3 1 idC (lsIds l), rCell true b [.map (some mb), .int .i64 last, .int .i64 (now + n)] 227, rMap true mb ik (cur.map lsKV), rFam true 231 cliC (cur.map lsF), rEnv B ad [2]]) (fun ⟨i, cur, gl, vg, J0⟩ => i ≤ (lsIds l).length ∧ TickAt l (now + n) i cur gl) (fun ⟨i, cur, gl, vg, J0⟩ => (lsIds l).length - i)
      ⟨0, l, [], (.slice none 0 0), (fun n => (#[.pointer (some ⟨b, 0, none⟩), .int .i64 n, undef, undef, .slice none 0 0, .nilIface, undef, undef, .int .i64 n, .bool b1, .bool b1, (if b1 = false then .int .i64 n else undef), (if b1 = false then .bool b2 else undef), .bool b3, undef, .pointer (some ⟨b, 0, none⟩), .pointer (some ⟨b, 0, none⟩), .pointer (some ⟨b, 2, none⟩), .int .i64 now, .int .i64 n, .int .i64 (now + n), .pointer (some ⟨b, 0, none⟩), .pointer (some ⟨b, 2, none⟩), .pointer (some ⟨b, 0, none⟩), v12, .int .i64 ((lsIds l).length : Int), .int .i64 0, undef, undef, undef, undef, undef, undef, undef, undef, undef, undef, undef, undef, undef, undef, undef, undef, undef, undef, undef, undef, undef, undef, undef, undef, undef, undef, undef, undef, undef] : Array Value).getD n undef)⟩ ⟨by omega, TickAt.start l (now + n)⟩ (by kernel_rfl) [0, 0, 0, 0, 0, 0] (by kernel_rfl) h ?_
    rintro ⟨i, cur, gl, vg, J0⟩ w hG h
    obtain ⟨hi0, hT⟩ : i ≤ (lsIds l).length ∧ TickAt l (now + n) i cur gl := hG
    have hll : (lsIds l).length = (l.filter fun e => lsC e).length := List.length_map _
    have hlf := List.length_filter_le (fun e => lsC e) l
    have hfw := hk.few
    have hgl : gl.length ≤ i := by rw [hT.gone, List.length_map]; exact Nat.le_trans (List.length_filter_le _ _) (by rw [List.length_take]; omega)
    have hcs : cur.Pairwise (fun x y : Ls => x.1 < y.1) := by rw [hT.cur]; exact hk.sorted.sublist List.filter_sublist
    refine c_seq ?_
    refine c_reg ?_
    refine sq_p (.bool (decide ((i : Int) < ((lsIds l).length : Int)))) rfl (fun _ => by kernel_rfl) ?_
    refine lnil ?_
    refine thn_n ?_
    refine c_seq ?_
    refine c_cond (decide ((i : Int) < ((lsIds l).length : Int))) (by kernel_rfl) (fun hc13 => ?_) (fun hc13 => ?_)
    · skip
      have hc13 := of_decide_eq_true hc13
      refine c_skip ?_
      refine thn_n ?_
      refine c_seq ?_
      refine c_block ?_
      refine c_seq ?_
      refine c_reg ?_
      have hi14 : i < (lsIds l).length := by omega
      obtain ⟨x15, hx16⟩ : ∃ x, (lsIds l)[i]? = some x := ⟨_, List.getElem?_eq_getElem hi14⟩
      obtain ⟨e17, hj18, rfl⟩ := id_at (l := l.filter fun e => lsC e) hx16
      have hh19 := hT.here hk.sorted hj18
      obtain ⟨j20, hc21⟩ := List.getElem?_of_mem hh19.1
      have hf22 : (cur.map lsF)[j20]? = some (e17.2.1, e17.2.2) := by rw [List.getElem?_map, hc21]; rfl
      have hsn : 0 ≤ e17.2.2.2.2.2.2 ∧ e17.2.2.2.2.2.2 ≤ now := hk.since e17 hh19.2.1
      refine sq_q rfl h (g_idx i (by kernel_rfl) hi14 1 rfl) ?_
      refine sq_q rfl h (g_ldr (b := blkN v12) (offN v12 + i * 1) [.int .i64 e17.1] (.int .i64 e17.1) (by kernel_rfl) 1 rfl (rdRow0 idC_len hx16 (by kernel_rfl))) ?_
      refine sq_p (.int .i64 e17.1) rfl (fun _ => by kernel_rfl) ?_
      refine lnil ?_
      refine thn_n ?_
      refine c_seq ?_
      refine d_start 15 [2, 2, 2] (by kernel_rfl) h fun w h => ?_
      refine d_take 0 8176 [2, 2, 2] rfl (v := .pointer (some ⟨b, 0, none⟩)) (by kernel_rfl) (qp_thn (qp_blk (qp_thn (qp_rnd (qp_blk (qp_thn qp_body)))))) (yq (by kernel_rfl) (g_pure (v := .pointer (some ⟨b, 0, none⟩)) fun _ => by kernel_rfl)) h (by kernel_rfl) ?_
      refine d_take 1 8177 [2, 2, 2] rfl (v := .pointer (some ⟨b, 0, none⟩)) (by kernel_rfl) (qp_thn (qp_blk (qp_thn (qp_rnd (qp_blk (qp_thn qp_body)))))) (yq (by kernel_rfl) (g_pure (v := .pointer (some ⟨b, 0, none⟩)) fun _ => by kernel_rfl)) h (by kernel_rfl) ?_
      refine d_take 2 8179 [2, 2, 2] rfl (v := .pointer (some ⟨b, 2, none⟩)) (by kernel_rfl) (qp_thn (qp_blk (qp_thn (qp_rnd (qp_blk (qp_thn qp_body)))))) (yq (by kernel_rfl) (g_pure (v := .pointer (some ⟨b, 2, none⟩)) fun _ => by kernel_rfl)) h (by kernel_rfl) ?_
      refine d_take 3 8183 [2, 2, 2] rfl (v := .int .i64 (now + n)) (by kernel_rfl) (qp_thn (qp_blk (qp_thn (qp_rnd (qp_blk (qp_thn qp_body)))))) (yq (by kernel_rfl) (g_ld 2 [.int .i64 (now + n)] (.int .i64 (now + n)) (by kernel_rfl) 0 rfl)) h (by kernel_rfl) ?_
      refine d_take 4 271 [2, 2, 2] rfl (v := .pointer (some ⟨b, 0, none⟩)) (by kernel_rfl) (qp_thn (qp_blk (qp_thn (qp_rnd (qp_blk (qp_thn qp_body)))))) (yq (by kernel_rfl) (g_pure (v := .pointer (some ⟨b, 0, none⟩)) fun _ => by kernel_rfl)) h (by kernel_rfl) ?_
      refine d_take 5 287 [2, 2, 2] rfl (v := .pointer (some ⟨b, 0, none⟩)) (by kernel_rfl) (qp_thn (qp_blk (qp_thn (qp_rnd (qp_blk (qp_thn qp_body)))))) (yq (by kernel_rfl) (g_pure (v := .pointer (some ⟨b, 0, none⟩)) fun _ => by kernel_rfl)) h (by kernel_rfl) ?_
      refine d_take 6 319 [2, 2, 2] rfl (v := .pointer (some ⟨b, 0, none⟩)) (by kernel_rfl) (qp_thn (qp_blk (qp_thn (qp_rnd (qp_blk (qp_thn qp_body)))))) (yq (by kernel_rfl) (g_pure (v := .pointer (some ⟨b, 0, none⟩)) fun _ => by kernel_rfl)) h (by kernel_rfl) ?_
      refine d_take 7 383 [2, 2, 2] rfl (v := .map (some mb)) (by kernel_rfl) (qp_thn (qp_blk (qp_thn (qp_rnd (qp_blk (qp_thn qp_body)))))) (yq (by kernel_rfl) (g_ld 0 [.map (some mb)] (.map (some mb)) (by kernel_rfl) 0 rfl)) h (by kernel_rfl) ?_
      refine d_take 8 255 [2, 2, 2] rfl (v := .int .i64 e17.1) (by kernel_rfl) (qp_thn (qp_blk (qp_thn (qp_rnd (qp_blk (qp_thn qp_body)))))) (yq (by kernel_rfl) (g_pure (v := .int .i64 e17.1) fun _ => by kernel_rfl)) h (by kernel_rfl) ?_
      refine d_take 9 511 [2, 2, 2] rfl (v := .pointer (some ⟨e17.2.1, 0, none⟩)) (by kernel_rfl) (qp_thn (qp_blk (qp_thn (qp_rnd (qp_blk (qp_thn qp_body)))))) (yq (by kernel_rfl) (g_eq (v' := .pointer (some ⟨e17.2.1, 0, none⟩)) (g_look (K := 3) (E := 229) (z := (.pointer none)) (kv := (cur.map lsKV)) (ok := false) (keyInt (by kernel_rfl)) e17.1 (by kernel_rfl) (fun _ => by kernel_rfl) 1 rfl) (by rw [aget_some_ls hcs hh19.1]; rfl))) h (by kernel_rfl) ?_
      refine d_take 10 1023 [2, 2, 2] rfl (v := .pointer (some ⟨e17.2.1, 0, none⟩)) (by kernel_rfl) (qp_thn (qp_blk (qp_thn (qp_rnd (qp_blk (qp_thn qp_body)))))) (yq (by kernel_rfl) (g_pure (v := .pointer (some ⟨e17.2.1, 0, none⟩)) fun _ => by kernel_rfl)) h (by kernel_rfl) ?_
      refine d_take 11 2047 [2, 2, 2] rfl (v := .pointer (some ⟨e17.2.1, 4, none⟩)) (by kernel_rfl) (qp_thn (qp_blk (qp_thn (qp_rnd (qp_blk (qp_thn qp_body)))))) (yq (by kernel_rfl) (g_pure (v := .pointer (some ⟨e17.2.1, 4, none⟩)) fun _ => by kernel_rfl)) h (by kernel_rfl) ?_
      refine d_take 12 4095 [2, 2, 2] rfl (v := .int .i64 e17.2.2.2.2.2.2) (by kernel_rfl) (qp_thn (qp_blk (qp_thn (qp_rnd (qp_blk (qp_thn qp_body)))))) (yq (by kernel_rfl) (g_ldr (b := e17.2.1) 4 [.int .i64 e17.2.2.2.2.2.2] (.int .i64 e17.2.2.2.2.2.2) (by kernel_rfl) 2 rfl (rdFam hf22 4 (by kernel_rfl)))) h (by kernel_rfl) ?_
      refine d_take 13 8191 [2, 2, 2] rfl (v := .int .i64 ((now + n) - e17.2.2.2.2.2.2)) (by kernel_rfl) (qp_thn (qp_blk (qp_thn (qp_rnd (qp_blk (qp_thn qp_body)))))) (yq (by kernel_rfl) (g_eq (v := .int .i64 (IntKind.i64.wrap ((now + n) - e17.2.2.2.2.2.2))) (v' := .int .i64 ((now + n) - e17.2.2.2.2.2.2)) (g_pure fun _ => by kernel_rfl) (wr (by omega)))) h (by kernel_rfl) ?_
      refine d_take 14 16383 [2, 2, 2] rfl (v := .bool (decide ((now + n) - e17.2.2.2.2.2.2 ≥ 60))) (by kernel_rfl) (qp_thn (qp_blk (qp_thn (qp_rnd (qp_blk (qp_thn qp_body)))))) (yq (by kernel_rfl) (g_pure (v := .bool (decide ((now + n) - e17.2.2.2.2.2.2 ≥ 60))) fun _ => by kernel_rfl)) h (by kernel_rfl) ?_
      refine d_done (by kernel_rfl) ?_
      refine thn_n ?_
      refine c_cond (decide ((now + n) - e17.2.2.2.2.2.2 ≥ 60)) (by kernel_rfl) (fun hc23 => ?_) (fun hc23 => ?_)
      · skip
        have hc23 := of_decide_eq_true hc23
        have hE : expP (now + n) e17 = true := by have hq : e17.2.2.2.2.2.2 = lsS e17 := rfl; simp [expP, hh19.2.2]; omega
        refine c_seq ?_
        refine c_reg ?_
        refine sq_p (vg) rfl (fun _ => by kernel_rfl) ?_
        refine sq_p (.int .i64 e17.1) rfl (fun _ => by kernel_rfl) ?_
        refine sq_new rfl (fun b => .slice (some ⟨b, 0, none⟩) 1 1) [.int .i64 e17.1] 3 (fun _ => by kernel_rfl) h ?_; intro k24 w h
        refine sq_app (b := k24) (o := 0) rfl 1 e17.1 (by kernel_rfl) h 1 rfl 0 rfl (rdCell 0 (by kernel_rfl)) (by (try simp only [List.length_append, List.length_cons, List.length_nil]); omega) ?_; intro v25 w h
        refine sq_p (v25) rfl (fun _ => by kernel_rfl) ?_
        refine lnil ?_
        refine thn_n ?_
        refine c_reg ?_
        refine sq_p (.pointer (some ⟨b, 0, none⟩)) rfl (fun _ => by kernel_rfl) ?_
        refine sq_p (.pointer (some ⟨b, 0, none⟩)) rfl (fun _ => by kernel_rfl) ?_
        refine sq_p (.pointer (some ⟨b, 0, none⟩)) rfl (fun _ => by kernel_rfl) ?_
        refine sq_q rfl h (g_ld 0 [.map (some mb)] (.map (some mb)) (by kernel_rfl) 3 rfl) ?_
        refine sq_p (.int .i64 e17.1) rfl (fun _ => by kernel_rfl) ?_
        refine sq_mapd rfl (K := 3) (E := 229) (keyInt (by kernel_rfl)) e17.1 (by kernel_rfl) h 4 rfl ?_; intro w h
        refine lnil ?_
        refine blk_n (thn_n ?_)
        refine c_reg ?_
        refine sq_q rfl h (g_eq (v := .int .i64 (IntKind.i64.wrap ((i : Int) + 1))) (v' := .int .i64 ((i + 1 : Nat) : Int)) (g_pure fun _ => by kernel_rfl) (wr (by omega))) ?_
        refine sq_p (.int .i64 ((i + 1 : Nat) : Int)) rfl (fun _ => by kernel_rfl) ?_
        refine lnil ?_
        rw [adel_ls e17.1 hcs] at h
        have h := h.pickE (M := [rFam true 231 cliC (cur.map lsF), rCell true k24 [.int .i64 e17.1] 3, rRows true v25 3 1 idC (gl ++ [e17.1]), rRows true v12 3 1 idC (lsIds l), rCell true b [.map (some mb), .int .i64 last, .int .i64 (now + n)] 227, rMap true mb ik ((cur.filter fun x => !decide (x.1 = e17.1)).map lsKV), rEnv B ad [2]]) [5, 0, 0, 0, 0, 0, 0] (by kernel_rfl)
        have h := h.famSub (l' := (cur.filter fun x => !decide (x.1 = e17.1)).map lsF) (List.filter_sublist.map lsF)
        refine loop_end (fun j => ⟨(i + 1), (cur.filter fun x => !decide (x.1 = e17.1)), (gl ++ [e17.1]), v25, j⟩) (show ((i + 1) ≤ (lsIds l).length ∧ TickAt l (now + n) (i + 1) (cur.filter fun x => !decide (x.1 = e17.1)) (gl ++ [e17.1])) ∧ ((lsIds l).length - (i + 1)) < ((lsIds l).length - i) from ⟨⟨by omega, hT.more hk.sorted hj18 hE⟩, by omega⟩) (by kernel_rfl) [2, 2, 2, 2, 0, 1] (by kernel_rfl) h
      · skip
        have hc23 := of_decide_eq_false hc23
        have hE : expP (now + n) e17 = false := by have hq : e17.2.2.2.2.2.2 = lsS e17 := rfl; simp [expP, hh19.2.2]; omega
        refine c_skip ?_
        refine blk_n (thn_n ?_)
        refine c_reg ?_
        refine sq_q rfl h (g_eq (v := .int .i64 (IntKind.i64.wrap ((i : Int) + 1))) (v' := .int .i64 ((i + 1 : Nat) : Int)) (g_pure fun _ => by kernel_rfl) (wr (by omega))) ?_
        refine sq_p (.int .i64 ((i + 1 : Nat) : Int)) rfl (fun _ => by kernel_rfl) ?_
        refine lnil ?_
        refine loop_end (fun j => ⟨(i + 1), cur, gl, vg, j⟩) (show ((i + 1) ≤ (lsIds l).length ∧ TickAt l (now + n) (i + 1) cur gl) ∧ ((lsIds l).length - (i + 1)) < ((lsIds l).length - i) from ⟨⟨by omega, hT.less hk.sorted hj18 hE⟩, by omega⟩) (by kernel_rfl) [0, 0, 0, 0, 0, 0] (by kernel_rfl) h
    · skip
      have hc13 := of_decide_eq_false hc13
      refine c_exit ?_
      refine thn_e (rnd_e (blk_e (thn_n ?_)))
      refine c_seq ?_
      refine c_reg ?_
      refine sq_p (vg) rfl (fun _ => by kernel_rfl) ?_
      refine sq_p (vg) rfl (fun _ => by kernel_rfl) ?_
      refine sq_p (.nilIface) rfl (fun _ => by kernel_rfl) ?_
      refine lnil ?_
      refine thn_n ?_
      refine c_ret ?_
      refine ret_end [vg, .nilIface] [0, 1, 1, 1, 1] h (by kernel_rfl) (res_t (by kernel_rfl) (res_t (by kernel_rfl) res_n)) ?_
      obtain ⟨hd1, hd2⟩ := hT.done (by omega)
      subst hd1 hd2
      exact .inl ⟨by omega, by omega, _, rfl, rfl⟩
end Go.Proofs.YtofhnglgebllbaaDoor
