/- lease: contracts by what is owned (printed by walk.py). -/
import Derived.Test.YtofhnglgebllbaaDoorLsE
namespace Go.Proofs.YtofhnglgebllbaaDoor
open Go.RowKit
set_option linter.unusedVariables false
set_option linter.unusedSimpArgs false
set_option linter.unnecessarySimpa false
set_option maxRecDepth 100000
set_option maxHeartbeats 1000000 in
theorem rregister_spec (b : Nat) (v : Value) (l : List Ls) (last now : Int) (hk : LsOk l last now) (hb : last ≤ 1000) (hw : now ≤ 9000000000000000) (nm : ByteArray) (hnm : nm.size ≤ 9223372036854775807) (boot : Int) (bk : Nat) : Spec Tryd.prog 71 #[.pointer (some ⟨b, 0, none⟩), .string nm] [rCell true b [v, .int .i64 last, .int .i64 now] 124, rRows true v 235 4 rclC l] (fun u L => (¬ nameOk nm ∧ u = .tuple #[.int .i64 0, .int .i64 4] ∧ L = [rCell true b [v, .int .i64 last, .int .i64 now] 124, rRows true v 235 4 rclC l]) ∨ (nameOk nm ∧ ∃ ks, Names l ks ∧ 12 ≤ ks.length ∧ ¬ (∃ e ∈ l, lsN e = nm) ∧ u = .tuple #[.int .i64 0, .int .i64 9] ∧ L = [rCell true b [v, .int .i64 last, .int .i64 now] 124, rRows true v 235 4 rclC l]) ∨ (nameOk nm ∧ (∀ ks, Names l ks → ¬ (∃ e ∈ l, lsN e = nm) → ks.length < 12) ∧ ∃ v', u = .tuple #[.int .i64 (last + 1), .int .i64 0] ∧ L = [rCell true b [v', .int .i64 (last + 1), .int .i64 now] 124, rRows true v' 235 4 rclC (regL l nm boot last bk)])) := by
  have hfw := hk.few
  have hpos := hk.pos
  refine spec_of (#[.pointer (some ⟨b, 0, none⟩), .string nm, undef, undef, undef, undef, undef, undef, undef, undef, undef, undef, undef, undef, undef, undef, undef, undef, undef, undef, undef, undef, undef, undef, undef, undef, undef, undef, undef, undef, undef, undef, undef, undef, undef, undef, undef, undef, undef, undef, undef, undef, undef, undef, undef, undef, undef, undef, undef, undef, undef, undef, undef, undef, undef, undef, undef, undef, undef, undef, undef, undef, undef, undef, undef, undef, undef, undef, undef, undef, undef, undef, undef, undef, undef, undef, undef, undef, undef, undef, undef, undef, undef, undef, undef, undef, undef, undef, undef, undef, undef, undef, undef, undef, undef, undef, undef, undef, undef, undef, undef, undef, undef, undef, undef, undef, undef, undef, undef, undef, undef, undef, undef, undef, undef]) Tryd.func71 rfl (by kernel_rfl) fun E w0 w h => ?_
  refine c_seq ?_
  refine c_reg ?_
  refine sq_p (.int .i64 0) rfl (fun _ => by kernel_rfl) ?_
  refine sq_p (.int .i64 0) rfl (fun _ => by kernel_rfl) ?_
  refine lnil ?_
  refine thn_n ?_
  refine c_seq ?_
  refine c_seq ?_
  refine c_reg ?_
  refine sq_p (.string nm) rfl (fun _ => by kernel_rfl) ?_
  refine sq_call #[.string nm] [] rfl (nameError_two nm hnm) (fun _ => by kernel_rfl) h ?_; rintro v_ L_ w (⟨hq1, rfl, rfl⟩ | ⟨hq1, rfl, rfl⟩) h
  · skip
    refine sq_p (.bool false) rfl (fun _ => by kernel_rfl) ?_
    refine lnil ?_
    refine thn_n ?_
    refine c_false (by kernel_rfl) ?_
    refine c_skip ?_
    refine thn_n ?_
    refine c_seq ?_
    refine c_reg ?_
    refine sq_p (.slice none 0 0) rfl (fun _ => by kernel_rfl) ?_
    refine lnil ?_
    refine thn_n ?_
    refine c_seq ?_
    refine c_seq ?_
    refine c_reg ?_
    refine sq_p (.int .i64 0) rfl (fun _ => by kernel_rfl) ?_
    refine lnil ?_
    refine thn_n ?_
    refine c_block ?_
    have h := h.nilRows 9 1 txC
    refine c_loop (X := Nat × List ByteArray × Value × (Nat → Value)) (fun ⟨i, ks, vk, J0⟩ => ⟨#[.pointer (some ⟨b, 0, none⟩), .string nm, undef, undef, .int .i64 0, .int .i64 0, vk, .int .i64 (i : Int), undef, undef, .string nm, .int .i64 0, .bool false, J0 13, J0 14, J0 15, J0 16, J0 17, J0 18, J0 19, J0 20, J0 21, J0 22, J0 23, J0 24, J0 25, J0 26, J0 27, J0 28, J0 29, J0 30, J0 31, J0 32, J0 33, J0 34, J0 35, J0 36, J0 37, J0 38, J0 39, J0 40, J0 41, J0 42, J0 43, undef, undef, undef, undef, undef, undef, undef, undef, undef, undef, undef, undef, undef, undef, undef, undef, undef, undef, undef, undef, undef, undef, undef, undef, undef, undef, undef, undef, undef, undef, undef, undef, undef, undef, undef, undef, undef, undef, undef, undef, undef, undef, undef, undef, undef, undef, undef, undef, undef, undef, undef, undef, undef, undef, undef, undef, undef, undef, undef, undef, undef, undef, undef, undef, undef, undef, undef, undef, undef, undef, undef], []⟩)
      (fun ⟨i, ks, vk, J0⟩ => [rRows true vk 9 1 txC ks, rCell true b [v, .int .i64 last, .int .i64 now] 124, rRows true v 235 4 rclC l]) (fun ⟨i, ks, vk, J0⟩ => i ≤ l.length ∧ Names (l.take i) ks) (fun ⟨i, ks, vk, J0⟩ => l.length - i)
      ⟨0, [], (.slice none 0 0), (fun n => (#[.pointer (some ⟨b, 0, none⟩), .string nm, undef, undef, .int .i64 0, .int .i64 0, .slice none 0 0, .int .i64 0, undef, undef, .string nm, .int .i64 0, .bool false, undef, undef, undef, undef, undef, undef, undef, undef, undef, undef, undef, undef, undef, undef, undef, undef, undef, undef, undef, undef, undef, undef, undef, undef, undef, undef, undef, undef, undef, undef, undef, undef, undef, undef, undef, undef, undef, undef, undef, undef, undef, undef, undef, undef, undef, undef, undef, undef, undef, undef, undef, undef, undef, undef, undef, undef, undef, undef, undef, undef, undef, undef, undef, undef, undef, undef, undef, undef, undef, undef, undef, undef, undef, undef, undef, undef, undef, undef, undef, undef, undef, undef, undef, undef, undef, undef, undef, undef, undef, undef, undef, undef, undef, undef, undef, undef, undef, undef, undef, undef, undef, undef] : Array Value).getD n undef)⟩ ⟨by omega, List.nodup_nil, fun s => by simp⟩ (by kernel_rfl) [0, 0, 0] (by kernel_rfl) h ?_
    rintro ⟨i, ks, vk, J0⟩ w hG h
    obtain ⟨hi0, hN⟩ : i ≤ l.length ∧ Names (l.take i) ks := hG
    have hkl := hN.few
    refine c_seq ?_
    refine c_seq ?_
    refine c_reg ?_
    refine sq_p (.int .i64 (i : Int)) rfl (fun _ => by kernel_rfl) ?_
    refine sq_p (.pointer (some ⟨b, 0, none⟩)) rfl (fun _ => by kernel_rfl) ?_
    refine sq_p (.pointer (some ⟨b, 0, none⟩)) rfl (fun _ => by kernel_rfl) ?_
    refine sq_p (.pointer (some ⟨b, 0, none⟩)) rfl (fun _ => by kernel_rfl) ?_
    refine sq_q rfl h (g_ld 0 [v] (v) (by kernel_rfl) 1 rfl) ?_
    refine sq_q rfl h (g_len (by kernel_rfl) 2 rfl) ?_
    refine sq_p (.bool (decide ((i : Int) < (l.length : Int)))) rfl (fun _ => by kernel_rfl) ?_
    refine lnil ?_
    refine thn_n ?_
    refine c_cond (decide ((i : Int) < (l.length : Int))) (by kernel_rfl) (fun hc2 => ?_) (fun hc2 => ?_)
    · skip
      have hc2 := of_decide_eq_true hc2
      refine c_skip ?_
      refine thn_n ?_
      refine c_seq ?_
      refine c_block ?_
      refine c_seq ?_
      refine c_reg ?_
      refine sq_p (vk) rfl (fun _ => by kernel_rfl) ?_
      refine sq_p (.pointer (some ⟨b, 0, none⟩)) rfl (fun _ => by kernel_rfl) ?_
      refine sq_p (.pointer (some ⟨b, 0, none⟩)) rfl (fun _ => by kernel_rfl) ?_
      refine sq_p (.pointer (some ⟨b, 0, none⟩)) rfl (fun _ => by kernel_rfl) ?_
      refine sq_q rfl h (g_ld 0 [v] (v) (by kernel_rfl) 1 rfl) ?_
      refine sq_p (.int .i64 (i : Int)) rfl (fun _ => by kernel_rfl) ?_
      have hi3 : i < l.length := by omega
      obtain ⟨x4, hx5⟩ : ∃ x, l[i]? = some x := ⟨_, List.getElem?_eq_getElem hi3⟩
      refine sq_q rfl h (g_idx i (by kernel_rfl) hi3 2 rfl) ?_
      refine sq_p (.pointer (some ⟨blkN v, offN v + i * 4 + 2, none⟩)) rfl (fun _ => by kernel_rfl) ?_
      refine sq_q rfl h (g_ldr (b := blkN v) (offN v + i * 4 + 2) [.string x4.2.2.1] (.string x4.2.2.1) (by kernel_rfl) 2 rfl (rdRow rclC_len hx5 2 (by kernel_rfl))) ?_
      refine sq_call #[vk, .string x4.2.2.1] [0] rfl (index_spec vk ks x4.2.2.1 (by omega)) (fun _ => by kernel_rfl) h ?_; rintro v_ L_ w (⟨hm6, q7, rfl, rfl⟩ | ⟨hm8, rfl, rfl⟩) h
      · skip
        refine sq_p (.bool (decide ((q7 : Int) < 0))) rfl (fun _ => by kernel_rfl) ?_
        refine lnil ?_
        refine thn_n ?_
        refine c_cond (decide ((q7 : Int) < 0)) (by kernel_rfl) (fun hc9 => ?_) (fun hc9 => ?_)
        · skip
          have hc9 := of_decide_eq_true hc9
          exfalso; omega
        · skip
          have hc9 := of_decide_eq_false hc9
          refine c_skip ?_
          refine blk_n (thn_n ?_)
          refine c_reg ?_
          refine sq_p (.int .i64 (i : Int)) rfl (fun _ => by kernel_rfl) ?_
          refine sq_q rfl h (g_eq (v := .int .i64 (IntKind.i64.wrap ((i : Int) + 1))) (v' := .int .i64 ((i + 1 : Nat) : Int)) (g_pure fun _ => by kernel_rfl) (wr (by omega))) ?_
          refine sq_p (.int .i64 ((i + 1 : Nat) : Int)) rfl (fun _ => by kernel_rfl) ?_
          refine lnil ?_
          refine loop_end (fun j => ⟨(i + 1), ks, vk, j⟩) (show ((i + 1) ≤ l.length ∧ Names (l.take (i + 1)) ks) ∧ (l.length - (i + 1)) < (l.length - i) from ⟨⟨by omega, Names.old hx5 hN hm6⟩, by omega⟩) (by kernel_rfl) [0, 0, 0] (by kernel_rfl) h
      · skip
        refine sq_p (.bool true) rfl (fun _ => by kernel_rfl) ?_
        refine lnil ?_
        refine thn_n ?_
        refine c_true (by kernel_rfl) ?_
        refine c_reg ?_
        refine sq_p (vk) rfl (fun _ => by kernel_rfl) ?_
        refine sq_p (.pointer (some ⟨b, 0, none⟩)) rfl (fun _ => by kernel_rfl) ?_
        refine sq_p (.pointer (some ⟨b, 0, none⟩)) rfl (fun _ => by kernel_rfl) ?_
        refine sq_p (.pointer (some ⟨b, 0, none⟩)) rfl (fun _ => by kernel_rfl) ?_
        refine sq_q rfl h (g_ld 0 [v] (v) (by kernel_rfl) 1 rfl) ?_
        refine sq_p (.int .i64 (i : Int)) rfl (fun _ => by kernel_rfl) ?_
        refine sq_q rfl h (g_idx i (by kernel_rfl) hi3 2 rfl) ?_
        refine sq_p (.pointer (some ⟨blkN v, offN v + i * 4 + 2, none⟩)) rfl (fun _ => by kernel_rfl) ?_
        refine sq_q rfl h (g_ldr (b := blkN v) (offN v + i * 4 + 2) [.string x4.2.2.1] (.string x4.2.2.1) (by kernel_rfl) 2 rfl (rdRow rclC_len hx5 2 (by kernel_rfl))) ?_
        refine sq_new rfl (fun b => .slice (some ⟨b, 0, none⟩) 1 1) [.string x4.2.2.1] 9 (fun _ => by kernel_rfl) h ?_; intro k10 w h
        refine sq_app (b := k10) (o := 0) rfl 1 x4.2.2.1 (by kernel_rfl) h 1 rfl 0 rfl (rdCell 0 (by kernel_rfl)) (by (try simp only [List.length_append, List.length_cons, List.length_nil]); omega) ?_; intro v11 w h
        refine sq_p (v11) rfl (fun _ => by kernel_rfl) ?_
        refine lnil ?_
        refine blk_n (thn_n ?_)
        refine c_reg ?_
        refine sq_p (.int .i64 (i : Int)) rfl (fun _ => by kernel_rfl) ?_
        refine sq_q rfl h (g_eq (v := .int .i64 (IntKind.i64.wrap ((i : Int) + 1))) (v' := .int .i64 ((i + 1 : Nat) : Int)) (g_pure fun _ => by kernel_rfl) (wr (by omega))) ?_
        refine sq_p (.int .i64 ((i + 1 : Nat) : Int)) rfl (fun _ => by kernel_rfl) ?_
        refine lnil ?_
        refine loop_end (fun j => ⟨(i + 1), ks ++ [x4.2.2.1], v11, j⟩) (show ((i + 1) ≤ l.length ∧ Names (l.take (i + 1)) (ks ++ [x4.2.2.1])) ∧ (l.length - (i + 1)) < (l.length - i) from ⟨⟨by omega, Names.new hx5 hN hm8⟩, by omega⟩) (by kernel_rfl) [1, 1, 1] (by kernel_rfl) h
    · skip
      have hc2 := of_decide_eq_false hc2
      refine c_exit ?_
      refine thn_e (rnd_e (blk_e (thn_n ?_)))
      refine c_seq ?_
      refine c_seq ?_
      refine c_reg ?_
      refine sq_p (vk) rfl (fun _ => by kernel_rfl) ?_
      refine sq_p (.string nm) rfl (fun _ => by kernel_rfl) ?_
      have hNl : Names l ks := by rw [List.take_of_length_le (by omega)] at hN; exact hN
      refine sq_call #[vk, .string nm] [0] rfl (index_spec vk ks nm (by omega)) (fun _ => by kernel_rfl) h ?_; rintro v_ L_ w (⟨hm12, q13, rfl, rfl⟩ | ⟨hm14, rfl, rfl⟩) h
      · skip
        obtain ⟨b15, hb15⟩ : ∃ b_ : Bool, b_ = (decide ((q13 : Int) < 0)) := ⟨_, rfl⟩
        refine sq_q (v := .bool b15) rfl h (by subst hb15; exact g_pure (v := .bool (decide ((q13 : Int) < 0))) fun _ => by kernel_rfl) ?_
        refine sq_p (.bool b15) rfl (fun _ => by kernel_rfl) ?_
        refine sq_m1 (v := vk) b15 (by cases b15 <;> kernel_rfl) h (fun hB => by subst hB; exact g_pure (v := vk) fun _ => by kernel_rfl) ?_
        refine sq_m1 (v := .int .i64 (ks.length : Int)) b15 (by cases b15 <;> kernel_rfl) h (fun hB => by subst hB; exact g_len (by kernel_rfl) 0 rfl) ?_
        obtain ⟨b16, hb16⟩ : ∃ b_ : Bool, b_ = (decide ((ks.length : Int) ≥ 12)) := ⟨_, rfl⟩
        refine sq_m1 (v := .bool b16) b15 (by cases b15 <;> kernel_rfl) h (fun hB => by subst hB; exact by subst hb16; exact g_pure (v := .bool (decide ((ks.length : Int) ≥ 12))) fun _ => by kernel_rfl) ?_
        obtain ⟨b17, hb17⟩ : ∃ b_ : Bool, b_ = (b15 && b16) := ⟨_, rfl⟩
        refine sq_q (v := .bool b17) rfl h (by subst hb17; exact g_pure (v := .bool (b15 && b16)) fun _ => by cases b15 <;> kernel_rfl) ?_
        refine lnil ?_
        refine thn_n ?_
        refine c_cond (b17) (by kernel_rfl) (fun hc18 => ?_) (fun hc18 => ?_)
        · skip
          have q19 : (b15 && b16) = true := by rw [← hb17]; exact hc18
          have q20 : b15 = true := by revert q19; cases b15 <;> simp
          have q21 : b16 = true := by revert q19; cases b15 <;> cases b16 <;> simp
          have q22 : (decide ((q13 : Int) < 0)) = true := by rw [← hb15]; exact q20
          have q22 := of_decide_eq_true q22
          have q23 : (decide ((ks.length : Int) ≥ 12)) = true := by rw [← hb16]; exact q21
          have q23 := of_decide_eq_true q23
          exfalso; omega
        · skip
          have q24 : (b15 && b16) = false := by rw [← hb17]; exact hc18
          have q25 : (¬ ((q13 : Int) < 0) ∨ ¬ ((ks.length : Int) ≥ 12)) := by subst hb16; subst hb15; revert q24; first | (simp; done) | (simp; omega)
          refine c_skip ?_
          refine thn_n ?_
          refine c_seq ?_
          refine c_reg ?_
          refine sq_p (.slice none 0 0) rfl (fun _ => by kernel_rfl) ?_
          refine lnil ?_
          refine thn_n ?_
          refine c_seq ?_
          refine c_seq ?_
          refine c_reg ?_
          refine sq_p (.int .i64 0) rfl (fun _ => by kernel_rfl) ?_
          refine lnil ?_
          refine thn_n ?_
          refine c_block ?_
          have h := h.nilRows 235 4 rclC
          refine c_loop (X := Nat × List Ls × Value × (Nat → Value)) (fun ⟨n, out, vo, J1⟩ => ⟨#[.pointer (some ⟨b, 0, none⟩), .string nm, undef, undef, .int .i64 0, .int .i64 0, vk, .int .i64 (i : Int), vo, .int .i64 (n : Int), .string nm, .int .i64 0, .bool false, .int .i64 (i : Int), .pointer (some ⟨b, 0, none⟩), .pointer (some ⟨b, 0, none⟩), .pointer (some ⟨b, 0, none⟩), v, .int .i64 (l.length : Int), .bool (decide ((i : Int) < (l.length : Int))), J0 20, J0 21, J0 22, J0 23, J0 24, J0 25, J0 26, J0 27, J0 28, J0 29, J0 30, J0 31, J0 32, J0 33, J0 34, J0 35, J0 36, J0 37, J0 38, J0 39, J0 40, J0 41, J0 42, J0 43, vk, .string nm, .int .i64 (q13 : Int), .bool b15, .bool b15, (if b15 = true then vk else undef), (if b15 = true then .int .i64 (ks.length : Int) else undef), (if b15 = true then .bool b16 else undef), .bool b17, J1 53, J1 54, J1 55, J1 56, J1 57, J1 58, J1 59, J1 60, J1 61, J1 62, J1 63, J1 64, J1 65, J1 66, J1 67, J1 68, J1 69, J1 70, J1 71, J1 72, J1 73, J1 74, J1 75, J1 76, J1 77, J1 78, J1 79, J1 80, J1 81, J1 82, J1 83, J1 84, J1 85, J1 86, J1 87, J1 88, J1 89, J1 90, J1 91, undef, undef, undef, undef, undef, undef, undef, undef, undef, undef, undef, undef, undef, undef, undef, undef, undef, undef, undef, undef, undef, undef, undef], []⟩)
            (fun ⟨n, out, vo, J1⟩ => [rRows true vo 235 4 rclC out, rRows true vk 9 1 txC ks, rCell true b [v, .int .i64 last, .int .i64 now] 124, rRows true v 235 4 rclC l]) (fun ⟨n, out, vo, J1⟩ => n ≤ l.length ∧ out = (l.take n).filter (regP nm)) (fun ⟨n, out, vo, J1⟩ => l.length - n)
            ⟨0, [], (.slice none 0 0), (fun n => (#[.pointer (some ⟨b, 0, none⟩), .string nm, undef, undef, .int .i64 0, .int .i64 0, vk, .int .i64 (i : Int), .slice none 0 0, .int .i64 0, .string nm, .int .i64 0, .bool false, .int .i64 (i : Int), .pointer (some ⟨b, 0, none⟩), .pointer (some ⟨b, 0, none⟩), .pointer (some ⟨b, 0, none⟩), v, .int .i64 (l.length : Int), .bool (decide ((i : Int) < (l.length : Int))), J0 20, J0 21, J0 22, J0 23, J0 24, J0 25, J0 26, J0 27, J0 28, J0 29, J0 30, J0 31, J0 32, J0 33, J0 34, J0 35, J0 36, J0 37, J0 38, J0 39, J0 40, J0 41, J0 42, J0 43, vk, .string nm, .int .i64 (q13 : Int), .bool b15, .bool b15, (if b15 = true then vk else undef), (if b15 = true then .int .i64 (ks.length : Int) else undef), (if b15 = true then .bool b16 else undef), .bool b17, undef, undef, undef, undef, undef, undef, undef, undef, undef, undef, undef, undef, undef, undef, undef, undef, undef, undef, undef, undef, undef, undef, undef, undef, undef, undef, undef, undef, undef, undef, undef, undef, undef, undef, undef, undef, undef, undef, undef, undef, undef, undef, undef, undef, undef, undef, undef, undef, undef, undef, undef, undef, undef, undef, undef, undef, undef, undef, undef, undef, undef, undef] : Array Value).getD n undef)⟩ ⟨by omega, rfl⟩ (by kernel_rfl) [0, 0, 0, 0] (by kernel_rfl) h ?_
          rintro ⟨n, out, vo, J1⟩ w hG h
          obtain ⟨hn0, ho⟩ : n ≤ l.length ∧ out = (l.take n).filter (regP nm) := hG
          have hol : out.length ≤ n := by rw [ho]; exact Nat.le_trans (List.length_filter_le _ _) (by rw [List.length_take]; omega)
          refine c_seq ?_
          refine c_seq ?_
          refine c_reg ?_
          refine sq_p (.int .i64 (n : Int)) rfl (fun _ => by kernel_rfl) ?_
          refine sq_p (.pointer (some ⟨b, 0, none⟩)) rfl (fun _ => by kernel_rfl) ?_
          refine sq_p (.pointer (some ⟨b, 0, none⟩)) rfl (fun _ => by kernel_rfl) ?_
          refine sq_p (.pointer (some ⟨b, 0, none⟩)) rfl (fun _ => by kernel_rfl) ?_
          refine sq_q rfl h (g_ld 0 [v] (v) (by kernel_rfl) 2 rfl) ?_
          refine sq_q rfl h (g_len (by kernel_rfl) 3 rfl) ?_
          refine sq_p (.bool (decide ((n : Int) < (l.length : Int)))) rfl (fun _ => by kernel_rfl) ?_
          refine lnil ?_
          refine thn_n ?_
          refine c_cond (decide ((n : Int) < (l.length : Int))) (by kernel_rfl) (fun hc26 => ?_) (fun hc26 => ?_)
          · skip
            have hc26 := of_decide_eq_true hc26
            refine c_skip ?_
            refine thn_n ?_
            refine c_seq ?_
            refine c_block ?_
            refine c_seq ?_
            refine c_reg ?_
            refine sq_p (.pointer (some ⟨b, 0, none⟩)) rfl (fun _ => by kernel_rfl) ?_
            refine sq_p (.pointer (some ⟨b, 0, none⟩)) rfl (fun _ => by kernel_rfl) ?_
            refine sq_p (.pointer (some ⟨b, 0, none⟩)) rfl (fun _ => by kernel_rfl) ?_
            refine sq_q rfl h (g_ld 0 [v] (v) (by kernel_rfl) 2 rfl) ?_
            refine sq_p (.int .i64 (n : Int)) rfl (fun _ => by kernel_rfl) ?_
            have hi27 : n < l.length := by omega
            obtain ⟨x28, hx29⟩ : ∃ x, l[n]? = some x := ⟨_, List.getElem?_eq_getElem hi27⟩
            refine sq_q rfl h (g_idx n (by kernel_rfl) hi27 3 rfl) ?_
            refine sq_p (.pointer (some ⟨blkN v, offN v + n * 4 + 2, none⟩)) rfl (fun _ => by kernel_rfl) ?_
            refine sq_q rfl h (g_ldr (b := blkN v) (offN v + n * 4 + 2) [.string x28.2.2.1] (.string x28.2.2.1) (by kernel_rfl) 3 rfl (rdRow rclC_len hx29 2 (by kernel_rfl))) ?_
            refine sq_p (.string nm) rfl (fun _ => by kernel_rfl) ?_
            obtain ⟨b30, hb30⟩ : ∃ b_ : Bool, b_ = (!(decide (x28.2.2.1 = nm))) := ⟨_, rfl⟩
            refine sq_q (v := .bool b30) rfl h (by subst hb30; exact g_eq (v := .bool !(x28.2.2.1.toList == nm.toList)) (v' := .bool (!(decide (x28.2.2.1 = nm)))) (g_pure fun _ => by kernel_rfl) bneS) ?_
            refine sq_p (.bool b30) rfl (fun _ => by kernel_rfl) ?_
            refine sq_m0 (v := .pointer (some ⟨b, 0, none⟩)) b30 (by cases b30 <;> kernel_rfl) h (fun hB => by subst hB; exact g_pure (v := .pointer (some ⟨b, 0, none⟩)) fun _ => by kernel_rfl) ?_
            refine sq_m0 (v := .pointer (some ⟨b, 0, none⟩)) b30 (by cases b30 <;> kernel_rfl) h (fun hB => by subst hB; exact g_pure (v := .pointer (some ⟨b, 0, none⟩)) fun _ => by kernel_rfl) ?_
            refine sq_m0 (v := .pointer (some ⟨b, 0, none⟩)) b30 (by cases b30 <;> kernel_rfl) h (fun hB => by subst hB; exact g_pure (v := .pointer (some ⟨b, 0, none⟩)) fun _ => by kernel_rfl) ?_
            refine sq_m0 (v := v) b30 (by cases b30 <;> kernel_rfl) h (fun hB => by subst hB; exact g_ld 0 [v] (v) (by kernel_rfl) 2 rfl) ?_
            refine sq_m0 (v := .int .i64 (n : Int)) b30 (by cases b30 <;> kernel_rfl) h (fun hB => by subst hB; exact g_pure (v := .int .i64 (n : Int)) fun _ => by kernel_rfl) ?_
            refine sq_m0 (v := .pointer (some ⟨blkN v, offN v + n * 4, none⟩)) b30 (by cases b30 <;> kernel_rfl) h (fun hB => by subst hB; exact g_idx n (by kernel_rfl) hi27 3 rfl) ?_
            refine sq_m0 (v := .pointer (some ⟨blkN v, offN v + n * 4 + 3, none⟩)) b30 (by cases b30 <;> kernel_rfl) h (fun hB => by subst hB; exact g_pure (v := .pointer (some ⟨blkN v, offN v + n * 4 + 3, none⟩)) fun _ => by kernel_rfl) ?_
            refine sq_m0 (v := .bool x28.2.2.2.2.2.1) b30 (by cases b30 <;> kernel_rfl) h (fun hB => by subst hB; exact g_ldr (b := blkN v) (offN v + n * 4 + 3) [.bool x28.2.2.2.2.2.1] (.bool x28.2.2.2.2.2.1) (by kernel_rfl) 3 rfl (rdRow rclC_len hx29 3 (by kernel_rfl))) ?_
            obtain ⟨b31, hb31⟩ : ∃ b_ : Bool, b_ = (b30 || x28.2.2.2.2.2.1) := ⟨_, rfl⟩
            refine sq_q (v := .bool b31) rfl h (by subst hb31; exact g_pure (v := .bool (b30 || x28.2.2.2.2.2.1)) fun _ => by cases b30 <;> kernel_rfl) ?_
            refine lnil ?_
            refine thn_n ?_
            refine c_cond (b31) (by kernel_rfl) (fun hc32 => ?_) (fun hc32 => ?_)
            · skip
              have q33 : (b30 || x28.2.2.2.2.2.1) = true := by rw [← hb31]; exact hc32
              have hT : regP nm x28 = true := by revert hc32; subst hb31; subst hb30; unfold regP; show _ → (!(decide (x28.2.2.1 = nm) && !x28.2.2.2.2.2.1)) = _; cases decide (x28.2.2.1 = nm) <;> cases x28.2.2.2.2.2.1 <;> simp
              refine c_reg ?_
              refine sq_p (vo) rfl (fun _ => by kernel_rfl) ?_
              refine sq_p (.pointer (some ⟨b, 0, none⟩)) rfl (fun _ => by kernel_rfl) ?_
              refine sq_p (.pointer (some ⟨b, 0, none⟩)) rfl (fun _ => by kernel_rfl) ?_
              refine sq_p (.pointer (some ⟨b, 0, none⟩)) rfl (fun _ => by kernel_rfl) ?_
              refine sq_q rfl h (g_ld 0 [v] (v) (by kernel_rfl) 2 rfl) ?_
              refine sq_p (.int .i64 (n : Int)) rfl (fun _ => by kernel_rfl) ?_
              refine sq_q rfl h (g_idx n (by kernel_rfl) hi27 3 rfl) ?_
              refine sq_q rfl h (g_ldr (b := blkN v) (offN v + n * 4) [.int .i64 x28.1, .int .i64 x28.2.2.2.2.2.2, .string x28.2.2.1, .bool x28.2.2.2.2.2.1] (.agg #[.int .i64 x28.1, .int .i64 x28.2.2.2.2.2.2, .string x28.2.2.1, .bool x28.2.2.2.2.2.1]) (by kernel_rfl) 3 rfl (rdRow0 rclC_len hx29 (by kernel_rfl))) ?_
              refine sq_new rfl (fun b => .slice (some ⟨b, 0, none⟩) 1 1) [.int .i64 x28.1, .int .i64 x28.2.2.2.2.2.2, .string x28.2.2.1, .bool x28.2.2.2.2.2.1] 235 (fun _ => by kernel_rfl) h ?_; intro k34 w h
              refine sq_app (b := k34) (o := 0) rfl 1 x28 (by kernel_rfl) h 1 rfl 0 rfl (rdCell 0 (by kernel_rfl)) (by (try simp only [List.length_append, List.length_cons, List.length_nil]); omega) ?_; intro v35 w h
              refine sq_p (v35) rfl (fun _ => by kernel_rfl) ?_
              refine lnil ?_
              refine blk_n (thn_n ?_)
              refine c_reg ?_
              refine sq_p (.int .i64 (n : Int)) rfl (fun _ => by kernel_rfl) ?_
              refine sq_q rfl h (g_eq (v := .int .i64 (IntKind.i64.wrap ((n : Int) + 1))) (v' := .int .i64 ((n + 1 : Nat) : Int)) (g_pure fun _ => by kernel_rfl) (wr (by omega))) ?_
              refine sq_p (.int .i64 ((n + 1 : Nat) : Int)) rfl (fun _ => by kernel_rfl) ?_
              refine lnil ?_
              refine loop_end (fun j => ⟨(n + 1), out ++ [x28], v35, j⟩) (show ((n + 1) ≤ l.length ∧ (out ++ [x28]) = (l.take (n + 1)).filter (regP nm)) ∧ (l.length - (n + 1)) < (l.length - n) from ⟨⟨by omega, by rw [ho, take_snoc hx29, List.filter_append]; simp [hT]⟩, by omega⟩) (by kernel_rfl) [1, 1, 1, 1] (by kernel_rfl) h
            · skip
              have q36 : (b30 || x28.2.2.2.2.2.1) = false := by rw [← hb31]; exact hc32
              have q37 : b30 = false := by revert q36; cases b30 <;> simp
              have q38 : x28.2.2.2.2.2.1 = false := by revert q36; cases b30 <;> cases x28.2.2.2.2.2.1 <;> simp
              have q39 : (!(decide (x28.2.2.1 = nm))) = false := by rw [← hb30]; exact q37
              have q40 : (decide (x28.2.2.1 = nm)) = true := by simpa using q39
              have q40 := of_decide_eq_true q40
              have hT : regP nm x28 = false := by revert hc32; subst hb31; subst hb30; unfold regP; show _ → (!(decide (x28.2.2.1 = nm) && !x28.2.2.2.2.2.1)) = _; cases decide (x28.2.2.1 = nm) <;> cases x28.2.2.2.2.2.1 <;> simp
              refine c_skip ?_
              refine blk_n (thn_n ?_)
              refine c_reg ?_
              refine sq_p (.int .i64 (n : Int)) rfl (fun _ => by kernel_rfl) ?_
              refine sq_q rfl h (g_eq (v := .int .i64 (IntKind.i64.wrap ((n : Int) + 1))) (v' := .int .i64 ((n + 1 : Nat) : Int)) (g_pure fun _ => by kernel_rfl) (wr (by omega))) ?_
              refine sq_p (.int .i64 ((n + 1 : Nat) : Int)) rfl (fun _ => by kernel_rfl) ?_
              refine lnil ?_
              refine loop_end (fun j => ⟨(n + 1), out, vo, j⟩) (show ((n + 1) ≤ l.length ∧ out = (l.take (n + 1)).filter (regP nm)) ∧ (l.length - (n + 1)) < (l.length - n) from ⟨⟨by omega, by rw [ho, take_snoc hx29, List.filter_append]; simp [hT]⟩, by omega⟩) (by kernel_rfl) [0, 0, 0, 0] (by kernel_rfl) h
          · skip
            have hc26 := of_decide_eq_false hc26
            refine c_exit ?_
            refine thn_e (rnd_e (blk_e (thn_n ?_)))
            refine c_seq ?_
            refine c_reg ?_
            refine sq_p (.pointer (some ⟨b, 0, none⟩)) rfl (fun _ => by kernel_rfl) ?_
            refine sq_p (.pointer (some ⟨b, 0, none⟩)) rfl (fun _ => by kernel_rfl) ?_
            refine sq_p (.pointer (some ⟨b, 1, none⟩)) rfl (fun _ => by kernel_rfl) ?_
            refine sq_q rfl h (g_ld 1 [.int .i64 last] (.int .i64 last) (by kernel_rfl) 2 rfl) ?_
            refine sq_q rfl h (g_eq (v := .int .i64 (IntKind.i64.wrap (last + 1))) (v' := .int .i64 (last + 1)) (g_pure fun _ => by kernel_rfl) (wr (by omega))) ?_
            refine sq_p (.pointer (some ⟨b, 0, none⟩)) rfl (fun _ => by kernel_rfl) ?_
            refine sq_p (.pointer (some ⟨b, 1, none⟩)) rfl (fun _ => by kernel_rfl) ?_
            refine sq_st rfl 1 [.int .i64 (last + 1)] [v, .int .i64 (last + 1), .int .i64 now] h 2 rfl (by kernel_rfl) ?_; intro w h
            refine lnil ?_
            refine thn_n ?_
            refine c_seq ?_
            refine c_reg ?_
            refine sq_p (.pointer (some ⟨b, 0, none⟩)) rfl (fun _ => by kernel_rfl) ?_
            refine sq_p (vo) rfl (fun _ => by kernel_rfl) ?_
            refine sq_p (.pointer (some ⟨b, 0, none⟩)) rfl (fun _ => by kernel_rfl) ?_
            refine sq_p (.pointer (some ⟨b, 0, none⟩)) rfl (fun _ => by kernel_rfl) ?_
            refine sq_p (.pointer (some ⟨b, 1, none⟩)) rfl (fun _ => by kernel_rfl) ?_
            refine sq_q rfl h (g_ld 1 [.int .i64 (last + 1)] (.int .i64 (last + 1)) (by kernel_rfl) 2 rfl) ?_
            refine sq_p (.string nm) rfl (fun _ => by kernel_rfl) ?_
            refine sq_p (.agg #[.int .i64 (last + 1), .int .i64 0, .string nm, .bool false]) rfl (fun _ => by kernel_rfl) ?_
            refine sq_new rfl (fun b => .slice (some ⟨b, 0, none⟩) 1 1) [.int .i64 (last + 1), .int .i64 0, .string nm, .bool false] 235 (fun _ => by kernel_rfl) h ?_; intro k41 w h
            refine sq_app (b := k41) (o := 0) rfl 1 (regE nm boot last bk) (by kernel_rfl) h 1 rfl 0 rfl (rdCell 0 (by kernel_rfl)) (by (try simp only [List.length_append, List.length_cons, List.length_nil]); omega) ?_; intro v42 w h
            refine sq_p (.pointer (some ⟨b, 0, none⟩)) rfl (fun _ => by kernel_rfl) ?_
            refine sq_p (.pointer (some ⟨b, 0, none⟩)) rfl (fun _ => by kernel_rfl) ?_
            refine sq_sto rfl (h.slv 1 rfl) 0 [v42, .int .i64 (last + 1), .int .i64 now] h 3 rfl (by kernel_rfl) ?_; intro w h
            refine lnil ?_
            refine thn_n ?_
            refine c_seq ?_
            refine c_reg ?_
            refine sq_p (.pointer (some ⟨b, 0, none⟩)) rfl (fun _ => by kernel_rfl) ?_
            refine sq_p (.pointer (some ⟨b, 0, none⟩)) rfl (fun _ => by kernel_rfl) ?_
            refine sq_p (.pointer (some ⟨b, 1, none⟩)) rfl (fun _ => by kernel_rfl) ?_
            refine sq_q rfl h (g_ld 1 [.int .i64 (last + 1)] (.int .i64 (last + 1)) (by kernel_rfl) 3 rfl) ?_
            refine sq_p (.int .i64 (last + 1)) rfl (fun _ => by kernel_rfl) ?_
            refine sq_p (.int .i64 0) rfl (fun _ => by kernel_rfl) ?_
            refine lnil ?_
            refine thn_n ?_
            refine c_ret ?_
            refine ret_end [.int .i64 (last + 1), .int .i64 0] [3, 1] h (by kernel_rfl) (res_t (by kernel_rfl) (res_t (by kernel_rfl) res_n)) ?_
            rw [ho, List.take_of_length_le (by omega)]
            exact .inr (.inr ⟨hq1, fun ks2 _ hno => absurd ((hNl.2 _).1 hm12) hno, _, rfl, rfl⟩)
      · skip
        refine sq_p (.bool true) rfl (fun _ => by kernel_rfl) ?_
        refine sq_p (.bool true) rfl (fun _ => by kernel_rfl) ?_
        refine sq_p (vk) (by kernel_rfl) (fun _ => by kernel_rfl) ?_
        refine sq_q (by kernel_rfl) h (g_len (by kernel_rfl) 0 rfl) ?_
        obtain ⟨b43, hb43⟩ : ∃ b_ : Bool, b_ = (decide ((ks.length : Int) ≥ 12)) := ⟨_, rfl⟩
        refine sq_q (v := .bool b43) (by kernel_rfl) h (by subst hb43; exact g_pure (v := .bool (decide ((ks.length : Int) ≥ 12))) fun _ => by kernel_rfl) ?_
        refine sq_p (.bool b43) rfl (fun _ => by kernel_rfl) ?_
        refine lnil ?_
        refine thn_n ?_
        refine c_cond (b43) (by kernel_rfl) (fun hc44 => ?_) (fun hc44 => ?_)
        · skip
          have q45 : (decide ((ks.length : Int) ≥ 12)) = true := by rw [← hb43]; exact hc44
          have q45 := of_decide_eq_true q45
          refine c_seq ?_
          refine c_reg ?_
          refine sq_p (.int .i64 0) rfl (fun _ => by kernel_rfl) ?_
          refine sq_p (.int .i64 9) rfl (fun _ => by kernel_rfl) ?_
          refine lnil ?_
          refine thn_n ?_
          refine c_ret ?_
          refine thn_r ?_
          refine ret_end [.int .i64 0, .int .i64 9] [1, 1] h (by kernel_rfl) (res_t (by kernel_rfl) (res_t (by kernel_rfl) res_n)) ?_
          exact .inr (.inl ⟨hq1, ks, hNl, by omega, fun ⟨e, he, hn⟩ => hm14 ((hNl.2 _).2 ⟨e, he, hn⟩), rfl, rfl⟩)
        · skip
          have q46 : (decide ((ks.length : Int) ≥ 12)) = false := by rw [← hb43]; exact hc44
          have q46 := of_decide_eq_false q46
          refine c_skip ?_
          refine thn_n ?_
          refine c_seq ?_
          refine c_reg ?_
          refine sq_p (.slice none 0 0) rfl (fun _ => by kernel_rfl) ?_
          refine lnil ?_
          refine thn_n ?_
          refine c_seq ?_
          refine c_seq ?_
          refine c_reg ?_
          refine sq_p (.int .i64 0) rfl (fun _ => by kernel_rfl) ?_
          refine lnil ?_
          refine thn_n ?_
          refine c_block ?_
          have h := h.nilRows 235 4 rclC
          refine c_loop (X := Nat × List Ls × Value × (Nat → Value)) (fun ⟨n, out, vo, J2⟩ => ⟨#[.pointer (some ⟨b, 0, none⟩), .string nm, undef, undef, .int .i64 0, .int .i64 0, vk, .int .i64 (i : Int), vo, .int .i64 (n : Int), .string nm, .int .i64 0, .bool false, .int .i64 (i : Int), .pointer (some ⟨b, 0, none⟩), .pointer (some ⟨b, 0, none⟩), .pointer (some ⟨b, 0, none⟩), v, .int .i64 (l.length : Int), .bool (decide ((i : Int) < (l.length : Int))), J0 20, J0 21, J0 22, J0 23, J0 24, J0 25, J0 26, J0 27, J0 28, J0 29, J0 30, J0 31, J0 32, J0 33, J0 34, J0 35, J0 36, J0 37, J0 38, J0 39, J0 40, J0 41, J0 42, J0 43, vk, .string nm, .int .i64 (-1), .bool true, .bool true, vk, .int .i64 (ks.length : Int), .bool b43, .bool b43, J2 53, J2 54, J2 55, J2 56, J2 57, J2 58, J2 59, J2 60, J2 61, J2 62, J2 63, J2 64, J2 65, J2 66, J2 67, J2 68, J2 69, J2 70, J2 71, J2 72, J2 73, J2 74, J2 75, J2 76, J2 77, J2 78, J2 79, J2 80, J2 81, J2 82, J2 83, J2 84, J2 85, J2 86, J2 87, J2 88, J2 89, J2 90, J2 91, undef, undef, undef, undef, undef, undef, undef, undef, undef, undef, undef, undef, undef, undef, undef, undef, undef, undef, undef, undef, undef, undef, undef], []⟩)
            (fun ⟨n, out, vo, J2⟩ => [rRows true vo 235 4 rclC out, rRows true vk 9 1 txC ks, rCell true b [v, .int .i64 last, .int .i64 now] 124, rRows true v 235 4 rclC l]) (fun ⟨n, out, vo, J2⟩ => n ≤ l.length ∧ out = (l.take n).filter (regP nm)) (fun ⟨n, out, vo, J2⟩ => l.length - n)
            ⟨0, [], (.slice none 0 0), (fun n => (#[.pointer (some ⟨b, 0, none⟩), .string nm, undef, undef, .int .i64 0, .int .i64 0, vk, .int .i64 (i : Int), .slice none 0 0, .int .i64 0, .string nm, .int .i64 0, .bool false, .int .i64 (i : Int), .pointer (some ⟨b, 0, none⟩), .pointer (some ⟨b, 0, none⟩), .pointer (some ⟨b, 0, none⟩), v, .int .i64 (l.length : Int), .bool (decide ((i : Int) < (l.length : Int))), J0 20, J0 21, J0 22, J0 23, J0 24, J0 25, J0 26, J0 27, J0 28, J0 29, J0 30, J0 31, J0 32, J0 33, J0 34, J0 35, J0 36, J0 37, J0 38, J0 39, J0 40, J0 41, J0 42, J0 43, vk, .string nm, .int .i64 (-1), .bool true, .bool true, vk, .int .i64 (ks.length : Int), .bool b43, .bool b43, undef, undef, undef, undef, undef, undef, undef, undef, undef, undef, undef, undef, undef, undef, undef, undef, undef, undef, undef, undef, undef, undef, undef, undef, undef, undef, undef, undef, undef, undef, undef, undef, undef, undef, undef, undef, undef, undef, undef, undef, undef, undef, undef, undef, undef, undef, undef, undef, undef, undef, undef, undef, undef, undef, undef, undef, undef, undef, undef, undef, undef, undef] : Array Value).getD n undef)⟩ ⟨by omega, rfl⟩ (by kernel_rfl) [0, 0, 0, 0] (by kernel_rfl) h ?_
          rintro ⟨n, out, vo, J2⟩ w hG h
          obtain ⟨hn0, ho⟩ : n ≤ l.length ∧ out = (l.take n).filter (regP nm) := hG
          have hol : out.length ≤ n := by rw [ho]; exact Nat.le_trans (List.length_filter_le _ _) (by rw [List.length_take]; omega)
          refine c_seq ?_
          refine c_seq ?_
          refine c_reg ?_
          refine sq_p (.int .i64 (n : Int)) rfl (fun _ => by kernel_rfl) ?_
          refine sq_p (.pointer (some ⟨b, 0, none⟩)) rfl (fun _ => by kernel_rfl) ?_
          refine sq_p (.pointer (some ⟨b, 0, none⟩)) rfl (fun _ => by kernel_rfl) ?_
          refine sq_p (.pointer (some ⟨b, 0, none⟩)) rfl (fun _ => by kernel_rfl) ?_
          refine sq_q rfl h (g_ld 0 [v] (v) (by kernel_rfl) 2 rfl) ?_
          refine sq_q rfl h (g_len (by kernel_rfl) 3 rfl) ?_
          refine sq_p (.bool (decide ((n : Int) < (l.length : Int)))) rfl (fun _ => by kernel_rfl) ?_
          refine lnil ?_
          refine thn_n ?_
          refine c_cond (decide ((n : Int) < (l.length : Int))) (by kernel_rfl) (fun hc47 => ?_) (fun hc47 => ?_)
          · skip
            have hc47 := of_decide_eq_true hc47
            refine c_skip ?_
            refine thn_n ?_
            refine c_seq ?_
            refine c_block ?_
            refine c_seq ?_
            refine c_reg ?_
            refine sq_p (.pointer (some ⟨b, 0, none⟩)) rfl (fun _ => by kernel_rfl) ?_
            refine sq_p (.pointer (some ⟨b, 0, none⟩)) rfl (fun _ => by kernel_rfl) ?_
            refine sq_p (.pointer (some ⟨b, 0, none⟩)) rfl (fun _ => by kernel_rfl) ?_
            refine sq_q rfl h (g_ld 0 [v] (v) (by kernel_rfl) 2 rfl) ?_
            refine sq_p (.int .i64 (n : Int)) rfl (fun _ => by kernel_rfl) ?_
            have hi48 : n < l.length := by omega
            obtain ⟨x49, hx50⟩ : ∃ x, l[n]? = some x := ⟨_, List.getElem?_eq_getElem hi48⟩
            refine sq_q rfl h (g_idx n (by kernel_rfl) hi48 3 rfl) ?_
            refine sq_p (.pointer (some ⟨blkN v, offN v + n * 4 + 2, none⟩)) rfl (fun _ => by kernel_rfl) ?_
            refine sq_q rfl h (g_ldr (b := blkN v) (offN v + n * 4 + 2) [.string x49.2.2.1] (.string x49.2.2.1) (by kernel_rfl) 3 rfl (rdRow rclC_len hx50 2 (by kernel_rfl))) ?_
            refine sq_p (.string nm) rfl (fun _ => by kernel_rfl) ?_
            obtain ⟨b51, hb51⟩ : ∃ b_ : Bool, b_ = (!(decide (x49.2.2.1 = nm))) := ⟨_, rfl⟩
            refine sq_q (v := .bool b51) rfl h (by subst hb51; exact g_eq (v := .bool !(x49.2.2.1.toList == nm.toList)) (v' := .bool (!(decide (x49.2.2.1 = nm)))) (g_pure fun _ => by kernel_rfl) bneS) ?_
            refine sq_p (.bool b51) rfl (fun _ => by kernel_rfl) ?_
            refine sq_m0 (v := .pointer (some ⟨b, 0, none⟩)) b51 (by cases b51 <;> kernel_rfl) h (fun hB => by subst hB; exact g_pure (v := .pointer (some ⟨b, 0, none⟩)) fun _ => by kernel_rfl) ?_
            refine sq_m0 (v := .pointer (some ⟨b, 0, none⟩)) b51 (by cases b51 <;> kernel_rfl) h (fun hB => by subst hB; exact g_pure (v := .pointer (some ⟨b, 0, none⟩)) fun _ => by kernel_rfl) ?_
            refine sq_m0 (v := .pointer (some ⟨b, 0, none⟩)) b51 (by cases b51 <;> kernel_rfl) h (fun hB => by subst hB; exact g_pure (v := .pointer (some ⟨b, 0, none⟩)) fun _ => by kernel_rfl) ?_
            refine sq_m0 (v := v) b51 (by cases b51 <;> kernel_rfl) h (fun hB => by subst hB; exact g_ld 0 [v] (v) (by kernel_rfl) 2 rfl) ?_
            refine sq_m0 (v := .int .i64 (n : Int)) b51 (by cases b51 <;> kernel_rfl) h (fun hB => by subst hB; exact g_pure (v := .int .i64 (n : Int)) fun _ => by kernel_rfl) ?_
            refine sq_m0 (v := .pointer (some ⟨blkN v, offN v + n * 4, none⟩)) b51 (by cases b51 <;> kernel_rfl) h (fun hB => by subst hB; exact g_idx n (by kernel_rfl) hi48 3 rfl) ?_
            refine sq_m0 (v := .pointer (some ⟨blkN v, offN v + n * 4 + 3, none⟩)) b51 (by cases b51 <;> kernel_rfl) h (fun hB => by subst hB; exact g_pure (v := .pointer (some ⟨blkN v, offN v + n * 4 + 3, none⟩)) fun _ => by kernel_rfl) ?_
            refine sq_m0 (v := .bool x49.2.2.2.2.2.1) b51 (by cases b51 <;> kernel_rfl) h (fun hB => by subst hB; exact g_ldr (b := blkN v) (offN v + n * 4 + 3) [.bool x49.2.2.2.2.2.1] (.bool x49.2.2.2.2.2.1) (by kernel_rfl) 3 rfl (rdRow rclC_len hx50 3 (by kernel_rfl))) ?_
            obtain ⟨b52, hb52⟩ : ∃ b_ : Bool, b_ = (b51 || x49.2.2.2.2.2.1) := ⟨_, rfl⟩
            refine sq_q (v := .bool b52) rfl h (by subst hb52; exact g_pure (v := .bool (b51 || x49.2.2.2.2.2.1)) fun _ => by cases b51 <;> kernel_rfl) ?_
            refine lnil ?_
            refine thn_n ?_
            refine c_cond (b52) (by kernel_rfl) (fun hc53 => ?_) (fun hc53 => ?_)
            · skip
              have q54 : (b51 || x49.2.2.2.2.2.1) = true := by rw [← hb52]; exact hc53
              have hT : regP nm x49 = true := by revert hc53; subst hb52; subst hb51; unfold regP; show _ → (!(decide (x49.2.2.1 = nm) && !x49.2.2.2.2.2.1)) = _; cases decide (x49.2.2.1 = nm) <;> cases x49.2.2.2.2.2.1 <;> simp
              refine c_reg ?_
              refine sq_p (vo) rfl (fun _ => by kernel_rfl) ?_
              refine sq_p (.pointer (some ⟨b, 0, none⟩)) rfl (fun _ => by kernel_rfl) ?_
              refine sq_p (.pointer (some ⟨b, 0, none⟩)) rfl (fun _ => by kernel_rfl) ?_
              refine sq_p (.pointer (some ⟨b, 0, none⟩)) rfl (fun _ => by kernel_rfl) ?_
              refine sq_q rfl h (g_ld 0 [v] (v) (by kernel_rfl) 2 rfl) ?_
              refine sq_p (.int .i64 (n : Int)) rfl (fun _ => by kernel_rfl) ?_
              refine sq_q rfl h (g_idx n (by kernel_rfl) hi48 3 rfl) ?_
              refine sq_q rfl h (g_ldr (b := blkN v) (offN v + n * 4) [.int .i64 x49.1, .int .i64 x49.2.2.2.2.2.2, .string x49.2.2.1, .bool x49.2.2.2.2.2.1] (.agg #[.int .i64 x49.1, .int .i64 x49.2.2.2.2.2.2, .string x49.2.2.1, .bool x49.2.2.2.2.2.1]) (by kernel_rfl) 3 rfl (rdRow0 rclC_len hx50 (by kernel_rfl))) ?_
              refine sq_new rfl (fun b => .slice (some ⟨b, 0, none⟩) 1 1) [.int .i64 x49.1, .int .i64 x49.2.2.2.2.2.2, .string x49.2.2.1, .bool x49.2.2.2.2.2.1] 235 (fun _ => by kernel_rfl) h ?_; intro k55 w h
              refine sq_app (b := k55) (o := 0) rfl 1 x49 (by kernel_rfl) h 1 rfl 0 rfl (rdCell 0 (by kernel_rfl)) (by (try simp only [List.length_append, List.length_cons, List.length_nil]); omega) ?_; intro v56 w h
              refine sq_p (v56) rfl (fun _ => by kernel_rfl) ?_
              refine lnil ?_
              refine blk_n (thn_n ?_)
              refine c_reg ?_
              refine sq_p (.int .i64 (n : Int)) rfl (fun _ => by kernel_rfl) ?_
              refine sq_q rfl h (g_eq (v := .int .i64 (IntKind.i64.wrap ((n : Int) + 1))) (v' := .int .i64 ((n + 1 : Nat) : Int)) (g_pure fun _ => by kernel_rfl) (wr (by omega))) ?_
              refine sq_p (.int .i64 ((n + 1 : Nat) : Int)) rfl (fun _ => by kernel_rfl) ?_
              refine lnil ?_
              refine loop_end (fun j => ⟨(n + 1), out ++ [x49], v56, j⟩) (show ((n + 1) ≤ l.length ∧ (out ++ [x49]) = (l.take (n + 1)).filter (regP nm)) ∧ (l.length - (n + 1)) < (l.length - n) from ⟨⟨by omega, by rw [ho, take_snoc hx50, List.filter_append]; simp [hT]⟩, by omega⟩) (by kernel_rfl) [1, 1, 1, 1] (by kernel_rfl) h
            · skip
              have q57 : (b51 || x49.2.2.2.2.2.1) = false := by rw [← hb52]; exact hc53
              have q58 : b51 = false := by revert q57; cases b51 <;> simp
              have q59 : x49.2.2.2.2.2.1 = false := by revert q57; cases b51 <;> cases x49.2.2.2.2.2.1 <;> simp
              have q60 : (!(decide (x49.2.2.1 = nm))) = false := by rw [← hb51]; exact q58
              have q61 : (decide (x49.2.2.1 = nm)) = true := by simpa using q60
              have q61 := of_decide_eq_true q61
              have hT : regP nm x49 = false := by revert hc53; subst hb52; subst hb51; unfold regP; show _ → (!(decide (x49.2.2.1 = nm) && !x49.2.2.2.2.2.1)) = _; cases decide (x49.2.2.1 = nm) <;> cases x49.2.2.2.2.2.1 <;> simp
              refine c_skip ?_
              refine blk_n (thn_n ?_)
              refine c_reg ?_
              refine sq_p (.int .i64 (n : Int)) rfl (fun _ => by kernel_rfl) ?_
              refine sq_q rfl h (g_eq (v := .int .i64 (IntKind.i64.wrap ((n : Int) + 1))) (v' := .int .i64 ((n + 1 : Nat) : Int)) (g_pure fun _ => by kernel_rfl) (wr (by omega))) ?_
              refine sq_p (.int .i64 ((n + 1 : Nat) : Int)) rfl (fun _ => by kernel_rfl) ?_
              refine lnil ?_
              refine loop_end (fun j => ⟨(n + 1), out, vo, j⟩) (show ((n + 1) ≤ l.length ∧ out = (l.take (n + 1)).filter (regP nm)) ∧ (l.length - (n + 1)) < (l.length - n) from ⟨⟨by omega, by rw [ho, take_snoc hx50, List.filter_append]; simp [hT]⟩, by omega⟩) (by kernel_rfl) [0, 0, 0, 0] (by kernel_rfl) h
          · skip
            have hc47 := of_decide_eq_false hc47
            refine c_exit ?_
            refine thn_e (rnd_e (blk_e (thn_n ?_)))
            refine c_seq ?_
            refine c_reg ?_
            refine sq_p (.pointer (some ⟨b, 0, none⟩)) rfl (fun _ => by kernel_rfl) ?_
            refine sq_p (.pointer (some ⟨b, 0, none⟩)) rfl (fun _ => by kernel_rfl) ?_
            refine sq_p (.pointer (some ⟨b, 1, none⟩)) rfl (fun _ => by kernel_rfl) ?_
            refine sq_q rfl h (g_ld 1 [.int .i64 last] (.int .i64 last) (by kernel_rfl) 2 rfl) ?_
            refine sq_q rfl h (g_eq (v := .int .i64 (IntKind.i64.wrap (last + 1))) (v' := .int .i64 (last + 1)) (g_pure fun _ => by kernel_rfl) (wr (by omega))) ?_
            refine sq_p (.pointer (some ⟨b, 0, none⟩)) rfl (fun _ => by kernel_rfl) ?_
            refine sq_p (.pointer (some ⟨b, 1, none⟩)) rfl (fun _ => by kernel_rfl) ?_
            refine sq_st rfl 1 [.int .i64 (last + 1)] [v, .int .i64 (last + 1), .int .i64 now] h 2 rfl (by kernel_rfl) ?_; intro w h
            refine lnil ?_
            refine thn_n ?_
            refine c_seq ?_
            refine c_reg ?_
            refine sq_p (.pointer (some ⟨b, 0, none⟩)) rfl (fun _ => by kernel_rfl) ?_
            refine sq_p (vo) rfl (fun _ => by kernel_rfl) ?_
            refine sq_p (.pointer (some ⟨b, 0, none⟩)) rfl (fun _ => by kernel_rfl) ?_
            refine sq_p (.pointer (some ⟨b, 0, none⟩)) rfl (fun _ => by kernel_rfl) ?_
            refine sq_p (.pointer (some ⟨b, 1, none⟩)) rfl (fun _ => by kernel_rfl) ?_
            refine sq_q rfl h (g_ld 1 [.int .i64 (last + 1)] (.int .i64 (last + 1)) (by kernel_rfl) 2 rfl) ?_
            refine sq_p (.string nm) rfl (fun _ => by kernel_rfl) ?_
            refine sq_p (.agg #[.int .i64 (last + 1), .int .i64 0, .string nm, .bool false]) rfl (fun _ => by kernel_rfl) ?_
            refine sq_new rfl (fun b => .slice (some ⟨b, 0, none⟩) 1 1) [.int .i64 (last + 1), .int .i64 0, .string nm, .bool false] 235 (fun _ => by kernel_rfl) h ?_; intro k62 w h
            refine sq_app (b := k62) (o := 0) rfl 1 (regE nm boot last bk) (by kernel_rfl) h 1 rfl 0 rfl (rdCell 0 (by kernel_rfl)) (by (try simp only [List.length_append, List.length_cons, List.length_nil]); omega) ?_; intro v63 w h
            refine sq_p (.pointer (some ⟨b, 0, none⟩)) rfl (fun _ => by kernel_rfl) ?_
            refine sq_p (.pointer (some ⟨b, 0, none⟩)) rfl (fun _ => by kernel_rfl) ?_
            refine sq_sto rfl (h.slv 1 rfl) 0 [v63, .int .i64 (last + 1), .int .i64 now] h 3 rfl (by kernel_rfl) ?_; intro w h
            refine lnil ?_
            refine thn_n ?_
            refine c_seq ?_
            refine c_reg ?_
            refine sq_p (.pointer (some ⟨b, 0, none⟩)) rfl (fun _ => by kernel_rfl) ?_
            refine sq_p (.pointer (some ⟨b, 0, none⟩)) rfl (fun _ => by kernel_rfl) ?_
            refine sq_p (.pointer (some ⟨b, 1, none⟩)) rfl (fun _ => by kernel_rfl) ?_
            refine sq_q rfl h (g_ld 1 [.int .i64 (last + 1)] (.int .i64 (last + 1)) (by kernel_rfl) 3 rfl) ?_
            refine sq_p (.int .i64 (last + 1)) rfl (fun _ => by kernel_rfl) ?_
            refine sq_p (.int .i64 0) rfl (fun _ => by kernel_rfl) ?_
            refine lnil ?_
            refine thn_n ?_
            refine c_ret ?_
            refine ret_end [.int .i64 (last + 1), .int .i64 0] [3, 1] h (by kernel_rfl) (res_t (by kernel_rfl) (res_t (by kernel_rfl) res_n)) ?_
            rw [ho, List.take_of_length_le (by omega)]
            exact .inr (.inr ⟨hq1, fun ks2 hk2 hno => by rw [hk2.len hNl]; omega, _, rfl, rfl⟩)
  · skip
    refine sq_p (.bool true) rfl (fun _ => by kernel_rfl) ?_
    refine lnil ?_
    refine thn_n ?_
    refine c_true (by kernel_rfl) ?_
    refine c_seq ?_
    refine c_reg ?_
    refine sq_p (.int .i64 0) rfl (fun _ => by kernel_rfl) ?_
    refine sq_p (.int .i64 4) rfl (fun _ => by kernel_rfl) ?_
    refine lnil ?_
    refine thn_n ?_
    refine c_ret ?_
    refine thn_r ?_
    refine ret_end [.int .i64 0, .int .i64 4] [0, 0] h (by kernel_rfl) (res_t (by kernel_rfl) (res_t (by kernel_rfl) res_n)) ?_
    exact .inl ⟨hq1, rfl, rfl⟩
set_option maxHeartbeats 1000000 in
theorem rconfirm_spec (b : Nat) (v : Value) (l : List Ls) (last now : Int) (hk : LsOk l last now) (hb : last ≤ 1000) (hw : now ≤ 9000000000000000) (i k : Int) : Spec Tryd.prog 73 #[.pointer (some ⟨b, 0, none⟩), .int .i64 i, .int .i64 k] [rCell true b [v, .int .i64 last, .int .i64 now] 124, rRows true v 235 4 rclC l] (fun u L => ((∀ e ∈ l, e.1 ≠ i) ∧ u = .tuple #[.int .i64 0, .int .i64 5] ∧ L = [rCell true b [v, .int .i64 last, .int .i64 now] 124, rRows true v 235 4 rclC l]) ∨ (∃ (j : Nat) (e : Ls), l[j]? = some e ∧ e.1 = i ∧ i ≠ k ∧ u = .tuple #[.int .i64 0, .int .i64 3] ∧ L = [rCell true b [v, .int .i64 last, .int .i64 now] 124, rRows true v 235 4 rclC l]) ∨ (∃ (j : Nat) (e : Ls), l[j]? = some e ∧ e.1 = i ∧ i = k ∧ ∃ v', u = .tuple #[.int .i64 (confG l e), .int .i64 0] ∧ L = [rCell true b [v', .int .i64 last, .int .i64 now] 124, rRows true v' 235 4 rclC (confL l j e now)])) := by
  have hfw := hk.few
  have hpos := hk.pos
  refine spec_of (#[.pointer (some ⟨b, 0, none⟩), .int .i64 i, .int .i64 k, undef, undef, undef, undef, undef, undef, undef, undef, undef, undef, undef, undef, undef, undef, undef, undef, undef, undef, undef, undef, undef, undef, undef, undef, undef, undef, undef, undef, undef, undef, undef, undef, undef, undef, undef, undef, undef, undef, undef, undef, undef, undef, undef, undef, undef, undef, undef, undef, undef, undef, undef, undef, undef, undef, undef, undef, undef, undef, undef, undef, undef, undef, undef, undef, undef, undef, undef, undef, undef, undef, undef, undef, undef, undef, undef, undef, undef, undef, undef, undef, undef, undef, undef, undef, undef, undef, undef, undef, undef, undef]) Tryd.func73 rfl (by kernel_rfl) fun E w0 w h => ?_
  refine c_seq ?_
  refine c_reg ?_
  refine sq_p (.int .i64 0) rfl (fun _ => by kernel_rfl) ?_
  refine sq_p (.int .i64 0) rfl (fun _ => by kernel_rfl) ?_
  refine lnil ?_
  refine thn_n ?_
  refine c_seq ?_
  refine c_reg ?_
  refine sq_p (.int .i64 (-1)) rfl (fun _ => by kernel_rfl) ?_
  refine lnil ?_
  refine thn_n ?_
  refine c_seq ?_
  refine c_seq ?_
  refine c_reg ?_
  refine sq_p (.int .i64 0) rfl (fun _ => by kernel_rfl) ?_
  refine lnil ?_
  refine thn_n ?_
  refine c_block ?_
  refine c_loop (X := Nat × Int × (Nat → Value)) (fun ⟨p1, kk, J0⟩ => ⟨#[.pointer (some ⟨b, 0, none⟩), .int .i64 i, .int .i64 k, undef, undef, undef, .int .i64 0, .int .i64 0, .int .i64 kk, .int .i64 (p1 : Int), undef, undef, undef, undef, undef, J0 15, J0 16, J0 17, J0 18, J0 19, J0 20, J0 21, J0 22, J0 23, J0 24, J0 25, J0 26, J0 27, J0 28, J0 29, J0 30, J0 31, J0 32, J0 33, J0 34, undef, undef, undef, undef, undef, undef, undef, undef, undef, undef, undef, undef, undef, undef, undef, undef, undef, undef, undef, undef, undef, undef, undef, undef, undef, undef, undef, undef, undef, undef, undef, undef, undef, undef, undef, undef, undef, undef, undef, undef, undef, undef, undef, undef, undef, undef, undef, undef, undef, undef, undef, undef, undef, undef, undef, undef, undef, undef], []⟩)
    (fun ⟨p1, kk, J0⟩ => [rCell true b [v, .int .i64 last, .int .i64 now] 124, rRows true v 235 4 rclC l]) (fun ⟨p1, kk, J0⟩ => p1 ≤ l.length ∧ ((kk = -1 ∧ ∀ j e, j < p1 → l[j]? = some e → e.1 ≠ i) ∨ ∃ (j : Nat) (e : Ls), l[j]? = some e ∧ e.1 = i ∧ kk = (j : Int))) (fun ⟨p1, kk, J0⟩ => l.length - p1)
    ⟨0, (-1), (fun n => (#[.pointer (some ⟨b, 0, none⟩), .int .i64 i, .int .i64 k, undef, undef, undef, .int .i64 0, .int .i64 0, .int .i64 (-1), .int .i64 0, undef, undef, undef, undef, undef, undef, undef, undef, undef, undef, undef, undef, undef, undef, undef, undef, undef, undef, undef, undef, undef, undef, undef, undef, undef, undef, undef, undef, undef, undef, undef, undef, undef, undef, undef, undef, undef, undef, undef, undef, undef, undef, undef, undef, undef, undef, undef, undef, undef, undef, undef, undef, undef, undef, undef, undef, undef, undef, undef, undef, undef, undef, undef, undef, undef, undef, undef, undef, undef, undef, undef, undef, undef, undef, undef, undef, undef, undef, undef, undef, undef, undef, undef] : Array Value).getD n undef)⟩ ⟨by omega, .inl ⟨rfl, fun j e hj => by omega⟩⟩ (by kernel_rfl) [0, 0] (by kernel_rfl) h ?_
  rintro ⟨p1, kk, J0⟩ w hG h
  obtain ⟨hn0, hkk⟩ : p1 ≤ l.length ∧ ((kk = -1 ∧ ∀ j e, j < p1 → l[j]? = some e → e.1 ≠ i) ∨ ∃ (j : Nat) (e : Ls), l[j]? = some e ∧ e.1 = i ∧ kk = (j : Int)) := hG
  refine c_seq ?_
  refine c_seq ?_
  refine c_reg ?_
  refine sq_p (.int .i64 (p1 : Int)) rfl (fun _ => by kernel_rfl) ?_
  refine sq_p (.pointer (some ⟨b, 0, none⟩)) rfl (fun _ => by kernel_rfl) ?_
  refine sq_p (.pointer (some ⟨b, 0, none⟩)) rfl (fun _ => by kernel_rfl) ?_
  refine sq_p (.pointer (some ⟨b, 0, none⟩)) rfl (fun _ => by kernel_rfl) ?_
  refine sq_q rfl h (g_ld 0 [v] (v) (by kernel_rfl) 0 rfl) ?_
  refine sq_q rfl h (g_len (by kernel_rfl) 1 rfl) ?_
  refine sq_p (.bool (decide ((p1 : Int) < (l.length : Int)))) rfl (fun _ => by kernel_rfl) ?_
  refine lnil ?_
  refine thn_n ?_
  refine c_cond (decide ((p1 : Int) < (l.length : Int))) (by kernel_rfl) (fun hc1 => ?_) (fun hc1 => ?_)
  · skip
    have hc1 := of_decide_eq_true hc1
    refine c_skip ?_
    refine thn_n ?_
    refine c_seq ?_
    refine c_block ?_
    refine c_seq ?_
    refine c_reg ?_
    refine sq_p (.pointer (some ⟨b, 0, none⟩)) rfl (fun _ => by kernel_rfl) ?_
    refine sq_p (.pointer (some ⟨b, 0, none⟩)) rfl (fun _ => by kernel_rfl) ?_
    refine sq_p (.pointer (some ⟨b, 0, none⟩)) rfl (fun _ => by kernel_rfl) ?_
    refine sq_q rfl h (g_ld 0 [v] (v) (by kernel_rfl) 0 rfl) ?_
    refine sq_p (.int .i64 (p1 : Int)) rfl (fun _ => by kernel_rfl) ?_
    have hi2 : p1 < l.length := by omega
    obtain ⟨x3, hx4⟩ : ∃ x, l[p1]? = some x := ⟨_, List.getElem?_eq_getElem hi2⟩
    refine sq_q rfl h (g_idx p1 (by kernel_rfl) hi2 1 rfl) ?_
    refine sq_p (.pointer (some ⟨blkN v, offN v + p1 * 4, none⟩)) rfl (fun _ => by kernel_rfl) ?_
    refine sq_q rfl h (g_ldr (b := blkN v) (offN v + p1 * 4) [.int .i64 x3.1] (.int .i64 x3.1) (by kernel_rfl) 1 rfl (rdRow0 rclC_len hx4 (by kernel_rfl))) ?_
    refine sq_p (.int .i64 i) rfl (fun _ => by kernel_rfl) ?_
    refine sq_p (.bool (decide (x3.1 = i))) rfl (fun _ => by kernel_rfl) ?_
    refine lnil ?_
    refine thn_n ?_
    refine c_cond (decide (x3.1 = i)) (by kernel_rfl) (fun hc5 => ?_) (fun hc5 => ?_)
    · skip
      have hc5 := of_decide_eq_true hc5
      refine c_reg ?_
      refine sq_p (.int .i64 (p1 : Int)) rfl (fun _ => by kernel_rfl) ?_
      refine sq_p (.int .i64 (p1 : Int)) rfl (fun _ => by kernel_rfl) ?_
      refine lnil ?_
      refine blk_n (thn_n ?_)
      refine c_reg ?_
      refine sq_p (.int .i64 (p1 : Int)) rfl (fun _ => by kernel_rfl) ?_
      refine sq_q rfl h (g_eq (v := .int .i64 (IntKind.i64.wrap ((p1 : Int) + 1))) (v' := .int .i64 ((p1 + 1 : Nat) : Int)) (g_pure fun _ => by kernel_rfl) (wr (by omega))) ?_
      refine sq_p (.int .i64 ((p1 + 1 : Nat) : Int)) rfl (fun _ => by kernel_rfl) ?_
      refine lnil ?_
      refine loop_end (fun j => ⟨(p1 + 1), (p1 : Int), j⟩) (show ((p1 + 1) ≤ l.length ∧ (((p1 : Int) = -1 ∧ ∀ j e, j < (p1 + 1) → l[j]? = some e → e.1 ≠ i) ∨ ∃ (j : Nat) (e : Ls), l[j]? = some e ∧ e.1 = i ∧ (p1 : Int) = (j : Int))) ∧ (l.length - (p1 + 1)) < (l.length - p1) from ⟨⟨by omega, .inr ⟨p1, x3, hx4, hc5, rfl⟩⟩, by omega⟩) (by kernel_rfl) [0, 0] (by kernel_rfl) h
    · skip
      have hc5 := of_decide_eq_false hc5
      refine c_skip ?_
      refine blk_n (thn_n ?_)
      refine c_reg ?_
      refine sq_p (.int .i64 (p1 : Int)) rfl (fun _ => by kernel_rfl) ?_
      refine sq_q rfl h (g_eq (v := .int .i64 (IntKind.i64.wrap ((p1 : Int) + 1))) (v' := .int .i64 ((p1 + 1 : Nat) : Int)) (g_pure fun _ => by kernel_rfl) (wr (by omega))) ?_
      refine sq_p (.int .i64 ((p1 + 1 : Nat) : Int)) rfl (fun _ => by kernel_rfl) ?_
      refine lnil ?_
      refine loop_end (fun j => ⟨(p1 + 1), kk, j⟩) (show ((p1 + 1) ≤ l.length ∧ ((kk = -1 ∧ ∀ j e, j < (p1 + 1) → l[j]? = some e → e.1 ≠ i) ∨ ∃ (j : Nat) (e : Ls), l[j]? = some e ∧ e.1 = i ∧ kk = (j : Int))) ∧ (l.length - (p1 + 1)) < (l.length - p1) from ⟨⟨by omega, by
          rcases hkk with ⟨q1, q2⟩ | q
          · exact .inl ⟨q1, fun j2 x2 hj2 hx2 => by
              by_cases q : j2 = p1
              · subst q; rw [hx4] at hx2; cases hx2; exact hc5
              · exact q2 j2 x2 (by omega) hx2⟩
          · exact .inr q⟩, by omega⟩) (by kernel_rfl) [0, 0] (by kernel_rfl) h
  · skip
    have hc1 := of_decide_eq_false hc1
    refine c_exit ?_
    refine thn_e (rnd_e (blk_e (thn_n ?_)))
    refine c_seq ?_
    refine c_seq ?_
    refine c_reg ?_
    refine sq_p (.int .i64 kk) rfl (fun _ => by kernel_rfl) ?_
    refine sq_p (.bool (decide (kk < 0))) rfl (fun _ => by kernel_rfl) ?_
    refine lnil ?_
    refine thn_n ?_
    refine c_cond (decide (kk < 0)) (by kernel_rfl) (fun hc6 => ?_) (fun hc6 => ?_)
    · skip
      have hc6 := of_decide_eq_true hc6
      refine c_seq ?_
      refine c_reg ?_
      refine sq_p (.int .i64 0) rfl (fun _ => by kernel_rfl) ?_
      refine sq_p (.int .i64 5) rfl (fun _ => by kernel_rfl) ?_
      refine lnil ?_
      refine thn_n ?_
      refine c_ret ?_
      refine thn_r ?_
      refine ret_end [.int .i64 0, .int .i64 5] [0, 0] h (by kernel_rfl) (res_t (by kernel_rfl) (res_t (by kernel_rfl) res_n)) ?_
      exact .inl ⟨fun e he => by rcases hkk with ⟨_, hno⟩ | ⟨j2, e2, h1, h2, h3⟩; obtain ⟨q, hq⟩ := List.getElem?_of_mem he; exact hno q e (by have := (List.getElem?_eq_some_iff.1 hq).1; omega) hq; omega, rfl, rfl⟩
    · skip
      have hc6 := of_decide_eq_false hc6
      obtain ⟨jz, ez, hez, hid, hjz⟩ : ∃ (j : Nat) (e : Ls), l[j]? = some e ∧ e.1 = i ∧ kk = (j : Int) := by rcases hkk with ⟨q, _⟩ | q; exfalso; omega; exact q
      have hbz := (List.getElem?_eq_some_iff.1 hez).1
      refine c_skip ?_
      refine thn_n ?_
      refine c_seq ?_
      refine c_seq ?_
      refine c_reg ?_
      refine sq_p (.int .i64 k) rfl (fun _ => by kernel_rfl) ?_
      refine sq_p (.int .i64 i) rfl (fun _ => by kernel_rfl) ?_
      refine sq_p (.bool (!(decide (k = i)))) rfl (fun _ => by kernel_rfl) ?_
      refine lnil ?_
      refine thn_n ?_
      refine c_cond (!(decide (k = i))) (by kernel_rfl) (fun hc7 => ?_) (fun hc7 => ?_)
      · skip
        have q8 : (decide (k = i)) = false := by simpa using hc7
        have q8 := of_decide_eq_false q8
        refine c_seq ?_
        refine c_reg ?_
        refine sq_p (.int .i64 0) rfl (fun _ => by kernel_rfl) ?_
        refine sq_p (.int .i64 3) rfl (fun _ => by kernel_rfl) ?_
        refine lnil ?_
        refine thn_n ?_
        refine c_ret ?_
        refine thn_r ?_
        refine ret_end [.int .i64 0, .int .i64 3] [0, 0] h (by kernel_rfl) (res_t (by kernel_rfl) (res_t (by kernel_rfl) res_n)) ?_
        exact .inr (.inl ⟨jz, ez, hez, hid, by omega, rfl, rfl⟩)
      · skip
        have q9 : (decide (k = i)) = true := by simpa using hc7
        have q9 := of_decide_eq_true q9
        refine c_skip ?_
        refine thn_n ?_
        refine c_seq ?_
        refine c_reg ?_
        refine sq_p (.int .i64 0) rfl (fun _ => by kernel_rfl) ?_
        refine lnil ?_
        refine thn_n ?_
        refine c_seq ?_
        refine c_reg ?_
        refine sq_p (.pointer (some ⟨b, 0, none⟩)) rfl (fun _ => by kernel_rfl) ?_
        refine sq_p (.pointer (some ⟨b, 0, none⟩)) rfl (fun _ => by kernel_rfl) ?_
        refine sq_p (.pointer (some ⟨b, 0, none⟩)) rfl (fun _ => by kernel_rfl) ?_
        refine sq_q rfl h (g_ld 0 [v] (v) (by kernel_rfl) 0 rfl) ?_
        refine sq_p (.int .i64 kk) rfl (fun _ => by kernel_rfl) ?_
        refine sq_q rfl h (g_idxI jz hjz (by kernel_rfl) hbz 1 rfl) ?_
        refine sq_p (.pointer (some ⟨blkN v, offN v + jz * 4 + 2, none⟩)) rfl (fun _ => by kernel_rfl) ?_
        refine sq_q rfl h (g_ldr (b := blkN v) (offN v + jz * 4 + 2) [.string ez.2.2.1] (.string ez.2.2.1) (by kernel_rfl) 1 rfl (rdRow rclC_len hez 2 (by kernel_rfl))) ?_
        refine sq_p (.string ez.2.2.1) rfl (fun _ => by kernel_rfl) ?_
        refine lnil ?_
        refine thn_n ?_
        refine c_seq ?_
        refine c_reg ?_
        refine sq_p (.slice none 0 0) rfl (fun _ => by kernel_rfl) ?_
        refine lnil ?_
        refine thn_n ?_
        refine c_seq ?_
        refine c_seq ?_
        refine c_reg ?_
        refine sq_p (.int .i64 0) rfl (fun _ => by kernel_rfl) ?_
        refine lnil ?_
        refine thn_n ?_
        refine c_block ?_
        have h := h.nilRows 235 4 rclC
        refine c_loop (X := Nat × Int × List Ls × Value × (Nat → Value)) (fun ⟨p2, gg, out, vo, J1⟩ => ⟨#[.pointer (some ⟨b, 0, none⟩), .int .i64 i, .int .i64 k, undef, undef, undef, .int .i64 0, .int .i64 0, .int .i64 kk, .int .i64 (p1 : Int), .int .i64 gg, .string ez.2.2.1, vo, .int .i64 (p2 : Int), J1 14, .int .i64 (p1 : Int), .pointer (some ⟨b, 0, none⟩), .pointer (some ⟨b, 0, none⟩), .pointer (some ⟨b, 0, none⟩), v, .int .i64 (l.length : Int), .bool (decide ((p1 : Int) < (l.length : Int))), J0 22, J0 23, J0 24, J0 25, J0 26, J0 27, J0 28, J0 29, J0 30, J0 31, J0 32, J0 33, J0 34, .int .i64 kk, .bool (decide (kk < 0)), .int .i64 k, .int .i64 i, .bool (!(decide (k = i))), .pointer (some ⟨b, 0, none⟩), .pointer (some ⟨b, 0, none⟩), .pointer (some ⟨b, 0, none⟩), v, .int .i64 kk, .pointer (some ⟨blkN v, offN v + jz * 4, none⟩), .pointer (some ⟨blkN v, offN v + jz * 4 + 2, none⟩), .string ez.2.2.1, J1 48, J1 49, J1 50, J1 51, J1 52, J1 53, J1 54, J1 55, J1 56, J1 57, J1 58, J1 59, J1 60, J1 61, J1 62, J1 63, J1 64, J1 65, J1 66, J1 67, J1 68, J1 69, J1 70, J1 71, J1 72, J1 73, J1 74, J1 75, J1 76, J1 77, J1 78, J1 79, J1 80, J1 81, J1 82, J1 83, J1 84, J1 85, J1 86, J1 87, undef, undef, undef, undef, undef], []⟩)
          (fun ⟨p2, gg, out, vo, J1⟩ => [rRows true vo 235 4 rclC out, rCell true b [v, .int .i64 last, .int .i64 now] 124, rRows true v 235 4 rclC l]) (fun ⟨p2, gg, out, vo, J1⟩ => p2 ≤ l.length ∧ gg = confG (l.take p2) ez ∧ out = confI l jz ez now p2) (fun ⟨p2, gg, out, vo, J1⟩ => l.length - p2)
          ⟨0, 0, [], (.slice none 0 0), (fun n => (#[.pointer (some ⟨b, 0, none⟩), .int .i64 i, .int .i64 k, undef, undef, undef, .int .i64 0, .int .i64 0, .int .i64 kk, .int .i64 (p1 : Int), .int .i64 0, .string ez.2.2.1, .slice none 0 0, .int .i64 0, undef, .int .i64 (p1 : Int), .pointer (some ⟨b, 0, none⟩), .pointer (some ⟨b, 0, none⟩), .pointer (some ⟨b, 0, none⟩), v, .int .i64 (l.length : Int), .bool (decide ((p1 : Int) < (l.length : Int))), J0 22, J0 23, J0 24, J0 25, J0 26, J0 27, J0 28, J0 29, J0 30, J0 31, J0 32, J0 33, J0 34, .int .i64 kk, .bool (decide (kk < 0)), .int .i64 k, .int .i64 i, .bool (!(decide (k = i))), .pointer (some ⟨b, 0, none⟩), .pointer (some ⟨b, 0, none⟩), .pointer (some ⟨b, 0, none⟩), v, .int .i64 kk, .pointer (some ⟨blkN v, offN v + jz * 4, none⟩), .pointer (some ⟨blkN v, offN v + jz * 4 + 2, none⟩), .string ez.2.2.1, undef, undef, undef, undef, undef, undef, undef, undef, undef, undef, undef, undef, undef, undef, undef, undef, undef, undef, undef, undef, undef, undef, undef, undef, undef, undef, undef, undef, undef, undef, undef, undef, undef, undef, undef, undef, undef, undef, undef, undef, undef, undef, undef, undef, undef] : Array Value).getD n undef)⟩ ⟨by omega, rfl, rfl⟩ (by kernel_rfl) [0, 0, 0] (by kernel_rfl) h ?_
        rintro ⟨p2, gg, out, vo, J1⟩ w hG h
        obtain ⟨hn0, hg, ho⟩ : p2 ≤ l.length ∧ gg = confG (l.take p2) ez ∧ out = confI l jz ez now p2 := hG
        have hol : out.length ≤ p2 := by rw [ho]; exact confI_len
        refine c_seq ?_
        refine c_seq ?_
        refine c_reg ?_
        refine sq_p (.int .i64 (p2 : Int)) rfl (fun _ => by kernel_rfl) ?_
        refine sq_p (.pointer (some ⟨b, 0, none⟩)) rfl (fun _ => by kernel_rfl) ?_
        refine sq_p (.pointer (some ⟨b, 0, none⟩)) rfl (fun _ => by kernel_rfl) ?_
        refine sq_p (.pointer (some ⟨b, 0, none⟩)) rfl (fun _ => by kernel_rfl) ?_
        refine sq_q rfl h (g_ld 0 [v] (v) (by kernel_rfl) 1 rfl) ?_
        refine sq_q rfl h (g_len (by kernel_rfl) 2 rfl) ?_
        refine sq_p (.bool (decide ((p2 : Int) < (l.length : Int)))) rfl (fun _ => by kernel_rfl) ?_
        refine lnil ?_
        refine thn_n ?_
        refine c_cond (decide ((p2 : Int) < (l.length : Int))) (by kernel_rfl) (fun hc10 => ?_) (fun hc10 => ?_)
        · skip
          have hc10 := of_decide_eq_true hc10
          refine c_skip ?_
          refine thn_n ?_
          refine c_seq ?_
          refine c_block ?_
          refine c_seq ?_
          refine c_reg ?_
          refine sq_p (.pointer (some ⟨b, 0, none⟩)) rfl (fun _ => by kernel_rfl) ?_
          refine sq_p (.pointer (some ⟨b, 0, none⟩)) rfl (fun _ => by kernel_rfl) ?_
          refine sq_p (.pointer (some ⟨b, 0, none⟩)) rfl (fun _ => by kernel_rfl) ?_
          refine sq_q rfl h (g_ld 0 [v] (v) (by kernel_rfl) 1 rfl) ?_
          refine sq_p (.int .i64 (p2 : Int)) rfl (fun _ => by kernel_rfl) ?_
          have hi11 : p2 < l.length := by omega
          obtain ⟨x12, hx13⟩ : ∃ x, l[p2]? = some x := ⟨_, List.getElem?_eq_getElem hi11⟩
          refine sq_q rfl h (g_idx p2 (by kernel_rfl) hi11 2 rfl) ?_
          refine sq_q rfl h (g_ldr (b := blkN v) (offN v + p2 * 4) [.int .i64 x12.1, .int .i64 x12.2.2.2.2.2.2, .string x12.2.2.1, .bool x12.2.2.2.2.2.1] (.agg #[.int .i64 x12.1, .int .i64 x12.2.2.2.2.2.2, .string x12.2.2.1, .bool x12.2.2.2.2.2.1]) (by kernel_rfl) 2 rfl (rdRow0 rclC_len hx13 (by kernel_rfl))) ?_
          refine sq_new rfl (fun b => .pointer (some ⟨b, 0, none⟩)) [.int .i64 0, .int .i64 0, .string (⟨#[]⟩ : ByteArray), .bool false] 235 (fun _ => by kernel_rfl) h ?_; intro k14 w h
          refine sq_st rfl 0 [.int .i64 x12.1, .int .i64 x12.2.2.2.2.2.2, .string x12.2.2.1, .bool x12.2.2.2.2.2.1] [.int .i64 x12.1, .int .i64 x12.2.2.2.2.2.2, .string x12.2.2.1, .bool x12.2.2.2.2.2.1] h 0 rfl (by kernel_rfl) ?_; intro w h
          refine lnil ?_
          refine thn_n ?_
          refine c_seq ?_
          refine c_seq ?_
          refine c_reg ?_
          refine sq_p (.pointer (some ⟨k14, 0, none⟩)) rfl (fun _ => by kernel_rfl) ?_
          refine sq_q rfl h (g_ld 0 [.int .i64 x12.1] (.int .i64 x12.1) (by kernel_rfl) 0 rfl) ?_
          refine sq_p (.int .i64 i) rfl (fun _ => by kernel_rfl) ?_
          refine sq_p (.bool (decide (x12.1 = i))) rfl (fun _ => by kernel_rfl) ?_
          refine lnil ?_
          refine thn_n ?_
          refine c_cond (decide (x12.1 = i)) (by kernel_rfl) (fun hc15 => ?_) (fun hc15 => ?_)
          · skip
            have hc15 := of_decide_eq_true hc15
            refine c_seq ?_
            refine c_reg ?_
            refine sq_p (.pointer (some ⟨k14, 3, none⟩)) rfl (fun _ => by kernel_rfl) ?_
            refine sq_st rfl 3 [.bool true] [.int .i64 x12.1, .int .i64 x12.2.2.2.2.2.2, .string x12.2.2.1, .bool true] h 0 rfl (by kernel_rfl) ?_; intro w h
            refine lnil ?_
            refine thn_n ?_
            refine c_reg ?_
            refine sq_p (.pointer (some ⟨b, 0, none⟩)) rfl (fun _ => by kernel_rfl) ?_
            refine sq_p (.pointer (some ⟨b, 0, none⟩)) rfl (fun _ => by kernel_rfl) ?_
            refine sq_p (.pointer (some ⟨b, 2, none⟩)) rfl (fun _ => by kernel_rfl) ?_
            refine sq_q rfl h (g_ld 2 [.int .i64 now] (.int .i64 now) (by kernel_rfl) 2 rfl) ?_
            refine sq_p (.pointer (some ⟨k14, 1, none⟩)) rfl (fun _ => by kernel_rfl) ?_
            refine sq_st rfl 1 [.int .i64 now] [.int .i64 x12.1, .int .i64 now, .string x12.2.2.1, .bool true] h 0 rfl (by kernel_rfl) ?_; intro w h
            refine lnil ?_
            refine thn_n ?_
            refine c_reg ?_
            refine sq_p (vo) rfl (fun _ => by kernel_rfl) ?_
            refine sq_q rfl h (g_ld 0 [.int .i64 x12.1, .int .i64 now, .string x12.2.2.1, .bool true] (.agg #[.int .i64 x12.1, .int .i64 now, .string x12.2.2.1, .bool true]) (by kernel_rfl) 0 rfl) ?_
            refine sq_new rfl (fun b => .slice (some ⟨b, 0, none⟩) 1 1) [.int .i64 x12.1, .int .i64 now, .string x12.2.2.1, .bool true] 235 (fun _ => by kernel_rfl) h ?_; intro k16 w h
            refine sq_app (b := k16) (o := 0) rfl 1 (lsSet x12 true now) (by kernel_rfl) h 2 rfl 0 rfl (rdCell 0 (by kernel_rfl)) (by (try simp only [List.length_append, List.length_cons, List.length_nil]); omega) ?_; intro v17 w h
            refine sq_p (v17) rfl (fun _ => by kernel_rfl) ?_
            refine lnil ?_
            refine blk_n (thn_n ?_)
            refine c_reg ?_
            refine sq_p (.int .i64 (p2 : Int)) rfl (fun _ => by kernel_rfl) ?_
            refine sq_q rfl h (g_eq (v := .int .i64 (IntKind.i64.wrap ((p2 : Int) + 1))) (v' := .int .i64 ((p2 + 1 : Nat) : Int)) (g_pure fun _ => by kernel_rfl) (wr (by omega))) ?_
            refine sq_p (.int .i64 ((p2 + 1 : Nat) : Int)) rfl (fun _ => by kernel_rfl) ?_
            refine lnil ?_
            refine loop_end (fun j => ⟨(p2 + 1), gg, out ++ [(lsSet x12 true now)], v17, j⟩) (show ((p2 + 1) ≤ l.length ∧ gg = confG (l.take (p2 + 1)) ez ∧ (out ++ [(lsSet x12 true now)]) = confI l jz ez now (p2 + 1)) ∧ (l.length - (p2 + 1)) < (l.length - p2) from ⟨⟨by omega, by rw [confG_same hx13 (by simp [confP, show x12.1 = ez.1 by omega])]; exact hg, by rw [ho, confI_here hk hez hx13 (by omega)]⟩, by omega⟩) (by kernel_rfl) [2, 2, 2] (by kernel_rfl) h
          · skip
            have hc15 := of_decide_eq_false hc15
            refine c_seq ?_
            refine c_reg ?_
            refine sq_p (.pointer (some ⟨k14, 2, none⟩)) rfl (fun _ => by kernel_rfl) ?_
            refine sq_q rfl h (g_ld 2 [.string x12.2.2.1] (.string x12.2.2.1) (by kernel_rfl) 0 rfl) ?_
            refine sq_p (.string ez.2.2.1) rfl (fun _ => by kernel_rfl) ?_
            obtain ⟨b18, hb18⟩ : ∃ b_ : Bool, b_ = (decide (x12.2.2.1 = ez.2.2.1)) := ⟨_, rfl⟩
            refine sq_q (v := .bool b18) rfl h (by subst hb18; exact g_eq (v := .bool (x12.2.2.1.toList == ez.2.2.1.toList)) (v' := .bool (decide (x12.2.2.1 = ez.2.2.1))) (g_pure fun _ => by kernel_rfl) beqS) ?_
            refine sq_p (.bool b18) rfl (fun _ => by kernel_rfl) ?_
            refine sq_m1 (v := .pointer (some ⟨k14, 3, none⟩)) b18 (by cases b18 <;> kernel_rfl) h (fun hB => by subst hB; exact g_pure (v := .pointer (some ⟨k14, 3, none⟩)) fun _ => by kernel_rfl) ?_
            refine sq_m1 (v := .bool x12.2.2.2.2.2.1) b18 (by cases b18 <;> kernel_rfl) h (fun hB => by subst hB; exact g_ld 3 [.bool x12.2.2.2.2.2.1] (.bool x12.2.2.2.2.2.1) (by kernel_rfl) 0 rfl) ?_
            obtain ⟨b19, hb19⟩ : ∃ b_ : Bool, b_ = (b18 && x12.2.2.2.2.2.1) := ⟨_, rfl⟩
            refine sq_q (v := .bool b19) rfl h (by subst hb19; exact g_pure (v := .bool (b18 && x12.2.2.2.2.2.1)) fun _ => by cases b18 <;> kernel_rfl) ?_
            refine lnil ?_
            refine thn_n ?_
            refine c_cond (b19) (by kernel_rfl) (fun hc20 => ?_) (fun hc20 => ?_)
            · skip
              have q21 : (b18 && x12.2.2.2.2.2.1) = true := by rw [← hb19]; exact hc20
              have q22 : b18 = true := by revert q21; cases b18 <;> simp
              have q23 : x12.2.2.2.2.2.1 = true := by revert q21; cases b18 <;> cases x12.2.2.2.2.2.1 <;> simp
              have q24 : (decide (x12.2.2.1 = ez.2.2.1)) = true := by rw [← hb18]; exact q22
              have q24 := of_decide_eq_true q24
              have hne : ¬ x12.1 = ez.1 := by omega
              have hT : confP ez x12 = false := by revert hc20; subst hb19; subst hb18; unfold confP; simp only [hne, decide_false, Bool.not_false, Bool.and_true]; show _ → (!(decide (x12.2.2.1 = ez.2.2.1) && x12.2.2.2.2.2.1)) = _; cases decide (x12.2.2.1 = ez.2.2.1) <;> cases x12.2.2.2.2.2.1 <;> simp
              refine c_seq ?_
              refine c_reg ?_
              refine sq_p (.pointer (some ⟨k14, 0, none⟩)) rfl (fun _ => by kernel_rfl) ?_
              refine sq_q rfl h (g_ld 0 [.int .i64 x12.1] (.int .i64 x12.1) (by kernel_rfl) 0 rfl) ?_
              refine sq_p (.int .i64 x12.1) rfl (fun _ => by kernel_rfl) ?_
              refine lnil ?_
              refine thn_n ?_
              refine c_exit ?_
              refine thn_e (blk_e (thn_n ?_))
              refine c_reg ?_
              refine sq_p (.int .i64 (p2 : Int)) rfl (fun _ => by kernel_rfl) ?_
              refine sq_q rfl h (g_eq (v := .int .i64 (IntKind.i64.wrap ((p2 : Int) + 1))) (v' := .int .i64 ((p2 + 1 : Nat) : Int)) (g_pure fun _ => by kernel_rfl) (wr (by omega))) ?_
              refine sq_p (.int .i64 ((p2 + 1 : Nat) : Int)) rfl (fun _ => by kernel_rfl) ?_
              refine lnil ?_
              refine loop_end (fun j => ⟨(p2 + 1), x12.1, out, vo, j⟩) (show ((p2 + 1) ≤ l.length ∧ x12.1 = confG (l.take (p2 + 1)) ez ∧ out = confI l jz ez now (p2 + 1)) ∧ (l.length - (p2 + 1)) < (l.length - p2) from ⟨⟨by omega, by rw [confG_more hk hx13 hT], by rw [ho, confI_skip hez hx13 hne hT]⟩, by omega⟩) (by kernel_rfl) [1, 1, 1] (by kernel_rfl) h
            · skip
              have q25 : (b18 && x12.2.2.2.2.2.1) = false := by rw [← hb19]; exact hc20
              have hne : ¬ x12.1 = ez.1 := by omega
              have hT : confP ez x12 = true := by revert hc20; subst hb19; subst hb18; unfold confP; simp only [hne, decide_false, Bool.not_false, Bool.and_true]; show _ → (!(decide (x12.2.2.1 = ez.2.2.1) && x12.2.2.2.2.2.1)) = _; cases decide (x12.2.2.1 = ez.2.2.1) <;> cases x12.2.2.2.2.2.1 <;> simp
              refine c_skip ?_
              refine thn_n ?_
              refine c_reg ?_
              refine sq_p (vo) rfl (fun _ => by kernel_rfl) ?_
              refine sq_q rfl h (g_ld 0 [.int .i64 x12.1, .int .i64 x12.2.2.2.2.2.2, .string x12.2.2.1, .bool x12.2.2.2.2.2.1] (.agg #[.int .i64 x12.1, .int .i64 x12.2.2.2.2.2.2, .string x12.2.2.1, .bool x12.2.2.2.2.2.1]) (by kernel_rfl) 0 rfl) ?_
              refine sq_new rfl (fun b => .slice (some ⟨b, 0, none⟩) 1 1) [.int .i64 x12.1, .int .i64 x12.2.2.2.2.2.2, .string x12.2.2.1, .bool x12.2.2.2.2.2.1] 235 (fun _ => by kernel_rfl) h ?_; intro k26 w h
              refine sq_app (b := k26) (o := 0) rfl 1 x12 (by kernel_rfl) h 2 rfl 0 rfl (rdCell 0 (by kernel_rfl)) (by (try simp only [List.length_append, List.length_cons, List.length_nil]); omega) ?_; intro v27 w h
              refine sq_p (v27) rfl (fun _ => by kernel_rfl) ?_
              refine lnil ?_
              refine blk_n (thn_n ?_)
              refine c_reg ?_
              refine sq_p (.int .i64 (p2 : Int)) rfl (fun _ => by kernel_rfl) ?_
              refine sq_q rfl h (g_eq (v := .int .i64 (IntKind.i64.wrap ((p2 : Int) + 1))) (v' := .int .i64 ((p2 + 1 : Nat) : Int)) (g_pure fun _ => by kernel_rfl) (wr (by omega))) ?_
              refine sq_p (.int .i64 ((p2 + 1 : Nat) : Int)) rfl (fun _ => by kernel_rfl) ?_
              refine lnil ?_
              refine loop_end (fun j => ⟨(p2 + 1), gg, out ++ [x12], v27, j⟩) (show ((p2 + 1) ≤ l.length ∧ gg = confG (l.take (p2 + 1)) ez ∧ (out ++ [x12]) = confI l jz ez now (p2 + 1)) ∧ (l.length - (p2 + 1)) < (l.length - p2) from ⟨⟨by omega, by rw [confG_same hx13 hT]; exact hg, by rw [ho, confI_keep hez hx13 hne hT]⟩, by omega⟩) (by kernel_rfl) [2, 2, 2] (by kernel_rfl) h
        · skip
          have hc10 := of_decide_eq_false hc10
          refine c_exit ?_
          refine thn_e (rnd_e (blk_e (thn_n ?_)))
          refine c_seq ?_
          refine c_reg ?_
          refine sq_p (.pointer (some ⟨b, 0, none⟩)) rfl (fun _ => by kernel_rfl) ?_
          refine sq_p (vo) rfl (fun _ => by kernel_rfl) ?_
          refine sq_p (.pointer (some ⟨b, 0, none⟩)) rfl (fun _ => by kernel_rfl) ?_
          refine sq_p (.pointer (some ⟨b, 0, none⟩)) rfl (fun _ => by kernel_rfl) ?_
          refine sq_sto rfl (h.slv 0 rfl) 0 [vo, .int .i64 last, .int .i64 now] h 1 rfl (by kernel_rfl) ?_; intro w h
          refine lnil ?_
          refine thn_n ?_
          refine c_seq ?_
          refine c_reg ?_
          refine sq_p (.int .i64 gg) rfl (fun _ => by kernel_rfl) ?_
          refine sq_p (.int .i64 gg) rfl (fun _ => by kernel_rfl) ?_
          refine sq_p (.int .i64 0) rfl (fun _ => by kernel_rfl) ?_
          refine lnil ?_
          refine thn_n ?_
          refine c_ret ?_
          refine ret_end [.int .i64 gg, .int .i64 0] [1, 0] h (by kernel_rfl) (res_t (by kernel_rfl) (res_t (by kernel_rfl) res_n)) ?_
          have hg2 : gg = confG l ez := by rw [hg, List.take_of_length_le (by omega)]
          have ho2 : out = confL l jz ez now := by rw [ho, confI_all (by omega)]
          rw [hg2, ho2]
          exact .inr (.inr ⟨jz, ez, hez, hid, by omega, _, rfl, rfl⟩)
set_option maxHeartbeats 1000000 in
theorem rtick_spec (b : Nat) (v : Value) (l : List Ls) (last now : Int) (hk : LsOk l last now) (hb : last ≤ 1000) (hw : now ≤ 8000000000000000) (k : Int) : Spec Tryd.prog 77 #[.pointer (some ⟨b, 0, none⟩), .int .i64 k] [rCell true b [v, .int .i64 last, .int .i64 now] 124, rRows true v 235 4 rclC l] (fun u L => (0 ≤ k ∧ k ≤ 1099511627776 ∧ ∃ v' v2, u = .tuple #[v', .int .i64 0] ∧ L = [rRows true v' 3 1 idC (tickG l (now + k)), rCell true b [v2, .int .i64 last, .int .i64 (now + k)] 124, rRows true v2 235 4 rclC (tickL l (now + k))]) ∨ ((k < 0 ∨ 1099511627776 < k) ∧ u = .tuple #[.slice none 0 0, .int .i64 2] ∧ L = [rCell true b [v, .int .i64 last, .int .i64 now] 124, rRows true v 235 4 rclC l])) := by
  have hfw := hk.few
  have hpos := hk.pos
  refine spec_of (#[.pointer (some ⟨b, 0, none⟩), .int .i64 k, undef, undef, undef, undef, undef, undef, undef, undef, undef, undef, undef, undef, undef, undef, undef, undef, undef, undef, undef, undef, undef, undef, undef, undef, undef, undef, undef, undef, undef, undef, undef, undef, undef, undef, undef, undef, undef, undef, undef, undef, undef, undef, undef, undef, undef, undef, undef, undef, undef, undef, undef, undef, undef, undef, undef, undef, undef, undef, undef, undef, undef, undef, undef, undef, undef]) Tryd.func77 rfl (by kernel_rfl) fun E w0 w h => ?_
  refine c_seq ?_
  refine c_reg ?_
  refine sq_p (.slice none 0 0) rfl (fun _ => by kernel_rfl) ?_
  refine sq_p (.int .i64 0) rfl (fun _ => by kernel_rfl) ?_
  refine lnil ?_
  refine thn_n ?_
  refine c_seq ?_
  refine c_seq ?_
  refine c_reg ?_
  refine sq_p (.int .i64 k) rfl (fun _ => by kernel_rfl) ?_
  obtain ⟨b1, hb1⟩ : ∃ b_ : Bool, b_ = (decide (k < 0)) := ⟨_, rfl⟩
  refine sq_q (v := .bool b1) rfl h (by subst hb1; exact g_pure (v := .bool (decide (k < 0))) fun _ => by kernel_rfl) ?_
  refine sq_p (.bool b1) rfl (fun _ => by kernel_rfl) ?_
  refine sq_m0 (v := .int .i64 k) b1 (by cases b1 <;> kernel_rfl) h (fun hB => by subst hB; exact g_pure (v := .int .i64 k) fun _ => by kernel_rfl) ?_
  obtain ⟨b2, hb2⟩ : ∃ b_ : Bool, b_ = (decide (k > 1099511627776)) := ⟨_, rfl⟩
  refine sq_m0 (v := .bool b2) b1 (by cases b1 <;> kernel_rfl) h (fun hB => by subst hB; exact by subst hb2; exact g_pure (v := .bool (decide (k > 1099511627776))) fun _ => by kernel_rfl) ?_
  obtain ⟨b3, hb3⟩ : ∃ b_ : Bool, b_ = (b1 || b2) := ⟨_, rfl⟩
  refine sq_q (v := .bool b3) rfl h (by subst hb3; exact g_pure (v := .bool (b1 || b2)) fun _ => by cases b1 <;> kernel_rfl) ?_
  refine lnil ?_
  refine thn_n ?_
  refine c_cond (b3) (by kernel_rfl) (fun hc4 => ?_) (fun hc4 => ?_)
  · skip
    have q5 : (b1 || b2) = true := by rw [← hb3]; exact hc4
    have q6 : ((k < 0) ∨ (k > 1099511627776)) := by subst hb2; subst hb1; revert q5; first | (simp; done) | (simp; omega)
    refine c_seq ?_
    refine c_reg ?_
    refine sq_p (.slice none 0 0) rfl (fun _ => by kernel_rfl) ?_
    refine sq_p (.int .i64 2) rfl (fun _ => by kernel_rfl) ?_
    refine lnil ?_
    refine thn_n ?_
    refine c_ret ?_
    refine thn_r ?_
    refine ret_end [.slice none 0 0, .int .i64 2] [0, 0] h (by kernel_rfl) (res_t (by kernel_rfl) (res_t (by kernel_rfl) res_n)) ?_
    exact .inr ⟨by omega, rfl, rfl⟩
  · skip
    have q7 : (b1 || b2) = false := by rw [← hb3]; exact hc4
    have q8 : b1 = false := by revert q7; cases b1 <;> simp
    have q9 : b2 = false := by revert q7; cases b1 <;> cases b2 <;> simp
    have q10 : (decide (k < 0)) = false := by rw [← hb1]; exact q8
    have q10 := of_decide_eq_false q10
    have q11 : (decide (k > 1099511627776)) = false := by rw [← hb2]; exact q9
    have q11 := of_decide_eq_false q11
    refine c_skip ?_
    refine thn_n ?_
    refine c_seq ?_
    refine c_reg ?_
    refine sq_p (.pointer (some ⟨b, 0, none⟩)) rfl (fun _ => by kernel_rfl) ?_
    refine sq_p (.pointer (some ⟨b, 0, none⟩)) rfl (fun _ => by kernel_rfl) ?_
    refine sq_p (.pointer (some ⟨b, 0, none⟩)) rfl (fun _ => by kernel_rfl) ?_
    refine sq_p (.pointer (some ⟨b, 2, none⟩)) rfl (fun _ => by kernel_rfl) ?_
    refine sq_q rfl h (g_ld 2 [.int .i64 now] (.int .i64 now) (by kernel_rfl) 0 rfl) ?_
    refine sq_p (.int .i64 k) rfl (fun _ => by kernel_rfl) ?_
    refine sq_q rfl h (g_eq (v := .int .i64 (IntKind.i64.wrap (now + k))) (v' := .int .i64 (now + k)) (g_pure fun _ => by kernel_rfl) (wr (by omega))) ?_
    refine sq_p (.pointer (some ⟨b, 0, none⟩)) rfl (fun _ => by kernel_rfl) ?_
    refine sq_p (.pointer (some ⟨b, 2, none⟩)) rfl (fun _ => by kernel_rfl) ?_
    refine sq_st rfl 2 [.int .i64 (now + k)] [v, .int .i64 last, .int .i64 (now + k)] h 0 rfl (by kernel_rfl) ?_; intro w h
    refine lnil ?_
    refine thn_n ?_
    refine c_seq ?_
    refine c_reg ?_
    refine sq_p (.slice none 0 0) rfl (fun _ => by kernel_rfl) ?_
    refine lnil ?_
    refine thn_n ?_
    refine c_seq ?_
    refine c_reg ?_
    refine sq_p (.slice none 0 0) rfl (fun _ => by kernel_rfl) ?_
    refine lnil ?_
    refine thn_n ?_
    refine c_seq ?_
    refine c_seq ?_
    refine c_reg ?_
    refine sq_p (.int .i64 0) rfl (fun _ => by kernel_rfl) ?_
    refine lnil ?_
    refine thn_n ?_
    refine c_block ?_
    have h := h.nilRows 3 1 idC
    have h := h.nilRows 235 4 rclC
    refine c_loop (X := Nat × List Int × Value × List Ls × Value × (Nat → Value)) (fun ⟨n, gl, vg, out, vo, J0⟩ => ⟨#[.pointer (some ⟨b, 0, none⟩), .int .i64 k, undef, undef, .slice none 0 0, .int .i64 0, vg, vo, .int .i64 (n : Int), J0 9, .int .i64 k, .bool b1, .bool b1, (if b1 = false then .int .i64 k else undef), (if b1 = false then .bool b2 else undef), .bool b3, .pointer (some ⟨b, 0, none⟩), .pointer (some ⟨b, 0, none⟩), .pointer (some ⟨b, 0, none⟩), .pointer (some ⟨b, 2, none⟩), .int .i64 now, .int .i64 k, .int .i64 (now + k), .pointer (some ⟨b, 0, none⟩), .pointer (some ⟨b, 2, none⟩), J0 25, J0 26, J0 27, J0 28, J0 29, J0 30, J0 31, J0 32, J0 33, J0 34, J0 35, J0 36, J0 37, J0 38, J0 39, J0 40, J0 41, J0 42, J0 43, J0 44, J0 45, J0 46, J0 47, J0 48, J0 49, J0 50, J0 51, J0 52, J0 53, J0 54, J0 55, J0 56, J0 57, J0 58, J0 59, J0 60, J0 61, undef, undef, undef, undef, undef], []⟩)
      (fun ⟨n, gl, vg, out, vo, J0⟩ => [rRows true vo 235 4 rclC out, rRows true vg 3 1 idC gl, rCell true b [v, .int .i64 last, .int .i64 (now + k)] 124, rRows true v 235 4 rclC l]) (fun ⟨n, gl, vg, out, vo, J0⟩ => n ≤ l.length ∧ gl = tickG (l.take n) (now + k) ∧ out = tickL (l.take n) (now + k)) (fun ⟨n, gl, vg, out, vo, J0⟩ => l.length - n)
      ⟨0, [], (.slice none 0 0), [], (.slice none 0 0), (fun n => (#[.pointer (some ⟨b, 0, none⟩), .int .i64 k, undef, undef, .slice none 0 0, .int .i64 0, .slice none 0 0, .slice none 0 0, .int .i64 0, undef, .int .i64 k, .bool b1, .bool b1, (if b1 = false then .int .i64 k else undef), (if b1 = false then .bool b2 else undef), .bool b3, .pointer (some ⟨b, 0, none⟩), .pointer (some ⟨b, 0, none⟩), .pointer (some ⟨b, 0, none⟩), .pointer (some ⟨b, 2, none⟩), .int .i64 now, .int .i64 k, .int .i64 (now + k), .pointer (some ⟨b, 0, none⟩), .pointer (some ⟨b, 2, none⟩), undef, undef, undef, undef, undef, undef, undef, undef, undef, undef, undef, undef, undef, undef, undef, undef, undef, undef, undef, undef, undef, undef, undef, undef, undef, undef, undef, undef, undef, undef, undef, undef, undef, undef, undef, undef, undef, undef, undef, undef, undef, undef] : Array Value).getD n undef)⟩ ⟨by omega, rfl, rfl⟩ (by kernel_rfl) [0, 0, 0, 0] (by kernel_rfl) h ?_
    rintro ⟨n, gl, vg, out, vo, J0⟩ w hG h
    obtain ⟨hn0, hg, ho⟩ : n ≤ l.length ∧ gl = tickG (l.take n) (now + k) ∧ out = tickL (l.take n) (now + k) := hG
    have hol : out.length ≤ n := by rw [ho]; exact Nat.le_trans (List.length_filter_le _ _) (by rw [List.length_take]; omega)
    have hgl : gl.length ≤ n := by rw [hg]; unfold tickG; rw [List.length_map]; exact Nat.le_trans (List.length_filter_le _ _) (by rw [List.length_take]; omega)
    refine c_seq ?_
    refine c_seq ?_
    refine c_reg ?_
    refine sq_p (.int .i64 (n : Int)) rfl (fun _ => by kernel_rfl) ?_
    refine sq_p (.pointer (some ⟨b, 0, none⟩)) rfl (fun _ => by kernel_rfl) ?_
    refine sq_p (.pointer (some ⟨b, 0, none⟩)) rfl (fun _ => by kernel_rfl) ?_
    refine sq_p (.pointer (some ⟨b, 0, none⟩)) rfl (fun _ => by kernel_rfl) ?_
    refine sq_q rfl h (g_ld 0 [v] (v) (by kernel_rfl) 2 rfl) ?_
    refine sq_q rfl h (g_len (by kernel_rfl) 3 rfl) ?_
    refine sq_p (.bool (decide ((n : Int) < (l.length : Int)))) rfl (fun _ => by kernel_rfl) ?_
    refine lnil ?_
    refine thn_n ?_
    refine c_cond (decide ((n : Int) < (l.length : Int))) (by kernel_rfl) (fun hc12 => ?_) (fun hc12 => ?_)
    · skip
      have hc12 := of_decide_eq_true hc12
      refine c_skip ?_
      refine thn_n ?_
      refine c_seq ?_
      refine c_block ?_
      refine c_seq ?_
      refine c_reg ?_
      refine sq_p (.pointer (some ⟨b, 0, none⟩)) rfl (fun _ => by kernel_rfl) ?_
      refine sq_p (.pointer (some ⟨b, 0, none⟩)) rfl (fun _ => by kernel_rfl) ?_
      refine sq_p (.pointer (some ⟨b, 0, none⟩)) rfl (fun _ => by kernel_rfl) ?_
      refine sq_q rfl h (g_ld 0 [v] (v) (by kernel_rfl) 2 rfl) ?_
      refine sq_p (.int .i64 (n : Int)) rfl (fun _ => by kernel_rfl) ?_
      have hi13 : n < l.length := by omega
      obtain ⟨x14, hx15⟩ : ∃ x, l[n]? = some x := ⟨_, List.getElem?_eq_getElem hi13⟩
      have hsn : 0 ≤ x14.2.2.2.2.2.2 ∧ x14.2.2.2.2.2.2 ≤ now := hk.since _ (List.mem_of_getElem? hx15)
      refine sq_q rfl h (g_idx n (by kernel_rfl) hi13 3 rfl) ?_
      refine sq_q rfl h (g_ldr (b := blkN v) (offN v + n * 4) [.int .i64 x14.1, .int .i64 x14.2.2.2.2.2.2, .string x14.2.2.1, .bool x14.2.2.2.2.2.1] (.agg #[.int .i64 x14.1, .int .i64 x14.2.2.2.2.2.2, .string x14.2.2.1, .bool x14.2.2.2.2.2.1]) (by kernel_rfl) 3 rfl (rdRow0 rclC_len hx15 (by kernel_rfl))) ?_
      refine sq_new rfl (fun b => .pointer (some ⟨b, 0, none⟩)) [.int .i64 0, .int .i64 0, .string (⟨#[]⟩ : ByteArray), .bool false] 235 (fun _ => by kernel_rfl) h ?_; intro k16 w h
      refine sq_st rfl 0 [.int .i64 x14.1, .int .i64 x14.2.2.2.2.2.2, .string x14.2.2.1, .bool x14.2.2.2.2.2.1] [.int .i64 x14.1, .int .i64 x14.2.2.2.2.2.2, .string x14.2.2.1, .bool x14.2.2.2.2.2.1] h 0 rfl (by kernel_rfl) ?_; intro w h
      refine lnil ?_
      refine thn_n ?_
      refine c_seq ?_
      refine d_start 12 [0, 2] (by kernel_rfl) h fun w h => ?_
      refine d_take 0 0 [0, 2] rfl (v := .pointer (some ⟨k16, 3, none⟩)) (by kernel_rfl) (qp_thn (qp_blk (qp_thn (qp_rnd (qp_blk (qp_thn qp_body)))))) (yq (by kernel_rfl) (g_pure (v := .pointer (some ⟨k16, 3, none⟩)) fun _ => by kernel_rfl)) h (by kernel_rfl) ?_
      refine d_take 1 1 [0, 2] rfl (v := .bool x14.2.2.2.2.2.1) (by kernel_rfl) (qp_thn (qp_blk (qp_thn (qp_rnd (qp_blk (qp_thn qp_body)))))) (yq (by kernel_rfl) (g_ld 3 [.bool x14.2.2.2.2.2.1] (.bool x14.2.2.2.2.2.1) (by kernel_rfl) 0 rfl)) h (by kernel_rfl) ?_
      obtain ⟨b17, hb17⟩ : ∃ b_ : Bool, b_ = x14.2.2.2.2.2.1 := ⟨_, rfl⟩
      refine d_take 2 3 [0, 2] rfl (v := .bool b17) (by kernel_rfl) (qp_thn (qp_blk (qp_thn (qp_rnd (qp_blk (qp_thn qp_body)))))) (yq (by kernel_rfl) (by subst hb17; exact g_pure (v := .bool x14.2.2.2.2.2.1) fun _ => by kernel_rfl)) h (by kernel_rfl) ?_
      refine d_take 3 391 [0, 2] rfl (by kernel_rfl) (qp_thn (qp_blk (qp_thn (qp_rnd (qp_blk (qp_thn qp_body)))))) (ym1 (v := .pointer (some ⟨b, 0, none⟩)) b17 (by cases b17 <;> kernel_rfl) (fun hB => by subst hB; exact g_pure (v := .pointer (some ⟨b, 0, none⟩)) fun _ => by kernel_rfl)) h (by kernel_rfl) ?_
      refine d_take 4 399 [0, 2] rfl (by kernel_rfl) (qp_thn (qp_blk (qp_thn (qp_rnd (qp_blk (qp_thn qp_body)))))) (ym1 (v := .pointer (some ⟨b, 0, none⟩)) b17 (by cases b17 <;> kernel_rfl) (fun hB => by subst hB; exact g_pure (v := .pointer (some ⟨b, 0, none⟩)) fun _ => by kernel_rfl)) h (by kernel_rfl) ?_
      refine d_take 5 415 [0, 2] rfl (by kernel_rfl) (qp_thn (qp_blk (qp_thn (qp_rnd (qp_blk (qp_thn qp_body)))))) (ym1 (v := .pointer (some ⟨b, 2, none⟩)) b17 (by cases b17 <;> kernel_rfl) (fun hB => by subst hB; exact g_pure (v := .pointer (some ⟨b, 2, none⟩)) fun _ => by kernel_rfl)) h (by kernel_rfl) ?_
      refine d_take 6 447 [0, 2] rfl (by kernel_rfl) (qp_thn (qp_blk (qp_thn (qp_rnd (qp_blk (qp_thn qp_body)))))) (ym1 (v := .int .i64 (now + k)) b17 (by cases b17 <;> kernel_rfl) (fun hB => by subst hB; exact g_ld 2 [.int .i64 (now + k)] (.int .i64 (now + k)) (by kernel_rfl) 1 rfl)) h (by kernel_rfl) ?_
      refine d_take 7 127 [0, 2] rfl (by kernel_rfl) (qp_thn (qp_blk (qp_thn (qp_rnd (qp_blk (qp_thn qp_body)))))) (ym1 (v := .pointer (some ⟨k16, 1, none⟩)) b17 (by cases b17 <;> kernel_rfl) (fun hB => by subst hB; exact g_pure (v := .pointer (some ⟨k16, 1, none⟩)) fun _ => by kernel_rfl)) h (by kernel_rfl) ?_
      refine d_take 8 255 [0, 2] rfl (by kernel_rfl) (qp_thn (qp_blk (qp_thn (qp_rnd (qp_blk (qp_thn qp_body)))))) (ym1 (v := .int .i64 x14.2.2.2.2.2.2) b17 (by cases b17 <;> kernel_rfl) (fun hB => by subst hB; exact g_ld 1 [.int .i64 x14.2.2.2.2.2.2] (.int .i64 x14.2.2.2.2.2.2) (by kernel_rfl) 0 rfl)) h (by kernel_rfl) ?_
      refine d_take 9 511 [0, 2] rfl (by kernel_rfl) (qp_thn (qp_blk (qp_thn (qp_rnd (qp_blk (qp_thn qp_body)))))) (ym1 (v := .int .i64 ((now + k) - x14.2.2.2.2.2.2)) b17 (by cases b17 <;> kernel_rfl) (fun hB => by subst hB; exact g_eq (v := .int .i64 (IntKind.i64.wrap ((now + k) - x14.2.2.2.2.2.2))) (v' := .int .i64 ((now + k) - x14.2.2.2.2.2.2)) (g_pure fun _ => by kernel_rfl) (wr (by omega)))) h (by kernel_rfl) ?_
      obtain ⟨b18, hb18⟩ : ∃ b_ : Bool, b_ = (decide ((now + k) - x14.2.2.2.2.2.2 ≥ 60)) := ⟨_, rfl⟩
      refine d_take 10 1023 [0, 2] rfl (by kernel_rfl) (qp_thn (qp_blk (qp_thn (qp_rnd (qp_blk (qp_thn qp_body)))))) (ym1 (v := .bool b18) b17 (by cases b17 <;> kernel_rfl) (fun hB => by subst hB; exact by subst hb18; exact g_pure (v := .bool (decide ((now + k) - x14.2.2.2.2.2.2 ≥ 60))) fun _ => by kernel_rfl)) h (by kernel_rfl) ?_
      obtain ⟨b19, hb19⟩ : ∃ b_ : Bool, b_ = (b17 && b18) := ⟨_, rfl⟩
      refine d_take 11 2047 [0, 2] rfl (v := .bool b19) (by kernel_rfl) (qp_thn (qp_blk (qp_thn (qp_rnd (qp_blk (qp_thn qp_body)))))) (yq (by kernel_rfl) (by subst hb19; exact g_pure (v := .bool (b17 && b18)) fun _ => by cases b17 <;> kernel_rfl)) h (by kernel_rfl) ?_
      refine d_done (by kernel_rfl) ?_
      refine thn_n ?_
      refine c_cond (b19) (by kernel_rfl) (fun hc20 => ?_) (fun hc20 => ?_)
      · skip
        have q21 : (b17 && b18) = true := by rw [← hb19]; exact hc20
        have q22 : b17 = true := by revert q21; cases b17 <;> simp
        have q23 : b18 = true := by revert q21; cases b17 <;> cases b18 <;> simp
        have q24 : x14.2.2.2.2.2.1 = true := by rw [← hb17]; exact q22
        have q25 : (decide ((now + k) - x14.2.2.2.2.2.2 ≥ 60)) = true := by rw [← hb18]; exact q23
        have q25 := of_decide_eq_true q25
        have hT : expP (now + k) x14 = true := by subst hb19; subst hb18; subst hb17; exact hc20
        refine c_reg ?_
        refine sq_p (vg) rfl (fun _ => by kernel_rfl) ?_
        refine sq_p (.pointer (some ⟨k16, 0, none⟩)) rfl (fun _ => by kernel_rfl) ?_
        refine sq_q rfl h (g_ld 0 [.int .i64 x14.1] (.int .i64 x14.1) (by kernel_rfl) 0 rfl) ?_
        refine sq_new rfl (fun b => .slice (some ⟨b, 0, none⟩) 1 1) [.int .i64 x14.1] 3 (fun _ => by kernel_rfl) h ?_; intro k26 w h
        refine sq_app (b := k26) (o := 0) rfl 1 x14.1 (by kernel_rfl) h 3 rfl 0 rfl (rdCell 0 (by kernel_rfl)) (by (try simp only [List.length_append, List.length_cons, List.length_nil]); omega) ?_; intro v27 w h
        refine sq_p (v27) rfl (fun _ => by kernel_rfl) ?_
        refine lnil ?_
        refine blk_n (thn_n ?_)
        refine c_reg ?_
        refine sq_p (.int .i64 (n : Int)) rfl (fun _ => by kernel_rfl) ?_
        refine sq_q rfl h (g_eq (v := .int .i64 (IntKind.i64.wrap ((n : Int) + 1))) (v' := .int .i64 ((n + 1 : Nat) : Int)) (g_pure fun _ => by kernel_rfl) (wr (by omega))) ?_
        refine sq_p (.int .i64 ((n + 1 : Nat) : Int)) rfl (fun _ => by kernel_rfl) ?_
        refine lnil ?_
        refine loop_end (fun j => ⟨(n + 1), gl ++ [x14.1], v27, out, vo, j⟩) (show ((n + 1) ≤ l.length ∧ (gl ++ [x14.1]) = tickG (l.take (n + 1)) (now + k) ∧ out = tickL (l.take (n + 1)) (now + k)) ∧ (l.length - (n + 1)) < (l.length - n) from ⟨⟨by omega, by rw [hg]; unfold tickG; rw [take_snoc hx15, List.filter_append]; simp [hT], by rw [ho]; unfold tickL; rw [take_snoc hx15, List.filter_append]; simp [hT]⟩, by omega⟩) (by kernel_rfl) [2, 2, 2, 2] (by kernel_rfl) h
      · skip
        have q28 : (b17 && b18) = false := by rw [← hb19]; exact hc20
        have hT : expP (now + k) x14 = false := by subst hb19; subst hb18; subst hb17; exact hc20
        refine c_reg ?_
        refine sq_p (vo) rfl (fun _ => by kernel_rfl) ?_
        refine sq_q rfl h (g_ld 0 [.int .i64 x14.1, .int .i64 x14.2.2.2.2.2.2, .string x14.2.2.1, .bool x14.2.2.2.2.2.1] (.agg #[.int .i64 x14.1, .int .i64 x14.2.2.2.2.2.2, .string x14.2.2.1, .bool x14.2.2.2.2.2.1]) (by kernel_rfl) 0 rfl) ?_
        refine sq_new rfl (fun b => .slice (some ⟨b, 0, none⟩) 1 1) [.int .i64 x14.1, .int .i64 x14.2.2.2.2.2.2, .string x14.2.2.1, .bool x14.2.2.2.2.2.1] 235 (fun _ => by kernel_rfl) h ?_; intro k29 w h
        refine sq_app (b := k29) (o := 0) rfl 1 x14 (by kernel_rfl) h 2 rfl 0 rfl (rdCell 0 (by kernel_rfl)) (by (try simp only [List.length_append, List.length_cons, List.length_nil]); omega) ?_; intro v30 w h
        refine sq_p (v30) rfl (fun _ => by kernel_rfl) ?_
        refine lnil ?_
        refine blk_n (thn_n ?_)
        refine c_reg ?_
        refine sq_p (.int .i64 (n : Int)) rfl (fun _ => by kernel_rfl) ?_
        refine sq_q rfl h (g_eq (v := .int .i64 (IntKind.i64.wrap ((n : Int) + 1))) (v' := .int .i64 ((n + 1 : Nat) : Int)) (g_pure fun _ => by kernel_rfl) (wr (by omega))) ?_
        refine sq_p (.int .i64 ((n + 1 : Nat) : Int)) rfl (fun _ => by kernel_rfl) ?_
        refine lnil ?_
        refine loop_end (fun j => ⟨(n + 1), gl, vg, out ++ [x14], v30, j⟩) (show ((n + 1) ≤ l.length ∧ gl = tickG (l.take (n + 1)) (now + k) ∧ (out ++ [x14]) = tickL (l.take (n + 1)) (now + k)) ∧ (l.length - (n + 1)) < (l.length - n) from ⟨⟨by omega, by rw [hg]; unfold tickG; rw [take_snoc hx15, List.filter_append]; simp [hT], by rw [ho]; unfold tickL; rw [take_snoc hx15, List.filter_append]; simp [hT]⟩, by omega⟩) (by kernel_rfl) [2, 2, 2, 2] (by kernel_rfl) h
    · skip
      have hc12 := of_decide_eq_false hc12
      refine c_exit ?_
      refine thn_e (rnd_e (blk_e (thn_n ?_)))
      refine c_seq ?_
      refine c_reg ?_
      refine sq_p (.pointer (some ⟨b, 0, none⟩)) rfl (fun _ => by kernel_rfl) ?_
      refine sq_p (vo) rfl (fun _ => by kernel_rfl) ?_
      refine sq_p (.pointer (some ⟨b, 0, none⟩)) rfl (fun _ => by kernel_rfl) ?_
      refine sq_p (.pointer (some ⟨b, 0, none⟩)) rfl (fun _ => by kernel_rfl) ?_
      refine sq_sto rfl (h.slv 0 rfl) 0 [vo, .int .i64 last, .int .i64 (now + k)] h 2 rfl (by kernel_rfl) ?_; intro w h
      refine lnil ?_
      refine thn_n ?_
      refine c_seq ?_
      refine c_reg ?_
      refine sq_p (vg) rfl (fun _ => by kernel_rfl) ?_
      refine sq_p (vg) rfl (fun _ => by kernel_rfl) ?_
      refine sq_p (.int .i64 0) rfl (fun _ => by kernel_rfl) ?_
      refine lnil ?_
      refine thn_n ?_
      refine c_ret ?_
      refine ret_end [vg, .int .i64 0] [1, 1, 0] h (by kernel_rfl) (res_t (by kernel_rfl) (res_t (by kernel_rfl) res_n)) ?_
      rw [hg, ho, List.take_of_length_le (by omega)]
      exact .inl ⟨by omega, by omega, _, _, rfl, rfl⟩
end Go.Proofs.YtofhnglgebllbaaDoor
