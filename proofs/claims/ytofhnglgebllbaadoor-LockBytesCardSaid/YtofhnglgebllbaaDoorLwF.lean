/- locklaw: contracts by what is owned (printed by walk.py). -/
import Derived.Test.YtofhnglgebllbaaDoorEnvAR
import Derived.Test.YtofhnglgebllbaaDoorLwB
namespace Go.Proofs.YtofhnglgebllbaaDoor
open Go.RowKit
set_option linter.unusedVariables false
set_option linter.unusedSimpArgs false
set_option maxRecDepth 100000

def lfR (j : Nat) : Run := ((1, 0), 1, 10 * (j : Int), 10 * (j : Int) + 5, false)
def lfL (n : Nat) : List Run := (List.range n).map lfR
theorem lfL_succ (n : Nat) : lfL (n + 1) = lfL n ++ [lfR n] := by unfold lfL; rw [List.range_succ]; simp
theorem lfL_len (n : Nat) : (lfL n).length = n := by simp [lfL]
theorem lf_mem {n : Nat} {x : Run} (h : x ∈ lfL n) : ∃ j, j < n ∧ x = lfR j := by
  obtain ⟨j, hj, rfl⟩ := List.mem_map.1 h
  exact ⟨j, List.mem_range.1 hj, rfl⟩
theorem lf_held {m : Nat} {f t : Int} {wb : Bool} {x : Run} (h : x ∈ lfL m) : heldP (1, 0) 1 f t wb x = false := by
  obtain ⟨j, _, rfl⟩ := lf_mem h
  simp [heldP, lfR]
theorem lf_ends {i : Int} (h0 : 0 ≤ i) (h1 : i ≤ 1000) {s : Int} (h2 : 0 < s) (h3 : s ≤ 1000) : endsP i s = some (i, i + s) := e_some (by omega) (by omega)
theorem lf_e {i : Int} (h0 : 0 ≤ i) (h1 : i ≤ 1000) {s : Int} (h2 : 0 < s) (h3 : s ≤ 1000) : eOk i s = true ∧ eF i s = i ∧ eT i s = i + s := by
  have := lf_ends h0 h1 h2 h3
  simp [eOk, eF, eT, this]
theorem lf_cut {m i : Nat} (hm : m ≤ i) : cutL (lfL m) (1, 0) 1 (10 * (i : Int)) (10 * (i : Int) + 5) = lfL m := by
  unfold cutL
  have : ∀ x ∈ lfL m, cutR (1, 0) 1 (10 * (i : Int)) (10 * (i : Int) + 5) x = [x] := fun x hx => by
    obtain ⟨j, hj, rfl⟩ := lf_mem hx
    unfold cutR
    rw [if_pos]
    have : 10 * (j : Int) + 5 ≤ 10 * (i : Int) := by omega
    simp [outside, lfR, this]
  generalize lfL m = l at this
  induction l with
  | nil => rfl
  | cons x l ih => rw [List.flatMap_cons, this x (by simp), ih fun y hy => this y (by simp [hy])]; rfl
theorem lf_sorted {m i : Nat} (hm : m ≤ i) : (lfL m ++ [lfR i]).Pairwise fun x y => ¬ joinCf y x < 0 := by
  rw [List.pairwise_append]
  refine ⟨?_, List.pairwise_singleton _ _, fun x hx y hy => ?_⟩
  · unfold lfL
    rw [List.pairwise_map]
    exact List.pairwise_lt_range.imp fun {a b} hab => by rw [joinCf_lt]; simp [lfR]; omega
  · obtain ⟨j, hj, rfl⟩ := lf_mem hx
    rw [List.mem_singleton.1 hy, joinCf_lt]
    simp [lfR]; omega
theorem lf_next {i m : Nat} (hm : m ≤ i) (hi : i ≤ 70) {l' : List Run} (hp : l'.Perm (cutL (lfL m) (1, 0) 1 (eF (10 * (i : Int)) 5) (eT (10 * (i : Int)) 5) ++ [((1, 0), 1, eF (10 * (i : Int)) 5, eT (10 * (i : Int)) 5, false)])) (ho : l'.Pairwise fun x y => ¬ joinCf y x < 0) :
    joinL l' = lfL m ++ [lfR i] := by
  obtain ⟨_, h1, h2⟩ := lf_e (i := 10 * (i : Int)) (by omega) (by omega) (s := 5) (by omega) (by omega)
  rw [h1, h2, lf_cut hm] at hp
  have e : l' = lfL m ++ [lfR i] := by
    refine List.Perm.eq_of_pairwise (le := fun x y => ¬ joinCf y x < 0) (fun a b ha hb h1 h2 => ?_) ho (lf_sorted hm) hp
    have ha' := hp.mem_iff.1 ha
    have q : ∀ z ∈ lfL m ++ [((1, 0), 1, 10 * (i : Int), 10 * (i : Int) + 5, false)], ∃ j, z = lfR j := fun z hz => by
      rcases List.mem_append.1 hz with hz | hz
      · obtain ⟨j, _, e⟩ := lf_mem hz; exact ⟨j, e⟩
      · exact ⟨i, List.mem_singleton.1 hz⟩
    obtain ⟨j1, rfl⟩ := q a ha'
    obtain ⟨j2, rfl⟩ := q b hb
    rw [joinCf_lt] at h1 h2
    simp [lfR] at h1 h2
    have : j1 = j2 := by omega
    rw [this]
  rw [e]
  refine join_same fun x hx y hy => ?_
  have q : ∀ z ∈ lfL m ++ [lfR i], ∃ j, z = lfR j := fun z hz => by
    rcases List.mem_append.1 hz with hz | hz
    · obtain ⟨j, _, e⟩ := lf_mem hz; exact ⟨j, e⟩
    · exact ⟨i, List.mem_singleton.1 hz⟩
  obtain ⟨j1, rfl⟩ := q x hx
  obtain ⟨j2, rfl⟩ := q y hy
  simp [lfR]; omega
theorem lf_split (c m : Nat) : (cutL (lfL m) (1, 0) 1 (10 * (c : Int) + 2) (10 * (c : Int) + 2 + 1)).length = m + if c < m then 1 else 0 := by
  induction m with
  | zero => simp [lfL, cutL]
  | succ m ih =>
    rw [lfL_succ]
    unfold cutL at ih ⊢
    rw [List.flatMap_append, List.length_append, ih]
    simp only [List.flatMap_cons, List.flatMap_nil, List.append_nil]
    unfold cutR
    by_cases h1 : m = c
    · subst h1
      have h2 : outside (1, 0) 1 (10 * (m : Int) + 2) (10 * (m : Int) + 2 + 1) (lfR m) = false := by
        have a1 : ¬ (10 * (m : Int) + 5 ≤ 10 * (m : Int) + 2) := by omega
        have a2 : ¬ (10 * (m : Int) + 2 + 1 ≤ 10 * (m : Int)) := by omega
        simp [outside, lfR, a1, a2]
      have h3 : ¬ (outside (1, 0) 1 (10 * (m : Int) + 2) (10 * (m : Int) + 2 + 1) (lfR m) = true) := by simp [h2]
      rw [if_neg (Nat.lt_irrefl m), if_pos (Nat.lt_succ_self m), if_neg h3]
      have a1 : (lfR m).2.2.1 < 10 * (m : Int) + 2 := by show 10 * (m : Int) < _; omega
      have a2 : 10 * (m : Int) + 2 + 1 < (lfR m).2.2.2.1 := by show _ < 10 * (m : Int) + 5; omega
      rw [if_pos a1, if_pos a2]
      simp
    · have h2 : outside (1, 0) 1 (10 * (c : Int) + 2) (10 * (c : Int) + 2 + 1) (lfR m) = true := by
        have a : 10 * (m : Int) + 5 ≤ 10 * (c : Int) + 2 ∨ 10 * (c : Int) + 2 + 1 ≤ 10 * (m : Int) := by omega
        rcases a with a | a <;> simp [outside, lfR, a]
      rw [if_pos h2]
      by_cases h3 : c < m <;> simp [h3] <;> omega

set_option maxHeartbeats 1000000 in
theorem lockFull_spec {B : Nat} (ad : Nat → Addr) (n cu : Int) : Spec Tryd.prog 8 #[.int .i64 n, .int .i64 cu] [rEnvA B ad] (fun u L => u = .bool true ∧ L = [rEnvA B ad]) := by
  refine spec_of (#[.int .i64 n, .int .i64 cu, undef, undef, undef, undef, undef, undef, undef, undef, undef, undef, undef, undef, undef, undef, undef, undef, undef, undef, undef, undef, undef, undef, undef, undef, undef, undef, undef, undef, undef, undef, undef, undef, undef, undef, undef, undef, undef, undef, undef, undef, undef, undef, undef, undef, undef, undef, undef, undef, undef, undef, undef, undef, undef, undef, undef, undef, undef, undef, undef, undef, undef, undef, undef, undef, undef, undef, undef, undef, undef, undef, undef, undef, undef, undef, undef, undef, undef, undef, undef, undef, undef, undef, undef, undef, undef, undef, undef, undef, undef, undef, undef, undef, undef, undef]) Tryd.func8 rfl (by kernel_rfl) fun E w0 w h => ?_
  have h := h.envSub [2, 9, 11] 0 rfl (by decide)
  refine c_seq ?_
  refine c_reg ?_
  refine sq_p (.bool false) rfl (fun _ => by kernel_rfl) ?_
  refine lnil ?_
  refine thn_n ?_
  refine c_seq ?_
  refine c_reg ?_
  refine sq_call #[] [0] rfl (held_spec ad) (fun _ => by kernel_rfl) h ?_; rintro v_ L_ w ⟨rfl, rfl⟩ h
  refine sq_p (.bool true) rfl (fun _ => by kernel_rfl) ?_
  refine lnil ?_
  refine thn_n ?_
  refine c_seq ?_
  refine c_seq ?_
  refine c_reg ?_
  refine sq_p (.bool true) rfl (fun _ => by kernel_rfl) ?_
  refine sq_p (.bool false) rfl (fun _ => by kernel_rfl) ?_
  refine sq_p (.bool false) rfl (fun _ => by kernel_rfl) ?_
  refine sq_p (.int .i64 n) (by kernel_rfl) (fun _ => by kernel_rfl) ?_
  obtain ⟨b1, hb1⟩ : ∃ b_ : Bool, b_ = (decide (n < 0)) := ⟨_, rfl⟩
  refine sq_q (v := .bool b1) (by kernel_rfl) h (by subst hb1; exact g_pure (v := .bool (decide (n < 0))) fun _ => by kernel_rfl) ?_
  refine sq_p (.bool b1) rfl (fun _ => by kernel_rfl) ?_
  refine sq_p (.bool b1) rfl (fun _ => by kernel_rfl) ?_
  refine sq_m0 (v := .int .i64 n) b1 (by cases b1 <;> kernel_rfl) h (fun hB => by subst hB; exact g_pure (v := .int .i64 n) fun _ => by kernel_rfl) ?_
  obtain ⟨b2, hb2⟩ : ∃ b_ : Bool, b_ = (decide (n > 70)) := ⟨_, rfl⟩
  refine sq_m0 (v := .bool b2) b1 (by cases b1 <;> kernel_rfl) h (fun hB => by subst hB; exact by subst hb2; exact g_pure (v := .bool (decide (n > 70))) fun _ => by kernel_rfl) ?_
  obtain ⟨b3, hb3⟩ : ∃ b_ : Bool, b_ = (b1 || b2) := ⟨_, rfl⟩
  refine sq_q (v := .bool b3) rfl h (by subst hb3; exact g_pure (v := .bool (b1 || b2)) fun _ => by cases b1 <;> kernel_rfl) ?_
  refine sq_p (.bool b3) rfl (fun _ => by kernel_rfl) ?_
  refine sq_m0 (v := .int .i64 cu) b3 (by cases b3 <;> kernel_rfl) h (fun hB => by subst hB; exact g_pure (v := .int .i64 cu) fun _ => by kernel_rfl) ?_
  obtain ⟨b4, hb4⟩ : ∃ b_ : Bool, b_ = (decide (cu < 0)) := ⟨_, rfl⟩
  refine sq_m0 (v := .bool b4) b3 (by cases b3 <;> kernel_rfl) h (fun hB => by subst hB; exact by subst hb4; exact g_pure (v := .bool (decide (cu < 0))) fun _ => by kernel_rfl) ?_
  obtain ⟨b5, hb5⟩ : ∃ b_ : Bool, b_ = (b3 || b4) := ⟨_, rfl⟩
  refine sq_q (v := .bool b5) rfl h (by subst hb5; exact g_pure (v := .bool (b3 || b4)) fun _ => by cases b3 <;> kernel_rfl) ?_
  refine sq_p (.bool b5) rfl (fun _ => by kernel_rfl) ?_
  refine sq_m0 (v := .int .i64 cu) b5 (by cases b5 <;> kernel_rfl) h (fun hB => by subst hB; exact g_pure (v := .int .i64 cu) fun _ => by kernel_rfl) ?_
  obtain ⟨b6, hb6⟩ : ∃ b_ : Bool, b_ = (decide (cu > 100)) := ⟨_, rfl⟩
  refine sq_m0 (v := .bool b6) b5 (by cases b5 <;> kernel_rfl) h (fun hB => by subst hB; exact by subst hb6; exact g_pure (v := .bool (decide (cu > 100))) fun _ => by kernel_rfl) ?_
  obtain ⟨b7, hb7⟩ : ∃ b_ : Bool, b_ = (b5 || b6) := ⟨_, rfl⟩
  refine sq_q (v := .bool b7) rfl h (by subst hb7; exact g_pure (v := .bool (b5 || b6)) fun _ => by cases b5 <;> kernel_rfl) ?_
  refine lnil ?_
  refine thn_n ?_
  refine c_cond (b7) (by kernel_rfl) (fun hc8 => ?_) (fun hc8 => ?_)
  · skip
    have q9 : (b5 || b6) = true := by rw [← hb7]; exact hc8
    refine c_seq ?_
    refine c_reg ?_
    refine sq_p (.bool true) rfl (fun _ => by kernel_rfl) ?_
    refine sq_p (.bool true) rfl (fun _ => by kernel_rfl) ?_
    refine lnil ?_
    refine thn_n ?_
    refine c_ret ?_
    refine thn_r ?_
    refine ret_end [.bool true] [1] h (by kernel_rfl) (res_t (by kernel_rfl) res_n) ?_
    exact ⟨rfl, rfl⟩
  · skip
    have q10 : (b5 || b6) = false := by rw [← hb7]; exact hc8
    have q11 : b5 = false := by revert q10; cases b5 <;> simp
    have q12 : b6 = false := by revert q10; cases b5 <;> cases b6 <;> simp
    have q13 : (b3 || b4) = false := by rw [← hb5]; exact q11
    have q14 : b3 = false := by revert q13; cases b3 <;> simp
    have q15 : b4 = false := by revert q13; cases b3 <;> cases b4 <;> simp
    have q16 : (b1 || b2) = false := by rw [← hb3]; exact q14
    have q17 : b1 = false := by revert q16; cases b1 <;> simp
    have q18 : b2 = false := by revert q16; cases b1 <;> cases b2 <;> simp
    have q19 : (decide (n < 0)) = false := by rw [← hb1]; exact q17
    have q19 := of_decide_eq_false q19
    have q20 : (decide (n > 70)) = false := by rw [← hb2]; exact q18
    have q20 := of_decide_eq_false q20
    have q21 : (decide (cu < 0)) = false := by rw [← hb4]; exact q15
    have q21 := of_decide_eq_false q21
    have q22 : (decide (cu > 100)) = false := by rw [← hb6]; exact q12
    have q22 := of_decide_eq_false q22
    obtain ⟨c, rfl⟩ : ∃ c : Nat, cu = (c : Int) := ⟨cu.toNat, by omega⟩
    refine c_skip ?_
    refine thn_n ?_
    refine c_seq ?_
    refine c_reg ?_
    refine sq_p (.agg #[.slice none 0 0]) rfl (fun _ => by kernel_rfl) ?_
    refine sq_new rfl (fun b => .pointer (some ⟨b, 0, none⟩)) [.slice none 0 0] 93 (fun _ => by kernel_rfl) h ?_; intro k23 w h
    refine sq_p (.pointer (some ⟨k23, 0, none⟩)) rfl (fun _ => by kernel_rfl) ?_
    refine lnil ?_
    refine thn_n ?_
    refine c_seq ?_
    refine c_reg ?_
    refine sq_p (.agg #[.int .i64 1, .int .i64 0]) rfl (fun _ => by kernel_rfl) ?_
    refine sq_new rfl (fun b => .pointer (some ⟨b, 0, none⟩)) [.int .i64 0, .int .i64 0] 29 (fun _ => by kernel_rfl) h ?_; intro k24 w h
    refine sq_st rfl 0 [.int .i64 1, .int .i64 0] [.int .i64 1, .int .i64 0] h 0 rfl (by kernel_rfl) ?_; intro w h
    refine lnil ?_
    refine thn_n ?_
    refine c_seq ?_
    refine c_seq ?_
    refine c_reg ?_
    refine sq_p (.int .i64 0) rfl (fun _ => by kernel_rfl) ?_
    refine lnil ?_
    refine thn_n ?_
    refine c_block ?_
    have h := h.nilRows 217 6 runC
    refine c_loop (X := Nat × List Run × Value × (Nat → Value)) (fun ⟨i, lt, vt, J0⟩ => ⟨#[.int .i64 n, .int .i64 (c : Int), undef, undef, J0 4, .bool true, .pointer (some ⟨k23, 0, none⟩), .pointer (some ⟨k24, 0, none⟩), .int .i64 (i : Int), J0 9, J0 10, J0 11, undef, undef, .bool true, .bool true, .bool false, .bool false, .int .i64 n, .bool b1, .bool b1, .bool b1, (if b1 = false then .int .i64 n else undef), (if b1 = false then .bool b2 else undef), .bool b3, .bool b3, (if b3 = false then .int .i64 (c : Int) else undef), (if b3 = false then .bool b4 else undef), .bool b5, .bool b5, (if b5 = false then .int .i64 (c : Int) else undef), (if b5 = false then .bool b6 else undef), .bool b7, undef, .agg #[.slice none 0 0], .pointer (some ⟨k23, 0, none⟩), .agg #[.int .i64 1, .int .i64 0], J0 37, J0 38, J0 39, J0 40, J0 41, J0 42, J0 43, J0 44, J0 45, J0 46, J0 47, J0 48, J0 49, J0 50, J0 51, J0 52, J0 53, J0 54, J0 55, J0 56, undef, undef, undef, undef, undef, undef, undef, undef, undef, undef, undef, undef, undef, undef, undef, undef, undef, undef, undef, undef, undef, undef, undef, undef, undef, undef, undef, undef, undef, undef, undef, undef, undef, undef, undef, undef, undef, undef, undef], []⟩)
      (fun ⟨i, lt, vt, J0⟩ => [rRows true vt 217 6 runC lt, rCell true k24 [.int .i64 1, .int .i64 0] 29, rCell true k23 [vt] 93, rEnv B ad [2, 9, 11], rEnvA B ad]) (fun ⟨i, lt, vt, J0⟩ => (i : Int) ≤ n ∧ lt = lfL (min i 60) ∧ TabOk lt) (fun ⟨i, lt, vt, J0⟩ => n.toNat - i)
      ⟨0, [], (.slice none 0 0), (fun n => (#[.int .i64 n, .int .i64 (c : Int), undef, undef, .bool false, .bool true, .pointer (some ⟨k23, 0, none⟩), .pointer (some ⟨k24, 0, none⟩), .int .i64 0, undef, undef, undef, undef, undef, .bool true, .bool true, .bool false, .bool false, .int .i64 n, .bool b1, .bool b1, .bool b1, (if b1 = false then .int .i64 n else undef), (if b1 = false then .bool b2 else undef), .bool b3, .bool b3, (if b3 = false then .int .i64 (c : Int) else undef), (if b3 = false then .bool b4 else undef), .bool b5, .bool b5, (if b5 = false then .int .i64 (c : Int) else undef), (if b5 = false then .bool b6 else undef), .bool b7, undef, .agg #[.slice none 0 0], .pointer (some ⟨k23, 0, none⟩), .agg #[.int .i64 1, .int .i64 0], undef, undef, undef, undef, undef, undef, undef, undef, undef, undef, undef, undef, undef, undef, undef, undef, undef, undef, undef, undef, undef, undef, undef, undef, undef, undef, undef, undef, undef, undef, undef, undef, undef, undef, undef, undef, undef, undef, undef, undef, undef, undef, undef, undef, undef, undef, undef, undef, undef, undef, undef, undef, undef, undef, undef, undef, undef, undef, undef] : Array Value).getD n undef)⟩ ⟨by omega, rfl, tabOk_nil⟩ (by kernel_rfl) [0, 0, 0, 0, 0] (by kernel_rfl) h ?_
    rintro ⟨i, lt, vt, J0⟩ w hG h
    obtain ⟨hi0, ho, hT0⟩ : (i : Int) ≤ n ∧ lt = lfL (min i 60) ∧ TabOk lt := hG
    have hol : lt.length = min i 60 := by rw [ho, lfL_len]
    refine c_seq ?_
    refine c_seq ?_
    refine c_reg ?_
    refine sq_p (.int .i64 (i : Int)) rfl (fun _ => by kernel_rfl) ?_
    refine sq_p (.int .i64 n) rfl (fun _ => by kernel_rfl) ?_
    refine sq_p (.bool (decide ((i : Int) < n))) rfl (fun _ => by kernel_rfl) ?_
    refine lnil ?_
    refine thn_n ?_
    refine c_cond (decide ((i : Int) < n)) (by kernel_rfl) (fun hc25 => ?_) (fun hc25 => ?_)
    · skip
      have hc25 := of_decide_eq_true hc25
      refine c_skip ?_
      refine thn_n ?_
      refine c_seq ?_
      refine c_block ?_
      refine c_seq ?_
      refine c_reg ?_
      refine sq_p (.pointer (some ⟨k23, 0, none⟩)) rfl (fun _ => by kernel_rfl) ?_
      refine sq_q rfl h (g_ld 0 [.int .i64 1, .int .i64 0] (.agg #[.int .i64 1, .int .i64 0]) (by kernel_rfl) 1 rfl) ?_
      refine sq_p (.int .i64 (i : Int)) rfl (fun _ => by kernel_rfl) ?_
      refine sq_q rfl h (g_eq (v := .int .i64 (IntKind.i64.wrap (10 * (i : Int)))) (v' := .int .i64 (10 * (i : Int))) (g_pure fun _ => by kernel_rfl) (wr (by omega))) ?_
      refine sq_p (.agg #[.int .i64 (10 * (i : Int)), .int .i64 5]) rfl (fun _ => by kernel_rfl) ?_
      refine sq_call #[.pointer (some ⟨k23, 0, none⟩), .agg #[.int .i64 1, .int .i64 0], .int .i64 1, .agg #[.int .i64 (10 * (i : Int)), .int .i64 5], .bool false] [2, 0, 1] rfl (lockm_spec ad k23 vt lt 1 0 1 (10 * (i : Int)) 5 false hT0.1.bnd hT0.small) (fun _ => by kernel_rfl) h ?_; rintro v_ L_ w (⟨hq26, rfl, rfl⟩ | ⟨x28, hq26, hq27, rfl, rfl⟩ | ⟨hq26, hq27, l29, hp30, ho31, ⟨hq32, rfl, rfl⟩ | ⟨hq32, v33, rfl, rfl⟩⟩) h
      · skip
        rw [(lf_e (i := 10 * (i : Int)) (by omega) (by omega) (s := 5) (by omega) (by omega)).1] at hq26; cases hq26
      · skip
        have hF := Found.spec hq27
        exact absurd hF.2 (by rw [lf_held (by rw [← ho]; exact hF.1)]; simp)
      · skip
        have hN := lf_next (i := i) (m := min i 60) (by omega) (by omega) (by rw [← ho]; exact hp30) ho31
        have hNl : (joinL l29).length = min i 60 + 1 := by rw [hN]; simp [lfL_len]
        refine sq_p (.tuple #[.agg #[.int .i64 0, .int .i64 0, .int .i64 0, .int .i64 0, .int .i64 0, .bool false], errV ad 9]) rfl (fun _ => by kernel_rfl) ?_
        refine sq_p (.agg #[.int .i64 0, .int .i64 0, .int .i64 0, .int .i64 0, .int .i64 0, .bool false]) rfl (fun _ => by kernel_rfl) ?_
        refine sq_p (errV ad 9) rfl (fun _ => by kernel_rfl) ?_
        refine sq_new rfl (fun b => .pointer (some ⟨b, 0, none⟩)) [.int .i64 0, .int .i64 0, .int .i64 0, .int .i64 0, .int .i64 0, .bool false] 99 (fun _ => by kernel_rfl) h ?_; intro k34 w h
        refine sq_st rfl 0 [.int .i64 0, .int .i64 0, .int .i64 0, .int .i64 0, .int .i64 0, .bool false] [.int .i64 0, .int .i64 0, .int .i64 0, .int .i64 0, .int .i64 0, .bool false] h 0 rfl (by kernel_rfl) ?_; intro w h
        refine sq_p (errV ad 9) rfl (fun _ => by kernel_rfl) ?_
        refine lnil ?_
        refine thn_n ?_
        refine c_seq ?_
        refine c_reg ?_
        refine sq_p (.int .i64 0) rfl (fun _ => by kernel_rfl) ?_
        refine lnil ?_
        refine thn_n ?_
        refine c_seq ?_
        refine c_seq ?_
        refine c_reg ?_
        refine sq_p (.int .i64 (i : Int)) rfl (fun _ => by kernel_rfl) ?_
        refine sq_p (.bool (decide ((i : Int) ≥ 60))) rfl (fun _ => by kernel_rfl) ?_
        refine lnil ?_
        refine thn_n ?_
        refine c_cond (decide ((i : Int) ≥ 60)) (by kernel_rfl) (fun hc35 => ?_) (fun hc35 => ?_)
        · skip
          have hc35 := of_decide_eq_true hc35
          refine c_reg ?_
          refine sq_p (.int .i64 9) rfl (fun _ => by kernel_rfl) ?_
          refine lnil ?_
          refine thn_n ?_
          refine c_seq ?_
          refine c_reg ?_
          refine sq_p (errV ad 9) rfl (fun _ => by kernel_rfl) ?_
          refine sq_p (.int .i64 9) rfl (fun _ => by kernel_rfl) ?_
          refine sq_call #[errV ad 9, .int .i64 9] [5] rfl (coded2_spec ad 9 9 (by decide) (by decide)) (fun _ => by kernel_rfl) h ?_; rintro v_ L_ w ⟨rfl, rfl⟩ h
          refine sq_p (.bool false) rfl (fun _ => by kernel_rfl) ?_
          refine lnil ?_
          refine thn_n ?_
          refine c_false (by kernel_rfl) ?_
          refine c_skip ?_
          refine blk_n (thn_n ?_)
          refine c_reg ?_
          refine sq_p (.int .i64 (i : Int)) rfl (fun _ => by kernel_rfl) ?_
          refine sq_q rfl h (g_eq (v := .int .i64 (IntKind.i64.wrap ((i : Int) + 1))) (v' := .int .i64 ((i + 1 : Nat) : Int)) (g_pure fun _ => by kernel_rfl) (wr (by omega))) ?_
          refine sq_p (.int .i64 ((i + 1 : Nat) : Int)) rfl (fun _ => by kernel_rfl) ?_
          refine lnil ?_
          refine loop_end (fun j => ⟨(i + 1), lt, vt, j⟩) (show (((i + 1) : Int) ≤ n ∧ lt = lfL (min (i + 1) 60) ∧ TabOk lt) ∧ (n.toNat - (i + 1)) < (n.toNat - i) from ⟨⟨by omega, by rw [ho, show min i 60 = 60 by omega, show min (i + 1) 60 = 60 by omega], hT0⟩, by omega⟩) (by kernel_rfl) [3, 4, 2, 2, 0] (by kernel_rfl) h
        · skip
          have hc35 := of_decide_eq_false hc35
          exfalso; omega
      · skip
        have hN := lf_next (i := i) (m := min i 60) (by omega) (by omega) (by rw [← ho]; exact hp30) ho31
        have hNl : (joinL l29).length = min i 60 + 1 := by rw [hN]; simp [lfL_len]
        have hTn : TabOk (joinL l29) := hT0.lock hq26 hq27 hp30 ho31 hq32
        refine sq_p (.tuple #[.agg #[.int .i64 0, .int .i64 0, .int .i64 0, .int .i64 0, .int .i64 0, .bool false], .nilIface]) rfl (fun _ => by kernel_rfl) ?_
        refine sq_p (.agg #[.int .i64 0, .int .i64 0, .int .i64 0, .int .i64 0, .int .i64 0, .bool false]) rfl (fun _ => by kernel_rfl) ?_
        refine sq_p (.nilIface) rfl (fun _ => by kernel_rfl) ?_
        refine sq_new rfl (fun b => .pointer (some ⟨b, 0, none⟩)) [.int .i64 0, .int .i64 0, .int .i64 0, .int .i64 0, .int .i64 0, .bool false] 99 (fun _ => by kernel_rfl) h ?_; intro k36 w h
        refine sq_st rfl 0 [.int .i64 0, .int .i64 0, .int .i64 0, .int .i64 0, .int .i64 0, .bool false] [.int .i64 0, .int .i64 0, .int .i64 0, .int .i64 0, .int .i64 0, .bool false] h 0 rfl (by kernel_rfl) ?_; intro w h
        refine sq_p (.nilIface) rfl (fun _ => by kernel_rfl) ?_
        refine lnil ?_
        refine thn_n ?_
        refine c_seq ?_
        refine c_reg ?_
        refine sq_p (.int .i64 0) rfl (fun _ => by kernel_rfl) ?_
        refine lnil ?_
        refine thn_n ?_
        refine c_seq ?_
        refine c_seq ?_
        refine c_reg ?_
        refine sq_p (.int .i64 (i : Int)) rfl (fun _ => by kernel_rfl) ?_
        refine sq_p (.bool (decide ((i : Int) ≥ 60))) rfl (fun _ => by kernel_rfl) ?_
        refine lnil ?_
        refine thn_n ?_
        refine c_cond (decide ((i : Int) ≥ 60)) (by kernel_rfl) (fun hc37 => ?_) (fun hc37 => ?_)
        · skip
          have hc37 := of_decide_eq_true hc37
          exfalso; omega
        · skip
          have hc37 := of_decide_eq_false hc37
          refine c_skip ?_
          refine thn_n ?_
          refine c_seq ?_
          refine c_reg ?_
          refine sq_p (.nilIface) rfl (fun _ => by kernel_rfl) ?_
          refine sq_p (.int .i64 0) rfl (fun _ => by kernel_rfl) ?_
          refine sq_call #[.nilIface, .int .i64 0] [5] rfl (coded2_spec ad 0 0 (by decide) (by decide)) (fun _ => by kernel_rfl) h ?_; rintro v_ L_ w ⟨rfl, rfl⟩ h
          refine sq_p (.bool false) rfl (fun _ => by kernel_rfl) ?_
          refine lnil ?_
          refine thn_n ?_
          refine c_false (by kernel_rfl) ?_
          refine c_skip ?_
          refine blk_n (thn_n ?_)
          refine c_reg ?_
          refine sq_p (.int .i64 (i : Int)) rfl (fun _ => by kernel_rfl) ?_
          refine sq_q rfl h (g_eq (v := .int .i64 (IntKind.i64.wrap ((i : Int) + 1))) (v' := .int .i64 ((i + 1 : Nat) : Int)) (g_pure fun _ => by kernel_rfl) (wr (by omega))) ?_
          refine sq_p (.int .i64 ((i + 1 : Nat) : Int)) rfl (fun _ => by kernel_rfl) ?_
          refine lnil ?_
          refine loop_end (fun j => ⟨(i + 1), joinL l29, v33, j⟩) (show (((i + 1) : Int) ≤ n ∧ (joinL l29) = lfL (min (i + 1) 60) ∧ TabOk (joinL l29)) ∧ (n.toNat - (i + 1)) < (n.toNat - i) from ⟨⟨by omega, by rw [hN, show min i 60 = i by omega, show min (i + 1) 60 = i + 1 by omega, lfL_succ], hTn⟩, by omega⟩) (by kernel_rfl) [3, 4, 2, 2, 0] (by kernel_rfl) h
    · skip
      have hc25 := of_decide_eq_false hc25
      refine c_exit ?_
      refine thn_e (rnd_e (blk_e (thn_n ?_)))
      refine c_seq ?_
      refine c_reg ?_
      refine sq_p (.int .i64 n) rfl (fun _ => by kernel_rfl) ?_
      refine sq_p (.int .i64 n) rfl (fun _ => by kernel_rfl) ?_
      refine lnil ?_
      refine thn_n ?_
      refine c_seq ?_
      refine c_seq ?_
      refine c_reg ?_
      refine sq_p (.int .i64 n) rfl (fun _ => by kernel_rfl) ?_
      refine sq_p (.bool (decide (n > 60))) rfl (fun _ => by kernel_rfl) ?_
      refine lnil ?_
      refine thn_n ?_
      refine c_cond (decide (n > 60)) (by kernel_rfl) (fun hc38 => ?_) (fun hc38 => ?_)
      · skip
        have hc38 := of_decide_eq_true hc38
        refine c_reg ?_
        refine sq_p (.int .i64 60) rfl (fun _ => by kernel_rfl) ?_
        refine lnil ?_
        refine thn_n ?_
        refine c_seq ?_
        refine c_seq ?_
        refine c_reg ?_
        refine sq_p (.int .i64 (c : Int)) rfl (fun _ => by kernel_rfl) ?_
        refine sq_p (.int .i64 60) rfl (fun _ => by kernel_rfl) ?_
        refine sq_p (.bool (decide ((c : Int) ≥ 60))) rfl (fun _ => by kernel_rfl) ?_
        refine lnil ?_
        refine thn_n ?_
        refine c_cond (decide ((c : Int) ≥ 60)) (by kernel_rfl) (fun hc39 => ?_) (fun hc39 => ?_)
        · skip
          have hc39 := of_decide_eq_true hc39
          refine c_seq ?_
          refine c_reg ?_
          refine sq_p (.pointer (some ⟨k23, 0, none⟩)) rfl (fun _ => by kernel_rfl) ?_
          refine sq_call #[.pointer (some ⟨k23, 0, none⟩)] [2, 0] rfl (list_spec k23 vt lt hT0.1.bnd hT0.small) (fun _ => by kernel_rfl) h ?_; rintro v43 L_ w ⟨_, l40, ⟨hp41, ho42⟩, rfl, rfl⟩ h
          have hLL := hp41.length_eq
          have hRM : (l40.map lkT).length = l40.length := List.length_map ..
          refine sq_q rfl h (g_len (by kernel_rfl) 0 rfl) ?_
          refine sq_p (.int .i64 60) rfl (fun _ => by kernel_rfl) ?_
          refine sq_p (.bool (decide (((l40.map lkT).length : Int) = 60))) rfl (fun _ => by kernel_rfl) ?_
          refine sq_p (.bool (decide (((l40.map lkT).length : Int) = 60))) rfl (fun _ => by kernel_rfl) ?_
          refine lnil ?_
          refine thn_n ?_
          refine c_ret ?_
          refine thn_r ?_
          refine ret_end [.bool (decide (((l40.map lkT).length : Int) = 60))] [5] h (by kernel_rfl) (res_t (by kernel_rfl) res_n) ?_
          exact ⟨by show Value.bool _ = _; rw [decide_eq_true (by omega)], rfl⟩
        · skip
          have hc39 := of_decide_eq_false hc39
          refine c_skip ?_
          refine thn_n ?_
          refine c_seq ?_
          refine c_reg ?_
          refine sq_p (.pointer (some ⟨k23, 0, none⟩)) rfl (fun _ => by kernel_rfl) ?_
          refine sq_q rfl h (g_ld 0 [.int .i64 1, .int .i64 0] (.agg #[.int .i64 1, .int .i64 0]) (by kernel_rfl) 1 rfl) ?_
          refine sq_p (.int .i64 (c : Int)) rfl (fun _ => by kernel_rfl) ?_
          refine sq_q rfl h (g_eq (v := .int .i64 (IntKind.i64.wrap (10 * (c : Int)))) (v' := .int .i64 (10 * (c : Int))) (g_pure fun _ => by kernel_rfl) (wr (by omega))) ?_
          refine sq_q rfl h (g_eq (v := .int .i64 (IntKind.i64.wrap ((10 * (c : Int)) + 2))) (v' := .int .i64 ((10 * (c : Int)) + 2)) (g_pure fun _ => by kernel_rfl) (wr (by omega))) ?_
          refine sq_p (.agg #[.int .i64 ((10 * (c : Int)) + 2), .int .i64 1]) rfl (fun _ => by kernel_rfl) ?_
          refine sq_call #[.pointer (some ⟨k23, 0, none⟩), .agg #[.int .i64 1, .int .i64 0], .int .i64 1, .agg #[.int .i64 ((10 * (c : Int)) + 2), .int .i64 1]] [2, 0, 1] rfl (unlock_spec ad k23 vt lt 1 0 1 ((10 * (c : Int)) + 2) 1 hT0.small) (fun _ => by kernel_rfl) h ?_; rintro v_ L_ w (⟨hq44, rfl, rfl⟩ | ⟨hq44, hq45, rfl, rfl⟩ | ⟨hq44, hq45, v46, rfl, rfl⟩) h
          · skip
            rw [(lf_e (i := 10 * (c : Int) + 2) (by omega) (by omega) (s := 1) (by omega) (by omega)).1] at hq44; cases hq44
          · skip
            obtain ⟨_, hE1, hE2⟩ := lf_e (i := 10 * (c : Int) + 2) (by omega) (by omega) (s := 1) (by omega) (by omega)
            have hCl : (cutL lt (1, 0) 1 (eF (10 * (c : Int) + 2) 1) (eT (10 * (c : Int) + 2) 1)).length = min i 60 + 1 := by rw [hE1, hE2, ho, lf_split c (min i 60), if_pos (by omega)]
            refine sq_p (errV ad 9) rfl (fun _ => by kernel_rfl) ?_
            refine lnil ?_
            refine thn_n ?_
            refine c_seq ?_
            refine c_seq ?_
            refine c_reg ?_
            refine sq_p (.int .i64 60) rfl (fun _ => by kernel_rfl) ?_
            refine sq_p (.bool (decide (60 = 60))) rfl (fun _ => by kernel_rfl) ?_
            refine lnil ?_
            refine thn_n ?_
            refine c_cond (decide (60 = 60)) (by kernel_rfl) (fun hc47 => ?_) (fun hc47 => ?_)
            · skip
              have hc47 := of_decide_eq_true hc47
              refine c_seq ?_
              refine c_reg ?_
              refine sq_p (errV ad 9) rfl (fun _ => by kernel_rfl) ?_
              refine sq_call #[errV ad 9, .int .i64 9] [4] rfl (coded2_spec ad 9 9 (by decide) (by decide)) (fun _ => by kernel_rfl) h ?_; rintro v_ L_ w ⟨rfl, rfl⟩ h
              refine sq_p (.bool true) rfl (fun _ => by kernel_rfl) ?_
              refine sq_p (.pointer (some ⟨k23, 0, none⟩)) (by kernel_rfl) (fun _ => by kernel_rfl) ?_
              refine sq_call #[.pointer (some ⟨k23, 0, none⟩)] [1, 1] (by kernel_rfl) (list_spec k23 vt lt hT0.1.bnd hT0.small) (fun _ => by kernel_rfl) h ?_; rintro v51 L_ w ⟨_, l48, ⟨hp49, ho50⟩, rfl, rfl⟩ h
              have hLL := hp49.length_eq
              have hRM : (l48.map lkT).length = l48.length := List.length_map ..
              refine sq_q (by kernel_rfl) h (g_len (by kernel_rfl) 0 rfl) ?_
              refine sq_p (.int .i64 60) (by kernel_rfl) (fun _ => by kernel_rfl) ?_
              obtain ⟨b52, hb52⟩ : ∃ b_ : Bool, b_ = (decide (((l48.map lkT).length : Int) = 60)) := ⟨_, rfl⟩
              refine sq_q (v := .bool b52) (by kernel_rfl) h (by subst hb52; exact g_pure (v := .bool (decide (((l48.map lkT).length : Int) = 60))) fun _ => by kernel_rfl) ?_
              refine sq_p (.bool b52) rfl (fun _ => by kernel_rfl) ?_
              refine sq_p (.bool b52) rfl (fun _ => by kernel_rfl) ?_
              refine lnil ?_
              refine thn_n ?_
              refine c_ret ?_
              refine thn_r ?_
              refine ret_end [.bool b52] [3] h (by kernel_rfl) (res_t (by kernel_rfl) res_n) ?_
              refine ⟨?_, rfl⟩
              show Value.bool _ = _
              subst hb52
              rw [decide_eq_true (by omega)]
            · skip
              have hc47 := of_decide_eq_false hc47
              exfalso; omega
          · skip
            obtain ⟨_, hE1, hE2⟩ := lf_e (i := 10 * (c : Int) + 2) (by omega) (by omega) (s := 1) (by omega) (by omega)
            have hCl : (cutL lt (1, 0) 1 (eF (10 * (c : Int) + 2) 1) (eT (10 * (c : Int) + 2) 1)).length = min i 60 + 1 := by rw [hE1, hE2, ho, lf_split c (min i 60), if_pos (by omega)]
            have hTn := hT0.unlock (h := (1, 0)) (o := 1) hq44 hq45
            refine sq_p (.nilIface) rfl (fun _ => by kernel_rfl) ?_
            refine lnil ?_
            refine thn_n ?_
            refine c_seq ?_
            refine c_seq ?_
            refine c_reg ?_
            refine sq_p (.int .i64 60) rfl (fun _ => by kernel_rfl) ?_
            refine sq_p (.bool (decide (60 = 60))) rfl (fun _ => by kernel_rfl) ?_
            refine lnil ?_
            refine thn_n ?_
            refine c_cond (decide (60 = 60)) (by kernel_rfl) (fun hc53 => ?_) (fun hc53 => ?_)
            · skip
              have hc53 := of_decide_eq_true hc53
              exfalso; omega
            · skip
              have hc53 := of_decide_eq_false hc53
              refine c_skip ?_
              refine thn_n ?_
              refine c_seq ?_
              refine c_reg ?_
              refine sq_p (.nilIface) rfl (fun _ => by kernel_rfl) ?_
              refine sq_p (.bool true) rfl (fun _ => by kernel_rfl) ?_
              refine sq_p (.bool true) rfl (fun _ => by kernel_rfl) ?_
              refine sq_p (.pointer (some ⟨k23, 0, none⟩)) (by kernel_rfl) (fun _ => by kernel_rfl) ?_
              refine sq_call #[.pointer (some ⟨k23, 0, none⟩)] [0, 0] (by kernel_rfl) (list_spec k23 v46 (cutL lt (1, 0) 1 (eF ((10 * (c : Int)) + 2) 1) (eT ((10 * (c : Int)) + 2) 1)) hTn.1.bnd hTn.small) (fun _ => by kernel_rfl) h ?_; rintro v57 L_ w ⟨_, l54, ⟨hp55, ho56⟩, rfl, rfl⟩ h
              have hLL := hp55.length_eq
              have hRM : (l54.map lkT).length = l54.length := List.length_map ..
              refine sq_q (by kernel_rfl) h (g_len (by kernel_rfl) 0 rfl) ?_
              refine sq_p (.int .i64 60) (by kernel_rfl) (fun _ => by kernel_rfl) ?_
              refine sq_p (.int .i64 61) (by kernel_rfl) (fun _ => by kernel_rfl) ?_
              obtain ⟨b58, hb58⟩ : ∃ b_ : Bool, b_ = (decide (((l54.map lkT).length : Int) = 61)) := ⟨_, rfl⟩
              refine sq_q (v := .bool b58) (by kernel_rfl) h (by subst hb58; exact g_pure (v := .bool (decide (((l54.map lkT).length : Int) = 61))) fun _ => by kernel_rfl) ?_
              refine sq_p (.bool b58) rfl (fun _ => by kernel_rfl) ?_
              refine sq_p (.bool b58) rfl (fun _ => by kernel_rfl) ?_
              refine lnil ?_
              refine thn_n ?_
              refine c_ret ?_
              refine ret_end [.bool b58] [5] h (by kernel_rfl) (res_t (by kernel_rfl) res_n) ?_
              refine ⟨?_, rfl⟩
              show Value.bool _ = _
              subst hb58
              rw [decide_eq_true (by omega)]
      · skip
        have hc38 := of_decide_eq_false hc38
        refine c_skip ?_
        refine thn_n ?_
        refine c_seq ?_
        refine c_seq ?_
        refine c_reg ?_
        refine sq_p (.int .i64 (c : Int)) rfl (fun _ => by kernel_rfl) ?_
        refine sq_p (.int .i64 n) rfl (fun _ => by kernel_rfl) ?_
        refine sq_p (.bool (decide ((c : Int) ≥ n))) rfl (fun _ => by kernel_rfl) ?_
        refine lnil ?_
        refine thn_n ?_
        refine c_cond (decide ((c : Int) ≥ n)) (by kernel_rfl) (fun hc59 => ?_) (fun hc59 => ?_)
        · skip
          have hc59 := of_decide_eq_true hc59
          refine c_seq ?_
          refine c_reg ?_
          refine sq_p (.pointer (some ⟨k23, 0, none⟩)) rfl (fun _ => by kernel_rfl) ?_
          refine sq_call #[.pointer (some ⟨k23, 0, none⟩)] [2, 0] rfl (list_spec k23 vt lt hT0.1.bnd hT0.small) (fun _ => by kernel_rfl) h ?_; rintro v63 L_ w ⟨_, l60, ⟨hp61, ho62⟩, rfl, rfl⟩ h
          have hLL := hp61.length_eq
          have hRM : (l60.map lkT).length = l60.length := List.length_map ..
          refine sq_q rfl h (g_len (by kernel_rfl) 0 rfl) ?_
          refine sq_p (.int .i64 n) rfl (fun _ => by kernel_rfl) ?_
          refine sq_p (.bool (decide (((l60.map lkT).length : Int) = n))) rfl (fun _ => by kernel_rfl) ?_
          refine sq_p (.bool (decide (((l60.map lkT).length : Int) = n))) rfl (fun _ => by kernel_rfl) ?_
          refine lnil ?_
          refine thn_n ?_
          refine c_ret ?_
          refine thn_r ?_
          refine ret_end [.bool (decide (((l60.map lkT).length : Int) = n))] [5] h (by kernel_rfl) (res_t (by kernel_rfl) res_n) ?_
          exact ⟨by show Value.bool _ = _; rw [decide_eq_true (by omega)], rfl⟩
        · skip
          have hc59 := of_decide_eq_false hc59
          refine c_skip ?_
          refine thn_n ?_
          refine c_seq ?_
          refine c_reg ?_
          refine sq_p (.pointer (some ⟨k23, 0, none⟩)) rfl (fun _ => by kernel_rfl) ?_
          refine sq_q rfl h (g_ld 0 [.int .i64 1, .int .i64 0] (.agg #[.int .i64 1, .int .i64 0]) (by kernel_rfl) 1 rfl) ?_
          refine sq_p (.int .i64 (c : Int)) rfl (fun _ => by kernel_rfl) ?_
          refine sq_q rfl h (g_eq (v := .int .i64 (IntKind.i64.wrap (10 * (c : Int)))) (v' := .int .i64 (10 * (c : Int))) (g_pure fun _ => by kernel_rfl) (wr (by omega))) ?_
          refine sq_q rfl h (g_eq (v := .int .i64 (IntKind.i64.wrap ((10 * (c : Int)) + 2))) (v' := .int .i64 ((10 * (c : Int)) + 2)) (g_pure fun _ => by kernel_rfl) (wr (by omega))) ?_
          refine sq_p (.agg #[.int .i64 ((10 * (c : Int)) + 2), .int .i64 1]) rfl (fun _ => by kernel_rfl) ?_
          refine sq_call #[.pointer (some ⟨k23, 0, none⟩), .agg #[.int .i64 1, .int .i64 0], .int .i64 1, .agg #[.int .i64 ((10 * (c : Int)) + 2), .int .i64 1]] [2, 0, 1] rfl (unlock_spec ad k23 vt lt 1 0 1 ((10 * (c : Int)) + 2) 1 hT0.small) (fun _ => by kernel_rfl) h ?_; rintro v_ L_ w (⟨hq64, rfl, rfl⟩ | ⟨hq64, hq65, rfl, rfl⟩ | ⟨hq64, hq65, v66, rfl, rfl⟩) h
          · skip
            rw [(lf_e (i := 10 * (c : Int) + 2) (by omega) (by omega) (s := 1) (by omega) (by omega)).1] at hq64; cases hq64
          · skip
            obtain ⟨_, hE1, hE2⟩ := lf_e (i := 10 * (c : Int) + 2) (by omega) (by omega) (s := 1) (by omega) (by omega)
            have hCl : (cutL lt (1, 0) 1 (eF (10 * (c : Int) + 2) 1) (eT (10 * (c : Int) + 2) 1)).length = min i 60 + 1 := by rw [hE1, hE2, ho, lf_split c (min i 60), if_pos (by omega)]
            refine sq_p (errV ad 9) rfl (fun _ => by kernel_rfl) ?_
            refine lnil ?_
            refine thn_n ?_
            refine c_seq ?_
            refine c_seq ?_
            refine c_reg ?_
            refine sq_p (.int .i64 n) rfl (fun _ => by kernel_rfl) ?_
            refine sq_p (.bool (decide (n = 60))) rfl (fun _ => by kernel_rfl) ?_
            refine lnil ?_
            refine thn_n ?_
            refine c_cond (decide (n = 60)) (by kernel_rfl) (fun hc67 => ?_) (fun hc67 => ?_)
            · skip
              have hc67 := of_decide_eq_true hc67
              refine c_seq ?_
              refine c_reg ?_
              refine sq_p (errV ad 9) rfl (fun _ => by kernel_rfl) ?_
              refine sq_call #[errV ad 9, .int .i64 9] [4] rfl (coded2_spec ad 9 9 (by decide) (by decide)) (fun _ => by kernel_rfl) h ?_; rintro v_ L_ w ⟨rfl, rfl⟩ h
              refine sq_p (.bool true) rfl (fun _ => by kernel_rfl) ?_
              refine sq_p (.pointer (some ⟨k23, 0, none⟩)) (by kernel_rfl) (fun _ => by kernel_rfl) ?_
              refine sq_call #[.pointer (some ⟨k23, 0, none⟩)] [1, 1] (by kernel_rfl) (list_spec k23 vt lt hT0.1.bnd hT0.small) (fun _ => by kernel_rfl) h ?_; rintro v71 L_ w ⟨_, l68, ⟨hp69, ho70⟩, rfl, rfl⟩ h
              have hLL := hp69.length_eq
              have hRM : (l68.map lkT).length = l68.length := List.length_map ..
              refine sq_q (by kernel_rfl) h (g_len (by kernel_rfl) 0 rfl) ?_
              refine sq_p (.int .i64 n) (by kernel_rfl) (fun _ => by kernel_rfl) ?_
              obtain ⟨b72, hb72⟩ : ∃ b_ : Bool, b_ = (decide (((l68.map lkT).length : Int) = n)) := ⟨_, rfl⟩
              refine sq_q (v := .bool b72) (by kernel_rfl) h (by subst hb72; exact g_pure (v := .bool (decide (((l68.map lkT).length : Int) = n))) fun _ => by kernel_rfl) ?_
              refine sq_p (.bool b72) rfl (fun _ => by kernel_rfl) ?_
              refine sq_p (.bool b72) rfl (fun _ => by kernel_rfl) ?_
              refine lnil ?_
              refine thn_n ?_
              refine c_ret ?_
              refine thn_r ?_
              refine ret_end [.bool b72] [3] h (by kernel_rfl) (res_t (by kernel_rfl) res_n) ?_
              refine ⟨?_, rfl⟩
              show Value.bool _ = _
              subst hb72
              rw [decide_eq_true (by omega)]
            · skip
              have hc67 := of_decide_eq_false hc67
              exfalso; omega
          · skip
            obtain ⟨_, hE1, hE2⟩ := lf_e (i := 10 * (c : Int) + 2) (by omega) (by omega) (s := 1) (by omega) (by omega)
            have hCl : (cutL lt (1, 0) 1 (eF (10 * (c : Int) + 2) 1) (eT (10 * (c : Int) + 2) 1)).length = min i 60 + 1 := by rw [hE1, hE2, ho, lf_split c (min i 60), if_pos (by omega)]
            have hTn := hT0.unlock (h := (1, 0)) (o := 1) hq64 hq65
            refine sq_p (.nilIface) rfl (fun _ => by kernel_rfl) ?_
            refine lnil ?_
            refine thn_n ?_
            refine c_seq ?_
            refine c_seq ?_
            refine c_reg ?_
            refine sq_p (.int .i64 n) rfl (fun _ => by kernel_rfl) ?_
            refine sq_p (.bool (decide (n = 60))) rfl (fun _ => by kernel_rfl) ?_
            refine lnil ?_
            refine thn_n ?_
            refine c_cond (decide (n = 60)) (by kernel_rfl) (fun hc73 => ?_) (fun hc73 => ?_)
            · skip
              have hc73 := of_decide_eq_true hc73
              exfalso; omega
            · skip
              have hc73 := of_decide_eq_false hc73
              refine c_skip ?_
              refine thn_n ?_
              refine c_seq ?_
              refine c_reg ?_
              refine sq_p (.nilIface) rfl (fun _ => by kernel_rfl) ?_
              refine sq_p (.bool true) rfl (fun _ => by kernel_rfl) ?_
              refine sq_p (.bool true) rfl (fun _ => by kernel_rfl) ?_
              refine sq_p (.pointer (some ⟨k23, 0, none⟩)) (by kernel_rfl) (fun _ => by kernel_rfl) ?_
              refine sq_call #[.pointer (some ⟨k23, 0, none⟩)] [0, 0] (by kernel_rfl) (list_spec k23 v66 (cutL lt (1, 0) 1 (eF ((10 * (c : Int)) + 2) 1) (eT ((10 * (c : Int)) + 2) 1)) hTn.1.bnd hTn.small) (fun _ => by kernel_rfl) h ?_; rintro v77 L_ w ⟨_, l74, ⟨hp75, ho76⟩, rfl, rfl⟩ h
              have hLL := hp75.length_eq
              have hRM : (l74.map lkT).length = l74.length := List.length_map ..
              refine sq_q (by kernel_rfl) h (g_len (by kernel_rfl) 0 rfl) ?_
              refine sq_p (.int .i64 n) (by kernel_rfl) (fun _ => by kernel_rfl) ?_
              refine sq_q (by kernel_rfl) h (g_eq (v := .int .i64 (IntKind.i64.wrap (n + 1))) (v' := .int .i64 (n + 1)) (g_pure fun _ => by kernel_rfl) (wr (by omega))) ?_
              obtain ⟨b78, hb78⟩ : ∃ b_ : Bool, b_ = (decide (((l74.map lkT).length : Int) = n + 1)) := ⟨_, rfl⟩
              refine sq_q (v := .bool b78) (by kernel_rfl) h (by subst hb78; exact g_pure (v := .bool (decide (((l74.map lkT).length : Int) = n + 1))) fun _ => by kernel_rfl) ?_
              refine sq_p (.bool b78) rfl (fun _ => by kernel_rfl) ?_
              refine sq_p (.bool b78) rfl (fun _ => by kernel_rfl) ?_
              refine lnil ?_
              refine thn_n ?_
              refine c_ret ?_
              refine ret_end [.bool b78] [5] h (by kernel_rfl) (res_t (by kernel_rfl) res_n) ?_
              refine ⟨?_, rfl⟩
              show Value.bool _ = _
              subst hb78
              rw [decide_eq_true (by omega)]
end Go.Proofs.YtofhnglgebllbaaDoor
