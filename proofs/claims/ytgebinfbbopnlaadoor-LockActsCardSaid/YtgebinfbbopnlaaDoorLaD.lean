/- lockacts: contracts by what is owned (printed by walk.py). -/
import Derived.Test.YtgebinfbbopnlaaDoorLaC
import Derived.Test.YtgebinfbbopnlaaDoorEqL
namespace Go.Proofs.YtgebinfbbopnlaaDoor
open Go.RowKit
set_option linter.unusedVariables false
set_option linter.unusedSimpArgs false
set_option linter.unnecessarySimpa false
set_option maxRecDepth 100000

def LkN (x : Run) : Prop := 0 ≤ x.2.2.1 ∧ x.2.2.1 ≤ 2199023255552 ∧ 0 ≤ x.2.2.2.1 ∧ x.2.2.2.1 ≤ 2199023255552
theorem turn_place {l : List Paint} {h : Int × Int} {o b : Int} (hn : atP l h o (b - 1) ≠ atP l h o b) : b ∈ placesP l h o := by
  by_cases c : b ∈ placesP l h o
  · exact c
  · refine (hn (atP_between fun q hq => ?_)).elim
    have : q ≠ b := fun e => c (e ▸ hq)
    omega
theorem runsP_bnd {l : List Paint} (hl : ∀ p ∈ l, PntOk p) {h : Int × Int} {o : Int} {x : Run} (hx : x ∈ runsP l h o) : LkN x := by
  obtain ⟨_, _, hm, hE, hf⟩ := (runsP_ok hl h o).1 x hx
  obtain ⟨m1, m2, m3, m4, m5⟩ := hm
  have p1 := plc_rng hl (turn_place (l := l) (h := h) (o := o) (b := x.2.2.1) (by rw [m2 _ (Int.le_refl _) m1]; exact m4))
  refine ⟨p1.1, p1.2, ?_⟩
  by_cases hz : x.2.2.2.1 = 0
  · omega
  · have ht := hf hz
    have e : toR x = x.2.2.1 + x.2.2.2.1 := by unfold toR; rw [if_neg hz]
    have p2 := plc_rng hl (turn_place (l := l) (h := h) (o := o) (b := toR x) (by
      rw [m2 (toR x - 1) (by omega) (by omega)]
      rcases m5 with m5 | m5
      · omega
      · exact fun q => m5 q.symm))
    omega
theorem ListOk.bnd {l : List Paint} {R : List Run} (hR : ListOk l R) (hl : ∀ p ∈ l, PntOk p) : ∀ x ∈ R, LkN x := fun x hx => by
  obtain ⟨h, _, hx⟩ := List.mem_flatMap.1 (hR.perm.mem_iff.1 hx)
  exact runsP_bnd hl ((here_mem hl).1 hx).2
theorem ListOk.len {l : List Paint} {R : List Run} (hR : ListOk l R) (hl : l.length ≤ 50) : R.length ≤ 252500 := by
  rw [hR.perm.length_eq]
  have h1 := all_len l hl (handlesP l).length
  rwa [List.take_length] at h1
theorem find_none' {l : List Run} {p : Run → Bool} (hn : ∀ j y, j < l.length → l[j]? = some y → p y = false) : l.find? p = none := by
  rw [List.find?_eq_none]
  intro x hx
  obtain ⟨j, hj, rfl⟩ := List.mem_iff_getElem.1 hx
  rw [hn j _ hj (List.getElem?_eq_getElem hj)]; exact Bool.false_ne_true

set_option maxHeartbeats 1000000 in
theorem rangeOf_spec (a s : Int) : Spec Tryd.prog 39 #[.agg #[.int .i64 a, .int .i64 s]] [] (fun u L => u = .tuple #[.int .i64 (eF a s), .int .i64 (endN (eT a s)), .bool (eOk a s)] ∧ L = []) := by
  refine spec_of (#[.agg #[.int .i64 a, .int .i64 s], undef, undef, undef, undef, undef, undef, undef, undef, undef, undef, undef, undef, undef, undef, undef, undef, undef, undef, undef, undef, undef, undef, undef, undef, undef, undef, undef, undef, undef, undef, undef, undef, undef, undef]) Tryd.func39 rfl (by kernel_rfl) fun E w0 w h => ?_
  refine c_seq ?_
  refine c_reg ?_
  refine sq_new rfl (fun b => .pointer (some ⟨b, 0, none⟩)) [.int .i64 a, .int .i64 s] 63 (fun _ => by kernel_rfl) h ?_; intro k1 w h
  refine sq_p (.int .i64 0) rfl (fun _ => by kernel_rfl) ?_
  refine sq_p (.int .i64 0) rfl (fun _ => by kernel_rfl) ?_
  refine sq_p (.bool false) rfl (fun _ => by kernel_rfl) ?_
  refine lnil ?_
  refine thn_n ?_
  refine c_seq ?_
  refine c_seq ?_
  refine c_reg ?_
  refine sq_p (.pointer (some ⟨k1, 0, none⟩)) rfl (fun _ => by kernel_rfl) ?_
  refine sq_q rfl h (g_ld 0 [.int .i64 a] (.int .i64 a) (by kernel_rfl) 0 rfl) ?_
  obtain ⟨b2, hb2⟩ : ∃ b_ : Bool, b_ = (decide (a < 0)) := ⟨_, rfl⟩
  refine sq_q (v := .bool b2) rfl h (by subst hb2; exact g_pure (v := .bool (decide (a < 0))) fun _ => by kernel_rfl) ?_
  refine sq_p (.bool b2) rfl (fun _ => by kernel_rfl) ?_
  refine sq_m0 (v := .pointer (some ⟨k1, 0, none⟩)) b2 (by cases b2 <;> kernel_rfl) h (fun hB => by subst hB; exact g_pure (v := .pointer (some ⟨k1, 0, none⟩)) fun _ => by kernel_rfl) ?_
  refine sq_m0 (v := .int .i64 a) b2 (by cases b2 <;> kernel_rfl) h (fun hB => by subst hB; exact g_ld 0 [.int .i64 a] (.int .i64 a) (by kernel_rfl) 0 rfl) ?_
  obtain ⟨b3, hb3⟩ : ∃ b_ : Bool, b_ = (decide (a > 1099511627776)) := ⟨_, rfl⟩
  refine sq_m0 (v := .bool b3) b2 (by cases b2 <;> kernel_rfl) h (fun hB => by subst hB; exact by subst hb3; exact g_pure (v := .bool (decide (a > 1099511627776))) fun _ => by kernel_rfl) ?_
  obtain ⟨b4, hb4⟩ : ∃ b_ : Bool, b_ = (b2 || b3) := ⟨_, rfl⟩
  refine sq_q (v := .bool b4) rfl h (by subst hb4; exact g_pure (v := .bool (b2 || b3)) fun _ => by cases b2 <;> kernel_rfl) ?_
  refine sq_p (.bool b4) rfl (fun _ => by kernel_rfl) ?_
  refine sq_m0 (v := .pointer (some ⟨k1, 1, none⟩)) b4 (by cases b4 <;> kernel_rfl) h (fun hB => by subst hB; exact g_pure (v := .pointer (some ⟨k1, 1, none⟩)) fun _ => by kernel_rfl) ?_
  refine sq_m0 (v := .int .i64 s) b4 (by cases b4 <;> kernel_rfl) h (fun hB => by subst hB; exact g_ld 1 [.int .i64 s] (.int .i64 s) (by kernel_rfl) 0 rfl) ?_
  obtain ⟨b5, hb5⟩ : ∃ b_ : Bool, b_ = (decide (s < 0)) := ⟨_, rfl⟩
  refine sq_m0 (v := .bool b5) b4 (by cases b4 <;> kernel_rfl) h (fun hB => by subst hB; exact by subst hb5; exact g_pure (v := .bool (decide (s < 0))) fun _ => by kernel_rfl) ?_
  obtain ⟨b6, hb6⟩ : ∃ b_ : Bool, b_ = (b4 || b5) := ⟨_, rfl⟩
  refine sq_q (v := .bool b6) rfl h (by subst hb6; exact g_pure (v := .bool (b4 || b5)) fun _ => by cases b4 <;> kernel_rfl) ?_
  refine sq_p (.bool b6) rfl (fun _ => by kernel_rfl) ?_
  refine sq_m0 (v := .pointer (some ⟨k1, 1, none⟩)) b6 (by cases b6 <;> kernel_rfl) h (fun hB => by subst hB; exact g_pure (v := .pointer (some ⟨k1, 1, none⟩)) fun _ => by kernel_rfl) ?_
  refine sq_m0 (v := .int .i64 s) b6 (by cases b6 <;> kernel_rfl) h (fun hB => by subst hB; exact g_ld 1 [.int .i64 s] (.int .i64 s) (by kernel_rfl) 0 rfl) ?_
  obtain ⟨b7, hb7⟩ : ∃ b_ : Bool, b_ = (decide (s > 1099511627776)) := ⟨_, rfl⟩
  refine sq_m0 (v := .bool b7) b6 (by cases b6 <;> kernel_rfl) h (fun hB => by subst hB; exact by subst hb7; exact g_pure (v := .bool (decide (s > 1099511627776))) fun _ => by kernel_rfl) ?_
  obtain ⟨b8, hb8⟩ : ∃ b_ : Bool, b_ = (b6 || b7) := ⟨_, rfl⟩
  refine sq_q (v := .bool b8) rfl h (by subst hb8; exact g_pure (v := .bool (b6 || b7)) fun _ => by cases b6 <;> kernel_rfl) ?_
  refine lnil ?_
  refine thn_n ?_
  refine c_cond (b8) (by kernel_rfl) (fun hc9 => ?_) (fun hc9 => ?_)
  · skip
    have q10 : (b6 || b7) = true := by rw [← hb8]; exact hc9
    have q11 : ((((a < 0) ∨ (a > 1099511627776)) ∨ (s < 0)) ∨ (s > 1099511627776)) := by subst hb7; subst hb6; subst hb5; subst hb4; subst hb3; subst hb2; revert q10; first | (simp; done) | (simp; omega)
    refine c_seq ?_
    refine c_reg ?_
    refine sq_p (.int .i64 0) rfl (fun _ => by kernel_rfl) ?_
    refine sq_p (.int .i64 0) rfl (fun _ => by kernel_rfl) ?_
    refine sq_p (.bool false) rfl (fun _ => by kernel_rfl) ?_
    refine lnil ?_
    refine thn_n ?_
    refine c_ret ?_
    refine thn_r ?_
    refine ret_end [.int .i64 0, .int .i64 0, .bool false] [] h (by kernel_rfl) (res_t (by kernel_rfl) (res_t (by kernel_rfl) (res_t (by kernel_rfl) res_n))) ?_
    have he : endsP a s = none := e_none (by subst hb8 hb7 hb6 hb5 hb4 hb3 hb2; revert hc9; simp; omega)
    exact ⟨by simp [retV, eF, eT, eOk, he, endN, ENDL], rfl⟩
  · skip
    have q12 : (b6 || b7) = false := by rw [← hb8]; exact hc9
    have q13 : b6 = false := by revert q12; cases b6 <;> simp
    have q14 : b7 = false := by revert q12; cases b6 <;> cases b7 <;> simp
    have q15 : (b4 || b5) = false := by rw [← hb6]; exact q13
    have q16 : b4 = false := by revert q15; cases b4 <;> simp
    have q17 : b5 = false := by revert q15; cases b4 <;> cases b5 <;> simp
    have q18 : (b2 || b3) = false := by rw [← hb4]; exact q16
    have q19 : b2 = false := by revert q18; cases b2 <;> simp
    have q20 : b3 = false := by revert q18; cases b2 <;> cases b3 <;> simp
    have q21 : (decide (a < 0)) = false := by rw [← hb2]; exact q19
    have q21 := of_decide_eq_false q21
    have q22 : (decide (a > 1099511627776)) = false := by rw [← hb3]; exact q20
    have q22 := of_decide_eq_false q22
    have q23 : (decide (s < 0)) = false := by rw [← hb5]; exact q17
    have q23 := of_decide_eq_false q23
    have q24 : (decide (s > 1099511627776)) = false := by rw [← hb7]; exact q14
    have q24 := of_decide_eq_false q24
    refine c_skip ?_
    refine thn_n ?_
    refine c_seq ?_
    refine c_seq ?_
    refine c_reg ?_
    refine sq_p (.pointer (some ⟨k1, 1, none⟩)) rfl (fun _ => by kernel_rfl) ?_
    refine sq_q rfl h (g_ld 1 [.int .i64 s] (.int .i64 s) (by kernel_rfl) 0 rfl) ?_
    refine sq_p (.bool (decide (s = 0))) rfl (fun _ => by kernel_rfl) ?_
    refine lnil ?_
    refine thn_n ?_
    refine c_cond (decide (s = 0)) (by kernel_rfl) (fun hc25 => ?_) (fun hc25 => ?_)
    · skip
      have hc25 := of_decide_eq_true hc25
      refine c_seq ?_
      refine c_reg ?_
      refine sq_p (.pointer (some ⟨k1, 0, none⟩)) rfl (fun _ => by kernel_rfl) ?_
      refine sq_q rfl h (g_ld 0 [.int .i64 a] (.int .i64 a) (by kernel_rfl) 0 rfl) ?_
      refine sq_p (.int .i64 a) rfl (fun _ => by kernel_rfl) ?_
      refine sq_p (.int .i64 (-1)) rfl (fun _ => by kernel_rfl) ?_
      refine sq_p (.bool true) rfl (fun _ => by kernel_rfl) ?_
      refine lnil ?_
      refine thn_n ?_
      refine c_ret ?_
      refine thn_r ?_
      refine ret_end [.int .i64 a, .int .i64 (-1), .bool true] [] h (by kernel_rfl) (res_t (by kernel_rfl) (res_t (by kernel_rfl) (res_t (by kernel_rfl) res_n))) ?_
      have he := e_end (a := a) (s := s) (by omega) hc25
      exact ⟨by simp [retV, eF, eT, eOk, he, endN, ENDL], rfl⟩
    · skip
      have hc25 := of_decide_eq_false hc25
      refine c_skip ?_
      refine thn_n ?_
      refine c_seq ?_
      refine d_start 10 [0] (by kernel_rfl) h fun w h => ?_
      refine d_take 0 124 [0] rfl (v := .pointer (some ⟨k1, 0, none⟩)) (by kernel_rfl) (qp_thn qp_body) (yq (by kernel_rfl) (g_pure (v := .pointer (some ⟨k1, 0, none⟩)) fun _ => by kernel_rfl)) h (by kernel_rfl) ?_
      refine d_take 1 125 [0] rfl (v := .int .i64 a) (by kernel_rfl) (qp_thn qp_body) (yq (by kernel_rfl) (g_ld 0 [.int .i64 a] (.int .i64 a) (by kernel_rfl) 0 rfl)) h (by kernel_rfl) ?_
      refine d_take 2 179 [0] rfl (v := .pointer (some ⟨k1, 0, none⟩)) (by kernel_rfl) (qp_thn qp_body) (yq (by kernel_rfl) (g_pure (v := .pointer (some ⟨k1, 0, none⟩)) fun _ => by kernel_rfl)) h (by kernel_rfl) ?_
      refine d_take 3 183 [0] rfl (v := .int .i64 a) (by kernel_rfl) (qp_thn qp_body) (yq (by kernel_rfl) (g_ld 0 [.int .i64 a] (.int .i64 a) (by kernel_rfl) 0 rfl)) h (by kernel_rfl) ?_
      refine d_take 4 143 [0] rfl (v := .pointer (some ⟨k1, 1, none⟩)) (by kernel_rfl) (qp_thn qp_body) (yq (by kernel_rfl) (g_pure (v := .pointer (some ⟨k1, 1, none⟩)) fun _ => by kernel_rfl)) h (by kernel_rfl) ?_
      refine d_take 5 159 [0] rfl (v := .int .i64 s) (by kernel_rfl) (qp_thn qp_body) (yq (by kernel_rfl) (g_ld 1 [.int .i64 s] (.int .i64 s) (by kernel_rfl) 0 rfl)) h (by kernel_rfl) ?_
      refine d_take 6 191 [0] rfl (v := .int .i64 (a + s)) (by kernel_rfl) (qp_thn qp_body) (yq (by kernel_rfl) (g_eq (v := .int .i64 (IntKind.i64.wrap (a + s))) (v' := .int .i64 (a + s)) (g_pure fun _ => by kernel_rfl) (wr (by omega)))) h (by kernel_rfl) ?_
      refine d_take 7 127 [0] rfl (v := .int .i64 a) (by kernel_rfl) (qp_thn qp_body) (yq (by kernel_rfl) (g_pure (v := .int .i64 a) fun _ => by kernel_rfl)) h (by kernel_rfl) ?_
      refine d_take 8 255 [0] rfl (v := .int .i64 (a + s)) (by kernel_rfl) (qp_thn qp_body) (yq (by kernel_rfl) (g_pure (v := .int .i64 (a + s)) fun _ => by kernel_rfl)) h (by kernel_rfl) ?_
      refine d_take 9 511 [0] rfl (v := .bool true) (by kernel_rfl) (qp_thn qp_body) (yq (by kernel_rfl) (g_pure (v := .bool true) fun _ => by kernel_rfl)) h (by kernel_rfl) ?_
      refine d_done (by kernel_rfl) ?_
      refine thn_n ?_
      refine c_ret ?_
      refine ret_end [.int .i64 a, .int .i64 (a + s), .bool true] [] h (by kernel_rfl) (res_t (by kernel_rfl) (res_t (by kernel_rfl) (res_t (by kernel_rfl) res_n))) ?_
      have he := e_some (a := a) (s := s) (by omega) hc25
      exact ⟨by simp [retV, eF, eT, eOk, he, endN, ENDL]; omega, rfl⟩
set_option maxHeartbeats 1000000 in
theorem overlap_spec (x : Run) (f t : Int) (hx : LkN x) : Spec Tryd.prog 43 #[.agg #[.int .i64 x.1.1, .int .i64 x.1.2, .int .i64 x.2.1, .int .i64 x.2.2.1, .int .i64 x.2.2.2.1, .bool x.2.2.2.2], .int .i64 f, .int .i64 t] [] (fun u L => u = .bool (ovR f t x) ∧ L = []) := by
  obtain ⟨hx1, hx2, hx3, hx4⟩ := hx
  refine spec_of (#[.agg #[.int .i64 x.1.1, .int .i64 x.1.2, .int .i64 x.2.1, .int .i64 x.2.2.1, .int .i64 x.2.2.2.1, .bool x.2.2.2.2], .int .i64 f, .int .i64 t, undef, undef, undef, undef, undef, undef, undef, undef, undef, undef, undef, undef, undef, undef, undef, undef, undef, undef, undef, undef, undef, undef, undef, undef, undef, undef, undef, undef, undef, undef, undef, undef, undef, undef, undef, undef]) Tryd.func43 rfl (by kernel_rfl) fun E w0 w h => ?_
  refine c_seq ?_
  refine c_reg ?_
  refine sq_new rfl (fun b => .pointer (some ⟨b, 0, none⟩)) [.int .i64 x.1.1, .int .i64 x.1.2, .int .i64 x.2.1, .int .i64 x.2.2.1, .int .i64 x.2.2.2.1, .bool x.2.2.2.2] 70 (fun _ => by kernel_rfl) h ?_; intro k1 w h
  refine sq_p (.bool false) rfl (fun _ => by kernel_rfl) ?_
  refine lnil ?_
  refine thn_n ?_
  refine c_seq ?_
  refine c_reg ?_
  refine sq_p (.pointer (some ⟨k1, 3, none⟩)) rfl (fun _ => by kernel_rfl) ?_
  refine sq_p (.pointer (some ⟨k1, 4, none⟩)) rfl (fun _ => by kernel_rfl) ?_
  refine sq_q rfl h (g_ld 4 [.int .i64 x.2.2.2.1] (.int .i64 x.2.2.2.1) (by kernel_rfl) 0 rfl) ?_
  obtain ⟨b2, hb2⟩ : ∃ b_ : Bool, b_ = (decide (x.2.2.2.1 > 0)) := ⟨_, rfl⟩
  refine sq_q (v := .bool b2) rfl h (by subst hb2; exact g_pure (v := .bool (decide (x.2.2.2.1 > 0))) fun _ => by kernel_rfl) ?_
  refine sq_p (.bool b2) rfl (fun _ => by kernel_rfl) ?_
  refine sq_m1 (v := .pointer (some ⟨k1, 3, none⟩)) b2 (by cases b2 <;> kernel_rfl) h (fun hB => by subst hB; exact g_pure (v := .pointer (some ⟨k1, 3, none⟩)) fun _ => by kernel_rfl) ?_
  refine sq_m1 (v := .pointer (some ⟨k1, 3, none⟩)) b2 (by cases b2 <;> kernel_rfl) h (fun hB => by subst hB; exact g_pure (v := .pointer (some ⟨k1, 3, none⟩)) fun _ => by kernel_rfl) ?_
  refine sq_m1 (v := .int .i64 x.2.2.1) b2 (by cases b2 <;> kernel_rfl) h (fun hB => by subst hB; exact g_ld 3 [.int .i64 x.2.2.1] (.int .i64 x.2.2.1) (by kernel_rfl) 0 rfl) ?_
  refine sq_m1 (v := .pointer (some ⟨k1, 3, none⟩)) b2 (by cases b2 <;> kernel_rfl) h (fun hB => by subst hB; exact g_pure (v := .pointer (some ⟨k1, 3, none⟩)) fun _ => by kernel_rfl) ?_
  refine sq_m1 (v := .pointer (some ⟨k1, 4, none⟩)) b2 (by cases b2 <;> kernel_rfl) h (fun hB => by subst hB; exact g_pure (v := .pointer (some ⟨k1, 4, none⟩)) fun _ => by kernel_rfl) ?_
  refine sq_m1 (v := .int .i64 x.2.2.2.1) b2 (by cases b2 <;> kernel_rfl) h (fun hB => by subst hB; exact g_ld 4 [.int .i64 x.2.2.2.1] (.int .i64 x.2.2.2.1) (by kernel_rfl) 0 rfl) ?_
  refine sq_m1 (v := .int .i64 (x.2.2.1 + x.2.2.2.1)) b2 (by cases b2 <;> kernel_rfl) h (fun hB => by subst hB; exact g_eq (v := .int .i64 (IntKind.i64.wrap (x.2.2.1 + x.2.2.2.1))) (v' := .int .i64 (x.2.2.1 + x.2.2.2.1)) (g_pure fun _ => by kernel_rfl) (wr (by omega))) ?_
  refine sq_m1 (v := .int .i64 f) b2 (by cases b2 <;> kernel_rfl) h (fun hB => by subst hB; exact g_pure (v := .int .i64 f) fun _ => by kernel_rfl) ?_
  obtain ⟨b3, hb3⟩ : ∃ b_ : Bool, b_ = (decide (x.2.2.1 + x.2.2.2.1 ≤ f)) := ⟨_, rfl⟩
  refine sq_m1 (v := .bool b3) b2 (by cases b2 <;> kernel_rfl) h (fun hB => by subst hB; exact by subst hb3; exact g_pure (v := .bool (decide (x.2.2.1 + x.2.2.2.1 ≤ f))) fun _ => by kernel_rfl) ?_
  obtain ⟨b4, hb4⟩ : ∃ b_ : Bool, b_ = (b2 && b3) := ⟨_, rfl⟩
  refine sq_q (v := .bool b4) rfl h (by subst hb4; exact g_pure (v := .bool (b2 && b3)) fun _ => by cases b2 <;> kernel_rfl) ?_
  refine sq_p (.bool b4) rfl (fun _ => by kernel_rfl) ?_
  refine lnil ?_
  refine thn_n ?_
  refine c_seq ?_
  refine c_reg ?_
  refine sq_p (.int .i64 t) rfl (fun _ => by kernel_rfl) ?_
  obtain ⟨b5, hb5⟩ : ∃ b_ : Bool, b_ = (decide (t ≥ 0)) := ⟨_, rfl⟩
  refine sq_q (v := .bool b5) rfl h (by subst hb5; exact g_pure (v := .bool (decide (t ≥ 0))) fun _ => by kernel_rfl) ?_
  refine sq_p (.bool b5) rfl (fun _ => by kernel_rfl) ?_
  refine sq_m1 (v := .int .i64 t) b5 (by cases b5 <;> kernel_rfl) h (fun hB => by subst hB; exact g_pure (v := .int .i64 t) fun _ => by kernel_rfl) ?_
  refine sq_m1 (v := .pointer (some ⟨k1, 3, none⟩)) b5 (by cases b5 <;> kernel_rfl) h (fun hB => by subst hB; exact g_pure (v := .pointer (some ⟨k1, 3, none⟩)) fun _ => by kernel_rfl) ?_
  refine sq_m1 (v := .pointer (some ⟨k1, 3, none⟩)) b5 (by cases b5 <;> kernel_rfl) h (fun hB => by subst hB; exact g_pure (v := .pointer (some ⟨k1, 3, none⟩)) fun _ => by kernel_rfl) ?_
  refine sq_m1 (v := .int .i64 x.2.2.1) b5 (by cases b5 <;> kernel_rfl) h (fun hB => by subst hB; exact g_ld 3 [.int .i64 x.2.2.1] (.int .i64 x.2.2.1) (by kernel_rfl) 0 rfl) ?_
  obtain ⟨b6, hb6⟩ : ∃ b_ : Bool, b_ = (decide (t ≤ x.2.2.1)) := ⟨_, rfl⟩
  refine sq_m1 (v := .bool b6) b5 (by cases b5 <;> kernel_rfl) h (fun hB => by subst hB; exact by subst hb6; exact g_pure (v := .bool (decide (t ≤ x.2.2.1))) fun _ => by kernel_rfl) ?_
  obtain ⟨b7, hb7⟩ : ∃ b_ : Bool, b_ = (b5 && b6) := ⟨_, rfl⟩
  refine sq_q (v := .bool b7) rfl h (by subst hb7; exact g_pure (v := .bool (b5 && b6)) fun _ => by cases b5 <;> kernel_rfl) ?_
  refine sq_p (.bool b7) rfl (fun _ => by kernel_rfl) ?_
  refine lnil ?_
  refine thn_n ?_
  refine c_seq ?_
  refine c_reg ?_
  refine sq_p (.bool b4) rfl (fun _ => by kernel_rfl) ?_
  obtain ⟨b8, hb8⟩ : ∃ b_ : Bool, b_ = (!b4) := ⟨_, rfl⟩
  refine sq_q (v := .bool b8) rfl h (by subst hb8; exact g_pure (v := .bool (!b4)) fun _ => by kernel_rfl) ?_
  refine sq_p (.bool b8) rfl (fun _ => by kernel_rfl) ?_
  refine sq_m1 (v := .bool b7) b8 (by cases b8 <;> kernel_rfl) h (fun hB => by subst hB; exact g_pure (v := .bool b7) fun _ => by kernel_rfl) ?_
  obtain ⟨b9, hb9⟩ : ∃ b_ : Bool, b_ = (!b7) := ⟨_, rfl⟩
  refine sq_m1 (v := .bool b9) b8 (by cases b8 <;> kernel_rfl) h (fun hB => by subst hB; exact by subst hb9; exact g_pure (v := .bool (!b7)) fun _ => by kernel_rfl) ?_
  obtain ⟨b10, hb10⟩ : ∃ b_ : Bool, b_ = (b8 && b9) := ⟨_, rfl⟩
  refine sq_q (v := .bool b10) rfl h (by subst hb10; exact g_pure (v := .bool (b8 && b9)) fun _ => by cases b8 <;> kernel_rfl) ?_
  refine sq_p (.bool b10) rfl (fun _ => by kernel_rfl) ?_
  refine lnil ?_
  refine thn_n ?_
  refine c_ret ?_
  refine ret_end [.bool b10] [] h (by kernel_rfl) (res_t (by kernel_rfl) res_n) ?_
  refine ⟨?_, rfl⟩
  show Value.bool _ = _
  subst hb10 hb9 hb8 hb7 hb6 hb5 hb4 hb3 hb2
  unfold ovR
  rfl
set_option maxHeartbeats 1000000 in
theorem rlist_spec (b : Nat) (v : Value) (l : List Paint) (hlen : l.length ≤ 45) (hok : ∀ p ∈ l, PntOk p)  : Spec Tryd.prog 30 #[.pointer (some ⟨b, 0, none⟩)] [rCell true b [v] 61, rRows true v 107 6 pntC l] (fun u L => ∃ v' R, ListOk l R ∧ u = v' ∧ L = [rRows true v' 70 6 runC R, rCell true b [v] 61, rRows true v 107 6 pntC l]) := by
  refine spec_of (#[.pointer (some ⟨b, 0, none⟩), undef, undef, undef, undef, undef, undef, undef]) Tryd.func30 rfl (by kernel_rfl) fun E w0 w h => ?_
  refine c_seq ?_
  refine c_reg ?_
  refine sq_p (.slice none 0 0) rfl (fun _ => by kernel_rfl) ?_
  refine lnil ?_
  refine thn_n ?_
  refine c_seq ?_
  refine c_reg ?_
  refine sq_p (.pointer (some ⟨b, 0, none⟩)) rfl (fun _ => by kernel_rfl) ?_
  refine sq_p (.pointer (some ⟨b, 0, none⟩)) rfl (fun _ => by kernel_rfl) ?_
  refine sq_p (.pointer (some ⟨b, 0, none⟩)) rfl (fun _ => by kernel_rfl) ?_
  refine sq_q rfl h (g_ld 0 [v] (v) (by kernel_rfl) 0 rfl) ?_
  refine sq_call #[v] [1] rfl (listOf_spec true v l (by first | omega | (simp; omega)) hok) (fun _ => by kernel_rfl) h ?_; rintro v1 L_ w ⟨_, R2, hR3, rfl, rfl⟩ h
  have hRn := hR3.len (by first | omega | (simp; omega))
  refine sq_p (v1) rfl (fun _ => by kernel_rfl) ?_
  refine lnil ?_
  refine thn_n ?_
  refine c_ret ?_
  refine ret_end [v1] [0, 1, 0] h (by kernel_rfl) (res_t (by kernel_rfl) res_n) ?_
  exact ⟨_, _, hR3, rfl, rfl⟩
set_option maxHeartbeats 1000000 in
theorem rtest_spec (b : Nat) (v : Value) (l : List Paint) (hlen : l.length ≤ 45) (hok : ∀ p ∈ l, PntOk p) (n g o a s : Int) (wb : Bool)  : Spec Tryd.prog 23 #[.pointer (some ⟨b, 0, none⟩), .agg #[.int .i64 n, .int .i64 g], .int .i64 o, .agg #[.int .i64 a, .int .i64 s], .bool wb] [rCell true b [v] 61, rRows true v 107 6 pntC l] (fun u L => (eOk a s = false ∧ u = .tuple #[.agg #[.int .i64 0, .int .i64 0, .int .i64 0, .int .i64 0, .int .i64 0, .bool false], .int .i64 2] ∧ L = [rCell true b [v] 61, rRows true v 107 6 pntC l]) ∨ (∃ R x, eOk a s = true ∧ ListOk l R ∧ R.find? (heldR (n, g) o (eF a s) (endN (eT a s)) wb) = some x ∧ u = .tuple #[.agg #[.int .i64 x.1.1, .int .i64 x.1.2, .int .i64 x.2.1, .int .i64 x.2.2.1, .int .i64 x.2.2.2.1, .bool x.2.2.2.2], .int .i64 11] ∧ L = [rCell true b [v] 61, rRows true v 107 6 pntC l]) ∨ (∃ R, eOk a s = true ∧ ListOk l R ∧ R.find? (heldR (n, g) o (eF a s) (endN (eT a s)) wb) = none ∧ u = .tuple #[.agg #[.int .i64 0, .int .i64 0, .int .i64 0, .int .i64 0, .int .i64 0, .bool false], .int .i64 0] ∧ L = [rCell true b [v] 61, rRows true v 107 6 pntC l])) := by
  refine spec_of (#[.pointer (some ⟨b, 0, none⟩), .agg #[.int .i64 n, .int .i64 g], .int .i64 o, .agg #[.int .i64 a, .int .i64 s], .bool wb, undef, undef, undef, undef, undef, undef, undef, undef, undef, undef, undef, undef, undef, undef, undef, undef, undef, undef, undef, undef, undef, undef, undef, undef, undef, undef, undef, undef, undef, undef, undef, undef, undef, undef, undef, undef, undef, undef, undef, undef, undef, undef, undef, undef, undef, undef, undef, undef, undef, undef, undef, undef, undef, undef, undef, undef, undef, undef, undef, undef, undef, undef, undef, undef, undef, undef, undef, undef, undef, undef, undef]) Tryd.func23 rfl (by kernel_rfl) fun E w0 w h => ?_
  refine c_seq ?_
  refine c_reg ?_
  refine sq_new rfl (fun b => .pointer (some ⟨b, 0, none⟩)) [.int .i64 n, .int .i64 g] 33 (fun _ => by kernel_rfl) h ?_; intro k1 w h
  refine sq_new rfl (fun b => .pointer (some ⟨b, 0, none⟩)) [.int .i64 a, .int .i64 s] 63 (fun _ => by kernel_rfl) h ?_; intro k2 w h
  refine sq_new rfl (fun b => .pointer (some ⟨b, 0, none⟩)) [.int .i64 0, .int .i64 0, .int .i64 0, .int .i64 0, .int .i64 0, .bool false] 70 (fun _ => by kernel_rfl) h ?_; intro k3 w h
  refine sq_p (.int .i64 0) rfl (fun _ => by kernel_rfl) ?_
  refine lnil ?_
  refine thn_n ?_
  refine c_seq ?_
  refine c_reg ?_
  refine sq_q rfl h (g_ld 0 [.int .i64 a, .int .i64 s] (.agg #[.int .i64 a, .int .i64 s]) (by kernel_rfl) 1 rfl) ?_
  refine sq_call #[.agg #[.int .i64 a, .int .i64 s]] [] rfl (rangeOf_spec a s) (fun _ => by kernel_rfl) h ?_; rintro v_ L_ w ⟨rfl, rfl⟩ h
  refine sq_p (.tuple #[.int .i64 (eF a s), .int .i64 (endN (eT a s)), .bool (eOk a s)]) rfl (fun _ => by kernel_rfl) ?_
  refine sq_p (.int .i64 (eF a s)) rfl (fun _ => by kernel_rfl) ?_
  refine sq_p (.int .i64 (endN (eT a s))) rfl (fun _ => by kernel_rfl) ?_
  refine sq_p (.bool (eOk a s)) rfl (fun _ => by kernel_rfl) ?_
  refine sq_p (.int .i64 (eF a s)) rfl (fun _ => by kernel_rfl) ?_
  refine sq_p (.int .i64 (endN (eT a s))) rfl (fun _ => by kernel_rfl) ?_
  refine sq_p (.bool (eOk a s)) rfl (fun _ => by kernel_rfl) ?_
  refine lnil ?_
  refine thn_n ?_
  refine c_seq ?_
  refine c_seq ?_
  refine c_reg ?_
  refine sq_p (.bool (eOk a s)) rfl (fun _ => by kernel_rfl) ?_
  refine sq_p (.bool (!(eOk a s))) rfl (fun _ => by kernel_rfl) ?_
  refine lnil ?_
  refine thn_n ?_
  refine c_cond (!(eOk a s)) (by kernel_rfl) (fun hc4 => ?_) (fun hc4 => ?_)
  · skip
    have q5 : (eOk a s) = false := by simpa using hc4
    have hE : eOk a s = false := by simpa using hc4
    refine c_seq ?_
    refine c_reg ?_
    refine sq_p (.agg #[.int .i64 0, .int .i64 0, .int .i64 0, .int .i64 0, .int .i64 0, .bool false]) rfl (fun _ => by kernel_rfl) ?_
    refine sq_st rfl 0 [.int .i64 0, .int .i64 0, .int .i64 0, .int .i64 0, .int .i64 0, .bool false] [.int .i64 0, .int .i64 0, .int .i64 0, .int .i64 0, .int .i64 0, .bool false] h 0 rfl (by kernel_rfl) ?_; intro w h
    refine sq_p (.int .i64 2) rfl (fun _ => by kernel_rfl) ?_
    refine lnil ?_
    refine thn_n ?_
    refine c_ret ?_
    refine thn_r ?_
    refine ret_end [.agg #[.int .i64 0, .int .i64 0, .int .i64 0, .int .i64 0, .int .i64 0, .bool false], .int .i64 2] [3, 3] h (by kernel_rfl) (res_c 0 [.int .i64 0, .int .i64 0, .int .i64 0, .int .i64 0, .int .i64 0, .bool false] (.agg #[.int .i64 0, .int .i64 0, .int .i64 0, .int .i64 0, .int .i64 0, .bool false]) 0 rfl (by kernel_rfl) (res_t (by kernel_rfl) res_n)) ?_
    exact .inl ⟨hE, rfl, rfl⟩
  · skip
    have q6 : (eOk a s) = true := by simpa using hc4
    have hE : eOk a s = true := by simpa using hc4
    refine c_skip ?_
    refine thn_n ?_
    refine c_seq ?_
    refine c_reg ?_
    refine sq_p (.pointer (some ⟨b, 0, none⟩)) rfl (fun _ => by kernel_rfl) ?_
    refine sq_call #[.pointer (some ⟨b, 0, none⟩)] [3, 3] rfl (rlist_spec b v l (by omega) hok) (fun _ => by kernel_rfl) h ?_; rintro v7 L_ w ⟨_, R8, hR9, rfl, rfl⟩ h
    have hRn := hR9.len (by omega)
    have hbd := hR9.bnd hok
    refine sq_p (v7) rfl (fun _ => by kernel_rfl) ?_
    refine lnil ?_
    refine thn_n ?_
    refine c_seq ?_
    refine c_seq ?_
    refine c_reg ?_
    refine sq_p (.int .i64 0) rfl (fun _ => by kernel_rfl) ?_
    refine lnil ?_
    refine thn_n ?_
    refine c_block ?_
    refine c_loop (X := Nat × (Nat → Value)) (fun ⟨i, J0⟩ => ⟨#[.pointer (some ⟨b, 0, none⟩), .agg #[.int .i64 n, .int .i64 g], .int .i64 o, .agg #[.int .i64 a, .int .i64 s], .bool wb, undef, .pointer (some ⟨k1, 0, none⟩), undef, .pointer (some ⟨k2, 0, none⟩), undef, .pointer (some ⟨k3, 0, none⟩), J0 11, .int .i64 (eF a s), .int .i64 (endN (eT a s)), .bool (eOk a s), v7, .int .i64 (i : Int), J0 17, .tuple #[.int .i64 (eF a s), .int .i64 (endN (eT a s)), .bool (eOk a s)], .agg #[.int .i64 a, .int .i64 s], .tuple #[.int .i64 (eF a s), .int .i64 (endN (eT a s)), .bool (eOk a s)], .int .i64 (eF a s), .int .i64 (endN (eT a s)), .bool (eOk a s), .bool (eOk a s), .bool (!(eOk a s)), undef, .pointer (some ⟨b, 0, none⟩), v7, J0 29, J0 30, J0 31, J0 32, J0 33, J0 34, J0 35, J0 36, J0 37, J0 38, J0 39, J0 40, J0 41, J0 42, J0 43, J0 44, J0 45, J0 46, J0 47, J0 48, J0 49, J0 50, J0 51, J0 52, J0 53, J0 54, J0 55, J0 56, J0 57, J0 58, J0 59, J0 60, J0 61, J0 62, J0 63, J0 64, J0 65, J0 66, J0 67, J0 68, J0 69, J0 70, J0 71, J0 72, J0 73, J0 74, undef], []⟩)
      (fun ⟨i, J0⟩ => [rRows true v7 70 6 runC R8, rCell true b [v] 61, rRows true v 107 6 pntC l, rCell true k3 [.int .i64 0, .int .i64 0, .int .i64 0, .int .i64 0, .int .i64 0, .bool false] 70, rCell true k2 [.int .i64 a, .int .i64 s] 63, rCell true k1 [.int .i64 n, .int .i64 g] 33]) (fun ⟨i, J0⟩ => i ≤ R8.length ∧ ∀ j y, j < i → R8[j]? = some y → heldR (n, g) o (eF a s) (endN (eT a s)) wb y = false) (fun ⟨i, J0⟩ => R8.length - i)
      ⟨0, (fun n => (#[.pointer (some ⟨b, 0, none⟩), .agg #[.int .i64 n, .int .i64 g], .int .i64 o, .agg #[.int .i64 a, .int .i64 s], .bool wb, undef, .pointer (some ⟨k1, 0, none⟩), undef, .pointer (some ⟨k2, 0, none⟩), undef, .pointer (some ⟨k3, 0, none⟩), .int .i64 0, .int .i64 (eF a s), .int .i64 (endN (eT a s)), .bool (eOk a s), v7, .int .i64 0, undef, .tuple #[.int .i64 (eF a s), .int .i64 (endN (eT a s)), .bool (eOk a s)], .agg #[.int .i64 a, .int .i64 s], .tuple #[.int .i64 (eF a s), .int .i64 (endN (eT a s)), .bool (eOk a s)], .int .i64 (eF a s), .int .i64 (endN (eT a s)), .bool (eOk a s), .bool (eOk a s), .bool (!(eOk a s)), undef, .pointer (some ⟨b, 0, none⟩), v7, undef, undef, undef, undef, undef, undef, undef, undef, undef, undef, undef, undef, undef, undef, undef, undef, undef, undef, undef, undef, undef, undef, undef, undef, undef, undef, undef, undef, undef, undef, undef, undef, undef, undef, undef, undef, undef, undef, undef, undef, undef, undef, undef, undef, undef, undef, undef] : Array Value).getD n undef)⟩ ⟨by omega, fun j y hj => by omega⟩ (by kernel_rfl) [0, 0, 0, 0, 0, 0] (by kernel_rfl) h ?_
    rintro ⟨i, J0⟩ w hG h
    obtain ⟨hi0, hno⟩ : i ≤ R8.length ∧ ∀ j y, j < i → R8[j]? = some y → heldR (n, g) o (eF a s) (endN (eT a s)) wb y = false := hG
    refine c_seq ?_
    refine c_seq ?_
    refine c_reg ?_
    refine sq_p (.int .i64 (i : Int)) rfl (fun _ => by kernel_rfl) ?_
    refine sq_p (v7) rfl (fun _ => by kernel_rfl) ?_
    refine sq_q rfl h (g_len (by kernel_rfl) 0 rfl) ?_
    refine sq_p (.bool (decide ((i : Int) < (R8.length : Int)))) rfl (fun _ => by kernel_rfl) ?_
    refine lnil ?_
    refine thn_n ?_
    refine c_cond (decide ((i : Int) < (R8.length : Int))) (by kernel_rfl) (fun hc10 => ?_) (fun hc10 => ?_)
    · skip
      have hc10 := of_decide_eq_true hc10
      refine c_skip ?_
      refine thn_n ?_
      refine c_seq ?_
      refine c_block ?_
      refine c_seq ?_
      refine c_reg ?_
      refine sq_p (v7) rfl (fun _ => by kernel_rfl) ?_
      refine sq_p (.int .i64 (i : Int)) rfl (fun _ => by kernel_rfl) ?_
      have hi11 : i < R8.length := by omega
      obtain ⟨x12, hx13⟩ : ∃ x, R8[i]? = some x := ⟨_, List.getElem?_eq_getElem hi11⟩
      refine sq_q rfl h (g_idx i (by kernel_rfl) hi11 0 rfl) ?_
      refine sq_q rfl h (g_ldr (b := blkN v7) (offN v7 + i * 6) [.int .i64 x12.1.1, .int .i64 x12.1.2, .int .i64 x12.2.1, .int .i64 x12.2.2.1, .int .i64 x12.2.2.2.1, .bool x12.2.2.2.2] (.agg #[.int .i64 x12.1.1, .int .i64 x12.1.2, .int .i64 x12.2.1, .int .i64 x12.2.2.1, .int .i64 x12.2.2.2.1, .bool x12.2.2.2.2]) (by kernel_rfl) 0 rfl (rdRow0 runC_len hx13 (by kernel_rfl))) ?_
      refine sq_p (.int .i64 (eF a s)) rfl (fun _ => by kernel_rfl) ?_
      refine sq_p (.int .i64 (endN (eT a s))) rfl (fun _ => by kernel_rfl) ?_
      refine sq_call #[.agg #[.int .i64 x12.1.1, .int .i64 x12.1.2, .int .i64 x12.2.1, .int .i64 x12.2.2.1, .int .i64 x12.2.2.2.1, .bool x12.2.2.2.2], .int .i64 (eF a s), .int .i64 (endN (eT a s))] [] rfl (overlap_spec x12 (eF a s) (endN (eT a s)) (hbd x12 (List.mem_of_getElem? hx13))) (fun _ => by kernel_rfl) h ?_; rintro v_ L_ w ⟨rfl, rfl⟩ h
      refine sq_p (.bool (ovR (eF a s) (endN (eT a s)) x12)) rfl (fun _ => by kernel_rfl) ?_
      refine lnil ?_
      refine thn_n ?_
      refine c_seq ?_
      refine d_start 29 [0, 4] (by kernel_rfl) h fun w h => ?_
      refine d_take 0 34 [0, 4] rfl (v := v7) (by kernel_rfl) (qp_thn (qp_blk (qp_thn (qp_rnd (qp_blk (qp_thn qp_body)))))) (yq (by kernel_rfl) (g_pure (v := v7) fun _ => by kernel_rfl)) h (by kernel_rfl) ?_
      refine d_take 1 33 [0, 4] rfl (v := .int .i64 (i : Int)) (by kernel_rfl) (qp_thn (qp_blk (qp_thn (qp_rnd (qp_blk (qp_thn qp_body)))))) (yq (by kernel_rfl) (g_pure (v := .int .i64 (i : Int)) fun _ => by kernel_rfl)) h (by kernel_rfl) ?_
      refine d_take 2 35 [0, 4] rfl (v := .pointer (some ⟨blkN v7, offN v7 + i * 6, none⟩)) (by kernel_rfl) (qp_thn (qp_blk (qp_thn (qp_rnd (qp_blk (qp_thn qp_body)))))) (yq (by kernel_rfl) (g_idx i (by kernel_rfl) hi11 0 rfl)) h (by kernel_rfl) ?_
      refine d_take 3 39 [0, 4] rfl (v := .pointer (some ⟨blkN v7, offN v7 + i * 6, none⟩)) (by kernel_rfl) (qp_thn (qp_blk (qp_thn (qp_rnd (qp_blk (qp_thn qp_body)))))) (yq (by kernel_rfl) (g_pure (v := .pointer (some ⟨blkN v7, offN v7 + i * 6, none⟩)) fun _ => by kernel_rfl)) h (by kernel_rfl) ?_
      refine d_take 4 47 [0, 4] rfl (v := .agg #[.int .i64 x12.1.1, .int .i64 x12.1.2]) (by kernel_rfl) (qp_thn (qp_blk (qp_thn (qp_rnd (qp_blk (qp_thn qp_body)))))) (yq (by kernel_rfl) (g_ldr (b := blkN v7) (offN v7 + i * 6) [.int .i64 x12.1.1, .int .i64 x12.1.2] (.agg #[.int .i64 x12.1.1, .int .i64 x12.1.2]) (by kernel_rfl) 0 rfl (rdRow0 runC_len hx13 (by kernel_rfl)))) h (by kernel_rfl) ?_
      refine d_take 5 31 [0, 4] rfl (v := .agg #[.int .i64 n, .int .i64 g]) (by kernel_rfl) (qp_thn (qp_blk (qp_thn (qp_rnd (qp_blk (qp_thn qp_body)))))) (yq (by kernel_rfl) (g_ld 0 [.int .i64 n, .int .i64 g] (.agg #[.int .i64 n, .int .i64 g]) (by kernel_rfl) 1 rfl)) h (by kernel_rfl) ?_
      obtain ⟨b14, hb14⟩ : ∃ b_ : Bool, b_ = ((decide (x12.1.1 = n)) && (decide (x12.1.2 = g))) := ⟨_, rfl⟩
      refine d_take 6 63 [0, 4] rfl (v := .bool b14) (by kernel_rfl) (qp_thn (qp_blk (qp_thn (qp_rnd (qp_blk (qp_thn qp_body)))))) (yq (by kernel_rfl) (by subst hb14; exact g_eqH (by kernel_rfl))) h (by kernel_rfl) ?_
      refine d_take 7 127 [0, 4] rfl (v := .bool b14) (by kernel_rfl) (qp_thn (qp_blk (qp_thn (qp_rnd (qp_blk (qp_thn qp_body)))))) (yq (by kernel_rfl) (g_pure (v := .bool b14) fun _ => by kernel_rfl)) h (by kernel_rfl) ?_
      refine d_take 8 8959 [0, 4] rfl (by kernel_rfl) (qp_thn (qp_blk (qp_thn (qp_rnd (qp_blk (qp_thn qp_body)))))) (ym1 (v := v7) b14 (by cases b14 <;> kernel_rfl) (fun hB => by subst hB; exact g_pure (v := v7) fun _ => by kernel_rfl)) h (by kernel_rfl) ?_
      refine d_take 9 8703 [0, 4] rfl (by kernel_rfl) (qp_thn (qp_blk (qp_thn (qp_rnd (qp_blk (qp_thn qp_body)))))) (ym1 (v := .int .i64 (i : Int)) b14 (by cases b14 <;> kernel_rfl) (fun hB => by subst hB; exact g_pure (v := .int .i64 (i : Int)) fun _ => by kernel_rfl)) h (by kernel_rfl) ?_
      refine d_take 10 9215 [0, 4] rfl (by kernel_rfl) (qp_thn (qp_blk (qp_thn (qp_rnd (qp_blk (qp_thn qp_body)))))) (ym1 (v := .pointer (some ⟨blkN v7, offN v7 + i * 6, none⟩)) b14 (by cases b14 <;> kernel_rfl) (fun hB => by subst hB; exact g_idx i (by kernel_rfl) hi11 0 rfl)) h (by kernel_rfl) ?_
      refine d_take 11 10239 [0, 4] rfl (by kernel_rfl) (qp_thn (qp_blk (qp_thn (qp_rnd (qp_blk (qp_thn qp_body)))))) (ym1 (v := .pointer (some ⟨blkN v7, offN v7 + i * 6 + 2, none⟩)) b14 (by cases b14 <;> kernel_rfl) (fun hB => by subst hB; exact g_pure (v := .pointer (some ⟨blkN v7, offN v7 + i * 6 + 2, none⟩)) fun _ => by kernel_rfl)) h (by kernel_rfl) ?_
      refine d_take 12 12287 [0, 4] rfl (by kernel_rfl) (qp_thn (qp_blk (qp_thn (qp_rnd (qp_blk (qp_thn qp_body)))))) (ym1 (v := .int .i64 x12.2.1) b14 (by cases b14 <;> kernel_rfl) (fun hB => by subst hB; exact g_ldr (b := blkN v7) (offN v7 + i * 6 + 2) [.int .i64 x12.2.1] (.int .i64 x12.2.1) (by kernel_rfl) 0 rfl (rdRow runC_len hx13 2 (by kernel_rfl)))) h (by kernel_rfl) ?_
      refine d_take 13 8191 [0, 4] rfl (by kernel_rfl) (qp_thn (qp_blk (qp_thn (qp_rnd (qp_blk (qp_thn qp_body)))))) (ym1 (v := .int .i64 o) b14 (by cases b14 <;> kernel_rfl) (fun hB => by subst hB; exact g_pure (v := .int .i64 o) fun _ => by kernel_rfl)) h (by kernel_rfl) ?_
      obtain ⟨b15, hb15⟩ : ∃ b_ : Bool, b_ = (!(decide (x12.2.1 = o))) := ⟨_, rfl⟩
      refine d_take 14 16383 [0, 4] rfl (by kernel_rfl) (qp_thn (qp_blk (qp_thn (qp_rnd (qp_blk (qp_thn qp_body)))))) (ym1 (v := .bool b15) b14 (by cases b14 <;> kernel_rfl) (fun hB => by subst hB; exact by subst hb15; exact g_pure (v := .bool (!(decide (x12.2.1 = o)))) fun _ => by kernel_rfl)) h (by kernel_rfl) ?_
      obtain ⟨b16, hb16⟩ : ∃ b_ : Bool, b_ = (b14 && b15) := ⟨_, rfl⟩
      refine d_take 15 32767 [0, 4] rfl (v := .bool b16) (by kernel_rfl) (qp_thn (qp_blk (qp_thn (qp_rnd (qp_blk (qp_thn qp_body)))))) (yq (by kernel_rfl) (by subst hb16; exact g_pure (v := .bool (b14 && b15)) fun _ => by cases b14 <;> kernel_rfl)) h (by kernel_rfl) ?_
      refine d_take 16 65535 [0, 4] rfl (v := .bool b16) (by kernel_rfl) (qp_thn (qp_blk (qp_thn (qp_rnd (qp_blk (qp_thn qp_body)))))) (yq (by kernel_rfl) (g_pure (v := .bool b16) fun _ => by kernel_rfl)) h (by kernel_rfl) ?_
      obtain ⟨b17, hb17⟩ : ∃ b_ : Bool, b_ = (ovR (eF a s) (endN (eT a s)) x12) := ⟨_, rfl⟩
      refine d_take 17 131071 [0, 4] rfl (by kernel_rfl) (qp_thn (qp_blk (qp_thn (qp_rnd (qp_blk (qp_thn qp_body)))))) (ym1 (v := .bool b17) b16 (by cases b16 <;> kernel_rfl) (fun hB => by subst hB; exact by subst hb17; exact g_pure (v := .bool (ovR (eF a s) (endN (eT a s)) x12)) fun _ => by kernel_rfl)) h (by kernel_rfl) ?_
      obtain ⟨b18, hb18⟩ : ∃ b_ : Bool, b_ = (b16 && b17) := ⟨_, rfl⟩
      refine d_take 18 262143 [0, 4] rfl (v := .bool b18) (by kernel_rfl) (qp_thn (qp_blk (qp_thn (qp_rnd (qp_blk (qp_thn qp_body)))))) (yq (by kernel_rfl) (by subst hb18; exact g_pure (v := .bool (b16 && b17)) fun _ => by cases b16 <;> kernel_rfl)) h (by kernel_rfl) ?_
      refine d_take 19 524287 [0, 4] rfl (v := .bool b18) (by kernel_rfl) (qp_thn (qp_blk (qp_thn (qp_rnd (qp_blk (qp_thn qp_body)))))) (yq (by kernel_rfl) (g_pure (v := .bool b18) fun _ => by kernel_rfl)) h (by kernel_rfl) ?_
      refine d_take 20 1048575 [0, 4] rfl (by kernel_rfl) (qp_thn (qp_blk (qp_thn (qp_rnd (qp_blk (qp_thn qp_body)))))) (ym1 (v := .bool wb) b18 (by cases b18 <;> kernel_rfl) (fun hB => by subst hB; exact g_pure (v := .bool wb) fun _ => by kernel_rfl)) h (by kernel_rfl) ?_
      refine d_take 21 2097151 [0, 4] rfl (by kernel_rfl) (qp_thn (qp_blk (qp_thn (qp_rnd (qp_blk (qp_thn qp_body)))))) (ym1 (v := .bool wb) b18 (by cases b18 <;> kernel_rfl) (fun hB => by subst hB; exact g_pure (v := .bool wb) fun _ => by kernel_rfl)) h (by kernel_rfl) ?_
      obtain ⟨b19, hb19⟩ : ∃ b_ : Bool, b_ = (b18 && (!wb)) := ⟨_, rfl⟩
      refine d_take 22 12582911 [0, 4] rfl (by kernel_rfl) (qp_thn (qp_blk (qp_thn (qp_rnd (qp_blk (qp_thn qp_body)))))) (ym1 (v := v7) b19 (by subst hb19; cases b18 <;> cases wb <;> kernel_rfl) (fun hB => by subst hB; exact g_pure (v := v7) fun _ => by kernel_rfl)) h (by kernel_rfl) ?_
      refine d_take 23 8388607 [0, 4] rfl (by kernel_rfl) (qp_thn (qp_blk (qp_thn (qp_rnd (qp_blk (qp_thn qp_body)))))) (ym1 (v := .int .i64 (i : Int)) b19 (by subst hb19; cases b18 <;> cases wb <;> kernel_rfl) (fun hB => by subst hB; exact g_pure (v := .int .i64 (i : Int)) fun _ => by kernel_rfl)) h (by kernel_rfl) ?_
      refine d_take 24 16777215 [0, 4] rfl (by kernel_rfl) (qp_thn (qp_blk (qp_thn (qp_rnd (qp_blk (qp_thn qp_body)))))) (ym1 (v := .pointer (some ⟨blkN v7, offN v7 + i * 6, none⟩)) b19 (by subst hb19; cases b18 <;> cases wb <;> kernel_rfl) (fun hB => by subst hB; exact g_idx i (by kernel_rfl) hi11 0 rfl)) h (by kernel_rfl) ?_
      refine d_take 25 33554431 [0, 4] rfl (by kernel_rfl) (qp_thn (qp_blk (qp_thn (qp_rnd (qp_blk (qp_thn qp_body)))))) (ym1 (v := .pointer (some ⟨blkN v7, offN v7 + i * 6 + 5, none⟩)) b19 (by subst hb19; cases b18 <;> cases wb <;> kernel_rfl) (fun hB => by subst hB; exact g_pure (v := .pointer (some ⟨blkN v7, offN v7 + i * 6 + 5, none⟩)) fun _ => by kernel_rfl)) h (by kernel_rfl) ?_
      refine d_take 26 67108863 [0, 4] rfl (by kernel_rfl) (qp_thn (qp_blk (qp_thn (qp_rnd (qp_blk (qp_thn qp_body)))))) (ym1 (v := .bool x12.2.2.2.2) b19 (by subst hb19; cases b18 <;> cases wb <;> kernel_rfl) (fun hB => by subst hB; exact g_ldr (b := blkN v7) (offN v7 + i * 6 + 5) [.bool x12.2.2.2.2] (.bool x12.2.2.2.2) (by kernel_rfl) 0 rfl (rdRow runC_len hx13 5 (by kernel_rfl)))) h (by kernel_rfl) ?_
      obtain ⟨b20, hb20⟩ : ∃ b_ : Bool, b_ = (wb || x12.2.2.2.2) := ⟨_, rfl⟩
      refine d_take 27 134217727 [0, 4] rfl (by kernel_rfl) (qp_thn (qp_blk (qp_thn (qp_rnd (qp_blk (qp_thn qp_body)))))) (ym1 (v := .bool b20) b18 (by cases b18 <;> kernel_rfl) (fun hB => by subst hB; exact by subst hb20; exact g_pure (v := .bool (wb || x12.2.2.2.2)) fun _ => by subst hb19; first | (cases wb <;> kernel_rfl) | (cases b19 <;> kernel_rfl))) h (by kernel_rfl) ?_
      obtain ⟨b21, hb21⟩ : ∃ b_ : Bool, b_ = (b18 && b20) := ⟨_, rfl⟩
      refine d_take 28 268435455 [0, 4] rfl (v := .bool b21) (by kernel_rfl) (qp_thn (qp_blk (qp_thn (qp_rnd (qp_blk (qp_thn qp_body)))))) (yq (by kernel_rfl) (by subst hb21; exact g_pure (v := .bool (b18 && b20)) fun _ => by cases b18 <;> kernel_rfl)) h (by kernel_rfl) ?_
      refine d_done (by kernel_rfl) ?_
      refine thn_n ?_
      have hT : heldR (n, g) o (eF a s) (endN (eT a s)) wb x12 = b21 := by subst hb21 hb20 hb18 hb17 hb16 hb15 hb14; unfold heldR; rw [pairN, show (x12.2.1 == o) = decide (x12.2.1 = o) from rfl]; by_cases h1 : x12.1.1 = n <;> by_cases h2 : x12.1.2 = g <;> by_cases h3 : x12.2.1 = o <;> simp [h1, h2, h3]
      refine c_cond (b21) (by kernel_rfl) (fun hc22 => ?_) (fun hc22 => ?_)
      · skip
        have q23 : (b18 && b20) = true := by rw [← hb21]; exact hc22
        have q24 : b18 = true := by revert q23; cases b18 <;> simp
        have q25 : b20 = true := by revert q23; cases b18 <;> cases b20 <;> simp
        have q26 : (b16 && b17) = true := by rw [← hb18]; exact q24
        have q27 : b16 = true := by revert q26; cases b16 <;> simp
        have q28 : b17 = true := by revert q26; cases b16 <;> cases b17 <;> simp
        have q29 : (b14 && b15) = true := by rw [← hb16]; exact q27
        have q30 : b14 = true := by revert q29; cases b14 <;> simp
        have q31 : b15 = true := by revert q29; cases b14 <;> cases b15 <;> simp
        have q32 : ((decide (x12.1.1 = n)) && (decide (x12.1.2 = g))) = true := by rw [← hb14]; exact q30
        have q33 : (decide (x12.1.1 = n)) = true := by revert q32; cases (decide (x12.1.1 = n)) <;> simp
        have q34 : (decide (x12.1.2 = g)) = true := by revert q32; cases (decide (x12.1.1 = n)) <;> cases (decide (x12.1.2 = g)) <;> simp
        have q33 := of_decide_eq_true q33
        have q34 := of_decide_eq_true q34
        have q35 : (!(decide (x12.2.1 = o))) = true := by rw [← hb15]; exact q31
        have q36 : (decide (x12.2.1 = o)) = false := by simpa using q35
        have q36 := of_decide_eq_false q36
        have q37 : (ovR (eF a s) (endN (eT a s)) x12) = true := by rw [← hb17]; exact q28
        have q38 : (wb || x12.2.2.2.2) = true := by rw [← hb20]; exact q25
        rw [hc22] at hT
        refine c_seq ?_
        refine c_reg ?_
        refine sq_p (v7) rfl (fun _ => by kernel_rfl) ?_
        refine sq_p (.int .i64 (i : Int)) rfl (fun _ => by kernel_rfl) ?_
        refine sq_q rfl h (g_idx i (by kernel_rfl) hi11 0 rfl) ?_
        refine sq_q rfl h (g_ldr (b := blkN v7) (offN v7 + i * 6) [.int .i64 x12.1.1, .int .i64 x12.1.2, .int .i64 x12.2.1, .int .i64 x12.2.2.1, .int .i64 x12.2.2.2.1, .bool x12.2.2.2.2] (.agg #[.int .i64 x12.1.1, .int .i64 x12.1.2, .int .i64 x12.2.1, .int .i64 x12.2.2.1, .int .i64 x12.2.2.2.1, .bool x12.2.2.2.2]) (by kernel_rfl) 0 rfl (rdRow0 runC_len hx13 (by kernel_rfl))) ?_
        refine sq_st rfl 0 [.int .i64 x12.1.1, .int .i64 x12.1.2, .int .i64 x12.2.1, .int .i64 x12.2.2.1, .int .i64 x12.2.2.2.1, .bool x12.2.2.2.2] [.int .i64 x12.1.1, .int .i64 x12.1.2, .int .i64 x12.2.1, .int .i64 x12.2.2.1, .int .i64 x12.2.2.2.1, .bool x12.2.2.2.2] h 3 rfl (by kernel_rfl) ?_; intro w h
        refine sq_p (.int .i64 11) rfl (fun _ => by kernel_rfl) ?_
        refine lnil ?_
        refine thn_n ?_
        refine c_ret ?_
        refine blk_r (thn_r (rnd_r (blk_r (thn_r ?_))))
        refine ret_end [.agg #[.int .i64 x12.1.1, .int .i64 x12.1.2, .int .i64 x12.2.1, .int .i64 x12.2.2.1, .int .i64 x12.2.2.2.1, .bool x12.2.2.2.2], .int .i64 11] [1, 1] h (by kernel_rfl) (res_c 0 [.int .i64 x12.1.1, .int .i64 x12.1.2, .int .i64 x12.2.1, .int .i64 x12.2.2.1, .int .i64 x12.2.2.2.1, .bool x12.2.2.2.2] (.agg #[.int .i64 x12.1.1, .int .i64 x12.1.2, .int .i64 x12.2.1, .int .i64 x12.2.2.1, .int .i64 x12.2.2.2.1, .bool x12.2.2.2.2]) 3 rfl (by kernel_rfl) (res_t (by kernel_rfl) res_n)) ?_
        exact .inr (.inl ⟨R8, x12, hE, hR9, find_at' hx13 hT hno, rfl, rfl⟩)
      · skip
        have q39 : (b18 && b20) = false := by rw [← hb21]; exact hc22
        rw [hc22] at hT
        refine c_skip ?_
        refine blk_n (thn_n ?_)
        refine c_reg ?_
        refine sq_p (.int .i64 (i : Int)) rfl (fun _ => by kernel_rfl) ?_
        refine sq_q rfl h (g_eq (v := .int .i64 (IntKind.i64.wrap ((i : Int) + 1))) (v' := .int .i64 ((i + 1 : Nat) : Int)) (g_pure fun _ => by kernel_rfl) (wr (by omega))) ?_
        refine sq_p (.int .i64 ((i + 1 : Nat) : Int)) rfl (fun _ => by kernel_rfl) ?_
        refine lnil ?_
        have hQ40 : ((i + 1) ≤ R8.length ∧ ∀ j y, j < (i + 1) → R8[j]? = some y → heldR (n, g) o (eF a s) (endN (eT a s)) wb y = false) ∧ (R8.length - (i + 1)) < (R8.length - i) := ⟨⟨by omega, step_no hno hx13 hT⟩, by omega⟩
        refine loop_end (fun j => ⟨(i + 1), j⟩) hQ40 (by kernel_rfl) [0, 0, 0, 0, 0, 0] (by kernel_rfl) h
    · skip
      have hc10 := of_decide_eq_false hc10
      refine c_exit ?_
      refine thn_e (rnd_e (blk_e (thn_n ?_)))
      refine c_seq ?_
      refine c_reg ?_
      refine sq_p (.agg #[.int .i64 0, .int .i64 0, .int .i64 0, .int .i64 0, .int .i64 0, .bool false]) rfl (fun _ => by kernel_rfl) ?_
      refine sq_st rfl 0 [.int .i64 0, .int .i64 0, .int .i64 0, .int .i64 0, .int .i64 0, .bool false] [.int .i64 0, .int .i64 0, .int .i64 0, .int .i64 0, .int .i64 0, .bool false] h 3 rfl (by kernel_rfl) ?_; intro w h
      refine sq_p (.int .i64 0) rfl (fun _ => by kernel_rfl) ?_
      refine lnil ?_
      refine thn_n ?_
      refine c_ret ?_
      refine ret_end [.agg #[.int .i64 0, .int .i64 0, .int .i64 0, .int .i64 0, .int .i64 0, .bool false], .int .i64 0] [1, 1] h (by kernel_rfl) (res_c 0 [.int .i64 0, .int .i64 0, .int .i64 0, .int .i64 0, .int .i64 0, .bool false] (.agg #[.int .i64 0, .int .i64 0, .int .i64 0, .int .i64 0, .int .i64 0, .bool false]) 3 rfl (by kernel_rfl) (res_t (by kernel_rfl) res_n)) ?_
      exact .inr (.inr ⟨R8, hE, hR9, find_none' (fun j y hj => hno j y (by omega)), rfl, rfl⟩)

theorem ok_snoc {l : List Paint} (hok : ∀ p ∈ l, PntOk p) {p : Paint} (hp : PntOk p) : ∀ q ∈ ([] ++ l) ++ [p], PntOk q := fun q hq => by
  rcases List.mem_append.1 hq with hq | hq
  · exact hok q hq
  · rw [List.mem_singleton.1 hq]; exact hp

set_option maxHeartbeats 1000000 in
theorem brush_spec (b : Nat) (v : Value) (l : List Paint) (hlen : l.length ≤ 45) (hok : ∀ p ∈ l, PntOk p) (p : Paint) (hp : PntOk p)  : Spec Tryd.prog 40 #[.pointer (some ⟨b, 0, none⟩), .agg #[.int .i64 p.1.1, .int .i64 p.1.2, .int .i64 p.2.1, .int .i64 p.2.2.1, .int .i64 p.2.2.2.1, .int .i64 p.2.2.2.2]] [rCell true b [v] 61, rRows true v 107 6 pntC l] (fun u L => ∃ R, ListOk (l ++ [p]) R ∧ ((60 < R.length ∧ u = .int .i64 9 ∧ L = [rCell true b [v] 61, rRows true v 107 6 pntC l]) ∨ (R.length ≤ 60 ∧ ∃ v', u = .int .i64 0 ∧ L = [rCell true b [v'] 61, rRows true v' 107 6 pntC (l ++ [p])]))) := by
  refine spec_of (#[.pointer (some ⟨b, 0, none⟩), .agg #[.int .i64 p.1.1, .int .i64 p.1.2, .int .i64 p.2.1, .int .i64 p.2.2.1, .int .i64 p.2.2.2.1, .int .i64 p.2.2.2.2], undef, undef, undef, undef, undef, undef, undef, undef, undef, undef, undef, undef, undef, undef, undef, undef, undef, undef, undef, undef, undef, undef]) Tryd.func40 rfl (by kernel_rfl) fun E w0 w h => ?_
  refine c_seq ?_
  refine c_reg ?_
  refine sq_new rfl (fun b => .pointer (some ⟨b, 0, none⟩)) [.int .i64 p.1.1, .int .i64 p.1.2, .int .i64 p.2.1, .int .i64 p.2.2.1, .int .i64 p.2.2.2.1, .int .i64 p.2.2.2.2] 107 (fun _ => by kernel_rfl) h ?_; intro k1 w h
  refine sq_p (.int .i64 0) rfl (fun _ => by kernel_rfl) ?_
  refine lnil ?_
  refine thn_n ?_
  refine c_seq ?_
  refine c_reg ?_
  refine sq_p (.slice none 0 0) rfl (fun _ => by kernel_rfl) ?_
  refine lnil ?_
  refine thn_n ?_
  refine c_seq ?_
  refine c_reg ?_
  refine sq_p (.slice none 0 0) rfl (fun _ => by kernel_rfl) ?_
  refine sq_p (.pointer (some ⟨b, 0, none⟩)) rfl (fun _ => by kernel_rfl) ?_
  refine sq_p (.pointer (some ⟨b, 0, none⟩)) rfl (fun _ => by kernel_rfl) ?_
  refine sq_p (.pointer (some ⟨b, 0, none⟩)) rfl (fun _ => by kernel_rfl) ?_
  refine sq_q rfl h (g_ld 0 [v] (v) (by kernel_rfl) 1 rfl) ?_
  have h := h.nilRows 107 6 pntC
  refine sq_appw rfl (by kernel_rfl) pntC_len (fun _ => rfl) h 0 rfl 3 rfl slRd_rows (by (try simp only [List.length_append, List.length_cons, List.length_nil]); omega) ?_; intro v2 w h
  refine sq_p (v2) rfl (fun _ => by kernel_rfl) ?_
  refine lnil ?_
  refine thn_n ?_
  refine c_seq ?_
  refine c_reg ?_
  refine sq_p (v2) rfl (fun _ => by kernel_rfl) ?_
  refine sq_q rfl h (g_ld 0 [.int .i64 p.1.1, .int .i64 p.1.2, .int .i64 p.2.1, .int .i64 p.2.2.1, .int .i64 p.2.2.2.1, .int .i64 p.2.2.2.2] (.agg #[.int .i64 p.1.1, .int .i64 p.1.2, .int .i64 p.2.1, .int .i64 p.2.2.1, .int .i64 p.2.2.2.1, .int .i64 p.2.2.2.2]) (by kernel_rfl) 1 rfl) ?_
  refine sq_new rfl (fun b => .slice (some ⟨b, 0, none⟩) 1 1) [.int .i64 p.1.1, .int .i64 p.1.2, .int .i64 p.2.1, .int .i64 p.2.2.1, .int .i64 p.2.2.2.1, .int .i64 p.2.2.2.2] 107 (fun _ => by kernel_rfl) h ?_; intro k3 w h
  refine sq_app (b := k3) (o := 0) rfl 1 p (by kernel_rfl) h 1 rfl 0 rfl (rdCell 0 (by kernel_rfl)) (by (try simp only [List.length_append, List.length_cons, List.length_nil]); omega) ?_; intro v4 w h
  refine sq_p (v4) rfl (fun _ => by kernel_rfl) ?_
  refine lnil ?_
  refine thn_n ?_
  refine c_seq ?_
  refine c_seq ?_
  refine c_reg ?_
  refine sq_p (v4) rfl (fun _ => by kernel_rfl) ?_
  refine sq_call #[v4] [1] rfl (listOf_spec true v4 ([] ++ l ++ [p]) (by first | omega | (simp; omega)) (ok_snoc hok hp)) (fun _ => by kernel_rfl) h ?_; rintro v5 L_ w ⟨_, R6, hR7, rfl, rfl⟩ h
  have hRn := hR7.len (by first | omega | (simp; omega))
  refine sq_q rfl h (g_len (by kernel_rfl) 0 rfl) ?_
  refine sq_p (.bool (decide ((R6.length : Int) > 60))) rfl (fun _ => by kernel_rfl) ?_
  refine lnil ?_
  refine thn_n ?_
  refine c_cond (decide ((R6.length : Int) > 60)) (by kernel_rfl) (fun hc8 => ?_) (fun hc8 => ?_)
  · skip
    have hc8 := of_decide_eq_true hc8
    refine c_seq ?_
    refine c_reg ?_
    refine sq_p (.int .i64 9) rfl (fun _ => by kernel_rfl) ?_
    refine lnil ?_
    refine thn_n ?_
    refine c_ret ?_
    refine thn_r ?_
    refine ret_end [.int .i64 9] [4, 4] h (by kernel_rfl) (res_t (by kernel_rfl) res_n) ?_
    exact ⟨R6, hR7, .inl ⟨by omega, rfl, rfl⟩⟩
  · skip
    have hc8 := of_decide_eq_false hc8
    refine c_skip ?_
    refine thn_n ?_
    refine c_seq ?_
    refine c_reg ?_
    refine sq_p (.pointer (some ⟨b, 0, none⟩)) rfl (fun _ => by kernel_rfl) ?_
    refine sq_p (v4) rfl (fun _ => by kernel_rfl) ?_
    refine sq_p (.pointer (some ⟨b, 0, none⟩)) rfl (fun _ => by kernel_rfl) ?_
    refine sq_p (.pointer (some ⟨b, 0, none⟩)) rfl (fun _ => by kernel_rfl) ?_
    refine sq_sto rfl (h.slv 1 rfl) 0 [v4] h 4 rfl (by kernel_rfl) ?_; intro w h
    refine lnil ?_
    refine thn_n ?_
    refine c_seq ?_
    refine c_reg ?_
    refine sq_p (.int .i64 0) rfl (fun _ => by kernel_rfl) ?_
    refine lnil ?_
    refine thn_n ?_
    refine c_ret ?_
    refine ret_end [.int .i64 0] [4, 1] h (by kernel_rfl) (res_t (by kernel_rfl) res_n) ?_
    exact ⟨R6, hR7, .inr ⟨by omega, _, rfl, rfl⟩⟩
set_option maxHeartbeats 1000000 in
theorem rlock_spec (b : Nat) (v : Value) (l : List Paint) (hlen : l.length ≤ 45) (hok : ∀ p ∈ l, PntOk p) (n g o a s : Int) (wb : Bool)  : Spec Tryd.prog 19 #[.pointer (some ⟨b, 0, none⟩), .agg #[.int .i64 n, .int .i64 g], .int .i64 o, .agg #[.int .i64 a, .int .i64 s], .bool wb] [rCell true b [v] 61, rRows true v 107 6 pntC l] (fun u L => (eOk a s = false ∧ u = .tuple #[.agg #[.int .i64 0, .int .i64 0, .int .i64 0, .int .i64 0, .int .i64 0, .bool false], .int .i64 2] ∧ L = [rCell true b [v] 61, rRows true v 107 6 pntC l]) ∨ (∃ R x, eOk a s = true ∧ ListOk l R ∧ R.find? (heldR (n, g) o (eF a s) (endN (eT a s)) wb) = some x ∧ u = .tuple #[.agg #[.int .i64 x.1.1, .int .i64 x.1.2, .int .i64 x.2.1, .int .i64 x.2.2.1, .int .i64 x.2.2.2.1, .bool x.2.2.2.2], .int .i64 11] ∧ L = [rCell true b [v] 61, rRows true v 107 6 pntC l]) ∨ (∃ R, eOk a s = true ∧ ListOk l R ∧ R.find? (heldR (n, g) o (eF a s) (endN (eT a s)) wb) = none ∧ ∃ R2, ListOk (l ++ [((n, g), o, eF a s, endN (eT a s), if wb then 2 else 1)]) R2 ∧ ((60 < R2.length ∧ u = .tuple #[.agg #[.int .i64 0, .int .i64 0, .int .i64 0, .int .i64 0, .int .i64 0, .bool false], .int .i64 9] ∧ L = [rCell true b [v] 61, rRows true v 107 6 pntC l]) ∨ (R2.length ≤ 60 ∧ ∃ v', u = .tuple #[.agg #[.int .i64 0, .int .i64 0, .int .i64 0, .int .i64 0, .int .i64 0, .bool false], .int .i64 0] ∧ L = [rCell true b [v'] 61, rRows true v' 107 6 pntC (l ++ [((n, g), o, eF a s, endN (eT a s), if wb then 2 else 1)])])))) := by
  refine spec_of (#[.pointer (some ⟨b, 0, none⟩), .agg #[.int .i64 n, .int .i64 g], .int .i64 o, .agg #[.int .i64 a, .int .i64 s], .bool wb, undef, undef, undef, undef, undef, undef, undef, undef, undef, undef, undef, undef, undef, undef, undef, undef, undef, undef, undef, undef, undef, undef, undef, undef, undef, undef, undef, undef, undef, undef, undef, undef, undef, undef, undef, undef, undef, undef, undef, undef, undef, undef]) Tryd.func19 rfl (by kernel_rfl) fun E w0 w h => ?_
  refine c_seq ?_
  refine c_reg ?_
  refine sq_new rfl (fun b => .pointer (some ⟨b, 0, none⟩)) [.int .i64 n, .int .i64 g] 33 (fun _ => by kernel_rfl) h ?_; intro k1 w h
  refine sq_new rfl (fun b => .pointer (some ⟨b, 0, none⟩)) [.int .i64 a, .int .i64 s] 63 (fun _ => by kernel_rfl) h ?_; intro k2 w h
  refine sq_new rfl (fun b => .pointer (some ⟨b, 0, none⟩)) [.int .i64 0, .int .i64 0, .int .i64 0, .int .i64 0, .int .i64 0, .bool false] 70 (fun _ => by kernel_rfl) h ?_; intro k3 w h
  refine sq_p (.int .i64 0) rfl (fun _ => by kernel_rfl) ?_
  refine lnil ?_
  refine thn_n ?_
  refine c_seq ?_
  refine c_reg ?_
  refine sq_p (.pointer (some ⟨b, 0, none⟩)) rfl (fun _ => by kernel_rfl) ?_
  refine sq_q rfl h (g_ld 0 [.int .i64 n, .int .i64 g] (.agg #[.int .i64 n, .int .i64 g]) (by kernel_rfl) 2 rfl) ?_
  refine sq_p (.int .i64 o) rfl (fun _ => by kernel_rfl) ?_
  refine sq_q rfl h (g_ld 0 [.int .i64 a, .int .i64 s] (.agg #[.int .i64 a, .int .i64 s]) (by kernel_rfl) 1 rfl) ?_
  refine sq_p (.bool wb) rfl (fun _ => by kernel_rfl) ?_
  refine sq_call #[.pointer (some ⟨b, 0, none⟩), .agg #[.int .i64 n, .int .i64 g], .int .i64 o, .agg #[.int .i64 a, .int .i64 s], .bool wb] [3, 3] rfl (rtest_spec b v l (by omega) hok n g o a s wb) (fun _ => by kernel_rfl) h ?_; rintro v_ L_ w (⟨hq4, rfl, rfl⟩ | ⟨R5, x6, hq7, hq8, hq9, rfl, rfl⟩ | ⟨R10, hq11, hq12, hq13, rfl, rfl⟩) h
  · skip
    refine sq_p (.tuple #[.agg #[.int .i64 0, .int .i64 0, .int .i64 0, .int .i64 0, .int .i64 0, .bool false], .int .i64 2]) rfl (fun _ => by kernel_rfl) ?_
    refine sq_p (.agg #[.int .i64 0, .int .i64 0, .int .i64 0, .int .i64 0, .int .i64 0, .bool false]) rfl (fun _ => by kernel_rfl) ?_
    refine sq_p (.int .i64 2) rfl (fun _ => by kernel_rfl) ?_
    refine sq_new rfl (fun b => .pointer (some ⟨b, 0, none⟩)) [.int .i64 0, .int .i64 0, .int .i64 0, .int .i64 0, .int .i64 0, .bool false] 70 (fun _ => by kernel_rfl) h ?_; intro k14 w h
    refine sq_st rfl 0 [.int .i64 0, .int .i64 0, .int .i64 0, .int .i64 0, .int .i64 0, .bool false] [.int .i64 0, .int .i64 0, .int .i64 0, .int .i64 0, .int .i64 0, .bool false] h 0 rfl (by kernel_rfl) ?_; intro w h
    refine sq_p (.int .i64 2) rfl (fun _ => by kernel_rfl) ?_
    refine lnil ?_
    refine thn_n ?_
    refine c_seq ?_
    refine c_seq ?_
    refine c_reg ?_
    refine sq_p (.int .i64 2) rfl (fun _ => by kernel_rfl) ?_
    refine sq_p (.bool true) rfl (fun _ => by kernel_rfl) ?_
    refine lnil ?_
    refine thn_n ?_
    refine c_true (by kernel_rfl) ?_
    refine c_seq ?_
    refine c_reg ?_
    refine sq_q rfl h (g_ld 0 [.int .i64 0, .int .i64 0, .int .i64 0, .int .i64 0, .int .i64 0, .bool false] (.agg #[.int .i64 0, .int .i64 0, .int .i64 0, .int .i64 0, .int .i64 0, .bool false]) (by kernel_rfl) 0 rfl) ?_
    refine sq_p (.int .i64 2) rfl (fun _ => by kernel_rfl) ?_
    refine sq_st rfl 0 [.int .i64 0, .int .i64 0, .int .i64 0, .int .i64 0, .int .i64 0, .bool false] [.int .i64 0, .int .i64 0, .int .i64 0, .int .i64 0, .int .i64 0, .bool false] h 3 rfl (by kernel_rfl) ?_; intro w h
    refine sq_p (.int .i64 2) rfl (fun _ => by kernel_rfl) ?_
    refine lnil ?_
    refine thn_n ?_
    refine c_ret ?_
    refine thn_r ?_
    refine ret_end [.agg #[.int .i64 0, .int .i64 0, .int .i64 0, .int .i64 0, .int .i64 0, .bool false], .int .i64 2] [1, 1] h (by kernel_rfl) (res_c 0 [.int .i64 0, .int .i64 0, .int .i64 0, .int .i64 0, .int .i64 0, .bool false] (.agg #[.int .i64 0, .int .i64 0, .int .i64 0, .int .i64 0, .int .i64 0, .bool false]) 3 rfl (by kernel_rfl) (res_t (by kernel_rfl) res_n)) ?_
    exact .inl ⟨hq4, rfl, rfl⟩
  · skip
    refine sq_p (.tuple #[.agg #[.int .i64 x6.1.1, .int .i64 x6.1.2, .int .i64 x6.2.1, .int .i64 x6.2.2.1, .int .i64 x6.2.2.2.1, .bool x6.2.2.2.2], .int .i64 11]) rfl (fun _ => by kernel_rfl) ?_
    refine sq_p (.agg #[.int .i64 x6.1.1, .int .i64 x6.1.2, .int .i64 x6.2.1, .int .i64 x6.2.2.1, .int .i64 x6.2.2.2.1, .bool x6.2.2.2.2]) rfl (fun _ => by kernel_rfl) ?_
    refine sq_p (.int .i64 11) rfl (fun _ => by kernel_rfl) ?_
    refine sq_new rfl (fun b => .pointer (some ⟨b, 0, none⟩)) [.int .i64 0, .int .i64 0, .int .i64 0, .int .i64 0, .int .i64 0, .bool false] 70 (fun _ => by kernel_rfl) h ?_; intro k15 w h
    refine sq_st rfl 0 [.int .i64 x6.1.1, .int .i64 x6.1.2, .int .i64 x6.2.1, .int .i64 x6.2.2.1, .int .i64 x6.2.2.2.1, .bool x6.2.2.2.2] [.int .i64 x6.1.1, .int .i64 x6.1.2, .int .i64 x6.2.1, .int .i64 x6.2.2.1, .int .i64 x6.2.2.2.1, .bool x6.2.2.2.2] h 0 rfl (by kernel_rfl) ?_; intro w h
    refine sq_p (.int .i64 11) rfl (fun _ => by kernel_rfl) ?_
    refine lnil ?_
    refine thn_n ?_
    refine c_seq ?_
    refine c_seq ?_
    refine c_reg ?_
    refine sq_p (.int .i64 11) rfl (fun _ => by kernel_rfl) ?_
    refine sq_p (.bool true) rfl (fun _ => by kernel_rfl) ?_
    refine lnil ?_
    refine thn_n ?_
    refine c_true (by kernel_rfl) ?_
    refine c_seq ?_
    refine c_reg ?_
    refine sq_q rfl h (g_ld 0 [.int .i64 x6.1.1, .int .i64 x6.1.2, .int .i64 x6.2.1, .int .i64 x6.2.2.1, .int .i64 x6.2.2.2.1, .bool x6.2.2.2.2] (.agg #[.int .i64 x6.1.1, .int .i64 x6.1.2, .int .i64 x6.2.1, .int .i64 x6.2.2.1, .int .i64 x6.2.2.2.1, .bool x6.2.2.2.2]) (by kernel_rfl) 0 rfl) ?_
    refine sq_p (.int .i64 11) rfl (fun _ => by kernel_rfl) ?_
    refine sq_st rfl 0 [.int .i64 x6.1.1, .int .i64 x6.1.2, .int .i64 x6.2.1, .int .i64 x6.2.2.1, .int .i64 x6.2.2.2.1, .bool x6.2.2.2.2] [.int .i64 x6.1.1, .int .i64 x6.1.2, .int .i64 x6.2.1, .int .i64 x6.2.2.1, .int .i64 x6.2.2.2.1, .bool x6.2.2.2.2] h 3 rfl (by kernel_rfl) ?_; intro w h
    refine sq_p (.int .i64 11) rfl (fun _ => by kernel_rfl) ?_
    refine lnil ?_
    refine thn_n ?_
    refine c_ret ?_
    refine thn_r ?_
    refine ret_end [.agg #[.int .i64 x6.1.1, .int .i64 x6.1.2, .int .i64 x6.2.1, .int .i64 x6.2.2.1, .int .i64 x6.2.2.2.1, .bool x6.2.2.2.2], .int .i64 11] [1, 1] h (by kernel_rfl) (res_c 0 [.int .i64 x6.1.1, .int .i64 x6.1.2, .int .i64 x6.2.1, .int .i64 x6.2.2.1, .int .i64 x6.2.2.2.1, .bool x6.2.2.2.2] (.agg #[.int .i64 x6.1.1, .int .i64 x6.1.2, .int .i64 x6.2.1, .int .i64 x6.2.2.1, .int .i64 x6.2.2.2.1, .bool x6.2.2.2.2]) 3 rfl (by kernel_rfl) (res_t (by kernel_rfl) res_n)) ?_
    exact .inr (.inl ⟨R5, x6, hq7, hq8, hq9, rfl, rfl⟩)
  · skip
    refine sq_p (.tuple #[.agg #[.int .i64 0, .int .i64 0, .int .i64 0, .int .i64 0, .int .i64 0, .bool false], .int .i64 0]) rfl (fun _ => by kernel_rfl) ?_
    refine sq_p (.agg #[.int .i64 0, .int .i64 0, .int .i64 0, .int .i64 0, .int .i64 0, .bool false]) rfl (fun _ => by kernel_rfl) ?_
    refine sq_p (.int .i64 0) rfl (fun _ => by kernel_rfl) ?_
    refine sq_new rfl (fun b => .pointer (some ⟨b, 0, none⟩)) [.int .i64 0, .int .i64 0, .int .i64 0, .int .i64 0, .int .i64 0, .bool false] 70 (fun _ => by kernel_rfl) h ?_; intro k16 w h
    refine sq_st rfl 0 [.int .i64 0, .int .i64 0, .int .i64 0, .int .i64 0, .int .i64 0, .bool false] [.int .i64 0, .int .i64 0, .int .i64 0, .int .i64 0, .int .i64 0, .bool false] h 0 rfl (by kernel_rfl) ?_; intro w h
    refine sq_p (.int .i64 0) rfl (fun _ => by kernel_rfl) ?_
    refine lnil ?_
    refine thn_n ?_
    refine c_seq ?_
    refine c_seq ?_
    refine c_reg ?_
    refine sq_p (.int .i64 0) rfl (fun _ => by kernel_rfl) ?_
    refine sq_p (.bool false) rfl (fun _ => by kernel_rfl) ?_
    refine lnil ?_
    refine thn_n ?_
    refine c_false (by kernel_rfl) ?_
    refine c_skip ?_
    refine thn_n ?_
    refine c_seq ?_
    refine c_reg ?_
    refine sq_q rfl h (g_ld 0 [.int .i64 a, .int .i64 s] (.agg #[.int .i64 a, .int .i64 s]) (by kernel_rfl) 4 rfl) ?_
    refine sq_call #[.agg #[.int .i64 a, .int .i64 s]] [] rfl (rangeOf_spec a s) (fun _ => by kernel_rfl) h ?_; rintro v_ L_ w ⟨rfl, rfl⟩ h
    refine sq_p (.tuple #[.int .i64 (eF a s), .int .i64 (endN (eT a s)), .bool (eOk a s)]) rfl (fun _ => by kernel_rfl) ?_
    refine sq_p (.int .i64 (eF a s)) rfl (fun _ => by kernel_rfl) ?_
    refine sq_p (.int .i64 (endN (eT a s))) rfl (fun _ => by kernel_rfl) ?_
    refine sq_p (.bool (eOk a s)) rfl (fun _ => by kernel_rfl) ?_
    refine sq_p (.int .i64 (eF a s)) rfl (fun _ => by kernel_rfl) ?_
    refine sq_p (.int .i64 (endN (eT a s))) rfl (fun _ => by kernel_rfl) ?_
    refine sq_p (.bool (eOk a s)) rfl (fun _ => by kernel_rfl) ?_
    refine lnil ?_
    refine thn_n ?_
    refine c_seq ?_
    refine c_reg ?_
    refine sq_p (.int .i64 1) rfl (fun _ => by kernel_rfl) ?_
    refine lnil ?_
    refine thn_n ?_
    refine c_seq ?_
    refine c_seq ?_
    refine c_reg ?_
    refine sq_p (.bool wb) rfl (fun _ => by kernel_rfl) ?_
    refine lnil ?_
    refine thn_n ?_
    refine c_cond (wb) (by kernel_rfl) (fun hc17 => ?_) (fun hc17 => ?_)
    · skip
      refine c_reg ?_
      refine sq_p (.int .i64 2) rfl (fun _ => by kernel_rfl) ?_
      refine lnil ?_
      refine thn_n ?_
      refine c_seq ?_
      refine c_reg ?_
      refine sq_p (.agg #[.int .i64 0, .int .i64 0, .int .i64 0, .int .i64 0, .int .i64 0, .bool false]) rfl (fun _ => by kernel_rfl) ?_
      refine sq_p (.pointer (some ⟨b, 0, none⟩)) rfl (fun _ => by kernel_rfl) ?_
      refine sq_q rfl h (g_ld 0 [.int .i64 n, .int .i64 g] (.agg #[.int .i64 n, .int .i64 g]) (by kernel_rfl) 5 rfl) ?_
      refine sq_p (.int .i64 o) rfl (fun _ => by kernel_rfl) ?_
      refine sq_p (.int .i64 (eF a s)) rfl (fun _ => by kernel_rfl) ?_
      refine sq_p (.int .i64 (endN (eT a s))) rfl (fun _ => by kernel_rfl) ?_
      refine sq_p (.int .i64 2) rfl (fun _ => by kernel_rfl) ?_
      refine sq_p (.agg #[.int .i64 n, .int .i64 g, .int .i64 o, .int .i64 (eF a s), .int .i64 (endN (eT a s)), .int .i64 2]) rfl (fun _ => by kernel_rfl) ?_
      refine sq_call #[.pointer (some ⟨b, 0, none⟩), .agg #[.int .i64 n, .int .i64 g, .int .i64 o, .int .i64 (eF a s), .int .i64 (endN (eT a s)), .int .i64 2]] [1, 1] rfl (brush_spec b v l hlen hok ((n, g), o, eF a s, endN (eT a s), 2) (pnt_new (eOk_rng hq11) (by decide) (by decide))) (fun _ => by kernel_rfl) h ?_; rintro v_ L_ w (⟨R18, hR19, ⟨hq20, rfl, rfl⟩ | ⟨hq21, v22, rfl, rfl⟩⟩) h
      · skip
        refine sq_st rfl 0 [.int .i64 0, .int .i64 0, .int .i64 0, .int .i64 0, .int .i64 0, .bool false] [.int .i64 0, .int .i64 0, .int .i64 0, .int .i64 0, .int .i64 0, .bool false] h 3 rfl (by kernel_rfl) ?_; intro w h
        refine sq_p (.int .i64 9) rfl (fun _ => by kernel_rfl) ?_
        refine lnil ?_
        refine thn_n ?_
        refine c_ret ?_
        refine ret_end [.agg #[.int .i64 0, .int .i64 0, .int .i64 0, .int .i64 0, .int .i64 0, .bool false], .int .i64 9] [0, 0] h (by kernel_rfl) (res_c 0 [.int .i64 0, .int .i64 0, .int .i64 0, .int .i64 0, .int .i64 0, .bool false] (.agg #[.int .i64 0, .int .i64 0, .int .i64 0, .int .i64 0, .int .i64 0, .bool false]) 3 rfl (by kernel_rfl) (res_t (by kernel_rfl) res_n)) ?_
        obtain rfl : wb = true := hc17
        exact .inr (.inr ⟨R10, hq11, hq12, hq13, R18, hR19, .inl ⟨hq20, rfl, rfl⟩⟩)
      · skip
        refine sq_st rfl 0 [.int .i64 0, .int .i64 0, .int .i64 0, .int .i64 0, .int .i64 0, .bool false] [.int .i64 0, .int .i64 0, .int .i64 0, .int .i64 0, .int .i64 0, .bool false] h 3 rfl (by kernel_rfl) ?_; intro w h
        refine sq_p (.int .i64 0) rfl (fun _ => by kernel_rfl) ?_
        refine lnil ?_
        refine thn_n ?_
        refine c_ret ?_
        refine ret_end [.agg #[.int .i64 0, .int .i64 0, .int .i64 0, .int .i64 0, .int .i64 0, .bool false], .int .i64 0] [0, 0] h (by kernel_rfl) (res_c 0 [.int .i64 0, .int .i64 0, .int .i64 0, .int .i64 0, .int .i64 0, .bool false] (.agg #[.int .i64 0, .int .i64 0, .int .i64 0, .int .i64 0, .int .i64 0, .bool false]) 3 rfl (by kernel_rfl) (res_t (by kernel_rfl) res_n)) ?_
        obtain rfl : wb = true := hc17
        exact .inr (.inr ⟨R10, hq11, hq12, hq13, R18, hR19, .inr ⟨hq21, _, rfl, rfl⟩⟩)
    · skip
      refine c_skip ?_
      refine thn_n ?_
      refine c_seq ?_
      refine c_reg ?_
      refine sq_p (.agg #[.int .i64 0, .int .i64 0, .int .i64 0, .int .i64 0, .int .i64 0, .bool false]) rfl (fun _ => by kernel_rfl) ?_
      refine sq_p (.pointer (some ⟨b, 0, none⟩)) rfl (fun _ => by kernel_rfl) ?_
      refine sq_q rfl h (g_ld 0 [.int .i64 n, .int .i64 g] (.agg #[.int .i64 n, .int .i64 g]) (by kernel_rfl) 5 rfl) ?_
      refine sq_p (.int .i64 o) rfl (fun _ => by kernel_rfl) ?_
      refine sq_p (.int .i64 (eF a s)) rfl (fun _ => by kernel_rfl) ?_
      refine sq_p (.int .i64 (endN (eT a s))) rfl (fun _ => by kernel_rfl) ?_
      refine sq_p (.int .i64 1) rfl (fun _ => by kernel_rfl) ?_
      refine sq_p (.agg #[.int .i64 n, .int .i64 g, .int .i64 o, .int .i64 (eF a s), .int .i64 (endN (eT a s)), .int .i64 1]) rfl (fun _ => by kernel_rfl) ?_
      refine sq_call #[.pointer (some ⟨b, 0, none⟩), .agg #[.int .i64 n, .int .i64 g, .int .i64 o, .int .i64 (eF a s), .int .i64 (endN (eT a s)), .int .i64 1]] [1, 1] rfl (brush_spec b v l hlen hok ((n, g), o, eF a s, endN (eT a s), 1) (pnt_new (eOk_rng hq11) (by decide) (by decide))) (fun _ => by kernel_rfl) h ?_; rintro v_ L_ w (⟨R23, hR24, ⟨hq25, rfl, rfl⟩ | ⟨hq26, v27, rfl, rfl⟩⟩) h
      · skip
        refine sq_st rfl 0 [.int .i64 0, .int .i64 0, .int .i64 0, .int .i64 0, .int .i64 0, .bool false] [.int .i64 0, .int .i64 0, .int .i64 0, .int .i64 0, .int .i64 0, .bool false] h 3 rfl (by kernel_rfl) ?_; intro w h
        refine sq_p (.int .i64 9) rfl (fun _ => by kernel_rfl) ?_
        refine lnil ?_
        refine thn_n ?_
        refine c_ret ?_
        refine ret_end [.agg #[.int .i64 0, .int .i64 0, .int .i64 0, .int .i64 0, .int .i64 0, .bool false], .int .i64 9] [0, 0] h (by kernel_rfl) (res_c 0 [.int .i64 0, .int .i64 0, .int .i64 0, .int .i64 0, .int .i64 0, .bool false] (.agg #[.int .i64 0, .int .i64 0, .int .i64 0, .int .i64 0, .int .i64 0, .bool false]) 3 rfl (by kernel_rfl) (res_t (by kernel_rfl) res_n)) ?_
        obtain rfl : wb = false := hc17
        exact .inr (.inr ⟨R10, hq11, hq12, hq13, R23, hR24, .inl ⟨hq25, rfl, rfl⟩⟩)
      · skip
        refine sq_st rfl 0 [.int .i64 0, .int .i64 0, .int .i64 0, .int .i64 0, .int .i64 0, .bool false] [.int .i64 0, .int .i64 0, .int .i64 0, .int .i64 0, .int .i64 0, .bool false] h 3 rfl (by kernel_rfl) ?_; intro w h
        refine sq_p (.int .i64 0) rfl (fun _ => by kernel_rfl) ?_
        refine lnil ?_
        refine thn_n ?_
        refine c_ret ?_
        refine ret_end [.agg #[.int .i64 0, .int .i64 0, .int .i64 0, .int .i64 0, .int .i64 0, .bool false], .int .i64 0] [0, 0] h (by kernel_rfl) (res_c 0 [.int .i64 0, .int .i64 0, .int .i64 0, .int .i64 0, .int .i64 0, .bool false] (.agg #[.int .i64 0, .int .i64 0, .int .i64 0, .int .i64 0, .int .i64 0, .bool false]) 3 rfl (by kernel_rfl) (res_t (by kernel_rfl) res_n)) ?_
        obtain rfl : wb = false := hc17
        exact .inr (.inr ⟨R10, hq11, hq12, hq13, R23, hR24, .inr ⟨hq26, _, rfl, rfl⟩⟩)
set_option maxHeartbeats 1000000 in
theorem runlock_spec (b : Nat) (v : Value) (l : List Paint) (hlen : l.length ≤ 45) (hok : ∀ p ∈ l, PntOk p) (n g o a s : Int)  : Spec Tryd.prog 25 #[.pointer (some ⟨b, 0, none⟩), .agg #[.int .i64 n, .int .i64 g], .int .i64 o, .agg #[.int .i64 a, .int .i64 s]] [rCell true b [v] 61, rRows true v 107 6 pntC l] (fun u L => (eOk a s = false ∧ u = .int .i64 2 ∧ L = [rCell true b [v] 61, rRows true v 107 6 pntC l]) ∨ (∃ R2, eOk a s = true ∧ ListOk (l ++ [((n, g), o, eF a s, endN (eT a s), 0)]) R2 ∧ ((60 < R2.length ∧ u = .int .i64 9 ∧ L = [rCell true b [v] 61, rRows true v 107 6 pntC l]) ∨ (R2.length ≤ 60 ∧ ∃ v', u = .int .i64 0 ∧ L = [rCell true b [v'] 61, rRows true v' 107 6 pntC (l ++ [((n, g), o, eF a s, endN (eT a s), 0)])])))) := by
  refine spec_of (#[.pointer (some ⟨b, 0, none⟩), .agg #[.int .i64 n, .int .i64 g], .int .i64 o, .agg #[.int .i64 a, .int .i64 s], undef, undef, undef, undef, undef, undef, undef, undef, undef, undef, undef, undef, undef, undef, undef, undef, undef, undef, undef, undef, undef, undef, undef]) Tryd.func25 rfl (by kernel_rfl) fun E w0 w h => ?_
  refine c_seq ?_
  refine c_reg ?_
  refine sq_new rfl (fun b => .pointer (some ⟨b, 0, none⟩)) [.int .i64 n, .int .i64 g] 33 (fun _ => by kernel_rfl) h ?_; intro k1 w h
  refine sq_new rfl (fun b => .pointer (some ⟨b, 0, none⟩)) [.int .i64 a, .int .i64 s] 63 (fun _ => by kernel_rfl) h ?_; intro k2 w h
  refine sq_p (.int .i64 0) rfl (fun _ => by kernel_rfl) ?_
  refine lnil ?_
  refine thn_n ?_
  refine c_seq ?_
  refine c_reg ?_
  refine sq_q rfl h (g_ld 0 [.int .i64 a, .int .i64 s] (.agg #[.int .i64 a, .int .i64 s]) (by kernel_rfl) 0 rfl) ?_
  refine sq_call #[.agg #[.int .i64 a, .int .i64 s]] [] rfl (rangeOf_spec a s) (fun _ => by kernel_rfl) h ?_; rintro v_ L_ w ⟨rfl, rfl⟩ h
  refine sq_p (.tuple #[.int .i64 (eF a s), .int .i64 (endN (eT a s)), .bool (eOk a s)]) rfl (fun _ => by kernel_rfl) ?_
  refine sq_p (.int .i64 (eF a s)) rfl (fun _ => by kernel_rfl) ?_
  refine sq_p (.int .i64 (endN (eT a s))) rfl (fun _ => by kernel_rfl) ?_
  refine sq_p (.bool (eOk a s)) rfl (fun _ => by kernel_rfl) ?_
  refine sq_p (.int .i64 (eF a s)) rfl (fun _ => by kernel_rfl) ?_
  refine sq_p (.int .i64 (endN (eT a s))) rfl (fun _ => by kernel_rfl) ?_
  refine sq_p (.bool (eOk a s)) rfl (fun _ => by kernel_rfl) ?_
  refine lnil ?_
  refine thn_n ?_
  refine c_seq ?_
  refine c_seq ?_
  refine c_reg ?_
  refine sq_p (.bool (eOk a s)) rfl (fun _ => by kernel_rfl) ?_
  refine sq_p (.bool (!(eOk a s))) rfl (fun _ => by kernel_rfl) ?_
  refine lnil ?_
  refine thn_n ?_
  refine c_cond (!(eOk a s)) (by kernel_rfl) (fun hc3 => ?_) (fun hc3 => ?_)
  · skip
    have q4 : (eOk a s) = false := by simpa using hc3
    have hE : eOk a s = false := by simpa using hc3
    refine c_seq ?_
    refine c_reg ?_
    refine sq_p (.int .i64 2) rfl (fun _ => by kernel_rfl) ?_
    refine lnil ?_
    refine thn_n ?_
    refine c_ret ?_
    refine thn_r ?_
    refine ret_end [.int .i64 2] [2, 2] h (by kernel_rfl) (res_t (by kernel_rfl) res_n) ?_
    exact .inl ⟨hE, rfl, rfl⟩
  · skip
    have q5 : (eOk a s) = true := by simpa using hc3
    have hE : eOk a s = true := by simpa using hc3
    refine c_skip ?_
    refine thn_n ?_
    refine c_seq ?_
    refine c_reg ?_
    refine sq_p (.pointer (some ⟨b, 0, none⟩)) rfl (fun _ => by kernel_rfl) ?_
    refine sq_q rfl h (g_ld 0 [.int .i64 n, .int .i64 g] (.agg #[.int .i64 n, .int .i64 g]) (by kernel_rfl) 1 rfl) ?_
    refine sq_p (.int .i64 o) rfl (fun _ => by kernel_rfl) ?_
    refine sq_p (.int .i64 (eF a s)) rfl (fun _ => by kernel_rfl) ?_
    refine sq_p (.int .i64 (endN (eT a s))) rfl (fun _ => by kernel_rfl) ?_
    refine sq_p (.agg #[.int .i64 n, .int .i64 g, .int .i64 o, .int .i64 (eF a s), .int .i64 (endN (eT a s)), .int .i64 0]) rfl (fun _ => by kernel_rfl) ?_
    refine sq_call #[.pointer (some ⟨b, 0, none⟩), .agg #[.int .i64 n, .int .i64 g, .int .i64 o, .int .i64 (eF a s), .int .i64 (endN (eT a s)), .int .i64 0]] [2, 2] rfl (brush_spec b v l hlen hok ((n, g), o, eF a s, endN (eT a s), 0) (pnt_new (eOk_rng hE) (by decide) (by decide))) (fun _ => by kernel_rfl) h ?_; rintro v_ L_ w (⟨R6, hR7, ⟨hq8, rfl, rfl⟩ | ⟨hq9, v10, rfl, rfl⟩⟩) h
    · skip
      refine sq_p (.int .i64 9) rfl (fun _ => by kernel_rfl) ?_
      refine lnil ?_
      refine thn_n ?_
      refine c_ret ?_
      refine ret_end [.int .i64 9] [0, 0] h (by kernel_rfl) (res_t (by kernel_rfl) res_n) ?_
      exact .inr ⟨R6, hE, hR7, .inl ⟨hq8, rfl, rfl⟩⟩
    · skip
      refine sq_p (.int .i64 0) rfl (fun _ => by kernel_rfl) ?_
      refine lnil ?_
      refine thn_n ?_
      refine c_ret ?_
      refine ret_end [.int .i64 0] [0, 0] h (by kernel_rfl) (res_t (by kernel_rfl) res_n) ?_
      exact .inr ⟨R6, hE, hR7, .inr ⟨hq9, _, rfl, rfl⟩⟩

theorem filt_take {l : List Paint} {k : Nat} {x : Paint} {p : Paint → Bool} (hx : l[k]? = some x) : (l.take (k + 1)).filter p = (l.take k).filter p ++ if p x then [x] else [] := by
  rw [List.take_add_one, hx, List.filter_append]
  cases h : p x <;> simp [h]

set_option maxHeartbeats 1000000 in
theorem rdrop_spec (b : Nat) (v : Value) (l : List Paint) (hlen : l.length ≤ 45) (hok : ∀ p ∈ l, PntOk p) (n g o : Int)  : Spec Tryd.prog 27 #[.pointer (some ⟨b, 0, none⟩), .agg #[.int .i64 n, .int .i64 g], .int .i64 o] [rCell true b [v] 61, rRows true v 107 6 pntC l] (fun u L => u = .int .i64 ((runsP l (n, g) o).length : Int) ∧ ∃ v', L = [rCell true b [v'] 61, rRows true v' 107 6 pntC (l.filter fun p => !mineN (n, g) o p)]) := by
  refine spec_of (#[.pointer (some ⟨b, 0, none⟩), .agg #[.int .i64 n, .int .i64 g], .int .i64 o, undef, undef, undef, undef, undef, undef, undef, undef, undef, undef, undef, undef, undef, undef, undef, undef, undef, undef, undef, undef, undef, undef, undef, undef, undef, undef, undef, undef, undef, undef, undef, undef, undef, undef, undef, undef, undef, undef, undef, undef, undef, undef, undef, undef, undef, undef, undef, undef, undef, undef, undef, undef, undef, undef, undef, undef, undef, undef, undef, undef, undef]) Tryd.func27 rfl (by kernel_rfl) fun E w0 w h => ?_
  refine c_seq ?_
  refine c_reg ?_
  refine sq_new rfl (fun b => .pointer (some ⟨b, 0, none⟩)) [.int .i64 n, .int .i64 g] 33 (fun _ => by kernel_rfl) h ?_; intro k1 w h
  refine sq_p (.int .i64 0) rfl (fun _ => by kernel_rfl) ?_
  refine lnil ?_
  refine thn_n ?_
  refine c_seq ?_
  refine d_start 9 [0, 0] (by kernel_rfl) h fun w h => ?_
  refine d_take 0 48 [0, 0] rfl (v := .pointer (some ⟨b, 0, none⟩)) (by kernel_rfl) (qp_thn qp_body) (yq (by kernel_rfl) (g_pure (v := .pointer (some ⟨b, 0, none⟩)) fun _ => by kernel_rfl)) h (by kernel_rfl) ?_
  refine d_take 1 49 [0, 0] rfl (v := .pointer (some ⟨b, 0, none⟩)) (by kernel_rfl) (qp_thn qp_body) (yq (by kernel_rfl) (g_pure (v := .pointer (some ⟨b, 0, none⟩)) fun _ => by kernel_rfl)) h (by kernel_rfl) ?_
  refine d_take 2 51 [0, 0] rfl (v := .pointer (some ⟨b, 0, none⟩)) (by kernel_rfl) (qp_thn qp_body) (yq (by kernel_rfl) (g_pure (v := .pointer (some ⟨b, 0, none⟩)) fun _ => by kernel_rfl)) h (by kernel_rfl) ?_
  refine d_take 3 55 [0, 0] rfl (v := v) (by kernel_rfl) (qp_thn qp_body) (yq (by kernel_rfl) (g_ld 0 [v] (v) (by kernel_rfl) 1 rfl)) h (by kernel_rfl) ?_
  refine d_take 4 47 [0, 0] rfl (v := .agg #[.int .i64 n, .int .i64 g]) (by kernel_rfl) (qp_thn qp_body) (yq (by kernel_rfl) (g_ld 0 [.int .i64 n, .int .i64 g] (.agg #[.int .i64 n, .int .i64 g]) (by kernel_rfl) 0 rfl)) h (by kernel_rfl) ?_
  refine d_take 5 31 [0, 0] rfl (v := .int .i64 o) (by kernel_rfl) (qp_thn qp_body) (yq (by kernel_rfl) (g_pure (v := .int .i64 o) fun _ => by kernel_rfl)) h (by kernel_rfl) ?_
  refine d_ready [6] (by kernel_rfl) rfl ?_
  refine ad_call #[v, .agg #[.int .i64 n, .int .i64 g], .int .i64 o] [2] [2, 2] rfl (by kernel_rfl) (runs_spec true v l n g o (by omega) hok) (fun _ => by kernel_rfl) h ?_ ?_
  · skip
    rintro v2 L_ w ⟨_, rfl, rfl⟩ h
    refine ⟨by kernel_rfl, ?_⟩
    have hRl := runsP_len l (n, g) o
    refine d_more [rRows true v2 70 6 runC (runsP l (n, g) o), rCell true k1 [.int .i64 n, .int .i64 g] 33, rCell true b [v] 61] [1, 1] (by kernel_rfl) ?_
    refine d_take 7 127 [0, 1, 1] rfl (v := .int .i64 ((runsP l (n, g) o).length : Int)) (by kernel_rfl) (qp_thn qp_body) (yq (by kernel_rfl) (g_len (by kernel_rfl) 0 rfl)) h (by kernel_rfl) ?_
    refine d_take 8 255 [0, 1, 1] rfl (v := .int .i64 ((runsP l (n, g) o).length : Int)) (by kernel_rfl) (qp_thn qp_body) (yq (by kernel_rfl) (g_pure (v := .int .i64 ((runsP l (n, g) o).length : Int)) fun _ => by kernel_rfl)) h (by kernel_rfl) ?_
    refine d_done (by kernel_rfl) ?_
    refine thn_n ?_
    refine c_seq ?_
    refine c_reg ?_
    refine sq_p (.slice none 0 0) rfl (fun _ => by kernel_rfl) ?_
    refine lnil ?_
    refine thn_n ?_
    refine c_seq ?_
    refine c_seq ?_
    refine c_reg ?_
    refine sq_p (.int .i64 0) rfl (fun _ => by kernel_rfl) ?_
    refine lnil ?_
    refine thn_n ?_
    refine c_block ?_
    have h := h.nilRows 107 6 pntC
    refine c_loop (X := Nat × List Paint × Value × (Nat → Value)) (fun ⟨i, out, vo, J0⟩ => ⟨#[.pointer (some ⟨b, 0, none⟩), .agg #[.int .i64 n, .int .i64 g], .int .i64 o, undef, .pointer (some ⟨k1, 0, none⟩), undef, .int .i64 0, .int .i64 ((runsP l (n, g) o).length : Int), vo, .int .i64 (i : Int), .pointer (some ⟨b, 0, none⟩), .pointer (some ⟨b, 0, none⟩), .pointer (some ⟨b, 0, none⟩), v, .agg #[.int .i64 n, .int .i64 g], .int .i64 o, v2, .int .i64 ((runsP l (n, g) o).length : Int), J0 18, J0 19, J0 20, J0 21, J0 22, J0 23, J0 24, J0 25, J0 26, J0 27, J0 28, J0 29, J0 30, J0 31, J0 32, J0 33, J0 34, J0 35, J0 36, J0 37, J0 38, J0 39, J0 40, J0 41, J0 42, J0 43, J0 44, J0 45, J0 46, J0 47, J0 48, J0 49, J0 50, J0 51, J0 52, J0 53, J0 54, J0 55, J0 56, J0 57, J0 58, undef, undef, undef, undef, undef], []⟩)
      (fun ⟨i, out, vo, J0⟩ => [rRows true vo 107 6 pntC out, rRows true v2 70 6 runC (runsP l (n, g) o), rRows true v 107 6 pntC l, rCell true k1 [.int .i64 n, .int .i64 g] 33, rCell true b [v] 61]) (fun ⟨i, out, vo, J0⟩ => i ≤ l.length ∧ out = (l.take i).filter (fun p => !mineN (n, g) o p)) (fun ⟨i, out, vo, J0⟩ => l.length - i)
      ⟨0, [], (.slice none 0 0), (fun n => (#[.pointer (some ⟨b, 0, none⟩), .agg #[.int .i64 n, .int .i64 g], .int .i64 o, undef, .pointer (some ⟨k1, 0, none⟩), undef, .int .i64 0, .int .i64 ((runsP l (n, g) o).length : Int), .slice none 0 0, .int .i64 0, .pointer (some ⟨b, 0, none⟩), .pointer (some ⟨b, 0, none⟩), .pointer (some ⟨b, 0, none⟩), v, .agg #[.int .i64 n, .int .i64 g], .int .i64 o, v2, .int .i64 ((runsP l (n, g) o).length : Int), undef, undef, undef, undef, undef, undef, undef, undef, undef, undef, undef, undef, undef, undef, undef, undef, undef, undef, undef, undef, undef, undef, undef, undef, undef, undef, undef, undef, undef, undef, undef, undef, undef, undef, undef, undef, undef, undef, undef, undef, undef, undef, undef, undef, undef, undef] : Array Value).getD n undef)⟩ ⟨by omega, rfl⟩ (by kernel_rfl) [0, 0, 0, 0, 0] (by kernel_rfl) h ?_
    rintro ⟨i, out, vo, J0⟩ w hG h
    obtain ⟨hi0, ho⟩ : i ≤ l.length ∧ out = (l.take i).filter (fun p => !mineN (n, g) o p) := hG
    have hol : out.length ≤ 1000 := by rw [ho]; have := List.length_filter_le (fun p => !mineN (n, g) o p) (l.take i); rw [List.length_take] at this; omega
    refine c_seq ?_
    refine c_seq ?_
    refine c_reg ?_
    refine sq_p (.int .i64 (i : Int)) rfl (fun _ => by kernel_rfl) ?_
    refine sq_p (.pointer (some ⟨b, 0, none⟩)) rfl (fun _ => by kernel_rfl) ?_
    refine sq_p (.pointer (some ⟨b, 0, none⟩)) rfl (fun _ => by kernel_rfl) ?_
    refine sq_p (.pointer (some ⟨b, 0, none⟩)) rfl (fun _ => by kernel_rfl) ?_
    refine sq_q rfl h (g_ld 0 [v] (v) (by kernel_rfl) 4 rfl) ?_
    refine sq_q rfl h (g_len (by kernel_rfl) 2 rfl) ?_
    refine sq_p (.bool (decide ((i : Int) < (l.length : Int)))) rfl (fun _ => by kernel_rfl) ?_
    refine lnil ?_
    refine thn_n ?_
    refine c_cond (decide ((i : Int) < (l.length : Int))) (by kernel_rfl) (fun hc3 => ?_) (fun hc3 => ?_)
    · skip
      have hc3 := of_decide_eq_true hc3
      refine c_skip ?_
      refine thn_n ?_
      refine c_seq ?_
      refine c_block ?_
      refine c_seq ?_
      refine d_start 22 [2, 2, 2] (by kernel_rfl) h fun w h => ?_
      refine d_take 0 272 [2, 2, 2] rfl (v := .pointer (some ⟨b, 0, none⟩)) (by kernel_rfl) (qp_thn (qp_blk (qp_thn (qp_rnd (qp_blk (qp_thn qp_body)))))) (yq (by kernel_rfl) (g_pure (v := .pointer (some ⟨b, 0, none⟩)) fun _ => by kernel_rfl)) h (by kernel_rfl) ?_
      refine d_take 1 273 [2, 2, 2] rfl (v := .pointer (some ⟨b, 0, none⟩)) (by kernel_rfl) (qp_thn (qp_blk (qp_thn (qp_rnd (qp_blk (qp_thn qp_body)))))) (yq (by kernel_rfl) (g_pure (v := .pointer (some ⟨b, 0, none⟩)) fun _ => by kernel_rfl)) h (by kernel_rfl) ?_
      refine d_take 2 275 [2, 2, 2] rfl (v := .pointer (some ⟨b, 0, none⟩)) (by kernel_rfl) (qp_thn (qp_blk (qp_thn (qp_rnd (qp_blk (qp_thn qp_body)))))) (yq (by kernel_rfl) (g_pure (v := .pointer (some ⟨b, 0, none⟩)) fun _ => by kernel_rfl)) h (by kernel_rfl) ?_
      refine d_take 3 279 [2, 2, 2] rfl (v := v) (by kernel_rfl) (qp_thn (qp_blk (qp_thn (qp_rnd (qp_blk (qp_thn qp_body)))))) (yq (by kernel_rfl) (g_ld 0 [v] (v) (by kernel_rfl) 2 rfl)) h (by kernel_rfl) ?_
      refine d_take 4 271 [2, 2, 2] rfl (v := .int .i64 (i : Int)) (by kernel_rfl) (qp_thn (qp_blk (qp_thn (qp_rnd (qp_blk (qp_thn qp_body)))))) (yq (by kernel_rfl) (g_pure (v := .int .i64 (i : Int)) fun _ => by kernel_rfl)) h (by kernel_rfl) ?_
      have hi4 : i < l.length := by omega
      obtain ⟨x5, hx6⟩ : ∃ x, l[i]? = some x := ⟨_, List.getElem?_eq_getElem hi4⟩
      refine d_take 5 287 [2, 2, 2] rfl (v := .pointer (some ⟨blkN v, offN v + i * 6, none⟩)) (by kernel_rfl) (qp_thn (qp_blk (qp_thn (qp_rnd (qp_blk (qp_thn qp_body)))))) (yq (by kernel_rfl) (g_idx i (by kernel_rfl) hi4 0 rfl)) h (by kernel_rfl) ?_
      refine d_take 6 319 [2, 2, 2] rfl (v := .pointer (some ⟨blkN v, offN v + i * 6, none⟩)) (by kernel_rfl) (qp_thn (qp_blk (qp_thn (qp_rnd (qp_blk (qp_thn qp_body)))))) (yq (by kernel_rfl) (g_pure (v := .pointer (some ⟨blkN v, offN v + i * 6, none⟩)) fun _ => by kernel_rfl)) h (by kernel_rfl) ?_
      refine d_take 7 383 [2, 2, 2] rfl (v := .agg #[.int .i64 x5.1.1, .int .i64 x5.1.2]) (by kernel_rfl) (qp_thn (qp_blk (qp_thn (qp_rnd (qp_blk (qp_thn qp_body)))))) (yq (by kernel_rfl) (g_ldr (b := blkN v) (offN v + i * 6) [.int .i64 x5.1.1, .int .i64 x5.1.2] (.agg #[.int .i64 x5.1.1, .int .i64 x5.1.2]) (by kernel_rfl) 0 rfl (rdRow0 pntC_len hx6 (by kernel_rfl)))) h (by kernel_rfl) ?_
      refine d_take 8 255 [2, 2, 2] rfl (v := .agg #[.int .i64 n, .int .i64 g]) (by kernel_rfl) (qp_thn (qp_blk (qp_thn (qp_rnd (qp_blk (qp_thn qp_body)))))) (yq (by kernel_rfl) (g_ld 0 [.int .i64 n, .int .i64 g] (.agg #[.int .i64 n, .int .i64 g]) (by kernel_rfl) 1 rfl)) h (by kernel_rfl) ?_
      obtain ⟨b7, hb7⟩ : ∃ b_ : Bool, b_ = (!((decide (x5.1.1 = n)) && (decide (x5.1.2 = g)))) := ⟨_, rfl⟩
      refine d_take 9 511 [2, 2, 2] rfl (v := .bool b7) (by kernel_rfl) (qp_thn (qp_blk (qp_thn (qp_rnd (qp_blk (qp_thn qp_body)))))) (yq (by kernel_rfl) (by subst hb7; exact g_neH (by kernel_rfl))) h (by kernel_rfl) ?_
      refine d_take 10 1023 [2, 2, 2] rfl (v := .bool b7) (by kernel_rfl) (qp_thn (qp_blk (qp_thn (qp_rnd (qp_blk (qp_thn qp_body)))))) (yq (by kernel_rfl) (g_pure (v := .bool b7) fun _ => by kernel_rfl)) h (by kernel_rfl) ?_
      refine d_take 11 559103 [2, 2, 2] rfl (by kernel_rfl) (qp_thn (qp_blk (qp_thn (qp_rnd (qp_blk (qp_thn qp_body)))))) (ym0 (v := .pointer (some ⟨b, 0, none⟩)) b7 (by cases b7 <;> kernel_rfl) (fun hB => by subst hB; exact g_pure (v := .pointer (some ⟨b, 0, none⟩)) fun _ => by kernel_rfl)) h (by kernel_rfl) ?_
      refine d_take 12 561151 [2, 2, 2] rfl (by kernel_rfl) (qp_thn (qp_blk (qp_thn (qp_rnd (qp_blk (qp_thn qp_body)))))) (ym0 (v := .pointer (some ⟨b, 0, none⟩)) b7 (by cases b7 <;> kernel_rfl) (fun hB => by subst hB; exact g_pure (v := .pointer (some ⟨b, 0, none⟩)) fun _ => by kernel_rfl)) h (by kernel_rfl) ?_
      refine d_take 13 565247 [2, 2, 2] rfl (by kernel_rfl) (qp_thn (qp_blk (qp_thn (qp_rnd (qp_blk (qp_thn qp_body)))))) (ym0 (v := .pointer (some ⟨b, 0, none⟩)) b7 (by cases b7 <;> kernel_rfl) (fun hB => by subst hB; exact g_pure (v := .pointer (some ⟨b, 0, none⟩)) fun _ => by kernel_rfl)) h (by kernel_rfl) ?_
      refine d_take 14 573439 [2, 2, 2] rfl (by kernel_rfl) (qp_thn (qp_blk (qp_thn (qp_rnd (qp_blk (qp_thn qp_body)))))) (ym0 (v := v) b7 (by cases b7 <;> kernel_rfl) (fun hB => by subst hB; exact g_ld 0 [v] (v) (by kernel_rfl) 2 rfl)) h (by kernel_rfl) ?_
      refine d_take 15 557055 [2, 2, 2] rfl (by kernel_rfl) (qp_thn (qp_blk (qp_thn (qp_rnd (qp_blk (qp_thn qp_body)))))) (ym0 (v := .int .i64 (i : Int)) b7 (by cases b7 <;> kernel_rfl) (fun hB => by subst hB; exact g_pure (v := .int .i64 (i : Int)) fun _ => by kernel_rfl)) h (by kernel_rfl) ?_
      refine d_take 16 589823 [2, 2, 2] rfl (by kernel_rfl) (qp_thn (qp_blk (qp_thn (qp_rnd (qp_blk (qp_thn qp_body)))))) (ym0 (v := .pointer (some ⟨blkN v, offN v + i * 6, none⟩)) b7 (by cases b7 <;> kernel_rfl) (fun hB => by subst hB; exact g_idx i (by kernel_rfl) hi4 0 rfl)) h (by kernel_rfl) ?_
      refine d_take 17 655359 [2, 2, 2] rfl (by kernel_rfl) (qp_thn (qp_blk (qp_thn (qp_rnd (qp_blk (qp_thn qp_body)))))) (ym0 (v := .pointer (some ⟨blkN v, offN v + i * 6 + 2, none⟩)) b7 (by cases b7 <;> kernel_rfl) (fun hB => by subst hB; exact g_pure (v := .pointer (some ⟨blkN v, offN v + i * 6 + 2, none⟩)) fun _ => by kernel_rfl)) h (by kernel_rfl) ?_
      refine d_take 18 786431 [2, 2, 2] rfl (by kernel_rfl) (qp_thn (qp_blk (qp_thn (qp_rnd (qp_blk (qp_thn qp_body)))))) (ym0 (v := .int .i64 x5.2.1) b7 (by cases b7 <;> kernel_rfl) (fun hB => by subst hB; exact g_ldr (b := blkN v) (offN v + i * 6 + 2) [.int .i64 x5.2.1] (.int .i64 x5.2.1) (by kernel_rfl) 0 rfl (rdRow pntC_len hx6 2 (by kernel_rfl)))) h (by kernel_rfl) ?_
      refine d_take 19 524287 [2, 2, 2] rfl (by kernel_rfl) (qp_thn (qp_blk (qp_thn (qp_rnd (qp_blk (qp_thn qp_body)))))) (ym0 (v := .int .i64 o) b7 (by cases b7 <;> kernel_rfl) (fun hB => by subst hB; exact g_pure (v := .int .i64 o) fun _ => by kernel_rfl)) h (by kernel_rfl) ?_
      obtain ⟨b8, hb8⟩ : ∃ b_ : Bool, b_ = (!(decide (x5.2.1 = o))) := ⟨_, rfl⟩
      refine d_take 20 1048575 [2, 2, 2] rfl (by kernel_rfl) (qp_thn (qp_blk (qp_thn (qp_rnd (qp_blk (qp_thn qp_body)))))) (ym0 (v := .bool b8) b7 (by cases b7 <;> kernel_rfl) (fun hB => by subst hB; exact by subst hb8; exact g_pure (v := .bool (!(decide (x5.2.1 = o)))) fun _ => by kernel_rfl)) h (by kernel_rfl) ?_
      obtain ⟨b9, hb9⟩ : ∃ b_ : Bool, b_ = (b7 || b8) := ⟨_, rfl⟩
      refine d_take 21 2097151 [2, 2, 2] rfl (v := .bool b9) (by kernel_rfl) (qp_thn (qp_blk (qp_thn (qp_rnd (qp_blk (qp_thn qp_body)))))) (yq (by kernel_rfl) (by subst hb9; exact g_pure (v := .bool (b7 || b8)) fun _ => by cases b7 <;> kernel_rfl)) h (by kernel_rfl) ?_
      refine d_done (by kernel_rfl) ?_
      refine thn_n ?_
      have hT : (!mineN (n, g) o x5) = b9 := by subst hb9 hb8 hb7; by_cases h1 : x5.1.1 = n <;> by_cases h2 : x5.1.2 = g <;> by_cases h3 : x5.2.1 = o <;> simp [mineN, h1, h2, h3, Prod.ext_iff]
      refine c_cond (b9) (by kernel_rfl) (fun hc10 => ?_) (fun hc10 => ?_)
      · skip
        have q11 : (b7 || b8) = true := by rw [← hb9]; exact hc10
        rw [hc10] at hT
        refine c_reg ?_
        refine sq_p (vo) rfl (fun _ => by kernel_rfl) ?_
        refine sq_p (.pointer (some ⟨b, 0, none⟩)) rfl (fun _ => by kernel_rfl) ?_
        refine sq_p (.pointer (some ⟨b, 0, none⟩)) rfl (fun _ => by kernel_rfl) ?_
        refine sq_p (.pointer (some ⟨b, 0, none⟩)) rfl (fun _ => by kernel_rfl) ?_
        refine sq_q rfl h (g_ld 0 [v] (v) (by kernel_rfl) 4 rfl) ?_
        refine sq_p (.int .i64 (i : Int)) rfl (fun _ => by kernel_rfl) ?_
        refine sq_q rfl h (g_idx i (by kernel_rfl) hi4 2 rfl) ?_
        refine sq_q rfl h (g_ldr (b := blkN v) (offN v + i * 6) [.int .i64 x5.1.1, .int .i64 x5.1.2, .int .i64 x5.2.1, .int .i64 x5.2.2.1, .int .i64 x5.2.2.2.1, .int .i64 x5.2.2.2.2] (.agg #[.int .i64 x5.1.1, .int .i64 x5.1.2, .int .i64 x5.2.1, .int .i64 x5.2.2.1, .int .i64 x5.2.2.2.1, .int .i64 x5.2.2.2.2]) (by kernel_rfl) 2 rfl (rdRow0 pntC_len hx6 (by kernel_rfl))) ?_
        refine sq_new rfl (fun b => .slice (some ⟨b, 0, none⟩) 1 1) [.int .i64 x5.1.1, .int .i64 x5.1.2, .int .i64 x5.2.1, .int .i64 x5.2.2.1, .int .i64 x5.2.2.2.1, .int .i64 x5.2.2.2.2] 107 (fun _ => by kernel_rfl) h ?_; intro k12 w h
        refine sq_app (b := k12) (o := 0) rfl 1 x5 (by kernel_rfl) h 1 rfl 0 rfl (rdCell 0 (by kernel_rfl)) (by (try simp only [List.length_append, List.length_cons, List.length_nil]); omega) ?_; intro v13 w h
        refine sq_p (v13) rfl (fun _ => by kernel_rfl) ?_
        refine lnil ?_
        refine blk_n (thn_n ?_)
        refine c_reg ?_
        refine sq_p (.int .i64 (i : Int)) rfl (fun _ => by kernel_rfl) ?_
        refine sq_q rfl h (g_eq (v := .int .i64 (IntKind.i64.wrap ((i : Int) + 1))) (v' := .int .i64 ((i + 1 : Nat) : Int)) (g_pure fun _ => by kernel_rfl) (wr (by omega))) ?_
        refine sq_p (.int .i64 ((i + 1 : Nat) : Int)) rfl (fun _ => by kernel_rfl) ?_
        refine lnil ?_
        have hQ14 : ((i + 1) ≤ l.length ∧ (out ++ [x5]) = (l.take (i + 1)).filter (fun p => !mineN (n, g) o p)) ∧ (l.length - (i + 1)) < (l.length - i) := ⟨⟨by omega, by rw [filt_take hx6, hT, ho]; simp⟩, by omega⟩
        refine loop_end (fun j => ⟨(i + 1), out ++ [x5], v13, j⟩) hQ14 (by kernel_rfl) [1, 1, 1, 1, 1] (by kernel_rfl) h
      · skip
        have q15 : (b7 || b8) = false := by rw [← hb9]; exact hc10
        have q16 : b7 = false := by revert q15; cases b7 <;> simp
        have q17 : b8 = false := by revert q15; cases b7 <;> cases b8 <;> simp
        have q18 : (!((decide (x5.1.1 = n)) && (decide (x5.1.2 = g)))) = false := by rw [← hb7]; exact q16
        have q19 : ((decide (x5.1.1 = n)) && (decide (x5.1.2 = g))) = true := by revert q18; cases ((decide (x5.1.1 = n)) && (decide (x5.1.2 = g))) <;> simp
        have q20 : (decide (x5.1.1 = n)) = true := by revert q19; cases (decide (x5.1.1 = n)) <;> simp
        have q21 : (decide (x5.1.2 = g)) = true := by revert q19; cases (decide (x5.1.1 = n)) <;> cases (decide (x5.1.2 = g)) <;> simp
        have q20 := of_decide_eq_true q20
        have q21 := of_decide_eq_true q21
        have q22 : (!(decide (x5.2.1 = o))) = false := by rw [← hb8]; exact q17
        have q23 : (decide (x5.2.1 = o)) = true := by simpa using q22
        have q23 := of_decide_eq_true q23
        rw [hc10] at hT
        refine c_skip ?_
        refine blk_n (thn_n ?_)
        refine c_reg ?_
        refine sq_p (.int .i64 (i : Int)) rfl (fun _ => by kernel_rfl) ?_
        refine sq_q rfl h (g_eq (v := .int .i64 (IntKind.i64.wrap ((i : Int) + 1))) (v' := .int .i64 ((i + 1 : Nat) : Int)) (g_pure fun _ => by kernel_rfl) (wr (by omega))) ?_
        refine sq_p (.int .i64 ((i + 1 : Nat) : Int)) rfl (fun _ => by kernel_rfl) ?_
        refine lnil ?_
        have hQ24 : ((i + 1) ≤ l.length ∧ out = (l.take (i + 1)).filter (fun p => !mineN (n, g) o p)) ∧ (l.length - (i + 1)) < (l.length - i) := ⟨⟨by omega, by rw [filt_take hx6, hT, ho]; simp⟩, by omega⟩
        refine loop_end (fun j => ⟨(i + 1), out, vo, j⟩) hQ24 (by kernel_rfl) [0, 0, 0, 0, 0] (by kernel_rfl) h
    · skip
      have hc3 := of_decide_eq_false hc3
      refine c_exit ?_
      refine thn_e (rnd_e (blk_e (thn_n ?_)))
      refine c_seq ?_
      refine c_reg ?_
      refine sq_p (.pointer (some ⟨b, 0, none⟩)) rfl (fun _ => by kernel_rfl) ?_
      refine sq_p (vo) rfl (fun _ => by kernel_rfl) ?_
      refine sq_p (.pointer (some ⟨b, 0, none⟩)) rfl (fun _ => by kernel_rfl) ?_
      refine sq_p (.pointer (some ⟨b, 0, none⟩)) rfl (fun _ => by kernel_rfl) ?_
      refine sq_sto rfl (h.slv 0 rfl) 0 [vo] h 4 rfl (by kernel_rfl) ?_; intro w h
      refine lnil ?_
      refine thn_n ?_
      refine c_seq ?_
      refine c_reg ?_
      refine sq_p (.int .i64 ((runsP l (n, g) o).length : Int)) rfl (fun _ => by kernel_rfl) ?_
      refine sq_p (.int .i64 ((runsP l (n, g) o).length : Int)) rfl (fun _ => by kernel_rfl) ?_
      refine lnil ?_
      refine thn_n ?_
      refine c_ret ?_
      refine ret_end [.int .i64 ((runsP l (n, g) o).length : Int)] [4, 0] h (by kernel_rfl) (res_t (by kernel_rfl) res_n) ?_
      rw [List.take_of_length_le (by omega)] at ho
      subst ho
      exact ⟨rfl, _, rfl⟩
  exact ad_nil
set_option maxHeartbeats 1000000 in
theorem lockOf_spec (a0 a1 a2 a3 a4 : Int) (a5 : Bool) : Spec Tryd.prog 21 #[.agg #[.int .i64 a0, .int .i64 a1, .int .i64 a2, .int .i64 a3, .int .i64 a4, .bool a5]] [] (fun u L => u = .agg #[.int .i64 a0, .int .i64 a1, .int .i64 a2, .int .i64 a3, .int .i64 a4, .bool a5] ∧ L = []) := by
  refine spec_of (#[.agg #[.int .i64 a0, .int .i64 a1, .int .i64 a2, .int .i64 a3, .int .i64 a4, .bool a5], undef, undef, undef, undef, undef, undef, undef, undef, undef, undef, undef]) Tryd.func21 rfl (by kernel_rfl) fun E w0 w h => ?_
  refine c_seq ?_
  refine c_reg ?_
  refine sq_new rfl (fun b => .pointer (some ⟨b, 0, none⟩)) [.int .i64 a0, .int .i64 a1, .int .i64 a2, .int .i64 a3, .int .i64 a4, .bool a5] 67 (fun _ => by kernel_rfl) h ?_; intro k1 w h
  refine sq_new rfl (fun b => .pointer (some ⟨b, 0, none⟩)) [.int .i64 0, .int .i64 0, .int .i64 0, .int .i64 0, .int .i64 0, .bool false] 70 (fun _ => by kernel_rfl) h ?_; intro k2 w h
  refine lnil ?_
  refine thn_n ?_
  refine c_seq ?_
  refine c_reg ?_
  refine sq_p (.pointer (some ⟨k1, 0, none⟩)) rfl (fun _ => by kernel_rfl) ?_
  refine sq_q rfl h (g_ld 0 [.int .i64 a0, .int .i64 a1] (.agg #[.int .i64 a0, .int .i64 a1]) (by kernel_rfl) 1 rfl) ?_
  refine sq_p (.pointer (some ⟨k1, 2, none⟩)) rfl (fun _ => by kernel_rfl) ?_
  refine sq_q rfl h (g_ld 2 [.int .i64 a2] (.int .i64 a2) (by kernel_rfl) 1 rfl) ?_
  refine sq_p (.pointer (some ⟨k1, 3, none⟩)) rfl (fun _ => by kernel_rfl) ?_
  refine sq_q rfl h (g_ld 3 [.int .i64 a3, .int .i64 a4] (.agg #[.int .i64 a3, .int .i64 a4]) (by kernel_rfl) 1 rfl) ?_
  refine sq_p (.pointer (some ⟨k1, 5, none⟩)) rfl (fun _ => by kernel_rfl) ?_
  refine sq_q rfl h (g_ld 5 [.bool a5] (.bool a5) (by kernel_rfl) 1 rfl) ?_
  refine sq_p (.agg #[.int .i64 a0, .int .i64 a1, .int .i64 a2, .int .i64 a3, .int .i64 a4, .bool a5]) rfl (fun _ => by kernel_rfl) ?_
  refine sq_st rfl 0 [.int .i64 a0, .int .i64 a1, .int .i64 a2, .int .i64 a3, .int .i64 a4, .bool a5] [.int .i64 a0, .int .i64 a1, .int .i64 a2, .int .i64 a3, .int .i64 a4, .bool a5] h 0 rfl (by kernel_rfl) ?_; intro w h
  refine lnil ?_
  refine thn_n ?_
  refine c_ret ?_
  refine ret_end [.agg #[.int .i64 a0, .int .i64 a1, .int .i64 a2, .int .i64 a3, .int .i64 a4, .bool a5]] [] h (by kernel_rfl) (res_c 0 [.int .i64 a0, .int .i64 a1, .int .i64 a2, .int .i64 a3, .int .i64 a4, .bool a5] (.agg #[.int .i64 a0, .int .i64 a1, .int .i64 a2, .int .i64 a3, .int .i64 a4, .bool a5]) 0 rfl (by kernel_rfl) res_n) ?_
  exact ⟨rfl, rfl⟩
set_option maxHeartbeats 1000000 in
theorem sameLocks_spec (va vb : Value) (l : List Run) (hl : l.length ≤ 1000) : Spec Tryd.prog 28 #[va, vb] [rRows true va 67 6 runC l, rRows true vb 70 6 runC l] (fun u L => u = .bool true ∧ L = [rRows true va 67 6 runC l, rRows true vb 70 6 runC l]) := by
  refine spec_of (#[va, vb, undef, undef, undef, undef, undef, undef, undef, undef, undef, undef, undef, undef, undef, undef, undef, undef, undef, undef, undef, undef, undef, undef, undef, undef, undef]) Tryd.func28 rfl (by kernel_rfl) fun E w0 w h => ?_
  refine c_seq ?_
  refine c_reg ?_
  refine sq_p (.bool false) rfl (fun _ => by kernel_rfl) ?_
  refine lnil ?_
  refine thn_n ?_
  refine c_seq ?_
  refine c_seq ?_
  refine c_reg ?_
  refine sq_p (va) rfl (fun _ => by kernel_rfl) ?_
  refine sq_q rfl h (g_len (by kernel_rfl) 0 rfl) ?_
  refine sq_p (vb) rfl (fun _ => by kernel_rfl) ?_
  refine sq_q rfl h (g_len (by kernel_rfl) 1 rfl) ?_
  refine sq_p (.bool (!(decide ((l.length : Int) = (l.length : Int))))) rfl (fun _ => by kernel_rfl) ?_
  refine lnil ?_
  refine thn_n ?_
  refine c_cond (!(decide ((l.length : Int) = (l.length : Int)))) (by kernel_rfl) (fun hc1 => ?_) (fun hc1 => ?_)
  · skip
    have q2 : (decide ((l.length : Int) = (l.length : Int))) = false := by simpa using hc1
    have q2 := of_decide_eq_false q2
    exfalso; omega
  · skip
    have q3 : (decide ((l.length : Int) = (l.length : Int))) = true := by simpa using hc1
    have q3 := of_decide_eq_true q3
    refine c_skip ?_
    refine thn_n ?_
    refine c_seq ?_
    refine c_seq ?_
    refine c_reg ?_
    refine sq_p (.int .i64 0) rfl (fun _ => by kernel_rfl) ?_
    refine lnil ?_
    refine thn_n ?_
    refine c_block ?_
    refine c_loop (X := Nat × (Nat → Value)) (fun ⟨i, J0⟩ => ⟨#[va, vb, undef, undef, J0 4, .int .i64 (i : Int), va, .int .i64 (l.length : Int), vb, .int .i64 (l.length : Int), .bool (!(decide ((l.length : Int) = (l.length : Int)))), J0 11, J0 12, J0 13, J0 14, J0 15, J0 16, J0 17, J0 18, J0 19, J0 20, J0 21, J0 22, J0 23, J0 24, J0 25, J0 26], []⟩)
      (fun ⟨i, J0⟩ => [rRows true va 67 6 runC l, rRows true vb 70 6 runC l]) (fun ⟨i, J0⟩ => i ≤ l.length) (fun ⟨i, J0⟩ => l.length - i)
      ⟨0, (fun n => (#[va, vb, undef, undef, .bool false, .int .i64 0, va, .int .i64 (l.length : Int), vb, .int .i64 (l.length : Int), .bool (!(decide ((l.length : Int) = (l.length : Int)))), undef, undef, undef, undef, undef, undef, undef, undef, undef, undef, undef, undef, undef, undef, undef, undef] : Array Value).getD n undef)⟩ (by omega) (by kernel_rfl) [0, 0] (by kernel_rfl) h ?_
    rintro ⟨i, J0⟩ w hG h
    have hi0 : i ≤ l.length := hG
    refine c_seq ?_
    refine c_seq ?_
    refine c_reg ?_
    refine sq_p (.int .i64 (i : Int)) rfl (fun _ => by kernel_rfl) ?_
    refine sq_p (va) rfl (fun _ => by kernel_rfl) ?_
    refine sq_q rfl h (g_len (by kernel_rfl) 0 rfl) ?_
    refine sq_p (.bool (decide ((i : Int) < (l.length : Int)))) rfl (fun _ => by kernel_rfl) ?_
    refine lnil ?_
    refine thn_n ?_
    refine c_cond (decide ((i : Int) < (l.length : Int))) (by kernel_rfl) (fun hc4 => ?_) (fun hc4 => ?_)
    · skip
      have hc4 := of_decide_eq_true hc4
      refine c_skip ?_
      refine thn_n ?_
      refine c_seq ?_
      refine c_block ?_
      refine c_seq ?_
      refine d_start 10 [0, 0] (by kernel_rfl) h fun w h => ?_
      refine d_take 0 482 [0, 0] rfl (v := va) (by kernel_rfl) (qp_thn (qp_blk (qp_thn (qp_rnd (qp_blk (qp_thn qp_body)))))) (yq (by kernel_rfl) (g_pure (v := va) fun _ => by kernel_rfl)) h (by kernel_rfl) ?_
      refine d_take 1 481 [0, 0] rfl (v := .int .i64 (i : Int)) (by kernel_rfl) (qp_thn (qp_blk (qp_thn (qp_rnd (qp_blk (qp_thn qp_body)))))) (yq (by kernel_rfl) (g_pure (v := .int .i64 (i : Int)) fun _ => by kernel_rfl)) h (by kernel_rfl) ?_
      have hi5 : i < l.length := by omega
      obtain ⟨x6, hx7⟩ : ∃ x, l[i]? = some x := ⟨_, List.getElem?_eq_getElem hi5⟩
      refine d_take 2 483 [0, 0] rfl (v := .pointer (some ⟨blkN va, offN va + i * 6, none⟩)) (by kernel_rfl) (qp_thn (qp_blk (qp_thn (qp_rnd (qp_blk (qp_thn qp_body)))))) (yq (by kernel_rfl) (g_idx i (by kernel_rfl) hi5 0 rfl)) h (by kernel_rfl) ?_
      refine d_take 3 487 [0, 0] rfl (v := .agg #[.int .i64 x6.1.1, .int .i64 x6.1.2, .int .i64 x6.2.1, .int .i64 x6.2.2.1, .int .i64 x6.2.2.2.1, .bool x6.2.2.2.2]) (by kernel_rfl) (qp_thn (qp_blk (qp_thn (qp_rnd (qp_blk (qp_thn qp_body)))))) (yq (by kernel_rfl) (g_ldr (b := blkN va) (offN va + i * 6) [.int .i64 x6.1.1, .int .i64 x6.1.2, .int .i64 x6.2.1, .int .i64 x6.2.2.1, .int .i64 x6.2.2.2.1, .bool x6.2.2.2.2] (.agg #[.int .i64 x6.1.1, .int .i64 x6.1.2, .int .i64 x6.2.1, .int .i64 x6.2.2.1, .int .i64 x6.2.2.2.1, .bool x6.2.2.2.2]) (by kernel_rfl) 0 rfl (rdRow0 runC_len hx7 (by kernel_rfl)))) h (by kernel_rfl) ?_
      refine d_take 5 95 [0, 0] rfl (v := vb) (by kernel_rfl) (qp_thn (qp_blk (qp_thn (qp_rnd (qp_blk (qp_thn qp_body)))))) (yq (by kernel_rfl) (g_pure (v := vb) fun _ => by kernel_rfl)) h (by kernel_rfl) ?_
      refine d_take 6 63 [0, 0] rfl (v := .int .i64 (i : Int)) (by kernel_rfl) (qp_thn (qp_blk (qp_thn (qp_rnd (qp_blk (qp_thn qp_body)))))) (yq (by kernel_rfl) (g_pure (v := .int .i64 (i : Int)) fun _ => by kernel_rfl)) h (by kernel_rfl) ?_
      have hi8 : i < l.length := by omega
      obtain ⟨x9, hx10⟩ : ∃ x, l[i]? = some x := ⟨_, List.getElem?_eq_getElem hi8⟩
      refine d_take 7 127 [0, 0] rfl (v := .pointer (some ⟨blkN vb, offN vb + i * 6, none⟩)) (by kernel_rfl) (qp_thn (qp_blk (qp_thn (qp_rnd (qp_blk (qp_thn qp_body)))))) (yq (by kernel_rfl) (g_idx i (by kernel_rfl) hi8 1 rfl)) h (by kernel_rfl) ?_
      refine d_take 8 255 [0, 0] rfl (v := .agg #[.int .i64 x9.1.1, .int .i64 x9.1.2, .int .i64 x9.2.1, .int .i64 x9.2.2.1, .int .i64 x9.2.2.2.1, .bool x9.2.2.2.2]) (by kernel_rfl) (qp_thn (qp_blk (qp_thn (qp_rnd (qp_blk (qp_thn qp_body)))))) (yq (by kernel_rfl) (g_ldr (b := blkN vb) (offN vb + i * 6) [.int .i64 x9.1.1, .int .i64 x9.1.2, .int .i64 x9.2.1, .int .i64 x9.2.2.1, .int .i64 x9.2.2.2.1, .bool x9.2.2.2.2] (.agg #[.int .i64 x9.1.1, .int .i64 x9.1.2, .int .i64 x9.2.1, .int .i64 x9.2.2.1, .int .i64 x9.2.2.2.1, .bool x9.2.2.2.2]) (by kernel_rfl) 1 rfl (rdRow0 runC_len hx10 (by kernel_rfl)))) h (by kernel_rfl) ?_
      refine d_ready [4] (by kernel_rfl) rfl ?_
      refine ad_call #[.agg #[.int .i64 x6.1.1, .int .i64 x6.1.2, .int .i64 x6.2.1, .int .i64 x6.2.2.1, .int .i64 x6.2.2.2.1, .bool x6.2.2.2.2]] [] [0, 0] rfl (by kernel_rfl) (lockOf_spec x6.1.1 x6.1.2 x6.2.1 x6.2.2.1 x6.2.2.2.1 x6.2.2.2.2) (fun _ => by kernel_rfl) h ?_ ?_
      · skip
        rintro v_ L_ w ⟨rfl, rfl⟩ h
        refine ⟨by kernel_rfl, ?_⟩
        refine d_take 9 511 [0, 0] rfl (v := .bool (!((decide (x6.1.1 = x9.1.1)) && ((decide (x6.1.2 = x9.1.2)) && ((decide (x6.2.1 = x9.2.1)) && ((decide (x6.2.2.1 = x9.2.2.1)) && ((decide (x6.2.2.2.1 = x9.2.2.2.1)) && (x6.2.2.2.2 == x9.2.2.2.2)))))))) (by kernel_rfl) (qp_thn (qp_blk (qp_thn (qp_rnd (qp_blk (qp_thn qp_body)))))) (yq (by kernel_rfl) (g_neL6 (by kernel_rfl))) h (by kernel_rfl) ?_
        refine d_done (by kernel_rfl) ?_
        refine thn_n ?_
        refine c_cond (!((decide (x6.1.1 = x9.1.1)) && ((decide (x6.1.2 = x9.1.2)) && ((decide (x6.2.1 = x9.2.1)) && ((decide (x6.2.2.1 = x9.2.2.1)) && ((decide (x6.2.2.2.1 = x9.2.2.2.1)) && (x6.2.2.2.2 == x9.2.2.2.2))))))) (by kernel_rfl) (fun hc11 => ?_) (fun hc11 => ?_)
        · skip
          have q12 : ((decide (x6.1.1 = x9.1.1)) && ((decide (x6.1.2 = x9.1.2)) && ((decide (x6.2.1 = x9.2.1)) && ((decide (x6.2.2.1 = x9.2.2.1)) && ((decide (x6.2.2.2.1 = x9.2.2.2.1)) && (x6.2.2.2.2 == x9.2.2.2.2)))))) = false := by revert hc11; cases ((decide (x6.1.1 = x9.1.1)) && ((decide (x6.1.2 = x9.1.2)) && ((decide (x6.2.1 = x9.2.1)) && ((decide (x6.2.2.1 = x9.2.2.1)) && ((decide (x6.2.2.2.1 = x9.2.2.2.1)) && (x6.2.2.2.2 == x9.2.2.2.2)))))) <;> simp
          rw [hx7] at hx10; cases hx10; simp at hc11
        · skip
          have q13 : ((decide (x6.1.1 = x9.1.1)) && ((decide (x6.1.2 = x9.1.2)) && ((decide (x6.2.1 = x9.2.1)) && ((decide (x6.2.2.1 = x9.2.2.1)) && ((decide (x6.2.2.2.1 = x9.2.2.2.1)) && (x6.2.2.2.2 == x9.2.2.2.2)))))) = true := by revert hc11; cases ((decide (x6.1.1 = x9.1.1)) && ((decide (x6.1.2 = x9.1.2)) && ((decide (x6.2.1 = x9.2.1)) && ((decide (x6.2.2.1 = x9.2.2.1)) && ((decide (x6.2.2.2.1 = x9.2.2.2.1)) && (x6.2.2.2.2 == x9.2.2.2.2)))))) <;> simp
          have q14 : (decide (x6.1.1 = x9.1.1)) = true := by revert q13; cases (decide (x6.1.1 = x9.1.1)) <;> simp
          have q15 : ((decide (x6.1.2 = x9.1.2)) && ((decide (x6.2.1 = x9.2.1)) && ((decide (x6.2.2.1 = x9.2.2.1)) && ((decide (x6.2.2.2.1 = x9.2.2.2.1)) && (x6.2.2.2.2 == x9.2.2.2.2))))) = true := by revert q13; cases (decide (x6.1.1 = x9.1.1)) <;> cases ((decide (x6.1.2 = x9.1.2)) && ((decide (x6.2.1 = x9.2.1)) && ((decide (x6.2.2.1 = x9.2.2.1)) && ((decide (x6.2.2.2.1 = x9.2.2.2.1)) && (x6.2.2.2.2 == x9.2.2.2.2))))) <;> simp
          have q14 := of_decide_eq_true q14
          have q16 : (decide (x6.1.2 = x9.1.2)) = true := by revert q15; cases (decide (x6.1.2 = x9.1.2)) <;> simp
          have q17 : ((decide (x6.2.1 = x9.2.1)) && ((decide (x6.2.2.1 = x9.2.2.1)) && ((decide (x6.2.2.2.1 = x9.2.2.2.1)) && (x6.2.2.2.2 == x9.2.2.2.2)))) = true := by revert q15; cases (decide (x6.1.2 = x9.1.2)) <;> cases ((decide (x6.2.1 = x9.2.1)) && ((decide (x6.2.2.1 = x9.2.2.1)) && ((decide (x6.2.2.2.1 = x9.2.2.2.1)) && (x6.2.2.2.2 == x9.2.2.2.2)))) <;> simp
          have q16 := of_decide_eq_true q16
          have q18 : (decide (x6.2.1 = x9.2.1)) = true := by revert q17; cases (decide (x6.2.1 = x9.2.1)) <;> simp
          have q19 : ((decide (x6.2.2.1 = x9.2.2.1)) && ((decide (x6.2.2.2.1 = x9.2.2.2.1)) && (x6.2.2.2.2 == x9.2.2.2.2))) = true := by revert q17; cases (decide (x6.2.1 = x9.2.1)) <;> cases ((decide (x6.2.2.1 = x9.2.2.1)) && ((decide (x6.2.2.2.1 = x9.2.2.2.1)) && (x6.2.2.2.2 == x9.2.2.2.2))) <;> simp
          have q18 := of_decide_eq_true q18
          have q20 : (decide (x6.2.2.1 = x9.2.2.1)) = true := by revert q19; cases (decide (x6.2.2.1 = x9.2.2.1)) <;> simp
          have q21 : ((decide (x6.2.2.2.1 = x9.2.2.2.1)) && (x6.2.2.2.2 == x9.2.2.2.2)) = true := by revert q19; cases (decide (x6.2.2.1 = x9.2.2.1)) <;> cases ((decide (x6.2.2.2.1 = x9.2.2.2.1)) && (x6.2.2.2.2 == x9.2.2.2.2)) <;> simp
          have q20 := of_decide_eq_true q20
          have q22 : (decide (x6.2.2.2.1 = x9.2.2.2.1)) = true := by revert q21; cases (decide (x6.2.2.2.1 = x9.2.2.2.1)) <;> simp
          have q23 : (x6.2.2.2.2 == x9.2.2.2.2) = true := by revert q21; cases (decide (x6.2.2.2.1 = x9.2.2.2.1)) <;> cases (x6.2.2.2.2 == x9.2.2.2.2) <;> simp
          have q22 := of_decide_eq_true q22
          have q23 := eq_of_beq q23
          refine c_skip ?_
          refine blk_n (thn_n ?_)
          refine c_reg ?_
          refine sq_p (.int .i64 (i : Int)) rfl (fun _ => by kernel_rfl) ?_
          refine sq_q rfl h (g_eq (v := .int .i64 (IntKind.i64.wrap ((i : Int) + 1))) (v' := .int .i64 ((i + 1 : Nat) : Int)) (g_pure fun _ => by kernel_rfl) (wr (by omega))) ?_
          refine sq_p (.int .i64 ((i + 1 : Nat) : Int)) rfl (fun _ => by kernel_rfl) ?_
          refine lnil ?_
          have hQ24 : ((i + 1) ≤ l.length) ∧ (l.length - (i + 1)) < (l.length - i) := ⟨by omega, by omega⟩
          refine loop_end (fun j => ⟨(i + 1), j⟩) hQ24 (by kernel_rfl) [0, 0] (by kernel_rfl) h
      exact ad_nil
    · skip
      have hc4 := of_decide_eq_false hc4
      refine c_exit ?_
      refine thn_e (rnd_e (blk_e (thn_n ?_)))
      refine c_seq ?_
      refine c_reg ?_
      refine sq_p (.bool true) rfl (fun _ => by kernel_rfl) ?_
      refine lnil ?_
      refine thn_n ?_
      refine c_ret ?_
      refine ret_end [.bool true] [0, 0] h (by kernel_rfl) (res_t (by kernel_rfl) res_n) ?_
      exact ⟨rfl, rfl⟩
end Go.Proofs.YtgebinfbbopnlaaDoor
