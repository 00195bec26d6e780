/- lock: contracts by what is owned (printed by walk.py). -/
import Derived.Test.YtgebinfbbopnlaaDoorEqs
import Derived.Test.YtgebinfbbopnlaaDoorEnvR
import Derived.Test.YtgebinfbbopnlaaDoorLock2
namespace Go.Proofs.YtgebinfbbopnlaaDoor
open Go.RowKit
set_option linter.unusedVariables false
set_option linter.unusedSimpArgs false
set_option linter.unnecessarySimpa false
set_option maxRecDepth 100000

theorem cut_take {l : List Run} {k : Nat} {x : Run} (hx : l[k]? = some x) (h : Int × Int) (o f t : Int) : cutL (l.take (k + 1)) h o f t = cutL (l.take k) h o f t ++ cutR h o f t x := by
  unfold cutL
  rw [List.take_add_one, hx]
  simp
theorem cut_all {l : List Run} {k : Nat} (hk : l.length ≤ k) (h : Int × Int) (o f t : Int) : cutL (l.take k) h o f t = cutL l h o f t := by rw [List.take_of_length_le hk]
def eF (a s : Int) : Int := match endsP a s with | some p => p.1 | none => 0
def eT (a s : Int) : Int := match endsP a s with | some p => p.2 | none => 0
def eOk (a s : Int) : Bool := (endsP a s).isSome
theorem e_none {a s : Int} (h : a < 0 ∨ 1099511627776 < a ∨ s < 0 ∨ 1099511627776 < s) : endsP a s = none := if_pos h
theorem e_end {a s : Int} (h : ¬ (a < 0 ∨ 1099511627776 < a ∨ s < 0 ∨ 1099511627776 < s)) (h0 : s = 0) : endsP a s = some (a, 1152921504606846976) := by unfold endsP; rw [if_neg h, if_pos h0]
theorem e_some {a s : Int} (h : ¬ (a < 0 ∨ 1099511627776 < a ∨ s < 0 ∨ 1099511627776 < s)) (h0 : ¬ s = 0) : endsP a s = some (a, a + s) := by unfold endsP; rw [if_neg h, if_neg h0]
theorem eOk_rng {a s : Int} (h : eOk a s = true) : RngR (eF a s) (eT a s) := by
  unfold eOk at h
  unfold eF eT
  cases he : endsP a s with
  | none => rw [he] at h; cases h
  | some p => exact endsP_rng (f := p.1) (t := p.2) he
theorem clone_run {wr : Bool} {v : Value} {l : List Run} (hl : l.length ≤ 1000000) : Spec Tryd.prog 54 #[v] [rRows wr v 104 6 runC l] fun u L => ∃ v', u = v' ∧ L = [rRows true v' 104 6 runC l, rRows wr v 104 6 runC l] :=
  spec_fresh fun w hs => cloneRun_any w hs hl
theorem sort_lock {v : Value} {l : List Run} (hl : l.length ≤ 1000000) : Spec Tryd.prog 50 #[v, .func (.func 55) #[] #[]] [rRows true v 104 6 runC l] fun z L => ∃ l' : List Run, (l'.Perm l ∧ l'.Pairwise (fun x y => ¬ lockCf y x < 0)) ∧ z = .tuple #[] ∧ L = [rRows true v 104 6 runC l'] :=
  spec_turn (X := List Run) (r := fun _ => v) (n' := fun l' => l'.length) (xs' := fun l' => l'.flatMap runC) (u := fun _ => .tuple #[]) fun w hs => (sortRun_any lockCf swo_lock 55 #[] (enters_of Tryd.func55 (by kernel_rfl) rfl) w hs hl (fun W x y _ => lockOrder_any x y W)).mono fun e w' ⟨he, l', hp, ho, hs', hc⟩ => ⟨l', ⟨hp, ho⟩, he, by rw [hp.length_eq]; exact hs', hc⟩
theorem sort_join {v : Value} {l : List Run} (hl : l.length ≤ 1000000) : Spec Tryd.prog 50 #[v, .func (.func 51) #[] #[]] [rRows true v 104 6 runC l] fun z L => ∃ l' : List Run, (l'.Perm l ∧ l'.Pairwise (fun x y => ¬ joinCf y x < 0)) ∧ z = .tuple #[] ∧ L = [rRows true v 104 6 runC l'] :=
  spec_turn (X := List Run) (r := fun _ => v) (n' := fun l' => l'.length) (xs' := fun l' => l'.flatMap runC) (u := fun _ => .tuple #[]) fun w hs => (sortRun_any joinCf swo_join 51 #[] (enters_of Tryd.func51 (by kernel_rfl) rfl) w hs hl (fun W x y _ => joinOrder_any x y W)).mono fun e w' ⟨he, l', hp, ho, hs', hc⟩ => ⟨l', ⟨hp, ho⟩, he, by rw [hp.length_eq]; exact hs', hc⟩

set_option maxHeartbeats 1000000 in
theorem ends_spec (a s : Int) : Spec Tryd.prog 35 #[.agg #[.int .i64 a, .int .i64 s]] [] (fun u L => u = .tuple #[.int .i64 (eF a s), .int .i64 (eT a s), .bool (eOk a s)] ∧ L = []) := by
  refine spec_of (#[.agg #[.int .i64 a, .int .i64 s], undef, undef, undef, undef, undef, undef, undef, undef, undef, undef, undef, undef, undef, undef, undef, undef, undef, undef, undef, undef, undef, undef, undef, undef, undef, undef, undef, undef, undef, undef, undef, undef, undef, undef]) Tryd.func35 rfl (by kernel_rfl) fun E w0 w h => ?_
  refine c_seq ?_
  refine c_reg ?_
  refine sq_new rfl (fun b => .pointer (some ⟨b, 0, none⟩)) [.int .i64 a, .int .i64 s] 63 (fun _ => by kernel_rfl) h ?_; intro k1 w h
  refine sq_p (.int .i64 0) rfl (fun _ => by kernel_rfl) ?_
  refine sq_p (.int .i64 0) rfl (fun _ => by kernel_rfl) ?_
  refine sq_p (.bool false) rfl (fun _ => by kernel_rfl) ?_
  refine lnil ?_
  refine thn_n ?_
  refine c_seq ?_
  refine c_seq ?_
  refine c_reg ?_
  refine sq_p (.pointer (some ⟨k1, 0, none⟩)) rfl (fun _ => by kernel_rfl) ?_
  refine sq_q rfl h (g_ld 0 [.int .i64 a] (.int .i64 a) (by kernel_rfl) 0 rfl) ?_
  obtain ⟨b2, hb2⟩ : ∃ b_ : Bool, b_ = (decide (a < 0)) := ⟨_, rfl⟩
  refine sq_q (v := .bool b2) rfl h (by subst hb2; exact g_pure (v := .bool (decide (a < 0))) fun _ => by kernel_rfl) ?_
  refine sq_p (.bool b2) rfl (fun _ => by kernel_rfl) ?_
  refine sq_m0 (v := .pointer (some ⟨k1, 0, none⟩)) b2 (by cases b2 <;> kernel_rfl) h (fun hB => by subst hB; exact g_pure (v := .pointer (some ⟨k1, 0, none⟩)) fun _ => by kernel_rfl) ?_
  refine sq_m0 (v := .int .i64 a) b2 (by cases b2 <;> kernel_rfl) h (fun hB => by subst hB; exact g_ld 0 [.int .i64 a] (.int .i64 a) (by kernel_rfl) 0 rfl) ?_
  obtain ⟨b3, hb3⟩ : ∃ b_ : Bool, b_ = (decide (a > 1099511627776)) := ⟨_, rfl⟩
  refine sq_m0 (v := .bool b3) b2 (by cases b2 <;> kernel_rfl) h (fun hB => by subst hB; exact by subst hb3; exact g_pure (v := .bool (decide (a > 1099511627776))) fun _ => by kernel_rfl) ?_
  obtain ⟨b4, hb4⟩ : ∃ b_ : Bool, b_ = (b2 || b3) := ⟨_, rfl⟩
  refine sq_q (v := .bool b4) rfl h (by subst hb4; exact g_pure (v := .bool (b2 || b3)) fun _ => by cases b2 <;> kernel_rfl) ?_
  refine sq_p (.bool b4) rfl (fun _ => by kernel_rfl) ?_
  refine sq_m0 (v := .pointer (some ⟨k1, 1, none⟩)) b4 (by cases b4 <;> kernel_rfl) h (fun hB => by subst hB; exact g_pure (v := .pointer (some ⟨k1, 1, none⟩)) fun _ => by kernel_rfl) ?_
  refine sq_m0 (v := .int .i64 s) b4 (by cases b4 <;> kernel_rfl) h (fun hB => by subst hB; exact g_ld 1 [.int .i64 s] (.int .i64 s) (by kernel_rfl) 0 rfl) ?_
  obtain ⟨b5, hb5⟩ : ∃ b_ : Bool, b_ = (decide (s < 0)) := ⟨_, rfl⟩
  refine sq_m0 (v := .bool b5) b4 (by cases b4 <;> kernel_rfl) h (fun hB => by subst hB; exact by subst hb5; exact g_pure (v := .bool (decide (s < 0))) fun _ => by kernel_rfl) ?_
  obtain ⟨b6, hb6⟩ : ∃ b_ : Bool, b_ = (b4 || b5) := ⟨_, rfl⟩
  refine sq_q (v := .bool b6) rfl h (by subst hb6; exact g_pure (v := .bool (b4 || b5)) fun _ => by cases b4 <;> kernel_rfl) ?_
  refine sq_p (.bool b6) rfl (fun _ => by kernel_rfl) ?_
  refine sq_m0 (v := .pointer (some ⟨k1, 1, none⟩)) b6 (by cases b6 <;> kernel_rfl) h (fun hB => by subst hB; exact g_pure (v := .pointer (some ⟨k1, 1, none⟩)) fun _ => by kernel_rfl) ?_
  refine sq_m0 (v := .int .i64 s) b6 (by cases b6 <;> kernel_rfl) h (fun hB => by subst hB; exact g_ld 1 [.int .i64 s] (.int .i64 s) (by kernel_rfl) 0 rfl) ?_
  obtain ⟨b7, hb7⟩ : ∃ b_ : Bool, b_ = (decide (s > 1099511627776)) := ⟨_, rfl⟩
  refine sq_m0 (v := .bool b7) b6 (by cases b6 <;> kernel_rfl) h (fun hB => by subst hB; exact by subst hb7; exact g_pure (v := .bool (decide (s > 1099511627776))) fun _ => by kernel_rfl) ?_
  obtain ⟨b8, hb8⟩ : ∃ b_ : Bool, b_ = (b6 || b7) := ⟨_, rfl⟩
  refine sq_q (v := .bool b8) rfl h (by subst hb8; exact g_pure (v := .bool (b6 || b7)) fun _ => by cases b6 <;> kernel_rfl) ?_
  refine lnil ?_
  refine thn_n ?_
  refine c_cond (b8) (by kernel_rfl) (fun hc9 => ?_) (fun hc9 => ?_)
  · skip
    have q10 : (b6 || b7) = true := by rw [← hb8]; exact hc9
    have q11 : ((((a < 0) ∨ (a > 1099511627776)) ∨ (s < 0)) ∨ (s > 1099511627776)) := by subst hb7; subst hb6; subst hb5; subst hb4; subst hb3; subst hb2; revert q10; first | (simp; done) | (simp; omega)
    refine c_seq ?_
    refine c_reg ?_
    refine sq_p (.int .i64 0) rfl (fun _ => by kernel_rfl) ?_
    refine sq_p (.int .i64 0) rfl (fun _ => by kernel_rfl) ?_
    refine sq_p (.bool false) rfl (fun _ => by kernel_rfl) ?_
    refine lnil ?_
    refine thn_n ?_
    refine c_ret ?_
    refine thn_r ?_
    refine ret_end [.int .i64 0, .int .i64 0, .bool false] [] h (by kernel_rfl) (res_t (by kernel_rfl) (res_t (by kernel_rfl) (res_t (by kernel_rfl) res_n))) ?_
    have he : endsP a s = none := e_none (by subst hb8 hb7 hb6 hb5 hb4 hb3 hb2; revert hc9; simp; omega)
    exact ⟨by simp [retV, eF, eT, eOk, he], rfl⟩
  · skip
    have q12 : (b6 || b7) = false := by rw [← hb8]; exact hc9
    have q13 : b6 = false := by revert q12; cases b6 <;> simp
    have q14 : b7 = false := by revert q12; cases b6 <;> cases b7 <;> simp
    have q15 : (b4 || b5) = false := by rw [← hb6]; exact q13
    have q16 : b4 = false := by revert q15; cases b4 <;> simp
    have q17 : b5 = false := by revert q15; cases b4 <;> cases b5 <;> simp
    have q18 : (b2 || b3) = false := by rw [← hb4]; exact q16
    have q19 : b2 = false := by revert q18; cases b2 <;> simp
    have q20 : b3 = false := by revert q18; cases b2 <;> cases b3 <;> simp
    have q21 : (decide (a < 0)) = false := by rw [← hb2]; exact q19
    have q21 := of_decide_eq_false q21
    have q22 : (decide (a > 1099511627776)) = false := by rw [← hb3]; exact q20
    have q22 := of_decide_eq_false q22
    have q23 : (decide (s < 0)) = false := by rw [← hb5]; exact q17
    have q23 := of_decide_eq_false q23
    have q24 : (decide (s > 1099511627776)) = false := by rw [← hb7]; exact q14
    have q24 := of_decide_eq_false q24
    refine c_skip ?_
    refine thn_n ?_
    refine c_seq ?_
    refine c_seq ?_
    refine c_reg ?_
    refine sq_p (.pointer (some ⟨k1, 1, none⟩)) rfl (fun _ => by kernel_rfl) ?_
    refine sq_q rfl h (g_ld 1 [.int .i64 s] (.int .i64 s) (by kernel_rfl) 0 rfl) ?_
    refine sq_p (.bool (decide (s = 0))) rfl (fun _ => by kernel_rfl) ?_
    refine lnil ?_
    refine thn_n ?_
    refine c_cond (decide (s = 0)) (by kernel_rfl) (fun hc25 => ?_) (fun hc25 => ?_)
    · skip
      have hc25 := of_decide_eq_true hc25
      refine c_seq ?_
      refine c_reg ?_
      refine sq_p (.pointer (some ⟨k1, 0, none⟩)) rfl (fun _ => by kernel_rfl) ?_
      refine sq_q rfl h (g_ld 0 [.int .i64 a] (.int .i64 a) (by kernel_rfl) 0 rfl) ?_
      refine sq_p (.int .i64 a) rfl (fun _ => by kernel_rfl) ?_
      refine sq_p (.int .i64 1152921504606846976) rfl (fun _ => by kernel_rfl) ?_
      refine sq_p (.bool true) rfl (fun _ => by kernel_rfl) ?_
      refine lnil ?_
      refine thn_n ?_
      refine c_ret ?_
      refine thn_r ?_
      refine ret_end [.int .i64 a, .int .i64 1152921504606846976, .bool true] [] h (by kernel_rfl) (res_t (by kernel_rfl) (res_t (by kernel_rfl) (res_t (by kernel_rfl) res_n))) ?_
      have he := e_end (a := a) (s := s) (by omega) hc25
      exact ⟨by simp [retV, eF, eT, eOk, he], rfl⟩
    · skip
      have hc25 := of_decide_eq_false hc25
      refine c_skip ?_
      refine thn_n ?_
      refine c_seq ?_
      refine d_start 10 [0] (by kernel_rfl) h fun w h => ?_
      refine d_take 0 124 [0] rfl (v := .pointer (some ⟨k1, 0, none⟩)) (by kernel_rfl) (qp_thn qp_body) (yq (by kernel_rfl) (g_pure (v := .pointer (some ⟨k1, 0, none⟩)) fun _ => by kernel_rfl)) h (by kernel_rfl) ?_
      refine d_take 1 125 [0] rfl (v := .int .i64 a) (by kernel_rfl) (qp_thn qp_body) (yq (by kernel_rfl) (g_ld 0 [.int .i64 a] (.int .i64 a) (by kernel_rfl) 0 rfl)) h (by kernel_rfl) ?_
      refine d_take 2 179 [0] rfl (v := .pointer (some ⟨k1, 0, none⟩)) (by kernel_rfl) (qp_thn qp_body) (yq (by kernel_rfl) (g_pure (v := .pointer (some ⟨k1, 0, none⟩)) fun _ => by kernel_rfl)) h (by kernel_rfl) ?_
      refine d_take 3 183 [0] rfl (v := .int .i64 a) (by kernel_rfl) (qp_thn qp_body) (yq (by kernel_rfl) (g_ld 0 [.int .i64 a] (.int .i64 a) (by kernel_rfl) 0 rfl)) h (by kernel_rfl) ?_
      refine d_take 4 143 [0] rfl (v := .pointer (some ⟨k1, 1, none⟩)) (by kernel_rfl) (qp_thn qp_body) (yq (by kernel_rfl) (g_pure (v := .pointer (some ⟨k1, 1, none⟩)) fun _ => by kernel_rfl)) h (by kernel_rfl) ?_
      refine d_take 5 159 [0] rfl (v := .int .i64 s) (by kernel_rfl) (qp_thn qp_body) (yq (by kernel_rfl) (g_ld 1 [.int .i64 s] (.int .i64 s) (by kernel_rfl) 0 rfl)) h (by kernel_rfl) ?_
      refine d_take 6 191 [0] rfl (v := .int .i64 (a + s)) (by kernel_rfl) (qp_thn qp_body) (yq (by kernel_rfl) (g_eq (v := .int .i64 (IntKind.i64.wrap (a + s))) (v' := .int .i64 (a + s)) (g_pure fun _ => by kernel_rfl) (wr (by omega)))) h (by kernel_rfl) ?_
      refine d_take 7 127 [0] rfl (v := .int .i64 a) (by kernel_rfl) (qp_thn qp_body) (yq (by kernel_rfl) (g_pure (v := .int .i64 a) fun _ => by kernel_rfl)) h (by kernel_rfl) ?_
      refine d_take 8 255 [0] rfl (v := .int .i64 (a + s)) (by kernel_rfl) (qp_thn qp_body) (yq (by kernel_rfl) (g_pure (v := .int .i64 (a + s)) fun _ => by kernel_rfl)) h (by kernel_rfl) ?_
      refine d_take 9 511 [0] rfl (v := .bool true) (by kernel_rfl) (qp_thn qp_body) (yq (by kernel_rfl) (g_pure (v := .bool true) fun _ => by kernel_rfl)) h (by kernel_rfl) ?_
      refine d_done (by kernel_rfl) ?_
      refine thn_n ?_
      refine c_ret ?_
      refine ret_end [.int .i64 a, .int .i64 (a + s), .bool true] [] h (by kernel_rfl) (res_t (by kernel_rfl) (res_t (by kernel_rfl) (res_t (by kernel_rfl) res_n))) ?_
      have he := e_some (a := a) (s := s) (by omega) hc25
      exact ⟨by simp [retV, eF, eT, eOk, he], rfl⟩
set_option maxHeartbeats 1000000 in
theorem lock_spec (x : Run) (hx : BndR x) : Spec Tryd.prog 42 #[.agg #[.int .i64 x.1.1, .int .i64 x.1.2, .int .i64 x.2.1, .int .i64 x.2.2.1, .int .i64 x.2.2.2.1, .bool x.2.2.2.2]] [] (fun u L => u = lockV x ∧ L = []) := by
  have hx1 := hx.1
  have hx2 := hx.2.1
  have hx3 := hx.2.2.1
  have hx4 := hx.2.2.2
  refine spec_of (#[.agg #[.int .i64 x.1.1, .int .i64 x.1.2, .int .i64 x.2.1, .int .i64 x.2.2.1, .int .i64 x.2.2.2.1, .bool x.2.2.2.2], undef, undef, undef, undef, undef, undef, undef, undef, undef, undef, undef, undef, undef, undef, undef, undef, undef, undef, undef, undef, undef, undef]) Tryd.func42 rfl (by kernel_rfl) fun E w0 w h => ?_
  refine c_seq ?_
  refine c_reg ?_
  refine sq_new rfl (fun b => .pointer (some ⟨b, 0, none⟩)) [.int .i64 x.1.1, .int .i64 x.1.2, .int .i64 x.2.1, .int .i64 x.2.2.1, .int .i64 x.2.2.2.1, .bool x.2.2.2.2] 104 (fun _ => by kernel_rfl) h ?_; intro k1 w h
  refine sq_new rfl (fun b => .pointer (some ⟨b, 0, none⟩)) [.int .i64 0, .int .i64 0, .int .i64 0, .int .i64 0, .int .i64 0, .bool false] 67 (fun _ => by kernel_rfl) h ?_; intro k2 w h
  refine lnil ?_
  refine thn_n ?_
  refine c_seq ?_
  refine c_reg ?_
  refine sq_p (.pointer (some ⟨k1, 4, none⟩)) rfl (fun _ => by kernel_rfl) ?_
  refine sq_q rfl h (g_ld 4 [.int .i64 x.2.2.2.1] (.int .i64 x.2.2.2.1) (by kernel_rfl) 1 rfl) ?_
  refine sq_p (.pointer (some ⟨k1, 3, none⟩)) rfl (fun _ => by kernel_rfl) ?_
  refine sq_q rfl h (g_ld 3 [.int .i64 x.2.2.1] (.int .i64 x.2.2.1) (by kernel_rfl) 1 rfl) ?_
  refine sq_q rfl h (g_eq (v := .int .i64 (IntKind.i64.wrap (x.2.2.2.1 - x.2.2.1))) (v' := .int .i64 (x.2.2.2.1 - x.2.2.1)) (g_pure fun _ => by kernel_rfl) (wr (by omega))) ?_
  refine sq_p (.int .i64 (x.2.2.2.1 - x.2.2.1)) rfl (fun _ => by kernel_rfl) ?_
  refine lnil ?_
  refine thn_n ?_
  refine c_seq ?_
  refine c_seq ?_
  refine c_reg ?_
  refine sq_p (.pointer (some ⟨k1, 4, none⟩)) rfl (fun _ => by kernel_rfl) ?_
  refine sq_q rfl h (g_ld 4 [.int .i64 x.2.2.2.1] (.int .i64 x.2.2.2.1) (by kernel_rfl) 1 rfl) ?_
  refine sq_p (.bool (decide (x.2.2.2.1 = 1152921504606846976))) rfl (fun _ => by kernel_rfl) ?_
  refine lnil ?_
  refine thn_n ?_
  refine c_cond (decide (x.2.2.2.1 = 1152921504606846976)) (by kernel_rfl) (fun hc3 => ?_) (fun hc3 => ?_)
  · skip
    have hc3 := of_decide_eq_true hc3
    refine c_reg ?_
    refine sq_p (.int .i64 0) rfl (fun _ => by kernel_rfl) ?_
    refine lnil ?_
    refine thn_n ?_
    refine c_seq ?_
    refine c_reg ?_
    refine sq_p (.pointer (some ⟨k1, 0, none⟩)) rfl (fun _ => by kernel_rfl) ?_
    refine sq_q rfl h (g_ld 0 [.int .i64 x.1.1, .int .i64 x.1.2] (.agg #[.int .i64 x.1.1, .int .i64 x.1.2]) (by kernel_rfl) 1 rfl) ?_
    refine sq_p (.pointer (some ⟨k1, 2, none⟩)) rfl (fun _ => by kernel_rfl) ?_
    refine sq_q rfl h (g_ld 2 [.int .i64 x.2.1] (.int .i64 x.2.1) (by kernel_rfl) 1 rfl) ?_
    refine sq_p (.pointer (some ⟨k1, 3, none⟩)) rfl (fun _ => by kernel_rfl) ?_
    refine sq_q rfl h (g_ld 3 [.int .i64 x.2.2.1] (.int .i64 x.2.2.1) (by kernel_rfl) 1 rfl) ?_
    refine sq_p (.int .i64 0) rfl (fun _ => by kernel_rfl) ?_
    refine sq_p (.agg #[.int .i64 x.2.2.1, .int .i64 0]) rfl (fun _ => by kernel_rfl) ?_
    refine sq_p (.pointer (some ⟨k1, 5, none⟩)) rfl (fun _ => by kernel_rfl) ?_
    refine sq_q rfl h (g_ld 5 [.bool x.2.2.2.2] (.bool x.2.2.2.2) (by kernel_rfl) 1 rfl) ?_
    refine sq_p (.agg #[.int .i64 x.1.1, .int .i64 x.1.2, .int .i64 x.2.1, .int .i64 x.2.2.1, .int .i64 0, .bool x.2.2.2.2]) rfl (fun _ => by kernel_rfl) ?_
    refine sq_st rfl 0 [.int .i64 x.1.1, .int .i64 x.1.2, .int .i64 x.2.1, .int .i64 x.2.2.1, .int .i64 0, .bool x.2.2.2.2] [.int .i64 x.1.1, .int .i64 x.1.2, .int .i64 x.2.1, .int .i64 x.2.2.1, .int .i64 0, .bool x.2.2.2.2] h 0 rfl (by kernel_rfl) ?_; intro w h
    refine lnil ?_
    refine thn_n ?_
    refine c_ret ?_
    refine ret_end [.agg #[.int .i64 x.1.1, .int .i64 x.1.2, .int .i64 x.2.1, .int .i64 x.2.2.1, .int .i64 0, .bool x.2.2.2.2]] [] h (by kernel_rfl) (res_c 0 [.int .i64 x.1.1, .int .i64 x.1.2, .int .i64 x.2.1, .int .i64 x.2.2.1, .int .i64 0, .bool x.2.2.2.2] (.agg #[.int .i64 x.1.1, .int .i64 x.1.2, .int .i64 x.2.1, .int .i64 x.2.2.1, .int .i64 0, .bool x.2.2.2.2]) 0 rfl (by kernel_rfl) res_n) ?_
    exact ⟨by simp [retV, lockV, hc3], rfl⟩
  · skip
    have hc3 := of_decide_eq_false hc3
    refine c_skip ?_
    refine thn_n ?_
    refine c_seq ?_
    refine c_reg ?_
    refine sq_p (.pointer (some ⟨k1, 0, none⟩)) rfl (fun _ => by kernel_rfl) ?_
    refine sq_q rfl h (g_ld 0 [.int .i64 x.1.1, .int .i64 x.1.2] (.agg #[.int .i64 x.1.1, .int .i64 x.1.2]) (by kernel_rfl) 1 rfl) ?_
    refine sq_p (.pointer (some ⟨k1, 2, none⟩)) rfl (fun _ => by kernel_rfl) ?_
    refine sq_q rfl h (g_ld 2 [.int .i64 x.2.1] (.int .i64 x.2.1) (by kernel_rfl) 1 rfl) ?_
    refine sq_p (.pointer (some ⟨k1, 3, none⟩)) rfl (fun _ => by kernel_rfl) ?_
    refine sq_q rfl h (g_ld 3 [.int .i64 x.2.2.1] (.int .i64 x.2.2.1) (by kernel_rfl) 1 rfl) ?_
    refine sq_p (.int .i64 (x.2.2.2.1 - x.2.2.1)) rfl (fun _ => by kernel_rfl) ?_
    refine sq_p (.agg #[.int .i64 x.2.2.1, .int .i64 (x.2.2.2.1 - x.2.2.1)]) rfl (fun _ => by kernel_rfl) ?_
    refine sq_p (.pointer (some ⟨k1, 5, none⟩)) rfl (fun _ => by kernel_rfl) ?_
    refine sq_q rfl h (g_ld 5 [.bool x.2.2.2.2] (.bool x.2.2.2.2) (by kernel_rfl) 1 rfl) ?_
    refine sq_p (.agg #[.int .i64 x.1.1, .int .i64 x.1.2, .int .i64 x.2.1, .int .i64 x.2.2.1, .int .i64 (x.2.2.2.1 - x.2.2.1), .bool x.2.2.2.2]) rfl (fun _ => by kernel_rfl) ?_
    refine sq_st rfl 0 [.int .i64 x.1.1, .int .i64 x.1.2, .int .i64 x.2.1, .int .i64 x.2.2.1, .int .i64 (x.2.2.2.1 - x.2.2.1), .bool x.2.2.2.2] [.int .i64 x.1.1, .int .i64 x.1.2, .int .i64 x.2.1, .int .i64 x.2.2.1, .int .i64 (x.2.2.2.1 - x.2.2.1), .bool x.2.2.2.2] h 0 rfl (by kernel_rfl) ?_; intro w h
    refine lnil ?_
    refine thn_n ?_
    refine c_ret ?_
    refine ret_end [.agg #[.int .i64 x.1.1, .int .i64 x.1.2, .int .i64 x.2.1, .int .i64 x.2.2.1, .int .i64 (x.2.2.2.1 - x.2.2.1), .bool x.2.2.2.2]] [] h (by kernel_rfl) (res_c 0 [.int .i64 x.1.1, .int .i64 x.1.2, .int .i64 x.2.1, .int .i64 x.2.2.1, .int .i64 (x.2.2.2.1 - x.2.2.1), .bool x.2.2.2.2] (.agg #[.int .i64 x.1.1, .int .i64 x.1.2, .int .i64 x.2.1, .int .i64 x.2.2.1, .int .i64 (x.2.2.2.1 - x.2.2.1), .bool x.2.2.2.2]) 0 rfl (by kernel_rfl) res_n) ?_
    exact ⟨by simp [retV, lockV, hc3], rfl⟩
set_option maxHeartbeats 1000000 in
theorem sorted_spec (b : Nat) (v : Value) (l : List Run) (hl : l.length ≤ 1000000) : Spec Tryd.prog 41 #[.pointer (some ⟨b, 0, none⟩)] [rCell true b [v] 57, rRows true v 104 6 runC l] (fun u L => ∃ v' l', (l'.Perm l ∧ l'.Pairwise (fun x y => ¬ lockCf y x < 0)) ∧ u = v' ∧ L = [rRows true v' 104 6 runC l', rCell true b [v] 57, rRows true v 104 6 runC l]) := by
  refine spec_of (#[.pointer (some ⟨b, 0, none⟩), undef, undef, undef, undef, undef, undef, undef, undef, undef, undef, undef]) Tryd.func41 rfl (by kernel_rfl) fun E w0 w h => ?_
  refine c_seq ?_
  refine c_reg ?_
  refine sq_p (.slice none 0 0) rfl (fun _ => by kernel_rfl) ?_
  refine lnil ?_
  refine thn_n ?_
  refine c_seq ?_
  refine c_reg ?_
  refine sq_p (.pointer (some ⟨b, 0, none⟩)) rfl (fun _ => by kernel_rfl) ?_
  refine sq_p (.pointer (some ⟨b, 0, none⟩)) rfl (fun _ => by kernel_rfl) ?_
  refine sq_p (.pointer (some ⟨b, 0, none⟩)) rfl (fun _ => by kernel_rfl) ?_
  refine sq_q rfl h (g_ld 0 [v] (v) (by kernel_rfl) 0 rfl) ?_
  refine sq_call #[v] [1] rfl (clone_run (l := l) (by omega)) (fun _ => by kernel_rfl) h ?_; rintro v1 L_ w ⟨_, rfl, rfl⟩ h
  refine sq_p (v1) rfl (fun _ => by kernel_rfl) ?_
  refine lnil ?_
  refine thn_n ?_
  refine c_seq ?_
  refine c_reg ?_
  refine sq_p (v1) rfl (fun _ => by kernel_rfl) ?_
  refine sq_call #[v1, .func (.func 55) #[] #[]] [0] rfl (sort_lock (l := l) (by omega)) (fun _ => by kernel_rfl) h ?_; rintro v_ L_ w ⟨l2, ⟨hp3, ho4⟩, rfl, rfl⟩ h
  have hp3l := hp3.length_eq
  refine lnil ?_
  refine thn_n ?_
  refine c_seq ?_
  refine c_reg ?_
  refine sq_p (v1) rfl (fun _ => by kernel_rfl) ?_
  refine sq_p (v1) rfl (fun _ => by kernel_rfl) ?_
  refine lnil ?_
  refine thn_n ?_
  refine c_ret ?_
  refine ret_end [v1] [0, 1, 0] h (by kernel_rfl) (res_t (by kernel_rfl) res_n) ?_
  exact ⟨_, _, ⟨hp3, ho4⟩, rfl, rfl⟩
set_option maxHeartbeats 1000000 in
theorem cut_spec (wq : Bool) (vl : Value) (l : List Run) (n g o f t : Int) (hl : l.length < 1000000) : Spec Tryd.prog 38 #[vl, .agg #[.int .i64 n, .int .i64 g], .int .i64 o, .int .i64 f, .int .i64 t] [rRows wq vl 104 6 runC l] (fun v L => ∃ vo, v = vo ∧ L = [rRows wq vl 104 6 runC l, rRows true vo 104 6 runC (cutL l (n, g) o f t)]) := by
  refine spec_of (#[vl, .agg #[.int .i64 n, .int .i64 g], .int .i64 o, .int .i64 f, .int .i64 t, undef, undef, undef, undef, undef, undef, undef, undef, undef, undef, undef, undef, undef, undef, undef, undef, undef, undef, undef, undef, undef, undef, undef, undef, undef, undef, undef, undef, undef, undef, undef, undef, undef, undef, undef, undef, undef, undef, undef, undef, undef, undef, undef, undef, undef, undef, undef, undef, undef, undef, undef, undef, undef, undef, undef, undef, undef, undef, undef, undef, undef, undef, undef, undef, undef, undef, undef]) Tryd.func38 rfl (by kernel_rfl) fun E w0 w h => ?_
  refine c_seq ?_
  refine c_reg ?_
  refine sq_new rfl (fun b => .pointer (some ⟨b, 0, none⟩)) [.int .i64 n, .int .i64 g] 33 (fun _ => by kernel_rfl) h ?_; intro k1 w h
  refine sq_p (.slice none 0 0) rfl (fun _ => by kernel_rfl) ?_
  refine lnil ?_
  refine thn_n ?_
  refine c_seq ?_
  refine c_reg ?_
  refine sq_p (.slice none 0 0) rfl (fun _ => by kernel_rfl) ?_
  refine lnil ?_
  refine thn_n ?_
  refine c_seq ?_
  refine c_seq ?_
  refine c_reg ?_
  refine sq_p (vl) rfl (fun _ => by kernel_rfl) ?_
  refine sq_q rfl h (g_len (by kernel_rfl) 1 rfl) ?_
  refine sq_p (.int .i64 0) rfl (fun _ => by kernel_rfl) ?_
  refine lnil ?_
  refine thn_n ?_
  refine c_block ?_
  have h := h.nilRows 104 6 runC
  refine c_loop (X := Nat × List Run × Value × (Nat → Value)) (fun ⟨k, out, vo, J0⟩ => ⟨#[vl, .agg #[.int .i64 n, .int .i64 g], .int .i64 o, .int .i64 f, .int .i64 t, undef, .pointer (some ⟨k1, 0, none⟩), undef, undef, undef, .slice none 0 0, vo, undef, J0 13, J0 14, J0 15, vl, .int .i64 (l.length : Int), .int .i64 (k : Int), J0 19, J0 20, J0 21, J0 22, J0 23, J0 24, J0 25, J0 26, J0 27, J0 28, J0 29, J0 30, J0 31, J0 32, J0 33, J0 34, J0 35, J0 36, J0 37, J0 38, J0 39, J0 40, J0 41, J0 42, J0 43, J0 44, J0 45, J0 46, J0 47, J0 48, J0 49, J0 50, J0 51, J0 52, J0 53, J0 54, J0 55, J0 56, J0 57, J0 58, J0 59, J0 60, J0 61, J0 62, J0 63, J0 64, J0 65, J0 66, J0 67, J0 68, J0 69, J0 70, undef], []⟩)
    (fun ⟨k, out, vo, J0⟩ => [rRows true vo 104 6 runC out, rCell true k1 [.int .i64 n, .int .i64 g] 33, rRows wq vl 104 6 runC l]) (fun ⟨k, out, vo, J0⟩ => k ≤ l.length ∧ out = cutL (l.take k) (n, g) o f t ∧ out.length ≤ 2 * k) (fun ⟨k, out, vo, J0⟩ => l.length - k)
    ⟨0, [], (.slice none 0 0), (fun n => (#[vl, .agg #[.int .i64 n, .int .i64 g], .int .i64 o, .int .i64 f, .int .i64 t, undef, .pointer (some ⟨k1, 0, none⟩), undef, undef, undef, .slice none 0 0, .slice none 0 0, undef, undef, undef, undef, vl, .int .i64 (l.length : Int), .int .i64 0, undef, undef, undef, undef, undef, undef, undef, undef, undef, undef, undef, undef, undef, undef, undef, undef, undef, undef, undef, undef, undef, undef, undef, undef, undef, undef, undef, undef, undef, undef, undef, undef, undef, undef, undef, undef, undef, undef, undef, undef, undef, undef, undef, undef, undef, undef, undef, undef, undef, undef, undef, undef, undef] : Array Value).getD n undef)⟩ ⟨by omega, by simp [cutL], by simp⟩ (by kernel_rfl) [0, 0, 0] (by kernel_rfl) h ?_
  rintro ⟨k, out, vo, J0⟩ w hG h
  obtain ⟨hk, ho, hm⟩ : k ≤ l.length ∧ out = cutL (l.take k) (n, g) o f t ∧ out.length ≤ 2 * k := hG
  refine c_seq ?_
  refine c_reg ?_
  refine sq_p (.bool (decide ((k : Int) < (l.length : Int)))) rfl (fun _ => by kernel_rfl) ?_
  refine lnil ?_
  refine thn_n ?_
  refine c_seq ?_
  refine c_cond (decide ((k : Int) < (l.length : Int))) (by kernel_rfl) (fun hc2 => ?_) (fun hc2 => ?_)
  · skip
    have hc2 := of_decide_eq_true hc2
    refine c_skip ?_
    refine thn_n ?_
    refine c_seq ?_
    refine c_block ?_
    refine c_seq ?_
    refine c_reg ?_
    have hi3 : k < l.length := by omega
    obtain ⟨x4, hx5⟩ : ∃ x, l[k]? = some x := ⟨_, List.getElem?_eq_getElem hi3⟩
    refine sq_q rfl h (g_idx k (by kernel_rfl) hi3 2 rfl) ?_
    refine sq_q rfl h (g_ldr (b := blkN vl) (offN vl + k * 6) [.int .i64 x4.1.1, .int .i64 x4.1.2, .int .i64 x4.2.1, .int .i64 x4.2.2.1, .int .i64 x4.2.2.2.1, .bool x4.2.2.2.2] (.agg #[.int .i64 x4.1.1, .int .i64 x4.1.2, .int .i64 x4.2.1, .int .i64 x4.2.2.1, .int .i64 x4.2.2.2.1, .bool x4.2.2.2.2]) (by kernel_rfl) 2 rfl (rdRow0 runC_len hx5 (by kernel_rfl))) ?_
    refine sq_new rfl (fun b => .pointer (some ⟨b, 0, none⟩)) [.int .i64 0, .int .i64 0, .int .i64 0, .int .i64 0, .int .i64 0, .bool false] 104 (fun _ => by kernel_rfl) h ?_; intro k6 w h
    refine sq_st rfl 0 [.int .i64 x4.1.1, .int .i64 x4.1.2, .int .i64 x4.2.1, .int .i64 x4.2.2.1, .int .i64 x4.2.2.2.1, .bool x4.2.2.2.2] [.int .i64 x4.1.1, .int .i64 x4.1.2, .int .i64 x4.2.1, .int .i64 x4.2.2.1, .int .i64 x4.2.2.2.1, .bool x4.2.2.2.2] h 0 rfl (by kernel_rfl) ?_; intro w h
    refine lnil ?_
    refine thn_n ?_
    refine c_seq ?_
    refine c_seq ?_
    refine c_reg ?_
    refine sq_p (.pointer (some ⟨k6, 0, none⟩)) rfl (fun _ => by kernel_rfl) ?_
    refine sq_q rfl h (g_ld 0 [.int .i64 x4.1.1, .int .i64 x4.1.2] (.agg #[.int .i64 x4.1.1, .int .i64 x4.1.2]) (by kernel_rfl) 0 rfl) ?_
    refine sq_q rfl h (g_ld 0 [.int .i64 n, .int .i64 g] (.agg #[.int .i64 n, .int .i64 g]) (by kernel_rfl) 2 rfl) ?_
    obtain ⟨b7, hb7⟩ : ∃ b_ : Bool, b_ = (!((decide (x4.1.1 = n)) && (decide (x4.1.2 = g)))) := ⟨_, rfl⟩
    refine sq_q (v := .bool b7) rfl h (by subst hb7; exact g_neH (by kernel_rfl)) ?_
    refine sq_p (.bool b7) rfl (fun _ => by kernel_rfl) ?_
    refine sq_m0 (v := .pointer (some ⟨k6, 2, none⟩)) b7 (by cases b7 <;> kernel_rfl) h (fun hB => by subst hB; exact g_pure (v := .pointer (some ⟨k6, 2, none⟩)) fun _ => by kernel_rfl) ?_
    refine sq_m0 (v := .int .i64 x4.2.1) b7 (by cases b7 <;> kernel_rfl) h (fun hB => by subst hB; exact g_ld 2 [.int .i64 x4.2.1] (.int .i64 x4.2.1) (by kernel_rfl) 0 rfl) ?_
    refine sq_m0 (v := .int .i64 o) b7 (by cases b7 <;> kernel_rfl) h (fun hB => by subst hB; exact g_pure (v := .int .i64 o) fun _ => by kernel_rfl) ?_
    obtain ⟨b8, hb8⟩ : ∃ b_ : Bool, b_ = (!(decide (x4.2.1 = o))) := ⟨_, rfl⟩
    refine sq_m0 (v := .bool b8) b7 (by cases b7 <;> kernel_rfl) h (fun hB => by subst hB; exact by subst hb8; exact g_pure (v := .bool (!(decide (x4.2.1 = o)))) fun _ => by kernel_rfl) ?_
    obtain ⟨b9, hb9⟩ : ∃ b_ : Bool, b_ = (b7 || b8) := ⟨_, rfl⟩
    refine sq_q (v := .bool b9) rfl h (by subst hb9; exact g_pure (v := .bool (b7 || b8)) fun _ => by cases b7 <;> kernel_rfl) ?_
    refine sq_p (.bool b9) rfl (fun _ => by kernel_rfl) ?_
    refine sq_m0 (v := .pointer (some ⟨k6, 4, none⟩)) b9 (by cases b9 <;> kernel_rfl) h (fun hB => by subst hB; exact g_pure (v := .pointer (some ⟨k6, 4, none⟩)) fun _ => by kernel_rfl) ?_
    refine sq_m0 (v := .int .i64 x4.2.2.2.1) b9 (by cases b9 <;> kernel_rfl) h (fun hB => by subst hB; exact g_ld 4 [.int .i64 x4.2.2.2.1] (.int .i64 x4.2.2.2.1) (by kernel_rfl) 0 rfl) ?_
    refine sq_m0 (v := .int .i64 f) b9 (by cases b9 <;> kernel_rfl) h (fun hB => by subst hB; exact g_pure (v := .int .i64 f) fun _ => by kernel_rfl) ?_
    obtain ⟨b10, hb10⟩ : ∃ b_ : Bool, b_ = (decide (x4.2.2.2.1 ≤ f)) := ⟨_, rfl⟩
    refine sq_m0 (v := .bool b10) b9 (by cases b9 <;> kernel_rfl) h (fun hB => by subst hB; exact by subst hb10; exact g_pure (v := .bool (decide (x4.2.2.2.1 ≤ f))) fun _ => by kernel_rfl) ?_
    obtain ⟨b11, hb11⟩ : ∃ b_ : Bool, b_ = (b9 || b10) := ⟨_, rfl⟩
    refine sq_q (v := .bool b11) rfl h (by subst hb11; exact g_pure (v := .bool (b9 || b10)) fun _ => by cases b9 <;> kernel_rfl) ?_
    refine sq_p (.bool b11) rfl (fun _ => by kernel_rfl) ?_
    refine sq_m0 (v := .int .i64 t) b11 (by cases b11 <;> kernel_rfl) h (fun hB => by subst hB; exact g_pure (v := .int .i64 t) fun _ => by kernel_rfl) ?_
    refine sq_m0 (v := .pointer (some ⟨k6, 3, none⟩)) b11 (by cases b11 <;> kernel_rfl) h (fun hB => by subst hB; exact g_pure (v := .pointer (some ⟨k6, 3, none⟩)) fun _ => by kernel_rfl) ?_
    refine sq_m0 (v := .int .i64 x4.2.2.1) b11 (by cases b11 <;> kernel_rfl) h (fun hB => by subst hB; exact g_ld 3 [.int .i64 x4.2.2.1] (.int .i64 x4.2.2.1) (by kernel_rfl) 0 rfl) ?_
    obtain ⟨b12, hb12⟩ : ∃ b_ : Bool, b_ = (decide (t ≤ x4.2.2.1)) := ⟨_, rfl⟩
    refine sq_m0 (v := .bool b12) b11 (by cases b11 <;> kernel_rfl) h (fun hB => by subst hB; exact by subst hb12; exact g_pure (v := .bool (decide (t ≤ x4.2.2.1))) fun _ => by kernel_rfl) ?_
    obtain ⟨b13, hb13⟩ : ∃ b_ : Bool, b_ = (b11 || b12) := ⟨_, rfl⟩
    refine sq_q (v := .bool b13) rfl h (by subst hb13; exact g_pure (v := .bool (b11 || b12)) fun _ => by cases b11 <;> kernel_rfl) ?_
    refine lnil ?_
    refine thn_n ?_
    have hO : outside (n, g) o f t x4 = b13 := by subst hb13 hb12 hb11 hb10 hb9 hb8 hb7; by_cases h1 : x4.1.1 = n <;> by_cases h2 : x4.1.2 = g <;> by_cases h3 : x4.2.1 = o <;> simp [outside, h1, h2, h3, Prod.ext_iff]
    refine c_cond (b13) (by kernel_rfl) (fun hc14 => ?_) (fun hc14 => ?_)
    · skip
      have q15 : (b11 || b12) = true := by rw [← hb13]; exact hc14
      rw [hc14] at hO
      refine c_seq ?_
      refine c_reg ?_
      refine sq_p (vo) rfl (fun _ => by kernel_rfl) ?_
      refine sq_q rfl h (g_ld 0 [.int .i64 x4.1.1, .int .i64 x4.1.2, .int .i64 x4.2.1, .int .i64 x4.2.2.1, .int .i64 x4.2.2.2.1, .bool x4.2.2.2.2] (.agg #[.int .i64 x4.1.1, .int .i64 x4.1.2, .int .i64 x4.2.1, .int .i64 x4.2.2.1, .int .i64 x4.2.2.2.1, .bool x4.2.2.2.2]) (by kernel_rfl) 0 rfl) ?_
      refine sq_new rfl (fun b => .slice (some ⟨b, 0, none⟩) 1 1) [.int .i64 x4.1.1, .int .i64 x4.1.2, .int .i64 x4.2.1, .int .i64 x4.2.2.1, .int .i64 x4.2.2.2.1, .bool x4.2.2.2.2] 104 (fun _ => by kernel_rfl) h ?_; intro k16 w h
      refine sq_app (b := k16) (o := 0) rfl 1 x4 (by kernel_rfl) h 2 rfl 0 rfl (rdCell 0 (by kernel_rfl)) (by (try simp only [List.length_append, List.length_cons, List.length_nil]); omega) ?_; intro v17 w h
      refine sq_p (v17) rfl (fun _ => by kernel_rfl) ?_
      refine lnil ?_
      refine thn_n ?_
      refine c_exit ?_
      refine thn_e (blk_e (thn_n ?_))
      refine c_reg ?_
      refine sq_q rfl h (g_eq (v := .int .i64 (IntKind.i64.wrap ((k : Int) + 1))) (v' := .int .i64 ((k + 1 : Nat) : Int)) (g_pure fun _ => by kernel_rfl) (wr (by omega))) ?_
      refine sq_p (.int .i64 ((k + 1 : Nat) : Int)) rfl (fun _ => by kernel_rfl) ?_
      refine lnil ?_
      refine loop_end (fun j => ⟨(k + 1), out ++ [x4], v17, j⟩) (show ((k + 1) ≤ l.length ∧ (out ++ [x4]) = cutL (l.take (k + 1)) (n, g) o f t ∧ (out ++ [x4]).length ≤ 2 * (k + 1)) ∧ (l.length - (k + 1)) < (l.length - k) from ⟨⟨by omega, by rw [cut_take hx5, ← ho]; simp [cutR, hO], by (try simp only [List.length_append, List.length_cons, List.length_nil]); omega⟩, by omega⟩) (by kernel_rfl) [2, 2, 2] (by kernel_rfl) h
    · skip
      have q18 : (b11 || b12) = false := by rw [← hb13]; exact hc14
      have q19 : b11 = false := by revert q18; cases b11 <;> simp
      have q20 : b12 = false := by revert q18; cases b11 <;> cases b12 <;> simp
      have q21 : (b9 || b10) = false := by rw [← hb11]; exact q19
      have q22 : b9 = false := by revert q21; cases b9 <;> simp
      have q23 : b10 = false := by revert q21; cases b9 <;> cases b10 <;> simp
      have q24 : (b7 || b8) = false := by rw [← hb9]; exact q22
      have q25 : b7 = false := by revert q24; cases b7 <;> simp
      have q26 : b8 = false := by revert q24; cases b7 <;> cases b8 <;> simp
      have q27 : (!((decide (x4.1.1 = n)) && (decide (x4.1.2 = g)))) = false := by rw [← hb7]; exact q25
      have q28 : ((decide (x4.1.1 = n)) && (decide (x4.1.2 = g))) = true := by revert q27; cases ((decide (x4.1.1 = n)) && (decide (x4.1.2 = g))) <;> simp
      have q29 : (decide (x4.1.1 = n)) = true := by revert q28; cases (decide (x4.1.1 = n)) <;> simp
      have q30 : (decide (x4.1.2 = g)) = true := by revert q28; cases (decide (x4.1.1 = n)) <;> cases (decide (x4.1.2 = g)) <;> simp
      have q29 := of_decide_eq_true q29
      have q30 := of_decide_eq_true q30
      have q31 : (!(decide (x4.2.1 = o))) = false := by rw [← hb8]; exact q26
      have q32 : (decide (x4.2.1 = o)) = true := by simpa using q31
      have q32 := of_decide_eq_true q32
      have q33 : (decide (x4.2.2.2.1 ≤ f)) = false := by rw [← hb10]; exact q23
      have q33 := of_decide_eq_false q33
      have q34 : (decide (t ≤ x4.2.2.1)) = false := by rw [← hb12]; exact q20
      have q34 := of_decide_eq_false q34
      rw [hc14] at hO
      refine c_skip ?_
      refine thn_n ?_
      refine c_seq ?_
      refine c_seq ?_
      refine c_reg ?_
      refine sq_p (.pointer (some ⟨k6, 3, none⟩)) rfl (fun _ => by kernel_rfl) ?_
      refine sq_q rfl h (g_ld 3 [.int .i64 x4.2.2.1] (.int .i64 x4.2.2.1) (by kernel_rfl) 0 rfl) ?_
      refine sq_p (.int .i64 f) rfl (fun _ => by kernel_rfl) ?_
      refine sq_p (.bool (decide (x4.2.2.1 < f))) rfl (fun _ => by kernel_rfl) ?_
      refine lnil ?_
      refine thn_n ?_
      refine c_cond (decide (x4.2.2.1 < f)) (by kernel_rfl) (fun hc35 => ?_) (fun hc35 => ?_)
      · skip
        have hc35 := of_decide_eq_true hc35
        refine c_seq ?_
        refine c_reg ?_
        refine sq_q rfl h (g_ld 0 [.int .i64 x4.1.1, .int .i64 x4.1.2, .int .i64 x4.2.1, .int .i64 x4.2.2.1, .int .i64 x4.2.2.2.1, .bool x4.2.2.2.2] (.agg #[.int .i64 x4.1.1, .int .i64 x4.1.2, .int .i64 x4.2.1, .int .i64 x4.2.2.1, .int .i64 x4.2.2.2.1, .bool x4.2.2.2.2]) (by kernel_rfl) 0 rfl) ?_
        refine sq_new rfl (fun b => .pointer (some ⟨b, 0, none⟩)) [.int .i64 0, .int .i64 0, .int .i64 0, .int .i64 0, .int .i64 0, .bool false] 104 (fun _ => by kernel_rfl) h ?_; intro k36 w h
        refine sq_st rfl 0 [.int .i64 x4.1.1, .int .i64 x4.1.2, .int .i64 x4.2.1, .int .i64 x4.2.2.1, .int .i64 x4.2.2.2.1, .bool x4.2.2.2.2] [.int .i64 x4.1.1, .int .i64 x4.1.2, .int .i64 x4.2.1, .int .i64 x4.2.2.1, .int .i64 x4.2.2.2.1, .bool x4.2.2.2.2] h 0 rfl (by kernel_rfl) ?_; intro w h
        refine lnil ?_
        refine thn_n ?_
        refine c_seq ?_
        refine c_reg ?_
        refine sq_p (.int .i64 f) rfl (fun _ => by kernel_rfl) ?_
        refine sq_p (.pointer (some ⟨k36, 4, none⟩)) rfl (fun _ => by kernel_rfl) ?_
        refine sq_st rfl 4 [.int .i64 f] [.int .i64 x4.1.1, .int .i64 x4.1.2, .int .i64 x4.2.1, .int .i64 x4.2.2.1, .int .i64 f, .bool x4.2.2.2.2] h 0 rfl (by kernel_rfl) ?_; intro w h
        refine lnil ?_
        refine thn_n ?_
        refine c_reg ?_
        refine sq_p (vo) rfl (fun _ => by kernel_rfl) ?_
        refine sq_q rfl h (g_ld 0 [.int .i64 x4.1.1, .int .i64 x4.1.2, .int .i64 x4.2.1, .int .i64 x4.2.2.1, .int .i64 f, .bool x4.2.2.2.2] (.agg #[.int .i64 x4.1.1, .int .i64 x4.1.2, .int .i64 x4.2.1, .int .i64 x4.2.2.1, .int .i64 f, .bool x4.2.2.2.2]) (by kernel_rfl) 0 rfl) ?_
        refine sq_new rfl (fun b => .slice (some ⟨b, 0, none⟩) 1 1) [.int .i64 x4.1.1, .int .i64 x4.1.2, .int .i64 x4.2.1, .int .i64 x4.2.2.1, .int .i64 f, .bool x4.2.2.2.2] 104 (fun _ => by kernel_rfl) h ?_; intro k37 w h
        refine sq_app (b := k37) (o := 0) rfl 1 ((x4.1.1, x4.1.2), x4.2.1, x4.2.2.1, f, x4.2.2.2.2) (by kernel_rfl) h 3 rfl 0 rfl (rdCell 0 (by kernel_rfl)) (by (try simp only [List.length_append, List.length_cons, List.length_nil]); omega) ?_; intro v38 w h
        refine sq_p (v38) rfl (fun _ => by kernel_rfl) ?_
        refine lnil ?_
        refine thn_n ?_
        refine c_seq ?_
        refine c_reg ?_
        refine sq_p (.int .i64 t) rfl (fun _ => by kernel_rfl) ?_
        refine sq_p (.pointer (some ⟨k6, 4, none⟩)) rfl (fun _ => by kernel_rfl) ?_
        refine sq_q rfl h (g_ld 4 [.int .i64 x4.2.2.2.1] (.int .i64 x4.2.2.2.1) (by kernel_rfl) 2 rfl) ?_
        refine sq_p (.bool (decide (t < x4.2.2.2.1))) rfl (fun _ => by kernel_rfl) ?_
        refine lnil ?_
        refine thn_n ?_
        refine c_cond (decide (t < x4.2.2.2.1)) (by kernel_rfl) (fun hc39 => ?_) (fun hc39 => ?_)
        · skip
          have hc39 := of_decide_eq_true hc39
          refine c_seq ?_
          refine c_reg ?_
          refine sq_q rfl h (g_ld 0 [.int .i64 x4.1.1, .int .i64 x4.1.2, .int .i64 x4.2.1, .int .i64 x4.2.2.1, .int .i64 x4.2.2.2.1, .bool x4.2.2.2.2] (.agg #[.int .i64 x4.1.1, .int .i64 x4.1.2, .int .i64 x4.2.1, .int .i64 x4.2.2.1, .int .i64 x4.2.2.2.1, .bool x4.2.2.2.2]) (by kernel_rfl) 2 rfl) ?_
          refine sq_new rfl (fun b => .pointer (some ⟨b, 0, none⟩)) [.int .i64 0, .int .i64 0, .int .i64 0, .int .i64 0, .int .i64 0, .bool false] 104 (fun _ => by kernel_rfl) h ?_; intro k40 w h
          refine sq_st rfl 0 [.int .i64 x4.1.1, .int .i64 x4.1.2, .int .i64 x4.2.1, .int .i64 x4.2.2.1, .int .i64 x4.2.2.2.1, .bool x4.2.2.2.2] [.int .i64 x4.1.1, .int .i64 x4.1.2, .int .i64 x4.2.1, .int .i64 x4.2.2.1, .int .i64 x4.2.2.2.1, .bool x4.2.2.2.2] h 0 rfl (by kernel_rfl) ?_; intro w h
          refine lnil ?_
          refine thn_n ?_
          refine c_seq ?_
          refine c_reg ?_
          refine sq_p (.int .i64 t) rfl (fun _ => by kernel_rfl) ?_
          refine sq_p (.pointer (some ⟨k40, 3, none⟩)) rfl (fun _ => by kernel_rfl) ?_
          refine sq_st rfl 3 [.int .i64 t] [.int .i64 x4.1.1, .int .i64 x4.1.2, .int .i64 x4.2.1, .int .i64 t, .int .i64 x4.2.2.2.1, .bool x4.2.2.2.2] h 0 rfl (by kernel_rfl) ?_; intro w h
          refine lnil ?_
          refine thn_n ?_
          refine c_reg ?_
          refine sq_p (v38) rfl (fun _ => by kernel_rfl) ?_
          refine sq_q rfl h (g_ld 0 [.int .i64 x4.1.1, .int .i64 x4.1.2, .int .i64 x4.2.1, .int .i64 t, .int .i64 x4.2.2.2.1, .bool x4.2.2.2.2] (.agg #[.int .i64 x4.1.1, .int .i64 x4.1.2, .int .i64 x4.2.1, .int .i64 t, .int .i64 x4.2.2.2.1, .bool x4.2.2.2.2]) (by kernel_rfl) 0 rfl) ?_
          refine sq_new rfl (fun b => .slice (some ⟨b, 0, none⟩) 1 1) [.int .i64 x4.1.1, .int .i64 x4.1.2, .int .i64 x4.2.1, .int .i64 t, .int .i64 x4.2.2.2.1, .bool x4.2.2.2.2] 104 (fun _ => by kernel_rfl) h ?_; intro k41 w h
          refine sq_app (b := k41) (o := 0) rfl 1 ((x4.1.1, x4.1.2), x4.2.1, t, x4.2.2.2.1, x4.2.2.2.2) (by kernel_rfl) h 5 rfl 0 rfl (rdCell 0 (by kernel_rfl)) (by (try simp only [List.length_append, List.length_cons, List.length_nil]); omega) ?_; intro v42 w h
          refine sq_p (v42) rfl (fun _ => by kernel_rfl) ?_
          refine lnil ?_
          refine blk_n (thn_n ?_)
          refine c_reg ?_
          refine sq_q rfl h (g_eq (v := .int .i64 (IntKind.i64.wrap ((k : Int) + 1))) (v' := .int .i64 ((k + 1 : Nat) : Int)) (g_pure fun _ => by kernel_rfl) (wr (by omega))) ?_
          refine sq_p (.int .i64 ((k + 1 : Nat) : Int)) rfl (fun _ => by kernel_rfl) ?_
          refine lnil ?_
          refine loop_end (fun j => ⟨(k + 1), out ++ [((x4.1.1, x4.1.2), x4.2.1, x4.2.2.1, f, x4.2.2.2.2)] ++ [((x4.1.1, x4.1.2), x4.2.1, t, x4.2.2.2.1, x4.2.2.2.2)], v42, j⟩) (show ((k + 1) ≤ l.length ∧ (out ++ [((x4.1.1, x4.1.2), x4.2.1, x4.2.2.1, f, x4.2.2.2.2)] ++ [((x4.1.1, x4.1.2), x4.2.1, t, x4.2.2.2.1, x4.2.2.2.2)]) = cutL (l.take (k + 1)) (n, g) o f t ∧ (out ++ [((x4.1.1, x4.1.2), x4.2.1, x4.2.2.1, f, x4.2.2.2.2)] ++ [((x4.1.1, x4.1.2), x4.2.1, t, x4.2.2.2.1, x4.2.2.2.2)]).length ≤ 2 * (k + 1)) ∧ (l.length - (k + 1)) < (l.length - k) from ⟨⟨by omega, by rw [cut_take hx5, ← ho]; simp [cutR, hO, hc35, hc39], by (try simp only [List.length_append, List.length_cons, List.length_nil]); omega⟩, by omega⟩) (by kernel_rfl) [5, 5, 5] (by kernel_rfl) h
        · skip
          have hc39 := of_decide_eq_false hc39
          refine c_skip ?_
          refine blk_n (thn_n ?_)
          refine c_reg ?_
          refine sq_q rfl h (g_eq (v := .int .i64 (IntKind.i64.wrap ((k : Int) + 1))) (v' := .int .i64 ((k + 1 : Nat) : Int)) (g_pure fun _ => by kernel_rfl) (wr (by omega))) ?_
          refine sq_p (.int .i64 ((k + 1 : Nat) : Int)) rfl (fun _ => by kernel_rfl) ?_
          refine lnil ?_
          refine loop_end (fun j => ⟨(k + 1), out ++ [((x4.1.1, x4.1.2), x4.2.1, x4.2.2.1, f, x4.2.2.2.2)], v38, j⟩) (show ((k + 1) ≤ l.length ∧ (out ++ [((x4.1.1, x4.1.2), x4.2.1, x4.2.2.1, f, x4.2.2.2.2)]) = cutL (l.take (k + 1)) (n, g) o f t ∧ (out ++ [((x4.1.1, x4.1.2), x4.2.1, x4.2.2.1, f, x4.2.2.2.2)]).length ≤ 2 * (k + 1)) ∧ (l.length - (k + 1)) < (l.length - k) from ⟨⟨by omega, by rw [cut_take hx5, ← ho]; simp [cutR, hO, hc35, hc39], by (try simp only [List.length_append, List.length_cons, List.length_nil]); omega⟩, by omega⟩) (by kernel_rfl) [3, 3, 3] (by kernel_rfl) h
      · skip
        have hc35 := of_decide_eq_false hc35
        refine c_skip ?_
        refine thn_n ?_
        refine c_seq ?_
        refine c_reg ?_
        refine sq_p (.int .i64 t) rfl (fun _ => by kernel_rfl) ?_
        refine sq_p (.pointer (some ⟨k6, 4, none⟩)) rfl (fun _ => by kernel_rfl) ?_
        refine sq_q rfl h (g_ld 4 [.int .i64 x4.2.2.2.1] (.int .i64 x4.2.2.2.1) (by kernel_rfl) 0 rfl) ?_
        refine sq_p (.bool (decide (t < x4.2.2.2.1))) rfl (fun _ => by kernel_rfl) ?_
        refine lnil ?_
        refine thn_n ?_
        refine c_cond (decide (t < x4.2.2.2.1)) (by kernel_rfl) (fun hc43 => ?_) (fun hc43 => ?_)
        · skip
          have hc43 := of_decide_eq_true hc43
          refine c_seq ?_
          refine c_reg ?_
          refine sq_q rfl h (g_ld 0 [.int .i64 x4.1.1, .int .i64 x4.1.2, .int .i64 x4.2.1, .int .i64 x4.2.2.1, .int .i64 x4.2.2.2.1, .bool x4.2.2.2.2] (.agg #[.int .i64 x4.1.1, .int .i64 x4.1.2, .int .i64 x4.2.1, .int .i64 x4.2.2.1, .int .i64 x4.2.2.2.1, .bool x4.2.2.2.2]) (by kernel_rfl) 0 rfl) ?_
          refine sq_new rfl (fun b => .pointer (some ⟨b, 0, none⟩)) [.int .i64 0, .int .i64 0, .int .i64 0, .int .i64 0, .int .i64 0, .bool false] 104 (fun _ => by kernel_rfl) h ?_; intro k44 w h
          refine sq_st rfl 0 [.int .i64 x4.1.1, .int .i64 x4.1.2, .int .i64 x4.2.1, .int .i64 x4.2.2.1, .int .i64 x4.2.2.2.1, .bool x4.2.2.2.2] [.int .i64 x4.1.1, .int .i64 x4.1.2, .int .i64 x4.2.1, .int .i64 x4.2.2.1, .int .i64 x4.2.2.2.1, .bool x4.2.2.2.2] h 0 rfl (by kernel_rfl) ?_; intro w h
          refine lnil ?_
          refine thn_n ?_
          refine c_seq ?_
          refine c_reg ?_
          refine sq_p (.int .i64 t) rfl (fun _ => by kernel_rfl) ?_
          refine sq_p (.pointer (some ⟨k44, 3, none⟩)) rfl (fun _ => by kernel_rfl) ?_
          refine sq_st rfl 3 [.int .i64 t] [.int .i64 x4.1.1, .int .i64 x4.1.2, .int .i64 x4.2.1, .int .i64 t, .int .i64 x4.2.2.2.1, .bool x4.2.2.2.2] h 0 rfl (by kernel_rfl) ?_; intro w h
          refine lnil ?_
          refine thn_n ?_
          refine c_reg ?_
          refine sq_p (vo) rfl (fun _ => by kernel_rfl) ?_
          refine sq_q rfl h (g_ld 0 [.int .i64 x4.1.1, .int .i64 x4.1.2, .int .i64 x4.2.1, .int .i64 t, .int .i64 x4.2.2.2.1, .bool x4.2.2.2.2] (.agg #[.int .i64 x4.1.1, .int .i64 x4.1.2, .int .i64 x4.2.1, .int .i64 t, .int .i64 x4.2.2.2.1, .bool x4.2.2.2.2]) (by kernel_rfl) 0 rfl) ?_
          refine sq_new rfl (fun b => .slice (some ⟨b, 0, none⟩) 1 1) [.int .i64 x4.1.1, .int .i64 x4.1.2, .int .i64 x4.2.1, .int .i64 t, .int .i64 x4.2.2.2.1, .bool x4.2.2.2.2] 104 (fun _ => by kernel_rfl) h ?_; intro k45 w h
          refine sq_app (b := k45) (o := 0) rfl 1 ((x4.1.1, x4.1.2), x4.2.1, t, x4.2.2.2.1, x4.2.2.2.2) (by kernel_rfl) h 3 rfl 0 rfl (rdCell 0 (by kernel_rfl)) (by (try simp only [List.length_append, List.length_cons, List.length_nil]); omega) ?_; intro v46 w h
          refine sq_p (v46) rfl (fun _ => by kernel_rfl) ?_
          refine lnil ?_
          refine blk_n (thn_n ?_)
          refine c_reg ?_
          refine sq_q rfl h (g_eq (v := .int .i64 (IntKind.i64.wrap ((k : Int) + 1))) (v' := .int .i64 ((k + 1 : Nat) : Int)) (g_pure fun _ => by kernel_rfl) (wr (by omega))) ?_
          refine sq_p (.int .i64 ((k + 1 : Nat) : Int)) rfl (fun _ => by kernel_rfl) ?_
          refine lnil ?_
          refine loop_end (fun j => ⟨(k + 1), out ++ [((x4.1.1, x4.1.2), x4.2.1, t, x4.2.2.2.1, x4.2.2.2.2)], v46, j⟩) (show ((k + 1) ≤ l.length ∧ (out ++ [((x4.1.1, x4.1.2), x4.2.1, t, x4.2.2.2.1, x4.2.2.2.2)]) = cutL (l.take (k + 1)) (n, g) o f t ∧ (out ++ [((x4.1.1, x4.1.2), x4.2.1, t, x4.2.2.2.1, x4.2.2.2.2)]).length ≤ 2 * (k + 1)) ∧ (l.length - (k + 1)) < (l.length - k) from ⟨⟨by omega, by rw [cut_take hx5, ← ho]; simp [cutR, hO, hc35, hc43], by (try simp only [List.length_append, List.length_cons, List.length_nil]); omega⟩, by omega⟩) (by kernel_rfl) [3, 3, 3] (by kernel_rfl) h
        · skip
          have hc43 := of_decide_eq_false hc43
          refine c_skip ?_
          refine blk_n (thn_n ?_)
          refine c_reg ?_
          refine sq_q rfl h (g_eq (v := .int .i64 (IntKind.i64.wrap ((k : Int) + 1))) (v' := .int .i64 ((k + 1 : Nat) : Int)) (g_pure fun _ => by kernel_rfl) (wr (by omega))) ?_
          refine sq_p (.int .i64 ((k + 1 : Nat) : Int)) rfl (fun _ => by kernel_rfl) ?_
          refine lnil ?_
          refine loop_end (fun j => ⟨(k + 1), out, vo, j⟩) (show ((k + 1) ≤ l.length ∧ out = cutL (l.take (k + 1)) (n, g) o f t ∧ out.length ≤ 2 * (k + 1)) ∧ (l.length - (k + 1)) < (l.length - k) from ⟨⟨by omega, by rw [cut_take hx5, ← ho]; simp [cutR, hO, hc35, hc43], by (try simp only [List.length_append, List.length_cons, List.length_nil]); omega⟩, by omega⟩) (by kernel_rfl) [1, 1, 1] (by kernel_rfl) h
  · skip
    have hc2 := of_decide_eq_false hc2
    refine c_exit ?_
    refine thn_e (rnd_e (blk_e (thn_n ?_)))
    refine c_seq ?_
    refine c_reg ?_
    refine sq_p (vo) rfl (fun _ => by kernel_rfl) ?_
    refine sq_p (vo) rfl (fun _ => by kernel_rfl) ?_
    refine lnil ?_
    refine thn_n ?_
    refine c_ret ?_
    refine ret_end [vo] [2, 0] h (by kernel_rfl) (res_t (by kernel_rfl) res_n) ?_
    rw [ho, cut_all (by omega)]
    exact ⟨_, rfl, rfl⟩
end Go.Proofs.YtgebinfbbopnlaaDoor
