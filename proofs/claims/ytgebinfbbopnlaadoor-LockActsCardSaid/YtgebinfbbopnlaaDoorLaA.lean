/- lockacts: contracts by what is owned (printed by walk.py). -/
import Derived.Test.YtgebinfbbopnlaaDoorLockR
import Derived.Test.YtgebinfbbopnlaaDoorOp17
import Derived.Test.YtgebinfbbopnlaaDoorOp5
import Derived.Test.YtgebinfbbopnlaaDoorEqs
namespace Go.Proofs.YtgebinfbbopnlaaDoor
open Go.RowKit
set_option linter.unusedVariables false
set_option linter.unusedSimpArgs false
set_option linter.unnecessarySimpa false
set_option maxRecDepth 100000

def inC (n : Int) : List Value := [.int .i64 n]
theorem inC_len (n : Int) : (inC n).length = 1 := rfl
def hdC (x : Int × Int) : List Value := [.int .i64 x.1, .int .i64 x.2]
theorem hdC_len (x : Int × Int) : (hdC x).length = 2 := rfl
theorem pairN (n g : Int) (x : Int × Int) : (x == (n, g)) = (decide (x.1 = n) && decide (x.2 = g)) := by
  obtain ⟨x1, x2⟩ := x
  by_cases c1 : x1 = n <;> by_cases c2 : x2 = g <;> simp [c1, c2]
theorem insI_end {l : List Int} {k : Nat} {n : Int} (h1 : ∀ j y, j < k → l[j]? = some y → y < n) (h2 : ∀ y, l[k]? = some y → n < y) (hk : k ≤ l.length) : (([] ++ (l.take k).drop 0) ++ [n]) ++ (l.take l.length).drop k = insI l n := by
  rw [insI_new h1 h2 hk, List.take_length]; simp
theorem none_at {α : Type} {l : List α} {k : Nat} (hk : l.length ≤ k) : ∀ y, l[k]? = some y → False := fun y hy => by
  have := (List.getElem?_eq_some_iff.1 hy).1; omega
theorem le_one {l : List Int} {k : Nat} {n x : Int} (hx : l[k]? = some x) (h1 : ¬ x < n) (h2 : ¬ x = n) : ∀ y, l[k]? = some y → n < y := fun y hy => by
  rw [hx] at hy; cases hy; omega
theorem step_lt {l : List Int} {k : Nat} {n x : Int} (hno : ∀ j y, j < k → l[j]? = some y → y < n) (hx : l[k]? = some x) (h : x < n) : ∀ j y, j < k + 1 → l[j]? = some y → y < n := fun j y hj hy => by
  by_cases e : j = k
  · subst e; rw [hx] at hy; cases hy; exact h
  · exact hno j y (by omega) hy

set_option maxHeartbeats 1000000 in
theorem at_spec (wq : Bool) (v : Value) (l : List Paint) (n g o b : Int) (hl : l.length ≤ 1000)  : Spec Tryd.prog 58 #[v, .agg #[.int .i64 n, .int .i64 g], .int .i64 o, .int .i64 b] [rRows wq v 107 6 pntC l] (fun u L => u = .int .i64 (atP l (n, g) o b) ∧ L = [rRows wq v 107 6 pntC l]) := by
  refine spec_of (#[v, .agg #[.int .i64 n, .int .i64 g], .int .i64 o, .int .i64 b, undef, undef, undef, undef, undef, undef, undef, undef, undef, undef, undef, undef, undef, undef, undef, undef, undef, undef, undef, undef, undef, undef, undef, undef, undef, undef, undef, undef, undef, undef, undef, undef, undef, undef, undef, undef, undef, undef, undef, undef, undef, undef, undef, undef, undef, undef, undef, undef]) Tryd.func58 rfl (by kernel_rfl) fun E w0 w h => ?_
  refine c_seq ?_
  refine c_reg ?_
  refine sq_new rfl (fun b => .pointer (some ⟨b, 0, none⟩)) [.int .i64 n, .int .i64 g] 33 (fun _ => by kernel_rfl) h ?_; intro k1 w h
  refine sq_p (.int .i64 0) rfl (fun _ => by kernel_rfl) ?_
  refine lnil ?_
  refine thn_n ?_
  refine c_seq ?_
  refine c_reg ?_
  refine sq_p (.int .i64 0) rfl (fun _ => by kernel_rfl) ?_
  refine lnil ?_
  refine thn_n ?_
  refine c_seq ?_
  refine c_seq ?_
  refine c_reg ?_
  refine sq_p (.int .i64 0) rfl (fun _ => by kernel_rfl) ?_
  refine lnil ?_
  refine thn_n ?_
  refine c_block ?_
  refine c_loop (X := Nat × Int × (Nat → Value)) (fun ⟨i, wt, J0⟩ => ⟨#[v, .agg #[.int .i64 n, .int .i64 g], .int .i64 o, .int .i64 b, undef, .pointer (some ⟨k1, 0, none⟩), undef, undef, .int .i64 0, .int .i64 wt, .int .i64 (i : Int), J0 11, J0 12, J0 13, J0 14, J0 15, J0 16, J0 17, J0 18, J0 19, J0 20, J0 21, J0 22, J0 23, J0 24, J0 25, J0 26, J0 27, J0 28, J0 29, J0 30, J0 31, J0 32, J0 33, J0 34, J0 35, J0 36, J0 37, J0 38, J0 39, J0 40, J0 41, J0 42, J0 43, J0 44, J0 45, J0 46, J0 47, J0 48, J0 49, J0 50, undef], []⟩)
    (fun ⟨i, wt, J0⟩ => [rCell true k1 [.int .i64 n, .int .i64 g] 33, rRows wq v 107 6 pntC l]) (fun ⟨i, wt, J0⟩ => i ≤ l.length ∧ wt = atP (l.take i) (n, g) o b) (fun ⟨i, wt, J0⟩ => l.length - i)
    ⟨0, 0, (fun n => (#[v, .agg #[.int .i64 n, .int .i64 g], .int .i64 o, .int .i64 b, undef, .pointer (some ⟨k1, 0, none⟩), undef, undef, .int .i64 0, .int .i64 0, .int .i64 0, undef, undef, undef, undef, undef, undef, undef, undef, undef, undef, undef, undef, undef, undef, undef, undef, undef, undef, undef, undef, undef, undef, undef, undef, undef, undef, undef, undef, undef, undef, undef, undef, undef, undef, undef, undef, undef, undef, undef, undef, undef] : Array Value).getD n undef)⟩ ⟨by omega, rfl⟩ (by kernel_rfl) [0, 0] (by kernel_rfl) h ?_
  rintro ⟨i, wt, J0⟩ w hG h
  obtain ⟨hi0, ho⟩ : i ≤ l.length ∧ wt = atP (l.take i) (n, g) o b := hG
  refine c_seq ?_
  refine c_seq ?_
  refine c_reg ?_
  refine sq_p (.int .i64 (i : Int)) rfl (fun _ => by kernel_rfl) ?_
  refine sq_p (v) rfl (fun _ => by kernel_rfl) ?_
  refine sq_q rfl h (g_len (by kernel_rfl) 1 rfl) ?_
  refine sq_p (.bool (decide ((i : Int) < (l.length : Int)))) rfl (fun _ => by kernel_rfl) ?_
  refine lnil ?_
  refine thn_n ?_
  refine c_cond (decide ((i : Int) < (l.length : Int))) (by kernel_rfl) (fun hc2 => ?_) (fun hc2 => ?_)
  · skip
    have hc2 := of_decide_eq_true hc2
    refine c_skip ?_
    refine thn_n ?_
    refine c_seq ?_
    refine c_block ?_
    refine c_seq ?_
    refine c_reg ?_
    refine sq_p (v) rfl (fun _ => by kernel_rfl) ?_
    refine sq_p (.int .i64 (i : Int)) rfl (fun _ => by kernel_rfl) ?_
    have hi3 : i < l.length := by omega
    obtain ⟨x4, hx5⟩ : ∃ x, l[i]? = some x := ⟨_, List.getElem?_eq_getElem hi3⟩
    refine sq_q rfl h (g_idx i (by kernel_rfl) hi3 1 rfl) ?_
    refine sq_q rfl h (g_ldr (b := blkN v) (offN v + i * 6) [.int .i64 x4.1.1, .int .i64 x4.1.2, .int .i64 x4.2.1, .int .i64 x4.2.2.1, .int .i64 x4.2.2.2.1, .int .i64 x4.2.2.2.2] (.agg #[.int .i64 x4.1.1, .int .i64 x4.1.2, .int .i64 x4.2.1, .int .i64 x4.2.2.1, .int .i64 x4.2.2.2.1, .int .i64 x4.2.2.2.2]) (by kernel_rfl) 1 rfl (rdRow0 pntC_len hx5 (by kernel_rfl))) ?_
    refine sq_new rfl (fun b => .pointer (some ⟨b, 0, none⟩)) [.int .i64 0, .int .i64 0, .int .i64 0, .int .i64 0, .int .i64 0, .int .i64 0] 107 (fun _ => by kernel_rfl) h ?_; intro k6 w h
    refine sq_st rfl 0 [.int .i64 x4.1.1, .int .i64 x4.1.2, .int .i64 x4.2.1, .int .i64 x4.2.2.1, .int .i64 x4.2.2.2.1, .int .i64 x4.2.2.2.2] [.int .i64 x4.1.1, .int .i64 x4.1.2, .int .i64 x4.2.1, .int .i64 x4.2.2.1, .int .i64 x4.2.2.2.1, .int .i64 x4.2.2.2.2] h 0 rfl (by kernel_rfl) ?_; intro w h
    refine lnil ?_
    refine thn_n ?_
    refine c_seq ?_
    refine c_reg ?_
    refine sq_p (.pointer (some ⟨k6, 0, none⟩)) rfl (fun _ => by kernel_rfl) ?_
    refine sq_q rfl h (g_ld 0 [.int .i64 x4.1.1, .int .i64 x4.1.2] (.agg #[.int .i64 x4.1.1, .int .i64 x4.1.2]) (by kernel_rfl) 0 rfl) ?_
    refine sq_q rfl h (g_ld 0 [.int .i64 n, .int .i64 g] (.agg #[.int .i64 n, .int .i64 g]) (by kernel_rfl) 1 rfl) ?_
    obtain ⟨b7, hb7⟩ : ∃ b_ : Bool, b_ = ((decide (x4.1.1 = n)) && (decide (x4.1.2 = g))) := ⟨_, rfl⟩
    refine sq_q (v := .bool b7) rfl h (by subst hb7; exact g_eqH (by kernel_rfl)) ?_
    refine sq_p (.bool b7) rfl (fun _ => by kernel_rfl) ?_
    refine sq_m1 (v := .pointer (some ⟨k6, 2, none⟩)) b7 (by cases b7 <;> kernel_rfl) h (fun hB => by subst hB; exact g_pure (v := .pointer (some ⟨k6, 2, none⟩)) fun _ => by kernel_rfl) ?_
    refine sq_m1 (v := .int .i64 x4.2.1) b7 (by cases b7 <;> kernel_rfl) h (fun hB => by subst hB; exact g_ld 2 [.int .i64 x4.2.1] (.int .i64 x4.2.1) (by kernel_rfl) 0 rfl) ?_
    refine sq_m1 (v := .int .i64 o) b7 (by cases b7 <;> kernel_rfl) h (fun hB => by subst hB; exact g_pure (v := .int .i64 o) fun _ => by kernel_rfl) ?_
    obtain ⟨b8, hb8⟩ : ∃ b_ : Bool, b_ = (decide (x4.2.1 = o)) := ⟨_, rfl⟩
    refine sq_m1 (v := .bool b8) b7 (by cases b7 <;> kernel_rfl) h (fun hB => by subst hB; exact by subst hb8; exact g_pure (v := .bool (decide (x4.2.1 = o))) fun _ => by kernel_rfl) ?_
    obtain ⟨b9, hb9⟩ : ∃ b_ : Bool, b_ = (b7 && b8) := ⟨_, rfl⟩
    refine sq_q (v := .bool b9) rfl h (by subst hb9; exact g_pure (v := .bool (b7 && b8)) fun _ => by cases b7 <;> kernel_rfl) ?_
    refine sq_p (.bool b9) rfl (fun _ => by kernel_rfl) ?_
    refine sq_m1 (v := .pointer (some ⟨k6, 3, none⟩)) b9 (by cases b9 <;> kernel_rfl) h (fun hB => by subst hB; exact g_pure (v := .pointer (some ⟨k6, 3, none⟩)) fun _ => by kernel_rfl) ?_
    refine sq_m1 (v := .int .i64 x4.2.2.1) b9 (by cases b9 <;> kernel_rfl) h (fun hB => by subst hB; exact g_ld 3 [.int .i64 x4.2.2.1] (.int .i64 x4.2.2.1) (by kernel_rfl) 0 rfl) ?_
    refine sq_m1 (v := .int .i64 b) b9 (by cases b9 <;> kernel_rfl) h (fun hB => by subst hB; exact g_pure (v := .int .i64 b) fun _ => by kernel_rfl) ?_
    obtain ⟨b10, hb10⟩ : ∃ b_ : Bool, b_ = (decide (x4.2.2.1 ≤ b)) := ⟨_, rfl⟩
    refine sq_m1 (v := .bool b10) b9 (by cases b9 <;> kernel_rfl) h (fun hB => by subst hB; exact by subst hb10; exact g_pure (v := .bool (decide (x4.2.2.1 ≤ b))) fun _ => by kernel_rfl) ?_
    obtain ⟨b11, hb11⟩ : ∃ b_ : Bool, b_ = (b9 && b10) := ⟨_, rfl⟩
    refine sq_q (v := .bool b11) rfl h (by subst hb11; exact g_pure (v := .bool (b9 && b10)) fun _ => by cases b9 <;> kernel_rfl) ?_
    refine sq_p (.bool b11) rfl (fun _ => by kernel_rfl) ?_
    refine sq_m1 (v := .pointer (some ⟨k6, 4, none⟩)) b11 (by cases b11 <;> kernel_rfl) h (fun hB => by subst hB; exact g_pure (v := .pointer (some ⟨k6, 4, none⟩)) fun _ => by kernel_rfl) ?_
    refine sq_m1 (v := .int .i64 x4.2.2.2.1) b11 (by cases b11 <;> kernel_rfl) h (fun hB => by subst hB; exact g_ld 4 [.int .i64 x4.2.2.2.1] (.int .i64 x4.2.2.2.1) (by kernel_rfl) 0 rfl) ?_
    obtain ⟨b12, hb12⟩ : ∃ b_ : Bool, b_ = (decide (x4.2.2.2.1 < 0)) := ⟨_, rfl⟩
    refine sq_m1 (v := .bool b12) b11 (by cases b11 <;> kernel_rfl) h (fun hB => by subst hB; exact by subst hb12; exact g_pure (v := .bool (decide (x4.2.2.2.1 < 0))) fun _ => by kernel_rfl) ?_
    refine sq_m1 (v := .bool b12) b11 (by cases b11 <;> kernel_rfl) h (fun hB => by subst hB; exact g_pure (v := .bool b12) fun _ => by kernel_rfl) ?_
    obtain ⟨b13, hb13⟩ : ∃ b_ : Bool, b_ = (b11 && (!b12)) := ⟨_, rfl⟩
    refine sq_m1 (v := .int .i64 b) b13 (by subst hb13; cases b11 <;> cases b12 <;> kernel_rfl) h (fun hB => by subst hB; exact g_pure (v := .int .i64 b) fun _ => by kernel_rfl) ?_
    refine sq_m1 (v := .pointer (some ⟨k6, 4, none⟩)) b13 (by subst hb13; cases b11 <;> cases b12 <;> kernel_rfl) h (fun hB => by subst hB; exact g_pure (v := .pointer (some ⟨k6, 4, none⟩)) fun _ => by kernel_rfl) ?_
    refine sq_m1 (v := .int .i64 x4.2.2.2.1) b13 (by subst hb13; cases b11 <;> cases b12 <;> kernel_rfl) h (fun hB => by subst hB; exact g_ld 4 [.int .i64 x4.2.2.2.1] (.int .i64 x4.2.2.2.1) (by kernel_rfl) 0 rfl) ?_
    obtain ⟨b14, hb14⟩ : ∃ b_ : Bool, b_ = (decide (b < x4.2.2.2.1)) := ⟨_, rfl⟩
    refine sq_m1 (v := .bool b14) b13 (by subst hb13; cases b11 <;> cases b12 <;> kernel_rfl) h (fun hB => by subst hB; exact by subst hb14; exact g_pure (v := .bool (decide (b < x4.2.2.2.1))) fun _ => by kernel_rfl) ?_
    obtain ⟨b15, hb15⟩ : ∃ b_ : Bool, b_ = (b12 || b14) := ⟨_, rfl⟩
    refine sq_m1 (v := .bool b15) b11 (by cases b11 <;> kernel_rfl) h (fun hB => by subst hB; exact by subst hb15; exact g_pure (v := .bool (b12 || b14)) fun _ => by subst hb13; first | (cases b12 <;> kernel_rfl) | (cases b13 <;> kernel_rfl)) ?_
    obtain ⟨b16, hb16⟩ : ∃ b_ : Bool, b_ = (b11 && b15) := ⟨_, rfl⟩
    refine sq_q (v := .bool b16) rfl h (by subst hb16; exact g_pure (v := .bool (b11 && b15)) fun _ => by cases b11 <;> kernel_rfl) ?_
    refine lnil ?_
    refine thn_n ?_
    have hT : (mineN (n, g) o x4 && covN b x4) = b16 := by subst hb16 hb15 hb14 hb12 hb11 hb10 hb9 hb8 hb7; by_cases h1 : x4.1.1 = n <;> by_cases h2 : x4.1.2 = g <;> by_cases h3 : x4.2.1 = o <;> simp [mineN, covN, h1, h2, h3, Prod.ext_iff]
    refine c_cond (b16) (by kernel_rfl) (fun hc17 => ?_) (fun hc17 => ?_)
    · skip
      have q18 : (b11 && b15) = true := by rw [← hb16]; exact hc17
      have q19 : b11 = true := by revert q18; cases b11 <;> simp
      have q20 : b15 = true := by revert q18; cases b11 <;> cases b15 <;> simp
      have q21 : (b9 && b10) = true := by rw [← hb11]; exact q19
      have q22 : b9 = true := by revert q21; cases b9 <;> simp
      have q23 : b10 = true := by revert q21; cases b9 <;> cases b10 <;> simp
      have q24 : (b7 && b8) = true := by rw [← hb9]; exact q22
      have q25 : b7 = true := by revert q24; cases b7 <;> simp
      have q26 : b8 = true := by revert q24; cases b7 <;> cases b8 <;> simp
      have q27 : ((decide (x4.1.1 = n)) && (decide (x4.1.2 = g))) = true := by rw [← hb7]; exact q25
      have q28 : (decide (x4.1.1 = n)) = true := by revert q27; cases (decide (x4.1.1 = n)) <;> simp
      have q29 : (decide (x4.1.2 = g)) = true := by revert q27; cases (decide (x4.1.1 = n)) <;> cases (decide (x4.1.2 = g)) <;> simp
      have q28 := of_decide_eq_true q28
      have q29 := of_decide_eq_true q29
      have q30 : (decide (x4.2.1 = o)) = true := by rw [← hb8]; exact q26
      have q30 := of_decide_eq_true q30
      have q31 : (decide (x4.2.2.1 ≤ b)) = true := by rw [← hb10]; exact q23
      have q31 := of_decide_eq_true q31
      have q32 : (b12 || b14) = true := by rw [← hb15]; exact q20
      have q33 : ((x4.2.2.2.1 < 0) ∨ (b < x4.2.2.2.1)) := by subst hb14; subst hb12; revert q32; first | (simp; done) | (simp; omega)
      rw [hc17] at hT
      refine c_reg ?_
      refine sq_p (.pointer (some ⟨k6, 5, none⟩)) rfl (fun _ => by kernel_rfl) ?_
      refine sq_q rfl h (g_ld 5 [.int .i64 x4.2.2.2.2] (.int .i64 x4.2.2.2.2) (by kernel_rfl) 0 rfl) ?_
      refine sq_p (.int .i64 x4.2.2.2.2) rfl (fun _ => by kernel_rfl) ?_
      refine lnil ?_
      refine blk_n (thn_n ?_)
      refine c_reg ?_
      refine sq_p (.int .i64 (i : Int)) rfl (fun _ => by kernel_rfl) ?_
      refine sq_q rfl h (g_eq (v := .int .i64 (IntKind.i64.wrap ((i : Int) + 1))) (v' := .int .i64 ((i + 1 : Nat) : Int)) (g_pure fun _ => by kernel_rfl) (wr (by omega))) ?_
      refine sq_p (.int .i64 ((i + 1 : Nat) : Int)) rfl (fun _ => by kernel_rfl) ?_
      refine lnil ?_
      refine loop_end (fun j => ⟨(i + 1), x4.2.2.2.2, j⟩) (show ((i + 1) ≤ l.length ∧ x4.2.2.2.2 = atP (l.take (i + 1)) (n, g) o b) ∧ (l.length - (i + 1)) < (l.length - i) from ⟨⟨by omega, by rw [atP_take hx5, if_pos hT]⟩, by omega⟩) (by kernel_rfl) [1, 1] (by kernel_rfl) h
    · skip
      have q34 : (b11 && b15) = false := by rw [← hb16]; exact hc17
      rw [hc17] at hT
      refine c_skip ?_
      refine blk_n (thn_n ?_)
      refine c_reg ?_
      refine sq_p (.int .i64 (i : Int)) rfl (fun _ => by kernel_rfl) ?_
      refine sq_q rfl h (g_eq (v := .int .i64 (IntKind.i64.wrap ((i : Int) + 1))) (v' := .int .i64 ((i + 1 : Nat) : Int)) (g_pure fun _ => by kernel_rfl) (wr (by omega))) ?_
      refine sq_p (.int .i64 ((i + 1 : Nat) : Int)) rfl (fun _ => by kernel_rfl) ?_
      refine lnil ?_
      refine loop_end (fun j => ⟨(i + 1), wt, j⟩) (show ((i + 1) ≤ l.length ∧ wt = atP (l.take (i + 1)) (n, g) o b) ∧ (l.length - (i + 1)) < (l.length - i) from ⟨⟨by omega, by rw [atP_take hx5, if_neg (by rw [hT]; exact Bool.false_ne_true), ho]⟩, by omega⟩) (by kernel_rfl) [1, 1] (by kernel_rfl) h
  · skip
    have hc2 := of_decide_eq_false hc2
    refine c_exit ?_
    refine thn_e (rnd_e (blk_e (thn_n ?_)))
    refine c_seq ?_
    refine c_reg ?_
    refine sq_p (.int .i64 wt) rfl (fun _ => by kernel_rfl) ?_
    refine sq_p (.int .i64 wt) rfl (fun _ => by kernel_rfl) ?_
    refine lnil ?_
    refine thn_n ?_
    refine c_ret ?_
    refine ret_end [.int .i64 wt] [1] h (by kernel_rfl) (res_t (by kernel_rfl) res_n) ?_
    rw [ho, List.take_of_length_le (by omega)]
    exact ⟨rfl, rfl⟩
set_option maxHeartbeats 1000000 in
theorem insert_spec (v : Value) (l : List Int) (n : Int) (hl : l.length ≤ 10000)  : Spec Tryd.prog 70 #[v, .int .i64 n] [rRows true v 3 1 inC l] (fun u L => ∃ v', u = v' ∧ L = [rRows true v' 3 1 inC (insI l n)]) := by
  refine spec_of (#[v, .int .i64 n, undef, undef, undef, undef, undef, undef, undef, undef, undef, undef, undef, undef, undef, undef, undef, undef, undef, undef, undef, undef, undef, undef, undef, undef, undef, undef, undef, undef, undef, undef, undef, undef, undef, undef, undef, undef, undef, undef, undef, undef, undef, undef, undef, undef, undef, undef]) Tryd.func70 rfl (by kernel_rfl) fun E w0 w h => ?_
  refine c_seq ?_
  refine c_reg ?_
  refine sq_p (.slice none 0 0) rfl (fun _ => by kernel_rfl) ?_
  refine lnil ?_
  refine thn_n ?_
  refine c_seq ?_
  refine c_reg ?_
  refine sq_p (.int .i64 0) rfl (fun _ => by kernel_rfl) ?_
  refine lnil ?_
  refine thn_n ?_
  refine c_seq ?_
  refine c_block ?_
  refine c_loop (X := Nat × (Nat → Value)) (fun ⟨k, J0⟩ => ⟨#[v, .int .i64 n, undef, undef, .slice none 0 0, .int .i64 (k : Int), undef, J0 7, J0 8, J0 9, J0 10, J0 11, J0 12, J0 13, J0 14, J0 15, J0 16, J0 17, J0 18, J0 19, J0 20, undef, undef, undef, undef, undef, undef, undef, undef, undef, undef, undef, undef, undef, undef, undef, undef, undef, undef, undef, undef, undef, undef, undef, undef, undef, undef, undef], []⟩)
    (fun ⟨k, J0⟩ => [rRows true v 3 1 inC l]) (fun ⟨k, J0⟩ => k ≤ l.length ∧ ∀ j y, j < k → l[j]? = some y → y < n) (fun ⟨k, J0⟩ => l.length - k)
    ⟨0, (fun n => (#[v, .int .i64 n, undef, undef, .slice none 0 0, .int .i64 0, undef, undef, undef, undef, undef, undef, undef, undef, undef, undef, undef, undef, undef, undef, undef, undef, undef, undef, undef, undef, undef, undef, undef, undef, undef, undef, undef, undef, undef, undef, undef, undef, undef, undef, undef, undef, undef, undef, undef, undef, undef, undef] : Array Value).getD n undef)⟩ ⟨by omega, fun j y hj => by omega⟩ (by kernel_rfl) [0] (by kernel_rfl) h ?_
  rintro ⟨k, J0⟩ w hG h
  obtain ⟨hk0, hno⟩ : k ≤ l.length ∧ ∀ j y, j < k → l[j]? = some y → y < n := hG
  refine c_seq ?_
  refine c_seq ?_
  refine c_reg ?_
  refine sq_p (.int .i64 (k : Int)) rfl (fun _ => by kernel_rfl) ?_
  refine sq_p (v) rfl (fun _ => by kernel_rfl) ?_
  refine sq_q rfl h (g_len (by kernel_rfl) 0 rfl) ?_
  obtain ⟨b1, hb1⟩ : ∃ b_ : Bool, b_ = (decide ((k : Int) < (l.length : Int))) := ⟨_, rfl⟩
  refine sq_q (v := .bool b1) rfl h (by subst hb1; exact g_pure (v := .bool (decide ((k : Int) < (l.length : Int)))) fun _ => by kernel_rfl) ?_
  refine sq_p (.bool b1) rfl (fun _ => by kernel_rfl) ?_
  rcases Bool.eq_false_or_eq_true b1 with hc2 | hc2
  · skip
    subst hc2
    have q3 := hb1.symm
    have q3 := of_decide_eq_true q3
    refine sq_p (v) (by kernel_rfl) (fun _ => by kernel_rfl) ?_
    refine sq_p (.int .i64 (k : Int)) (by kernel_rfl) (fun _ => by kernel_rfl) ?_
    have hi4 : k < l.length := by omega
    obtain ⟨x5, hx6⟩ : ∃ x, l[k]? = some x := ⟨_, List.getElem?_eq_getElem hi4⟩
    refine sq_q (by kernel_rfl) h (g_idx k (by kernel_rfl) hi4 0 rfl) ?_
    refine sq_q (by kernel_rfl) h (g_ldr (b := blkN v) (offN v + k * 1) [.int .i64 x5] (.int .i64 x5) (by kernel_rfl) 0 rfl (rdRow0 inC_len hx6 (by kernel_rfl))) ?_
    refine sq_p (.int .i64 n) (by kernel_rfl) (fun _ => by kernel_rfl) ?_
    obtain ⟨b7, hb7⟩ : ∃ b_ : Bool, b_ = (decide (x5 < n)) := ⟨_, rfl⟩
    refine sq_q (v := .bool b7) (by kernel_rfl) h (by subst hb7; exact g_pure (v := .bool (decide (x5 < n))) fun _ => by kernel_rfl) ?_
    refine sq_p (.bool b7) rfl (fun _ => by kernel_rfl) ?_
    refine lnil ?_
    refine thn_n ?_
    refine c_cond (b7) (by kernel_rfl) (fun hc8 => ?_) (fun hc8 => ?_)
    · skip
      have q9 : (decide (x5 < n)) = true := by rw [← hb7]; exact hc8
      have q9 := of_decide_eq_true q9
      refine c_skip ?_
      refine thn_n ?_
      refine c_block ?_
      refine c_reg ?_
      refine sq_p (.int .i64 (k : Int)) rfl (fun _ => by kernel_rfl) ?_
      refine sq_q rfl h (g_eq (v := .int .i64 (IntKind.i64.wrap ((k : Int) + 1))) (v' := .int .i64 ((k + 1 : Nat) : Int)) (g_pure fun _ => by kernel_rfl) (wr (by omega))) ?_
      refine sq_p (.int .i64 ((k + 1 : Nat) : Int)) rfl (fun _ => by kernel_rfl) ?_
      refine lnil ?_
      refine blk_n ?_
      refine loop_end (fun j => ⟨(k + 1), j⟩) (show ((k + 1) ≤ l.length ∧ ∀ j y, j < (k + 1) → l[j]? = some y → y < n) ∧ (l.length - (k + 1)) < (l.length - k) from ⟨⟨by omega, step_lt hno hx6 (by omega)⟩, by omega⟩) (by kernel_rfl) [0] (by kernel_rfl) h
    · skip
      have q10 : (decide (x5 < n)) = false := by rw [← hb7]; exact hc8
      have q10 := of_decide_eq_false q10
      refine c_exit ?_
      refine thn_e (rnd_e (blk_e (thn_n ?_)))
      refine c_seq ?_
      refine c_seq ?_
      refine c_reg ?_
      refine sq_p (.int .i64 (k : Int)) rfl (fun _ => by kernel_rfl) ?_
      refine sq_p (v) rfl (fun _ => by kernel_rfl) ?_
      refine sq_q rfl h (g_len (by kernel_rfl) 0 rfl) ?_
      obtain ⟨b11, hb11⟩ : ∃ b_ : Bool, b_ = (decide ((k : Int) < (l.length : Int))) := ⟨_, rfl⟩
      refine sq_q (v := .bool b11) rfl h (by subst hb11; exact g_pure (v := .bool (decide ((k : Int) < (l.length : Int)))) fun _ => by kernel_rfl) ?_
      refine sq_p (.bool b11) rfl (fun _ => by kernel_rfl) ?_
      rcases Bool.eq_false_or_eq_true b11 with hc12 | hc12
      · skip
        subst hc12
        have q13 := hb11.symm
        have q13 := of_decide_eq_true q13
        refine sq_p (v) (by kernel_rfl) (fun _ => by kernel_rfl) ?_
        refine sq_p (.int .i64 (k : Int)) (by kernel_rfl) (fun _ => by kernel_rfl) ?_
        refine sq_q (by kernel_rfl) h (g_idx k (by kernel_rfl) hi4 0 rfl) ?_
        refine sq_q (by kernel_rfl) h (g_ldr (b := blkN v) (offN v + k * 1) [.int .i64 x5] (.int .i64 x5) (by kernel_rfl) 0 rfl (rdRow0 inC_len hx6 (by kernel_rfl))) ?_
        refine sq_p (.int .i64 n) (by kernel_rfl) (fun _ => by kernel_rfl) ?_
        obtain ⟨b14, hb14⟩ : ∃ b_ : Bool, b_ = (decide (x5 = n)) := ⟨_, rfl⟩
        refine sq_q (v := .bool b14) (by kernel_rfl) h (by subst hb14; exact g_pure (v := .bool (decide (x5 = n))) fun _ => by kernel_rfl) ?_
        refine sq_p (.bool b14) rfl (fun _ => by kernel_rfl) ?_
        refine lnil ?_
        refine thn_n ?_
        refine c_cond (b14) (by kernel_rfl) (fun hc15 => ?_) (fun hc15 => ?_)
        · skip
          have q16 : (decide (x5 = n)) = true := by rw [← hb14]; exact hc15
          have q16 := of_decide_eq_true q16
          refine c_seq ?_
          refine c_reg ?_
          refine sq_p (v) rfl (fun _ => by kernel_rfl) ?_
          refine sq_p (v) rfl (fun _ => by kernel_rfl) ?_
          refine lnil ?_
          refine thn_n ?_
          refine c_ret ?_
          refine thn_r ?_
          refine ret_end [v] [0] h (by kernel_rfl) (res_t (by kernel_rfl) res_n) ?_
          have hE : insI l n = l := insI_same hno (by rw [hx6]; congr 1)
          exact ⟨_, rfl, by rw [hE]; rfl⟩
        · skip
          have q17 : (decide (x5 = n)) = false := by rw [← hb14]; exact hc15
          have q17 := of_decide_eq_false q17
          refine c_skip ?_
          refine thn_n ?_
          refine c_seq ?_
          refine c_reg ?_
          refine sq_p (.slice none 0 0) rfl (fun _ => by kernel_rfl) ?_
          refine lnil ?_
          refine thn_n ?_
          refine c_seq ?_
          refine c_reg ?_
          refine sq_p (.slice none 0 0) rfl (fun _ => by kernel_rfl) ?_
          refine sq_p (v) rfl (fun _ => by kernel_rfl) ?_
          refine sq_p (.int .i64 (k : Int)) rfl (fun _ => by kernel_rfl) ?_
          refine sq_q rfl h (g_sub2 (v := v) (d := 3) (k := 1) (LV := none) (HV := (some (.int .i64 (k : Int)))) 0 k (by kernel_rfl) rfl (bnd rfl) (by first | omega | (simp; omega)) (by first | omega | (simp; omega)) 0 rfl slRd_rows) ?_
          have h := h.nilRows 3 1 inC
          refine sq_apps rfl 0 k (by kernel_rfl) inC_len (fun _ => rfl) (by omega) (by omega) h 0 rfl 1 rfl slRd_rows (by (try simp only [List.length_append, List.length_cons, List.length_nil, List.length_take, List.length_drop]); omega) ?_; intro v18 w h
          refine sq_p (v18) rfl (fun _ => by kernel_rfl) ?_
          refine lnil ?_
          refine thn_n ?_
          refine c_seq ?_
          refine c_reg ?_
          refine sq_p (v18) rfl (fun _ => by kernel_rfl) ?_
          refine sq_p (.int .i64 n) rfl (fun _ => by kernel_rfl) ?_
          refine sq_new rfl (fun b => .slice (some ⟨b, 0, none⟩) 1 1) [.int .i64 n] 3 (fun _ => by kernel_rfl) h ?_; intro k19 w h
          refine sq_app (b := k19) (o := 0) rfl 1 n (by kernel_rfl) h 1 rfl 0 rfl (rdCell 0 (by kernel_rfl)) (by (try simp only [List.length_append, List.length_cons, List.length_nil, List.length_take, List.length_drop]); omega) ?_; intro v20 w h
          refine sq_p (v20) rfl (fun _ => by kernel_rfl) ?_
          refine lnil ?_
          refine thn_n ?_
          refine c_seq ?_
          refine c_reg ?_
          refine sq_p (v20) rfl (fun _ => by kernel_rfl) ?_
          refine sq_p (v) rfl (fun _ => by kernel_rfl) ?_
          refine sq_p (.int .i64 (k : Int)) rfl (fun _ => by kernel_rfl) ?_
          refine sq_q rfl h (g_sub2 (v := v) (d := 3) (k := 1) (LV := (some (.int .i64 (k : Int)))) (HV := none) k l.length (by kernel_rfl) (bnd rfl) rfl (by first | omega | (simp; omega)) (by first | omega | (simp; omega)) 2 rfl slRd_rows) ?_
          refine sq_apps rfl k l.length (by kernel_rfl) inC_len (fun _ => rfl) (by omega) (by omega) h 1 rfl 2 rfl slRd_rows (by (try simp only [List.length_append, List.length_cons, List.length_nil, List.length_take, List.length_drop]); omega) ?_; intro v21 w h
          refine sq_p (v21) rfl (fun _ => by kernel_rfl) ?_
          refine lnil ?_
          refine thn_n ?_
          refine c_ret ?_
          refine ret_end [v21] [1] h (by kernel_rfl) (res_t (by kernel_rfl) res_n) ?_
          have hE := insI_end hno (le_one hx6 (by omega) (by omega)) hk0
          exact ⟨_, rfl, by rw [← hE]; rfl⟩
      · skip
        subst hc12
        have q22 := hb11.symm
        have q22 := of_decide_eq_false q22
        exfalso; omega
  · skip
    subst hc2
    have q23 := hb1.symm
    have q23 := of_decide_eq_false q23
    refine sn (by kernel_rfl) ?_
    refine sn (by kernel_rfl) ?_
    refine sn (by kernel_rfl) ?_
    refine sn (by kernel_rfl) ?_
    refine sn (by kernel_rfl) ?_
    refine sn (by kernel_rfl) ?_
    refine sq_p (.bool false) rfl (fun _ => by kernel_rfl) ?_
    refine lnil ?_
    refine thn_n ?_
    refine c_false (by kernel_rfl) ?_
    refine c_exit ?_
    refine thn_e (rnd_e (blk_e (thn_n ?_)))
    refine c_seq ?_
    refine c_seq ?_
    refine c_reg ?_
    refine sq_p (.int .i64 (k : Int)) rfl (fun _ => by kernel_rfl) ?_
    refine sq_p (v) rfl (fun _ => by kernel_rfl) ?_
    refine sq_q rfl h (g_len (by kernel_rfl) 0 rfl) ?_
    obtain ⟨b24, hb24⟩ : ∃ b_ : Bool, b_ = (decide ((k : Int) < (l.length : Int))) := ⟨_, rfl⟩
    refine sq_q (v := .bool b24) rfl h (by subst hb24; exact g_pure (v := .bool (decide ((k : Int) < (l.length : Int)))) fun _ => by kernel_rfl) ?_
    refine sq_p (.bool b24) rfl (fun _ => by kernel_rfl) ?_
    rcases Bool.eq_false_or_eq_true b24 with hc25 | hc25
    · skip
      subst hc25
      have q26 := hb24.symm
      have q26 := of_decide_eq_true q26
      exfalso; omega
    · skip
      subst hc25
      have q27 := hb24.symm
      have q27 := of_decide_eq_false q27
      refine sn (by kernel_rfl) ?_
      refine sn (by kernel_rfl) ?_
      refine sn (by kernel_rfl) ?_
      refine sn (by kernel_rfl) ?_
      refine sn (by kernel_rfl) ?_
      refine sn (by kernel_rfl) ?_
      refine sq_p (.bool false) rfl (fun _ => by kernel_rfl) ?_
      refine lnil ?_
      refine thn_n ?_
      refine c_false (by kernel_rfl) ?_
      refine c_skip ?_
      refine thn_n ?_
      refine c_seq ?_
      refine c_reg ?_
      refine sq_p (.slice none 0 0) rfl (fun _ => by kernel_rfl) ?_
      refine lnil ?_
      refine thn_n ?_
      refine c_seq ?_
      refine c_reg ?_
      refine sq_p (.slice none 0 0) rfl (fun _ => by kernel_rfl) ?_
      refine sq_p (v) rfl (fun _ => by kernel_rfl) ?_
      refine sq_p (.int .i64 (k : Int)) rfl (fun _ => by kernel_rfl) ?_
      refine sq_q rfl h (g_sub2 (v := v) (d := 3) (k := 1) (LV := none) (HV := (some (.int .i64 (k : Int)))) 0 k (by kernel_rfl) rfl (bnd rfl) (by first | omega | (simp; omega)) (by first | omega | (simp; omega)) 0 rfl slRd_rows) ?_
      have h := h.nilRows 3 1 inC
      refine sq_apps rfl 0 k (by kernel_rfl) inC_len (fun _ => rfl) (by omega) (by omega) h 0 rfl 1 rfl slRd_rows (by (try simp only [List.length_append, List.length_cons, List.length_nil, List.length_take, List.length_drop]); omega) ?_; intro v28 w h
      refine sq_p (v28) rfl (fun _ => by kernel_rfl) ?_
      refine lnil ?_
      refine thn_n ?_
      refine c_seq ?_
      refine c_reg ?_
      refine sq_p (v28) rfl (fun _ => by kernel_rfl) ?_
      refine sq_p (.int .i64 n) rfl (fun _ => by kernel_rfl) ?_
      refine sq_new rfl (fun b => .slice (some ⟨b, 0, none⟩) 1 1) [.int .i64 n] 3 (fun _ => by kernel_rfl) h ?_; intro k29 w h
      refine sq_app (b := k29) (o := 0) rfl 1 n (by kernel_rfl) h 1 rfl 0 rfl (rdCell 0 (by kernel_rfl)) (by (try simp only [List.length_append, List.length_cons, List.length_nil, List.length_take, List.length_drop]); omega) ?_; intro v30 w h
      refine sq_p (v30) rfl (fun _ => by kernel_rfl) ?_
      refine lnil ?_
      refine thn_n ?_
      refine c_seq ?_
      refine c_reg ?_
      refine sq_p (v30) rfl (fun _ => by kernel_rfl) ?_
      refine sq_p (v) rfl (fun _ => by kernel_rfl) ?_
      refine sq_p (.int .i64 (k : Int)) rfl (fun _ => by kernel_rfl) ?_
      refine sq_q rfl h (g_sub2 (v := v) (d := 3) (k := 1) (LV := (some (.int .i64 (k : Int)))) (HV := none) k l.length (by kernel_rfl) (bnd rfl) rfl (by first | omega | (simp; omega)) (by first | omega | (simp; omega)) 2 rfl slRd_rows) ?_
      refine sq_apps rfl k l.length (by kernel_rfl) inC_len (fun _ => rfl) (by omega) (by omega) h 1 rfl 2 rfl slRd_rows (by (try simp only [List.length_append, List.length_cons, List.length_nil, List.length_take, List.length_drop]); omega) ?_; intro v31 w h
      refine sq_p (v31) rfl (fun _ => by kernel_rfl) ?_
      refine lnil ?_
      refine thn_n ?_
      refine c_ret ?_
      refine ret_end [v31] [1] h (by kernel_rfl) (res_t (by kernel_rfl) res_n) ?_
      have hE := insI_end (l := l) (n := n) hno (fun y hy => (none_at (by omega) y hy).elim) hk0
      exact ⟨_, rfl, by rw [← hE]; rfl⟩
set_option maxHeartbeats 1000000 in
theorem owners_spec (wq : Bool) (v : Value) (l : List Paint) (n g : Int) (hl : l.length ≤ 1000)  : Spec Tryd.prog 60 #[v, .agg #[.int .i64 n, .int .i64 g]] [rRows wq v 107 6 pntC l] (fun u L => ∃ v', u = v' ∧ L = [rRows true v' 3 1 inC (ownersP l (n, g)), rRows wq v 107 6 pntC l]) := by
  refine spec_of (#[v, .agg #[.int .i64 n, .int .i64 g], undef, undef, undef, undef, undef, undef, undef, undef, undef, undef, undef, undef, undef, undef, undef, undef, undef, undef, undef, undef, undef, undef, undef, undef, undef, undef]) Tryd.func60 rfl (by kernel_rfl) fun E w0 w h => ?_
  refine c_seq ?_
  refine c_reg ?_
  refine sq_new rfl (fun b => .pointer (some ⟨b, 0, none⟩)) [.int .i64 n, .int .i64 g] 33 (fun _ => by kernel_rfl) h ?_; intro k1 w h
  refine sq_p (.slice none 0 0) rfl (fun _ => by kernel_rfl) ?_
  refine lnil ?_
  refine thn_n ?_
  refine c_seq ?_
  refine c_reg ?_
  refine sq_p (.slice none 0 0) rfl (fun _ => by kernel_rfl) ?_
  refine lnil ?_
  refine thn_n ?_
  refine c_seq ?_
  refine c_seq ?_
  refine c_reg ?_
  refine sq_p (.int .i64 0) rfl (fun _ => by kernel_rfl) ?_
  refine lnil ?_
  refine thn_n ?_
  refine c_block ?_
  have h := h.nilRows 3 1 inC
  refine c_loop (X := Nat × List Int × Value × (Nat → Value)) (fun ⟨i, out, vo, J0⟩ => ⟨#[v, .agg #[.int .i64 n, .int .i64 g], undef, .pointer (some ⟨k1, 0, none⟩), .slice none 0 0, vo, .int .i64 (i : Int), J0 7, J0 8, J0 9, J0 10, J0 11, J0 12, J0 13, J0 14, J0 15, J0 16, J0 17, J0 18, J0 19, J0 20, J0 21, J0 22, J0 23, J0 24, J0 25, J0 26, undef], []⟩)
    (fun ⟨i, out, vo, J0⟩ => [rRows true vo 3 1 inC out, rCell true k1 [.int .i64 n, .int .i64 g] 33, rRows wq v 107 6 pntC l]) (fun ⟨i, out, vo, J0⟩ => i ≤ l.length ∧ out = ownersP (l.take i) (n, g)) (fun ⟨i, out, vo, J0⟩ => l.length - i)
    ⟨0, [], (.slice none 0 0), (fun n => (#[v, .agg #[.int .i64 n, .int .i64 g], undef, .pointer (some ⟨k1, 0, none⟩), .slice none 0 0, .slice none 0 0, .int .i64 0, undef, undef, undef, undef, undef, undef, undef, undef, undef, undef, undef, undef, undef, undef, undef, undef, undef, undef, undef, undef, undef] : Array Value).getD n undef)⟩ ⟨by omega, rfl⟩ (by kernel_rfl) [0, 0, 0] (by kernel_rfl) h ?_
  rintro ⟨i, out, vo, J0⟩ w hG h
  obtain ⟨hi0, ho⟩ : i ≤ l.length ∧ out = ownersP (l.take i) (n, g) := hG
  have hol : out.length ≤ 1000 := by rw [ho]; have := owners_len (l.take i) (n, g); rw [List.length_take] at this; omega
  refine c_seq ?_
  refine c_seq ?_
  refine c_reg ?_
  refine sq_p (.int .i64 (i : Int)) rfl (fun _ => by kernel_rfl) ?_
  refine sq_p (v) rfl (fun _ => by kernel_rfl) ?_
  refine sq_q rfl h (g_len (by kernel_rfl) 2 rfl) ?_
  refine sq_p (.bool (decide ((i : Int) < (l.length : Int)))) rfl (fun _ => by kernel_rfl) ?_
  refine lnil ?_
  refine thn_n ?_
  refine c_cond (decide ((i : Int) < (l.length : Int))) (by kernel_rfl) (fun hc2 => ?_) (fun hc2 => ?_)
  · skip
    have hc2 := of_decide_eq_true hc2
    refine c_skip ?_
    refine thn_n ?_
    refine c_seq ?_
    refine c_block ?_
    refine c_seq ?_
    refine d_start 7 [1, 1] (by kernel_rfl) h fun w h => ?_
    refine d_take 0 34 [1, 1] rfl (v := v) (by kernel_rfl) (qp_thn (qp_blk (qp_thn (qp_rnd (qp_blk (qp_thn qp_body)))))) (yq (by kernel_rfl) (g_pure (v := v) fun _ => by kernel_rfl)) h (by kernel_rfl) ?_
    refine d_take 1 33 [1, 1] rfl (v := .int .i64 (i : Int)) (by kernel_rfl) (qp_thn (qp_blk (qp_thn (qp_rnd (qp_blk (qp_thn qp_body)))))) (yq (by kernel_rfl) (g_pure (v := .int .i64 (i : Int)) fun _ => by kernel_rfl)) h (by kernel_rfl) ?_
    have hi3 : i < l.length := by omega
    obtain ⟨x4, hx5⟩ : ∃ x, l[i]? = some x := ⟨_, List.getElem?_eq_getElem hi3⟩
    refine d_take 2 35 [1, 1] rfl (v := .pointer (some ⟨blkN v, offN v + i * 6, none⟩)) (by kernel_rfl) (qp_thn (qp_blk (qp_thn (qp_rnd (qp_blk (qp_thn qp_body)))))) (yq (by kernel_rfl) (g_idx i (by kernel_rfl) hi3 1 rfl)) h (by kernel_rfl) ?_
    refine d_take 3 39 [1, 1] rfl (v := .pointer (some ⟨blkN v, offN v + i * 6, none⟩)) (by kernel_rfl) (qp_thn (qp_blk (qp_thn (qp_rnd (qp_blk (qp_thn qp_body)))))) (yq (by kernel_rfl) (g_pure (v := .pointer (some ⟨blkN v, offN v + i * 6, none⟩)) fun _ => by kernel_rfl)) h (by kernel_rfl) ?_
    refine d_take 4 47 [1, 1] rfl (v := .agg #[.int .i64 x4.1.1, .int .i64 x4.1.2]) (by kernel_rfl) (qp_thn (qp_blk (qp_thn (qp_rnd (qp_blk (qp_thn qp_body)))))) (yq (by kernel_rfl) (g_ldr (b := blkN v) (offN v + i * 6) [.int .i64 x4.1.1, .int .i64 x4.1.2] (.agg #[.int .i64 x4.1.1, .int .i64 x4.1.2]) (by kernel_rfl) 1 rfl (rdRow0 pntC_len hx5 (by kernel_rfl)))) h (by kernel_rfl) ?_
    refine d_take 5 31 [1, 1] rfl (v := .agg #[.int .i64 n, .int .i64 g]) (by kernel_rfl) (qp_thn (qp_blk (qp_thn (qp_rnd (qp_blk (qp_thn qp_body)))))) (yq (by kernel_rfl) (g_ld 0 [.int .i64 n, .int .i64 g] (.agg #[.int .i64 n, .int .i64 g]) (by kernel_rfl) 0 rfl)) h (by kernel_rfl) ?_
    refine d_take 6 63 [1, 1] rfl (v := .bool ((decide (x4.1.1 = n)) && (decide (x4.1.2 = g)))) (by kernel_rfl) (qp_thn (qp_blk (qp_thn (qp_rnd (qp_blk (qp_thn qp_body)))))) (yq (by kernel_rfl) (g_eqH (by kernel_rfl))) h (by kernel_rfl) ?_
    refine d_done (by kernel_rfl) ?_
    refine thn_n ?_
    refine c_cond (((decide (x4.1.1 = n)) && (decide (x4.1.2 = g)))) (by kernel_rfl) (fun hc6 => ?_) (fun hc6 => ?_)
    · skip
      have q7 : (decide (x4.1.1 = n)) = true := by revert hc6; cases (decide (x4.1.1 = n)) <;> simp
      have q8 : (decide (x4.1.2 = g)) = true := by revert hc6; cases (decide (x4.1.1 = n)) <;> cases (decide (x4.1.2 = g)) <;> simp
      have q7 := of_decide_eq_true q7
      have q8 := of_decide_eq_true q8
      have hT : (x4.1 == (n, g)) = true := by rw [pairN, Bool.and_eq_true, decide_eq_true_eq, decide_eq_true_eq]; constructor <;> omega
      refine c_reg ?_
      refine sq_p (vo) rfl (fun _ => by kernel_rfl) ?_
      refine sq_p (v) rfl (fun _ => by kernel_rfl) ?_
      refine sq_p (.int .i64 (i : Int)) rfl (fun _ => by kernel_rfl) ?_
      refine sq_q rfl h (g_idx i (by kernel_rfl) hi3 2 rfl) ?_
      refine sq_p (.pointer (some ⟨blkN v, offN v + i * 6 + 2, none⟩)) rfl (fun _ => by kernel_rfl) ?_
      refine sq_q rfl h (g_ldr (b := blkN v) (offN v + i * 6 + 2) [.int .i64 x4.2.1] (.int .i64 x4.2.1) (by kernel_rfl) 2 rfl (rdRow pntC_len hx5 2 (by kernel_rfl))) ?_
      refine sq_call #[vo, .int .i64 x4.2.1] [0] rfl (insert_spec vo out x4.2.1 (by first | omega | exact Nat.le_trans (hol2 _) (by decide))) (fun _ => by kernel_rfl) h ?_; rintro v9 L_ w ⟨_, rfl, rfl⟩ h
      refine sq_p (v9) rfl (fun _ => by kernel_rfl) ?_
      refine lnil ?_
      refine blk_n (thn_n ?_)
      refine c_reg ?_
      refine sq_p (.int .i64 (i : Int)) rfl (fun _ => by kernel_rfl) ?_
      refine sq_q rfl h (g_eq (v := .int .i64 (IntKind.i64.wrap ((i : Int) + 1))) (v' := .int .i64 ((i + 1 : Nat) : Int)) (g_pure fun _ => by kernel_rfl) (wr (by omega))) ?_
      refine sq_p (.int .i64 ((i + 1 : Nat) : Int)) rfl (fun _ => by kernel_rfl) ?_
      refine lnil ?_
      refine loop_end (fun j => ⟨(i + 1), insI out x4.2.1, v9, j⟩) (show ((i + 1) ≤ l.length ∧ (insI out x4.2.1) = ownersP (l.take (i + 1)) (n, g)) ∧ (l.length - (i + 1)) < (l.length - i) from ⟨⟨by omega, by rw [owners_take hx5, if_pos hT, ho]⟩, by omega⟩) (by kernel_rfl) [0, 0, 0] (by kernel_rfl) h
    · skip
      have q10 : ¬ (x4.1.1 = n ∧ x4.1.2 = g) := fun hh => by rw [decide_eq_true hh.1, decide_eq_true hh.2] at hc6; cases hc6
      have hT : (x4.1 == (n, g)) = false := by rw [pairN, Bool.and_eq_false_iff, decide_eq_false_iff_not, decide_eq_false_iff_not]; omega
      refine c_skip ?_
      refine blk_n (thn_n ?_)
      refine c_reg ?_
      refine sq_p (.int .i64 (i : Int)) rfl (fun _ => by kernel_rfl) ?_
      refine sq_q rfl h (g_eq (v := .int .i64 (IntKind.i64.wrap ((i : Int) + 1))) (v' := .int .i64 ((i + 1 : Nat) : Int)) (g_pure fun _ => by kernel_rfl) (wr (by omega))) ?_
      refine sq_p (.int .i64 ((i + 1 : Nat) : Int)) rfl (fun _ => by kernel_rfl) ?_
      refine lnil ?_
      refine loop_end (fun j => ⟨(i + 1), out, vo, j⟩) (show ((i + 1) ≤ l.length ∧ out = ownersP (l.take (i + 1)) (n, g)) ∧ (l.length - (i + 1)) < (l.length - i) from ⟨⟨by omega, by rw [owners_take hx5, if_neg (by rw [hT]; exact Bool.false_ne_true), ho]⟩, by omega⟩) (by kernel_rfl) [0, 0, 0] (by kernel_rfl) h
  · skip
    have hc2 := of_decide_eq_false hc2
    refine c_exit ?_
    refine thn_e (rnd_e (blk_e (thn_n ?_)))
    refine c_seq ?_
    refine c_reg ?_
    refine sq_p (vo) rfl (fun _ => by kernel_rfl) ?_
    refine sq_p (vo) rfl (fun _ => by kernel_rfl) ?_
    refine lnil ?_
    refine thn_n ?_
    refine c_ret ?_
    refine ret_end [vo] [0, 1] h (by kernel_rfl) (res_t (by kernel_rfl) res_n) ?_
    rw [ho, List.take_of_length_le (by omega)]
    exact ⟨_, rfl, rfl⟩
set_option maxHeartbeats 1000000 in
theorem places_spec (wq : Bool) (v : Value) (l : List Paint) (n g o : Int) (hl : l.length ≤ 1000)  : Spec Tryd.prog 57 #[v, .agg #[.int .i64 n, .int .i64 g], .int .i64 o] [rRows wq v 107 6 pntC l] (fun u L => ∃ v', u = v' ∧ L = [rRows true v' 3 1 inC (placesP l (n, g) o), rRows wq v 107 6 pntC l]) := by
  refine spec_of (#[v, .agg #[.int .i64 n, .int .i64 g], .int .i64 o, undef, undef, undef, undef, undef, undef, undef, undef, undef, undef, undef, undef, undef, undef, undef, undef, undef, undef, undef, undef, undef, undef, undef, undef, undef, undef, undef, undef, undef, undef, undef, undef, undef, undef, undef, undef, undef, undef, undef, undef, undef, undef, undef, undef, undef, undef, undef, undef, undef]) Tryd.func57 rfl (by kernel_rfl) fun E w0 w h => ?_
  refine c_seq ?_
  refine c_reg ?_
  refine sq_new rfl (fun b => .pointer (some ⟨b, 0, none⟩)) [.int .i64 n, .int .i64 g] 33 (fun _ => by kernel_rfl) h ?_; intro k1 w h
  refine sq_p (.slice none 0 0) rfl (fun _ => by kernel_rfl) ?_
  refine lnil ?_
  refine thn_n ?_
  refine c_seq ?_
  refine c_reg ?_
  refine sq_p (.slice none 0 0) rfl (fun _ => by kernel_rfl) ?_
  refine lnil ?_
  refine thn_n ?_
  refine c_seq ?_
  refine c_seq ?_
  refine c_reg ?_
  refine sq_p (.int .i64 0) rfl (fun _ => by kernel_rfl) ?_
  refine lnil ?_
  refine thn_n ?_
  refine c_block ?_
  have h := h.nilRows 3 1 inC
  refine c_loop (X := Nat × List Int × Value × (Nat → Value)) (fun ⟨i, out, vo, J0⟩ => ⟨#[v, .agg #[.int .i64 n, .int .i64 g], .int .i64 o, undef, .pointer (some ⟨k1, 0, none⟩), undef, .slice none 0 0, vo, .int .i64 (i : Int), J0 9, J0 10, J0 11, J0 12, J0 13, J0 14, J0 15, J0 16, J0 17, J0 18, J0 19, J0 20, J0 21, J0 22, J0 23, J0 24, J0 25, J0 26, J0 27, J0 28, J0 29, J0 30, J0 31, J0 32, J0 33, J0 34, J0 35, J0 36, J0 37, J0 38, J0 39, J0 40, J0 41, J0 42, J0 43, J0 44, J0 45, J0 46, J0 47, J0 48, J0 49, J0 50, undef], []⟩)
    (fun ⟨i, out, vo, J0⟩ => [rRows true vo 3 1 inC out, rCell true k1 [.int .i64 n, .int .i64 g] 33, rRows wq v 107 6 pntC l]) (fun ⟨i, out, vo, J0⟩ => i ≤ l.length ∧ out = placesP (l.take i) (n, g) o) (fun ⟨i, out, vo, J0⟩ => l.length - i)
    ⟨0, [], (.slice none 0 0), (fun n => (#[v, .agg #[.int .i64 n, .int .i64 g], .int .i64 o, undef, .pointer (some ⟨k1, 0, none⟩), undef, .slice none 0 0, .slice none 0 0, .int .i64 0, undef, undef, undef, undef, undef, undef, undef, undef, undef, undef, undef, undef, undef, undef, undef, undef, undef, undef, undef, undef, undef, undef, undef, undef, undef, undef, undef, undef, undef, undef, undef, undef, undef, undef, undef, undef, undef, undef, undef, undef, undef, undef, undef] : Array Value).getD n undef)⟩ ⟨by omega, rfl⟩ (by kernel_rfl) [0, 0, 0] (by kernel_rfl) h ?_
  rintro ⟨i, out, vo, J0⟩ w hG h
  obtain ⟨hi0, ho⟩ : i ≤ l.length ∧ out = placesP (l.take i) (n, g) o := hG
  have hol : out.length ≤ 2000 := by rw [ho]; have := places_len (l.take i) (n, g) o; rw [List.length_take] at this; omega
  have hol2 : ∀ q : Int, (insI out q).length ≤ 2001 := fun q => by have := insI_len (n := q) (l := out); omega
  refine c_seq ?_
  refine c_seq ?_
  refine c_reg ?_
  refine sq_p (.int .i64 (i : Int)) rfl (fun _ => by kernel_rfl) ?_
  refine sq_p (v) rfl (fun _ => by kernel_rfl) ?_
  refine sq_q rfl h (g_len (by kernel_rfl) 2 rfl) ?_
  refine sq_p (.bool (decide ((i : Int) < (l.length : Int)))) rfl (fun _ => by kernel_rfl) ?_
  refine lnil ?_
  refine thn_n ?_
  refine c_cond (decide ((i : Int) < (l.length : Int))) (by kernel_rfl) (fun hc2 => ?_) (fun hc2 => ?_)
  · skip
    have hc2 := of_decide_eq_true hc2
    refine c_skip ?_
    refine thn_n ?_
    refine c_seq ?_
    refine c_block ?_
    refine c_seq ?_
    refine d_start 16 [1, 1] (by kernel_rfl) h fun w h => ?_
    refine d_take 0 34 [1, 1] rfl (v := v) (by kernel_rfl) (qp_thn (qp_blk (qp_thn (qp_rnd (qp_blk (qp_thn qp_body)))))) (yq (by kernel_rfl) (g_pure (v := v) fun _ => by kernel_rfl)) h (by kernel_rfl) ?_
    refine d_take 1 33 [1, 1] rfl (v := .int .i64 (i : Int)) (by kernel_rfl) (qp_thn (qp_blk (qp_thn (qp_rnd (qp_blk (qp_thn qp_body)))))) (yq (by kernel_rfl) (g_pure (v := .int .i64 (i : Int)) fun _ => by kernel_rfl)) h (by kernel_rfl) ?_
    have hi3 : i < l.length := by omega
    obtain ⟨x4, hx5⟩ : ∃ x, l[i]? = some x := ⟨_, List.getElem?_eq_getElem hi3⟩
    refine d_take 2 35 [1, 1] rfl (v := .pointer (some ⟨blkN v, offN v + i * 6, none⟩)) (by kernel_rfl) (qp_thn (qp_blk (qp_thn (qp_rnd (qp_blk (qp_thn qp_body)))))) (yq (by kernel_rfl) (g_idx i (by kernel_rfl) hi3 1 rfl)) h (by kernel_rfl) ?_
    refine d_take 3 39 [1, 1] rfl (v := .pointer (some ⟨blkN v, offN v + i * 6, none⟩)) (by kernel_rfl) (qp_thn (qp_blk (qp_thn (qp_rnd (qp_blk (qp_thn qp_body)))))) (yq (by kernel_rfl) (g_pure (v := .pointer (some ⟨blkN v, offN v + i * 6, none⟩)) fun _ => by kernel_rfl)) h (by kernel_rfl) ?_
    refine d_take 4 47 [1, 1] rfl (v := .agg #[.int .i64 x4.1.1, .int .i64 x4.1.2]) (by kernel_rfl) (qp_thn (qp_blk (qp_thn (qp_rnd (qp_blk (qp_thn qp_body)))))) (yq (by kernel_rfl) (g_ldr (b := blkN v) (offN v + i * 6) [.int .i64 x4.1.1, .int .i64 x4.1.2] (.agg #[.int .i64 x4.1.1, .int .i64 x4.1.2]) (by kernel_rfl) 1 rfl (rdRow0 pntC_len hx5 (by kernel_rfl)))) h (by kernel_rfl) ?_
    refine d_take 5 31 [1, 1] rfl (v := .agg #[.int .i64 n, .int .i64 g]) (by kernel_rfl) (qp_thn (qp_blk (qp_thn (qp_rnd (qp_blk (qp_thn qp_body)))))) (yq (by kernel_rfl) (g_ld 0 [.int .i64 n, .int .i64 g] (.agg #[.int .i64 n, .int .i64 g]) (by kernel_rfl) 0 rfl)) h (by kernel_rfl) ?_
    obtain ⟨b6, hb6⟩ : ∃ b_ : Bool, b_ = ((decide (x4.1.1 = n)) && (decide (x4.1.2 = g))) := ⟨_, rfl⟩
    refine d_take 6 63 [1, 1] rfl (v := .bool b6) (by kernel_rfl) (qp_thn (qp_blk (qp_thn (qp_rnd (qp_blk (qp_thn qp_body)))))) (yq (by kernel_rfl) (by subst hb6; exact g_eqH (by kernel_rfl))) h (by kernel_rfl) ?_
    refine d_take 7 127 [1, 1] rfl (v := .bool b6) (by kernel_rfl) (qp_thn (qp_blk (qp_thn (qp_rnd (qp_blk (qp_thn qp_body)))))) (yq (by kernel_rfl) (g_pure (v := .bool b6) fun _ => by kernel_rfl)) h (by kernel_rfl) ?_
    refine d_take 8 8959 [1, 1] rfl (by kernel_rfl) (qp_thn (qp_blk (qp_thn (qp_rnd (qp_blk (qp_thn qp_body)))))) (ym1 (v := v) b6 (by cases b6 <;> kernel_rfl) (fun hB => by subst hB; exact g_pure (v := v) fun _ => by kernel_rfl)) h (by kernel_rfl) ?_
    refine d_take 9 8703 [1, 1] rfl (by kernel_rfl) (qp_thn (qp_blk (qp_thn (qp_rnd (qp_blk (qp_thn qp_body)))))) (ym1 (v := .int .i64 (i : Int)) b6 (by cases b6 <;> kernel_rfl) (fun hB => by subst hB; exact g_pure (v := .int .i64 (i : Int)) fun _ => by kernel_rfl)) h (by kernel_rfl) ?_
    refine d_take 10 9215 [1, 1] rfl (by kernel_rfl) (qp_thn (qp_blk (qp_thn (qp_rnd (qp_blk (qp_thn qp_body)))))) (ym1 (v := .pointer (some ⟨blkN v, offN v + i * 6, none⟩)) b6 (by cases b6 <;> kernel_rfl) (fun hB => by subst hB; exact g_idx i (by kernel_rfl) hi3 1 rfl)) h (by kernel_rfl) ?_
    refine d_take 11 10239 [1, 1] rfl (by kernel_rfl) (qp_thn (qp_blk (qp_thn (qp_rnd (qp_blk (qp_thn qp_body)))))) (ym1 (v := .pointer (some ⟨blkN v, offN v + i * 6 + 2, none⟩)) b6 (by cases b6 <;> kernel_rfl) (fun hB => by subst hB; exact g_pure (v := .pointer (some ⟨blkN v, offN v + i * 6 + 2, none⟩)) fun _ => by kernel_rfl)) h (by kernel_rfl) ?_
    refine d_take 12 12287 [1, 1] rfl (by kernel_rfl) (qp_thn (qp_blk (qp_thn (qp_rnd (qp_blk (qp_thn qp_body)))))) (ym1 (v := .int .i64 x4.2.1) b6 (by cases b6 <;> kernel_rfl) (fun hB => by subst hB; exact g_ldr (b := blkN v) (offN v + i * 6 + 2) [.int .i64 x4.2.1] (.int .i64 x4.2.1) (by kernel_rfl) 1 rfl (rdRow pntC_len hx5 2 (by kernel_rfl)))) h (by kernel_rfl) ?_
    refine d_take 13 8191 [1, 1] rfl (by kernel_rfl) (qp_thn (qp_blk (qp_thn (qp_rnd (qp_blk (qp_thn qp_body)))))) (ym1 (v := .int .i64 o) b6 (by cases b6 <;> kernel_rfl) (fun hB => by subst hB; exact g_pure (v := .int .i64 o) fun _ => by kernel_rfl)) h (by kernel_rfl) ?_
    obtain ⟨b7, hb7⟩ : ∃ b_ : Bool, b_ = (decide (x4.2.1 = o)) := ⟨_, rfl⟩
    refine d_take 14 16383 [1, 1] rfl (by kernel_rfl) (qp_thn (qp_blk (qp_thn (qp_rnd (qp_blk (qp_thn qp_body)))))) (ym1 (v := .bool b7) b6 (by cases b6 <;> kernel_rfl) (fun hB => by subst hB; exact by subst hb7; exact g_pure (v := .bool (decide (x4.2.1 = o))) fun _ => by kernel_rfl)) h (by kernel_rfl) ?_
    obtain ⟨b8, hb8⟩ : ∃ b_ : Bool, b_ = (b6 && b7) := ⟨_, rfl⟩
    refine d_take 15 32767 [1, 1] rfl (v := .bool b8) (by kernel_rfl) (qp_thn (qp_blk (qp_thn (qp_rnd (qp_blk (qp_thn qp_body)))))) (yq (by kernel_rfl) (by subst hb8; exact g_pure (v := .bool (b6 && b7)) fun _ => by cases b6 <;> kernel_rfl)) h (by kernel_rfl) ?_
    refine d_done (by kernel_rfl) ?_
    refine thn_n ?_
    have hT : mineN (n, g) o x4 = b8 := by subst hb8 hb7 hb6; by_cases h1 : x4.1.1 = n <;> by_cases h2 : x4.1.2 = g <;> by_cases h3 : x4.2.1 = o <;> simp [mineN, covN, h1, h2, h3, Prod.ext_iff]
    refine c_cond (b8) (by kernel_rfl) (fun hc9 => ?_) (fun hc9 => ?_)
    · skip
      have q10 : (b6 && b7) = true := by rw [← hb8]; exact hc9
      have q11 : b6 = true := by revert q10; cases b6 <;> simp
      have q12 : b7 = true := by revert q10; cases b6 <;> cases b7 <;> simp
      have q13 : ((decide (x4.1.1 = n)) && (decide (x4.1.2 = g))) = true := by rw [← hb6]; exact q11
      have q14 : (decide (x4.1.1 = n)) = true := by revert q13; cases (decide (x4.1.1 = n)) <;> simp
      have q15 : (decide (x4.1.2 = g)) = true := by revert q13; cases (decide (x4.1.1 = n)) <;> cases (decide (x4.1.2 = g)) <;> simp
      have q14 := of_decide_eq_true q14
      have q15 := of_decide_eq_true q15
      have q16 : (decide (x4.2.1 = o)) = true := by rw [← hb7]; exact q12
      have q16 := of_decide_eq_true q16
      rw [hc9] at hT
      refine c_seq ?_
      refine c_reg ?_
      refine sq_p (vo) rfl (fun _ => by kernel_rfl) ?_
      refine sq_p (v) rfl (fun _ => by kernel_rfl) ?_
      refine sq_p (.int .i64 (i : Int)) rfl (fun _ => by kernel_rfl) ?_
      refine sq_q rfl h (g_idx i (by kernel_rfl) hi3 2 rfl) ?_
      refine sq_p (.pointer (some ⟨blkN v, offN v + i * 6 + 3, none⟩)) rfl (fun _ => by kernel_rfl) ?_
      refine sq_q rfl h (g_ldr (b := blkN v) (offN v + i * 6 + 3) [.int .i64 x4.2.2.1] (.int .i64 x4.2.2.1) (by kernel_rfl) 2 rfl (rdRow pntC_len hx5 3 (by kernel_rfl))) ?_
      refine sq_call #[vo, .int .i64 x4.2.2.1] [0] rfl (insert_spec vo out x4.2.2.1 (by first | omega | exact Nat.le_trans (hol2 _) (by decide))) (fun _ => by kernel_rfl) h ?_; rintro v17 L_ w ⟨_, rfl, rfl⟩ h
      refine sq_p (v17) rfl (fun _ => by kernel_rfl) ?_
      refine lnil ?_
      refine thn_n ?_
      refine c_seq ?_
      refine c_reg ?_
      refine sq_p (v) rfl (fun _ => by kernel_rfl) ?_
      refine sq_p (.int .i64 (i : Int)) rfl (fun _ => by kernel_rfl) ?_
      refine sq_q rfl h (g_idx i (by kernel_rfl) hi3 2 rfl) ?_
      refine sq_p (.pointer (some ⟨blkN v, offN v + i * 6 + 4, none⟩)) rfl (fun _ => by kernel_rfl) ?_
      refine sq_q rfl h (g_ldr (b := blkN v) (offN v + i * 6 + 4) [.int .i64 x4.2.2.2.1] (.int .i64 x4.2.2.2.1) (by kernel_rfl) 2 rfl (rdRow pntC_len hx5 4 (by kernel_rfl))) ?_
      refine sq_p (.bool (decide (x4.2.2.2.1 ≥ 0))) rfl (fun _ => by kernel_rfl) ?_
      refine lnil ?_
      refine thn_n ?_
      refine c_cond (decide (x4.2.2.2.1 ≥ 0)) (by kernel_rfl) (fun hc18 => ?_) (fun hc18 => ?_)
      · skip
        have hc18 := of_decide_eq_true hc18
        refine c_reg ?_
        refine sq_p (v17) rfl (fun _ => by kernel_rfl) ?_
        refine sq_p (v) rfl (fun _ => by kernel_rfl) ?_
        refine sq_p (.int .i64 (i : Int)) rfl (fun _ => by kernel_rfl) ?_
        refine sq_q rfl h (g_idx i (by kernel_rfl) hi3 2 rfl) ?_
        refine sq_p (.pointer (some ⟨blkN v, offN v + i * 6 + 4, none⟩)) rfl (fun _ => by kernel_rfl) ?_
        refine sq_q rfl h (g_ldr (b := blkN v) (offN v + i * 6 + 4) [.int .i64 x4.2.2.2.1] (.int .i64 x4.2.2.2.1) (by kernel_rfl) 2 rfl (rdRow pntC_len hx5 4 (by kernel_rfl))) ?_
        refine sq_call #[v17, .int .i64 x4.2.2.2.1] [0] rfl (insert_spec v17 (insI out x4.2.2.1) x4.2.2.2.1 (by first | omega | exact Nat.le_trans (hol2 _) (by decide))) (fun _ => by kernel_rfl) h ?_; rintro v19 L_ w ⟨_, rfl, rfl⟩ h
        refine sq_p (v19) rfl (fun _ => by kernel_rfl) ?_
        refine lnil ?_
        refine blk_n (thn_n ?_)
        refine c_reg ?_
        refine sq_p (.int .i64 (i : Int)) rfl (fun _ => by kernel_rfl) ?_
        refine sq_q rfl h (g_eq (v := .int .i64 (IntKind.i64.wrap ((i : Int) + 1))) (v' := .int .i64 ((i + 1 : Nat) : Int)) (g_pure fun _ => by kernel_rfl) (wr (by omega))) ?_
        refine sq_p (.int .i64 ((i + 1 : Nat) : Int)) rfl (fun _ => by kernel_rfl) ?_
        refine lnil ?_
        refine loop_end (fun j => ⟨(i + 1), insI (insI out x4.2.2.1) x4.2.2.2.1, v19, j⟩) (show ((i + 1) ≤ l.length ∧ (insI (insI out x4.2.2.1) x4.2.2.2.1) = placesP (l.take (i + 1)) (n, g) o) ∧ (l.length - (i + 1)) < (l.length - i) from ⟨⟨by omega, by rw [places_take hx5, if_pos hT, if_neg (by omega), ho]⟩, by omega⟩) (by kernel_rfl) [0, 0, 0] (by kernel_rfl) h
      · skip
        have hc18 := of_decide_eq_false hc18
        refine c_skip ?_
        refine blk_n (thn_n ?_)
        refine c_reg ?_
        refine sq_p (.int .i64 (i : Int)) rfl (fun _ => by kernel_rfl) ?_
        refine sq_q rfl h (g_eq (v := .int .i64 (IntKind.i64.wrap ((i : Int) + 1))) (v' := .int .i64 ((i + 1 : Nat) : Int)) (g_pure fun _ => by kernel_rfl) (wr (by omega))) ?_
        refine sq_p (.int .i64 ((i + 1 : Nat) : Int)) rfl (fun _ => by kernel_rfl) ?_
        refine lnil ?_
        refine loop_end (fun j => ⟨(i + 1), insI out x4.2.2.1, v17, j⟩) (show ((i + 1) ≤ l.length ∧ (insI out x4.2.2.1) = placesP (l.take (i + 1)) (n, g) o) ∧ (l.length - (i + 1)) < (l.length - i) from ⟨⟨by omega, by rw [places_take hx5, if_pos hT, if_pos (by omega), ho]⟩, by omega⟩) (by kernel_rfl) [0, 0, 0] (by kernel_rfl) h
    · skip
      have q20 : (b6 && b7) = false := by rw [← hb8]; exact hc9
      rw [hc9] at hT
      refine c_skip ?_
      refine blk_n (thn_n ?_)
      refine c_reg ?_
      refine sq_p (.int .i64 (i : Int)) rfl (fun _ => by kernel_rfl) ?_
      refine sq_q rfl h (g_eq (v := .int .i64 (IntKind.i64.wrap ((i : Int) + 1))) (v' := .int .i64 ((i + 1 : Nat) : Int)) (g_pure fun _ => by kernel_rfl) (wr (by omega))) ?_
      refine sq_p (.int .i64 ((i + 1 : Nat) : Int)) rfl (fun _ => by kernel_rfl) ?_
      refine lnil ?_
      refine loop_end (fun j => ⟨(i + 1), out, vo, j⟩) (show ((i + 1) ≤ l.length ∧ out = placesP (l.take (i + 1)) (n, g) o) ∧ (l.length - (i + 1)) < (l.length - i) from ⟨⟨by omega, by rw [places_take hx5, if_neg (by rw [hT]; exact Bool.false_ne_true), ho]⟩, by omega⟩) (by kernel_rfl) [0, 0, 0] (by kernel_rfl) h
  · skip
    have hc2 := of_decide_eq_false hc2
    refine c_exit ?_
    refine thn_e (rnd_e (blk_e (thn_n ?_)))
    refine c_seq ?_
    refine c_reg ?_
    refine sq_p (vo) rfl (fun _ => by kernel_rfl) ?_
    refine sq_p (vo) rfl (fun _ => by kernel_rfl) ?_
    refine lnil ?_
    refine thn_n ?_
    refine c_ret ?_
    refine ret_end [vo] [0, 1] h (by kernel_rfl) (res_t (by kernel_rfl) res_n) ?_
    rw [ho, List.take_of_length_le (by omega)]
    exact ⟨_, rfl, rfl⟩
end Go.Proofs.YtgebinfbbopnlaaDoor
