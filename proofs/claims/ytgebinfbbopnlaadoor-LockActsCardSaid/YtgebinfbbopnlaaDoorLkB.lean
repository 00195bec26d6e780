/- lock: contracts by what is owned (printed by walk.py). -/
import Derived.Test.YtgebinfbbopnlaaDoorLkA
namespace Go.Proofs.YtgebinfbbopnlaaDoor
open Go.RowKit
set_option linter.unusedVariables false
set_option linter.unusedSimpArgs false
set_option linter.unnecessarySimpa false
set_option maxRecDepth 100000

theorem join_take {l : List Run} {k : Nat} {x : Run} (hx : l[k]? = some x) : joinL (l.take (k + 1)) = joinStep (joinL (l.take k)) x := by
  unfold joinL
  rw [List.take_add_one, hx]
  simp [List.foldl_append]
theorem join_all {l : List Run} {k : Nat} (hk : l.length ≤ k) : joinL (l.take k) = joinL l := by rw [List.take_of_length_le hk]
theorem join_nil {x : Run} {out : List Run} (h : out.length = 0) : joinStep out x = out ++ [x] := by
  have : out = [] := by simpa using h
  subst this; rfl
theorem last_split {out : List Run} {j : Nat} {y : Run} (hj : out.length = j + 1) (hy : out[j]? = some y) : ∃ i, out = i ++ [y] ∧ i.length = j := by
  rcases List.eq_nil_or_concat out with rfl | ⟨i, z, rfl⟩
  · simp at hj
  · rw [List.concat_eq_append] at hj hy ⊢
    have hl : i.length = j := by simp at hj; omega
    refine ⟨i, ?_, hl⟩
    rw [List.getElem?_append_right (by omega), hl] at hy
    simp at hy
    rw [hy]
theorem join_touch {out : List Run} {j : Nat} {x y : Run} (hj : out.length = j + 1) (hy : out[j]? = some y) (ht : touchP y x = true) : joinStep out x = out.set j (y.1, y.2.1, y.2.2.1, x.2.2.2.1, y.2.2.2.2) := by
  obtain ⟨i, rfl, hi⟩ := last_split hj hy
  rw [joinStep_last, if_pos ht, List.set_append_right _ _ (by omega), hi]
  simp
theorem join_apart {out : List Run} {j : Nat} {x y : Run} (hj : out.length = j + 1) (hy : out[j]? = some y) (ht : touchP y x = false) : joinStep out x = out ++ [x] := by
  obtain ⟨i, rfl, hi⟩ := last_split hj hy
  rw [joinStep_last, if_neg (by simp [ht])]
theorem joinStep_len (out : List Run) (x : Run) : (joinStep out x).length ≤ out.length + 1 := by
  rcases List.eq_nil_or_concat out with rfl | ⟨i, y, rfl⟩
  · simp [joinStep_nil]
  · rw [List.concat_eq_append, joinStep_last]; split <;> simp
theorem touch_of (y x : Run) : touchP y x = (decide (y.1.1 = x.1.1) && decide (y.1.2 = x.1.2) && decide (y.2.1 = x.2.1) && (y.2.2.2.2 == x.2.2.2.2) && decide (y.2.2.2.1 = x.2.2.1)) := by
  rw [Bool.eq_iff_iff, touch_iff]; simp [Prod.ext_iff, and_assoc]

set_option maxHeartbeats 1000000 in
theorem join_spec (vl : Value) (l0 : List Run) (hl : l0.length ≤ 1000000) : Spec Tryd.prog 37 #[vl] [rRows true vl 104 6 runC l0] (fun u L => ∃ v' l', (l'.Perm l0 ∧ l'.Pairwise (fun x y => ¬ joinCf y x < 0)) ∧ u = v' ∧ L = [rRows true vl 104 6 runC l', rRows true v' 104 6 runC (joinL l')]) := by
  refine spec_of (#[vl, undef, undef, undef, undef, undef, undef, undef, undef, undef, undef, undef, undef, undef, undef, undef, undef, undef, undef, undef, undef, undef, undef, undef, undef, undef, undef, undef, undef, undef, undef, undef, undef, undef, undef, undef, undef, undef, undef, undef, undef, undef, undef, undef, undef, undef, undef, undef, undef, undef, undef, undef, undef, undef, undef, undef, undef, undef, undef, undef, undef, undef, undef, undef, undef, undef, undef, undef, undef, undef, undef, undef]) Tryd.func37 rfl (by kernel_rfl) fun E w0 w h => ?_
  refine c_seq ?_
  refine c_reg ?_
  refine sq_p (.slice none 0 0) rfl (fun _ => by kernel_rfl) ?_
  refine lnil ?_
  refine thn_n ?_
  refine c_seq ?_
  refine c_reg ?_
  refine sq_p (vl) rfl (fun _ => by kernel_rfl) ?_
  refine sq_call #[vl, .func (.func 51) #[] #[]] [0] rfl (sort_join (l := l0) (by omega)) (fun _ => by kernel_rfl) h ?_; rintro v_ L_ w ⟨l1, ⟨hp2, ho3⟩, rfl, rfl⟩ h
  have hp2l := hp2.length_eq
  refine lnil ?_
  refine thn_n ?_
  refine c_seq ?_
  refine c_reg ?_
  refine sq_p (.slice none 0 0) rfl (fun _ => by kernel_rfl) ?_
  refine lnil ?_
  refine thn_n ?_
  refine c_seq ?_
  refine c_seq ?_
  refine c_reg ?_
  refine sq_p (vl) rfl (fun _ => by kernel_rfl) ?_
  refine sq_q rfl h (g_len (by kernel_rfl) 0 rfl) ?_
  refine sq_p (.int .i64 0) rfl (fun _ => by kernel_rfl) ?_
  refine lnil ?_
  refine thn_n ?_
  refine c_block ?_
  have h := h.nilRows 104 6 runC
  refine c_loop (X := Nat × List Run × Value × (Nat → Value)) (fun ⟨k, out, vo, J0⟩ => ⟨#[vl, undef, .slice none 0 0, vo, undef, J0 5, J0 6, vl, .tuple #[], vl, .int .i64 (l1.length : Int), .int .i64 (k : Int), J0 12, J0 13, J0 14, J0 15, J0 16, J0 17, J0 18, J0 19, J0 20, J0 21, J0 22, J0 23, J0 24, J0 25, J0 26, J0 27, J0 28, J0 29, J0 30, J0 31, J0 32, J0 33, J0 34, J0 35, J0 36, J0 37, J0 38, J0 39, J0 40, J0 41, J0 42, J0 43, J0 44, J0 45, J0 46, J0 47, J0 48, J0 49, J0 50, J0 51, J0 52, J0 53, J0 54, J0 55, J0 56, J0 57, J0 58, J0 59, J0 60, J0 61, J0 62, J0 63, J0 64, J0 65, J0 66, J0 67, J0 68, J0 69, J0 70, undef], []⟩)
    (fun ⟨k, out, vo, J0⟩ => [rRows true vo 104 6 runC out, rRows true vl 104 6 runC l1]) (fun ⟨k, out, vo, J0⟩ => k ≤ l1.length ∧ out = joinL (l1.take k) ∧ out.length ≤ k) (fun ⟨k, out, vo, J0⟩ => l1.length - k)
    ⟨0, [], (.slice none 0 0), (fun n => (#[vl, undef, .slice none 0 0, .slice none 0 0, undef, undef, undef, vl, .tuple #[], vl, .int .i64 (l1.length : Int), .int .i64 0, undef, undef, undef, undef, undef, undef, undef, undef, undef, undef, undef, undef, undef, undef, undef, undef, undef, undef, undef, undef, undef, undef, undef, undef, undef, undef, undef, undef, undef, undef, undef, undef, undef, undef, undef, undef, undef, undef, undef, undef, undef, undef, undef, undef, undef, undef, undef, undef, undef, undef, undef, undef, undef, undef, undef, undef, undef, undef, undef, undef] : Array Value).getD n undef)⟩ ⟨by omega, by simp [joinL], by simp⟩ (by kernel_rfl) [0, 0] (by kernel_rfl) h ?_
  rintro ⟨k, out, vo, J0⟩ w hG h
  obtain ⟨hk, ho, hm⟩ : k ≤ l1.length ∧ out = joinL (l1.take k) ∧ out.length ≤ k := hG
  refine c_seq ?_
  refine c_reg ?_
  refine sq_p (.bool (decide ((k : Int) < (l1.length : Int)))) rfl (fun _ => by kernel_rfl) ?_
  refine lnil ?_
  refine thn_n ?_
  refine c_seq ?_
  refine c_cond (decide ((k : Int) < (l1.length : Int))) (by kernel_rfl) (fun hc4 => ?_) (fun hc4 => ?_)
  · skip
    have hc4 := of_decide_eq_true hc4
    refine c_skip ?_
    refine thn_n ?_
    refine c_seq ?_
    refine c_block ?_
    refine c_seq ?_
    refine c_reg ?_
    have hi5 : k < l1.length := by omega
    obtain ⟨x6, hx7⟩ : ∃ x, l1[k]? = some x := ⟨_, List.getElem?_eq_getElem hi5⟩
    refine sq_q rfl h (g_idx k (by kernel_rfl) hi5 1 rfl) ?_
    refine sq_q rfl h (g_ldr (b := blkN vl) (offN vl + k * 6) [.int .i64 x6.1.1, .int .i64 x6.1.2, .int .i64 x6.2.1, .int .i64 x6.2.2.1, .int .i64 x6.2.2.2.1, .bool x6.2.2.2.2] (.agg #[.int .i64 x6.1.1, .int .i64 x6.1.2, .int .i64 x6.2.1, .int .i64 x6.2.2.1, .int .i64 x6.2.2.2.1, .bool x6.2.2.2.2]) (by kernel_rfl) 1 rfl (rdRow0 runC_len hx7 (by kernel_rfl))) ?_
    refine sq_new rfl (fun b => .pointer (some ⟨b, 0, none⟩)) [.int .i64 0, .int .i64 0, .int .i64 0, .int .i64 0, .int .i64 0, .bool false] 104 (fun _ => by kernel_rfl) h ?_; intro k8 w h
    refine sq_st rfl 0 [.int .i64 x6.1.1, .int .i64 x6.1.2, .int .i64 x6.2.1, .int .i64 x6.2.2.1, .int .i64 x6.2.2.2.1, .bool x6.2.2.2.2] [.int .i64 x6.1.1, .int .i64 x6.1.2, .int .i64 x6.2.1, .int .i64 x6.2.2.1, .int .i64 x6.2.2.2.1, .bool x6.2.2.2.2] h 0 rfl (by kernel_rfl) ?_; intro w h
    refine lnil ?_
    refine thn_n ?_
    refine c_seq ?_
    refine c_seq ?_
    refine c_reg ?_
    refine sq_p (vo) rfl (fun _ => by kernel_rfl) ?_
    refine sq_q rfl h (g_len (by kernel_rfl) 1 rfl) ?_
    refine sq_q rfl h (g_eq (v := .int .i64 (IntKind.i64.wrap ((out.length : Int) - 1))) (v' := .int .i64 ((out.length : Int) - 1)) (g_pure fun _ => by kernel_rfl) (wr (by omega))) ?_
    refine sq_p (.int .i64 ((out.length : Int) - 1)) rfl (fun _ => by kernel_rfl) ?_
    refine lnil ?_
    refine thn_n ?_
    refine c_seq ?_
    refine d_start 42 [0, 0] (by kernel_rfl) h fun w h => ?_
    refine d_take 0 0 [0, 0] rfl (v := .int .i64 ((out.length : Int) - 1)) (by kernel_rfl) (qp_thn (qp_thn (qp_blk (qp_thn (qp_rnd (qp_blk (qp_thn qp_body))))))) (yq (by kernel_rfl) (g_pure (v := .int .i64 ((out.length : Int) - 1)) fun _ => by kernel_rfl)) h (by kernel_rfl) ?_
    obtain ⟨b9, hb9⟩ : ∃ b_ : Bool, b_ = (decide ((out.length : Int) - 1 ≥ 0)) := ⟨_, rfl⟩
    refine d_take 1 1 [0, 0] rfl (v := .bool b9) (by kernel_rfl) (qp_thn (qp_thn (qp_blk (qp_thn (qp_rnd (qp_blk (qp_thn qp_body))))))) (yq (by kernel_rfl) (by subst hb9; exact g_pure (v := .bool (decide ((out.length : Int) - 1 ≥ 0))) fun _ => by kernel_rfl)) h (by kernel_rfl) ?_
    refine d_take 2 3 [0, 0] rfl (v := .bool b9) (by kernel_rfl) (qp_thn (qp_thn (qp_blk (qp_thn (qp_rnd (qp_blk (qp_thn qp_body))))))) (yq (by kernel_rfl) (g_pure (v := .bool b9) fun _ => by kernel_rfl)) h (by kernel_rfl) ?_
    rcases Bool.eq_false_or_eq_true b9 with hc10 | hc10
    · skip
      subst hc10
      have q11 := hb9.symm
      have q11 := of_decide_eq_true q11
      refine d_take 3 791 [0, 0] rfl (v := vo) (by kernel_rfl) (qp_thn (qp_thn (qp_blk (qp_thn (qp_rnd (qp_blk (qp_thn qp_body))))))) (yq (by kernel_rfl) (g_pure (v := vo) fun _ => by kernel_rfl)) h (by kernel_rfl) ?_
      refine d_take 4 783 [0, 0] rfl (v := .int .i64 ((out.length : Int) - 1)) (by kernel_rfl) (qp_thn (qp_thn (qp_blk (qp_thn (qp_rnd (qp_blk (qp_thn qp_body))))))) (yq (by kernel_rfl) (g_pure (v := .int .i64 ((out.length : Int) - 1)) fun _ => by kernel_rfl)) h (by kernel_rfl) ?_
      obtain ⟨j12, hj12⟩ : ∃ n : Nat, (out.length : Int) - 1 = (n : Int) := ⟨((out.length : Int) - 1).toNat, by omega⟩
      have hi13 : j12 < out.length := by omega
      obtain ⟨x14, hx15⟩ : ∃ x, out[j12]? = some x := ⟨_, List.getElem?_eq_getElem hi13⟩
      refine d_take 5 799 [0, 0] rfl (v := .pointer (some ⟨blkN vo, offN vo + j12 * 6, none⟩)) (by kernel_rfl) (qp_thn (qp_thn (qp_blk (qp_thn (qp_rnd (qp_blk (qp_thn qp_body))))))) (yq (by kernel_rfl) (g_idxI j12 hj12 (by kernel_rfl) hi13 1 rfl)) h (by kernel_rfl) ?_
      refine d_take 6 831 [0, 0] rfl (v := .pointer (some ⟨blkN vo, offN vo + j12 * 6, none⟩)) (by kernel_rfl) (qp_thn (qp_thn (qp_blk (qp_thn (qp_rnd (qp_blk (qp_thn qp_body))))))) (yq (by kernel_rfl) (g_pure (v := .pointer (some ⟨blkN vo, offN vo + j12 * 6, none⟩)) fun _ => by kernel_rfl)) h (by kernel_rfl) ?_
      refine d_take 7 895 [0, 0] rfl (v := .agg #[.int .i64 x14.1.1, .int .i64 x14.1.2]) (by kernel_rfl) (qp_thn (qp_thn (qp_blk (qp_thn (qp_rnd (qp_blk (qp_thn qp_body))))))) (yq (by kernel_rfl) (g_ldr (b := blkN vo) (offN vo + j12 * 6) [.int .i64 x14.1.1, .int .i64 x14.1.2] (.agg #[.int .i64 x14.1.1, .int .i64 x14.1.2]) (by kernel_rfl) 1 rfl (rdRow0 runC_len hx15 (by kernel_rfl)))) h (by kernel_rfl) ?_
      refine d_take 8 255 [0, 0] rfl (v := .pointer (some ⟨k8, 0, none⟩)) (by kernel_rfl) (qp_thn (qp_thn (qp_blk (qp_thn (qp_rnd (qp_blk (qp_thn qp_body))))))) (yq (by kernel_rfl) (g_pure (v := .pointer (some ⟨k8, 0, none⟩)) fun _ => by kernel_rfl)) h (by kernel_rfl) ?_
      refine d_take 9 511 [0, 0] rfl (v := .agg #[.int .i64 x6.1.1, .int .i64 x6.1.2]) (by kernel_rfl) (qp_thn (qp_thn (qp_blk (qp_thn (qp_rnd (qp_blk (qp_thn qp_body))))))) (yq (by kernel_rfl) (g_ld 0 [.int .i64 x6.1.1, .int .i64 x6.1.2] (.agg #[.int .i64 x6.1.1, .int .i64 x6.1.2]) (by kernel_rfl) 0 rfl)) h (by kernel_rfl) ?_
      obtain ⟨b16, hb16⟩ : ∃ b_ : Bool, b_ = ((decide (x14.1.1 = x6.1.1)) && (decide (x14.1.2 = x6.1.2))) := ⟨_, rfl⟩
      refine d_take 10 1023 [0, 0] rfl (v := .bool b16) (by kernel_rfl) (qp_thn (qp_thn (qp_blk (qp_thn (qp_rnd (qp_blk (qp_thn qp_body))))))) (yq (by kernel_rfl) (by subst hb16; exact g_eqH (by kernel_rfl))) h (by kernel_rfl) ?_
      refine d_take 11 2047 [0, 0] rfl (v := .bool b16) (by kernel_rfl) (qp_thn (qp_thn (qp_blk (qp_thn (qp_rnd (qp_blk (qp_thn qp_body))))))) (yq (by kernel_rfl) (g_pure (v := .bool b16) fun _ => by kernel_rfl)) h (by kernel_rfl) ?_
      refine d_take 12 4095 [0, 0] rfl (v := .bool b16) (by kernel_rfl) (qp_thn (qp_thn (qp_blk (qp_thn (qp_rnd (qp_blk (qp_thn qp_body))))))) (yq (by kernel_rfl) (g_pure (v := .bool b16) fun _ => by kernel_rfl)) h (by kernel_rfl) ?_
      refine d_take 13 811007 [0, 0] rfl (by kernel_rfl) (qp_thn (qp_thn (qp_blk (qp_thn (qp_rnd (qp_blk (qp_thn qp_body))))))) (ym1 (v := vo) b16 (by cases b16 <;> kernel_rfl) (fun hB => by subst hB; exact g_pure (v := vo) fun _ => by kernel_rfl)) h (by kernel_rfl) ?_
      refine d_take 14 802815 [0, 0] rfl (by kernel_rfl) (qp_thn (qp_thn (qp_blk (qp_thn (qp_rnd (qp_blk (qp_thn qp_body))))))) (ym1 (v := .int .i64 ((out.length : Int) - 1)) b16 (by cases b16 <;> kernel_rfl) (fun hB => by subst hB; exact g_pure (v := .int .i64 ((out.length : Int) - 1)) fun _ => by kernel_rfl)) h (by kernel_rfl) ?_
      refine d_take 15 819199 [0, 0] rfl (by kernel_rfl) (qp_thn (qp_thn (qp_blk (qp_thn (qp_rnd (qp_blk (qp_thn qp_body))))))) (ym1 (v := .pointer (some ⟨blkN vo, offN vo + j12 * 6, none⟩)) b16 (by cases b16 <;> kernel_rfl) (fun hB => by subst hB; exact g_idxI j12 hj12 (by kernel_rfl) hi13 1 rfl)) h (by kernel_rfl) ?_
      refine d_take 16 851967 [0, 0] rfl (by kernel_rfl) (qp_thn (qp_thn (qp_blk (qp_thn (qp_rnd (qp_blk (qp_thn qp_body))))))) (ym1 (v := .pointer (some ⟨blkN vo, offN vo + j12 * 6 + 2, none⟩)) b16 (by cases b16 <;> kernel_rfl) (fun hB => by subst hB; exact g_pure (v := .pointer (some ⟨blkN vo, offN vo + j12 * 6 + 2, none⟩)) fun _ => by kernel_rfl)) h (by kernel_rfl) ?_
      refine d_take 17 917503 [0, 0] rfl (by kernel_rfl) (qp_thn (qp_thn (qp_blk (qp_thn (qp_rnd (qp_blk (qp_thn qp_body))))))) (ym1 (v := .int .i64 x14.2.1) b16 (by cases b16 <;> kernel_rfl) (fun hB => by subst hB; exact g_ldr (b := blkN vo) (offN vo + j12 * 6 + 2) [.int .i64 x14.2.1] (.int .i64 x14.2.1) (by kernel_rfl) 1 rfl (rdRow runC_len hx15 2 (by kernel_rfl)))) h (by kernel_rfl) ?_
      refine d_take 18 262143 [0, 0] rfl (by kernel_rfl) (qp_thn (qp_thn (qp_blk (qp_thn (qp_rnd (qp_blk (qp_thn qp_body))))))) (ym1 (v := .pointer (some ⟨k8, 2, none⟩)) b16 (by cases b16 <;> kernel_rfl) (fun hB => by subst hB; exact g_pure (v := .pointer (some ⟨k8, 2, none⟩)) fun _ => by kernel_rfl)) h (by kernel_rfl) ?_
      refine d_take 19 524287 [0, 0] rfl (by kernel_rfl) (qp_thn (qp_thn (qp_blk (qp_thn (qp_rnd (qp_blk (qp_thn qp_body))))))) (ym1 (v := .int .i64 x6.2.1) b16 (by cases b16 <;> kernel_rfl) (fun hB => by subst hB; exact g_ld 2 [.int .i64 x6.2.1] (.int .i64 x6.2.1) (by kernel_rfl) 0 rfl)) h (by kernel_rfl) ?_
      obtain ⟨b17, hb17⟩ : ∃ b_ : Bool, b_ = (decide (x14.2.1 = x6.2.1)) := ⟨_, rfl⟩
      refine d_take 20 1048575 [0, 0] rfl (by kernel_rfl) (qp_thn (qp_thn (qp_blk (qp_thn (qp_rnd (qp_blk (qp_thn qp_body))))))) (ym1 (v := .bool b17) b16 (by cases b16 <;> kernel_rfl) (fun hB => by subst hB; exact by subst hb17; exact g_pure (v := .bool (decide (x14.2.1 = x6.2.1))) fun _ => by kernel_rfl)) h (by kernel_rfl) ?_
      obtain ⟨b18, hb18⟩ : ∃ b_ : Bool, b_ = (b16 && b17) := ⟨_, rfl⟩
      refine d_take 21 2097151 [0, 0] rfl (v := .bool b18) (by kernel_rfl) (qp_thn (qp_thn (qp_blk (qp_thn (qp_rnd (qp_blk (qp_thn qp_body))))))) (yq (by kernel_rfl) (by subst hb18; exact g_pure (v := .bool (b16 && b17)) fun _ => by cases b16 <;> kernel_rfl)) h (by kernel_rfl) ?_
      refine d_take 22 4194303 [0, 0] rfl (v := .bool b18) (by kernel_rfl) (qp_thn (qp_thn (qp_blk (qp_thn (qp_rnd (qp_blk (qp_thn qp_body))))))) (yq (by kernel_rfl) (g_pure (v := .bool b18) fun _ => by kernel_rfl)) h (by kernel_rfl) ?_
      refine d_take 23 830472191 [0, 0] rfl (by kernel_rfl) (qp_thn (qp_thn (qp_blk (qp_thn (qp_rnd (qp_blk (qp_thn qp_body))))))) (ym1 (v := vo) b18 (by cases b18 <;> kernel_rfl) (fun hB => by subst hB; exact g_pure (v := vo) fun _ => by kernel_rfl)) h (by kernel_rfl) ?_
      refine d_take 24 822083583 [0, 0] rfl (by kernel_rfl) (qp_thn (qp_thn (qp_blk (qp_thn (qp_rnd (qp_blk (qp_thn qp_body))))))) (ym1 (v := .int .i64 ((out.length : Int) - 1)) b18 (by cases b18 <;> kernel_rfl) (fun hB => by subst hB; exact g_pure (v := .int .i64 ((out.length : Int) - 1)) fun _ => by kernel_rfl)) h (by kernel_rfl) ?_
      refine d_take 25 838860799 [0, 0] rfl (by kernel_rfl) (qp_thn (qp_thn (qp_blk (qp_thn (qp_rnd (qp_blk (qp_thn qp_body))))))) (ym1 (v := .pointer (some ⟨blkN vo, offN vo + j12 * 6, none⟩)) b18 (by cases b18 <;> kernel_rfl) (fun hB => by subst hB; exact g_idxI j12 hj12 (by kernel_rfl) hi13 1 rfl)) h (by kernel_rfl) ?_
      refine d_take 26 872415231 [0, 0] rfl (by kernel_rfl) (qp_thn (qp_thn (qp_blk (qp_thn (qp_rnd (qp_blk (qp_thn qp_body))))))) (ym1 (v := .pointer (some ⟨blkN vo, offN vo + j12 * 6 + 5, none⟩)) b18 (by cases b18 <;> kernel_rfl) (fun hB => by subst hB; exact g_pure (v := .pointer (some ⟨blkN vo, offN vo + j12 * 6 + 5, none⟩)) fun _ => by kernel_rfl)) h (by kernel_rfl) ?_
      refine d_take 27 939524095 [0, 0] rfl (by kernel_rfl) (qp_thn (qp_thn (qp_blk (qp_thn (qp_rnd (qp_blk (qp_thn qp_body))))))) (ym1 (v := .bool x14.2.2.2.2) b18 (by cases b18 <;> kernel_rfl) (fun hB => by subst hB; exact g_ldr (b := blkN vo) (offN vo + j12 * 6 + 5) [.bool x14.2.2.2.2] (.bool x14.2.2.2.2) (by kernel_rfl) 1 rfl (rdRow runC_len hx15 5 (by kernel_rfl)))) h (by kernel_rfl) ?_
      refine d_take 28 268435455 [0, 0] rfl (by kernel_rfl) (qp_thn (qp_thn (qp_blk (qp_thn (qp_rnd (qp_blk (qp_thn qp_body))))))) (ym1 (v := .pointer (some ⟨k8, 5, none⟩)) b18 (by cases b18 <;> kernel_rfl) (fun hB => by subst hB; exact g_pure (v := .pointer (some ⟨k8, 5, none⟩)) fun _ => by kernel_rfl)) h (by kernel_rfl) ?_
      refine d_take 29 536870911 [0, 0] rfl (by kernel_rfl) (qp_thn (qp_thn (qp_blk (qp_thn (qp_rnd (qp_blk (qp_thn qp_body))))))) (ym1 (v := .bool x6.2.2.2.2) b18 (by cases b18 <;> kernel_rfl) (fun hB => by subst hB; exact g_ld 5 [.bool x6.2.2.2.2] (.bool x6.2.2.2.2) (by kernel_rfl) 0 rfl)) h (by kernel_rfl) ?_
      obtain ⟨b19, hb19⟩ : ∃ b_ : Bool, b_ = (x14.2.2.2.2 == x6.2.2.2.2) := ⟨_, rfl⟩
      refine d_take 30 1073741823 [0, 0] rfl (by kernel_rfl) (qp_thn (qp_thn (qp_blk (qp_thn (qp_rnd (qp_blk (qp_thn qp_body))))))) (ym1 (v := .bool b19) b18 (by cases b18 <;> kernel_rfl) (fun hB => by subst hB; exact by subst hb19; exact g_pure (v := .bool (x14.2.2.2.2 == x6.2.2.2.2)) fun _ => by kernel_rfl)) h (by kernel_rfl) ?_
      obtain ⟨b20, hb20⟩ : ∃ b_ : Bool, b_ = (b18 && b19) := ⟨_, rfl⟩
      refine d_take 31 2147483647 [0, 0] rfl (v := .bool b20) (by kernel_rfl) (qp_thn (qp_thn (qp_blk (qp_thn (qp_rnd (qp_blk (qp_thn qp_body))))))) (yq (by kernel_rfl) (by subst hb20; exact g_pure (v := .bool (b18 && b19)) fun _ => by cases b18 <;> kernel_rfl)) h (by kernel_rfl) ?_
      refine d_take 32 4294967295 [0, 0] rfl (v := .bool b20) (by kernel_rfl) (qp_thn (qp_thn (qp_blk (qp_thn (qp_rnd (qp_blk (qp_thn qp_body))))))) (yq (by kernel_rfl) (g_pure (v := .bool b20) fun _ => by kernel_rfl)) h (by kernel_rfl) ?_
      refine d_take 33 850403524607 [0, 0] rfl (by kernel_rfl) (qp_thn (qp_thn (qp_blk (qp_thn (qp_rnd (qp_blk (qp_thn qp_body))))))) (ym1 (v := vo) b20 (by cases b20 <;> kernel_rfl) (fun hB => by subst hB; exact g_pure (v := vo) fun _ => by kernel_rfl)) h (by kernel_rfl) ?_
      refine d_take 34 841813590015 [0, 0] rfl (by kernel_rfl) (qp_thn (qp_thn (qp_blk (qp_thn (qp_rnd (qp_blk (qp_thn qp_body))))))) (ym1 (v := .int .i64 ((out.length : Int) - 1)) b20 (by cases b20 <;> kernel_rfl) (fun hB => by subst hB; exact g_pure (v := .int .i64 ((out.length : Int) - 1)) fun _ => by kernel_rfl)) h (by kernel_rfl) ?_
      refine d_take 35 858993459199 [0, 0] rfl (by kernel_rfl) (qp_thn (qp_thn (qp_blk (qp_thn (qp_rnd (qp_blk (qp_thn qp_body))))))) (ym1 (v := .pointer (some ⟨blkN vo, offN vo + j12 * 6, none⟩)) b20 (by cases b20 <;> kernel_rfl) (fun hB => by subst hB; exact g_idxI j12 hj12 (by kernel_rfl) hi13 1 rfl)) h (by kernel_rfl) ?_
      refine d_take 36 893353197567 [0, 0] rfl (by kernel_rfl) (qp_thn (qp_thn (qp_blk (qp_thn (qp_rnd (qp_blk (qp_thn qp_body))))))) (ym1 (v := .pointer (some ⟨blkN vo, offN vo + j12 * 6 + 4, none⟩)) b20 (by cases b20 <;> kernel_rfl) (fun hB => by subst hB; exact g_pure (v := .pointer (some ⟨blkN vo, offN vo + j12 * 6 + 4, none⟩)) fun _ => by kernel_rfl)) h (by kernel_rfl) ?_
      refine d_take 37 962072674303 [0, 0] rfl (by kernel_rfl) (qp_thn (qp_thn (qp_blk (qp_thn (qp_rnd (qp_blk (qp_thn qp_body))))))) (ym1 (v := .int .i64 x14.2.2.2.1) b20 (by cases b20 <;> kernel_rfl) (fun hB => by subst hB; exact g_ldr (b := blkN vo) (offN vo + j12 * 6 + 4) [.int .i64 x14.2.2.2.1] (.int .i64 x14.2.2.2.1) (by kernel_rfl) 1 rfl (rdRow runC_len hx15 4 (by kernel_rfl)))) h (by kernel_rfl) ?_
      refine d_take 38 274877906943 [0, 0] rfl (by kernel_rfl) (qp_thn (qp_thn (qp_blk (qp_thn (qp_rnd (qp_blk (qp_thn qp_body))))))) (ym1 (v := .pointer (some ⟨k8, 3, none⟩)) b20 (by cases b20 <;> kernel_rfl) (fun hB => by subst hB; exact g_pure (v := .pointer (some ⟨k8, 3, none⟩)) fun _ => by kernel_rfl)) h (by kernel_rfl) ?_
      refine d_take 39 549755813887 [0, 0] rfl (by kernel_rfl) (qp_thn (qp_thn (qp_blk (qp_thn (qp_rnd (qp_blk (qp_thn qp_body))))))) (ym1 (v := .int .i64 x6.2.2.1) b20 (by cases b20 <;> kernel_rfl) (fun hB => by subst hB; exact g_ld 3 [.int .i64 x6.2.2.1] (.int .i64 x6.2.2.1) (by kernel_rfl) 0 rfl)) h (by kernel_rfl) ?_
      obtain ⟨b21, hb21⟩ : ∃ b_ : Bool, b_ = (decide (x14.2.2.2.1 = x6.2.2.1)) := ⟨_, rfl⟩
      refine d_take 40 1099511627775 [0, 0] rfl (by kernel_rfl) (qp_thn (qp_thn (qp_blk (qp_thn (qp_rnd (qp_blk (qp_thn qp_body))))))) (ym1 (v := .bool b21) b20 (by cases b20 <;> kernel_rfl) (fun hB => by subst hB; exact by subst hb21; exact g_pure (v := .bool (decide (x14.2.2.2.1 = x6.2.2.1))) fun _ => by kernel_rfl)) h (by kernel_rfl) ?_
      obtain ⟨b22, hb22⟩ : ∃ b_ : Bool, b_ = (b20 && b21) := ⟨_, rfl⟩
      refine d_take 41 2199023255551 [0, 0] rfl (v := .bool b22) (by kernel_rfl) (qp_thn (qp_thn (qp_blk (qp_thn (qp_rnd (qp_blk (qp_thn qp_body))))))) (yq (by kernel_rfl) (by subst hb22; exact g_pure (v := .bool (b20 && b21)) fun _ => by cases b20 <;> kernel_rfl)) h (by kernel_rfl) ?_
      refine d_done (by kernel_rfl) ?_
      refine thn_n ?_
      have hT : touchP x14 x6 = b22 := by rw [touch_of]; subst hb22 hb21 hb20 hb19 hb18 hb17 hb16; simp [Bool.and_assoc]
      refine c_cond (b22) (by kernel_rfl) (fun hc23 => ?_) (fun hc23 => ?_)
      · skip
        have q24 : (b20 && b21) = true := by rw [← hb22]; exact hc23
        have q25 : b20 = true := by revert q24; cases b20 <;> simp
        have q26 : b21 = true := by revert q24; cases b20 <;> cases b21 <;> simp
        have q27 : (b18 && b19) = true := by rw [← hb20]; exact q25
        have q28 : b18 = true := by revert q27; cases b18 <;> simp
        have q29 : b19 = true := by revert q27; cases b18 <;> cases b19 <;> simp
        have q30 : (b16 && b17) = true := by rw [← hb18]; exact q28
        have q31 : b16 = true := by revert q30; cases b16 <;> simp
        have q32 : b17 = true := by revert q30; cases b16 <;> cases b17 <;> simp
        have q33 : ((decide (x14.1.1 = x6.1.1)) && (decide (x14.1.2 = x6.1.2))) = true := by rw [← hb16]; exact q31
        have q34 : (decide (x14.1.1 = x6.1.1)) = true := by revert q33; cases (decide (x14.1.1 = x6.1.1)) <;> simp
        have q35 : (decide (x14.1.2 = x6.1.2)) = true := by revert q33; cases (decide (x14.1.1 = x6.1.1)) <;> cases (decide (x14.1.2 = x6.1.2)) <;> simp
        have q34 := of_decide_eq_true q34
        have q35 := of_decide_eq_true q35
        have q36 : (decide (x14.2.1 = x6.2.1)) = true := by rw [← hb17]; exact q32
        have q36 := of_decide_eq_true q36
        have q37 : (x14.2.2.2.2 == x6.2.2.2.2) = true := by rw [← hb19]; exact q29
        have q37 := eq_of_beq q37
        have q38 : (decide (x14.2.2.2.1 = x6.2.2.1)) = true := by rw [← hb21]; exact q26
        have q38 := of_decide_eq_true q38
        rw [hc23] at hT
        refine c_seq ?_
        refine c_reg ?_
        refine sq_p (vo) rfl (fun _ => by kernel_rfl) ?_
        refine sq_p (.int .i64 ((out.length : Int) - 1)) rfl (fun _ => by kernel_rfl) ?_
        refine sq_p (.pointer (some ⟨k8, 4, none⟩)) rfl (fun _ => by kernel_rfl) ?_
        refine sq_q rfl h (g_ld 4 [.int .i64 x6.2.2.2.1] (.int .i64 x6.2.2.2.1) (by kernel_rfl) 0 rfl) ?_
        refine sq_q rfl h (g_idxI j12 hj12 (by kernel_rfl) hi13 1 rfl) ?_
        refine sq_p (.pointer (some ⟨blkN vo, offN vo + j12 * 6 + 4, none⟩)) rfl (fun _ => by kernel_rfl) ?_
        refine sq_str rfl (b := blkN vo) (offN vo + j12 * 6 + 4) [.int .i64 x6.2.2.2.1] h 1 rfl (by kernel_rfl) (wrRow runC_len hx15 4 ((x14.1.1, x14.1.2), x14.2.1, x14.2.2.1, x6.2.2.2.1, x14.2.2.2.2) (by kernel_rfl) (by kernel_rfl)) ?_; intro w h
        refine lnil ?_
        refine thn_n ?_
        refine c_exit ?_
        refine thn_e (blk_e (thn_n ?_))
        refine c_reg ?_
        refine sq_q rfl h (g_eq (v := .int .i64 (IntKind.i64.wrap ((k : Int) + 1))) (v' := .int .i64 ((k + 1 : Nat) : Int)) (g_pure fun _ => by kernel_rfl) (wr (by omega))) ?_
        refine sq_p (.int .i64 ((k + 1 : Nat) : Int)) rfl (fun _ => by kernel_rfl) ?_
        refine lnil ?_
        refine loop_end (fun j => ⟨(k + 1), out.set j12 ((x14.1.1, x14.1.2), x14.2.1, x14.2.2.1, x6.2.2.2.1, x14.2.2.2.2), vo, j⟩) (show ((k + 1) ≤ l1.length ∧ (out.set j12 ((x14.1.1, x14.1.2), x14.2.1, x14.2.2.1, x6.2.2.2.1, x14.2.2.2.2)) = joinL (l1.take (k + 1)) ∧ (out.set j12 ((x14.1.1, x14.1.2), x14.2.1, x14.2.2.1, x6.2.2.2.1, x14.2.2.2.2)).length ≤ (k + 1)) ∧ (l1.length - (k + 1)) < (l1.length - k) from ⟨⟨by omega, by rw [join_take hx7, ← ho]; exact (join_touch (by omega) hx15 hT).symm, by (try simp only [List.length_append, List.length_cons, List.length_nil, List.length_set]); omega⟩, by omega⟩) (by kernel_rfl) [1, 1] (by kernel_rfl) h
      · skip
        have q39 : (b20 && b21) = false := by rw [← hb22]; exact hc23
        rw [hc23] at hT
        refine c_skip ?_
        refine thn_n ?_
        refine c_reg ?_
        refine sq_p (vo) rfl (fun _ => by kernel_rfl) ?_
        refine sq_q rfl h (g_ld 0 [.int .i64 x6.1.1, .int .i64 x6.1.2, .int .i64 x6.2.1, .int .i64 x6.2.2.1, .int .i64 x6.2.2.2.1, .bool x6.2.2.2.2] (.agg #[.int .i64 x6.1.1, .int .i64 x6.1.2, .int .i64 x6.2.1, .int .i64 x6.2.2.1, .int .i64 x6.2.2.2.1, .bool x6.2.2.2.2]) (by kernel_rfl) 0 rfl) ?_
        refine sq_new rfl (fun b => .slice (some ⟨b, 0, none⟩) 1 1) [.int .i64 x6.1.1, .int .i64 x6.1.2, .int .i64 x6.2.1, .int .i64 x6.2.2.1, .int .i64 x6.2.2.2.1, .bool x6.2.2.2.2] 104 (fun _ => by kernel_rfl) h ?_; intro k40 w h
        refine sq_app (b := k40) (o := 0) rfl 1 x6 (by kernel_rfl) h 2 rfl 0 rfl (rdCell 0 (by kernel_rfl)) (by (try simp only [List.length_append, List.length_cons, List.length_nil]); omega) ?_; intro v41 w h
        refine sq_p (v41) rfl (fun _ => by kernel_rfl) ?_
        refine lnil ?_
        refine blk_n (thn_n ?_)
        refine c_reg ?_
        refine sq_q rfl h (g_eq (v := .int .i64 (IntKind.i64.wrap ((k : Int) + 1))) (v' := .int .i64 ((k + 1 : Nat) : Int)) (g_pure fun _ => by kernel_rfl) (wr (by omega))) ?_
        refine sq_p (.int .i64 ((k + 1 : Nat) : Int)) rfl (fun _ => by kernel_rfl) ?_
        refine lnil ?_
        refine loop_end (fun j => ⟨(k + 1), out ++ [x6], v41, j⟩) (show ((k + 1) ≤ l1.length ∧ (out ++ [x6]) = joinL (l1.take (k + 1)) ∧ (out ++ [x6]).length ≤ (k + 1)) ∧ (l1.length - (k + 1)) < (l1.length - k) from ⟨⟨by omega, by rw [join_take hx7, ← ho]; exact (join_apart (by omega) hx15 hT).symm, by (try simp only [List.length_append, List.length_cons, List.length_nil, List.length_set]); omega⟩, by omega⟩) (by kernel_rfl) [2, 2] (by kernel_rfl) h
    · skip
      subst hc10
      have q42 := hb9.symm
      have q42 := of_decide_eq_false q42
      refine d_take 3 791 [0, 0] rfl (by kernel_rfl) (qp_thn (qp_thn (qp_blk (qp_thn (qp_rnd (qp_blk (qp_thn qp_body))))))) (yn (by kernel_rfl)) h (by kernel_rfl) ?_
      refine d_take 4 783 [0, 0] rfl (by kernel_rfl) (qp_thn (qp_thn (qp_blk (qp_thn (qp_rnd (qp_blk (qp_thn qp_body))))))) (yn (by kernel_rfl)) h (by kernel_rfl) ?_
      refine d_take 5 799 [0, 0] rfl (by kernel_rfl) (qp_thn (qp_thn (qp_blk (qp_thn (qp_rnd (qp_blk (qp_thn qp_body))))))) (yn (by kernel_rfl)) h (by kernel_rfl) ?_
      refine d_take 6 831 [0, 0] rfl (by kernel_rfl) (qp_thn (qp_thn (qp_blk (qp_thn (qp_rnd (qp_blk (qp_thn qp_body))))))) (yn (by kernel_rfl)) h (by kernel_rfl) ?_
      refine d_take 7 895 [0, 0] rfl (by kernel_rfl) (qp_thn (qp_thn (qp_blk (qp_thn (qp_rnd (qp_blk (qp_thn qp_body))))))) (yn (by kernel_rfl)) h (by kernel_rfl) ?_
      refine d_take 8 255 [0, 0] rfl (by kernel_rfl) (qp_thn (qp_thn (qp_blk (qp_thn (qp_rnd (qp_blk (qp_thn qp_body))))))) (yn (by kernel_rfl)) h (by kernel_rfl) ?_
      refine d_take 9 511 [0, 0] rfl (by kernel_rfl) (qp_thn (qp_thn (qp_blk (qp_thn (qp_rnd (qp_blk (qp_thn qp_body))))))) (yn (by kernel_rfl)) h (by kernel_rfl) ?_
      refine d_take 10 1023 [0, 0] rfl (by kernel_rfl) (qp_thn (qp_thn (qp_blk (qp_thn (qp_rnd (qp_blk (qp_thn qp_body))))))) (yn (by kernel_rfl)) h (by kernel_rfl) ?_
      refine d_take 11 2047 [0, 0] rfl (v := .bool false) (by kernel_rfl) (qp_thn (qp_thn (qp_blk (qp_thn (qp_rnd (qp_blk (qp_thn qp_body))))))) (yq (by kernel_rfl) (g_pure (v := .bool false) fun _ => by kernel_rfl)) h (by kernel_rfl) ?_
      refine d_take 12 4095 [0, 0] rfl (v := .bool false) (by kernel_rfl) (qp_thn (qp_thn (qp_blk (qp_thn (qp_rnd (qp_blk (qp_thn qp_body))))))) (yq (by kernel_rfl) (g_pure (v := .bool false) fun _ => by kernel_rfl)) h (by kernel_rfl) ?_
      refine d_take 13 811007 [0, 0] rfl (by kernel_rfl) (qp_thn (qp_thn (qp_blk (qp_thn (qp_rnd (qp_blk (qp_thn qp_body))))))) (yn (by kernel_rfl)) h (by kernel_rfl) ?_
      refine d_take 14 802815 [0, 0] rfl (by kernel_rfl) (qp_thn (qp_thn (qp_blk (qp_thn (qp_rnd (qp_blk (qp_thn qp_body))))))) (yn (by kernel_rfl)) h (by kernel_rfl) ?_
      refine d_take 15 819199 [0, 0] rfl (by kernel_rfl) (qp_thn (qp_thn (qp_blk (qp_thn (qp_rnd (qp_blk (qp_thn qp_body))))))) (yn (by kernel_rfl)) h (by kernel_rfl) ?_
      refine d_take 16 851967 [0, 0] rfl (by kernel_rfl) (qp_thn (qp_thn (qp_blk (qp_thn (qp_rnd (qp_blk (qp_thn qp_body))))))) (yn (by kernel_rfl)) h (by kernel_rfl) ?_
      refine d_take 17 917503 [0, 0] rfl (by kernel_rfl) (qp_thn (qp_thn (qp_blk (qp_thn (qp_rnd (qp_blk (qp_thn qp_body))))))) (yn (by kernel_rfl)) h (by kernel_rfl) ?_
      refine d_take 18 262143 [0, 0] rfl (by kernel_rfl) (qp_thn (qp_thn (qp_blk (qp_thn (qp_rnd (qp_blk (qp_thn qp_body))))))) (yn (by kernel_rfl)) h (by kernel_rfl) ?_
      refine d_take 19 524287 [0, 0] rfl (by kernel_rfl) (qp_thn (qp_thn (qp_blk (qp_thn (qp_rnd (qp_blk (qp_thn qp_body))))))) (yn (by kernel_rfl)) h (by kernel_rfl) ?_
      refine d_take 20 1048575 [0, 0] rfl (by kernel_rfl) (qp_thn (qp_thn (qp_blk (qp_thn (qp_rnd (qp_blk (qp_thn qp_body))))))) (yn (by kernel_rfl)) h (by kernel_rfl) ?_
      refine d_take 21 2097151 [0, 0] rfl (v := .bool false) (by kernel_rfl) (qp_thn (qp_thn (qp_blk (qp_thn (qp_rnd (qp_blk (qp_thn qp_body))))))) (yq (by kernel_rfl) (g_pure (v := .bool false) fun _ => by kernel_rfl)) h (by kernel_rfl) ?_
      refine d_take 22 4194303 [0, 0] rfl (v := .bool false) (by kernel_rfl) (qp_thn (qp_thn (qp_blk (qp_thn (qp_rnd (qp_blk (qp_thn qp_body))))))) (yq (by kernel_rfl) (g_pure (v := .bool false) fun _ => by kernel_rfl)) h (by kernel_rfl) ?_
      refine d_take 23 830472191 [0, 0] rfl (by kernel_rfl) (qp_thn (qp_thn (qp_blk (qp_thn (qp_rnd (qp_blk (qp_thn qp_body))))))) (yn (by kernel_rfl)) h (by kernel_rfl) ?_
      refine d_take 24 822083583 [0, 0] rfl (by kernel_rfl) (qp_thn (qp_thn (qp_blk (qp_thn (qp_rnd (qp_blk (qp_thn qp_body))))))) (yn (by kernel_rfl)) h (by kernel_rfl) ?_
      refine d_take 25 838860799 [0, 0] rfl (by kernel_rfl) (qp_thn (qp_thn (qp_blk (qp_thn (qp_rnd (qp_blk (qp_thn qp_body))))))) (yn (by kernel_rfl)) h (by kernel_rfl) ?_
      refine d_take 26 872415231 [0, 0] rfl (by kernel_rfl) (qp_thn (qp_thn (qp_blk (qp_thn (qp_rnd (qp_blk (qp_thn qp_body))))))) (yn (by kernel_rfl)) h (by kernel_rfl) ?_
      refine d_take 27 939524095 [0, 0] rfl (by kernel_rfl) (qp_thn (qp_thn (qp_blk (qp_thn (qp_rnd (qp_blk (qp_thn qp_body))))))) (yn (by kernel_rfl)) h (by kernel_rfl) ?_
      refine d_take 28 268435455 [0, 0] rfl (by kernel_rfl) (qp_thn (qp_thn (qp_blk (qp_thn (qp_rnd (qp_blk (qp_thn qp_body))))))) (yn (by kernel_rfl)) h (by kernel_rfl) ?_
      refine d_take 29 536870911 [0, 0] rfl (by kernel_rfl) (qp_thn (qp_thn (qp_blk (qp_thn (qp_rnd (qp_blk (qp_thn qp_body))))))) (yn (by kernel_rfl)) h (by kernel_rfl) ?_
      refine d_take 30 1073741823 [0, 0] rfl (by kernel_rfl) (qp_thn (qp_thn (qp_blk (qp_thn (qp_rnd (qp_blk (qp_thn qp_body))))))) (yn (by kernel_rfl)) h (by kernel_rfl) ?_
      refine d_take 31 2147483647 [0, 0] rfl (v := .bool false) (by kernel_rfl) (qp_thn (qp_thn (qp_blk (qp_thn (qp_rnd (qp_blk (qp_thn qp_body))))))) (yq (by kernel_rfl) (g_pure (v := .bool false) fun _ => by kernel_rfl)) h (by kernel_rfl) ?_
      refine d_take 32 4294967295 [0, 0] rfl (v := .bool false) (by kernel_rfl) (qp_thn (qp_thn (qp_blk (qp_thn (qp_rnd (qp_blk (qp_thn qp_body))))))) (yq (by kernel_rfl) (g_pure (v := .bool false) fun _ => by kernel_rfl)) h (by kernel_rfl) ?_
      refine d_take 33 850403524607 [0, 0] rfl (by kernel_rfl) (qp_thn (qp_thn (qp_blk (qp_thn (qp_rnd (qp_blk (qp_thn qp_body))))))) (yn (by kernel_rfl)) h (by kernel_rfl) ?_
      refine d_take 34 841813590015 [0, 0] rfl (by kernel_rfl) (qp_thn (qp_thn (qp_blk (qp_thn (qp_rnd (qp_blk (qp_thn qp_body))))))) (yn (by kernel_rfl)) h (by kernel_rfl) ?_
      refine d_take 35 858993459199 [0, 0] rfl (by kernel_rfl) (qp_thn (qp_thn (qp_blk (qp_thn (qp_rnd (qp_blk (qp_thn qp_body))))))) (yn (by kernel_rfl)) h (by kernel_rfl) ?_
      refine d_take 36 893353197567 [0, 0] rfl (by kernel_rfl) (qp_thn (qp_thn (qp_blk (qp_thn (qp_rnd (qp_blk (qp_thn qp_body))))))) (yn (by kernel_rfl)) h (by kernel_rfl) ?_
      refine d_take 37 962072674303 [0, 0] rfl (by kernel_rfl) (qp_thn (qp_thn (qp_blk (qp_thn (qp_rnd (qp_blk (qp_thn qp_body))))))) (yn (by kernel_rfl)) h (by kernel_rfl) ?_
      refine d_take 38 274877906943 [0, 0] rfl (by kernel_rfl) (qp_thn (qp_thn (qp_blk (qp_thn (qp_rnd (qp_blk (qp_thn qp_body))))))) (yn (by kernel_rfl)) h (by kernel_rfl) ?_
      refine d_take 39 549755813887 [0, 0] rfl (by kernel_rfl) (qp_thn (qp_thn (qp_blk (qp_thn (qp_rnd (qp_blk (qp_thn qp_body))))))) (yn (by kernel_rfl)) h (by kernel_rfl) ?_
      refine d_take 40 1099511627775 [0, 0] rfl (by kernel_rfl) (qp_thn (qp_thn (qp_blk (qp_thn (qp_rnd (qp_blk (qp_thn qp_body))))))) (yn (by kernel_rfl)) h (by kernel_rfl) ?_
      refine d_take 41 2199023255551 [0, 0] rfl (v := .bool false) (by kernel_rfl) (qp_thn (qp_thn (qp_blk (qp_thn (qp_rnd (qp_blk (qp_thn qp_body))))))) (yq (by kernel_rfl) (g_pure (v := .bool false) fun _ => by kernel_rfl)) h (by kernel_rfl) ?_
      refine d_done (by kernel_rfl) ?_
      refine thn_n ?_
      refine c_false (by kernel_rfl) ?_
      refine c_skip ?_
      refine thn_n ?_
      refine c_reg ?_
      refine sq_p (vo) rfl (fun _ => by kernel_rfl) ?_
      refine sq_q rfl h (g_ld 0 [.int .i64 x6.1.1, .int .i64 x6.1.2, .int .i64 x6.2.1, .int .i64 x6.2.2.1, .int .i64 x6.2.2.2.1, .bool x6.2.2.2.2] (.agg #[.int .i64 x6.1.1, .int .i64 x6.1.2, .int .i64 x6.2.1, .int .i64 x6.2.2.1, .int .i64 x6.2.2.2.1, .bool x6.2.2.2.2]) (by kernel_rfl) 0 rfl) ?_
      refine sq_new rfl (fun b => .slice (some ⟨b, 0, none⟩) 1 1) [.int .i64 x6.1.1, .int .i64 x6.1.2, .int .i64 x6.2.1, .int .i64 x6.2.2.1, .int .i64 x6.2.2.2.1, .bool x6.2.2.2.2] 104 (fun _ => by kernel_rfl) h ?_; intro k43 w h
      refine sq_app (b := k43) (o := 0) rfl 1 x6 (by kernel_rfl) h 2 rfl 0 rfl (rdCell 0 (by kernel_rfl)) (by (try simp only [List.length_append, List.length_cons, List.length_nil]); omega) ?_; intro v44 w h
      refine sq_p (v44) rfl (fun _ => by kernel_rfl) ?_
      refine lnil ?_
      refine blk_n (thn_n ?_)
      refine c_reg ?_
      refine sq_q rfl h (g_eq (v := .int .i64 (IntKind.i64.wrap ((k : Int) + 1))) (v' := .int .i64 ((k + 1 : Nat) : Int)) (g_pure fun _ => by kernel_rfl) (wr (by omega))) ?_
      refine sq_p (.int .i64 ((k + 1 : Nat) : Int)) rfl (fun _ => by kernel_rfl) ?_
      refine lnil ?_
      refine loop_end (fun j => ⟨(k + 1), out ++ [x6], v44, j⟩) (show ((k + 1) ≤ l1.length ∧ (out ++ [x6]) = joinL (l1.take (k + 1)) ∧ (out ++ [x6]).length ≤ (k + 1)) ∧ (l1.length - (k + 1)) < (l1.length - k) from ⟨⟨by omega, by rw [join_take hx7, ← ho]; exact (join_nil (by omega)).symm, by (try simp only [List.length_append, List.length_cons, List.length_nil, List.length_set]); omega⟩, by omega⟩) (by kernel_rfl) [2, 2] (by kernel_rfl) h
  · skip
    have hc4 := of_decide_eq_false hc4
    refine c_exit ?_
    refine thn_e (rnd_e (blk_e (thn_n ?_)))
    refine c_seq ?_
    refine c_reg ?_
    refine sq_p (vo) rfl (fun _ => by kernel_rfl) ?_
    refine sq_p (vo) rfl (fun _ => by kernel_rfl) ?_
    refine lnil ?_
    refine thn_n ?_
    refine c_ret ?_
    refine ret_end [vo] [1, 0] h (by kernel_rfl) (res_t (by kernel_rfl) res_n) ?_
    rw [ho, join_all (by omega)]
    exact ⟨_, _, ⟨hp2, ho3⟩, rfl, rfl⟩
set_option maxHeartbeats 1000000 in
theorem take_spec {B : Nat} (ad : Nat → Addr) (b : Nat) (v v2 : Value) (l2 : List Run) (hl : l2.length ≤ 1000000000) : Spec Tryd.prog 36 #[.pointer (some ⟨b, 0, none⟩), v2] [rCell true b [v] 57, rRows true v2 104 6 runC l2, rEnv B ad [2, 9, 11]] (fun u L => (60 < l2.length ∧ u = errV ad 9 ∧ L = [rCell true b [v] 57, rRows true v2 104 6 runC l2, rEnv B ad [2, 9, 11]]) ∨ (l2.length ≤ 60 ∧ u = .nilIface ∧ L = [rCell true b [v2] 57, rRows true v2 104 6 runC l2, rEnv B ad [2, 9, 11]])) := by
  refine spec_of (#[.pointer (some ⟨b, 0, none⟩), v2, undef, undef, undef, undef, undef, undef, undef, undef, undef, undef, undef]) Tryd.func36 rfl (by kernel_rfl) fun E w0 w h => ?_
  refine c_seq ?_
  refine c_reg ?_
  refine sq_p (.nilIface) rfl (fun _ => by kernel_rfl) ?_
  refine lnil ?_
  refine thn_n ?_
  refine c_seq ?_
  refine c_seq ?_
  refine c_reg ?_
  refine sq_p (v2) rfl (fun _ => by kernel_rfl) ?_
  refine sq_q rfl h (g_len (by kernel_rfl) 1 rfl) ?_
  refine sq_p (.bool (decide ((l2.length : Int) > 60))) rfl (fun _ => by kernel_rfl) ?_
  refine lnil ?_
  refine thn_n ?_
  refine c_cond (decide ((l2.length : Int) > 60)) (by kernel_rfl) (fun hc1 => ?_) (fun hc1 => ?_)
  · skip
    have hc1 := of_decide_eq_true hc1
    refine c_seq ?_
    refine c_reg ?_
    refine sq_q rfl h (g_ldr (b := gl 9) 0 [errV ad 9] (errV ad 9) (by kernel_rfl) 2 rfl (rdEnv (c := 9) (by decide) rfl)) ?_
    refine sq_p (errV ad 9) rfl (fun _ => by kernel_rfl) ?_
    refine lnil ?_
    refine thn_n ?_
    refine c_ret ?_
    refine thn_r ?_
    refine ret_end [errV ad 9] [0, 0, 0] h (by kernel_rfl) (res_t (by kernel_rfl) res_n) ?_
    exact .inl ⟨by omega, rfl, rfl⟩
  · skip
    have hc1 := of_decide_eq_false hc1
    refine c_skip ?_
    refine thn_n ?_
    refine c_seq ?_
    refine c_reg ?_
    refine sq_p (.pointer (some ⟨b, 0, none⟩)) rfl (fun _ => by kernel_rfl) ?_
    refine sq_p (v2) rfl (fun _ => by kernel_rfl) ?_
    refine sq_p (.pointer (some ⟨b, 0, none⟩)) rfl (fun _ => by kernel_rfl) ?_
    refine sq_p (.pointer (some ⟨b, 0, none⟩)) rfl (fun _ => by kernel_rfl) ?_
    refine sq_sto rfl (h.slv 1 rfl) 0 [v2] h 0 rfl (by kernel_rfl) ?_; intro w h
    refine lnil ?_
    refine thn_n ?_
    refine c_seq ?_
    refine c_reg ?_
    refine sq_p (.nilIface) rfl (fun _ => by kernel_rfl) ?_
    refine lnil ?_
    refine thn_n ?_
    refine c_ret ?_
    refine ret_end [.nilIface] [0, 0, 0] h (by kernel_rfl) (res_t (by kernel_rfl) res_n) ?_
    exact .inr ⟨by omega, rfl, rfl⟩
end Go.Proofs.YtgebinfbbopnlaaDoor
