/- lockacts: contracts by what is owned (printed by walk.py). -/
import Derived.Test.YtgebinfbbopnlaaDoorLaA
namespace Go.Proofs.YtgebinfbbopnlaaDoor
open Go.RowKit
set_option linter.unusedVariables false
set_option linter.unusedSimpArgs false
set_option linter.unnecessarySimpa false
set_option maxRecDepth 100000

theorem atP_ok2 {l : List Paint} (hl : ∀ p ∈ l, PntOk p) {h : Int × Int} {o x : Int} {i : Nat} (hx : (placesP l h o)[i]? = some x) : 0 ≤ x ∧ x ≤ 2199023255552 := plc_rng hl (List.mem_of_getElem? hx)
theorem runS_same {l : List Paint} {h : Int × Int} {o x : Int} {s : RunSt} (e : atP l h o x = s.2.1) : runStep l h o s x = s := if_pos e
theorem runS_new {l : List Paint} {h : Int × Int} {o x : Int} {s : RunSt} (e : ¬ atP l h o x = s.2.1) (hz : 0 < s.2.1) : runStep l h o s x = (s.1 ++ [(h, o, s.2.2, x - s.2.2, decide (s.2.1 = 2))], atP l h o x, x) := by unfold runStep; rw [if_neg e, if_pos hz]
theorem runS_not {l : List Paint} {h : Int × Int} {o x : Int} {s : RunSt} (e : ¬ atP l h o x = s.2.1) (hz : ¬ 0 < s.2.1) : runStep l h o s x = (s.1, atP l h o x, x) := by unfold runStep; rw [if_neg e, if_neg hz]
theorem insH_end {l : List (Int × Int)} {k : Nat} {n : Int × Int} (h1 : ∀ j y, j < k → l[j]? = some y → ltHb y n = true) (h2 : ∀ y, l[k]? = some y → ltHb y n = false ∧ y ≠ n) (hk : k ≤ l.length) : (([] ++ (l.take k).drop 0) ++ [n]) ++ (l.take l.length).drop k = insH l n := by
  rw [insH_new h1 h2 hk, List.take_length]; simp
theorem step_ltH {l : List (Int × Int)} {k : Nat} {n x : Int × Int} (hno : ∀ j y, j < k → l[j]? = some y → ltHb y n = true) (hx : l[k]? = some x) (h : ltHb x n = true) : ∀ j y, j < k + 1 → l[j]? = some y → ltHb y n = true := fun j y hj hy => by
  by_cases e : j = k
  · subst e; rw [hx] at hy; cases hy; exact h
  · exact hno j y (by omega) hy
theorem le_oneH {l : List (Int × Int)} {k : Nat} {n x : Int × Int} (hx : l[k]? = some x) (h1 : ltHb x n = false) (h2 : ¬ x = n) : ∀ y, l[k]? = some y → ltHb y n = false ∧ y ≠ n := fun y hy => by
  rw [hx] at hy; cases hy; exact ⟨h1, h2⟩

set_option maxHeartbeats 1000000 in
theorem lessH_spec (n1 g1 n2 g2 : Int) : Spec Tryd.prog 71 #[.agg #[.int .i64 n1, .int .i64 g1], .agg #[.int .i64 n2, .int .i64 g2]] [] (fun u L => u = .bool ((decide (n1 < n2)) || ((decide (n1 = n2)) && (decide (g1 < g2)))) ∧ L = []) := by
  refine spec_of (#[.agg #[.int .i64 n1, .int .i64 g1], .agg #[.int .i64 n2, .int .i64 g2], undef, undef, undef, undef, undef, undef, undef, undef, undef, undef, undef, undef, undef, undef, undef, undef, undef, undef, undef, undef, undef, undef]) Tryd.func71 rfl (by kernel_rfl) fun E w0 w h => ?_
  refine c_seq ?_
  refine c_reg ?_
  refine sq_new rfl (fun b => .pointer (some ⟨b, 0, none⟩)) [.int .i64 n1, .int .i64 g1] 33 (fun _ => by kernel_rfl) h ?_; intro k1 w h
  refine sq_new rfl (fun b => .pointer (some ⟨b, 0, none⟩)) [.int .i64 n2, .int .i64 g2] 33 (fun _ => by kernel_rfl) h ?_; intro k2 w h
  refine sq_p (.bool false) rfl (fun _ => by kernel_rfl) ?_
  refine lnil ?_
  refine thn_n ?_
  refine c_seq ?_
  refine c_reg ?_
  refine sq_p (.pointer (some ⟨k1, 0, none⟩)) rfl (fun _ => by kernel_rfl) ?_
  refine sq_q rfl h (g_ld 0 [.int .i64 n1] (.int .i64 n1) (by kernel_rfl) 1 rfl) ?_
  refine sq_p (.pointer (some ⟨k2, 0, none⟩)) rfl (fun _ => by kernel_rfl) ?_
  refine sq_q rfl h (g_ld 0 [.int .i64 n2] (.int .i64 n2) (by kernel_rfl) 0 rfl) ?_
  obtain ⟨b3, hb3⟩ : ∃ b_ : Bool, b_ = (decide (n1 < n2)) := ⟨_, rfl⟩
  refine sq_q (v := .bool b3) rfl h (by subst hb3; exact g_pure (v := .bool (decide (n1 < n2))) fun _ => by kernel_rfl) ?_
  refine sq_p (.bool b3) rfl (fun _ => by kernel_rfl) ?_
  refine sq_m0 (v := .pointer (some ⟨k1, 0, none⟩)) b3 (by cases b3 <;> kernel_rfl) h (fun hB => by subst hB; exact g_pure (v := .pointer (some ⟨k1, 0, none⟩)) fun _ => by kernel_rfl) ?_
  refine sq_m0 (v := .int .i64 n1) b3 (by cases b3 <;> kernel_rfl) h (fun hB => by subst hB; exact g_ld 0 [.int .i64 n1] (.int .i64 n1) (by kernel_rfl) 1 rfl) ?_
  refine sq_m0 (v := .pointer (some ⟨k2, 0, none⟩)) b3 (by cases b3 <;> kernel_rfl) h (fun hB => by subst hB; exact g_pure (v := .pointer (some ⟨k2, 0, none⟩)) fun _ => by kernel_rfl) ?_
  refine sq_m0 (v := .int .i64 n2) b3 (by cases b3 <;> kernel_rfl) h (fun hB => by subst hB; exact g_ld 0 [.int .i64 n2] (.int .i64 n2) (by kernel_rfl) 0 rfl) ?_
  obtain ⟨b4, hb4⟩ : ∃ b_ : Bool, b_ = (decide (n1 = n2)) := ⟨_, rfl⟩
  refine sq_m0 (v := .bool b4) b3 (by cases b3 <;> kernel_rfl) h (fun hB => by subst hB; exact by subst hb4; exact g_pure (v := .bool (decide (n1 = n2))) fun _ => by kernel_rfl) ?_
  refine sq_m0 (v := .bool b4) b3 (by cases b3 <;> kernel_rfl) h (fun hB => by subst hB; exact g_pure (v := .bool b4) fun _ => by kernel_rfl) ?_
  obtain ⟨b5, hb5⟩ : ∃ b_ : Bool, b_ = ((!b3) && b4) := ⟨_, rfl⟩
  refine sq_m1 (v := .pointer (some ⟨k1, 1, none⟩)) b5 (by subst hb5; cases b3 <;> cases b4 <;> kernel_rfl) h (fun hB => by subst hB; exact g_pure (v := .pointer (some ⟨k1, 1, none⟩)) fun _ => by kernel_rfl) ?_
  refine sq_m1 (v := .int .i64 g1) b5 (by subst hb5; cases b3 <;> cases b4 <;> kernel_rfl) h (fun hB => by subst hB; exact g_ld 1 [.int .i64 g1] (.int .i64 g1) (by kernel_rfl) 1 rfl) ?_
  refine sq_m1 (v := .pointer (some ⟨k2, 1, none⟩)) b5 (by subst hb5; cases b3 <;> cases b4 <;> kernel_rfl) h (fun hB => by subst hB; exact g_pure (v := .pointer (some ⟨k2, 1, none⟩)) fun _ => by kernel_rfl) ?_
  refine sq_m1 (v := .int .i64 g2) b5 (by subst hb5; cases b3 <;> cases b4 <;> kernel_rfl) h (fun hB => by subst hB; exact g_ld 1 [.int .i64 g2] (.int .i64 g2) (by kernel_rfl) 0 rfl) ?_
  obtain ⟨b6, hb6⟩ : ∃ b_ : Bool, b_ = (decide (g1 < g2)) := ⟨_, rfl⟩
  refine sq_m1 (v := .bool b6) b5 (by subst hb5; cases b3 <;> cases b4 <;> kernel_rfl) h (fun hB => by subst hB; exact by subst hb6; exact g_pure (v := .bool (decide (g1 < g2))) fun _ => by kernel_rfl) ?_
  obtain ⟨b7, hb7⟩ : ∃ b_ : Bool, b_ = (b4 && b6) := ⟨_, rfl⟩
  refine sq_m0 (v := .bool b7) b3 (by cases b3 <;> kernel_rfl) h (fun hB => by subst hB; exact by subst hb7; exact g_pure (v := .bool (b4 && b6)) fun _ => by subst hb5; first | (cases b4 <;> kernel_rfl) | (cases b5 <;> kernel_rfl)) ?_
  obtain ⟨b8, hb8⟩ : ∃ b_ : Bool, b_ = (b3 || b7) := ⟨_, rfl⟩
  refine sq_q (v := .bool b8) rfl h (by subst hb8; exact g_pure (v := .bool (b3 || b7)) fun _ => by cases b3 <;> kernel_rfl) ?_
  refine sq_p (.bool b8) rfl (fun _ => by kernel_rfl) ?_
  refine lnil ?_
  refine thn_n ?_
  refine c_ret ?_
  refine ret_end [.bool b8] [] h (by kernel_rfl) (res_t (by kernel_rfl) res_n) ?_
  refine ⟨?_, rfl⟩
  show Value.bool _ = _
  subst hb8 hb7 hb6 hb4 hb3
  rfl
set_option maxHeartbeats 1000000 in
theorem runs_spec (wq : Bool) (v : Value) (l : List Paint) (n g o : Int) (hl : l.length ≤ 1000) (hok : ∀ p ∈ l, PntOk p)  : Spec Tryd.prog 46 #[v, .agg #[.int .i64 n, .int .i64 g], .int .i64 o] [rRows wq v 107 6 pntC l] (fun u L => ∃ v', u = v' ∧ L = [rRows true v' 70 6 runC (runsP l (n, g) o), rRows wq v 107 6 pntC l]) := by
  refine spec_of (#[v, .agg #[.int .i64 n, .int .i64 g], .int .i64 o, undef, undef, undef, undef, undef, undef, undef, undef, undef, undef, undef, undef, undef, undef, undef, undef, undef, undef, undef, undef, undef, undef, undef, undef, undef, undef, undef, undef, undef, undef, undef, undef, undef, undef, undef, undef, undef, undef, undef, undef, undef, undef, undef, undef, undef, undef, undef, undef, undef, undef, undef, undef, undef, undef, undef, undef, undef, undef, undef, undef, undef, undef, undef, undef, undef, undef, undef]) Tryd.func46 rfl (by kernel_rfl) fun E w0 w h => ?_
  refine c_seq ?_
  refine c_reg ?_
  refine sq_new rfl (fun b => .pointer (some ⟨b, 0, none⟩)) [.int .i64 n, .int .i64 g] 33 (fun _ => by kernel_rfl) h ?_; intro k1 w h
  refine sq_p (.slice none 0 0) rfl (fun _ => by kernel_rfl) ?_
  refine lnil ?_
  refine thn_n ?_
  refine c_seq ?_
  refine c_reg ?_
  refine sq_p (.slice none 0 0) rfl (fun _ => by kernel_rfl) ?_
  refine lnil ?_
  refine thn_n ?_
  refine c_seq ?_
  refine c_reg ?_
  refine sq_p (v) rfl (fun _ => by kernel_rfl) ?_
  refine sq_q rfl h (g_ld 0 [.int .i64 n, .int .i64 g] (.agg #[.int .i64 n, .int .i64 g]) (by kernel_rfl) 0 rfl) ?_
  refine sq_p (.int .i64 o) rfl (fun _ => by kernel_rfl) ?_
  refine sq_call #[v, .agg #[.int .i64 n, .int .i64 g], .int .i64 o] [1] rfl (places_spec wq v l n g o (by omega)) (fun _ => by kernel_rfl) h ?_; rintro v2 L_ w ⟨_, rfl, rfl⟩ h
  have hPl := places_len l (n, g) o
  refine sq_p (v2) rfl (fun _ => by kernel_rfl) ?_
  refine lnil ?_
  refine thn_n ?_
  refine c_seq ?_
  refine c_reg ?_
  refine sq_p (.int .i64 0) rfl (fun _ => by kernel_rfl) ?_
  refine lnil ?_
  refine thn_n ?_
  refine c_seq ?_
  refine c_reg ?_
  refine sq_p (.int .i64 0) rfl (fun _ => by kernel_rfl) ?_
  refine lnil ?_
  refine thn_n ?_
  refine c_seq ?_
  refine c_seq ?_
  refine c_reg ?_
  refine sq_p (.int .i64 0) rfl (fun _ => by kernel_rfl) ?_
  refine lnil ?_
  refine thn_n ?_
  refine c_block ?_
  have h := h.nilRows 70 6 runC
  refine c_loop (X := Nat × List Run × Value × Int × Int × (Nat → Value)) (fun ⟨i, out, vo, wt, fm, J0⟩ => ⟨#[v, .agg #[.int .i64 n, .int .i64 g], .int .i64 o, undef, .pointer (some ⟨k1, 0, none⟩), undef, .slice none 0 0, vo, v2, .int .i64 wt, .int .i64 fm, .int .i64 (i : Int), J0 12, v, .agg #[.int .i64 n, .int .i64 g], .int .i64 o, v2, J0 17, J0 18, J0 19, J0 20, J0 21, J0 22, J0 23, J0 24, J0 25, J0 26, J0 27, J0 28, J0 29, J0 30, J0 31, J0 32, J0 33, J0 34, J0 35, J0 36, J0 37, J0 38, J0 39, J0 40, J0 41, J0 42, J0 43, J0 44, J0 45, J0 46, J0 47, J0 48, J0 49, J0 50, J0 51, J0 52, J0 53, J0 54, J0 55, J0 56, undef, undef, undef, undef, undef, undef, undef, undef, undef, undef, undef, undef, undef], []⟩)
    (fun ⟨i, out, vo, wt, fm, J0⟩ => [rRows true vo 70 6 runC out, rRows true v2 3 1 inC (placesP l (n, g) o), rRows wq v 107 6 pntC l, rCell true k1 [.int .i64 n, .int .i64 g] 33]) (fun ⟨i, out, vo, wt, fm, J0⟩ => i ≤ (placesP l (n, g) o).length ∧ (out, wt, fm) = runsS l (n, g) o ((placesP l (n, g) o).take i) ∧ 0 ≤ fm ∧ fm ≤ 2199023255552 ∧ out.length ≤ i) (fun ⟨i, out, vo, wt, fm, J0⟩ => (placesP l (n, g) o).length - i)
    ⟨0, [], (.slice none 0 0), 0, 0, (fun n => (#[v, .agg #[.int .i64 n, .int .i64 g], .int .i64 o, undef, .pointer (some ⟨k1, 0, none⟩), undef, .slice none 0 0, .slice none 0 0, v2, .int .i64 0, .int .i64 0, .int .i64 0, undef, v, .agg #[.int .i64 n, .int .i64 g], .int .i64 o, v2, undef, undef, undef, undef, undef, undef, undef, undef, undef, undef, undef, undef, undef, undef, undef, undef, undef, undef, undef, undef, undef, undef, undef, undef, undef, undef, undef, undef, undef, undef, undef, undef, undef, undef, undef, undef, undef, undef, undef, undef, undef, undef, undef, undef, undef, undef, undef, undef, undef, undef, undef, undef, undef] : Array Value).getD n undef)⟩ ⟨by omega, rfl, by omega, by omega, by simp⟩ (by kernel_rfl) [0, 0, 0, 0] (by kernel_rfl) h ?_
  rintro ⟨i, out, vo, wt, fm, J0⟩ w hG h
  obtain ⟨hi0, ho, hf0, hf1, hol⟩ : i ≤ (placesP l (n, g) o).length ∧ (out, wt, fm) = runsS l (n, g) o ((placesP l (n, g) o).take i) ∧ 0 ≤ fm ∧ fm ≤ 2199023255552 ∧ out.length ≤ i := hG
  refine c_seq ?_
  refine c_seq ?_
  refine c_reg ?_
  refine sq_p (.int .i64 (i : Int)) rfl (fun _ => by kernel_rfl) ?_
  refine sq_p (v2) rfl (fun _ => by kernel_rfl) ?_
  refine sq_q rfl h (g_len (by kernel_rfl) 1 rfl) ?_
  refine sq_p (.bool (decide ((i : Int) < ((placesP l (n, g) o).length : Int)))) rfl (fun _ => by kernel_rfl) ?_
  refine lnil ?_
  refine thn_n ?_
  refine c_cond (decide ((i : Int) < ((placesP l (n, g) o).length : Int))) (by kernel_rfl) (fun hc3 => ?_) (fun hc3 => ?_)
  · skip
    have hc3 := of_decide_eq_true hc3
    refine c_skip ?_
    refine thn_n ?_
    refine c_seq ?_
    refine c_block ?_
    refine c_seq ?_
    refine d_start 9 [1, 2] (by kernel_rfl) h fun w h => ?_
    refine d_take 0 126 [1, 2] rfl (v := v) (by kernel_rfl) (qp_thn (qp_blk (qp_thn (qp_rnd (qp_blk (qp_thn qp_body)))))) (yq (by kernel_rfl) (g_pure (v := v) fun _ => by kernel_rfl)) h (by kernel_rfl) ?_
    refine d_take 1 125 [1, 2] rfl (v := .agg #[.int .i64 n, .int .i64 g]) (by kernel_rfl) (qp_thn (qp_blk (qp_thn (qp_rnd (qp_blk (qp_thn qp_body)))))) (yq (by kernel_rfl) (g_ld 0 [.int .i64 n, .int .i64 g] (.agg #[.int .i64 n, .int .i64 g]) (by kernel_rfl) 1 rfl)) h (by kernel_rfl) ?_
    refine d_take 2 123 [1, 2] rfl (v := .int .i64 o) (by kernel_rfl) (qp_thn (qp_blk (qp_thn (qp_rnd (qp_blk (qp_thn qp_body)))))) (yq (by kernel_rfl) (g_pure (v := .int .i64 o) fun _ => by kernel_rfl)) h (by kernel_rfl) ?_
    refine d_take 3 23 [1, 2] rfl (v := v2) (by kernel_rfl) (qp_thn (qp_blk (qp_thn (qp_rnd (qp_blk (qp_thn qp_body)))))) (yq (by kernel_rfl) (g_pure (v := v2) fun _ => by kernel_rfl)) h (by kernel_rfl) ?_
    refine d_take 4 15 [1, 2] rfl (v := .int .i64 (i : Int)) (by kernel_rfl) (qp_thn (qp_blk (qp_thn (qp_rnd (qp_blk (qp_thn qp_body)))))) (yq (by kernel_rfl) (g_pure (v := .int .i64 (i : Int)) fun _ => by kernel_rfl)) h (by kernel_rfl) ?_
    have hi4 : i < (placesP l (n, g) o).length := by omega
    obtain ⟨x5, hx6⟩ : ∃ x, (placesP l (n, g) o)[i]? = some x := ⟨_, List.getElem?_eq_getElem hi4⟩
    have hxrx5 := atP_ok2 hok hx6
    refine d_take 5 31 [1, 2] rfl (v := .pointer (some ⟨blkN v2, offN v2 + i * 1, none⟩)) (by kernel_rfl) (qp_thn (qp_blk (qp_thn (qp_rnd (qp_blk (qp_thn qp_body)))))) (yq (by kernel_rfl) (g_idx i (by kernel_rfl) hi4 0 rfl)) h (by kernel_rfl) ?_
    refine d_take 6 63 [1, 2] rfl (v := .int .i64 x5) (by kernel_rfl) (qp_thn (qp_blk (qp_thn (qp_rnd (qp_blk (qp_thn qp_body)))))) (yq (by kernel_rfl) (g_ldr (b := blkN v2) (offN v2 + i * 1) [.int .i64 x5] (.int .i64 x5) (by kernel_rfl) 0 rfl (rdRow0 inC_len hx6 (by kernel_rfl)))) h (by kernel_rfl) ?_
    refine d_ready [7] (by kernel_rfl) rfl ?_
    refine ad_call #[v, .agg #[.int .i64 n, .int .i64 g], .int .i64 o, .int .i64 x5] [2] [2, 2] rfl (by kernel_rfl) (at_spec wq v l n g o x5 (by omega)) (fun _ => by kernel_rfl) h ?_ ?_
    · skip
      rintro v_ L_ w ⟨rfl, rfl⟩ h
      refine ⟨by kernel_rfl, ?_⟩
      refine d_take 8 255 [2, 2] rfl (v := .int .i64 (atP l (n, g) o x5)) (by kernel_rfl) (qp_thn (qp_blk (qp_thn (qp_rnd (qp_blk (qp_thn qp_body)))))) (yq (by kernel_rfl) (g_pure (v := .int .i64 (atP l (n, g) o x5)) fun _ => by kernel_rfl)) h (by kernel_rfl) ?_
      refine d_done (by kernel_rfl) ?_
      refine thn_n ?_
      refine c_seq ?_
      refine c_seq ?_
      refine c_reg ?_
      refine sq_p (.int .i64 (atP l (n, g) o x5)) rfl (fun _ => by kernel_rfl) ?_
      refine sq_p (.int .i64 wt) rfl (fun _ => by kernel_rfl) ?_
      refine sq_p (.bool (decide (atP l (n, g) o x5 = wt))) rfl (fun _ => by kernel_rfl) ?_
      refine lnil ?_
      refine thn_n ?_
      refine c_cond (decide (atP l (n, g) o x5 = wt)) (by kernel_rfl) (fun hc7 => ?_) (fun hc7 => ?_)
      · skip
        have hc7 := of_decide_eq_true hc7
        refine c_exit ?_
        refine thn_e (blk_e (thn_n ?_))
        refine c_reg ?_
        refine sq_p (.int .i64 (i : Int)) rfl (fun _ => by kernel_rfl) ?_
        refine sq_q rfl h (g_eq (v := .int .i64 (IntKind.i64.wrap ((i : Int) + 1))) (v' := .int .i64 ((i + 1 : Nat) : Int)) (g_pure fun _ => by kernel_rfl) (wr (by omega))) ?_
        refine sq_p (.int .i64 ((i + 1 : Nat) : Int)) rfl (fun _ => by kernel_rfl) ?_
        refine lnil ?_
        have hQ8 : ((i + 1) ≤ (placesP l (n, g) o).length ∧ (out, wt, fm) = runsS l (n, g) o ((placesP l (n, g) o).take (i + 1)) ∧ 0 ≤ fm ∧ fm ≤ 2199023255552 ∧ out.length ≤ (i + 1)) ∧ ((placesP l (n, g) o).length - (i + 1)) < ((placesP l (n, g) o).length - i) := ⟨⟨by omega, by rw [runsS_take hx6, ← ho, runS_same (s := ((out, wt, fm) : RunSt)) (by show _ = wt; omega)], by omega, by omega, by (try simp only [List.length_append, List.length_cons, List.length_nil]); omega⟩, by omega⟩
        refine loop_end (fun j => ⟨(i + 1), out, vo, wt, fm, j⟩) hQ8 (by kernel_rfl) [1, 1, 0, 0] (by kernel_rfl) h
      · skip
        have hc7 := of_decide_eq_false hc7
        refine c_skip ?_
        refine thn_n ?_
        refine c_seq ?_
        refine c_seq ?_
        refine c_reg ?_
        refine sq_p (.int .i64 wt) rfl (fun _ => by kernel_rfl) ?_
        refine sq_p (.bool (decide (wt > 0))) rfl (fun _ => by kernel_rfl) ?_
        refine lnil ?_
        refine thn_n ?_
        refine c_cond (decide (wt > 0)) (by kernel_rfl) (fun hc9 => ?_) (fun hc9 => ?_)
        · skip
          have hc9 := of_decide_eq_true hc9
          refine d_start 17 [2, 2] (by kernel_rfl) h fun w h => ?_
          refine d_take 0 32766 [2, 2] rfl (v := vo) (by kernel_rfl) (qp_thn (qp_blk (qp_thn (qp_rnd (qp_blk (qp_thn qp_body)))))) (yq (by kernel_rfl) (g_pure (v := vo) fun _ => by kernel_rfl)) h (by kernel_rfl) ?_
          refine d_take 1 8189 [2, 2] rfl (v := .agg #[.int .i64 n, .int .i64 g]) (by kernel_rfl) (qp_thn (qp_blk (qp_thn (qp_rnd (qp_blk (qp_thn qp_body)))))) (yq (by kernel_rfl) (g_ld 0 [.int .i64 n, .int .i64 g] (.agg #[.int .i64 n, .int .i64 g]) (by kernel_rfl) 1 rfl)) h (by kernel_rfl) ?_
          refine d_take 2 8187 [2, 2] rfl (v := .int .i64 o) (by kernel_rfl) (qp_thn (qp_blk (qp_thn (qp_rnd (qp_blk (qp_thn qp_body)))))) (yq (by kernel_rfl) (g_pure (v := .int .i64 o) fun _ => by kernel_rfl)) h (by kernel_rfl) ?_
          refine d_take 3 7159 [2, 2] rfl (v := .int .i64 fm) (by kernel_rfl) (qp_thn (qp_blk (qp_thn (qp_rnd (qp_blk (qp_thn qp_body)))))) (yq (by kernel_rfl) (g_pure (v := .int .i64 fm) fun _ => by kernel_rfl)) h (by kernel_rfl) ?_
          refine d_take 4 6447 [2, 2] rfl (v := v2) (by kernel_rfl) (qp_thn (qp_blk (qp_thn (qp_rnd (qp_blk (qp_thn qp_body)))))) (yq (by kernel_rfl) (g_pure (v := v2) fun _ => by kernel_rfl)) h (by kernel_rfl) ?_
          refine d_take 5 6431 [2, 2] rfl (v := .int .i64 (i : Int)) (by kernel_rfl) (qp_thn (qp_blk (qp_thn (qp_rnd (qp_blk (qp_thn qp_body)))))) (yq (by kernel_rfl) (g_pure (v := .int .i64 (i : Int)) fun _ => by kernel_rfl)) h (by kernel_rfl) ?_
          refine d_take 6 6463 [2, 2] rfl (v := .pointer (some ⟨blkN v2, offN v2 + i * 1, none⟩)) (by kernel_rfl) (qp_thn (qp_blk (qp_thn (qp_rnd (qp_blk (qp_thn qp_body)))))) (yq (by kernel_rfl) (g_idx i (by kernel_rfl) hi4 0 rfl)) h (by kernel_rfl) ?_
          refine d_take 7 6527 [2, 2] rfl (v := .int .i64 x5) (by kernel_rfl) (qp_thn (qp_blk (qp_thn (qp_rnd (qp_blk (qp_thn qp_body)))))) (yq (by kernel_rfl) (g_ldr (b := blkN v2) (offN v2 + i * 1) [.int .i64 x5] (.int .i64 x5) (by kernel_rfl) 0 rfl (rdRow0 inC_len hx6 (by kernel_rfl)))) h (by kernel_rfl) ?_
          refine d_take 8 6399 [2, 2] rfl (v := .int .i64 fm) (by kernel_rfl) (qp_thn (qp_blk (qp_thn (qp_rnd (qp_blk (qp_thn qp_body)))))) (yq (by kernel_rfl) (g_pure (v := .int .i64 fm) fun _ => by kernel_rfl)) h (by kernel_rfl) ?_
          refine d_take 9 6655 [2, 2] rfl (v := .int .i64 (x5 - fm)) (by kernel_rfl) (qp_thn (qp_blk (qp_thn (qp_rnd (qp_blk (qp_thn qp_body)))))) (yq (by kernel_rfl) (g_eq (v := .int .i64 (IntKind.i64.wrap (x5 - fm))) (v' := .int .i64 (x5 - fm)) (g_pure fun _ => by kernel_rfl) (wr (by omega)))) h (by kernel_rfl) ?_
          refine d_take 10 7167 [2, 2] rfl (v := .agg #[.int .i64 fm, .int .i64 (x5 - fm)]) (by kernel_rfl) (qp_thn (qp_blk (qp_thn (qp_rnd (qp_blk (qp_thn qp_body)))))) (yq (by kernel_rfl) (g_pure (v := .agg #[.int .i64 fm, .int .i64 (x5 - fm)]) fun _ => by kernel_rfl)) h (by kernel_rfl) ?_
          refine d_take 11 2047 [2, 2] rfl (v := .int .i64 wt) (by kernel_rfl) (qp_thn (qp_blk (qp_thn (qp_rnd (qp_blk (qp_thn qp_body)))))) (yq (by kernel_rfl) (g_pure (v := .int .i64 wt) fun _ => by kernel_rfl)) h (by kernel_rfl) ?_
          refine d_take 12 4095 [2, 2] rfl (v := .bool (decide (wt = 2))) (by kernel_rfl) (qp_thn (qp_blk (qp_thn (qp_rnd (qp_blk (qp_thn qp_body)))))) (yq (by kernel_rfl) (g_pure (v := .bool (decide (wt = 2))) fun _ => by kernel_rfl)) h (by kernel_rfl) ?_
          refine d_take 13 8191 [2, 2] rfl (v := .agg #[.int .i64 n, .int .i64 g, .int .i64 o, .int .i64 fm, .int .i64 (x5 - fm), .bool (decide (wt = 2))]) (by kernel_rfl) (qp_thn (qp_blk (qp_thn (qp_rnd (qp_blk (qp_thn qp_body)))))) (yq (by kernel_rfl) (g_pure (v := .agg #[.int .i64 n, .int .i64 g, .int .i64 o, .int .i64 fm, .int .i64 (x5 - fm), .bool (decide (wt = 2))]) fun _ => by kernel_rfl)) h (by kernel_rfl) ?_
          refine d_ready [14] (by kernel_rfl) rfl ?_
          refine ad_new [3, 3] rfl (by kernel_rfl) (fun b => .slice (some ⟨b, 0, none⟩) 1 1) [.int .i64 n, .int .i64 g, .int .i64 o, .int .i64 fm, .int .i64 (x5 - fm), .bool (decide (wt = 2))] 70 (fun _ => by kernel_rfl) h ?_ ?_
          · skip
            intro k10 w h; refine ⟨by kernel_rfl, ?_⟩
            refine d_ready [15] (by kernel_rfl) rfl ?_
            refine ad_app (b := k10) (o := 0) [3, 3] rfl (by kernel_rfl) 1 ((n, g), o, fm, x5 - fm, decide (wt = 2)) (by kernel_rfl) h 2 rfl 0 rfl (rdCell 0 (by kernel_rfl)) (by (try simp only [List.length_append, List.length_cons, List.length_nil]); omega) ?_ ?_
            · skip
              intro v11 w h; refine ⟨by kernel_rfl, ?_⟩
              refine d_take 16 65535 [3, 3] rfl (v := v11) (by kernel_rfl) (qp_thn (qp_blk (qp_thn (qp_rnd (qp_blk (qp_thn qp_body)))))) (yq (by kernel_rfl) (g_pure (v := v11) fun _ => by kernel_rfl)) h (by kernel_rfl) ?_
              refine d_done (by kernel_rfl) ?_
              refine thn_n ?_
              refine c_seq ?_
              refine c_reg ?_
              refine sq_p (.int .i64 (atP l (n, g) o x5)) rfl (fun _ => by kernel_rfl) ?_
              refine sq_p (.int .i64 (atP l (n, g) o x5)) rfl (fun _ => by kernel_rfl) ?_
              refine lnil ?_
              refine thn_n ?_
              refine c_reg ?_
              refine sq_p (v2) rfl (fun _ => by kernel_rfl) ?_
              refine sq_p (.int .i64 (i : Int)) rfl (fun _ => by kernel_rfl) ?_
              refine sq_q rfl h (g_idx i (by kernel_rfl) hi4 3 rfl) ?_
              refine sq_q rfl h (g_ldr (b := blkN v2) (offN v2 + i * 1) [.int .i64 x5] (.int .i64 x5) (by kernel_rfl) 3 rfl (rdRow0 inC_len hx6 (by kernel_rfl))) ?_
              refine sq_p (.int .i64 x5) rfl (fun _ => by kernel_rfl) ?_
              refine lnil ?_
              refine blk_n (thn_n ?_)
              refine c_reg ?_
              refine sq_p (.int .i64 (i : Int)) rfl (fun _ => by kernel_rfl) ?_
              refine sq_q rfl h (g_eq (v := .int .i64 (IntKind.i64.wrap ((i : Int) + 1))) (v' := .int .i64 ((i + 1 : Nat) : Int)) (g_pure fun _ => by kernel_rfl) (wr (by omega))) ?_
              refine sq_p (.int .i64 ((i + 1 : Nat) : Int)) rfl (fun _ => by kernel_rfl) ?_
              refine lnil ?_
              have hQ12 : ((i + 1) ≤ (placesP l (n, g) o).length ∧ ((out ++ [((n, g), o, fm, x5 - fm, decide (wt = 2))]), (atP l (n, g) o x5), x5) = runsS l (n, g) o ((placesP l (n, g) o).take (i + 1)) ∧ 0 ≤ x5 ∧ x5 ≤ 2199023255552 ∧ (out ++ [((n, g), o, fm, x5 - fm, decide (wt = 2))]).length ≤ (i + 1)) ∧ ((placesP l (n, g) o).length - (i + 1)) < ((placesP l (n, g) o).length - i) := ⟨⟨by omega, by rw [runsS_take hx6, ← ho, runS_new (s := ((out, wt, fm) : RunSt)) (by show ¬ _ = wt; omega) (by show 0 < wt; omega)], by omega, by omega, by (try simp only [List.length_append, List.length_cons, List.length_nil]); omega⟩, by omega⟩
              refine loop_end (fun j => ⟨(i + 1), out ++ [((n, g), o, fm, x5 - fm, decide (wt = 2))], v11, atP l (n, g) o x5, x5, j⟩) hQ12 (by kernel_rfl) [2, 2, 1, 1] (by kernel_rfl) h
            exact ad_nil
          exact ad_nil
        · skip
          have hc9 := of_decide_eq_false hc9
          refine c_skip ?_
          refine thn_n ?_
          refine c_seq ?_
          refine c_reg ?_
          refine sq_p (.int .i64 (atP l (n, g) o x5)) rfl (fun _ => by kernel_rfl) ?_
          refine sq_p (.int .i64 (atP l (n, g) o x5)) rfl (fun _ => by kernel_rfl) ?_
          refine lnil ?_
          refine thn_n ?_
          refine c_reg ?_
          refine sq_p (v2) rfl (fun _ => by kernel_rfl) ?_
          refine sq_p (.int .i64 (i : Int)) rfl (fun _ => by kernel_rfl) ?_
          refine sq_q rfl h (g_idx i (by kernel_rfl) hi4 2 rfl) ?_
          refine sq_q rfl h (g_ldr (b := blkN v2) (offN v2 + i * 1) [.int .i64 x5] (.int .i64 x5) (by kernel_rfl) 2 rfl (rdRow0 inC_len hx6 (by kernel_rfl))) ?_
          refine sq_p (.int .i64 x5) rfl (fun _ => by kernel_rfl) ?_
          refine lnil ?_
          refine blk_n (thn_n ?_)
          refine c_reg ?_
          refine sq_p (.int .i64 (i : Int)) rfl (fun _ => by kernel_rfl) ?_
          refine sq_q rfl h (g_eq (v := .int .i64 (IntKind.i64.wrap ((i : Int) + 1))) (v' := .int .i64 ((i + 1 : Nat) : Int)) (g_pure fun _ => by kernel_rfl) (wr (by omega))) ?_
          refine sq_p (.int .i64 ((i + 1 : Nat) : Int)) rfl (fun _ => by kernel_rfl) ?_
          refine lnil ?_
          have hQ13 : ((i + 1) ≤ (placesP l (n, g) o).length ∧ (out, (atP l (n, g) o x5), x5) = runsS l (n, g) o ((placesP l (n, g) o).take (i + 1)) ∧ 0 ≤ x5 ∧ x5 ≤ 2199023255552 ∧ out.length ≤ (i + 1)) ∧ ((placesP l (n, g) o).length - (i + 1)) < ((placesP l (n, g) o).length - i) := ⟨⟨by omega, by rw [runsS_take hx6, ← ho, runS_not (s := ((out, wt, fm) : RunSt)) (by show ¬ _ = wt; omega) (by show ¬ 0 < wt; omega)], by omega, by omega, by (try simp only [List.length_append, List.length_cons, List.length_nil]); omega⟩, by omega⟩
          refine loop_end (fun j => ⟨(i + 1), out, vo, atP l (n, g) o x5, x5, j⟩) hQ13 (by kernel_rfl) [1, 1, 0, 0] (by kernel_rfl) h
    exact ad_nil
  · skip
    have hc3 := of_decide_eq_false hc3
    refine c_exit ?_
    refine thn_e (rnd_e (blk_e (thn_n ?_)))
    refine c_seq ?_
    refine c_seq ?_
    refine c_reg ?_
    refine sq_p (.int .i64 wt) rfl (fun _ => by kernel_rfl) ?_
    refine sq_p (.bool (decide (wt > 0))) rfl (fun _ => by kernel_rfl) ?_
    refine lnil ?_
    refine thn_n ?_
    refine c_cond (decide (wt > 0)) (by kernel_rfl) (fun hc14 => ?_) (fun hc14 => ?_)
    · skip
      have hc14 := of_decide_eq_true hc14
      refine c_reg ?_
      refine sq_p (vo) rfl (fun _ => by kernel_rfl) ?_
      refine sq_q rfl h (g_ld 0 [.int .i64 n, .int .i64 g] (.agg #[.int .i64 n, .int .i64 g]) (by kernel_rfl) 3 rfl) ?_
      refine sq_p (.int .i64 o) rfl (fun _ => by kernel_rfl) ?_
      refine sq_p (.int .i64 fm) rfl (fun _ => by kernel_rfl) ?_
      refine sq_p (.agg #[.int .i64 fm, .int .i64 0]) rfl (fun _ => by kernel_rfl) ?_
      refine sq_p (.int .i64 wt) rfl (fun _ => by kernel_rfl) ?_
      refine sq_p (.bool (decide (wt = 2))) rfl (fun _ => by kernel_rfl) ?_
      refine sq_p (.agg #[.int .i64 n, .int .i64 g, .int .i64 o, .int .i64 fm, .int .i64 0, .bool (decide (wt = 2))]) rfl (fun _ => by kernel_rfl) ?_
      refine sq_new rfl (fun b => .slice (some ⟨b, 0, none⟩) 1 1) [.int .i64 n, .int .i64 g, .int .i64 o, .int .i64 fm, .int .i64 0, .bool (decide (wt = 2))] 70 (fun _ => by kernel_rfl) h ?_; intro k15 w h
      refine sq_app (b := k15) (o := 0) rfl 1 ((n, g), o, fm, 0, decide (wt = 2)) (by kernel_rfl) h 1 rfl 0 rfl (rdCell 0 (by kernel_rfl)) (by (try simp only [List.length_append, List.length_cons, List.length_nil]); omega) ?_; intro v16 w h
      refine sq_p (v16) rfl (fun _ => by kernel_rfl) ?_
      refine lnil ?_
      refine thn_n ?_
      refine c_seq ?_
      refine c_reg ?_
      refine sq_p (v16) rfl (fun _ => by kernel_rfl) ?_
      refine sq_p (v16) rfl (fun _ => by kernel_rfl) ?_
      refine lnil ?_
      refine thn_n ?_
      refine c_ret ?_
      refine ret_end [v16] [1, 2] h (by kernel_rfl) (res_t (by kernel_rfl) res_n) ?_
      have hE : runsP l (n, g) o = out ++ [((n, g), o, fm, 0, decide (wt = 2))] := by unfold runsP runsE; rw [List.take_of_length_le (by omega)] at ho; rw [← ho]; exact if_pos (show 0 < wt by omega)
      rw [hE]
      exact ⟨_, rfl, rfl⟩
    · skip
      have hc14 := of_decide_eq_false hc14
      refine c_skip ?_
      refine thn_n ?_
      refine c_seq ?_
      refine c_reg ?_
      refine sq_p (vo) rfl (fun _ => by kernel_rfl) ?_
      refine sq_p (vo) rfl (fun _ => by kernel_rfl) ?_
      refine lnil ?_
      refine thn_n ?_
      refine c_ret ?_
      refine ret_end [vo] [0, 1] h (by kernel_rfl) (res_t (by kernel_rfl) res_n) ?_
      have hE : runsP l (n, g) o = out := by unfold runsP runsE; rw [List.take_of_length_le (by omega)] at ho; rw [← ho]; exact if_neg (show ¬ 0 < wt by omega)
      rw [hE]
      exact ⟨_, rfl, rfl⟩
set_option maxHeartbeats 1000000 in
theorem handles_spec (wq : Bool) (v : Value) (l : List Paint) (hl : l.length ≤ 1000)  : Spec Tryd.prog 59 #[v] [rRows wq v 107 6 pntC l] (fun u L => ∃ v', u = v' ∧ L = [rRows true v' 33 2 hdC (handlesP l), rRows wq v 107 6 pntC l]) := by
  refine spec_of (#[v, undef, undef, undef, undef, undef, undef, undef, undef, undef, undef, undef, undef, undef, undef, undef, undef, undef, undef, undef, undef, undef, undef, undef, undef, undef, undef, undef, undef, undef, undef, undef, undef, undef, undef, undef, undef, undef, undef, undef, undef, undef, undef, undef, undef, undef, undef, undef, undef, undef, undef, undef, undef, undef, undef, undef, undef, undef, undef, undef, undef, undef, undef, undef, undef, undef]) Tryd.func59 rfl (by kernel_rfl) fun E w0 w h => ?_
  refine c_seq ?_
  refine c_reg ?_
  refine sq_p (.slice none 0 0) rfl (fun _ => by kernel_rfl) ?_
  refine lnil ?_
  refine thn_n ?_
  refine c_seq ?_
  refine c_reg ?_
  refine sq_p (.slice none 0 0) rfl (fun _ => by kernel_rfl) ?_
  refine lnil ?_
  refine thn_n ?_
  refine c_seq ?_
  refine c_seq ?_
  refine c_reg ?_
  refine sq_p (.int .i64 0) rfl (fun _ => by kernel_rfl) ?_
  refine lnil ?_
  refine thn_n ?_
  refine c_block ?_
  have h := h.nilRows 33 2 hdC
  refine c_loop (X := Nat × List (Int × Int) × Value × (Nat → Value)) (fun ⟨i, out, vo, J0⟩ => ⟨#[v, undef, .slice none 0 0, vo, .int .i64 (i : Int), J0 5, J0 6, J0 7, J0 8, J0 9, J0 10, J0 11, J0 12, J0 13, J0 14, J0 15, J0 16, J0 17, J0 18, J0 19, J0 20, J0 21, J0 22, J0 23, J0 24, J0 25, J0 26, J0 27, J0 28, J0 29, J0 30, J0 31, J0 32, J0 33, J0 34, J0 35, J0 36, J0 37, J0 38, J0 39, J0 40, J0 41, J0 42, J0 43, J0 44, J0 45, J0 46, J0 47, J0 48, J0 49, J0 50, J0 51, J0 52, J0 53, J0 54, J0 55, J0 56, J0 57, J0 58, J0 59, J0 60, J0 61, J0 62, J0 63, J0 64, undef], []⟩)
    (fun ⟨i, out, vo, J0⟩ => [rRows true vo 33 2 hdC out, rRows wq v 107 6 pntC l]) (fun ⟨i, out, vo, J0⟩ => i ≤ l.length ∧ out = handlesP (l.take i)) (fun ⟨i, out, vo, J0⟩ => l.length - i)
    ⟨0, [], (.slice none 0 0), (fun n => (#[v, undef, .slice none 0 0, .slice none 0 0, .int .i64 0, undef, undef, undef, undef, undef, undef, undef, undef, undef, undef, undef, undef, undef, undef, undef, undef, undef, undef, undef, undef, undef, undef, undef, undef, undef, undef, undef, undef, undef, undef, undef, undef, undef, undef, undef, undef, undef, undef, undef, undef, undef, undef, undef, undef, undef, undef, undef, undef, undef, undef, undef, undef, undef, undef, undef, undef, undef, undef, undef, undef, undef] : Array Value).getD n undef)⟩ ⟨by omega, rfl⟩ (by kernel_rfl) [0, 0] (by kernel_rfl) h ?_
  rintro ⟨i, out, vo, J0⟩ w hG h
  obtain ⟨hi0, ho⟩ : i ≤ l.length ∧ out = handlesP (l.take i) := hG
  have hol : out.length ≤ 1000 := by rw [ho]; have := handles_len (l.take i); rw [List.length_take] at this; omega
  refine c_seq ?_
  refine c_seq ?_
  refine c_reg ?_
  refine sq_p (.int .i64 (i : Int)) rfl (fun _ => by kernel_rfl) ?_
  refine sq_p (v) rfl (fun _ => by kernel_rfl) ?_
  refine sq_q rfl h (g_len (by kernel_rfl) 1 rfl) ?_
  refine sq_p (.bool (decide ((i : Int) < (l.length : Int)))) rfl (fun _ => by kernel_rfl) ?_
  refine lnil ?_
  refine thn_n ?_
  refine c_cond (decide ((i : Int) < (l.length : Int))) (by kernel_rfl) (fun hc1 => ?_) (fun hc1 => ?_)
  · skip
    have hc1 := of_decide_eq_true hc1
    refine c_skip ?_
    refine thn_n ?_
    refine c_seq ?_
    refine c_block ?_
    refine c_seq ?_
    refine c_reg ?_
    refine sq_p (.int .i64 0) rfl (fun _ => by kernel_rfl) ?_
    refine lnil ?_
    refine thn_n ?_
    refine c_seq ?_
    refine c_block ?_
    have hi2 : i < l.length := by omega
    obtain ⟨x3, hx4⟩ : ∃ x, l[i]? = some x := ⟨_, List.getElem?_eq_getElem hi2⟩
    refine c_loop (X := Nat × (Nat → Value)) (fun ⟨k, J1⟩ => ⟨#[v, undef, .slice none 0 0, vo, .int .i64 (i : Int), .int .i64 (k : Int), J0 6, .int .i64 (i : Int), v, .int .i64 (l.length : Int), .bool (decide ((i : Int) < (l.length : Int))), J0 11, J0 12, J1 13, J1 14, J1 15, J1 16, J1 17, J1 18, J1 19, J1 20, J1 21, J1 22, J1 23, J1 24, J1 25, J1 26, J1 27, J1 28, J1 29, J1 30, J0 31, J0 32, J0 33, J0 34, J0 35, J0 36, J0 37, J0 38, J0 39, J0 40, J0 41, J0 42, J0 43, J0 44, J0 45, J0 46, J0 47, J0 48, J0 49, J0 50, J0 51, J0 52, J0 53, J0 54, J0 55, J0 56, J0 57, J0 58, J0 59, J0 60, J0 61, J0 62, J0 63, J0 64, undef], []⟩)
      (fun ⟨k, J1⟩ => [rRows true vo 33 2 hdC out, rRows wq v 107 6 pntC l]) (fun ⟨k, J1⟩ => k ≤ out.length ∧ ∀ j y, j < k → out[j]? = some y → ltHb y x3.1 = true) (fun ⟨k, J1⟩ => out.length - k)
      ⟨0, (fun n => (#[v, undef, .slice none 0 0, vo, .int .i64 (i : Int), .int .i64 0, J0 6, .int .i64 (i : Int), v, .int .i64 (l.length : Int), .bool (decide ((i : Int) < (l.length : Int))), J0 11, J0 12, J0 13, J0 14, J0 15, J0 16, J0 17, J0 18, J0 19, J0 20, J0 21, J0 22, J0 23, J0 24, J0 25, J0 26, J0 27, J0 28, J0 29, J0 30, J0 31, J0 32, J0 33, J0 34, J0 35, J0 36, J0 37, J0 38, J0 39, J0 40, J0 41, J0 42, J0 43, J0 44, J0 45, J0 46, J0 47, J0 48, J0 49, J0 50, J0 51, J0 52, J0 53, J0 54, J0 55, J0 56, J0 57, J0 58, J0 59, J0 60, J0 61, J0 62, J0 63, J0 64, undef] : Array Value).getD n undef)⟩ ⟨by omega, fun j y hj => by omega⟩ (by kernel_rfl) [0, 0] (by kernel_rfl) h ?_
    rintro ⟨k, J1⟩ w hG h
    obtain ⟨hk0, hno⟩ : k ≤ out.length ∧ ∀ j y, j < k → out[j]? = some y → ltHb y x3.1 = true := hG
    refine c_seq ?_
    refine c_seq ?_
    refine d_start 16 [0, 0] (by kernel_rfl) h fun w h => ?_
    refine d_take 0 6 [0, 0] rfl (v := .int .i64 (k : Int)) (by kernel_rfl) (qp_thn (qp_thn (qp_rnd (qp_blk (qp_thn (qp_blk (qp_thn (qp_rnd (qp_blk (qp_thn qp_body)))))))))) (yq (by kernel_rfl) (g_pure (v := .int .i64 (k : Int)) fun _ => by kernel_rfl)) h (by kernel_rfl) ?_
    refine d_take 1 1 [0, 0] rfl (v := vo) (by kernel_rfl) (qp_thn (qp_thn (qp_rnd (qp_blk (qp_thn (qp_blk (qp_thn (qp_rnd (qp_blk (qp_thn qp_body)))))))))) (yq (by kernel_rfl) (g_pure (v := vo) fun _ => by kernel_rfl)) h (by kernel_rfl) ?_
    refine d_take 2 3 [0, 0] rfl (v := .int .i64 (out.length : Int)) (by kernel_rfl) (qp_thn (qp_thn (qp_rnd (qp_blk (qp_thn (qp_blk (qp_thn (qp_rnd (qp_blk (qp_thn qp_body)))))))))) (yq (by kernel_rfl) (g_len (by kernel_rfl) 0 rfl)) h (by kernel_rfl) ?_
    obtain ⟨b5, hb5⟩ : ∃ b_ : Bool, b_ = (decide ((k : Int) < (out.length : Int))) := ⟨_, rfl⟩
    refine d_take 3 7 [0, 0] rfl (v := .bool b5) (by kernel_rfl) (qp_thn (qp_thn (qp_rnd (qp_blk (qp_thn (qp_blk (qp_thn (qp_rnd (qp_blk (qp_thn qp_body)))))))))) (yq (by kernel_rfl) (by subst hb5; exact g_pure (v := .bool (decide ((k : Int) < (out.length : Int)))) fun _ => by kernel_rfl)) h (by kernel_rfl) ?_
    refine d_take 4 15 [0, 0] rfl (v := .bool b5) (by kernel_rfl) (qp_thn (qp_thn (qp_rnd (qp_blk (qp_thn (qp_blk (qp_thn (qp_rnd (qp_blk (qp_thn qp_body)))))))))) (yq (by kernel_rfl) (g_pure (v := .bool b5) fun _ => by kernel_rfl)) h (by kernel_rfl) ?_
    rcases Bool.eq_false_or_eq_true b5 with hc6 | hc6
    · skip
      subst hc6
      have q7 := hb5.symm
      have q7 := of_decide_eq_true q7
      refine d_take 5 15967 [0, 0] rfl (v := vo) (by kernel_rfl) (qp_thn (qp_thn (qp_rnd (qp_blk (qp_thn (qp_blk (qp_thn (qp_rnd (qp_blk (qp_thn qp_body)))))))))) (yq (by kernel_rfl) (g_pure (v := vo) fun _ => by kernel_rfl)) h (by kernel_rfl) ?_
      refine d_take 6 15935 [0, 0] rfl (v := .int .i64 (k : Int)) (by kernel_rfl) (qp_thn (qp_thn (qp_rnd (qp_blk (qp_thn (qp_blk (qp_thn (qp_rnd (qp_blk (qp_thn qp_body)))))))))) (yq (by kernel_rfl) (g_pure (v := .int .i64 (k : Int)) fun _ => by kernel_rfl)) h (by kernel_rfl) ?_
      have hi8 : k < out.length := by omega
      obtain ⟨x9, hx10⟩ : ∃ x, out[k]? = some x := ⟨_, List.getElem?_eq_getElem hi8⟩
      refine d_take 7 15999 [0, 0] rfl (v := .pointer (some ⟨blkN vo, offN vo + k * 2, none⟩)) (by kernel_rfl) (qp_thn (qp_thn (qp_rnd (qp_blk (qp_thn (qp_blk (qp_thn (qp_rnd (qp_blk (qp_thn qp_body)))))))))) (yq (by kernel_rfl) (g_idx k (by kernel_rfl) hi8 0 rfl)) h (by kernel_rfl) ?_
      refine d_take 8 16127 [0, 0] rfl (v := .agg #[.int .i64 x9.1, .int .i64 x9.2]) (by kernel_rfl) (qp_thn (qp_thn (qp_rnd (qp_blk (qp_thn (qp_blk (qp_thn (qp_rnd (qp_blk (qp_thn qp_body)))))))))) (yq (by kernel_rfl) (g_ldr (b := blkN vo) (offN vo + k * 2) [.int .i64 x9.1, .int .i64 x9.2] (.agg #[.int .i64 x9.1, .int .i64 x9.2]) (by kernel_rfl) 0 rfl (rdRow0 hdC_len hx10 (by kernel_rfl)))) h (by kernel_rfl) ?_
      refine d_take 9 1535 [0, 0] rfl (v := v) (by kernel_rfl) (qp_thn (qp_thn (qp_rnd (qp_blk (qp_thn (qp_blk (qp_thn (qp_rnd (qp_blk (qp_thn qp_body)))))))))) (yq (by kernel_rfl) (g_pure (v := v) fun _ => by kernel_rfl)) h (by kernel_rfl) ?_
      refine d_take 10 1023 [0, 0] rfl (v := .int .i64 (i : Int)) (by kernel_rfl) (qp_thn (qp_thn (qp_rnd (qp_blk (qp_thn (qp_blk (qp_thn (qp_rnd (qp_blk (qp_thn qp_body)))))))))) (yq (by kernel_rfl) (g_pure (v := .int .i64 (i : Int)) fun _ => by kernel_rfl)) h (by kernel_rfl) ?_
      refine d_take 11 2047 [0, 0] rfl (v := .pointer (some ⟨blkN v, offN v + i * 6, none⟩)) (by kernel_rfl) (qp_thn (qp_thn (qp_rnd (qp_blk (qp_thn (qp_blk (qp_thn (qp_rnd (qp_blk (qp_thn qp_body)))))))))) (yq (by kernel_rfl) (g_idx i (by kernel_rfl) hi2 1 rfl)) h (by kernel_rfl) ?_
      refine d_take 12 4095 [0, 0] rfl (v := .pointer (some ⟨blkN v, offN v + i * 6, none⟩)) (by kernel_rfl) (qp_thn (qp_thn (qp_rnd (qp_blk (qp_thn (qp_blk (qp_thn (qp_rnd (qp_blk (qp_thn qp_body)))))))))) (yq (by kernel_rfl) (g_pure (v := .pointer (some ⟨blkN v, offN v + i * 6, none⟩)) fun _ => by kernel_rfl)) h (by kernel_rfl) ?_
      refine d_take 13 8191 [0, 0] rfl (v := .agg #[.int .i64 x3.1.1, .int .i64 x3.1.2]) (by kernel_rfl) (qp_thn (qp_thn (qp_rnd (qp_blk (qp_thn (qp_blk (qp_thn (qp_rnd (qp_blk (qp_thn qp_body)))))))))) (yq (by kernel_rfl) (g_ldr (b := blkN v) (offN v + i * 6) [.int .i64 x3.1.1, .int .i64 x3.1.2] (.agg #[.int .i64 x3.1.1, .int .i64 x3.1.2]) (by kernel_rfl) 1 rfl (rdRow0 pntC_len hx4 (by kernel_rfl)))) h (by kernel_rfl) ?_
      refine d_ready [14] (by kernel_rfl) rfl ?_
      refine ad_call #[.agg #[.int .i64 x9.1, .int .i64 x9.2], .agg #[.int .i64 x3.1.1, .int .i64 x3.1.2]] [] [0, 0] rfl (by kernel_rfl) (lessH_spec x9.1 x9.2 x3.1.1 x3.1.2) (fun _ => by kernel_rfl) h ?_ ?_
      · skip
        rintro v_ L_ w ⟨rfl, rfl⟩ h
        refine ⟨by kernel_rfl, ?_⟩
        obtain ⟨b11, hb11⟩ : ∃ b_ : Bool, b_ = ((decide (x9.1 < x3.1.1)) || ((decide (x9.1 = x3.1.1)) && (decide (x9.2 < x3.1.2)))) := ⟨_, rfl⟩
        refine d_take 15 32767 [0, 0] rfl (v := .bool b11) (by kernel_rfl) (qp_thn (qp_thn (qp_rnd (qp_blk (qp_thn (qp_blk (qp_thn (qp_rnd (qp_blk (qp_thn qp_body)))))))))) (yq (by kernel_rfl) (by subst hb11; exact g_pure (v := .bool ((decide (x9.1 < x3.1.1)) || ((decide (x9.1 = x3.1.1)) && (decide (x9.2 < x3.1.2))))) fun _ => by kernel_rfl)) h (by kernel_rfl) ?_
        refine d_done (by kernel_rfl) ?_
        refine thn_n ?_
        refine c_cond (b11) (by kernel_rfl) (fun hc12 => ?_) (fun hc12 => ?_)
        · skip
          have q13 : ((decide (x9.1 < x3.1.1)) || ((decide (x9.1 = x3.1.1)) && (decide (x9.2 < x3.1.2)))) = true := by rw [← hb11]; exact hc12
          have hT : ltHb x9 x3.1 = true := by subst hb11; exact hc12
          refine c_skip ?_
          refine thn_n ?_
          refine c_block ?_
          refine c_reg ?_
          refine sq_p (.int .i64 (k : Int)) rfl (fun _ => by kernel_rfl) ?_
          refine sq_q rfl h (g_eq (v := .int .i64 (IntKind.i64.wrap ((k : Int) + 1))) (v' := .int .i64 ((k + 1 : Nat) : Int)) (g_pure fun _ => by kernel_rfl) (wr (by omega))) ?_
          refine sq_p (.int .i64 ((k + 1 : Nat) : Int)) rfl (fun _ => by kernel_rfl) ?_
          refine lnil ?_
          refine blk_n ?_
          have hQ14 : ((k + 1) ≤ out.length ∧ ∀ j y, j < (k + 1) → out[j]? = some y → ltHb y x3.1 = true) ∧ (out.length - (k + 1)) < (out.length - k) := ⟨⟨by omega, step_ltH hno hx10 hT⟩, by omega⟩
          refine loop_end (fun j => ⟨(k + 1), j⟩) hQ14 (by kernel_rfl) [0, 0] (by kernel_rfl) h
        · skip
          have q15 : ((decide (x9.1 < x3.1.1)) || ((decide (x9.1 = x3.1.1)) && (decide (x9.2 < x3.1.2)))) = false := by rw [← hb11]; exact hc12
          have q16 : (decide (x9.1 < x3.1.1)) = false := by revert q15; cases (decide (x9.1 < x3.1.1)) <;> simp
          have q17 : ((decide (x9.1 = x3.1.1)) && (decide (x9.2 < x3.1.2))) = false := by revert q15; cases (decide (x9.1 < x3.1.1)) <;> cases ((decide (x9.1 = x3.1.1)) && (decide (x9.2 < x3.1.2))) <;> simp
          have q16 := of_decide_eq_false q16
          have q18 : ¬ (x9.1 = x3.1.1 ∧ x9.2 < x3.1.2) := fun hh => by rw [decide_eq_true hh.1, decide_eq_true hh.2] at q17; cases q17
          have hT : ltHb x9 x3.1 = false := by subst hb11; exact hc12
          refine c_exit ?_
          refine thn_e (rnd_e (blk_e (thn_n ?_)))
          refine c_seq ?_
          refine c_seq ?_
          refine d_start 16 [0, 0] (by kernel_rfl) h fun w h => ?_
          refine d_take 0 6 [0, 0] rfl (v := .int .i64 (k : Int)) (by kernel_rfl) (qp_thn (qp_thn (qp_blk (qp_thn (qp_rnd (qp_blk (qp_thn qp_body))))))) (yq (by kernel_rfl) (g_pure (v := .int .i64 (k : Int)) fun _ => by kernel_rfl)) h (by kernel_rfl) ?_
          refine d_take 1 1 [0, 0] rfl (v := vo) (by kernel_rfl) (qp_thn (qp_thn (qp_blk (qp_thn (qp_rnd (qp_blk (qp_thn qp_body))))))) (yq (by kernel_rfl) (g_pure (v := vo) fun _ => by kernel_rfl)) h (by kernel_rfl) ?_
          refine d_take 2 3 [0, 0] rfl (v := .int .i64 (out.length : Int)) (by kernel_rfl) (qp_thn (qp_thn (qp_blk (qp_thn (qp_rnd (qp_blk (qp_thn qp_body))))))) (yq (by kernel_rfl) (g_len (by kernel_rfl) 0 rfl)) h (by kernel_rfl) ?_
          obtain ⟨b19, hb19⟩ : ∃ b_ : Bool, b_ = (decide ((k : Int) < (out.length : Int))) := ⟨_, rfl⟩
          refine d_take 3 7 [0, 0] rfl (v := .bool b19) (by kernel_rfl) (qp_thn (qp_thn (qp_blk (qp_thn (qp_rnd (qp_blk (qp_thn qp_body))))))) (yq (by kernel_rfl) (by subst hb19; exact g_pure (v := .bool (decide ((k : Int) < (out.length : Int)))) fun _ => by kernel_rfl)) h (by kernel_rfl) ?_
          refine d_take 4 15 [0, 0] rfl (v := .bool b19) (by kernel_rfl) (qp_thn (qp_thn (qp_blk (qp_thn (qp_rnd (qp_blk (qp_thn qp_body))))))) (yq (by kernel_rfl) (g_pure (v := .bool b19) fun _ => by kernel_rfl)) h (by kernel_rfl) ?_
          rcases Bool.eq_false_or_eq_true b19 with hc20 | hc20
          · skip
            subst hc20
            have q21 := hb19.symm
            have q21 := of_decide_eq_true q21
            refine d_take 5 15967 [0, 0] rfl (v := vo) (by kernel_rfl) (qp_thn (qp_thn (qp_blk (qp_thn (qp_rnd (qp_blk (qp_thn qp_body))))))) (yq (by kernel_rfl) (g_pure (v := vo) fun _ => by kernel_rfl)) h (by kernel_rfl) ?_
            refine d_take 6 15935 [0, 0] rfl (v := .int .i64 (k : Int)) (by kernel_rfl) (qp_thn (qp_thn (qp_blk (qp_thn (qp_rnd (qp_blk (qp_thn qp_body))))))) (yq (by kernel_rfl) (g_pure (v := .int .i64 (k : Int)) fun _ => by kernel_rfl)) h (by kernel_rfl) ?_
            refine d_take 7 15999 [0, 0] rfl (v := .pointer (some ⟨blkN vo, offN vo + k * 2, none⟩)) (by kernel_rfl) (qp_thn (qp_thn (qp_blk (qp_thn (qp_rnd (qp_blk (qp_thn qp_body))))))) (yq (by kernel_rfl) (g_idx k (by kernel_rfl) hi8 0 rfl)) h (by kernel_rfl) ?_
            refine d_take 8 16127 [0, 0] rfl (v := .agg #[.int .i64 x9.1, .int .i64 x9.2]) (by kernel_rfl) (qp_thn (qp_thn (qp_blk (qp_thn (qp_rnd (qp_blk (qp_thn qp_body))))))) (yq (by kernel_rfl) (g_ldr (b := blkN vo) (offN vo + k * 2) [.int .i64 x9.1, .int .i64 x9.2] (.agg #[.int .i64 x9.1, .int .i64 x9.2]) (by kernel_rfl) 0 rfl (rdRow0 hdC_len hx10 (by kernel_rfl)))) h (by kernel_rfl) ?_
            refine d_take 9 1535 [0, 0] rfl (v := v) (by kernel_rfl) (qp_thn (qp_thn (qp_blk (qp_thn (qp_rnd (qp_blk (qp_thn qp_body))))))) (yq (by kernel_rfl) (g_pure (v := v) fun _ => by kernel_rfl)) h (by kernel_rfl) ?_
            refine d_take 10 1023 [0, 0] rfl (v := .int .i64 (i : Int)) (by kernel_rfl) (qp_thn (qp_thn (qp_blk (qp_thn (qp_rnd (qp_blk (qp_thn qp_body))))))) (yq (by kernel_rfl) (g_pure (v := .int .i64 (i : Int)) fun _ => by kernel_rfl)) h (by kernel_rfl) ?_
            refine d_take 11 2047 [0, 0] rfl (v := .pointer (some ⟨blkN v, offN v + i * 6, none⟩)) (by kernel_rfl) (qp_thn (qp_thn (qp_blk (qp_thn (qp_rnd (qp_blk (qp_thn qp_body))))))) (yq (by kernel_rfl) (g_idx i (by kernel_rfl) hi2 1 rfl)) h (by kernel_rfl) ?_
            refine d_take 12 4095 [0, 0] rfl (v := .pointer (some ⟨blkN v, offN v + i * 6, none⟩)) (by kernel_rfl) (qp_thn (qp_thn (qp_blk (qp_thn (qp_rnd (qp_blk (qp_thn qp_body))))))) (yq (by kernel_rfl) (g_pure (v := .pointer (some ⟨blkN v, offN v + i * 6, none⟩)) fun _ => by kernel_rfl)) h (by kernel_rfl) ?_
            refine d_take 13 8191 [0, 0] rfl (v := .agg #[.int .i64 x3.1.1, .int .i64 x3.1.2]) (by kernel_rfl) (qp_thn (qp_thn (qp_blk (qp_thn (qp_rnd (qp_blk (qp_thn qp_body))))))) (yq (by kernel_rfl) (g_ldr (b := blkN v) (offN v + i * 6) [.int .i64 x3.1.1, .int .i64 x3.1.2] (.agg #[.int .i64 x3.1.1, .int .i64 x3.1.2]) (by kernel_rfl) 1 rfl (rdRow0 pntC_len hx4 (by kernel_rfl)))) h (by kernel_rfl) ?_
            obtain ⟨b22, hb22⟩ : ∃ b_ : Bool, b_ = ((decide (x9.1 = x3.1.1)) && (decide (x9.2 = x3.1.2))) := ⟨_, rfl⟩
            refine d_take 14 16383 [0, 0] rfl (v := .bool b22) (by kernel_rfl) (qp_thn (qp_thn (qp_blk (qp_thn (qp_rnd (qp_blk (qp_thn qp_body))))))) (yq (by kernel_rfl) (by subst hb22; exact g_eqH (by kernel_rfl))) h (by kernel_rfl) ?_
            refine d_take 15 32767 [0, 0] rfl (v := .bool b22) (by kernel_rfl) (qp_thn (qp_thn (qp_blk (qp_thn (qp_rnd (qp_blk (qp_thn qp_body))))))) (yq (by kernel_rfl) (g_pure (v := .bool b22) fun _ => by kernel_rfl)) h (by kernel_rfl) ?_
            refine d_done (by kernel_rfl) ?_
            refine thn_n ?_
            refine c_cond (b22) (by kernel_rfl) (fun hc23 => ?_) (fun hc23 => ?_)
            · skip
              have q24 : ((decide (x9.1 = x3.1.1)) && (decide (x9.2 = x3.1.2))) = true := by rw [← hb22]; exact hc23
              have q25 : (decide (x9.1 = x3.1.1)) = true := by revert q24; cases (decide (x9.1 = x3.1.1)) <;> simp
              have q26 : (decide (x9.2 = x3.1.2)) = true := by revert q24; cases (decide (x9.1 = x3.1.1)) <;> cases (decide (x9.2 = x3.1.2)) <;> simp
              have q25 := of_decide_eq_true q25
              have q26 := of_decide_eq_true q26
              refine c_exit ?_
              refine thn_e (blk_e (thn_n ?_))
              refine c_reg ?_
              refine sq_p (.int .i64 (i : Int)) rfl (fun _ => by kernel_rfl) ?_
              refine sq_q rfl h (g_eq (v := .int .i64 (IntKind.i64.wrap ((i : Int) + 1))) (v' := .int .i64 ((i + 1 : Nat) : Int)) (g_pure fun _ => by kernel_rfl) (wr (by omega))) ?_
              refine sq_p (.int .i64 ((i + 1 : Nat) : Int)) rfl (fun _ => by kernel_rfl) ?_
              refine lnil ?_
              have hQ27 : ((i + 1) ≤ l.length ∧ out = handlesP (l.take (i + 1))) ∧ (l.length - (i + 1)) < (l.length - i) := ⟨⟨by omega, by rw [handles_take hx4, ← ho]; exact (insH_same hno (by rw [hx10, show x9 = x3.1 from Prod.ext (by omega) (by omega)])).symm⟩, by omega⟩
              refine loop_end (fun j => ⟨(i + 1), out, vo, j⟩) hQ27 (by kernel_rfl) [0, 0] (by kernel_rfl) h
            · skip
              have q28 : ((decide (x9.1 = x3.1.1)) && (decide (x9.2 = x3.1.2))) = false := by rw [← hb22]; exact hc23
              have q29 : ¬ (x9.1 = x3.1.1 ∧ x9.2 = x3.1.2) := fun hh => by rw [decide_eq_true hh.1, decide_eq_true hh.2] at q28; cases q28
              refine c_skip ?_
              refine thn_n ?_
              refine c_seq ?_
              refine c_reg ?_
              refine sq_p (.slice none 0 0) rfl (fun _ => by kernel_rfl) ?_
              refine lnil ?_
              refine thn_n ?_
              refine c_seq ?_
              refine c_reg ?_
              refine sq_p (.slice none 0 0) rfl (fun _ => by kernel_rfl) ?_
              refine sq_p (vo) rfl (fun _ => by kernel_rfl) ?_
              refine sq_p (.int .i64 (k : Int)) rfl (fun _ => by kernel_rfl) ?_
              refine sq_q rfl h (g_sub2 (v := vo) (d := 33) (k := 2) (LV := none) (HV := (some (.int .i64 (k : Int)))) 0 k (by kernel_rfl) rfl (bnd rfl) (by first | omega | (simp; omega)) (by first | omega | (simp; omega)) 0 rfl slRd_rows) ?_
              have h := h.nilRows 33 2 hdC
              refine sq_apps rfl 0 k (by kernel_rfl) hdC_len (fun _ => rfl) (by omega) (by omega) h 0 rfl 1 rfl slRd_rows (by (try simp only [List.length_append, List.length_cons, List.length_nil, List.length_take, List.length_drop]); omega) ?_; intro v30 w h
              refine sq_p (v30) rfl (fun _ => by kernel_rfl) ?_
              refine lnil ?_
              refine thn_n ?_
              refine c_seq ?_
              refine c_reg ?_
              refine sq_p (v30) rfl (fun _ => by kernel_rfl) ?_
              refine sq_p (v) rfl (fun _ => by kernel_rfl) ?_
              refine sq_p (.int .i64 (i : Int)) rfl (fun _ => by kernel_rfl) ?_
              refine sq_q rfl h (g_idx i (by kernel_rfl) hi2 2 rfl) ?_
              refine sq_p (.pointer (some ⟨blkN v, offN v + i * 6, none⟩)) rfl (fun _ => by kernel_rfl) ?_
              refine sq_q rfl h (g_ldr (b := blkN v) (offN v + i * 6) [.int .i64 x3.1.1, .int .i64 x3.1.2] (.agg #[.int .i64 x3.1.1, .int .i64 x3.1.2]) (by kernel_rfl) 2 rfl (rdRow0 pntC_len hx4 (by kernel_rfl))) ?_
              refine sq_new rfl (fun b => .slice (some ⟨b, 0, none⟩) 1 1) [.int .i64 x3.1.1, .int .i64 x3.1.2] 33 (fun _ => by kernel_rfl) h ?_; intro k31 w h
              refine sq_app (b := k31) (o := 0) rfl 1 x3.1 (by kernel_rfl) h 1 rfl 0 rfl (rdCell 0 (by kernel_rfl)) (by (try simp only [List.length_append, List.length_cons, List.length_nil, List.length_take, List.length_drop]); omega) ?_; intro v32 w h
              refine sq_p (v32) rfl (fun _ => by kernel_rfl) ?_
              refine lnil ?_
              refine thn_n ?_
              refine c_reg ?_
              refine sq_p (v32) rfl (fun _ => by kernel_rfl) ?_
              refine sq_p (vo) rfl (fun _ => by kernel_rfl) ?_
              refine sq_p (.int .i64 (k : Int)) rfl (fun _ => by kernel_rfl) ?_
              refine sq_q rfl h (g_sub2 (v := vo) (d := 33) (k := 2) (LV := (some (.int .i64 (k : Int)))) (HV := none) k out.length (by kernel_rfl) (bnd rfl) rfl (by first | omega | (simp; omega)) (by first | omega | (simp; omega)) 2 rfl slRd_rows) ?_
              refine sq_apps rfl k out.length (by kernel_rfl) hdC_len (fun _ => rfl) (by omega) (by omega) h 1 rfl 2 rfl slRd_rows (by (try simp only [List.length_append, List.length_cons, List.length_nil, List.length_take, List.length_drop]); omega) ?_; intro v33 w h
              refine sq_p (v33) rfl (fun _ => by kernel_rfl) ?_
              refine lnil ?_
              refine blk_n (thn_n ?_)
              refine c_reg ?_
              refine sq_p (.int .i64 (i : Int)) rfl (fun _ => by kernel_rfl) ?_
              refine sq_q rfl h (g_eq (v := .int .i64 (IntKind.i64.wrap ((i : Int) + 1))) (v' := .int .i64 ((i + 1 : Nat) : Int)) (g_pure fun _ => by kernel_rfl) (wr (by omega))) ?_
              refine sq_p (.int .i64 ((i + 1 : Nat) : Int)) rfl (fun _ => by kernel_rfl) ?_
              refine lnil ?_
              have hQ34 : ((i + 1) ≤ l.length ∧ ([] ++ (out.take k).drop 0 ++ [x3.1] ++ (out.take out.length).drop k) = handlesP (l.take (i + 1))) ∧ (l.length - (i + 1)) < (l.length - i) := ⟨⟨by omega, by rw [handles_take hx4, ← ho]; exact insH_end hno (le_oneH hx10 hT (fun e => by have e1 := congrArg Prod.fst e; have e2 := congrArg Prod.snd e; omega)) hk0⟩, by omega⟩
              refine loop_end (fun j => ⟨(i + 1), [] ++ (out.take k).drop 0 ++ [x3.1] ++ (out.take out.length).drop k, v33, j⟩) hQ34 (by kernel_rfl) [1, 2] (by kernel_rfl) h
          · skip
            subst hc20
            have q35 := hb19.symm
            have q35 := of_decide_eq_false q35
            exfalso; omega
      exact ad_nil
    · skip
      subst hc6
      have q36 := hb5.symm
      have q36 := of_decide_eq_false q36
      refine d_take 5 15967 [0, 0] rfl (by kernel_rfl) (qp_thn (qp_thn (qp_rnd (qp_blk (qp_thn (qp_blk (qp_thn (qp_rnd (qp_blk (qp_thn qp_body)))))))))) (yn (by kernel_rfl)) h (by kernel_rfl) ?_
      refine d_take 6 15935 [0, 0] rfl (by kernel_rfl) (qp_thn (qp_thn (qp_rnd (qp_blk (qp_thn (qp_blk (qp_thn (qp_rnd (qp_blk (qp_thn qp_body)))))))))) (yn (by kernel_rfl)) h (by kernel_rfl) ?_
      refine d_take 7 15999 [0, 0] rfl (by kernel_rfl) (qp_thn (qp_thn (qp_rnd (qp_blk (qp_thn (qp_blk (qp_thn (qp_rnd (qp_blk (qp_thn qp_body)))))))))) (yn (by kernel_rfl)) h (by kernel_rfl) ?_
      refine d_take 8 16127 [0, 0] rfl (by kernel_rfl) (qp_thn (qp_thn (qp_rnd (qp_blk (qp_thn (qp_blk (qp_thn (qp_rnd (qp_blk (qp_thn qp_body)))))))))) (yn (by kernel_rfl)) h (by kernel_rfl) ?_
      refine d_take 9 1535 [0, 0] rfl (by kernel_rfl) (qp_thn (qp_thn (qp_rnd (qp_blk (qp_thn (qp_blk (qp_thn (qp_rnd (qp_blk (qp_thn qp_body)))))))))) (yn (by kernel_rfl)) h (by kernel_rfl) ?_
      refine d_take 10 1023 [0, 0] rfl (by kernel_rfl) (qp_thn (qp_thn (qp_rnd (qp_blk (qp_thn (qp_blk (qp_thn (qp_rnd (qp_blk (qp_thn qp_body)))))))))) (yn (by kernel_rfl)) h (by kernel_rfl) ?_
      refine d_take 11 2047 [0, 0] rfl (by kernel_rfl) (qp_thn (qp_thn (qp_rnd (qp_blk (qp_thn (qp_blk (qp_thn (qp_rnd (qp_blk (qp_thn qp_body)))))))))) (yn (by kernel_rfl)) h (by kernel_rfl) ?_
      refine d_take 12 4095 [0, 0] rfl (by kernel_rfl) (qp_thn (qp_thn (qp_rnd (qp_blk (qp_thn (qp_blk (qp_thn (qp_rnd (qp_blk (qp_thn qp_body)))))))))) (yn (by kernel_rfl)) h (by kernel_rfl) ?_
      refine d_take 13 8191 [0, 0] rfl (by kernel_rfl) (qp_thn (qp_thn (qp_rnd (qp_blk (qp_thn (qp_blk (qp_thn (qp_rnd (qp_blk (qp_thn qp_body)))))))))) (yn (by kernel_rfl)) h (by kernel_rfl) ?_
      refine d_take 14 16383 [0, 0] rfl (by kernel_rfl) (qp_thn (qp_thn (qp_rnd (qp_blk (qp_thn (qp_blk (qp_thn (qp_rnd (qp_blk (qp_thn qp_body)))))))))) (yn (by kernel_rfl)) h (by kernel_rfl) ?_
      refine d_take 15 32767 [0, 0] rfl (v := .bool false) (by kernel_rfl) (qp_thn (qp_thn (qp_rnd (qp_blk (qp_thn (qp_blk (qp_thn (qp_rnd (qp_blk (qp_thn qp_body)))))))))) (yq (by kernel_rfl) (g_pure (v := .bool false) fun _ => by kernel_rfl)) h (by kernel_rfl) ?_
      refine d_done (by kernel_rfl) ?_
      refine thn_n ?_
      refine c_false (by kernel_rfl) ?_
      refine c_exit ?_
      refine thn_e (rnd_e (blk_e (thn_n ?_)))
      refine c_seq ?_
      refine c_seq ?_
      refine d_start 16 [0, 0] (by kernel_rfl) h fun w h => ?_
      refine d_take 0 6 [0, 0] rfl (v := .int .i64 (k : Int)) (by kernel_rfl) (qp_thn (qp_thn (qp_blk (qp_thn (qp_rnd (qp_blk (qp_thn qp_body))))))) (yq (by kernel_rfl) (g_pure (v := .int .i64 (k : Int)) fun _ => by kernel_rfl)) h (by kernel_rfl) ?_
      refine d_take 1 1 [0, 0] rfl (v := vo) (by kernel_rfl) (qp_thn (qp_thn (qp_blk (qp_thn (qp_rnd (qp_blk (qp_thn qp_body))))))) (yq (by kernel_rfl) (g_pure (v := vo) fun _ => by kernel_rfl)) h (by kernel_rfl) ?_
      refine d_take 2 3 [0, 0] rfl (v := .int .i64 (out.length : Int)) (by kernel_rfl) (qp_thn (qp_thn (qp_blk (qp_thn (qp_rnd (qp_blk (qp_thn qp_body))))))) (yq (by kernel_rfl) (g_len (by kernel_rfl) 0 rfl)) h (by kernel_rfl) ?_
      obtain ⟨b37, hb37⟩ : ∃ b_ : Bool, b_ = (decide ((k : Int) < (out.length : Int))) := ⟨_, rfl⟩
      refine d_take 3 7 [0, 0] rfl (v := .bool b37) (by kernel_rfl) (qp_thn (qp_thn (qp_blk (qp_thn (qp_rnd (qp_blk (qp_thn qp_body))))))) (yq (by kernel_rfl) (by subst hb37; exact g_pure (v := .bool (decide ((k : Int) < (out.length : Int)))) fun _ => by kernel_rfl)) h (by kernel_rfl) ?_
      refine d_take 4 15 [0, 0] rfl (v := .bool b37) (by kernel_rfl) (qp_thn (qp_thn (qp_blk (qp_thn (qp_rnd (qp_blk (qp_thn qp_body))))))) (yq (by kernel_rfl) (g_pure (v := .bool b37) fun _ => by kernel_rfl)) h (by kernel_rfl) ?_
      rcases Bool.eq_false_or_eq_true b37 with hc38 | hc38
      · skip
        subst hc38
        have q39 := hb37.symm
        have q39 := of_decide_eq_true q39
        exfalso; omega
      · skip
        subst hc38
        have q40 := hb37.symm
        have q40 := of_decide_eq_false q40
        refine d_take 5 15967 [0, 0] rfl (by kernel_rfl) (qp_thn (qp_thn (qp_blk (qp_thn (qp_rnd (qp_blk (qp_thn qp_body))))))) (yn (by kernel_rfl)) h (by kernel_rfl) ?_
        refine d_take 6 15935 [0, 0] rfl (by kernel_rfl) (qp_thn (qp_thn (qp_blk (qp_thn (qp_rnd (qp_blk (qp_thn qp_body))))))) (yn (by kernel_rfl)) h (by kernel_rfl) ?_
        refine d_take 7 15999 [0, 0] rfl (by kernel_rfl) (qp_thn (qp_thn (qp_blk (qp_thn (qp_rnd (qp_blk (qp_thn qp_body))))))) (yn (by kernel_rfl)) h (by kernel_rfl) ?_
        refine d_take 8 16127 [0, 0] rfl (by kernel_rfl) (qp_thn (qp_thn (qp_blk (qp_thn (qp_rnd (qp_blk (qp_thn qp_body))))))) (yn (by kernel_rfl)) h (by kernel_rfl) ?_
        refine d_take 9 1535 [0, 0] rfl (by kernel_rfl) (qp_thn (qp_thn (qp_blk (qp_thn (qp_rnd (qp_blk (qp_thn qp_body))))))) (yn (by kernel_rfl)) h (by kernel_rfl) ?_
        refine d_take 10 1023 [0, 0] rfl (by kernel_rfl) (qp_thn (qp_thn (qp_blk (qp_thn (qp_rnd (qp_blk (qp_thn qp_body))))))) (yn (by kernel_rfl)) h (by kernel_rfl) ?_
        refine d_take 11 2047 [0, 0] rfl (by kernel_rfl) (qp_thn (qp_thn (qp_blk (qp_thn (qp_rnd (qp_blk (qp_thn qp_body))))))) (yn (by kernel_rfl)) h (by kernel_rfl) ?_
        refine d_take 12 4095 [0, 0] rfl (by kernel_rfl) (qp_thn (qp_thn (qp_blk (qp_thn (qp_rnd (qp_blk (qp_thn qp_body))))))) (yn (by kernel_rfl)) h (by kernel_rfl) ?_
        refine d_take 13 8191 [0, 0] rfl (by kernel_rfl) (qp_thn (qp_thn (qp_blk (qp_thn (qp_rnd (qp_blk (qp_thn qp_body))))))) (yn (by kernel_rfl)) h (by kernel_rfl) ?_
        refine d_take 14 16383 [0, 0] rfl (by kernel_rfl) (qp_thn (qp_thn (qp_blk (qp_thn (qp_rnd (qp_blk (qp_thn qp_body))))))) (yn (by kernel_rfl)) h (by kernel_rfl) ?_
        refine d_take 15 32767 [0, 0] rfl (v := .bool false) (by kernel_rfl) (qp_thn (qp_thn (qp_blk (qp_thn (qp_rnd (qp_blk (qp_thn qp_body))))))) (yq (by kernel_rfl) (g_pure (v := .bool false) fun _ => by kernel_rfl)) h (by kernel_rfl) ?_
        refine d_done (by kernel_rfl) ?_
        refine thn_n ?_
        refine c_false (by kernel_rfl) ?_
        refine c_skip ?_
        refine thn_n ?_
        refine c_seq ?_
        refine c_reg ?_
        refine sq_p (.slice none 0 0) rfl (fun _ => by kernel_rfl) ?_
        refine lnil ?_
        refine thn_n ?_
        refine c_seq ?_
        refine c_reg ?_
        refine sq_p (.slice none 0 0) rfl (fun _ => by kernel_rfl) ?_
        refine sq_p (vo) rfl (fun _ => by kernel_rfl) ?_
        refine sq_p (.int .i64 (k : Int)) rfl (fun _ => by kernel_rfl) ?_
        refine sq_q rfl h (g_sub2 (v := vo) (d := 33) (k := 2) (LV := none) (HV := (some (.int .i64 (k : Int)))) 0 k (by kernel_rfl) rfl (bnd rfl) (by first | omega | (simp; omega)) (by first | omega | (simp; omega)) 0 rfl slRd_rows) ?_
        have h := h.nilRows 33 2 hdC
        refine sq_apps rfl 0 k (by kernel_rfl) hdC_len (fun _ => rfl) (by omega) (by omega) h 0 rfl 1 rfl slRd_rows (by (try simp only [List.length_append, List.length_cons, List.length_nil, List.length_take, List.length_drop]); omega) ?_; intro v41 w h
        refine sq_p (v41) rfl (fun _ => by kernel_rfl) ?_
        refine lnil ?_
        refine thn_n ?_
        refine c_seq ?_
        refine c_reg ?_
        refine sq_p (v41) rfl (fun _ => by kernel_rfl) ?_
        refine sq_p (v) rfl (fun _ => by kernel_rfl) ?_
        refine sq_p (.int .i64 (i : Int)) rfl (fun _ => by kernel_rfl) ?_
        refine sq_q rfl h (g_idx i (by kernel_rfl) hi2 2 rfl) ?_
        refine sq_p (.pointer (some ⟨blkN v, offN v + i * 6, none⟩)) rfl (fun _ => by kernel_rfl) ?_
        refine sq_q rfl h (g_ldr (b := blkN v) (offN v + i * 6) [.int .i64 x3.1.1, .int .i64 x3.1.2] (.agg #[.int .i64 x3.1.1, .int .i64 x3.1.2]) (by kernel_rfl) 2 rfl (rdRow0 pntC_len hx4 (by kernel_rfl))) ?_
        refine sq_new rfl (fun b => .slice (some ⟨b, 0, none⟩) 1 1) [.int .i64 x3.1.1, .int .i64 x3.1.2] 33 (fun _ => by kernel_rfl) h ?_; intro k42 w h
        refine sq_app (b := k42) (o := 0) rfl 1 x3.1 (by kernel_rfl) h 1 rfl 0 rfl (rdCell 0 (by kernel_rfl)) (by (try simp only [List.length_append, List.length_cons, List.length_nil, List.length_take, List.length_drop]); omega) ?_; intro v43 w h
        refine sq_p (v43) rfl (fun _ => by kernel_rfl) ?_
        refine lnil ?_
        refine thn_n ?_
        refine c_reg ?_
        refine sq_p (v43) rfl (fun _ => by kernel_rfl) ?_
        refine sq_p (vo) rfl (fun _ => by kernel_rfl) ?_
        refine sq_p (.int .i64 (k : Int)) rfl (fun _ => by kernel_rfl) ?_
        refine sq_q rfl h (g_sub2 (v := vo) (d := 33) (k := 2) (LV := (some (.int .i64 (k : Int)))) (HV := none) k out.length (by kernel_rfl) (bnd rfl) rfl (by first | omega | (simp; omega)) (by first | omega | (simp; omega)) 2 rfl slRd_rows) ?_
        refine sq_apps rfl k out.length (by kernel_rfl) hdC_len (fun _ => rfl) (by omega) (by omega) h 1 rfl 2 rfl slRd_rows (by (try simp only [List.length_append, List.length_cons, List.length_nil, List.length_take, List.length_drop]); omega) ?_; intro v44 w h
        refine sq_p (v44) rfl (fun _ => by kernel_rfl) ?_
        refine lnil ?_
        refine blk_n (thn_n ?_)
        refine c_reg ?_
        refine sq_p (.int .i64 (i : Int)) rfl (fun _ => by kernel_rfl) ?_
        refine sq_q rfl h (g_eq (v := .int .i64 (IntKind.i64.wrap ((i : Int) + 1))) (v' := .int .i64 ((i + 1 : Nat) : Int)) (g_pure fun _ => by kernel_rfl) (wr (by omega))) ?_
        refine sq_p (.int .i64 ((i + 1 : Nat) : Int)) rfl (fun _ => by kernel_rfl) ?_
        refine lnil ?_
        have hQ45 : ((i + 1) ≤ l.length ∧ ([] ++ (out.take k).drop 0 ++ [x3.1] ++ (out.take out.length).drop k) = handlesP (l.take (i + 1))) ∧ (l.length - (i + 1)) < (l.length - i) := ⟨⟨by omega, by rw [handles_take hx4, ← ho]; exact insH_end hno (fun y hy => (none_at (by omega) y hy).elim) hk0⟩, by omega⟩
        refine loop_end (fun j => ⟨(i + 1), [] ++ (out.take k).drop 0 ++ [x3.1] ++ (out.take out.length).drop k, v44, j⟩) hQ45 (by kernel_rfl) [1, 2] (by kernel_rfl) h
  · skip
    have hc1 := of_decide_eq_false hc1
    refine c_exit ?_
    refine thn_e (rnd_e (blk_e (thn_n ?_)))
    refine c_seq ?_
    refine c_reg ?_
    refine sq_p (vo) rfl (fun _ => by kernel_rfl) ?_
    refine sq_p (vo) rfl (fun _ => by kernel_rfl) ?_
    refine lnil ?_
    refine thn_n ?_
    refine c_ret ?_
    refine ret_end [vo] [0, 0] h (by kernel_rfl) (res_t (by kernel_rfl) res_n) ?_
    rw [ho, List.take_of_length_le (by omega)]
    exact ⟨_, rfl, rfl⟩
end Go.Proofs.YtgebinfbbopnlaaDoor
