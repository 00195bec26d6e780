/- share: contracts by what is owned (printed by walk.py). -/
import Derived.Test.YtofhnglgebllbaaDoorOp5
import Derived.Test.YtofhnglgebllbaaDoorEnvAR
import Derived.Test.YtofhnglgebllbaaDoorEqs
import Derived.Test.YtofhnglgebllbaaDoorShareP
namespace Go.Proofs.YtofhnglgebllbaaDoor
open Go.RowKit
set_option linter.unusedVariables false
set_option linter.unusedSimpArgs false
set_option maxRecDepth 100000

theorem mine_of (n g o : Int) (x : Opn) : mineP (n, g) o x = (decide (x.1.1 = n) && decide (x.1.2 = g) && decide (x.2.1 = o)) := by
  obtain ⟨⟨x1, x2⟩, x3, x4, x5⟩ := x
  unfold mineP
  by_cases c1 : x1 = n <;> by_cases c2 : x2 = g <;> by_cases c3 : x3 = o <;> simp [c1, c2, c3]
theorem pair_of (n g : Int) (x : Int × Int) : (x == (n, g)) = (decide (x.1 = n) && decide (x.2 = g)) := by
  obtain ⟨x1, x2⟩ := x
  by_cases c1 : x1 = n <;> by_cases c2 : x2 = g <;> simp [c1, c2]
theorem against_of (n g o a d : Int) (x : Opn) : againstP (n, g) o a d x = ((decide (x.1.1 = n) && decide (x.1.2 = g)) && (!decide (x.2.1 = o) && (mtP x.2.2.2 a || mtP x.2.2.1 d))) := by
  have e : againstP (n, g) o a d x = (x.1 == (n, g) && (!(x.2.1 == o) && (mtP x.2.2.2 a || mtP x.2.2.1 d))) := rfl
  have e2 : (x.2.1 == o) = decide (x.2.1 = o) := rfl
  rw [e, pair_of, e2]
theorem against_no {n g o a d : Int} {x : Opn} {p q : Bool} (h1 : p = (decide (x.1.1 = n) && decide (x.1.2 = g))) (h2 : q = !decide (x.2.1 = o)) (h : (p && q) = false) : againstP (n, g) o a d x = false := by
  rw [against_of, ← h1, ← h2, ← Bool.and_assoc, h]; rfl
theorem against_is {n g o a d : Int} {x : Opn} {p q m : Bool} (h1 : p = (decide (x.1.1 = n) && decide (x.1.2 = g))) (h2 : q = !decide (x.2.1 = o)) (h : (p && q) = true) (hm : (mtP x.2.2.2 a || mtP x.2.2.1 d) = m) : againstP (n, g) o a d x = m := by
  rw [against_of, ← h1, ← h2, ← Bool.and_assoc, h, hm]; rfl
theorem or_t1 {p q : Bool} (h : p = true) : (p || q) = true := by rw [h]; rfl
theorem or_t2 {p q : Bool} (h : q = true) : (p || q) = true := by rw [h]; cases p <;> rfl
theorem or_f {p q : Bool} (h : p = false) (k : q = false) : (p || q) = false := by rw [h, k]; rfl
theorem opn_no {l : List Opn} {k : Nat} {x : Opn} {p : Opn → Bool} (hn : ∀ j y, j < k → l[j]? = some y → p y = false) (hx : l[k]? = some x) (hp : p x = false) : ∀ j y, j < k + 1 → l[j]? = some y → p y = false := fun j y hj hy => by
  by_cases h : j = k
  · subst h; rw [hx] at hy; cases hy; exact hp
  · exact hn j y (by omega) hy
theorem idx_some {l : List Opn} {p : Opn → Bool} {k : Nat} {x : Opn} (hx : l[k]? = some x) (hp : p x = true) (hn : ∀ j y, j < k → l[j]? = some y → p y = false) : l.findIdx? p = some k := by
  obtain ⟨hk, rfl⟩ := List.getElem?_eq_some_iff.1 hx
  rw [List.findIdx?_eq_some_iff_getElem]
  exact ⟨hk, hp, fun j hj => by simp [hn j _ hj (List.getElem?_eq_getElem (by omega))]⟩
theorem idx_none {l : List Opn} {p : Opn → Bool} (hn : ∀ j y, j < l.length → l[j]? = some y → p y = false) : l.findIdx? p = none := by
  rw [List.findIdx?_eq_none_iff]
  intro x hx
  obtain ⟨j, hj, rfl⟩ := List.mem_iff_getElem.1 hx
  exact hn j _ hj (List.getElem?_eq_getElem hj)
theorem any_none {l : List Opn} {p : Opn → Bool} (hn : ∀ j y, j < l.length → l[j]? = some y → p y = false) : l.any p = false := by
  rw [List.any_eq_false]
  intro x hx
  obtain ⟨j, hj, rfl⟩ := List.mem_iff_getElem.1 hx
  simp [hn j _ hj (List.getElem?_eq_getElem hj)]
theorem any_some {l : List Opn} {p : Opn → Bool} {k : Nat} {x : Opn} (hx : l[k]? = some x) (hp : p x = true) : l.any p = true := List.any_eq_true.2 ⟨x, List.mem_of_getElem? hx, hp⟩
theorem shO_bad {l : List Opn} {h : Int × Int} {o a d : Int} (h1 : rightP a d = false) : shOpen l h o a d = (l, 2) := if_pos h1
theorem shO_held {l : List Opn} {h : Int × Int} {o a d : Int} (h1 : rightP a d = true) (h2 : l.any (againstP h o a d) = true) : shOpen l h o a d = (l, 11) := by
  unfold shOpen; rw [if_neg (by simp [h1]), if_pos h2]
theorem shO_some {l : List Opn} {h : Int × Int} {o a d : Int} {i : Nat} {x : Opn} (h1 : rightP a d = true) (h2 : l.any (againstP h o a d) = false) (h3 : l.findIdx? (mineP h o) = some i) (hx : l[i]? = some x) : shOpen l h o a d = (l.set i (x.1, x.2.1, bits .or .i64 x.2.2.1 a, bits .or .i64 x.2.2.2 d), 0) := by
  unfold shOpen; rw [if_neg (by simp [h1]), if_neg (by simp [h2]), h3]
  refine Prod.ext (List.ext_getElem? fun j => ?_) rfl
  show (l.modify i _)[j]? = (l.set i _)[j]?
  rw [List.getElem?_modify, List.getElem?_set]
  by_cases hij : i = j
  · subst hij
    obtain ⟨this, e⟩ := List.getElem?_eq_some_iff.1 hx
    simp [hx, this, e]
  · simp [hij]
theorem shO_none {l : List Opn} {h : Int × Int} {o a d : Int} (h1 : rightP a d = true) (h2 : l.any (againstP h o a d) = false) (h3 : l.findIdx? (mineP h o) = none) : shOpen l h o a d = if 40 ≤ l.length then (l, 9) else (l ++ [(h, o, a, d)], 0) := by
  unfold shOpen; rw [if_neg (by simp [h1]), if_neg (by simp [h2]), h3]

set_option maxHeartbeats 1000000 in
theorem rbound_spec (a d : Int) : Spec Tryd.prog 131 #[.int .i64 a, .int .i64 d] [] (fun u L => u = .bool (!rightP a d) ∧ L = []) := by
  refine spec_of (#[.int .i64 a, .int .i64 d, undef, undef, undef, undef, undef, undef, undef, undef, undef, undef, undef, undef, undef, undef, undef, undef, undef]) Tryd.func131 rfl (by kernel_rfl) fun E w0 w h => ?_
  refine c_seq ?_
  refine c_reg ?_
  refine sq_p (.bool false) rfl (fun _ => by kernel_rfl) ?_
  refine lnil ?_
  refine thn_n ?_
  refine c_seq ?_
  refine c_reg ?_
  refine sq_p (.int .i64 a) rfl (fun _ => by kernel_rfl) ?_
  obtain ⟨b1, hb1⟩ : ∃ b_ : Bool, b_ = (decide (a < 1)) := ⟨_, rfl⟩
  refine sq_q (v := .bool b1) rfl h (by subst hb1; exact g_pure (v := .bool (decide (a < 1))) fun _ => by kernel_rfl) ?_
  refine sq_p (.bool b1) rfl (fun _ => by kernel_rfl) ?_
  refine sq_m0 (v := .int .i64 a) b1 (by cases b1 <;> kernel_rfl) h (fun hB => by subst hB; exact g_pure (v := .int .i64 a) fun _ => by kernel_rfl) ?_
  obtain ⟨b2, hb2⟩ : ∃ b_ : Bool, b_ = (decide (a > 3)) := ⟨_, rfl⟩
  refine sq_m0 (v := .bool b2) b1 (by cases b1 <;> kernel_rfl) h (fun hB => by subst hB; exact by subst hb2; exact g_pure (v := .bool (decide (a > 3))) fun _ => by kernel_rfl) ?_
  obtain ⟨b3, hb3⟩ : ∃ b_ : Bool, b_ = (b1 || b2) := ⟨_, rfl⟩
  refine sq_q (v := .bool b3) rfl h (by subst hb3; exact g_pure (v := .bool (b1 || b2)) fun _ => by cases b1 <;> kernel_rfl) ?_
  refine sq_p (.bool b3) rfl (fun _ => by kernel_rfl) ?_
  refine sq_m0 (v := .int .i64 d) b3 (by cases b3 <;> kernel_rfl) h (fun hB => by subst hB; exact g_pure (v := .int .i64 d) fun _ => by kernel_rfl) ?_
  obtain ⟨b4, hb4⟩ : ∃ b_ : Bool, b_ = (decide (d < 0)) := ⟨_, rfl⟩
  refine sq_m0 (v := .bool b4) b3 (by cases b3 <;> kernel_rfl) h (fun hB => by subst hB; exact by subst hb4; exact g_pure (v := .bool (decide (d < 0))) fun _ => by kernel_rfl) ?_
  obtain ⟨b5, hb5⟩ : ∃ b_ : Bool, b_ = (b3 || b4) := ⟨_, rfl⟩
  refine sq_q (v := .bool b5) rfl h (by subst hb5; exact g_pure (v := .bool (b3 || b4)) fun _ => by cases b3 <;> kernel_rfl) ?_
  refine sq_p (.bool b5) rfl (fun _ => by kernel_rfl) ?_
  refine sq_m0 (v := .int .i64 d) b5 (by cases b5 <;> kernel_rfl) h (fun hB => by subst hB; exact g_pure (v := .int .i64 d) fun _ => by kernel_rfl) ?_
  obtain ⟨b6, hb6⟩ : ∃ b_ : Bool, b_ = (decide (d > 3)) := ⟨_, rfl⟩
  refine sq_m0 (v := .bool b6) b5 (by cases b5 <;> kernel_rfl) h (fun hB => by subst hB; exact by subst hb6; exact g_pure (v := .bool (decide (d > 3))) fun _ => by kernel_rfl) ?_
  obtain ⟨b7, hb7⟩ : ∃ b_ : Bool, b_ = (b5 || b6) := ⟨_, rfl⟩
  refine sq_q (v := .bool b7) rfl h (by subst hb7; exact g_pure (v := .bool (b5 || b6)) fun _ => by cases b5 <;> kernel_rfl) ?_
  refine sq_p (.bool b7) rfl (fun _ => by kernel_rfl) ?_
  refine lnil ?_
  refine thn_n ?_
  refine c_ret ?_
  refine ret_end [.bool b7] [] h (by kernel_rfl) (res_t (by kernel_rfl) res_n) ?_
  refine ⟨?_, rfl⟩
  show Value.bool _ = _
  subst hb7 hb6 hb5 hb4 hb3 hb2 hb1
  unfold rightP
  congr 1
  rw [Bool.eq_iff_iff]
  simp
  omega
set_option maxHeartbeats 1000000 in
theorem rfind_spec (b : Nat) (v : Value) (l : List Opn) (n g o : Int) (hl : l.length ≤ 1000) : Spec Tryd.prog 133 #[.pointer (some ⟨b, 0, none⟩), .agg #[.int .i64 n, .int .i64 g], .int .i64 o] [rCell true b [v] 112, rRows true v 222 5 opnC l] (fun u L => (∃ (i : Nat) (x : Opn), l.findIdx? (mineP (n, g) o) = some i ∧ l[i]? = some x ∧ u = .int .i64 (i : Int) ∧ L = [rCell true b [v] 112, rRows true v 222 5 opnC l]) ∨ (l.findIdx? (mineP (n, g) o) = none ∧ u = .int .i64 (-1) ∧ L = [rCell true b [v] 112, rRows true v 222 5 opnC l])) := by
  refine spec_of (#[.pointer (some ⟨b, 0, none⟩), .agg #[.int .i64 n, .int .i64 g], .int .i64 o, undef, undef, undef, undef, undef, undef, undef, undef, undef, undef, undef, undef, undef, undef, undef, undef, undef, undef, undef, undef, undef, undef, undef, undef, undef, undef, undef, undef, undef, undef, undef, undef, undef, undef, undef, undef, undef]) Tryd.func133 rfl (by kernel_rfl) fun E w0 w h => ?_
  refine c_seq ?_
  refine c_reg ?_
  refine sq_new rfl (fun b => .pointer (some ⟨b, 0, none⟩)) [.int .i64 n, .int .i64 g] 29 (fun _ => by kernel_rfl) h ?_; intro k1 w h
  refine sq_p (.int .i64 0) rfl (fun _ => by kernel_rfl) ?_
  refine lnil ?_
  refine thn_n ?_
  refine c_seq ?_
  refine c_seq ?_
  refine c_reg ?_
  refine sq_p (.int .i64 0) rfl (fun _ => by kernel_rfl) ?_
  refine lnil ?_
  refine thn_n ?_
  refine c_block ?_
  refine c_loop (X := Nat × (Nat → Value)) (fun ⟨i, J0⟩ => ⟨#[.pointer (some ⟨b, 0, none⟩), .agg #[.int .i64 n, .int .i64 g], .int .i64 o, undef, .pointer (some ⟨k1, 0, none⟩), undef, J0 6, .int .i64 (i : Int), J0 8, J0 9, J0 10, J0 11, J0 12, J0 13, J0 14, J0 15, J0 16, J0 17, J0 18, J0 19, J0 20, J0 21, J0 22, J0 23, J0 24, J0 25, J0 26, J0 27, J0 28, J0 29, J0 30, J0 31, J0 32, J0 33, J0 34, J0 35, J0 36, J0 37, J0 38, J0 39], []⟩)
    (fun ⟨i, J0⟩ => [rCell true k1 [.int .i64 n, .int .i64 g] 29, rCell true b [v] 112, rRows true v 222 5 opnC l]) (fun ⟨i, J0⟩ => i ≤ l.length ∧ ∀ j y, j < i → l[j]? = some y → mineP (n, g) o y = false) (fun ⟨i, J0⟩ => l.length - i)
    ⟨0, (fun n => (#[.pointer (some ⟨b, 0, none⟩), .agg #[.int .i64 n, .int .i64 g], .int .i64 o, undef, .pointer (some ⟨k1, 0, none⟩), undef, .int .i64 0, .int .i64 0, undef, undef, undef, undef, undef, undef, undef, undef, undef, undef, undef, undef, undef, undef, undef, undef, undef, undef, undef, undef, undef, undef, undef, undef, undef, undef, undef, undef, undef, undef, undef, undef] : Array Value).getD n undef)⟩ ⟨by omega, fun j y hj => by omega⟩ (by kernel_rfl) [0, 0, 0] (by kernel_rfl) h ?_
  rintro ⟨i, J0⟩ w hG h
  obtain ⟨hi0, hno⟩ : i ≤ l.length ∧ ∀ j y, j < i → l[j]? = some y → mineP (n, g) o y = false := hG
  refine c_seq ?_
  refine c_seq ?_
  refine c_reg ?_
  refine sq_p (.int .i64 (i : Int)) rfl (fun _ => by kernel_rfl) ?_
  refine sq_p (.pointer (some ⟨b, 0, none⟩)) rfl (fun _ => by kernel_rfl) ?_
  refine sq_p (.pointer (some ⟨b, 0, none⟩)) rfl (fun _ => by kernel_rfl) ?_
  refine sq_p (.pointer (some ⟨b, 0, none⟩)) rfl (fun _ => by kernel_rfl) ?_
  refine sq_q rfl h (g_ld 0 [v] (v) (by kernel_rfl) 1 rfl) ?_
  refine sq_q rfl h (g_len (by kernel_rfl) 2 rfl) ?_
  refine sq_p (.bool (decide ((i : Int) < (l.length : Int)))) rfl (fun _ => by kernel_rfl) ?_
  refine lnil ?_
  refine thn_n ?_
  refine c_cond (decide ((i : Int) < (l.length : Int))) (by kernel_rfl) (fun hc2 => ?_) (fun hc2 => ?_)
  · skip
    have hc2 := of_decide_eq_true hc2
    refine c_skip ?_
    refine thn_n ?_
    refine c_seq ?_
    refine c_block ?_
    refine c_seq ?_
    refine d_start 22 [0, 0, 0] (by kernel_rfl) h fun w h => ?_
    refine d_take 0 272 [0, 0, 0] rfl (v := .pointer (some ⟨b, 0, none⟩)) (by kernel_rfl) (qp_thn (qp_blk (qp_thn (qp_rnd (qp_blk (qp_thn qp_body)))))) (yq (by kernel_rfl) (g_pure (v := .pointer (some ⟨b, 0, none⟩)) fun _ => by kernel_rfl)) h (by kernel_rfl) ?_
    refine d_take 1 273 [0, 0, 0] rfl (v := .pointer (some ⟨b, 0, none⟩)) (by kernel_rfl) (qp_thn (qp_blk (qp_thn (qp_rnd (qp_blk (qp_thn qp_body)))))) (yq (by kernel_rfl) (g_pure (v := .pointer (some ⟨b, 0, none⟩)) fun _ => by kernel_rfl)) h (by kernel_rfl) ?_
    refine d_take 2 275 [0, 0, 0] rfl (v := .pointer (some ⟨b, 0, none⟩)) (by kernel_rfl) (qp_thn (qp_blk (qp_thn (qp_rnd (qp_blk (qp_thn qp_body)))))) (yq (by kernel_rfl) (g_pure (v := .pointer (some ⟨b, 0, none⟩)) fun _ => by kernel_rfl)) h (by kernel_rfl) ?_
    refine d_take 3 279 [0, 0, 0] rfl (v := v) (by kernel_rfl) (qp_thn (qp_blk (qp_thn (qp_rnd (qp_blk (qp_thn qp_body)))))) (yq (by kernel_rfl) (g_ld 0 [v] (v) (by kernel_rfl) 1 rfl)) h (by kernel_rfl) ?_
    refine d_take 4 271 [0, 0, 0] rfl (v := .int .i64 (i : Int)) (by kernel_rfl) (qp_thn (qp_blk (qp_thn (qp_rnd (qp_blk (qp_thn qp_body)))))) (yq (by kernel_rfl) (g_pure (v := .int .i64 (i : Int)) fun _ => by kernel_rfl)) h (by kernel_rfl) ?_
    have hi3 : i < l.length := by omega
    obtain ⟨x4, hx5⟩ : ∃ x, l[i]? = some x := ⟨_, List.getElem?_eq_getElem hi3⟩
    refine d_take 5 287 [0, 0, 0] rfl (v := .pointer (some ⟨blkN v, offN v + i * 5, none⟩)) (by kernel_rfl) (qp_thn (qp_blk (qp_thn (qp_rnd (qp_blk (qp_thn qp_body)))))) (yq (by kernel_rfl) (g_idx i (by kernel_rfl) hi3 2 rfl)) h (by kernel_rfl) ?_
    refine d_take 6 319 [0, 0, 0] rfl (v := .pointer (some ⟨blkN v, offN v + i * 5, none⟩)) (by kernel_rfl) (qp_thn (qp_blk (qp_thn (qp_rnd (qp_blk (qp_thn qp_body)))))) (yq (by kernel_rfl) (g_pure (v := .pointer (some ⟨blkN v, offN v + i * 5, none⟩)) fun _ => by kernel_rfl)) h (by kernel_rfl) ?_
    refine d_take 7 383 [0, 0, 0] rfl (v := .agg #[.int .i64 x4.1.1, .int .i64 x4.1.2]) (by kernel_rfl) (qp_thn (qp_blk (qp_thn (qp_rnd (qp_blk (qp_thn qp_body)))))) (yq (by kernel_rfl) (g_ldr (b := blkN v) (offN v + i * 5) [.int .i64 x4.1.1, .int .i64 x4.1.2] (.agg #[.int .i64 x4.1.1, .int .i64 x4.1.2]) (by kernel_rfl) 2 rfl (rdRow0 opnC_len hx5 (by kernel_rfl)))) h (by kernel_rfl) ?_
    refine d_take 8 255 [0, 0, 0] rfl (v := .agg #[.int .i64 n, .int .i64 g]) (by kernel_rfl) (qp_thn (qp_blk (qp_thn (qp_rnd (qp_blk (qp_thn qp_body)))))) (yq (by kernel_rfl) (g_ld 0 [.int .i64 n, .int .i64 g] (.agg #[.int .i64 n, .int .i64 g]) (by kernel_rfl) 0 rfl)) h (by kernel_rfl) ?_
    obtain ⟨b6, hb6⟩ : ∃ b_ : Bool, b_ = ((decide (x4.1.1 = n)) && (decide (x4.1.2 = g))) := ⟨_, rfl⟩
    refine d_take 9 511 [0, 0, 0] rfl (v := .bool b6) (by kernel_rfl) (qp_thn (qp_blk (qp_thn (qp_rnd (qp_blk (qp_thn qp_body)))))) (yq (by kernel_rfl) (by subst hb6; exact g_eqH (by kernel_rfl))) h (by kernel_rfl) ?_
    refine d_take 10 1023 [0, 0, 0] rfl (v := .bool b6) (by kernel_rfl) (qp_thn (qp_blk (qp_thn (qp_rnd (qp_blk (qp_thn qp_body)))))) (yq (by kernel_rfl) (g_pure (v := .bool b6) fun _ => by kernel_rfl)) h (by kernel_rfl) ?_
    refine d_take 11 559103 [0, 0, 0] rfl (by kernel_rfl) (qp_thn (qp_blk (qp_thn (qp_rnd (qp_blk (qp_thn qp_body)))))) (ym1 (v := .pointer (some ⟨b, 0, none⟩)) b6 (by cases b6 <;> kernel_rfl) (fun hB => by subst hB; exact g_pure (v := .pointer (some ⟨b, 0, none⟩)) fun _ => by kernel_rfl)) h (by kernel_rfl) ?_
    refine d_take 12 561151 [0, 0, 0] rfl (by kernel_rfl) (qp_thn (qp_blk (qp_thn (qp_rnd (qp_blk (qp_thn qp_body)))))) (ym1 (v := .pointer (some ⟨b, 0, none⟩)) b6 (by cases b6 <;> kernel_rfl) (fun hB => by subst hB; exact g_pure (v := .pointer (some ⟨b, 0, none⟩)) fun _ => by kernel_rfl)) h (by kernel_rfl) ?_
    refine d_take 13 565247 [0, 0, 0] rfl (by kernel_rfl) (qp_thn (qp_blk (qp_thn (qp_rnd (qp_blk (qp_thn qp_body)))))) (ym1 (v := .pointer (some ⟨b, 0, none⟩)) b6 (by cases b6 <;> kernel_rfl) (fun hB => by subst hB; exact g_pure (v := .pointer (some ⟨b, 0, none⟩)) fun _ => by kernel_rfl)) h (by kernel_rfl) ?_
    refine d_take 14 573439 [0, 0, 0] rfl (by kernel_rfl) (qp_thn (qp_blk (qp_thn (qp_rnd (qp_blk (qp_thn qp_body)))))) (ym1 (v := v) b6 (by cases b6 <;> kernel_rfl) (fun hB => by subst hB; exact g_ld 0 [v] (v) (by kernel_rfl) 1 rfl)) h (by kernel_rfl) ?_
    refine d_take 15 557055 [0, 0, 0] rfl (by kernel_rfl) (qp_thn (qp_blk (qp_thn (qp_rnd (qp_blk (qp_thn qp_body)))))) (ym1 (v := .int .i64 (i : Int)) b6 (by cases b6 <;> kernel_rfl) (fun hB => by subst hB; exact g_pure (v := .int .i64 (i : Int)) fun _ => by kernel_rfl)) h (by kernel_rfl) ?_
    refine d_take 16 589823 [0, 0, 0] rfl (by kernel_rfl) (qp_thn (qp_blk (qp_thn (qp_rnd (qp_blk (qp_thn qp_body)))))) (ym1 (v := .pointer (some ⟨blkN v, offN v + i * 5, none⟩)) b6 (by cases b6 <;> kernel_rfl) (fun hB => by subst hB; exact g_idx i (by kernel_rfl) hi3 2 rfl)) h (by kernel_rfl) ?_
    refine d_take 17 655359 [0, 0, 0] rfl (by kernel_rfl) (qp_thn (qp_blk (qp_thn (qp_rnd (qp_blk (qp_thn qp_body)))))) (ym1 (v := .pointer (some ⟨blkN v, offN v + i * 5 + 2, none⟩)) b6 (by cases b6 <;> kernel_rfl) (fun hB => by subst hB; exact g_pure (v := .pointer (some ⟨blkN v, offN v + i * 5 + 2, none⟩)) fun _ => by kernel_rfl)) h (by kernel_rfl) ?_
    refine d_take 18 786431 [0, 0, 0] rfl (by kernel_rfl) (qp_thn (qp_blk (qp_thn (qp_rnd (qp_blk (qp_thn qp_body)))))) (ym1 (v := .int .i64 x4.2.1) b6 (by cases b6 <;> kernel_rfl) (fun hB => by subst hB; exact g_ldr (b := blkN v) (offN v + i * 5 + 2) [.int .i64 x4.2.1] (.int .i64 x4.2.1) (by kernel_rfl) 2 rfl (rdRow opnC_len hx5 2 (by kernel_rfl)))) h (by kernel_rfl) ?_
    refine d_take 19 524287 [0, 0, 0] rfl (by kernel_rfl) (qp_thn (qp_blk (qp_thn (qp_rnd (qp_blk (qp_thn qp_body)))))) (ym1 (v := .int .i64 o) b6 (by cases b6 <;> kernel_rfl) (fun hB => by subst hB; exact g_pure (v := .int .i64 o) fun _ => by kernel_rfl)) h (by kernel_rfl) ?_
    obtain ⟨b7, hb7⟩ : ∃ b_ : Bool, b_ = (decide (x4.2.1 = o)) := ⟨_, rfl⟩
    refine d_take 20 1048575 [0, 0, 0] rfl (by kernel_rfl) (qp_thn (qp_blk (qp_thn (qp_rnd (qp_blk (qp_thn qp_body)))))) (ym1 (v := .bool b7) b6 (by cases b6 <;> kernel_rfl) (fun hB => by subst hB; exact by subst hb7; exact g_pure (v := .bool (decide (x4.2.1 = o))) fun _ => by kernel_rfl)) h (by kernel_rfl) ?_
    obtain ⟨b8, hb8⟩ : ∃ b_ : Bool, b_ = (b6 && b7) := ⟨_, rfl⟩
    refine d_take 21 2097151 [0, 0, 0] rfl (v := .bool b8) (by kernel_rfl) (qp_thn (qp_blk (qp_thn (qp_rnd (qp_blk (qp_thn qp_body)))))) (yq (by kernel_rfl) (by subst hb8; exact g_pure (v := .bool (b6 && b7)) fun _ => by cases b6 <;> kernel_rfl)) h (by kernel_rfl) ?_
    refine d_done (by kernel_rfl) ?_
    refine thn_n ?_
    have hT : mineP (n, g) o x4 = b8 := by rw [mine_of]; subst hb8 hb7 hb6; simp [Bool.and_assoc]
    refine c_cond (b8) (by kernel_rfl) (fun hc9 => ?_) (fun hc9 => ?_)
    · skip
      have q10 : (b6 && b7) = true := by rw [← hb8]; exact hc9
      have q11 : b6 = true := by revert q10; cases b6 <;> simp
      have q12 : b7 = true := by revert q10; cases b6 <;> cases b7 <;> simp
      have q13 : ((decide (x4.1.1 = n)) && (decide (x4.1.2 = g))) = true := by rw [← hb6]; exact q11
      have q14 : (decide (x4.1.1 = n)) = true := by revert q13; cases (decide (x4.1.1 = n)) <;> simp
      have q15 : (decide (x4.1.2 = g)) = true := by revert q13; cases (decide (x4.1.1 = n)) <;> cases (decide (x4.1.2 = g)) <;> simp
      have q14 := of_decide_eq_true q14
      have q15 := of_decide_eq_true q15
      have q16 : (decide (x4.2.1 = o)) = true := by rw [← hb7]; exact q12
      have q16 := of_decide_eq_true q16
      rw [hc9] at hT
      refine c_seq ?_
      refine c_reg ?_
      refine sq_p (.int .i64 (i : Int)) rfl (fun _ => by kernel_rfl) ?_
      refine sq_p (.int .i64 (i : Int)) rfl (fun _ => by kernel_rfl) ?_
      refine lnil ?_
      refine thn_n ?_
      refine c_ret ?_
      refine blk_r (thn_r (rnd_r (blk_r (thn_r ?_))))
      refine ret_end [.int .i64 (i : Int)] [1, 1] h (by kernel_rfl) (res_t (by kernel_rfl) res_n) ?_
      exact .inl ⟨_, _, idx_some hx5 hT hno, hx5, rfl, rfl⟩
    · skip
      have q17 : (b6 && b7) = false := by rw [← hb8]; exact hc9
      rw [hc9] at hT
      refine c_skip ?_
      refine blk_n (thn_n ?_)
      refine c_reg ?_
      refine sq_p (.int .i64 (i : Int)) rfl (fun _ => by kernel_rfl) ?_
      refine sq_q rfl h (g_eq (v := .int .i64 (IntKind.i64.wrap ((i : Int) + 1))) (v' := .int .i64 ((i + 1 : Nat) : Int)) (g_pure fun _ => by kernel_rfl) (wr (by omega))) ?_
      refine sq_p (.int .i64 ((i + 1 : Nat) : Int)) rfl (fun _ => by kernel_rfl) ?_
      refine lnil ?_
      refine loop_end (fun j => ⟨(i + 1), j⟩) (show ((i + 1) ≤ l.length ∧ ∀ j y, j < (i + 1) → l[j]? = some y → mineP (n, g) o y = false) ∧ (l.length - (i + 1)) < (l.length - i) from ⟨⟨by omega, opn_no hno hx5 hT⟩, by omega⟩) (by kernel_rfl) [0, 0, 0] (by kernel_rfl) h
  · skip
    have hc2 := of_decide_eq_false hc2
    refine c_exit ?_
    refine thn_e (rnd_e (blk_e (thn_n ?_)))
    refine c_seq ?_
    refine c_reg ?_
    refine sq_p (.int .i64 (-1)) rfl (fun _ => by kernel_rfl) ?_
    refine lnil ?_
    refine thn_n ?_
    refine c_ret ?_
    refine ret_end [.int .i64 (-1)] [1, 1] h (by kernel_rfl) (res_t (by kernel_rfl) res_n) ?_
    exact .inr ⟨idx_none (fun j y hj => hno j y (by omega)), rfl, rfl⟩
end Go.Proofs.YtofhnglgebllbaaDoor
