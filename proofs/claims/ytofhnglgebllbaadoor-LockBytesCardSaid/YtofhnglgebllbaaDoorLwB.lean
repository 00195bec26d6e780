/- locklaw: contracts by what is owned (printed by walk.py). -/
import Derived.Test.YtofhnglgebllbaaDoorLwA
namespace Go.Proofs.YtofhnglgebllbaaDoor
open Go.RowKit
set_option linter.unusedVariables false
set_option linter.unusedSimpArgs false
set_option maxRecDepth 100000

theorem lk_get {l : List Run} {i : Nat} {x : Run} (hx : (l.map lkT)[i]? = some x) : ∃ y, l[i]? = some y ∧ x = lkT y := by
  rw [List.getElem?_map] at hx
  cases hy : l[i]? with
  | none => rw [hy] at hx; cases hx
  | some y => rw [hy] at hx; cases hx; exact ⟨y, rfl, rfl⟩
theorem pw_at {α : Type} {R : α → α → Prop} {l : List α} (h : l.Pairwise R) (hs : ∀ a b, R a b → R b a) {i k : Nat} {x y : α} (hi : l[i]? = some x) (hk : l[k]? = some y) (hne : i ≠ k) : R x y := by
  rw [List.pairwise_iff_getElem] at h
  obtain ⟨hi1, rfl⟩ := List.getElem?_eq_some_iff.1 hi
  obtain ⟨hk1, rfl⟩ := List.getElem?_eq_some_iff.1 hk
  rcases Nat.lt_or_gt_of_ne hne with c | c
  · exact h i k hi1 hk1 c
  · exact hs _ _ (h k i hk1 hi1 c)
/-- A lock's numbers. -/
def LkB (x : Run) : Prop := 0 ≤ x.2.2.1 ∧ x.2.2.1 ≤ 2199023255552 ∧ 0 ≤ x.2.2.2.1 ∧ x.2.2.2.1 ≤ 2199023255552
theorem lkB {y : Run} (h : BndR y) : LkB (lkT y) := by
  obtain ⟨h1, h2, h3, h4⟩ := h
  unfold LkB lkT
  dsimp only
  split <;> omega
theorem lk_meet {l : List Run} (hk : RunsOk l) {i k : Nat} {x y : Run} (hi : (l.map lkT)[i]? = some x) (hj : (l.map lkT)[k]? = some y) (hne : i ≠ k) (h1 : y.1.1 = x.1.1) (h2 : y.1.2 = x.1.2)
    (b1 : ¬ (y.2.2.2.1 > 0 ∧ x.2.2.1 ≥ y.2.2.1 + y.2.2.2.1)) (b2 : ¬ (x.2.2.2.1 > 0 ∧ y.2.2.1 ≥ x.2.2.1 + x.2.2.2.1)) : ¬ y.2.1 = x.2.1 ∧ y.2.2.2.2 = false ∧ x.2.2.2.2 = false := by
  obtain ⟨x', hx, rfl⟩ := lk_get hi
  obtain ⟨y', hy, rfl⟩ := lk_get hj
  have bx := hk.bnd _ (List.mem_of_getElem? hx)
  have by_ := hk.bnd _ (List.mem_of_getElem? hy)
  have hm := pw_at hk.meet (fun a b h => h.symm) hx hy hne
  unfold BndR at bx by_
  unfold lkT at *
  dsimp only at *
  have e : x'.1 = y'.1 := Prod.ext h1.symm h2.symm
  obtain ⟨q1, q2, q3⟩ := hm e (by revert b1 b2; split <;> split <;> omega) (by revert b1 b2; split <;> split <;> omega)
  exact ⟨fun e => q1 e.symm, q3, q2⟩
theorem lk_apart {l : List Run} (hk : RunsOk l) {i k : Nat} {x y : Run} (hi : (l.map lkT)[i]? = some x) (hj : (l.map lkT)[k]? = some y) (hne : i ≠ k) (h0 : y.2.2.2.1 > 0) (ht : y.2.2.1 + y.2.2.2.1 = x.2.2.1) (h1 : y.1.1 = x.1.1) (h2 : y.1.2 = x.1.2) (h3 : y.2.1 = x.2.1) (h4 : y.2.2.2.2 = x.2.2.2.2) : False := by
  obtain ⟨x', hx, rfl⟩ := lk_get hi
  obtain ⟨y', hy, rfl⟩ := lk_get hj
  have bx := hk.bnd _ (List.mem_of_getElem? hx)
  have by_ := hk.bnd _ (List.mem_of_getElem? hy)
  have hm := pw_at hk.apart (fun a b h => h.symm) hx hy hne
  unfold BndR at bx by_
  unfold lkT at *
  dsimp only at *
  have e : x'.1 = y'.1 := Prod.ext h1.symm h2.symm
  have := (hm e h3.symm h4.symm).2
  revert h0 ht
  split
  · omega
  · intro _ _; omega

set_option maxHeartbeats 1000000 in
theorem behind_spec (a s b t : Int) (hb : -9223372036854775808 ≤ b + t ∧ b + t ≤ 9223372036854775807) : Spec Tryd.prog 55 #[.agg #[.int .i64 a, .int .i64 s], .agg #[.int .i64 b, .int .i64 t]] [] (fun u L => u = .bool (decide (t > 0) && decide (a ≥ b + t)) ∧ L = []) := by
  have hb1 := hb.1
  have hb2 := hb.2
  refine spec_of (#[.agg #[.int .i64 a, .int .i64 s], .agg #[.int .i64 b, .int .i64 t], undef, undef, undef, undef, undef, undef, undef, undef, undef, undef, undef, undef, undef, undef, undef, undef]) Tryd.func55 rfl (by kernel_rfl) fun E w0 w h => ?_
  refine c_seq ?_
  refine c_reg ?_
  refine sq_new rfl (fun b => .pointer (some ⟨b, 0, none⟩)) [.int .i64 a, .int .i64 s] 95 (fun _ => by kernel_rfl) h ?_; intro k1 w h
  refine sq_new rfl (fun b => .pointer (some ⟨b, 0, none⟩)) [.int .i64 b, .int .i64 t] 95 (fun _ => by kernel_rfl) h ?_; intro k2 w h
  refine sq_p (.bool false) rfl (fun _ => by kernel_rfl) ?_
  refine lnil ?_
  refine thn_n ?_
  refine c_seq ?_
  refine c_reg ?_
  refine sq_p (.pointer (some ⟨k2, 1, none⟩)) rfl (fun _ => by kernel_rfl) ?_
  refine sq_q rfl h (g_ld 1 [.int .i64 t] (.int .i64 t) (by kernel_rfl) 0 rfl) ?_
  obtain ⟨b3, hb3⟩ : ∃ b_ : Bool, b_ = (decide (t > 0)) := ⟨_, rfl⟩
  refine sq_q (v := .bool b3) rfl h (by subst hb3; exact g_pure (v := .bool (decide (t > 0))) fun _ => by kernel_rfl) ?_
  refine sq_p (.bool b3) rfl (fun _ => by kernel_rfl) ?_
  refine sq_m1 (v := .pointer (some ⟨k1, 0, none⟩)) b3 (by cases b3 <;> kernel_rfl) h (fun hB => by subst hB; exact g_pure (v := .pointer (some ⟨k1, 0, none⟩)) fun _ => by kernel_rfl) ?_
  refine sq_m1 (v := .int .i64 a) b3 (by cases b3 <;> kernel_rfl) h (fun hB => by subst hB; exact g_ld 0 [.int .i64 a] (.int .i64 a) (by kernel_rfl) 1 rfl) ?_
  refine sq_m1 (v := .pointer (some ⟨k2, 0, none⟩)) b3 (by cases b3 <;> kernel_rfl) h (fun hB => by subst hB; exact g_pure (v := .pointer (some ⟨k2, 0, none⟩)) fun _ => by kernel_rfl) ?_
  refine sq_m1 (v := .int .i64 b) b3 (by cases b3 <;> kernel_rfl) h (fun hB => by subst hB; exact g_ld 0 [.int .i64 b] (.int .i64 b) (by kernel_rfl) 0 rfl) ?_
  refine sq_m1 (v := .pointer (some ⟨k2, 1, none⟩)) b3 (by cases b3 <;> kernel_rfl) h (fun hB => by subst hB; exact g_pure (v := .pointer (some ⟨k2, 1, none⟩)) fun _ => by kernel_rfl) ?_
  refine sq_m1 (v := .int .i64 t) b3 (by cases b3 <;> kernel_rfl) h (fun hB => by subst hB; exact g_ld 1 [.int .i64 t] (.int .i64 t) (by kernel_rfl) 0 rfl) ?_
  refine sq_m1 (v := .int .i64 (b + t)) b3 (by cases b3 <;> kernel_rfl) h (fun hB => by subst hB; exact g_eq (v := .int .i64 (IntKind.i64.wrap (b + t))) (v' := .int .i64 (b + t)) (g_pure fun _ => by kernel_rfl) (wr (by omega))) ?_
  obtain ⟨b4, hb4⟩ : ∃ b_ : Bool, b_ = (decide (a ≥ b + t)) := ⟨_, rfl⟩
  refine sq_m1 (v := .bool b4) b3 (by cases b3 <;> kernel_rfl) h (fun hB => by subst hB; exact by subst hb4; exact g_pure (v := .bool (decide (a ≥ b + t))) fun _ => by kernel_rfl) ?_
  obtain ⟨b5, hb5⟩ : ∃ b_ : Bool, b_ = (b3 && b4) := ⟨_, rfl⟩
  refine sq_q (v := .bool b5) rfl h (by subst hb5; exact g_pure (v := .bool (b3 && b4)) fun _ => by cases b3 <;> kernel_rfl) ?_
  refine sq_p (.bool b5) rfl (fun _ => by kernel_rfl) ?_
  refine lnil ?_
  refine thn_n ?_
  refine c_ret ?_
  refine ret_end [.bool b5] [] h (by kernel_rfl) (res_t (by kernel_rfl) res_n) ?_
  exact ⟨by subst hb5 hb4 hb3; rfl, rfl⟩
set_option maxHeartbeats 1000000 in
theorem lockSound_spec {B : Nat} (ad : Nat → Addr) (v : Value) (acts : List LAct) : Spec Tryd.prog 7 #[v] [rArg v 7 lactC acts, rEnv B ad [2, 9, 11]] (fun u L => u = .bool true ∧ L = [rArg v 7 lactC acts, rEnv B ad [2, 9, 11]]) := by
  refine spec_of (#[v, undef, undef, undef, undef, undef, undef, undef, undef, undef, undef, undef, undef, undef, undef, undef, undef, undef, undef, undef, undef, undef, undef, undef, undef, undef, undef, undef, undef, undef, undef, undef, undef, undef, undef, undef, undef, undef, undef, undef, undef, undef, undef, undef, undef, undef, undef, undef, undef, undef, undef, undef, undef, undef, undef, undef, undef, undef, undef, undef, undef, undef, undef, undef, undef, undef, undef, undef, undef, undef, undef, undef, undef, undef, undef, undef, undef, undef, undef, undef, undef, undef, undef, undef, undef, undef, undef, undef, undef, undef, undef, undef, undef, undef, undef, undef, undef, undef, undef, undef, undef, undef, undef, undef, undef, undef, undef, undef, undef, undef, undef, undef, undef, undef, undef, undef, undef, undef, undef, undef, undef, undef, undef, undef, undef, undef, undef, undef, undef, undef, undef, undef, undef, undef, undef, undef, undef, undef, undef, undef, undef, undef, undef, undef, undef, undef, undef, undef, undef, undef, undef, undef, undef, undef, undef, undef, undef, undef, undef, undef, undef, undef, undef, undef, undef, undef, undef, undef, undef, undef, undef, undef, undef, undef, undef, undef, undef, undef, undef, undef, undef, undef, undef, undef, undef, undef, undef, undef, undef, undef, undef, undef, undef, undef, undef, undef, undef, undef, undef, undef, undef, undef, undef, undef, undef, undef, undef, undef, undef, undef, undef, undef, undef, undef, undef, undef, undef, undef, undef, undef, undef, undef, undef, undef, undef, undef]) Tryd.func7 rfl (by kernel_rfl) fun E w0 w h => ?_
  refine c_seq ?_
  refine c_reg ?_
  refine sq_p (.bool false) rfl (fun _ => by kernel_rfl) ?_
  refine lnil ?_
  refine thn_n ?_
  refine c_seq ?_
  refine c_reg ?_
  refine sq_call #[] [1] rfl (held_spec ad) (fun _ => by kernel_rfl) h ?_; rintro v_ L_ w ⟨rfl, rfl⟩ h
  refine sq_p (.bool true) rfl (fun _ => by kernel_rfl) ?_
  refine lnil ?_
  refine thn_n ?_
  refine c_seq ?_
  refine c_seq ?_
  refine c_reg ?_
  refine sq_p (.bool true) rfl (fun _ => by kernel_rfl) ?_
  refine sq_p (.bool false) rfl (fun _ => by kernel_rfl) ?_
  refine sq_p (.bool false) rfl (fun _ => by kernel_rfl) ?_
  refine sq_p (v) (by kernel_rfl) (fun _ => by kernel_rfl) ?_
  refine sq_q (by kernel_rfl) h (g_lenA 97 (by kernel_rfl) 1 rfl) ?_
  obtain ⟨b1, hb1⟩ : ∃ b_ : Bool, b_ = (decide ((acts.length : Int) > 40)) := ⟨_, rfl⟩
  refine sq_q (v := .bool b1) (by kernel_rfl) h (by subst hb1; exact g_pure (v := .bool (decide ((acts.length : Int) > 40))) fun _ => by kernel_rfl) ?_
  refine sq_p (.bool b1) rfl (fun _ => by kernel_rfl) ?_
  refine lnil ?_
  refine thn_n ?_
  refine c_cond (b1) (by kernel_rfl) (fun hc2 => ?_) (fun hc2 => ?_)
  · skip
    have q3 : (decide ((acts.length : Int) > 40)) = true := by rw [← hb1]; exact hc2
    have q3 := of_decide_eq_true q3
    refine c_seq ?_
    refine c_reg ?_
    refine sq_p (.bool true) rfl (fun _ => by kernel_rfl) ?_
    refine sq_p (.bool true) rfl (fun _ => by kernel_rfl) ?_
    refine lnil ?_
    refine thn_n ?_
    refine c_ret ?_
    refine thn_r ?_
    refine ret_end [.bool true] [1, 0] h (by kernel_rfl) (res_t (by kernel_rfl) res_n) ?_
    exact ⟨rfl, rfl⟩
  · skip
    have q4 : (decide ((acts.length : Int) > 40)) = false := by rw [← hb1]; exact hc2
    have q4 := of_decide_eq_false q4
    refine c_skip ?_
    refine thn_n ?_
    refine c_seq ?_
    refine c_reg ?_
    refine sq_p (.agg #[.slice none 0 0]) rfl (fun _ => by kernel_rfl) ?_
    refine sq_new rfl (fun b => .pointer (some ⟨b, 0, none⟩)) [.slice none 0 0] 93 (fun _ => by kernel_rfl) h ?_; intro k5 w h
    refine sq_p (.pointer (some ⟨k5, 0, none⟩)) rfl (fun _ => by kernel_rfl) ?_
    refine lnil ?_
    refine thn_n ?_
    refine c_seq ?_
    refine c_seq ?_
    refine c_reg ?_
    refine sq_p (.int .i64 0) rfl (fun _ => by kernel_rfl) ?_
    refine lnil ?_
    refine thn_n ?_
    refine c_block ?_
    have h := h.nilRows 217 6 runC
    refine c_loop (X := Nat × List Run × Value × (Nat → Value)) (fun ⟨n0, lt, vt, J0⟩ => ⟨#[v, undef, .bool false, .bool true, .pointer (some ⟨k5, 0, none⟩), .int .i64 (n0 : Int), J0 6, undef, undef, undef, undef, undef, .bool true, .bool true, .bool false, .bool false, v, .int .i64 (acts.length : Int), .bool b1, .bool b1, undef, .agg #[.slice none 0 0], .pointer (some ⟨k5, 0, none⟩), J0 23, J0 24, J0 25, J0 26, J0 27, J0 28, J0 29, J0 30, J0 31, J0 32, J0 33, J0 34, J0 35, J0 36, J0 37, J0 38, J0 39, J0 40, J0 41, J0 42, J0 43, J0 44, J0 45, J0 46, J0 47, J0 48, J0 49, J0 50, J0 51, J0 52, J0 53, J0 54, J0 55, J0 56, J0 57, J0 58, J0 59, J0 60, J0 61, J0 62, J0 63, J0 64, J0 65, J0 66, J0 67, undef, undef, undef, undef, undef, undef, undef, undef, undef, undef, undef, undef, undef, undef, undef, undef, undef, undef, undef, undef, undef, undef, undef, undef, undef, undef, undef, undef, undef, undef, undef, undef, undef, undef, undef, undef, undef, undef, undef, undef, undef, undef, undef, undef, undef, undef, undef, undef, undef, undef, undef, undef, undef, undef, undef, undef, undef, undef, undef, undef, undef, undef, undef, undef, undef, undef, undef, undef, undef, undef, undef, undef, undef, undef, undef, undef, undef, undef, undef, undef, undef, undef, undef, undef, undef, undef, undef, undef, undef, undef, undef, undef, undef, undef, undef, undef, undef, undef, undef, undef, undef, undef, undef, undef, undef, undef, undef, undef, undef, undef, undef, undef, undef, undef, undef, undef, undef, undef, undef, undef, undef, undef, undef, undef, undef, undef, undef, undef, undef, undef, undef, undef, undef, undef, undef, undef, undef, undef, undef, undef, undef, undef, undef, undef, undef, undef, undef, undef, undef, undef, undef, undef, undef, undef, undef, undef, undef, undef], []⟩)
      (fun ⟨n0, lt, vt, J0⟩ => [rRows true vt 217 6 runC lt, rCell true k5 [vt] 93, rEnv B ad [2, 9, 11], rArg v 7 lactC acts]) (fun ⟨n0, lt, vt, J0⟩ => n0 ≤ acts.length ∧ TabOk lt) (fun ⟨n0, lt, vt, J0⟩ => acts.length - n0)
      ⟨0, [], (.slice none 0 0), (fun n => (#[v, undef, .bool false, .bool true, .pointer (some ⟨k5, 0, none⟩), .int .i64 0, undef, undef, undef, undef, undef, undef, .bool true, .bool true, .bool false, .bool false, v, .int .i64 (acts.length : Int), .bool b1, .bool b1, undef, .agg #[.slice none 0 0], .pointer (some ⟨k5, 0, none⟩), undef, undef, undef, undef, undef, undef, undef, undef, undef, undef, undef, undef, undef, undef, undef, undef, undef, undef, undef, undef, undef, undef, undef, undef, undef, undef, undef, undef, undef, undef, undef, undef, undef, undef, undef, undef, undef, undef, undef, undef, undef, undef, undef, undef, undef, undef, undef, undef, undef, undef, undef, undef, undef, undef, undef, undef, undef, undef, undef, undef, undef, undef, undef, undef, undef, undef, undef, undef, undef, undef, undef, undef, undef, undef, undef, undef, undef, undef, undef, undef, undef, undef, undef, undef, undef, undef, undef, undef, undef, undef, undef, undef, undef, undef, undef, undef, undef, undef, undef, undef, undef, undef, undef, undef, undef, undef, undef, undef, undef, undef, undef, undef, undef, undef, undef, undef, undef, undef, undef, undef, undef, undef, undef, undef, undef, undef, undef, undef, undef, undef, undef, undef, undef, undef, undef, undef, undef, undef, undef, undef, undef, undef, undef, undef, undef, undef, undef, undef, undef, undef, undef, undef, undef, undef, undef, undef, undef, undef, undef, undef, undef, undef, undef, undef, undef, undef, undef, undef, undef, undef, undef, undef, undef, undef, undef, undef, undef, undef, undef, undef, undef, undef, undef, undef, undef, undef, undef, undef, undef, undef, undef, undef, undef, undef, undef, undef, undef, undef, undef, undef, undef, undef, undef] : Array Value).getD n undef)⟩ ⟨by omega, tabOk_nil⟩ (by kernel_rfl) [0, 0, 0, 0] (by kernel_rfl) h ?_
    rintro ⟨n0, lt, vt, J0⟩ w hG h
    obtain ⟨hk, hT0⟩ : n0 ≤ acts.length ∧ TabOk lt := hG
    refine c_seq ?_
    refine c_seq ?_
    refine c_reg ?_
    refine sq_p (.int .i64 (n0 : Int)) rfl (fun _ => by kernel_rfl) ?_
    refine sq_p (v) rfl (fun _ => by kernel_rfl) ?_
    refine sq_q rfl h (g_lenA 97 (by kernel_rfl) 3 rfl) ?_
    refine sq_p (.bool (decide ((n0 : Int) < (acts.length : Int)))) rfl (fun _ => by kernel_rfl) ?_
    refine lnil ?_
    refine thn_n ?_
    refine c_cond (decide ((n0 : Int) < (acts.length : Int))) (by kernel_rfl) (fun hc6 => ?_) (fun hc6 => ?_)
    · skip
      have hc6 := of_decide_eq_true hc6
      refine c_skip ?_
      refine thn_n ?_
      refine c_seq ?_
      refine c_block ?_
      refine c_seq ?_
      refine c_reg ?_
      refine sq_p (v) rfl (fun _ => by kernel_rfl) ?_
      refine sq_p (.int .i64 (n0 : Int)) rfl (fun _ => by kernel_rfl) ?_
      have hi7 : n0 < acts.length := by omega
      obtain ⟨x8, hx9⟩ : ∃ x, acts[n0]? = some x := ⟨_, List.getElem?_eq_getElem hi7⟩
      refine sq_q rfl h (g_idxA 97 n0 (by kernel_rfl) hi7 3 rfl) ?_
      refine sq_q rfl h (g_ldr (b := blkN v) (offN v + n0 * 7) [.string x8.1, .int .i64 x8.2.1.1, .int .i64 x8.2.1.2.1, .int .i64 x8.2.2.1, .int .i64 x8.2.2.2.1.1, .int .i64 x8.2.2.2.1.2.1, .bool x8.2.2.2.2.1] (.agg #[.string x8.1, .int .i64 x8.2.1.1, .int .i64 x8.2.1.2.1, .int .i64 x8.2.2.1, .int .i64 x8.2.2.2.1.1, .int .i64 x8.2.2.2.1.2.1, .bool x8.2.2.2.2.1]) (by kernel_rfl) 3 rfl (rdArg0 hx9 (by kernel_rfl))) ?_
      refine sq_new rfl (fun b => .pointer (some ⟨b, 0, none⟩)) [.string (⟨#[]⟩ : ByteArray), .int .i64 0, .int .i64 0, .int .i64 0, .int .i64 0, .int .i64 0, .bool false] 97 (fun _ => by kernel_rfl) h ?_; intro k10 w h
      refine sq_st rfl 0 [.string x8.1, .int .i64 x8.2.1.1, .int .i64 x8.2.1.2.1, .int .i64 x8.2.2.1, .int .i64 x8.2.2.2.1.1, .int .i64 x8.2.2.2.1.2.1, .bool x8.2.2.2.2.1] [.string x8.1, .int .i64 x8.2.1.1, .int .i64 x8.2.1.2.1, .int .i64 x8.2.2.1, .int .i64 x8.2.2.2.1.1, .int .i64 x8.2.2.2.1.2.1, .bool x8.2.2.2.2.1] h 0 rfl (by kernel_rfl) ?_; intro w h
      refine lnil ?_
      refine thn_n ?_
      refine c_seq ?_
      refine c_reg ?_
      refine sq_p (.pointer (some ⟨k10, 0, none⟩)) rfl (fun _ => by kernel_rfl) ?_
      refine sq_q rfl h (g_ld 0 [.string x8.1] (.string x8.1) (by kernel_rfl) 0 rfl) ?_
      refine lnil ?_
      refine thn_n ?_
      refine c_block ?_
      refine c_seq ?_
      refine c_reg ?_
      refine sq_q rfl h (g_eq (v := .bool (x8.1.toList == (⟨#[108, 111, 99, 107]⟩ : ByteArray).toList)) (v' := .bool (decide (x8.1 = (⟨#[108, 111, 99, 107]⟩ : ByteArray)))) (g_pure fun _ => by kernel_rfl) beqS) ?_
      refine sq_p (.bool (decide (x8.1 = (⟨#[108, 111, 99, 107]⟩ : ByteArray)))) rfl (fun _ => by kernel_rfl) ?_
      refine lnil ?_
      refine thn_n ?_
      refine c_cond (decide (x8.1 = (⟨#[108, 111, 99, 107]⟩ : ByteArray))) (by kernel_rfl) (fun hc11 => ?_) (fun hc11 => ?_)
      · skip
        have hc11 := of_decide_eq_true hc11
        refine c_reg ?_
        refine sq_p (.pointer (some ⟨k5, 0, none⟩)) rfl (fun _ => by kernel_rfl) ?_
        refine sq_p (.pointer (some ⟨k10, 1, none⟩)) rfl (fun _ => by kernel_rfl) ?_
        refine sq_q rfl h (g_ld 1 [.int .i64 x8.2.1.1, .int .i64 x8.2.1.2.1] (.agg #[.int .i64 x8.2.1.1, .int .i64 x8.2.1.2.1]) (by kernel_rfl) 0 rfl) ?_
        refine sq_p (.pointer (some ⟨k10, 3, none⟩)) rfl (fun _ => by kernel_rfl) ?_
        refine sq_q rfl h (g_ld 3 [.int .i64 x8.2.2.1] (.int .i64 x8.2.2.1) (by kernel_rfl) 0 rfl) ?_
        refine sq_p (.pointer (some ⟨k10, 4, none⟩)) rfl (fun _ => by kernel_rfl) ?_
        refine sq_q rfl h (g_ld 4 [.int .i64 x8.2.2.2.1.1, .int .i64 x8.2.2.2.1.2.1] (.agg #[.int .i64 x8.2.2.2.1.1, .int .i64 x8.2.2.2.1.2.1]) (by kernel_rfl) 0 rfl) ?_
        refine sq_p (.pointer (some ⟨k10, 6, none⟩)) rfl (fun _ => by kernel_rfl) ?_
        refine sq_q rfl h (g_ld 6 [.bool x8.2.2.2.2.1] (.bool x8.2.2.2.2.1) (by kernel_rfl) 0 rfl) ?_
        refine sq_call #[.pointer (some ⟨k5, 0, none⟩), .agg #[.int .i64 x8.2.1.1, .int .i64 x8.2.1.2.1], .int .i64 x8.2.2.1, .agg #[.int .i64 x8.2.2.2.1.1, .int .i64 x8.2.2.2.1.2.1], .bool x8.2.2.2.2.1] [2, 1, 1] rfl (lockm_spec ad k5 vt lt x8.2.1.1 x8.2.1.2.1 x8.2.2.1 x8.2.2.2.1.1 x8.2.2.2.1.2.1 x8.2.2.2.2.1 hT0.1.bnd hT0.small) (fun _ => by kernel_rfl) h ?_; rintro v_ L_ w (⟨hq12, rfl, rfl⟩ | ⟨x14, hq12, hq13, rfl, rfl⟩ | ⟨hq12, hq13, l15, hp16, ho17, ⟨hq18, rfl, rfl⟩ | ⟨hq18, v19, rfl, rfl⟩⟩) h
        · skip
          refine sq_p (.tuple #[.agg #[.int .i64 0, .int .i64 0, .int .i64 0, .int .i64 0, .int .i64 0, .bool false], errV ad 2]) rfl (fun _ => by kernel_rfl) ?_
          refine sq_p (.agg #[.int .i64 0, .int .i64 0, .int .i64 0, .int .i64 0, .int .i64 0, .bool false]) rfl (fun _ => by kernel_rfl) ?_
          refine sq_p (errV ad 2) rfl (fun _ => by kernel_rfl) ?_
          refine lnil ?_
          refine blk_n (blk_n (thn_n ?_))
          refine c_reg ?_
          refine sq_p (.int .i64 (n0 : Int)) rfl (fun _ => by kernel_rfl) ?_
          refine sq_q rfl h (g_eq (v := .int .i64 (IntKind.i64.wrap ((n0 : Int) + 1))) (v' := .int .i64 ((n0 + 1 : Nat) : Int)) (g_pure fun _ => by kernel_rfl) (wr (by omega))) ?_
          refine sq_p (.int .i64 ((n0 + 1 : Nat) : Int)) rfl (fun _ => by kernel_rfl) ?_
          refine lnil ?_
          refine loop_end (fun j => ⟨(n0 + 1), lt, vt, j⟩) (show ((n0 + 1) ≤ acts.length ∧ TabOk lt) ∧ (acts.length - (n0 + 1)) < (acts.length - n0) from ⟨⟨by omega, hT0⟩, by omega⟩) (by kernel_rfl) [1, 0, 0, 1] (by kernel_rfl) h
        · skip
          refine sq_p (.tuple #[.agg #[.int .i64 x14.1.1, .int .i64 x14.1.2, .int .i64 x14.2.1, .int .i64 x14.2.2.1, .int .i64 (if x14.2.2.2.1 = 1152921504606846976 then 0 else x14.2.2.2.1 - x14.2.2.1), .bool x14.2.2.2.2], errV ad 11]) rfl (fun _ => by kernel_rfl) ?_
          refine sq_p (.agg #[.int .i64 x14.1.1, .int .i64 x14.1.2, .int .i64 x14.2.1, .int .i64 x14.2.2.1, .int .i64 (if x14.2.2.2.1 = 1152921504606846976 then 0 else x14.2.2.2.1 - x14.2.2.1), .bool x14.2.2.2.2]) rfl (fun _ => by kernel_rfl) ?_
          refine sq_p (errV ad 11) rfl (fun _ => by kernel_rfl) ?_
          refine lnil ?_
          refine blk_n (blk_n (thn_n ?_))
          refine c_reg ?_
          refine sq_p (.int .i64 (n0 : Int)) rfl (fun _ => by kernel_rfl) ?_
          refine sq_q rfl h (g_eq (v := .int .i64 (IntKind.i64.wrap ((n0 : Int) + 1))) (v' := .int .i64 ((n0 + 1 : Nat) : Int)) (g_pure fun _ => by kernel_rfl) (wr (by omega))) ?_
          refine sq_p (.int .i64 ((n0 + 1 : Nat) : Int)) rfl (fun _ => by kernel_rfl) ?_
          refine lnil ?_
          refine loop_end (fun j => ⟨(n0 + 1), lt, vt, j⟩) (show ((n0 + 1) ≤ acts.length ∧ TabOk lt) ∧ (acts.length - (n0 + 1)) < (acts.length - n0) from ⟨⟨by omega, hT0⟩, by omega⟩) (by kernel_rfl) [1, 0, 0, 1] (by kernel_rfl) h
        · skip
          refine sq_p (.tuple #[.agg #[.int .i64 0, .int .i64 0, .int .i64 0, .int .i64 0, .int .i64 0, .bool false], errV ad 9]) rfl (fun _ => by kernel_rfl) ?_
          refine sq_p (.agg #[.int .i64 0, .int .i64 0, .int .i64 0, .int .i64 0, .int .i64 0, .bool false]) rfl (fun _ => by kernel_rfl) ?_
          refine sq_p (errV ad 9) rfl (fun _ => by kernel_rfl) ?_
          refine lnil ?_
          refine blk_n (blk_n (thn_n ?_))
          refine c_reg ?_
          refine sq_p (.int .i64 (n0 : Int)) rfl (fun _ => by kernel_rfl) ?_
          refine sq_q rfl h (g_eq (v := .int .i64 (IntKind.i64.wrap ((n0 : Int) + 1))) (v' := .int .i64 ((n0 + 1 : Nat) : Int)) (g_pure fun _ => by kernel_rfl) (wr (by omega))) ?_
          refine sq_p (.int .i64 ((n0 + 1 : Nat) : Int)) rfl (fun _ => by kernel_rfl) ?_
          refine lnil ?_
          refine loop_end (fun j => ⟨(n0 + 1), lt, vt, j⟩) (show ((n0 + 1) ≤ acts.length ∧ TabOk lt) ∧ (acts.length - (n0 + 1)) < (acts.length - n0) from ⟨⟨by omega, hT0⟩, by omega⟩) (by kernel_rfl) [1, 0, 0, 1] (by kernel_rfl) h
        · skip
          have hTl15 : TabOk (joinL l15) := hT0.lock hq12 hq13 hp16 ho17 hq18
          refine sq_p (.tuple #[.agg #[.int .i64 0, .int .i64 0, .int .i64 0, .int .i64 0, .int .i64 0, .bool false], .nilIface]) rfl (fun _ => by kernel_rfl) ?_
          refine sq_p (.agg #[.int .i64 0, .int .i64 0, .int .i64 0, .int .i64 0, .int .i64 0, .bool false]) rfl (fun _ => by kernel_rfl) ?_
          refine sq_p (.nilIface) rfl (fun _ => by kernel_rfl) ?_
          refine lnil ?_
          refine blk_n (blk_n (thn_n ?_))
          refine c_reg ?_
          refine sq_p (.int .i64 (n0 : Int)) rfl (fun _ => by kernel_rfl) ?_
          refine sq_q rfl h (g_eq (v := .int .i64 (IntKind.i64.wrap ((n0 : Int) + 1))) (v' := .int .i64 ((n0 + 1 : Nat) : Int)) (g_pure fun _ => by kernel_rfl) (wr (by omega))) ?_
          refine sq_p (.int .i64 ((n0 + 1 : Nat) : Int)) rfl (fun _ => by kernel_rfl) ?_
          refine lnil ?_
          refine loop_end (fun j => ⟨(n0 + 1), joinL l15, v19, j⟩) (show ((n0 + 1) ≤ acts.length ∧ TabOk (joinL l15)) ∧ (acts.length - (n0 + 1)) < (acts.length - n0) from ⟨⟨by omega, hTl15⟩, by omega⟩) (by kernel_rfl) [1, 0, 0, 1] (by kernel_rfl) h
      · skip
        have hc11 := of_decide_eq_false hc11
        refine c_seq ?_
        refine c_reg ?_
        refine sq_q rfl h (g_eq (v := .bool (x8.1.toList == (⟨#[117, 110, 108, 111, 99, 107]⟩ : ByteArray).toList)) (v' := .bool (decide (x8.1 = (⟨#[117, 110, 108, 111, 99, 107]⟩ : ByteArray)))) (g_pure fun _ => by kernel_rfl) beqS) ?_
        refine sq_p (.bool (decide (x8.1 = (⟨#[117, 110, 108, 111, 99, 107]⟩ : ByteArray)))) rfl (fun _ => by kernel_rfl) ?_
        refine lnil ?_
        refine thn_n ?_
        refine c_cond (decide (x8.1 = (⟨#[117, 110, 108, 111, 99, 107]⟩ : ByteArray))) (by kernel_rfl) (fun hc20 => ?_) (fun hc20 => ?_)
        · skip
          have hc20 := of_decide_eq_true hc20
          refine c_reg ?_
          refine sq_p (.pointer (some ⟨k5, 0, none⟩)) rfl (fun _ => by kernel_rfl) ?_
          refine sq_p (.pointer (some ⟨k10, 1, none⟩)) rfl (fun _ => by kernel_rfl) ?_
          refine sq_q rfl h (g_ld 1 [.int .i64 x8.2.1.1, .int .i64 x8.2.1.2.1] (.agg #[.int .i64 x8.2.1.1, .int .i64 x8.2.1.2.1]) (by kernel_rfl) 0 rfl) ?_
          refine sq_p (.pointer (some ⟨k10, 3, none⟩)) rfl (fun _ => by kernel_rfl) ?_
          refine sq_q rfl h (g_ld 3 [.int .i64 x8.2.2.1] (.int .i64 x8.2.2.1) (by kernel_rfl) 0 rfl) ?_
          refine sq_p (.pointer (some ⟨k10, 4, none⟩)) rfl (fun _ => by kernel_rfl) ?_
          refine sq_q rfl h (g_ld 4 [.int .i64 x8.2.2.2.1.1, .int .i64 x8.2.2.2.1.2.1] (.agg #[.int .i64 x8.2.2.2.1.1, .int .i64 x8.2.2.2.1.2.1]) (by kernel_rfl) 0 rfl) ?_
          refine sq_call #[.pointer (some ⟨k5, 0, none⟩), .agg #[.int .i64 x8.2.1.1, .int .i64 x8.2.1.2.1], .int .i64 x8.2.2.1, .agg #[.int .i64 x8.2.2.2.1.1, .int .i64 x8.2.2.2.1.2.1]] [2, 1, 1] rfl (unlock_spec ad k5 vt lt x8.2.1.1 x8.2.1.2.1 x8.2.2.1 x8.2.2.2.1.1 x8.2.2.2.1.2.1 hT0.small) (fun _ => by kernel_rfl) h ?_; rintro v_ L_ w (⟨hq21, rfl, rfl⟩ | ⟨hq21, hq22, rfl, rfl⟩ | ⟨hq21, hq22, v23, rfl, rfl⟩) h
          · skip
            refine lnil ?_
            refine blk_n (blk_n (thn_n ?_))
            refine c_reg ?_
            refine sq_p (.int .i64 (n0 : Int)) rfl (fun _ => by kernel_rfl) ?_
            refine sq_q rfl h (g_eq (v := .int .i64 (IntKind.i64.wrap ((n0 : Int) + 1))) (v' := .int .i64 ((n0 + 1 : Nat) : Int)) (g_pure fun _ => by kernel_rfl) (wr (by omega))) ?_
            refine sq_p (.int .i64 ((n0 + 1 : Nat) : Int)) rfl (fun _ => by kernel_rfl) ?_
            refine lnil ?_
            refine loop_end (fun j => ⟨(n0 + 1), lt, vt, j⟩) (show ((n0 + 1) ≤ acts.length ∧ TabOk lt) ∧ (acts.length - (n0 + 1)) < (acts.length - n0) from ⟨⟨by omega, hT0⟩, by omega⟩) (by kernel_rfl) [1, 0, 0, 1] (by kernel_rfl) h
          · skip
            refine lnil ?_
            refine blk_n (blk_n (thn_n ?_))
            refine c_reg ?_
            refine sq_p (.int .i64 (n0 : Int)) rfl (fun _ => by kernel_rfl) ?_
            refine sq_q rfl h (g_eq (v := .int .i64 (IntKind.i64.wrap ((n0 : Int) + 1))) (v' := .int .i64 ((n0 + 1 : Nat) : Int)) (g_pure fun _ => by kernel_rfl) (wr (by omega))) ?_
            refine sq_p (.int .i64 ((n0 + 1 : Nat) : Int)) rfl (fun _ => by kernel_rfl) ?_
            refine lnil ?_
            refine loop_end (fun j => ⟨(n0 + 1), lt, vt, j⟩) (show ((n0 + 1) ≤ acts.length ∧ TabOk lt) ∧ (acts.length - (n0 + 1)) < (acts.length - n0) from ⟨⟨by omega, hT0⟩, by omega⟩) (by kernel_rfl) [1, 0, 0, 1] (by kernel_rfl) h
          · skip
            have hT24 := hT0.unlock (h := (x8.2.1.1, x8.2.1.2.1)) (o := x8.2.2.1) hq21 hq22
            refine lnil ?_
            refine blk_n (blk_n (thn_n ?_))
            refine c_reg ?_
            refine sq_p (.int .i64 (n0 : Int)) rfl (fun _ => by kernel_rfl) ?_
            refine sq_q rfl h (g_eq (v := .int .i64 (IntKind.i64.wrap ((n0 : Int) + 1))) (v' := .int .i64 ((n0 + 1 : Nat) : Int)) (g_pure fun _ => by kernel_rfl) (wr (by omega))) ?_
            refine sq_p (.int .i64 ((n0 + 1 : Nat) : Int)) rfl (fun _ => by kernel_rfl) ?_
            refine lnil ?_
            refine loop_end (fun j => ⟨(n0 + 1), cutL lt (x8.2.1.1, x8.2.1.2.1) x8.2.2.1 (eF x8.2.2.2.1.1 x8.2.2.2.1.2.1) (eT x8.2.2.2.1.1 x8.2.2.2.1.2.1), v23, j⟩) (show ((n0 + 1) ≤ acts.length ∧ TabOk (cutL lt (x8.2.1.1, x8.2.1.2.1) x8.2.2.1 (eF x8.2.2.2.1.1 x8.2.2.2.1.2.1) (eT x8.2.2.2.1.1 x8.2.2.2.1.2.1))) ∧ (acts.length - (n0 + 1)) < (acts.length - n0) from ⟨⟨by omega, hT24⟩, by omega⟩) (by kernel_rfl) [1, 0, 0, 1] (by kernel_rfl) h
        · skip
          have hc20 := of_decide_eq_false hc20
          refine c_seq ?_
          refine c_reg ?_
          refine sq_q rfl h (g_eq (v := .bool (x8.1.toList == (⟨#[100, 114, 111, 112]⟩ : ByteArray).toList)) (v' := .bool (decide (x8.1 = (⟨#[100, 114, 111, 112]⟩ : ByteArray)))) (g_pure fun _ => by kernel_rfl) beqS) ?_
          refine sq_p (.bool (decide (x8.1 = (⟨#[100, 114, 111, 112]⟩ : ByteArray)))) rfl (fun _ => by kernel_rfl) ?_
          refine lnil ?_
          refine thn_n ?_
          refine c_cond (decide (x8.1 = (⟨#[100, 114, 111, 112]⟩ : ByteArray))) (by kernel_rfl) (fun hc25 => ?_) (fun hc25 => ?_)
          · skip
            have hc25 := of_decide_eq_true hc25
            refine c_reg ?_
            refine sq_p (.pointer (some ⟨k5, 0, none⟩)) rfl (fun _ => by kernel_rfl) ?_
            refine sq_p (.pointer (some ⟨k10, 1, none⟩)) rfl (fun _ => by kernel_rfl) ?_
            refine sq_q rfl h (g_ld 1 [.int .i64 x8.2.1.1, .int .i64 x8.2.1.2.1] (.agg #[.int .i64 x8.2.1.1, .int .i64 x8.2.1.2.1]) (by kernel_rfl) 0 rfl) ?_
            refine sq_p (.pointer (some ⟨k10, 3, none⟩)) rfl (fun _ => by kernel_rfl) ?_
            refine sq_q rfl h (g_ld 3 [.int .i64 x8.2.2.1] (.int .i64 x8.2.2.1) (by kernel_rfl) 0 rfl) ?_
            refine sq_call #[.pointer (some ⟨k5, 0, none⟩), .agg #[.int .i64 x8.2.1.1, .int .i64 x8.2.1.2.1], .int .i64 x8.2.2.1] [2, 1] rfl (drop_spec k5 vt lt x8.2.1.1 x8.2.1.2.1 x8.2.2.1 hT0.small) (fun _ => by kernel_rfl) h ?_; rintro v_ L_ w ⟨v26, rfl, rfl⟩ h
            refine lnil ?_
            refine blk_n (blk_n (thn_n ?_))
            refine c_reg ?_
            refine sq_p (.int .i64 (n0 : Int)) rfl (fun _ => by kernel_rfl) ?_
            refine sq_q rfl h (g_eq (v := .int .i64 (IntKind.i64.wrap ((n0 : Int) + 1))) (v' := .int .i64 ((n0 + 1 : Nat) : Int)) (g_pure fun _ => by kernel_rfl) (wr (by omega))) ?_
            refine sq_p (.int .i64 ((n0 + 1 : Nat) : Int)) rfl (fun _ => by kernel_rfl) ?_
            refine lnil ?_
            refine loop_end (fun j => ⟨(n0 + 1), lt.filter fun x => !dropP (x8.2.1.1, x8.2.1.2.1) x8.2.2.1 x, v26, j⟩) (show ((n0 + 1) ≤ acts.length ∧ TabOk (lt.filter fun x => !dropP (x8.2.1.1, x8.2.1.2.1) x8.2.2.1 x)) ∧ (acts.length - (n0 + 1)) < (acts.length - n0) from ⟨⟨by omega, (hT0.drop _)⟩, by omega⟩) (by kernel_rfl) [1, 0, 1, 1] (by kernel_rfl) h
          · skip
            have hc25 := of_decide_eq_false hc25
            refine c_skip ?_
            refine blk_n (blk_n (thn_n ?_))
            refine c_reg ?_
            refine sq_p (.int .i64 (n0 : Int)) rfl (fun _ => by kernel_rfl) ?_
            refine sq_q rfl h (g_eq (v := .int .i64 (IntKind.i64.wrap ((n0 : Int) + 1))) (v' := .int .i64 ((n0 + 1 : Nat) : Int)) (g_pure fun _ => by kernel_rfl) (wr (by omega))) ?_
            refine sq_p (.int .i64 ((n0 + 1 : Nat) : Int)) rfl (fun _ => by kernel_rfl) ?_
            refine lnil ?_
            refine loop_end (fun j => ⟨(n0 + 1), lt, vt, j⟩) (show ((n0 + 1) ≤ acts.length ∧ TabOk lt) ∧ (acts.length - (n0 + 1)) < (acts.length - n0) from ⟨⟨by omega, hT0⟩, by omega⟩) (by kernel_rfl) [1, 1, 1, 1] (by kernel_rfl) h
    · skip
      have hc6 := of_decide_eq_false hc6
      refine c_exit ?_
      refine thn_e (rnd_e (blk_e (thn_n ?_)))
      refine c_seq ?_
      refine c_reg ?_
      refine sq_p (.pointer (some ⟨k5, 0, none⟩)) rfl (fun _ => by kernel_rfl) ?_
      refine sq_call #[.pointer (some ⟨k5, 0, none⟩)] [1, 0] rfl (list_spec k5 vt lt hT0.1.bnd hT0.small) (fun _ => by kernel_rfl) h ?_; rintro v30 L_ w ⟨_, l27, ⟨hp28, ho29⟩, rfl, rfl⟩ h
      have hRL : RunsOk l27 := (hT0.1).perm hp28
      have hRN : l27.length ≤ 60 := by have := hp28.length_eq; have := hT0.2; omega
      have hRM : (l27.map lkT).length = l27.length := List.length_map ..
      refine sq_p (v30) rfl (fun _ => by kernel_rfl) ?_
      refine lnil ?_
      refine thn_n ?_
      refine c_seq ?_
      refine c_seq ?_
      refine c_reg ?_
      refine sq_p (.int .i64 0) rfl (fun _ => by kernel_rfl) ?_
      refine lnil ?_
      refine thn_n ?_
      refine c_block ?_
      refine c_loop (X := Nat × (Nat → Value)) (fun ⟨i, J1⟩ => ⟨#[v, undef, J1 2, .bool true, .pointer (some ⟨k5, 0, none⟩), .int .i64 (n0 : Int), J0 6, v30, .int .i64 (i : Int), J1 9, J1 10, J1 11, .bool true, .bool true, .bool false, .bool false, v, .int .i64 (acts.length : Int), .bool b1, .bool b1, undef, .agg #[.slice none 0 0], .pointer (some ⟨k5, 0, none⟩), .int .i64 (n0 : Int), v, .int .i64 (acts.length : Int), .bool (decide ((n0 : Int) < (acts.length : Int))), J0 27, J0 28, J0 29, J0 30, J0 31, J0 32, J0 33, J0 34, J0 35, J0 36, J0 37, J0 38, J0 39, J0 40, J0 41, J0 42, J0 43, J0 44, J0 45, J0 46, J0 47, J0 48, J0 49, J0 50, J0 51, J0 52, J0 53, J0 54, J0 55, J0 56, J0 57, J0 58, J0 59, J0 60, J0 61, J0 62, J0 63, J0 64, J0 65, J0 66, J0 67, .pointer (some ⟨k5, 0, none⟩), v30, J1 70, J1 71, J1 72, J1 73, J1 74, J1 75, J1 76, J1 77, J1 78, J1 79, J1 80, J1 81, J1 82, J1 83, J1 84, J1 85, J1 86, J1 87, J1 88, J1 89, J1 90, J1 91, J1 92, J1 93, J1 94, J1 95, J1 96, J1 97, J1 98, J1 99, J1 100, J1 101, J1 102, J1 103, J1 104, J1 105, J1 106, J1 107, J1 108, J1 109, J1 110, J1 111, J1 112, J1 113, J1 114, J1 115, J1 116, J1 117, J1 118, J1 119, J1 120, J1 121, J1 122, J1 123, J1 124, J1 125, J1 126, J1 127, J1 128, J1 129, J1 130, J1 131, J1 132, J1 133, J1 134, J1 135, J1 136, J1 137, J1 138, J1 139, J1 140, J1 141, J1 142, J1 143, J1 144, J1 145, J1 146, J1 147, J1 148, J1 149, J1 150, J1 151, J1 152, J1 153, J1 154, J1 155, J1 156, J1 157, J1 158, J1 159, J1 160, J1 161, J1 162, J1 163, J1 164, J1 165, J1 166, J1 167, J1 168, J1 169, J1 170, J1 171, J1 172, J1 173, J1 174, J1 175, J1 176, J1 177, J1 178, J1 179, J1 180, J1 181, J1 182, J1 183, J1 184, J1 185, J1 186, J1 187, J1 188, J1 189, J1 190, J1 191, J1 192, J1 193, J1 194, J1 195, J1 196, J1 197, J1 198, J1 199, J1 200, J1 201, J1 202, J1 203, J1 204, J1 205, J1 206, J1 207, J1 208, J1 209, J1 210, J1 211, J1 212, J1 213, J1 214, J1 215, J1 216, J1 217, J1 218, J1 219, J1 220, J1 221, J1 222, undef, undef, undef], []⟩)
        (fun ⟨i, J1⟩ => [rRows true v30 99 6 runC (l27.map lkT), rCell true k5 [vt] 93, rRows true vt 217 6 runC lt, rEnv B ad [2, 9, 11], rArg v 7 lactC acts]) (fun ⟨i, J1⟩ => i ≤ (l27.map lkT).length) (fun ⟨i, J1⟩ => (l27.map lkT).length - i)
        ⟨0, (fun n => (#[v, undef, .bool false, .bool true, .pointer (some ⟨k5, 0, none⟩), .int .i64 (n0 : Int), J0 6, v30, .int .i64 0, undef, undef, undef, .bool true, .bool true, .bool false, .bool false, v, .int .i64 (acts.length : Int), .bool b1, .bool b1, undef, .agg #[.slice none 0 0], .pointer (some ⟨k5, 0, none⟩), .int .i64 (n0 : Int), v, .int .i64 (acts.length : Int), .bool (decide ((n0 : Int) < (acts.length : Int))), J0 27, J0 28, J0 29, J0 30, J0 31, J0 32, J0 33, J0 34, J0 35, J0 36, J0 37, J0 38, J0 39, J0 40, J0 41, J0 42, J0 43, J0 44, J0 45, J0 46, J0 47, J0 48, J0 49, J0 50, J0 51, J0 52, J0 53, J0 54, J0 55, J0 56, J0 57, J0 58, J0 59, J0 60, J0 61, J0 62, J0 63, J0 64, J0 65, J0 66, J0 67, .pointer (some ⟨k5, 0, none⟩), v30, undef, undef, undef, undef, undef, undef, undef, undef, undef, undef, undef, undef, undef, undef, undef, undef, undef, undef, undef, undef, undef, undef, undef, undef, undef, undef, undef, undef, undef, undef, undef, undef, undef, undef, undef, undef, undef, undef, undef, undef, undef, undef, undef, undef, undef, undef, undef, undef, undef, undef, undef, undef, undef, undef, undef, undef, undef, undef, undef, undef, undef, undef, undef, undef, undef, undef, undef, undef, undef, undef, undef, undef, undef, undef, undef, undef, undef, undef, undef, undef, undef, undef, undef, undef, undef, undef, undef, undef, undef, undef, undef, undef, undef, undef, undef, undef, undef, undef, undef, undef, undef, undef, undef, undef, undef, undef, undef, undef, undef, undef, undef, undef, undef, undef, undef, undef, undef, undef, undef, undef, undef, undef, undef, undef, undef, undef, undef, undef, undef, undef, undef, undef, undef, undef, undef, undef, undef, undef, undef, undef, undef, undef, undef, undef, undef, undef, undef, undef, undef, undef, undef, undef, undef, undef, undef, undef] : Array Value).getD n undef)⟩ (by omega) (by kernel_rfl) [0, 0, 0, 0, 0] (by kernel_rfl) h ?_
      rintro ⟨i, J1⟩ w hG h
      have hi0 : i ≤ (l27.map lkT).length := hG
      refine c_seq ?_
      refine c_seq ?_
      refine c_reg ?_
      refine sq_p (.int .i64 (i : Int)) rfl (fun _ => by kernel_rfl) ?_
      refine sq_p (v30) rfl (fun _ => by kernel_rfl) ?_
      refine sq_q rfl h (g_len (by kernel_rfl) 0 rfl) ?_
      refine sq_p (.bool (decide ((i : Int) < ((l27.map lkT).length : Int)))) rfl (fun _ => by kernel_rfl) ?_
      refine lnil ?_
      refine thn_n ?_
      refine c_cond (decide ((i : Int) < ((l27.map lkT).length : Int))) (by kernel_rfl) (fun hc31 => ?_) (fun hc31 => ?_)
      · skip
        have hc31 := of_decide_eq_true hc31
        refine c_skip ?_
        refine thn_n ?_
        refine c_seq ?_
        refine c_block ?_
        refine c_seq ?_
        refine c_seq ?_
        refine c_reg ?_
        refine sq_p (.int .i64 0) rfl (fun _ => by kernel_rfl) ?_
        refine lnil ?_
        refine thn_n ?_
        refine c_block ?_
        refine c_loop (X := Nat × (Nat → Value)) (fun ⟨k, J2⟩ => ⟨#[v, undef, J2 2, .bool true, .pointer (some ⟨k5, 0, none⟩), .int .i64 (n0 : Int), J0 6, v30, .int .i64 (i : Int), .int .i64 (k : Int), J1 10, J1 11, .bool true, .bool true, .bool false, .bool false, v, .int .i64 (acts.length : Int), .bool b1, .bool b1, undef, .agg #[.slice none 0 0], .pointer (some ⟨k5, 0, none⟩), .int .i64 (n0 : Int), v, .int .i64 (acts.length : Int), .bool (decide ((n0 : Int) < (acts.length : Int))), J0 27, J0 28, J0 29, J0 30, J0 31, J0 32, J0 33, J0 34, J0 35, J0 36, J0 37, J0 38, J0 39, J0 40, J0 41, J0 42, J0 43, J0 44, J0 45, J0 46, J0 47, J0 48, J0 49, J0 50, J0 51, J0 52, J0 53, J0 54, J0 55, J0 56, J0 57, J0 58, J0 59, J0 60, J0 61, J0 62, J0 63, J0 64, J0 65, J0 66, J0 67, .pointer (some ⟨k5, 0, none⟩), v30, .int .i64 (i : Int), v30, .int .i64 ((l27.map lkT).length : Int), .bool (decide ((i : Int) < ((l27.map lkT).length : Int))), J1 74, J1 75, J2 76, J2 77, J2 78, J2 79, J2 80, J2 81, J2 82, J2 83, J2 84, J2 85, J2 86, J2 87, J2 88, J2 89, J2 90, J2 91, J2 92, J2 93, J2 94, J2 95, J2 96, J2 97, J2 98, J2 99, J2 100, J2 101, J2 102, J2 103, J2 104, J2 105, J2 106, J2 107, J2 108, J2 109, J2 110, J2 111, J2 112, J2 113, J2 114, J2 115, J2 116, J2 117, J2 118, J2 119, J2 120, J2 121, J2 122, J2 123, J2 124, J2 125, J2 126, J2 127, J2 128, J2 129, J2 130, J2 131, J2 132, J2 133, J2 134, J2 135, J2 136, J2 137, J2 138, J2 139, J2 140, J2 141, J2 142, J2 143, J2 144, J2 145, J2 146, J2 147, J2 148, J1 149, J1 150, J1 151, J1 152, J1 153, J1 154, J1 155, J1 156, J1 157, J1 158, J1 159, J1 160, J1 161, J1 162, J1 163, J1 164, J1 165, J1 166, J1 167, J1 168, J1 169, J1 170, J1 171, J1 172, J1 173, J1 174, J1 175, J1 176, J1 177, J1 178, J1 179, J1 180, J1 181, J1 182, J1 183, J1 184, J1 185, J1 186, J1 187, J1 188, J1 189, J1 190, J1 191, J1 192, J1 193, J1 194, J1 195, J1 196, J1 197, J1 198, J1 199, J1 200, J1 201, J1 202, J1 203, J1 204, J1 205, J1 206, J1 207, J1 208, J1 209, J1 210, J1 211, J1 212, J1 213, J1 214, J1 215, J1 216, J1 217, J1 218, J1 219, J1 220, J1 221, J1 222, undef, undef, undef], []⟩)
          (fun ⟨k, J2⟩ => [rRows true v30 99 6 runC (l27.map lkT), rCell true k5 [vt] 93, rRows true vt 217 6 runC lt, rEnv B ad [2, 9, 11], rArg v 7 lactC acts]) (fun ⟨k, J2⟩ => k ≤ (l27.map lkT).length) (fun ⟨k, J2⟩ => (l27.map lkT).length - k)
          ⟨0, (fun n => (#[v, undef, J1 2, .bool true, .pointer (some ⟨k5, 0, none⟩), .int .i64 (n0 : Int), J0 6, v30, .int .i64 (i : Int), .int .i64 0, J1 10, J1 11, .bool true, .bool true, .bool false, .bool false, v, .int .i64 (acts.length : Int), .bool b1, .bool b1, undef, .agg #[.slice none 0 0], .pointer (some ⟨k5, 0, none⟩), .int .i64 (n0 : Int), v, .int .i64 (acts.length : Int), .bool (decide ((n0 : Int) < (acts.length : Int))), J0 27, J0 28, J0 29, J0 30, J0 31, J0 32, J0 33, J0 34, J0 35, J0 36, J0 37, J0 38, J0 39, J0 40, J0 41, J0 42, J0 43, J0 44, J0 45, J0 46, J0 47, J0 48, J0 49, J0 50, J0 51, J0 52, J0 53, J0 54, J0 55, J0 56, J0 57, J0 58, J0 59, J0 60, J0 61, J0 62, J0 63, J0 64, J0 65, J0 66, J0 67, .pointer (some ⟨k5, 0, none⟩), v30, .int .i64 (i : Int), v30, .int .i64 ((l27.map lkT).length : Int), .bool (decide ((i : Int) < ((l27.map lkT).length : Int))), J1 74, J1 75, J1 76, J1 77, J1 78, J1 79, J1 80, J1 81, J1 82, J1 83, J1 84, J1 85, J1 86, J1 87, J1 88, J1 89, J1 90, J1 91, J1 92, J1 93, J1 94, J1 95, J1 96, J1 97, J1 98, J1 99, J1 100, J1 101, J1 102, J1 103, J1 104, J1 105, J1 106, J1 107, J1 108, J1 109, J1 110, J1 111, J1 112, J1 113, J1 114, J1 115, J1 116, J1 117, J1 118, J1 119, J1 120, J1 121, J1 122, J1 123, J1 124, J1 125, J1 126, J1 127, J1 128, J1 129, J1 130, J1 131, J1 132, J1 133, J1 134, J1 135, J1 136, J1 137, J1 138, J1 139, J1 140, J1 141, J1 142, J1 143, J1 144, J1 145, J1 146, J1 147, J1 148, J1 149, J1 150, J1 151, J1 152, J1 153, J1 154, J1 155, J1 156, J1 157, J1 158, J1 159, J1 160, J1 161, J1 162, J1 163, J1 164, J1 165, J1 166, J1 167, J1 168, J1 169, J1 170, J1 171, J1 172, J1 173, J1 174, J1 175, J1 176, J1 177, J1 178, J1 179, J1 180, J1 181, J1 182, J1 183, J1 184, J1 185, J1 186, J1 187, J1 188, J1 189, J1 190, J1 191, J1 192, J1 193, J1 194, J1 195, J1 196, J1 197, J1 198, J1 199, J1 200, J1 201, J1 202, J1 203, J1 204, J1 205, J1 206, J1 207, J1 208, J1 209, J1 210, J1 211, J1 212, J1 213, J1 214, J1 215, J1 216, J1 217, J1 218, J1 219, J1 220, J1 221, J1 222, undef, undef, undef] : Array Value).getD n undef)⟩ (by omega) (by kernel_rfl) [0, 0, 0, 0, 0] (by kernel_rfl) h ?_
        rintro ⟨k, J2⟩ w hG h
        have hk0 : k ≤ (l27.map lkT).length := hG
        refine c_seq ?_
        refine c_seq ?_
        refine c_reg ?_
        refine sq_p (.int .i64 (k : Int)) rfl (fun _ => by kernel_rfl) ?_
        refine sq_p (v30) rfl (fun _ => by kernel_rfl) ?_
        refine sq_q rfl h (g_len (by kernel_rfl) 0 rfl) ?_
        refine sq_p (.bool (decide ((k : Int) < ((l27.map lkT).length : Int)))) rfl (fun _ => by kernel_rfl) ?_
        refine lnil ?_
        refine thn_n ?_
        refine c_cond (decide ((k : Int) < ((l27.map lkT).length : Int))) (by kernel_rfl) (fun hc32 => ?_) (fun hc32 => ?_)
        · skip
          have hc32 := of_decide_eq_true hc32
          refine c_skip ?_
          refine thn_n ?_
          refine c_seq ?_
          refine c_block ?_
          refine c_seq ?_
          refine c_seq ?_
          refine d_start 42 [0] (by kernel_rfl) h fun w h => ?_
          refine d_take 0 2 [0] rfl (v := .int .i64 (k : Int)) (by kernel_rfl) (qp_thn (qp_thn (qp_blk (qp_thn (qp_rnd (qp_blk (qp_thn (qp_blk (qp_thn (qp_rnd (qp_blk (qp_thn qp_body)))))))))))) (yq (by kernel_rfl) (g_pure (v := .int .i64 (k : Int)) fun _ => by kernel_rfl)) h (by kernel_rfl) ?_
          refine d_take 1 1 [0] rfl (v := .int .i64 (i : Int)) (by kernel_rfl) (qp_thn (qp_thn (qp_blk (qp_thn (qp_rnd (qp_blk (qp_thn (qp_blk (qp_thn (qp_rnd (qp_blk (qp_thn qp_body)))))))))))) (yq (by kernel_rfl) (g_pure (v := .int .i64 (i : Int)) fun _ => by kernel_rfl)) h (by kernel_rfl) ?_
          obtain ⟨b33, hb33⟩ : ∃ b_ : Bool, b_ = (decide ((k : Int) = (i : Int))) := ⟨_, rfl⟩
          refine d_take 2 3 [0] rfl (v := .bool b33) (by kernel_rfl) (qp_thn (qp_thn (qp_blk (qp_thn (qp_rnd (qp_blk (qp_thn (qp_blk (qp_thn (qp_rnd (qp_blk (qp_thn qp_body)))))))))))) (yq (by kernel_rfl) (by subst hb33; exact g_pure (v := .bool (decide ((k : Int) = (i : Int)))) fun _ => by kernel_rfl)) h (by kernel_rfl) ?_
          refine d_take 3 7 [0] rfl (v := .bool b33) (by kernel_rfl) (qp_thn (qp_thn (qp_blk (qp_thn (qp_rnd (qp_blk (qp_thn (qp_blk (qp_thn (qp_rnd (qp_blk (qp_thn qp_body)))))))))))) (yq (by kernel_rfl) (g_pure (v := .bool b33) fun _ => by kernel_rfl)) h (by kernel_rfl) ?_
          refine d_take 4 15919 [0] rfl (by kernel_rfl) (qp_thn (qp_thn (qp_blk (qp_thn (qp_rnd (qp_blk (qp_thn (qp_blk (qp_thn (qp_rnd (qp_blk (qp_thn qp_body)))))))))))) (ym0 (v := v30) b33 (by cases b33 <;> kernel_rfl) (fun hB => by subst hB; exact g_pure (v := v30) fun _ => by kernel_rfl)) h (by kernel_rfl) ?_
          refine d_take 5 15903 [0] rfl (by kernel_rfl) (qp_thn (qp_thn (qp_blk (qp_thn (qp_rnd (qp_blk (qp_thn (qp_blk (qp_thn (qp_rnd (qp_blk (qp_thn qp_body)))))))))))) (ym0 (v := .int .i64 (k : Int)) b33 (by cases b33 <;> kernel_rfl) (fun hB => by subst hB; exact g_pure (v := .int .i64 (k : Int)) fun _ => by kernel_rfl)) h (by kernel_rfl) ?_
          have hi34 : k < (l27.map lkT).length := by omega
          obtain ⟨x35, hx36⟩ : ∃ x, (l27.map lkT)[k]? = some x := ⟨_, List.getElem?_eq_getElem hi34⟩
          have hBx35 : LkB x35 := by obtain ⟨y, hy, e⟩ := lk_get hx36; rw [e]; exact lkB (hRL.bnd _ (List.mem_of_getElem? hy))
          obtain ⟨hBx35a, hBx35b, hBx35c, hBx35d⟩ := hBx35
          refine d_take 6 15935 [0] rfl (by kernel_rfl) (qp_thn (qp_thn (qp_blk (qp_thn (qp_rnd (qp_blk (qp_thn (qp_blk (qp_thn (qp_rnd (qp_blk (qp_thn qp_body)))))))))))) (ym0 (v := .pointer (some ⟨blkN v30, offN v30 + k * 6, none⟩)) b33 (by cases b33 <;> kernel_rfl) (fun hB => by subst hB; exact g_idx k (by kernel_rfl) hi34 0 rfl)) h (by kernel_rfl) ?_
          refine d_take 7 15999 [0] rfl (by kernel_rfl) (qp_thn (qp_thn (qp_blk (qp_thn (qp_rnd (qp_blk (qp_thn (qp_blk (qp_thn (qp_rnd (qp_blk (qp_thn qp_body)))))))))))) (ym0 (v := .pointer (some ⟨blkN v30, offN v30 + k * 6, none⟩)) b33 (by cases b33 <;> kernel_rfl) (fun hB => by subst hB; exact g_pure (v := .pointer (some ⟨blkN v30, offN v30 + k * 6, none⟩)) fun _ => by kernel_rfl)) h (by kernel_rfl) ?_
          refine d_take 8 16127 [0] rfl (by kernel_rfl) (qp_thn (qp_thn (qp_blk (qp_thn (qp_rnd (qp_blk (qp_thn (qp_blk (qp_thn (qp_rnd (qp_blk (qp_thn qp_body)))))))))))) (ym0 (v := .agg #[.int .i64 x35.1.1, .int .i64 x35.1.2]) b33 (by cases b33 <;> kernel_rfl) (fun hB => by subst hB; exact g_ldr (b := blkN v30) (offN v30 + k * 6) [.int .i64 x35.1.1, .int .i64 x35.1.2] (.agg #[.int .i64 x35.1.1, .int .i64 x35.1.2]) (by kernel_rfl) 0 rfl (rdRow0 runC_len hx36 (by kernel_rfl)))) h (by kernel_rfl) ?_
          refine d_take 9 1535 [0] rfl (by kernel_rfl) (qp_thn (qp_thn (qp_blk (qp_thn (qp_rnd (qp_blk (qp_thn (qp_blk (qp_thn (qp_rnd (qp_blk (qp_thn qp_body)))))))))))) (ym0 (v := v30) b33 (by cases b33 <;> kernel_rfl) (fun hB => by subst hB; exact g_pure (v := v30) fun _ => by kernel_rfl)) h (by kernel_rfl) ?_
          refine d_take 10 1023 [0] rfl (by kernel_rfl) (qp_thn (qp_thn (qp_blk (qp_thn (qp_rnd (qp_blk (qp_thn (qp_blk (qp_thn (qp_rnd (qp_blk (qp_thn qp_body)))))))))))) (ym0 (v := .int .i64 (i : Int)) b33 (by cases b33 <;> kernel_rfl) (fun hB => by subst hB; exact g_pure (v := .int .i64 (i : Int)) fun _ => by kernel_rfl)) h (by kernel_rfl) ?_
          have hi37 : i < (l27.map lkT).length := by omega
          obtain ⟨x38, hx39⟩ : ∃ x, (l27.map lkT)[i]? = some x := ⟨_, List.getElem?_eq_getElem hi37⟩
          have hBx38 : LkB x38 := by obtain ⟨y, hy, e⟩ := lk_get hx39; rw [e]; exact lkB (hRL.bnd _ (List.mem_of_getElem? hy))
          obtain ⟨hBx38a, hBx38b, hBx38c, hBx38d⟩ := hBx38
          refine d_take 11 2047 [0] rfl (by kernel_rfl) (qp_thn (qp_thn (qp_blk (qp_thn (qp_rnd (qp_blk (qp_thn (qp_blk (qp_thn (qp_rnd (qp_blk (qp_thn qp_body)))))))))))) (ym0 (v := .pointer (some ⟨blkN v30, offN v30 + i * 6, none⟩)) b33 (by cases b33 <;> kernel_rfl) (fun hB => by subst hB; exact g_idx i (by kernel_rfl) hi37 0 rfl)) h (by kernel_rfl) ?_
          refine d_take 12 4095 [0] rfl (by kernel_rfl) (qp_thn (qp_thn (qp_blk (qp_thn (qp_rnd (qp_blk (qp_thn (qp_blk (qp_thn (qp_rnd (qp_blk (qp_thn qp_body)))))))))))) (ym0 (v := .pointer (some ⟨blkN v30, offN v30 + i * 6, none⟩)) b33 (by cases b33 <;> kernel_rfl) (fun hB => by subst hB; exact g_pure (v := .pointer (some ⟨blkN v30, offN v30 + i * 6, none⟩)) fun _ => by kernel_rfl)) h (by kernel_rfl) ?_
          refine d_take 13 8191 [0] rfl (by kernel_rfl) (qp_thn (qp_thn (qp_blk (qp_thn (qp_rnd (qp_blk (qp_thn (qp_blk (qp_thn (qp_rnd (qp_blk (qp_thn qp_body)))))))))))) (ym0 (v := .agg #[.int .i64 x38.1.1, .int .i64 x38.1.2]) b33 (by cases b33 <;> kernel_rfl) (fun hB => by subst hB; exact g_ldr (b := blkN v30) (offN v30 + i * 6) [.int .i64 x38.1.1, .int .i64 x38.1.2] (.agg #[.int .i64 x38.1.1, .int .i64 x38.1.2]) (by kernel_rfl) 0 rfl (rdRow0 runC_len hx39 (by kernel_rfl)))) h (by kernel_rfl) ?_
          obtain ⟨b40, hb40⟩ : ∃ b_ : Bool, b_ = (!((decide (x35.1.1 = x38.1.1)) && (decide (x35.1.2 = x38.1.2)))) := ⟨_, rfl⟩
          refine d_take 14 16383 [0] rfl (by kernel_rfl) (qp_thn (qp_thn (qp_blk (qp_thn (qp_rnd (qp_blk (qp_thn (qp_blk (qp_thn (qp_rnd (qp_blk (qp_thn qp_body)))))))))))) (ym0 (v := .bool b40) b33 (by cases b33 <;> kernel_rfl) (fun hB => by subst hB; exact by subst hb40; exact g_neH (by kernel_rfl))) h (by kernel_rfl) ?_
          obtain ⟨b41, hb41⟩ : ∃ b_ : Bool, b_ = (b33 || b40) := ⟨_, rfl⟩
          refine d_take 15 32767 [0] rfl (v := .bool b41) (by kernel_rfl) (qp_thn (qp_thn (qp_blk (qp_thn (qp_rnd (qp_blk (qp_thn (qp_blk (qp_thn (qp_rnd (qp_blk (qp_thn qp_body)))))))))))) (yq (by kernel_rfl) (by subst hb41; exact g_pure (v := .bool (b33 || b40)) fun _ => by cases b33 <;> kernel_rfl)) h (by kernel_rfl) ?_
          refine d_take 16 65535 [0] rfl (v := .bool b41) (by kernel_rfl) (qp_thn (qp_thn (qp_blk (qp_thn (qp_rnd (qp_blk (qp_thn (qp_blk (qp_thn (qp_rnd (qp_blk (qp_thn qp_body)))))))))))) (yq (by kernel_rfl) (g_pure (v := .bool b41) fun _ => by kernel_rfl)) h (by kernel_rfl) ?_
          refine d_take 17 130416639 [0] rfl (by kernel_rfl) (qp_thn (qp_thn (qp_blk (qp_thn (qp_rnd (qp_blk (qp_thn (qp_blk (qp_thn (qp_rnd (qp_blk (qp_thn qp_body)))))))))))) (ym0 (v := v30) b41 (by cases b41 <;> kernel_rfl) (fun hB => by subst hB; exact g_pure (v := v30) fun _ => by kernel_rfl)) h (by kernel_rfl) ?_
          refine d_take 18 130285567 [0] rfl (by kernel_rfl) (qp_thn (qp_thn (qp_blk (qp_thn (qp_rnd (qp_blk (qp_thn (qp_blk (qp_thn (qp_rnd (qp_blk (qp_thn qp_body)))))))))))) (ym0 (v := .int .i64 (i : Int)) b41 (by cases b41 <;> kernel_rfl) (fun hB => by subst hB; exact g_pure (v := .int .i64 (i : Int)) fun _ => by kernel_rfl)) h (by kernel_rfl) ?_
          refine d_take 19 130547711 [0] rfl (by kernel_rfl) (qp_thn (qp_thn (qp_blk (qp_thn (qp_rnd (qp_blk (qp_thn (qp_blk (qp_thn (qp_rnd (qp_blk (qp_thn qp_body)))))))))))) (ym0 (v := .pointer (some ⟨blkN v30, offN v30 + i * 6, none⟩)) b41 (by cases b41 <;> kernel_rfl) (fun hB => by subst hB; exact g_idx i (by kernel_rfl) hi37 0 rfl)) h (by kernel_rfl) ?_
          refine d_take 20 131071999 [0] rfl (by kernel_rfl) (qp_thn (qp_thn (qp_blk (qp_thn (qp_rnd (qp_blk (qp_thn (qp_blk (qp_thn (qp_rnd (qp_blk (qp_thn qp_body)))))))))))) (ym0 (v := .pointer (some ⟨blkN v30, offN v30 + i * 6 + 3, none⟩)) b41 (by cases b41 <;> kernel_rfl) (fun hB => by subst hB; exact g_pure (v := .pointer (some ⟨blkN v30, offN v30 + i * 6 + 3, none⟩)) fun _ => by kernel_rfl)) h (by kernel_rfl) ?_
          refine d_take 21 132120575 [0] rfl (by kernel_rfl) (qp_thn (qp_thn (qp_blk (qp_thn (qp_rnd (qp_blk (qp_thn (qp_blk (qp_thn (qp_rnd (qp_blk (qp_thn qp_body)))))))))))) (ym0 (v := .agg #[.int .i64 x38.2.2.1, .int .i64 x38.2.2.2.1]) b41 (by cases b41 <;> kernel_rfl) (fun hB => by subst hB; exact g_ldr (b := blkN v30) (offN v30 + i * 6 + 3) [.int .i64 x38.2.2.1, .int .i64 x38.2.2.2.1] (.agg #[.int .i64 x38.2.2.1, .int .i64 x38.2.2.2.1]) (by kernel_rfl) 0 rfl (rdRow runC_len hx39 3 (by kernel_rfl)))) h (by kernel_rfl) ?_
          refine d_take 22 12582911 [0] rfl (by kernel_rfl) (qp_thn (qp_thn (qp_blk (qp_thn (qp_rnd (qp_blk (qp_thn (qp_blk (qp_thn (qp_rnd (qp_blk (qp_thn qp_body)))))))))))) (ym0 (v := v30) b41 (by cases b41 <;> kernel_rfl) (fun hB => by subst hB; exact g_pure (v := v30) fun _ => by kernel_rfl)) h (by kernel_rfl) ?_
          refine d_take 23 8388607 [0] rfl (by kernel_rfl) (qp_thn (qp_thn (qp_blk (qp_thn (qp_rnd (qp_blk (qp_thn (qp_blk (qp_thn (qp_rnd (qp_blk (qp_thn qp_body)))))))))))) (ym0 (v := .int .i64 (k : Int)) b41 (by cases b41 <;> kernel_rfl) (fun hB => by subst hB; exact g_pure (v := .int .i64 (k : Int)) fun _ => by kernel_rfl)) h (by kernel_rfl) ?_
          refine d_take 24 16777215 [0] rfl (by kernel_rfl) (qp_thn (qp_thn (qp_blk (qp_thn (qp_rnd (qp_blk (qp_thn (qp_blk (qp_thn (qp_rnd (qp_blk (qp_thn qp_body)))))))))))) (ym0 (v := .pointer (some ⟨blkN v30, offN v30 + k * 6, none⟩)) b41 (by cases b41 <;> kernel_rfl) (fun hB => by subst hB; exact g_idx k (by kernel_rfl) hi34 0 rfl)) h (by kernel_rfl) ?_
          refine d_take 25 33554431 [0] rfl (by kernel_rfl) (qp_thn (qp_thn (qp_blk (qp_thn (qp_rnd (qp_blk (qp_thn (qp_blk (qp_thn (qp_rnd (qp_blk (qp_thn qp_body)))))))))))) (ym0 (v := .pointer (some ⟨blkN v30, offN v30 + k * 6 + 3, none⟩)) b41 (by cases b41 <;> kernel_rfl) (fun hB => by subst hB; exact g_pure (v := .pointer (some ⟨blkN v30, offN v30 + k * 6 + 3, none⟩)) fun _ => by kernel_rfl)) h (by kernel_rfl) ?_
          refine d_take 26 67108863 [0] rfl (by kernel_rfl) (qp_thn (qp_thn (qp_blk (qp_thn (qp_rnd (qp_blk (qp_thn (qp_blk (qp_thn (qp_rnd (qp_blk (qp_thn qp_body)))))))))))) (ym0 (v := .agg #[.int .i64 x35.2.2.1, .int .i64 x35.2.2.2.1]) b41 (by cases b41 <;> kernel_rfl) (fun hB => by subst hB; exact g_ldr (b := blkN v30) (offN v30 + k * 6 + 3) [.int .i64 x35.2.2.1, .int .i64 x35.2.2.2.1] (.agg #[.int .i64 x35.2.2.1, .int .i64 x35.2.2.2.1]) (by kernel_rfl) 0 rfl (rdRow runC_len hx36 3 (by kernel_rfl)))) h (by kernel_rfl) ?_
          rcases Bool.eq_false_or_eq_true b41 with hc42 | hc42
          · skip
            subst hc42
            have q43 := hb41.symm
            refine d_take 27 134217727 [0] rfl (by kernel_rfl) (qp_thn (qp_thn (qp_blk (qp_thn (qp_rnd (qp_blk (qp_thn (qp_blk (qp_thn (qp_rnd (qp_blk (qp_thn qp_body)))))))))))) (yn (by kernel_rfl)) h (by kernel_rfl) ?_
            refine d_take 28 268435455 [0] rfl (v := .bool true) (by kernel_rfl) (qp_thn (qp_thn (qp_blk (qp_thn (qp_rnd (qp_blk (qp_thn (qp_blk (qp_thn (qp_rnd (qp_blk (qp_thn qp_body)))))))))))) (yq (by kernel_rfl) (g_pure (v := .bool true) fun _ => by kernel_rfl)) h (by kernel_rfl) ?_
            refine d_take 29 536870911 [0] rfl (v := .bool true) (by kernel_rfl) (qp_thn (qp_thn (qp_blk (qp_thn (qp_rnd (qp_blk (qp_thn (qp_blk (qp_thn (qp_rnd (qp_blk (qp_thn qp_body)))))))))))) (yq (by kernel_rfl) (g_pure (v := .bool true) fun _ => by kernel_rfl)) h (by kernel_rfl) ?_
            refine d_take 30 1068373114879 [0] rfl (by kernel_rfl) (qp_thn (qp_thn (qp_blk (qp_thn (qp_rnd (qp_blk (qp_thn (qp_blk (qp_thn (qp_rnd (qp_blk (qp_thn qp_body)))))))))))) (yn (by kernel_rfl)) h (by kernel_rfl) ?_
            refine d_take 31 1067299373055 [0] rfl (by kernel_rfl) (qp_thn (qp_thn (qp_blk (qp_thn (qp_rnd (qp_blk (qp_thn (qp_blk (qp_thn (qp_rnd (qp_blk (qp_thn qp_body)))))))))))) (yn (by kernel_rfl)) h (by kernel_rfl) ?_
            refine d_take 32 1069446856703 [0] rfl (by kernel_rfl) (qp_thn (qp_thn (qp_blk (qp_thn (qp_rnd (qp_blk (qp_thn (qp_blk (qp_thn (qp_rnd (qp_blk (qp_thn qp_body)))))))))))) (yn (by kernel_rfl)) h (by kernel_rfl) ?_
            refine d_take 33 1073741823999 [0] rfl (by kernel_rfl) (qp_thn (qp_thn (qp_blk (qp_thn (qp_rnd (qp_blk (qp_thn (qp_blk (qp_thn (qp_rnd (qp_blk (qp_thn qp_body)))))))))))) (yn (by kernel_rfl)) h (by kernel_rfl) ?_
            refine d_take 34 1082331758591 [0] rfl (by kernel_rfl) (qp_thn (qp_thn (qp_blk (qp_thn (qp_rnd (qp_blk (qp_thn (qp_blk (qp_thn (qp_rnd (qp_blk (qp_thn qp_body)))))))))))) (yn (by kernel_rfl)) h (by kernel_rfl) ?_
            refine d_take 35 103079215103 [0] rfl (by kernel_rfl) (qp_thn (qp_thn (qp_blk (qp_thn (qp_rnd (qp_blk (qp_thn (qp_blk (qp_thn (qp_rnd (qp_blk (qp_thn qp_body)))))))))))) (yn (by kernel_rfl)) h (by kernel_rfl) ?_
            refine d_take 36 68719476735 [0] rfl (by kernel_rfl) (qp_thn (qp_thn (qp_blk (qp_thn (qp_rnd (qp_blk (qp_thn (qp_blk (qp_thn (qp_rnd (qp_blk (qp_thn qp_body)))))))))))) (yn (by kernel_rfl)) h (by kernel_rfl) ?_
            refine d_take 37 137438953471 [0] rfl (by kernel_rfl) (qp_thn (qp_thn (qp_blk (qp_thn (qp_rnd (qp_blk (qp_thn (qp_blk (qp_thn (qp_rnd (qp_blk (qp_thn qp_body)))))))))))) (yn (by kernel_rfl)) h (by kernel_rfl) ?_
            refine d_take 38 274877906943 [0] rfl (by kernel_rfl) (qp_thn (qp_thn (qp_blk (qp_thn (qp_rnd (qp_blk (qp_thn (qp_blk (qp_thn (qp_rnd (qp_blk (qp_thn qp_body)))))))))))) (yn (by kernel_rfl)) h (by kernel_rfl) ?_
            refine d_take 39 549755813887 [0] rfl (by kernel_rfl) (qp_thn (qp_thn (qp_blk (qp_thn (qp_rnd (qp_blk (qp_thn (qp_blk (qp_thn (qp_rnd (qp_blk (qp_thn qp_body)))))))))))) (yn (by kernel_rfl)) h (by kernel_rfl) ?_
            refine d_take 40 1099511627775 [0] rfl (by kernel_rfl) (qp_thn (qp_thn (qp_blk (qp_thn (qp_rnd (qp_blk (qp_thn (qp_blk (qp_thn (qp_rnd (qp_blk (qp_thn qp_body)))))))))))) (yn (by kernel_rfl)) h (by kernel_rfl) ?_
            refine d_take 41 2199023255551 [0] rfl (v := .bool true) (by kernel_rfl) (qp_thn (qp_thn (qp_blk (qp_thn (qp_rnd (qp_blk (qp_thn (qp_blk (qp_thn (qp_rnd (qp_blk (qp_thn qp_body)))))))))))) (yq (by kernel_rfl) (g_pure (v := .bool true) fun _ => by kernel_rfl)) h (by kernel_rfl) ?_
            refine d_done (by kernel_rfl) ?_
            refine thn_n ?_
            refine c_true (by kernel_rfl) ?_
            refine c_exit ?_
            refine thn_e (blk_e (thn_n ?_))
            refine c_reg ?_
            refine sq_p (.int .i64 (k : Int)) rfl (fun _ => by kernel_rfl) ?_
            refine sq_q rfl h (g_eq (v := .int .i64 (IntKind.i64.wrap ((k : Int) + 1))) (v' := .int .i64 ((k + 1 : Nat) : Int)) (g_pure fun _ => by kernel_rfl) (wr (by omega))) ?_
            refine sq_p (.int .i64 ((k + 1 : Nat) : Int)) rfl (fun _ => by kernel_rfl) ?_
            refine lnil ?_
            refine loop_end (fun j => ⟨(k + 1), j⟩) (show ((k + 1) ≤ (l27.map lkT).length) ∧ ((l27.map lkT).length - (k + 1)) < ((l27.map lkT).length - k) from ⟨by omega, by omega⟩) (by kernel_rfl) [0, 0, 0, 0, 0] (by kernel_rfl) h
          · skip
            subst hc42
            have q44 := hb41.symm
            have q45 : b33 = false := by revert q44; cases b33 <;> simp
            have q46 : b40 = false := by revert q44; cases b33 <;> cases b40 <;> simp
            have q47 : (decide ((k : Int) = (i : Int))) = false := by rw [← hb33]; exact q45
            have q47 := of_decide_eq_false q47
            have q48 : (!((decide (x35.1.1 = x38.1.1)) && (decide (x35.1.2 = x38.1.2)))) = false := by rw [← hb40]; exact q46
            have q49 : ((decide (x35.1.1 = x38.1.1)) && (decide (x35.1.2 = x38.1.2))) = true := by simpa using q48
            have q50 : (decide (x35.1.1 = x38.1.1)) = true := by revert q49; cases (decide (x35.1.1 = x38.1.1)) <;> simp
            have q51 : (decide (x35.1.2 = x38.1.2)) = true := by revert q49; cases (decide (x35.1.1 = x38.1.1)) <;> cases (decide (x35.1.2 = x38.1.2)) <;> simp
            have q50 := of_decide_eq_true q50
            have q51 := of_decide_eq_true q51
            refine d_ready [27] (by kernel_rfl) rfl ?_
            refine ad_call #[.agg #[.int .i64 x38.2.2.1, .int .i64 x38.2.2.2.1], .agg #[.int .i64 x35.2.2.1, .int .i64 x35.2.2.2.1]] [] [0] rfl (by kernel_rfl) (behind_spec x38.2.2.1 x38.2.2.2.1 x35.2.2.1 x35.2.2.2.1 (by omega)) (fun _ => by kernel_rfl) h ?_ ?_
            · skip
              rintro v_ L_ w ⟨rfl, rfl⟩ h
              refine ⟨by kernel_rfl, ?_⟩
              obtain ⟨b52, hb52⟩ : ∃ b_ : Bool, b_ = (decide (x35.2.2.2.1 > 0) && decide (x38.2.2.1 ≥ x35.2.2.1 + x35.2.2.2.1)) := ⟨_, rfl⟩
              refine d_take 28 268435455 [0] rfl (v := .bool b52) (by kernel_rfl) (qp_thn (qp_thn (qp_blk (qp_thn (qp_rnd (qp_blk (qp_thn (qp_blk (qp_thn (qp_rnd (qp_blk (qp_thn qp_body)))))))))))) (yq (by kernel_rfl) (by subst hb52; exact g_pure (v := .bool (decide (x35.2.2.2.1 > 0) && decide (x38.2.2.1 ≥ x35.2.2.1 + x35.2.2.2.1))) fun _ => by kernel_rfl)) h (by kernel_rfl) ?_
              refine d_take 29 536870911 [0] rfl (v := .bool b52) (by kernel_rfl) (qp_thn (qp_thn (qp_blk (qp_thn (qp_rnd (qp_blk (qp_thn (qp_blk (qp_thn (qp_rnd (qp_blk (qp_thn qp_body)))))))))))) (yq (by kernel_rfl) (g_pure (v := .bool b52) fun _ => by kernel_rfl)) h (by kernel_rfl) ?_
              refine d_take 30 1068373114879 [0] rfl (by kernel_rfl) (qp_thn (qp_thn (qp_blk (qp_thn (qp_rnd (qp_blk (qp_thn (qp_blk (qp_thn (qp_rnd (qp_blk (qp_thn qp_body)))))))))))) (ym0 (v := v30) b52 (by cases b52 <;> kernel_rfl) (fun hB => by subst hB; exact g_pure (v := v30) fun _ => by kernel_rfl)) h (by kernel_rfl) ?_
              refine d_take 31 1067299373055 [0] rfl (by kernel_rfl) (qp_thn (qp_thn (qp_blk (qp_thn (qp_rnd (qp_blk (qp_thn (qp_blk (qp_thn (qp_rnd (qp_blk (qp_thn qp_body)))))))))))) (ym0 (v := .int .i64 (k : Int)) b52 (by cases b52 <;> kernel_rfl) (fun hB => by subst hB; exact g_pure (v := .int .i64 (k : Int)) fun _ => by kernel_rfl)) h (by kernel_rfl) ?_
              refine d_take 32 1069446856703 [0] rfl (by kernel_rfl) (qp_thn (qp_thn (qp_blk (qp_thn (qp_rnd (qp_blk (qp_thn (qp_blk (qp_thn (qp_rnd (qp_blk (qp_thn qp_body)))))))))))) (ym0 (v := .pointer (some ⟨blkN v30, offN v30 + k * 6, none⟩)) b52 (by cases b52 <;> kernel_rfl) (fun hB => by subst hB; exact g_idx k (by kernel_rfl) hi34 0 rfl)) h (by kernel_rfl) ?_
              refine d_take 33 1073741823999 [0] rfl (by kernel_rfl) (qp_thn (qp_thn (qp_blk (qp_thn (qp_rnd (qp_blk (qp_thn (qp_blk (qp_thn (qp_rnd (qp_blk (qp_thn qp_body)))))))))))) (ym0 (v := .pointer (some ⟨blkN v30, offN v30 + k * 6 + 3, none⟩)) b52 (by cases b52 <;> kernel_rfl) (fun hB => by subst hB; exact g_pure (v := .pointer (some ⟨blkN v30, offN v30 + k * 6 + 3, none⟩)) fun _ => by kernel_rfl)) h (by kernel_rfl) ?_
              refine d_take 34 1082331758591 [0] rfl (by kernel_rfl) (qp_thn (qp_thn (qp_blk (qp_thn (qp_rnd (qp_blk (qp_thn (qp_blk (qp_thn (qp_rnd (qp_blk (qp_thn qp_body)))))))))))) (ym0 (v := .agg #[.int .i64 x35.2.2.1, .int .i64 x35.2.2.2.1]) b52 (by cases b52 <;> kernel_rfl) (fun hB => by subst hB; exact g_ldr (b := blkN v30) (offN v30 + k * 6 + 3) [.int .i64 x35.2.2.1, .int .i64 x35.2.2.2.1] (.agg #[.int .i64 x35.2.2.1, .int .i64 x35.2.2.2.1]) (by kernel_rfl) 0 rfl (rdRow runC_len hx36 3 (by kernel_rfl)))) h (by kernel_rfl) ?_
              refine d_take 35 103079215103 [0] rfl (by kernel_rfl) (qp_thn (qp_thn (qp_blk (qp_thn (qp_rnd (qp_blk (qp_thn (qp_blk (qp_thn (qp_rnd (qp_blk (qp_thn qp_body)))))))))))) (ym0 (v := v30) b52 (by cases b52 <;> kernel_rfl) (fun hB => by subst hB; exact g_pure (v := v30) fun _ => by kernel_rfl)) h (by kernel_rfl) ?_
              refine d_take 36 68719476735 [0] rfl (by kernel_rfl) (qp_thn (qp_thn (qp_blk (qp_thn (qp_rnd (qp_blk (qp_thn (qp_blk (qp_thn (qp_rnd (qp_blk (qp_thn qp_body)))))))))))) (ym0 (v := .int .i64 (i : Int)) b52 (by cases b52 <;> kernel_rfl) (fun hB => by subst hB; exact g_pure (v := .int .i64 (i : Int)) fun _ => by kernel_rfl)) h (by kernel_rfl) ?_
              refine d_take 37 137438953471 [0] rfl (by kernel_rfl) (qp_thn (qp_thn (qp_blk (qp_thn (qp_rnd (qp_blk (qp_thn (qp_blk (qp_thn (qp_rnd (qp_blk (qp_thn qp_body)))))))))))) (ym0 (v := .pointer (some ⟨blkN v30, offN v30 + i * 6, none⟩)) b52 (by cases b52 <;> kernel_rfl) (fun hB => by subst hB; exact g_idx i (by kernel_rfl) hi37 0 rfl)) h (by kernel_rfl) ?_
              refine d_take 38 274877906943 [0] rfl (by kernel_rfl) (qp_thn (qp_thn (qp_blk (qp_thn (qp_rnd (qp_blk (qp_thn (qp_blk (qp_thn (qp_rnd (qp_blk (qp_thn qp_body)))))))))))) (ym0 (v := .pointer (some ⟨blkN v30, offN v30 + i * 6 + 3, none⟩)) b52 (by cases b52 <;> kernel_rfl) (fun hB => by subst hB; exact g_pure (v := .pointer (some ⟨blkN v30, offN v30 + i * 6 + 3, none⟩)) fun _ => by kernel_rfl)) h (by kernel_rfl) ?_
              refine d_take 39 549755813887 [0] rfl (by kernel_rfl) (qp_thn (qp_thn (qp_blk (qp_thn (qp_rnd (qp_blk (qp_thn (qp_blk (qp_thn (qp_rnd (qp_blk (qp_thn qp_body)))))))))))) (ym0 (v := .agg #[.int .i64 x38.2.2.1, .int .i64 x38.2.2.2.1]) b52 (by cases b52 <;> kernel_rfl) (fun hB => by subst hB; exact g_ldr (b := blkN v30) (offN v30 + i * 6 + 3) [.int .i64 x38.2.2.1, .int .i64 x38.2.2.2.1] (.agg #[.int .i64 x38.2.2.1, .int .i64 x38.2.2.2.1]) (by kernel_rfl) 0 rfl (rdRow runC_len hx39 3 (by kernel_rfl)))) h (by kernel_rfl) ?_
              rcases Bool.eq_false_or_eq_true b52 with hc53 | hc53
              · skip
                subst hc53
                have q54 := hb52.symm
                have q55 : (decide (x35.2.2.2.1 > 0)) = true := by revert q54; cases (decide (x35.2.2.2.1 > 0)) <;> simp
                have q56 : (decide (x38.2.2.1 ≥ x35.2.2.1 + x35.2.2.2.1)) = true := by revert q54; cases (decide (x35.2.2.2.1 > 0)) <;> cases (decide (x38.2.2.1 ≥ x35.2.2.1 + x35.2.2.2.1)) <;> simp
                have q55 := of_decide_eq_true q55
                have q56 := of_decide_eq_true q56
                refine d_take 40 1099511627775 [0] rfl (by kernel_rfl) (qp_thn (qp_thn (qp_blk (qp_thn (qp_rnd (qp_blk (qp_thn (qp_blk (qp_thn (qp_rnd (qp_blk (qp_thn qp_body)))))))))))) (yn (by kernel_rfl)) h (by kernel_rfl) ?_
                refine d_take 41 2199023255551 [0] rfl (v := .bool true) (by kernel_rfl) (qp_thn (qp_thn (qp_blk (qp_thn (qp_rnd (qp_blk (qp_thn (qp_blk (qp_thn (qp_rnd (qp_blk (qp_thn qp_body)))))))))))) (yq (by kernel_rfl) (g_pure (v := .bool true) fun _ => by kernel_rfl)) h (by kernel_rfl) ?_
                refine d_done (by kernel_rfl) ?_
                refine thn_n ?_
                refine c_true (by kernel_rfl) ?_
                refine c_exit ?_
                refine thn_e (blk_e (thn_n ?_))
                refine c_reg ?_
                refine sq_p (.int .i64 (k : Int)) rfl (fun _ => by kernel_rfl) ?_
                refine sq_q rfl h (g_eq (v := .int .i64 (IntKind.i64.wrap ((k : Int) + 1))) (v' := .int .i64 ((k + 1 : Nat) : Int)) (g_pure fun _ => by kernel_rfl) (wr (by omega))) ?_
                refine sq_p (.int .i64 ((k + 1 : Nat) : Int)) rfl (fun _ => by kernel_rfl) ?_
                refine lnil ?_
                refine loop_end (fun j => ⟨(k + 1), j⟩) (show ((k + 1) ≤ (l27.map lkT).length) ∧ ((l27.map lkT).length - (k + 1)) < ((l27.map lkT).length - k) from ⟨by omega, by omega⟩) (by kernel_rfl) [0, 0, 0, 0, 0] (by kernel_rfl) h
              · skip
                subst hc53
                have q57 := hb52.symm
                have q58 : ¬ (x35.2.2.2.1 > 0 ∧ x38.2.2.1 ≥ x35.2.2.1 + x35.2.2.2.1) := fun hh => by rw [decide_eq_true hh.1, decide_eq_true hh.2] at q57; cases q57
                refine d_ready [40] (by kernel_rfl) rfl ?_
                refine ad_call #[.agg #[.int .i64 x35.2.2.1, .int .i64 x35.2.2.2.1], .agg #[.int .i64 x38.2.2.1, .int .i64 x38.2.2.2.1]] [] [0] rfl (by kernel_rfl) (behind_spec x35.2.2.1 x35.2.2.2.1 x38.2.2.1 x38.2.2.2.1 (by omega)) (fun _ => by kernel_rfl) h ?_ ?_
                · skip
                  rintro v_ L_ w ⟨rfl, rfl⟩ h
                  refine ⟨by kernel_rfl, ?_⟩
                  obtain ⟨b59, hb59⟩ : ∃ b_ : Bool, b_ = (decide (x38.2.2.2.1 > 0) && decide (x35.2.2.1 ≥ x38.2.2.1 + x38.2.2.2.1)) := ⟨_, rfl⟩
                  refine d_take 41 2199023255551 [0] rfl (v := .bool b59) (by kernel_rfl) (qp_thn (qp_thn (qp_blk (qp_thn (qp_rnd (qp_blk (qp_thn (qp_blk (qp_thn (qp_rnd (qp_blk (qp_thn qp_body)))))))))))) (yq (by kernel_rfl) (by subst hb59; exact g_pure (v := .bool (decide (x38.2.2.2.1 > 0) && decide (x35.2.2.1 ≥ x38.2.2.1 + x38.2.2.2.1))) fun _ => by kernel_rfl)) h (by kernel_rfl) ?_
                  refine d_done (by kernel_rfl) ?_
                  refine thn_n ?_
                  refine c_cond (b59) (by kernel_rfl) (fun hc60 => ?_) (fun hc60 => ?_)
                  · skip
                    have q61 : ((decide (x38.2.2.2.1 > 0)) && (decide (x35.2.2.1 ≥ x38.2.2.1 + x38.2.2.2.1))) = true := by rw [← hb59]; exact hc60
                    have q62 : (decide (x38.2.2.2.1 > 0)) = true := by revert q61; cases (decide (x38.2.2.2.1 > 0)) <;> simp
                    have q63 : (decide (x35.2.2.1 ≥ x38.2.2.1 + x38.2.2.2.1)) = true := by revert q61; cases (decide (x38.2.2.2.1 > 0)) <;> cases (decide (x35.2.2.1 ≥ x38.2.2.1 + x38.2.2.2.1)) <;> simp
                    have q62 := of_decide_eq_true q62
                    have q63 := of_decide_eq_true q63
                    refine c_exit ?_
                    refine thn_e (blk_e (thn_n ?_))
                    refine c_reg ?_
                    refine sq_p (.int .i64 (k : Int)) rfl (fun _ => by kernel_rfl) ?_
                    refine sq_q rfl h (g_eq (v := .int .i64 (IntKind.i64.wrap ((k : Int) + 1))) (v' := .int .i64 ((k + 1 : Nat) : Int)) (g_pure fun _ => by kernel_rfl) (wr (by omega))) ?_
                    refine sq_p (.int .i64 ((k + 1 : Nat) : Int)) rfl (fun _ => by kernel_rfl) ?_
                    refine lnil ?_
                    refine loop_end (fun j => ⟨(k + 1), j⟩) (show ((k + 1) ≤ (l27.map lkT).length) ∧ ((l27.map lkT).length - (k + 1)) < ((l27.map lkT).length - k) from ⟨by omega, by omega⟩) (by kernel_rfl) [0, 0, 0, 0, 0] (by kernel_rfl) h
                  · skip
                    have q64 : ((decide (x38.2.2.2.1 > 0)) && (decide (x35.2.2.1 ≥ x38.2.2.1 + x38.2.2.2.1))) = false := by rw [← hb59]; exact hc60
                    have q65 : ¬ (x38.2.2.2.1 > 0 ∧ x35.2.2.1 ≥ x38.2.2.1 + x38.2.2.2.1) := fun hh => by rw [decide_eq_true hh.1, decide_eq_true hh.2] at q64; cases q64
                    refine c_skip ?_
                    refine thn_n ?_
                    refine c_seq ?_
                    refine d_start 25 [0] (by kernel_rfl) h fun w h => ?_
                    refine d_take 0 994 [0] rfl (v := v30) (by kernel_rfl) (qp_thn (qp_blk (qp_thn (qp_rnd (qp_blk (qp_thn (qp_blk (qp_thn (qp_rnd (qp_blk (qp_thn qp_body))))))))))) (yq (by kernel_rfl) (g_pure (v := v30) fun _ => by kernel_rfl)) h (by kernel_rfl) ?_
                    refine d_take 1 993 [0] rfl (v := .int .i64 (k : Int)) (by kernel_rfl) (qp_thn (qp_blk (qp_thn (qp_rnd (qp_blk (qp_thn (qp_blk (qp_thn (qp_rnd (qp_blk (qp_thn qp_body))))))))))) (yq (by kernel_rfl) (g_pure (v := .int .i64 (k : Int)) fun _ => by kernel_rfl)) h (by kernel_rfl) ?_
                    refine d_take 2 995 [0] rfl (v := .pointer (some ⟨blkN v30, offN v30 + k * 6, none⟩)) (by kernel_rfl) (qp_thn (qp_blk (qp_thn (qp_rnd (qp_blk (qp_thn (qp_blk (qp_thn (qp_rnd (qp_blk (qp_thn qp_body))))))))))) (yq (by kernel_rfl) (g_idx k (by kernel_rfl) hi34 0 rfl)) h (by kernel_rfl) ?_
                    refine d_take 3 999 [0] rfl (v := .pointer (some ⟨blkN v30, offN v30 + k * 6 + 2, none⟩)) (by kernel_rfl) (qp_thn (qp_blk (qp_thn (qp_rnd (qp_blk (qp_thn (qp_blk (qp_thn (qp_rnd (qp_blk (qp_thn qp_body))))))))))) (yq (by kernel_rfl) (g_pure (v := .pointer (some ⟨blkN v30, offN v30 + k * 6 + 2, none⟩)) fun _ => by kernel_rfl)) h (by kernel_rfl) ?_
                    refine d_take 4 1007 [0] rfl (v := .int .i64 x35.2.1) (by kernel_rfl) (qp_thn (qp_blk (qp_thn (qp_rnd (qp_blk (qp_thn (qp_blk (qp_thn (qp_rnd (qp_blk (qp_thn qp_body))))))))))) (yq (by kernel_rfl) (g_ldr (b := blkN v30) (offN v30 + k * 6 + 2) [.int .i64 x35.2.1] (.int .i64 x35.2.1) (by kernel_rfl) 0 rfl (rdRow runC_len hx36 2 (by kernel_rfl)))) h (by kernel_rfl) ?_
                    refine d_take 5 95 [0] rfl (v := v30) (by kernel_rfl) (qp_thn (qp_blk (qp_thn (qp_rnd (qp_blk (qp_thn (qp_blk (qp_thn (qp_rnd (qp_blk (qp_thn qp_body))))))))))) (yq (by kernel_rfl) (g_pure (v := v30) fun _ => by kernel_rfl)) h (by kernel_rfl) ?_
                    refine d_take 6 63 [0] rfl (v := .int .i64 (i : Int)) (by kernel_rfl) (qp_thn (qp_blk (qp_thn (qp_rnd (qp_blk (qp_thn (qp_blk (qp_thn (qp_rnd (qp_blk (qp_thn qp_body))))))))))) (yq (by kernel_rfl) (g_pure (v := .int .i64 (i : Int)) fun _ => by kernel_rfl)) h (by kernel_rfl) ?_
                    refine d_take 7 127 [0] rfl (v := .pointer (some ⟨blkN v30, offN v30 + i * 6, none⟩)) (by kernel_rfl) (qp_thn (qp_blk (qp_thn (qp_rnd (qp_blk (qp_thn (qp_blk (qp_thn (qp_rnd (qp_blk (qp_thn qp_body))))))))))) (yq (by kernel_rfl) (g_idx i (by kernel_rfl) hi37 0 rfl)) h (by kernel_rfl) ?_
                    refine d_take 8 255 [0] rfl (v := .pointer (some ⟨blkN v30, offN v30 + i * 6 + 2, none⟩)) (by kernel_rfl) (qp_thn (qp_blk (qp_thn (qp_rnd (qp_blk (qp_thn (qp_blk (qp_thn (qp_rnd (qp_blk (qp_thn qp_body))))))))))) (yq (by kernel_rfl) (g_pure (v := .pointer (some ⟨blkN v30, offN v30 + i * 6 + 2, none⟩)) fun _ => by kernel_rfl)) h (by kernel_rfl) ?_
                    refine d_take 9 511 [0] rfl (v := .int .i64 x38.2.1) (by kernel_rfl) (qp_thn (qp_blk (qp_thn (qp_rnd (qp_blk (qp_thn (qp_blk (qp_thn (qp_rnd (qp_blk (qp_thn qp_body))))))))))) (yq (by kernel_rfl) (g_ldr (b := blkN v30) (offN v30 + i * 6 + 2) [.int .i64 x38.2.1] (.int .i64 x38.2.1) (by kernel_rfl) 0 rfl (rdRow runC_len hx39 2 (by kernel_rfl)))) h (by kernel_rfl) ?_
                    obtain ⟨b66, hb66⟩ : ∃ b_ : Bool, b_ = (decide (x35.2.1 = x38.2.1)) := ⟨_, rfl⟩
                    refine d_take 10 1023 [0] rfl (v := .bool b66) (by kernel_rfl) (qp_thn (qp_blk (qp_thn (qp_rnd (qp_blk (qp_thn (qp_blk (qp_thn (qp_rnd (qp_blk (qp_thn qp_body))))))))))) (yq (by kernel_rfl) (by subst hb66; exact g_pure (v := .bool (decide (x35.2.1 = x38.2.1))) fun _ => by kernel_rfl)) h (by kernel_rfl) ?_
                    refine d_take 11 2047 [0] rfl (v := .bool b66) (by kernel_rfl) (qp_thn (qp_blk (qp_thn (qp_rnd (qp_blk (qp_thn (qp_blk (qp_thn (qp_rnd (qp_blk (qp_thn qp_body))))))))))) (yq (by kernel_rfl) (g_pure (v := .bool b66) fun _ => by kernel_rfl)) h (by kernel_rfl) ?_
                    refine d_take 12 12287 [0] rfl (by kernel_rfl) (qp_thn (qp_blk (qp_thn (qp_rnd (qp_blk (qp_thn (qp_blk (qp_thn (qp_rnd (qp_blk (qp_thn qp_body))))))))))) (ym0 (v := v30) b66 (by cases b66 <;> kernel_rfl) (fun hB => by subst hB; exact g_pure (v := v30) fun _ => by kernel_rfl)) h (by kernel_rfl) ?_
                    refine d_take 13 8191 [0] rfl (by kernel_rfl) (qp_thn (qp_blk (qp_thn (qp_rnd (qp_blk (qp_thn (qp_blk (qp_thn (qp_rnd (qp_blk (qp_thn qp_body))))))))))) (ym0 (v := .int .i64 (k : Int)) b66 (by cases b66 <;> kernel_rfl) (fun hB => by subst hB; exact g_pure (v := .int .i64 (k : Int)) fun _ => by kernel_rfl)) h (by kernel_rfl) ?_
                    refine d_take 14 16383 [0] rfl (by kernel_rfl) (qp_thn (qp_blk (qp_thn (qp_rnd (qp_blk (qp_thn (qp_blk (qp_thn (qp_rnd (qp_blk (qp_thn qp_body))))))))))) (ym0 (v := .pointer (some ⟨blkN v30, offN v30 + k * 6, none⟩)) b66 (by cases b66 <;> kernel_rfl) (fun hB => by subst hB; exact g_idx k (by kernel_rfl) hi34 0 rfl)) h (by kernel_rfl) ?_
                    refine d_take 15 32767 [0] rfl (by kernel_rfl) (qp_thn (qp_blk (qp_thn (qp_rnd (qp_blk (qp_thn (qp_blk (qp_thn (qp_rnd (qp_blk (qp_thn qp_body))))))))))) (ym0 (v := .pointer (some ⟨blkN v30, offN v30 + k * 6 + 5, none⟩)) b66 (by cases b66 <;> kernel_rfl) (fun hB => by subst hB; exact g_pure (v := .pointer (some ⟨blkN v30, offN v30 + k * 6 + 5, none⟩)) fun _ => by kernel_rfl)) h (by kernel_rfl) ?_
                    refine d_take 16 65535 [0] rfl (by kernel_rfl) (qp_thn (qp_blk (qp_thn (qp_rnd (qp_blk (qp_thn (qp_blk (qp_thn (qp_rnd (qp_blk (qp_thn qp_body))))))))))) (ym0 (v := .bool x35.2.2.2.2) b66 (by cases b66 <;> kernel_rfl) (fun hB => by subst hB; exact g_ldr (b := blkN v30) (offN v30 + k * 6 + 5) [.bool x35.2.2.2.2] (.bool x35.2.2.2.2) (by kernel_rfl) 0 rfl (rdRow runC_len hx36 5 (by kernel_rfl)))) h (by kernel_rfl) ?_
                    obtain ⟨b67, hb67⟩ : ∃ b_ : Bool, b_ = (b66 || x35.2.2.2.2) := ⟨_, rfl⟩
                    refine d_take 17 131071 [0] rfl (v := .bool b67) (by kernel_rfl) (qp_thn (qp_blk (qp_thn (qp_rnd (qp_blk (qp_thn (qp_blk (qp_thn (qp_rnd (qp_blk (qp_thn qp_body))))))))))) (yq (by kernel_rfl) (by subst hb67; exact g_pure (v := .bool (b66 || x35.2.2.2.2)) fun _ => by cases b66 <;> kernel_rfl)) h (by kernel_rfl) ?_
                    refine d_take 18 262143 [0] rfl (v := .bool b67) (by kernel_rfl) (qp_thn (qp_blk (qp_thn (qp_rnd (qp_blk (qp_thn (qp_blk (qp_thn (qp_rnd (qp_blk (qp_thn qp_body))))))))))) (yq (by kernel_rfl) (g_pure (v := .bool b67) fun _ => by kernel_rfl)) h (by kernel_rfl) ?_
                    refine d_take 19 1572863 [0] rfl (by kernel_rfl) (qp_thn (qp_blk (qp_thn (qp_rnd (qp_blk (qp_thn (qp_blk (qp_thn (qp_rnd (qp_blk (qp_thn qp_body))))))))))) (ym0 (v := v30) b67 (by cases b67 <;> kernel_rfl) (fun hB => by subst hB; exact g_pure (v := v30) fun _ => by kernel_rfl)) h (by kernel_rfl) ?_
                    refine d_take 20 1048575 [0] rfl (by kernel_rfl) (qp_thn (qp_blk (qp_thn (qp_rnd (qp_blk (qp_thn (qp_blk (qp_thn (qp_rnd (qp_blk (qp_thn qp_body))))))))))) (ym0 (v := .int .i64 (i : Int)) b67 (by cases b67 <;> kernel_rfl) (fun hB => by subst hB; exact g_pure (v := .int .i64 (i : Int)) fun _ => by kernel_rfl)) h (by kernel_rfl) ?_
                    refine d_take 21 2097151 [0] rfl (by kernel_rfl) (qp_thn (qp_blk (qp_thn (qp_rnd (qp_blk (qp_thn (qp_blk (qp_thn (qp_rnd (qp_blk (qp_thn qp_body))))))))))) (ym0 (v := .pointer (some ⟨blkN v30, offN v30 + i * 6, none⟩)) b67 (by cases b67 <;> kernel_rfl) (fun hB => by subst hB; exact g_idx i (by kernel_rfl) hi37 0 rfl)) h (by kernel_rfl) ?_
                    refine d_take 22 4194303 [0] rfl (by kernel_rfl) (qp_thn (qp_blk (qp_thn (qp_rnd (qp_blk (qp_thn (qp_blk (qp_thn (qp_rnd (qp_blk (qp_thn qp_body))))))))))) (ym0 (v := .pointer (some ⟨blkN v30, offN v30 + i * 6 + 5, none⟩)) b67 (by cases b67 <;> kernel_rfl) (fun hB => by subst hB; exact g_pure (v := .pointer (some ⟨blkN v30, offN v30 + i * 6 + 5, none⟩)) fun _ => by kernel_rfl)) h (by kernel_rfl) ?_
                    refine d_take 23 8388607 [0] rfl (by kernel_rfl) (qp_thn (qp_blk (qp_thn (qp_rnd (qp_blk (qp_thn (qp_blk (qp_thn (qp_rnd (qp_blk (qp_thn qp_body))))))))))) (ym0 (v := .bool x38.2.2.2.2) b67 (by cases b67 <;> kernel_rfl) (fun hB => by subst hB; exact g_ldr (b := blkN v30) (offN v30 + i * 6 + 5) [.bool x38.2.2.2.2] (.bool x38.2.2.2.2) (by kernel_rfl) 0 rfl (rdRow runC_len hx39 5 (by kernel_rfl)))) h (by kernel_rfl) ?_
                    obtain ⟨b68, hb68⟩ : ∃ b_ : Bool, b_ = (b67 || x38.2.2.2.2) := ⟨_, rfl⟩
                    refine d_take 24 16777215 [0] rfl (v := .bool b68) (by kernel_rfl) (qp_thn (qp_blk (qp_thn (qp_rnd (qp_blk (qp_thn (qp_blk (qp_thn (qp_rnd (qp_blk (qp_thn qp_body))))))))))) (yq (by kernel_rfl) (by subst hb68; exact g_pure (v := .bool (b67 || x38.2.2.2.2)) fun _ => by cases b67 <;> kernel_rfl)) h (by kernel_rfl) ?_
                    refine d_done (by kernel_rfl) ?_
                    refine thn_n ?_
                    refine c_cond (b68) (by kernel_rfl) (fun hc69 => ?_) (fun hc69 => ?_)
                    · skip
                      have q70 : (b67 || x38.2.2.2.2) = true := by rw [← hb68]; exact hc69
                      obtain ⟨m1, m2, m3⟩ := lk_meet hRL hx39 hx36 (by omega) (by omega) (by omega) (by omega) (by omega)
                      exfalso; revert hc69; subst hb68 hb67 hb66; simp [m1, m2, m3]
                    · skip
                      have q71 : (b67 || x38.2.2.2.2) = false := by rw [← hb68]; exact hc69
                      have q72 : b67 = false := by revert q71; cases b67 <;> simp
                      have q73 : x38.2.2.2.2 = false := by revert q71; cases b67 <;> cases x38.2.2.2.2 <;> simp
                      have q74 : (b66 || x35.2.2.2.2) = false := by rw [← hb67]; exact q72
                      have q75 : b66 = false := by revert q74; cases b66 <;> simp
                      have q76 : x35.2.2.2.2 = false := by revert q74; cases b66 <;> cases x35.2.2.2.2 <;> simp
                      have q77 : (decide (x35.2.1 = x38.2.1)) = false := by rw [← hb66]; exact q75
                      have q77 := of_decide_eq_false q77
                      refine c_skip ?_
                      refine blk_n (thn_n ?_)
                      refine c_reg ?_
                      refine sq_p (.int .i64 (k : Int)) rfl (fun _ => by kernel_rfl) ?_
                      refine sq_q rfl h (g_eq (v := .int .i64 (IntKind.i64.wrap ((k : Int) + 1))) (v' := .int .i64 ((k + 1 : Nat) : Int)) (g_pure fun _ => by kernel_rfl) (wr (by omega))) ?_
                      refine sq_p (.int .i64 ((k + 1 : Nat) : Int)) rfl (fun _ => by kernel_rfl) ?_
                      refine lnil ?_
                      refine loop_end (fun j => ⟨(k + 1), j⟩) (show ((k + 1) ≤ (l27.map lkT).length) ∧ ((l27.map lkT).length - (k + 1)) < ((l27.map lkT).length - k) from ⟨by omega, by omega⟩) (by kernel_rfl) [0, 0, 0, 0, 0] (by kernel_rfl) h
                exact ad_nil
            exact ad_nil
        · skip
          have hc32 := of_decide_eq_false hc32
          refine c_exit ?_
          refine thn_e (rnd_e (blk_e (thn_n ?_)))
          refine c_seq ?_
          refine c_reg ?_
          refine sq_p (.int .i64 0) rfl (fun _ => by kernel_rfl) ?_
          refine lnil ?_
          refine thn_n ?_
          refine c_block ?_
          refine c_loop (X := Nat × (Nat → Value)) (fun ⟨m, J3⟩ => ⟨#[v, undef, J3 2, .bool true, .pointer (some ⟨k5, 0, none⟩), .int .i64 (n0 : Int), J0 6, v30, .int .i64 (i : Int), .int .i64 (k : Int), .int .i64 (m : Int), J3 11, .bool true, .bool true, .bool false, .bool false, v, .int .i64 (acts.length : Int), .bool b1, .bool b1, undef, .agg #[.slice none 0 0], .pointer (some ⟨k5, 0, none⟩), .int .i64 (n0 : Int), v, .int .i64 (acts.length : Int), .bool (decide ((n0 : Int) < (acts.length : Int))), J0 27, J0 28, J0 29, J0 30, J0 31, J0 32, J0 33, J0 34, J0 35, J0 36, J0 37, J0 38, J0 39, J0 40, J0 41, J0 42, J0 43, J0 44, J0 45, J0 46, J0 47, J0 48, J0 49, J0 50, J0 51, J0 52, J0 53, J0 54, J0 55, J0 56, J0 57, J0 58, J0 59, J0 60, J0 61, J0 62, J0 63, J0 64, J0 65, J0 66, J0 67, .pointer (some ⟨k5, 0, none⟩), v30, .int .i64 (i : Int), v30, .int .i64 ((l27.map lkT).length : Int), .bool (decide ((i : Int) < ((l27.map lkT).length : Int))), J1 74, J1 75, .int .i64 (k : Int), v30, .int .i64 ((l27.map lkT).length : Int), .bool (decide ((k : Int) < ((l27.map lkT).length : Int))), J2 80, J2 81, J2 82, J2 83, J2 84, J2 85, J2 86, J2 87, J2 88, J2 89, J2 90, J2 91, J2 92, J2 93, J2 94, J2 95, J2 96, J2 97, J2 98, J2 99, J2 100, J2 101, J2 102, J2 103, J2 104, J2 105, J2 106, J2 107, J2 108, J2 109, J2 110, J2 111, J2 112, J2 113, J2 114, J2 115, J2 116, J2 117, J2 118, J2 119, J2 120, J2 121, J2 122, J2 123, J2 124, J2 125, J2 126, J2 127, J2 128, J2 129, J2 130, J2 131, J2 132, J2 133, J2 134, J2 135, J2 136, J2 137, J2 138, J2 139, J2 140, J2 141, J2 142, J2 143, J2 144, J2 145, J2 146, J2 147, J2 148, J3 149, J3 150, J3 151, J3 152, J3 153, J3 154, J3 155, J3 156, J3 157, J3 158, J3 159, J3 160, J3 161, J3 162, J3 163, J3 164, J3 165, J3 166, J3 167, J3 168, J3 169, J3 170, J3 171, J3 172, J3 173, J3 174, J3 175, J3 176, J3 177, J3 178, J3 179, J3 180, J3 181, J3 182, J3 183, J3 184, J3 185, J3 186, J3 187, J3 188, J3 189, J3 190, J3 191, J3 192, J3 193, J3 194, J3 195, J3 196, J3 197, J3 198, J3 199, J3 200, J3 201, J3 202, J3 203, J3 204, J3 205, J3 206, J3 207, J3 208, J3 209, J3 210, J3 211, J3 212, J3 213, J3 214, J3 215, J3 216, J3 217, J3 218, J3 219, J3 220, J3 221, J3 222, undef, undef, undef], []⟩)
            (fun ⟨m, J3⟩ => [rRows true v30 99 6 runC (l27.map lkT), rCell true k5 [vt] 93, rRows true vt 217 6 runC lt, rEnv B ad [2, 9, 11], rArg v 7 lactC acts]) (fun ⟨m, J3⟩ => m ≤ i) (fun ⟨m, J3⟩ => i - m)
            ⟨0, (fun n => (#[v, undef, J2 2, .bool true, .pointer (some ⟨k5, 0, none⟩), .int .i64 (n0 : Int), J0 6, v30, .int .i64 (i : Int), .int .i64 (k : Int), .int .i64 0, J1 11, .bool true, .bool true, .bool false, .bool false, v, .int .i64 (acts.length : Int), .bool b1, .bool b1, undef, .agg #[.slice none 0 0], .pointer (some ⟨k5, 0, none⟩), .int .i64 (n0 : Int), v, .int .i64 (acts.length : Int), .bool (decide ((n0 : Int) < (acts.length : Int))), J0 27, J0 28, J0 29, J0 30, J0 31, J0 32, J0 33, J0 34, J0 35, J0 36, J0 37, J0 38, J0 39, J0 40, J0 41, J0 42, J0 43, J0 44, J0 45, J0 46, J0 47, J0 48, J0 49, J0 50, J0 51, J0 52, J0 53, J0 54, J0 55, J0 56, J0 57, J0 58, J0 59, J0 60, J0 61, J0 62, J0 63, J0 64, J0 65, J0 66, J0 67, .pointer (some ⟨k5, 0, none⟩), v30, .int .i64 (i : Int), v30, .int .i64 ((l27.map lkT).length : Int), .bool (decide ((i : Int) < ((l27.map lkT).length : Int))), J1 74, J1 75, .int .i64 (k : Int), v30, .int .i64 ((l27.map lkT).length : Int), .bool (decide ((k : Int) < ((l27.map lkT).length : Int))), J2 80, J2 81, J2 82, J2 83, J2 84, J2 85, J2 86, J2 87, J2 88, J2 89, J2 90, J2 91, J2 92, J2 93, J2 94, J2 95, J2 96, J2 97, J2 98, J2 99, J2 100, J2 101, J2 102, J2 103, J2 104, J2 105, J2 106, J2 107, J2 108, J2 109, J2 110, J2 111, J2 112, J2 113, J2 114, J2 115, J2 116, J2 117, J2 118, J2 119, J2 120, J2 121, J2 122, J2 123, J2 124, J2 125, J2 126, J2 127, J2 128, J2 129, J2 130, J2 131, J2 132, J2 133, J2 134, J2 135, J2 136, J2 137, J2 138, J2 139, J2 140, J2 141, J2 142, J2 143, J2 144, J2 145, J2 146, J2 147, J2 148, J1 149, J1 150, J1 151, J1 152, J1 153, J1 154, J1 155, J1 156, J1 157, J1 158, J1 159, J1 160, J1 161, J1 162, J1 163, J1 164, J1 165, J1 166, J1 167, J1 168, J1 169, J1 170, J1 171, J1 172, J1 173, J1 174, J1 175, J1 176, J1 177, J1 178, J1 179, J1 180, J1 181, J1 182, J1 183, J1 184, J1 185, J1 186, J1 187, J1 188, J1 189, J1 190, J1 191, J1 192, J1 193, J1 194, J1 195, J1 196, J1 197, J1 198, J1 199, J1 200, J1 201, J1 202, J1 203, J1 204, J1 205, J1 206, J1 207, J1 208, J1 209, J1 210, J1 211, J1 212, J1 213, J1 214, J1 215, J1 216, J1 217, J1 218, J1 219, J1 220, J1 221, J1 222, undef, undef, undef] : Array Value).getD n undef)⟩ (by omega) (by kernel_rfl) [0, 0, 0, 0, 0] (by kernel_rfl) h ?_
          rintro ⟨m, J3⟩ w hG h
          have hm0 : m ≤ i := hG
          refine c_seq ?_
          refine c_seq ?_
          refine c_reg ?_
          refine sq_p (.int .i64 (m : Int)) rfl (fun _ => by kernel_rfl) ?_
          refine sq_p (.int .i64 (i : Int)) rfl (fun _ => by kernel_rfl) ?_
          refine sq_p (.bool (decide ((m : Int) < (i : Int)))) rfl (fun _ => by kernel_rfl) ?_
          refine lnil ?_
          refine thn_n ?_
          refine c_cond (decide ((m : Int) < (i : Int))) (by kernel_rfl) (fun hc78 => ?_) (fun hc78 => ?_)
          · skip
            have hc78 := of_decide_eq_true hc78
            refine c_skip ?_
            refine thn_n ?_
            refine c_seq ?_
            refine c_block ?_
            refine c_seq ?_
            refine d_start 30 [0] (by kernel_rfl) h fun w h => ?_
            refine d_take 0 2 [0] rfl (v := v30) (by kernel_rfl) (qp_thn (qp_blk (qp_thn (qp_rnd (qp_blk (qp_blk (qp_thn (qp_rnd (qp_blk (qp_thn qp_body)))))))))) (yq (by kernel_rfl) (g_pure (v := v30) fun _ => by kernel_rfl)) h (by kernel_rfl) ?_
            refine d_take 1 1 [0] rfl (v := .int .i64 (m : Int)) (by kernel_rfl) (qp_thn (qp_blk (qp_thn (qp_rnd (qp_blk (qp_blk (qp_thn (qp_rnd (qp_blk (qp_thn qp_body)))))))))) (yq (by kernel_rfl) (g_pure (v := .int .i64 (m : Int)) fun _ => by kernel_rfl)) h (by kernel_rfl) ?_
            have hi79 : m < (l27.map lkT).length := by omega
            obtain ⟨x80, hx81⟩ : ∃ x, (l27.map lkT)[m]? = some x := ⟨_, List.getElem?_eq_getElem hi79⟩
            have hBx80 : LkB x80 := by obtain ⟨y, hy, e⟩ := lk_get hx81; rw [e]; exact lkB (hRL.bnd _ (List.mem_of_getElem? hy))
            obtain ⟨hBx80a, hBx80b, hBx80c, hBx80d⟩ := hBx80
            refine d_take 2 3 [0] rfl (v := .pointer (some ⟨blkN v30, offN v30 + m * 6, none⟩)) (by kernel_rfl) (qp_thn (qp_blk (qp_thn (qp_rnd (qp_blk (qp_blk (qp_thn (qp_rnd (qp_blk (qp_thn qp_body)))))))))) (yq (by kernel_rfl) (g_idx m (by kernel_rfl) hi79 0 rfl)) h (by kernel_rfl) ?_
            refine d_take 3 7 [0] rfl (v := .pointer (some ⟨blkN v30, offN v30 + m * 6 + 3, none⟩)) (by kernel_rfl) (qp_thn (qp_blk (qp_thn (qp_rnd (qp_blk (qp_blk (qp_thn (qp_rnd (qp_blk (qp_thn qp_body)))))))))) (yq (by kernel_rfl) (g_pure (v := .pointer (some ⟨blkN v30, offN v30 + m * 6 + 3, none⟩)) fun _ => by kernel_rfl)) h (by kernel_rfl) ?_
            refine d_take 4 15 [0] rfl (v := .pointer (some ⟨blkN v30, offN v30 + m * 6 + 4, none⟩)) (by kernel_rfl) (qp_thn (qp_blk (qp_thn (qp_rnd (qp_blk (qp_blk (qp_thn (qp_rnd (qp_blk (qp_thn qp_body)))))))))) (yq (by kernel_rfl) (g_pure (v := .pointer (some ⟨blkN v30, offN v30 + m * 6 + 4, none⟩)) fun _ => by kernel_rfl)) h (by kernel_rfl) ?_
            refine d_take 5 31 [0] rfl (v := .int .i64 x80.2.2.2.1) (by kernel_rfl) (qp_thn (qp_blk (qp_thn (qp_rnd (qp_blk (qp_blk (qp_thn (qp_rnd (qp_blk (qp_thn qp_body)))))))))) (yq (by kernel_rfl) (g_ldr (b := blkN v30) (offN v30 + m * 6 + 4) [.int .i64 x80.2.2.2.1] (.int .i64 x80.2.2.2.1) (by kernel_rfl) 0 rfl (rdRow runC_len hx81 4 (by kernel_rfl)))) h (by kernel_rfl) ?_
            obtain ⟨b82, hb82⟩ : ∃ b_ : Bool, b_ = (decide (x80.2.2.2.1 > 0)) := ⟨_, rfl⟩
            refine d_take 6 63 [0] rfl (v := .bool b82) (by kernel_rfl) (qp_thn (qp_blk (qp_thn (qp_rnd (qp_blk (qp_blk (qp_thn (qp_rnd (qp_blk (qp_thn qp_body)))))))))) (yq (by kernel_rfl) (by subst hb82; exact g_pure (v := .bool (decide (x80.2.2.2.1 > 0))) fun _ => by kernel_rfl)) h (by kernel_rfl) ?_
            refine d_take 7 127 [0] rfl (v := .bool b82) (by kernel_rfl) (qp_thn (qp_blk (qp_thn (qp_rnd (qp_blk (qp_blk (qp_thn (qp_rnd (qp_blk (qp_thn qp_body)))))))))) (yq (by kernel_rfl) (g_pure (v := .bool b82) fun _ => by kernel_rfl)) h (by kernel_rfl) ?_
            refine d_take 8 133153535 [0] rfl (by kernel_rfl) (qp_thn (qp_blk (qp_thn (qp_rnd (qp_blk (qp_blk (qp_thn (qp_rnd (qp_blk (qp_thn qp_body)))))))))) (ym1 (v := v30) b82 (by cases b82 <;> kernel_rfl) (fun hB => by subst hB; exact g_pure (v := v30) fun _ => by kernel_rfl)) h (by kernel_rfl) ?_
            refine d_take 9 133153279 [0] rfl (by kernel_rfl) (qp_thn (qp_blk (qp_thn (qp_rnd (qp_blk (qp_blk (qp_thn (qp_rnd (qp_blk (qp_thn qp_body)))))))))) (ym1 (v := .int .i64 (m : Int)) b82 (by cases b82 <;> kernel_rfl) (fun hB => by subst hB; exact g_pure (v := .int .i64 (m : Int)) fun _ => by kernel_rfl)) h (by kernel_rfl) ?_
            refine d_take 10 133153791 [0] rfl (by kernel_rfl) (qp_thn (qp_blk (qp_thn (qp_rnd (qp_blk (qp_blk (qp_thn (qp_rnd (qp_blk (qp_thn qp_body)))))))))) (ym1 (v := .pointer (some ⟨blkN v30, offN v30 + m * 6, none⟩)) b82 (by cases b82 <;> kernel_rfl) (fun hB => by subst hB; exact g_idx m (by kernel_rfl) hi79 0 rfl)) h (by kernel_rfl) ?_
            refine d_take 11 133154815 [0] rfl (by kernel_rfl) (qp_thn (qp_blk (qp_thn (qp_rnd (qp_blk (qp_blk (qp_thn (qp_rnd (qp_blk (qp_thn qp_body)))))))))) (ym1 (v := .pointer (some ⟨blkN v30, offN v30 + m * 6 + 3, none⟩)) b82 (by cases b82 <;> kernel_rfl) (fun hB => by subst hB; exact g_pure (v := .pointer (some ⟨blkN v30, offN v30 + m * 6 + 3, none⟩)) fun _ => by kernel_rfl)) h (by kernel_rfl) ?_
            refine d_take 12 133156863 [0] rfl (by kernel_rfl) (qp_thn (qp_blk (qp_thn (qp_rnd (qp_blk (qp_blk (qp_thn (qp_rnd (qp_blk (qp_thn qp_body)))))))))) (ym1 (v := .pointer (some ⟨blkN v30, offN v30 + m * 6 + 3, none⟩)) b82 (by cases b82 <;> kernel_rfl) (fun hB => by subst hB; exact g_pure (v := .pointer (some ⟨blkN v30, offN v30 + m * 6 + 3, none⟩)) fun _ => by kernel_rfl)) h (by kernel_rfl) ?_
            refine d_take 13 133160959 [0] rfl (by kernel_rfl) (qp_thn (qp_blk (qp_thn (qp_rnd (qp_blk (qp_blk (qp_thn (qp_rnd (qp_blk (qp_thn qp_body)))))))))) (ym1 (v := .int .i64 x80.2.2.1) b82 (by cases b82 <;> kernel_rfl) (fun hB => by subst hB; exact g_ldr (b := blkN v30) (offN v30 + m * 6 + 3) [.int .i64 x80.2.2.1] (.int .i64 x80.2.2.1) (by kernel_rfl) 0 rfl (rdRow runC_len hx81 3 (by kernel_rfl)))) h (by kernel_rfl) ?_
            refine d_take 14 132169727 [0] rfl (by kernel_rfl) (qp_thn (qp_blk (qp_thn (qp_rnd (qp_blk (qp_blk (qp_thn (qp_rnd (qp_blk (qp_thn qp_body)))))))))) (ym1 (v := v30) b82 (by cases b82 <;> kernel_rfl) (fun hB => by subst hB; exact g_pure (v := v30) fun _ => by kernel_rfl)) h (by kernel_rfl) ?_
            refine d_take 15 132153343 [0] rfl (by kernel_rfl) (qp_thn (qp_blk (qp_thn (qp_rnd (qp_blk (qp_blk (qp_thn (qp_rnd (qp_blk (qp_thn qp_body)))))))))) (ym1 (v := .int .i64 (m : Int)) b82 (by cases b82 <;> kernel_rfl) (fun hB => by subst hB; exact g_pure (v := .int .i64 (m : Int)) fun _ => by kernel_rfl)) h (by kernel_rfl) ?_
            refine d_take 16 132186111 [0] rfl (by kernel_rfl) (qp_thn (qp_blk (qp_thn (qp_rnd (qp_blk (qp_blk (qp_thn (qp_rnd (qp_blk (qp_thn qp_body)))))))))) (ym1 (v := .pointer (some ⟨blkN v30, offN v30 + m * 6, none⟩)) b82 (by cases b82 <;> kernel_rfl) (fun hB => by subst hB; exact g_idx m (by kernel_rfl) hi79 0 rfl)) h (by kernel_rfl) ?_
            refine d_take 17 132251647 [0] rfl (by kernel_rfl) (qp_thn (qp_blk (qp_thn (qp_rnd (qp_blk (qp_blk (qp_thn (qp_rnd (qp_blk (qp_thn qp_body)))))))))) (ym1 (v := .pointer (some ⟨blkN v30, offN v30 + m * 6 + 3, none⟩)) b82 (by cases b82 <;> kernel_rfl) (fun hB => by subst hB; exact g_pure (v := .pointer (some ⟨blkN v30, offN v30 + m * 6 + 3, none⟩)) fun _ => by kernel_rfl)) h (by kernel_rfl) ?_
            refine d_take 18 132382719 [0] rfl (by kernel_rfl) (qp_thn (qp_blk (qp_thn (qp_rnd (qp_blk (qp_blk (qp_thn (qp_rnd (qp_blk (qp_thn qp_body)))))))))) (ym1 (v := .pointer (some ⟨blkN v30, offN v30 + m * 6 + 4, none⟩)) b82 (by cases b82 <;> kernel_rfl) (fun hB => by subst hB; exact g_pure (v := .pointer (some ⟨blkN v30, offN v30 + m * 6 + 4, none⟩)) fun _ => by kernel_rfl)) h (by kernel_rfl) ?_
            refine d_take 19 132644863 [0] rfl (by kernel_rfl) (qp_thn (qp_blk (qp_thn (qp_rnd (qp_blk (qp_blk (qp_thn (qp_rnd (qp_blk (qp_thn qp_body)))))))))) (ym1 (v := .int .i64 x80.2.2.2.1) b82 (by cases b82 <;> kernel_rfl) (fun hB => by subst hB; exact g_ldr (b := blkN v30) (offN v30 + m * 6 + 4) [.int .i64 x80.2.2.2.1] (.int .i64 x80.2.2.2.1) (by kernel_rfl) 0 rfl (rdRow runC_len hx81 4 (by kernel_rfl)))) h (by kernel_rfl) ?_
            refine d_take 20 133169151 [0] rfl (by kernel_rfl) (qp_thn (qp_blk (qp_thn (qp_rnd (qp_blk (qp_blk (qp_thn (qp_rnd (qp_blk (qp_thn qp_body)))))))))) (ym1 (v := .int .i64 (x80.2.2.1 + x80.2.2.2.1)) b82 (by cases b82 <;> kernel_rfl) (fun hB => by subst hB; exact g_eq (v := .int .i64 (IntKind.i64.wrap (x80.2.2.1 + x80.2.2.2.1))) (v' := .int .i64 (x80.2.2.1 + x80.2.2.2.1)) (g_pure fun _ => by kernel_rfl) (wr (by omega)))) h (by kernel_rfl) ?_
            refine d_take 21 6291455 [0] rfl (by kernel_rfl) (qp_thn (qp_blk (qp_thn (qp_rnd (qp_blk (qp_blk (qp_thn (qp_rnd (qp_blk (qp_thn qp_body)))))))))) (ym1 (v := v30) b82 (by cases b82 <;> kernel_rfl) (fun hB => by subst hB; exact g_pure (v := v30) fun _ => by kernel_rfl)) h (by kernel_rfl) ?_
            refine d_take 22 4194303 [0] rfl (by kernel_rfl) (qp_thn (qp_blk (qp_thn (qp_rnd (qp_blk (qp_blk (qp_thn (qp_rnd (qp_blk (qp_thn qp_body)))))))))) (ym1 (v := .int .i64 (i : Int)) b82 (by cases b82 <;> kernel_rfl) (fun hB => by subst hB; exact g_pure (v := .int .i64 (i : Int)) fun _ => by kernel_rfl)) h (by kernel_rfl) ?_
            have hi83 : i < (l27.map lkT).length := by omega
            obtain ⟨x84, hx85⟩ : ∃ x, (l27.map lkT)[i]? = some x := ⟨_, List.getElem?_eq_getElem hi83⟩
            have hBx84 : LkB x84 := by obtain ⟨y, hy, e⟩ := lk_get hx85; rw [e]; exact lkB (hRL.bnd _ (List.mem_of_getElem? hy))
            obtain ⟨hBx84a, hBx84b, hBx84c, hBx84d⟩ := hBx84
            refine d_take 23 8388607 [0] rfl (by kernel_rfl) (qp_thn (qp_blk (qp_thn (qp_rnd (qp_blk (qp_blk (qp_thn (qp_rnd (qp_blk (qp_thn qp_body)))))))))) (ym1 (v := .pointer (some ⟨blkN v30, offN v30 + i * 6, none⟩)) b82 (by cases b82 <;> kernel_rfl) (fun hB => by subst hB; exact g_idx i (by kernel_rfl) hi83 0 rfl)) h (by kernel_rfl) ?_
            refine d_take 24 16777215 [0] rfl (by kernel_rfl) (qp_thn (qp_blk (qp_thn (qp_rnd (qp_blk (qp_blk (qp_thn (qp_rnd (qp_blk (qp_thn qp_body)))))))))) (ym1 (v := .pointer (some ⟨blkN v30, offN v30 + i * 6 + 3, none⟩)) b82 (by cases b82 <;> kernel_rfl) (fun hB => by subst hB; exact g_pure (v := .pointer (some ⟨blkN v30, offN v30 + i * 6 + 3, none⟩)) fun _ => by kernel_rfl)) h (by kernel_rfl) ?_
            refine d_take 25 33554431 [0] rfl (by kernel_rfl) (qp_thn (qp_blk (qp_thn (qp_rnd (qp_blk (qp_blk (qp_thn (qp_rnd (qp_blk (qp_thn qp_body)))))))))) (ym1 (v := .pointer (some ⟨blkN v30, offN v30 + i * 6 + 3, none⟩)) b82 (by cases b82 <;> kernel_rfl) (fun hB => by subst hB; exact g_pure (v := .pointer (some ⟨blkN v30, offN v30 + i * 6 + 3, none⟩)) fun _ => by kernel_rfl)) h (by kernel_rfl) ?_
            refine d_take 26 67108863 [0] rfl (by kernel_rfl) (qp_thn (qp_blk (qp_thn (qp_rnd (qp_blk (qp_blk (qp_thn (qp_rnd (qp_blk (qp_thn qp_body)))))))))) (ym1 (v := .int .i64 x84.2.2.1) b82 (by cases b82 <;> kernel_rfl) (fun hB => by subst hB; exact g_ldr (b := blkN v30) (offN v30 + i * 6 + 3) [.int .i64 x84.2.2.1] (.int .i64 x84.2.2.1) (by kernel_rfl) 0 rfl (rdRow runC_len hx85 3 (by kernel_rfl)))) h (by kernel_rfl) ?_
            obtain ⟨b86, hb86⟩ : ∃ b_ : Bool, b_ = (decide (x80.2.2.1 + x80.2.2.2.1 = x84.2.2.1)) := ⟨_, rfl⟩
            refine d_take 27 134217727 [0] rfl (by kernel_rfl) (qp_thn (qp_blk (qp_thn (qp_rnd (qp_blk (qp_blk (qp_thn (qp_rnd (qp_blk (qp_thn qp_body)))))))))) (ym1 (v := .bool b86) b82 (by cases b82 <;> kernel_rfl) (fun hB => by subst hB; exact by subst hb86; exact g_pure (v := .bool (decide (x80.2.2.1 + x80.2.2.2.1 = x84.2.2.1))) fun _ => by kernel_rfl)) h (by kernel_rfl) ?_
            obtain ⟨b87, hb87⟩ : ∃ b_ : Bool, b_ = (b82 && b86) := ⟨_, rfl⟩
            refine d_take 28 268435455 [0] rfl (v := .bool b87) (by kernel_rfl) (qp_thn (qp_blk (qp_thn (qp_rnd (qp_blk (qp_blk (qp_thn (qp_rnd (qp_blk (qp_thn qp_body)))))))))) (yq (by kernel_rfl) (by subst hb87; exact g_pure (v := .bool (b82 && b86)) fun _ => by cases b82 <;> kernel_rfl)) h (by kernel_rfl) ?_
            refine d_take 29 536870911 [0] rfl (v := .bool b87) (by kernel_rfl) (qp_thn (qp_blk (qp_thn (qp_rnd (qp_blk (qp_blk (qp_thn (qp_rnd (qp_blk (qp_thn qp_body)))))))))) (yq (by kernel_rfl) (g_pure (v := .bool b87) fun _ => by kernel_rfl)) h (by kernel_rfl) ?_
            refine d_done (by kernel_rfl) ?_
            refine thn_n ?_
            refine c_seq ?_
            refine d_start 40 [0] (by kernel_rfl) h fun w h => ?_
            refine d_take 0 0 [0] rfl (v := .bool b87) (by kernel_rfl) (qp_thn (qp_blk (qp_thn (qp_rnd (qp_blk (qp_blk (qp_thn (qp_rnd (qp_blk (qp_thn qp_body)))))))))) (yq (by kernel_rfl) (g_pure (v := .bool b87) fun _ => by kernel_rfl)) h (by kernel_rfl) ?_
            refine d_take 1 1 [0] rfl (v := .bool b87) (by kernel_rfl) (qp_thn (qp_blk (qp_thn (qp_rnd (qp_blk (qp_blk (qp_thn (qp_rnd (qp_blk (qp_thn qp_body)))))))))) (yq (by kernel_rfl) (g_pure (v := .bool b87) fun _ => by kernel_rfl)) h (by kernel_rfl) ?_
            refine d_take 2 3979 [0] rfl (by kernel_rfl) (qp_thn (qp_blk (qp_thn (qp_rnd (qp_blk (qp_blk (qp_thn (qp_rnd (qp_blk (qp_thn qp_body)))))))))) (ym1 (v := v30) b87 (by cases b87 <;> kernel_rfl) (fun hB => by subst hB; exact g_pure (v := v30) fun _ => by kernel_rfl)) h (by kernel_rfl) ?_
            refine d_take 3 3975 [0] rfl (by kernel_rfl) (qp_thn (qp_blk (qp_thn (qp_rnd (qp_blk (qp_blk (qp_thn (qp_rnd (qp_blk (qp_thn qp_body)))))))))) (ym1 (v := .int .i64 (m : Int)) b87 (by cases b87 <;> kernel_rfl) (fun hB => by subst hB; exact g_pure (v := .int .i64 (m : Int)) fun _ => by kernel_rfl)) h (by kernel_rfl) ?_
            refine d_take 4 3983 [0] rfl (by kernel_rfl) (qp_thn (qp_blk (qp_thn (qp_rnd (qp_blk (qp_blk (qp_thn (qp_rnd (qp_blk (qp_thn qp_body)))))))))) (ym1 (v := .pointer (some ⟨blkN v30, offN v30 + m * 6, none⟩)) b87 (by cases b87 <;> kernel_rfl) (fun hB => by subst hB; exact g_idx m (by kernel_rfl) hi79 0 rfl)) h (by kernel_rfl) ?_
            refine d_take 5 3999 [0] rfl (by kernel_rfl) (qp_thn (qp_blk (qp_thn (qp_rnd (qp_blk (qp_blk (qp_thn (qp_rnd (qp_blk (qp_thn qp_body)))))))))) (ym1 (v := .pointer (some ⟨blkN v30, offN v30 + m * 6, none⟩)) b87 (by cases b87 <;> kernel_rfl) (fun hB => by subst hB; exact g_pure (v := .pointer (some ⟨blkN v30, offN v30 + m * 6, none⟩)) fun _ => by kernel_rfl)) h (by kernel_rfl) ?_
            refine d_take 6 4031 [0] rfl (by kernel_rfl) (qp_thn (qp_blk (qp_thn (qp_rnd (qp_blk (qp_blk (qp_thn (qp_rnd (qp_blk (qp_thn qp_body)))))))))) (ym1 (v := .agg #[.int .i64 x80.1.1, .int .i64 x80.1.2]) b87 (by cases b87 <;> kernel_rfl) (fun hB => by subst hB; exact g_ldr (b := blkN v30) (offN v30 + m * 6) [.int .i64 x80.1.1, .int .i64 x80.1.2] (.agg #[.int .i64 x80.1.1, .int .i64 x80.1.2]) (by kernel_rfl) 0 rfl (rdRow0 runC_len hx81 (by kernel_rfl)))) h (by kernel_rfl) ?_
            refine d_take 7 383 [0] rfl (by kernel_rfl) (qp_thn (qp_blk (qp_thn (qp_rnd (qp_blk (qp_blk (qp_thn (qp_rnd (qp_blk (qp_thn qp_body)))))))))) (ym1 (v := v30) b87 (by cases b87 <;> kernel_rfl) (fun hB => by subst hB; exact g_pure (v := v30) fun _ => by kernel_rfl)) h (by kernel_rfl) ?_
            refine d_take 8 255 [0] rfl (by kernel_rfl) (qp_thn (qp_blk (qp_thn (qp_rnd (qp_blk (qp_blk (qp_thn (qp_rnd (qp_blk (qp_thn qp_body)))))))))) (ym1 (v := .int .i64 (i : Int)) b87 (by cases b87 <;> kernel_rfl) (fun hB => by subst hB; exact g_pure (v := .int .i64 (i : Int)) fun _ => by kernel_rfl)) h (by kernel_rfl) ?_
            refine d_take 9 511 [0] rfl (by kernel_rfl) (qp_thn (qp_blk (qp_thn (qp_rnd (qp_blk (qp_blk (qp_thn (qp_rnd (qp_blk (qp_thn qp_body)))))))))) (ym1 (v := .pointer (some ⟨blkN v30, offN v30 + i * 6, none⟩)) b87 (by cases b87 <;> kernel_rfl) (fun hB => by subst hB; exact g_idx i (by kernel_rfl) hi83 0 rfl)) h (by kernel_rfl) ?_
            refine d_take 10 1023 [0] rfl (by kernel_rfl) (qp_thn (qp_blk (qp_thn (qp_rnd (qp_blk (qp_blk (qp_thn (qp_rnd (qp_blk (qp_thn qp_body)))))))))) (ym1 (v := .pointer (some ⟨blkN v30, offN v30 + i * 6, none⟩)) b87 (by cases b87 <;> kernel_rfl) (fun hB => by subst hB; exact g_pure (v := .pointer (some ⟨blkN v30, offN v30 + i * 6, none⟩)) fun _ => by kernel_rfl)) h (by kernel_rfl) ?_
            refine d_take 11 2047 [0] rfl (by kernel_rfl) (qp_thn (qp_blk (qp_thn (qp_rnd (qp_blk (qp_blk (qp_thn (qp_rnd (qp_blk (qp_thn qp_body)))))))))) (ym1 (v := .agg #[.int .i64 x84.1.1, .int .i64 x84.1.2]) b87 (by cases b87 <;> kernel_rfl) (fun hB => by subst hB; exact g_ldr (b := blkN v30) (offN v30 + i * 6) [.int .i64 x84.1.1, .int .i64 x84.1.2] (.agg #[.int .i64 x84.1.1, .int .i64 x84.1.2]) (by kernel_rfl) 0 rfl (rdRow0 runC_len hx85 (by kernel_rfl)))) h (by kernel_rfl) ?_
            obtain ⟨b88, hb88⟩ : ∃ b_ : Bool, b_ = ((decide (x80.1.1 = x84.1.1)) && (decide (x80.1.2 = x84.1.2))) := ⟨_, rfl⟩
            refine d_take 12 4095 [0] rfl (by kernel_rfl) (qp_thn (qp_blk (qp_thn (qp_rnd (qp_blk (qp_blk (qp_thn (qp_rnd (qp_blk (qp_thn qp_body)))))))))) (ym1 (v := .bool b88) b87 (by cases b87 <;> kernel_rfl) (fun hB => by subst hB; exact by subst hb88; exact g_eqH (by kernel_rfl))) h (by kernel_rfl) ?_
            obtain ⟨b89, hb89⟩ : ∃ b_ : Bool, b_ = (b87 && b88) := ⟨_, rfl⟩
            refine d_take 13 8191 [0] rfl (v := .bool b89) (by kernel_rfl) (qp_thn (qp_blk (qp_thn (qp_rnd (qp_blk (qp_blk (qp_thn (qp_rnd (qp_blk (qp_thn qp_body)))))))))) (yq (by kernel_rfl) (by subst hb89; exact g_pure (v := .bool (b87 && b88)) fun _ => by cases b87 <;> kernel_rfl)) h (by kernel_rfl) ?_
            refine d_take 14 16383 [0] rfl (v := .bool b89) (by kernel_rfl) (qp_thn (qp_blk (qp_thn (qp_rnd (qp_blk (qp_blk (qp_thn (qp_rnd (qp_blk (qp_thn qp_body)))))))))) (yq (by kernel_rfl) (g_pure (v := .bool b89) fun _ => by kernel_rfl)) h (by kernel_rfl) ?_
            refine d_take 15 32604159 [0] rfl (by kernel_rfl) (qp_thn (qp_blk (qp_thn (qp_rnd (qp_blk (qp_blk (qp_thn (qp_rnd (qp_blk (qp_thn qp_body)))))))))) (ym1 (v := v30) b89 (by cases b89 <;> kernel_rfl) (fun hB => by subst hB; exact g_pure (v := v30) fun _ => by kernel_rfl)) h (by kernel_rfl) ?_
            refine d_take 16 32571391 [0] rfl (by kernel_rfl) (qp_thn (qp_blk (qp_thn (qp_rnd (qp_blk (qp_blk (qp_thn (qp_rnd (qp_blk (qp_thn qp_body)))))))))) (ym1 (v := .int .i64 (m : Int)) b89 (by cases b89 <;> kernel_rfl) (fun hB => by subst hB; exact g_pure (v := .int .i64 (m : Int)) fun _ => by kernel_rfl)) h (by kernel_rfl) ?_
            refine d_take 17 32636927 [0] rfl (by kernel_rfl) (qp_thn (qp_blk (qp_thn (qp_rnd (qp_blk (qp_blk (qp_thn (qp_rnd (qp_blk (qp_thn qp_body)))))))))) (ym1 (v := .pointer (some ⟨blkN v30, offN v30 + m * 6, none⟩)) b89 (by cases b89 <;> kernel_rfl) (fun hB => by subst hB; exact g_idx m (by kernel_rfl) hi79 0 rfl)) h (by kernel_rfl) ?_
            refine d_take 18 32767999 [0] rfl (by kernel_rfl) (qp_thn (qp_blk (qp_thn (qp_rnd (qp_blk (qp_blk (qp_thn (qp_rnd (qp_blk (qp_thn qp_body)))))))))) (ym1 (v := .pointer (some ⟨blkN v30, offN v30 + m * 6 + 2, none⟩)) b89 (by cases b89 <;> kernel_rfl) (fun hB => by subst hB; exact g_pure (v := .pointer (some ⟨blkN v30, offN v30 + m * 6 + 2, none⟩)) fun _ => by kernel_rfl)) h (by kernel_rfl) ?_
            refine d_take 19 33030143 [0] rfl (by kernel_rfl) (qp_thn (qp_blk (qp_thn (qp_rnd (qp_blk (qp_blk (qp_thn (qp_rnd (qp_blk (qp_thn qp_body)))))))))) (ym1 (v := .int .i64 x80.2.1) b89 (by cases b89 <;> kernel_rfl) (fun hB => by subst hB; exact g_ldr (b := blkN v30) (offN v30 + m * 6 + 2) [.int .i64 x80.2.1] (.int .i64 x80.2.1) (by kernel_rfl) 0 rfl (rdRow runC_len hx81 2 (by kernel_rfl)))) h (by kernel_rfl) ?_
            refine d_take 20 3145727 [0] rfl (by kernel_rfl) (qp_thn (qp_blk (qp_thn (qp_rnd (qp_blk (qp_blk (qp_thn (qp_rnd (qp_blk (qp_thn qp_body)))))))))) (ym1 (v := v30) b89 (by cases b89 <;> kernel_rfl) (fun hB => by subst hB; exact g_pure (v := v30) fun _ => by kernel_rfl)) h (by kernel_rfl) ?_
            refine d_take 21 2097151 [0] rfl (by kernel_rfl) (qp_thn (qp_blk (qp_thn (qp_rnd (qp_blk (qp_blk (qp_thn (qp_rnd (qp_blk (qp_thn qp_body)))))))))) (ym1 (v := .int .i64 (i : Int)) b89 (by cases b89 <;> kernel_rfl) (fun hB => by subst hB; exact g_pure (v := .int .i64 (i : Int)) fun _ => by kernel_rfl)) h (by kernel_rfl) ?_
            refine d_take 22 4194303 [0] rfl (by kernel_rfl) (qp_thn (qp_blk (qp_thn (qp_rnd (qp_blk (qp_blk (qp_thn (qp_rnd (qp_blk (qp_thn qp_body)))))))))) (ym1 (v := .pointer (some ⟨blkN v30, offN v30 + i * 6, none⟩)) b89 (by cases b89 <;> kernel_rfl) (fun hB => by subst hB; exact g_idx i (by kernel_rfl) hi83 0 rfl)) h (by kernel_rfl) ?_
            refine d_take 23 8388607 [0] rfl (by kernel_rfl) (qp_thn (qp_blk (qp_thn (qp_rnd (qp_blk (qp_blk (qp_thn (qp_rnd (qp_blk (qp_thn qp_body)))))))))) (ym1 (v := .pointer (some ⟨blkN v30, offN v30 + i * 6 + 2, none⟩)) b89 (by cases b89 <;> kernel_rfl) (fun hB => by subst hB; exact g_pure (v := .pointer (some ⟨blkN v30, offN v30 + i * 6 + 2, none⟩)) fun _ => by kernel_rfl)) h (by kernel_rfl) ?_
            refine d_take 24 16777215 [0] rfl (by kernel_rfl) (qp_thn (qp_blk (qp_thn (qp_rnd (qp_blk (qp_blk (qp_thn (qp_rnd (qp_blk (qp_thn qp_body)))))))))) (ym1 (v := .int .i64 x84.2.1) b89 (by cases b89 <;> kernel_rfl) (fun hB => by subst hB; exact g_ldr (b := blkN v30) (offN v30 + i * 6 + 2) [.int .i64 x84.2.1] (.int .i64 x84.2.1) (by kernel_rfl) 0 rfl (rdRow runC_len hx85 2 (by kernel_rfl)))) h (by kernel_rfl) ?_
            obtain ⟨b90, hb90⟩ : ∃ b_ : Bool, b_ = (decide (x80.2.1 = x84.2.1)) := ⟨_, rfl⟩
            refine d_take 25 33554431 [0] rfl (by kernel_rfl) (qp_thn (qp_blk (qp_thn (qp_rnd (qp_blk (qp_blk (qp_thn (qp_rnd (qp_blk (qp_thn qp_body)))))))))) (ym1 (v := .bool b90) b89 (by cases b89 <;> kernel_rfl) (fun hB => by subst hB; exact by subst hb90; exact g_pure (v := .bool (decide (x80.2.1 = x84.2.1))) fun _ => by kernel_rfl)) h (by kernel_rfl) ?_
            obtain ⟨b91, hb91⟩ : ∃ b_ : Bool, b_ = (b89 && b90) := ⟨_, rfl⟩
            refine d_take 26 67108863 [0] rfl (v := .bool b91) (by kernel_rfl) (qp_thn (qp_blk (qp_thn (qp_rnd (qp_blk (qp_blk (qp_thn (qp_rnd (qp_blk (qp_thn qp_body)))))))))) (yq (by kernel_rfl) (by subst hb91; exact g_pure (v := .bool (b89 && b90)) fun _ => by cases b89 <;> kernel_rfl)) h (by kernel_rfl) ?_
            refine d_take 27 134217727 [0] rfl (v := .bool b91) (by kernel_rfl) (qp_thn (qp_blk (qp_thn (qp_rnd (qp_blk (qp_blk (qp_thn (qp_rnd (qp_blk (qp_thn qp_body)))))))))) (yq (by kernel_rfl) (g_pure (v := .bool b91) fun _ => by kernel_rfl)) h (by kernel_rfl) ?_
            refine d_take 28 267093278719 [0] rfl (by kernel_rfl) (qp_thn (qp_blk (qp_thn (qp_rnd (qp_blk (qp_blk (qp_thn (qp_rnd (qp_blk (qp_thn qp_body)))))))))) (ym1 (v := v30) b91 (by cases b91 <;> kernel_rfl) (fun hB => by subst hB; exact g_pure (v := v30) fun _ => by kernel_rfl)) h (by kernel_rfl) ?_
            refine d_take 29 266824843263 [0] rfl (by kernel_rfl) (qp_thn (qp_blk (qp_thn (qp_rnd (qp_blk (qp_blk (qp_thn (qp_rnd (qp_blk (qp_thn qp_body)))))))))) (ym1 (v := .int .i64 (m : Int)) b91 (by cases b91 <;> kernel_rfl) (fun hB => by subst hB; exact g_pure (v := .int .i64 (m : Int)) fun _ => by kernel_rfl)) h (by kernel_rfl) ?_
            refine d_take 30 267361714175 [0] rfl (by kernel_rfl) (qp_thn (qp_blk (qp_thn (qp_rnd (qp_blk (qp_blk (qp_thn (qp_rnd (qp_blk (qp_thn qp_body)))))))))) (ym1 (v := .pointer (some ⟨blkN v30, offN v30 + m * 6, none⟩)) b91 (by cases b91 <;> kernel_rfl) (fun hB => by subst hB; exact g_idx m (by kernel_rfl) hi79 0 rfl)) h (by kernel_rfl) ?_
            refine d_take 31 268435455999 [0] rfl (by kernel_rfl) (qp_thn (qp_blk (qp_thn (qp_rnd (qp_blk (qp_blk (qp_thn (qp_rnd (qp_blk (qp_thn qp_body)))))))))) (ym1 (v := .pointer (some ⟨blkN v30, offN v30 + m * 6 + 5, none⟩)) b91 (by cases b91 <;> kernel_rfl) (fun hB => by subst hB; exact g_pure (v := .pointer (some ⟨blkN v30, offN v30 + m * 6 + 5, none⟩)) fun _ => by kernel_rfl)) h (by kernel_rfl) ?_
            refine d_take 32 270582939647 [0] rfl (by kernel_rfl) (qp_thn (qp_blk (qp_thn (qp_rnd (qp_blk (qp_blk (qp_thn (qp_rnd (qp_blk (qp_thn qp_body)))))))))) (ym1 (v := .bool x80.2.2.2.2) b91 (by cases b91 <;> kernel_rfl) (fun hB => by subst hB; exact g_ldr (b := blkN v30) (offN v30 + m * 6 + 5) [.bool x80.2.2.2.2] (.bool x80.2.2.2.2) (by kernel_rfl) 0 rfl (rdRow runC_len hx81 5 (by kernel_rfl)))) h (by kernel_rfl) ?_
            refine d_take 33 25769803775 [0] rfl (by kernel_rfl) (qp_thn (qp_blk (qp_thn (qp_rnd (qp_blk (qp_blk (qp_thn (qp_rnd (qp_blk (qp_thn qp_body)))))))))) (ym1 (v := v30) b91 (by cases b91 <;> kernel_rfl) (fun hB => by subst hB; exact g_pure (v := v30) fun _ => by kernel_rfl)) h (by kernel_rfl) ?_
            refine d_take 34 17179869183 [0] rfl (by kernel_rfl) (qp_thn (qp_blk (qp_thn (qp_rnd (qp_blk (qp_blk (qp_thn (qp_rnd (qp_blk (qp_thn qp_body)))))))))) (ym1 (v := .int .i64 (i : Int)) b91 (by cases b91 <;> kernel_rfl) (fun hB => by subst hB; exact g_pure (v := .int .i64 (i : Int)) fun _ => by kernel_rfl)) h (by kernel_rfl) ?_
            refine d_take 35 34359738367 [0] rfl (by kernel_rfl) (qp_thn (qp_blk (qp_thn (qp_rnd (qp_blk (qp_blk (qp_thn (qp_rnd (qp_blk (qp_thn qp_body)))))))))) (ym1 (v := .pointer (some ⟨blkN v30, offN v30 + i * 6, none⟩)) b91 (by cases b91 <;> kernel_rfl) (fun hB => by subst hB; exact g_idx i (by kernel_rfl) hi83 0 rfl)) h (by kernel_rfl) ?_
            refine d_take 36 68719476735 [0] rfl (by kernel_rfl) (qp_thn (qp_blk (qp_thn (qp_rnd (qp_blk (qp_blk (qp_thn (qp_rnd (qp_blk (qp_thn qp_body)))))))))) (ym1 (v := .pointer (some ⟨blkN v30, offN v30 + i * 6 + 5, none⟩)) b91 (by cases b91 <;> kernel_rfl) (fun hB => by subst hB; exact g_pure (v := .pointer (some ⟨blkN v30, offN v30 + i * 6 + 5, none⟩)) fun _ => by kernel_rfl)) h (by kernel_rfl) ?_
            refine d_take 37 137438953471 [0] rfl (by kernel_rfl) (qp_thn (qp_blk (qp_thn (qp_rnd (qp_blk (qp_blk (qp_thn (qp_rnd (qp_blk (qp_thn qp_body)))))))))) (ym1 (v := .bool x84.2.2.2.2) b91 (by cases b91 <;> kernel_rfl) (fun hB => by subst hB; exact g_ldr (b := blkN v30) (offN v30 + i * 6 + 5) [.bool x84.2.2.2.2] (.bool x84.2.2.2.2) (by kernel_rfl) 0 rfl (rdRow runC_len hx85 5 (by kernel_rfl)))) h (by kernel_rfl) ?_
            obtain ⟨b92, hb92⟩ : ∃ b_ : Bool, b_ = (x80.2.2.2.2 == x84.2.2.2.2) := ⟨_, rfl⟩
            refine d_take 38 274877906943 [0] rfl (by kernel_rfl) (qp_thn (qp_blk (qp_thn (qp_rnd (qp_blk (qp_blk (qp_thn (qp_rnd (qp_blk (qp_thn qp_body)))))))))) (ym1 (v := .bool b92) b91 (by cases b91 <;> kernel_rfl) (fun hB => by subst hB; exact by subst hb92; exact g_pure (v := .bool (x80.2.2.2.2 == x84.2.2.2.2)) fun _ => by kernel_rfl)) h (by kernel_rfl) ?_
            obtain ⟨b93, hb93⟩ : ∃ b_ : Bool, b_ = (b91 && b92) := ⟨_, rfl⟩
            refine d_take 39 549755813887 [0] rfl (v := .bool b93) (by kernel_rfl) (qp_thn (qp_blk (qp_thn (qp_rnd (qp_blk (qp_blk (qp_thn (qp_rnd (qp_blk (qp_thn qp_body)))))))))) (yq (by kernel_rfl) (by subst hb93; exact g_pure (v := .bool (b91 && b92)) fun _ => by cases b91 <;> kernel_rfl)) h (by kernel_rfl) ?_
            refine d_done (by kernel_rfl) ?_
            refine thn_n ?_
            refine c_cond (b93) (by kernel_rfl) (fun hc94 => ?_) (fun hc94 => ?_)
            · skip
              have q95 : (b91 && b92) = true := by rw [← hb93]; exact hc94
              have q96 : b91 = true := by revert q95; cases b91 <;> simp
              have q97 : b92 = true := by revert q95; cases b91 <;> cases b92 <;> simp
              have q98 : (b89 && b90) = true := by rw [← hb91]; exact q96
              have q99 : b89 = true := by revert q98; cases b89 <;> simp
              have q100 : b90 = true := by revert q98; cases b89 <;> cases b90 <;> simp
              have q101 : (b87 && b88) = true := by rw [← hb89]; exact q99
              have q102 : b87 = true := by revert q101; cases b87 <;> simp
              have q103 : b88 = true := by revert q101; cases b87 <;> cases b88 <;> simp
              have q104 : (b82 && b86) = true := by rw [← hb87]; exact q102
              have q105 : b82 = true := by revert q104; cases b82 <;> simp
              have q106 : b86 = true := by revert q104; cases b82 <;> cases b86 <;> simp
              have q107 : (decide (x80.2.2.2.1 > 0)) = true := by rw [← hb82]; exact q105
              have q107 := of_decide_eq_true q107
              have q108 : (decide (x80.2.2.1 + x80.2.2.2.1 = x84.2.2.1)) = true := by rw [← hb86]; exact q106
              have q108 := of_decide_eq_true q108
              have q109 : ((decide (x80.1.1 = x84.1.1)) && (decide (x80.1.2 = x84.1.2))) = true := by rw [← hb88]; exact q103
              have q110 : (decide (x80.1.1 = x84.1.1)) = true := by revert q109; cases (decide (x80.1.1 = x84.1.1)) <;> simp
              have q111 : (decide (x80.1.2 = x84.1.2)) = true := by revert q109; cases (decide (x80.1.1 = x84.1.1)) <;> cases (decide (x80.1.2 = x84.1.2)) <;> simp
              have q110 := of_decide_eq_true q110
              have q111 := of_decide_eq_true q111
              have q112 : (decide (x80.2.1 = x84.2.1)) = true := by rw [← hb90]; exact q100
              have q112 := of_decide_eq_true q112
              have q113 : (x80.2.2.2.2 == x84.2.2.2.2) = true := by rw [← hb92]; exact q97
              have q113 := eq_of_beq q113
              exact (lk_apart hRL hx85 hx81 (by omega) (by omega) (by omega) (by omega) (by omega) (by omega) (by assumption)).elim
            · skip
              have q114 : (b91 && b92) = false := by rw [← hb93]; exact hc94
              refine c_skip ?_
              refine blk_n (thn_n ?_)
              refine c_reg ?_
              refine sq_p (.int .i64 (m : Int)) rfl (fun _ => by kernel_rfl) ?_
              refine sq_q rfl h (g_eq (v := .int .i64 (IntKind.i64.wrap ((m : Int) + 1))) (v' := .int .i64 ((m + 1 : Nat) : Int)) (g_pure fun _ => by kernel_rfl) (wr (by omega))) ?_
              refine sq_p (.int .i64 ((m + 1 : Nat) : Int)) rfl (fun _ => by kernel_rfl) ?_
              refine lnil ?_
              refine loop_end (fun j => ⟨(m + 1), j⟩) (show ((m + 1) ≤ i) ∧ (i - (m + 1)) < (i - m) from ⟨by omega, by omega⟩) (by kernel_rfl) [0, 0, 0, 0, 0] (by kernel_rfl) h
          · skip
            have hc78 := of_decide_eq_false hc78
            refine c_exit ?_
            refine thn_e (rnd_e (blk_e (blk_n (thn_n ?_))))
            refine c_reg ?_
            refine sq_p (.int .i64 (i : Int)) rfl (fun _ => by kernel_rfl) ?_
            refine sq_q rfl h (g_eq (v := .int .i64 (IntKind.i64.wrap ((i : Int) + 1))) (v' := .int .i64 ((i + 1 : Nat) : Int)) (g_pure fun _ => by kernel_rfl) (wr (by omega))) ?_
            refine sq_p (.int .i64 ((i + 1 : Nat) : Int)) rfl (fun _ => by kernel_rfl) ?_
            refine lnil ?_
            refine loop_end (fun j => ⟨(i + 1), j⟩) (show ((i + 1) ≤ (l27.map lkT).length) ∧ ((l27.map lkT).length - (i + 1)) < ((l27.map lkT).length - i) from ⟨by omega, by omega⟩) (by kernel_rfl) [0, 0, 0, 0, 0] (by kernel_rfl) h
      · skip
        have hc31 := of_decide_eq_false hc31
        refine c_exit ?_
        refine thn_e (rnd_e (blk_e (thn_n ?_)))
        refine c_seq ?_
        refine c_reg ?_
        refine sq_p (v30) rfl (fun _ => by kernel_rfl) ?_
        refine sq_q rfl h (g_len (by kernel_rfl) 0 rfl) ?_
        refine sq_p (.bool (decide (((l27.map lkT).length : Int) ≤ 60))) rfl (fun _ => by kernel_rfl) ?_
        refine sq_p (.bool (decide (((l27.map lkT).length : Int) ≤ 60))) rfl (fun _ => by kernel_rfl) ?_
        refine lnil ?_
        refine thn_n ?_
        refine c_ret ?_
        refine ret_end [.bool (decide (((l27.map lkT).length : Int) ≤ 60))] [4, 3] h (by kernel_rfl) (res_t (by kernel_rfl) res_n) ?_
        exact ⟨by show Value.bool _ = _; rw [decide_eq_true (by omega)], rfl⟩
end Go.Proofs.YtofhnglgebllbaaDoor
