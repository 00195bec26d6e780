/- lock: contracts by what is owned (printed by walk.py). -/
import Derived.Test.YtgebinfbbopnlaaDoorLkB
namespace Go.Proofs.YtgebinfbbopnlaaDoor
open Go.RowKit
set_option linter.unusedVariables false
set_option linter.unusedSimpArgs false
set_option linter.unnecessarySimpa false
set_option maxRecDepth 100000

theorem held_of (h : Int × Int) (o f t : Int) (wb : Bool) (x : Run) : heldP h o f t wb x = (decide (x.1.1 = h.1) && decide (x.1.2 = h.2) && !decide (x.2.1 = o) && decide (x.2.2.1 < t) && decide (f < x.2.2.2.1) && (x.2.2.2.2 || wb)) := by
  have e : (x.1 == h) = (decide (x.1.1 = h.1) && decide (x.1.2 = h.2)) := by rw [Bool.eq_iff_iff]; simp [Prod.ext_iff]
  unfold heldP
  have e2 : (x.2.1 == o) = decide (x.2.1 = o) := by rw [Bool.eq_iff_iff]; simp
  rw [e, e2]
  simp only [Bool.and_assoc]
theorem find_at' {α : Type} {p : α → Bool} : ∀ {l : List α} {k : Nat} {x : α}, l[k]? = some x → p x = true → (∀ j y, j < k → l[j]? = some y → p y = false) → l.find? p = some x
  | [], k, x, h, _, _ => by simp at h
  | y :: l, 0, x, h, hp, _ => by simp at h; subst h; simp [List.find?, hp]
  | y :: l, k + 1, x, h, hp, hn => by
    have h0 := hn 0 y (by omega) rfl
    rw [List.find?_cons_of_neg (by simp [h0])]
    exact find_at' (by simpa using h) hp (fun j z hj hz => hn (j + 1) z (by omega) (by simpa using hz))
/-- What Test finds: the first in order that keeps the range from being locked. -/
def Found (l : List Run) (h : Int × Int) (o f t : Int) (wb : Bool) (x : Run) : Prop := ∃ l' : List Run, l'.Perm l ∧ l'.Pairwise (fun x y => ¬ lockCf y x < 0) ∧ l'.find? (heldP h o f t wb) = some x
theorem Found.spec {l : List Run} {h : Int × Int} {o f t : Int} {wb : Bool} {x : Run} (hf : Found l h o f t wb x) : x ∈ l ∧ heldP h o f t wb x = true := by
  obtain ⟨l', hp, _, hf⟩ := hf
  exact ⟨hp.mem_iff.1 (List.mem_of_find?_eq_some hf), List.find?_some hf⟩
theorem none_of {l l' : List Run} {h : Int × Int} {o f t : Int} {wb : Bool} (hp : l'.Perm l) (hn : ∀ j y, j < l'.length → l'[j]? = some y → heldP h o f t wb y = false) : ∀ x ∈ l, heldP h o f t wb x = false := fun x hx => by
  obtain ⟨j, hj, rfl⟩ := List.mem_iff_getElem.1 (hp.mem_iff.2 hx)
  exact hn j _ hj (List.getElem?_eq_getElem hj)
theorem step_no {l : List Run} {k : Nat} {x : Run} {p : Run → Bool} (hn : ∀ j y, j < k → l[j]? = some y → p y = false) (hx : l[k]? = some x) (hp : p x = false) : ∀ j y, j < k + 1 → l[j]? = some y → p y = false := fun j y hj hy => by
  by_cases h : j = k
  · subst h; rw [hx] at hy; cases hy; exact hp
  · exact hn j y (by omega) hy

set_option maxHeartbeats 1000000 in
theorem test_spec {B : Nat} (ad : Nat → Addr) (b : Nat) (n g o a s : Int) (wb : Bool) (l : List Run) (v : Value) (hk : ∀ x ∈ l, BndR x) (hl : l.length ≤ 1000) : Spec Tryd.prog 22 #[.pointer (some ⟨b, 0, none⟩), .agg #[.int .i64 n, .int .i64 g], .int .i64 o, .agg #[.int .i64 a, .int .i64 s], .bool wb] [rCell true b [v] 57, rRows true v 104 6 runC l, rEnv B ad [2, 9, 11]] (fun u L => (eOk a s = false ∧ u = .tuple #[.agg #[.int .i64 0, .int .i64 0, .int .i64 0, .int .i64 0, .int .i64 0, .bool false], errV ad 2] ∧ L = [rCell true b [v] 57, rRows true v 104 6 runC l, rEnv B ad [2, 9, 11]]) ∨ (∃ x, eOk a s = true ∧ Found l (n, g) o (eF a s) (eT a s) wb x ∧ u = .tuple #[lockV x, errV ad 11] ∧ L = [rCell true b [v] 57, rRows true v 104 6 runC l, rEnv B ad [2, 9, 11]]) ∨ (eOk a s = true ∧ (∀ x ∈ l, heldP (n, g) o (eF a s) (eT a s) wb x = false) ∧ u = .tuple #[.agg #[.int .i64 0, .int .i64 0, .int .i64 0, .int .i64 0, .int .i64 0, .bool false], .nilIface] ∧ L = [rCell true b [v] 57, rRows true v 104 6 runC l, rEnv B ad [2, 9, 11]])) := by
  refine spec_of (#[.pointer (some ⟨b, 0, none⟩), .agg #[.int .i64 n, .int .i64 g], .int .i64 o, .agg #[.int .i64 a, .int .i64 s], .bool wb, undef, undef, undef, undef, undef, undef, undef, undef, undef, undef, undef, undef, undef, undef, undef, undef, undef, undef, undef, undef, undef, undef, undef, undef, undef, undef, undef, undef, undef, undef, undef, undef, undef, undef, undef, undef, undef, undef, undef, undef, undef, undef, undef, undef, undef, undef, undef, undef, undef, undef, undef, undef, undef, undef, undef, undef, undef, undef, undef, undef, undef, undef, undef]) Tryd.func22 rfl (by kernel_rfl) fun E w0 w h => ?_
  refine c_seq ?_
  refine c_reg ?_
  refine sq_new rfl (fun b => .pointer (some ⟨b, 0, none⟩)) [.int .i64 n, .int .i64 g] 33 (fun _ => by kernel_rfl) h ?_; intro k1 w h
  refine sq_new rfl (fun b => .pointer (some ⟨b, 0, none⟩)) [.int .i64 a, .int .i64 s] 63 (fun _ => by kernel_rfl) h ?_; intro k2 w h
  refine sq_new rfl (fun b => .pointer (some ⟨b, 0, none⟩)) [.int .i64 0, .int .i64 0, .int .i64 0, .int .i64 0, .int .i64 0, .bool false] 67 (fun _ => by kernel_rfl) h ?_; intro k3 w h
  refine sq_p (.nilIface) rfl (fun _ => by kernel_rfl) ?_
  refine lnil ?_
  refine thn_n ?_
  refine c_seq ?_
  refine c_reg ?_
  refine sq_q rfl h (g_ld 0 [.int .i64 a, .int .i64 s] (.agg #[.int .i64 a, .int .i64 s]) (by kernel_rfl) 1 rfl) ?_
  refine sq_call #[.agg #[.int .i64 a, .int .i64 s]] [] rfl (ends_spec a s) (fun _ => by kernel_rfl) h ?_; rintro v_ L_ w ⟨rfl, rfl⟩ h
  refine sq_p (.tuple #[.int .i64 (eF a s), .int .i64 (eT a s), .bool (eOk a s)]) rfl (fun _ => by kernel_rfl) ?_
  refine sq_p (.int .i64 (eF a s)) rfl (fun _ => by kernel_rfl) ?_
  refine sq_p (.int .i64 (eT a s)) rfl (fun _ => by kernel_rfl) ?_
  refine sq_p (.bool (eOk a s)) rfl (fun _ => by kernel_rfl) ?_
  refine sq_p (.int .i64 (eF a s)) rfl (fun _ => by kernel_rfl) ?_
  refine sq_p (.int .i64 (eT a s)) rfl (fun _ => by kernel_rfl) ?_
  refine sq_p (.bool (eOk a s)) rfl (fun _ => by kernel_rfl) ?_
  refine lnil ?_
  refine thn_n ?_
  refine c_seq ?_
  refine c_seq ?_
  refine c_reg ?_
  refine sq_p (.bool (eOk a s)) rfl (fun _ => by kernel_rfl) ?_
  refine sq_p (.bool (!(eOk a s))) rfl (fun _ => by kernel_rfl) ?_
  refine lnil ?_
  refine thn_n ?_
  refine c_cond (!(eOk a s)) (by kernel_rfl) (fun hc4 => ?_) (fun hc4 => ?_)
  · skip
    have q5 : (eOk a s) = false := by simpa using hc4
    refine c_seq ?_
    refine d_start 4 [5] (by kernel_rfl) h fun w h => ?_
    refine d_take 0 2 [5] rfl (v := .agg #[.int .i64 0, .int .i64 0, .int .i64 0, .int .i64 0, .int .i64 0, .bool false]) (by kernel_rfl) (qp_thn (qp_thn qp_body)) (yq (by kernel_rfl) (g_pure (v := .agg #[.int .i64 0, .int .i64 0, .int .i64 0, .int .i64 0, .int .i64 0, .bool false]) fun _ => by kernel_rfl)) h (by kernel_rfl) ?_
    refine d_take 1 5 [5] rfl (v := errV ad 2) (by kernel_rfl) (qp_thn (qp_thn qp_body)) (yq (by kernel_rfl) (g_ldr (b := gl 2) 0 [errV ad 2] (errV ad 2) (by kernel_rfl) 0 rfl (rdEnv (c := 2) (by decide) rfl))) h (by kernel_rfl) ?_
    refine d_ready [2] (by kernel_rfl) rfl ?_
    refine ad_st [5] rfl (by kernel_rfl) 0 [.int .i64 0, .int .i64 0, .int .i64 0, .int .i64 0, .int .i64 0, .bool false] [.int .i64 0, .int .i64 0, .int .i64 0, .int .i64 0, .int .i64 0, .bool false] h 0 rfl (by kernel_rfl) ?_ ?_
    · skip
      intro w h; refine ⟨by kernel_rfl, ?_⟩
      refine d_take 3 7 [5] rfl (v := errV ad 2) (by kernel_rfl) (qp_thn (qp_thn qp_body)) (yq (by kernel_rfl) (g_pure (v := errV ad 2) fun _ => by kernel_rfl)) h (by kernel_rfl) ?_
      refine d_done (by kernel_rfl) ?_
      refine thn_n ?_
      refine c_ret ?_
      refine thn_r ?_
      refine ret_end [.agg #[.int .i64 0, .int .i64 0, .int .i64 0, .int .i64 0, .int .i64 0, .bool false], errV ad 2] [3, 3, 3] h (by kernel_rfl) (res_c 0 [.int .i64 0, .int .i64 0, .int .i64 0, .int .i64 0, .int .i64 0, .bool false] (.agg #[.int .i64 0, .int .i64 0, .int .i64 0, .int .i64 0, .int .i64 0, .bool false]) 0 rfl (by kernel_rfl) (res_t (by kernel_rfl) res_n)) ?_
      exact .inl ⟨by simpa using hc4, rfl, rfl⟩
    exact ad_nil
  · skip
    have q6 : (eOk a s) = true := by simpa using hc4
    refine c_skip ?_
    refine thn_n ?_
    refine c_seq ?_
    refine c_seq ?_
    refine c_reg ?_
    refine sq_p (.pointer (some ⟨b, 0, none⟩)) rfl (fun _ => by kernel_rfl) ?_
    refine sq_call #[.pointer (some ⟨b, 0, none⟩)] [3, 3] rfl (sorted_spec b v l (by omega)) (fun _ => by kernel_rfl) h ?_; rintro v7 L_ w ⟨_, l8, ⟨hp9, ho10⟩, rfl, rfl⟩ h
    have hp9l := hp9.length_eq
    refine sq_q rfl h (g_len (by kernel_rfl) 0 rfl) ?_
    refine sq_p (.int .i64 0) rfl (fun _ => by kernel_rfl) ?_
    refine lnil ?_
    refine thn_n ?_
    refine c_block ?_
    refine c_loop (X := Nat × (Nat → Value)) (fun ⟨k, J0⟩ => ⟨#[.pointer (some ⟨b, 0, none⟩), .agg #[.int .i64 n, .int .i64 g], .int .i64 o, .agg #[.int .i64 a, .int .i64 s], .bool wb, undef, .pointer (some ⟨k1, 0, none⟩), undef, .pointer (some ⟨k2, 0, none⟩), undef, .pointer (some ⟨k3, 0, none⟩), J0 11, .int .i64 (eF a s), .int .i64 (eT a s), .bool (eOk a s), undef, J0 16, .tuple #[.int .i64 (eF a s), .int .i64 (eT a s), .bool (eOk a s)], .agg #[.int .i64 a, .int .i64 s], .tuple #[.int .i64 (eF a s), .int .i64 (eT a s), .bool (eOk a s)], .int .i64 (eF a s), .int .i64 (eT a s), .bool (eOk a s), .bool (eOk a s), .bool (!(eOk a s)), undef, undef, .pointer (some ⟨b, 0, none⟩), v7, .int .i64 (l8.length : Int), .int .i64 (k : Int), J0 31, J0 32, J0 33, J0 34, J0 35, J0 36, J0 37, J0 38, J0 39, J0 40, J0 41, J0 42, J0 43, J0 44, J0 45, J0 46, J0 47, J0 48, J0 49, J0 50, J0 51, J0 52, J0 53, J0 54, J0 55, J0 56, J0 57, J0 58, J0 59, J0 60, J0 61, J0 62, J0 63, J0 64, J0 65, J0 66, undef], []⟩)
      (fun ⟨k, J0⟩ => [rRows true v7 104 6 runC l8, rCell true b [v] 57, rRows true v 104 6 runC l, rCell true k3 [.int .i64 0, .int .i64 0, .int .i64 0, .int .i64 0, .int .i64 0, .bool false] 67, rCell true k2 [.int .i64 a, .int .i64 s] 63, rCell true k1 [.int .i64 n, .int .i64 g] 33, rEnv B ad [2, 9, 11]]) (fun ⟨k, J0⟩ => k ≤ l8.length ∧ ∀ j y, j < k → l8[j]? = some y → heldP (n, g) o (eF a s) (eT a s) wb y = false) (fun ⟨k, J0⟩ => l8.length - k)
      ⟨0, (fun n => (#[.pointer (some ⟨b, 0, none⟩), .agg #[.int .i64 n, .int .i64 g], .int .i64 o, .agg #[.int .i64 a, .int .i64 s], .bool wb, undef, .pointer (some ⟨k1, 0, none⟩), undef, .pointer (some ⟨k2, 0, none⟩), undef, .pointer (some ⟨k3, 0, none⟩), .nilIface, .int .i64 (eF a s), .int .i64 (eT a s), .bool (eOk a s), undef, undef, .tuple #[.int .i64 (eF a s), .int .i64 (eT a s), .bool (eOk a s)], .agg #[.int .i64 a, .int .i64 s], .tuple #[.int .i64 (eF a s), .int .i64 (eT a s), .bool (eOk a s)], .int .i64 (eF a s), .int .i64 (eT a s), .bool (eOk a s), .bool (eOk a s), .bool (!(eOk a s)), undef, undef, .pointer (some ⟨b, 0, none⟩), v7, .int .i64 (l8.length : Int), .int .i64 0, undef, undef, undef, undef, undef, undef, undef, undef, undef, undef, undef, undef, undef, undef, undef, undef, undef, undef, undef, undef, undef, undef, undef, undef, undef, undef, undef, undef, undef, undef, undef, undef, undef, undef, undef, undef, undef] : Array Value).getD n undef)⟩ ⟨by omega, fun j y hj => by omega⟩ (by kernel_rfl) [0, 0, 0, 0, 0, 0, 0] (by kernel_rfl) h ?_
    rintro ⟨k, J0⟩ w hG h
    obtain ⟨hk0, hno⟩ : k ≤ l8.length ∧ ∀ j y, j < k → l8[j]? = some y → heldP (n, g) o (eF a s) (eT a s) wb y = false := hG
    refine c_seq ?_
    refine c_reg ?_
    refine sq_p (.bool (decide ((k : Int) < (l8.length : Int)))) rfl (fun _ => by kernel_rfl) ?_
    refine lnil ?_
    refine thn_n ?_
    refine c_seq ?_
    refine c_cond (decide ((k : Int) < (l8.length : Int))) (by kernel_rfl) (fun hc11 => ?_) (fun hc11 => ?_)
    · skip
      have hc11 := of_decide_eq_true hc11
      refine c_skip ?_
      refine thn_n ?_
      refine c_seq ?_
      refine c_block ?_
      refine c_seq ?_
      refine c_reg ?_
      have hi12 : k < l8.length := by omega
      obtain ⟨x13, hx14⟩ : ∃ x, l8[k]? = some x := ⟨_, List.getElem?_eq_getElem hi12⟩
      refine sq_q rfl h (g_idx k (by kernel_rfl) hi12 0 rfl) ?_
      refine sq_q rfl h (g_ldr (b := blkN v7) (offN v7 + k * 6) [.int .i64 x13.1.1, .int .i64 x13.1.2, .int .i64 x13.2.1, .int .i64 x13.2.2.1, .int .i64 x13.2.2.2.1, .bool x13.2.2.2.2] (.agg #[.int .i64 x13.1.1, .int .i64 x13.1.2, .int .i64 x13.2.1, .int .i64 x13.2.2.1, .int .i64 x13.2.2.2.1, .bool x13.2.2.2.2]) (by kernel_rfl) 0 rfl (rdRow0 runC_len hx14 (by kernel_rfl))) ?_
      refine sq_new rfl (fun b => .pointer (some ⟨b, 0, none⟩)) [.int .i64 0, .int .i64 0, .int .i64 0, .int .i64 0, .int .i64 0, .bool false] 104 (fun _ => by kernel_rfl) h ?_; intro k15 w h
      refine sq_st rfl 0 [.int .i64 x13.1.1, .int .i64 x13.1.2, .int .i64 x13.2.1, .int .i64 x13.2.2.1, .int .i64 x13.2.2.2.1, .bool x13.2.2.2.2] [.int .i64 x13.1.1, .int .i64 x13.1.2, .int .i64 x13.2.1, .int .i64 x13.2.2.1, .int .i64 x13.2.2.2.1, .bool x13.2.2.2.2] h 0 rfl (by kernel_rfl) ?_; intro w h
      refine lnil ?_
      refine thn_n ?_
      refine c_seq ?_
      refine c_reg ?_
      refine sq_p (.pointer (some ⟨k15, 0, none⟩)) rfl (fun _ => by kernel_rfl) ?_
      refine sq_q rfl h (g_ld 0 [.int .i64 x13.1.1, .int .i64 x13.1.2] (.agg #[.int .i64 x13.1.1, .int .i64 x13.1.2]) (by kernel_rfl) 0 rfl) ?_
      refine sq_q rfl h (g_ld 0 [.int .i64 n, .int .i64 g] (.agg #[.int .i64 n, .int .i64 g]) (by kernel_rfl) 6 rfl) ?_
      obtain ⟨b16, hb16⟩ : ∃ b_ : Bool, b_ = ((decide (x13.1.1 = n)) && (decide (x13.1.2 = g))) := ⟨_, rfl⟩
      refine sq_q (v := .bool b16) rfl h (by subst hb16; exact g_eqH (by kernel_rfl)) ?_
      refine sq_p (.bool b16) rfl (fun _ => by kernel_rfl) ?_
      refine sq_m1 (v := .pointer (some ⟨k15, 2, none⟩)) b16 (by cases b16 <;> kernel_rfl) h (fun hB => by subst hB; exact g_pure (v := .pointer (some ⟨k15, 2, none⟩)) fun _ => by kernel_rfl) ?_
      refine sq_m1 (v := .int .i64 x13.2.1) b16 (by cases b16 <;> kernel_rfl) h (fun hB => by subst hB; exact g_ld 2 [.int .i64 x13.2.1] (.int .i64 x13.2.1) (by kernel_rfl) 0 rfl) ?_
      refine sq_m1 (v := .int .i64 o) b16 (by cases b16 <;> kernel_rfl) h (fun hB => by subst hB; exact g_pure (v := .int .i64 o) fun _ => by kernel_rfl) ?_
      obtain ⟨b17, hb17⟩ : ∃ b_ : Bool, b_ = (!(decide (x13.2.1 = o))) := ⟨_, rfl⟩
      refine sq_m1 (v := .bool b17) b16 (by cases b16 <;> kernel_rfl) h (fun hB => by subst hB; exact by subst hb17; exact g_pure (v := .bool (!(decide (x13.2.1 = o)))) fun _ => by kernel_rfl) ?_
      obtain ⟨b18, hb18⟩ : ∃ b_ : Bool, b_ = (b16 && b17) := ⟨_, rfl⟩
      refine sq_q (v := .bool b18) rfl h (by subst hb18; exact g_pure (v := .bool (b16 && b17)) fun _ => by cases b16 <;> kernel_rfl) ?_
      refine sq_p (.bool b18) rfl (fun _ => by kernel_rfl) ?_
      refine sq_m1 (v := .pointer (some ⟨k15, 3, none⟩)) b18 (by cases b18 <;> kernel_rfl) h (fun hB => by subst hB; exact g_pure (v := .pointer (some ⟨k15, 3, none⟩)) fun _ => by kernel_rfl) ?_
      refine sq_m1 (v := .int .i64 x13.2.2.1) b18 (by cases b18 <;> kernel_rfl) h (fun hB => by subst hB; exact g_ld 3 [.int .i64 x13.2.2.1] (.int .i64 x13.2.2.1) (by kernel_rfl) 0 rfl) ?_
      refine sq_m1 (v := .int .i64 (eT a s)) b18 (by cases b18 <;> kernel_rfl) h (fun hB => by subst hB; exact g_pure (v := .int .i64 (eT a s)) fun _ => by kernel_rfl) ?_
      obtain ⟨b19, hb19⟩ : ∃ b_ : Bool, b_ = (decide (x13.2.2.1 < eT a s)) := ⟨_, rfl⟩
      refine sq_m1 (v := .bool b19) b18 (by cases b18 <;> kernel_rfl) h (fun hB => by subst hB; exact by subst hb19; exact g_pure (v := .bool (decide (x13.2.2.1 < eT a s))) fun _ => by kernel_rfl) ?_
      obtain ⟨b20, hb20⟩ : ∃ b_ : Bool, b_ = (b18 && b19) := ⟨_, rfl⟩
      refine sq_q (v := .bool b20) rfl h (by subst hb20; exact g_pure (v := .bool (b18 && b19)) fun _ => by cases b18 <;> kernel_rfl) ?_
      refine sq_p (.bool b20) rfl (fun _ => by kernel_rfl) ?_
      refine sq_m1 (v := .int .i64 (eF a s)) b20 (by cases b20 <;> kernel_rfl) h (fun hB => by subst hB; exact g_pure (v := .int .i64 (eF a s)) fun _ => by kernel_rfl) ?_
      refine sq_m1 (v := .pointer (some ⟨k15, 4, none⟩)) b20 (by cases b20 <;> kernel_rfl) h (fun hB => by subst hB; exact g_pure (v := .pointer (some ⟨k15, 4, none⟩)) fun _ => by kernel_rfl) ?_
      refine sq_m1 (v := .int .i64 x13.2.2.2.1) b20 (by cases b20 <;> kernel_rfl) h (fun hB => by subst hB; exact g_ld 4 [.int .i64 x13.2.2.2.1] (.int .i64 x13.2.2.2.1) (by kernel_rfl) 0 rfl) ?_
      obtain ⟨b21, hb21⟩ : ∃ b_ : Bool, b_ = (decide (eF a s < x13.2.2.2.1)) := ⟨_, rfl⟩
      refine sq_m1 (v := .bool b21) b20 (by cases b20 <;> kernel_rfl) h (fun hB => by subst hB; exact by subst hb21; exact g_pure (v := .bool (decide (eF a s < x13.2.2.2.1))) fun _ => by kernel_rfl) ?_
      obtain ⟨b22, hb22⟩ : ∃ b_ : Bool, b_ = (b20 && b21) := ⟨_, rfl⟩
      refine sq_q (v := .bool b22) rfl h (by subst hb22; exact g_pure (v := .bool (b20 && b21)) fun _ => by cases b20 <;> kernel_rfl) ?_
      refine sq_p (.bool b22) rfl (fun _ => by kernel_rfl) ?_
      refine sq_m1 (v := .pointer (some ⟨k15, 5, none⟩)) b22 (by cases b22 <;> kernel_rfl) h (fun hB => by subst hB; exact g_pure (v := .pointer (some ⟨k15, 5, none⟩)) fun _ => by kernel_rfl) ?_
      refine sq_m1 (v := .bool x13.2.2.2.2) b22 (by cases b22 <;> kernel_rfl) h (fun hB => by subst hB; exact g_ld 5 [.bool x13.2.2.2.2] (.bool x13.2.2.2.2) (by kernel_rfl) 0 rfl) ?_
      obtain ⟨b23, hb23⟩ : ∃ b_ : Bool, b_ = x13.2.2.2.2 := ⟨_, rfl⟩
      refine sq_m1 (v := .bool b23) b22 (by cases b22 <;> kernel_rfl) h (fun hB => by subst hB; exact by subst hb23; exact g_pure (v := .bool x13.2.2.2.2) fun _ => by kernel_rfl) ?_
      obtain ⟨b24, hb24⟩ : ∃ b_ : Bool, b_ = (b22 && (!b23)) := ⟨_, rfl⟩
      refine sq_m1 (v := .bool wb) b24 (by subst hb24; cases b22 <;> cases b23 <;> kernel_rfl) h (fun hB => by subst hB; exact g_pure (v := .bool wb) fun _ => by kernel_rfl) ?_
      obtain ⟨b25, hb25⟩ : ∃ b_ : Bool, b_ = (b23 || wb) := ⟨_, rfl⟩
      refine sq_m1 (v := .bool b25) b22 (by cases b22 <;> kernel_rfl) h (fun hB => by subst hB; exact by subst hb25; exact g_pure (v := .bool (b23 || wb)) fun _ => by subst hb24; first | (cases b23 <;> kernel_rfl) | (cases b24 <;> kernel_rfl)) ?_
      obtain ⟨b26, hb26⟩ : ∃ b_ : Bool, b_ = (b22 && b25) := ⟨_, rfl⟩
      refine sq_q (v := .bool b26) rfl h (by subst hb26; exact g_pure (v := .bool (b22 && b25)) fun _ => by cases b22 <;> kernel_rfl) ?_
      refine lnil ?_
      refine thn_n ?_
      have hT : heldP (n, g) o (eF a s) (eT a s) wb x13 = b26 := by rw [held_of]; subst hb26 hb25 hb23 hb22 hb21 hb20 hb19 hb18 hb17 hb16; simp [Bool.and_assoc]
      refine c_cond (b26) (by kernel_rfl) (fun hc27 => ?_) (fun hc27 => ?_)
      · skip
        have q28 : (b22 && b25) = true := by rw [← hb26]; exact hc27
        have q29 : b22 = true := by revert q28; cases b22 <;> simp
        have q30 : b25 = true := by revert q28; cases b22 <;> cases b25 <;> simp
        have q31 : (b20 && b21) = true := by rw [← hb22]; exact q29
        have q32 : b20 = true := by revert q31; cases b20 <;> simp
        have q33 : b21 = true := by revert q31; cases b20 <;> cases b21 <;> simp
        have q34 : (b18 && b19) = true := by rw [← hb20]; exact q32
        have q35 : b18 = true := by revert q34; cases b18 <;> simp
        have q36 : b19 = true := by revert q34; cases b18 <;> cases b19 <;> simp
        have q37 : (b16 && b17) = true := by rw [← hb18]; exact q35
        have q38 : b16 = true := by revert q37; cases b16 <;> simp
        have q39 : b17 = true := by revert q37; cases b16 <;> cases b17 <;> simp
        have q40 : ((decide (x13.1.1 = n)) && (decide (x13.1.2 = g))) = true := by rw [← hb16]; exact q38
        have q41 : (decide (x13.1.1 = n)) = true := by revert q40; cases (decide (x13.1.1 = n)) <;> simp
        have q42 : (decide (x13.1.2 = g)) = true := by revert q40; cases (decide (x13.1.1 = n)) <;> cases (decide (x13.1.2 = g)) <;> simp
        have q41 := of_decide_eq_true q41
        have q42 := of_decide_eq_true q42
        have q43 : (!(decide (x13.2.1 = o))) = true := by rw [← hb17]; exact q39
        have q44 : (decide (x13.2.1 = o)) = false := by simpa using q43
        have q44 := of_decide_eq_false q44
        have q45 : (decide (x13.2.2.1 < eT a s)) = true := by rw [← hb19]; exact q36
        have q45 := of_decide_eq_true q45
        have q46 : (decide (eF a s < x13.2.2.2.1)) = true := by rw [← hb21]; exact q33
        have q46 := of_decide_eq_true q46
        have q47 : (b23 || wb) = true := by rw [← hb25]; exact q30
        rw [hc27] at hT
        refine c_seq ?_
        refine d_start 5 [0, 6] (by kernel_rfl) h fun w h => ?_
        refine d_take 0 4 [0, 6] rfl (v := .agg #[.int .i64 x13.1.1, .int .i64 x13.1.2, .int .i64 x13.2.1, .int .i64 x13.2.2.1, .int .i64 x13.2.2.2.1, .bool x13.2.2.2.2]) (by kernel_rfl) (qp_thn (qp_blk (qp_thn (qp_rnd (qp_blk (qp_thn qp_body)))))) (yq (by kernel_rfl) (g_ld 0 [.int .i64 x13.1.1, .int .i64 x13.1.2, .int .i64 x13.2.1, .int .i64 x13.2.2.1, .int .i64 x13.2.2.2.1, .bool x13.2.2.2.2] (.agg #[.int .i64 x13.1.1, .int .i64 x13.1.2, .int .i64 x13.2.1, .int .i64 x13.2.2.1, .int .i64 x13.2.2.2.1, .bool x13.2.2.2.2]) (by kernel_rfl) 0 rfl)) h (by kernel_rfl) ?_
        refine d_take 2 11 [0, 6] rfl (v := errV ad 11) (by kernel_rfl) (qp_thn (qp_blk (qp_thn (qp_rnd (qp_blk (qp_thn qp_body)))))) (yq (by kernel_rfl) (g_ldr (b := gl 11) 0 [errV ad 11] (errV ad 11) (by kernel_rfl) 1 rfl (rdEnv (c := 11) (by decide) rfl))) h (by kernel_rfl) ?_
        refine d_ready [1] (by kernel_rfl) rfl ?_
        refine ad_call #[.agg #[.int .i64 x13.1.1, .int .i64 x13.1.2, .int .i64 x13.2.1, .int .i64 x13.2.2.1, .int .i64 x13.2.2.2.1, .bool x13.2.2.2.2]] [] [0, 6] rfl (by kernel_rfl) (lock_spec x13 (hk _ ((hp9).mem_iff.1 (List.mem_of_getElem? hx14)))) (fun _ => by kernel_rfl) h ?_ ?_
        · skip
          rintro v_ L_ w ⟨rfl, rfl⟩ h
          refine ⟨by kernel_rfl, ?_⟩
          refine d_ready [3] (by kernel_rfl) rfl ?_
          refine ad_st [0, 6] rfl (by kernel_rfl) 0 [.int .i64 x13.1.1, .int .i64 x13.1.2, .int .i64 x13.2.1, .int .i64 x13.2.2.1, .int .i64 (if x13.2.2.2.1 = 1152921504606846976 then 0 else x13.2.2.2.1 - x13.2.2.1), .bool x13.2.2.2.2] [.int .i64 x13.1.1, .int .i64 x13.1.2, .int .i64 x13.2.1, .int .i64 x13.2.2.1, .int .i64 (if x13.2.2.2.1 = 1152921504606846976 then 0 else x13.2.2.2.1 - x13.2.2.1), .bool x13.2.2.2.2] h 4 rfl (by kernel_rfl) ?_ ?_
          · skip
            intro w h; refine ⟨by kernel_rfl, ?_⟩
            refine d_take 4 15 [0, 6] rfl (v := errV ad 11) (by kernel_rfl) (qp_thn (qp_blk (qp_thn (qp_rnd (qp_blk (qp_thn qp_body)))))) (yq (by kernel_rfl) (g_pure (v := errV ad 11) fun _ => by kernel_rfl)) h (by kernel_rfl) ?_
            refine d_done (by kernel_rfl) ?_
            refine thn_n ?_
            refine c_ret ?_
            refine blk_r (thn_r (rnd_r (blk_r (thn_r ?_))))
            refine ret_end [.agg #[.int .i64 x13.1.1, .int .i64 x13.1.2, .int .i64 x13.2.1, .int .i64 x13.2.2.1, .int .i64 (if x13.2.2.2.1 = 1152921504606846976 then 0 else x13.2.2.2.1 - x13.2.2.1), .bool x13.2.2.2.2], errV ad 11] [2, 2, 5] h (by kernel_rfl) (res_c 0 [.int .i64 x13.1.1, .int .i64 x13.1.2, .int .i64 x13.2.1, .int .i64 x13.2.2.1, .int .i64 (if x13.2.2.2.1 = 1152921504606846976 then 0 else x13.2.2.2.1 - x13.2.2.1), .bool x13.2.2.2.2] (.agg #[.int .i64 x13.1.1, .int .i64 x13.1.2, .int .i64 x13.2.1, .int .i64 x13.2.2.1, .int .i64 (if x13.2.2.2.1 = 1152921504606846976 then 0 else x13.2.2.2.1 - x13.2.2.1), .bool x13.2.2.2.2]) 4 rfl (by kernel_rfl) (res_t (by kernel_rfl) res_n)) ?_
            exact .inr (.inl ⟨x13, by simpa using hc4, ⟨_, hp9, ho10, find_at' hx14 hT hno⟩, rfl, rfl⟩)
          exact ad_nil
        exact ad_nil
      · skip
        have q48 : (b22 && b25) = false := by rw [← hb26]; exact hc27
        rw [hc27] at hT
        refine c_skip ?_
        refine blk_n (thn_n ?_)
        refine c_reg ?_
        refine sq_q rfl h (g_eq (v := .int .i64 (IntKind.i64.wrap ((k : Int) + 1))) (v' := .int .i64 ((k + 1 : Nat) : Int)) (g_pure fun _ => by kernel_rfl) (wr (by omega))) ?_
        refine sq_p (.int .i64 ((k + 1 : Nat) : Int)) rfl (fun _ => by kernel_rfl) ?_
        refine lnil ?_
        refine loop_end (fun j => ⟨(k + 1), j⟩) (show ((k + 1) ≤ l8.length ∧ ∀ j y, j < (k + 1) → l8[j]? = some y → heldP (n, g) o (eF a s) (eT a s) wb y = false) ∧ (l8.length - (k + 1)) < (l8.length - k) from ⟨⟨by omega, step_no hno hx14 hT⟩, by omega⟩) (by kernel_rfl) [1, 1, 1, 1, 1, 1, 1] (by kernel_rfl) h
    · skip
      have hc11 := of_decide_eq_false hc11
      refine c_exit ?_
      refine thn_e (rnd_e (blk_e (thn_n ?_)))
      refine c_seq ?_
      refine c_reg ?_
      refine sq_p (.agg #[.int .i64 0, .int .i64 0, .int .i64 0, .int .i64 0, .int .i64 0, .bool false]) rfl (fun _ => by kernel_rfl) ?_
      refine sq_st rfl 0 [.int .i64 0, .int .i64 0, .int .i64 0, .int .i64 0, .int .i64 0, .bool false] [.int .i64 0, .int .i64 0, .int .i64 0, .int .i64 0, .int .i64 0, .bool false] h 3 rfl (by kernel_rfl) ?_; intro w h
      refine sq_p (.nilIface) rfl (fun _ => by kernel_rfl) ?_
      refine lnil ?_
      refine thn_n ?_
      refine c_ret ?_
      refine ret_end [.agg #[.int .i64 0, .int .i64 0, .int .i64 0, .int .i64 0, .int .i64 0, .bool false], .nilIface] [1, 1, 4] h (by kernel_rfl) (res_c 0 [.int .i64 0, .int .i64 0, .int .i64 0, .int .i64 0, .int .i64 0, .bool false] (.agg #[.int .i64 0, .int .i64 0, .int .i64 0, .int .i64 0, .int .i64 0, .bool false]) 3 rfl (by kernel_rfl) (res_t (by kernel_rfl) res_n)) ?_
      exact .inr (.inr ⟨by simpa using hc4, none_of hp9 (fun j y hj => hno j y (by omega)), rfl, rfl⟩)
end Go.Proofs.YtgebinfbbopnlaaDoor
