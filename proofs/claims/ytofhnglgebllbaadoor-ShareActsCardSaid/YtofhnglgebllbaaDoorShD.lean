/- share: contracts by what is owned (printed by walk.py). -/
import Derived.Test.YtofhnglgebllbaaDoorShC
namespace Go.Proofs.YtofhnglgebllbaaDoor
open Go.RowKit
set_option linter.unusedVariables false
set_option linter.unusedSimpArgs false
set_option maxRecDepth 100000

def ltO (y x : Opn) : Prop := y.1.1 < x.1.1 ∨ y.1.1 = x.1.1 ∧ (y.1.2 < x.1.2 ∨ y.1.2 = x.1.2 ∧ y.2.1 < x.2.1)
theorem ltO_iff (y x : Opn) : shCf y x < 0 ↔ ltO y x := shCf_lt y x
theorem ins_ok {l out : List Opn} {i k : Nat} {x : Opn} (hx : l[i]? = some x) (hp : out.Perm (l.take i)) (hs : out.Pairwise (fun x y => ¬ shCf y x < 0)) (hno : ∀ j y, j < k → out[j]? = some y → ltO y x) (hk : k ≤ out.length) (he : k = out.length ∨ ∃ y, out[k]? = some y ∧ ¬ ltO y x) :
    ([] ++ (out.take k).drop 0 ++ [x] ++ (out.take out.length).drop k).Perm (l.take (i + 1)) ∧ ([] ++ (out.take k).drop 0 ++ [x] ++ (out.take out.length).drop k).Pairwise (fun x y => ¬ shCf y x < 0) := by
  rw [List.nil_append, List.drop_zero, List.take_length]
  have e : l.take (i + 1) = l.take i ++ [x] := by rw [List.take_add_one, hx]; rfl
  constructor
  · rw [e, List.append_assoc]
    refine List.Perm.trans ?_ (hp.append_right [x])
    conv => rhs; rw [← List.take_append_drop k out]
    rw [List.append_assoc]
    exact List.Perm.append_left _ List.perm_append_comm
  · have hs' := hs
    rw [← List.take_append_drop k out] at hs'
    obtain ⟨s1, s2, s3⟩ := List.pairwise_append.1 hs'
    have h1 : ∀ a ∈ out.take k, ltO a x := fun a ha => by
      obtain ⟨j, hj, rfl⟩ := List.mem_iff_getElem.1 ha
      rw [List.length_take] at hj
      rw [List.getElem_take]
      exact hno j _ (by omega) (List.getElem?_eq_getElem (by omega))
    have h2 : ∀ b ∈ out.drop k, ¬ ltO b x := fun b hb => by
      rcases he with he | ⟨y, hy, hyx⟩
      · rw [List.drop_of_length_le (by omega)] at hb; cases hb
      · obtain ⟨hkl, rfl⟩ := List.getElem?_eq_some_iff.1 hy
        rw [← List.getElem_cons_drop hkl] at hb s2
        rcases List.mem_cons.1 hb with rfl | hb
        · exact hyx
        · have := (List.pairwise_cons.1 s2).1 b hb
          rw [ltO_iff] at this
          unfold ltO at *
          omega
    refine List.pairwise_append.2 ⟨List.pairwise_append.2 ⟨s1, List.pairwise_singleton _ _, fun a ha b hb => ?_⟩, s2, fun a ha b hb => ?_⟩
    · rw [List.mem_singleton.1 hb, ltO_iff]
      have := h1 a ha
      unfold ltO at *
      omega
    · rcases List.mem_append.1 ha with ha | ha
      · exact s3 a ha b hb
      · rw [List.mem_singleton.1 ha, ltO_iff]
        exact h2 b hb
theorem sorted_one {l l1 l2 : List Opn} (hk : SharesOk l) (p1 : l1.Perm l) (p2 : l2.Perm l) (s1 : l1.Pairwise (fun x y => ¬ shCf y x < 0)) (s2 : l2.Pairwise (fun x y => ¬ shCf y x < 0)) : l1 = l2 := by
  refine List.Perm.eq_of_pairwise (le := fun x y => ¬ shCf y x < 0) (fun a b ha hb h1 h2 => ?_) s1 s2 (p1.trans p2.symm)
  obtain ⟨i, hi⟩ := List.getElem?_of_mem (p1.mem_iff.1 ha)
  obtain ⟨j, hj⟩ := List.getElem?_of_mem (p2.mem_iff.1 hb)
  rw [ltO_iff] at h1 h2
  unfold ltO at h1 h2
  have e1 : a.1 = b.1 := Prod.ext (by omega) (by omega)
  have e2 : a.2.1 = b.2.1 := by omega
  have := mine_once hk (h := b.1) (o := b.2.1) hi hj (by simp [mineP, e1, e2]) (by simp [mineP])
  subst this
  rw [hi] at hj
  exact Option.some.inj hj
theorem ltO_less {y x : Opn} (h : ((decide (y.1.1 < x.1.1)) || ((decide (y.1.1 = x.1.1)) && (decide (y.1.2 < x.1.2)))) = true) : ltO y x := by
  simp at h; unfold ltO; omega

set_option maxHeartbeats 1000000 in
theorem less_spec (n1 g1 n2 g2 : Int) : Spec Tryd.prog 137 #[.agg #[.int .i64 n1, .int .i64 g1], .agg #[.int .i64 n2, .int .i64 g2]] [] (fun u L => u = .bool ((decide (n1 < n2)) || ((decide (n1 = n2)) && (decide (g1 < g2)))) ∧ L = []) := by
  refine spec_of (#[.agg #[.int .i64 n1, .int .i64 g1], .agg #[.int .i64 n2, .int .i64 g2], undef, undef, undef, undef, undef, undef, undef, undef, undef, undef, undef, undef, undef, undef, undef, undef, undef, undef, undef, undef, undef, undef]) Tryd.func137 rfl (by kernel_rfl) fun E w0 w h => ?_
  refine c_seq ?_
  refine c_reg ?_
  refine sq_new rfl (fun b => .pointer (some ⟨b, 0, none⟩)) [.int .i64 n1, .int .i64 g1] 29 (fun _ => by kernel_rfl) h ?_; intro k1 w h
  refine sq_new rfl (fun b => .pointer (some ⟨b, 0, none⟩)) [.int .i64 n2, .int .i64 g2] 29 (fun _ => by kernel_rfl) h ?_; intro k2 w h
  refine sq_p (.bool false) rfl (fun _ => by kernel_rfl) ?_
  refine lnil ?_
  refine thn_n ?_
  refine c_seq ?_
  refine c_reg ?_
  refine sq_p (.pointer (some ⟨k1, 0, none⟩)) rfl (fun _ => by kernel_rfl) ?_
  refine sq_q rfl h (g_ld 0 [.int .i64 n1] (.int .i64 n1) (by kernel_rfl) 1 rfl) ?_
  refine sq_p (.pointer (some ⟨k2, 0, none⟩)) rfl (fun _ => by kernel_rfl) ?_
  refine sq_q rfl h (g_ld 0 [.int .i64 n2] (.int .i64 n2) (by kernel_rfl) 0 rfl) ?_
  obtain ⟨b3, hb3⟩ : ∃ b_ : Bool, b_ = (decide (n1 < n2)) := ⟨_, rfl⟩
  refine sq_q (v := .bool b3) rfl h (by subst hb3; exact g_pure (v := .bool (decide (n1 < n2))) fun _ => by kernel_rfl) ?_
  refine sq_p (.bool b3) rfl (fun _ => by kernel_rfl) ?_
  refine sq_m0 (v := .pointer (some ⟨k1, 0, none⟩)) b3 (by cases b3 <;> kernel_rfl) h (fun hB => by subst hB; exact g_pure (v := .pointer (some ⟨k1, 0, none⟩)) fun _ => by kernel_rfl) ?_
  refine sq_m0 (v := .int .i64 n1) b3 (by cases b3 <;> kernel_rfl) h (fun hB => by subst hB; exact g_ld 0 [.int .i64 n1] (.int .i64 n1) (by kernel_rfl) 1 rfl) ?_
  refine sq_m0 (v := .pointer (some ⟨k2, 0, none⟩)) b3 (by cases b3 <;> kernel_rfl) h (fun hB => by subst hB; exact g_pure (v := .pointer (some ⟨k2, 0, none⟩)) fun _ => by kernel_rfl) ?_
  refine sq_m0 (v := .int .i64 n2) b3 (by cases b3 <;> kernel_rfl) h (fun hB => by subst hB; exact g_ld 0 [.int .i64 n2] (.int .i64 n2) (by kernel_rfl) 0 rfl) ?_
  obtain ⟨b4, hb4⟩ : ∃ b_ : Bool, b_ = (decide (n1 = n2)) := ⟨_, rfl⟩
  refine sq_m0 (v := .bool b4) b3 (by cases b3 <;> kernel_rfl) h (fun hB => by subst hB; exact by subst hb4; exact g_pure (v := .bool (decide (n1 = n2))) fun _ => by kernel_rfl) ?_
  refine sq_m0 (v := .bool b4) b3 (by cases b3 <;> kernel_rfl) h (fun hB => by subst hB; exact g_pure (v := .bool b4) fun _ => by kernel_rfl) ?_
  obtain ⟨b5, hb5⟩ : ∃ b_ : Bool, b_ = ((!b3) && b4) := ⟨_, rfl⟩
  refine sq_m1 (v := .pointer (some ⟨k1, 1, none⟩)) b5 (by subst hb5; cases b3 <;> cases b4 <;> kernel_rfl) h (fun hB => by subst hB; exact g_pure (v := .pointer (some ⟨k1, 1, none⟩)) fun _ => by kernel_rfl) ?_
  refine sq_m1 (v := .int .i64 g1) b5 (by subst hb5; cases b3 <;> cases b4 <;> kernel_rfl) h (fun hB => by subst hB; exact g_ld 1 [.int .i64 g1] (.int .i64 g1) (by kernel_rfl) 1 rfl) ?_
  refine sq_m1 (v := .pointer (some ⟨k2, 1, none⟩)) b5 (by subst hb5; cases b3 <;> cases b4 <;> kernel_rfl) h (fun hB => by subst hB; exact g_pure (v := .pointer (some ⟨k2, 1, none⟩)) fun _ => by kernel_rfl) ?_
  refine sq_m1 (v := .int .i64 g2) b5 (by subst hb5; cases b3 <;> cases b4 <;> kernel_rfl) h (fun hB => by subst hB; exact g_ld 1 [.int .i64 g2] (.int .i64 g2) (by kernel_rfl) 0 rfl) ?_
  obtain ⟨b6, hb6⟩ : ∃ b_ : Bool, b_ = (decide (g1 < g2)) := ⟨_, rfl⟩
  refine sq_m1 (v := .bool b6) b5 (by subst hb5; cases b3 <;> cases b4 <;> kernel_rfl) h (fun hB => by subst hB; exact by subst hb6; exact g_pure (v := .bool (decide (g1 < g2))) fun _ => by kernel_rfl) ?_
  obtain ⟨b7, hb7⟩ : ∃ b_ : Bool, b_ = (b4 && b6) := ⟨_, rfl⟩
  refine sq_m0 (v := .bool b7) b3 (by cases b3 <;> kernel_rfl) h (fun hB => by subst hB; exact by subst hb7; exact g_pure (v := .bool (b4 && b6)) fun _ => by subst hb5; first | (cases b4 <;> kernel_rfl) | (cases b5 <;> kernel_rfl)) ?_
  obtain ⟨b8, hb8⟩ : ∃ b_ : Bool, b_ = (b3 || b7) := ⟨_, rfl⟩
  refine sq_q (v := .bool b8) rfl h (by subst hb8; exact g_pure (v := .bool (b3 || b7)) fun _ => by cases b3 <;> kernel_rfl) ?_
  refine sq_p (.bool b8) rfl (fun _ => by kernel_rfl) ?_
  refine lnil ?_
  refine thn_n ?_
  refine c_ret ?_
  refine ret_end [.bool b8] [] h (by kernel_rfl) (res_t (by kernel_rfl) res_n) ?_
  refine ⟨?_, rfl⟩
  show Value.bool _ = _
  subst hb8 hb7 hb6 hb4 hb3
  rfl
set_option maxHeartbeats 1000000 in
theorem rlist_spec (b : Nat) (v : Value) (l : List Opn) (hl : l.length ≤ 1000) : Spec Tryd.prog 67 #[.pointer (some ⟨b, 0, none⟩)] [rCell true b [v] 112, rRows true v 222 5 opnC l] (fun u L => ∃ v' l', (l'.Perm l ∧ l'.Pairwise (fun x y => ¬ shCf y x < 0)) ∧ u = v' ∧ L = [rRows true v' 222 5 opnC l', rCell true b [v] 112, rRows true v 222 5 opnC l]) := by
  refine spec_of (#[.pointer (some ⟨b, 0, none⟩), undef, undef, undef, undef, undef, undef, undef, undef, undef, undef, undef, undef, undef, undef, undef, undef, undef, undef, undef, undef, undef, undef, undef, undef, undef, undef, undef, undef, undef, undef, undef, undef, undef, undef, undef, undef, undef, undef, undef, undef, undef, undef, undef, undef, undef, undef, undef, undef, undef, undef, undef, undef, undef, undef, undef, undef, undef, undef, undef, undef, undef, undef, undef, undef, undef, undef, undef, undef, undef, undef, undef, undef, undef, undef]) Tryd.func67 rfl (by kernel_rfl) fun E w0 w h => ?_
  refine c_seq ?_
  refine c_reg ?_
  refine sq_p (.slice none 0 0) rfl (fun _ => by kernel_rfl) ?_
  refine lnil ?_
  refine thn_n ?_
  refine c_seq ?_
  refine c_reg ?_
  refine sq_p (.slice none 0 0) rfl (fun _ => by kernel_rfl) ?_
  refine lnil ?_
  refine thn_n ?_
  refine c_seq ?_
  refine c_seq ?_
  refine c_reg ?_
  refine sq_p (.int .i64 0) rfl (fun _ => by kernel_rfl) ?_
  refine lnil ?_
  refine thn_n ?_
  refine c_block ?_
  have h := h.nilRows 222 5 opnC
  refine c_loop (X := Nat × List Opn × Value × (Nat → Value)) (fun ⟨i, out, vo, J0⟩ => ⟨#[.pointer (some ⟨b, 0, none⟩), undef, .slice none 0 0, vo, .int .i64 (i : Int), J0 5, J0 6, J0 7, J0 8, J0 9, J0 10, J0 11, J0 12, J0 13, J0 14, J0 15, J0 16, J0 17, J0 18, J0 19, J0 20, J0 21, J0 22, J0 23, J0 24, J0 25, J0 26, J0 27, J0 28, J0 29, J0 30, J0 31, J0 32, J0 33, J0 34, J0 35, J0 36, J0 37, J0 38, J0 39, J0 40, J0 41, J0 42, J0 43, J0 44, J0 45, J0 46, J0 47, J0 48, J0 49, J0 50, J0 51, J0 52, J0 53, J0 54, J0 55, J0 56, J0 57, J0 58, J0 59, J0 60, J0 61, J0 62, J0 63, J0 64, J0 65, J0 66, J0 67, J0 68, J0 69, J0 70, J0 71, J0 72, J0 73, undef], []⟩)
    (fun ⟨i, out, vo, J0⟩ => [rRows true vo 222 5 opnC out, rCell true b [v] 112, rRows true v 222 5 opnC l]) (fun ⟨i, out, vo, J0⟩ => i ≤ l.length ∧ out.Perm (l.take i) ∧ out.Pairwise (fun x y => ¬ shCf y x < 0)) (fun ⟨i, out, vo, J0⟩ => l.length - i)
    ⟨0, [], (.slice none 0 0), (fun n => (#[.pointer (some ⟨b, 0, none⟩), undef, .slice none 0 0, .slice none 0 0, .int .i64 0, undef, undef, undef, undef, undef, undef, undef, undef, undef, undef, undef, undef, undef, undef, undef, undef, undef, undef, undef, undef, undef, undef, undef, undef, undef, undef, undef, undef, undef, undef, undef, undef, undef, undef, undef, undef, undef, undef, undef, undef, undef, undef, undef, undef, undef, undef, undef, undef, undef, undef, undef, undef, undef, undef, undef, undef, undef, undef, undef, undef, undef, undef, undef, undef, undef, undef, undef, undef, undef, undef] : Array Value).getD n undef)⟩ ⟨by omega, List.Perm.refl _, List.Pairwise.nil⟩ (by kernel_rfl) [0, 0, 0] (by kernel_rfl) h ?_
  rintro ⟨i, out, vo, J0⟩ w hG h
  obtain ⟨hi0, hp, hs⟩ : i ≤ l.length ∧ out.Perm (l.take i) ∧ out.Pairwise (fun x y => ¬ shCf y x < 0) := hG
  have hol := hp.length_eq
  rw [List.length_take] at hol
  refine c_seq ?_
  refine c_seq ?_
  refine c_reg ?_
  refine sq_p (.int .i64 (i : Int)) rfl (fun _ => by kernel_rfl) ?_
  refine sq_p (.pointer (some ⟨b, 0, none⟩)) rfl (fun _ => by kernel_rfl) ?_
  refine sq_p (.pointer (some ⟨b, 0, none⟩)) rfl (fun _ => by kernel_rfl) ?_
  refine sq_p (.pointer (some ⟨b, 0, none⟩)) rfl (fun _ => by kernel_rfl) ?_
  refine sq_q rfl h (g_ld 0 [v] (v) (by kernel_rfl) 1 rfl) ?_
  refine sq_q rfl h (g_len (by kernel_rfl) 2 rfl) ?_
  refine sq_p (.bool (decide ((i : Int) < (l.length : Int)))) rfl (fun _ => by kernel_rfl) ?_
  refine lnil ?_
  refine thn_n ?_
  refine c_cond (decide ((i : Int) < (l.length : Int))) (by kernel_rfl) (fun hc1 => ?_) (fun hc1 => ?_)
  · skip
    have hc1 := of_decide_eq_true hc1
    refine c_skip ?_
    refine thn_n ?_
    refine c_seq ?_
    refine c_block ?_
    refine c_seq ?_
    refine c_reg ?_
    refine sq_p (.pointer (some ⟨b, 0, none⟩)) rfl (fun _ => by kernel_rfl) ?_
    refine sq_p (.pointer (some ⟨b, 0, none⟩)) rfl (fun _ => by kernel_rfl) ?_
    refine sq_p (.pointer (some ⟨b, 0, none⟩)) rfl (fun _ => by kernel_rfl) ?_
    refine sq_q rfl h (g_ld 0 [v] (v) (by kernel_rfl) 1 rfl) ?_
    refine sq_p (.int .i64 (i : Int)) rfl (fun _ => by kernel_rfl) ?_
    have hi2 : i < l.length := by omega
    obtain ⟨x3, hx4⟩ : ∃ x, l[i]? = some x := ⟨_, List.getElem?_eq_getElem hi2⟩
    refine sq_q rfl h (g_idx i (by kernel_rfl) hi2 2 rfl) ?_
    refine sq_q rfl h (g_ldr (b := blkN v) (offN v + i * 5) [.int .i64 x3.1.1, .int .i64 x3.1.2, .int .i64 x3.2.1, .int .i64 x3.2.2.1, .int .i64 x3.2.2.2] (.agg #[.int .i64 x3.1.1, .int .i64 x3.1.2, .int .i64 x3.2.1, .int .i64 x3.2.2.1, .int .i64 x3.2.2.2]) (by kernel_rfl) 2 rfl (rdRow0 opnC_len hx4 (by kernel_rfl))) ?_
    refine sq_new rfl (fun b => .pointer (some ⟨b, 0, none⟩)) [.int .i64 0, .int .i64 0, .int .i64 0, .int .i64 0, .int .i64 0] 222 (fun _ => by kernel_rfl) h ?_; intro k5 w h
    refine sq_st rfl 0 [.int .i64 x3.1.1, .int .i64 x3.1.2, .int .i64 x3.2.1, .int .i64 x3.2.2.1, .int .i64 x3.2.2.2] [.int .i64 x3.1.1, .int .i64 x3.1.2, .int .i64 x3.2.1, .int .i64 x3.2.2.1, .int .i64 x3.2.2.2] h 0 rfl (by kernel_rfl) ?_; intro w h
    refine lnil ?_
    refine thn_n ?_
    refine c_seq ?_
    refine c_reg ?_
    refine sq_p (.int .i64 0) rfl (fun _ => by kernel_rfl) ?_
    refine lnil ?_
    refine thn_n ?_
    refine c_seq ?_
    refine c_block ?_
    refine c_loop (X := Nat × (Nat → Value)) (fun ⟨k, J1⟩ => ⟨#[.pointer (some ⟨b, 0, none⟩), undef, .slice none 0 0, vo, .int .i64 (i : Int), .pointer (some ⟨k5, 0, none⟩), .int .i64 (k : Int), J0 7, .int .i64 (i : Int), .pointer (some ⟨b, 0, none⟩), .pointer (some ⟨b, 0, none⟩), .pointer (some ⟨b, 0, none⟩), v, .int .i64 (l.length : Int), .bool (decide ((i : Int) < (l.length : Int))), J0 15, J0 16, .pointer (some ⟨b, 0, none⟩), .pointer (some ⟨b, 0, none⟩), .pointer (some ⟨b, 0, none⟩), v, .int .i64 (i : Int), .pointer (some ⟨blkN v, offN v + i * 5, none⟩), .agg #[.int .i64 x3.1.1, .int .i64 x3.1.2, .int .i64 x3.2.1, .int .i64 x3.2.2.1, .int .i64 x3.2.2.2], J1 24, J1 25, J1 26, J1 27, J1 28, J1 29, J1 30, J1 31, J1 32, J1 33, J1 34, J1 35, J1 36, J1 37, J1 38, J1 39, J1 40, J1 41, J1 42, J1 43, J1 44, J1 45, J1 46, J1 47, J1 48, J1 49, J1 50, J1 51, J1 52, J1 53, J1 54, J1 55, J1 56, J1 57, J1 58, J1 59, J0 60, J0 61, J0 62, J0 63, J0 64, J0 65, J0 66, J0 67, J0 68, J0 69, J0 70, J0 71, J0 72, J0 73, undef], []⟩)
      (fun ⟨k, J1⟩ => [rCell true k5 [.int .i64 x3.1.1, .int .i64 x3.1.2, .int .i64 x3.2.1, .int .i64 x3.2.2.1, .int .i64 x3.2.2.2] 222, rRows true vo 222 5 opnC out, rCell true b [v] 112, rRows true v 222 5 opnC l]) (fun ⟨k, J1⟩ => k ≤ out.length ∧ ∀ j y, j < k → out[j]? = some y → ltO y x3) (fun ⟨k, J1⟩ => out.length - k)
      ⟨0, (fun n => (#[.pointer (some ⟨b, 0, none⟩), undef, .slice none 0 0, vo, .int .i64 (i : Int), .pointer (some ⟨k5, 0, none⟩), .int .i64 0, J0 7, .int .i64 (i : Int), .pointer (some ⟨b, 0, none⟩), .pointer (some ⟨b, 0, none⟩), .pointer (some ⟨b, 0, none⟩), v, .int .i64 (l.length : Int), .bool (decide ((i : Int) < (l.length : Int))), J0 15, J0 16, .pointer (some ⟨b, 0, none⟩), .pointer (some ⟨b, 0, none⟩), .pointer (some ⟨b, 0, none⟩), v, .int .i64 (i : Int), .pointer (some ⟨blkN v, offN v + i * 5, none⟩), .agg #[.int .i64 x3.1.1, .int .i64 x3.1.2, .int .i64 x3.2.1, .int .i64 x3.2.2.1, .int .i64 x3.2.2.2], J0 24, J0 25, J0 26, J0 27, J0 28, J0 29, J0 30, J0 31, J0 32, J0 33, J0 34, J0 35, J0 36, J0 37, J0 38, J0 39, J0 40, J0 41, J0 42, J0 43, J0 44, J0 45, J0 46, J0 47, J0 48, J0 49, J0 50, J0 51, J0 52, J0 53, J0 54, J0 55, J0 56, J0 57, J0 58, J0 59, J0 60, J0 61, J0 62, J0 63, J0 64, J0 65, J0 66, J0 67, J0 68, J0 69, J0 70, J0 71, J0 72, J0 73, undef] : Array Value).getD n undef)⟩ ⟨by omega, fun j y hj => by omega⟩ (by kernel_rfl) [0, 0, 0, 0] (by kernel_rfl) h ?_
    rintro ⟨k, J1⟩ w hG h
    obtain ⟨hk0, hno⟩ : k ≤ out.length ∧ ∀ j y, j < k → out[j]? = some y → ltO y x3 := hG
    refine c_seq ?_
    refine c_seq ?_
    refine d_start 34 [0, 0] (by kernel_rfl) h fun w h => ?_
    refine d_take 0 6 [0, 0] rfl (v := .int .i64 (k : Int)) (by kernel_rfl) (qp_thn (qp_thn (qp_rnd (qp_blk (qp_thn (qp_blk (qp_thn (qp_rnd (qp_blk (qp_thn qp_body)))))))))) (yq (by kernel_rfl) (g_pure (v := .int .i64 (k : Int)) fun _ => by kernel_rfl)) h (by kernel_rfl) ?_
    refine d_take 1 1 [0, 0] rfl (v := vo) (by kernel_rfl) (qp_thn (qp_thn (qp_rnd (qp_blk (qp_thn (qp_blk (qp_thn (qp_rnd (qp_blk (qp_thn qp_body)))))))))) (yq (by kernel_rfl) (g_pure (v := vo) fun _ => by kernel_rfl)) h (by kernel_rfl) ?_
    refine d_take 2 3 [0, 0] rfl (v := .int .i64 (out.length : Int)) (by kernel_rfl) (qp_thn (qp_thn (qp_rnd (qp_blk (qp_thn (qp_blk (qp_thn (qp_rnd (qp_blk (qp_thn qp_body)))))))))) (yq (by kernel_rfl) (g_len (by kernel_rfl) 1 rfl)) h (by kernel_rfl) ?_
    obtain ⟨b6, hb6⟩ : ∃ b_ : Bool, b_ = (decide ((k : Int) < (out.length : Int))) := ⟨_, rfl⟩
    refine d_take 3 7 [0, 0] rfl (v := .bool b6) (by kernel_rfl) (qp_thn (qp_thn (qp_rnd (qp_blk (qp_thn (qp_blk (qp_thn (qp_rnd (qp_blk (qp_thn qp_body)))))))))) (yq (by kernel_rfl) (by subst hb6; exact g_pure (v := .bool (decide ((k : Int) < (out.length : Int)))) fun _ => by kernel_rfl)) h (by kernel_rfl) ?_
    refine d_take 4 15 [0, 0] rfl (v := .bool b6) (by kernel_rfl) (qp_thn (qp_thn (qp_rnd (qp_blk (qp_thn (qp_blk (qp_thn (qp_rnd (qp_blk (qp_thn qp_body)))))))))) (yq (by kernel_rfl) (g_pure (v := .bool b6) fun _ => by kernel_rfl)) h (by kernel_rfl) ?_
    rcases Bool.eq_false_or_eq_true b6 with hc7 | hc7
    · skip
      subst hc7
      have q8 := hb6.symm
      have q8 := of_decide_eq_true q8
      refine d_take 5 3167 [0, 0] rfl (v := vo) (by kernel_rfl) (qp_thn (qp_thn (qp_rnd (qp_blk (qp_thn (qp_blk (qp_thn (qp_rnd (qp_blk (qp_thn qp_body)))))))))) (yq (by kernel_rfl) (g_pure (v := vo) fun _ => by kernel_rfl)) h (by kernel_rfl) ?_
      refine d_take 6 3135 [0, 0] rfl (v := .int .i64 (k : Int)) (by kernel_rfl) (qp_thn (qp_thn (qp_rnd (qp_blk (qp_thn (qp_blk (qp_thn (qp_rnd (qp_blk (qp_thn qp_body)))))))))) (yq (by kernel_rfl) (g_pure (v := .int .i64 (k : Int)) fun _ => by kernel_rfl)) h (by kernel_rfl) ?_
      have hi9 : k < out.length := by omega
      obtain ⟨x10, hx11⟩ : ∃ x, out[k]? = some x := ⟨_, List.getElem?_eq_getElem hi9⟩
      refine d_take 7 3199 [0, 0] rfl (v := .pointer (some ⟨blkN vo, offN vo + k * 5, none⟩)) (by kernel_rfl) (qp_thn (qp_thn (qp_rnd (qp_blk (qp_thn (qp_blk (qp_thn (qp_rnd (qp_blk (qp_thn qp_body)))))))))) (yq (by kernel_rfl) (g_idx k (by kernel_rfl) hi9 1 rfl)) h (by kernel_rfl) ?_
      refine d_take 8 3327 [0, 0] rfl (v := .pointer (some ⟨blkN vo, offN vo + k * 5, none⟩)) (by kernel_rfl) (qp_thn (qp_thn (qp_rnd (qp_blk (qp_thn (qp_blk (qp_thn (qp_rnd (qp_blk (qp_thn qp_body)))))))))) (yq (by kernel_rfl) (g_pure (v := .pointer (some ⟨blkN vo, offN vo + k * 5, none⟩)) fun _ => by kernel_rfl)) h (by kernel_rfl) ?_
      refine d_take 9 3583 [0, 0] rfl (v := .agg #[.int .i64 x10.1.1, .int .i64 x10.1.2]) (by kernel_rfl) (qp_thn (qp_thn (qp_rnd (qp_blk (qp_thn (qp_blk (qp_thn (qp_rnd (qp_blk (qp_thn qp_body)))))))))) (yq (by kernel_rfl) (g_ldr (b := blkN vo) (offN vo + k * 5) [.int .i64 x10.1.1, .int .i64 x10.1.2] (.agg #[.int .i64 x10.1.1, .int .i64 x10.1.2]) (by kernel_rfl) 1 rfl (rdRow0 opnC_len hx11 (by kernel_rfl)))) h (by kernel_rfl) ?_
      refine d_take 10 1023 [0, 0] rfl (v := .pointer (some ⟨k5, 0, none⟩)) (by kernel_rfl) (qp_thn (qp_thn (qp_rnd (qp_blk (qp_thn (qp_blk (qp_thn (qp_rnd (qp_blk (qp_thn qp_body)))))))))) (yq (by kernel_rfl) (g_pure (v := .pointer (some ⟨k5, 0, none⟩)) fun _ => by kernel_rfl)) h (by kernel_rfl) ?_
      refine d_take 11 2047 [0, 0] rfl (v := .agg #[.int .i64 x3.1.1, .int .i64 x3.1.2]) (by kernel_rfl) (qp_thn (qp_thn (qp_rnd (qp_blk (qp_thn (qp_blk (qp_thn (qp_rnd (qp_blk (qp_thn qp_body)))))))))) (yq (by kernel_rfl) (g_ld 0 [.int .i64 x3.1.1, .int .i64 x3.1.2] (.agg #[.int .i64 x3.1.1, .int .i64 x3.1.2]) (by kernel_rfl) 0 rfl)) h (by kernel_rfl) ?_
      refine d_ready [12] (by kernel_rfl) rfl ?_
      refine ad_call #[.agg #[.int .i64 x10.1.1, .int .i64 x10.1.2], .agg #[.int .i64 x3.1.1, .int .i64 x3.1.2]] [] [0, 0] rfl (by kernel_rfl) (less_spec x10.1.1 x10.1.2 x3.1.1 x3.1.2) (fun _ => by kernel_rfl) h ?_ ?_
      · skip
        rintro v_ L_ w ⟨rfl, rfl⟩ h
        refine ⟨by kernel_rfl, ?_⟩
        obtain ⟨b12, hb12⟩ : ∃ b_ : Bool, b_ = ((decide (x10.1.1 < x3.1.1)) || ((decide (x10.1.1 = x3.1.1)) && (decide (x10.1.2 < x3.1.2)))) := ⟨_, rfl⟩
        refine d_take 13 8191 [0, 0] rfl (v := .bool b12) (by kernel_rfl) (qp_thn (qp_thn (qp_rnd (qp_blk (qp_thn (qp_blk (qp_thn (qp_rnd (qp_blk (qp_thn qp_body)))))))))) (yq (by kernel_rfl) (by subst hb12; exact g_pure (v := .bool ((decide (x10.1.1 < x3.1.1)) || ((decide (x10.1.1 = x3.1.1)) && (decide (x10.1.2 < x3.1.2))))) fun _ => by kernel_rfl)) h (by kernel_rfl) ?_
        rcases Bool.eq_false_or_eq_true b12 with hc13 | hc13
        · skip
          subst hc13
          have q14 := hb12.symm
          refine d_take 14 1622015 [0, 0] rfl (by kernel_rfl) (qp_thn (qp_thn (qp_rnd (qp_blk (qp_thn (qp_blk (qp_thn (qp_rnd (qp_blk (qp_thn qp_body)))))))))) (yn (by kernel_rfl)) h (by kernel_rfl) ?_
          refine d_take 15 1605631 [0, 0] rfl (by kernel_rfl) (qp_thn (qp_thn (qp_rnd (qp_blk (qp_thn (qp_blk (qp_thn (qp_rnd (qp_blk (qp_thn qp_body)))))))))) (yn (by kernel_rfl)) h (by kernel_rfl) ?_
          refine d_take 16 1638399 [0, 0] rfl (by kernel_rfl) (qp_thn (qp_thn (qp_rnd (qp_blk (qp_thn (qp_blk (qp_thn (qp_rnd (qp_blk (qp_thn qp_body)))))))))) (yn (by kernel_rfl)) h (by kernel_rfl) ?_
          refine d_take 17 1703935 [0, 0] rfl (by kernel_rfl) (qp_thn (qp_thn (qp_rnd (qp_blk (qp_thn (qp_blk (qp_thn (qp_rnd (qp_blk (qp_thn qp_body)))))))))) (yn (by kernel_rfl)) h (by kernel_rfl) ?_
          refine d_take 18 1835007 [0, 0] rfl (by kernel_rfl) (qp_thn (qp_thn (qp_rnd (qp_blk (qp_thn (qp_blk (qp_thn (qp_rnd (qp_blk (qp_thn qp_body)))))))))) (yn (by kernel_rfl)) h (by kernel_rfl) ?_
          refine d_take 19 524287 [0, 0] rfl (by kernel_rfl) (qp_thn (qp_thn (qp_rnd (qp_blk (qp_thn (qp_blk (qp_thn (qp_rnd (qp_blk (qp_thn qp_body)))))))))) (yn (by kernel_rfl)) h (by kernel_rfl) ?_
          refine d_take 20 1048575 [0, 0] rfl (by kernel_rfl) (qp_thn (qp_thn (qp_rnd (qp_blk (qp_thn (qp_blk (qp_thn (qp_rnd (qp_blk (qp_thn qp_body)))))))))) (yn (by kernel_rfl)) h (by kernel_rfl) ?_
          refine d_take 21 2097151 [0, 0] rfl (by kernel_rfl) (qp_thn (qp_thn (qp_rnd (qp_blk (qp_thn (qp_blk (qp_thn (qp_rnd (qp_blk (qp_thn qp_body)))))))))) (yn (by kernel_rfl)) h (by kernel_rfl) ?_
          refine d_take 22 4194303 [0, 0] rfl (by kernel_rfl) (qp_thn (qp_thn (qp_rnd (qp_blk (qp_thn (qp_blk (qp_thn (qp_rnd (qp_blk (qp_thn qp_body)))))))))) (yn (by kernel_rfl)) h (by kernel_rfl) ?_
          refine d_take 23 830472191 [0, 0] rfl (by kernel_rfl) (qp_thn (qp_thn (qp_rnd (qp_blk (qp_thn (qp_blk (qp_thn (qp_rnd (qp_blk (qp_thn qp_body)))))))))) (yn (by kernel_rfl)) h (by kernel_rfl) ?_
          refine d_take 24 822083583 [0, 0] rfl (by kernel_rfl) (qp_thn (qp_thn (qp_rnd (qp_blk (qp_thn (qp_blk (qp_thn (qp_rnd (qp_blk (qp_thn qp_body)))))))))) (yn (by kernel_rfl)) h (by kernel_rfl) ?_
          refine d_take 25 838860799 [0, 0] rfl (by kernel_rfl) (qp_thn (qp_thn (qp_rnd (qp_blk (qp_thn (qp_blk (qp_thn (qp_rnd (qp_blk (qp_thn qp_body)))))))))) (yn (by kernel_rfl)) h (by kernel_rfl) ?_
          refine d_take 26 872415231 [0, 0] rfl (by kernel_rfl) (qp_thn (qp_thn (qp_rnd (qp_blk (qp_thn (qp_blk (qp_thn (qp_rnd (qp_blk (qp_thn qp_body)))))))))) (yn (by kernel_rfl)) h (by kernel_rfl) ?_
          refine d_take 27 939524095 [0, 0] rfl (by kernel_rfl) (qp_thn (qp_thn (qp_rnd (qp_blk (qp_thn (qp_blk (qp_thn (qp_rnd (qp_blk (qp_thn qp_body)))))))))) (yn (by kernel_rfl)) h (by kernel_rfl) ?_
          refine d_take 28 268435455 [0, 0] rfl (by kernel_rfl) (qp_thn (qp_thn (qp_rnd (qp_blk (qp_thn (qp_blk (qp_thn (qp_rnd (qp_blk (qp_thn qp_body)))))))))) (yn (by kernel_rfl)) h (by kernel_rfl) ?_
          refine d_take 29 536870911 [0, 0] rfl (by kernel_rfl) (qp_thn (qp_thn (qp_rnd (qp_blk (qp_thn (qp_blk (qp_thn (qp_rnd (qp_blk (qp_thn qp_body)))))))))) (yn (by kernel_rfl)) h (by kernel_rfl) ?_
          refine d_take 30 1073741823 [0, 0] rfl (by kernel_rfl) (qp_thn (qp_thn (qp_rnd (qp_blk (qp_thn (qp_blk (qp_thn (qp_rnd (qp_blk (qp_thn qp_body)))))))))) (yn (by kernel_rfl)) h (by kernel_rfl) ?_
          refine d_take 31 2147483647 [0, 0] rfl (by kernel_rfl) (qp_thn (qp_thn (qp_rnd (qp_blk (qp_thn (qp_blk (qp_thn (qp_rnd (qp_blk (qp_thn qp_body)))))))))) (yn (by kernel_rfl)) h (by kernel_rfl) ?_
          refine d_take 32 4294967295 [0, 0] rfl (v := .bool true) (by kernel_rfl) (qp_thn (qp_thn (qp_rnd (qp_blk (qp_thn (qp_blk (qp_thn (qp_rnd (qp_blk (qp_thn qp_body)))))))))) (yq (by kernel_rfl) (g_pure (v := .bool true) fun _ => by kernel_rfl)) h (by kernel_rfl) ?_
          refine d_take 33 8589934591 [0, 0] rfl (v := .bool true) (by kernel_rfl) (qp_thn (qp_thn (qp_rnd (qp_blk (qp_thn (qp_blk (qp_thn (qp_rnd (qp_blk (qp_thn qp_body)))))))))) (yq (by kernel_rfl) (g_pure (v := .bool true) fun _ => by kernel_rfl)) h (by kernel_rfl) ?_
          refine d_done (by kernel_rfl) ?_
          refine thn_n ?_
          refine c_true (by kernel_rfl) ?_
          refine c_skip ?_
          refine thn_n ?_
          refine c_block ?_
          refine c_reg ?_
          refine sq_p (.int .i64 (k : Int)) rfl (fun _ => by kernel_rfl) ?_
          refine sq_q rfl h (g_eq (v := .int .i64 (IntKind.i64.wrap ((k : Int) + 1))) (v' := .int .i64 ((k + 1 : Nat) : Int)) (g_pure fun _ => by kernel_rfl) (wr (by omega))) ?_
          refine sq_p (.int .i64 ((k + 1 : Nat) : Int)) rfl (fun _ => by kernel_rfl) ?_
          refine lnil ?_
          refine blk_n ?_
          refine loop_end (fun j => ⟨(k + 1), j⟩) (show ((k + 1) ≤ out.length ∧ ∀ j y, j < (k + 1) → out[j]? = some y → ltO y x3) ∧ (out.length - (k + 1)) < (out.length - k) from ⟨⟨by omega, fun j y hj hy => by by_cases hjk : j = k; (subst hjk; rw [hx11] at hy; cases hy; exact (by first | exact ltO_less (by assumption) | (unfold ltO; omega))); exact hno j y (by omega) hy⟩, by omega⟩) (by kernel_rfl) [0, 0, 0, 0] (by kernel_rfl) h
        · skip
          subst hc13
          have q15 := hb12.symm
          have q16 : (decide (x10.1.1 < x3.1.1)) = false := by revert q15; cases (decide (x10.1.1 < x3.1.1)) <;> simp
          have q17 : ((decide (x10.1.1 = x3.1.1)) && (decide (x10.1.2 < x3.1.2))) = false := by revert q15; cases (decide (x10.1.1 < x3.1.1)) <;> cases ((decide (x10.1.1 = x3.1.1)) && (decide (x10.1.2 < x3.1.2))) <;> simp
          have q16 := of_decide_eq_false q16
          have q18 : ¬ (x10.1.1 = x3.1.1 ∧ x10.1.2 < x3.1.2) := fun hh => by rw [decide_eq_true hh.1, decide_eq_true hh.2] at q17; cases q17
          refine d_take 14 1622015 [0, 0] rfl (v := vo) (by kernel_rfl) (qp_thn (qp_thn (qp_rnd (qp_blk (qp_thn (qp_blk (qp_thn (qp_rnd (qp_blk (qp_thn qp_body)))))))))) (yq (by kernel_rfl) (g_pure (v := vo) fun _ => by kernel_rfl)) h (by kernel_rfl) ?_
          refine d_take 15 1605631 [0, 0] rfl (v := .int .i64 (k : Int)) (by kernel_rfl) (qp_thn (qp_thn (qp_rnd (qp_blk (qp_thn (qp_blk (qp_thn (qp_rnd (qp_blk (qp_thn qp_body)))))))))) (yq (by kernel_rfl) (g_pure (v := .int .i64 (k : Int)) fun _ => by kernel_rfl)) h (by kernel_rfl) ?_
          refine d_take 16 1638399 [0, 0] rfl (v := .pointer (some ⟨blkN vo, offN vo + k * 5, none⟩)) (by kernel_rfl) (qp_thn (qp_thn (qp_rnd (qp_blk (qp_thn (qp_blk (qp_thn (qp_rnd (qp_blk (qp_thn qp_body)))))))))) (yq (by kernel_rfl) (g_idx k (by kernel_rfl) hi9 1 rfl)) h (by kernel_rfl) ?_
          refine d_take 17 1703935 [0, 0] rfl (v := .pointer (some ⟨blkN vo, offN vo + k * 5, none⟩)) (by kernel_rfl) (qp_thn (qp_thn (qp_rnd (qp_blk (qp_thn (qp_blk (qp_thn (qp_rnd (qp_blk (qp_thn qp_body)))))))))) (yq (by kernel_rfl) (g_pure (v := .pointer (some ⟨blkN vo, offN vo + k * 5, none⟩)) fun _ => by kernel_rfl)) h (by kernel_rfl) ?_
          refine d_take 18 1835007 [0, 0] rfl (v := .agg #[.int .i64 x10.1.1, .int .i64 x10.1.2]) (by kernel_rfl) (qp_thn (qp_thn (qp_rnd (qp_blk (qp_thn (qp_blk (qp_thn (qp_rnd (qp_blk (qp_thn qp_body)))))))))) (yq (by kernel_rfl) (g_ldr (b := blkN vo) (offN vo + k * 5) [.int .i64 x10.1.1, .int .i64 x10.1.2] (.agg #[.int .i64 x10.1.1, .int .i64 x10.1.2]) (by kernel_rfl) 1 rfl (rdRow0 opnC_len hx11 (by kernel_rfl)))) h (by kernel_rfl) ?_
          refine d_take 19 524287 [0, 0] rfl (v := .pointer (some ⟨k5, 0, none⟩)) (by kernel_rfl) (qp_thn (qp_thn (qp_rnd (qp_blk (qp_thn (qp_blk (qp_thn (qp_rnd (qp_blk (qp_thn qp_body)))))))))) (yq (by kernel_rfl) (g_pure (v := .pointer (some ⟨k5, 0, none⟩)) fun _ => by kernel_rfl)) h (by kernel_rfl) ?_
          refine d_take 20 1048575 [0, 0] rfl (v := .agg #[.int .i64 x3.1.1, .int .i64 x3.1.2]) (by kernel_rfl) (qp_thn (qp_thn (qp_rnd (qp_blk (qp_thn (qp_blk (qp_thn (qp_rnd (qp_blk (qp_thn qp_body)))))))))) (yq (by kernel_rfl) (g_ld 0 [.int .i64 x3.1.1, .int .i64 x3.1.2] (.agg #[.int .i64 x3.1.1, .int .i64 x3.1.2]) (by kernel_rfl) 0 rfl)) h (by kernel_rfl) ?_
          obtain ⟨b19, hb19⟩ : ∃ b_ : Bool, b_ = ((decide (x10.1.1 = x3.1.1)) && (decide (x10.1.2 = x3.1.2))) := ⟨_, rfl⟩
          refine d_take 21 2097151 [0, 0] rfl (v := .bool b19) (by kernel_rfl) (qp_thn (qp_thn (qp_rnd (qp_blk (qp_thn (qp_blk (qp_thn (qp_rnd (qp_blk (qp_thn qp_body)))))))))) (yq (by kernel_rfl) (by subst hb19; exact g_eqH (by kernel_rfl))) h (by kernel_rfl) ?_
          refine d_take 22 4194303 [0, 0] rfl (v := .bool b19) (by kernel_rfl) (qp_thn (qp_thn (qp_rnd (qp_blk (qp_thn (qp_blk (qp_thn (qp_rnd (qp_blk (qp_thn qp_body)))))))))) (yq (by kernel_rfl) (g_pure (v := .bool b19) fun _ => by kernel_rfl)) h (by kernel_rfl) ?_
          rcases Bool.eq_false_or_eq_true b19 with hc20 | hc20
          · skip
            subst hc20
            have q21 := hb19.symm
            have q22 : (decide (x10.1.1 = x3.1.1)) = true := by revert q21; cases (decide (x10.1.1 = x3.1.1)) <;> simp
            have q23 : (decide (x10.1.2 = x3.1.2)) = true := by revert q21; cases (decide (x10.1.1 = x3.1.1)) <;> cases (decide (x10.1.2 = x3.1.2)) <;> simp
            have q22 := of_decide_eq_true q22
            have q23 := of_decide_eq_true q23
            refine d_take 23 830472191 [0, 0] rfl (v := vo) (by kernel_rfl) (qp_thn (qp_thn (qp_rnd (qp_blk (qp_thn (qp_blk (qp_thn (qp_rnd (qp_blk (qp_thn qp_body)))))))))) (yq (by kernel_rfl) (g_pure (v := vo) fun _ => by kernel_rfl)) h (by kernel_rfl) ?_
            refine d_take 24 822083583 [0, 0] rfl (v := .int .i64 (k : Int)) (by kernel_rfl) (qp_thn (qp_thn (qp_rnd (qp_blk (qp_thn (qp_blk (qp_thn (qp_rnd (qp_blk (qp_thn qp_body)))))))))) (yq (by kernel_rfl) (g_pure (v := .int .i64 (k : Int)) fun _ => by kernel_rfl)) h (by kernel_rfl) ?_
            refine d_take 25 838860799 [0, 0] rfl (v := .pointer (some ⟨blkN vo, offN vo + k * 5, none⟩)) (by kernel_rfl) (qp_thn (qp_thn (qp_rnd (qp_blk (qp_thn (qp_blk (qp_thn (qp_rnd (qp_blk (qp_thn qp_body)))))))))) (yq (by kernel_rfl) (g_idx k (by kernel_rfl) hi9 1 rfl)) h (by kernel_rfl) ?_
            refine d_take 26 872415231 [0, 0] rfl (v := .pointer (some ⟨blkN vo, offN vo + k * 5 + 2, none⟩)) (by kernel_rfl) (qp_thn (qp_thn (qp_rnd (qp_blk (qp_thn (qp_blk (qp_thn (qp_rnd (qp_blk (qp_thn qp_body)))))))))) (yq (by kernel_rfl) (g_pure (v := .pointer (some ⟨blkN vo, offN vo + k * 5 + 2, none⟩)) fun _ => by kernel_rfl)) h (by kernel_rfl) ?_
            refine d_take 27 939524095 [0, 0] rfl (v := .int .i64 x10.2.1) (by kernel_rfl) (qp_thn (qp_thn (qp_rnd (qp_blk (qp_thn (qp_blk (qp_thn (qp_rnd (qp_blk (qp_thn qp_body)))))))))) (yq (by kernel_rfl) (g_ldr (b := blkN vo) (offN vo + k * 5 + 2) [.int .i64 x10.2.1] (.int .i64 x10.2.1) (by kernel_rfl) 1 rfl (rdRow opnC_len hx11 2 (by kernel_rfl)))) h (by kernel_rfl) ?_
            refine d_take 28 268435455 [0, 0] rfl (v := .pointer (some ⟨k5, 2, none⟩)) (by kernel_rfl) (qp_thn (qp_thn (qp_rnd (qp_blk (qp_thn (qp_blk (qp_thn (qp_rnd (qp_blk (qp_thn qp_body)))))))))) (yq (by kernel_rfl) (g_pure (v := .pointer (some ⟨k5, 2, none⟩)) fun _ => by kernel_rfl)) h (by kernel_rfl) ?_
            refine d_take 29 536870911 [0, 0] rfl (v := .int .i64 x3.2.1) (by kernel_rfl) (qp_thn (qp_thn (qp_rnd (qp_blk (qp_thn (qp_blk (qp_thn (qp_rnd (qp_blk (qp_thn qp_body)))))))))) (yq (by kernel_rfl) (g_ld 2 [.int .i64 x3.2.1] (.int .i64 x3.2.1) (by kernel_rfl) 0 rfl)) h (by kernel_rfl) ?_
            obtain ⟨b24, hb24⟩ : ∃ b_ : Bool, b_ = (decide (x10.2.1 < x3.2.1)) := ⟨_, rfl⟩
            refine d_take 30 1073741823 [0, 0] rfl (v := .bool b24) (by kernel_rfl) (qp_thn (qp_thn (qp_rnd (qp_blk (qp_thn (qp_blk (qp_thn (qp_rnd (qp_blk (qp_thn qp_body)))))))))) (yq (by kernel_rfl) (by subst hb24; exact g_pure (v := .bool (decide (x10.2.1 < x3.2.1))) fun _ => by kernel_rfl)) h (by kernel_rfl) ?_
            refine d_take 31 2147483647 [0, 0] rfl (v := .bool b24) (by kernel_rfl) (qp_thn (qp_thn (qp_rnd (qp_blk (qp_thn (qp_blk (qp_thn (qp_rnd (qp_blk (qp_thn qp_body)))))))))) (yq (by kernel_rfl) (g_pure (v := .bool b24) fun _ => by kernel_rfl)) h (by kernel_rfl) ?_
            refine d_take 32 4294967295 [0, 0] rfl (v := .bool b24) (by kernel_rfl) (qp_thn (qp_thn (qp_rnd (qp_blk (qp_thn (qp_blk (qp_thn (qp_rnd (qp_blk (qp_thn qp_body)))))))))) (yq (by kernel_rfl) (g_pure (v := .bool b24) fun _ => by kernel_rfl)) h (by kernel_rfl) ?_
            refine d_take 33 8589934591 [0, 0] rfl (v := .bool b24) (by kernel_rfl) (qp_thn (qp_thn (qp_rnd (qp_blk (qp_thn (qp_blk (qp_thn (qp_rnd (qp_blk (qp_thn qp_body)))))))))) (yq (by kernel_rfl) (g_pure (v := .bool b24) fun _ => by kernel_rfl)) h (by kernel_rfl) ?_
            refine d_done (by kernel_rfl) ?_
            refine thn_n ?_
            refine c_cond (b24) (by kernel_rfl) (fun hc25 => ?_) (fun hc25 => ?_)
            · skip
              have q26 : (decide (x10.2.1 < x3.2.1)) = true := by rw [← hb24]; exact hc25
              have q26 := of_decide_eq_true q26
              refine c_skip ?_
              refine thn_n ?_
              refine c_block ?_
              refine c_reg ?_
              refine sq_p (.int .i64 (k : Int)) rfl (fun _ => by kernel_rfl) ?_
              refine sq_q rfl h (g_eq (v := .int .i64 (IntKind.i64.wrap ((k : Int) + 1))) (v' := .int .i64 ((k + 1 : Nat) : Int)) (g_pure fun _ => by kernel_rfl) (wr (by omega))) ?_
              refine sq_p (.int .i64 ((k + 1 : Nat) : Int)) rfl (fun _ => by kernel_rfl) ?_
              refine lnil ?_
              refine blk_n ?_
              refine loop_end (fun j => ⟨(k + 1), j⟩) (show ((k + 1) ≤ out.length ∧ ∀ j y, j < (k + 1) → out[j]? = some y → ltO y x3) ∧ (out.length - (k + 1)) < (out.length - k) from ⟨⟨by omega, fun j y hj hy => by by_cases hjk : j = k; (subst hjk; rw [hx11] at hy; cases hy; exact (by first | exact ltO_less (by assumption) | (unfold ltO; omega))); exact hno j y (by omega) hy⟩, by omega⟩) (by kernel_rfl) [0, 0, 0, 0] (by kernel_rfl) h
            · skip
              have q27 : (decide (x10.2.1 < x3.2.1)) = false := by rw [← hb24]; exact hc25
              have q27 := of_decide_eq_false q27
              refine c_exit ?_
              refine thn_e (rnd_e (blk_e (thn_n ?_)))
              refine c_seq ?_
              refine c_reg ?_
              refine sq_p (.slice none 0 0) rfl (fun _ => by kernel_rfl) ?_
              refine lnil ?_
              refine thn_n ?_
              refine c_seq ?_
              refine c_reg ?_
              refine sq_p (.slice none 0 0) rfl (fun _ => by kernel_rfl) ?_
              refine sq_p (vo) rfl (fun _ => by kernel_rfl) ?_
              refine sq_p (.int .i64 (k : Int)) rfl (fun _ => by kernel_rfl) ?_
              refine sq_q rfl h (g_sub2 (v := vo) (d := 222) (k := 5) (LV := none) (HV := (some (.int .i64 (k : Int)))) 0 k (by kernel_rfl) rfl (bnd rfl) (by omega) (by omega) 1 rfl slRd_rows) ?_
              have h := h.nilRows 222 5 opnC
              refine sq_apps rfl 0 k (by kernel_rfl) opnC_len (fun _ => rfl) (by omega) (by omega) h 0 rfl 2 rfl slRd_rows (by (try simp only [List.length_append, List.length_cons, List.length_nil, List.length_take, List.length_drop]); omega) ?_; intro v28 w h
              refine sq_p (v28) rfl (fun _ => by kernel_rfl) ?_
              refine lnil ?_
              refine thn_n ?_
              refine c_seq ?_
              refine c_reg ?_
              refine sq_p (v28) rfl (fun _ => by kernel_rfl) ?_
              refine sq_q rfl h (g_ld 0 [.int .i64 x3.1.1, .int .i64 x3.1.2, .int .i64 x3.2.1, .int .i64 x3.2.2.1, .int .i64 x3.2.2.2] (.agg #[.int .i64 x3.1.1, .int .i64 x3.1.2, .int .i64 x3.2.1, .int .i64 x3.2.2.1, .int .i64 x3.2.2.2]) (by kernel_rfl) 1 rfl) ?_
              refine sq_new rfl (fun b => .slice (some ⟨b, 0, none⟩) 1 1) [.int .i64 x3.1.1, .int .i64 x3.1.2, .int .i64 x3.2.1, .int .i64 x3.2.2.1, .int .i64 x3.2.2.2] 222 (fun _ => by kernel_rfl) h ?_; intro k29 w h
              refine sq_app (b := k29) (o := 0) rfl 1 x3 (by kernel_rfl) h 1 rfl 0 rfl (rdCell 0 (by kernel_rfl)) (by (try simp only [List.length_append, List.length_cons, List.length_nil, List.length_take, List.length_drop]); omega) ?_; intro v30 w h
              refine sq_p (v30) rfl (fun _ => by kernel_rfl) ?_
              refine lnil ?_
              refine thn_n ?_
              refine c_reg ?_
              refine sq_p (v30) rfl (fun _ => by kernel_rfl) ?_
              refine sq_p (vo) rfl (fun _ => by kernel_rfl) ?_
              refine sq_p (.int .i64 (k : Int)) rfl (fun _ => by kernel_rfl) ?_
              refine sq_q rfl h (g_sub2 (v := vo) (d := 222) (k := 5) (LV := (some (.int .i64 (k : Int)))) (HV := none) k out.length (by kernel_rfl) (bnd rfl) rfl (by omega) (by omega) 3 rfl slRd_rows) ?_
              refine sq_apps rfl k out.length (by kernel_rfl) opnC_len (fun _ => rfl) (by omega) (by omega) h 1 rfl 3 rfl slRd_rows (by (try simp only [List.length_append, List.length_cons, List.length_nil, List.length_take, List.length_drop]); omega) ?_; intro v31 w h
              refine sq_p (v31) rfl (fun _ => by kernel_rfl) ?_
              refine lnil ?_
              refine blk_n (thn_n ?_)
              refine c_reg ?_
              refine sq_p (.int .i64 (i : Int)) rfl (fun _ => by kernel_rfl) ?_
              refine sq_q rfl h (g_eq (v := .int .i64 (IntKind.i64.wrap ((i : Int) + 1))) (v' := .int .i64 ((i + 1 : Nat) : Int)) (g_pure fun _ => by kernel_rfl) (wr (by omega))) ?_
              refine sq_p (.int .i64 ((i + 1 : Nat) : Int)) rfl (fun _ => by kernel_rfl) ?_
              refine lnil ?_
              refine loop_end (fun j => ⟨(i + 1), [] ++ (out.take k).drop 0 ++ [x3] ++ (out.take out.length).drop k, v31, j⟩) (show ((i + 1) ≤ l.length ∧ ([] ++ (out.take k).drop 0 ++ [x3] ++ (out.take out.length).drop k).Perm (l.take (i + 1)) ∧ ([] ++ (out.take k).drop 0 ++ [x3] ++ (out.take out.length).drop k).Pairwise (fun x y => ¬ shCf y x < 0)) ∧ (l.length - (i + 1)) < (l.length - i) from ⟨⟨by omega, (ins_ok hx4 hp hs hno hk0 ((by first | exact .inl (by omega) | exact .inr ⟨x10, hx11, by unfold ltO; omega⟩))).1, (ins_ok hx4 hp hs hno hk0 ((by first | exact .inl (by omega) | exact .inr ⟨x10, hx11, by unfold ltO; omega⟩))).2⟩, by omega⟩) (by kernel_rfl) [1, 3, 3] (by kernel_rfl) h
          · skip
            subst hc20
            have q32 := hb19.symm
            have q33 : ¬ (x10.1.1 = x3.1.1 ∧ x10.1.2 = x3.1.2) := fun hh => by rw [decide_eq_true hh.1, decide_eq_true hh.2] at q32; cases q32
            refine d_take 23 830472191 [0, 0] rfl (by kernel_rfl) (qp_thn (qp_thn (qp_rnd (qp_blk (qp_thn (qp_blk (qp_thn (qp_rnd (qp_blk (qp_thn qp_body)))))))))) (yn (by kernel_rfl)) h (by kernel_rfl) ?_
            refine d_take 24 822083583 [0, 0] rfl (by kernel_rfl) (qp_thn (qp_thn (qp_rnd (qp_blk (qp_thn (qp_blk (qp_thn (qp_rnd (qp_blk (qp_thn qp_body)))))))))) (yn (by kernel_rfl)) h (by kernel_rfl) ?_
            refine d_take 25 838860799 [0, 0] rfl (by kernel_rfl) (qp_thn (qp_thn (qp_rnd (qp_blk (qp_thn (qp_blk (qp_thn (qp_rnd (qp_blk (qp_thn qp_body)))))))))) (yn (by kernel_rfl)) h (by kernel_rfl) ?_
            refine d_take 26 872415231 [0, 0] rfl (by kernel_rfl) (qp_thn (qp_thn (qp_rnd (qp_blk (qp_thn (qp_blk (qp_thn (qp_rnd (qp_blk (qp_thn qp_body)))))))))) (yn (by kernel_rfl)) h (by kernel_rfl) ?_
            refine d_take 27 939524095 [0, 0] rfl (by kernel_rfl) (qp_thn (qp_thn (qp_rnd (qp_blk (qp_thn (qp_blk (qp_thn (qp_rnd (qp_blk (qp_thn qp_body)))))))))) (yn (by kernel_rfl)) h (by kernel_rfl) ?_
            refine d_take 28 268435455 [0, 0] rfl (by kernel_rfl) (qp_thn (qp_thn (qp_rnd (qp_blk (qp_thn (qp_blk (qp_thn (qp_rnd (qp_blk (qp_thn qp_body)))))))))) (yn (by kernel_rfl)) h (by kernel_rfl) ?_
            refine d_take 29 536870911 [0, 0] rfl (by kernel_rfl) (qp_thn (qp_thn (qp_rnd (qp_blk (qp_thn (qp_blk (qp_thn (qp_rnd (qp_blk (qp_thn qp_body)))))))))) (yn (by kernel_rfl)) h (by kernel_rfl) ?_
            refine d_take 30 1073741823 [0, 0] rfl (by kernel_rfl) (qp_thn (qp_thn (qp_rnd (qp_blk (qp_thn (qp_blk (qp_thn (qp_rnd (qp_blk (qp_thn qp_body)))))))))) (yn (by kernel_rfl)) h (by kernel_rfl) ?_
            refine d_take 31 2147483647 [0, 0] rfl (v := .bool false) (by kernel_rfl) (qp_thn (qp_thn (qp_rnd (qp_blk (qp_thn (qp_blk (qp_thn (qp_rnd (qp_blk (qp_thn qp_body)))))))))) (yq (by kernel_rfl) (g_pure (v := .bool false) fun _ => by kernel_rfl)) h (by kernel_rfl) ?_
            refine d_take 32 4294967295 [0, 0] rfl (v := .bool false) (by kernel_rfl) (qp_thn (qp_thn (qp_rnd (qp_blk (qp_thn (qp_blk (qp_thn (qp_rnd (qp_blk (qp_thn qp_body)))))))))) (yq (by kernel_rfl) (g_pure (v := .bool false) fun _ => by kernel_rfl)) h (by kernel_rfl) ?_
            refine d_take 33 8589934591 [0, 0] rfl (v := .bool false) (by kernel_rfl) (qp_thn (qp_thn (qp_rnd (qp_blk (qp_thn (qp_blk (qp_thn (qp_rnd (qp_blk (qp_thn qp_body)))))))))) (yq (by kernel_rfl) (g_pure (v := .bool false) fun _ => by kernel_rfl)) h (by kernel_rfl) ?_
            refine d_done (by kernel_rfl) ?_
            refine thn_n ?_
            refine c_false (by kernel_rfl) ?_
            refine c_exit ?_
            refine thn_e (rnd_e (blk_e (thn_n ?_)))
            refine c_seq ?_
            refine c_reg ?_
            refine sq_p (.slice none 0 0) rfl (fun _ => by kernel_rfl) ?_
            refine lnil ?_
            refine thn_n ?_
            refine c_seq ?_
            refine c_reg ?_
            refine sq_p (.slice none 0 0) rfl (fun _ => by kernel_rfl) ?_
            refine sq_p (vo) rfl (fun _ => by kernel_rfl) ?_
            refine sq_p (.int .i64 (k : Int)) rfl (fun _ => by kernel_rfl) ?_
            refine sq_q rfl h (g_sub2 (v := vo) (d := 222) (k := 5) (LV := none) (HV := (some (.int .i64 (k : Int)))) 0 k (by kernel_rfl) rfl (bnd rfl) (by omega) (by omega) 1 rfl slRd_rows) ?_
            have h := h.nilRows 222 5 opnC
            refine sq_apps rfl 0 k (by kernel_rfl) opnC_len (fun _ => rfl) (by omega) (by omega) h 0 rfl 2 rfl slRd_rows (by (try simp only [List.length_append, List.length_cons, List.length_nil, List.length_take, List.length_drop]); omega) ?_; intro v34 w h
            refine sq_p (v34) rfl (fun _ => by kernel_rfl) ?_
            refine lnil ?_
            refine thn_n ?_
            refine c_seq ?_
            refine c_reg ?_
            refine sq_p (v34) rfl (fun _ => by kernel_rfl) ?_
            refine sq_q rfl h (g_ld 0 [.int .i64 x3.1.1, .int .i64 x3.1.2, .int .i64 x3.2.1, .int .i64 x3.2.2.1, .int .i64 x3.2.2.2] (.agg #[.int .i64 x3.1.1, .int .i64 x3.1.2, .int .i64 x3.2.1, .int .i64 x3.2.2.1, .int .i64 x3.2.2.2]) (by kernel_rfl) 1 rfl) ?_
            refine sq_new rfl (fun b => .slice (some ⟨b, 0, none⟩) 1 1) [.int .i64 x3.1.1, .int .i64 x3.1.2, .int .i64 x3.2.1, .int .i64 x3.2.2.1, .int .i64 x3.2.2.2] 222 (fun _ => by kernel_rfl) h ?_; intro k35 w h
            refine sq_app (b := k35) (o := 0) rfl 1 x3 (by kernel_rfl) h 1 rfl 0 rfl (rdCell 0 (by kernel_rfl)) (by (try simp only [List.length_append, List.length_cons, List.length_nil, List.length_take, List.length_drop]); omega) ?_; intro v36 w h
            refine sq_p (v36) rfl (fun _ => by kernel_rfl) ?_
            refine lnil ?_
            refine thn_n ?_
            refine c_reg ?_
            refine sq_p (v36) rfl (fun _ => by kernel_rfl) ?_
            refine sq_p (vo) rfl (fun _ => by kernel_rfl) ?_
            refine sq_p (.int .i64 (k : Int)) rfl (fun _ => by kernel_rfl) ?_
            refine sq_q rfl h (g_sub2 (v := vo) (d := 222) (k := 5) (LV := (some (.int .i64 (k : Int)))) (HV := none) k out.length (by kernel_rfl) (bnd rfl) rfl (by omega) (by omega) 3 rfl slRd_rows) ?_
            refine sq_apps rfl k out.length (by kernel_rfl) opnC_len (fun _ => rfl) (by omega) (by omega) h 1 rfl 3 rfl slRd_rows (by (try simp only [List.length_append, List.length_cons, List.length_nil, List.length_take, List.length_drop]); omega) ?_; intro v37 w h
            refine sq_p (v37) rfl (fun _ => by kernel_rfl) ?_
            refine lnil ?_
            refine blk_n (thn_n ?_)
            refine c_reg ?_
            refine sq_p (.int .i64 (i : Int)) rfl (fun _ => by kernel_rfl) ?_
            refine sq_q rfl h (g_eq (v := .int .i64 (IntKind.i64.wrap ((i : Int) + 1))) (v' := .int .i64 ((i + 1 : Nat) : Int)) (g_pure fun _ => by kernel_rfl) (wr (by omega))) ?_
            refine sq_p (.int .i64 ((i + 1 : Nat) : Int)) rfl (fun _ => by kernel_rfl) ?_
            refine lnil ?_
            refine loop_end (fun j => ⟨(i + 1), [] ++ (out.take k).drop 0 ++ [x3] ++ (out.take out.length).drop k, v37, j⟩) (show ((i + 1) ≤ l.length ∧ ([] ++ (out.take k).drop 0 ++ [x3] ++ (out.take out.length).drop k).Perm (l.take (i + 1)) ∧ ([] ++ (out.take k).drop 0 ++ [x3] ++ (out.take out.length).drop k).Pairwise (fun x y => ¬ shCf y x < 0)) ∧ (l.length - (i + 1)) < (l.length - i) from ⟨⟨by omega, (ins_ok hx4 hp hs hno hk0 ((by first | exact .inl (by omega) | exact .inr ⟨x10, hx11, by unfold ltO; omega⟩))).1, (ins_ok hx4 hp hs hno hk0 ((by first | exact .inl (by omega) | exact .inr ⟨x10, hx11, by unfold ltO; omega⟩))).2⟩, by omega⟩) (by kernel_rfl) [1, 3, 3] (by kernel_rfl) h
      exact ad_nil
    · skip
      subst hc7
      have q38 := hb6.symm
      have q38 := of_decide_eq_false q38
      refine d_take 5 3167 [0, 0] rfl (by kernel_rfl) (qp_thn (qp_thn (qp_rnd (qp_blk (qp_thn (qp_blk (qp_thn (qp_rnd (qp_blk (qp_thn qp_body)))))))))) (yn (by kernel_rfl)) h (by kernel_rfl) ?_
      refine d_take 6 3135 [0, 0] rfl (by kernel_rfl) (qp_thn (qp_thn (qp_rnd (qp_blk (qp_thn (qp_blk (qp_thn (qp_rnd (qp_blk (qp_thn qp_body)))))))))) (yn (by kernel_rfl)) h (by kernel_rfl) ?_
      refine d_take 7 3199 [0, 0] rfl (by kernel_rfl) (qp_thn (qp_thn (qp_rnd (qp_blk (qp_thn (qp_blk (qp_thn (qp_rnd (qp_blk (qp_thn qp_body)))))))))) (yn (by kernel_rfl)) h (by kernel_rfl) ?_
      refine d_take 8 3327 [0, 0] rfl (by kernel_rfl) (qp_thn (qp_thn (qp_rnd (qp_blk (qp_thn (qp_blk (qp_thn (qp_rnd (qp_blk (qp_thn qp_body)))))))))) (yn (by kernel_rfl)) h (by kernel_rfl) ?_
      refine d_take 9 3583 [0, 0] rfl (by kernel_rfl) (qp_thn (qp_thn (qp_rnd (qp_blk (qp_thn (qp_blk (qp_thn (qp_rnd (qp_blk (qp_thn qp_body)))))))))) (yn (by kernel_rfl)) h (by kernel_rfl) ?_
      refine d_take 10 1023 [0, 0] rfl (by kernel_rfl) (qp_thn (qp_thn (qp_rnd (qp_blk (qp_thn (qp_blk (qp_thn (qp_rnd (qp_blk (qp_thn qp_body)))))))))) (yn (by kernel_rfl)) h (by kernel_rfl) ?_
      refine d_take 11 2047 [0, 0] rfl (by kernel_rfl) (qp_thn (qp_thn (qp_rnd (qp_blk (qp_thn (qp_blk (qp_thn (qp_rnd (qp_blk (qp_thn qp_body)))))))))) (yn (by kernel_rfl)) h (by kernel_rfl) ?_
      refine d_take 12 4095 [0, 0] rfl (by kernel_rfl) (qp_thn (qp_thn (qp_rnd (qp_blk (qp_thn (qp_blk (qp_thn (qp_rnd (qp_blk (qp_thn qp_body)))))))))) (yn (by kernel_rfl)) h (by kernel_rfl) ?_
      refine d_take 13 8191 [0, 0] rfl (by kernel_rfl) (qp_thn (qp_thn (qp_rnd (qp_blk (qp_thn (qp_blk (qp_thn (qp_rnd (qp_blk (qp_thn qp_body)))))))))) (yn (by kernel_rfl)) h (by kernel_rfl) ?_
      refine d_take 14 1622015 [0, 0] rfl (by kernel_rfl) (qp_thn (qp_thn (qp_rnd (qp_blk (qp_thn (qp_blk (qp_thn (qp_rnd (qp_blk (qp_thn qp_body)))))))))) (yn (by kernel_rfl)) h (by kernel_rfl) ?_
      refine d_take 15 1605631 [0, 0] rfl (by kernel_rfl) (qp_thn (qp_thn (qp_rnd (qp_blk (qp_thn (qp_blk (qp_thn (qp_rnd (qp_blk (qp_thn qp_body)))))))))) (yn (by kernel_rfl)) h (by kernel_rfl) ?_
      refine d_take 16 1638399 [0, 0] rfl (by kernel_rfl) (qp_thn (qp_thn (qp_rnd (qp_blk (qp_thn (qp_blk (qp_thn (qp_rnd (qp_blk (qp_thn qp_body)))))))))) (yn (by kernel_rfl)) h (by kernel_rfl) ?_
      refine d_take 17 1703935 [0, 0] rfl (by kernel_rfl) (qp_thn (qp_thn (qp_rnd (qp_blk (qp_thn (qp_blk (qp_thn (qp_rnd (qp_blk (qp_thn qp_body)))))))))) (yn (by kernel_rfl)) h (by kernel_rfl) ?_
      refine d_take 18 1835007 [0, 0] rfl (by kernel_rfl) (qp_thn (qp_thn (qp_rnd (qp_blk (qp_thn (qp_blk (qp_thn (qp_rnd (qp_blk (qp_thn qp_body)))))))))) (yn (by kernel_rfl)) h (by kernel_rfl) ?_
      refine d_take 19 524287 [0, 0] rfl (by kernel_rfl) (qp_thn (qp_thn (qp_rnd (qp_blk (qp_thn (qp_blk (qp_thn (qp_rnd (qp_blk (qp_thn qp_body)))))))))) (yn (by kernel_rfl)) h (by kernel_rfl) ?_
      refine d_take 20 1048575 [0, 0] rfl (by kernel_rfl) (qp_thn (qp_thn (qp_rnd (qp_blk (qp_thn (qp_blk (qp_thn (qp_rnd (qp_blk (qp_thn qp_body)))))))))) (yn (by kernel_rfl)) h (by kernel_rfl) ?_
      refine d_take 21 2097151 [0, 0] rfl (by kernel_rfl) (qp_thn (qp_thn (qp_rnd (qp_blk (qp_thn (qp_blk (qp_thn (qp_rnd (qp_blk (qp_thn qp_body)))))))))) (yn (by kernel_rfl)) h (by kernel_rfl) ?_
      refine d_take 22 4194303 [0, 0] rfl (by kernel_rfl) (qp_thn (qp_thn (qp_rnd (qp_blk (qp_thn (qp_blk (qp_thn (qp_rnd (qp_blk (qp_thn qp_body)))))))))) (yn (by kernel_rfl)) h (by kernel_rfl) ?_
      refine d_take 23 830472191 [0, 0] rfl (by kernel_rfl) (qp_thn (qp_thn (qp_rnd (qp_blk (qp_thn (qp_blk (qp_thn (qp_rnd (qp_blk (qp_thn qp_body)))))))))) (yn (by kernel_rfl)) h (by kernel_rfl) ?_
      refine d_take 24 822083583 [0, 0] rfl (by kernel_rfl) (qp_thn (qp_thn (qp_rnd (qp_blk (qp_thn (qp_blk (qp_thn (qp_rnd (qp_blk (qp_thn qp_body)))))))))) (yn (by kernel_rfl)) h (by kernel_rfl) ?_
      refine d_take 25 838860799 [0, 0] rfl (by kernel_rfl) (qp_thn (qp_thn (qp_rnd (qp_blk (qp_thn (qp_blk (qp_thn (qp_rnd (qp_blk (qp_thn qp_body)))))))))) (yn (by kernel_rfl)) h (by kernel_rfl) ?_
      refine d_take 26 872415231 [0, 0] rfl (by kernel_rfl) (qp_thn (qp_thn (qp_rnd (qp_blk (qp_thn (qp_blk (qp_thn (qp_rnd (qp_blk (qp_thn qp_body)))))))))) (yn (by kernel_rfl)) h (by kernel_rfl) ?_
      refine d_take 27 939524095 [0, 0] rfl (by kernel_rfl) (qp_thn (qp_thn (qp_rnd (qp_blk (qp_thn (qp_blk (qp_thn (qp_rnd (qp_blk (qp_thn qp_body)))))))))) (yn (by kernel_rfl)) h (by kernel_rfl) ?_
      refine d_take 28 268435455 [0, 0] rfl (by kernel_rfl) (qp_thn (qp_thn (qp_rnd (qp_blk (qp_thn (qp_blk (qp_thn (qp_rnd (qp_blk (qp_thn qp_body)))))))))) (yn (by kernel_rfl)) h (by kernel_rfl) ?_
      refine d_take 29 536870911 [0, 0] rfl (by kernel_rfl) (qp_thn (qp_thn (qp_rnd (qp_blk (qp_thn (qp_blk (qp_thn (qp_rnd (qp_blk (qp_thn qp_body)))))))))) (yn (by kernel_rfl)) h (by kernel_rfl) ?_
      refine d_take 30 1073741823 [0, 0] rfl (by kernel_rfl) (qp_thn (qp_thn (qp_rnd (qp_blk (qp_thn (qp_blk (qp_thn (qp_rnd (qp_blk (qp_thn qp_body)))))))))) (yn (by kernel_rfl)) h (by kernel_rfl) ?_
      refine d_take 31 2147483647 [0, 0] rfl (by kernel_rfl) (qp_thn (qp_thn (qp_rnd (qp_blk (qp_thn (qp_blk (qp_thn (qp_rnd (qp_blk (qp_thn qp_body)))))))))) (yn (by kernel_rfl)) h (by kernel_rfl) ?_
      refine d_take 32 4294967295 [0, 0] rfl (by kernel_rfl) (qp_thn (qp_thn (qp_rnd (qp_blk (qp_thn (qp_blk (qp_thn (qp_rnd (qp_blk (qp_thn qp_body)))))))))) (yn (by kernel_rfl)) h (by kernel_rfl) ?_
      refine d_take 33 8589934591 [0, 0] rfl (v := .bool false) (by kernel_rfl) (qp_thn (qp_thn (qp_rnd (qp_blk (qp_thn (qp_blk (qp_thn (qp_rnd (qp_blk (qp_thn qp_body)))))))))) (yq (by kernel_rfl) (g_pure (v := .bool false) fun _ => by kernel_rfl)) h (by kernel_rfl) ?_
      refine d_done (by kernel_rfl) ?_
      refine thn_n ?_
      refine c_false (by kernel_rfl) ?_
      refine c_exit ?_
      refine thn_e (rnd_e (blk_e (thn_n ?_)))
      refine c_seq ?_
      refine c_reg ?_
      refine sq_p (.slice none 0 0) rfl (fun _ => by kernel_rfl) ?_
      refine lnil ?_
      refine thn_n ?_
      refine c_seq ?_
      refine c_reg ?_
      refine sq_p (.slice none 0 0) rfl (fun _ => by kernel_rfl) ?_
      refine sq_p (vo) rfl (fun _ => by kernel_rfl) ?_
      refine sq_p (.int .i64 (k : Int)) rfl (fun _ => by kernel_rfl) ?_
      refine sq_q rfl h (g_sub2 (v := vo) (d := 222) (k := 5) (LV := none) (HV := (some (.int .i64 (k : Int)))) 0 k (by kernel_rfl) rfl (bnd rfl) (by omega) (by omega) 1 rfl slRd_rows) ?_
      have h := h.nilRows 222 5 opnC
      refine sq_apps rfl 0 k (by kernel_rfl) opnC_len (fun _ => rfl) (by omega) (by omega) h 0 rfl 2 rfl slRd_rows (by (try simp only [List.length_append, List.length_cons, List.length_nil, List.length_take, List.length_drop]); omega) ?_; intro v39 w h
      refine sq_p (v39) rfl (fun _ => by kernel_rfl) ?_
      refine lnil ?_
      refine thn_n ?_
      refine c_seq ?_
      refine c_reg ?_
      refine sq_p (v39) rfl (fun _ => by kernel_rfl) ?_
      refine sq_q rfl h (g_ld 0 [.int .i64 x3.1.1, .int .i64 x3.1.2, .int .i64 x3.2.1, .int .i64 x3.2.2.1, .int .i64 x3.2.2.2] (.agg #[.int .i64 x3.1.1, .int .i64 x3.1.2, .int .i64 x3.2.1, .int .i64 x3.2.2.1, .int .i64 x3.2.2.2]) (by kernel_rfl) 1 rfl) ?_
      refine sq_new rfl (fun b => .slice (some ⟨b, 0, none⟩) 1 1) [.int .i64 x3.1.1, .int .i64 x3.1.2, .int .i64 x3.2.1, .int .i64 x3.2.2.1, .int .i64 x3.2.2.2] 222 (fun _ => by kernel_rfl) h ?_; intro k40 w h
      refine sq_app (b := k40) (o := 0) rfl 1 x3 (by kernel_rfl) h 1 rfl 0 rfl (rdCell 0 (by kernel_rfl)) (by (try simp only [List.length_append, List.length_cons, List.length_nil, List.length_take, List.length_drop]); omega) ?_; intro v41 w h
      refine sq_p (v41) rfl (fun _ => by kernel_rfl) ?_
      refine lnil ?_
      refine thn_n ?_
      refine c_reg ?_
      refine sq_p (v41) rfl (fun _ => by kernel_rfl) ?_
      refine sq_p (vo) rfl (fun _ => by kernel_rfl) ?_
      refine sq_p (.int .i64 (k : Int)) rfl (fun _ => by kernel_rfl) ?_
      refine sq_q rfl h (g_sub2 (v := vo) (d := 222) (k := 5) (LV := (some (.int .i64 (k : Int)))) (HV := none) k out.length (by kernel_rfl) (bnd rfl) rfl (by omega) (by omega) 3 rfl slRd_rows) ?_
      refine sq_apps rfl k out.length (by kernel_rfl) opnC_len (fun _ => rfl) (by omega) (by omega) h 1 rfl 3 rfl slRd_rows (by (try simp only [List.length_append, List.length_cons, List.length_nil, List.length_take, List.length_drop]); omega) ?_; intro v42 w h
      refine sq_p (v42) rfl (fun _ => by kernel_rfl) ?_
      refine lnil ?_
      refine blk_n (thn_n ?_)
      refine c_reg ?_
      refine sq_p (.int .i64 (i : Int)) rfl (fun _ => by kernel_rfl) ?_
      refine sq_q rfl h (g_eq (v := .int .i64 (IntKind.i64.wrap ((i : Int) + 1))) (v' := .int .i64 ((i + 1 : Nat) : Int)) (g_pure fun _ => by kernel_rfl) (wr (by omega))) ?_
      refine sq_p (.int .i64 ((i + 1 : Nat) : Int)) rfl (fun _ => by kernel_rfl) ?_
      refine lnil ?_
      refine loop_end (fun j => ⟨(i + 1), [] ++ (out.take k).drop 0 ++ [x3] ++ (out.take out.length).drop k, v42, j⟩) (show ((i + 1) ≤ l.length ∧ ([] ++ (out.take k).drop 0 ++ [x3] ++ (out.take out.length).drop k).Perm (l.take (i + 1)) ∧ ([] ++ (out.take k).drop 0 ++ [x3] ++ (out.take out.length).drop k).Pairwise (fun x y => ¬ shCf y x < 0)) ∧ (l.length - (i + 1)) < (l.length - i) from ⟨⟨by omega, (ins_ok hx4 hp hs hno hk0 (.inl (by omega))).1, (ins_ok hx4 hp hs hno hk0 (.inl (by omega))).2⟩, by omega⟩) (by kernel_rfl) [1, 3, 3] (by kernel_rfl) h
  · skip
    have hc1 := of_decide_eq_false hc1
    refine c_exit ?_
    refine thn_e (rnd_e (blk_e (thn_n ?_)))
    refine c_seq ?_
    refine c_reg ?_
    refine sq_p (vo) rfl (fun _ => by kernel_rfl) ?_
    refine sq_p (vo) rfl (fun _ => by kernel_rfl) ?_
    refine lnil ?_
    refine thn_n ?_
    refine c_ret ?_
    refine ret_end [vo] [0, 0, 0] h (by kernel_rfl) (res_t (by kernel_rfl) res_n) ?_
    rw [List.take_of_length_le (by omega)] at hp
    exact ⟨_, _, ⟨hp, hs⟩, rfl, rfl⟩
end Go.Proofs.YtofhnglgebllbaaDoor
