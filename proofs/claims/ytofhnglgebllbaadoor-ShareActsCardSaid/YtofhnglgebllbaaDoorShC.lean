/- share: contracts by what is owned (printed by walk.py). -/
import Derived.Test.YtofhnglgebllbaaDoorShB
namespace Go.Proofs.YtofhnglgebllbaaDoor
open Go.RowKit
set_option linter.unusedVariables false
set_option linter.unusedSimpArgs false
set_option maxRecDepth 100000

section
variable {l : List Opn} {h : Int × Int} {o a d : Int} {i : Nat} {x : Opn}
theorem shD_none (h1 : l.findIdx? (mineP h o) = none) : shDown l h o a d = (l, 5) := by unfold shDown; rw [h1]
theorem shD_bad (h1 : l.findIdx? (mineP h o) = some i) (h2 : rightP a d = false) : shDown l h o a d = (l, 2) := by unfold shDown; rw [h1]; exact if_pos h2
theorem shD_over (h1 : l.findIdx? (mineP h o) = some i) (h2 : rightP a d = true) (hx : l[i]? = some x) (h3 : (ovP a x.2.2.1 || ovP d x.2.2.2) = true) : shDown l h o a d = (l, 3) := by
  unfold shDown; rw [h1]; dsimp only; rw [if_neg (by simp [h2]), hx]; exact if_pos h3
theorem shD_set (h1 : l.findIdx? (mineP h o) = some i) (h2 : rightP a d = true) (hx : l[i]? = some x) (h3 : (ovP a x.2.2.1 || ovP d x.2.2.2) = false) : shDown l h o a d = (l.set i (x.1, x.2.1, a, d), 0) := by
  unfold shDown; rw [h1]; dsimp only; rw [if_neg (by simp [h2]), hx]; exact if_neg (by simp [h3])
theorem shM_bad (h1 : rightP a 0 = false) : shMay l h o a = 2 := if_pos h1
theorem shM_none (h1 : rightP a 0 = true) (h2 : l.findIdx? (mineP h o) = none) : shMay l h o a = 5 := by unfold shMay; rw [if_neg (by simp [h1]), h2]
theorem shM_over (h1 : rightP a 0 = true) (h2 : l.findIdx? (mineP h o) = some i) (hx : l[i]? = some x) (h3 : ovP a x.2.2.1 = true) : shMay l h o a = 5 := by
  unfold shMay; rw [if_neg (by simp [h1]), h2]; dsimp only; rw [hx]; exact if_pos h3
theorem shM_ok (h1 : rightP a 0 = true) (h2 : l.findIdx? (mineP h o) = some i) (hx : l[i]? = some x) (h3 : ovP a x.2.2.1 = false) : shMay l h o a = 0 := by
  unfold shMay; rw [if_neg (by simp [h1]), h2]; dsimp only; rw [hx]; exact if_neg (by simp [h3])
def anyP (h : Int × Int) (a : Int) (x : Opn) : Bool := x.1 == h && mtP x.2.2.2 a
theorem shA_bad (h1 : rightP a 0 = false) : shAnyone l h a = 2 := if_pos h1
theorem shA_held (h1 : rightP a 0 = true) (h2 : l.any (anyP h a) = true) : shAnyone l h a = 11 := by unfold shAnyone; rw [if_neg (by simp [h1])]; exact if_pos h2
theorem shA_ok (h1 : rightP a 0 = true) (h2 : l.any (anyP h a) = false) : shAnyone l h a = 0 := by unfold shAnyone; rw [if_neg (by simp [h1])]; exact if_neg (by rw [show (l.any fun x => x.1 == h && mtP x.2.2.2 a) = false from h2]; simp)
theorem any_no {n g : Int} {p : Bool} (h1 : p = (decide (x.1.1 = n) && decide (x.1.2 = g))) (h2 : p = false) : anyP (n, g) a x = false := by
  unfold anyP; rw [pair_of, ← h1, h2]; rfl
theorem any_is {n g : Int} {p m : Bool} (h1 : p = (decide (x.1.1 = n) && decide (x.1.2 = g))) (h2 : p = true) (hm : mtP x.2.2.2 a = m) : anyP (n, g) a x = m := by
  unfold anyP; rw [pair_of, ← h1, h2, hm]; rfl
end
theorem right0 {a : Int} (h : ¬ (1 ≤ a ∧ a ≤ 3)) : rightP a 0 = false := by
  cases hq : rightP a 0 with
  | false => rfl
  | true => have h1 := (rightP_iff.1 hq).1; omega
theorem drop_take {l : List Opn} {k : Nat} {x : Opn} (o : Int) (hx : l[k]? = some x) : shDrop (l.take (k + 1)) o = shDrop (l.take k) o ++ if x.2.1 = o then [] else [x] := by
  unfold shDrop
  rw [List.take_add_one, hx]
  by_cases h : x.2.1 = o <;> simp [h]
theorem drop_yes {l : List Opn} {k : Nat} {x : Opn} {o : Int} (hx : l[k]? = some x) (h : x.2.1 = o) : shDrop (l.take (k + 1)) o = shDrop (l.take k) o := by rw [drop_take o hx, if_pos h, List.append_nil]
theorem drop_no {l : List Opn} {k : Nat} {x : Opn} {o : Int} (hx : l[k]? = some x) (h : ¬ x.2.1 = o) : shDrop (l.take (k + 1)) o = shDrop (l.take k) o ++ [x] := by rw [drop_take o hx, if_neg h]
theorem drop_all {l : List Opn} {k : Nat} (hk : l.length ≤ k) (o : Int) : shDrop (l.take k) o = shDrop l o := by rw [List.take_of_length_le hk]
/-- An owner's open of a node is there once. -/
theorem mine_once {l : List Opn} (hk : SharesOk l) {h : Int × Int} {o : Int} {i j : Nat} {x y : Opn} (hx : l[i]? = some x) (hy : l[j]? = some y) (px : mineP h o x = true) (py : mineP h o y = true) : i = j := by
  have e : x.1 = h ∧ x.2.1 = o := by simpa [mineP] using px
  have f : y.1 = h ∧ y.2.1 = o := by simpa [mineP] using py
  have hp := hk.aside
  rw [List.pairwise_iff_getElem] at hp
  obtain ⟨hi, rfl⟩ := List.getElem?_eq_some_iff.1 hx
  obtain ⟨hj, rfl⟩ := List.getElem?_eq_some_iff.1 hy
  rcases Nat.lt_trichotomy i j with c | c | c
  · exact absurd (e.2.trans f.2.symm) (hp i j hi hj c (e.1.trans f.1.symm)).1
  · exact c
  · exact absurd (f.2.trans e.2.symm) (hp j i hj hi c (f.1.trans e.1.symm)).1
theorem close_eq {l : List Opn} (hk : SharesOk l) {h : Int × Int} {o : Int} {i : Nat} (hf : l.findIdx? (mineP h o) = some i) : shClose l h o = (([] ++ (l.take i).drop 0) ++ (l.take l.length).drop (i + 1), 0) := by
  obtain ⟨hi, hp, hb⟩ := List.findIdx?_eq_some_iff_getElem.1 hf
  have hx : l[i]? = some l[i] := List.getElem?_eq_getElem hi
  unfold shClose
  rw [if_pos (List.any_eq_true.2 ⟨_, List.getElem_mem hi, hp⟩)]
  refine Prod.ext ?_ rfl
  show l.filter _ = _
  have e : l = l.take i ++ l[i] :: l.drop (i + 1) := by rw [List.getElem_cons_drop, List.take_append_drop]
  have h1 : (l.take i).filter (fun x => !mineP h o x) = l.take i := by
    rw [List.filter_eq_self]
    intro x hxm
    obtain ⟨j, hj, rfl⟩ := List.mem_iff_getElem.1 hxm
    rw [List.length_take] at hj
    have := hb j (by omega)
    rw [List.getElem_take]; simpa using this
  have h2 : (l.drop (i + 1)).filter (fun x => !mineP h o x) = l.drop (i + 1) := by
    rw [List.filter_eq_self]
    intro x hxm
    obtain ⟨j, hj, rfl⟩ := List.mem_iff_getElem.1 hxm
    rw [List.length_drop] at hj
    cases hq : mineP h o (l.drop (i + 1))[j] with
    | false => rfl
    | true =>
      rw [List.getElem_drop] at hq
      have := mine_once hk hx (List.getElem?_eq_getElem (by omega)) hp hq
      omega
  rw [List.nil_append, List.drop_zero, List.take_length]
  conv => lhs; rw [e]
  rw [List.filter_append, h1, List.filter_cons, if_neg (by simp [hp]), h2]
theorem close_none {l : List Opn} {h : Int × Int} {o : Int} (hf : l.findIdx? (mineP h o) = none) : shClose l h o = (l, 5) := by
  have hn := List.findIdx?_eq_none_iff.1 hf
  unfold shClose
  rw [if_neg (by rw [List.any_eq_true]; rintro ⟨x, hx, hp⟩; rw [hn x hx] at hp; cases hp)]
  refine Prod.ext ?_ rfl
  show l.filter _ = _
  rw [List.filter_eq_self]
  intro x hx
  simp [hn x hx]

set_option maxHeartbeats 1000000 in
theorem rdown_spec (b : Nat) (v : Value) (l : List Opn) (n g o a d : Int) (hk : SharesOk l) : Spec Tryd.prog 59 #[.pointer (some ⟨b, 0, none⟩), .agg #[.int .i64 n, .int .i64 g], .int .i64 o, .int .i64 a, .int .i64 d] [rCell true b [v] 112, rRows true v 222 5 opnC l] (fun u L => u = .int .i64 ((shDown l (n, g) o a d).2 : Int) ∧ ∃ v', L = [rCell true b [v'] 112, rRows true v' 222 5 opnC (shDown l (n, g) o a d).1]) := by
  have hl := hk.few
  refine spec_of (#[.pointer (some ⟨b, 0, none⟩), .agg #[.int .i64 n, .int .i64 g], .int .i64 o, .int .i64 a, .int .i64 d, undef, undef, undef, undef, undef, undef, undef, undef, undef, undef, undef, undef, undef, undef, undef, undef, undef, undef, undef, undef, undef, undef, undef, undef, undef, undef, undef, undef, undef, undef, undef, undef, undef, undef, undef, undef, undef, undef, undef, undef, undef, undef, undef, undef, undef, undef, undef, undef, undef, undef, undef, undef, undef, undef, undef, undef, undef, undef]) Tryd.func59 rfl (by kernel_rfl) fun E w0 w h => ?_
  refine c_seq ?_
  refine c_reg ?_
  refine sq_new rfl (fun b => .pointer (some ⟨b, 0, none⟩)) [.int .i64 n, .int .i64 g] 29 (fun _ => by kernel_rfl) h ?_; intro k1 w h
  refine sq_p (.int .i64 0) rfl (fun _ => by kernel_rfl) ?_
  refine lnil ?_
  refine thn_n ?_
  refine c_seq ?_
  refine c_reg ?_
  refine sq_p (.pointer (some ⟨b, 0, none⟩)) rfl (fun _ => by kernel_rfl) ?_
  refine sq_q rfl h (g_ld 0 [.int .i64 n, .int .i64 g] (.agg #[.int .i64 n, .int .i64 g]) (by kernel_rfl) 0 rfl) ?_
  refine sq_p (.int .i64 o) rfl (fun _ => by kernel_rfl) ?_
  refine sq_call #[.pointer (some ⟨b, 0, none⟩), .agg #[.int .i64 n, .int .i64 g], .int .i64 o] [1, 1] rfl (rfind_spec b v l n g o (by omega)) (fun _ => by kernel_rfl) h ?_; rintro v_ L_ w (⟨i2, y3, hf4, hy3, rfl, rfl⟩ | ⟨hf6, rfl, rfl⟩) h
  · skip
    have hbi2 := (List.getElem?_eq_some_iff.1 hy3).1
    refine sq_p (.int .i64 (i2 : Int)) rfl (fun _ => by kernel_rfl) ?_
    refine lnil ?_
    refine thn_n ?_
    refine c_seq ?_
    refine c_seq ?_
    refine c_reg ?_
    refine sq_p (.int .i64 (i2 : Int)) rfl (fun _ => by kernel_rfl) ?_
    refine sq_p (.bool (decide ((i2 : Int) < 0))) rfl (fun _ => by kernel_rfl) ?_
    refine lnil ?_
    refine thn_n ?_
    refine c_cond (decide ((i2 : Int) < 0)) (by kernel_rfl) (fun hc7 => ?_) (fun hc7 => ?_)
    · skip
      have hc7 := of_decide_eq_true hc7
      exfalso; omega
    · skip
      have hc7 := of_decide_eq_false hc7
      refine c_skip ?_
      refine thn_n ?_
      refine c_seq ?_
      refine c_reg ?_
      refine sq_p (.int .i64 a) rfl (fun _ => by kernel_rfl) ?_
      refine sq_p (.int .i64 d) rfl (fun _ => by kernel_rfl) ?_
      refine sq_call #[.int .i64 a, .int .i64 d] [] rfl (rbound_spec a d) (fun _ => by kernel_rfl) h ?_; rintro v_ L_ w ⟨rfl, rfl⟩ h
      refine sq_p (.bool (!rightP a d)) rfl (fun _ => by kernel_rfl) ?_
      refine lnil ?_
      refine thn_n ?_
      refine c_seq ?_
      refine c_seq ?_
      refine c_reg ?_
      refine sq_p (.bool (!rightP a d)) rfl (fun _ => by kernel_rfl) ?_
      refine lnil ?_
      refine thn_n ?_
      refine c_cond (!rightP a d) (by kernel_rfl) (fun hc8 => ?_) (fun hc8 => ?_)
      · skip
        have q9 : (rightP a d) = false := by simpa using hc8
        have hR : rightP a d = false := by simpa using hc8
        refine c_seq ?_
        refine c_reg ?_
        refine sq_p (.int .i64 2) rfl (fun _ => by kernel_rfl) ?_
        refine lnil ?_
        refine thn_n ?_
        refine c_ret ?_
        refine thn_r ?_
        refine ret_end [.int .i64 2] [0, 0] h (by kernel_rfl) (res_t (by kernel_rfl) res_n) ?_
        rw [shD_bad hf4 hR]
        exact ⟨rfl, _, rfl⟩
      · skip
        have q10 : (rightP a d) = true := by simpa using hc8
        have hR : rightP a d = true := by simpa using hc8
        obtain ⟨hA0, hD⟩ := rightP_iff.1 hR; have hA : Few4 a := .inr hA0
        refine c_skip ?_
        refine thn_n ?_
        refine c_seq ?_
        refine c_seq ?_
        refine c_reg ?_
        refine sq_p (.int .i64 a) rfl (fun _ => by kernel_rfl) ?_
        refine sq_p (.pointer (some ⟨b, 0, none⟩)) rfl (fun _ => by kernel_rfl) ?_
        refine sq_p (.pointer (some ⟨b, 0, none⟩)) rfl (fun _ => by kernel_rfl) ?_
        refine sq_p (.pointer (some ⟨b, 0, none⟩)) rfl (fun _ => by kernel_rfl) ?_
        refine sq_q rfl h (g_ld 0 [v] (v) (by kernel_rfl) 0 rfl) ?_
        refine sq_p (.int .i64 (i2 : Int)) rfl (fun _ => by kernel_rfl) ?_
        refine sq_q rfl h (g_idx i2 (by kernel_rfl) hbi2 1 rfl) ?_
        refine sq_p (.pointer (some ⟨blkN v, offN v + i2 * 5 + 3, none⟩)) rfl (fun _ => by kernel_rfl) ?_
        refine sq_q rfl h (g_ldr (b := blkN v) (offN v + i2 * 5 + 3) [.int .i64 y3.2.2.1] (.int .i64 y3.2.2.1) (by kernel_rfl) 1 rfl (rdRow opnC_len hy3 3 (by kernel_rfl))) ?_
        refine sq_call #[.int .i64 a, .int .i64 y3.2.2.1] [] rfl (rwithin_spec (hA) (bnd_acc (hk.bnd _ (List.mem_of_getElem? hy3)))) (fun _ => by kernel_rfl) h ?_; rintro v_ L_ w ⟨rfl, rfl⟩ h
        obtain ⟨b11, hb11⟩ : ∃ b_ : Bool, b_ = (!(!ovP a y3.2.2.1)) := ⟨_, rfl⟩
        refine sq_q (v := .bool b11) rfl h (by subst hb11; exact g_pure (v := .bool (!(!ovP a y3.2.2.1))) fun _ => by kernel_rfl) ?_
        refine sq_p (.bool b11) rfl (fun _ => by kernel_rfl) ?_
        refine sq_m0 (v := .int .i64 d) b11 (by cases b11 <;> kernel_rfl) h (fun hB => by subst hB; exact g_pure (v := .int .i64 d) fun _ => by kernel_rfl) ?_
        refine sq_m0 (v := .pointer (some ⟨b, 0, none⟩)) b11 (by cases b11 <;> kernel_rfl) h (fun hB => by subst hB; exact g_pure (v := .pointer (some ⟨b, 0, none⟩)) fun _ => by kernel_rfl) ?_
        refine sq_m0 (v := .pointer (some ⟨b, 0, none⟩)) b11 (by cases b11 <;> kernel_rfl) h (fun hB => by subst hB; exact g_pure (v := .pointer (some ⟨b, 0, none⟩)) fun _ => by kernel_rfl) ?_
        refine sq_m0 (v := .pointer (some ⟨b, 0, none⟩)) b11 (by cases b11 <;> kernel_rfl) h (fun hB => by subst hB; exact g_pure (v := .pointer (some ⟨b, 0, none⟩)) fun _ => by kernel_rfl) ?_
        refine sq_m0 (v := v) b11 (by cases b11 <;> kernel_rfl) h (fun hB => by subst hB; exact g_ld 0 [v] (v) (by kernel_rfl) 0 rfl) ?_
        refine sq_m0 (v := .int .i64 (i2 : Int)) b11 (by cases b11 <;> kernel_rfl) h (fun hB => by subst hB; exact g_pure (v := .int .i64 (i2 : Int)) fun _ => by kernel_rfl) ?_
        refine sq_m0 (v := .pointer (some ⟨blkN v, offN v + i2 * 5, none⟩)) b11 (by cases b11 <;> kernel_rfl) h (fun hB => by subst hB; exact g_idx i2 (by kernel_rfl) hbi2 1 rfl) ?_
        refine sq_m0 (v := .pointer (some ⟨blkN v, offN v + i2 * 5 + 4, none⟩)) b11 (by cases b11 <;> kernel_rfl) h (fun hB => by subst hB; exact g_pure (v := .pointer (some ⟨blkN v, offN v + i2 * 5 + 4, none⟩)) fun _ => by kernel_rfl) ?_
        refine sq_m0 (v := .int .i64 y3.2.2.2) b11 (by cases b11 <;> kernel_rfl) h (fun hB => by subst hB; exact g_ldr (b := blkN v) (offN v + i2 * 5 + 4) [.int .i64 y3.2.2.2] (.int .i64 y3.2.2.2) (by kernel_rfl) 1 rfl (rdRow opnC_len hy3 4 (by kernel_rfl))) ?_
        rcases Bool.eq_false_or_eq_true b11 with hc12 | hc12
        · skip
          subst hc12
          have q13 := hb11.symm
          have q14 : (!(ovP a y3.2.2.1)) = false := by simpa using q13
          have q15 : (ovP a y3.2.2.1) = true := by simpa using q14
          refine sn (by kernel_rfl) ?_
          refine sn (by kernel_rfl) ?_
          refine sq_p (.bool true) rfl (fun _ => by kernel_rfl) ?_
          refine lnil ?_
          refine thn_n ?_
          refine c_true (by kernel_rfl) ?_
          refine c_seq ?_
          refine c_reg ?_
          refine sq_p (.int .i64 3) rfl (fun _ => by kernel_rfl) ?_
          refine lnil ?_
          refine thn_n ?_
          refine c_ret ?_
          refine thn_r ?_
          refine ret_end [.int .i64 3] [0, 0] h (by kernel_rfl) (res_t (by kernel_rfl) res_n) ?_
          rw [shD_over hf4 hR hy3 (by first | exact or_t1 (by assumption) | exact or_t2 (by assumption) | exact or_f (by assumption) (by assumption))]
          exact ⟨rfl, _, rfl⟩
        · skip
          subst hc12
          have q16 := hb11.symm
          have q17 : (!(ovP a y3.2.2.1)) = true := by simpa using q16
          have q18 : (ovP a y3.2.2.1) = false := by simpa using q17
          refine sq_call #[.int .i64 d, .int .i64 y3.2.2.2] [] (by kernel_rfl) (rwithin_spec (hD) (bnd_deny (hk.bnd _ (List.mem_of_getElem? hy3)))) (fun _ => by kernel_rfl) h ?_; rintro v_ L_ w ⟨rfl, rfl⟩ h
          obtain ⟨b19, hb19⟩ : ∃ b_ : Bool, b_ = (!(!ovP d y3.2.2.2)) := ⟨_, rfl⟩
          refine sq_q (v := .bool b19) (by kernel_rfl) h (by subst hb19; exact g_pure (v := .bool (!(!ovP d y3.2.2.2))) fun _ => by kernel_rfl) ?_
          refine sq_p (.bool b19) rfl (fun _ => by kernel_rfl) ?_
          refine lnil ?_
          refine thn_n ?_
          refine c_cond (b19) (by kernel_rfl) (fun hc20 => ?_) (fun hc20 => ?_)
          · skip
            have q21 : (!(!(ovP d y3.2.2.2))) = true := by rw [← hb19]; exact hc20
            have q22 : (!(ovP d y3.2.2.2)) = false := by simpa using q21
            have q23 : (ovP d y3.2.2.2) = true := by simpa using q22
            refine c_seq ?_
            refine c_reg ?_
            refine sq_p (.int .i64 3) rfl (fun _ => by kernel_rfl) ?_
            refine lnil ?_
            refine thn_n ?_
            refine c_ret ?_
            refine thn_r ?_
            refine ret_end [.int .i64 3] [0, 0] h (by kernel_rfl) (res_t (by kernel_rfl) res_n) ?_
            rw [shD_over hf4 hR hy3 (by first | exact or_t1 (by assumption) | exact or_t2 (by assumption) | exact or_f (by assumption) (by assumption))]
            exact ⟨rfl, _, rfl⟩
          · skip
            have q24 : (!(!(ovP d y3.2.2.2))) = false := by rw [← hb19]; exact hc20
            have q25 : (!(ovP d y3.2.2.2)) = true := by simpa using q24
            have q26 : (ovP d y3.2.2.2) = false := by simpa using q25
            refine c_skip ?_
            refine thn_n ?_
            refine c_seq ?_
            refine c_reg ?_
            refine sq_p (.pointer (some ⟨b, 0, none⟩)) rfl (fun _ => by kernel_rfl) ?_
            refine sq_p (.pointer (some ⟨b, 0, none⟩)) rfl (fun _ => by kernel_rfl) ?_
            refine sq_p (.pointer (some ⟨b, 0, none⟩)) rfl (fun _ => by kernel_rfl) ?_
            refine sq_q rfl h (g_ld 0 [v] (v) (by kernel_rfl) 0 rfl) ?_
            refine sq_p (.int .i64 (i2 : Int)) rfl (fun _ => by kernel_rfl) ?_
            refine sq_p (.int .i64 a) rfl (fun _ => by kernel_rfl) ?_
            refine sq_q rfl h (g_idx i2 (by kernel_rfl) hbi2 1 rfl) ?_
            refine sq_p (.pointer (some ⟨blkN v, offN v + i2 * 5 + 3, none⟩)) rfl (fun _ => by kernel_rfl) ?_
            refine sq_str rfl (b := blkN v) (offN v + i2 * 5 + 3) [.int .i64 a] h 1 rfl (by kernel_rfl) (wrRow opnC_len hy3 3 (y3.1, y3.2.1, a, y3.2.2.2) (by kernel_rfl) (by kernel_rfl)) ?_; intro w h
            refine lnil ?_
            refine thn_n ?_
            refine c_seq ?_
            refine c_reg ?_
            refine sq_p (.pointer (some ⟨b, 0, none⟩)) rfl (fun _ => by kernel_rfl) ?_
            refine sq_p (.pointer (some ⟨b, 0, none⟩)) rfl (fun _ => by kernel_rfl) ?_
            refine sq_p (.pointer (some ⟨b, 0, none⟩)) rfl (fun _ => by kernel_rfl) ?_
            refine sq_q rfl h (g_ld 0 [v] (v) (by kernel_rfl) 0 rfl) ?_
            refine sq_p (.int .i64 (i2 : Int)) rfl (fun _ => by kernel_rfl) ?_
            refine sq_p (.int .i64 d) rfl (fun _ => by kernel_rfl) ?_
            have hi27 : i2 < (l.set i2 (y3.1, y3.2.1, a, y3.2.2.2)).length := by (try simp only [List.length_set]); omega
            obtain ⟨x28, hx29⟩ : ∃ x, (l.set i2 (y3.1, y3.2.1, a, y3.2.2.2))[i2]? = some x := ⟨_, List.getElem?_eq_getElem hi27⟩
            have ex28 : x28 = (y3.1, y3.2.1, a, y3.2.2.2) := by rw [List.getElem?_set_self (by omega)] at hx29; exact (Option.some.inj hx29).symm
            refine sq_q rfl h (g_idx i2 (by kernel_rfl) hi27 1 rfl) ?_
            refine sq_p (.pointer (some ⟨blkN v, offN v + i2 * 5 + 4, none⟩)) rfl (fun _ => by kernel_rfl) ?_
            refine sq_str rfl (b := blkN v) (offN v + i2 * 5 + 4) [.int .i64 d] h 1 rfl (by kernel_rfl) (wrRow opnC_len hx29 4 (x28.1, x28.2.1, x28.2.2.1, d) (by kernel_rfl) (by kernel_rfl)) ?_; intro w h
            refine lnil ?_
            refine thn_n ?_
            refine c_seq ?_
            refine c_reg ?_
            refine sq_p (.int .i64 0) rfl (fun _ => by kernel_rfl) ?_
            refine lnil ?_
            refine thn_n ?_
            refine c_ret ?_
            refine ret_end [.int .i64 0] [0, 0] h (by kernel_rfl) (res_t (by kernel_rfl) res_n) ?_
            rw [shD_set hf4 hR hy3 (by first | exact or_t1 (by assumption) | exact or_t2 (by assumption) | exact or_f (by assumption) (by assumption))]
            have hL : (l.set i2 (y3.1, y3.2.1, a, y3.2.2.2)).set i2 (x28.1, x28.2.1, x28.2.2.1, d) = l.set i2 (y3.1, y3.2.1, a, d) := by rw [List.set_set, ex28]
            rw [hL]
            exact ⟨rfl, _, rfl⟩
  · skip
    refine sq_p (.int .i64 (-1)) rfl (fun _ => by kernel_rfl) ?_
    refine lnil ?_
    refine thn_n ?_
    refine c_seq ?_
    refine c_seq ?_
    refine c_reg ?_
    refine sq_p (.int .i64 (-1)) rfl (fun _ => by kernel_rfl) ?_
    refine sq_p (.bool (decide ((-1) < 0))) rfl (fun _ => by kernel_rfl) ?_
    refine lnil ?_
    refine thn_n ?_
    refine c_cond (decide ((-1) < 0)) (by kernel_rfl) (fun hc30 => ?_) (fun hc30 => ?_)
    · skip
      have hc30 := of_decide_eq_true hc30
      refine c_seq ?_
      refine c_reg ?_
      refine sq_p (.int .i64 5) rfl (fun _ => by kernel_rfl) ?_
      refine lnil ?_
      refine thn_n ?_
      refine c_ret ?_
      refine thn_r ?_
      refine ret_end [.int .i64 5] [0, 0] h (by kernel_rfl) (res_t (by kernel_rfl) res_n) ?_
      rw [shD_none hf6]
      exact ⟨rfl, _, rfl⟩
    · skip
      have hc30 := of_decide_eq_false hc30
      exfalso; omega
set_option maxHeartbeats 1000000 in
theorem rmay_spec (b : Nat) (v : Value) (l : List Opn) (n g o a : Int) (hk : SharesOk l) : Spec Tryd.prog 61 #[.pointer (some ⟨b, 0, none⟩), .agg #[.int .i64 n, .int .i64 g], .int .i64 o, .int .i64 a] [rCell true b [v] 112, rRows true v 222 5 opnC l] (fun u L => u = .int .i64 ((shMay l (n, g) o a : Nat) : Int) ∧ L = [rCell true b [v] 112, rRows true v 222 5 opnC l]) := by
  have hl := hk.few
  refine spec_of (#[.pointer (some ⟨b, 0, none⟩), .agg #[.int .i64 n, .int .i64 g], .int .i64 o, .int .i64 a, undef, undef, undef, undef, undef, undef, undef, undef, undef, undef, undef, undef, undef, undef, undef, undef, undef, undef, undef, undef, undef, undef, undef, undef, undef, undef, undef, undef, undef, undef, undef]) Tryd.func61 rfl (by kernel_rfl) fun E w0 w h => ?_
  refine c_seq ?_
  refine c_reg ?_
  refine sq_new rfl (fun b => .pointer (some ⟨b, 0, none⟩)) [.int .i64 n, .int .i64 g] 29 (fun _ => by kernel_rfl) h ?_; intro k1 w h
  refine sq_p (.int .i64 0) rfl (fun _ => by kernel_rfl) ?_
  refine lnil ?_
  refine thn_n ?_
  refine c_seq ?_
  refine c_seq ?_
  refine c_reg ?_
  refine sq_p (.int .i64 a) rfl (fun _ => by kernel_rfl) ?_
  obtain ⟨b2, hb2⟩ : ∃ b_ : Bool, b_ = (decide (a < 1)) := ⟨_, rfl⟩
  refine sq_q (v := .bool b2) rfl h (by subst hb2; exact g_pure (v := .bool (decide (a < 1))) fun _ => by kernel_rfl) ?_
  refine sq_p (.bool b2) rfl (fun _ => by kernel_rfl) ?_
  refine sq_m0 (v := .int .i64 a) b2 (by cases b2 <;> kernel_rfl) h (fun hB => by subst hB; exact g_pure (v := .int .i64 a) fun _ => by kernel_rfl) ?_
  obtain ⟨b3, hb3⟩ : ∃ b_ : Bool, b_ = (decide (a > 3)) := ⟨_, rfl⟩
  refine sq_m0 (v := .bool b3) b2 (by cases b2 <;> kernel_rfl) h (fun hB => by subst hB; exact by subst hb3; exact g_pure (v := .bool (decide (a > 3))) fun _ => by kernel_rfl) ?_
  obtain ⟨b4, hb4⟩ : ∃ b_ : Bool, b_ = (b2 || b3) := ⟨_, rfl⟩
  refine sq_q (v := .bool b4) rfl h (by subst hb4; exact g_pure (v := .bool (b2 || b3)) fun _ => by cases b2 <;> kernel_rfl) ?_
  refine lnil ?_
  refine thn_n ?_
  refine c_cond (b4) (by kernel_rfl) (fun hc5 => ?_) (fun hc5 => ?_)
  · skip
    have q6 : (b2 || b3) = true := by rw [← hb4]; exact hc5
    have hR : rightP a 0 = false := right0 (by subst hb4 hb3 hb2; revert hc5; simp; omega)
    refine c_seq ?_
    refine c_reg ?_
    refine sq_p (.int .i64 2) rfl (fun _ => by kernel_rfl) ?_
    refine lnil ?_
    refine thn_n ?_
    refine c_ret ?_
    refine thn_r ?_
    refine ret_end [.int .i64 2] [1, 1] h (by kernel_rfl) (res_t (by kernel_rfl) res_n) ?_
    rw [shM_bad hR]
    exact ⟨rfl, rfl⟩
  · skip
    have q7 : (b2 || b3) = false := by rw [← hb4]; exact hc5
    have q8 : b2 = false := by revert q7; cases b2 <;> simp
    have q9 : b3 = false := by revert q7; cases b2 <;> cases b3 <;> simp
    have q10 : (decide (a < 1)) = false := by rw [← hb2]; exact q8
    have q10 := of_decide_eq_false q10
    have q11 : (decide (a > 3)) = false := by rw [← hb3]; exact q9
    have q11 := of_decide_eq_false q11
    have hR : rightP a 0 = true := rightP_iff.2 ⟨by omega, .inl rfl⟩
    have hA : Few4 a := .inr (rightP_iff.1 hR).1
    refine c_skip ?_
    refine thn_n ?_
    refine c_seq ?_
    refine c_reg ?_
    refine sq_p (.pointer (some ⟨b, 0, none⟩)) rfl (fun _ => by kernel_rfl) ?_
    refine sq_q rfl h (g_ld 0 [.int .i64 n, .int .i64 g] (.agg #[.int .i64 n, .int .i64 g]) (by kernel_rfl) 0 rfl) ?_
    refine sq_p (.int .i64 o) rfl (fun _ => by kernel_rfl) ?_
    refine sq_call #[.pointer (some ⟨b, 0, none⟩), .agg #[.int .i64 n, .int .i64 g], .int .i64 o] [1, 1] rfl (rfind_spec b v l n g o (by omega)) (fun _ => by kernel_rfl) h ?_; rintro v_ L_ w (⟨i12, y13, hf14, hy13, rfl, rfl⟩ | ⟨hf16, rfl, rfl⟩) h
    · skip
      have hbi12 := (List.getElem?_eq_some_iff.1 hy13).1
      refine sq_p (.int .i64 (i12 : Int)) rfl (fun _ => by kernel_rfl) ?_
      refine lnil ?_
      refine thn_n ?_
      refine c_seq ?_
      refine c_seq ?_
      refine c_reg ?_
      refine sq_p (.int .i64 (i12 : Int)) rfl (fun _ => by kernel_rfl) ?_
      obtain ⟨b17, hb17⟩ : ∃ b_ : Bool, b_ = (decide ((i12 : Int) < 0)) := ⟨_, rfl⟩
      refine sq_q (v := .bool b17) rfl h (by subst hb17; exact g_pure (v := .bool (decide ((i12 : Int) < 0))) fun _ => by kernel_rfl) ?_
      refine sq_p (.bool b17) rfl (fun _ => by kernel_rfl) ?_
      rcases Bool.eq_false_or_eq_true b17 with hc18 | hc18
      · skip
        subst hc18
        have q19 := hb17.symm
        have q19 := of_decide_eq_true q19
        exfalso; omega
      · skip
        subst hc18
        have q20 := hb17.symm
        have q20 := of_decide_eq_false q20
        refine sq_p (.int .i64 a) (by kernel_rfl) (fun _ => by kernel_rfl) ?_
        refine sq_p (.pointer (some ⟨b, 0, none⟩)) (by kernel_rfl) (fun _ => by kernel_rfl) ?_
        refine sq_p (.pointer (some ⟨b, 0, none⟩)) (by kernel_rfl) (fun _ => by kernel_rfl) ?_
        refine sq_p (.pointer (some ⟨b, 0, none⟩)) (by kernel_rfl) (fun _ => by kernel_rfl) ?_
        refine sq_q (by kernel_rfl) h (g_ld 0 [v] (v) (by kernel_rfl) 0 rfl) ?_
        refine sq_p (.int .i64 (i12 : Int)) (by kernel_rfl) (fun _ => by kernel_rfl) ?_
        refine sq_q (by kernel_rfl) h (g_idx i12 (by kernel_rfl) hbi12 1 rfl) ?_
        refine sq_p (.pointer (some ⟨blkN v, offN v + i12 * 5 + 3, none⟩)) (by kernel_rfl) (fun _ => by kernel_rfl) ?_
        refine sq_q (by kernel_rfl) h (g_ldr (b := blkN v) (offN v + i12 * 5 + 3) [.int .i64 y13.2.2.1] (.int .i64 y13.2.2.1) (by kernel_rfl) 1 rfl (rdRow opnC_len hy13 3 (by kernel_rfl))) ?_
        refine sq_call #[.int .i64 a, .int .i64 y13.2.2.1] [] (by kernel_rfl) (rwithin_spec (hA) (bnd_acc (hk.bnd _ (List.mem_of_getElem? hy13)))) (fun _ => by kernel_rfl) h ?_; rintro v_ L_ w ⟨rfl, rfl⟩ h
        obtain ⟨b21, hb21⟩ : ∃ b_ : Bool, b_ = (!(!ovP a y13.2.2.1)) := ⟨_, rfl⟩
        refine sq_q (v := .bool b21) (by kernel_rfl) h (by subst hb21; exact g_pure (v := .bool (!(!ovP a y13.2.2.1))) fun _ => by kernel_rfl) ?_
        refine sq_p (.bool b21) rfl (fun _ => by kernel_rfl) ?_
        refine lnil ?_
        refine thn_n ?_
        refine c_cond (b21) (by kernel_rfl) (fun hc22 => ?_) (fun hc22 => ?_)
        · skip
          have q23 : (!(!(ovP a y13.2.2.1))) = true := by rw [← hb21]; exact hc22
          have q24 : (!(ovP a y13.2.2.1)) = false := by simpa using q23
          have q25 : (ovP a y13.2.2.1) = true := by simpa using q24
          refine c_seq ?_
          refine c_reg ?_
          refine sq_p (.int .i64 5) rfl (fun _ => by kernel_rfl) ?_
          refine lnil ?_
          refine thn_n ?_
          refine c_ret ?_
          refine thn_r ?_
          refine ret_end [.int .i64 5] [0, 0] h (by kernel_rfl) (res_t (by kernel_rfl) res_n) ?_
          rw [shM_over hR hf14 hy13 (by assumption)]
          exact ⟨rfl, rfl⟩
        · skip
          have q26 : (!(!(ovP a y13.2.2.1))) = false := by rw [← hb21]; exact hc22
          have q27 : (!(ovP a y13.2.2.1)) = true := by simpa using q26
          have q28 : (ovP a y13.2.2.1) = false := by simpa using q27
          refine c_skip ?_
          refine thn_n ?_
          refine c_seq ?_
          refine c_reg ?_
          refine sq_p (.int .i64 0) rfl (fun _ => by kernel_rfl) ?_
          refine lnil ?_
          refine thn_n ?_
          refine c_ret ?_
          refine ret_end [.int .i64 0] [0, 0] h (by kernel_rfl) (res_t (by kernel_rfl) res_n) ?_
          rw [shM_ok hR hf14 hy13 (by assumption)]
          exact ⟨rfl, rfl⟩
    · skip
      refine sq_p (.int .i64 (-1)) rfl (fun _ => by kernel_rfl) ?_
      refine lnil ?_
      refine thn_n ?_
      refine c_seq ?_
      refine c_seq ?_
      refine c_reg ?_
      refine sq_p (.int .i64 (-1)) rfl (fun _ => by kernel_rfl) ?_
      obtain ⟨b29, hb29⟩ : ∃ b_ : Bool, b_ = (decide ((-1) < 0)) := ⟨_, rfl⟩
      refine sq_q (v := .bool b29) rfl h (by subst hb29; exact g_pure (v := .bool (decide ((-1) < 0))) fun _ => by kernel_rfl) ?_
      refine sq_p (.bool b29) rfl (fun _ => by kernel_rfl) ?_
      rcases Bool.eq_false_or_eq_true b29 with hc30 | hc30
      · skip
        subst hc30
        have q31 := hb29.symm
        have q31 := of_decide_eq_true q31
        refine sn (by kernel_rfl) ?_
        refine sn (by kernel_rfl) ?_
        refine sn (by kernel_rfl) ?_
        refine sn (by kernel_rfl) ?_
        refine sn (by kernel_rfl) ?_
        refine sn (by kernel_rfl) ?_
        refine sn (by kernel_rfl) ?_
        refine sn (by kernel_rfl) ?_
        refine sn (by kernel_rfl) ?_
        refine sn (by kernel_rfl) ?_
        refine sn (by kernel_rfl) ?_
        refine sq_p (.bool true) rfl (fun _ => by kernel_rfl) ?_
        refine lnil ?_
        refine thn_n ?_
        refine c_true (by kernel_rfl) ?_
        refine c_seq ?_
        refine c_reg ?_
        refine sq_p (.int .i64 5) rfl (fun _ => by kernel_rfl) ?_
        refine lnil ?_
        refine thn_n ?_
        refine c_ret ?_
        refine thn_r ?_
        refine ret_end [.int .i64 5] [0, 0] h (by kernel_rfl) (res_t (by kernel_rfl) res_n) ?_
        rw [shM_none hR hf16]
        exact ⟨rfl, rfl⟩
      · skip
        subst hc30
        have q32 := hb29.symm
        have q32 := of_decide_eq_false q32
        exfalso; omega
set_option maxHeartbeats 1000000 in
theorem ranyone_spec (b : Nat) (v : Value) (l : List Opn) (n g a : Int) (hk : SharesOk l) : Spec Tryd.prog 63 #[.pointer (some ⟨b, 0, none⟩), .agg #[.int .i64 n, .int .i64 g], .int .i64 a] [rCell true b [v] 112, rRows true v 222 5 opnC l] (fun u L => u = .int .i64 ((shAnyone l (n, g) a : Nat) : Int) ∧ L = [rCell true b [v] 112, rRows true v 222 5 opnC l]) := by
  have hl := hk.few
  refine spec_of (#[.pointer (some ⟨b, 0, none⟩), .agg #[.int .i64 n, .int .i64 g], .int .i64 a, undef, undef, undef, undef, undef, undef, undef, undef, undef, undef, undef, undef, undef, undef, undef, undef, undef, undef, undef, undef, undef, undef, undef, undef, undef, undef, undef, undef, undef, undef, undef, undef, undef, undef, undef, undef, undef, undef, undef, undef, undef, undef]) Tryd.func63 rfl (by kernel_rfl) fun E w0 w h => ?_
  refine c_seq ?_
  refine c_reg ?_
  refine sq_new rfl (fun b => .pointer (some ⟨b, 0, none⟩)) [.int .i64 n, .int .i64 g] 29 (fun _ => by kernel_rfl) h ?_; intro k1 w h
  refine sq_p (.int .i64 0) rfl (fun _ => by kernel_rfl) ?_
  refine lnil ?_
  refine thn_n ?_
  refine c_seq ?_
  refine c_seq ?_
  refine c_reg ?_
  refine sq_p (.int .i64 a) rfl (fun _ => by kernel_rfl) ?_
  obtain ⟨b2, hb2⟩ : ∃ b_ : Bool, b_ = (decide (a < 1)) := ⟨_, rfl⟩
  refine sq_q (v := .bool b2) rfl h (by subst hb2; exact g_pure (v := .bool (decide (a < 1))) fun _ => by kernel_rfl) ?_
  refine sq_p (.bool b2) rfl (fun _ => by kernel_rfl) ?_
  refine sq_m0 (v := .int .i64 a) b2 (by cases b2 <;> kernel_rfl) h (fun hB => by subst hB; exact g_pure (v := .int .i64 a) fun _ => by kernel_rfl) ?_
  obtain ⟨b3, hb3⟩ : ∃ b_ : Bool, b_ = (decide (a > 3)) := ⟨_, rfl⟩
  refine sq_m0 (v := .bool b3) b2 (by cases b2 <;> kernel_rfl) h (fun hB => by subst hB; exact by subst hb3; exact g_pure (v := .bool (decide (a > 3))) fun _ => by kernel_rfl) ?_
  obtain ⟨b4, hb4⟩ : ∃ b_ : Bool, b_ = (b2 || b3) := ⟨_, rfl⟩
  refine sq_q (v := .bool b4) rfl h (by subst hb4; exact g_pure (v := .bool (b2 || b3)) fun _ => by cases b2 <;> kernel_rfl) ?_
  refine lnil ?_
  refine thn_n ?_
  refine c_cond (b4) (by kernel_rfl) (fun hc5 => ?_) (fun hc5 => ?_)
  · skip
    have q6 : (b2 || b3) = true := by rw [← hb4]; exact hc5
    have hR : rightP a 0 = false := right0 (by subst hb4 hb3 hb2; revert hc5; simp; omega)
    refine c_seq ?_
    refine c_reg ?_
    refine sq_p (.int .i64 2) rfl (fun _ => by kernel_rfl) ?_
    refine lnil ?_
    refine thn_n ?_
    refine c_ret ?_
    refine thn_r ?_
    refine ret_end [.int .i64 2] [1, 1] h (by kernel_rfl) (res_t (by kernel_rfl) res_n) ?_
    rw [shA_bad hR]
    exact ⟨rfl, rfl⟩
  · skip
    have q7 : (b2 || b3) = false := by rw [← hb4]; exact hc5
    have q8 : b2 = false := by revert q7; cases b2 <;> simp
    have q9 : b3 = false := by revert q7; cases b2 <;> cases b3 <;> simp
    have q10 : (decide (a < 1)) = false := by rw [← hb2]; exact q8
    have q10 := of_decide_eq_false q10
    have q11 : (decide (a > 3)) = false := by rw [← hb3]; exact q9
    have q11 := of_decide_eq_false q11
    have hR : rightP a 0 = true := rightP_iff.2 ⟨by omega, .inl rfl⟩
    have hA : Few4 a := .inr (rightP_iff.1 hR).1
    refine c_skip ?_
    refine thn_n ?_
    refine c_seq ?_
    refine c_seq ?_
    refine c_reg ?_
    refine sq_p (.int .i64 0) rfl (fun _ => by kernel_rfl) ?_
    refine lnil ?_
    refine thn_n ?_
    refine c_block ?_
    refine c_loop (X := Nat × (Nat → Value)) (fun ⟨i, J0⟩ => ⟨#[.pointer (some ⟨b, 0, none⟩), .agg #[.int .i64 n, .int .i64 g], .int .i64 a, undef, .pointer (some ⟨k1, 0, none⟩), undef, J0 6, .int .i64 (i : Int), .int .i64 a, .bool b2, .bool b2, (if b2 = false then .int .i64 a else undef), (if b2 = false then .bool b3 else undef), .bool b4, J0 14, J0 15, J0 16, J0 17, J0 18, J0 19, J0 20, J0 21, J0 22, J0 23, J0 24, J0 25, J0 26, J0 27, J0 28, J0 29, J0 30, J0 31, J0 32, J0 33, J0 34, J0 35, J0 36, J0 37, J0 38, J0 39, J0 40, J0 41, J0 42, J0 43, J0 44], []⟩)
      (fun ⟨i, J0⟩ => [rCell true k1 [.int .i64 n, .int .i64 g] 29, rCell true b [v] 112, rRows true v 222 5 opnC l]) (fun ⟨i, J0⟩ => i ≤ l.length ∧ ∀ j y, j < i → l[j]? = some y → anyP (n, g) a y = false) (fun ⟨i, J0⟩ => l.length - i)
      ⟨0, (fun n => (#[.pointer (some ⟨b, 0, none⟩), .agg #[.int .i64 n, .int .i64 g], .int .i64 a, undef, .pointer (some ⟨k1, 0, none⟩), undef, .int .i64 0, .int .i64 0, .int .i64 a, .bool b2, .bool b2, (if b2 = false then .int .i64 a else undef), (if b2 = false then .bool b3 else undef), .bool b4, undef, undef, undef, undef, undef, undef, undef, undef, undef, undef, undef, undef, undef, undef, undef, undef, undef, undef, undef, undef, undef, undef, undef, undef, undef, undef, undef, undef, undef, undef, undef] : Array Value).getD n undef)⟩ ⟨by omega, fun j y hj => by omega⟩ (by kernel_rfl) [0, 0, 0] (by kernel_rfl) h ?_
    rintro ⟨i, J0⟩ w hG h
    obtain ⟨hi0, hno⟩ : i ≤ l.length ∧ ∀ j y, j < i → l[j]? = some y → anyP (n, g) a y = false := hG
    refine c_seq ?_
    refine c_seq ?_
    refine c_reg ?_
    refine sq_p (.int .i64 (i : Int)) rfl (fun _ => by kernel_rfl) ?_
    refine sq_p (.pointer (some ⟨b, 0, none⟩)) rfl (fun _ => by kernel_rfl) ?_
    refine sq_p (.pointer (some ⟨b, 0, none⟩)) rfl (fun _ => by kernel_rfl) ?_
    refine sq_p (.pointer (some ⟨b, 0, none⟩)) rfl (fun _ => by kernel_rfl) ?_
    refine sq_q rfl h (g_ld 0 [v] (v) (by kernel_rfl) 1 rfl) ?_
    refine sq_q rfl h (g_len (by kernel_rfl) 2 rfl) ?_
    refine sq_p (.bool (decide ((i : Int) < (l.length : Int)))) rfl (fun _ => by kernel_rfl) ?_
    refine lnil ?_
    refine thn_n ?_
    refine c_cond (decide ((i : Int) < (l.length : Int))) (by kernel_rfl) (fun hc12 => ?_) (fun hc12 => ?_)
    · skip
      have hc12 := of_decide_eq_true hc12
      refine c_skip ?_
      refine thn_n ?_
      refine c_seq ?_
      refine c_block ?_
      refine c_seq ?_
      refine d_start 22 [0, 0, 0] (by kernel_rfl) h fun w h => ?_
      refine d_take 0 272 [0, 0, 0] rfl (v := .pointer (some ⟨b, 0, none⟩)) (by kernel_rfl) (qp_thn (qp_blk (qp_thn (qp_rnd (qp_blk (qp_thn qp_body)))))) (yq (by kernel_rfl) (g_pure (v := .pointer (some ⟨b, 0, none⟩)) fun _ => by kernel_rfl)) h (by kernel_rfl) ?_
      refine d_take 1 273 [0, 0, 0] rfl (v := .pointer (some ⟨b, 0, none⟩)) (by kernel_rfl) (qp_thn (qp_blk (qp_thn (qp_rnd (qp_blk (qp_thn qp_body)))))) (yq (by kernel_rfl) (g_pure (v := .pointer (some ⟨b, 0, none⟩)) fun _ => by kernel_rfl)) h (by kernel_rfl) ?_
      refine d_take 2 275 [0, 0, 0] rfl (v := .pointer (some ⟨b, 0, none⟩)) (by kernel_rfl) (qp_thn (qp_blk (qp_thn (qp_rnd (qp_blk (qp_thn qp_body)))))) (yq (by kernel_rfl) (g_pure (v := .pointer (some ⟨b, 0, none⟩)) fun _ => by kernel_rfl)) h (by kernel_rfl) ?_
      refine d_take 3 279 [0, 0, 0] rfl (v := v) (by kernel_rfl) (qp_thn (qp_blk (qp_thn (qp_rnd (qp_blk (qp_thn qp_body)))))) (yq (by kernel_rfl) (g_ld 0 [v] (v) (by kernel_rfl) 1 rfl)) h (by kernel_rfl) ?_
      refine d_take 4 271 [0, 0, 0] rfl (v := .int .i64 (i : Int)) (by kernel_rfl) (qp_thn (qp_blk (qp_thn (qp_rnd (qp_blk (qp_thn qp_body)))))) (yq (by kernel_rfl) (g_pure (v := .int .i64 (i : Int)) fun _ => by kernel_rfl)) h (by kernel_rfl) ?_
      have hi13 : i < l.length := by omega
      obtain ⟨x14, hx15⟩ : ∃ x, l[i]? = some x := ⟨_, List.getElem?_eq_getElem hi13⟩
      refine d_take 5 287 [0, 0, 0] rfl (v := .pointer (some ⟨blkN v, offN v + i * 5, none⟩)) (by kernel_rfl) (qp_thn (qp_blk (qp_thn (qp_rnd (qp_blk (qp_thn qp_body)))))) (yq (by kernel_rfl) (g_idx i (by kernel_rfl) hi13 2 rfl)) h (by kernel_rfl) ?_
      refine d_take 6 319 [0, 0, 0] rfl (v := .pointer (some ⟨blkN v, offN v + i * 5, none⟩)) (by kernel_rfl) (qp_thn (qp_blk (qp_thn (qp_rnd (qp_blk (qp_thn qp_body)))))) (yq (by kernel_rfl) (g_pure (v := .pointer (some ⟨blkN v, offN v + i * 5, none⟩)) fun _ => by kernel_rfl)) h (by kernel_rfl) ?_
      refine d_take 7 383 [0, 0, 0] rfl (v := .agg #[.int .i64 x14.1.1, .int .i64 x14.1.2]) (by kernel_rfl) (qp_thn (qp_blk (qp_thn (qp_rnd (qp_blk (qp_thn qp_body)))))) (yq (by kernel_rfl) (g_ldr (b := blkN v) (offN v + i * 5) [.int .i64 x14.1.1, .int .i64 x14.1.2] (.agg #[.int .i64 x14.1.1, .int .i64 x14.1.2]) (by kernel_rfl) 2 rfl (rdRow0 opnC_len hx15 (by kernel_rfl)))) h (by kernel_rfl) ?_
      refine d_take 8 255 [0, 0, 0] rfl (v := .agg #[.int .i64 n, .int .i64 g]) (by kernel_rfl) (qp_thn (qp_blk (qp_thn (qp_rnd (qp_blk (qp_thn qp_body)))))) (yq (by kernel_rfl) (g_ld 0 [.int .i64 n, .int .i64 g] (.agg #[.int .i64 n, .int .i64 g]) (by kernel_rfl) 0 rfl)) h (by kernel_rfl) ?_
      obtain ⟨b16, hb16⟩ : ∃ b_ : Bool, b_ = ((decide (x14.1.1 = n)) && (decide (x14.1.2 = g))) := ⟨_, rfl⟩
      refine d_take 9 511 [0, 0, 0] rfl (v := .bool b16) (by kernel_rfl) (qp_thn (qp_blk (qp_thn (qp_rnd (qp_blk (qp_thn qp_body)))))) (yq (by kernel_rfl) (by subst hb16; exact g_eqH (by kernel_rfl))) h (by kernel_rfl) ?_
      refine d_take 10 1023 [0, 0, 0] rfl (v := .bool b16) (by kernel_rfl) (qp_thn (qp_blk (qp_thn (qp_rnd (qp_blk (qp_thn qp_body)))))) (yq (by kernel_rfl) (g_pure (v := .bool b16) fun _ => by kernel_rfl)) h (by kernel_rfl) ?_
      rcases Bool.eq_false_or_eq_true b16 with hc17 | hc17
      · skip
        subst hc17
        have q18 := hb16.symm
        have q19 : (decide (x14.1.1 = n)) = true := by revert q18; cases (decide (x14.1.1 = n)) <;> simp
        have q20 : (decide (x14.1.2 = g)) = true := by revert q18; cases (decide (x14.1.1 = n)) <;> cases (decide (x14.1.2 = g)) <;> simp
        have q19 := of_decide_eq_true q19
        have q20 := of_decide_eq_true q20
        refine d_take 11 559103 [0, 0, 0] rfl (v := .pointer (some ⟨b, 0, none⟩)) (by kernel_rfl) (qp_thn (qp_blk (qp_thn (qp_rnd (qp_blk (qp_thn qp_body)))))) (yq (by kernel_rfl) (g_pure (v := .pointer (some ⟨b, 0, none⟩)) fun _ => by kernel_rfl)) h (by kernel_rfl) ?_
        refine d_take 12 561151 [0, 0, 0] rfl (v := .pointer (some ⟨b, 0, none⟩)) (by kernel_rfl) (qp_thn (qp_blk (qp_thn (qp_rnd (qp_blk (qp_thn qp_body)))))) (yq (by kernel_rfl) (g_pure (v := .pointer (some ⟨b, 0, none⟩)) fun _ => by kernel_rfl)) h (by kernel_rfl) ?_
        refine d_take 13 565247 [0, 0, 0] rfl (v := .pointer (some ⟨b, 0, none⟩)) (by kernel_rfl) (qp_thn (qp_blk (qp_thn (qp_rnd (qp_blk (qp_thn qp_body)))))) (yq (by kernel_rfl) (g_pure (v := .pointer (some ⟨b, 0, none⟩)) fun _ => by kernel_rfl)) h (by kernel_rfl) ?_
        refine d_take 14 573439 [0, 0, 0] rfl (v := v) (by kernel_rfl) (qp_thn (qp_blk (qp_thn (qp_rnd (qp_blk (qp_thn qp_body)))))) (yq (by kernel_rfl) (g_ld 0 [v] (v) (by kernel_rfl) 1 rfl)) h (by kernel_rfl) ?_
        refine d_take 15 557055 [0, 0, 0] rfl (v := .int .i64 (i : Int)) (by kernel_rfl) (qp_thn (qp_blk (qp_thn (qp_rnd (qp_blk (qp_thn qp_body)))))) (yq (by kernel_rfl) (g_pure (v := .int .i64 (i : Int)) fun _ => by kernel_rfl)) h (by kernel_rfl) ?_
        refine d_take 16 589823 [0, 0, 0] rfl (v := .pointer (some ⟨blkN v, offN v + i * 5, none⟩)) (by kernel_rfl) (qp_thn (qp_blk (qp_thn (qp_rnd (qp_blk (qp_thn qp_body)))))) (yq (by kernel_rfl) (g_idx i (by kernel_rfl) hi13 2 rfl)) h (by kernel_rfl) ?_
        refine d_take 17 655359 [0, 0, 0] rfl (v := .pointer (some ⟨blkN v, offN v + i * 5 + 4, none⟩)) (by kernel_rfl) (qp_thn (qp_blk (qp_thn (qp_rnd (qp_blk (qp_thn qp_body)))))) (yq (by kernel_rfl) (g_pure (v := .pointer (some ⟨blkN v, offN v + i * 5 + 4, none⟩)) fun _ => by kernel_rfl)) h (by kernel_rfl) ?_
        refine d_take 18 786431 [0, 0, 0] rfl (v := .int .i64 x14.2.2.2) (by kernel_rfl) (qp_thn (qp_blk (qp_thn (qp_rnd (qp_blk (qp_thn qp_body)))))) (yq (by kernel_rfl) (g_ldr (b := blkN v) (offN v + i * 5 + 4) [.int .i64 x14.2.2.2] (.int .i64 x14.2.2.2) (by kernel_rfl) 2 rfl (rdRow opnC_len hx15 4 (by kernel_rfl)))) h (by kernel_rfl) ?_
        refine d_take 19 524287 [0, 0, 0] rfl (v := .int .i64 a) (by kernel_rfl) (qp_thn (qp_blk (qp_thn (qp_rnd (qp_blk (qp_thn qp_body)))))) (yq (by kernel_rfl) (g_pure (v := .int .i64 a) fun _ => by kernel_rfl)) h (by kernel_rfl) ?_
        refine d_ready [20] (by kernel_rfl) rfl ?_
        refine ad_call #[.int .i64 x14.2.2.2, .int .i64 a] [] [0, 0, 0] rfl (by kernel_rfl) (rmeets_spec (bnd_deny (hk.bnd _ (List.mem_of_getElem? hx15))) (hA)) (fun _ => by kernel_rfl) h ?_ ?_
        · skip
          rintro v_ L_ w ⟨rfl, rfl⟩ h
          refine ⟨by kernel_rfl, ?_⟩
          obtain ⟨b21, hb21⟩ : ∃ b_ : Bool, b_ = (mtP x14.2.2.2 a) := ⟨_, rfl⟩
          refine d_take 21 2097151 [0, 0, 0] rfl (v := .bool b21) (by kernel_rfl) (qp_thn (qp_blk (qp_thn (qp_rnd (qp_blk (qp_thn qp_body)))))) (yq (by kernel_rfl) (by subst hb21; exact g_pure (v := .bool (mtP x14.2.2.2 a)) fun _ => by kernel_rfl)) h (by kernel_rfl) ?_
          refine d_done (by kernel_rfl) ?_
          refine thn_n ?_
          refine c_cond (b21) (by kernel_rfl) (fun hc22 => ?_) (fun hc22 => ?_)
          · skip
            have q23 : (mtP x14.2.2.2 a) = true := by rw [← hb21]; exact hc22
            refine c_seq ?_
            refine c_reg ?_
            refine sq_p (.int .i64 11) rfl (fun _ => by kernel_rfl) ?_
            refine lnil ?_
            refine thn_n ?_
            refine c_ret ?_
            refine blk_r (thn_r (rnd_r (blk_r (thn_r ?_))))
            refine ret_end [.int .i64 11] [1, 1] h (by kernel_rfl) (res_t (by kernel_rfl) res_n) ?_
            have hT : anyP (n, g) a x14 = true := by (first | exact any_no (by assumption) (by first | assumption | rfl) | exact any_is (by assumption) (by first | assumption | rfl) (by assumption))
            rw [shA_held hR (any_some hx15 hT)]
            exact ⟨rfl, rfl⟩
          · skip
            have q24 : (mtP x14.2.2.2 a) = false := by rw [← hb21]; exact hc22
            refine c_skip ?_
            refine blk_n (thn_n ?_)
            refine c_reg ?_
            refine sq_p (.int .i64 (i : Int)) rfl (fun _ => by kernel_rfl) ?_
            refine sq_q rfl h (g_eq (v := .int .i64 (IntKind.i64.wrap ((i : Int) + 1))) (v' := .int .i64 ((i + 1 : Nat) : Int)) (g_pure fun _ => by kernel_rfl) (wr (by omega))) ?_
            refine sq_p (.int .i64 ((i + 1 : Nat) : Int)) rfl (fun _ => by kernel_rfl) ?_
            refine lnil ?_
            refine loop_end (fun j => ⟨(i + 1), j⟩) (show ((i + 1) ≤ l.length ∧ ∀ j y, j < (i + 1) → l[j]? = some y → anyP (n, g) a y = false) ∧ (l.length - (i + 1)) < (l.length - i) from ⟨⟨by omega, opn_no hno hx15 (by (first | exact any_no (by assumption) (by first | assumption | rfl) | exact any_is (by assumption) (by first | assumption | rfl) (by assumption)))⟩, by omega⟩) (by kernel_rfl) [0, 0, 0] (by kernel_rfl) h
        exact ad_nil
      · skip
        subst hc17
        have q25 := hb16.symm
        have q26 : ¬ (x14.1.1 = n ∧ x14.1.2 = g) := fun hh => by rw [decide_eq_true hh.1, decide_eq_true hh.2] at q25; cases q25
        refine d_take 11 559103 [0, 0, 0] rfl (by kernel_rfl) (qp_thn (qp_blk (qp_thn (qp_rnd (qp_blk (qp_thn qp_body)))))) (yn (by kernel_rfl)) h (by kernel_rfl) ?_
        refine d_take 12 561151 [0, 0, 0] rfl (by kernel_rfl) (qp_thn (qp_blk (qp_thn (qp_rnd (qp_blk (qp_thn qp_body)))))) (yn (by kernel_rfl)) h (by kernel_rfl) ?_
        refine d_take 13 565247 [0, 0, 0] rfl (by kernel_rfl) (qp_thn (qp_blk (qp_thn (qp_rnd (qp_blk (qp_thn qp_body)))))) (yn (by kernel_rfl)) h (by kernel_rfl) ?_
        refine d_take 14 573439 [0, 0, 0] rfl (by kernel_rfl) (qp_thn (qp_blk (qp_thn (qp_rnd (qp_blk (qp_thn qp_body)))))) (yn (by kernel_rfl)) h (by kernel_rfl) ?_
        refine d_take 15 557055 [0, 0, 0] rfl (by kernel_rfl) (qp_thn (qp_blk (qp_thn (qp_rnd (qp_blk (qp_thn qp_body)))))) (yn (by kernel_rfl)) h (by kernel_rfl) ?_
        refine d_take 16 589823 [0, 0, 0] rfl (by kernel_rfl) (qp_thn (qp_blk (qp_thn (qp_rnd (qp_blk (qp_thn qp_body)))))) (yn (by kernel_rfl)) h (by kernel_rfl) ?_
        refine d_take 17 655359 [0, 0, 0] rfl (by kernel_rfl) (qp_thn (qp_blk (qp_thn (qp_rnd (qp_blk (qp_thn qp_body)))))) (yn (by kernel_rfl)) h (by kernel_rfl) ?_
        refine d_take 18 786431 [0, 0, 0] rfl (by kernel_rfl) (qp_thn (qp_blk (qp_thn (qp_rnd (qp_blk (qp_thn qp_body)))))) (yn (by kernel_rfl)) h (by kernel_rfl) ?_
        refine d_take 19 524287 [0, 0, 0] rfl (by kernel_rfl) (qp_thn (qp_blk (qp_thn (qp_rnd (qp_blk (qp_thn qp_body)))))) (yn (by kernel_rfl)) h (by kernel_rfl) ?_
        refine d_take 20 1048575 [0, 0, 0] rfl (by kernel_rfl) (qp_thn (qp_blk (qp_thn (qp_rnd (qp_blk (qp_thn qp_body)))))) (yn (by kernel_rfl)) h (by kernel_rfl) ?_
        refine d_take 21 2097151 [0, 0, 0] rfl (v := .bool false) (by kernel_rfl) (qp_thn (qp_blk (qp_thn (qp_rnd (qp_blk (qp_thn qp_body)))))) (yq (by kernel_rfl) (g_pure (v := .bool false) fun _ => by kernel_rfl)) h (by kernel_rfl) ?_
        refine d_done (by kernel_rfl) ?_
        refine thn_n ?_
        refine c_false (by kernel_rfl) ?_
        refine c_skip ?_
        refine blk_n (thn_n ?_)
        refine c_reg ?_
        refine sq_p (.int .i64 (i : Int)) rfl (fun _ => by kernel_rfl) ?_
        refine sq_q rfl h (g_eq (v := .int .i64 (IntKind.i64.wrap ((i : Int) + 1))) (v' := .int .i64 ((i + 1 : Nat) : Int)) (g_pure fun _ => by kernel_rfl) (wr (by omega))) ?_
        refine sq_p (.int .i64 ((i + 1 : Nat) : Int)) rfl (fun _ => by kernel_rfl) ?_
        refine lnil ?_
        refine loop_end (fun j => ⟨(i + 1), j⟩) (show ((i + 1) ≤ l.length ∧ ∀ j y, j < (i + 1) → l[j]? = some y → anyP (n, g) a y = false) ∧ (l.length - (i + 1)) < (l.length - i) from ⟨⟨by omega, opn_no hno hx15 (by (first | exact any_no (by assumption) (by first | assumption | rfl) | exact any_is (by assumption) (by first | assumption | rfl) (by assumption)))⟩, by omega⟩) (by kernel_rfl) [0, 0, 0] (by kernel_rfl) h
    · skip
      have hc12 := of_decide_eq_false hc12
      refine c_exit ?_
      refine thn_e (rnd_e (blk_e (thn_n ?_)))
      refine c_seq ?_
      refine c_reg ?_
      refine sq_p (.int .i64 0) rfl (fun _ => by kernel_rfl) ?_
      refine lnil ?_
      refine thn_n ?_
      refine c_ret ?_
      refine ret_end [.int .i64 0] [1, 1] h (by kernel_rfl) (res_t (by kernel_rfl) res_n) ?_
      rw [shA_ok hR (any_none fun j y hj => hno j y (by omega))]
      exact ⟨rfl, rfl⟩
set_option maxHeartbeats 1000000 in
theorem rdrop_spec (b : Nat) (v : Value) (l : List Opn) (o : Int) (hl : l.length ≤ 1000) : Spec Tryd.prog 64 #[.pointer (some ⟨b, 0, none⟩), .int .i64 o] [rCell true b [v] 112, rRows true v 222 5 opnC l] (fun u L => u = .int .i64 ((l.length : Int) - ((shDrop l o).length : Int)) ∧ ∃ v', L = [rCell true b [v'] 112, rRows true v' 222 5 opnC (shDrop l o)]) := by
  refine spec_of (#[.pointer (some ⟨b, 0, none⟩), .int .i64 o, undef, undef, undef, undef, undef, undef, undef, undef, undef, undef, undef, undef, undef, undef, undef, undef, undef, undef, undef, undef, undef, undef, undef, undef, undef, undef, undef, undef, undef, undef, undef, undef, undef, undef, undef, undef, undef, undef, undef, undef, undef, undef]) Tryd.func64 rfl (by kernel_rfl) fun E w0 w h => ?_
  refine c_seq ?_
  refine c_reg ?_
  refine sq_p (.int .i64 0) rfl (fun _ => by kernel_rfl) ?_
  refine lnil ?_
  refine thn_n ?_
  refine c_seq ?_
  refine c_reg ?_
  refine sq_p (.slice none 0 0) rfl (fun _ => by kernel_rfl) ?_
  refine lnil ?_
  refine thn_n ?_
  refine c_seq ?_
  refine c_reg ?_
  refine sq_p (.int .i64 0) rfl (fun _ => by kernel_rfl) ?_
  refine lnil ?_
  refine thn_n ?_
  refine c_seq ?_
  refine c_seq ?_
  refine c_reg ?_
  refine sq_p (.int .i64 0) rfl (fun _ => by kernel_rfl) ?_
  refine lnil ?_
  refine thn_n ?_
  refine c_block ?_
  have h := h.nilRows 222 5 opnC
  refine c_loop (X := Nat × List Opn × Value × Nat × (Nat → Value)) (fun ⟨i, out, vo, m, J0⟩ => ⟨#[.pointer (some ⟨b, 0, none⟩), .int .i64 o, undef, undef, .int .i64 0, vo, .int .i64 (m : Int), .int .i64 (i : Int), J0 8, J0 9, J0 10, J0 11, J0 12, J0 13, J0 14, J0 15, J0 16, J0 17, J0 18, J0 19, J0 20, J0 21, J0 22, J0 23, J0 24, J0 25, J0 26, J0 27, J0 28, J0 29, J0 30, J0 31, J0 32, J0 33, J0 34, J0 35, J0 36, J0 37, J0 38, undef, undef, undef, undef, undef], []⟩)
    (fun ⟨i, out, vo, m, J0⟩ => [rRows true vo 222 5 opnC out, rCell true b [v] 112, rRows true v 222 5 opnC l]) (fun ⟨i, out, vo, m, J0⟩ => i ≤ l.length ∧ out = shDrop (l.take i) o ∧ m + out.length = i) (fun ⟨i, out, vo, m, J0⟩ => l.length - i)
    ⟨0, [], (.slice none 0 0), 0, (fun n => (#[.pointer (some ⟨b, 0, none⟩), .int .i64 o, undef, undef, .int .i64 0, .slice none 0 0, .int .i64 0, .int .i64 0, undef, undef, undef, undef, undef, undef, undef, undef, undef, undef, undef, undef, undef, undef, undef, undef, undef, undef, undef, undef, undef, undef, undef, undef, undef, undef, undef, undef, undef, undef, undef, undef, undef, undef, undef, undef] : Array Value).getD n undef)⟩ ⟨by omega, rfl, rfl⟩ (by kernel_rfl) [0, 0, 0] (by kernel_rfl) h ?_
  rintro ⟨i, out, vo, m, J0⟩ w hG h
  obtain ⟨hi0, ho, hm⟩ : i ≤ l.length ∧ out = shDrop (l.take i) o ∧ m + out.length = i := hG
  refine c_seq ?_
  refine c_seq ?_
  refine c_reg ?_
  refine sq_p (.int .i64 (i : Int)) rfl (fun _ => by kernel_rfl) ?_
  refine sq_p (.pointer (some ⟨b, 0, none⟩)) rfl (fun _ => by kernel_rfl) ?_
  refine sq_p (.pointer (some ⟨b, 0, none⟩)) rfl (fun _ => by kernel_rfl) ?_
  refine sq_p (.pointer (some ⟨b, 0, none⟩)) rfl (fun _ => by kernel_rfl) ?_
  refine sq_q rfl h (g_ld 0 [v] (v) (by kernel_rfl) 1 rfl) ?_
  refine sq_q rfl h (g_len (by kernel_rfl) 2 rfl) ?_
  refine sq_p (.bool (decide ((i : Int) < (l.length : Int)))) rfl (fun _ => by kernel_rfl) ?_
  refine lnil ?_
  refine thn_n ?_
  refine c_cond (decide ((i : Int) < (l.length : Int))) (by kernel_rfl) (fun hc1 => ?_) (fun hc1 => ?_)
  · skip
    have hc1 := of_decide_eq_true hc1
    refine c_skip ?_
    refine thn_n ?_
    refine c_seq ?_
    refine c_block ?_
    refine c_seq ?_
    refine c_reg ?_
    refine sq_p (.pointer (some ⟨b, 0, none⟩)) rfl (fun _ => by kernel_rfl) ?_
    refine sq_p (.pointer (some ⟨b, 0, none⟩)) rfl (fun _ => by kernel_rfl) ?_
    refine sq_p (.pointer (some ⟨b, 0, none⟩)) rfl (fun _ => by kernel_rfl) ?_
    refine sq_q rfl h (g_ld 0 [v] (v) (by kernel_rfl) 1 rfl) ?_
    refine sq_p (.int .i64 (i : Int)) rfl (fun _ => by kernel_rfl) ?_
    have hi2 : i < l.length := by omega
    obtain ⟨x3, hx4⟩ : ∃ x, l[i]? = some x := ⟨_, List.getElem?_eq_getElem hi2⟩
    refine sq_q rfl h (g_idx i (by kernel_rfl) hi2 2 rfl) ?_
    refine sq_p (.pointer (some ⟨blkN v, offN v + i * 5 + 2, none⟩)) rfl (fun _ => by kernel_rfl) ?_
    refine sq_q rfl h (g_ldr (b := blkN v) (offN v + i * 5 + 2) [.int .i64 x3.2.1] (.int .i64 x3.2.1) (by kernel_rfl) 2 rfl (rdRow opnC_len hx4 2 (by kernel_rfl))) ?_
    refine sq_p (.int .i64 o) rfl (fun _ => by kernel_rfl) ?_
    refine sq_p (.bool (decide (x3.2.1 = o))) rfl (fun _ => by kernel_rfl) ?_
    refine lnil ?_
    refine thn_n ?_
    refine c_cond (decide (x3.2.1 = o)) (by kernel_rfl) (fun hc5 => ?_) (fun hc5 => ?_)
    · skip
      have hc5 := of_decide_eq_true hc5
      refine c_reg ?_
      refine sq_p (.int .i64 (m : Int)) rfl (fun _ => by kernel_rfl) ?_
      refine sq_q rfl h (g_eq (v := .int .i64 (IntKind.i64.wrap ((m : Int) + 1))) (v' := .int .i64 ((m + 1 : Nat) : Int)) (g_pure fun _ => by kernel_rfl) (wr (by omega))) ?_
      refine sq_p (.int .i64 ((m + 1 : Nat) : Int)) rfl (fun _ => by kernel_rfl) ?_
      refine lnil ?_
      refine blk_n (thn_n ?_)
      refine c_reg ?_
      refine sq_p (.int .i64 (i : Int)) rfl (fun _ => by kernel_rfl) ?_
      refine sq_q rfl h (g_eq (v := .int .i64 (IntKind.i64.wrap ((i : Int) + 1))) (v' := .int .i64 ((i + 1 : Nat) : Int)) (g_pure fun _ => by kernel_rfl) (wr (by omega))) ?_
      refine sq_p (.int .i64 ((i + 1 : Nat) : Int)) rfl (fun _ => by kernel_rfl) ?_
      refine lnil ?_
      refine loop_end (fun j => ⟨(i + 1), out, vo, m + 1, j⟩) (show ((i + 1) ≤ l.length ∧ out = shDrop (l.take (i + 1)) o ∧ (m + 1) + out.length = (i + 1)) ∧ (l.length - (i + 1)) < (l.length - i) from ⟨⟨by omega, by rw [ho, drop_yes hx4 (by omega)], by (try simp only [List.length_append, List.length_cons, List.length_nil]); omega⟩, by omega⟩) (by kernel_rfl) [0, 0, 0] (by kernel_rfl) h
    · skip
      have hc5 := of_decide_eq_false hc5
      refine c_reg ?_
      refine sq_p (vo) rfl (fun _ => by kernel_rfl) ?_
      refine sq_p (.pointer (some ⟨b, 0, none⟩)) rfl (fun _ => by kernel_rfl) ?_
      refine sq_p (.pointer (some ⟨b, 0, none⟩)) rfl (fun _ => by kernel_rfl) ?_
      refine sq_p (.pointer (some ⟨b, 0, none⟩)) rfl (fun _ => by kernel_rfl) ?_
      refine sq_q rfl h (g_ld 0 [v] (v) (by kernel_rfl) 1 rfl) ?_
      refine sq_p (.int .i64 (i : Int)) rfl (fun _ => by kernel_rfl) ?_
      refine sq_q rfl h (g_idx i (by kernel_rfl) hi2 2 rfl) ?_
      refine sq_q rfl h (g_ldr (b := blkN v) (offN v + i * 5) [.int .i64 x3.1.1, .int .i64 x3.1.2, .int .i64 x3.2.1, .int .i64 x3.2.2.1, .int .i64 x3.2.2.2] (.agg #[.int .i64 x3.1.1, .int .i64 x3.1.2, .int .i64 x3.2.1, .int .i64 x3.2.2.1, .int .i64 x3.2.2.2]) (by kernel_rfl) 2 rfl (rdRow0 opnC_len hx4 (by kernel_rfl))) ?_
      refine sq_new rfl (fun b => .slice (some ⟨b, 0, none⟩) 1 1) [.int .i64 x3.1.1, .int .i64 x3.1.2, .int .i64 x3.2.1, .int .i64 x3.2.2.1, .int .i64 x3.2.2.2] 222 (fun _ => by kernel_rfl) h ?_; intro k6 w h
      refine sq_app (b := k6) (o := 0) rfl 1 x3 (by kernel_rfl) h 1 rfl 0 rfl (rdCell 0 (by kernel_rfl)) (by (try simp only [List.length_append, List.length_cons, List.length_nil]); omega) ?_; intro v7 w h
      refine sq_p (v7) rfl (fun _ => by kernel_rfl) ?_
      refine lnil ?_
      refine blk_n (thn_n ?_)
      refine c_reg ?_
      refine sq_p (.int .i64 (i : Int)) rfl (fun _ => by kernel_rfl) ?_
      refine sq_q rfl h (g_eq (v := .int .i64 (IntKind.i64.wrap ((i : Int) + 1))) (v' := .int .i64 ((i + 1 : Nat) : Int)) (g_pure fun _ => by kernel_rfl) (wr (by omega))) ?_
      refine sq_p (.int .i64 ((i + 1 : Nat) : Int)) rfl (fun _ => by kernel_rfl) ?_
      refine lnil ?_
      refine loop_end (fun j => ⟨(i + 1), out ++ [x3], v7, m, j⟩) (show ((i + 1) ≤ l.length ∧ (out ++ [x3]) = shDrop (l.take (i + 1)) o ∧ m + (out ++ [x3]).length = (i + 1)) ∧ (l.length - (i + 1)) < (l.length - i) from ⟨⟨by omega, by rw [ho, drop_no hx4 (by omega)], by (try simp only [List.length_append, List.length_cons, List.length_nil]); omega⟩, by omega⟩) (by kernel_rfl) [1, 1, 1] (by kernel_rfl) h
  · skip
    have hc1 := of_decide_eq_false hc1
    refine c_exit ?_
    refine thn_e (rnd_e (blk_e (thn_n ?_)))
    refine c_seq ?_
    refine c_reg ?_
    refine sq_p (.pointer (some ⟨b, 0, none⟩)) rfl (fun _ => by kernel_rfl) ?_
    refine sq_p (vo) rfl (fun _ => by kernel_rfl) ?_
    refine sq_p (.pointer (some ⟨b, 0, none⟩)) rfl (fun _ => by kernel_rfl) ?_
    refine sq_p (.pointer (some ⟨b, 0, none⟩)) rfl (fun _ => by kernel_rfl) ?_
    refine sq_sto rfl (h.slv 0 rfl) 0 [vo] h 1 rfl (by kernel_rfl) ?_; intro w h
    refine lnil ?_
    refine thn_n ?_
    refine c_seq ?_
    refine c_reg ?_
    refine sq_p (.int .i64 (m : Int)) rfl (fun _ => by kernel_rfl) ?_
    refine sq_p (.int .i64 (m : Int)) rfl (fun _ => by kernel_rfl) ?_
    refine lnil ?_
    refine thn_n ?_
    refine c_ret ?_
    refine ret_end [.int .i64 (m : Int)] [1, 0] h (by kernel_rfl) (res_t (by kernel_rfl) res_n) ?_
    rw [ho, drop_all (by omega)] at *
    exact ⟨by simp [retV]; omega, _, rfl⟩
set_option maxHeartbeats 1000000 in
theorem rclose_spec (b : Nat) (v : Value) (l : List Opn) (n g o : Int) (hk : SharesOk l) : Spec Tryd.prog 60 #[.pointer (some ⟨b, 0, none⟩), .agg #[.int .i64 n, .int .i64 g], .int .i64 o] [rCell true b [v] 112, rRows true v 222 5 opnC l] (fun u L => u = .int .i64 ((shClose l (n, g) o).2 : Int) ∧ ∃ v', L = [rCell true b [v'] 112, rRows true v' 222 5 opnC (shClose l (n, g) o).1]) := by
  have hl := hk.few
  refine spec_of (#[.pointer (some ⟨b, 0, none⟩), .agg #[.int .i64 n, .int .i64 g], .int .i64 o, undef, undef, undef, undef, undef, undef, undef, undef, undef, undef, undef, undef, undef, undef, undef, undef, undef, undef, undef, undef, undef, undef, undef, undef, undef, undef, undef, undef, undef, undef, undef, undef]) Tryd.func60 rfl (by kernel_rfl) fun E w0 w h => ?_
  refine c_seq ?_
  refine c_reg ?_
  refine sq_new rfl (fun b => .pointer (some ⟨b, 0, none⟩)) [.int .i64 n, .int .i64 g] 29 (fun _ => by kernel_rfl) h ?_; intro k1 w h
  refine sq_p (.int .i64 0) rfl (fun _ => by kernel_rfl) ?_
  refine lnil ?_
  refine thn_n ?_
  refine c_seq ?_
  refine c_reg ?_
  refine sq_p (.pointer (some ⟨b, 0, none⟩)) rfl (fun _ => by kernel_rfl) ?_
  refine sq_q rfl h (g_ld 0 [.int .i64 n, .int .i64 g] (.agg #[.int .i64 n, .int .i64 g]) (by kernel_rfl) 0 rfl) ?_
  refine sq_p (.int .i64 o) rfl (fun _ => by kernel_rfl) ?_
  refine sq_call #[.pointer (some ⟨b, 0, none⟩), .agg #[.int .i64 n, .int .i64 g], .int .i64 o] [1, 1] rfl (rfind_spec b v l n g o (by omega)) (fun _ => by kernel_rfl) h ?_; rintro v_ L_ w (⟨i2, y3, hf4, hy3, rfl, rfl⟩ | ⟨hf6, rfl, rfl⟩) h
  · skip
    have hbi2 := (List.getElem?_eq_some_iff.1 hy3).1
    refine sq_p (.int .i64 (i2 : Int)) rfl (fun _ => by kernel_rfl) ?_
    refine lnil ?_
    refine thn_n ?_
    refine c_seq ?_
    refine c_seq ?_
    refine c_reg ?_
    refine sq_p (.int .i64 (i2 : Int)) rfl (fun _ => by kernel_rfl) ?_
    refine sq_p (.bool (decide ((i2 : Int) < 0))) rfl (fun _ => by kernel_rfl) ?_
    refine lnil ?_
    refine thn_n ?_
    refine c_cond (decide ((i2 : Int) < 0)) (by kernel_rfl) (fun hc7 => ?_) (fun hc7 => ?_)
    · skip
      have hc7 := of_decide_eq_true hc7
      exfalso; omega
    · skip
      have hc7 := of_decide_eq_false hc7
      refine c_skip ?_
      refine thn_n ?_
      refine c_seq ?_
      refine c_reg ?_
      refine sq_p (.slice none 0 0) rfl (fun _ => by kernel_rfl) ?_
      refine lnil ?_
      refine thn_n ?_
      refine c_seq ?_
      refine c_reg ?_
      refine sq_p (.slice none 0 0) rfl (fun _ => by kernel_rfl) ?_
      refine sq_p (.pointer (some ⟨b, 0, none⟩)) rfl (fun _ => by kernel_rfl) ?_
      refine sq_p (.pointer (some ⟨b, 0, none⟩)) rfl (fun _ => by kernel_rfl) ?_
      refine sq_p (.pointer (some ⟨b, 0, none⟩)) rfl (fun _ => by kernel_rfl) ?_
      refine sq_q rfl h (g_ld 0 [v] (v) (by kernel_rfl) 0 rfl) ?_
      refine sq_p (.int .i64 (i2 : Int)) rfl (fun _ => by kernel_rfl) ?_
      refine sq_q rfl h (g_sub2 (v := v) (d := 222) (k := 5) (LV := none) (HV := (some (.int .i64 (i2 : Int)))) 0 i2 (by kernel_rfl) rfl (bnd rfl) (by omega) (by omega) 1 rfl slRd_rows) ?_
      have h := h.nilRows 222 5 opnC
      refine sq_apps rfl 0 i2 (by kernel_rfl) opnC_len (fun _ => rfl) (by omega) (by omega) h 0 rfl 2 rfl slRd_rows (by (try simp only [List.length_append, List.length_cons, List.length_nil, List.length_take, List.length_drop]); omega) ?_; intro v8 w h
      refine sq_p (v8) rfl (fun _ => by kernel_rfl) ?_
      refine lnil ?_
      refine thn_n ?_
      refine c_seq ?_
      refine c_reg ?_
      refine sq_p (.pointer (some ⟨b, 0, none⟩)) rfl (fun _ => by kernel_rfl) ?_
      refine sq_p (v8) rfl (fun _ => by kernel_rfl) ?_
      refine sq_p (.pointer (some ⟨b, 0, none⟩)) rfl (fun _ => by kernel_rfl) ?_
      refine sq_p (.pointer (some ⟨b, 0, none⟩)) rfl (fun _ => by kernel_rfl) ?_
      refine sq_p (.pointer (some ⟨b, 0, none⟩)) rfl (fun _ => by kernel_rfl) ?_
      refine sq_q rfl h (g_ld 0 [v] (v) (by kernel_rfl) 1 rfl) ?_
      refine sq_p (.int .i64 (i2 : Int)) rfl (fun _ => by kernel_rfl) ?_
      refine sq_q rfl h (g_eq (v := .int .i64 (IntKind.i64.wrap ((i2 : Int) + 1))) (v' := .int .i64 ((i2 + 1 : Nat) : Int)) (g_pure fun _ => by kernel_rfl) (wr (by omega))) ?_
      refine sq_q rfl h (g_sub2 (v := v) (d := 222) (k := 5) (LV := (some (.int .i64 ((i2 + 1 : Nat) : Int)))) (HV := none) (i2 + 1) l.length (by kernel_rfl) (bnd rfl) rfl (by omega) (by omega) 2 rfl slRd_rows) ?_
      refine sq_apps rfl (i2 + 1) l.length (by kernel_rfl) opnC_len (fun _ => rfl) (by omega) (by omega) h 0 rfl 2 rfl slRd_rows (by (try simp only [List.length_append, List.length_cons, List.length_nil, List.length_take, List.length_drop]); omega) ?_; intro v9 w h
      refine sq_p (.pointer (some ⟨b, 0, none⟩)) rfl (fun _ => by kernel_rfl) ?_
      refine sq_p (.pointer (some ⟨b, 0, none⟩)) rfl (fun _ => by kernel_rfl) ?_
      refine sq_sto rfl (h.slv 0 rfl) 0 [v9] h 1 rfl (by kernel_rfl) ?_; intro w h
      refine lnil ?_
      refine thn_n ?_
      refine c_seq ?_
      refine c_reg ?_
      refine sq_p (.int .i64 0) rfl (fun _ => by kernel_rfl) ?_
      refine lnil ?_
      refine thn_n ?_
      refine c_ret ?_
      refine ret_end [.int .i64 0] [1, 0] h (by kernel_rfl) (res_t (by kernel_rfl) res_n) ?_
      rw [close_eq hk hf4]
      exact ⟨rfl, _, rfl⟩
  · skip
    refine sq_p (.int .i64 (-1)) rfl (fun _ => by kernel_rfl) ?_
    refine lnil ?_
    refine thn_n ?_
    refine c_seq ?_
    refine c_seq ?_
    refine c_reg ?_
    refine sq_p (.int .i64 (-1)) rfl (fun _ => by kernel_rfl) ?_
    refine sq_p (.bool (decide ((-1) < 0))) rfl (fun _ => by kernel_rfl) ?_
    refine lnil ?_
    refine thn_n ?_
    refine c_cond (decide ((-1) < 0)) (by kernel_rfl) (fun hc10 => ?_) (fun hc10 => ?_)
    · skip
      have hc10 := of_decide_eq_true hc10
      refine c_seq ?_
      refine c_reg ?_
      refine sq_p (.int .i64 5) rfl (fun _ => by kernel_rfl) ?_
      refine lnil ?_
      refine thn_n ?_
      refine c_ret ?_
      refine thn_r ?_
      refine ret_end [.int .i64 5] [0, 0] h (by kernel_rfl) (res_t (by kernel_rfl) res_n) ?_
      rw [close_none hf6]
      exact ⟨rfl, _, rfl⟩
    · skip
      have hc10 := of_decide_eq_false hc10
      exfalso; omega
end Go.Proofs.YtofhnglgebllbaaDoor
