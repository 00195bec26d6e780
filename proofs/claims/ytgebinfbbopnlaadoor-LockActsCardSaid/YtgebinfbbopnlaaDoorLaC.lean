/- lockacts: contracts by what is owned (printed by walk.py). -/
import Derived.Test.YtgebinfbbopnlaaDoorLaB
import Derived.Test.YtgebinfbbopnlaaDoorLockT
namespace Go.Proofs.YtgebinfbbopnlaaDoor
open Go.RowKit
set_option linter.unusedVariables false
set_option linter.unusedSimpArgs false
set_option linter.unnecessarySimpa false
set_option maxRecDepth 100000

/-- Taking out the least: what is out, what is left, of what there was. -/
structure SelI (base out here : List Run) : Prop where
  perm : (out ++ here).Perm base
  ord : out.Pairwise (fun x y => ¬ lockCf y x < 0)
  le : ∀ a ∈ out, ∀ b ∈ here, ¬ lockCf b a < 0
theorem SelI.start {out0 base here : List Run} {h : Int × Int} {hs : List (Int × Int)} (hp : out0.Perm base) (ho : out0.Pairwise (fun x y => ¬ lockCf y x < 0)) (h1 : ∀ a ∈ out0, ∃ g, ltH g h ∧ a.1 = g) (h2 : ∀ b ∈ here, b.1 = h) : SelI (out0 ++ here) out0 here :=
  ⟨List.Perm.refl _, ho, fun a ha b hb => by
    obtain ⟨g, hg, e⟩ := h1 a ha
    have e2 := h2 b hb
    rw [lockCf_lt, e2, e]
    unfold ltH at hg
    omega⟩
def atLt (x y : Run) : Bool := decide (x.2.2.1 < y.2.2.1) || (decide (x.2.2.1 = y.2.2.1) && decide (x.2.1 < y.2.1))
theorem SelI.step {base out here : List Run} {k : Nat} {x : Run} {h : Int × Int} (hS : SelI base out here) (hx : here[k]? = some x) (hh : ∀ b ∈ here, b.1 = h) (hm : ∀ j y, j < here.length → here[j]? = some y → atLt y x = false) :
    SelI base (out ++ [x]) (([] ++ (here.take k).drop 0) ++ (here.take here.length).drop (k + 1)) := by
  rw [List.nil_append, List.drop_zero, List.take_length]
  have hp := take_least hx
  refine ⟨?_, ?_, ?_⟩
  · refine List.Perm.trans ?_ hS.perm
    rw [List.append_assoc]
    exact List.Perm.append_left _ hp
  · rw [List.pairwise_append]
    refine ⟨hS.ord, List.pairwise_singleton _ _, fun a ha b hb => ?_⟩
    rw [List.mem_singleton.1 hb]
    exact hS.le a ha x (List.mem_of_getElem? hx)
  · intro a ha b hb
    have hb' : b ∈ here := hp.mem_iff.1 (List.mem_cons_of_mem _ hb)
    rcases List.mem_append.1 ha with ha | ha
    · exact hS.le a ha b hb'
    · rw [List.mem_singleton.1 ha, lockCf_lt, hh b hb', hh x (List.mem_of_getElem? hx)]
      obtain ⟨j, hj⟩ := List.getElem?_of_mem hb'
      have := hm j b ((List.getElem?_eq_some_iff.1 hj).1) hj
      unfold atLt at this
      simp only [Bool.or_eq_false_iff, Bool.and_eq_false_iff, decide_eq_false_iff_not] at this
      omega
theorem atLt_trans {x y z : Run} (h1 : atLt x y = true) (h2 : atLt z y = false) : atLt z x = false := by
  unfold atLt at *
  simp only [Bool.or_eq_true, Bool.and_eq_true, decide_eq_true_eq, Bool.or_eq_false_iff, Bool.and_eq_false_iff, decide_eq_false_iff_not] at *
  omega
theorem atLt_irr (x : Run) : atLt x x = false := by unfold atLt; simp
/-- The least so far. -/
structure BestI (here : List Run) (b k : Nat) : Prop where
  lt : b < here.length
  k1 : 1 ≤ k ∧ k ≤ here.length
  min : ∀ x, here[b]? = some x → ∀ j y, j < k → here[j]? = some y → atLt y x = false
theorem BestI.start {here : List Run} (h : 0 < here.length) : BestI here 0 1 := ⟨h, ⟨Nat.le_refl _, h⟩, fun x hx j y hj hy => by
  have : j = 0 := by omega
  subst this; rw [hx] at hy; cases hy; exact atLt_irr x⟩
theorem BestI.keep {here : List Run} {b k : Nat} {x y : Run} (h : BestI here b k) (hx : here[b]? = some x) (hy : here[k]? = some y) (hl : atLt y x = false) : BestI here b (k + 1) :=
  ⟨h.lt, ⟨by omega, (List.getElem?_eq_some_iff.1 hy).1⟩, fun x' hx' j z hj hz => by
    rw [hx] at hx'; cases hx'
    by_cases e : j = k
    · subst e; rw [hy] at hz; cases hz; exact hl
    · exact h.min x hx j z (by omega) hz⟩
theorem BestI.new {here : List Run} {b k : Nat} {x y : Run} (h : BestI here b k) (hx : here[b]? = some x) (hy : here[k]? = some y) (hl : atLt y x = true) : BestI here k (k + 1) :=
  ⟨(List.getElem?_eq_some_iff.1 hy).1, ⟨by omega, (List.getElem?_eq_some_iff.1 hy).1⟩, fun x' hx' j z hj hz => by
    rw [hy] at hx'; cases hx'
    by_cases e : j = k
    · subst e; rw [hy] at hz; cases hz; exact atLt_irr y
    · exact atLt_trans hl (h.min x hx j z (by omega) hz)⟩
theorem hs_before {l : List Paint} {i : Nat} {x : Int × Int} (hx : (handlesP l)[i]? = some x) : ∀ g ∈ (handlesP l).take i, ltH g x := fun g hg => by
  have hs := handles_sorted l
  obtain ⟨j, hj⟩ := List.getElem?_of_mem hg
  rw [List.getElem?_take] at hj
  split at hj
  · rename_i hji
    obtain ⟨h1, h2⟩ := List.getElem?_eq_some_iff.1 hj
    obtain ⟨h3, h4⟩ := List.getElem?_eq_some_iff.1 hx
    have := List.pairwise_iff_getElem.1 hs j i h1 h3 hji
    rw [h2, h4] at this; exact this
  · cases hj
theorem out_before {l : List Paint} (hl : ∀ p ∈ l, PntOk p) {i : Nat} {x : Int × Int} {out : List Run} (hx : (handlesP l)[i]? = some x) (hp : out.Perm (((handlesP l).take i).flatMap (hereP l))) : ∀ a ∈ out, ∃ g, ltH g x ∧ a.1 = g := fun a ha => by
  obtain ⟨g, hg, hag⟩ := List.mem_flatMap.1 (hp.mem_iff.1 ha)
  exact ⟨g, hs_before hx g hg, ((here_mem hl).1 hag).1⟩
theorem flat_take {l : List Paint} {i : Nat} {x : Int × Int} (hx : (handlesP l)[i]? = some x) : ((handlesP l).take (i + 1)).flatMap (hereP l) = ((handlesP l).take i).flatMap (hereP l) ++ hereP l x := by
  rw [List.take_add_one, hx, List.flatMap_append]; simp
theorem own_take {l : List Paint} {h : Int × Int} {k : Nat} {o : Int} (hx : (ownersP l h)[k]? = some o) : ((ownersP l h).take (k + 1)).flatMap (runsP l h) = ((ownersP l h).take k).flatMap (runsP l h) ++ runsP l h o := by
  rw [List.take_add_one, hx, List.flatMap_append]; simp
theorem own_len (l : List Paint) (h : Int × Int) (k : Nat) (hl : l.length ≤ 50) : (((ownersP l h).take k).flatMap (runsP l h)).length ≤ 5050 := by
  have h1 := flatM_len (f := runsP l h) (n := 101) ((ownersP l h).take k) (fun o _ => by have := runsP_len l h o; omega)
  have h2 := owners_len l h
  have h3 : ((ownersP l h).take k).length ≤ (ownersP l h).length := by rw [List.length_take]; omega
  have : ((ownersP l h).take k).length * 101 ≤ 50 * 101 := Nat.mul_le_mul_right _ (by omega)
  omega


theorem sel_mem {l : List Paint} (hl : ∀ p ∈ l, PntOk p) {i : Nat} {x : Int × Int} {out o2 h2 : List Run} (hx : (handlesP l)[i]? = some x) (hp : out.Perm (((handlesP l).take i).flatMap (hereP l))) (hS : SelI (out ++ hereP l x) o2 h2) (hd : ∀ b ∈ h2, b ∈ hereP l x) : ∀ b ∈ h2, b.1 = x := fun b hb => ((here_mem hl).1 (hd b hb)).1


theorem sel_sub {here base : List Run} {k : Nat} {x : Run} (hx : here[k]? = some x) (hs : ∀ b ∈ here, b ∈ base) : ∀ b ∈ (([] ++ (here.take k).drop 0) ++ (here.take here.length).drop (k + 1)), b ∈ base := fun b hb => by
  rw [List.nil_append, List.drop_zero, List.take_length] at hb
  rcases List.mem_append.1 hb with hb | hb
  · exact hs b (List.mem_of_mem_take hb)
  · exact hs b (List.mem_of_mem_drop hb)

set_option maxHeartbeats 1000000 in
theorem listOf_spec (wq : Bool) (v : Value) (l : List Paint) (hlen : l.length ≤ 50) (hok : ∀ p ∈ l, PntOk p)  : Spec Tryd.prog 47 #[v] [rRows wq v 107 6 pntC l] (fun u L => ∃ v' R, ListOk l R ∧ u = v' ∧ L = [rRows true v' 70 6 runC R, rRows wq v 107 6 pntC l]) := by
  refine spec_of (#[v, undef, undef, undef, undef, undef, undef, undef, undef, undef, undef, undef, undef, undef, undef, undef, undef, undef, undef, undef, undef, undef, undef, undef, undef, undef, undef, undef, undef, undef, undef, undef, undef, undef, undef, undef, undef, undef, undef, undef, undef, undef, undef, undef, undef, undef, undef, undef, undef, undef, undef, undef, undef, undef, undef, undef, undef, undef, undef, undef, undef, undef, undef, undef, undef, undef, undef, undef, undef, undef, undef, undef, undef, undef, undef, undef, undef, undef, undef, undef, undef, undef, undef, undef, undef, undef, undef, undef, undef, undef, undef, undef, undef, undef, undef, undef, undef, undef, undef, undef, undef, undef, undef, undef, undef, undef, undef, undef, undef, undef, undef, undef, undef, undef]) Tryd.func47 rfl (by kernel_rfl) fun E w0 w h => ?_
  refine c_seq ?_
  refine c_reg ?_
  refine sq_p (.slice none 0 0) rfl (fun _ => by kernel_rfl) ?_
  refine lnil ?_
  refine thn_n ?_
  refine c_seq ?_
  refine c_reg ?_
  refine sq_p (.slice none 0 0) rfl (fun _ => by kernel_rfl) ?_
  refine lnil ?_
  refine thn_n ?_
  refine c_seq ?_
  refine c_reg ?_
  refine sq_p (v) rfl (fun _ => by kernel_rfl) ?_
  refine sq_call #[v] [0] rfl (handles_spec wq v l (by omega)) (fun _ => by kernel_rfl) h ?_; rintro v1 L_ w ⟨_, rfl, rfl⟩ h
  have hHl := handles_len l
  refine sq_p (v1) rfl (fun _ => by kernel_rfl) ?_
  refine lnil ?_
  refine thn_n ?_
  refine c_seq ?_
  refine c_seq ?_
  refine c_reg ?_
  refine sq_p (.int .i64 0) rfl (fun _ => by kernel_rfl) ?_
  refine lnil ?_
  refine thn_n ?_
  refine c_block ?_
  have h := h.nilRows 70 6 runC
  refine c_loop (X := Nat × List Run × Value × (Nat → Value)) (fun ⟨i, out, vo, J0⟩ => ⟨#[v, undef, .slice none 0 0, vo, v1, .int .i64 (i : Int), J0 6, J0 7, J0 8, J0 9, J0 10, J0 11, v, v1, J0 14, J0 15, J0 16, J0 17, J0 18, J0 19, J0 20, J0 21, J0 22, J0 23, J0 24, J0 25, J0 26, J0 27, J0 28, J0 29, J0 30, J0 31, J0 32, J0 33, J0 34, J0 35, J0 36, J0 37, J0 38, J0 39, J0 40, J0 41, J0 42, J0 43, J0 44, J0 45, J0 46, J0 47, J0 48, J0 49, J0 50, J0 51, J0 52, J0 53, J0 54, J0 55, J0 56, J0 57, J0 58, J0 59, J0 60, J0 61, J0 62, J0 63, J0 64, J0 65, J0 66, J0 67, J0 68, J0 69, J0 70, J0 71, J0 72, J0 73, J0 74, J0 75, J0 76, J0 77, J0 78, J0 79, J0 80, J0 81, J0 82, J0 83, J0 84, J0 85, J0 86, J0 87, J0 88, J0 89, J0 90, J0 91, J0 92, J0 93, J0 94, J0 95, J0 96, J0 97, J0 98, J0 99, J0 100, J0 101, J0 102, J0 103, J0 104, J0 105, J0 106, J0 107, J0 108, J0 109, J0 110, J0 111, J0 112, undef], []⟩)
    (fun ⟨i, out, vo, J0⟩ => [rRows true vo 70 6 runC out, rRows true v1 33 2 hdC (handlesP l), rRows wq v 107 6 pntC l]) (fun ⟨i, out, vo, J0⟩ => i ≤ (handlesP l).length ∧ out.Perm (((handlesP l).take i).flatMap (hereP l)) ∧ out.Pairwise (fun x y => ¬ lockCf y x < 0)) (fun ⟨i, out, vo, J0⟩ => (handlesP l).length - i)
    ⟨0, [], (.slice none 0 0), (fun n => (#[v, undef, .slice none 0 0, .slice none 0 0, v1, .int .i64 0, undef, undef, undef, undef, undef, undef, v, v1, undef, undef, undef, undef, undef, undef, undef, undef, undef, undef, undef, undef, undef, undef, undef, undef, undef, undef, undef, undef, undef, undef, undef, undef, undef, undef, undef, undef, undef, undef, undef, undef, undef, undef, undef, undef, undef, undef, undef, undef, undef, undef, undef, undef, undef, undef, undef, undef, undef, undef, undef, undef, undef, undef, undef, undef, undef, undef, undef, undef, undef, undef, undef, undef, undef, undef, undef, undef, undef, undef, undef, undef, undef, undef, undef, undef, undef, undef, undef, undef, undef, undef, undef, undef, undef, undef, undef, undef, undef, undef, undef, undef, undef, undef, undef, undef, undef, undef, undef, undef] : Array Value).getD n undef)⟩ ⟨by omega, List.Perm.refl _, List.Pairwise.nil⟩ (by kernel_rfl) [0, 0, 0] (by kernel_rfl) h ?_
  rintro ⟨i, out, vo, J0⟩ w hG h
  obtain ⟨hi0, hp0, ho0⟩ : i ≤ (handlesP l).length ∧ out.Perm (((handlesP l).take i).flatMap (hereP l)) ∧ out.Pairwise (fun x y => ¬ lockCf y x < 0) := hG
  have hol : out.length ≤ 252500 := by rw [hp0.length_eq]; exact all_len l hlen i
  refine c_seq ?_
  refine c_seq ?_
  refine c_reg ?_
  refine sq_p (.int .i64 (i : Int)) rfl (fun _ => by kernel_rfl) ?_
  refine sq_p (v1) rfl (fun _ => by kernel_rfl) ?_
  refine sq_q rfl h (g_len (by kernel_rfl) 1 rfl) ?_
  refine sq_p (.bool (decide ((i : Int) < ((handlesP l).length : Int)))) rfl (fun _ => by kernel_rfl) ?_
  refine lnil ?_
  refine thn_n ?_
  refine c_cond (decide ((i : Int) < ((handlesP l).length : Int))) (by kernel_rfl) (fun hc2 => ?_) (fun hc2 => ?_)
  · skip
    have hc2 := of_decide_eq_true hc2
    refine c_skip ?_
    refine thn_n ?_
    refine c_seq ?_
    refine c_block ?_
    refine c_seq ?_
    refine c_reg ?_
    refine sq_p (.slice none 0 0) rfl (fun _ => by kernel_rfl) ?_
    refine lnil ?_
    refine thn_n ?_
    refine c_seq ?_
    refine c_reg ?_
    refine sq_p (v) rfl (fun _ => by kernel_rfl) ?_
    refine sq_p (v1) rfl (fun _ => by kernel_rfl) ?_
    refine sq_p (.int .i64 (i : Int)) rfl (fun _ => by kernel_rfl) ?_
    have hi3 : i < (handlesP l).length := by omega
    obtain ⟨x4, hx5⟩ : ∃ x, (handlesP l)[i]? = some x := ⟨_, List.getElem?_eq_getElem hi3⟩
    refine sq_q rfl h (g_idx i (by kernel_rfl) hi3 1 rfl) ?_
    refine sq_q rfl h (g_ldr (b := blkN v1) (offN v1 + i * 2) [.int .i64 x4.1, .int .i64 x4.2] (.agg #[.int .i64 x4.1, .int .i64 x4.2]) (by kernel_rfl) 1 rfl (rdRow0 hdC_len hx5 (by kernel_rfl))) ?_
    refine sq_call #[v, .agg #[.int .i64 x4.1, .int .i64 x4.2]] [2] rfl (owners_spec wq v l x4.1 x4.2 (by omega)) (fun _ => by kernel_rfl) h ?_; rintro v6 L_ w ⟨_, rfl, rfl⟩ h
    have hOl := owners_len l (x4.1, x4.2)
    refine sq_p (v6) rfl (fun _ => by kernel_rfl) ?_
    refine lnil ?_
    refine thn_n ?_
    refine c_seq ?_
    refine c_seq ?_
    refine c_reg ?_
    refine sq_p (.int .i64 0) rfl (fun _ => by kernel_rfl) ?_
    refine lnil ?_
    refine thn_n ?_
    refine c_block ?_
    have h := h.nilRows 70 6 runC
    refine c_loop (X := Nat × List Run × Value × (Nat → Value)) (fun ⟨k, hr, vr, J1⟩ => ⟨#[v, undef, .slice none 0 0, vo, v1, .int .i64 (i : Int), vr, v6, .int .i64 (k : Int), J0 9, J0 10, J0 11, v, v1, .int .i64 (i : Int), v1, .int .i64 ((handlesP l).length : Int), .bool (decide ((i : Int) < ((handlesP l).length : Int))), J0 18, J0 19, v, v1, .int .i64 (i : Int), .pointer (some ⟨blkN v1, offN v1 + i * 2, none⟩), .agg #[.int .i64 x4.1, .int .i64 x4.2], v6, J1 26, J1 27, J1 28, J1 29, J1 30, J1 31, J1 32, J1 33, J1 34, J1 35, J1 36, J1 37, J1 38, J1 39, J1 40, J1 41, J1 42, J1 43, J0 44, J0 45, J0 46, J0 47, J0 48, J0 49, J0 50, J0 51, J0 52, J0 53, J0 54, J0 55, J0 56, J0 57, J0 58, J0 59, J0 60, J0 61, J0 62, J0 63, J0 64, J0 65, J0 66, J0 67, J0 68, J0 69, J0 70, J0 71, J0 72, J0 73, J0 74, J0 75, J0 76, J0 77, J0 78, J0 79, J0 80, J0 81, J0 82, J0 83, J0 84, J0 85, J0 86, J0 87, J0 88, J0 89, J0 90, J0 91, J0 92, J0 93, J0 94, J0 95, J0 96, J0 97, J0 98, J0 99, J0 100, J0 101, J0 102, J0 103, J0 104, J0 105, J0 106, J0 107, J0 108, J0 109, J0 110, J0 111, J0 112, undef], []⟩)
      (fun ⟨k, hr, vr, J1⟩ => [rRows true vr 70 6 runC hr, rRows true v6 3 1 inC (ownersP l (x4.1, x4.2)), rRows wq v 107 6 pntC l, rRows true vo 70 6 runC out, rRows true v1 33 2 hdC (handlesP l)]) (fun ⟨k, hr, vr, J1⟩ => k ≤ (ownersP l (x4.1, x4.2)).length ∧ hr = ((ownersP l (x4.1, x4.2)).take k).flatMap (runsP l (x4.1, x4.2))) (fun ⟨k, hr, vr, J1⟩ => (ownersP l (x4.1, x4.2)).length - k)
      ⟨0, [], (.slice none 0 0), (fun n => (#[v, undef, .slice none 0 0, vo, v1, .int .i64 (i : Int), .slice none 0 0, v6, .int .i64 0, J0 9, J0 10, J0 11, v, v1, .int .i64 (i : Int), v1, .int .i64 ((handlesP l).length : Int), .bool (decide ((i : Int) < ((handlesP l).length : Int))), J0 18, J0 19, v, v1, .int .i64 (i : Int), .pointer (some ⟨blkN v1, offN v1 + i * 2, none⟩), .agg #[.int .i64 x4.1, .int .i64 x4.2], v6, J0 26, J0 27, J0 28, J0 29, J0 30, J0 31, J0 32, J0 33, J0 34, J0 35, J0 36, J0 37, J0 38, J0 39, J0 40, J0 41, J0 42, J0 43, J0 44, J0 45, J0 46, J0 47, J0 48, J0 49, J0 50, J0 51, J0 52, J0 53, J0 54, J0 55, J0 56, J0 57, J0 58, J0 59, J0 60, J0 61, J0 62, J0 63, J0 64, J0 65, J0 66, J0 67, J0 68, J0 69, J0 70, J0 71, J0 72, J0 73, J0 74, J0 75, J0 76, J0 77, J0 78, J0 79, J0 80, J0 81, J0 82, J0 83, J0 84, J0 85, J0 86, J0 87, J0 88, J0 89, J0 90, J0 91, J0 92, J0 93, J0 94, J0 95, J0 96, J0 97, J0 98, J0 99, J0 100, J0 101, J0 102, J0 103, J0 104, J0 105, J0 106, J0 107, J0 108, J0 109, J0 110, J0 111, J0 112, undef] : Array Value).getD n undef)⟩ ⟨by omega, rfl⟩ (by kernel_rfl) [0, 0, 0, 0, 0] (by kernel_rfl) h ?_
    rintro ⟨k, hr, vr, J1⟩ w hG h
    obtain ⟨hk0, hho⟩ : k ≤ (ownersP l (x4.1, x4.2)).length ∧ hr = ((ownersP l (x4.1, x4.2)).take k).flatMap (runsP l (x4.1, x4.2)) := hG
    have hrl : hr.length ≤ 5050 := by rw [hho]; exact own_len l _ k hlen
    refine c_seq ?_
    refine c_seq ?_
    refine c_reg ?_
    refine sq_p (.int .i64 (k : Int)) rfl (fun _ => by kernel_rfl) ?_
    refine sq_p (v6) rfl (fun _ => by kernel_rfl) ?_
    refine sq_q rfl h (g_len (by kernel_rfl) 1 rfl) ?_
    refine sq_p (.bool (decide ((k : Int) < ((ownersP l (x4.1, x4.2)).length : Int)))) rfl (fun _ => by kernel_rfl) ?_
    refine lnil ?_
    refine thn_n ?_
    refine c_cond (decide ((k : Int) < ((ownersP l (x4.1, x4.2)).length : Int))) (by kernel_rfl) (fun hc7 => ?_) (fun hc7 => ?_)
    · skip
      have hc7 := of_decide_eq_true hc7
      refine c_skip ?_
      refine thn_n ?_
      refine c_seq ?_
      refine c_block ?_
      refine d_start 13 [1, 3] (by kernel_rfl) h fun w h => ?_
      refine d_take 0 2046 [1, 3] rfl (v := vr) (by kernel_rfl) (qp_blk (qp_thn (qp_rnd (qp_blk (qp_thn (qp_blk (qp_thn (qp_rnd (qp_blk (qp_thn qp_body)))))))))) (yq (by kernel_rfl) (g_pure (v := vr) fun _ => by kernel_rfl)) h (by kernel_rfl) ?_
      refine d_take 1 1021 [1, 3] rfl (v := v) (by kernel_rfl) (qp_blk (qp_thn (qp_rnd (qp_blk (qp_thn (qp_blk (qp_thn (qp_rnd (qp_blk (qp_thn qp_body)))))))))) (yq (by kernel_rfl) (g_pure (v := v) fun _ => by kernel_rfl)) h (by kernel_rfl) ?_
      refine d_take 2 971 [1, 3] rfl (v := v1) (by kernel_rfl) (qp_blk (qp_thn (qp_rnd (qp_blk (qp_thn (qp_blk (qp_thn (qp_rnd (qp_blk (qp_thn qp_body)))))))))) (yq (by kernel_rfl) (g_pure (v := v1) fun _ => by kernel_rfl)) h (by kernel_rfl) ?_
      refine d_take 3 967 [1, 3] rfl (v := .int .i64 (i : Int)) (by kernel_rfl) (qp_blk (qp_thn (qp_rnd (qp_blk (qp_thn (qp_blk (qp_thn (qp_rnd (qp_blk (qp_thn qp_body)))))))))) (yq (by kernel_rfl) (g_pure (v := .int .i64 (i : Int)) fun _ => by kernel_rfl)) h (by kernel_rfl) ?_
      refine d_take 4 975 [1, 3] rfl (v := .pointer (some ⟨blkN v1, offN v1 + i * 2, none⟩)) (by kernel_rfl) (qp_blk (qp_thn (qp_rnd (qp_blk (qp_thn (qp_blk (qp_thn (qp_rnd (qp_blk (qp_thn qp_body)))))))))) (yq (by kernel_rfl) (g_idx i (by kernel_rfl) hi3 1 rfl)) h (by kernel_rfl) ?_
      refine d_take 5 991 [1, 3] rfl (v := .agg #[.int .i64 x4.1, .int .i64 x4.2]) (by kernel_rfl) (qp_blk (qp_thn (qp_rnd (qp_blk (qp_thn (qp_blk (qp_thn (qp_rnd (qp_blk (qp_thn qp_body)))))))))) (yq (by kernel_rfl) (g_ldr (b := blkN v1) (offN v1 + i * 2) [.int .i64 x4.1, .int .i64 x4.2] (.agg #[.int .i64 x4.1, .int .i64 x4.2]) (by kernel_rfl) 1 rfl (rdRow0 hdC_len hx5 (by kernel_rfl)))) h (by kernel_rfl) ?_
      refine d_take 6 191 [1, 3] rfl (v := v6) (by kernel_rfl) (qp_blk (qp_thn (qp_rnd (qp_blk (qp_thn (qp_blk (qp_thn (qp_rnd (qp_blk (qp_thn qp_body)))))))))) (yq (by kernel_rfl) (g_pure (v := v6) fun _ => by kernel_rfl)) h (by kernel_rfl) ?_
      refine d_take 7 127 [1, 3] rfl (v := .int .i64 (k : Int)) (by kernel_rfl) (qp_blk (qp_thn (qp_rnd (qp_blk (qp_thn (qp_blk (qp_thn (qp_rnd (qp_blk (qp_thn qp_body)))))))))) (yq (by kernel_rfl) (g_pure (v := .int .i64 (k : Int)) fun _ => by kernel_rfl)) h (by kernel_rfl) ?_
      have hi8 : k < (ownersP l (x4.1, x4.2)).length := by omega
      obtain ⟨x9, hx10⟩ : ∃ x, (ownersP l (x4.1, x4.2))[k]? = some x := ⟨_, List.getElem?_eq_getElem hi8⟩
      refine d_take 8 255 [1, 3] rfl (v := .pointer (some ⟨blkN v6, offN v6 + k * 1, none⟩)) (by kernel_rfl) (qp_blk (qp_thn (qp_rnd (qp_blk (qp_thn (qp_blk (qp_thn (qp_rnd (qp_blk (qp_thn qp_body)))))))))) (yq (by kernel_rfl) (g_idx k (by kernel_rfl) hi8 0 rfl)) h (by kernel_rfl) ?_
      refine d_take 9 511 [1, 3] rfl (v := .int .i64 x9) (by kernel_rfl) (qp_blk (qp_thn (qp_rnd (qp_blk (qp_thn (qp_blk (qp_thn (qp_rnd (qp_blk (qp_thn qp_body)))))))))) (yq (by kernel_rfl) (g_ldr (b := blkN v6) (offN v6 + k * 1) [.int .i64 x9] (.int .i64 x9) (by kernel_rfl) 0 rfl (rdRow0 inC_len hx10 (by kernel_rfl)))) h (by kernel_rfl) ?_
      refine d_ready [10] (by kernel_rfl) rfl ?_
      refine ad_call #[v, .agg #[.int .i64 x4.1, .int .i64 x4.2], .int .i64 x9] [2] [3, 4] rfl (by kernel_rfl) (runs_spec wq v l x4.1 x4.2 x9 (by omega) hok) (fun _ => by kernel_rfl) h ?_ ?_
      · skip
        rintro v11 L_ w ⟨_, rfl, rfl⟩ h
        refine ⟨by kernel_rfl, ?_⟩
        have hRl := runsP_len l (x4.1, x4.2) x9
        refine d_ready [11] (by kernel_rfl) rfl ?_
        refine ad_appw [3, 4] rfl (by kernel_rfl) (by kernel_rfl) runC_len (fun _ => rfl) h 2 rfl 0 rfl slRd_rows (by (try simp only [List.length_append, List.length_cons, List.length_nil, List.length_take, List.length_drop]); omega) ?_ ?_
        · skip
          intro v12 w h; refine ⟨by kernel_rfl, ?_⟩
          refine d_take 12 4095 [3, 4] rfl (v := v12) (by kernel_rfl) (qp_blk (qp_thn (qp_rnd (qp_blk (qp_thn (qp_blk (qp_thn (qp_rnd (qp_blk (qp_thn qp_body)))))))))) (yq (by kernel_rfl) (g_pure (v := v12) fun _ => by kernel_rfl)) h (by kernel_rfl) ?_
          refine d_done (by kernel_rfl) ?_
          refine blk_n (thn_n ?_)
          refine c_reg ?_
          refine sq_p (.int .i64 (k : Int)) rfl (fun _ => by kernel_rfl) ?_
          refine sq_q rfl h (g_eq (v := .int .i64 (IntKind.i64.wrap ((k : Int) + 1))) (v' := .int .i64 ((k + 1 : Nat) : Int)) (g_pure fun _ => by kernel_rfl) (wr (by omega))) ?_
          refine sq_p (.int .i64 ((k + 1 : Nat) : Int)) rfl (fun _ => by kernel_rfl) ?_
          refine lnil ?_
          have hQ13 : ((k + 1) ≤ (ownersP l (x4.1, x4.2)).length ∧ (hr ++ (runsP l (x4.1, x4.2) x9)) = ((ownersP l (x4.1, x4.2)).take (k + 1)).flatMap (runsP l (x4.1, x4.2))) ∧ ((ownersP l (x4.1, x4.2)).length - (k + 1)) < ((ownersP l (x4.1, x4.2)).length - k) := ⟨⟨by omega, by rw [own_take hx10, ← hho]⟩, by omega⟩
          refine loop_end (fun j => ⟨(k + 1), hr ++ (runsP l (x4.1, x4.2) x9), v12, j⟩) hQ13 (by kernel_rfl) [2, 2, 1, 1, 1] (by kernel_rfl) h
        exact ad_nil
      exact ad_nil
    · skip
      have hc7 := of_decide_eq_false hc7
      refine c_exit ?_
      refine thn_e (rnd_e (blk_e (thn_n ?_)))
      refine c_block ?_
      refine c_loop (X := List Run × Value × List Run × Value × (Nat → Value)) (fun ⟨o2, v2, h2, h2v, J2⟩ => ⟨#[v, undef, .slice none 0 0, v2, v1, .int .i64 (i : Int), h2v, v6, .int .i64 (k : Int), J2 9, J2 10, J2 11, v, v1, .int .i64 (i : Int), v1, .int .i64 ((handlesP l).length : Int), .bool (decide ((i : Int) < ((handlesP l).length : Int))), J0 18, J0 19, v, v1, .int .i64 (i : Int), .pointer (some ⟨blkN v1, offN v1 + i * 2, none⟩), .agg #[.int .i64 x4.1, .int .i64 x4.2], v6, .int .i64 (k : Int), v6, .int .i64 ((ownersP l (x4.1, x4.2)).length : Int), .bool (decide ((k : Int) < ((ownersP l (x4.1, x4.2)).length : Int))), J1 30, J1 31, J1 32, J1 33, J1 34, J1 35, J1 36, J1 37, J1 38, J1 39, J1 40, J1 41, J1 42, J1 43, J2 44, J2 45, J2 46, J2 47, J2 48, J2 49, J2 50, J2 51, J2 52, J2 53, J2 54, J2 55, J2 56, J2 57, J2 58, J2 59, J2 60, J2 61, J2 62, J2 63, J2 64, J2 65, J2 66, J2 67, J2 68, J2 69, J2 70, J2 71, J2 72, J2 73, J2 74, J2 75, J2 76, J2 77, J2 78, J2 79, J2 80, J2 81, J2 82, J2 83, J2 84, J2 85, J2 86, J2 87, J2 88, J2 89, J2 90, J2 91, J2 92, J2 93, J2 94, J2 95, J2 96, J2 97, J2 98, J2 99, J2 100, J2 101, J2 102, J2 103, J2 104, J2 105, J2 106, J2 107, J2 108, J2 109, J2 110, J2 111, J2 112, undef], []⟩)
        (fun ⟨o2, v2, h2, h2v, J2⟩ => [rRows true h2v 70 6 runC h2, rRows true v6 3 1 inC (ownersP l (x4.1, x4.2)), rRows wq v 107 6 pntC l, rRows true v2 70 6 runC o2, rRows true v1 33 2 hdC (handlesP l)]) (fun ⟨o2, v2, h2, h2v, J2⟩ => SelI (out ++ hereP l x4) o2 h2 ∧ (∀ b ∈ h2, b ∈ hereP l x4) ∧ o2.length + h2.length ≤ 300000) (fun ⟨o2, v2, h2, h2v, J2⟩ => h2.length)
        ⟨out, vo, hr, vr, (fun n => (#[v, undef, .slice none 0 0, vo, v1, .int .i64 (i : Int), vr, v6, .int .i64 (k : Int), J0 9, J0 10, J0 11, v, v1, .int .i64 (i : Int), v1, .int .i64 ((handlesP l).length : Int), .bool (decide ((i : Int) < ((handlesP l).length : Int))), J0 18, J0 19, v, v1, .int .i64 (i : Int), .pointer (some ⟨blkN v1, offN v1 + i * 2, none⟩), .agg #[.int .i64 x4.1, .int .i64 x4.2], v6, .int .i64 (k : Int), v6, .int .i64 ((ownersP l (x4.1, x4.2)).length : Int), .bool (decide ((k : Int) < ((ownersP l (x4.1, x4.2)).length : Int))), J1 30, J1 31, J1 32, J1 33, J1 34, J1 35, J1 36, J1 37, J1 38, J1 39, J1 40, J1 41, J1 42, J1 43, J0 44, J0 45, J0 46, J0 47, J0 48, J0 49, J0 50, J0 51, J0 52, J0 53, J0 54, J0 55, J0 56, J0 57, J0 58, J0 59, J0 60, J0 61, J0 62, J0 63, J0 64, J0 65, J0 66, J0 67, J0 68, J0 69, J0 70, J0 71, J0 72, J0 73, J0 74, J0 75, J0 76, J0 77, J0 78, J0 79, J0 80, J0 81, J0 82, J0 83, J0 84, J0 85, J0 86, J0 87, J0 88, J0 89, J0 90, J0 91, J0 92, J0 93, J0 94, J0 95, J0 96, J0 97, J0 98, J0 99, J0 100, J0 101, J0 102, J0 103, J0 104, J0 105, J0 106, J0 107, J0 108, J0 109, J0 110, J0 111, J0 112, undef] : Array Value).getD n undef)⟩ ⟨by rw [hho, List.take_of_length_le (by omega)]; exact SelI.start (hs := []) hp0 ho0 (out_before hok hx5 hp0) (fun b hb => ((here_mem hok).1 (show b ∈ hereP l x4 from hb)).1), fun b hb => by rw [hho, List.take_of_length_le (by omega)] at hb; exact hb, by omega⟩ (by kernel_rfl) [0, 0, 0, 0, 0] (by kernel_rfl) h ?_
      rintro ⟨o2, v2, h2, h2v, J2⟩ w hG h
      obtain ⟨hS, hsub, hbl⟩ : SelI (out ++ hereP l x4) o2 h2 ∧ (∀ b ∈ h2, b ∈ hereP l x4) ∧ o2.length + h2.length ≤ 300000 := hG
      have hhm : ∀ b ∈ h2, b.1 = x4 := sel_mem hok hx5 hp0 hS hsub
      have hx0 := hx5
      refine c_seq ?_
      refine c_seq ?_
      refine c_reg ?_
      refine sq_p (h2v) rfl (fun _ => by kernel_rfl) ?_
      refine sq_q rfl h (g_len (by kernel_rfl) 0 rfl) ?_
      refine sq_p (.bool (decide ((h2.length : Int) > 0))) rfl (fun _ => by kernel_rfl) ?_
      refine lnil ?_
      refine thn_n ?_
      refine c_cond (decide ((h2.length : Int) > 0)) (by kernel_rfl) (fun hc14 => ?_) (fun hc14 => ?_)
      · skip
        have hc14 := of_decide_eq_true hc14
        refine c_skip ?_
        refine thn_n ?_
        refine c_block ?_
        refine c_seq ?_
        refine c_reg ?_
        refine sq_p (.int .i64 0) rfl (fun _ => by kernel_rfl) ?_
        refine lnil ?_
        refine thn_n ?_
        refine c_seq ?_
        refine c_seq ?_
        refine c_reg ?_
        refine sq_p (.int .i64 1) rfl (fun _ => by kernel_rfl) ?_
        refine lnil ?_
        refine thn_n ?_
        refine c_block ?_
        refine c_loop (X := Nat × Nat × (Nat → Value)) (fun ⟨bs, kb, J3⟩ => ⟨#[v, undef, .slice none 0 0, v2, v1, .int .i64 (i : Int), h2v, v6, .int .i64 (k : Int), .int .i64 (bs : Int), .int .i64 (kb : Int), J2 11, v, v1, .int .i64 (i : Int), v1, .int .i64 ((handlesP l).length : Int), .bool (decide ((i : Int) < ((handlesP l).length : Int))), J0 18, J0 19, v, v1, .int .i64 (i : Int), .pointer (some ⟨blkN v1, offN v1 + i * 2, none⟩), .agg #[.int .i64 x4.1, .int .i64 x4.2], v6, .int .i64 (k : Int), v6, .int .i64 ((ownersP l (x4.1, x4.2)).length : Int), .bool (decide ((k : Int) < ((ownersP l (x4.1, x4.2)).length : Int))), J1 30, J1 31, J1 32, J1 33, J1 34, J1 35, J1 36, J1 37, J1 38, J1 39, J1 40, J1 41, J1 42, J1 43, h2v, .int .i64 (h2.length : Int), .bool (decide ((h2.length : Int) > 0)), J3 47, J3 48, J3 49, J3 50, J3 51, J3 52, J3 53, J3 54, J3 55, J3 56, J3 57, J3 58, J3 59, J3 60, J3 61, J3 62, J3 63, J3 64, J3 65, J3 66, J3 67, J3 68, J3 69, J3 70, J3 71, J3 72, J3 73, J3 74, J3 75, J3 76, J3 77, J3 78, J3 79, J3 80, J3 81, J3 82, J3 83, J3 84, J3 85, J3 86, J3 87, J3 88, J3 89, J3 90, J3 91, J3 92, J3 93, J3 94, J2 95, J2 96, J2 97, J2 98, J2 99, J2 100, J2 101, J2 102, J2 103, J2 104, J2 105, J2 106, J2 107, J2 108, J2 109, J2 110, J2 111, J2 112, undef], []⟩)
          (fun ⟨bs, kb, J3⟩ => [rRows true h2v 70 6 runC h2, rRows true v6 3 1 inC (ownersP l (x4.1, x4.2)), rRows wq v 107 6 pntC l, rRows true v2 70 6 runC o2, rRows true v1 33 2 hdC (handlesP l)]) (fun ⟨bs, kb, J3⟩ => BestI h2 bs kb) (fun ⟨bs, kb, J3⟩ => h2.length - kb)
          ⟨0, 1, (fun n => (#[v, undef, .slice none 0 0, v2, v1, .int .i64 (i : Int), h2v, v6, .int .i64 (k : Int), .int .i64 0, .int .i64 1, J2 11, v, v1, .int .i64 (i : Int), v1, .int .i64 ((handlesP l).length : Int), .bool (decide ((i : Int) < ((handlesP l).length : Int))), J0 18, J0 19, v, v1, .int .i64 (i : Int), .pointer (some ⟨blkN v1, offN v1 + i * 2, none⟩), .agg #[.int .i64 x4.1, .int .i64 x4.2], v6, .int .i64 (k : Int), v6, .int .i64 ((ownersP l (x4.1, x4.2)).length : Int), .bool (decide ((k : Int) < ((ownersP l (x4.1, x4.2)).length : Int))), J1 30, J1 31, J1 32, J1 33, J1 34, J1 35, J1 36, J1 37, J1 38, J1 39, J1 40, J1 41, J1 42, J1 43, h2v, .int .i64 (h2.length : Int), .bool (decide ((h2.length : Int) > 0)), J2 47, J2 48, J2 49, J2 50, J2 51, J2 52, J2 53, J2 54, J2 55, J2 56, J2 57, J2 58, J2 59, J2 60, J2 61, J2 62, J2 63, J2 64, J2 65, J2 66, J2 67, J2 68, J2 69, J2 70, J2 71, J2 72, J2 73, J2 74, J2 75, J2 76, J2 77, J2 78, J2 79, J2 80, J2 81, J2 82, J2 83, J2 84, J2 85, J2 86, J2 87, J2 88, J2 89, J2 90, J2 91, J2 92, J2 93, J2 94, J2 95, J2 96, J2 97, J2 98, J2 99, J2 100, J2 101, J2 102, J2 103, J2 104, J2 105, J2 106, J2 107, J2 108, J2 109, J2 110, J2 111, J2 112, undef] : Array Value).getD n undef)⟩ (BestI.start (by omega)) (by kernel_rfl) [0, 0, 0, 0, 0] (by kernel_rfl) h ?_
        rintro ⟨bs, kb, J3⟩ w hG h
        have hB : BestI h2 bs kb := hG
        have hb1 := hB.lt
        obtain ⟨hb2, hb3⟩ := hB.k1
        refine c_seq ?_
        refine c_seq ?_
        refine c_reg ?_
        refine sq_p (.int .i64 (kb : Int)) rfl (fun _ => by kernel_rfl) ?_
        refine sq_p (h2v) rfl (fun _ => by kernel_rfl) ?_
        refine sq_q rfl h (g_len (by kernel_rfl) 0 rfl) ?_
        refine sq_p (.bool (decide ((kb : Int) < (h2.length : Int)))) rfl (fun _ => by kernel_rfl) ?_
        refine lnil ?_
        refine thn_n ?_
        refine c_cond (decide ((kb : Int) < (h2.length : Int))) (by kernel_rfl) (fun hc15 => ?_) (fun hc15 => ?_)
        · skip
          have hc15 := of_decide_eq_true hc15
          refine c_skip ?_
          refine thn_n ?_
          refine c_seq ?_
          refine c_block ?_
          refine c_seq ?_
          refine d_start 41 [0] (by kernel_rfl) h fun w h => ?_
          refine d_take 0 4034 [0] rfl (v := h2v) (by kernel_rfl) (qp_thn (qp_blk (qp_thn (qp_rnd (qp_blk (qp_thn (qp_blk (qp_rnd (qp_blk (qp_blk (qp_thn (qp_rnd (qp_blk (qp_thn qp_body)))))))))))))) (yq (by kernel_rfl) (g_pure (v := h2v) fun _ => by kernel_rfl)) h (by kernel_rfl) ?_
          refine d_take 1 4033 [0] rfl (v := .int .i64 (kb : Int)) (by kernel_rfl) (qp_thn (qp_blk (qp_thn (qp_rnd (qp_blk (qp_thn (qp_blk (qp_rnd (qp_blk (qp_blk (qp_thn (qp_rnd (qp_blk (qp_thn qp_body)))))))))))))) (yq (by kernel_rfl) (g_pure (v := .int .i64 (kb : Int)) fun _ => by kernel_rfl)) h (by kernel_rfl) ?_
          have hi16 : kb < h2.length := by omega
          obtain ⟨x17, hx18⟩ : ∃ x, h2[kb]? = some x := ⟨_, List.getElem?_eq_getElem hi16⟩
          refine d_take 2 4035 [0] rfl (v := .pointer (some ⟨blkN h2v, offN h2v + kb * 6, none⟩)) (by kernel_rfl) (qp_thn (qp_blk (qp_thn (qp_rnd (qp_blk (qp_thn (qp_blk (qp_rnd (qp_blk (qp_blk (qp_thn (qp_rnd (qp_blk (qp_thn qp_body)))))))))))))) (yq (by kernel_rfl) (g_idx kb (by kernel_rfl) hi16 0 rfl)) h (by kernel_rfl) ?_
          refine d_take 3 4039 [0] rfl (v := .pointer (some ⟨blkN h2v, offN h2v + kb * 6 + 3, none⟩)) (by kernel_rfl) (qp_thn (qp_blk (qp_thn (qp_rnd (qp_blk (qp_thn (qp_blk (qp_rnd (qp_blk (qp_blk (qp_thn (qp_rnd (qp_blk (qp_thn qp_body)))))))))))))) (yq (by kernel_rfl) (g_pure (v := .pointer (some ⟨blkN h2v, offN h2v + kb * 6 + 3, none⟩)) fun _ => by kernel_rfl)) h (by kernel_rfl) ?_
          refine d_take 4 4047 [0] rfl (v := .pointer (some ⟨blkN h2v, offN h2v + kb * 6 + 3, none⟩)) (by kernel_rfl) (qp_thn (qp_blk (qp_thn (qp_rnd (qp_blk (qp_thn (qp_blk (qp_rnd (qp_blk (qp_blk (qp_thn (qp_rnd (qp_blk (qp_thn qp_body)))))))))))))) (yq (by kernel_rfl) (g_pure (v := .pointer (some ⟨blkN h2v, offN h2v + kb * 6 + 3, none⟩)) fun _ => by kernel_rfl)) h (by kernel_rfl) ?_
          refine d_take 5 4063 [0] rfl (v := .int .i64 x17.2.2.1) (by kernel_rfl) (qp_thn (qp_blk (qp_thn (qp_rnd (qp_blk (qp_thn (qp_blk (qp_rnd (qp_blk (qp_blk (qp_thn (qp_rnd (qp_blk (qp_thn qp_body)))))))))))))) (yq (by kernel_rfl) (g_ldr (b := blkN h2v) (offN h2v + kb * 6 + 3) [.int .i64 x17.2.2.1] (.int .i64 x17.2.2.1) (by kernel_rfl) 0 rfl (rdRow runC_len hx18 3 (by kernel_rfl)))) h (by kernel_rfl) ?_
          refine d_take 6 191 [0] rfl (v := h2v) (by kernel_rfl) (qp_thn (qp_blk (qp_thn (qp_rnd (qp_blk (qp_thn (qp_blk (qp_rnd (qp_blk (qp_blk (qp_thn (qp_rnd (qp_blk (qp_thn qp_body)))))))))))))) (yq (by kernel_rfl) (g_pure (v := h2v) fun _ => by kernel_rfl)) h (by kernel_rfl) ?_
          refine d_take 7 127 [0] rfl (v := .int .i64 (bs : Int)) (by kernel_rfl) (qp_thn (qp_blk (qp_thn (qp_rnd (qp_blk (qp_thn (qp_blk (qp_rnd (qp_blk (qp_blk (qp_thn (qp_rnd (qp_blk (qp_thn qp_body)))))))))))))) (yq (by kernel_rfl) (g_pure (v := .int .i64 (bs : Int)) fun _ => by kernel_rfl)) h (by kernel_rfl) ?_
          have hi19 : bs < h2.length := by omega
          obtain ⟨x20, hx21⟩ : ∃ x, h2[bs]? = some x := ⟨_, List.getElem?_eq_getElem hi19⟩
          refine d_take 8 255 [0] rfl (v := .pointer (some ⟨blkN h2v, offN h2v + bs * 6, none⟩)) (by kernel_rfl) (qp_thn (qp_blk (qp_thn (qp_rnd (qp_blk (qp_thn (qp_blk (qp_rnd (qp_blk (qp_blk (qp_thn (qp_rnd (qp_blk (qp_thn qp_body)))))))))))))) (yq (by kernel_rfl) (g_idx bs (by kernel_rfl) hi19 0 rfl)) h (by kernel_rfl) ?_
          refine d_take 9 511 [0] rfl (v := .pointer (some ⟨blkN h2v, offN h2v + bs * 6 + 3, none⟩)) (by kernel_rfl) (qp_thn (qp_blk (qp_thn (qp_rnd (qp_blk (qp_thn (qp_blk (qp_rnd (qp_blk (qp_blk (qp_thn (qp_rnd (qp_blk (qp_thn qp_body)))))))))))))) (yq (by kernel_rfl) (g_pure (v := .pointer (some ⟨blkN h2v, offN h2v + bs * 6 + 3, none⟩)) fun _ => by kernel_rfl)) h (by kernel_rfl) ?_
          refine d_take 10 1023 [0] rfl (v := .pointer (some ⟨blkN h2v, offN h2v + bs * 6 + 3, none⟩)) (by kernel_rfl) (qp_thn (qp_blk (qp_thn (qp_rnd (qp_blk (qp_thn (qp_blk (qp_rnd (qp_blk (qp_blk (qp_thn (qp_rnd (qp_blk (qp_thn qp_body)))))))))))))) (yq (by kernel_rfl) (g_pure (v := .pointer (some ⟨blkN h2v, offN h2v + bs * 6 + 3, none⟩)) fun _ => by kernel_rfl)) h (by kernel_rfl) ?_
          refine d_take 11 2047 [0] rfl (v := .int .i64 x20.2.2.1) (by kernel_rfl) (qp_thn (qp_blk (qp_thn (qp_rnd (qp_blk (qp_thn (qp_blk (qp_rnd (qp_blk (qp_blk (qp_thn (qp_rnd (qp_blk (qp_thn qp_body)))))))))))))) (yq (by kernel_rfl) (g_ldr (b := blkN h2v) (offN h2v + bs * 6 + 3) [.int .i64 x20.2.2.1] (.int .i64 x20.2.2.1) (by kernel_rfl) 0 rfl (rdRow runC_len hx21 3 (by kernel_rfl)))) h (by kernel_rfl) ?_
          obtain ⟨b22, hb22⟩ : ∃ b_ : Bool, b_ = (decide (x17.2.2.1 < x20.2.2.1)) := ⟨_, rfl⟩
          refine d_take 12 4095 [0] rfl (v := .bool b22) (by kernel_rfl) (qp_thn (qp_blk (qp_thn (qp_rnd (qp_blk (qp_thn (qp_blk (qp_rnd (qp_blk (qp_blk (qp_thn (qp_rnd (qp_blk (qp_thn qp_body)))))))))))))) (yq (by kernel_rfl) (by subst hb22; exact g_pure (v := .bool (decide (x17.2.2.1 < x20.2.2.1))) fun _ => by kernel_rfl)) h (by kernel_rfl) ?_
          refine d_take 13 8191 [0] rfl (v := .bool b22) (by kernel_rfl) (qp_thn (qp_blk (qp_thn (qp_rnd (qp_blk (qp_thn (qp_blk (qp_rnd (qp_blk (qp_blk (qp_thn (qp_rnd (qp_blk (qp_thn qp_body)))))))))))))) (yq (by kernel_rfl) (g_pure (v := .bool b22) fun _ => by kernel_rfl)) h (by kernel_rfl) ?_
          refine d_take 14 66109439 [0] rfl (by kernel_rfl) (qp_thn (qp_blk (qp_thn (qp_rnd (qp_blk (qp_thn (qp_blk (qp_rnd (qp_blk (qp_blk (qp_thn (qp_rnd (qp_blk (qp_thn qp_body)))))))))))))) (ym0 (v := h2v) b22 (by cases b22 <;> kernel_rfl) (fun hB => by subst hB; exact g_pure (v := h2v) fun _ => by kernel_rfl)) h (by kernel_rfl) ?_
          refine d_take 15 66093055 [0] rfl (by kernel_rfl) (qp_thn (qp_blk (qp_thn (qp_rnd (qp_blk (qp_thn (qp_blk (qp_rnd (qp_blk (qp_blk (qp_thn (qp_rnd (qp_blk (qp_thn qp_body)))))))))))))) (ym0 (v := .int .i64 (kb : Int)) b22 (by cases b22 <;> kernel_rfl) (fun hB => by subst hB; exact g_pure (v := .int .i64 (kb : Int)) fun _ => by kernel_rfl)) h (by kernel_rfl) ?_
          refine d_take 16 66125823 [0] rfl (by kernel_rfl) (qp_thn (qp_blk (qp_thn (qp_rnd (qp_blk (qp_thn (qp_blk (qp_rnd (qp_blk (qp_blk (qp_thn (qp_rnd (qp_blk (qp_thn qp_body)))))))))))))) (ym0 (v := .pointer (some ⟨blkN h2v, offN h2v + kb * 6, none⟩)) b22 (by cases b22 <;> kernel_rfl) (fun hB => by subst hB; exact g_idx kb (by kernel_rfl) hi16 0 rfl)) h (by kernel_rfl) ?_
          refine d_take 17 66191359 [0] rfl (by kernel_rfl) (qp_thn (qp_blk (qp_thn (qp_rnd (qp_blk (qp_thn (qp_blk (qp_rnd (qp_blk (qp_blk (qp_thn (qp_rnd (qp_blk (qp_thn qp_body)))))))))))))) (ym0 (v := .pointer (some ⟨blkN h2v, offN h2v + kb * 6 + 3, none⟩)) b22 (by cases b22 <;> kernel_rfl) (fun hB => by subst hB; exact g_pure (v := .pointer (some ⟨blkN h2v, offN h2v + kb * 6 + 3, none⟩)) fun _ => by kernel_rfl)) h (by kernel_rfl) ?_
          refine d_take 18 66322431 [0] rfl (by kernel_rfl) (qp_thn (qp_blk (qp_thn (qp_rnd (qp_blk (qp_thn (qp_blk (qp_rnd (qp_blk (qp_blk (qp_thn (qp_rnd (qp_blk (qp_thn qp_body)))))))))))))) (ym0 (v := .pointer (some ⟨blkN h2v, offN h2v + kb * 6 + 3, none⟩)) b22 (by cases b22 <;> kernel_rfl) (fun hB => by subst hB; exact g_pure (v := .pointer (some ⟨blkN h2v, offN h2v + kb * 6 + 3, none⟩)) fun _ => by kernel_rfl)) h (by kernel_rfl) ?_
          refine d_take 19 66584575 [0] rfl (by kernel_rfl) (qp_thn (qp_blk (qp_thn (qp_rnd (qp_blk (qp_thn (qp_blk (qp_rnd (qp_blk (qp_blk (qp_thn (qp_rnd (qp_blk (qp_thn qp_body)))))))))))))) (ym0 (v := .int .i64 x17.2.2.1) b22 (by cases b22 <;> kernel_rfl) (fun hB => by subst hB; exact g_ldr (b := blkN h2v) (offN h2v + kb * 6 + 3) [.int .i64 x17.2.2.1] (.int .i64 x17.2.2.1) (by kernel_rfl) 0 rfl (rdRow runC_len hx18 3 (by kernel_rfl)))) h (by kernel_rfl) ?_
          refine d_take 20 3145727 [0] rfl (by kernel_rfl) (qp_thn (qp_blk (qp_thn (qp_rnd (qp_blk (qp_thn (qp_blk (qp_rnd (qp_blk (qp_blk (qp_thn (qp_rnd (qp_blk (qp_thn qp_body)))))))))))))) (ym0 (v := h2v) b22 (by cases b22 <;> kernel_rfl) (fun hB => by subst hB; exact g_pure (v := h2v) fun _ => by kernel_rfl)) h (by kernel_rfl) ?_
          refine d_take 21 2097151 [0] rfl (by kernel_rfl) (qp_thn (qp_blk (qp_thn (qp_rnd (qp_blk (qp_thn (qp_blk (qp_rnd (qp_blk (qp_blk (qp_thn (qp_rnd (qp_blk (qp_thn qp_body)))))))))))))) (ym0 (v := .int .i64 (bs : Int)) b22 (by cases b22 <;> kernel_rfl) (fun hB => by subst hB; exact g_pure (v := .int .i64 (bs : Int)) fun _ => by kernel_rfl)) h (by kernel_rfl) ?_
          refine d_take 22 4194303 [0] rfl (by kernel_rfl) (qp_thn (qp_blk (qp_thn (qp_rnd (qp_blk (qp_thn (qp_blk (qp_rnd (qp_blk (qp_blk (qp_thn (qp_rnd (qp_blk (qp_thn qp_body)))))))))))))) (ym0 (v := .pointer (some ⟨blkN h2v, offN h2v + bs * 6, none⟩)) b22 (by cases b22 <;> kernel_rfl) (fun hB => by subst hB; exact g_idx bs (by kernel_rfl) hi19 0 rfl)) h (by kernel_rfl) ?_
          refine d_take 23 8388607 [0] rfl (by kernel_rfl) (qp_thn (qp_blk (qp_thn (qp_rnd (qp_blk (qp_thn (qp_blk (qp_rnd (qp_blk (qp_blk (qp_thn (qp_rnd (qp_blk (qp_thn qp_body)))))))))))))) (ym0 (v := .pointer (some ⟨blkN h2v, offN h2v + bs * 6 + 3, none⟩)) b22 (by cases b22 <;> kernel_rfl) (fun hB => by subst hB; exact g_pure (v := .pointer (some ⟨blkN h2v, offN h2v + bs * 6 + 3, none⟩)) fun _ => by kernel_rfl)) h (by kernel_rfl) ?_
          refine d_take 24 16777215 [0] rfl (by kernel_rfl) (qp_thn (qp_blk (qp_thn (qp_rnd (qp_blk (qp_thn (qp_blk (qp_rnd (qp_blk (qp_blk (qp_thn (qp_rnd (qp_blk (qp_thn qp_body)))))))))))))) (ym0 (v := .pointer (some ⟨blkN h2v, offN h2v + bs * 6 + 3, none⟩)) b22 (by cases b22 <;> kernel_rfl) (fun hB => by subst hB; exact g_pure (v := .pointer (some ⟨blkN h2v, offN h2v + bs * 6 + 3, none⟩)) fun _ => by kernel_rfl)) h (by kernel_rfl) ?_
          refine d_take 25 33554431 [0] rfl (by kernel_rfl) (qp_thn (qp_blk (qp_thn (qp_rnd (qp_blk (qp_thn (qp_blk (qp_rnd (qp_blk (qp_blk (qp_thn (qp_rnd (qp_blk (qp_thn qp_body)))))))))))))) (ym0 (v := .int .i64 x20.2.2.1) b22 (by cases b22 <;> kernel_rfl) (fun hB => by subst hB; exact g_ldr (b := blkN h2v) (offN h2v + bs * 6 + 3) [.int .i64 x20.2.2.1] (.int .i64 x20.2.2.1) (by kernel_rfl) 0 rfl (rdRow runC_len hx21 3 (by kernel_rfl)))) h (by kernel_rfl) ?_
          obtain ⟨b23, hb23⟩ : ∃ b_ : Bool, b_ = (decide (x17.2.2.1 = x20.2.2.1)) := ⟨_, rfl⟩
          refine d_take 26 67108863 [0] rfl (by kernel_rfl) (qp_thn (qp_blk (qp_thn (qp_rnd (qp_blk (qp_thn (qp_blk (qp_rnd (qp_blk (qp_blk (qp_thn (qp_rnd (qp_blk (qp_thn qp_body)))))))))))))) (ym0 (v := .bool b23) b22 (by cases b22 <;> kernel_rfl) (fun hB => by subst hB; exact by subst hb23; exact g_pure (v := .bool (decide (x17.2.2.1 = x20.2.2.1))) fun _ => by kernel_rfl)) h (by kernel_rfl) ?_
          refine d_take 27 134217727 [0] rfl (by kernel_rfl) (qp_thn (qp_blk (qp_thn (qp_rnd (qp_blk (qp_thn (qp_blk (qp_rnd (qp_blk (qp_blk (qp_thn (qp_rnd (qp_blk (qp_thn qp_body)))))))))))))) (ym0 (v := .bool b23) b22 (by cases b22 <;> kernel_rfl) (fun hB => by subst hB; exact g_pure (v := .bool b23) fun _ => by kernel_rfl)) h (by kernel_rfl) ?_
          obtain ⟨b24, hb24⟩ : ∃ b_ : Bool, b_ = ((!b22) && b23) := ⟨_, rfl⟩
          refine d_take 28 267093278719 [0] rfl (by kernel_rfl) (qp_thn (qp_blk (qp_thn (qp_rnd (qp_blk (qp_thn (qp_blk (qp_rnd (qp_blk (qp_blk (qp_thn (qp_rnd (qp_blk (qp_thn qp_body)))))))))))))) (ym1 (v := h2v) b24 (by subst hb24; cases b22 <;> cases b23 <;> kernel_rfl) (fun hB => by subst hB; exact g_pure (v := h2v) fun _ => by kernel_rfl)) h (by kernel_rfl) ?_
          refine d_take 29 266824843263 [0] rfl (by kernel_rfl) (qp_thn (qp_blk (qp_thn (qp_rnd (qp_blk (qp_thn (qp_blk (qp_rnd (qp_blk (qp_blk (qp_thn (qp_rnd (qp_blk (qp_thn qp_body)))))))))))))) (ym1 (v := .int .i64 (kb : Int)) b24 (by subst hb24; cases b22 <;> cases b23 <;> kernel_rfl) (fun hB => by subst hB; exact g_pure (v := .int .i64 (kb : Int)) fun _ => by kernel_rfl)) h (by kernel_rfl) ?_
          refine d_take 30 267361714175 [0] rfl (by kernel_rfl) (qp_thn (qp_blk (qp_thn (qp_rnd (qp_blk (qp_thn (qp_blk (qp_rnd (qp_blk (qp_blk (qp_thn (qp_rnd (qp_blk (qp_thn qp_body)))))))))))))) (ym1 (v := .pointer (some ⟨blkN h2v, offN h2v + kb * 6, none⟩)) b24 (by subst hb24; cases b22 <;> cases b23 <;> kernel_rfl) (fun hB => by subst hB; exact g_idx kb (by kernel_rfl) hi16 0 rfl)) h (by kernel_rfl) ?_
          refine d_take 31 268435455999 [0] rfl (by kernel_rfl) (qp_thn (qp_blk (qp_thn (qp_rnd (qp_blk (qp_thn (qp_blk (qp_rnd (qp_blk (qp_blk (qp_thn (qp_rnd (qp_blk (qp_thn qp_body)))))))))))))) (ym1 (v := .pointer (some ⟨blkN h2v, offN h2v + kb * 6 + 2, none⟩)) b24 (by subst hb24; cases b22 <;> cases b23 <;> kernel_rfl) (fun hB => by subst hB; exact g_pure (v := .pointer (some ⟨blkN h2v, offN h2v + kb * 6 + 2, none⟩)) fun _ => by kernel_rfl)) h (by kernel_rfl) ?_
          refine d_take 32 270582939647 [0] rfl (by kernel_rfl) (qp_thn (qp_blk (qp_thn (qp_rnd (qp_blk (qp_thn (qp_blk (qp_rnd (qp_blk (qp_blk (qp_thn (qp_rnd (qp_blk (qp_thn qp_body)))))))))))))) (ym1 (v := .int .i64 x17.2.1) b24 (by subst hb24; cases b22 <;> cases b23 <;> kernel_rfl) (fun hB => by subst hB; exact g_ldr (b := blkN h2v) (offN h2v + kb * 6 + 2) [.int .i64 x17.2.1] (.int .i64 x17.2.1) (by kernel_rfl) 0 rfl (rdRow runC_len hx18 2 (by kernel_rfl)))) h (by kernel_rfl) ?_
          refine d_take 33 25769803775 [0] rfl (by kernel_rfl) (qp_thn (qp_blk (qp_thn (qp_rnd (qp_blk (qp_thn (qp_blk (qp_rnd (qp_blk (qp_blk (qp_thn (qp_rnd (qp_blk (qp_thn qp_body)))))))))))))) (ym1 (v := h2v) b24 (by subst hb24; cases b22 <;> cases b23 <;> kernel_rfl) (fun hB => by subst hB; exact g_pure (v := h2v) fun _ => by kernel_rfl)) h (by kernel_rfl) ?_
          refine d_take 34 17179869183 [0] rfl (by kernel_rfl) (qp_thn (qp_blk (qp_thn (qp_rnd (qp_blk (qp_thn (qp_blk (qp_rnd (qp_blk (qp_blk (qp_thn (qp_rnd (qp_blk (qp_thn qp_body)))))))))))))) (ym1 (v := .int .i64 (bs : Int)) b24 (by subst hb24; cases b22 <;> cases b23 <;> kernel_rfl) (fun hB => by subst hB; exact g_pure (v := .int .i64 (bs : Int)) fun _ => by kernel_rfl)) h (by kernel_rfl) ?_
          refine d_take 35 34359738367 [0] rfl (by kernel_rfl) (qp_thn (qp_blk (qp_thn (qp_rnd (qp_blk (qp_thn (qp_blk (qp_rnd (qp_blk (qp_blk (qp_thn (qp_rnd (qp_blk (qp_thn qp_body)))))))))))))) (ym1 (v := .pointer (some ⟨blkN h2v, offN h2v + bs * 6, none⟩)) b24 (by subst hb24; cases b22 <;> cases b23 <;> kernel_rfl) (fun hB => by subst hB; exact g_idx bs (by kernel_rfl) hi19 0 rfl)) h (by kernel_rfl) ?_
          refine d_take 36 68719476735 [0] rfl (by kernel_rfl) (qp_thn (qp_blk (qp_thn (qp_rnd (qp_blk (qp_thn (qp_blk (qp_rnd (qp_blk (qp_blk (qp_thn (qp_rnd (qp_blk (qp_thn qp_body)))))))))))))) (ym1 (v := .pointer (some ⟨blkN h2v, offN h2v + bs * 6 + 2, none⟩)) b24 (by subst hb24; cases b22 <;> cases b23 <;> kernel_rfl) (fun hB => by subst hB; exact g_pure (v := .pointer (some ⟨blkN h2v, offN h2v + bs * 6 + 2, none⟩)) fun _ => by kernel_rfl)) h (by kernel_rfl) ?_
          refine d_take 37 137438953471 [0] rfl (by kernel_rfl) (qp_thn (qp_blk (qp_thn (qp_rnd (qp_blk (qp_thn (qp_blk (qp_rnd (qp_blk (qp_blk (qp_thn (qp_rnd (qp_blk (qp_thn qp_body)))))))))))))) (ym1 (v := .int .i64 x20.2.1) b24 (by subst hb24; cases b22 <;> cases b23 <;> kernel_rfl) (fun hB => by subst hB; exact g_ldr (b := blkN h2v) (offN h2v + bs * 6 + 2) [.int .i64 x20.2.1] (.int .i64 x20.2.1) (by kernel_rfl) 0 rfl (rdRow runC_len hx21 2 (by kernel_rfl)))) h (by kernel_rfl) ?_
          obtain ⟨b25, hb25⟩ : ∃ b_ : Bool, b_ = (decide (x17.2.1 < x20.2.1)) := ⟨_, rfl⟩
          refine d_take 38 274877906943 [0] rfl (by kernel_rfl) (qp_thn (qp_blk (qp_thn (qp_rnd (qp_blk (qp_thn (qp_blk (qp_rnd (qp_blk (qp_blk (qp_thn (qp_rnd (qp_blk (qp_thn qp_body)))))))))))))) (ym1 (v := .bool b25) b24 (by subst hb24; cases b22 <;> cases b23 <;> kernel_rfl) (fun hB => by subst hB; exact by subst hb25; exact g_pure (v := .bool (decide (x17.2.1 < x20.2.1))) fun _ => by kernel_rfl)) h (by kernel_rfl) ?_
          obtain ⟨b26, hb26⟩ : ∃ b_ : Bool, b_ = (b23 && b25) := ⟨_, rfl⟩
          refine d_take 39 549755813887 [0] rfl (by kernel_rfl) (qp_thn (qp_blk (qp_thn (qp_rnd (qp_blk (qp_thn (qp_blk (qp_rnd (qp_blk (qp_blk (qp_thn (qp_rnd (qp_blk (qp_thn qp_body)))))))))))))) (ym0 (v := .bool b26) b22 (by cases b22 <;> kernel_rfl) (fun hB => by subst hB; exact by subst hb26; exact g_pure (v := .bool (b23 && b25)) fun _ => by subst hb24; first | (cases b23 <;> kernel_rfl) | (cases b24 <;> kernel_rfl))) h (by kernel_rfl) ?_
          obtain ⟨b27, hb27⟩ : ∃ b_ : Bool, b_ = (b22 || b26) := ⟨_, rfl⟩
          refine d_take 40 1099511627775 [0] rfl (v := .bool b27) (by kernel_rfl) (qp_thn (qp_blk (qp_thn (qp_rnd (qp_blk (qp_thn (qp_blk (qp_rnd (qp_blk (qp_blk (qp_thn (qp_rnd (qp_blk (qp_thn qp_body)))))))))))))) (yq (by kernel_rfl) (by subst hb27; exact g_pure (v := .bool (b22 || b26)) fun _ => by cases b22 <;> kernel_rfl)) h (by kernel_rfl) ?_
          refine d_done (by kernel_rfl) ?_
          refine thn_n ?_
          refine c_cond (b27) (by kernel_rfl) (fun hc28 => ?_) (fun hc28 => ?_)
          · skip
            have q29 : (b22 || b26) = true := by rw [← hb27]; exact hc28
            have hT : atLt x17 x20 = true := by subst hb27 hb26 hb25 hb23 hb22; exact hc28
            refine c_reg ?_
            refine sq_p (.int .i64 (kb : Int)) rfl (fun _ => by kernel_rfl) ?_
            refine sq_p (.int .i64 (kb : Int)) rfl (fun _ => by kernel_rfl) ?_
            refine lnil ?_
            refine blk_n (thn_n ?_)
            refine c_reg ?_
            refine sq_p (.int .i64 (kb : Int)) rfl (fun _ => by kernel_rfl) ?_
            refine sq_q rfl h (g_eq (v := .int .i64 (IntKind.i64.wrap ((kb : Int) + 1))) (v' := .int .i64 ((kb + 1 : Nat) : Int)) (g_pure fun _ => by kernel_rfl) (wr (by omega))) ?_
            refine sq_p (.int .i64 ((kb + 1 : Nat) : Int)) rfl (fun _ => by kernel_rfl) ?_
            refine lnil ?_
            have hQ30 : (BestI h2 kb (kb + 1)) ∧ (h2.length - (kb + 1)) < (h2.length - kb) := ⟨hB.new hx21 hx18 hT, by omega⟩
            refine loop_end (fun j => ⟨kb, (kb + 1), j⟩) hQ30 (by kernel_rfl) [0, 0, 0, 0, 0] (by kernel_rfl) h
          · skip
            have q31 : (b22 || b26) = false := by rw [← hb27]; exact hc28
            have q32 : b22 = false := by revert q31; cases b22 <;> simp
            have q33 : b26 = false := by revert q31; cases b22 <;> cases b26 <;> simp
            have q34 : (decide (x17.2.2.1 < x20.2.2.1)) = false := by rw [← hb22]; exact q32
            have q34 := of_decide_eq_false q34
            have q35 : (b23 && b25) = false := by rw [← hb26]; exact q33
            have hT : atLt x17 x20 = false := by subst hb27 hb26 hb25 hb23 hb22; exact hc28
            refine c_skip ?_
            refine blk_n (thn_n ?_)
            refine c_reg ?_
            refine sq_p (.int .i64 (kb : Int)) rfl (fun _ => by kernel_rfl) ?_
            refine sq_q rfl h (g_eq (v := .int .i64 (IntKind.i64.wrap ((kb : Int) + 1))) (v' := .int .i64 ((kb + 1 : Nat) : Int)) (g_pure fun _ => by kernel_rfl) (wr (by omega))) ?_
            refine sq_p (.int .i64 ((kb + 1 : Nat) : Int)) rfl (fun _ => by kernel_rfl) ?_
            refine lnil ?_
            have hQ36 : (BestI h2 bs (kb + 1)) ∧ (h2.length - (kb + 1)) < (h2.length - kb) := ⟨hB.keep hx21 hx18 hT, by omega⟩
            refine loop_end (fun j => ⟨bs, (kb + 1), j⟩) hQ36 (by kernel_rfl) [0, 0, 0, 0, 0] (by kernel_rfl) h
        · skip
          have hc15 := of_decide_eq_false hc15
          refine c_exit ?_
          refine thn_e (rnd_e (blk_e (thn_n ?_)))
          refine c_seq ?_
          refine c_reg ?_
          refine sq_p (v2) rfl (fun _ => by kernel_rfl) ?_
          refine sq_p (h2v) rfl (fun _ => by kernel_rfl) ?_
          refine sq_p (.int .i64 (bs : Int)) rfl (fun _ => by kernel_rfl) ?_
          have hi37 : bs < h2.length := by omega
          obtain ⟨x38, hx39⟩ : ∃ x, h2[bs]? = some x := ⟨_, List.getElem?_eq_getElem hi37⟩
          refine sq_q rfl h (g_idx bs (by kernel_rfl) hi37 0 rfl) ?_
          refine sq_q rfl h (g_ldr (b := blkN h2v) (offN h2v + bs * 6) [.int .i64 x38.1.1, .int .i64 x38.1.2, .int .i64 x38.2.1, .int .i64 x38.2.2.1, .int .i64 x38.2.2.2.1, .bool x38.2.2.2.2] (.agg #[.int .i64 x38.1.1, .int .i64 x38.1.2, .int .i64 x38.2.1, .int .i64 x38.2.2.1, .int .i64 x38.2.2.2.1, .bool x38.2.2.2.2]) (by kernel_rfl) 0 rfl (rdRow0 runC_len hx39 (by kernel_rfl))) ?_
          refine sq_new rfl (fun b => .slice (some ⟨b, 0, none⟩) 1 1) [.int .i64 x38.1.1, .int .i64 x38.1.2, .int .i64 x38.2.1, .int .i64 x38.2.2.1, .int .i64 x38.2.2.2.1, .bool x38.2.2.2.2] 70 (fun _ => by kernel_rfl) h ?_; intro k40 w h
          refine sq_app (b := k40) (o := 0) rfl 1 x38 (by kernel_rfl) h 4 rfl 0 rfl (rdCell 0 (by kernel_rfl)) (by (try simp only [List.length_append, List.length_cons, List.length_nil, List.length_take, List.length_drop]); omega) ?_; intro v41 w h
          refine sq_p (v41) rfl (fun _ => by kernel_rfl) ?_
          refine lnil ?_
          refine thn_n ?_
          refine c_seq ?_
          refine c_reg ?_
          refine sq_p (.slice none 0 0) rfl (fun _ => by kernel_rfl) ?_
          refine lnil ?_
          refine thn_n ?_
          refine c_seq ?_
          refine c_reg ?_
          refine sq_p (.slice none 0 0) rfl (fun _ => by kernel_rfl) ?_
          refine sq_p (h2v) rfl (fun _ => by kernel_rfl) ?_
          refine sq_p (.int .i64 (bs : Int)) rfl (fun _ => by kernel_rfl) ?_
          refine sq_q rfl h (g_sub2 (v := h2v) (d := 70) (k := 6) (LV := none) (HV := (some (.int .i64 (bs : Int)))) 0 bs (by kernel_rfl) rfl (bnd rfl) (by first | omega | (simp; omega)) (by first | omega | (simp; omega)) 1 rfl slRd_rows) ?_
          have h := h.nilRows 70 6 runC
          refine sq_apps rfl 0 bs (by kernel_rfl) runC_len (fun _ => rfl) (by omega) (by omega) h 0 rfl 2 rfl slRd_rows (by (try simp only [List.length_append, List.length_cons, List.length_nil, List.length_take, List.length_drop]); omega) ?_; intro v42 w h
          refine sq_p (v42) rfl (fun _ => by kernel_rfl) ?_
          refine lnil ?_
          refine thn_n ?_
          refine c_reg ?_
          refine sq_p (v42) rfl (fun _ => by kernel_rfl) ?_
          refine sq_p (h2v) rfl (fun _ => by kernel_rfl) ?_
          refine sq_p (.int .i64 (bs : Int)) rfl (fun _ => by kernel_rfl) ?_
          refine sq_q rfl h (g_eq (v := .int .i64 (IntKind.i64.wrap ((bs : Int) + 1))) (v' := .int .i64 ((bs + 1 : Nat) : Int)) (g_pure fun _ => by kernel_rfl) (wr (by omega))) ?_
          refine sq_q rfl h (g_sub2 (v := h2v) (d := 70) (k := 6) (LV := (some (.int .i64 ((bs + 1 : Nat) : Int)))) (HV := none) (bs + 1) h2.length (by kernel_rfl) (bnd rfl) rfl (by first | omega | (simp; omega)) (by first | omega | (simp; omega)) 2 rfl slRd_rows) ?_
          refine sq_apps rfl (bs + 1) h2.length (by kernel_rfl) runC_len (fun _ => rfl) (by omega) (by omega) h 0 rfl 2 rfl slRd_rows (by (try simp only [List.length_append, List.length_cons, List.length_nil, List.length_take, List.length_drop]); omega) ?_; intro v43 w h
          refine sq_p (v43) rfl (fun _ => by kernel_rfl) ?_
          refine lnil ?_
          refine blk_n ?_
          have hQ44 : (SelI (out ++ hereP l x4) (o2 ++ [x38]) ([] ++ (h2.take bs).drop 0 ++ (h2.take h2.length).drop (bs + 1)) ∧ (∀ b ∈ ([] ++ (h2.take bs).drop 0 ++ (h2.take h2.length).drop (bs + 1)), b ∈ hereP l x4) ∧ (o2 ++ [x38]).length + ([] ++ (h2.take bs).drop 0 ++ (h2.take h2.length).drop (bs + 1)).length ≤ 300000) ∧ (([] ++ (h2.take bs).drop 0 ++ (h2.take h2.length).drop (bs + 1)).length) < h2.length := ⟨⟨hS.step hx39 hhm (fun j y hj hy => hB.min x38 hx39 j y (by omega) hy), sel_sub hx39 hsub, by (try simp only [List.length_append, List.length_cons, List.length_nil, List.length_take, List.length_drop]); omega⟩, by (try simp only [List.length_append, List.length_cons, List.length_nil, List.length_take, List.length_drop]); omega⟩
          refine loop_end (fun j => ⟨o2 ++ [x38], v41, [] ++ (h2.take bs).drop 0 ++ (h2.take h2.length).drop (bs + 1), v43, j⟩) hQ44 (by kernel_rfl) [0, 2, 2, 2, 2] (by kernel_rfl) h
      · skip
        have hc14 := of_decide_eq_false hc14
        refine c_exit ?_
        refine thn_e (rnd_e (blk_e (blk_n (thn_n ?_))))
        refine c_reg ?_
        refine sq_p (.int .i64 (i : Int)) rfl (fun _ => by kernel_rfl) ?_
        refine sq_q rfl h (g_eq (v := .int .i64 (IntKind.i64.wrap ((i : Int) + 1))) (v' := .int .i64 ((i + 1 : Nat) : Int)) (g_pure fun _ => by kernel_rfl) (wr (by omega))) ?_
        refine sq_p (.int .i64 ((i + 1 : Nat) : Int)) rfl (fun _ => by kernel_rfl) ?_
        refine lnil ?_
        have hQ45 : ((i + 1) ≤ (handlesP l).length ∧ o2.Perm (((handlesP l).take (i + 1)).flatMap (hereP l)) ∧ o2.Pairwise (fun x y => ¬ lockCf y x < 0)) ∧ ((handlesP l).length - (i + 1)) < ((handlesP l).length - i) := ⟨⟨by omega, by rw [flat_take hx0]; have q := hS.perm; rw [show h2 = [] from List.length_eq_zero_iff.1 (by omega), List.append_nil] at q; exact q.trans (hp0.append_right _), hS.ord⟩, by omega⟩
        refine loop_end (fun j => ⟨(i + 1), o2, v2, j⟩) hQ45 (by kernel_rfl) [3, 3, 2] (by kernel_rfl) h
  · skip
    have hc2 := of_decide_eq_false hc2
    refine c_exit ?_
    refine thn_e (rnd_e (blk_e (thn_n ?_)))
    refine c_seq ?_
    refine c_reg ?_
    refine sq_p (vo) rfl (fun _ => by kernel_rfl) ?_
    refine sq_p (vo) rfl (fun _ => by kernel_rfl) ?_
    refine lnil ?_
    refine thn_n ?_
    refine c_ret ?_
    refine ret_end [vo] [0, 1] h (by kernel_rfl) (res_t (by kernel_rfl) res_n) ?_
    rw [List.take_of_length_le (by omega)] at hp0
    exact ⟨_, _, ⟨hp0, ho0⟩, rfl, rfl⟩
end Go.Proofs.YtgebinfbbopnlaaDoor
