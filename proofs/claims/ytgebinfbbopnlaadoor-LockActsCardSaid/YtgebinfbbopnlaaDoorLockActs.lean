/- lockacts: contracts by what is owned (printed by walk.py). -/
import Derived.Test.YtgebinfbbopnlaaDoorLaD
import Derived.Test.YtgebinfbbopnlaaDoorEnvAR
import Derived.Test.YtgebinfbbopnlaaDoorArg
namespace Go.Proofs.YtgebinfbbopnlaaDoor
open Go.RowKit
set_option linter.unusedVariables false
set_option linter.unusedSimpArgs false
set_option linter.unnecessarySimpa false
set_option maxRecDepth 100000

theorem lock_tells {T l2 : List Run} {l : List Paint} (hT : TabOk T) (hL : Tells T l) {h : Int × Int} {o a s : Int} {wb : Bool} (he : eOk a s = true) (hn : ∀ x ∈ T, heldP h o (eF a s) (eT a s) wb x = false) (hp : l2.Perm (cutL T h o (eF a s) (eT a s) ++ [(h, o, eF a s, eT a s, wb)])) (ho : l2.Pairwise (fun x y => ¬ joinCf y x < 0)) :
    RunsOk (joinL l2) ∧ Tells (joinL l2) (l ++ [(h, o, eF a s, endN (eT a s), if wb then 2 else 1)]) := by
  obtain ⟨h1, h2⟩ := add_meet hT.1 (wr := wb) (eOk_rng he) hn
  exact ⟨join_ok (fun x hx => h1 x (hp.mem_iff.1 hx)) (hp.symm.pairwise h2 fun h => MeetOk.symm h) ho, ((hL.add hT.1.bnd (eOk_rng he)).mem (fun x => hp.mem_iff)).join (fun x hx => h1 x (hp.mem_iff.1 hx))⟩
theorem snoc_len {l : List Paint} {p : Paint} {n : Nat} (h : l.length ≤ n) : (l ++ [p]).length ≤ n + 1 := by simp; exact h
theorem filt_len {l : List Paint} {p : Paint → Bool} {n : Nat} (h : l.length ≤ n) : (l.filter p).length ≤ n + 1 := Nat.le_trans (List.length_filter_le _ _) (by omega)
theorem map_len {S T : List Run} (hp : S.Perm T) (hT : TabOk T) : (S.map lkT).length ≤ 1000 := by rw [List.length_map, hp.length_eq]; exact hT.small

set_option maxHeartbeats 4000000 in
theorem lockActs_spec {B : Nat} (ad : Nat → Addr) (v : Value) (acts : List LAct) : Spec Tryd.prog 4 #[v] [rArg v 7 lactC acts, rEnvA B ad] (fun u L => u = .bool true ∧ L = [rArg v 7 lactC acts, rEnvA B ad]) := by
  refine spec_of (#[v, undef, undef, undef, undef, undef, undef, undef, undef, undef, undef, undef, undef, undef, undef, undef, undef, undef, undef, undef, undef, undef, undef, undef, undef, undef, undef, undef, undef, undef, undef, undef, undef, undef, undef, undef, undef, undef, undef, undef, undef, undef, undef, undef, undef, undef, undef, undef, undef, undef, undef, undef, undef, undef, undef, undef, undef, undef, undef, undef, undef, undef, undef, undef, undef, undef, undef, undef, undef, undef, undef, undef, undef, undef, undef, undef, undef, undef, undef, undef, undef, undef, undef, undef, undef, undef, undef, undef, undef, undef, undef, undef, undef, undef, undef, undef, undef, undef, undef, undef, undef, undef, undef, undef, undef, undef, undef, undef, undef, undef, undef, undef, undef, undef, undef, undef, undef, undef, undef, undef, undef, undef, undef, undef, undef, undef, undef, undef, undef, undef, undef, undef, undef, undef, undef, undef, undef, undef, undef, undef, undef, undef, undef, undef, undef, undef, undef, undef, undef, undef, undef, undef, undef, undef, undef, undef]) Tryd.func4 rfl (by kernel_rfl) fun E w0 w h => ?_
  have h := h.envSub [2, 9, 11] 1 rfl (by decide)
  refine c_seq ?_
  refine c_reg ?_
  refine sq_p (.bool false) rfl (fun _ => by kernel_rfl) ?_
  refine lnil ?_
  refine thn_n ?_
  refine c_seq ?_
  refine c_reg ?_
  refine sq_call #[] [0] rfl (held_spec ad) (fun _ => by kernel_rfl) h ?_; rintro v_ L_ w ⟨rfl, rfl⟩ h
  refine sq_p (.bool true) rfl (fun _ => by kernel_rfl) ?_
  refine lnil ?_
  refine thn_n ?_
  refine c_seq ?_
  refine c_seq ?_
  refine c_reg ?_
  refine sq_p (.bool true) rfl (fun _ => by kernel_rfl) ?_
  refine sq_p (.bool false) rfl (fun _ => by kernel_rfl) ?_
  refine sq_p (.bool false) rfl (fun _ => by kernel_rfl) ?_
  refine sq_p (v) (by kernel_rfl) (fun _ => by kernel_rfl) ?_
  refine sq_q (by kernel_rfl) h (g_lenA 65 (by kernel_rfl) 1 rfl) ?_
  obtain ⟨b1, hb1⟩ : ∃ b_ : Bool, b_ = (decide ((acts.length : Int) > 40)) := ⟨_, rfl⟩
  refine sq_q (v := .bool b1) (by kernel_rfl) h (by subst hb1; exact g_pure (v := .bool (decide ((acts.length : Int) > 40))) fun _ => by kernel_rfl) ?_
  refine sq_p (.bool b1) rfl (fun _ => by kernel_rfl) ?_
  refine lnil ?_
  refine thn_n ?_
  refine c_cond (b1) (by kernel_rfl) (fun hc2 => ?_) (fun hc2 => ?_)
  · skip
    have q3 : (decide ((acts.length : Int) > 40)) = true := by rw [← hb1]; exact hc2
    have q3 := of_decide_eq_true q3
    refine c_seq ?_
    refine c_reg ?_
    refine sq_p (.bool true) rfl (fun _ => by kernel_rfl) ?_
    refine sq_p (.bool true) rfl (fun _ => by kernel_rfl) ?_
    refine lnil ?_
    refine thn_n ?_
    refine c_ret ?_
    refine thn_r ?_
    refine ret_end [.bool true] [1, 1] h (by kernel_rfl) (res_t (by kernel_rfl) res_n) ?_
    exact ⟨rfl, rfl⟩
  · skip
    have q4 : (decide ((acts.length : Int) > 40)) = false := by rw [← hb1]; exact hc2
    have q4 := of_decide_eq_false q4
    refine c_skip ?_
    refine thn_n ?_
    refine c_seq ?_
    refine c_reg ?_
    refine sq_p (.agg #[.slice none 0 0]) rfl (fun _ => by kernel_rfl) ?_
    refine sq_new rfl (fun b => .pointer (some ⟨b, 0, none⟩)) [.slice none 0 0] 57 (fun _ => by kernel_rfl) h ?_; intro k5 w h
    refine sq_p (.pointer (some ⟨k5, 0, none⟩)) rfl (fun _ => by kernel_rfl) ?_
    refine lnil ?_
    refine thn_n ?_
    refine c_seq ?_
    refine c_reg ?_
    refine sq_p (.agg #[.slice none 0 0]) rfl (fun _ => by kernel_rfl) ?_
    refine sq_new rfl (fun b => .pointer (some ⟨b, 0, none⟩)) [.slice none 0 0] 61 (fun _ => by kernel_rfl) h ?_; intro k6 w h
    refine sq_p (.pointer (some ⟨k6, 0, none⟩)) rfl (fun _ => by kernel_rfl) ?_
    refine lnil ?_
    refine thn_n ?_
    refine c_seq ?_
    refine c_seq ?_
    refine c_reg ?_
    refine sq_p (.int .i64 0) rfl (fun _ => by kernel_rfl) ?_
    refine lnil ?_
    refine thn_n ?_
    refine c_block ?_
    have h := h.nilRows 104 6 runC
    have h := h.nilRows 107 6 pntC
    refine c_loop (X := Nat × List Run × Value × List Paint × Value × (Nat → Value)) (fun ⟨n0, lt, vt, lp, vp, J0⟩ => ⟨#[v, undef, J0 2, .bool true, .pointer (some ⟨k5, 0, none⟩), .pointer (some ⟨k6, 0, none⟩), .int .i64 (n0 : Int), J0 7, J0 8, J0 9, J0 10, J0 11, J0 12, J0 13, J0 14, J0 15, .bool true, .bool true, .bool false, .bool false, v, .int .i64 (acts.length : Int), .bool b1, .bool b1, undef, .agg #[.slice none 0 0], .pointer (some ⟨k5, 0, none⟩), .agg #[.slice none 0 0], .pointer (some ⟨k6, 0, none⟩), J0 29, J0 30, J0 31, J0 32, J0 33, J0 34, J0 35, J0 36, J0 37, J0 38, J0 39, J0 40, J0 41, J0 42, J0 43, J0 44, J0 45, J0 46, J0 47, J0 48, J0 49, J0 50, J0 51, J0 52, J0 53, J0 54, J0 55, J0 56, J0 57, J0 58, J0 59, J0 60, J0 61, J0 62, J0 63, J0 64, J0 65, J0 66, J0 67, J0 68, J0 69, J0 70, J0 71, J0 72, J0 73, J0 74, J0 75, J0 76, J0 77, J0 78, J0 79, J0 80, J0 81, J0 82, J0 83, J0 84, J0 85, J0 86, J0 87, J0 88, J0 89, J0 90, J0 91, J0 92, J0 93, J0 94, J0 95, J0 96, J0 97, J0 98, J0 99, J0 100, J0 101, J0 102, J0 103, J0 104, J0 105, J0 106, J0 107, J0 108, J0 109, J0 110, J0 111, J0 112, J0 113, J0 114, J0 115, J0 116, J0 117, J0 118, J0 119, J0 120, J0 121, J0 122, J0 123, J0 124, J0 125, J0 126, J0 127, J0 128, J0 129, J0 130, J0 131, J0 132, J0 133, J0 134, J0 135, J0 136, J0 137, J0 138, J0 139, J0 140, J0 141, J0 142, J0 143, J0 144, J0 145, J0 146, J0 147, J0 148, J0 149, J0 150, J0 151, J0 152, J0 153, J0 154, J0 155], []⟩)
      (fun ⟨n0, lt, vt, lp, vp, J0⟩ => [rRows true vp 107 6 pntC lp, rRows true vt 104 6 runC lt, rCell true k6 [vp] 61, rCell true k5 [vt] 57, rEnv B ad [2, 9, 11], rArg v 7 lactC acts, rEnvA B ad]) (fun ⟨n0, lt, vt, lp, vp, J0⟩ => n0 ≤ acts.length ∧ TabOk lt ∧ Tells lt lp ∧ lp.length ≤ n0) (fun ⟨n0, lt, vt, lp, vp, J0⟩ => acts.length - n0)
      ⟨0, [], (.slice none 0 0), [], (.slice none 0 0), (fun n => (#[v, undef, .bool false, .bool true, .pointer (some ⟨k5, 0, none⟩), .pointer (some ⟨k6, 0, none⟩), .int .i64 0, undef, undef, undef, undef, undef, undef, undef, undef, undef, .bool true, .bool true, .bool false, .bool false, v, .int .i64 (acts.length : Int), .bool b1, .bool b1, undef, .agg #[.slice none 0 0], .pointer (some ⟨k5, 0, none⟩), .agg #[.slice none 0 0], .pointer (some ⟨k6, 0, none⟩), undef, undef, undef, undef, undef, undef, undef, undef, undef, undef, undef, undef, undef, undef, undef, undef, undef, undef, undef, undef, undef, undef, undef, undef, undef, undef, undef, undef, undef, undef, undef, undef, undef, undef, undef, undef, undef, undef, undef, undef, undef, undef, undef, undef, undef, undef, undef, undef, undef, undef, undef, undef, undef, undef, undef, undef, undef, undef, undef, undef, undef, undef, undef, undef, undef, undef, undef, undef, undef, undef, undef, undef, undef, undef, undef, undef, undef, undef, undef, undef, undef, undef, undef, undef, undef, undef, undef, undef, undef, undef, undef, undef, undef, undef, undef, undef, undef, undef, undef, undef, undef, undef, undef, undef, undef, undef, undef, undef, undef, undef, undef, undef, undef, undef, undef, undef, undef, undef, undef, undef, undef, undef, undef, undef, undef, undef, undef] : Array Value).getD n undef)⟩ ⟨by omega, tabOk_nil, tells_nil, by simp⟩ (by kernel_rfl) [0, 0, 0, 0, 0, 0, 0] (by kernel_rfl) h ?_
    rintro ⟨n0, lt, vt, lp, vp, J0⟩ w hG h
    obtain ⟨hn0, hT0, hL0, hlp⟩ : n0 ≤ acts.length ∧ TabOk lt ∧ Tells lt lp ∧ lp.length ≤ n0 := hG
    refine c_seq ?_
    refine c_seq ?_
    refine c_reg ?_
    refine sq_p (.int .i64 (n0 : Int)) rfl (fun _ => by kernel_rfl) ?_
    refine sq_p (v) rfl (fun _ => by kernel_rfl) ?_
    refine sq_q rfl h (g_lenA 65 (by kernel_rfl) 5 rfl) ?_
    refine sq_p (.bool (decide ((n0 : Int) < (acts.length : Int)))) rfl (fun _ => by kernel_rfl) ?_
    refine lnil ?_
    refine thn_n ?_
    refine c_cond (decide ((n0 : Int) < (acts.length : Int))) (by kernel_rfl) (fun hc7 => ?_) (fun hc7 => ?_)
    · skip
      have hc7 := of_decide_eq_true hc7
      refine c_skip ?_
      refine thn_n ?_
      refine c_seq ?_
      refine c_block ?_
      refine c_seq ?_
      refine c_reg ?_
      refine sq_p (v) rfl (fun _ => by kernel_rfl) ?_
      refine sq_p (.int .i64 (n0 : Int)) rfl (fun _ => by kernel_rfl) ?_
      have hi8 : n0 < acts.length := by omega
      obtain ⟨x9, hx10⟩ : ∃ x, acts[n0]? = some x := ⟨_, List.getElem?_eq_getElem hi8⟩
      refine sq_q rfl h (g_idxA 65 n0 (by kernel_rfl) hi8 5 rfl) ?_
      refine sq_q rfl h (g_ldr (b := blkN v) (offN v + n0 * 7) [.string x9.1, .int .i64 x9.2.1.1, .int .i64 x9.2.1.2.1, .int .i64 x9.2.2.1, .int .i64 x9.2.2.2.1.1, .int .i64 x9.2.2.2.1.2.1, .bool x9.2.2.2.2.1] (.agg #[.string x9.1, .int .i64 x9.2.1.1, .int .i64 x9.2.1.2.1, .int .i64 x9.2.2.1, .int .i64 x9.2.2.2.1.1, .int .i64 x9.2.2.2.1.2.1, .bool x9.2.2.2.2.1]) (by kernel_rfl) 5 rfl (rdArg0 hx10 (by kernel_rfl))) ?_
      refine sq_new rfl (fun b => .pointer (some ⟨b, 0, none⟩)) [.string (⟨#[]⟩ : ByteArray), .int .i64 0, .int .i64 0, .int .i64 0, .int .i64 0, .int .i64 0, .bool false] 65 (fun _ => by kernel_rfl) h ?_; intro k11 w h
      refine sq_st rfl 0 [.string x9.1, .int .i64 x9.2.1.1, .int .i64 x9.2.1.2.1, .int .i64 x9.2.2.1, .int .i64 x9.2.2.2.1.1, .int .i64 x9.2.2.2.1.2.1, .bool x9.2.2.2.2.1] [.string x9.1, .int .i64 x9.2.1.1, .int .i64 x9.2.1.2.1, .int .i64 x9.2.2.1, .int .i64 x9.2.2.2.1.1, .int .i64 x9.2.2.2.1.2.1, .bool x9.2.2.2.2.1] h 0 rfl (by kernel_rfl) ?_; intro w h
      refine lnil ?_
      refine thn_n ?_
      refine c_seq ?_
      refine c_seq ?_
      refine c_reg ?_
      refine sq_p (.pointer (some ⟨k11, 0, none⟩)) rfl (fun _ => by kernel_rfl) ?_
      refine sq_q rfl h (g_ld 0 [.string x9.1] (.string x9.1) (by kernel_rfl) 0 rfl) ?_
      refine lnil ?_
      refine thn_n ?_
      refine c_block ?_
      refine c_seq ?_
      refine c_reg ?_
      refine sq_q rfl h (g_eq (v := .bool (x9.1.toList == (⟨#[108, 111, 99, 107]⟩ : ByteArray).toList)) (v' := .bool (decide (x9.1 = (⟨#[108, 111, 99, 107]⟩ : ByteArray)))) (g_pure fun _ => by kernel_rfl) beqS) ?_
      refine sq_p (.bool (decide (x9.1 = (⟨#[108, 111, 99, 107]⟩ : ByteArray)))) rfl (fun _ => by kernel_rfl) ?_
      refine lnil ?_
      refine thn_n ?_
      refine c_cond (decide (x9.1 = (⟨#[108, 111, 99, 107]⟩ : ByteArray))) (by kernel_rfl) (fun hc12 => ?_) (fun hc12 => ?_)
      · skip
        have hc12 := of_decide_eq_true hc12
        refine c_seq ?_
        refine c_reg ?_
        refine sq_p (.pointer (some ⟨k5, 0, none⟩)) rfl (fun _ => by kernel_rfl) ?_
        refine sq_p (.pointer (some ⟨k11, 1, none⟩)) rfl (fun _ => by kernel_rfl) ?_
        refine sq_q rfl h (g_ld 1 [.int .i64 x9.2.1.1, .int .i64 x9.2.1.2.1] (.agg #[.int .i64 x9.2.1.1, .int .i64 x9.2.1.2.1]) (by kernel_rfl) 0 rfl) ?_
        refine sq_p (.pointer (some ⟨k11, 3, none⟩)) rfl (fun _ => by kernel_rfl) ?_
        refine sq_q rfl h (g_ld 3 [.int .i64 x9.2.2.1] (.int .i64 x9.2.2.1) (by kernel_rfl) 0 rfl) ?_
        refine sq_p (.pointer (some ⟨k11, 4, none⟩)) rfl (fun _ => by kernel_rfl) ?_
        refine sq_q rfl h (g_ld 4 [.int .i64 x9.2.2.2.1.1, .int .i64 x9.2.2.2.1.2.1] (.agg #[.int .i64 x9.2.2.2.1.1, .int .i64 x9.2.2.2.1.2.1]) (by kernel_rfl) 0 rfl) ?_
        refine sq_p (.pointer (some ⟨k11, 6, none⟩)) rfl (fun _ => by kernel_rfl) ?_
        refine sq_q rfl h (g_ld 6 [.bool x9.2.2.2.2.1] (.bool x9.2.2.2.2.1) (by kernel_rfl) 0 rfl) ?_
        refine sq_call #[.pointer (some ⟨k5, 0, none⟩), .agg #[.int .i64 x9.2.1.1, .int .i64 x9.2.1.2.1], .int .i64 x9.2.2.1, .agg #[.int .i64 x9.2.2.2.1.1, .int .i64 x9.2.2.2.1.2.1], .bool x9.2.2.2.2.1] [4, 2, 3] rfl (lockm_spec ad k5 vt lt x9.2.1.1 x9.2.1.2.1 x9.2.2.1 x9.2.2.2.1.1 x9.2.2.2.1.2.1 x9.2.2.2.2.1 hT0.1.bnd hT0.small) (fun _ => by kernel_rfl) h ?_; rintro v_ L_ w (⟨hq13, rfl, rfl⟩ | ⟨x15, hq13, hq14, rfl, rfl⟩ | ⟨hq13, hq14, l16, hp17, ho18, ⟨hq19, rfl, rfl⟩ | ⟨hq19, v20, rfl, rfl⟩⟩) h
        · skip
          refine sq_p (.tuple #[.agg #[.int .i64 0, .int .i64 0, .int .i64 0, .int .i64 0, .int .i64 0, .bool false], errV ad 2]) rfl (fun _ => by kernel_rfl) ?_
          refine sq_p (.agg #[.int .i64 0, .int .i64 0, .int .i64 0, .int .i64 0, .int .i64 0, .bool false]) rfl (fun _ => by kernel_rfl) ?_
          refine sq_p (errV ad 2) rfl (fun _ => by kernel_rfl) ?_
          refine sq_new rfl (fun b => .pointer (some ⟨b, 0, none⟩)) [.int .i64 0, .int .i64 0, .int .i64 0, .int .i64 0, .int .i64 0, .bool false] 67 (fun _ => by kernel_rfl) h ?_; intro k21 w h
          refine sq_st rfl 0 [.int .i64 0, .int .i64 0, .int .i64 0, .int .i64 0, .int .i64 0, .bool false] [.int .i64 0, .int .i64 0, .int .i64 0, .int .i64 0, .int .i64 0, .bool false] h 0 rfl (by kernel_rfl) ?_; intro w h
          refine sq_p (errV ad 2) rfl (fun _ => by kernel_rfl) ?_
          refine lnil ?_
          refine thn_n ?_
          refine c_seq ?_
          refine c_reg ?_
          refine sq_p (.pointer (some ⟨k6, 0, none⟩)) rfl (fun _ => by kernel_rfl) ?_
          refine sq_p (.pointer (some ⟨k11, 1, none⟩)) rfl (fun _ => by kernel_rfl) ?_
          refine sq_q rfl h (g_ld 1 [.int .i64 x9.2.1.1, .int .i64 x9.2.1.2.1] (.agg #[.int .i64 x9.2.1.1, .int .i64 x9.2.1.2.1]) (by kernel_rfl) 4 rfl) ?_
          refine sq_p (.pointer (some ⟨k11, 3, none⟩)) rfl (fun _ => by kernel_rfl) ?_
          refine sq_q rfl h (g_ld 3 [.int .i64 x9.2.2.1] (.int .i64 x9.2.2.1) (by kernel_rfl) 4 rfl) ?_
          refine sq_p (.pointer (some ⟨k11, 4, none⟩)) rfl (fun _ => by kernel_rfl) ?_
          refine sq_q rfl h (g_ld 4 [.int .i64 x9.2.2.2.1.1, .int .i64 x9.2.2.2.1.2.1] (.agg #[.int .i64 x9.2.2.2.1.1, .int .i64 x9.2.2.2.1.2.1]) (by kernel_rfl) 4 rfl) ?_
          refine sq_p (.pointer (some ⟨k11, 6, none⟩)) rfl (fun _ => by kernel_rfl) ?_
          refine sq_q rfl h (g_ld 6 [.bool x9.2.2.2.2.1] (.bool x9.2.2.2.2.1) (by kernel_rfl) 4 rfl) ?_
          refine sq_call #[.pointer (some ⟨k6, 0, none⟩), .agg #[.int .i64 x9.2.1.1, .int .i64 x9.2.1.2.1], .int .i64 x9.2.2.1, .agg #[.int .i64 x9.2.2.2.1.1, .int .i64 x9.2.2.2.1.2.1], .bool x9.2.2.2.2.1] [6, 5] rfl (rlock_spec k6 vp lp (by omega) hL0.ok x9.2.1.1 x9.2.1.2.1 x9.2.2.1 x9.2.2.2.1.1 x9.2.2.2.1.2.1 x9.2.2.2.2.1) (fun _ => by kernel_rfl) h ?_; rintro v_ L_ w (⟨hq22, rfl, rfl⟩ | ⟨R23, x24, hq25, hq26, hq27, rfl, rfl⟩ | ⟨R28, hq29, hq30, hq31, R32, hq33, ⟨hq34, rfl, rfl⟩ | ⟨hq34, v35, rfl, rfl⟩⟩) h
          · skip
            refine sq_p (.tuple #[.agg #[.int .i64 0, .int .i64 0, .int .i64 0, .int .i64 0, .int .i64 0, .bool false], .int .i64 2]) rfl (fun _ => by kernel_rfl) ?_
            refine sq_p (.agg #[.int .i64 0, .int .i64 0, .int .i64 0, .int .i64 0, .int .i64 0, .bool false]) rfl (fun _ => by kernel_rfl) ?_
            refine sq_p (.int .i64 2) rfl (fun _ => by kernel_rfl) ?_
            refine sq_new rfl (fun b => .pointer (some ⟨b, 0, none⟩)) [.int .i64 0, .int .i64 0, .int .i64 0, .int .i64 0, .int .i64 0, .bool false] 70 (fun _ => by kernel_rfl) h ?_; intro k36 w h
            refine sq_st rfl 0 [.int .i64 0, .int .i64 0, .int .i64 0, .int .i64 0, .int .i64 0, .bool false] [.int .i64 0, .int .i64 0, .int .i64 0, .int .i64 0, .int .i64 0, .bool false] h 0 rfl (by kernel_rfl) ?_; intro w h
            refine sq_p (.int .i64 2) rfl (fun _ => by kernel_rfl) ?_
            refine lnil ?_
            refine thn_n ?_
            refine c_seq ?_
            refine d_start 10 [0, 2] (by kernel_rfl) h fun w h => ?_
            refine d_take 0 2 [0, 2] rfl (v := errV ad 2) (by kernel_rfl) (qp_thn (qp_blk (qp_thn (qp_blk (qp_thn (qp_rnd (qp_blk (qp_thn qp_body)))))))) (yq (by kernel_rfl) (g_pure (v := errV ad 2) fun _ => by kernel_rfl)) h (by kernel_rfl) ?_
            refine d_take 1 1 [0, 2] rfl (v := .int .i64 2) (by kernel_rfl) (qp_thn (qp_blk (qp_thn (qp_blk (qp_thn (qp_rnd (qp_blk (qp_thn qp_body)))))))) (yq (by kernel_rfl) (g_pure (v := .int .i64 2) fun _ => by kernel_rfl)) h (by kernel_rfl) ?_
            refine d_ready [2] (by kernel_rfl) rfl ?_
            refine ad_call #[errV ad 2, .int .i64 2] [9] [1, 3] rfl (by kernel_rfl) (coded2_spec ad 2 2 (by decide) (by decide)) (fun _ => by kernel_rfl) h ?_ ?_
            · skip
              rintro v_ L_ w ⟨rfl, rfl⟩ h
              refine ⟨by kernel_rfl, ?_⟩
              refine d_take 3 7 [1, 3] rfl (v := .bool false) (by kernel_rfl) (qp_thn (qp_blk (qp_thn (qp_blk (qp_thn (qp_rnd (qp_blk (qp_thn qp_body)))))))) (yq (by kernel_rfl) (g_pure (v := .bool false) fun _ => by kernel_rfl)) h (by kernel_rfl) ?_
              refine d_take 4 15 [1, 3] rfl (v := .bool false) (by kernel_rfl) (qp_thn (qp_blk (qp_thn (qp_blk (qp_thn (qp_rnd (qp_blk (qp_thn qp_body)))))))) (yq (by kernel_rfl) (g_pure (v := .bool false) fun _ => by kernel_rfl)) h (by kernel_rfl) ?_
              refine d_take 5 159 [1, 3] rfl (v := .agg #[.int .i64 0, .int .i64 0, .int .i64 0, .int .i64 0, .int .i64 0, .bool false]) (by kernel_rfl) (qp_thn (qp_blk (qp_thn (qp_blk (qp_thn (qp_rnd (qp_blk (qp_thn qp_body)))))))) (yq (by kernel_rfl) (g_ld 0 [.int .i64 0, .int .i64 0, .int .i64 0, .int .i64 0, .int .i64 0, .bool false] (.agg #[.int .i64 0, .int .i64 0, .int .i64 0, .int .i64 0, .int .i64 0, .bool false]) (by kernel_rfl) 1 rfl)) h (by kernel_rfl) ?_
              refine d_take 7 127 [1, 3] rfl (v := .agg #[.int .i64 0, .int .i64 0, .int .i64 0, .int .i64 0, .int .i64 0, .bool false]) (by kernel_rfl) (qp_thn (qp_blk (qp_thn (qp_blk (qp_thn (qp_rnd (qp_blk (qp_thn qp_body)))))))) (yq (by kernel_rfl) (g_ld 0 [.int .i64 0, .int .i64 0, .int .i64 0, .int .i64 0, .int .i64 0, .bool false] (.agg #[.int .i64 0, .int .i64 0, .int .i64 0, .int .i64 0, .int .i64 0, .bool false]) (by kernel_rfl) 0 rfl)) h (by kernel_rfl) ?_
              refine d_ready [6] (by kernel_rfl) rfl ?_
              refine ad_call #[.agg #[.int .i64 0, .int .i64 0, .int .i64 0, .int .i64 0, .int .i64 0, .bool false]] [] [1, 3] rfl (by kernel_rfl) (lockOf_spec 0 0 0 0 0 false) (fun _ => by kernel_rfl) h ?_ ?_
              · skip
                rintro v_ L_ w ⟨rfl, rfl⟩ h
                refine ⟨by kernel_rfl, ?_⟩
                obtain ⟨b37, hb37⟩ : ∃ b_ : Bool, b_ = (!((decide ((0 : Int) = 0)) && ((decide ((0 : Int) = 0)) && ((decide ((0 : Int) = 0)) && ((decide ((0 : Int) = 0)) && ((decide ((0 : Int) = 0)) && (false == false))))))) := ⟨_, rfl⟩
                refine d_take 8 255 [1, 3] rfl (v := .bool b37) (by kernel_rfl) (qp_thn (qp_blk (qp_thn (qp_blk (qp_thn (qp_rnd (qp_blk (qp_thn qp_body)))))))) (yq (by kernel_rfl) (by subst hb37; exact g_neL6 (by kernel_rfl))) h (by kernel_rfl) ?_
                refine d_take 9 511 [1, 3] rfl (v := .bool b37) (by kernel_rfl) (qp_thn (qp_blk (qp_thn (qp_blk (qp_thn (qp_rnd (qp_blk (qp_thn qp_body)))))))) (yq (by kernel_rfl) (g_pure (v := .bool b37) fun _ => by kernel_rfl)) h (by kernel_rfl) ?_
                refine d_done (by kernel_rfl) ?_
                refine thn_n ?_
                refine c_cond (b37) (by kernel_rfl) (fun hc38 => ?_) (fun hc38 => ?_)
                · skip
                  have q39 : (!((decide ((0 : Int) = 0)) && ((decide ((0 : Int) = 0)) && ((decide ((0 : Int) = 0)) && ((decide ((0 : Int) = 0)) && ((decide ((0 : Int) = 0)) && (false == false))))))) = true := by rw [← hb37]; exact hc38
                  have q40 : ((decide ((0 : Int) = 0)) && ((decide ((0 : Int) = 0)) && ((decide ((0 : Int) = 0)) && ((decide ((0 : Int) = 0)) && ((decide ((0 : Int) = 0)) && (false == false)))))) = false := by revert q39; cases ((decide ((0 : Int) = 0)) && ((decide ((0 : Int) = 0)) && ((decide ((0 : Int) = 0)) && ((decide ((0 : Int) = 0)) && ((decide ((0 : Int) = 0)) && (false == false)))))) <;> simp
                  exfalso; revert hc38; subst hb37; simp [lkT]
                · skip
                  have q41 : (!((decide ((0 : Int) = 0)) && ((decide ((0 : Int) = 0)) && ((decide ((0 : Int) = 0)) && ((decide ((0 : Int) = 0)) && ((decide ((0 : Int) = 0)) && (false == false))))))) = false := by rw [← hb37]; exact hc38
                  have q42 : ((decide ((0 : Int) = 0)) && ((decide ((0 : Int) = 0)) && ((decide ((0 : Int) = 0)) && ((decide ((0 : Int) = 0)) && ((decide ((0 : Int) = 0)) && (false == false)))))) = true := by revert q41; cases ((decide ((0 : Int) = 0)) && ((decide ((0 : Int) = 0)) && ((decide ((0 : Int) = 0)) && ((decide ((0 : Int) = 0)) && ((decide ((0 : Int) = 0)) && (false == false)))))) <;> simp
                  have q43 : (decide ((0 : Int) = 0)) = true := by revert q42; cases (decide ((0 : Int) = 0)) <;> simp
                  have q44 : ((decide ((0 : Int) = 0)) && ((decide ((0 : Int) = 0)) && ((decide ((0 : Int) = 0)) && ((decide ((0 : Int) = 0)) && (false == false))))) = true := by revert q42; cases (decide ((0 : Int) = 0)) <;> cases ((decide ((0 : Int) = 0)) && ((decide ((0 : Int) = 0)) && ((decide ((0 : Int) = 0)) && ((decide ((0 : Int) = 0)) && (false == false))))) <;> simp
                  have q43 := of_decide_eq_true q43
                  have q45 : (decide ((0 : Int) = 0)) = true := by revert q44; cases (decide ((0 : Int) = 0)) <;> simp
                  have q46 : ((decide ((0 : Int) = 0)) && ((decide ((0 : Int) = 0)) && ((decide ((0 : Int) = 0)) && (false == false)))) = true := by revert q44; cases (decide ((0 : Int) = 0)) <;> cases ((decide ((0 : Int) = 0)) && ((decide ((0 : Int) = 0)) && ((decide ((0 : Int) = 0)) && (false == false)))) <;> simp
                  have q45 := of_decide_eq_true q45
                  have q47 : (decide ((0 : Int) = 0)) = true := by revert q46; cases (decide ((0 : Int) = 0)) <;> simp
                  have q48 : ((decide ((0 : Int) = 0)) && ((decide ((0 : Int) = 0)) && (false == false))) = true := by revert q46; cases (decide ((0 : Int) = 0)) <;> cases ((decide ((0 : Int) = 0)) && ((decide ((0 : Int) = 0)) && (false == false))) <;> simp
                  have q47 := of_decide_eq_true q47
                  have q49 : (decide ((0 : Int) = 0)) = true := by revert q48; cases (decide ((0 : Int) = 0)) <;> simp
                  have q50 : ((decide ((0 : Int) = 0)) && (false == false)) = true := by revert q48; cases (decide ((0 : Int) = 0)) <;> cases ((decide ((0 : Int) = 0)) && (false == false)) <;> simp
                  have q49 := of_decide_eq_true q49
                  have q51 : (decide ((0 : Int) = 0)) = true := by revert q50; cases (decide ((0 : Int) = 0)) <;> simp
                  have q52 : (false == false) = true := by revert q50; cases (decide ((0 : Int) = 0)) <;> cases (false == false) <;> simp
                  have q51 := of_decide_eq_true q51
                  have q52 := eq_of_beq q52
                  refine c_skip ?_
                  refine blk_n (thn_n ?_)
                  refine c_seq ?_
                  refine c_reg ?_
                  refine sq_p (.pointer (some ⟨k5, 0, none⟩)) rfl (fun _ => by kernel_rfl) ?_
                  refine sq_call #[.pointer (some ⟨k5, 0, none⟩)] [5, 5] rfl (list_spec k5 vt lt hT0.1.bnd hT0.small) (fun _ => by kernel_rfl) h ?_; rintro v56 L_ w ⟨_, l53, ⟨hp54, ho55⟩, rfl, rfl⟩ h
                  refine sq_p (.pointer (some ⟨k6, 0, none⟩)) rfl (fun _ => by kernel_rfl) ?_
                  refine sq_call #[.pointer (some ⟨k6, 0, none⟩)] [5, 5] rfl (rlist_spec k6 vp lp (Nat.le_trans (Nat.le_succ_of_le hlp) (by omega)) hL0.ok) (fun _ => by kernel_rfl) h ?_; rintro v57 L_ w ⟨_, R58, hR59, rfl, rfl⟩ h
                  have hRe := hL0.list hT0.1 hp54 ho55 hR59
                  subst hRe
                  refine sq_call #[v56, v57] [3, 0] rfl (sameLocks_spec v56 v57 (l53.map lkT) (map_len hp54 hT0)) (fun _ => by kernel_rfl) h ?_; rintro v_ L_ w ⟨rfl, rfl⟩ h
                  refine sq_p (.bool false) rfl (fun _ => by kernel_rfl) ?_
                  refine lnil ?_
                  refine thn_n ?_
                  refine c_false (by kernel_rfl) ?_
                  refine c_skip ?_
                  refine blk_n (thn_n ?_)
                  refine c_reg ?_
                  refine sq_p (.int .i64 (n0 : Int)) rfl (fun _ => by kernel_rfl) ?_
                  refine sq_q rfl h (g_eq (v := .int .i64 (IntKind.i64.wrap ((n0 : Int) + 1))) (v' := .int .i64 ((n0 + 1 : Nat) : Int)) (g_pure fun _ => by kernel_rfl) (wr (by omega))) ?_
                  refine sq_p (.int .i64 ((n0 + 1 : Nat) : Int)) rfl (fun _ => by kernel_rfl) ?_
                  refine lnil ?_
                  have hQ60 : ((n0 + 1) ≤ acts.length ∧ TabOk lt ∧ Tells lt lp ∧ lp.length ≤ (n0 + 1)) ∧ (acts.length - (n0 + 1)) < (acts.length - n0) := ⟨⟨by omega, hT0, hL0, (Nat.le_succ_of_le hlp)⟩, by omega⟩
                  refine loop_end (fun j => ⟨(n0 + 1), lt, vt, lp, vp, j⟩) hQ60 (by kernel_rfl) [3, 4, 2, 2, 5, 6, 2] (by kernel_rfl) h
              exact ad_nil
            exact ad_nil
          · skip
            rw [hq13] at hq25; cases hq25
          · skip
            rw [hq13] at hq29; cases hq29
          · skip
            rw [hq13] at hq29; cases hq29
        · skip
          refine sq_p (.tuple #[.agg #[.int .i64 x15.1.1, .int .i64 x15.1.2, .int .i64 x15.2.1, .int .i64 x15.2.2.1, .int .i64 (if x15.2.2.2.1 = 1152921504606846976 then 0 else x15.2.2.2.1 - x15.2.2.1), .bool x15.2.2.2.2], errV ad 11]) rfl (fun _ => by kernel_rfl) ?_
          refine sq_p (.agg #[.int .i64 x15.1.1, .int .i64 x15.1.2, .int .i64 x15.2.1, .int .i64 x15.2.2.1, .int .i64 (if x15.2.2.2.1 = 1152921504606846976 then 0 else x15.2.2.2.1 - x15.2.2.1), .bool x15.2.2.2.2]) rfl (fun _ => by kernel_rfl) ?_
          refine sq_p (errV ad 11) rfl (fun _ => by kernel_rfl) ?_
          refine sq_new rfl (fun b => .pointer (some ⟨b, 0, none⟩)) [.int .i64 0, .int .i64 0, .int .i64 0, .int .i64 0, .int .i64 0, .bool false] 67 (fun _ => by kernel_rfl) h ?_; intro k61 w h
          refine sq_st rfl 0 [.int .i64 x15.1.1, .int .i64 x15.1.2, .int .i64 x15.2.1, .int .i64 x15.2.2.1, .int .i64 (if x15.2.2.2.1 = 1152921504606846976 then 0 else x15.2.2.2.1 - x15.2.2.1), .bool x15.2.2.2.2] [.int .i64 x15.1.1, .int .i64 x15.1.2, .int .i64 x15.2.1, .int .i64 x15.2.2.1, .int .i64 (if x15.2.2.2.1 = 1152921504606846976 then 0 else x15.2.2.2.1 - x15.2.2.1), .bool x15.2.2.2.2] h 0 rfl (by kernel_rfl) ?_; intro w h
          refine sq_p (errV ad 11) rfl (fun _ => by kernel_rfl) ?_
          refine lnil ?_
          refine thn_n ?_
          refine c_seq ?_
          refine c_reg ?_
          refine sq_p (.pointer (some ⟨k6, 0, none⟩)) rfl (fun _ => by kernel_rfl) ?_
          refine sq_p (.pointer (some ⟨k11, 1, none⟩)) rfl (fun _ => by kernel_rfl) ?_
          refine sq_q rfl h (g_ld 1 [.int .i64 x9.2.1.1, .int .i64 x9.2.1.2.1] (.agg #[.int .i64 x9.2.1.1, .int .i64 x9.2.1.2.1]) (by kernel_rfl) 4 rfl) ?_
          refine sq_p (.pointer (some ⟨k11, 3, none⟩)) rfl (fun _ => by kernel_rfl) ?_
          refine sq_q rfl h (g_ld 3 [.int .i64 x9.2.2.1] (.int .i64 x9.2.2.1) (by kernel_rfl) 4 rfl) ?_
          refine sq_p (.pointer (some ⟨k11, 4, none⟩)) rfl (fun _ => by kernel_rfl) ?_
          refine sq_q rfl h (g_ld 4 [.int .i64 x9.2.2.2.1.1, .int .i64 x9.2.2.2.1.2.1] (.agg #[.int .i64 x9.2.2.2.1.1, .int .i64 x9.2.2.2.1.2.1]) (by kernel_rfl) 4 rfl) ?_
          refine sq_p (.pointer (some ⟨k11, 6, none⟩)) rfl (fun _ => by kernel_rfl) ?_
          refine sq_q rfl h (g_ld 6 [.bool x9.2.2.2.2.1] (.bool x9.2.2.2.2.1) (by kernel_rfl) 4 rfl) ?_
          refine sq_call #[.pointer (some ⟨k6, 0, none⟩), .agg #[.int .i64 x9.2.1.1, .int .i64 x9.2.1.2.1], .int .i64 x9.2.2.1, .agg #[.int .i64 x9.2.2.2.1.1, .int .i64 x9.2.2.2.1.2.1], .bool x9.2.2.2.2.1] [6, 5] rfl (rlock_spec k6 vp lp (by omega) hL0.ok x9.2.1.1 x9.2.1.2.1 x9.2.2.1 x9.2.2.2.1.1 x9.2.2.2.1.2.1 x9.2.2.2.2.1) (fun _ => by kernel_rfl) h ?_; rintro v_ L_ w (⟨hq62, rfl, rfl⟩ | ⟨R63, x64, hq65, hq66, hq67, rfl, rfl⟩ | ⟨R68, hq69, hq70, hq71, R72, hq73, ⟨hq74, rfl, rfl⟩ | ⟨hq74, v75, rfl, rfl⟩⟩) h
          · skip
            rw [hq13] at hq62; cases hq62
          · skip
            have hxe := hL0.found hT0.1 hq66 (eOk_rng hq13) hq14
            rw [hq67] at hxe
            obtain rfl := Option.some.inj hxe
            refine sq_p (.tuple #[.agg #[.int .i64 x15.1.1, .int .i64 x15.1.2, .int .i64 x15.2.1, .int .i64 x15.2.2.1, .int .i64 (if x15.2.2.2.1 = 1152921504606846976 then 0 else x15.2.2.2.1 - x15.2.2.1), .bool x15.2.2.2.2], .int .i64 11]) rfl (fun _ => by kernel_rfl) ?_
            refine sq_p (.agg #[.int .i64 x15.1.1, .int .i64 x15.1.2, .int .i64 x15.2.1, .int .i64 x15.2.2.1, .int .i64 (if x15.2.2.2.1 = 1152921504606846976 then 0 else x15.2.2.2.1 - x15.2.2.1), .bool x15.2.2.2.2]) rfl (fun _ => by kernel_rfl) ?_
            refine sq_p (.int .i64 11) rfl (fun _ => by kernel_rfl) ?_
            refine sq_new rfl (fun b => .pointer (some ⟨b, 0, none⟩)) [.int .i64 0, .int .i64 0, .int .i64 0, .int .i64 0, .int .i64 0, .bool false] 70 (fun _ => by kernel_rfl) h ?_; intro k76 w h
            refine sq_st rfl 0 [.int .i64 x15.1.1, .int .i64 x15.1.2, .int .i64 x15.2.1, .int .i64 x15.2.2.1, .int .i64 (if x15.2.2.2.1 = 1152921504606846976 then 0 else x15.2.2.2.1 - x15.2.2.1), .bool x15.2.2.2.2] [.int .i64 x15.1.1, .int .i64 x15.1.2, .int .i64 x15.2.1, .int .i64 x15.2.2.1, .int .i64 (if x15.2.2.2.1 = 1152921504606846976 then 0 else x15.2.2.2.1 - x15.2.2.1), .bool x15.2.2.2.2] h 0 rfl (by kernel_rfl) ?_; intro w h
            refine sq_p (.int .i64 11) rfl (fun _ => by kernel_rfl) ?_
            refine lnil ?_
            refine thn_n ?_
            refine c_seq ?_
            refine d_start 10 [0, 2] (by kernel_rfl) h fun w h => ?_
            refine d_take 0 2 [0, 2] rfl (v := errV ad 11) (by kernel_rfl) (qp_thn (qp_blk (qp_thn (qp_blk (qp_thn (qp_rnd (qp_blk (qp_thn qp_body)))))))) (yq (by kernel_rfl) (g_pure (v := errV ad 11) fun _ => by kernel_rfl)) h (by kernel_rfl) ?_
            refine d_take 1 1 [0, 2] rfl (v := .int .i64 11) (by kernel_rfl) (qp_thn (qp_blk (qp_thn (qp_blk (qp_thn (qp_rnd (qp_blk (qp_thn qp_body)))))))) (yq (by kernel_rfl) (g_pure (v := .int .i64 11) fun _ => by kernel_rfl)) h (by kernel_rfl) ?_
            refine d_ready [2] (by kernel_rfl) rfl ?_
            refine ad_call #[errV ad 11, .int .i64 11] [9] [1, 3] rfl (by kernel_rfl) (coded2_spec ad 11 11 (by decide) (by decide)) (fun _ => by kernel_rfl) h ?_ ?_
            · skip
              rintro v_ L_ w ⟨rfl, rfl⟩ h
              refine ⟨by kernel_rfl, ?_⟩
              refine d_take 3 7 [1, 3] rfl (v := .bool false) (by kernel_rfl) (qp_thn (qp_blk (qp_thn (qp_blk (qp_thn (qp_rnd (qp_blk (qp_thn qp_body)))))))) (yq (by kernel_rfl) (g_pure (v := .bool false) fun _ => by kernel_rfl)) h (by kernel_rfl) ?_
              refine d_take 4 15 [1, 3] rfl (v := .bool false) (by kernel_rfl) (qp_thn (qp_blk (qp_thn (qp_blk (qp_thn (qp_rnd (qp_blk (qp_thn qp_body)))))))) (yq (by kernel_rfl) (g_pure (v := .bool false) fun _ => by kernel_rfl)) h (by kernel_rfl) ?_
              refine d_take 5 159 [1, 3] rfl (v := .agg #[.int .i64 x15.1.1, .int .i64 x15.1.2, .int .i64 x15.2.1, .int .i64 x15.2.2.1, .int .i64 (if x15.2.2.2.1 = 1152921504606846976 then 0 else x15.2.2.2.1 - x15.2.2.1), .bool x15.2.2.2.2]) (by kernel_rfl) (qp_thn (qp_blk (qp_thn (qp_blk (qp_thn (qp_rnd (qp_blk (qp_thn qp_body)))))))) (yq (by kernel_rfl) (g_ld 0 [.int .i64 x15.1.1, .int .i64 x15.1.2, .int .i64 x15.2.1, .int .i64 x15.2.2.1, .int .i64 (if x15.2.2.2.1 = 1152921504606846976 then 0 else x15.2.2.2.1 - x15.2.2.1), .bool x15.2.2.2.2] (.agg #[.int .i64 x15.1.1, .int .i64 x15.1.2, .int .i64 x15.2.1, .int .i64 x15.2.2.1, .int .i64 (if x15.2.2.2.1 = 1152921504606846976 then 0 else x15.2.2.2.1 - x15.2.2.1), .bool x15.2.2.2.2]) (by kernel_rfl) 1 rfl)) h (by kernel_rfl) ?_
              refine d_take 7 127 [1, 3] rfl (v := .agg #[.int .i64 x15.1.1, .int .i64 x15.1.2, .int .i64 x15.2.1, .int .i64 x15.2.2.1, .int .i64 (if x15.2.2.2.1 = 1152921504606846976 then 0 else x15.2.2.2.1 - x15.2.2.1), .bool x15.2.2.2.2]) (by kernel_rfl) (qp_thn (qp_blk (qp_thn (qp_blk (qp_thn (qp_rnd (qp_blk (qp_thn qp_body)))))))) (yq (by kernel_rfl) (g_ld 0 [.int .i64 x15.1.1, .int .i64 x15.1.2, .int .i64 x15.2.1, .int .i64 x15.2.2.1, .int .i64 (if x15.2.2.2.1 = 1152921504606846976 then 0 else x15.2.2.2.1 - x15.2.2.1), .bool x15.2.2.2.2] (.agg #[.int .i64 x15.1.1, .int .i64 x15.1.2, .int .i64 x15.2.1, .int .i64 x15.2.2.1, .int .i64 (if x15.2.2.2.1 = 1152921504606846976 then 0 else x15.2.2.2.1 - x15.2.2.1), .bool x15.2.2.2.2]) (by kernel_rfl) 0 rfl)) h (by kernel_rfl) ?_
              refine d_ready [6] (by kernel_rfl) rfl ?_
              refine ad_call #[.agg #[.int .i64 x15.1.1, .int .i64 x15.1.2, .int .i64 x15.2.1, .int .i64 x15.2.2.1, .int .i64 (if x15.2.2.2.1 = 1152921504606846976 then 0 else x15.2.2.2.1 - x15.2.2.1), .bool x15.2.2.2.2]] [] [1, 3] rfl (by kernel_rfl) (lockOf_spec x15.1.1 x15.1.2 x15.2.1 x15.2.2.1 (if x15.2.2.2.1 = 1152921504606846976 then 0 else x15.2.2.2.1 - x15.2.2.1) x15.2.2.2.2) (fun _ => by kernel_rfl) h ?_ ?_
              · skip
                rintro v_ L_ w ⟨rfl, rfl⟩ h
                refine ⟨by kernel_rfl, ?_⟩
                obtain ⟨b77, hb77⟩ : ∃ b_ : Bool, b_ = (!((decide (x15.1.1 = x15.1.1)) && ((decide (x15.1.2 = x15.1.2)) && ((decide (x15.2.1 = x15.2.1)) && ((decide (x15.2.2.1 = x15.2.2.1)) && ((decide ((if x15.2.2.2.1 = 1152921504606846976 then 0 else x15.2.2.2.1 - x15.2.2.1) = (if x15.2.2.2.1 = 1152921504606846976 then 0 else x15.2.2.2.1 - x15.2.2.1))) && (x15.2.2.2.2 == x15.2.2.2.2))))))) := ⟨_, rfl⟩
                refine d_take 8 255 [1, 3] rfl (v := .bool b77) (by kernel_rfl) (qp_thn (qp_blk (qp_thn (qp_blk (qp_thn (qp_rnd (qp_blk (qp_thn qp_body)))))))) (yq (by kernel_rfl) (by subst hb77; exact g_neL6 (by kernel_rfl))) h (by kernel_rfl) ?_
                refine d_take 9 511 [1, 3] rfl (v := .bool b77) (by kernel_rfl) (qp_thn (qp_blk (qp_thn (qp_blk (qp_thn (qp_rnd (qp_blk (qp_thn qp_body)))))))) (yq (by kernel_rfl) (g_pure (v := .bool b77) fun _ => by kernel_rfl)) h (by kernel_rfl) ?_
                refine d_done (by kernel_rfl) ?_
                refine thn_n ?_
                refine c_cond (b77) (by kernel_rfl) (fun hc78 => ?_) (fun hc78 => ?_)
                · skip
                  have q79 : (!((decide (x15.1.1 = x15.1.1)) && ((decide (x15.1.2 = x15.1.2)) && ((decide (x15.2.1 = x15.2.1)) && ((decide (x15.2.2.1 = x15.2.2.1)) && ((decide ((if x15.2.2.2.1 = 1152921504606846976 then 0 else x15.2.2.2.1 - x15.2.2.1) = (if x15.2.2.2.1 = 1152921504606846976 then 0 else x15.2.2.2.1 - x15.2.2.1))) && (x15.2.2.2.2 == x15.2.2.2.2))))))) = true := by rw [← hb77]; exact hc78
                  have q80 : ((decide (x15.1.1 = x15.1.1)) && ((decide (x15.1.2 = x15.1.2)) && ((decide (x15.2.1 = x15.2.1)) && ((decide (x15.2.2.1 = x15.2.2.1)) && ((decide ((if x15.2.2.2.1 = 1152921504606846976 then 0 else x15.2.2.2.1 - x15.2.2.1) = (if x15.2.2.2.1 = 1152921504606846976 then 0 else x15.2.2.2.1 - x15.2.2.1))) && (x15.2.2.2.2 == x15.2.2.2.2)))))) = false := by revert q79; cases ((decide (x15.1.1 = x15.1.1)) && ((decide (x15.1.2 = x15.1.2)) && ((decide (x15.2.1 = x15.2.1)) && ((decide (x15.2.2.1 = x15.2.2.1)) && ((decide ((if x15.2.2.2.1 = 1152921504606846976 then 0 else x15.2.2.2.1 - x15.2.2.1) = (if x15.2.2.2.1 = 1152921504606846976 then 0 else x15.2.2.2.1 - x15.2.2.1))) && (x15.2.2.2.2 == x15.2.2.2.2)))))) <;> simp
                  exfalso; revert hc78; subst hb77; simp [lkT]
                · skip
                  have q81 : (!((decide (x15.1.1 = x15.1.1)) && ((decide (x15.1.2 = x15.1.2)) && ((decide (x15.2.1 = x15.2.1)) && ((decide (x15.2.2.1 = x15.2.2.1)) && ((decide ((if x15.2.2.2.1 = 1152921504606846976 then 0 else x15.2.2.2.1 - x15.2.2.1) = (if x15.2.2.2.1 = 1152921504606846976 then 0 else x15.2.2.2.1 - x15.2.2.1))) && (x15.2.2.2.2 == x15.2.2.2.2))))))) = false := by rw [← hb77]; exact hc78
                  have q82 : ((decide (x15.1.1 = x15.1.1)) && ((decide (x15.1.2 = x15.1.2)) && ((decide (x15.2.1 = x15.2.1)) && ((decide (x15.2.2.1 = x15.2.2.1)) && ((decide ((if x15.2.2.2.1 = 1152921504606846976 then 0 else x15.2.2.2.1 - x15.2.2.1) = (if x15.2.2.2.1 = 1152921504606846976 then 0 else x15.2.2.2.1 - x15.2.2.1))) && (x15.2.2.2.2 == x15.2.2.2.2)))))) = true := by revert q81; cases ((decide (x15.1.1 = x15.1.1)) && ((decide (x15.1.2 = x15.1.2)) && ((decide (x15.2.1 = x15.2.1)) && ((decide (x15.2.2.1 = x15.2.2.1)) && ((decide ((if x15.2.2.2.1 = 1152921504606846976 then 0 else x15.2.2.2.1 - x15.2.2.1) = (if x15.2.2.2.1 = 1152921504606846976 then 0 else x15.2.2.2.1 - x15.2.2.1))) && (x15.2.2.2.2 == x15.2.2.2.2)))))) <;> simp
                  have q83 : (decide (x15.1.1 = x15.1.1)) = true := by revert q82; cases (decide (x15.1.1 = x15.1.1)) <;> simp
                  have q84 : ((decide (x15.1.2 = x15.1.2)) && ((decide (x15.2.1 = x15.2.1)) && ((decide (x15.2.2.1 = x15.2.2.1)) && ((decide ((if x15.2.2.2.1 = 1152921504606846976 then 0 else x15.2.2.2.1 - x15.2.2.1) = (if x15.2.2.2.1 = 1152921504606846976 then 0 else x15.2.2.2.1 - x15.2.2.1))) && (x15.2.2.2.2 == x15.2.2.2.2))))) = true := by revert q82; cases (decide (x15.1.1 = x15.1.1)) <;> cases ((decide (x15.1.2 = x15.1.2)) && ((decide (x15.2.1 = x15.2.1)) && ((decide (x15.2.2.1 = x15.2.2.1)) && ((decide ((if x15.2.2.2.1 = 1152921504606846976 then 0 else x15.2.2.2.1 - x15.2.2.1) = (if x15.2.2.2.1 = 1152921504606846976 then 0 else x15.2.2.2.1 - x15.2.2.1))) && (x15.2.2.2.2 == x15.2.2.2.2))))) <;> simp
                  have q83 := of_decide_eq_true q83
                  have q85 : (decide (x15.1.2 = x15.1.2)) = true := by revert q84; cases (decide (x15.1.2 = x15.1.2)) <;> simp
                  have q86 : ((decide (x15.2.1 = x15.2.1)) && ((decide (x15.2.2.1 = x15.2.2.1)) && ((decide ((if x15.2.2.2.1 = 1152921504606846976 then 0 else x15.2.2.2.1 - x15.2.2.1) = (if x15.2.2.2.1 = 1152921504606846976 then 0 else x15.2.2.2.1 - x15.2.2.1))) && (x15.2.2.2.2 == x15.2.2.2.2)))) = true := by revert q84; cases (decide (x15.1.2 = x15.1.2)) <;> cases ((decide (x15.2.1 = x15.2.1)) && ((decide (x15.2.2.1 = x15.2.2.1)) && ((decide ((if x15.2.2.2.1 = 1152921504606846976 then 0 else x15.2.2.2.1 - x15.2.2.1) = (if x15.2.2.2.1 = 1152921504606846976 then 0 else x15.2.2.2.1 - x15.2.2.1))) && (x15.2.2.2.2 == x15.2.2.2.2)))) <;> simp
                  have q85 := of_decide_eq_true q85
                  have q87 : (decide (x15.2.1 = x15.2.1)) = true := by revert q86; cases (decide (x15.2.1 = x15.2.1)) <;> simp
                  have q88 : ((decide (x15.2.2.1 = x15.2.2.1)) && ((decide ((if x15.2.2.2.1 = 1152921504606846976 then 0 else x15.2.2.2.1 - x15.2.2.1) = (if x15.2.2.2.1 = 1152921504606846976 then 0 else x15.2.2.2.1 - x15.2.2.1))) && (x15.2.2.2.2 == x15.2.2.2.2))) = true := by revert q86; cases (decide (x15.2.1 = x15.2.1)) <;> cases ((decide (x15.2.2.1 = x15.2.2.1)) && ((decide ((if x15.2.2.2.1 = 1152921504606846976 then 0 else x15.2.2.2.1 - x15.2.2.1) = (if x15.2.2.2.1 = 1152921504606846976 then 0 else x15.2.2.2.1 - x15.2.2.1))) && (x15.2.2.2.2 == x15.2.2.2.2))) <;> simp
                  have q87 := of_decide_eq_true q87
                  have q89 : (decide (x15.2.2.1 = x15.2.2.1)) = true := by revert q88; cases (decide (x15.2.2.1 = x15.2.2.1)) <;> simp
                  have q90 : ((decide ((if x15.2.2.2.1 = 1152921504606846976 then 0 else x15.2.2.2.1 - x15.2.2.1) = (if x15.2.2.2.1 = 1152921504606846976 then 0 else x15.2.2.2.1 - x15.2.2.1))) && (x15.2.2.2.2 == x15.2.2.2.2)) = true := by revert q88; cases (decide (x15.2.2.1 = x15.2.2.1)) <;> cases ((decide ((if x15.2.2.2.1 = 1152921504606846976 then 0 else x15.2.2.2.1 - x15.2.2.1) = (if x15.2.2.2.1 = 1152921504606846976 then 0 else x15.2.2.2.1 - x15.2.2.1))) && (x15.2.2.2.2 == x15.2.2.2.2)) <;> simp
                  have q89 := of_decide_eq_true q89
                  have q91 : (decide ((if x15.2.2.2.1 = 1152921504606846976 then 0 else x15.2.2.2.1 - x15.2.2.1) = (if x15.2.2.2.1 = 1152921504606846976 then 0 else x15.2.2.2.1 - x15.2.2.1))) = true := by revert q90; cases (decide ((if x15.2.2.2.1 = 1152921504606846976 then 0 else x15.2.2.2.1 - x15.2.2.1) = (if x15.2.2.2.1 = 1152921504606846976 then 0 else x15.2.2.2.1 - x15.2.2.1))) <;> simp
                  have q92 : (x15.2.2.2.2 == x15.2.2.2.2) = true := by revert q90; cases (decide ((if x15.2.2.2.1 = 1152921504606846976 then 0 else x15.2.2.2.1 - x15.2.2.1) = (if x15.2.2.2.1 = 1152921504606846976 then 0 else x15.2.2.2.1 - x15.2.2.1))) <;> cases (x15.2.2.2.2 == x15.2.2.2.2) <;> simp
                  have q91 := of_decide_eq_true q91
                  have q92 := eq_of_beq q92
                  refine c_skip ?_
                  refine blk_n (thn_n ?_)
                  refine c_seq ?_
                  refine c_reg ?_
                  refine sq_p (.pointer (some ⟨k5, 0, none⟩)) rfl (fun _ => by kernel_rfl) ?_
                  refine sq_call #[.pointer (some ⟨k5, 0, none⟩)] [5, 5] rfl (list_spec k5 vt lt hT0.1.bnd hT0.small) (fun _ => by kernel_rfl) h ?_; rintro v96 L_ w ⟨_, l93, ⟨hp94, ho95⟩, rfl, rfl⟩ h
                  refine sq_p (.pointer (some ⟨k6, 0, none⟩)) rfl (fun _ => by kernel_rfl) ?_
                  refine sq_call #[.pointer (some ⟨k6, 0, none⟩)] [5, 5] rfl (rlist_spec k6 vp lp (Nat.le_trans (Nat.le_succ_of_le hlp) (by omega)) hL0.ok) (fun _ => by kernel_rfl) h ?_; rintro v97 L_ w ⟨_, R98, hR99, rfl, rfl⟩ h
                  have hRe := hL0.list hT0.1 hp94 ho95 hR99
                  subst hRe
                  refine sq_call #[v96, v97] [3, 0] rfl (sameLocks_spec v96 v97 (l93.map lkT) (map_len hp94 hT0)) (fun _ => by kernel_rfl) h ?_; rintro v_ L_ w ⟨rfl, rfl⟩ h
                  refine sq_p (.bool false) rfl (fun _ => by kernel_rfl) ?_
                  refine lnil ?_
                  refine thn_n ?_
                  refine c_false (by kernel_rfl) ?_
                  refine c_skip ?_
                  refine blk_n (thn_n ?_)
                  refine c_reg ?_
                  refine sq_p (.int .i64 (n0 : Int)) rfl (fun _ => by kernel_rfl) ?_
                  refine sq_q rfl h (g_eq (v := .int .i64 (IntKind.i64.wrap ((n0 : Int) + 1))) (v' := .int .i64 ((n0 + 1 : Nat) : Int)) (g_pure fun _ => by kernel_rfl) (wr (by omega))) ?_
                  refine sq_p (.int .i64 ((n0 + 1 : Nat) : Int)) rfl (fun _ => by kernel_rfl) ?_
                  refine lnil ?_
                  have hQ100 : ((n0 + 1) ≤ acts.length ∧ TabOk lt ∧ Tells lt lp ∧ lp.length ≤ (n0 + 1)) ∧ (acts.length - (n0 + 1)) < (acts.length - n0) := ⟨⟨by omega, hT0, hL0, (Nat.le_succ_of_le hlp)⟩, by omega⟩
                  refine loop_end (fun j => ⟨(n0 + 1), lt, vt, lp, vp, j⟩) hQ100 (by kernel_rfl) [3, 4, 2, 2, 5, 6, 2] (by kernel_rfl) h
              exact ad_nil
            exact ad_nil
          · skip
            have hxe := hL0.found hT0.1 hq70 (eOk_rng hq13) hq14
            rw [hq71] at hxe; cases hxe
          · skip
            have hxe := hL0.found hT0.1 hq70 (eOk_rng hq13) hq14
            rw [hq71] at hxe; cases hxe
        · skip
          have hLTl16 := lock_tells hT0 hL0 hq13 hq14 hp17 ho18
          refine sq_p (.tuple #[.agg #[.int .i64 0, .int .i64 0, .int .i64 0, .int .i64 0, .int .i64 0, .bool false], errV ad 9]) rfl (fun _ => by kernel_rfl) ?_
          refine sq_p (.agg #[.int .i64 0, .int .i64 0, .int .i64 0, .int .i64 0, .int .i64 0, .bool false]) rfl (fun _ => by kernel_rfl) ?_
          refine sq_p (errV ad 9) rfl (fun _ => by kernel_rfl) ?_
          refine sq_new rfl (fun b => .pointer (some ⟨b, 0, none⟩)) [.int .i64 0, .int .i64 0, .int .i64 0, .int .i64 0, .int .i64 0, .bool false] 67 (fun _ => by kernel_rfl) h ?_; intro k101 w h
          refine sq_st rfl 0 [.int .i64 0, .int .i64 0, .int .i64 0, .int .i64 0, .int .i64 0, .bool false] [.int .i64 0, .int .i64 0, .int .i64 0, .int .i64 0, .int .i64 0, .bool false] h 0 rfl (by kernel_rfl) ?_; intro w h
          refine sq_p (errV ad 9) rfl (fun _ => by kernel_rfl) ?_
          refine lnil ?_
          refine thn_n ?_
          refine c_seq ?_
          refine c_reg ?_
          refine sq_p (.pointer (some ⟨k6, 0, none⟩)) rfl (fun _ => by kernel_rfl) ?_
          refine sq_p (.pointer (some ⟨k11, 1, none⟩)) rfl (fun _ => by kernel_rfl) ?_
          refine sq_q rfl h (g_ld 1 [.int .i64 x9.2.1.1, .int .i64 x9.2.1.2.1] (.agg #[.int .i64 x9.2.1.1, .int .i64 x9.2.1.2.1]) (by kernel_rfl) 4 rfl) ?_
          refine sq_p (.pointer (some ⟨k11, 3, none⟩)) rfl (fun _ => by kernel_rfl) ?_
          refine sq_q rfl h (g_ld 3 [.int .i64 x9.2.2.1] (.int .i64 x9.2.2.1) (by kernel_rfl) 4 rfl) ?_
          refine sq_p (.pointer (some ⟨k11, 4, none⟩)) rfl (fun _ => by kernel_rfl) ?_
          refine sq_q rfl h (g_ld 4 [.int .i64 x9.2.2.2.1.1, .int .i64 x9.2.2.2.1.2.1] (.agg #[.int .i64 x9.2.2.2.1.1, .int .i64 x9.2.2.2.1.2.1]) (by kernel_rfl) 4 rfl) ?_
          refine sq_p (.pointer (some ⟨k11, 6, none⟩)) rfl (fun _ => by kernel_rfl) ?_
          refine sq_q rfl h (g_ld 6 [.bool x9.2.2.2.2.1] (.bool x9.2.2.2.2.1) (by kernel_rfl) 4 rfl) ?_
          refine sq_call #[.pointer (some ⟨k6, 0, none⟩), .agg #[.int .i64 x9.2.1.1, .int .i64 x9.2.1.2.1], .int .i64 x9.2.2.1, .agg #[.int .i64 x9.2.2.2.1.1, .int .i64 x9.2.2.2.1.2.1], .bool x9.2.2.2.2.1] [6, 5] rfl (rlock_spec k6 vp lp (by omega) hL0.ok x9.2.1.1 x9.2.1.2.1 x9.2.2.1 x9.2.2.2.1.1 x9.2.2.2.1.2.1 x9.2.2.2.2.1) (fun _ => by kernel_rfl) h ?_; rintro v_ L_ w (⟨hq102, rfl, rfl⟩ | ⟨R103, x104, hq105, hq106, hq107, rfl, rfl⟩ | ⟨R108, hq109, hq110, hq111, R112, hq113, ⟨hq114, rfl, rfl⟩ | ⟨hq114, v115, rfl, rfl⟩⟩) h
          · skip
            rw [hq13] at hq102; cases hq102
          · skip
            have hxe := hL0.notfound hT0.1 hq106 (eOk_rng hq13) hq14
            rw [hq107] at hxe; cases hxe
          · skip
            refine sq_p (.tuple #[.agg #[.int .i64 0, .int .i64 0, .int .i64 0, .int .i64 0, .int .i64 0, .bool false], .int .i64 9]) rfl (fun _ => by kernel_rfl) ?_
            refine sq_p (.agg #[.int .i64 0, .int .i64 0, .int .i64 0, .int .i64 0, .int .i64 0, .bool false]) rfl (fun _ => by kernel_rfl) ?_
            refine sq_p (.int .i64 9) rfl (fun _ => by kernel_rfl) ?_
            refine sq_new rfl (fun b => .pointer (some ⟨b, 0, none⟩)) [.int .i64 0, .int .i64 0, .int .i64 0, .int .i64 0, .int .i64 0, .bool false] 70 (fun _ => by kernel_rfl) h ?_; intro k116 w h
            refine sq_st rfl 0 [.int .i64 0, .int .i64 0, .int .i64 0, .int .i64 0, .int .i64 0, .bool false] [.int .i64 0, .int .i64 0, .int .i64 0, .int .i64 0, .int .i64 0, .bool false] h 0 rfl (by kernel_rfl) ?_; intro w h
            refine sq_p (.int .i64 9) rfl (fun _ => by kernel_rfl) ?_
            refine lnil ?_
            refine thn_n ?_
            refine c_seq ?_
            refine d_start 10 [0, 2] (by kernel_rfl) h fun w h => ?_
            refine d_take 0 2 [0, 2] rfl (v := errV ad 9) (by kernel_rfl) (qp_thn (qp_blk (qp_thn (qp_blk (qp_thn (qp_rnd (qp_blk (qp_thn qp_body)))))))) (yq (by kernel_rfl) (g_pure (v := errV ad 9) fun _ => by kernel_rfl)) h (by kernel_rfl) ?_
            refine d_take 1 1 [0, 2] rfl (v := .int .i64 9) (by kernel_rfl) (qp_thn (qp_blk (qp_thn (qp_blk (qp_thn (qp_rnd (qp_blk (qp_thn qp_body)))))))) (yq (by kernel_rfl) (g_pure (v := .int .i64 9) fun _ => by kernel_rfl)) h (by kernel_rfl) ?_
            refine d_ready [2] (by kernel_rfl) rfl ?_
            refine ad_call #[errV ad 9, .int .i64 9] [9] [1, 3] rfl (by kernel_rfl) (coded2_spec ad 9 9 (by decide) (by decide)) (fun _ => by kernel_rfl) h ?_ ?_
            · skip
              rintro v_ L_ w ⟨rfl, rfl⟩ h
              refine ⟨by kernel_rfl, ?_⟩
              refine d_take 3 7 [1, 3] rfl (v := .bool false) (by kernel_rfl) (qp_thn (qp_blk (qp_thn (qp_blk (qp_thn (qp_rnd (qp_blk (qp_thn qp_body)))))))) (yq (by kernel_rfl) (g_pure (v := .bool false) fun _ => by kernel_rfl)) h (by kernel_rfl) ?_
              refine d_take 4 15 [1, 3] rfl (v := .bool false) (by kernel_rfl) (qp_thn (qp_blk (qp_thn (qp_blk (qp_thn (qp_rnd (qp_blk (qp_thn qp_body)))))))) (yq (by kernel_rfl) (g_pure (v := .bool false) fun _ => by kernel_rfl)) h (by kernel_rfl) ?_
              refine d_take 5 159 [1, 3] rfl (v := .agg #[.int .i64 0, .int .i64 0, .int .i64 0, .int .i64 0, .int .i64 0, .bool false]) (by kernel_rfl) (qp_thn (qp_blk (qp_thn (qp_blk (qp_thn (qp_rnd (qp_blk (qp_thn qp_body)))))))) (yq (by kernel_rfl) (g_ld 0 [.int .i64 0, .int .i64 0, .int .i64 0, .int .i64 0, .int .i64 0, .bool false] (.agg #[.int .i64 0, .int .i64 0, .int .i64 0, .int .i64 0, .int .i64 0, .bool false]) (by kernel_rfl) 1 rfl)) h (by kernel_rfl) ?_
              refine d_take 7 127 [1, 3] rfl (v := .agg #[.int .i64 0, .int .i64 0, .int .i64 0, .int .i64 0, .int .i64 0, .bool false]) (by kernel_rfl) (qp_thn (qp_blk (qp_thn (qp_blk (qp_thn (qp_rnd (qp_blk (qp_thn qp_body)))))))) (yq (by kernel_rfl) (g_ld 0 [.int .i64 0, .int .i64 0, .int .i64 0, .int .i64 0, .int .i64 0, .bool false] (.agg #[.int .i64 0, .int .i64 0, .int .i64 0, .int .i64 0, .int .i64 0, .bool false]) (by kernel_rfl) 0 rfl)) h (by kernel_rfl) ?_
              refine d_ready [6] (by kernel_rfl) rfl ?_
              refine ad_call #[.agg #[.int .i64 0, .int .i64 0, .int .i64 0, .int .i64 0, .int .i64 0, .bool false]] [] [1, 3] rfl (by kernel_rfl) (lockOf_spec 0 0 0 0 0 false) (fun _ => by kernel_rfl) h ?_ ?_
              · skip
                rintro v_ L_ w ⟨rfl, rfl⟩ h
                refine ⟨by kernel_rfl, ?_⟩
                obtain ⟨b117, hb117⟩ : ∃ b_ : Bool, b_ = (!((decide ((0 : Int) = 0)) && ((decide ((0 : Int) = 0)) && ((decide ((0 : Int) = 0)) && ((decide ((0 : Int) = 0)) && ((decide ((0 : Int) = 0)) && (false == false))))))) := ⟨_, rfl⟩
                refine d_take 8 255 [1, 3] rfl (v := .bool b117) (by kernel_rfl) (qp_thn (qp_blk (qp_thn (qp_blk (qp_thn (qp_rnd (qp_blk (qp_thn qp_body)))))))) (yq (by kernel_rfl) (by subst hb117; exact g_neL6 (by kernel_rfl))) h (by kernel_rfl) ?_
                refine d_take 9 511 [1, 3] rfl (v := .bool b117) (by kernel_rfl) (qp_thn (qp_blk (qp_thn (qp_blk (qp_thn (qp_rnd (qp_blk (qp_thn qp_body)))))))) (yq (by kernel_rfl) (g_pure (v := .bool b117) fun _ => by kernel_rfl)) h (by kernel_rfl) ?_
                refine d_done (by kernel_rfl) ?_
                refine thn_n ?_
                refine c_cond (b117) (by kernel_rfl) (fun hc118 => ?_) (fun hc118 => ?_)
                · skip
                  have q119 : (!((decide ((0 : Int) = 0)) && ((decide ((0 : Int) = 0)) && ((decide ((0 : Int) = 0)) && ((decide ((0 : Int) = 0)) && ((decide ((0 : Int) = 0)) && (false == false))))))) = true := by rw [← hb117]; exact hc118
                  have q120 : ((decide ((0 : Int) = 0)) && ((decide ((0 : Int) = 0)) && ((decide ((0 : Int) = 0)) && ((decide ((0 : Int) = 0)) && ((decide ((0 : Int) = 0)) && (false == false)))))) = false := by revert q119; cases ((decide ((0 : Int) = 0)) && ((decide ((0 : Int) = 0)) && ((decide ((0 : Int) = 0)) && ((decide ((0 : Int) = 0)) && ((decide ((0 : Int) = 0)) && (false == false)))))) <;> simp
                  exfalso; revert hc118; subst hb117; simp [lkT]
                · skip
                  have q121 : (!((decide ((0 : Int) = 0)) && ((decide ((0 : Int) = 0)) && ((decide ((0 : Int) = 0)) && ((decide ((0 : Int) = 0)) && ((decide ((0 : Int) = 0)) && (false == false))))))) = false := by rw [← hb117]; exact hc118
                  have q122 : ((decide ((0 : Int) = 0)) && ((decide ((0 : Int) = 0)) && ((decide ((0 : Int) = 0)) && ((decide ((0 : Int) = 0)) && ((decide ((0 : Int) = 0)) && (false == false)))))) = true := by revert q121; cases ((decide ((0 : Int) = 0)) && ((decide ((0 : Int) = 0)) && ((decide ((0 : Int) = 0)) && ((decide ((0 : Int) = 0)) && ((decide ((0 : Int) = 0)) && (false == false)))))) <;> simp
                  have q123 : (decide ((0 : Int) = 0)) = true := by revert q122; cases (decide ((0 : Int) = 0)) <;> simp
                  have q124 : ((decide ((0 : Int) = 0)) && ((decide ((0 : Int) = 0)) && ((decide ((0 : Int) = 0)) && ((decide ((0 : Int) = 0)) && (false == false))))) = true := by revert q122; cases (decide ((0 : Int) = 0)) <;> cases ((decide ((0 : Int) = 0)) && ((decide ((0 : Int) = 0)) && ((decide ((0 : Int) = 0)) && ((decide ((0 : Int) = 0)) && (false == false))))) <;> simp
                  have q123 := of_decide_eq_true q123
                  have q125 : (decide ((0 : Int) = 0)) = true := by revert q124; cases (decide ((0 : Int) = 0)) <;> simp
                  have q126 : ((decide ((0 : Int) = 0)) && ((decide ((0 : Int) = 0)) && ((decide ((0 : Int) = 0)) && (false == false)))) = true := by revert q124; cases (decide ((0 : Int) = 0)) <;> cases ((decide ((0 : Int) = 0)) && ((decide ((0 : Int) = 0)) && ((decide ((0 : Int) = 0)) && (false == false)))) <;> simp
                  have q125 := of_decide_eq_true q125
                  have q127 : (decide ((0 : Int) = 0)) = true := by revert q126; cases (decide ((0 : Int) = 0)) <;> simp
                  have q128 : ((decide ((0 : Int) = 0)) && ((decide ((0 : Int) = 0)) && (false == false))) = true := by revert q126; cases (decide ((0 : Int) = 0)) <;> cases ((decide ((0 : Int) = 0)) && ((decide ((0 : Int) = 0)) && (false == false))) <;> simp
                  have q127 := of_decide_eq_true q127
                  have q129 : (decide ((0 : Int) = 0)) = true := by revert q128; cases (decide ((0 : Int) = 0)) <;> simp
                  have q130 : ((decide ((0 : Int) = 0)) && (false == false)) = true := by revert q128; cases (decide ((0 : Int) = 0)) <;> cases ((decide ((0 : Int) = 0)) && (false == false)) <;> simp
                  have q129 := of_decide_eq_true q129
                  have q131 : (decide ((0 : Int) = 0)) = true := by revert q130; cases (decide ((0 : Int) = 0)) <;> simp
                  have q132 : (false == false) = true := by revert q130; cases (decide ((0 : Int) = 0)) <;> cases (false == false) <;> simp
                  have q131 := of_decide_eq_true q131
                  have q132 := eq_of_beq q132
                  refine c_skip ?_
                  refine blk_n (thn_n ?_)
                  refine c_seq ?_
                  refine c_reg ?_
                  refine sq_p (.pointer (some ⟨k5, 0, none⟩)) rfl (fun _ => by kernel_rfl) ?_
                  refine sq_call #[.pointer (some ⟨k5, 0, none⟩)] [5, 5] rfl (list_spec k5 vt lt hT0.1.bnd hT0.small) (fun _ => by kernel_rfl) h ?_; rintro v136 L_ w ⟨_, l133, ⟨hp134, ho135⟩, rfl, rfl⟩ h
                  refine sq_p (.pointer (some ⟨k6, 0, none⟩)) rfl (fun _ => by kernel_rfl) ?_
                  refine sq_call #[.pointer (some ⟨k6, 0, none⟩)] [5, 5] rfl (rlist_spec k6 vp lp (Nat.le_trans (Nat.le_succ_of_le hlp) (by omega)) hL0.ok) (fun _ => by kernel_rfl) h ?_; rintro v137 L_ w ⟨_, R138, hR139, rfl, rfl⟩ h
                  have hRe := hL0.list hT0.1 hp134 ho135 hR139
                  subst hRe
                  refine sq_call #[v136, v137] [3, 0] rfl (sameLocks_spec v136 v137 (l133.map lkT) (map_len hp134 hT0)) (fun _ => by kernel_rfl) h ?_; rintro v_ L_ w ⟨rfl, rfl⟩ h
                  refine sq_p (.bool false) rfl (fun _ => by kernel_rfl) ?_
                  refine lnil ?_
                  refine thn_n ?_
                  refine c_false (by kernel_rfl) ?_
                  refine c_skip ?_
                  refine blk_n (thn_n ?_)
                  refine c_reg ?_
                  refine sq_p (.int .i64 (n0 : Int)) rfl (fun _ => by kernel_rfl) ?_
                  refine sq_q rfl h (g_eq (v := .int .i64 (IntKind.i64.wrap ((n0 : Int) + 1))) (v' := .int .i64 ((n0 + 1 : Nat) : Int)) (g_pure fun _ => by kernel_rfl) (wr (by omega))) ?_
                  refine sq_p (.int .i64 ((n0 + 1 : Nat) : Int)) rfl (fun _ => by kernel_rfl) ?_
                  refine lnil ?_
                  have hQ140 : ((n0 + 1) ≤ acts.length ∧ TabOk lt ∧ Tells lt lp ∧ lp.length ≤ (n0 + 1)) ∧ (acts.length - (n0 + 1)) < (acts.length - n0) := ⟨⟨by omega, hT0, hL0, (Nat.le_succ_of_le hlp)⟩, by omega⟩
                  refine loop_end (fun j => ⟨(n0 + 1), lt, vt, lp, vp, j⟩) hQ140 (by kernel_rfl) [3, 4, 2, 2, 5, 6, 2] (by kernel_rfl) h
              exact ad_nil
            exact ad_nil
          · skip
            have hcn := hLTl16.2.len hLTl16.1 hq113
            exfalso; omega
        · skip
          have hTl16 : TabOk (joinL l16) := hT0.lock hq13 hq14 hp17 ho18 hq19
          have hLTl16 := lock_tells hT0 hL0 hq13 hq14 hp17 ho18
          refine sq_p (.tuple #[.agg #[.int .i64 0, .int .i64 0, .int .i64 0, .int .i64 0, .int .i64 0, .bool false], .nilIface]) rfl (fun _ => by kernel_rfl) ?_
          refine sq_p (.agg #[.int .i64 0, .int .i64 0, .int .i64 0, .int .i64 0, .int .i64 0, .bool false]) rfl (fun _ => by kernel_rfl) ?_
          refine sq_p (.nilIface) rfl (fun _ => by kernel_rfl) ?_
          refine sq_new rfl (fun b => .pointer (some ⟨b, 0, none⟩)) [.int .i64 0, .int .i64 0, .int .i64 0, .int .i64 0, .int .i64 0, .bool false] 67 (fun _ => by kernel_rfl) h ?_; intro k141 w h
          refine sq_st rfl 0 [.int .i64 0, .int .i64 0, .int .i64 0, .int .i64 0, .int .i64 0, .bool false] [.int .i64 0, .int .i64 0, .int .i64 0, .int .i64 0, .int .i64 0, .bool false] h 0 rfl (by kernel_rfl) ?_; intro w h
          refine sq_p (.nilIface) rfl (fun _ => by kernel_rfl) ?_
          refine lnil ?_
          refine thn_n ?_
          refine c_seq ?_
          refine c_reg ?_
          refine sq_p (.pointer (some ⟨k6, 0, none⟩)) rfl (fun _ => by kernel_rfl) ?_
          refine sq_p (.pointer (some ⟨k11, 1, none⟩)) rfl (fun _ => by kernel_rfl) ?_
          refine sq_q rfl h (g_ld 1 [.int .i64 x9.2.1.1, .int .i64 x9.2.1.2.1] (.agg #[.int .i64 x9.2.1.1, .int .i64 x9.2.1.2.1]) (by kernel_rfl) 4 rfl) ?_
          refine sq_p (.pointer (some ⟨k11, 3, none⟩)) rfl (fun _ => by kernel_rfl) ?_
          refine sq_q rfl h (g_ld 3 [.int .i64 x9.2.2.1] (.int .i64 x9.2.2.1) (by kernel_rfl) 4 rfl) ?_
          refine sq_p (.pointer (some ⟨k11, 4, none⟩)) rfl (fun _ => by kernel_rfl) ?_
          refine sq_q rfl h (g_ld 4 [.int .i64 x9.2.2.2.1.1, .int .i64 x9.2.2.2.1.2.1] (.agg #[.int .i64 x9.2.2.2.1.1, .int .i64 x9.2.2.2.1.2.1]) (by kernel_rfl) 4 rfl) ?_
          refine sq_p (.pointer (some ⟨k11, 6, none⟩)) rfl (fun _ => by kernel_rfl) ?_
          refine sq_q rfl h (g_ld 6 [.bool x9.2.2.2.2.1] (.bool x9.2.2.2.2.1) (by kernel_rfl) 4 rfl) ?_
          refine sq_call #[.pointer (some ⟨k6, 0, none⟩), .agg #[.int .i64 x9.2.1.1, .int .i64 x9.2.1.2.1], .int .i64 x9.2.2.1, .agg #[.int .i64 x9.2.2.2.1.1, .int .i64 x9.2.2.2.1.2.1], .bool x9.2.2.2.2.1] [6, 5] rfl (rlock_spec k6 vp lp (by omega) hL0.ok x9.2.1.1 x9.2.1.2.1 x9.2.2.1 x9.2.2.2.1.1 x9.2.2.2.1.2.1 x9.2.2.2.2.1) (fun _ => by kernel_rfl) h ?_; rintro v_ L_ w (⟨hq142, rfl, rfl⟩ | ⟨R143, x144, hq145, hq146, hq147, rfl, rfl⟩ | ⟨R148, hq149, hq150, hq151, R152, hq153, ⟨hq154, rfl, rfl⟩ | ⟨hq154, v155, rfl, rfl⟩⟩) h
          · skip
            rw [hq13] at hq142; cases hq142
          · skip
            have hxe := hL0.notfound hT0.1 hq146 (eOk_rng hq13) hq14
            rw [hq147] at hxe; cases hxe
          · skip
            have hcn := hLTl16.2.len hLTl16.1 hq153
            exfalso; omega
          · skip
            refine sq_p (.tuple #[.agg #[.int .i64 0, .int .i64 0, .int .i64 0, .int .i64 0, .int .i64 0, .bool false], .int .i64 0]) rfl (fun _ => by kernel_rfl) ?_
            refine sq_p (.agg #[.int .i64 0, .int .i64 0, .int .i64 0, .int .i64 0, .int .i64 0, .bool false]) rfl (fun _ => by kernel_rfl) ?_
            refine sq_p (.int .i64 0) rfl (fun _ => by kernel_rfl) ?_
            refine sq_new rfl (fun b => .pointer (some ⟨b, 0, none⟩)) [.int .i64 0, .int .i64 0, .int .i64 0, .int .i64 0, .int .i64 0, .bool false] 70 (fun _ => by kernel_rfl) h ?_; intro k156 w h
            refine sq_st rfl 0 [.int .i64 0, .int .i64 0, .int .i64 0, .int .i64 0, .int .i64 0, .bool false] [.int .i64 0, .int .i64 0, .int .i64 0, .int .i64 0, .int .i64 0, .bool false] h 0 rfl (by kernel_rfl) ?_; intro w h
            refine sq_p (.int .i64 0) rfl (fun _ => by kernel_rfl) ?_
            refine lnil ?_
            refine thn_n ?_
            refine c_seq ?_
            refine d_start 10 [0, 2] (by kernel_rfl) h fun w h => ?_
            refine d_take 0 2 [0, 2] rfl (v := .nilIface) (by kernel_rfl) (qp_thn (qp_blk (qp_thn (qp_blk (qp_thn (qp_rnd (qp_blk (qp_thn qp_body)))))))) (yq (by kernel_rfl) (g_pure (v := .nilIface) fun _ => by kernel_rfl)) h (by kernel_rfl) ?_
            refine d_take 1 1 [0, 2] rfl (v := .int .i64 0) (by kernel_rfl) (qp_thn (qp_blk (qp_thn (qp_blk (qp_thn (qp_rnd (qp_blk (qp_thn qp_body)))))))) (yq (by kernel_rfl) (g_pure (v := .int .i64 0) fun _ => by kernel_rfl)) h (by kernel_rfl) ?_
            refine d_ready [2] (by kernel_rfl) rfl ?_
            refine ad_call #[.nilIface, .int .i64 0] [9] [1, 3] rfl (by kernel_rfl) (coded2_spec ad 0 0 (by decide) (by decide)) (fun _ => by kernel_rfl) h ?_ ?_
            · skip
              rintro v_ L_ w ⟨rfl, rfl⟩ h
              refine ⟨by kernel_rfl, ?_⟩
              refine d_take 3 7 [1, 3] rfl (v := .bool false) (by kernel_rfl) (qp_thn (qp_blk (qp_thn (qp_blk (qp_thn (qp_rnd (qp_blk (qp_thn qp_body)))))))) (yq (by kernel_rfl) (g_pure (v := .bool false) fun _ => by kernel_rfl)) h (by kernel_rfl) ?_
              refine d_take 4 15 [1, 3] rfl (v := .bool false) (by kernel_rfl) (qp_thn (qp_blk (qp_thn (qp_blk (qp_thn (qp_rnd (qp_blk (qp_thn qp_body)))))))) (yq (by kernel_rfl) (g_pure (v := .bool false) fun _ => by kernel_rfl)) h (by kernel_rfl) ?_
              refine d_take 5 159 [1, 3] rfl (v := .agg #[.int .i64 0, .int .i64 0, .int .i64 0, .int .i64 0, .int .i64 0, .bool false]) (by kernel_rfl) (qp_thn (qp_blk (qp_thn (qp_blk (qp_thn (qp_rnd (qp_blk (qp_thn qp_body)))))))) (yq (by kernel_rfl) (g_ld 0 [.int .i64 0, .int .i64 0, .int .i64 0, .int .i64 0, .int .i64 0, .bool false] (.agg #[.int .i64 0, .int .i64 0, .int .i64 0, .int .i64 0, .int .i64 0, .bool false]) (by kernel_rfl) 1 rfl)) h (by kernel_rfl) ?_
              refine d_take 7 127 [1, 3] rfl (v := .agg #[.int .i64 0, .int .i64 0, .int .i64 0, .int .i64 0, .int .i64 0, .bool false]) (by kernel_rfl) (qp_thn (qp_blk (qp_thn (qp_blk (qp_thn (qp_rnd (qp_blk (qp_thn qp_body)))))))) (yq (by kernel_rfl) (g_ld 0 [.int .i64 0, .int .i64 0, .int .i64 0, .int .i64 0, .int .i64 0, .bool false] (.agg #[.int .i64 0, .int .i64 0, .int .i64 0, .int .i64 0, .int .i64 0, .bool false]) (by kernel_rfl) 0 rfl)) h (by kernel_rfl) ?_
              refine d_ready [6] (by kernel_rfl) rfl ?_
              refine ad_call #[.agg #[.int .i64 0, .int .i64 0, .int .i64 0, .int .i64 0, .int .i64 0, .bool false]] [] [1, 3] rfl (by kernel_rfl) (lockOf_spec 0 0 0 0 0 false) (fun _ => by kernel_rfl) h ?_ ?_
              · skip
                rintro v_ L_ w ⟨rfl, rfl⟩ h
                refine ⟨by kernel_rfl, ?_⟩
                obtain ⟨b157, hb157⟩ : ∃ b_ : Bool, b_ = (!((decide ((0 : Int) = 0)) && ((decide ((0 : Int) = 0)) && ((decide ((0 : Int) = 0)) && ((decide ((0 : Int) = 0)) && ((decide ((0 : Int) = 0)) && (false == false))))))) := ⟨_, rfl⟩
                refine d_take 8 255 [1, 3] rfl (v := .bool b157) (by kernel_rfl) (qp_thn (qp_blk (qp_thn (qp_blk (qp_thn (qp_rnd (qp_blk (qp_thn qp_body)))))))) (yq (by kernel_rfl) (by subst hb157; exact g_neL6 (by kernel_rfl))) h (by kernel_rfl) ?_
                refine d_take 9 511 [1, 3] rfl (v := .bool b157) (by kernel_rfl) (qp_thn (qp_blk (qp_thn (qp_blk (qp_thn (qp_rnd (qp_blk (qp_thn qp_body)))))))) (yq (by kernel_rfl) (g_pure (v := .bool b157) fun _ => by kernel_rfl)) h (by kernel_rfl) ?_
                refine d_done (by kernel_rfl) ?_
                refine thn_n ?_
                refine c_cond (b157) (by kernel_rfl) (fun hc158 => ?_) (fun hc158 => ?_)
                · skip
                  have q159 : (!((decide ((0 : Int) = 0)) && ((decide ((0 : Int) = 0)) && ((decide ((0 : Int) = 0)) && ((decide ((0 : Int) = 0)) && ((decide ((0 : Int) = 0)) && (false == false))))))) = true := by rw [← hb157]; exact hc158
                  have q160 : ((decide ((0 : Int) = 0)) && ((decide ((0 : Int) = 0)) && ((decide ((0 : Int) = 0)) && ((decide ((0 : Int) = 0)) && ((decide ((0 : Int) = 0)) && (false == false)))))) = false := by revert q159; cases ((decide ((0 : Int) = 0)) && ((decide ((0 : Int) = 0)) && ((decide ((0 : Int) = 0)) && ((decide ((0 : Int) = 0)) && ((decide ((0 : Int) = 0)) && (false == false)))))) <;> simp
                  exfalso; revert hc158; subst hb157; simp [lkT]
                · skip
                  have q161 : (!((decide ((0 : Int) = 0)) && ((decide ((0 : Int) = 0)) && ((decide ((0 : Int) = 0)) && ((decide ((0 : Int) = 0)) && ((decide ((0 : Int) = 0)) && (false == false))))))) = false := by rw [← hb157]; exact hc158
                  have q162 : ((decide ((0 : Int) = 0)) && ((decide ((0 : Int) = 0)) && ((decide ((0 : Int) = 0)) && ((decide ((0 : Int) = 0)) && ((decide ((0 : Int) = 0)) && (false == false)))))) = true := by revert q161; cases ((decide ((0 : Int) = 0)) && ((decide ((0 : Int) = 0)) && ((decide ((0 : Int) = 0)) && ((decide ((0 : Int) = 0)) && ((decide ((0 : Int) = 0)) && (false == false)))))) <;> simp
                  have q163 : (decide ((0 : Int) = 0)) = true := by revert q162; cases (decide ((0 : Int) = 0)) <;> simp
                  have q164 : ((decide ((0 : Int) = 0)) && ((decide ((0 : Int) = 0)) && ((decide ((0 : Int) = 0)) && ((decide ((0 : Int) = 0)) && (false == false))))) = true := by revert q162; cases (decide ((0 : Int) = 0)) <;> cases ((decide ((0 : Int) = 0)) && ((decide ((0 : Int) = 0)) && ((decide ((0 : Int) = 0)) && ((decide ((0 : Int) = 0)) && (false == false))))) <;> simp
                  have q163 := of_decide_eq_true q163
                  have q165 : (decide ((0 : Int) = 0)) = true := by revert q164; cases (decide ((0 : Int) = 0)) <;> simp
                  have q166 : ((decide ((0 : Int) = 0)) && ((decide ((0 : Int) = 0)) && ((decide ((0 : Int) = 0)) && (false == false)))) = true := by revert q164; cases (decide ((0 : Int) = 0)) <;> cases ((decide ((0 : Int) = 0)) && ((decide ((0 : Int) = 0)) && ((decide ((0 : Int) = 0)) && (false == false)))) <;> simp
                  have q165 := of_decide_eq_true q165
                  have q167 : (decide ((0 : Int) = 0)) = true := by revert q166; cases (decide ((0 : Int) = 0)) <;> simp
                  have q168 : ((decide ((0 : Int) = 0)) && ((decide ((0 : Int) = 0)) && (false == false))) = true := by revert q166; cases (decide ((0 : Int) = 0)) <;> cases ((decide ((0 : Int) = 0)) && ((decide ((0 : Int) = 0)) && (false == false))) <;> simp
                  have q167 := of_decide_eq_true q167
                  have q169 : (decide ((0 : Int) = 0)) = true := by revert q168; cases (decide ((0 : Int) = 0)) <;> simp
                  have q170 : ((decide ((0 : Int) = 0)) && (false == false)) = true := by revert q168; cases (decide ((0 : Int) = 0)) <;> cases ((decide ((0 : Int) = 0)) && (false == false)) <;> simp
                  have q169 := of_decide_eq_true q169
                  have q171 : (decide ((0 : Int) = 0)) = true := by revert q170; cases (decide ((0 : Int) = 0)) <;> simp
                  have q172 : (false == false) = true := by revert q170; cases (decide ((0 : Int) = 0)) <;> cases (false == false) <;> simp
                  have q171 := of_decide_eq_true q171
                  have q172 := eq_of_beq q172
                  refine c_skip ?_
                  refine blk_n (thn_n ?_)
                  refine c_seq ?_
                  refine c_reg ?_
                  refine sq_p (.pointer (some ⟨k5, 0, none⟩)) rfl (fun _ => by kernel_rfl) ?_
                  refine sq_call #[.pointer (some ⟨k5, 0, none⟩)] [5, 5] rfl (list_spec k5 v20 (joinL l16) hTl16.1.bnd hTl16.small) (fun _ => by kernel_rfl) h ?_; rintro v176 L_ w ⟨_, l173, ⟨hp174, ho175⟩, rfl, rfl⟩ h
                  refine sq_p (.pointer (some ⟨k6, 0, none⟩)) rfl (fun _ => by kernel_rfl) ?_
                  refine sq_call #[.pointer (some ⟨k6, 0, none⟩)] [5, 5] rfl (rlist_spec k6 v155 (lp ++ [((x9.2.1.1, x9.2.1.2.1), x9.2.2.1, eF x9.2.2.2.1.1 x9.2.2.2.1.2.1, endN (eT x9.2.2.2.1.1 x9.2.2.2.1.2.1), if x9.2.2.2.2.1 then 2 else 1)]) (Nat.le_trans (snoc_len hlp) (by omega)) hLTl16.2.ok) (fun _ => by kernel_rfl) h ?_; rintro v177 L_ w ⟨_, R178, hR179, rfl, rfl⟩ h
                  have hRe := hLTl16.2.list hTl16.1 hp174 ho175 hR179
                  subst hRe
                  refine sq_call #[v176, v177] [3, 0] rfl (sameLocks_spec v176 v177 (l173.map lkT) (map_len hp174 hTl16)) (fun _ => by kernel_rfl) h ?_; rintro v_ L_ w ⟨rfl, rfl⟩ h
                  refine sq_p (.bool false) rfl (fun _ => by kernel_rfl) ?_
                  refine lnil ?_
                  refine thn_n ?_
                  refine c_false (by kernel_rfl) ?_
                  refine c_skip ?_
                  refine blk_n (thn_n ?_)
                  refine c_reg ?_
                  refine sq_p (.int .i64 (n0 : Int)) rfl (fun _ => by kernel_rfl) ?_
                  refine sq_q rfl h (g_eq (v := .int .i64 (IntKind.i64.wrap ((n0 : Int) + 1))) (v' := .int .i64 ((n0 + 1 : Nat) : Int)) (g_pure fun _ => by kernel_rfl) (wr (by omega))) ?_
                  refine sq_p (.int .i64 ((n0 + 1 : Nat) : Int)) rfl (fun _ => by kernel_rfl) ?_
                  refine lnil ?_
                  have hQ180 : ((n0 + 1) ≤ acts.length ∧ TabOk (joinL l16) ∧ Tells (joinL l16) (lp ++ [((x9.2.1.1, x9.2.1.2.1), x9.2.2.1, eF x9.2.2.2.1.1 x9.2.2.2.1.2.1, endN (eT x9.2.2.2.1.1 x9.2.2.2.1.2.1), if x9.2.2.2.2.1 then 2 else 1)]) ∧ (lp ++ [((x9.2.1.1, x9.2.1.2.1), x9.2.2.1, eF x9.2.2.2.1.1 x9.2.2.2.1.2.1, endN (eT x9.2.2.2.1.1 x9.2.2.2.1.2.1), if x9.2.2.2.2.1 then 2 else 1)]).length ≤ (n0 + 1)) ∧ (acts.length - (n0 + 1)) < (acts.length - n0) := ⟨⟨by omega, hTl16, hLTl16.2, (snoc_len hlp)⟩, by omega⟩
                  refine loop_end (fun j => ⟨(n0 + 1), joinL l16, v20, lp ++ [((x9.2.1.1, x9.2.1.2.1), x9.2.2.1, eF x9.2.2.2.1.1 x9.2.2.2.1.2.1, endN (eT x9.2.2.2.1.1 x9.2.2.2.1.2.1), if x9.2.2.2.2.1 then 2 else 1)], v155, j⟩) hQ180 (by kernel_rfl) [3, 4, 2, 2, 5, 6, 2] (by kernel_rfl) h
              exact ad_nil
            exact ad_nil
      · skip
        have hc12 := of_decide_eq_false hc12
        refine c_seq ?_
        refine c_reg ?_
        refine sq_q rfl h (g_eq (v := .bool (x9.1.toList == (⟨#[116, 101, 115, 116]⟩ : ByteArray).toList)) (v' := .bool (decide (x9.1 = (⟨#[116, 101, 115, 116]⟩ : ByteArray)))) (g_pure fun _ => by kernel_rfl) beqS) ?_
        refine sq_p (.bool (decide (x9.1 = (⟨#[116, 101, 115, 116]⟩ : ByteArray)))) rfl (fun _ => by kernel_rfl) ?_
        refine lnil ?_
        refine thn_n ?_
        refine c_cond (decide (x9.1 = (⟨#[116, 101, 115, 116]⟩ : ByteArray))) (by kernel_rfl) (fun hc181 => ?_) (fun hc181 => ?_)
        · skip
          have hc181 := of_decide_eq_true hc181
          refine c_seq ?_
          refine c_reg ?_
          refine sq_p (.pointer (some ⟨k5, 0, none⟩)) rfl (fun _ => by kernel_rfl) ?_
          refine sq_p (.pointer (some ⟨k11, 1, none⟩)) rfl (fun _ => by kernel_rfl) ?_
          refine sq_q rfl h (g_ld 1 [.int .i64 x9.2.1.1, .int .i64 x9.2.1.2.1] (.agg #[.int .i64 x9.2.1.1, .int .i64 x9.2.1.2.1]) (by kernel_rfl) 0 rfl) ?_
          refine sq_p (.pointer (some ⟨k11, 3, none⟩)) rfl (fun _ => by kernel_rfl) ?_
          refine sq_q rfl h (g_ld 3 [.int .i64 x9.2.2.1] (.int .i64 x9.2.2.1) (by kernel_rfl) 0 rfl) ?_
          refine sq_p (.pointer (some ⟨k11, 4, none⟩)) rfl (fun _ => by kernel_rfl) ?_
          refine sq_q rfl h (g_ld 4 [.int .i64 x9.2.2.2.1.1, .int .i64 x9.2.2.2.1.2.1] (.agg #[.int .i64 x9.2.2.2.1.1, .int .i64 x9.2.2.2.1.2.1]) (by kernel_rfl) 0 rfl) ?_
          refine sq_p (.pointer (some ⟨k11, 6, none⟩)) rfl (fun _ => by kernel_rfl) ?_
          refine sq_q rfl h (g_ld 6 [.bool x9.2.2.2.2.1] (.bool x9.2.2.2.2.1) (by kernel_rfl) 0 rfl) ?_
          refine sq_call #[.pointer (some ⟨k5, 0, none⟩), .agg #[.int .i64 x9.2.1.1, .int .i64 x9.2.1.2.1], .int .i64 x9.2.2.1, .agg #[.int .i64 x9.2.2.2.1.1, .int .i64 x9.2.2.2.1.2.1], .bool x9.2.2.2.2.1] [4, 2, 3] rfl (test_spec ad k5 x9.2.1.1 x9.2.1.2.1 x9.2.2.1 x9.2.2.2.1.1 x9.2.2.2.1.2.1 x9.2.2.2.2.1 lt vt hT0.1.bnd hT0.small) (fun _ => by kernel_rfl) h ?_; rintro v_ L_ w (⟨hq182, rfl, rfl⟩ | ⟨x183, hq182, hq184, rfl, rfl⟩ | ⟨hq182, hq184, rfl, rfl⟩) h
          · skip
            refine sq_p (.tuple #[.agg #[.int .i64 0, .int .i64 0, .int .i64 0, .int .i64 0, .int .i64 0, .bool false], errV ad 2]) rfl (fun _ => by kernel_rfl) ?_
            refine sq_p (.agg #[.int .i64 0, .int .i64 0, .int .i64 0, .int .i64 0, .int .i64 0, .bool false]) rfl (fun _ => by kernel_rfl) ?_
            refine sq_p (errV ad 2) rfl (fun _ => by kernel_rfl) ?_
            refine sq_new rfl (fun b => .pointer (some ⟨b, 0, none⟩)) [.int .i64 0, .int .i64 0, .int .i64 0, .int .i64 0, .int .i64 0, .bool false] 67 (fun _ => by kernel_rfl) h ?_; intro k185 w h
            refine sq_st rfl 0 [.int .i64 0, .int .i64 0, .int .i64 0, .int .i64 0, .int .i64 0, .bool false] [.int .i64 0, .int .i64 0, .int .i64 0, .int .i64 0, .int .i64 0, .bool false] h 0 rfl (by kernel_rfl) ?_; intro w h
            refine sq_p (errV ad 2) rfl (fun _ => by kernel_rfl) ?_
            refine lnil ?_
            refine thn_n ?_
            refine c_seq ?_
            refine c_reg ?_
            refine sq_p (.pointer (some ⟨k6, 0, none⟩)) rfl (fun _ => by kernel_rfl) ?_
            refine sq_p (.pointer (some ⟨k11, 1, none⟩)) rfl (fun _ => by kernel_rfl) ?_
            refine sq_q rfl h (g_ld 1 [.int .i64 x9.2.1.1, .int .i64 x9.2.1.2.1] (.agg #[.int .i64 x9.2.1.1, .int .i64 x9.2.1.2.1]) (by kernel_rfl) 4 rfl) ?_
            refine sq_p (.pointer (some ⟨k11, 3, none⟩)) rfl (fun _ => by kernel_rfl) ?_
            refine sq_q rfl h (g_ld 3 [.int .i64 x9.2.2.1] (.int .i64 x9.2.2.1) (by kernel_rfl) 4 rfl) ?_
            refine sq_p (.pointer (some ⟨k11, 4, none⟩)) rfl (fun _ => by kernel_rfl) ?_
            refine sq_q rfl h (g_ld 4 [.int .i64 x9.2.2.2.1.1, .int .i64 x9.2.2.2.1.2.1] (.agg #[.int .i64 x9.2.2.2.1.1, .int .i64 x9.2.2.2.1.2.1]) (by kernel_rfl) 4 rfl) ?_
            refine sq_p (.pointer (some ⟨k11, 6, none⟩)) rfl (fun _ => by kernel_rfl) ?_
            refine sq_q rfl h (g_ld 6 [.bool x9.2.2.2.2.1] (.bool x9.2.2.2.2.1) (by kernel_rfl) 4 rfl) ?_
            refine sq_call #[.pointer (some ⟨k6, 0, none⟩), .agg #[.int .i64 x9.2.1.1, .int .i64 x9.2.1.2.1], .int .i64 x9.2.2.1, .agg #[.int .i64 x9.2.2.2.1.1, .int .i64 x9.2.2.2.1.2.1], .bool x9.2.2.2.2.1] [6, 5] rfl (rtest_spec k6 vp lp (by omega) hL0.ok x9.2.1.1 x9.2.1.2.1 x9.2.2.1 x9.2.2.2.1.1 x9.2.2.2.1.2.1 x9.2.2.2.2.1) (fun _ => by kernel_rfl) h ?_; rintro v_ L_ w (⟨hq186, rfl, rfl⟩ | ⟨R187, x188, hq189, hq190, hq191, rfl, rfl⟩ | ⟨R192, hq193, hq194, hq195, rfl, rfl⟩) h
            · skip
              refine sq_p (.tuple #[.agg #[.int .i64 0, .int .i64 0, .int .i64 0, .int .i64 0, .int .i64 0, .bool false], .int .i64 2]) rfl (fun _ => by kernel_rfl) ?_
              refine sq_p (.agg #[.int .i64 0, .int .i64 0, .int .i64 0, .int .i64 0, .int .i64 0, .bool false]) rfl (fun _ => by kernel_rfl) ?_
              refine sq_p (.int .i64 2) rfl (fun _ => by kernel_rfl) ?_
              refine sq_new rfl (fun b => .pointer (some ⟨b, 0, none⟩)) [.int .i64 0, .int .i64 0, .int .i64 0, .int .i64 0, .int .i64 0, .bool false] 70 (fun _ => by kernel_rfl) h ?_; intro k196 w h
              refine sq_st rfl 0 [.int .i64 0, .int .i64 0, .int .i64 0, .int .i64 0, .int .i64 0, .bool false] [.int .i64 0, .int .i64 0, .int .i64 0, .int .i64 0, .int .i64 0, .bool false] h 0 rfl (by kernel_rfl) ?_; intro w h
              refine sq_p (.int .i64 2) rfl (fun _ => by kernel_rfl) ?_
              refine lnil ?_
              refine thn_n ?_
              refine c_seq ?_
              refine d_start 10 [0, 2] (by kernel_rfl) h fun w h => ?_
              refine d_take 0 2 [0, 2] rfl (v := errV ad 2) (by kernel_rfl) (qp_thn (qp_blk (qp_thn (qp_blk (qp_thn (qp_rnd (qp_blk (qp_thn qp_body)))))))) (yq (by kernel_rfl) (g_pure (v := errV ad 2) fun _ => by kernel_rfl)) h (by kernel_rfl) ?_
              refine d_take 1 1 [0, 2] rfl (v := .int .i64 2) (by kernel_rfl) (qp_thn (qp_blk (qp_thn (qp_blk (qp_thn (qp_rnd (qp_blk (qp_thn qp_body)))))))) (yq (by kernel_rfl) (g_pure (v := .int .i64 2) fun _ => by kernel_rfl)) h (by kernel_rfl) ?_
              refine d_ready [2] (by kernel_rfl) rfl ?_
              refine ad_call #[errV ad 2, .int .i64 2] [9] [1, 3] rfl (by kernel_rfl) (coded2_spec ad 2 2 (by decide) (by decide)) (fun _ => by kernel_rfl) h ?_ ?_
              · skip
                rintro v_ L_ w ⟨rfl, rfl⟩ h
                refine ⟨by kernel_rfl, ?_⟩
                refine d_take 3 7 [1, 3] rfl (v := .bool false) (by kernel_rfl) (qp_thn (qp_blk (qp_thn (qp_blk (qp_thn (qp_rnd (qp_blk (qp_thn qp_body)))))))) (yq (by kernel_rfl) (g_pure (v := .bool false) fun _ => by kernel_rfl)) h (by kernel_rfl) ?_
                refine d_take 4 15 [1, 3] rfl (v := .bool false) (by kernel_rfl) (qp_thn (qp_blk (qp_thn (qp_blk (qp_thn (qp_rnd (qp_blk (qp_thn qp_body)))))))) (yq (by kernel_rfl) (g_pure (v := .bool false) fun _ => by kernel_rfl)) h (by kernel_rfl) ?_
                refine d_take 5 159 [1, 3] rfl (v := .agg #[.int .i64 0, .int .i64 0, .int .i64 0, .int .i64 0, .int .i64 0, .bool false]) (by kernel_rfl) (qp_thn (qp_blk (qp_thn (qp_blk (qp_thn (qp_rnd (qp_blk (qp_thn qp_body)))))))) (yq (by kernel_rfl) (g_ld 0 [.int .i64 0, .int .i64 0, .int .i64 0, .int .i64 0, .int .i64 0, .bool false] (.agg #[.int .i64 0, .int .i64 0, .int .i64 0, .int .i64 0, .int .i64 0, .bool false]) (by kernel_rfl) 1 rfl)) h (by kernel_rfl) ?_
                refine d_take 7 127 [1, 3] rfl (v := .agg #[.int .i64 0, .int .i64 0, .int .i64 0, .int .i64 0, .int .i64 0, .bool false]) (by kernel_rfl) (qp_thn (qp_blk (qp_thn (qp_blk (qp_thn (qp_rnd (qp_blk (qp_thn qp_body)))))))) (yq (by kernel_rfl) (g_ld 0 [.int .i64 0, .int .i64 0, .int .i64 0, .int .i64 0, .int .i64 0, .bool false] (.agg #[.int .i64 0, .int .i64 0, .int .i64 0, .int .i64 0, .int .i64 0, .bool false]) (by kernel_rfl) 0 rfl)) h (by kernel_rfl) ?_
                refine d_ready [6] (by kernel_rfl) rfl ?_
                refine ad_call #[.agg #[.int .i64 0, .int .i64 0, .int .i64 0, .int .i64 0, .int .i64 0, .bool false]] [] [1, 3] rfl (by kernel_rfl) (lockOf_spec 0 0 0 0 0 false) (fun _ => by kernel_rfl) h ?_ ?_
                · skip
                  rintro v_ L_ w ⟨rfl, rfl⟩ h
                  refine ⟨by kernel_rfl, ?_⟩
                  obtain ⟨b197, hb197⟩ : ∃ b_ : Bool, b_ = (!((decide ((0 : Int) = 0)) && ((decide ((0 : Int) = 0)) && ((decide ((0 : Int) = 0)) && ((decide ((0 : Int) = 0)) && ((decide ((0 : Int) = 0)) && (false == false))))))) := ⟨_, rfl⟩
                  refine d_take 8 255 [1, 3] rfl (v := .bool b197) (by kernel_rfl) (qp_thn (qp_blk (qp_thn (qp_blk (qp_thn (qp_rnd (qp_blk (qp_thn qp_body)))))))) (yq (by kernel_rfl) (by subst hb197; exact g_neL6 (by kernel_rfl))) h (by kernel_rfl) ?_
                  refine d_take 9 511 [1, 3] rfl (v := .bool b197) (by kernel_rfl) (qp_thn (qp_blk (qp_thn (qp_blk (qp_thn (qp_rnd (qp_blk (qp_thn qp_body)))))))) (yq (by kernel_rfl) (g_pure (v := .bool b197) fun _ => by kernel_rfl)) h (by kernel_rfl) ?_
                  refine d_done (by kernel_rfl) ?_
                  refine thn_n ?_
                  refine c_cond (b197) (by kernel_rfl) (fun hc198 => ?_) (fun hc198 => ?_)
                  · skip
                    have q199 : (!((decide ((0 : Int) = 0)) && ((decide ((0 : Int) = 0)) && ((decide ((0 : Int) = 0)) && ((decide ((0 : Int) = 0)) && ((decide ((0 : Int) = 0)) && (false == false))))))) = true := by rw [← hb197]; exact hc198
                    have q200 : ((decide ((0 : Int) = 0)) && ((decide ((0 : Int) = 0)) && ((decide ((0 : Int) = 0)) && ((decide ((0 : Int) = 0)) && ((decide ((0 : Int) = 0)) && (false == false)))))) = false := by revert q199; cases ((decide ((0 : Int) = 0)) && ((decide ((0 : Int) = 0)) && ((decide ((0 : Int) = 0)) && ((decide ((0 : Int) = 0)) && ((decide ((0 : Int) = 0)) && (false == false)))))) <;> simp
                    exfalso; revert hc198; subst hb197; simp [lkT]
                  · skip
                    have q201 : (!((decide ((0 : Int) = 0)) && ((decide ((0 : Int) = 0)) && ((decide ((0 : Int) = 0)) && ((decide ((0 : Int) = 0)) && ((decide ((0 : Int) = 0)) && (false == false))))))) = false := by rw [← hb197]; exact hc198
                    have q202 : ((decide ((0 : Int) = 0)) && ((decide ((0 : Int) = 0)) && ((decide ((0 : Int) = 0)) && ((decide ((0 : Int) = 0)) && ((decide ((0 : Int) = 0)) && (false == false)))))) = true := by revert q201; cases ((decide ((0 : Int) = 0)) && ((decide ((0 : Int) = 0)) && ((decide ((0 : Int) = 0)) && ((decide ((0 : Int) = 0)) && ((decide ((0 : Int) = 0)) && (false == false)))))) <;> simp
                    have q203 : (decide ((0 : Int) = 0)) = true := by revert q202; cases (decide ((0 : Int) = 0)) <;> simp
                    have q204 : ((decide ((0 : Int) = 0)) && ((decide ((0 : Int) = 0)) && ((decide ((0 : Int) = 0)) && ((decide ((0 : Int) = 0)) && (false == false))))) = true := by revert q202; cases (decide ((0 : Int) = 0)) <;> cases ((decide ((0 : Int) = 0)) && ((decide ((0 : Int) = 0)) && ((decide ((0 : Int) = 0)) && ((decide ((0 : Int) = 0)) && (false == false))))) <;> simp
                    have q203 := of_decide_eq_true q203
                    have q205 : (decide ((0 : Int) = 0)) = true := by revert q204; cases (decide ((0 : Int) = 0)) <;> simp
                    have q206 : ((decide ((0 : Int) = 0)) && ((decide ((0 : Int) = 0)) && ((decide ((0 : Int) = 0)) && (false == false)))) = true := by revert q204; cases (decide ((0 : Int) = 0)) <;> cases ((decide ((0 : Int) = 0)) && ((decide ((0 : Int) = 0)) && ((decide ((0 : Int) = 0)) && (false == false)))) <;> simp
                    have q205 := of_decide_eq_true q205
                    have q207 : (decide ((0 : Int) = 0)) = true := by revert q206; cases (decide ((0 : Int) = 0)) <;> simp
                    have q208 : ((decide ((0 : Int) = 0)) && ((decide ((0 : Int) = 0)) && (false == false))) = true := by revert q206; cases (decide ((0 : Int) = 0)) <;> cases ((decide ((0 : Int) = 0)) && ((decide ((0 : Int) = 0)) && (false == false))) <;> simp
                    have q207 := of_decide_eq_true q207
                    have q209 : (decide ((0 : Int) = 0)) = true := by revert q208; cases (decide ((0 : Int) = 0)) <;> simp
                    have q210 : ((decide ((0 : Int) = 0)) && (false == false)) = true := by revert q208; cases (decide ((0 : Int) = 0)) <;> cases ((decide ((0 : Int) = 0)) && (false == false)) <;> simp
                    have q209 := of_decide_eq_true q209
                    have q211 : (decide ((0 : Int) = 0)) = true := by revert q210; cases (decide ((0 : Int) = 0)) <;> simp
                    have q212 : (false == false) = true := by revert q210; cases (decide ((0 : Int) = 0)) <;> cases (false == false) <;> simp
                    have q211 := of_decide_eq_true q211
                    have q212 := eq_of_beq q212
                    refine c_skip ?_
                    refine blk_n (thn_n ?_)
                    refine c_seq ?_
                    refine c_reg ?_
                    refine sq_p (.pointer (some ⟨k5, 0, none⟩)) rfl (fun _ => by kernel_rfl) ?_
                    refine sq_call #[.pointer (some ⟨k5, 0, none⟩)] [5, 5] rfl (list_spec k5 vt lt hT0.1.bnd hT0.small) (fun _ => by kernel_rfl) h ?_; rintro v216 L_ w ⟨_, l213, ⟨hp214, ho215⟩, rfl, rfl⟩ h
                    refine sq_p (.pointer (some ⟨k6, 0, none⟩)) rfl (fun _ => by kernel_rfl) ?_
                    refine sq_call #[.pointer (some ⟨k6, 0, none⟩)] [5, 5] rfl (rlist_spec k6 vp lp (Nat.le_trans (Nat.le_succ_of_le hlp) (by omega)) hL0.ok) (fun _ => by kernel_rfl) h ?_; rintro v217 L_ w ⟨_, R218, hR219, rfl, rfl⟩ h
                    have hRe := hL0.list hT0.1 hp214 ho215 hR219
                    subst hRe
                    refine sq_call #[v216, v217] [3, 0] rfl (sameLocks_spec v216 v217 (l213.map lkT) (map_len hp214 hT0)) (fun _ => by kernel_rfl) h ?_; rintro v_ L_ w ⟨rfl, rfl⟩ h
                    refine sq_p (.bool false) rfl (fun _ => by kernel_rfl) ?_
                    refine lnil ?_
                    refine thn_n ?_
                    refine c_false (by kernel_rfl) ?_
                    refine c_skip ?_
                    refine blk_n (thn_n ?_)
                    refine c_reg ?_
                    refine sq_p (.int .i64 (n0 : Int)) rfl (fun _ => by kernel_rfl) ?_
                    refine sq_q rfl h (g_eq (v := .int .i64 (IntKind.i64.wrap ((n0 : Int) + 1))) (v' := .int .i64 ((n0 + 1 : Nat) : Int)) (g_pure fun _ => by kernel_rfl) (wr (by omega))) ?_
                    refine sq_p (.int .i64 ((n0 + 1 : Nat) : Int)) rfl (fun _ => by kernel_rfl) ?_
                    refine lnil ?_
                    have hQ220 : ((n0 + 1) ≤ acts.length ∧ TabOk lt ∧ Tells lt lp ∧ lp.length ≤ (n0 + 1)) ∧ (acts.length - (n0 + 1)) < (acts.length - n0) := ⟨⟨by omega, hT0, hL0, (Nat.le_succ_of_le hlp)⟩, by omega⟩
                    refine loop_end (fun j => ⟨(n0 + 1), lt, vt, lp, vp, j⟩) hQ220 (by kernel_rfl) [3, 4, 2, 2, 5, 6, 2] (by kernel_rfl) h
                exact ad_nil
              exact ad_nil
            · skip
              rw [hq182] at hq189; cases hq189
            · skip
              rw [hq182] at hq193; cases hq193
          · skip
            refine sq_p (.tuple #[.agg #[.int .i64 x183.1.1, .int .i64 x183.1.2, .int .i64 x183.2.1, .int .i64 x183.2.2.1, .int .i64 (if x183.2.2.2.1 = 1152921504606846976 then 0 else x183.2.2.2.1 - x183.2.2.1), .bool x183.2.2.2.2], errV ad 11]) rfl (fun _ => by kernel_rfl) ?_
            refine sq_p (.agg #[.int .i64 x183.1.1, .int .i64 x183.1.2, .int .i64 x183.2.1, .int .i64 x183.2.2.1, .int .i64 (if x183.2.2.2.1 = 1152921504606846976 then 0 else x183.2.2.2.1 - x183.2.2.1), .bool x183.2.2.2.2]) rfl (fun _ => by kernel_rfl) ?_
            refine sq_p (errV ad 11) rfl (fun _ => by kernel_rfl) ?_
            refine sq_new rfl (fun b => .pointer (some ⟨b, 0, none⟩)) [.int .i64 0, .int .i64 0, .int .i64 0, .int .i64 0, .int .i64 0, .bool false] 67 (fun _ => by kernel_rfl) h ?_; intro k221 w h
            refine sq_st rfl 0 [.int .i64 x183.1.1, .int .i64 x183.1.2, .int .i64 x183.2.1, .int .i64 x183.2.2.1, .int .i64 (if x183.2.2.2.1 = 1152921504606846976 then 0 else x183.2.2.2.1 - x183.2.2.1), .bool x183.2.2.2.2] [.int .i64 x183.1.1, .int .i64 x183.1.2, .int .i64 x183.2.1, .int .i64 x183.2.2.1, .int .i64 (if x183.2.2.2.1 = 1152921504606846976 then 0 else x183.2.2.2.1 - x183.2.2.1), .bool x183.2.2.2.2] h 0 rfl (by kernel_rfl) ?_; intro w h
            refine sq_p (errV ad 11) rfl (fun _ => by kernel_rfl) ?_
            refine lnil ?_
            refine thn_n ?_
            refine c_seq ?_
            refine c_reg ?_
            refine sq_p (.pointer (some ⟨k6, 0, none⟩)) rfl (fun _ => by kernel_rfl) ?_
            refine sq_p (.pointer (some ⟨k11, 1, none⟩)) rfl (fun _ => by kernel_rfl) ?_
            refine sq_q rfl h (g_ld 1 [.int .i64 x9.2.1.1, .int .i64 x9.2.1.2.1] (.agg #[.int .i64 x9.2.1.1, .int .i64 x9.2.1.2.1]) (by kernel_rfl) 4 rfl) ?_
            refine sq_p (.pointer (some ⟨k11, 3, none⟩)) rfl (fun _ => by kernel_rfl) ?_
            refine sq_q rfl h (g_ld 3 [.int .i64 x9.2.2.1] (.int .i64 x9.2.2.1) (by kernel_rfl) 4 rfl) ?_
            refine sq_p (.pointer (some ⟨k11, 4, none⟩)) rfl (fun _ => by kernel_rfl) ?_
            refine sq_q rfl h (g_ld 4 [.int .i64 x9.2.2.2.1.1, .int .i64 x9.2.2.2.1.2.1] (.agg #[.int .i64 x9.2.2.2.1.1, .int .i64 x9.2.2.2.1.2.1]) (by kernel_rfl) 4 rfl) ?_
            refine sq_p (.pointer (some ⟨k11, 6, none⟩)) rfl (fun _ => by kernel_rfl) ?_
            refine sq_q rfl h (g_ld 6 [.bool x9.2.2.2.2.1] (.bool x9.2.2.2.2.1) (by kernel_rfl) 4 rfl) ?_
            refine sq_call #[.pointer (some ⟨k6, 0, none⟩), .agg #[.int .i64 x9.2.1.1, .int .i64 x9.2.1.2.1], .int .i64 x9.2.2.1, .agg #[.int .i64 x9.2.2.2.1.1, .int .i64 x9.2.2.2.1.2.1], .bool x9.2.2.2.2.1] [6, 5] rfl (rtest_spec k6 vp lp (by omega) hL0.ok x9.2.1.1 x9.2.1.2.1 x9.2.2.1 x9.2.2.2.1.1 x9.2.2.2.1.2.1 x9.2.2.2.2.1) (fun _ => by kernel_rfl) h ?_; rintro v_ L_ w (⟨hq222, rfl, rfl⟩ | ⟨R223, x224, hq225, hq226, hq227, rfl, rfl⟩ | ⟨R228, hq229, hq230, hq231, rfl, rfl⟩) h
            · skip
              rw [hq182] at hq222; cases hq222
            · skip
              have hxe := hL0.found hT0.1 hq226 (eOk_rng hq182) hq184
              rw [hq227] at hxe
              obtain rfl := Option.some.inj hxe
              refine sq_p (.tuple #[.agg #[.int .i64 x183.1.1, .int .i64 x183.1.2, .int .i64 x183.2.1, .int .i64 x183.2.2.1, .int .i64 (if x183.2.2.2.1 = 1152921504606846976 then 0 else x183.2.2.2.1 - x183.2.2.1), .bool x183.2.2.2.2], .int .i64 11]) rfl (fun _ => by kernel_rfl) ?_
              refine sq_p (.agg #[.int .i64 x183.1.1, .int .i64 x183.1.2, .int .i64 x183.2.1, .int .i64 x183.2.2.1, .int .i64 (if x183.2.2.2.1 = 1152921504606846976 then 0 else x183.2.2.2.1 - x183.2.2.1), .bool x183.2.2.2.2]) rfl (fun _ => by kernel_rfl) ?_
              refine sq_p (.int .i64 11) rfl (fun _ => by kernel_rfl) ?_
              refine sq_new rfl (fun b => .pointer (some ⟨b, 0, none⟩)) [.int .i64 0, .int .i64 0, .int .i64 0, .int .i64 0, .int .i64 0, .bool false] 70 (fun _ => by kernel_rfl) h ?_; intro k232 w h
              refine sq_st rfl 0 [.int .i64 x183.1.1, .int .i64 x183.1.2, .int .i64 x183.2.1, .int .i64 x183.2.2.1, .int .i64 (if x183.2.2.2.1 = 1152921504606846976 then 0 else x183.2.2.2.1 - x183.2.2.1), .bool x183.2.2.2.2] [.int .i64 x183.1.1, .int .i64 x183.1.2, .int .i64 x183.2.1, .int .i64 x183.2.2.1, .int .i64 (if x183.2.2.2.1 = 1152921504606846976 then 0 else x183.2.2.2.1 - x183.2.2.1), .bool x183.2.2.2.2] h 0 rfl (by kernel_rfl) ?_; intro w h
              refine sq_p (.int .i64 11) rfl (fun _ => by kernel_rfl) ?_
              refine lnil ?_
              refine thn_n ?_
              refine c_seq ?_
              refine d_start 10 [0, 2] (by kernel_rfl) h fun w h => ?_
              refine d_take 0 2 [0, 2] rfl (v := errV ad 11) (by kernel_rfl) (qp_thn (qp_blk (qp_thn (qp_blk (qp_thn (qp_rnd (qp_blk (qp_thn qp_body)))))))) (yq (by kernel_rfl) (g_pure (v := errV ad 11) fun _ => by kernel_rfl)) h (by kernel_rfl) ?_
              refine d_take 1 1 [0, 2] rfl (v := .int .i64 11) (by kernel_rfl) (qp_thn (qp_blk (qp_thn (qp_blk (qp_thn (qp_rnd (qp_blk (qp_thn qp_body)))))))) (yq (by kernel_rfl) (g_pure (v := .int .i64 11) fun _ => by kernel_rfl)) h (by kernel_rfl) ?_
              refine d_ready [2] (by kernel_rfl) rfl ?_
              refine ad_call #[errV ad 11, .int .i64 11] [9] [1, 3] rfl (by kernel_rfl) (coded2_spec ad 11 11 (by decide) (by decide)) (fun _ => by kernel_rfl) h ?_ ?_
              · skip
                rintro v_ L_ w ⟨rfl, rfl⟩ h
                refine ⟨by kernel_rfl, ?_⟩
                refine d_take 3 7 [1, 3] rfl (v := .bool false) (by kernel_rfl) (qp_thn (qp_blk (qp_thn (qp_blk (qp_thn (qp_rnd (qp_blk (qp_thn qp_body)))))))) (yq (by kernel_rfl) (g_pure (v := .bool false) fun _ => by kernel_rfl)) h (by kernel_rfl) ?_
                refine d_take 4 15 [1, 3] rfl (v := .bool false) (by kernel_rfl) (qp_thn (qp_blk (qp_thn (qp_blk (qp_thn (qp_rnd (qp_blk (qp_thn qp_body)))))))) (yq (by kernel_rfl) (g_pure (v := .bool false) fun _ => by kernel_rfl)) h (by kernel_rfl) ?_
                refine d_take 5 159 [1, 3] rfl (v := .agg #[.int .i64 x183.1.1, .int .i64 x183.1.2, .int .i64 x183.2.1, .int .i64 x183.2.2.1, .int .i64 (if x183.2.2.2.1 = 1152921504606846976 then 0 else x183.2.2.2.1 - x183.2.2.1), .bool x183.2.2.2.2]) (by kernel_rfl) (qp_thn (qp_blk (qp_thn (qp_blk (qp_thn (qp_rnd (qp_blk (qp_thn qp_body)))))))) (yq (by kernel_rfl) (g_ld 0 [.int .i64 x183.1.1, .int .i64 x183.1.2, .int .i64 x183.2.1, .int .i64 x183.2.2.1, .int .i64 (if x183.2.2.2.1 = 1152921504606846976 then 0 else x183.2.2.2.1 - x183.2.2.1), .bool x183.2.2.2.2] (.agg #[.int .i64 x183.1.1, .int .i64 x183.1.2, .int .i64 x183.2.1, .int .i64 x183.2.2.1, .int .i64 (if x183.2.2.2.1 = 1152921504606846976 then 0 else x183.2.2.2.1 - x183.2.2.1), .bool x183.2.2.2.2]) (by kernel_rfl) 1 rfl)) h (by kernel_rfl) ?_
                refine d_take 7 127 [1, 3] rfl (v := .agg #[.int .i64 x183.1.1, .int .i64 x183.1.2, .int .i64 x183.2.1, .int .i64 x183.2.2.1, .int .i64 (if x183.2.2.2.1 = 1152921504606846976 then 0 else x183.2.2.2.1 - x183.2.2.1), .bool x183.2.2.2.2]) (by kernel_rfl) (qp_thn (qp_blk (qp_thn (qp_blk (qp_thn (qp_rnd (qp_blk (qp_thn qp_body)))))))) (yq (by kernel_rfl) (g_ld 0 [.int .i64 x183.1.1, .int .i64 x183.1.2, .int .i64 x183.2.1, .int .i64 x183.2.2.1, .int .i64 (if x183.2.2.2.1 = 1152921504606846976 then 0 else x183.2.2.2.1 - x183.2.2.1), .bool x183.2.2.2.2] (.agg #[.int .i64 x183.1.1, .int .i64 x183.1.2, .int .i64 x183.2.1, .int .i64 x183.2.2.1, .int .i64 (if x183.2.2.2.1 = 1152921504606846976 then 0 else x183.2.2.2.1 - x183.2.2.1), .bool x183.2.2.2.2]) (by kernel_rfl) 0 rfl)) h (by kernel_rfl) ?_
                refine d_ready [6] (by kernel_rfl) rfl ?_
                refine ad_call #[.agg #[.int .i64 x183.1.1, .int .i64 x183.1.2, .int .i64 x183.2.1, .int .i64 x183.2.2.1, .int .i64 (if x183.2.2.2.1 = 1152921504606846976 then 0 else x183.2.2.2.1 - x183.2.2.1), .bool x183.2.2.2.2]] [] [1, 3] rfl (by kernel_rfl) (lockOf_spec x183.1.1 x183.1.2 x183.2.1 x183.2.2.1 (if x183.2.2.2.1 = 1152921504606846976 then 0 else x183.2.2.2.1 - x183.2.2.1) x183.2.2.2.2) (fun _ => by kernel_rfl) h ?_ ?_
                · skip
                  rintro v_ L_ w ⟨rfl, rfl⟩ h
                  refine ⟨by kernel_rfl, ?_⟩
                  obtain ⟨b233, hb233⟩ : ∃ b_ : Bool, b_ = (!((decide (x183.1.1 = x183.1.1)) && ((decide (x183.1.2 = x183.1.2)) && ((decide (x183.2.1 = x183.2.1)) && ((decide (x183.2.2.1 = x183.2.2.1)) && ((decide ((if x183.2.2.2.1 = 1152921504606846976 then 0 else x183.2.2.2.1 - x183.2.2.1) = (if x183.2.2.2.1 = 1152921504606846976 then 0 else x183.2.2.2.1 - x183.2.2.1))) && (x183.2.2.2.2 == x183.2.2.2.2))))))) := ⟨_, rfl⟩
                  refine d_take 8 255 [1, 3] rfl (v := .bool b233) (by kernel_rfl) (qp_thn (qp_blk (qp_thn (qp_blk (qp_thn (qp_rnd (qp_blk (qp_thn qp_body)))))))) (yq (by kernel_rfl) (by subst hb233; exact g_neL6 (by kernel_rfl))) h (by kernel_rfl) ?_
                  refine d_take 9 511 [1, 3] rfl (v := .bool b233) (by kernel_rfl) (qp_thn (qp_blk (qp_thn (qp_blk (qp_thn (qp_rnd (qp_blk (qp_thn qp_body)))))))) (yq (by kernel_rfl) (g_pure (v := .bool b233) fun _ => by kernel_rfl)) h (by kernel_rfl) ?_
                  refine d_done (by kernel_rfl) ?_
                  refine thn_n ?_
                  refine c_cond (b233) (by kernel_rfl) (fun hc234 => ?_) (fun hc234 => ?_)
                  · skip
                    have q235 : (!((decide (x183.1.1 = x183.1.1)) && ((decide (x183.1.2 = x183.1.2)) && ((decide (x183.2.1 = x183.2.1)) && ((decide (x183.2.2.1 = x183.2.2.1)) && ((decide ((if x183.2.2.2.1 = 1152921504606846976 then 0 else x183.2.2.2.1 - x183.2.2.1) = (if x183.2.2.2.1 = 1152921504606846976 then 0 else x183.2.2.2.1 - x183.2.2.1))) && (x183.2.2.2.2 == x183.2.2.2.2))))))) = true := by rw [← hb233]; exact hc234
                    have q236 : ((decide (x183.1.1 = x183.1.1)) && ((decide (x183.1.2 = x183.1.2)) && ((decide (x183.2.1 = x183.2.1)) && ((decide (x183.2.2.1 = x183.2.2.1)) && ((decide ((if x183.2.2.2.1 = 1152921504606846976 then 0 else x183.2.2.2.1 - x183.2.2.1) = (if x183.2.2.2.1 = 1152921504606846976 then 0 else x183.2.2.2.1 - x183.2.2.1))) && (x183.2.2.2.2 == x183.2.2.2.2)))))) = false := by revert q235; cases ((decide (x183.1.1 = x183.1.1)) && ((decide (x183.1.2 = x183.1.2)) && ((decide (x183.2.1 = x183.2.1)) && ((decide (x183.2.2.1 = x183.2.2.1)) && ((decide ((if x183.2.2.2.1 = 1152921504606846976 then 0 else x183.2.2.2.1 - x183.2.2.1) = (if x183.2.2.2.1 = 1152921504606846976 then 0 else x183.2.2.2.1 - x183.2.2.1))) && (x183.2.2.2.2 == x183.2.2.2.2)))))) <;> simp
                    exfalso; revert hc234; subst hb233; simp [lkT]
                  · skip
                    have q237 : (!((decide (x183.1.1 = x183.1.1)) && ((decide (x183.1.2 = x183.1.2)) && ((decide (x183.2.1 = x183.2.1)) && ((decide (x183.2.2.1 = x183.2.2.1)) && ((decide ((if x183.2.2.2.1 = 1152921504606846976 then 0 else x183.2.2.2.1 - x183.2.2.1) = (if x183.2.2.2.1 = 1152921504606846976 then 0 else x183.2.2.2.1 - x183.2.2.1))) && (x183.2.2.2.2 == x183.2.2.2.2))))))) = false := by rw [← hb233]; exact hc234
                    have q238 : ((decide (x183.1.1 = x183.1.1)) && ((decide (x183.1.2 = x183.1.2)) && ((decide (x183.2.1 = x183.2.1)) && ((decide (x183.2.2.1 = x183.2.2.1)) && ((decide ((if x183.2.2.2.1 = 1152921504606846976 then 0 else x183.2.2.2.1 - x183.2.2.1) = (if x183.2.2.2.1 = 1152921504606846976 then 0 else x183.2.2.2.1 - x183.2.2.1))) && (x183.2.2.2.2 == x183.2.2.2.2)))))) = true := by revert q237; cases ((decide (x183.1.1 = x183.1.1)) && ((decide (x183.1.2 = x183.1.2)) && ((decide (x183.2.1 = x183.2.1)) && ((decide (x183.2.2.1 = x183.2.2.1)) && ((decide ((if x183.2.2.2.1 = 1152921504606846976 then 0 else x183.2.2.2.1 - x183.2.2.1) = (if x183.2.2.2.1 = 1152921504606846976 then 0 else x183.2.2.2.1 - x183.2.2.1))) && (x183.2.2.2.2 == x183.2.2.2.2)))))) <;> simp
                    have q239 : (decide (x183.1.1 = x183.1.1)) = true := by revert q238; cases (decide (x183.1.1 = x183.1.1)) <;> simp
                    have q240 : ((decide (x183.1.2 = x183.1.2)) && ((decide (x183.2.1 = x183.2.1)) && ((decide (x183.2.2.1 = x183.2.2.1)) && ((decide ((if x183.2.2.2.1 = 1152921504606846976 then 0 else x183.2.2.2.1 - x183.2.2.1) = (if x183.2.2.2.1 = 1152921504606846976 then 0 else x183.2.2.2.1 - x183.2.2.1))) && (x183.2.2.2.2 == x183.2.2.2.2))))) = true := by revert q238; cases (decide (x183.1.1 = x183.1.1)) <;> cases ((decide (x183.1.2 = x183.1.2)) && ((decide (x183.2.1 = x183.2.1)) && ((decide (x183.2.2.1 = x183.2.2.1)) && ((decide ((if x183.2.2.2.1 = 1152921504606846976 then 0 else x183.2.2.2.1 - x183.2.2.1) = (if x183.2.2.2.1 = 1152921504606846976 then 0 else x183.2.2.2.1 - x183.2.2.1))) && (x183.2.2.2.2 == x183.2.2.2.2))))) <;> simp
                    have q239 := of_decide_eq_true q239
                    have q241 : (decide (x183.1.2 = x183.1.2)) = true := by revert q240; cases (decide (x183.1.2 = x183.1.2)) <;> simp
                    have q242 : ((decide (x183.2.1 = x183.2.1)) && ((decide (x183.2.2.1 = x183.2.2.1)) && ((decide ((if x183.2.2.2.1 = 1152921504606846976 then 0 else x183.2.2.2.1 - x183.2.2.1) = (if x183.2.2.2.1 = 1152921504606846976 then 0 else x183.2.2.2.1 - x183.2.2.1))) && (x183.2.2.2.2 == x183.2.2.2.2)))) = true := by revert q240; cases (decide (x183.1.2 = x183.1.2)) <;> cases ((decide (x183.2.1 = x183.2.1)) && ((decide (x183.2.2.1 = x183.2.2.1)) && ((decide ((if x183.2.2.2.1 = 1152921504606846976 then 0 else x183.2.2.2.1 - x183.2.2.1) = (if x183.2.2.2.1 = 1152921504606846976 then 0 else x183.2.2.2.1 - x183.2.2.1))) && (x183.2.2.2.2 == x183.2.2.2.2)))) <;> simp
                    have q241 := of_decide_eq_true q241
                    have q243 : (decide (x183.2.1 = x183.2.1)) = true := by revert q242; cases (decide (x183.2.1 = x183.2.1)) <;> simp
                    have q244 : ((decide (x183.2.2.1 = x183.2.2.1)) && ((decide ((if x183.2.2.2.1 = 1152921504606846976 then 0 else x183.2.2.2.1 - x183.2.2.1) = (if x183.2.2.2.1 = 1152921504606846976 then 0 else x183.2.2.2.1 - x183.2.2.1))) && (x183.2.2.2.2 == x183.2.2.2.2))) = true := by revert q242; cases (decide (x183.2.1 = x183.2.1)) <;> cases ((decide (x183.2.2.1 = x183.2.2.1)) && ((decide ((if x183.2.2.2.1 = 1152921504606846976 then 0 else x183.2.2.2.1 - x183.2.2.1) = (if x183.2.2.2.1 = 1152921504606846976 then 0 else x183.2.2.2.1 - x183.2.2.1))) && (x183.2.2.2.2 == x183.2.2.2.2))) <;> simp
                    have q243 := of_decide_eq_true q243
                    have q245 : (decide (x183.2.2.1 = x183.2.2.1)) = true := by revert q244; cases (decide (x183.2.2.1 = x183.2.2.1)) <;> simp
                    have q246 : ((decide ((if x183.2.2.2.1 = 1152921504606846976 then 0 else x183.2.2.2.1 - x183.2.2.1) = (if x183.2.2.2.1 = 1152921504606846976 then 0 else x183.2.2.2.1 - x183.2.2.1))) && (x183.2.2.2.2 == x183.2.2.2.2)) = true := by revert q244; cases (decide (x183.2.2.1 = x183.2.2.1)) <;> cases ((decide ((if x183.2.2.2.1 = 1152921504606846976 then 0 else x183.2.2.2.1 - x183.2.2.1) = (if x183.2.2.2.1 = 1152921504606846976 then 0 else x183.2.2.2.1 - x183.2.2.1))) && (x183.2.2.2.2 == x183.2.2.2.2)) <;> simp
                    have q245 := of_decide_eq_true q245
                    have q247 : (decide ((if x183.2.2.2.1 = 1152921504606846976 then 0 else x183.2.2.2.1 - x183.2.2.1) = (if x183.2.2.2.1 = 1152921504606846976 then 0 else x183.2.2.2.1 - x183.2.2.1))) = true := by revert q246; cases (decide ((if x183.2.2.2.1 = 1152921504606846976 then 0 else x183.2.2.2.1 - x183.2.2.1) = (if x183.2.2.2.1 = 1152921504606846976 then 0 else x183.2.2.2.1 - x183.2.2.1))) <;> simp
                    have q248 : (x183.2.2.2.2 == x183.2.2.2.2) = true := by revert q246; cases (decide ((if x183.2.2.2.1 = 1152921504606846976 then 0 else x183.2.2.2.1 - x183.2.2.1) = (if x183.2.2.2.1 = 1152921504606846976 then 0 else x183.2.2.2.1 - x183.2.2.1))) <;> cases (x183.2.2.2.2 == x183.2.2.2.2) <;> simp
                    have q247 := of_decide_eq_true q247
                    have q248 := eq_of_beq q248
                    refine c_skip ?_
                    refine blk_n (thn_n ?_)
                    refine c_seq ?_
                    refine c_reg ?_
                    refine sq_p (.pointer (some ⟨k5, 0, none⟩)) rfl (fun _ => by kernel_rfl) ?_
                    refine sq_call #[.pointer (some ⟨k5, 0, none⟩)] [5, 5] rfl (list_spec k5 vt lt hT0.1.bnd hT0.small) (fun _ => by kernel_rfl) h ?_; rintro v252 L_ w ⟨_, l249, ⟨hp250, ho251⟩, rfl, rfl⟩ h
                    refine sq_p (.pointer (some ⟨k6, 0, none⟩)) rfl (fun _ => by kernel_rfl) ?_
                    refine sq_call #[.pointer (some ⟨k6, 0, none⟩)] [5, 5] rfl (rlist_spec k6 vp lp (Nat.le_trans (Nat.le_succ_of_le hlp) (by omega)) hL0.ok) (fun _ => by kernel_rfl) h ?_; rintro v253 L_ w ⟨_, R254, hR255, rfl, rfl⟩ h
                    have hRe := hL0.list hT0.1 hp250 ho251 hR255
                    subst hRe
                    refine sq_call #[v252, v253] [3, 0] rfl (sameLocks_spec v252 v253 (l249.map lkT) (map_len hp250 hT0)) (fun _ => by kernel_rfl) h ?_; rintro v_ L_ w ⟨rfl, rfl⟩ h
                    refine sq_p (.bool false) rfl (fun _ => by kernel_rfl) ?_
                    refine lnil ?_
                    refine thn_n ?_
                    refine c_false (by kernel_rfl) ?_
                    refine c_skip ?_
                    refine blk_n (thn_n ?_)
                    refine c_reg ?_
                    refine sq_p (.int .i64 (n0 : Int)) rfl (fun _ => by kernel_rfl) ?_
                    refine sq_q rfl h (g_eq (v := .int .i64 (IntKind.i64.wrap ((n0 : Int) + 1))) (v' := .int .i64 ((n0 + 1 : Nat) : Int)) (g_pure fun _ => by kernel_rfl) (wr (by omega))) ?_
                    refine sq_p (.int .i64 ((n0 + 1 : Nat) : Int)) rfl (fun _ => by kernel_rfl) ?_
                    refine lnil ?_
                    have hQ256 : ((n0 + 1) ≤ acts.length ∧ TabOk lt ∧ Tells lt lp ∧ lp.length ≤ (n0 + 1)) ∧ (acts.length - (n0 + 1)) < (acts.length - n0) := ⟨⟨by omega, hT0, hL0, (Nat.le_succ_of_le hlp)⟩, by omega⟩
                    refine loop_end (fun j => ⟨(n0 + 1), lt, vt, lp, vp, j⟩) hQ256 (by kernel_rfl) [3, 4, 2, 2, 5, 6, 2] (by kernel_rfl) h
                exact ad_nil
              exact ad_nil
            · skip
              have hxe := hL0.found hT0.1 hq230 (eOk_rng hq182) hq184
              rw [hq231] at hxe; cases hxe
          · skip
            refine sq_p (.tuple #[.agg #[.int .i64 0, .int .i64 0, .int .i64 0, .int .i64 0, .int .i64 0, .bool false], .nilIface]) rfl (fun _ => by kernel_rfl) ?_
            refine sq_p (.agg #[.int .i64 0, .int .i64 0, .int .i64 0, .int .i64 0, .int .i64 0, .bool false]) rfl (fun _ => by kernel_rfl) ?_
            refine sq_p (.nilIface) rfl (fun _ => by kernel_rfl) ?_
            refine sq_new rfl (fun b => .pointer (some ⟨b, 0, none⟩)) [.int .i64 0, .int .i64 0, .int .i64 0, .int .i64 0, .int .i64 0, .bool false] 67 (fun _ => by kernel_rfl) h ?_; intro k257 w h
            refine sq_st rfl 0 [.int .i64 0, .int .i64 0, .int .i64 0, .int .i64 0, .int .i64 0, .bool false] [.int .i64 0, .int .i64 0, .int .i64 0, .int .i64 0, .int .i64 0, .bool false] h 0 rfl (by kernel_rfl) ?_; intro w h
            refine sq_p (.nilIface) rfl (fun _ => by kernel_rfl) ?_
            refine lnil ?_
            refine thn_n ?_
            refine c_seq ?_
            refine c_reg ?_
            refine sq_p (.pointer (some ⟨k6, 0, none⟩)) rfl (fun _ => by kernel_rfl) ?_
            refine sq_p (.pointer (some ⟨k11, 1, none⟩)) rfl (fun _ => by kernel_rfl) ?_
            refine sq_q rfl h (g_ld 1 [.int .i64 x9.2.1.1, .int .i64 x9.2.1.2.1] (.agg #[.int .i64 x9.2.1.1, .int .i64 x9.2.1.2.1]) (by kernel_rfl) 4 rfl) ?_
            refine sq_p (.pointer (some ⟨k11, 3, none⟩)) rfl (fun _ => by kernel_rfl) ?_
            refine sq_q rfl h (g_ld 3 [.int .i64 x9.2.2.1] (.int .i64 x9.2.2.1) (by kernel_rfl) 4 rfl) ?_
            refine sq_p (.pointer (some ⟨k11, 4, none⟩)) rfl (fun _ => by kernel_rfl) ?_
            refine sq_q rfl h (g_ld 4 [.int .i64 x9.2.2.2.1.1, .int .i64 x9.2.2.2.1.2.1] (.agg #[.int .i64 x9.2.2.2.1.1, .int .i64 x9.2.2.2.1.2.1]) (by kernel_rfl) 4 rfl) ?_
            refine sq_p (.pointer (some ⟨k11, 6, none⟩)) rfl (fun _ => by kernel_rfl) ?_
            refine sq_q rfl h (g_ld 6 [.bool x9.2.2.2.2.1] (.bool x9.2.2.2.2.1) (by kernel_rfl) 4 rfl) ?_
            refine sq_call #[.pointer (some ⟨k6, 0, none⟩), .agg #[.int .i64 x9.2.1.1, .int .i64 x9.2.1.2.1], .int .i64 x9.2.2.1, .agg #[.int .i64 x9.2.2.2.1.1, .int .i64 x9.2.2.2.1.2.1], .bool x9.2.2.2.2.1] [6, 5] rfl (rtest_spec k6 vp lp (by omega) hL0.ok x9.2.1.1 x9.2.1.2.1 x9.2.2.1 x9.2.2.2.1.1 x9.2.2.2.1.2.1 x9.2.2.2.2.1) (fun _ => by kernel_rfl) h ?_; rintro v_ L_ w (⟨hq258, rfl, rfl⟩ | ⟨R259, x260, hq261, hq262, hq263, rfl, rfl⟩ | ⟨R264, hq265, hq266, hq267, rfl, rfl⟩) h
            · skip
              rw [hq182] at hq258; cases hq258
            · skip
              have hxe := hL0.notfound hT0.1 hq262 (eOk_rng hq182) hq184
              rw [hq263] at hxe; cases hxe
            · skip
              refine sq_p (.tuple #[.agg #[.int .i64 0, .int .i64 0, .int .i64 0, .int .i64 0, .int .i64 0, .bool false], .int .i64 0]) rfl (fun _ => by kernel_rfl) ?_
              refine sq_p (.agg #[.int .i64 0, .int .i64 0, .int .i64 0, .int .i64 0, .int .i64 0, .bool false]) rfl (fun _ => by kernel_rfl) ?_
              refine sq_p (.int .i64 0) rfl (fun _ => by kernel_rfl) ?_
              refine sq_new rfl (fun b => .pointer (some ⟨b, 0, none⟩)) [.int .i64 0, .int .i64 0, .int .i64 0, .int .i64 0, .int .i64 0, .bool false] 70 (fun _ => by kernel_rfl) h ?_; intro k268 w h
              refine sq_st rfl 0 [.int .i64 0, .int .i64 0, .int .i64 0, .int .i64 0, .int .i64 0, .bool false] [.int .i64 0, .int .i64 0, .int .i64 0, .int .i64 0, .int .i64 0, .bool false] h 0 rfl (by kernel_rfl) ?_; intro w h
              refine sq_p (.int .i64 0) rfl (fun _ => by kernel_rfl) ?_
              refine lnil ?_
              refine thn_n ?_
              refine c_seq ?_
              refine d_start 10 [0, 2] (by kernel_rfl) h fun w h => ?_
              refine d_take 0 2 [0, 2] rfl (v := .nilIface) (by kernel_rfl) (qp_thn (qp_blk (qp_thn (qp_blk (qp_thn (qp_rnd (qp_blk (qp_thn qp_body)))))))) (yq (by kernel_rfl) (g_pure (v := .nilIface) fun _ => by kernel_rfl)) h (by kernel_rfl) ?_
              refine d_take 1 1 [0, 2] rfl (v := .int .i64 0) (by kernel_rfl) (qp_thn (qp_blk (qp_thn (qp_blk (qp_thn (qp_rnd (qp_blk (qp_thn qp_body)))))))) (yq (by kernel_rfl) (g_pure (v := .int .i64 0) fun _ => by kernel_rfl)) h (by kernel_rfl) ?_
              refine d_ready [2] (by kernel_rfl) rfl ?_
              refine ad_call #[.nilIface, .int .i64 0] [9] [1, 3] rfl (by kernel_rfl) (coded2_spec ad 0 0 (by decide) (by decide)) (fun _ => by kernel_rfl) h ?_ ?_
              · skip
                rintro v_ L_ w ⟨rfl, rfl⟩ h
                refine ⟨by kernel_rfl, ?_⟩
                refine d_take 3 7 [1, 3] rfl (v := .bool false) (by kernel_rfl) (qp_thn (qp_blk (qp_thn (qp_blk (qp_thn (qp_rnd (qp_blk (qp_thn qp_body)))))))) (yq (by kernel_rfl) (g_pure (v := .bool false) fun _ => by kernel_rfl)) h (by kernel_rfl) ?_
                refine d_take 4 15 [1, 3] rfl (v := .bool false) (by kernel_rfl) (qp_thn (qp_blk (qp_thn (qp_blk (qp_thn (qp_rnd (qp_blk (qp_thn qp_body)))))))) (yq (by kernel_rfl) (g_pure (v := .bool false) fun _ => by kernel_rfl)) h (by kernel_rfl) ?_
                refine d_take 5 159 [1, 3] rfl (v := .agg #[.int .i64 0, .int .i64 0, .int .i64 0, .int .i64 0, .int .i64 0, .bool false]) (by kernel_rfl) (qp_thn (qp_blk (qp_thn (qp_blk (qp_thn (qp_rnd (qp_blk (qp_thn qp_body)))))))) (yq (by kernel_rfl) (g_ld 0 [.int .i64 0, .int .i64 0, .int .i64 0, .int .i64 0, .int .i64 0, .bool false] (.agg #[.int .i64 0, .int .i64 0, .int .i64 0, .int .i64 0, .int .i64 0, .bool false]) (by kernel_rfl) 1 rfl)) h (by kernel_rfl) ?_
                refine d_take 7 127 [1, 3] rfl (v := .agg #[.int .i64 0, .int .i64 0, .int .i64 0, .int .i64 0, .int .i64 0, .bool false]) (by kernel_rfl) (qp_thn (qp_blk (qp_thn (qp_blk (qp_thn (qp_rnd (qp_blk (qp_thn qp_body)))))))) (yq (by kernel_rfl) (g_ld 0 [.int .i64 0, .int .i64 0, .int .i64 0, .int .i64 0, .int .i64 0, .bool false] (.agg #[.int .i64 0, .int .i64 0, .int .i64 0, .int .i64 0, .int .i64 0, .bool false]) (by kernel_rfl) 0 rfl)) h (by kernel_rfl) ?_
                refine d_ready [6] (by kernel_rfl) rfl ?_
                refine ad_call #[.agg #[.int .i64 0, .int .i64 0, .int .i64 0, .int .i64 0, .int .i64 0, .bool false]] [] [1, 3] rfl (by kernel_rfl) (lockOf_spec 0 0 0 0 0 false) (fun _ => by kernel_rfl) h ?_ ?_
                · skip
                  rintro v_ L_ w ⟨rfl, rfl⟩ h
                  refine ⟨by kernel_rfl, ?_⟩
                  obtain ⟨b269, hb269⟩ : ∃ b_ : Bool, b_ = (!((decide ((0 : Int) = 0)) && ((decide ((0 : Int) = 0)) && ((decide ((0 : Int) = 0)) && ((decide ((0 : Int) = 0)) && ((decide ((0 : Int) = 0)) && (false == false))))))) := ⟨_, rfl⟩
                  refine d_take 8 255 [1, 3] rfl (v := .bool b269) (by kernel_rfl) (qp_thn (qp_blk (qp_thn (qp_blk (qp_thn (qp_rnd (qp_blk (qp_thn qp_body)))))))) (yq (by kernel_rfl) (by subst hb269; exact g_neL6 (by kernel_rfl))) h (by kernel_rfl) ?_
                  refine d_take 9 511 [1, 3] rfl (v := .bool b269) (by kernel_rfl) (qp_thn (qp_blk (qp_thn (qp_blk (qp_thn (qp_rnd (qp_blk (qp_thn qp_body)))))))) (yq (by kernel_rfl) (g_pure (v := .bool b269) fun _ => by kernel_rfl)) h (by kernel_rfl) ?_
                  refine d_done (by kernel_rfl) ?_
                  refine thn_n ?_
                  refine c_cond (b269) (by kernel_rfl) (fun hc270 => ?_) (fun hc270 => ?_)
                  · skip
                    have q271 : (!((decide ((0 : Int) = 0)) && ((decide ((0 : Int) = 0)) && ((decide ((0 : Int) = 0)) && ((decide ((0 : Int) = 0)) && ((decide ((0 : Int) = 0)) && (false == false))))))) = true := by rw [← hb269]; exact hc270
                    have q272 : ((decide ((0 : Int) = 0)) && ((decide ((0 : Int) = 0)) && ((decide ((0 : Int) = 0)) && ((decide ((0 : Int) = 0)) && ((decide ((0 : Int) = 0)) && (false == false)))))) = false := by revert q271; cases ((decide ((0 : Int) = 0)) && ((decide ((0 : Int) = 0)) && ((decide ((0 : Int) = 0)) && ((decide ((0 : Int) = 0)) && ((decide ((0 : Int) = 0)) && (false == false)))))) <;> simp
                    exfalso; revert hc270; subst hb269; simp [lkT]
                  · skip
                    have q273 : (!((decide ((0 : Int) = 0)) && ((decide ((0 : Int) = 0)) && ((decide ((0 : Int) = 0)) && ((decide ((0 : Int) = 0)) && ((decide ((0 : Int) = 0)) && (false == false))))))) = false := by rw [← hb269]; exact hc270
                    have q274 : ((decide ((0 : Int) = 0)) && ((decide ((0 : Int) = 0)) && ((decide ((0 : Int) = 0)) && ((decide ((0 : Int) = 0)) && ((decide ((0 : Int) = 0)) && (false == false)))))) = true := by revert q273; cases ((decide ((0 : Int) = 0)) && ((decide ((0 : Int) = 0)) && ((decide ((0 : Int) = 0)) && ((decide ((0 : Int) = 0)) && ((decide ((0 : Int) = 0)) && (false == false)))))) <;> simp
                    have q275 : (decide ((0 : Int) = 0)) = true := by revert q274; cases (decide ((0 : Int) = 0)) <;> simp
                    have q276 : ((decide ((0 : Int) = 0)) && ((decide ((0 : Int) = 0)) && ((decide ((0 : Int) = 0)) && ((decide ((0 : Int) = 0)) && (false == false))))) = true := by revert q274; cases (decide ((0 : Int) = 0)) <;> cases ((decide ((0 : Int) = 0)) && ((decide ((0 : Int) = 0)) && ((decide ((0 : Int) = 0)) && ((decide ((0 : Int) = 0)) && (false == false))))) <;> simp
                    have q275 := of_decide_eq_true q275
                    have q277 : (decide ((0 : Int) = 0)) = true := by revert q276; cases (decide ((0 : Int) = 0)) <;> simp
                    have q278 : ((decide ((0 : Int) = 0)) && ((decide ((0 : Int) = 0)) && ((decide ((0 : Int) = 0)) && (false == false)))) = true := by revert q276; cases (decide ((0 : Int) = 0)) <;> cases ((decide ((0 : Int) = 0)) && ((decide ((0 : Int) = 0)) && ((decide ((0 : Int) = 0)) && (false == false)))) <;> simp
                    have q277 := of_decide_eq_true q277
                    have q279 : (decide ((0 : Int) = 0)) = true := by revert q278; cases (decide ((0 : Int) = 0)) <;> simp
                    have q280 : ((decide ((0 : Int) = 0)) && ((decide ((0 : Int) = 0)) && (false == false))) = true := by revert q278; cases (decide ((0 : Int) = 0)) <;> cases ((decide ((0 : Int) = 0)) && ((decide ((0 : Int) = 0)) && (false == false))) <;> simp
                    have q279 := of_decide_eq_true q279
                    have q281 : (decide ((0 : Int) = 0)) = true := by revert q280; cases (decide ((0 : Int) = 0)) <;> simp
                    have q282 : ((decide ((0 : Int) = 0)) && (false == false)) = true := by revert q280; cases (decide ((0 : Int) = 0)) <;> cases ((decide ((0 : Int) = 0)) && (false == false)) <;> simp
                    have q281 := of_decide_eq_true q281
                    have q283 : (decide ((0 : Int) = 0)) = true := by revert q282; cases (decide ((0 : Int) = 0)) <;> simp
                    have q284 : (false == false) = true := by revert q282; cases (decide ((0 : Int) = 0)) <;> cases (false == false) <;> simp
                    have q283 := of_decide_eq_true q283
                    have q284 := eq_of_beq q284
                    refine c_skip ?_
                    refine blk_n (thn_n ?_)
                    refine c_seq ?_
                    refine c_reg ?_
                    refine sq_p (.pointer (some ⟨k5, 0, none⟩)) rfl (fun _ => by kernel_rfl) ?_
                    refine sq_call #[.pointer (some ⟨k5, 0, none⟩)] [5, 5] rfl (list_spec k5 vt lt hT0.1.bnd hT0.small) (fun _ => by kernel_rfl) h ?_; rintro v288 L_ w ⟨_, l285, ⟨hp286, ho287⟩, rfl, rfl⟩ h
                    refine sq_p (.pointer (some ⟨k6, 0, none⟩)) rfl (fun _ => by kernel_rfl) ?_
                    refine sq_call #[.pointer (some ⟨k6, 0, none⟩)] [5, 5] rfl (rlist_spec k6 vp lp (Nat.le_trans (Nat.le_succ_of_le hlp) (by omega)) hL0.ok) (fun _ => by kernel_rfl) h ?_; rintro v289 L_ w ⟨_, R290, hR291, rfl, rfl⟩ h
                    have hRe := hL0.list hT0.1 hp286 ho287 hR291
                    subst hRe
                    refine sq_call #[v288, v289] [3, 0] rfl (sameLocks_spec v288 v289 (l285.map lkT) (map_len hp286 hT0)) (fun _ => by kernel_rfl) h ?_; rintro v_ L_ w ⟨rfl, rfl⟩ h
                    refine sq_p (.bool false) rfl (fun _ => by kernel_rfl) ?_
                    refine lnil ?_
                    refine thn_n ?_
                    refine c_false (by kernel_rfl) ?_
                    refine c_skip ?_
                    refine blk_n (thn_n ?_)
                    refine c_reg ?_
                    refine sq_p (.int .i64 (n0 : Int)) rfl (fun _ => by kernel_rfl) ?_
                    refine sq_q rfl h (g_eq (v := .int .i64 (IntKind.i64.wrap ((n0 : Int) + 1))) (v' := .int .i64 ((n0 + 1 : Nat) : Int)) (g_pure fun _ => by kernel_rfl) (wr (by omega))) ?_
                    refine sq_p (.int .i64 ((n0 + 1 : Nat) : Int)) rfl (fun _ => by kernel_rfl) ?_
                    refine lnil ?_
                    have hQ292 : ((n0 + 1) ≤ acts.length ∧ TabOk lt ∧ Tells lt lp ∧ lp.length ≤ (n0 + 1)) ∧ (acts.length - (n0 + 1)) < (acts.length - n0) := ⟨⟨by omega, hT0, hL0, (Nat.le_succ_of_le hlp)⟩, by omega⟩
                    refine loop_end (fun j => ⟨(n0 + 1), lt, vt, lp, vp, j⟩) hQ292 (by kernel_rfl) [3, 4, 2, 2, 5, 6, 2] (by kernel_rfl) h
                exact ad_nil
              exact ad_nil
        · skip
          have hc181 := of_decide_eq_false hc181
          refine c_seq ?_
          refine c_reg ?_
          refine sq_q rfl h (g_eq (v := .bool (x9.1.toList == (⟨#[117, 110, 108, 111, 99, 107]⟩ : ByteArray).toList)) (v' := .bool (decide (x9.1 = (⟨#[117, 110, 108, 111, 99, 107]⟩ : ByteArray)))) (g_pure fun _ => by kernel_rfl) beqS) ?_
          refine sq_p (.bool (decide (x9.1 = (⟨#[117, 110, 108, 111, 99, 107]⟩ : ByteArray)))) rfl (fun _ => by kernel_rfl) ?_
          refine lnil ?_
          refine thn_n ?_
          refine c_cond (decide (x9.1 = (⟨#[117, 110, 108, 111, 99, 107]⟩ : ByteArray))) (by kernel_rfl) (fun hc293 => ?_) (fun hc293 => ?_)
          · skip
            have hc293 := of_decide_eq_true hc293
            refine c_seq ?_
            refine d_start 18 [0] (by kernel_rfl) h fun w h => ?_
            refine d_take 0 32638 [0] rfl (v := .pointer (some ⟨k5, 0, none⟩)) (by kernel_rfl) (qp_thn (qp_blk (qp_thn (qp_blk (qp_thn (qp_rnd (qp_blk (qp_thn qp_body)))))))) (yq (by kernel_rfl) (g_pure (v := .pointer (some ⟨k5, 0, none⟩)) fun _ => by kernel_rfl)) h (by kernel_rfl) ?_
            refine d_take 1 32633 [0] rfl (v := .pointer (some ⟨k11, 1, none⟩)) (by kernel_rfl) (qp_thn (qp_blk (qp_thn (qp_blk (qp_thn (qp_rnd (qp_blk (qp_thn qp_body)))))))) (yq (by kernel_rfl) (g_pure (v := .pointer (some ⟨k11, 1, none⟩)) fun _ => by kernel_rfl)) h (by kernel_rfl) ?_
            refine d_take 2 32635 [0] rfl (v := .agg #[.int .i64 x9.2.1.1, .int .i64 x9.2.1.2.1]) (by kernel_rfl) (qp_thn (qp_blk (qp_thn (qp_blk (qp_thn (qp_rnd (qp_blk (qp_thn qp_body)))))))) (yq (by kernel_rfl) (g_ld 1 [.int .i64 x9.2.1.1, .int .i64 x9.2.1.2.1] (.agg #[.int .i64 x9.2.1.1, .int .i64 x9.2.1.2.1]) (by kernel_rfl) 0 rfl)) h (by kernel_rfl) ?_
            refine d_take 3 32615 [0] rfl (v := .pointer (some ⟨k11, 3, none⟩)) (by kernel_rfl) (qp_thn (qp_blk (qp_thn (qp_blk (qp_thn (qp_rnd (qp_blk (qp_thn qp_body)))))))) (yq (by kernel_rfl) (g_pure (v := .pointer (some ⟨k11, 3, none⟩)) fun _ => by kernel_rfl)) h (by kernel_rfl) ?_
            refine d_take 4 32623 [0] rfl (v := .int .i64 x9.2.2.1) (by kernel_rfl) (qp_thn (qp_blk (qp_thn (qp_blk (qp_thn (qp_rnd (qp_blk (qp_thn qp_body)))))))) (yq (by kernel_rfl) (g_ld 3 [.int .i64 x9.2.2.1] (.int .i64 x9.2.2.1) (by kernel_rfl) 0 rfl)) h (by kernel_rfl) ?_
            refine d_take 5 32543 [0] rfl (v := .pointer (some ⟨k11, 4, none⟩)) (by kernel_rfl) (qp_thn (qp_blk (qp_thn (qp_blk (qp_thn (qp_rnd (qp_blk (qp_thn qp_body)))))))) (yq (by kernel_rfl) (g_pure (v := .pointer (some ⟨k11, 4, none⟩)) fun _ => by kernel_rfl)) h (by kernel_rfl) ?_
            refine d_take 6 32575 [0] rfl (v := .agg #[.int .i64 x9.2.2.2.1.1, .int .i64 x9.2.2.2.1.2.1]) (by kernel_rfl) (qp_thn (qp_blk (qp_thn (qp_blk (qp_thn (qp_rnd (qp_blk (qp_thn qp_body)))))))) (yq (by kernel_rfl) (g_ld 4 [.int .i64 x9.2.2.2.1.1, .int .i64 x9.2.2.2.1.2.1] (.agg #[.int .i64 x9.2.2.2.1.1, .int .i64 x9.2.2.2.1.2.1]) (by kernel_rfl) 0 rfl)) h (by kernel_rfl) ?_
            refine d_take 8 32511 [0] rfl (v := .pointer (some ⟨k6, 0, none⟩)) (by kernel_rfl) (qp_thn (qp_blk (qp_thn (qp_blk (qp_thn (qp_rnd (qp_blk (qp_thn qp_body)))))))) (yq (by kernel_rfl) (g_pure (v := .pointer (some ⟨k6, 0, none⟩)) fun _ => by kernel_rfl)) h (by kernel_rfl) ?_
            refine d_take 9 31231 [0] rfl (v := .pointer (some ⟨k11, 1, none⟩)) (by kernel_rfl) (qp_thn (qp_blk (qp_thn (qp_blk (qp_thn (qp_rnd (qp_blk (qp_thn qp_body)))))))) (yq (by kernel_rfl) (g_pure (v := .pointer (some ⟨k11, 1, none⟩)) fun _ => by kernel_rfl)) h (by kernel_rfl) ?_
            refine d_take 10 31743 [0] rfl (v := .agg #[.int .i64 x9.2.1.1, .int .i64 x9.2.1.2.1]) (by kernel_rfl) (qp_thn (qp_blk (qp_thn (qp_blk (qp_thn (qp_rnd (qp_blk (qp_thn qp_body)))))))) (yq (by kernel_rfl) (g_ld 1 [.int .i64 x9.2.1.1, .int .i64 x9.2.1.2.1] (.agg #[.int .i64 x9.2.1.1, .int .i64 x9.2.1.2.1]) (by kernel_rfl) 0 rfl)) h (by kernel_rfl) ?_
            refine d_take 11 26623 [0] rfl (v := .pointer (some ⟨k11, 3, none⟩)) (by kernel_rfl) (qp_thn (qp_blk (qp_thn (qp_blk (qp_thn (qp_rnd (qp_blk (qp_thn qp_body)))))))) (yq (by kernel_rfl) (g_pure (v := .pointer (some ⟨k11, 3, none⟩)) fun _ => by kernel_rfl)) h (by kernel_rfl) ?_
            refine d_take 12 28671 [0] rfl (v := .int .i64 x9.2.2.1) (by kernel_rfl) (qp_thn (qp_blk (qp_thn (qp_blk (qp_thn (qp_rnd (qp_blk (qp_thn qp_body)))))))) (yq (by kernel_rfl) (g_ld 3 [.int .i64 x9.2.2.1] (.int .i64 x9.2.2.1) (by kernel_rfl) 0 rfl)) h (by kernel_rfl) ?_
            refine d_take 13 8191 [0] rfl (v := .pointer (some ⟨k11, 4, none⟩)) (by kernel_rfl) (qp_thn (qp_blk (qp_thn (qp_blk (qp_thn (qp_rnd (qp_blk (qp_thn qp_body)))))))) (yq (by kernel_rfl) (g_pure (v := .pointer (some ⟨k11, 4, none⟩)) fun _ => by kernel_rfl)) h (by kernel_rfl) ?_
            refine d_take 14 16383 [0] rfl (v := .agg #[.int .i64 x9.2.2.2.1.1, .int .i64 x9.2.2.2.1.2.1]) (by kernel_rfl) (qp_thn (qp_blk (qp_thn (qp_blk (qp_thn (qp_rnd (qp_blk (qp_thn qp_body)))))))) (yq (by kernel_rfl) (g_ld 4 [.int .i64 x9.2.2.2.1.1, .int .i64 x9.2.2.2.1.2.1] (.agg #[.int .i64 x9.2.2.2.1.1, .int .i64 x9.2.2.2.1.2.1]) (by kernel_rfl) 0 rfl)) h (by kernel_rfl) ?_
            refine d_ready [7] (by kernel_rfl) rfl ?_
            refine ad_call #[.pointer (some ⟨k5, 0, none⟩), .agg #[.int .i64 x9.2.1.1, .int .i64 x9.2.1.2.1], .int .i64 x9.2.2.1, .agg #[.int .i64 x9.2.2.2.1.1, .int .i64 x9.2.2.2.1.2.1]] [4, 2, 3] [3] rfl (by kernel_rfl) (unlock_spec ad k5 vt lt x9.2.1.1 x9.2.1.2.1 x9.2.2.1 x9.2.2.2.1.1 x9.2.2.2.1.2.1 hT0.small) (fun _ => by kernel_rfl) h ?_ ?_
            · skip
              rintro v_ L_ w (⟨hq294, rfl, rfl⟩ | ⟨hq294, hq295, rfl, rfl⟩ | ⟨hq294, hq295, v296, rfl, rfl⟩) h
              · skip
                refine ⟨by kernel_rfl, ?_⟩
                refine d_ready [15] (by kernel_rfl) rfl ?_
                refine ad_call #[.pointer (some ⟨k6, 0, none⟩), .agg #[.int .i64 x9.2.1.1, .int .i64 x9.2.1.2.1], .int .i64 x9.2.2.1, .agg #[.int .i64 x9.2.2.2.1.1, .int .i64 x9.2.2.2.1.2.1]] [5, 4] [5] rfl (by kernel_rfl) (runlock_spec k6 vp lp (by omega) hL0.ok x9.2.1.1 x9.2.1.2.1 x9.2.2.1 x9.2.2.2.1.1 x9.2.2.2.1.2.1) (fun _ => by kernel_rfl) h ?_ ?_
                · skip
                  rintro v_ L_ w (⟨hq299, rfl, rfl⟩ | ⟨R300, hq301, hq302, ⟨hq303, rfl, rfl⟩ | ⟨hq303, v304, rfl, rfl⟩⟩) h
                  · skip
                    refine ⟨by kernel_rfl, ?_⟩
                    refine d_ready [16] (by kernel_rfl) rfl ?_
                    refine ad_call #[errV ad 2, .int .i64 2] [7] [6] rfl (by kernel_rfl) (coded2_spec ad 2 2 (by decide) (by decide)) (fun _ => by kernel_rfl) h ?_ ?_
                    · skip
                      rintro v_ L_ w ⟨rfl, rfl⟩ h
                      refine ⟨by kernel_rfl, ?_⟩
                      refine d_take 17 131071 [6] rfl (v := .bool false) (by kernel_rfl) (qp_thn (qp_blk (qp_thn (qp_blk (qp_thn (qp_rnd (qp_blk (qp_thn qp_body)))))))) (yq (by kernel_rfl) (g_pure (v := .bool false) fun _ => by kernel_rfl)) h (by kernel_rfl) ?_
                      refine d_done (by kernel_rfl) ?_
                      refine thn_n ?_
                      refine c_false (by kernel_rfl) ?_
                      refine c_skip ?_
                      refine blk_n (thn_n ?_)
                      refine c_seq ?_
                      refine c_reg ?_
                      refine sq_p (.pointer (some ⟨k5, 0, none⟩)) rfl (fun _ => by kernel_rfl) ?_
                      refine sq_call #[.pointer (some ⟨k5, 0, none⟩)] [3, 3] rfl (list_spec k5 vt lt hT0.1.bnd hT0.small) (fun _ => by kernel_rfl) h ?_; rintro v308 L_ w ⟨_, l305, ⟨hp306, ho307⟩, rfl, rfl⟩ h
                      refine sq_p (.pointer (some ⟨k6, 0, none⟩)) rfl (fun _ => by kernel_rfl) ?_
                      refine sq_call #[.pointer (some ⟨k6, 0, none⟩)] [4, 4] rfl (rlist_spec k6 vp lp (Nat.le_trans (Nat.le_succ_of_le hlp) (by omega)) hL0.ok) (fun _ => by kernel_rfl) h ?_; rintro v309 L_ w ⟨_, R310, hR311, rfl, rfl⟩ h
                      have hRe := hL0.list hT0.1 hp306 ho307 hR311
                      subst hRe
                      refine sq_call #[v308, v309] [3, 0] rfl (sameLocks_spec v308 v309 (l305.map lkT) (map_len hp306 hT0)) (fun _ => by kernel_rfl) h ?_; rintro v_ L_ w ⟨rfl, rfl⟩ h
                      refine sq_p (.bool false) rfl (fun _ => by kernel_rfl) ?_
                      refine lnil ?_
                      refine thn_n ?_
                      refine c_false (by kernel_rfl) ?_
                      refine c_skip ?_
                      refine blk_n (thn_n ?_)
                      refine c_reg ?_
                      refine sq_p (.int .i64 (n0 : Int)) rfl (fun _ => by kernel_rfl) ?_
                      refine sq_q rfl h (g_eq (v := .int .i64 (IntKind.i64.wrap ((n0 : Int) + 1))) (v' := .int .i64 ((n0 + 1 : Nat) : Int)) (g_pure fun _ => by kernel_rfl) (wr (by omega))) ?_
                      refine sq_p (.int .i64 ((n0 + 1 : Nat) : Int)) rfl (fun _ => by kernel_rfl) ?_
                      refine lnil ?_
                      have hQ312 : ((n0 + 1) ≤ acts.length ∧ TabOk lt ∧ Tells lt lp ∧ lp.length ≤ (n0 + 1)) ∧ (acts.length - (n0 + 1)) < (acts.length - n0) := ⟨⟨by omega, hT0, hL0, (Nat.le_succ_of_le hlp)⟩, by omega⟩
                      refine loop_end (fun j => ⟨(n0 + 1), lt, vt, lp, vp, j⟩) hQ312 (by kernel_rfl) [3, 4, 2, 2, 3, 4, 2] (by kernel_rfl) h
                    exact ad_nil
                  · skip
                    refine ⟨by kernel_rfl, ?_⟩
                    rw [hq294] at hq301; cases hq301
                  · skip
                    refine ⟨by kernel_rfl, ?_⟩
                    rw [hq294] at hq301; cases hq301
                exact ad_nil
              · skip
                refine ⟨by kernel_rfl, ?_⟩
                have hLT298 : RunsOk _ ∧ Tells _ _ := ⟨hT0.1.cut (x9.2.1.1, x9.2.1.2.1) x9.2.2.1 (eOk_rng hq294), hL0.cut hT0.1.bnd (h := (x9.2.1.1, x9.2.1.2.1)) (o := x9.2.2.1) (eOk_rng hq294)⟩
                refine d_ready [15] (by kernel_rfl) rfl ?_
                refine ad_call #[.pointer (some ⟨k6, 0, none⟩), .agg #[.int .i64 x9.2.1.1, .int .i64 x9.2.1.2.1], .int .i64 x9.2.2.1, .agg #[.int .i64 x9.2.2.2.1.1, .int .i64 x9.2.2.2.1.2.1]] [5, 4] [5] rfl (by kernel_rfl) (runlock_spec k6 vp lp (by omega) hL0.ok x9.2.1.1 x9.2.1.2.1 x9.2.2.1 x9.2.2.2.1.1 x9.2.2.2.1.2.1) (fun _ => by kernel_rfl) h ?_ ?_
                · skip
                  rintro v_ L_ w (⟨hq313, rfl, rfl⟩ | ⟨R314, hq315, hq316, ⟨hq317, rfl, rfl⟩ | ⟨hq317, v318, rfl, rfl⟩⟩) h
                  · skip
                    refine ⟨by kernel_rfl, ?_⟩
                    rw [hq294] at hq313; cases hq313
                  · skip
                    refine ⟨by kernel_rfl, ?_⟩
                    refine d_ready [16] (by kernel_rfl) rfl ?_
                    refine ad_call #[errV ad 9, .int .i64 9] [7] [6] rfl (by kernel_rfl) (coded2_spec ad 9 9 (by decide) (by decide)) (fun _ => by kernel_rfl) h ?_ ?_
                    · skip
                      rintro v_ L_ w ⟨rfl, rfl⟩ h
                      refine ⟨by kernel_rfl, ?_⟩
                      refine d_take 17 131071 [6] rfl (v := .bool false) (by kernel_rfl) (qp_thn (qp_blk (qp_thn (qp_blk (qp_thn (qp_rnd (qp_blk (qp_thn qp_body)))))))) (yq (by kernel_rfl) (g_pure (v := .bool false) fun _ => by kernel_rfl)) h (by kernel_rfl) ?_
                      refine d_done (by kernel_rfl) ?_
                      refine thn_n ?_
                      refine c_false (by kernel_rfl) ?_
                      refine c_skip ?_
                      refine blk_n (thn_n ?_)
                      refine c_seq ?_
                      refine c_reg ?_
                      refine sq_p (.pointer (some ⟨k5, 0, none⟩)) rfl (fun _ => by kernel_rfl) ?_
                      refine sq_call #[.pointer (some ⟨k5, 0, none⟩)] [3, 3] rfl (list_spec k5 vt lt hT0.1.bnd hT0.small) (fun _ => by kernel_rfl) h ?_; rintro v322 L_ w ⟨_, l319, ⟨hp320, ho321⟩, rfl, rfl⟩ h
                      refine sq_p (.pointer (some ⟨k6, 0, none⟩)) rfl (fun _ => by kernel_rfl) ?_
                      refine sq_call #[.pointer (some ⟨k6, 0, none⟩)] [4, 4] rfl (rlist_spec k6 vp lp (Nat.le_trans (Nat.le_succ_of_le hlp) (by omega)) hL0.ok) (fun _ => by kernel_rfl) h ?_; rintro v323 L_ w ⟨_, R324, hR325, rfl, rfl⟩ h
                      have hRe := hL0.list hT0.1 hp320 ho321 hR325
                      subst hRe
                      refine sq_call #[v322, v323] [3, 0] rfl (sameLocks_spec v322 v323 (l319.map lkT) (map_len hp320 hT0)) (fun _ => by kernel_rfl) h ?_; rintro v_ L_ w ⟨rfl, rfl⟩ h
                      refine sq_p (.bool false) rfl (fun _ => by kernel_rfl) ?_
                      refine lnil ?_
                      refine thn_n ?_
                      refine c_false (by kernel_rfl) ?_
                      refine c_skip ?_
                      refine blk_n (thn_n ?_)
                      refine c_reg ?_
                      refine sq_p (.int .i64 (n0 : Int)) rfl (fun _ => by kernel_rfl) ?_
                      refine sq_q rfl h (g_eq (v := .int .i64 (IntKind.i64.wrap ((n0 : Int) + 1))) (v' := .int .i64 ((n0 + 1 : Nat) : Int)) (g_pure fun _ => by kernel_rfl) (wr (by omega))) ?_
                      refine sq_p (.int .i64 ((n0 + 1 : Nat) : Int)) rfl (fun _ => by kernel_rfl) ?_
                      refine lnil ?_
                      have hQ326 : ((n0 + 1) ≤ acts.length ∧ TabOk lt ∧ Tells lt lp ∧ lp.length ≤ (n0 + 1)) ∧ (acts.length - (n0 + 1)) < (acts.length - n0) := ⟨⟨by omega, hT0, hL0, (Nat.le_succ_of_le hlp)⟩, by omega⟩
                      refine loop_end (fun j => ⟨(n0 + 1), lt, vt, lp, vp, j⟩) hQ326 (by kernel_rfl) [3, 4, 2, 2, 3, 4, 2] (by kernel_rfl) h
                    exact ad_nil
                  · skip
                    refine ⟨by kernel_rfl, ?_⟩
                    have hcn := hLT298.2.len hLT298.1 hq316
                    exfalso; omega
                exact ad_nil
              · skip
                refine ⟨by kernel_rfl, ?_⟩
                have hT297 := hT0.unlock (h := (x9.2.1.1, x9.2.1.2.1)) (o := x9.2.2.1) hq294 hq295
                have hLT298 : RunsOk _ ∧ Tells _ _ := ⟨hT0.1.cut (x9.2.1.1, x9.2.1.2.1) x9.2.2.1 (eOk_rng hq294), hL0.cut hT0.1.bnd (h := (x9.2.1.1, x9.2.1.2.1)) (o := x9.2.2.1) (eOk_rng hq294)⟩
                refine d_ready [15] (by kernel_rfl) rfl ?_
                refine ad_call #[.pointer (some ⟨k6, 0, none⟩), .agg #[.int .i64 x9.2.1.1, .int .i64 x9.2.1.2.1], .int .i64 x9.2.2.1, .agg #[.int .i64 x9.2.2.2.1.1, .int .i64 x9.2.2.2.1.2.1]] [5, 4] [5] rfl (by kernel_rfl) (runlock_spec k6 vp lp (by omega) hL0.ok x9.2.1.1 x9.2.1.2.1 x9.2.2.1 x9.2.2.2.1.1 x9.2.2.2.1.2.1) (fun _ => by kernel_rfl) h ?_ ?_
                · skip
                  rintro v_ L_ w (⟨hq327, rfl, rfl⟩ | ⟨R328, hq329, hq330, ⟨hq331, rfl, rfl⟩ | ⟨hq331, v332, rfl, rfl⟩⟩) h
                  · skip
                    refine ⟨by kernel_rfl, ?_⟩
                    rw [hq294] at hq327; cases hq327
                  · skip
                    refine ⟨by kernel_rfl, ?_⟩
                    have hcn := hLT298.2.len hLT298.1 hq330
                    exfalso; omega
                  · skip
                    refine ⟨by kernel_rfl, ?_⟩
                    refine d_ready [16] (by kernel_rfl) rfl ?_
                    refine ad_call #[.nilIface, .int .i64 0] [7] [6] rfl (by kernel_rfl) (coded2_spec ad 0 0 (by decide) (by decide)) (fun _ => by kernel_rfl) h ?_ ?_
                    · skip
                      rintro v_ L_ w ⟨rfl, rfl⟩ h
                      refine ⟨by kernel_rfl, ?_⟩
                      refine d_take 17 131071 [6] rfl (v := .bool false) (by kernel_rfl) (qp_thn (qp_blk (qp_thn (qp_blk (qp_thn (qp_rnd (qp_blk (qp_thn qp_body)))))))) (yq (by kernel_rfl) (g_pure (v := .bool false) fun _ => by kernel_rfl)) h (by kernel_rfl) ?_
                      refine d_done (by kernel_rfl) ?_
                      refine thn_n ?_
                      refine c_false (by kernel_rfl) ?_
                      refine c_skip ?_
                      refine blk_n (thn_n ?_)
                      refine c_seq ?_
                      refine c_reg ?_
                      refine sq_p (.pointer (some ⟨k5, 0, none⟩)) rfl (fun _ => by kernel_rfl) ?_
                      refine sq_call #[.pointer (some ⟨k5, 0, none⟩)] [3, 3] rfl (list_spec k5 v296 (cutL lt (x9.2.1.1, x9.2.1.2.1) x9.2.2.1 (eF x9.2.2.2.1.1 x9.2.2.2.1.2.1) (eT x9.2.2.2.1.1 x9.2.2.2.1.2.1)) hT297.1.bnd hT297.small) (fun _ => by kernel_rfl) h ?_; rintro v336 L_ w ⟨_, l333, ⟨hp334, ho335⟩, rfl, rfl⟩ h
                      refine sq_p (.pointer (some ⟨k6, 0, none⟩)) rfl (fun _ => by kernel_rfl) ?_
                      refine sq_call #[.pointer (some ⟨k6, 0, none⟩)] [4, 4] rfl (rlist_spec k6 v332 (lp ++ [((x9.2.1.1, x9.2.1.2.1), x9.2.2.1, eF x9.2.2.2.1.1 x9.2.2.2.1.2.1, endN (eT x9.2.2.2.1.1 x9.2.2.2.1.2.1), 0)]) (Nat.le_trans (snoc_len hlp) (by omega)) hLT298.2.ok) (fun _ => by kernel_rfl) h ?_; rintro v337 L_ w ⟨_, R338, hR339, rfl, rfl⟩ h
                      have hRe := hLT298.2.list hT297.1 hp334 ho335 hR339
                      subst hRe
                      refine sq_call #[v336, v337] [3, 0] rfl (sameLocks_spec v336 v337 (l333.map lkT) (map_len hp334 hT297)) (fun _ => by kernel_rfl) h ?_; rintro v_ L_ w ⟨rfl, rfl⟩ h
                      refine sq_p (.bool false) rfl (fun _ => by kernel_rfl) ?_
                      refine lnil ?_
                      refine thn_n ?_
                      refine c_false (by kernel_rfl) ?_
                      refine c_skip ?_
                      refine blk_n (thn_n ?_)
                      refine c_reg ?_
                      refine sq_p (.int .i64 (n0 : Int)) rfl (fun _ => by kernel_rfl) ?_
                      refine sq_q rfl h (g_eq (v := .int .i64 (IntKind.i64.wrap ((n0 : Int) + 1))) (v' := .int .i64 ((n0 + 1 : Nat) : Int)) (g_pure fun _ => by kernel_rfl) (wr (by omega))) ?_
                      refine sq_p (.int .i64 ((n0 + 1 : Nat) : Int)) rfl (fun _ => by kernel_rfl) ?_
                      refine lnil ?_
                      have hQ340 : ((n0 + 1) ≤ acts.length ∧ TabOk (cutL lt (x9.2.1.1, x9.2.1.2.1) x9.2.2.1 (eF x9.2.2.2.1.1 x9.2.2.2.1.2.1) (eT x9.2.2.2.1.1 x9.2.2.2.1.2.1)) ∧ Tells (cutL lt (x9.2.1.1, x9.2.1.2.1) x9.2.2.1 (eF x9.2.2.2.1.1 x9.2.2.2.1.2.1) (eT x9.2.2.2.1.1 x9.2.2.2.1.2.1)) (lp ++ [((x9.2.1.1, x9.2.1.2.1), x9.2.2.1, eF x9.2.2.2.1.1 x9.2.2.2.1.2.1, endN (eT x9.2.2.2.1.1 x9.2.2.2.1.2.1), 0)]) ∧ (lp ++ [((x9.2.1.1, x9.2.1.2.1), x9.2.2.1, eF x9.2.2.2.1.1 x9.2.2.2.1.2.1, endN (eT x9.2.2.2.1.1 x9.2.2.2.1.2.1), 0)]).length ≤ (n0 + 1)) ∧ (acts.length - (n0 + 1)) < (acts.length - n0) := ⟨⟨by omega, hT297, hLT298.2, (snoc_len hlp)⟩, by omega⟩
                      refine loop_end (fun j => ⟨(n0 + 1), cutL lt (x9.2.1.1, x9.2.1.2.1) x9.2.2.1 (eF x9.2.2.2.1.1 x9.2.2.2.1.2.1) (eT x9.2.2.2.1.1 x9.2.2.2.1.2.1), v296, lp ++ [((x9.2.1.1, x9.2.1.2.1), x9.2.2.1, eF x9.2.2.2.1.1 x9.2.2.2.1.2.1, endN (eT x9.2.2.2.1.1 x9.2.2.2.1.2.1), 0)], v332, j⟩) hQ340 (by kernel_rfl) [3, 4, 2, 2, 3, 4, 2] (by kernel_rfl) h
                    exact ad_nil
                exact ad_nil
            exact ad_nil
          · skip
            have hc293 := of_decide_eq_false hc293
            refine c_seq ?_
            refine d_start 13 [0] (by kernel_rfl) h fun w h => ?_
            refine d_take 0 2014 [0] rfl (v := .pointer (some ⟨k5, 0, none⟩)) (by kernel_rfl) (qp_thn (qp_blk (qp_thn (qp_blk (qp_thn (qp_rnd (qp_blk (qp_thn qp_body)))))))) (yq (by kernel_rfl) (g_pure (v := .pointer (some ⟨k5, 0, none⟩)) fun _ => by kernel_rfl)) h (by kernel_rfl) ?_
            refine d_take 1 2009 [0] rfl (v := .pointer (some ⟨k11, 1, none⟩)) (by kernel_rfl) (qp_thn (qp_blk (qp_thn (qp_blk (qp_thn (qp_rnd (qp_blk (qp_thn qp_body)))))))) (yq (by kernel_rfl) (g_pure (v := .pointer (some ⟨k11, 1, none⟩)) fun _ => by kernel_rfl)) h (by kernel_rfl) ?_
            refine d_take 2 2011 [0] rfl (v := .agg #[.int .i64 x9.2.1.1, .int .i64 x9.2.1.2.1]) (by kernel_rfl) (qp_thn (qp_blk (qp_thn (qp_blk (qp_thn (qp_rnd (qp_blk (qp_thn qp_body)))))))) (yq (by kernel_rfl) (g_ld 1 [.int .i64 x9.2.1.1, .int .i64 x9.2.1.2.1] (.agg #[.int .i64 x9.2.1.1, .int .i64 x9.2.1.2.1]) (by kernel_rfl) 0 rfl)) h (by kernel_rfl) ?_
            refine d_take 3 1991 [0] rfl (v := .pointer (some ⟨k11, 3, none⟩)) (by kernel_rfl) (qp_thn (qp_blk (qp_thn (qp_blk (qp_thn (qp_rnd (qp_blk (qp_thn qp_body)))))))) (yq (by kernel_rfl) (g_pure (v := .pointer (some ⟨k11, 3, none⟩)) fun _ => by kernel_rfl)) h (by kernel_rfl) ?_
            refine d_take 4 1999 [0] rfl (v := .int .i64 x9.2.2.1) (by kernel_rfl) (qp_thn (qp_blk (qp_thn (qp_blk (qp_thn (qp_rnd (qp_blk (qp_thn qp_body)))))))) (yq (by kernel_rfl) (g_ld 3 [.int .i64 x9.2.2.1] (.int .i64 x9.2.2.1) (by kernel_rfl) 0 rfl)) h (by kernel_rfl) ?_
            refine d_take 6 1983 [0] rfl (v := .pointer (some ⟨k6, 0, none⟩)) (by kernel_rfl) (qp_thn (qp_blk (qp_thn (qp_blk (qp_thn (qp_rnd (qp_blk (qp_thn qp_body)))))))) (yq (by kernel_rfl) (g_pure (v := .pointer (some ⟨k6, 0, none⟩)) fun _ => by kernel_rfl)) h (by kernel_rfl) ?_
            refine d_take 7 1663 [0] rfl (v := .pointer (some ⟨k11, 1, none⟩)) (by kernel_rfl) (qp_thn (qp_blk (qp_thn (qp_blk (qp_thn (qp_rnd (qp_blk (qp_thn qp_body)))))))) (yq (by kernel_rfl) (g_pure (v := .pointer (some ⟨k11, 1, none⟩)) fun _ => by kernel_rfl)) h (by kernel_rfl) ?_
            refine d_take 8 1791 [0] rfl (v := .agg #[.int .i64 x9.2.1.1, .int .i64 x9.2.1.2.1]) (by kernel_rfl) (qp_thn (qp_blk (qp_thn (qp_blk (qp_thn (qp_rnd (qp_blk (qp_thn qp_body)))))))) (yq (by kernel_rfl) (g_ld 1 [.int .i64 x9.2.1.1, .int .i64 x9.2.1.2.1] (.agg #[.int .i64 x9.2.1.1, .int .i64 x9.2.1.2.1]) (by kernel_rfl) 0 rfl)) h (by kernel_rfl) ?_
            refine d_take 9 511 [0] rfl (v := .pointer (some ⟨k11, 3, none⟩)) (by kernel_rfl) (qp_thn (qp_blk (qp_thn (qp_blk (qp_thn (qp_rnd (qp_blk (qp_thn qp_body)))))))) (yq (by kernel_rfl) (g_pure (v := .pointer (some ⟨k11, 3, none⟩)) fun _ => by kernel_rfl)) h (by kernel_rfl) ?_
            refine d_take 10 1023 [0] rfl (v := .int .i64 x9.2.2.1) (by kernel_rfl) (qp_thn (qp_blk (qp_thn (qp_blk (qp_thn (qp_rnd (qp_blk (qp_thn qp_body)))))))) (yq (by kernel_rfl) (g_ld 3 [.int .i64 x9.2.2.1] (.int .i64 x9.2.2.1) (by kernel_rfl) 0 rfl)) h (by kernel_rfl) ?_
            refine d_ready [5] (by kernel_rfl) rfl ?_
            refine ad_call #[.pointer (some ⟨k5, 0, none⟩), .agg #[.int .i64 x9.2.1.1, .int .i64 x9.2.1.2.1], .int .i64 x9.2.2.1] [4, 2] [2] rfl (by kernel_rfl) (drop_spec k5 vt lt x9.2.1.1 x9.2.1.2.1 x9.2.2.1 hT0.small) (fun _ => by kernel_rfl) h ?_ ?_
            · skip
              rintro v_ L_ w ⟨v341, rfl, rfl⟩ h
              refine ⟨by kernel_rfl, ?_⟩
              refine d_ready [11] (by kernel_rfl) rfl ?_
              refine ad_call #[.pointer (some ⟨k6, 0, none⟩), .agg #[.int .i64 x9.2.1.1, .int .i64 x9.2.1.2.1], .int .i64 x9.2.2.1] [4, 3] [4] rfl (by kernel_rfl) (rdrop_spec k6 vp lp (by omega) hL0.ok x9.2.1.1 x9.2.1.2.1 x9.2.2.1) (fun _ => by kernel_rfl) h ?_ ?_
              · skip
                rintro v_ L_ w ⟨rfl, v342, rfl⟩ h
                refine ⟨by kernel_rfl, ?_⟩
                have hg343 := hL0.gone hT0.1 (x9.2.1.1, x9.2.1.2.1) x9.2.2.1
                refine d_take 12 4095 [4] rfl (v := .bool (!(decide ((lt.length : Int) - ((lt.filter fun x => !dropP (x9.2.1.1, x9.2.1.2.1) x9.2.2.1 x).length : Int) = ((runsP lp (x9.2.1.1, x9.2.1.2.1) x9.2.2.1).length : Int))))) (by kernel_rfl) (qp_thn (qp_blk (qp_thn (qp_blk (qp_thn (qp_rnd (qp_blk (qp_thn qp_body)))))))) (yq (by kernel_rfl) (g_pure (v := .bool (!(decide ((lt.length : Int) - ((lt.filter fun x => !dropP (x9.2.1.1, x9.2.1.2.1) x9.2.2.1 x).length : Int) = ((runsP lp (x9.2.1.1, x9.2.1.2.1) x9.2.2.1).length : Int))))) fun _ => by kernel_rfl)) h (by kernel_rfl) ?_
                refine d_done (by kernel_rfl) ?_
                refine thn_n ?_
                refine c_cond (!(decide ((lt.length : Int) - ((lt.filter fun x => !dropP (x9.2.1.1, x9.2.1.2.1) x9.2.2.1 x).length : Int) = ((runsP lp (x9.2.1.1, x9.2.1.2.1) x9.2.2.1).length : Int)))) (by kernel_rfl) (fun hc344 => ?_) (fun hc344 => ?_)
                · skip
                  have q345 : (decide ((lt.length : Int) - ((lt.filter fun x => !dropP (x9.2.1.1, x9.2.1.2.1) x9.2.2.1 x).length : Int) = ((runsP lp (x9.2.1.1, x9.2.1.2.1) x9.2.2.1).length : Int))) = false := by simpa using hc344
                  have q345 := of_decide_eq_false q345
                  exfalso; revert hc344; simp; omega
                · skip
                  have q346 : (decide ((lt.length : Int) - ((lt.filter fun x => !dropP (x9.2.1.1, x9.2.1.2.1) x9.2.2.1 x).length : Int) = ((runsP lp (x9.2.1.1, x9.2.1.2.1) x9.2.2.1).length : Int))) = true := by simpa using hc344
                  have q346 := of_decide_eq_true q346
                  refine c_skip ?_
                  refine blk_n (thn_n ?_)
                  refine c_seq ?_
                  refine c_reg ?_
                  refine sq_p (.pointer (some ⟨k5, 0, none⟩)) rfl (fun _ => by kernel_rfl) ?_
                  refine sq_call #[.pointer (some ⟨k5, 0, none⟩)] [2, 2] rfl (list_spec k5 v341 (lt.filter fun x => !dropP (x9.2.1.1, x9.2.1.2.1) x9.2.2.1 x) (hT0.drop _).1.bnd (hT0.drop _).small) (fun _ => by kernel_rfl) h ?_; rintro v350 L_ w ⟨_, l347, ⟨hp348, ho349⟩, rfl, rfl⟩ h
                  refine sq_p (.pointer (some ⟨k6, 0, none⟩)) rfl (fun _ => by kernel_rfl) ?_
                  refine sq_call #[.pointer (some ⟨k6, 0, none⟩)] [3, 3] rfl (rlist_spec k6 v342 (lp.filter fun p => !mineN (x9.2.1.1, x9.2.1.2.1) x9.2.2.1 p) (Nat.le_trans (filt_len hlp) (by omega)) (hL0.drop (x9.2.1.1, x9.2.1.2.1) x9.2.2.1).ok) (fun _ => by kernel_rfl) h ?_; rintro v351 L_ w ⟨_, R352, hR353, rfl, rfl⟩ h
                  have hRe := (hL0.drop (x9.2.1.1, x9.2.1.2.1) x9.2.2.1).list (hT0.drop _).1 hp348 ho349 hR353
                  subst hRe
                  refine sq_call #[v350, v351] [3, 0] rfl (sameLocks_spec v350 v351 (l347.map lkT) (map_len hp348 (hT0.drop _))) (fun _ => by kernel_rfl) h ?_; rintro v_ L_ w ⟨rfl, rfl⟩ h
                  refine sq_p (.bool false) rfl (fun _ => by kernel_rfl) ?_
                  refine lnil ?_
                  refine thn_n ?_
                  refine c_false (by kernel_rfl) ?_
                  refine c_skip ?_
                  refine blk_n (thn_n ?_)
                  refine c_reg ?_
                  refine sq_p (.int .i64 (n0 : Int)) rfl (fun _ => by kernel_rfl) ?_
                  refine sq_q rfl h (g_eq (v := .int .i64 (IntKind.i64.wrap ((n0 : Int) + 1))) (v' := .int .i64 ((n0 + 1 : Nat) : Int)) (g_pure fun _ => by kernel_rfl) (wr (by omega))) ?_
                  refine sq_p (.int .i64 ((n0 + 1 : Nat) : Int)) rfl (fun _ => by kernel_rfl) ?_
                  refine lnil ?_
                  have hQ354 : ((n0 + 1) ≤ acts.length ∧ TabOk (lt.filter fun x => !dropP (x9.2.1.1, x9.2.1.2.1) x9.2.2.1 x) ∧ Tells (lt.filter fun x => !dropP (x9.2.1.1, x9.2.1.2.1) x9.2.2.1 x) (lp.filter fun p => !mineN (x9.2.1.1, x9.2.1.2.1) x9.2.2.1 p) ∧ (lp.filter fun p => !mineN (x9.2.1.1, x9.2.1.2.1) x9.2.2.1 p).length ≤ (n0 + 1)) ∧ (acts.length - (n0 + 1)) < (acts.length - n0) := ⟨⟨by omega, (hT0.drop _), (hL0.drop (x9.2.1.1, x9.2.1.2.1) x9.2.2.1), (filt_len hlp)⟩, by omega⟩
                  refine loop_end (fun j => ⟨(n0 + 1), lt.filter fun x => !dropP (x9.2.1.1, x9.2.1.2.1) x9.2.2.1 x, v341, lp.filter fun p => !mineN (x9.2.1.1, x9.2.1.2.1) x9.2.2.1 p, v342, j⟩) hQ354 (by kernel_rfl) [3, 4, 2, 2, 3, 3, 3] (by kernel_rfl) h
              exact ad_nil
            exact ad_nil
    · skip
      have hc7 := of_decide_eq_false hc7
      refine c_exit ?_
      refine thn_e (rnd_e (blk_e (thn_n ?_)))
      refine c_seq ?_
      refine c_reg ?_
      refine sq_p (.bool true) rfl (fun _ => by kernel_rfl) ?_
      refine lnil ?_
      refine thn_n ?_
      refine c_ret ?_
      refine ret_end [.bool true] [5, 5] h (by kernel_rfl) (res_t (by kernel_rfl) res_n) ?_
      exact ⟨rfl, rfl⟩

theorem lockActs_any (ad : Nat → Addr) (a0 : Option Addr) (cap : Nat) (acts : List LAct) (w : World) (he : EnvA w.heap.size ad w) (hs : (Sh.slice shLAct).At w w.heap.size (a0, cap, acts)) :
    Calls Tryd.prog 4 #[.slice a0 acts.length cap] w fun e w' => e = .returned (.bool true) ∧ Chg Nil w w' := by
  refine ((lockActs_spec (B := w.heap.size) ad (.slice a0 acts.length cap) acts).reads (w := w) rfl ?_).mono ?_
  · intro r hr
    simp only [List.mem_cons, List.mem_nil_iff, or_false] at hr
    rcases hr with rfl | rfl
    · exact arg_of_sh hs
    · exact he
  · rintro e w' ⟨u, L', ⟨rfl, _⟩, he, hc'⟩
    exact ⟨he, hc'⟩

end Go.Proofs.YtgebinfbbopnlaaDoor
