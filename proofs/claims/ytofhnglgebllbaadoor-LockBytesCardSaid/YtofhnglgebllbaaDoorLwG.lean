/- locklaw: contracts by what is owned (printed by walk.py). -/
import Derived.Test.YtofhnglgebllbaaDoorLwF
namespace Go.Proofs.YtofhnglgebllbaaDoor
open Go.RowKit
set_option linter.unusedVariables false
set_option linter.unusedSimpArgs false
set_option maxRecDepth 100000

/-- Behind a lock: some run of the owner's covers the range. -/
theorem lock_cover {l l' : List Run} (hb : ∀ x ∈ l', BndR x) {r : Run} (hr : r ∈ l') : ∃ y ∈ joinL l', Covers y r := join_covers hb hr
theorem lock_none {L : List Run} (hk : RunsOk L) {r y : Run} (hy : y ∈ L) (hc : Covers y r) (hft : r.2.2.1 < r.2.2.2.1) {x : Run} (hx : x ∈ L) (hh : heldP r.1 r.2.1 r.2.2.1 r.2.2.2.1 r.2.2.2.2 x = true) : False := by
  obtain ⟨c1, c2, c3, c4, c5⟩ := hc
  simp [heldP] at hh
  obtain ⟨e1, e2, e3, e4, e5⟩ := hh
  obtain ⟨i, hi⟩ := List.getElem?_of_mem hx
  obtain ⟨k, hk'⟩ := List.getElem?_of_mem hy
  have hne : i ≠ k := fun e => by
    subst e; rw [hi] at hk'; cases hk'; exact e2 c2
  have hb := hk.bnd x hx
  obtain ⟨m1, m2, m3⟩ := pw_at hk.meet (fun a b h => h.symm) hi hk' hne (e1.trans c1.symm) (by omega) (by omega)
  rw [c3] at m3
  rcases e5 with e | e
  · rw [m2] at e; cases e
  · rw [m3] at e; cases e
theorem lock_held {L : List Run} {r y : Run} (hy : y ∈ L) (hc : Covers y r) (hft : r.2.2.1 < r.2.2.2.1) {o : Int} (ho : r.2.1 ≠ o) (hw : r.2.2.2.2 = true) : heldP r.1 o r.2.2.1 r.2.2.2.1 false y = true := by
  obtain ⟨c1, c2, c3, c4, c5⟩ := hc
  have : y.2.1 ≠ o := by rw [c2]; exact ho
  simp [heldP, c1, this, c3, hw]
  omega
theorem cut_gone {l : List Run} (hk : RunsOk l) {h : Int × Int} {o f t : Int} (hr : RngR f t) {o2 : Int} {wb : Bool} {x : Run} (hx : x ∈ cutL l h o f t) (hh : heldP h o2 f t wb x = true) : ¬ x.2.1 = o := by
  obtain ⟨_, _, _, _, _, h9⟩ := cutL_mem hk.bnd hr.2.1 hx
  simp [heldP] at hh
  intro e
  have := h9 hh.1 e
  omega

set_option maxHeartbeats 1000000 in
theorem lockBytes_spec {B : Nat} (ad : Nat → Addr) (v : Value) (acts : List LAct) (a s : Int) (wb : Bool) : Spec Tryd.prog 9 #[v, .agg #[.int .i64 a, .int .i64 s], .bool wb] [rArg v 7 lactC acts, rEnvA B ad] (fun u L => u = .bool true ∧ L = [rArg v 7 lactC acts, rEnvA B ad]) := by
  refine spec_of (#[v, .agg #[.int .i64 a, .int .i64 s], .bool wb, undef, undef, undef, undef, undef, undef, undef, undef, undef, undef, undef, undef, undef, undef, undef, undef, undef, undef, undef, undef, undef, undef, undef, undef, undef, undef, undef, undef, undef, undef, undef, undef, undef, undef, undef, undef, undef, undef, undef, undef, undef, undef, undef, undef, undef, undef, undef, undef, undef, undef, undef, undef, undef, undef, undef, undef, undef, undef, undef, undef, undef, undef, undef, undef, undef, undef, undef, undef, undef, undef, undef, undef, undef, undef, undef, undef, undef, undef, undef, undef, undef, undef, undef, undef, undef, undef, undef, undef, undef, undef, undef, undef, undef, undef, undef, undef, undef, undef, undef, undef, undef, undef, undef, undef, undef, undef, undef, undef, undef, undef, undef, undef, undef, undef, undef, undef, undef, undef, undef]) Tryd.func9 rfl (by kernel_rfl) fun E w0 w h => ?_
  have h := h.envSub [2, 9, 11] 1 rfl (by decide)
  refine c_seq ?_
  refine c_reg ?_
  refine sq_new rfl (fun b => .pointer (some ⟨b, 0, none⟩)) [.int .i64 a, .int .i64 s] 95 (fun _ => by kernel_rfl) h ?_; intro k1 w h
  refine sq_p (.bool false) rfl (fun _ => by kernel_rfl) ?_
  refine lnil ?_
  refine thn_n ?_
  refine c_seq ?_
  refine c_reg ?_
  refine sq_call #[] [1] rfl (held_spec ad) (fun _ => by kernel_rfl) h ?_; rintro v_ L_ w ⟨rfl, rfl⟩ h
  refine sq_p (.bool true) rfl (fun _ => by kernel_rfl) ?_
  refine lnil ?_
  refine thn_n ?_
  refine c_seq ?_
  refine c_seq ?_
  refine c_reg ?_
  refine sq_p (.bool true) rfl (fun _ => by kernel_rfl) ?_
  refine sq_p (.bool false) rfl (fun _ => by kernel_rfl) ?_
  refine sq_p (.bool false) rfl (fun _ => by kernel_rfl) ?_
  refine sq_p (v) (by kernel_rfl) (fun _ => by kernel_rfl) ?_
  refine sq_q (by kernel_rfl) h (g_lenA 97 (by kernel_rfl) 2 rfl) ?_
  obtain ⟨b2, hb2⟩ : ∃ b_ : Bool, b_ = (decide ((acts.length : Int) > 30)) := ⟨_, rfl⟩
  refine sq_q (v := .bool b2) (by kernel_rfl) h (by subst hb2; exact g_pure (v := .bool (decide ((acts.length : Int) > 30))) fun _ => by kernel_rfl) ?_
  refine sq_p (.bool b2) rfl (fun _ => by kernel_rfl) ?_
  refine lnil ?_
  refine thn_n ?_
  refine c_cond (b2) (by kernel_rfl) (fun hc3 => ?_) (fun hc3 => ?_)
  · skip
    have q4 : (decide ((acts.length : Int) > 30)) = true := by rw [← hb2]; exact hc3
    have q4 := of_decide_eq_true q4
    refine c_seq ?_
    refine c_reg ?_
    refine sq_p (.bool true) rfl (fun _ => by kernel_rfl) ?_
    refine sq_p (.bool true) rfl (fun _ => by kernel_rfl) ?_
    refine lnil ?_
    refine thn_n ?_
    refine c_ret ?_
    refine thn_r ?_
    refine ret_end [.bool true] [2, 2] h (by kernel_rfl) (res_t (by kernel_rfl) res_n) ?_
    exact ⟨rfl, rfl⟩
  · skip
    have q5 : (decide ((acts.length : Int) > 30)) = false := by rw [← hb2]; exact hc3
    have q5 := of_decide_eq_false q5
    refine c_skip ?_
    refine thn_n ?_
    refine c_seq ?_
    refine c_reg ?_
    refine sq_p (.agg #[.slice none 0 0]) rfl (fun _ => by kernel_rfl) ?_
    refine sq_new rfl (fun b => .pointer (some ⟨b, 0, none⟩)) [.slice none 0 0] 93 (fun _ => by kernel_rfl) h ?_; intro k6 w h
    refine sq_p (.pointer (some ⟨k6, 0, none⟩)) rfl (fun _ => by kernel_rfl) ?_
    refine lnil ?_
    refine thn_n ?_
    refine c_seq ?_
    refine c_seq ?_
    refine c_reg ?_
    refine sq_p (.int .i64 0) rfl (fun _ => by kernel_rfl) ?_
    refine lnil ?_
    refine thn_n ?_
    refine c_block ?_
    have h := h.nilRows 217 6 runC
    refine c_loop (X := Nat × List Run × Value × (Nat → Value)) (fun ⟨n0, lt, vt, J0⟩ => ⟨#[v, .agg #[.int .i64 a, .int .i64 s], .bool wb, undef, .pointer (some ⟨k1, 0, none⟩), undef, .bool false, .bool true, .pointer (some ⟨k6, 0, none⟩), .int .i64 (n0 : Int), undef, undef, undef, undef, undef, undef, undef, undef, .bool true, .bool true, .bool false, .bool false, v, .int .i64 (acts.length : Int), .bool b2, .bool b2, undef, .agg #[.slice none 0 0], .pointer (some ⟨k6, 0, none⟩), J0 29, J0 30, J0 31, J0 32, J0 33, J0 34, J0 35, J0 36, J0 37, J0 38, J0 39, J0 40, J0 41, J0 42, J0 43, J0 44, J0 45, J0 46, J0 47, J0 48, J0 49, J0 50, J0 51, J0 52, J0 53, J0 54, J0 55, J0 56, J0 57, J0 58, J0 59, J0 60, J0 61, J0 62, J0 63, J0 64, J0 65, undef, undef, undef, undef, undef, undef, undef, undef, undef, undef, undef, undef, undef, undef, undef, undef, undef, undef, undef, undef, undef, undef, undef, undef, undef, undef, undef, undef, undef, undef, undef, undef, undef, undef, undef, undef, undef, undef, undef, undef, undef, undef, undef, undef, undef, undef, undef, undef, undef, undef, undef, undef, undef, undef, undef, undef], []⟩)
      (fun ⟨n0, lt, vt, J0⟩ => [rRows true vt 217 6 runC lt, rCell true k6 [vt] 93, rEnv B ad [2, 9, 11], rCell true k1 [.int .i64 a, .int .i64 s] 95, rArg v 7 lactC acts, rEnvA B ad]) (fun ⟨n0, lt, vt, J0⟩ => n0 ≤ acts.length ∧ TabOk lt) (fun ⟨n0, lt, vt, J0⟩ => acts.length - n0)
      ⟨0, [], (.slice none 0 0), (fun n => (#[v, .agg #[.int .i64 a, .int .i64 s], .bool wb, undef, .pointer (some ⟨k1, 0, none⟩), undef, .bool false, .bool true, .pointer (some ⟨k6, 0, none⟩), .int .i64 0, undef, undef, undef, undef, undef, undef, undef, undef, .bool true, .bool true, .bool false, .bool false, v, .int .i64 (acts.length : Int), .bool b2, .bool b2, undef, .agg #[.slice none 0 0], .pointer (some ⟨k6, 0, none⟩), undef, undef, undef, undef, undef, undef, undef, undef, undef, undef, undef, undef, undef, undef, undef, undef, undef, undef, undef, undef, undef, undef, undef, undef, undef, undef, undef, undef, undef, undef, undef, undef, undef, undef, undef, undef, undef, undef, undef, undef, undef, undef, undef, undef, undef, undef, undef, undef, undef, undef, undef, undef, undef, undef, undef, undef, undef, undef, undef, undef, undef, undef, undef, undef, undef, undef, undef, undef, undef, undef, undef, undef, undef, undef, undef, undef, undef, undef, undef, undef, undef, undef, undef, undef, undef, undef, undef, undef, undef, undef, undef, undef, undef] : Array Value).getD n undef)⟩ ⟨by omega, tabOk_nil⟩ (by kernel_rfl) [0, 0, 0, 0, 0, 0] (by kernel_rfl) h ?_
    rintro ⟨n0, lt, vt, J0⟩ w hG h
    obtain ⟨hk, hT0⟩ : n0 ≤ acts.length ∧ TabOk lt := hG
    refine c_seq ?_
    refine c_seq ?_
    refine c_reg ?_
    refine sq_p (.int .i64 (n0 : Int)) rfl (fun _ => by kernel_rfl) ?_
    refine sq_p (v) rfl (fun _ => by kernel_rfl) ?_
    refine sq_q rfl h (g_lenA 97 (by kernel_rfl) 4 rfl) ?_
    refine sq_p (.bool (decide ((n0 : Int) < (acts.length : Int)))) rfl (fun _ => by kernel_rfl) ?_
    refine lnil ?_
    refine thn_n ?_
    refine c_cond (decide ((n0 : Int) < (acts.length : Int))) (by kernel_rfl) (fun hc7 => ?_) (fun hc7 => ?_)
    · skip
      have hc7 := of_decide_eq_true hc7
      refine c_skip ?_
      refine thn_n ?_
      refine c_seq ?_
      refine c_block ?_
      refine c_seq ?_
      refine c_reg ?_
      refine sq_p (v) rfl (fun _ => by kernel_rfl) ?_
      refine sq_p (.int .i64 (n0 : Int)) rfl (fun _ => by kernel_rfl) ?_
      have hi8 : n0 < acts.length := by omega
      obtain ⟨x9, hx10⟩ : ∃ x, acts[n0]? = some x := ⟨_, List.getElem?_eq_getElem hi8⟩
      refine sq_q rfl h (g_idxA 97 n0 (by kernel_rfl) hi8 4 rfl) ?_
      refine sq_p (.pointer (some ⟨blkN v, offN v + n0 * 7, none⟩)) rfl (fun _ => by kernel_rfl) ?_
      refine sq_q rfl h (g_ldr (b := blkN v) (offN v + n0 * 7) [.string x9.1] (.string x9.1) (by kernel_rfl) 4 rfl (rdArg0 hx10 (by kernel_rfl))) ?_
      refine sq_q rfl h (g_eq (v := .bool (x9.1.toList == (⟨#[108, 111, 99, 107]⟩ : ByteArray).toList)) (v' := .bool (decide (x9.1 = (⟨#[108, 111, 99, 107]⟩ : ByteArray)))) (g_pure fun _ => by kernel_rfl) beqS) ?_
      refine lnil ?_
      refine thn_n ?_
      refine c_cond (decide (x9.1 = (⟨#[108, 111, 99, 107]⟩ : ByteArray))) (by kernel_rfl) (fun hc11 => ?_) (fun hc11 => ?_)
      · skip
        have hc11 := of_decide_eq_true hc11
        refine d_start 25 [4] (by kernel_rfl) h fun w h => ?_
        refine d_take 0 2097150 [4] rfl (v := .pointer (some ⟨k6, 0, none⟩)) (by kernel_rfl) (qp_blk (qp_thn (qp_rnd (qp_blk (qp_thn qp_body))))) (yq (by kernel_rfl) (g_pure (v := .pointer (some ⟨k6, 0, none⟩)) fun _ => by kernel_rfl)) h (by kernel_rfl) ?_
        refine d_take 1 2097093 [4] rfl (v := v) (by kernel_rfl) (qp_blk (qp_thn (qp_rnd (qp_blk (qp_thn qp_body))))) (yq (by kernel_rfl) (g_pure (v := v) fun _ => by kernel_rfl)) h (by kernel_rfl) ?_
        refine d_take 2 2097091 [4] rfl (v := .int .i64 (n0 : Int)) (by kernel_rfl) (qp_blk (qp_thn (qp_rnd (qp_blk (qp_thn qp_body))))) (yq (by kernel_rfl) (g_pure (v := .int .i64 (n0 : Int)) fun _ => by kernel_rfl)) h (by kernel_rfl) ?_
        refine d_take 3 2097095 [4] rfl (v := .pointer (some ⟨blkN v, offN v + n0 * 7, none⟩)) (by kernel_rfl) (qp_blk (qp_thn (qp_rnd (qp_blk (qp_thn qp_body))))) (yq (by kernel_rfl) (g_idxA 97 n0 (by kernel_rfl) hi8 0 rfl)) h (by kernel_rfl) ?_
        refine d_take 4 2097103 [4] rfl (v := .pointer (some ⟨blkN v, offN v + n0 * 7 + 1, none⟩)) (by kernel_rfl) (qp_blk (qp_thn (qp_rnd (qp_blk (qp_thn qp_body))))) (yq (by kernel_rfl) (g_pure (v := .pointer (some ⟨blkN v, offN v + n0 * 7 + 1, none⟩)) fun _ => by kernel_rfl)) h (by kernel_rfl) ?_
        refine d_take 5 2097119 [4] rfl (v := .agg #[.int .i64 x9.2.1.1, .int .i64 x9.2.1.2.1]) (by kernel_rfl) (qp_blk (qp_thn (qp_rnd (qp_blk (qp_thn qp_body))))) (yq (by kernel_rfl) (g_ldr (b := blkN v) (offN v + n0 * 7 + 1) [.int .i64 x9.2.1.1, .int .i64 x9.2.1.2.1] (.agg #[.int .i64 x9.2.1.1, .int .i64 x9.2.1.2.1]) (by kernel_rfl) 0 rfl (rdArg hx10 1 (by kernel_rfl)))) h (by kernel_rfl) ?_
        refine d_take 6 2095295 [4] rfl (v := v) (by kernel_rfl) (qp_blk (qp_thn (qp_rnd (qp_blk (qp_thn qp_body))))) (yq (by kernel_rfl) (g_pure (v := v) fun _ => by kernel_rfl)) h (by kernel_rfl) ?_
        refine d_take 7 2095231 [4] rfl (v := .int .i64 (n0 : Int)) (by kernel_rfl) (qp_blk (qp_thn (qp_rnd (qp_blk (qp_thn qp_body))))) (yq (by kernel_rfl) (g_pure (v := .int .i64 (n0 : Int)) fun _ => by kernel_rfl)) h (by kernel_rfl) ?_
        refine d_take 8 2095359 [4] rfl (v := .pointer (some ⟨blkN v, offN v + n0 * 7, none⟩)) (by kernel_rfl) (qp_blk (qp_thn (qp_rnd (qp_blk (qp_thn qp_body))))) (yq (by kernel_rfl) (g_idxA 97 n0 (by kernel_rfl) hi8 0 rfl)) h (by kernel_rfl) ?_
        refine d_take 9 2095615 [4] rfl (v := .pointer (some ⟨blkN v, offN v + n0 * 7 + 3, none⟩)) (by kernel_rfl) (qp_blk (qp_thn (qp_rnd (qp_blk (qp_thn qp_body))))) (yq (by kernel_rfl) (g_pure (v := .pointer (some ⟨blkN v, offN v + n0 * 7 + 3, none⟩)) fun _ => by kernel_rfl)) h (by kernel_rfl) ?_
        refine d_take 10 2096127 [4] rfl (v := .int .i64 x9.2.2.1) (by kernel_rfl) (qp_blk (qp_thn (qp_rnd (qp_blk (qp_thn qp_body))))) (yq (by kernel_rfl) (g_ldr (b := blkN v) (offN v + n0 * 7 + 3) [.int .i64 x9.2.2.1] (.int .i64 x9.2.2.1) (by kernel_rfl) 0 rfl (rdArg hx10 3 (by kernel_rfl)))) h (by kernel_rfl) ?_
        refine d_take 11 2037759 [4] rfl (v := v) (by kernel_rfl) (qp_blk (qp_thn (qp_rnd (qp_blk (qp_thn qp_body))))) (yq (by kernel_rfl) (g_pure (v := v) fun _ => by kernel_rfl)) h (by kernel_rfl) ?_
        refine d_take 12 2035711 [4] rfl (v := .int .i64 (n0 : Int)) (by kernel_rfl) (qp_blk (qp_thn (qp_rnd (qp_blk (qp_thn qp_body))))) (yq (by kernel_rfl) (g_pure (v := .int .i64 (n0 : Int)) fun _ => by kernel_rfl)) h (by kernel_rfl) ?_
        refine d_take 13 2039807 [4] rfl (v := .pointer (some ⟨blkN v, offN v + n0 * 7, none⟩)) (by kernel_rfl) (qp_blk (qp_thn (qp_rnd (qp_blk (qp_thn qp_body))))) (yq (by kernel_rfl) (g_idxA 97 n0 (by kernel_rfl) hi8 0 rfl)) h (by kernel_rfl) ?_
        refine d_take 14 2047999 [4] rfl (v := .pointer (some ⟨blkN v, offN v + n0 * 7 + 4, none⟩)) (by kernel_rfl) (qp_blk (qp_thn (qp_rnd (qp_blk (qp_thn qp_body))))) (yq (by kernel_rfl) (g_pure (v := .pointer (some ⟨blkN v, offN v + n0 * 7 + 4, none⟩)) fun _ => by kernel_rfl)) h (by kernel_rfl) ?_
        refine d_take 15 2064383 [4] rfl (v := .agg #[.int .i64 x9.2.2.2.1.1, .int .i64 x9.2.2.2.1.2.1]) (by kernel_rfl) (qp_blk (qp_thn (qp_rnd (qp_blk (qp_thn qp_body))))) (yq (by kernel_rfl) (g_ldr (b := blkN v) (offN v + n0 * 7 + 4) [.int .i64 x9.2.2.2.1.1, .int .i64 x9.2.2.2.1.2.1] (.agg #[.int .i64 x9.2.2.2.1.1, .int .i64 x9.2.2.2.1.2.1]) (by kernel_rfl) 0 rfl (rdArg hx10 4 (by kernel_rfl)))) h (by kernel_rfl) ?_
        refine d_take 16 196607 [4] rfl (v := v) (by kernel_rfl) (qp_blk (qp_thn (qp_rnd (qp_blk (qp_thn qp_body))))) (yq (by kernel_rfl) (g_pure (v := v) fun _ => by kernel_rfl)) h (by kernel_rfl) ?_
        refine d_take 17 131071 [4] rfl (v := .int .i64 (n0 : Int)) (by kernel_rfl) (qp_blk (qp_thn (qp_rnd (qp_blk (qp_thn qp_body))))) (yq (by kernel_rfl) (g_pure (v := .int .i64 (n0 : Int)) fun _ => by kernel_rfl)) h (by kernel_rfl) ?_
        refine d_take 18 262143 [4] rfl (v := .pointer (some ⟨blkN v, offN v + n0 * 7, none⟩)) (by kernel_rfl) (qp_blk (qp_thn (qp_rnd (qp_blk (qp_thn qp_body))))) (yq (by kernel_rfl) (g_idxA 97 n0 (by kernel_rfl) hi8 0 rfl)) h (by kernel_rfl) ?_
        refine d_take 19 524287 [4] rfl (v := .pointer (some ⟨blkN v, offN v + n0 * 7 + 6, none⟩)) (by kernel_rfl) (qp_blk (qp_thn (qp_rnd (qp_blk (qp_thn qp_body))))) (yq (by kernel_rfl) (g_pure (v := .pointer (some ⟨blkN v, offN v + n0 * 7 + 6, none⟩)) fun _ => by kernel_rfl)) h (by kernel_rfl) ?_
        refine d_take 20 1048575 [4] rfl (v := .bool x9.2.2.2.2.1) (by kernel_rfl) (qp_blk (qp_thn (qp_rnd (qp_blk (qp_thn qp_body))))) (yq (by kernel_rfl) (g_ldr (b := blkN v) (offN v + n0 * 7 + 6) [.bool x9.2.2.2.2.1] (.bool x9.2.2.2.2.1) (by kernel_rfl) 0 rfl (rdArg hx10 6 (by kernel_rfl)))) h (by kernel_rfl) ?_
        refine d_ready [21] (by kernel_rfl) rfl ?_
        refine ad_call #[.pointer (some ⟨k6, 0, none⟩), .agg #[.int .i64 x9.2.1.1, .int .i64 x9.2.1.2.1], .int .i64 x9.2.2.1, .agg #[.int .i64 x9.2.2.2.1.1, .int .i64 x9.2.2.2.1.2.1], .bool x9.2.2.2.2.1] [1, 0, 0] [4] rfl (by kernel_rfl) (lockm_spec ad k6 vt lt x9.2.1.1 x9.2.1.2.1 x9.2.2.1 x9.2.2.2.1.1 x9.2.2.2.1.2.1 x9.2.2.2.2.1 hT0.1.bnd hT0.small) (fun _ => by kernel_rfl) h ?_ ?_
        · skip
          rintro v_ L_ w (⟨hq12, rfl, rfl⟩ | ⟨x14, hq12, hq13, rfl, rfl⟩ | ⟨hq12, hq13, l15, hp16, ho17, ⟨hq18, rfl, rfl⟩ | ⟨hq18, v19, rfl, rfl⟩⟩) h
          · skip
            refine ⟨by kernel_rfl, ?_⟩
            refine d_take 22 4194303 [4] rfl (v := .tuple #[.agg #[.int .i64 0, .int .i64 0, .int .i64 0, .int .i64 0, .int .i64 0, .bool false], errV ad 2]) (by kernel_rfl) (qp_blk (qp_thn (qp_rnd (qp_blk (qp_thn qp_body))))) (yq (by kernel_rfl) (g_pure (v := .tuple #[.agg #[.int .i64 0, .int .i64 0, .int .i64 0, .int .i64 0, .int .i64 0, .bool false], errV ad 2]) fun _ => by kernel_rfl)) h (by kernel_rfl) ?_
            refine d_take 23 25165823 [4] rfl (v := .agg #[.int .i64 0, .int .i64 0, .int .i64 0, .int .i64 0, .int .i64 0, .bool false]) (by kernel_rfl) (qp_blk (qp_thn (qp_rnd (qp_blk (qp_thn qp_body))))) (yq (by kernel_rfl) (g_pure (v := .agg #[.int .i64 0, .int .i64 0, .int .i64 0, .int .i64 0, .int .i64 0, .bool false]) fun _ => by kernel_rfl)) h (by kernel_rfl) ?_
            refine d_take 24 16777215 [4] rfl (v := errV ad 2) (by kernel_rfl) (qp_blk (qp_thn (qp_rnd (qp_blk (qp_thn qp_body))))) (yq (by kernel_rfl) (g_pure (v := errV ad 2) fun _ => by kernel_rfl)) h (by kernel_rfl) ?_
            refine d_done (by kernel_rfl) ?_
            refine blk_n (thn_n ?_)
            refine c_reg ?_
            refine sq_p (.int .i64 (n0 : Int)) rfl (fun _ => by kernel_rfl) ?_
            refine sq_q rfl h (g_eq (v := .int .i64 (IntKind.i64.wrap ((n0 : Int) + 1))) (v' := .int .i64 ((n0 + 1 : Nat) : Int)) (g_pure fun _ => by kernel_rfl) (wr (by omega))) ?_
            refine sq_p (.int .i64 ((n0 + 1 : Nat) : Int)) rfl (fun _ => by kernel_rfl) ?_
            refine lnil ?_
            refine loop_end (fun j => ⟨(n0 + 1), lt, vt, j⟩) (show ((n0 + 1) ≤ acts.length ∧ TabOk lt) ∧ (acts.length - (n0 + 1)) < (acts.length - n0) from ⟨⟨by omega, hT0⟩, by omega⟩) (by kernel_rfl) [1, 0, 0, 0, 0, 0] (by kernel_rfl) h
          · skip
            refine ⟨by kernel_rfl, ?_⟩
            refine d_take 22 4194303 [4] rfl (v := .tuple #[.agg #[.int .i64 x14.1.1, .int .i64 x14.1.2, .int .i64 x14.2.1, .int .i64 x14.2.2.1, .int .i64 (if x14.2.2.2.1 = 1152921504606846976 then 0 else x14.2.2.2.1 - x14.2.2.1), .bool x14.2.2.2.2], errV ad 11]) (by kernel_rfl) (qp_blk (qp_thn (qp_rnd (qp_blk (qp_thn qp_body))))) (yq (by kernel_rfl) (g_pure (v := .tuple #[.agg #[.int .i64 x14.1.1, .int .i64 x14.1.2, .int .i64 x14.2.1, .int .i64 x14.2.2.1, .int .i64 (if x14.2.2.2.1 = 1152921504606846976 then 0 else x14.2.2.2.1 - x14.2.2.1), .bool x14.2.2.2.2], errV ad 11]) fun _ => by kernel_rfl)) h (by kernel_rfl) ?_
            refine d_take 23 25165823 [4] rfl (v := .agg #[.int .i64 x14.1.1, .int .i64 x14.1.2, .int .i64 x14.2.1, .int .i64 x14.2.2.1, .int .i64 (if x14.2.2.2.1 = 1152921504606846976 then 0 else x14.2.2.2.1 - x14.2.2.1), .bool x14.2.2.2.2]) (by kernel_rfl) (qp_blk (qp_thn (qp_rnd (qp_blk (qp_thn qp_body))))) (yq (by kernel_rfl) (g_pure (v := .agg #[.int .i64 x14.1.1, .int .i64 x14.1.2, .int .i64 x14.2.1, .int .i64 x14.2.2.1, .int .i64 (if x14.2.2.2.1 = 1152921504606846976 then 0 else x14.2.2.2.1 - x14.2.2.1), .bool x14.2.2.2.2]) fun _ => by kernel_rfl)) h (by kernel_rfl) ?_
            refine d_take 24 16777215 [4] rfl (v := errV ad 11) (by kernel_rfl) (qp_blk (qp_thn (qp_rnd (qp_blk (qp_thn qp_body))))) (yq (by kernel_rfl) (g_pure (v := errV ad 11) fun _ => by kernel_rfl)) h (by kernel_rfl) ?_
            refine d_done (by kernel_rfl) ?_
            refine blk_n (thn_n ?_)
            refine c_reg ?_
            refine sq_p (.int .i64 (n0 : Int)) rfl (fun _ => by kernel_rfl) ?_
            refine sq_q rfl h (g_eq (v := .int .i64 (IntKind.i64.wrap ((n0 : Int) + 1))) (v' := .int .i64 ((n0 + 1 : Nat) : Int)) (g_pure fun _ => by kernel_rfl) (wr (by omega))) ?_
            refine sq_p (.int .i64 ((n0 + 1 : Nat) : Int)) rfl (fun _ => by kernel_rfl) ?_
            refine lnil ?_
            refine loop_end (fun j => ⟨(n0 + 1), lt, vt, j⟩) (show ((n0 + 1) ≤ acts.length ∧ TabOk lt) ∧ (acts.length - (n0 + 1)) < (acts.length - n0) from ⟨⟨by omega, hT0⟩, by omega⟩) (by kernel_rfl) [1, 0, 0, 0, 0, 0] (by kernel_rfl) h
          · skip
            refine ⟨by kernel_rfl, ?_⟩
            refine d_take 22 4194303 [4] rfl (v := .tuple #[.agg #[.int .i64 0, .int .i64 0, .int .i64 0, .int .i64 0, .int .i64 0, .bool false], errV ad 9]) (by kernel_rfl) (qp_blk (qp_thn (qp_rnd (qp_blk (qp_thn qp_body))))) (yq (by kernel_rfl) (g_pure (v := .tuple #[.agg #[.int .i64 0, .int .i64 0, .int .i64 0, .int .i64 0, .int .i64 0, .bool false], errV ad 9]) fun _ => by kernel_rfl)) h (by kernel_rfl) ?_
            refine d_take 23 25165823 [4] rfl (v := .agg #[.int .i64 0, .int .i64 0, .int .i64 0, .int .i64 0, .int .i64 0, .bool false]) (by kernel_rfl) (qp_blk (qp_thn (qp_rnd (qp_blk (qp_thn qp_body))))) (yq (by kernel_rfl) (g_pure (v := .agg #[.int .i64 0, .int .i64 0, .int .i64 0, .int .i64 0, .int .i64 0, .bool false]) fun _ => by kernel_rfl)) h (by kernel_rfl) ?_
            refine d_take 24 16777215 [4] rfl (v := errV ad 9) (by kernel_rfl) (qp_blk (qp_thn (qp_rnd (qp_blk (qp_thn qp_body))))) (yq (by kernel_rfl) (g_pure (v := errV ad 9) fun _ => by kernel_rfl)) h (by kernel_rfl) ?_
            refine d_done (by kernel_rfl) ?_
            refine blk_n (thn_n ?_)
            refine c_reg ?_
            refine sq_p (.int .i64 (n0 : Int)) rfl (fun _ => by kernel_rfl) ?_
            refine sq_q rfl h (g_eq (v := .int .i64 (IntKind.i64.wrap ((n0 : Int) + 1))) (v' := .int .i64 ((n0 + 1 : Nat) : Int)) (g_pure fun _ => by kernel_rfl) (wr (by omega))) ?_
            refine sq_p (.int .i64 ((n0 + 1 : Nat) : Int)) rfl (fun _ => by kernel_rfl) ?_
            refine lnil ?_
            refine loop_end (fun j => ⟨(n0 + 1), lt, vt, j⟩) (show ((n0 + 1) ≤ acts.length ∧ TabOk lt) ∧ (acts.length - (n0 + 1)) < (acts.length - n0) from ⟨⟨by omega, hT0⟩, by omega⟩) (by kernel_rfl) [1, 0, 0, 0, 0, 0] (by kernel_rfl) h
          · skip
            refine ⟨by kernel_rfl, ?_⟩
            have hTl15 : TabOk (joinL l15) := hT0.lock hq12 hq13 hp16 ho17 hq18
            refine d_take 22 4194303 [4] rfl (v := .tuple #[.agg #[.int .i64 0, .int .i64 0, .int .i64 0, .int .i64 0, .int .i64 0, .bool false], .nilIface]) (by kernel_rfl) (qp_blk (qp_thn (qp_rnd (qp_blk (qp_thn qp_body))))) (yq (by kernel_rfl) (g_pure (v := .tuple #[.agg #[.int .i64 0, .int .i64 0, .int .i64 0, .int .i64 0, .int .i64 0, .bool false], .nilIface]) fun _ => by kernel_rfl)) h (by kernel_rfl) ?_
            refine d_take 23 25165823 [4] rfl (v := .agg #[.int .i64 0, .int .i64 0, .int .i64 0, .int .i64 0, .int .i64 0, .bool false]) (by kernel_rfl) (qp_blk (qp_thn (qp_rnd (qp_blk (qp_thn qp_body))))) (yq (by kernel_rfl) (g_pure (v := .agg #[.int .i64 0, .int .i64 0, .int .i64 0, .int .i64 0, .int .i64 0, .bool false]) fun _ => by kernel_rfl)) h (by kernel_rfl) ?_
            refine d_take 24 16777215 [4] rfl (v := .nilIface) (by kernel_rfl) (qp_blk (qp_thn (qp_rnd (qp_blk (qp_thn qp_body))))) (yq (by kernel_rfl) (g_pure (v := .nilIface) fun _ => by kernel_rfl)) h (by kernel_rfl) ?_
            refine d_done (by kernel_rfl) ?_
            refine blk_n (thn_n ?_)
            refine c_reg ?_
            refine sq_p (.int .i64 (n0 : Int)) rfl (fun _ => by kernel_rfl) ?_
            refine sq_q rfl h (g_eq (v := .int .i64 (IntKind.i64.wrap ((n0 : Int) + 1))) (v' := .int .i64 ((n0 + 1 : Nat) : Int)) (g_pure fun _ => by kernel_rfl) (wr (by omega))) ?_
            refine sq_p (.int .i64 ((n0 + 1 : Nat) : Int)) rfl (fun _ => by kernel_rfl) ?_
            refine lnil ?_
            refine loop_end (fun j => ⟨(n0 + 1), joinL l15, v19, j⟩) (show ((n0 + 1) ≤ acts.length ∧ TabOk (joinL l15)) ∧ (acts.length - (n0 + 1)) < (acts.length - n0) from ⟨⟨by omega, hTl15⟩, by omega⟩) (by kernel_rfl) [1, 0, 0, 0, 0, 0] (by kernel_rfl) h
        exact ad_nil
      · skip
        have hc11 := of_decide_eq_false hc11
        refine c_skip ?_
        refine blk_n (thn_n ?_)
        refine c_reg ?_
        refine sq_p (.int .i64 (n0 : Int)) rfl (fun _ => by kernel_rfl) ?_
        refine sq_q rfl h (g_eq (v := .int .i64 (IntKind.i64.wrap ((n0 : Int) + 1))) (v' := .int .i64 ((n0 + 1 : Nat) : Int)) (g_pure fun _ => by kernel_rfl) (wr (by omega))) ?_
        refine sq_p (.int .i64 ((n0 + 1 : Nat) : Int)) rfl (fun _ => by kernel_rfl) ?_
        refine lnil ?_
        refine loop_end (fun j => ⟨(n0 + 1), lt, vt, j⟩) (show ((n0 + 1) ≤ acts.length ∧ TabOk lt) ∧ (acts.length - (n0 + 1)) < (acts.length - n0) from ⟨⟨by omega, hT0⟩, by omega⟩) (by kernel_rfl) [0, 0, 0, 0, 0, 0] (by kernel_rfl) h
    · skip
      have hc7 := of_decide_eq_false hc7
      refine c_exit ?_
      refine thn_e (rnd_e (blk_e (thn_n ?_)))
      refine c_seq ?_
      refine c_reg ?_
      refine sq_p (.agg #[.int .i64 1, .int .i64 0]) rfl (fun _ => by kernel_rfl) ?_
      refine sq_new rfl (fun b => .pointer (some ⟨b, 0, none⟩)) [.int .i64 0, .int .i64 0] 29 (fun _ => by kernel_rfl) h ?_; intro k20 w h
      refine sq_st rfl 0 [.int .i64 1, .int .i64 0] [.int .i64 1, .int .i64 0] h 0 rfl (by kernel_rfl) ?_; intro w h
      refine lnil ?_
      refine thn_n ?_
      refine c_seq ?_
      refine c_reg ?_
      refine sq_p (.pointer (some ⟨k6, 0, none⟩)) rfl (fun _ => by kernel_rfl) ?_
      refine sq_q rfl h (g_ld 0 [.int .i64 1, .int .i64 0] (.agg #[.int .i64 1, .int .i64 0]) (by kernel_rfl) 0 rfl) ?_
      refine sq_q rfl h (g_ld 0 [.int .i64 a, .int .i64 s] (.agg #[.int .i64 a, .int .i64 s]) (by kernel_rfl) 4 rfl) ?_
      refine sq_p (.bool wb) rfl (fun _ => by kernel_rfl) ?_
      refine sq_call #[.pointer (some ⟨k6, 0, none⟩), .agg #[.int .i64 1, .int .i64 0], .int .i64 1, .agg #[.int .i64 a, .int .i64 s], .bool wb] [2, 1, 1] rfl (lockm_spec ad k6 vt lt 1 0 1 a s wb hT0.1.bnd hT0.small) (fun _ => by kernel_rfl) h ?_; rintro v_ L_ w (⟨hq21, rfl, rfl⟩ | ⟨x23, hq21, hq22, rfl, rfl⟩ | ⟨hq21, hq22, l24, hp25, ho26, ⟨hq27, rfl, rfl⟩ | ⟨hq27, v28, rfl, rfl⟩⟩) h
      · skip
        refine sq_p (.tuple #[.agg #[.int .i64 0, .int .i64 0, .int .i64 0, .int .i64 0, .int .i64 0, .bool false], errV ad 2]) rfl (fun _ => by kernel_rfl) ?_
        refine sq_p (.agg #[.int .i64 0, .int .i64 0, .int .i64 0, .int .i64 0, .int .i64 0, .bool false]) rfl (fun _ => by kernel_rfl) ?_
        refine sq_p (errV ad 2) rfl (fun _ => by kernel_rfl) ?_
        refine sq_new rfl (fun b => .pointer (some ⟨b, 0, none⟩)) [.int .i64 0, .int .i64 0, .int .i64 0, .int .i64 0, .int .i64 0, .bool false] 99 (fun _ => by kernel_rfl) h ?_; intro k29 w h
        refine sq_st rfl 0 [.int .i64 0, .int .i64 0, .int .i64 0, .int .i64 0, .int .i64 0, .bool false] [.int .i64 0, .int .i64 0, .int .i64 0, .int .i64 0, .int .i64 0, .bool false] h 0 rfl (by kernel_rfl) ?_; intro w h
        refine sq_p (errV ad 2) rfl (fun _ => by kernel_rfl) ?_
        refine lnil ?_
        refine thn_n ?_
        refine c_seq ?_
        refine c_seq ?_
        refine c_reg ?_
        refine sq_p (errV ad 2) rfl (fun _ => by kernel_rfl) ?_
        refine sq_p (.bool true) rfl (fun _ => by kernel_rfl) ?_
        refine lnil ?_
        refine thn_n ?_
        refine c_true (by kernel_rfl) ?_
        refine c_seq ?_
        refine c_reg ?_
        refine sq_p (.bool true) rfl (fun _ => by kernel_rfl) ?_
        refine lnil ?_
        refine thn_n ?_
        refine c_ret ?_
        refine thn_r ?_
        refine ret_end [.bool true] [6, 6] h (by kernel_rfl) (res_t (by kernel_rfl) res_n) ?_
        exact ⟨rfl, rfl⟩
      · skip
        refine sq_p (.tuple #[.agg #[.int .i64 x23.1.1, .int .i64 x23.1.2, .int .i64 x23.2.1, .int .i64 x23.2.2.1, .int .i64 (if x23.2.2.2.1 = 1152921504606846976 then 0 else x23.2.2.2.1 - x23.2.2.1), .bool x23.2.2.2.2], errV ad 11]) rfl (fun _ => by kernel_rfl) ?_
        refine sq_p (.agg #[.int .i64 x23.1.1, .int .i64 x23.1.2, .int .i64 x23.2.1, .int .i64 x23.2.2.1, .int .i64 (if x23.2.2.2.1 = 1152921504606846976 then 0 else x23.2.2.2.1 - x23.2.2.1), .bool x23.2.2.2.2]) rfl (fun _ => by kernel_rfl) ?_
        refine sq_p (errV ad 11) rfl (fun _ => by kernel_rfl) ?_
        refine sq_new rfl (fun b => .pointer (some ⟨b, 0, none⟩)) [.int .i64 0, .int .i64 0, .int .i64 0, .int .i64 0, .int .i64 0, .bool false] 99 (fun _ => by kernel_rfl) h ?_; intro k30 w h
        refine sq_st rfl 0 [.int .i64 x23.1.1, .int .i64 x23.1.2, .int .i64 x23.2.1, .int .i64 x23.2.2.1, .int .i64 (if x23.2.2.2.1 = 1152921504606846976 then 0 else x23.2.2.2.1 - x23.2.2.1), .bool x23.2.2.2.2] [.int .i64 x23.1.1, .int .i64 x23.1.2, .int .i64 x23.2.1, .int .i64 x23.2.2.1, .int .i64 (if x23.2.2.2.1 = 1152921504606846976 then 0 else x23.2.2.2.1 - x23.2.2.1), .bool x23.2.2.2.2] h 0 rfl (by kernel_rfl) ?_; intro w h
        refine sq_p (errV ad 11) rfl (fun _ => by kernel_rfl) ?_
        refine lnil ?_
        refine thn_n ?_
        refine c_seq ?_
        refine c_seq ?_
        refine c_reg ?_
        refine sq_p (errV ad 11) rfl (fun _ => by kernel_rfl) ?_
        refine sq_p (.bool true) rfl (fun _ => by kernel_rfl) ?_
        refine lnil ?_
        refine thn_n ?_
        refine c_true (by kernel_rfl) ?_
        refine c_seq ?_
        refine c_reg ?_
        refine sq_p (.bool true) rfl (fun _ => by kernel_rfl) ?_
        refine lnil ?_
        refine thn_n ?_
        refine c_ret ?_
        refine thn_r ?_
        refine ret_end [.bool true] [6, 6] h (by kernel_rfl) (res_t (by kernel_rfl) res_n) ?_
        exact ⟨rfl, rfl⟩
      · skip
        refine sq_p (.tuple #[.agg #[.int .i64 0, .int .i64 0, .int .i64 0, .int .i64 0, .int .i64 0, .bool false], errV ad 9]) rfl (fun _ => by kernel_rfl) ?_
        refine sq_p (.agg #[.int .i64 0, .int .i64 0, .int .i64 0, .int .i64 0, .int .i64 0, .bool false]) rfl (fun _ => by kernel_rfl) ?_
        refine sq_p (errV ad 9) rfl (fun _ => by kernel_rfl) ?_
        refine sq_new rfl (fun b => .pointer (some ⟨b, 0, none⟩)) [.int .i64 0, .int .i64 0, .int .i64 0, .int .i64 0, .int .i64 0, .bool false] 99 (fun _ => by kernel_rfl) h ?_; intro k31 w h
        refine sq_st rfl 0 [.int .i64 0, .int .i64 0, .int .i64 0, .int .i64 0, .int .i64 0, .bool false] [.int .i64 0, .int .i64 0, .int .i64 0, .int .i64 0, .int .i64 0, .bool false] h 0 rfl (by kernel_rfl) ?_; intro w h
        refine sq_p (errV ad 9) rfl (fun _ => by kernel_rfl) ?_
        refine lnil ?_
        refine thn_n ?_
        refine c_seq ?_
        refine c_seq ?_
        refine c_reg ?_
        refine sq_p (errV ad 9) rfl (fun _ => by kernel_rfl) ?_
        refine sq_p (.bool true) rfl (fun _ => by kernel_rfl) ?_
        refine lnil ?_
        refine thn_n ?_
        refine c_true (by kernel_rfl) ?_
        refine c_seq ?_
        refine c_reg ?_
        refine sq_p (.bool true) rfl (fun _ => by kernel_rfl) ?_
        refine lnil ?_
        refine thn_n ?_
        refine c_ret ?_
        refine thn_r ?_
        refine ret_end [.bool true] [6, 6] h (by kernel_rfl) (res_t (by kernel_rfl) res_n) ?_
        exact ⟨rfl, rfl⟩
      · skip
        have hTl24 : TabOk (joinL l24) := hT0.lock hq21 hq22 hp25 ho26 hq27
        obtain ⟨hrf, hrt, _, _⟩ := id (eOk_rng hq21)
        have hBL : ∀ x ∈ l24, BndR x := fun x hx => (add_meet hT0.1 (wr := wb) (eOk_rng hq21) hq22).1 x (hp25.mem_iff.1 hx)
        obtain ⟨yC, hyC, hcov⟩ := lock_cover (l := []) hBL (hp25.mem_iff.2 (List.mem_append_right _ (List.mem_singleton.2 rfl)))
        refine sq_p (.tuple #[.agg #[.int .i64 0, .int .i64 0, .int .i64 0, .int .i64 0, .int .i64 0, .bool false], .nilIface]) rfl (fun _ => by kernel_rfl) ?_
        refine sq_p (.agg #[.int .i64 0, .int .i64 0, .int .i64 0, .int .i64 0, .int .i64 0, .bool false]) rfl (fun _ => by kernel_rfl) ?_
        refine sq_p (.nilIface) rfl (fun _ => by kernel_rfl) ?_
        refine sq_new rfl (fun b => .pointer (some ⟨b, 0, none⟩)) [.int .i64 0, .int .i64 0, .int .i64 0, .int .i64 0, .int .i64 0, .bool false] 99 (fun _ => by kernel_rfl) h ?_; intro k32 w h
        refine sq_st rfl 0 [.int .i64 0, .int .i64 0, .int .i64 0, .int .i64 0, .int .i64 0, .bool false] [.int .i64 0, .int .i64 0, .int .i64 0, .int .i64 0, .int .i64 0, .bool false] h 0 rfl (by kernel_rfl) ?_; intro w h
        refine sq_p (.nilIface) rfl (fun _ => by kernel_rfl) ?_
        refine lnil ?_
        refine thn_n ?_
        refine c_seq ?_
        refine c_seq ?_
        refine c_reg ?_
        refine sq_p (.nilIface) rfl (fun _ => by kernel_rfl) ?_
        refine sq_p (.bool false) rfl (fun _ => by kernel_rfl) ?_
        refine lnil ?_
        refine thn_n ?_
        refine c_false (by kernel_rfl) ?_
        refine c_skip ?_
        refine thn_n ?_
        refine c_seq ?_
        refine c_reg ?_
        refine sq_p (.pointer (some ⟨k6, 0, none⟩)) rfl (fun _ => by kernel_rfl) ?_
        refine sq_q rfl h (g_ld 0 [.int .i64 1, .int .i64 0] (.agg #[.int .i64 1, .int .i64 0]) (by kernel_rfl) 4 rfl) ?_
        refine sq_q rfl h (g_ld 0 [.int .i64 a, .int .i64 s] (.agg #[.int .i64 a, .int .i64 s]) (by kernel_rfl) 5 rfl) ?_
        refine sq_p (.bool wb) rfl (fun _ => by kernel_rfl) ?_
        refine sq_call #[.pointer (some ⟨k6, 0, none⟩), .agg #[.int .i64 1, .int .i64 0], .int .i64 1, .agg #[.int .i64 a, .int .i64 s], .bool wb] [1, 1, 1] rfl (test_spec ad k6 1 0 1 a s wb (joinL l24) v28 hTl24.1.bnd hTl24.small) (fun _ => by kernel_rfl) h ?_; rintro v_ L_ w (⟨hq33, rfl, rfl⟩ | ⟨x34, hq33, hq35, rfl, rfl⟩ | ⟨hq33, hq35, rfl, rfl⟩) h
        · skip
          rw [hq21] at hq33; cases hq33
        · skip
          exact (lock_none hTl24.1 hyC hcov hrt (Found.spec hq35).1 (Found.spec hq35).2).elim
        · skip
          refine sq_p (.tuple #[.agg #[.int .i64 0, .int .i64 0, .int .i64 0, .int .i64 0, .int .i64 0, .bool false], .nilIface]) rfl (fun _ => by kernel_rfl) ?_
          refine sq_p (.agg #[.int .i64 0, .int .i64 0, .int .i64 0, .int .i64 0, .int .i64 0, .bool false]) rfl (fun _ => by kernel_rfl) ?_
          refine sq_p (.nilIface) rfl (fun _ => by kernel_rfl) ?_
          refine sq_new rfl (fun b => .pointer (some ⟨b, 0, none⟩)) [.int .i64 0, .int .i64 0, .int .i64 0, .int .i64 0, .int .i64 0, .bool false] 99 (fun _ => by kernel_rfl) h ?_; intro k36 w h
          refine sq_st rfl 0 [.int .i64 0, .int .i64 0, .int .i64 0, .int .i64 0, .int .i64 0, .bool false] [.int .i64 0, .int .i64 0, .int .i64 0, .int .i64 0, .int .i64 0, .bool false] h 0 rfl (by kernel_rfl) ?_; intro w h
          refine sq_p (.nilIface) rfl (fun _ => by kernel_rfl) ?_
          refine lnil ?_
          refine thn_n ?_
          refine c_seq ?_
          refine c_seq ?_
          refine c_reg ?_
          refine sq_p (.nilIface) rfl (fun _ => by kernel_rfl) ?_
          refine sq_p (.bool false) rfl (fun _ => by kernel_rfl) ?_
          refine lnil ?_
          refine thn_n ?_
          refine c_false (by kernel_rfl) ?_
          refine c_skip ?_
          refine thn_n ?_
          refine c_seq ?_
          refine c_seq ?_
          refine c_reg ?_
          refine sq_p (.bool wb) rfl (fun _ => by kernel_rfl) ?_
          refine lnil ?_
          refine thn_n ?_
          refine c_cond (wb) (by kernel_rfl) (fun hc37 => ?_) (fun hc37 => ?_)
          · skip
            have hwb := hc37
            refine c_seq ?_
            refine c_reg ?_
            refine sq_p (.pointer (some ⟨k6, 0, none⟩)) rfl (fun _ => by kernel_rfl) ?_
            refine sq_q rfl h (g_ld 0 [.int .i64 1, .int .i64 0] (.agg #[.int .i64 1, .int .i64 0]) (by kernel_rfl) 5 rfl) ?_
            refine sq_q rfl h (g_ld 0 [.int .i64 a, .int .i64 s] (.agg #[.int .i64 a, .int .i64 s]) (by kernel_rfl) 6 rfl) ?_
            refine sq_call #[.pointer (some ⟨k6, 0, none⟩), .agg #[.int .i64 1, .int .i64 0], .int .i64 99, .agg #[.int .i64 a, .int .i64 s], .bool false] [1, 1, 1] rfl (test_spec ad k6 1 0 99 a s false (joinL l24) v28 hTl24.1.bnd hTl24.small) (fun _ => by kernel_rfl) h ?_; rintro v_ L_ w (⟨hq38, rfl, rfl⟩ | ⟨x39, hq38, hq40, rfl, rfl⟩ | ⟨hq38, hq40, rfl, rfl⟩) h
            · skip
              rw [hq21] at hq38; cases hq38
            · skip
              have hX9 : ¬ x39.2.1 = 99 := by have := (Found.spec hq40).2; simp [heldP] at this; exact this.2.1
              refine sq_p (.tuple #[.agg #[.int .i64 x39.1.1, .int .i64 x39.1.2, .int .i64 x39.2.1, .int .i64 x39.2.2.1, .int .i64 (if x39.2.2.2.1 = 1152921504606846976 then 0 else x39.2.2.2.1 - x39.2.2.1), .bool x39.2.2.2.2], errV ad 11]) rfl (fun _ => by kernel_rfl) ?_
              refine sq_p (.agg #[.int .i64 x39.1.1, .int .i64 x39.1.2, .int .i64 x39.2.1, .int .i64 x39.2.2.1, .int .i64 (if x39.2.2.2.1 = 1152921504606846976 then 0 else x39.2.2.2.1 - x39.2.2.1), .bool x39.2.2.2.2]) rfl (fun _ => by kernel_rfl) ?_
              refine sq_p (errV ad 11) rfl (fun _ => by kernel_rfl) ?_
              refine sq_new rfl (fun b => .pointer (some ⟨b, 0, none⟩)) [.int .i64 0, .int .i64 0, .int .i64 0, .int .i64 0, .int .i64 0, .bool false] 99 (fun _ => by kernel_rfl) h ?_; intro k41 w h
              refine sq_st rfl 0 [.int .i64 x39.1.1, .int .i64 x39.1.2, .int .i64 x39.2.1, .int .i64 x39.2.2.1, .int .i64 (if x39.2.2.2.1 = 1152921504606846976 then 0 else x39.2.2.2.1 - x39.2.2.1), .bool x39.2.2.2.2] [.int .i64 x39.1.1, .int .i64 x39.1.2, .int .i64 x39.2.1, .int .i64 x39.2.2.1, .int .i64 (if x39.2.2.2.1 = 1152921504606846976 then 0 else x39.2.2.2.1 - x39.2.2.1), .bool x39.2.2.2.2] h 0 rfl (by kernel_rfl) ?_; intro w h
              refine sq_p (errV ad 11) rfl (fun _ => by kernel_rfl) ?_
              refine lnil ?_
              refine thn_n ?_
              refine c_seq ?_
              refine c_reg ?_
              refine sq_p (errV ad 11) rfl (fun _ => by kernel_rfl) ?_
              refine sq_call #[errV ad 11, .int .i64 11] [9] rfl (coded2_spec ad 11 11 (by decide) (by decide)) (fun _ => by kernel_rfl) h ?_; rintro v_ L_ w ⟨rfl, rfl⟩ h
              refine sq_p (.bool false) rfl (fun _ => by kernel_rfl) ?_
              refine sq_p (.bool false) rfl (fun _ => by kernel_rfl) ?_
              refine sq_p (.pointer (some ⟨k41, 2, none⟩)) (by kernel_rfl) (fun _ => by kernel_rfl) ?_
              refine sq_q (by kernel_rfl) h (g_ld 2 [.int .i64 x39.2.1] (.int .i64 x39.2.1) (by kernel_rfl) 1 rfl) ?_
              obtain ⟨b42, hb42⟩ : ∃ b_ : Bool, b_ = (decide (x39.2.1 = 99)) := ⟨_, rfl⟩
              refine sq_q (v := .bool b42) (by kernel_rfl) h (by subst hb42; exact g_pure (v := .bool (decide (x39.2.1 = 99))) fun _ => by kernel_rfl) ?_
              refine sq_p (.bool b42) rfl (fun _ => by kernel_rfl) ?_
              refine lnil ?_
              refine thn_n ?_
              refine c_cond (b42) (by kernel_rfl) (fun hc43 => ?_) (fun hc43 => ?_)
              · skip
                have q44 : (decide (x39.2.1 = 99)) = true := by rw [← hb42]; exact hc43
                have q44 := of_decide_eq_true q44
                exfalso; revert hc43; subst hb42; simp [hX9]
              · skip
                have q45 : (decide (x39.2.1 = 99)) = false := by rw [← hb42]; exact hc43
                have q45 := of_decide_eq_false q45
                refine c_skip ?_
                refine thn_n ?_
                refine c_seq ?_
                refine c_seq ?_
                refine c_reg ?_
                refine sq_p (.pointer (some ⟨k6, 0, none⟩)) rfl (fun _ => by kernel_rfl) ?_
                refine sq_q rfl h (g_ld 0 [.int .i64 1, .int .i64 0] (.agg #[.int .i64 1, .int .i64 0]) (by kernel_rfl) 7 rfl) ?_
                refine sq_q rfl h (g_ld 0 [.int .i64 a, .int .i64 s] (.agg #[.int .i64 a, .int .i64 s]) (by kernel_rfl) 8 rfl) ?_
                refine sq_call #[.pointer (some ⟨k6, 0, none⟩), .agg #[.int .i64 1, .int .i64 0], .int .i64 1, .agg #[.int .i64 a, .int .i64 s]] [2, 2, 2] rfl (unlock_spec ad k6 v28 (joinL l24) 1 0 1 a s hTl24.small) (fun _ => by kernel_rfl) h ?_; rintro v_ L_ w (⟨hq46, rfl, rfl⟩ | ⟨hq46, hq47, rfl, rfl⟩ | ⟨hq46, hq47, v48, rfl, rfl⟩) h
                · skip
                  rw [hq21] at hq46; cases hq46
                · skip
                  refine sq_p (.bool true) rfl (fun _ => by kernel_rfl) ?_
                  refine lnil ?_
                  refine thn_n ?_
                  refine c_true (by kernel_rfl) ?_
                  refine c_seq ?_
                  refine c_reg ?_
                  refine sq_p (.bool true) rfl (fun _ => by kernel_rfl) ?_
                  refine lnil ?_
                  refine thn_n ?_
                  refine c_ret ?_
                  refine thn_r ?_
                  refine ret_end [.bool true] [9, 3] h (by kernel_rfl) (res_t (by kernel_rfl) res_n) ?_
                  exact ⟨rfl, rfl⟩
                · skip
                  have hT49 := hTl24.unlock (h := (1, 0)) (o := 1) hq46 hq47
                  refine sq_p (.bool false) rfl (fun _ => by kernel_rfl) ?_
                  refine lnil ?_
                  refine thn_n ?_
                  refine c_false (by kernel_rfl) ?_
                  refine c_skip ?_
                  refine thn_n ?_
                  refine c_seq ?_
                  refine c_reg ?_
                  refine sq_p (.pointer (some ⟨k6, 0, none⟩)) rfl (fun _ => by kernel_rfl) ?_
                  refine sq_q rfl h (g_ld 0 [.int .i64 1, .int .i64 0] (.agg #[.int .i64 1, .int .i64 0]) (by kernel_rfl) 7 rfl) ?_
                  refine sq_q rfl h (g_ld 0 [.int .i64 a, .int .i64 s] (.agg #[.int .i64 a, .int .i64 s]) (by kernel_rfl) 8 rfl) ?_
                  refine sq_call #[.pointer (some ⟨k6, 0, none⟩), .agg #[.int .i64 1, .int .i64 0], .int .i64 99, .agg #[.int .i64 a, .int .i64 s], .bool true] [0, 0, 0] rfl (test_spec ad k6 1 0 99 a s true (cutL (joinL l24) (1, 0) 1 (eF a s) (eT a s)) v48 hT49.1.bnd hT49.small) (fun _ => by kernel_rfl) h ?_; rintro v_ L_ w (⟨hq50, rfl, rfl⟩ | ⟨x51, hq50, hq52, rfl, rfl⟩ | ⟨hq50, hq52, rfl, rfl⟩) h
                  · skip
                    rw [hq21] at hq50; cases hq50
                  · skip
                    have hX1 := cut_gone hTl24.1 (eOk_rng hq21) (Found.spec hq52).1 (Found.spec hq52).2
                    refine sq_p (.tuple #[.agg #[.int .i64 x51.1.1, .int .i64 x51.1.2, .int .i64 x51.2.1, .int .i64 x51.2.2.1, .int .i64 (if x51.2.2.2.1 = 1152921504606846976 then 0 else x51.2.2.2.1 - x51.2.2.1), .bool x51.2.2.2.2], errV ad 11]) rfl (fun _ => by kernel_rfl) ?_
                    refine sq_p (.agg #[.int .i64 x51.1.1, .int .i64 x51.1.2, .int .i64 x51.2.1, .int .i64 x51.2.2.1, .int .i64 (if x51.2.2.2.1 = 1152921504606846976 then 0 else x51.2.2.2.1 - x51.2.2.1), .bool x51.2.2.2.2]) rfl (fun _ => by kernel_rfl) ?_
                    refine sq_p (errV ad 11) rfl (fun _ => by kernel_rfl) ?_
                    refine sq_new rfl (fun b => .pointer (some ⟨b, 0, none⟩)) [.int .i64 0, .int .i64 0, .int .i64 0, .int .i64 0, .int .i64 0, .bool false] 99 (fun _ => by kernel_rfl) h ?_; intro k53 w h
                    refine sq_st rfl 0 [.int .i64 x51.1.1, .int .i64 x51.1.2, .int .i64 x51.2.1, .int .i64 x51.2.2.1, .int .i64 (if x51.2.2.2.1 = 1152921504606846976 then 0 else x51.2.2.2.1 - x51.2.2.1), .bool x51.2.2.2.2] [.int .i64 x51.1.1, .int .i64 x51.1.2, .int .i64 x51.2.1, .int .i64 x51.2.2.1, .int .i64 (if x51.2.2.2.1 = 1152921504606846976 then 0 else x51.2.2.2.1 - x51.2.2.1), .bool x51.2.2.2.2] h 0 rfl (by kernel_rfl) ?_; intro w h
                    refine sq_p (errV ad 11) rfl (fun _ => by kernel_rfl) ?_
                    refine lnil ?_
                    refine thn_n ?_
                    refine c_seq ?_
                    refine c_reg ?_
                    refine sq_p (errV ad 11) rfl (fun _ => by kernel_rfl) ?_
                    refine sq_p (.bool false) rfl (fun _ => by kernel_rfl) ?_
                    refine sq_p (.bool false) rfl (fun _ => by kernel_rfl) ?_
                    refine sq_p (.pointer (some ⟨k53, 2, none⟩)) (by kernel_rfl) (fun _ => by kernel_rfl) ?_
                    refine sq_q (by kernel_rfl) h (g_ld 2 [.int .i64 x51.2.1] (.int .i64 x51.2.1) (by kernel_rfl) 0 rfl) ?_
                    obtain ⟨b54, hb54⟩ : ∃ b_ : Bool, b_ = (!(decide (x51.2.1 = 1))) := ⟨_, rfl⟩
                    refine sq_q (v := .bool b54) (by kernel_rfl) h (by subst hb54; exact g_pure (v := .bool (!(decide (x51.2.1 = 1)))) fun _ => by kernel_rfl) ?_
                    refine sq_p (.bool b54) rfl (fun _ => by kernel_rfl) ?_
                    refine sq_p (.bool b54) rfl (fun _ => by kernel_rfl) ?_
                    refine lnil ?_
                    refine thn_n ?_
                    refine c_ret ?_
                    refine ret_end [.bool b54] [10, 4] h (by kernel_rfl) (res_t (by kernel_rfl) res_n) ?_
                    refine ⟨?_, rfl⟩
                    show Value.bool _ = _
                    subst hb54
                    simp [hX1]
                  · skip
                    refine sq_p (.tuple #[.agg #[.int .i64 0, .int .i64 0, .int .i64 0, .int .i64 0, .int .i64 0, .bool false], .nilIface]) rfl (fun _ => by kernel_rfl) ?_
                    refine sq_p (.agg #[.int .i64 0, .int .i64 0, .int .i64 0, .int .i64 0, .int .i64 0, .bool false]) rfl (fun _ => by kernel_rfl) ?_
                    refine sq_p (.nilIface) rfl (fun _ => by kernel_rfl) ?_
                    refine sq_new rfl (fun b => .pointer (some ⟨b, 0, none⟩)) [.int .i64 0, .int .i64 0, .int .i64 0, .int .i64 0, .int .i64 0, .bool false] 99 (fun _ => by kernel_rfl) h ?_; intro k55 w h
                    refine sq_st rfl 0 [.int .i64 0, .int .i64 0, .int .i64 0, .int .i64 0, .int .i64 0, .bool false] [.int .i64 0, .int .i64 0, .int .i64 0, .int .i64 0, .int .i64 0, .bool false] h 0 rfl (by kernel_rfl) ?_; intro w h
                    refine sq_p (.nilIface) rfl (fun _ => by kernel_rfl) ?_
                    refine lnil ?_
                    refine thn_n ?_
                    refine c_seq ?_
                    refine c_reg ?_
                    refine sq_p (.nilIface) rfl (fun _ => by kernel_rfl) ?_
                    refine sq_p (.bool true) rfl (fun _ => by kernel_rfl) ?_
                    refine sq_p (.bool true) rfl (fun _ => by kernel_rfl) ?_
                    refine sn (by kernel_rfl) ?_
                    refine sn (by kernel_rfl) ?_
                    refine sn (by kernel_rfl) ?_
                    refine sq_p (.bool true) rfl (fun _ => by kernel_rfl) ?_
                    refine sq_p (.bool true) rfl (fun _ => by kernel_rfl) ?_
                    refine lnil ?_
                    refine thn_n ?_
                    refine c_ret ?_
                    refine ret_end [.bool true] [10, 4] h (by kernel_rfl) (res_t (by kernel_rfl) res_n) ?_
                    exact ⟨rfl, rfl⟩
            · skip
              have hH := lock_held hyC hcov hrt (o := 99) (by show (1 : Int) ≠ 99; decide) hwb
              rw [hq40 _ hyC] at hH; cases hH
          · skip
            refine c_skip ?_
            refine thn_n ?_
            refine c_seq ?_
            refine c_seq ?_
            refine c_reg ?_
            refine sq_p (.pointer (some ⟨k6, 0, none⟩)) rfl (fun _ => by kernel_rfl) ?_
            refine sq_q rfl h (g_ld 0 [.int .i64 1, .int .i64 0] (.agg #[.int .i64 1, .int .i64 0]) (by kernel_rfl) 5 rfl) ?_
            refine sq_q rfl h (g_ld 0 [.int .i64 a, .int .i64 s] (.agg #[.int .i64 a, .int .i64 s]) (by kernel_rfl) 6 rfl) ?_
            refine sq_call #[.pointer (some ⟨k6, 0, none⟩), .agg #[.int .i64 1, .int .i64 0], .int .i64 1, .agg #[.int .i64 a, .int .i64 s]] [1, 1, 1] rfl (unlock_spec ad k6 v28 (joinL l24) 1 0 1 a s hTl24.small) (fun _ => by kernel_rfl) h ?_; rintro v_ L_ w (⟨hq56, rfl, rfl⟩ | ⟨hq56, hq57, rfl, rfl⟩ | ⟨hq56, hq57, v58, rfl, rfl⟩) h
            · skip
              rw [hq21] at hq56; cases hq56
            · skip
              refine sq_p (.bool true) rfl (fun _ => by kernel_rfl) ?_
              refine lnil ?_
              refine thn_n ?_
              refine c_true (by kernel_rfl) ?_
              refine c_seq ?_
              refine c_reg ?_
              refine sq_p (.bool true) rfl (fun _ => by kernel_rfl) ?_
              refine lnil ?_
              refine thn_n ?_
              refine c_ret ?_
              refine thn_r ?_
              refine ret_end [.bool true] [7, 7] h (by kernel_rfl) (res_t (by kernel_rfl) res_n) ?_
              exact ⟨rfl, rfl⟩
            · skip
              have hT59 := hTl24.unlock (h := (1, 0)) (o := 1) hq56 hq57
              refine sq_p (.bool false) rfl (fun _ => by kernel_rfl) ?_
              refine lnil ?_
              refine thn_n ?_
              refine c_false (by kernel_rfl) ?_
              refine c_skip ?_
              refine thn_n ?_
              refine c_seq ?_
              refine c_reg ?_
              refine sq_p (.pointer (some ⟨k6, 0, none⟩)) rfl (fun _ => by kernel_rfl) ?_
              refine sq_q rfl h (g_ld 0 [.int .i64 1, .int .i64 0] (.agg #[.int .i64 1, .int .i64 0]) (by kernel_rfl) 5 rfl) ?_
              refine sq_q rfl h (g_ld 0 [.int .i64 a, .int .i64 s] (.agg #[.int .i64 a, .int .i64 s]) (by kernel_rfl) 6 rfl) ?_
              refine sq_call #[.pointer (some ⟨k6, 0, none⟩), .agg #[.int .i64 1, .int .i64 0], .int .i64 99, .agg #[.int .i64 a, .int .i64 s], .bool true] [0, 0, 0] rfl (test_spec ad k6 1 0 99 a s true (cutL (joinL l24) (1, 0) 1 (eF a s) (eT a s)) v58 hT59.1.bnd hT59.small) (fun _ => by kernel_rfl) h ?_; rintro v_ L_ w (⟨hq60, rfl, rfl⟩ | ⟨x61, hq60, hq62, rfl, rfl⟩ | ⟨hq60, hq62, rfl, rfl⟩) h
              · skip
                rw [hq21] at hq60; cases hq60
              · skip
                have hX1 := cut_gone hTl24.1 (eOk_rng hq21) (Found.spec hq62).1 (Found.spec hq62).2
                refine sq_p (.tuple #[.agg #[.int .i64 x61.1.1, .int .i64 x61.1.2, .int .i64 x61.2.1, .int .i64 x61.2.2.1, .int .i64 (if x61.2.2.2.1 = 1152921504606846976 then 0 else x61.2.2.2.1 - x61.2.2.1), .bool x61.2.2.2.2], errV ad 11]) rfl (fun _ => by kernel_rfl) ?_
                refine sq_p (.agg #[.int .i64 x61.1.1, .int .i64 x61.1.2, .int .i64 x61.2.1, .int .i64 x61.2.2.1, .int .i64 (if x61.2.2.2.1 = 1152921504606846976 then 0 else x61.2.2.2.1 - x61.2.2.1), .bool x61.2.2.2.2]) rfl (fun _ => by kernel_rfl) ?_
                refine sq_p (errV ad 11) rfl (fun _ => by kernel_rfl) ?_
                refine sq_new rfl (fun b => .pointer (some ⟨b, 0, none⟩)) [.int .i64 0, .int .i64 0, .int .i64 0, .int .i64 0, .int .i64 0, .bool false] 99 (fun _ => by kernel_rfl) h ?_; intro k63 w h
                refine sq_st rfl 0 [.int .i64 x61.1.1, .int .i64 x61.1.2, .int .i64 x61.2.1, .int .i64 x61.2.2.1, .int .i64 (if x61.2.2.2.1 = 1152921504606846976 then 0 else x61.2.2.2.1 - x61.2.2.1), .bool x61.2.2.2.2] [.int .i64 x61.1.1, .int .i64 x61.1.2, .int .i64 x61.2.1, .int .i64 x61.2.2.1, .int .i64 (if x61.2.2.2.1 = 1152921504606846976 then 0 else x61.2.2.2.1 - x61.2.2.1), .bool x61.2.2.2.2] h 0 rfl (by kernel_rfl) ?_; intro w h
                refine sq_p (errV ad 11) rfl (fun _ => by kernel_rfl) ?_
                refine lnil ?_
                refine thn_n ?_
                refine c_seq ?_
                refine c_reg ?_
                refine sq_p (errV ad 11) rfl (fun _ => by kernel_rfl) ?_
                refine sq_p (.bool false) rfl (fun _ => by kernel_rfl) ?_
                refine sq_p (.bool false) rfl (fun _ => by kernel_rfl) ?_
                refine sq_p (.pointer (some ⟨k63, 2, none⟩)) (by kernel_rfl) (fun _ => by kernel_rfl) ?_
                refine sq_q (by kernel_rfl) h (g_ld 2 [.int .i64 x61.2.1] (.int .i64 x61.2.1) (by kernel_rfl) 0 rfl) ?_
                obtain ⟨b64, hb64⟩ : ∃ b_ : Bool, b_ = (!(decide (x61.2.1 = 1))) := ⟨_, rfl⟩
                refine sq_q (v := .bool b64) (by kernel_rfl) h (by subst hb64; exact g_pure (v := .bool (!(decide (x61.2.1 = 1)))) fun _ => by kernel_rfl) ?_
                refine sq_p (.bool b64) rfl (fun _ => by kernel_rfl) ?_
                refine sq_p (.bool b64) rfl (fun _ => by kernel_rfl) ?_
                refine lnil ?_
                refine thn_n ?_
                refine c_ret ?_
                refine ret_end [.bool b64] [8, 8] h (by kernel_rfl) (res_t (by kernel_rfl) res_n) ?_
                refine ⟨?_, rfl⟩
                show Value.bool _ = _
                subst hb64
                simp [hX1]
              · skip
                refine sq_p (.tuple #[.agg #[.int .i64 0, .int .i64 0, .int .i64 0, .int .i64 0, .int .i64 0, .bool false], .nilIface]) rfl (fun _ => by kernel_rfl) ?_
                refine sq_p (.agg #[.int .i64 0, .int .i64 0, .int .i64 0, .int .i64 0, .int .i64 0, .bool false]) rfl (fun _ => by kernel_rfl) ?_
                refine sq_p (.nilIface) rfl (fun _ => by kernel_rfl) ?_
                refine sq_new rfl (fun b => .pointer (some ⟨b, 0, none⟩)) [.int .i64 0, .int .i64 0, .int .i64 0, .int .i64 0, .int .i64 0, .bool false] 99 (fun _ => by kernel_rfl) h ?_; intro k65 w h
                refine sq_st rfl 0 [.int .i64 0, .int .i64 0, .int .i64 0, .int .i64 0, .int .i64 0, .bool false] [.int .i64 0, .int .i64 0, .int .i64 0, .int .i64 0, .int .i64 0, .bool false] h 0 rfl (by kernel_rfl) ?_; intro w h
                refine sq_p (.nilIface) rfl (fun _ => by kernel_rfl) ?_
                refine lnil ?_
                refine thn_n ?_
                refine c_seq ?_
                refine c_reg ?_
                refine sq_p (.nilIface) rfl (fun _ => by kernel_rfl) ?_
                refine sq_p (.bool true) rfl (fun _ => by kernel_rfl) ?_
                refine sq_p (.bool true) rfl (fun _ => by kernel_rfl) ?_
                refine sn (by kernel_rfl) ?_
                refine sn (by kernel_rfl) ?_
                refine sn (by kernel_rfl) ?_
                refine sq_p (.bool true) rfl (fun _ => by kernel_rfl) ?_
                refine sq_p (.bool true) rfl (fun _ => by kernel_rfl) ?_
                refine lnil ?_
                refine thn_n ?_
                refine c_ret ?_
                refine ret_end [.bool true] [8, 8] h (by kernel_rfl) (res_t (by kernel_rfl) res_n) ?_
                exact ⟨rfl, rfl⟩
end Go.Proofs.YtofhnglgebllbaaDoor
