/- share: contracts by what is owned (printed by walk.py). -/
import Derived.Test.YtofhnglgebllbaaDoorShD
namespace Go.Proofs.YtofhnglgebllbaaDoor
open Go.RowKit
set_option linter.unusedVariables false
set_option linter.unusedSimpArgs false
set_option linter.unnecessarySimpa false
set_option maxRecDepth 100000

theorem Env.top {B : Nat} {ad : Nat → Addr} {cs : List Nat} {w : World} (h : Env B ad cs w) : Env w.heap.size ad cs w :=
  ⟨Nat.le_refl _, fun c hc => ⟨(h.glob c hc).1, Nat.lt_of_lt_of_le (h.glob c hc).2 h.size⟩, fun c hc => ⟨(h.row c hc).1, (h.row c hc).2.1, Nat.lt_of_lt_of_le (h.row c hc).2.2 h.size⟩, h.dist⟩
theorem shared_spec {B : Nat} (ad : Nat → Addr) : Spec Tryd.prog 37 #[] [rEnv B ad [2, 9, 11]] fun u L => u = .bool true ∧ L = [rEnv B ad [2, 9, 11]] := fun E w0 w ho => by
  have he : Env B ad [2, 9, 11] w := ho.fact 0 rfl
  exact (shared_any ad w he.top).mono fun e w' ⟨he, hc⟩ => ⟨_, _, ⟨rfl, rfl⟩, he, ho.quiet hc⟩
theorem filt_eq {l : List Opn} {p : Opn → Bool} (h : (l.filter fun x => !p x).length = l.length) : l.any p = false := by
  rcases filter_len p l with ⟨_, h2⟩ | ⟨h1, _⟩
  · omega
  · exact h1
theorem filt_ne {l : List Opn} {p : Opn → Bool} (h : ¬ (l.filter fun x => !p x).length = l.length) : l.any p = true := by
  rcases filter_len p l with ⟨h1, _⟩ | ⟨_, h2⟩
  · exact h1
  · rw [h2] at h; exact absurd rfl h
def sactC (x : SAct) : List Value := [.string x.1, .int .i64 x.2.1.1, .int .i64 x.2.1.2.1, .int .i64 x.2.2.1, .int .i64 x.2.2.2.1, .int .i64 x.2.2.2.2.1]
theorem le_open (l : List Opn) (h : Int × Int) (o a d : Int) : (shOpen l h o a d).2 ≤ 15 := by
  unfold shOpen; split
  · simp
  · split
    · simp
    · split
      · simp
      · split <;> simp
theorem le_down (l : List Opn) (h : Int × Int) (o a d : Int) : (shDown l h o a d).2 ≤ 15 := by
  unfold shDown; split
  · simp
  · split
    · simp
    · split
      · simp
      · split <;> simp
theorem le_close (l : List Opn) (h : Int × Int) (o : Int) : (shClose l h o).2 ≤ 15 := by
  unfold shClose; dsimp only; split <;> simp
theorem le_may (l : List Opn) (h : Int × Int) (o a : Int) : shMay l h o a ≤ 15 := by
  unfold shMay; split
  · simp
  · split
    · simp
    · split
      · simp
      · split <;> simp
theorem le_any (l : List Opn) (h : Int × Int) (a : Int) : shAnyone l h a ≤ 15 := by
  unfold shAnyone; split
  · simp
  · split <;> simp

set_option maxHeartbeats 1000000 in
theorem shClose_spec {B : Nat} {ad : Nat → Addr} (b : Nat) (v : Value) (tt : TypeId) (l : List Opn) (n g o : Int) (hl : l.length ≤ 1000) : Spec Tryd.prog 40 #[.pointer (some ⟨b, 0, none⟩), .agg #[.int .i64 n, .int .i64 g], .int .i64 o] [rCell true b [v] tt, rRows true v 76 5 opnC l, rEnv B ad [5]] (fun u L => ∃ v', u = errV ad (shClose l (n, g) o).2 ∧ L = [rCell true b [v'] tt, rRows true v' 76 5 opnC (shClose l (n, g) o).1, rEnv B ad [5]]) := by
  have hfl := List.length_filter_le (fun x => !mineP (n, g) o x) l
  refine spec_of (#[.pointer (some ⟨b, 0, none⟩), .agg #[.int .i64 n, .int .i64 g], .int .i64 o, undef, undef, undef, undef, undef, undef, undef, undef, undef, undef, undef, undef, undef, undef, undef, undef, undef, undef, undef, undef, undef, undef, undef, undef, undef, undef, undef]) Tryd.func40 rfl (by kernel_rfl) fun E w0 w h => ?_
  refine c_seq ?_
  refine c_reg ?_
  refine sq_new rfl (fun b => .pointer (some ⟨b, 0, none⟩)) [.int .i64 n, .int .i64 g] 29 (fun _ => by kernel_rfl) h ?_; intro k1 w h
  refine sq_new rfl (fun b => .pointer (some ⟨b, 0, none⟩)) [.int .i64 o] 3 (fun _ => by kernel_rfl) h ?_; intro k2 w h
  refine sq_p (.nilIface) rfl (fun _ => by kernel_rfl) ?_
  refine lnil ?_
  refine thn_n ?_
  refine c_seq ?_
  refine c_reg ?_
  refine sq_p (.pointer (some ⟨b, 0, none⟩)) rfl (fun _ => by kernel_rfl) ?_
  refine sq_p (.pointer (some ⟨b, 0, none⟩)) rfl (fun _ => by kernel_rfl) ?_
  refine sq_p (.pointer (some ⟨b, 0, none⟩)) rfl (fun _ => by kernel_rfl) ?_
  refine sq_q rfl h (g_ld 0 [v] (v) (by kernel_rfl) 2 rfl) ?_
  refine sq_q rfl h (g_len (by kernel_rfl) 3 rfl) ?_
  refine sq_p (.int .i64 (l.length : Int)) rfl (fun _ => by kernel_rfl) ?_
  refine lnil ?_
  refine thn_n ?_
  refine c_seq ?_
  refine c_reg ?_
  refine sq_p (.pointer (some ⟨b, 0, none⟩)) rfl (fun _ => by kernel_rfl) ?_
  refine sq_p (.pointer (some ⟨b, 0, none⟩)) rfl (fun _ => by kernel_rfl) ?_
  refine sq_p (.pointer (some ⟨b, 0, none⟩)) rfl (fun _ => by kernel_rfl) ?_
  refine sq_p (.pointer (some ⟨b, 0, none⟩)) rfl (fun _ => by kernel_rfl) ?_
  refine sq_q rfl h (g_ld 0 [v] (v) (by kernel_rfl) 2 rfl) ?_
  refine sq_p (.func (.func 116) #[] #[.pointer (some ⟨k1, 0, none⟩), .pointer (some ⟨k2, 0, none⟩)]) rfl (fun _ => by kernel_rfl) ?_
  refine sq_call #[v, .func (.func 116) #[] #[.pointer (some ⟨k1, 0, none⟩), .pointer (some ⟨k2, 0, none⟩)]] [3, 1, 0] rfl (delOpn_spec (M := [rCell true k1 [.int .i64 n, .int .i64 g] 29, rCell true k2 [.int .i64 o] 3]) (mineP (n, g) o) 116 #[.pointer (some ⟨k1, 0, none⟩), .pointer (some ⟨k2, 0, none⟩)] entersClose (fun x W hM => close1_any n g o x k1 k2 29 3 W (hM (rCell true k1 [.int .i64 n, .int .i64 g] 29) (by simp)) (hM (rCell true k2 [.int .i64 o] 3) (by simp)))) (fun _ => by kernel_rfl) h ?_; rintro v3 L_ w ⟨_, rfl, rfl⟩ h
  refine sq_p (.pointer (some ⟨b, 0, none⟩)) rfl (fun _ => by kernel_rfl) ?_
  refine sq_p (.pointer (some ⟨b, 0, none⟩)) rfl (fun _ => by kernel_rfl) ?_
  refine sq_sto rfl (h.slv 0 rfl) 0 [v3] h 3 rfl (by kernel_rfl) ?_; intro w h
  refine lnil ?_
  refine thn_n ?_
  refine c_seq ?_
  refine c_seq ?_
  refine c_reg ?_
  refine sq_p (.pointer (some ⟨b, 0, none⟩)) rfl (fun _ => by kernel_rfl) ?_
  refine sq_p (.pointer (some ⟨b, 0, none⟩)) rfl (fun _ => by kernel_rfl) ?_
  refine sq_p (.pointer (some ⟨b, 0, none⟩)) rfl (fun _ => by kernel_rfl) ?_
  refine sq_q rfl h (g_ld 0 [v3] (v3) (by kernel_rfl) 3 rfl) ?_
  refine sq_q rfl h (g_len (by kernel_rfl) 0 rfl) ?_
  refine sq_p (.int .i64 (l.length : Int)) rfl (fun _ => by kernel_rfl) ?_
  refine sq_p (.bool (decide (((l.filter fun x => !mineP (n, g) o x).length : Int) = (l.length : Int)))) rfl (fun _ => by kernel_rfl) ?_
  refine lnil ?_
  refine thn_n ?_
  refine c_cond (decide (((l.filter fun x => !mineP (n, g) o x).length : Int) = (l.length : Int))) (by kernel_rfl) (fun hc4 => ?_) (fun hc4 => ?_)
  · skip
    have hc4 := of_decide_eq_true hc4
    refine c_seq ?_
    refine c_reg ?_
    refine sq_q rfl h (g_ldr (b := gl 5) 0 [errV ad 5] (errV ad 5) (by kernel_rfl) 4 rfl (rdEnv (c := 5) (by decide) rfl)) ?_
    refine sq_p (errV ad 5) rfl (fun _ => by kernel_rfl) ?_
    refine lnil ?_
    refine thn_n ?_
    refine c_ret ?_
    refine thn_r ?_
    refine ret_end [errV ad 5] [3, 0, 2] h (by kernel_rfl) (res_t (by kernel_rfl) res_n) ?_
    have hA := filt_eq (l := l) (p := mineP (n, g) o) (by omega)
    have hC : shClose l (n, g) o = (l.filter fun x => !mineP (n, g) o x, 5) := by unfold shClose; rw [hA]; rfl
    rw [hC]
    exact ⟨_, rfl, rfl⟩
  · skip
    have hc4 := of_decide_eq_false hc4
    refine c_skip ?_
    refine thn_n ?_
    refine c_seq ?_
    refine c_reg ?_
    refine sq_p (.nilIface) rfl (fun _ => by kernel_rfl) ?_
    refine lnil ?_
    refine thn_n ?_
    refine c_ret ?_
    refine ret_end [.nilIface] [3, 0, 2] h (by kernel_rfl) (res_t (by kernel_rfl) res_n) ?_
    have hA := filt_ne (l := l) (p := mineP (n, g) o) (by omega)
    have hC : shClose l (n, g) o = (l.filter fun x => !mineP (n, g) o x, 0) := by unfold shClose; rw [hA]; rfl
    rw [hC]
    exact ⟨_, rfl, rfl⟩
set_option maxHeartbeats 1000000 in
theorem opens_spec (v : Value) (l : List Opn) (hl : l.length ≤ 1000) : Spec Tryd.prog 66 #[v] [rRows true v 76 5 opnC l] (fun u L => ∃ v', u = v' ∧ L = [rRows true v' 222 5 opnC l, rRows true v 76 5 opnC l]) := by
  refine spec_of (#[v, undef, undef, undef, undef, undef, undef, undef, undef, undef, undef, undef, undef, undef, undef, undef, undef, undef, undef, undef, undef, undef, undef, undef, undef, undef, undef, undef, undef, undef, undef, undef, undef, undef, undef, undef]) Tryd.func66 rfl (by kernel_rfl) fun E w0 w h => ?_
  refine c_seq ?_
  refine c_reg ?_
  refine sq_p (.slice none 0 0) rfl (fun _ => by kernel_rfl) ?_
  refine lnil ?_
  refine thn_n ?_
  refine c_seq ?_
  refine c_reg ?_
  refine sq_p (.slice none 0 0) rfl (fun _ => by kernel_rfl) ?_
  refine lnil ?_
  refine thn_n ?_
  refine c_seq ?_
  refine c_seq ?_
  refine c_reg ?_
  refine sq_p (.int .i64 0) rfl (fun _ => by kernel_rfl) ?_
  refine lnil ?_
  refine thn_n ?_
  refine c_block ?_
  have h := h.nilRows 222 5 opnC
  refine c_loop (X := Nat × List Opn × Value × (Nat → Value)) (fun ⟨i, out, vo, J0⟩ => ⟨#[v, undef, .slice none 0 0, vo, .int .i64 (i : Int), J0 5, J0 6, J0 7, J0 8, J0 9, J0 10, J0 11, J0 12, J0 13, J0 14, J0 15, J0 16, J0 17, J0 18, J0 19, J0 20, J0 21, J0 22, J0 23, J0 24, J0 25, J0 26, J0 27, J0 28, J0 29, J0 30, J0 31, J0 32, J0 33, J0 34, undef], []⟩)
    (fun ⟨i, out, vo, J0⟩ => [rRows true vo 222 5 opnC out, rRows true v 76 5 opnC l]) (fun ⟨i, out, vo, J0⟩ => i ≤ l.length ∧ out = l.take i) (fun ⟨i, out, vo, J0⟩ => l.length - i)
    ⟨0, [], (.slice none 0 0), (fun n => (#[v, undef, .slice none 0 0, .slice none 0 0, .int .i64 0, undef, undef, undef, undef, undef, undef, undef, undef, undef, undef, undef, undef, undef, undef, undef, undef, undef, undef, undef, undef, undef, undef, undef, undef, undef, undef, undef, undef, undef, undef, undef] : Array Value).getD n undef)⟩ ⟨by omega, rfl⟩ (by kernel_rfl) [0, 0] (by kernel_rfl) h ?_
  rintro ⟨i, out, vo, J0⟩ w hG h
  obtain ⟨hi0, ho⟩ : i ≤ l.length ∧ out = l.take i := hG
  have hol : out.length ≤ i := by rw [ho, List.length_take]; omega
  refine c_seq ?_
  refine c_seq ?_
  refine c_reg ?_
  refine sq_p (.int .i64 (i : Int)) rfl (fun _ => by kernel_rfl) ?_
  refine sq_p (v) rfl (fun _ => by kernel_rfl) ?_
  refine sq_q rfl h (g_len (by kernel_rfl) 1 rfl) ?_
  refine sq_p (.bool (decide ((i : Int) < (l.length : Int)))) rfl (fun _ => by kernel_rfl) ?_
  refine lnil ?_
  refine thn_n ?_
  refine c_cond (decide ((i : Int) < (l.length : Int))) (by kernel_rfl) (fun hc1 => ?_) (fun hc1 => ?_)
  · skip
    have hc1 := of_decide_eq_true hc1
    refine c_skip ?_
    refine thn_n ?_
    refine c_seq ?_
    refine c_block ?_
    refine d_start 25 [1] (by kernel_rfl) h fun w h => ?_
    refine d_take 0 8388606 [1] rfl (v := vo) (by kernel_rfl) (qp_blk (qp_thn (qp_rnd (qp_blk (qp_thn qp_body))))) (yq (by kernel_rfl) (g_pure (v := vo) fun _ => by kernel_rfl)) h (by kernel_rfl) ?_
    refine d_take 1 2097093 [1] rfl (v := v) (by kernel_rfl) (qp_blk (qp_thn (qp_rnd (qp_blk (qp_thn qp_body))))) (yq (by kernel_rfl) (g_pure (v := v) fun _ => by kernel_rfl)) h (by kernel_rfl) ?_
    refine d_take 2 2097091 [1] rfl (v := .int .i64 (i : Int)) (by kernel_rfl) (qp_blk (qp_thn (qp_rnd (qp_blk (qp_thn qp_body))))) (yq (by kernel_rfl) (g_pure (v := .int .i64 (i : Int)) fun _ => by kernel_rfl)) h (by kernel_rfl) ?_
    have hi2 : i < l.length := by omega
    obtain ⟨x3, hx4⟩ : ∃ x, l[i]? = some x := ⟨_, List.getElem?_eq_getElem hi2⟩
    refine d_take 3 2097095 [1] rfl (v := .pointer (some ⟨blkN v, offN v + i * 5, none⟩)) (by kernel_rfl) (qp_blk (qp_thn (qp_rnd (qp_blk (qp_thn qp_body))))) (yq (by kernel_rfl) (g_idx i (by kernel_rfl) hi2 0 rfl)) h (by kernel_rfl) ?_
    refine d_take 4 2097103 [1] rfl (v := .pointer (some ⟨blkN v, offN v + i * 5, none⟩)) (by kernel_rfl) (qp_blk (qp_thn (qp_rnd (qp_blk (qp_thn qp_body))))) (yq (by kernel_rfl) (g_pure (v := .pointer (some ⟨blkN v, offN v + i * 5, none⟩)) fun _ => by kernel_rfl)) h (by kernel_rfl) ?_
    refine d_take 5 2097119 [1] rfl (v := .agg #[.int .i64 x3.1.1, .int .i64 x3.1.2]) (by kernel_rfl) (qp_blk (qp_thn (qp_rnd (qp_blk (qp_thn qp_body))))) (yq (by kernel_rfl) (g_ldr (b := blkN v) (offN v + i * 5) [.int .i64 x3.1.1, .int .i64 x3.1.2] (.agg #[.int .i64 x3.1.1, .int .i64 x3.1.2]) (by kernel_rfl) 0 rfl (rdRow0 opnC_len hx4 (by kernel_rfl)))) h (by kernel_rfl) ?_
    refine d_take 6 2095295 [1] rfl (v := v) (by kernel_rfl) (qp_blk (qp_thn (qp_rnd (qp_blk (qp_thn qp_body))))) (yq (by kernel_rfl) (g_pure (v := v) fun _ => by kernel_rfl)) h (by kernel_rfl) ?_
    refine d_take 7 2095231 [1] rfl (v := .int .i64 (i : Int)) (by kernel_rfl) (qp_blk (qp_thn (qp_rnd (qp_blk (qp_thn qp_body))))) (yq (by kernel_rfl) (g_pure (v := .int .i64 (i : Int)) fun _ => by kernel_rfl)) h (by kernel_rfl) ?_
    refine d_take 8 2095359 [1] rfl (v := .pointer (some ⟨blkN v, offN v + i * 5, none⟩)) (by kernel_rfl) (qp_blk (qp_thn (qp_rnd (qp_blk (qp_thn qp_body))))) (yq (by kernel_rfl) (g_idx i (by kernel_rfl) hi2 0 rfl)) h (by kernel_rfl) ?_
    refine d_take 9 2095615 [1] rfl (v := .pointer (some ⟨blkN v, offN v + i * 5 + 2, none⟩)) (by kernel_rfl) (qp_blk (qp_thn (qp_rnd (qp_blk (qp_thn qp_body))))) (yq (by kernel_rfl) (g_pure (v := .pointer (some ⟨blkN v, offN v + i * 5 + 2, none⟩)) fun _ => by kernel_rfl)) h (by kernel_rfl) ?_
    refine d_take 10 2096127 [1] rfl (v := .int .i64 x3.2.1) (by kernel_rfl) (qp_blk (qp_thn (qp_rnd (qp_blk (qp_thn qp_body))))) (yq (by kernel_rfl) (g_ldr (b := blkN v) (offN v + i * 5 + 2) [.int .i64 x3.2.1] (.int .i64 x3.2.1) (by kernel_rfl) 0 rfl (rdRow opnC_len hx4 2 (by kernel_rfl)))) h (by kernel_rfl) ?_
    refine d_take 11 2037759 [1] rfl (v := v) (by kernel_rfl) (qp_blk (qp_thn (qp_rnd (qp_blk (qp_thn qp_body))))) (yq (by kernel_rfl) (g_pure (v := v) fun _ => by kernel_rfl)) h (by kernel_rfl) ?_
    refine d_take 12 2035711 [1] rfl (v := .int .i64 (i : Int)) (by kernel_rfl) (qp_blk (qp_thn (qp_rnd (qp_blk (qp_thn qp_body))))) (yq (by kernel_rfl) (g_pure (v := .int .i64 (i : Int)) fun _ => by kernel_rfl)) h (by kernel_rfl) ?_
    refine d_take 13 2039807 [1] rfl (v := .pointer (some ⟨blkN v, offN v + i * 5, none⟩)) (by kernel_rfl) (qp_blk (qp_thn (qp_rnd (qp_blk (qp_thn qp_body))))) (yq (by kernel_rfl) (g_idx i (by kernel_rfl) hi2 0 rfl)) h (by kernel_rfl) ?_
    refine d_take 14 2047999 [1] rfl (v := .pointer (some ⟨blkN v, offN v + i * 5 + 3, none⟩)) (by kernel_rfl) (qp_blk (qp_thn (qp_rnd (qp_blk (qp_thn qp_body))))) (yq (by kernel_rfl) (g_pure (v := .pointer (some ⟨blkN v, offN v + i * 5 + 3, none⟩)) fun _ => by kernel_rfl)) h (by kernel_rfl) ?_
    refine d_take 15 2064383 [1] rfl (v := .int .i64 x3.2.2.1) (by kernel_rfl) (qp_blk (qp_thn (qp_rnd (qp_blk (qp_thn qp_body))))) (yq (by kernel_rfl) (g_ldr (b := blkN v) (offN v + i * 5 + 3) [.int .i64 x3.2.2.1] (.int .i64 x3.2.2.1) (by kernel_rfl) 0 rfl (rdRow opnC_len hx4 3 (by kernel_rfl)))) h (by kernel_rfl) ?_
    refine d_take 16 196607 [1] rfl (v := v) (by kernel_rfl) (qp_blk (qp_thn (qp_rnd (qp_blk (qp_thn qp_body))))) (yq (by kernel_rfl) (g_pure (v := v) fun _ => by kernel_rfl)) h (by kernel_rfl) ?_
    refine d_take 17 131071 [1] rfl (v := .int .i64 (i : Int)) (by kernel_rfl) (qp_blk (qp_thn (qp_rnd (qp_blk (qp_thn qp_body))))) (yq (by kernel_rfl) (g_pure (v := .int .i64 (i : Int)) fun _ => by kernel_rfl)) h (by kernel_rfl) ?_
    refine d_take 18 262143 [1] rfl (v := .pointer (some ⟨blkN v, offN v + i * 5, none⟩)) (by kernel_rfl) (qp_blk (qp_thn (qp_rnd (qp_blk (qp_thn qp_body))))) (yq (by kernel_rfl) (g_idx i (by kernel_rfl) hi2 0 rfl)) h (by kernel_rfl) ?_
    refine d_take 19 524287 [1] rfl (v := .pointer (some ⟨blkN v, offN v + i * 5 + 4, none⟩)) (by kernel_rfl) (qp_blk (qp_thn (qp_rnd (qp_blk (qp_thn qp_body))))) (yq (by kernel_rfl) (g_pure (v := .pointer (some ⟨blkN v, offN v + i * 5 + 4, none⟩)) fun _ => by kernel_rfl)) h (by kernel_rfl) ?_
    refine d_take 20 1048575 [1] rfl (v := .int .i64 x3.2.2.2) (by kernel_rfl) (qp_blk (qp_thn (qp_rnd (qp_blk (qp_thn qp_body))))) (yq (by kernel_rfl) (g_ldr (b := blkN v) (offN v + i * 5 + 4) [.int .i64 x3.2.2.2] (.int .i64 x3.2.2.2) (by kernel_rfl) 0 rfl (rdRow opnC_len hx4 4 (by kernel_rfl)))) h (by kernel_rfl) ?_
    refine d_take 21 2097151 [1] rfl (v := .agg #[.int .i64 x3.1.1, .int .i64 x3.1.2, .int .i64 x3.2.1, .int .i64 x3.2.2.1, .int .i64 x3.2.2.2]) (by kernel_rfl) (qp_blk (qp_thn (qp_rnd (qp_blk (qp_thn qp_body))))) (yq (by kernel_rfl) (g_pure (v := .agg #[.int .i64 x3.1.1, .int .i64 x3.1.2, .int .i64 x3.2.1, .int .i64 x3.2.2.1, .int .i64 x3.2.2.2]) fun _ => by kernel_rfl)) h (by kernel_rfl) ?_
    refine d_ready [22] (by kernel_rfl) rfl ?_
    refine ad_new [2] rfl (by kernel_rfl) (fun b => .slice (some ⟨b, 0, none⟩) 1 1) [.int .i64 x3.1.1, .int .i64 x3.1.2, .int .i64 x3.2.1, .int .i64 x3.2.2.1, .int .i64 x3.2.2.2] 222 (fun _ => by kernel_rfl) h ?_ ?_
    · skip
      intro k5 w h; refine ⟨by kernel_rfl, ?_⟩
      refine d_ready [23] (by kernel_rfl) rfl ?_
      refine ad_app (b := k5) (o := 0) [2] rfl (by kernel_rfl) 1 x3 (by kernel_rfl) h 1 rfl 0 rfl (rdCell 0 (by kernel_rfl)) (by (try simp only [List.length_append, List.length_cons, List.length_nil]); omega) ?_ ?_
      · skip
        intro v6 w h; refine ⟨by kernel_rfl, ?_⟩
        refine d_take 24 16777215 [2] rfl (v := v6) (by kernel_rfl) (qp_blk (qp_thn (qp_rnd (qp_blk (qp_thn qp_body))))) (yq (by kernel_rfl) (g_pure (v := v6) fun _ => by kernel_rfl)) h (by kernel_rfl) ?_
        refine d_done (by kernel_rfl) ?_
        refine blk_n (thn_n ?_)
        refine c_reg ?_
        refine sq_p (.int .i64 (i : Int)) rfl (fun _ => by kernel_rfl) ?_
        refine sq_q rfl h (g_eq (v := .int .i64 (IntKind.i64.wrap ((i : Int) + 1))) (v' := .int .i64 ((i + 1 : Nat) : Int)) (g_pure fun _ => by kernel_rfl) (wr (by omega))) ?_
        refine sq_p (.int .i64 ((i + 1 : Nat) : Int)) rfl (fun _ => by kernel_rfl) ?_
        refine lnil ?_
        refine loop_end (fun j => ⟨(i + 1), out ++ [x3], v6, j⟩) (show ((i + 1) ≤ l.length ∧ (out ++ [x3]) = l.take (i + 1)) ∧ (l.length - (i + 1)) < (l.length - i) from ⟨⟨by omega, by rw [ho, List.take_add_one, hx4]; rfl⟩, by omega⟩) (by kernel_rfl) [1, 1] (by kernel_rfl) h
      exact ad_nil
    exact ad_nil
  · skip
    have hc1 := of_decide_eq_false hc1
    refine c_exit ?_
    refine thn_e (rnd_e (blk_e (thn_n ?_)))
    refine c_seq ?_
    refine c_reg ?_
    refine sq_p (vo) rfl (fun _ => by kernel_rfl) ?_
    refine sq_p (vo) rfl (fun _ => by kernel_rfl) ?_
    refine lnil ?_
    refine thn_n ?_
    refine c_ret ?_
    refine ret_end [vo] [0, 0] h (by kernel_rfl) (res_t (by kernel_rfl) res_n) ?_
    rw [ho, List.take_of_length_le (by omega)]
    exact ⟨_, rfl, rfl⟩
set_option maxHeartbeats 1000000 in
theorem sameOpens_spec (va vb : Value) (l : List Opn) (hl : l.length ≤ 1000) : Spec Tryd.prog 65 #[va, vb] [rRows true va 222 5 opnC l, rRows true vb 222 5 opnC l] (fun u L => u = .bool true ∧ L = [rRows true va 222 5 opnC l, rRows true vb 222 5 opnC l]) := by
  refine spec_of (#[va, vb, undef, undef, undef, undef, undef, undef, undef, undef, undef, undef, undef, undef, undef, undef, undef, undef, undef, undef, undef, undef, undef, undef, undef, undef]) Tryd.func65 rfl (by kernel_rfl) fun E w0 w h => ?_
  refine c_seq ?_
  refine c_reg ?_
  refine sq_p (.bool false) rfl (fun _ => by kernel_rfl) ?_
  refine lnil ?_
  refine thn_n ?_
  refine c_seq ?_
  refine c_seq ?_
  refine c_reg ?_
  refine sq_p (va) rfl (fun _ => by kernel_rfl) ?_
  refine sq_q rfl h (g_len (by kernel_rfl) 0 rfl) ?_
  refine sq_p (vb) rfl (fun _ => by kernel_rfl) ?_
  refine sq_q rfl h (g_len (by kernel_rfl) 1 rfl) ?_
  refine sq_p (.bool (!(decide ((l.length : Int) = (l.length : Int))))) rfl (fun _ => by kernel_rfl) ?_
  refine lnil ?_
  refine thn_n ?_
  refine c_cond (!(decide ((l.length : Int) = (l.length : Int)))) (by kernel_rfl) (fun hc1 => ?_) (fun hc1 => ?_)
  · skip
    have q2 : (decide ((l.length : Int) = (l.length : Int))) = false := by simpa using hc1
    have q2 := of_decide_eq_false q2
    exfalso; omega
  · skip
    have q3 : (decide ((l.length : Int) = (l.length : Int))) = true := by simpa using hc1
    have q3 := of_decide_eq_true q3
    refine c_skip ?_
    refine thn_n ?_
    refine c_seq ?_
    refine c_seq ?_
    refine c_reg ?_
    refine sq_p (.int .i64 0) rfl (fun _ => by kernel_rfl) ?_
    refine lnil ?_
    refine thn_n ?_
    refine c_block ?_
    refine c_loop (X := Nat × (Nat → Value)) (fun ⟨i, J0⟩ => ⟨#[va, vb, undef, undef, J0 4, .int .i64 (i : Int), va, .int .i64 (l.length : Int), vb, .int .i64 (l.length : Int), .bool (!(decide ((l.length : Int) = (l.length : Int)))), J0 11, J0 12, J0 13, J0 14, J0 15, J0 16, J0 17, J0 18, J0 19, J0 20, J0 21, J0 22, J0 23, J0 24, J0 25], []⟩)
      (fun ⟨i, J0⟩ => [rRows true va 222 5 opnC l, rRows true vb 222 5 opnC l]) (fun ⟨i, J0⟩ => i ≤ l.length) (fun ⟨i, J0⟩ => l.length - i)
      ⟨0, (fun n => (#[va, vb, undef, undef, .bool false, .int .i64 0, va, .int .i64 (l.length : Int), vb, .int .i64 (l.length : Int), .bool (!(decide ((l.length : Int) = (l.length : Int)))), undef, undef, undef, undef, undef, undef, undef, undef, undef, undef, undef, undef, undef, undef, undef] : Array Value).getD n undef)⟩ (by omega) (by kernel_rfl) [0, 0] (by kernel_rfl) h ?_
    rintro ⟨i, J0⟩ w hG h
    have hi0 : i ≤ l.length := hG
    refine c_seq ?_
    refine c_seq ?_
    refine c_reg ?_
    refine sq_p (.int .i64 (i : Int)) rfl (fun _ => by kernel_rfl) ?_
    refine sq_p (va) rfl (fun _ => by kernel_rfl) ?_
    refine sq_q rfl h (g_len (by kernel_rfl) 0 rfl) ?_
    refine sq_p (.bool (decide ((i : Int) < (l.length : Int)))) rfl (fun _ => by kernel_rfl) ?_
    refine lnil ?_
    refine thn_n ?_
    refine c_cond (decide ((i : Int) < (l.length : Int))) (by kernel_rfl) (fun hc4 => ?_) (fun hc4 => ?_)
    · skip
      have hc4 := of_decide_eq_true hc4
      refine c_skip ?_
      refine thn_n ?_
      refine c_seq ?_
      refine c_block ?_
      refine c_seq ?_
      refine d_start 9 [0, 0] (by kernel_rfl) h fun w h => ?_
      refine d_take 0 242 [0, 0] rfl (v := va) (by kernel_rfl) (qp_thn (qp_blk (qp_thn (qp_rnd (qp_blk (qp_thn qp_body)))))) (yq (by kernel_rfl) (g_pure (v := va) fun _ => by kernel_rfl)) h (by kernel_rfl) ?_
      refine d_take 1 241 [0, 0] rfl (v := .int .i64 (i : Int)) (by kernel_rfl) (qp_thn (qp_blk (qp_thn (qp_rnd (qp_blk (qp_thn qp_body)))))) (yq (by kernel_rfl) (g_pure (v := .int .i64 (i : Int)) fun _ => by kernel_rfl)) h (by kernel_rfl) ?_
      have hi5 : i < l.length := by omega
      obtain ⟨x6, hx7⟩ : ∃ x, l[i]? = some x := ⟨_, List.getElem?_eq_getElem hi5⟩
      refine d_take 2 243 [0, 0] rfl (v := .pointer (some ⟨blkN va, offN va + i * 5, none⟩)) (by kernel_rfl) (qp_thn (qp_blk (qp_thn (qp_rnd (qp_blk (qp_thn qp_body)))))) (yq (by kernel_rfl) (g_idx i (by kernel_rfl) hi5 0 rfl)) h (by kernel_rfl) ?_
      refine d_take 3 247 [0, 0] rfl (v := .agg #[.int .i64 x6.1.1, .int .i64 x6.1.2, .int .i64 x6.2.1, .int .i64 x6.2.2.1, .int .i64 x6.2.2.2]) (by kernel_rfl) (qp_thn (qp_blk (qp_thn (qp_rnd (qp_blk (qp_thn qp_body)))))) (yq (by kernel_rfl) (g_ldr (b := blkN va) (offN va + i * 5) [.int .i64 x6.1.1, .int .i64 x6.1.2, .int .i64 x6.2.1, .int .i64 x6.2.2.1, .int .i64 x6.2.2.2] (.agg #[.int .i64 x6.1.1, .int .i64 x6.1.2, .int .i64 x6.2.1, .int .i64 x6.2.2.1, .int .i64 x6.2.2.2]) (by kernel_rfl) 0 rfl (rdRow0 opnC_len hx7 (by kernel_rfl)))) h (by kernel_rfl) ?_
      refine d_take 4 47 [0, 0] rfl (v := vb) (by kernel_rfl) (qp_thn (qp_blk (qp_thn (qp_rnd (qp_blk (qp_thn qp_body)))))) (yq (by kernel_rfl) (g_pure (v := vb) fun _ => by kernel_rfl)) h (by kernel_rfl) ?_
      refine d_take 5 31 [0, 0] rfl (v := .int .i64 (i : Int)) (by kernel_rfl) (qp_thn (qp_blk (qp_thn (qp_rnd (qp_blk (qp_thn qp_body)))))) (yq (by kernel_rfl) (g_pure (v := .int .i64 (i : Int)) fun _ => by kernel_rfl)) h (by kernel_rfl) ?_
      have hi8 : i < l.length := by omega
      obtain ⟨x9, hx10⟩ : ∃ x, l[i]? = some x := ⟨_, List.getElem?_eq_getElem hi8⟩
      refine d_take 6 63 [0, 0] rfl (v := .pointer (some ⟨blkN vb, offN vb + i * 5, none⟩)) (by kernel_rfl) (qp_thn (qp_blk (qp_thn (qp_rnd (qp_blk (qp_thn qp_body)))))) (yq (by kernel_rfl) (g_idx i (by kernel_rfl) hi8 1 rfl)) h (by kernel_rfl) ?_
      refine d_take 7 127 [0, 0] rfl (v := .agg #[.int .i64 x9.1.1, .int .i64 x9.1.2, .int .i64 x9.2.1, .int .i64 x9.2.2.1, .int .i64 x9.2.2.2]) (by kernel_rfl) (qp_thn (qp_blk (qp_thn (qp_rnd (qp_blk (qp_thn qp_body)))))) (yq (by kernel_rfl) (g_ldr (b := blkN vb) (offN vb + i * 5) [.int .i64 x9.1.1, .int .i64 x9.1.2, .int .i64 x9.2.1, .int .i64 x9.2.2.1, .int .i64 x9.2.2.2] (.agg #[.int .i64 x9.1.1, .int .i64 x9.1.2, .int .i64 x9.2.1, .int .i64 x9.2.2.1, .int .i64 x9.2.2.2]) (by kernel_rfl) 1 rfl (rdRow0 opnC_len hx10 (by kernel_rfl)))) h (by kernel_rfl) ?_
      refine d_take 8 255 [0, 0] rfl (v := .bool (!((decide (x6.1.1 = x9.1.1)) && ((decide (x6.1.2 = x9.1.2)) && ((decide (x6.2.1 = x9.2.1)) && ((decide (x6.2.2.1 = x9.2.2.1)) && (decide (x6.2.2.2 = x9.2.2.2)))))))) (by kernel_rfl) (qp_thn (qp_blk (qp_thn (qp_rnd (qp_blk (qp_thn qp_body)))))) (yq (by kernel_rfl) (g_neO5 (by kernel_rfl))) h (by kernel_rfl) ?_
      refine d_done (by kernel_rfl) ?_
      refine thn_n ?_
      refine c_cond (!((decide (x6.1.1 = x9.1.1)) && ((decide (x6.1.2 = x9.1.2)) && ((decide (x6.2.1 = x9.2.1)) && ((decide (x6.2.2.1 = x9.2.2.1)) && (decide (x6.2.2.2 = x9.2.2.2))))))) (by kernel_rfl) (fun hc11 => ?_) (fun hc11 => ?_)
      · skip
        have q12 : ((decide (x6.1.1 = x9.1.1)) && ((decide (x6.1.2 = x9.1.2)) && ((decide (x6.2.1 = x9.2.1)) && ((decide (x6.2.2.1 = x9.2.2.1)) && (decide (x6.2.2.2 = x9.2.2.2)))))) = false := by revert hc11; cases ((decide (x6.1.1 = x9.1.1)) && ((decide (x6.1.2 = x9.1.2)) && ((decide (x6.2.1 = x9.2.1)) && ((decide (x6.2.2.1 = x9.2.2.1)) && (decide (x6.2.2.2 = x9.2.2.2)))))) <;> simp
        rw [hx7] at hx10; cases hx10; simp at hc11
      · skip
        have q13 : ((decide (x6.1.1 = x9.1.1)) && ((decide (x6.1.2 = x9.1.2)) && ((decide (x6.2.1 = x9.2.1)) && ((decide (x6.2.2.1 = x9.2.2.1)) && (decide (x6.2.2.2 = x9.2.2.2)))))) = true := by revert hc11; cases ((decide (x6.1.1 = x9.1.1)) && ((decide (x6.1.2 = x9.1.2)) && ((decide (x6.2.1 = x9.2.1)) && ((decide (x6.2.2.1 = x9.2.2.1)) && (decide (x6.2.2.2 = x9.2.2.2)))))) <;> simp
        have q14 : (decide (x6.1.1 = x9.1.1)) = true := by revert q13; cases (decide (x6.1.1 = x9.1.1)) <;> simp
        have q15 : ((decide (x6.1.2 = x9.1.2)) && ((decide (x6.2.1 = x9.2.1)) && ((decide (x6.2.2.1 = x9.2.2.1)) && (decide (x6.2.2.2 = x9.2.2.2))))) = true := by revert q13; cases (decide (x6.1.1 = x9.1.1)) <;> cases ((decide (x6.1.2 = x9.1.2)) && ((decide (x6.2.1 = x9.2.1)) && ((decide (x6.2.2.1 = x9.2.2.1)) && (decide (x6.2.2.2 = x9.2.2.2))))) <;> simp
        have q14 := of_decide_eq_true q14
        have q16 : (decide (x6.1.2 = x9.1.2)) = true := by revert q15; cases (decide (x6.1.2 = x9.1.2)) <;> simp
        have q17 : ((decide (x6.2.1 = x9.2.1)) && ((decide (x6.2.2.1 = x9.2.2.1)) && (decide (x6.2.2.2 = x9.2.2.2)))) = true := by revert q15; cases (decide (x6.1.2 = x9.1.2)) <;> cases ((decide (x6.2.1 = x9.2.1)) && ((decide (x6.2.2.1 = x9.2.2.1)) && (decide (x6.2.2.2 = x9.2.2.2)))) <;> simp
        have q16 := of_decide_eq_true q16
        have q18 : (decide (x6.2.1 = x9.2.1)) = true := by revert q17; cases (decide (x6.2.1 = x9.2.1)) <;> simp
        have q19 : ((decide (x6.2.2.1 = x9.2.2.1)) && (decide (x6.2.2.2 = x9.2.2.2))) = true := by revert q17; cases (decide (x6.2.1 = x9.2.1)) <;> cases ((decide (x6.2.2.1 = x9.2.2.1)) && (decide (x6.2.2.2 = x9.2.2.2))) <;> simp
        have q18 := of_decide_eq_true q18
        have q20 : (decide (x6.2.2.1 = x9.2.2.1)) = true := by revert q19; cases (decide (x6.2.2.1 = x9.2.2.1)) <;> simp
        have q21 : (decide (x6.2.2.2 = x9.2.2.2)) = true := by revert q19; cases (decide (x6.2.2.1 = x9.2.2.1)) <;> cases (decide (x6.2.2.2 = x9.2.2.2)) <;> simp
        have q20 := of_decide_eq_true q20
        have q21 := of_decide_eq_true q21
        refine c_skip ?_
        refine blk_n (thn_n ?_)
        refine c_reg ?_
        refine sq_p (.int .i64 (i : Int)) rfl (fun _ => by kernel_rfl) ?_
        refine sq_q rfl h (g_eq (v := .int .i64 (IntKind.i64.wrap ((i : Int) + 1))) (v' := .int .i64 ((i + 1 : Nat) : Int)) (g_pure fun _ => by kernel_rfl) (wr (by omega))) ?_
        refine sq_p (.int .i64 ((i + 1 : Nat) : Int)) rfl (fun _ => by kernel_rfl) ?_
        refine lnil ?_
        refine loop_end (fun j => ⟨(i + 1), j⟩) (show ((i + 1) ≤ l.length) ∧ (l.length - (i + 1)) < (l.length - i) from ⟨by omega, by omega⟩) (by kernel_rfl) [0, 0] (by kernel_rfl) h
    · skip
      have hc4 := of_decide_eq_false hc4
      refine c_exit ?_
      refine thn_e (rnd_e (blk_e (thn_n ?_)))
      refine c_seq ?_
      refine c_reg ?_
      refine sq_p (.bool true) rfl (fun _ => by kernel_rfl) ?_
      refine lnil ?_
      refine thn_n ?_
      refine c_ret ?_
      refine ret_end [.bool true] [0, 0] h (by kernel_rfl) (res_t (by kernel_rfl) res_n) ?_
      exact ⟨rfl, rfl⟩
end Go.Proofs.YtofhnglgebllbaaDoor
