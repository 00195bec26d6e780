/- net: contracts by what is owned (printed by walk.py). -/
import Derived.Test.YtofhnglgebllbaaDoorNetA
import Derived.Test.YtofhnglgebllbaaDoorOp9
namespace Go.Proofs.YtofhnglgebllbaaDoor
open Go.RowKit
set_option linter.unusedVariables false
set_option linter.unusedSimpArgs false
set_option linter.unnecessarySimpa false
set_option maxRecDepth 100000

def toP (t : ByteArray) (x : Msg) : Bool := decide (x.2.1 = t)
def firstM (l : List Msg) (t : ByteArray) : Int := match l.findIdx? (toP t) with | some i => (i : Int) | none => -1
theorem msg_no {l : List Msg} {k : Nat} {x : Msg} {p : Msg → Bool} (hn : ∀ j y, j < k → l[j]? = some y → p y = false) (hx : l[k]? = some x) (hp : p x = false) : ∀ j y, j < k + 1 → l[j]? = some y → p y = false := fun j y hj hy => by
  by_cases h : j = k
  · subst h; rw [hx] at hy; cases hy; exact hp
  · exact hn j y (by omega) hy
theorem first_some {l : List Msg} {t : ByteArray} {k : Nat} {x : Msg} (hx : l[k]? = some x) (hp : toP t x = true) (hn : ∀ j y, j < k → l[j]? = some y → toP t y = false) : firstM l t = k := by
  obtain ⟨hk, rfl⟩ := List.getElem?_eq_some_iff.1 hx
  have : l.findIdx? (toP t) = some k := by
    rw [List.findIdx?_eq_some_iff_getElem]
    exact ⟨hk, hp, fun j hj => by simp [hn j _ hj (List.getElem?_eq_getElem (by omega))]⟩
  unfold firstM; rw [this]
theorem first_none {l : List Msg} {t : ByteArray} (hn : ∀ j y, j < l.length → l[j]? = some y → toP t y = false) : firstM l t = -1 := by
  have : l.findIdx? (toP t) = none := by
    rw [List.findIdx?_eq_none_iff]
    intro x hx
    obtain ⟨j, hj, rfl⟩ := List.mem_iff_getElem.1 hx
    exact hn j _ hj (List.getElem?_eq_getElem hj)
  unfold firstM; rw [this]

set_option maxHeartbeats 1000000 in
theorem for1_spec (x : Msg) (t : ByteArray) (kb : Nat) : Spec Tryd.prog 109 #[.agg #[.string x.1, .string x.2.1, .string x.2.2], .pointer (some ⟨kb, 0, none⟩)] [rCell true kb [.string t] 9] (fun u L => u = .bool (toP t x) ∧ L = [rCell true kb [.string t] 9]) := by
  refine spec_of (#[.agg #[.string x.1, .string x.2.1, .string x.2.2], .pointer (some ⟨kb, 0, none⟩), undef, undef, undef, undef, undef, undef]) Tryd.func109 rfl (by kernel_rfl) fun E w0 w h => ?_
  refine c_seq ?_
  refine c_reg ?_
  refine sq_new rfl (fun b => .pointer (some ⟨b, 0, none⟩)) [.string x.1, .string x.2.1, .string x.2.2] 52 (fun _ => by kernel_rfl) h ?_; intro k1 w h
  refine sq_p (.bool false) rfl (fun _ => by kernel_rfl) ?_
  refine lnil ?_
  refine thn_n ?_
  refine c_seq ?_
  refine c_reg ?_
  refine sq_p (.pointer (some ⟨k1, 1, none⟩)) rfl (fun _ => by kernel_rfl) ?_
  refine sq_q rfl h (g_ld 1 [.string x.2.1] (.string x.2.1) (by kernel_rfl) 0 rfl) ?_
  refine sq_q rfl h (g_ld 0 [.string t] (.string t) (by kernel_rfl) 1 rfl) ?_
  refine sq_q rfl h (g_eq (v := .bool (x.2.1.toList == t.toList)) (v' := .bool (decide (x.2.1 = t))) (g_pure fun _ => by kernel_rfl) beqS) ?_
  refine sq_p (.bool (decide (x.2.1 = t))) rfl (fun _ => by kernel_rfl) ?_
  refine lnil ?_
  refine thn_n ?_
  refine c_ret ?_
  refine ret_end [.bool (decide (x.2.1 = t))] [1] h (by kernel_rfl) (res_t (by kernel_rfl) res_n) ?_
  exact ⟨rfl, rfl⟩
set_option maxHeartbeats 1000000 in
theorem idxMsg_spec (v : Value) (l : List Msg) (t : ByteArray) (kb : Nat) (hl : l.length ≤ 100) : Spec Tryd.prog 108 #[v, .func (.func 109) #[] #[.pointer (some ⟨kb, 0, none⟩)]] [rRows true v 52 3 msgC l, rCell true kb [.string t] 9] (fun u L => u = .int .i64 (firstM l t) ∧ L = [rRows true v 52 3 msgC l, rCell true kb [.string t] 9]) := by
  refine spec_of (#[v, .func (.func 109) #[] #[.pointer (some ⟨kb, 0, none⟩)], undef, undef, undef, undef, undef, undef, undef, undef, undef, undef, undef, undef, undef, undef, undef, undef, undef]) Tryd.func108 rfl (by kernel_rfl) fun E w0 w h => ?_
  refine c_seq ?_
  refine c_reg ?_
  refine sq_p (.int .i64 0) rfl (fun _ => by kernel_rfl) ?_
  refine lnil ?_
  refine thn_n ?_
  refine c_seq ?_
  refine c_seq ?_
  refine c_reg ?_
  refine sq_p (v) rfl (fun _ => by kernel_rfl) ?_
  refine sq_q rfl h (g_len (by kernel_rfl) 0 rfl) ?_
  refine sq_p (.int .i64 0) rfl (fun _ => by kernel_rfl) ?_
  refine lnil ?_
  refine thn_n ?_
  refine c_block ?_
  refine c_loop (X := Nat × (Nat → Value)) (fun ⟨i, J0⟩ => ⟨#[v, .func (.func 109) #[] #[.pointer (some ⟨kb, 0, none⟩)], undef, undef, J0 4, J0 5, v, .int .i64 (l.length : Int), .int .i64 (i : Int), J0 9, J0 10, J0 11, J0 12, J0 13, J0 14, J0 15, J0 16, J0 17, J0 18], []⟩)
    (fun ⟨i, J0⟩ => [rRows true v 52 3 msgC l, rCell true kb [.string t] 9]) (fun ⟨i, J0⟩ => i ≤ l.length ∧ ∀ j y, j < i → l[j]? = some y → toP t y = false) (fun ⟨i, J0⟩ => l.length - i)
    ⟨0, (fun n => (#[v, .func (.func 109) #[] #[.pointer (some ⟨kb, 0, none⟩)], undef, undef, .int .i64 0, undef, v, .int .i64 (l.length : Int), .int .i64 0, undef, undef, undef, undef, undef, undef, undef, undef, undef, undef] : Array Value).getD n undef)⟩ ⟨by omega, fun j y hj => by omega⟩ (by kernel_rfl) [0, 0] (by kernel_rfl) h ?_
  rintro ⟨i, J0⟩ w hG h
  obtain ⟨hi0, hno⟩ : i ≤ l.length ∧ ∀ j y, j < i → l[j]? = some y → toP t y = false := hG
  refine c_seq ?_
  refine c_reg ?_
  refine sq_p (.bool (decide ((i : Int) < (l.length : Int)))) rfl (fun _ => by kernel_rfl) ?_
  refine lnil ?_
  refine thn_n ?_
  refine c_seq ?_
  refine c_cond (decide ((i : Int) < (l.length : Int))) (by kernel_rfl) (fun hc1 => ?_) (fun hc1 => ?_)
  · skip
    have hc1 := of_decide_eq_true hc1
    refine c_skip ?_
    refine thn_n ?_
    refine c_seq ?_
    refine c_block ?_
    refine c_seq ?_
    refine c_reg ?_
    refine sq_p (.int .i64 (i : Int)) rfl (fun _ => by kernel_rfl) ?_
    refine sq_p (.int .i64 (i : Int)) rfl (fun _ => by kernel_rfl) ?_
    refine lnil ?_
    refine thn_n ?_
    refine c_seq ?_
    refine c_reg ?_
    refine sq_p (.func (.func 109) #[] #[.pointer (some ⟨kb, 0, none⟩)]) rfl (fun _ => by kernel_rfl) ?_
    refine sq_p (v) rfl (fun _ => by kernel_rfl) ?_
    refine sq_p (.int .i64 (i : Int)) rfl (fun _ => by kernel_rfl) ?_
    have hi2 : i < l.length := by omega
    obtain ⟨x3, hx4⟩ : ∃ x, l[i]? = some x := ⟨_, List.getElem?_eq_getElem hi2⟩
    refine sq_q rfl h (g_idx i (by kernel_rfl) hi2 0 rfl) ?_
    refine sq_q rfl h (g_ldr (b := blkN v) (offN v + i * 3) [.string x3.1, .string x3.2.1, .string x3.2.2] (.agg #[.string x3.1, .string x3.2.1, .string x3.2.2]) (by kernel_rfl) 0 rfl (rdRow0 msgC_len hx4 (by kernel_rfl))) ?_
    refine sq_call #[.agg #[.string x3.1, .string x3.2.1, .string x3.2.2], .pointer (some ⟨kb, 0, none⟩)] [1] rfl (for1_spec x3 t kb) (fun _ => by kernel_rfl) h ?_; rintro v_ L_ w ⟨rfl, rfl⟩ h
    refine lnil ?_
    refine thn_n ?_
    refine c_cond (toP t x3) (by kernel_rfl) (fun hc5 => ?_) (fun hc5 => ?_)
    · skip
      refine c_seq ?_
      refine c_reg ?_
      refine sq_p (.int .i64 (i : Int)) rfl (fun _ => by kernel_rfl) ?_
      refine sq_p (.int .i64 (i : Int)) rfl (fun _ => by kernel_rfl) ?_
      refine lnil ?_
      refine thn_n ?_
      refine c_ret ?_
      refine blk_r (thn_r (rnd_r (blk_r (thn_r ?_))))
      refine ret_end [.int .i64 (i : Int)] [1, 0] h (by kernel_rfl) (res_t (by kernel_rfl) res_n) ?_
      rw [first_some hx4 hc5 hno]
      exact ⟨rfl, rfl⟩
    · skip
      refine c_skip ?_
      refine blk_n (thn_n ?_)
      refine c_reg ?_
      refine sq_q rfl h (g_eq (v := .int .i64 (IntKind.i64.wrap ((i : Int) + 1))) (v' := .int .i64 ((i + 1 : Nat) : Int)) (g_pure fun _ => by kernel_rfl) (wr (by omega))) ?_
      refine sq_p (.int .i64 ((i + 1 : Nat) : Int)) rfl (fun _ => by kernel_rfl) ?_
      refine lnil ?_
      refine loop_end (fun j => ⟨(i + 1), j⟩) (show ((i + 1) ≤ l.length ∧ ∀ j y, j < (i + 1) → l[j]? = some y → toP t y = false) ∧ (l.length - (i + 1)) < (l.length - i) from ⟨⟨by omega, msg_no hno hx4 hc5⟩, by omega⟩) (by kernel_rfl) [1, 0] (by kernel_rfl) h
  · skip
    have hc1 := of_decide_eq_false hc1
    refine c_exit ?_
    refine thn_e (rnd_e (blk_e (thn_n ?_)))
    refine c_seq ?_
    refine c_reg ?_
    refine sq_p (.int .i64 (-1)) rfl (fun _ => by kernel_rfl) ?_
    refine lnil ?_
    refine thn_n ?_
    refine c_ret ?_
    refine ret_end [.int .i64 (-1)] [0, 0] h (by kernel_rfl) (res_t (by kernel_rfl) res_n) ?_
    rw [first_none (fun j y hj => hno j y (by omega))]
    exact ⟨rfl, rfl⟩
set_option maxHeartbeats 1000000 in
theorem netFor_spec (b : Nat) (v : Value) (tt : TypeId) (l : List Msg) (t : ByteArray) (hl : l.length ≤ 100) : Spec Tryd.prog 34 #[.pointer (some ⟨b, 0, none⟩), .string t] [rCell true b [v] tt, rRows true v 52 3 msgC l] (fun u L => u = .int .i64 (firstM l t) ∧ L = [rCell true b [v] tt, rRows true v 52 3 msgC l]) := by
  refine spec_of (#[.pointer (some ⟨b, 0, none⟩), .string t, undef, undef, undef, undef, undef, undef, undef, undef, undef]) Tryd.func34 rfl (by kernel_rfl) fun E w0 w h => ?_
  refine c_seq ?_
  refine c_reg ?_
  refine sq_new rfl (fun b => .pointer (some ⟨b, 0, none⟩)) [.string t] 9 (fun _ => by kernel_rfl) h ?_; intro k1 w h
  refine sq_p (.int .i64 0) rfl (fun _ => by kernel_rfl) ?_
  refine lnil ?_
  refine thn_n ?_
  refine c_seq ?_
  refine c_reg ?_
  refine sq_p (.pointer (some ⟨b, 0, none⟩)) rfl (fun _ => by kernel_rfl) ?_
  refine sq_p (.pointer (some ⟨b, 0, none⟩)) rfl (fun _ => by kernel_rfl) ?_
  refine sq_p (.pointer (some ⟨b, 0, none⟩)) rfl (fun _ => by kernel_rfl) ?_
  refine sq_q rfl h (g_ld 0 [v] (v) (by kernel_rfl) 1 rfl) ?_
  refine sq_p (.func (.func 109) #[] #[.pointer (some ⟨k1, 0, none⟩)]) rfl (fun _ => by kernel_rfl) ?_
  refine sq_call #[v, .func (.func 109) #[] #[.pointer (some ⟨k1, 0, none⟩)]] [2, 0] rfl (idxMsg_spec v l t k1 (by omega)) (fun _ => by kernel_rfl) h ?_; rintro v_ L_ w ⟨rfl, rfl⟩ h
  refine sq_p (.int .i64 (firstM l t)) rfl (fun _ => by kernel_rfl) ?_
  refine lnil ?_
  refine thn_n ?_
  refine c_ret ?_
  refine ret_end [.int .i64 (firstM l t)] [2, 0] h (by kernel_rfl) (res_t (by kernel_rfl) res_n) ?_
  exact ⟨rfl, rfl⟩
set_option maxHeartbeats 1000000 in
theorem cloneMsg_spec (v : Value) (l : List Msg) (hl : l.length ≤ 100) : Spec Tryd.prog 110 #[v] [rRows true v 52 3 msgC l] (fun u L => ∃ v', u = v' ∧ L = [rRows true v' 52 3 msgC l, rRows true v 52 3 msgC l]) := by
  refine spec_of (#[v, undef, undef, undef, undef, undef, undef, undef]) Tryd.func110 rfl (by kernel_rfl) fun E w0 w h => ?_
  refine c_seq ?_
  refine c_reg ?_
  refine sq_p (.slice none 0 0) rfl (fun _ => by kernel_rfl) ?_
  refine lnil ?_
  refine thn_n ?_
  refine c_seq ?_
  refine c_seq ?_
  refine c_reg ?_
  refine sq_p (v) rfl (fun _ => by kernel_rfl) ?_
  refine sq_q rfl h (g_eqnil (el := 52) (by kernel_rfl) (fun _ _ _ _ => by kernel_rfl) 0 rfl slRd_rows) ?_
  refine lnil ?_
  refine thn_n ?_
  refine c_cond (nilS v) (by kernel_rfl) (fun hc1 => ?_) (fun hc1 => ?_)
  · skip
    have hl0 := h.nilLen 0 rfl hc1
    have h := h.nilRows 52 3 msgC
    refine c_seq ?_
    refine c_reg ?_
    refine sq_p (.slice none 0 0) rfl (fun _ => by kernel_rfl) ?_
    refine lnil ?_
    refine thn_n ?_
    refine c_ret ?_
    refine thn_r ?_
    refine ret_end [.slice none 0 0] [0, 0] h (by kernel_rfl) (res_t (by kernel_rfl) res_n) ?_
    subst hl0
    exact ⟨_, rfl, rfl⟩
  · skip
    refine c_skip ?_
    refine thn_n ?_
    refine c_seq ?_
    refine c_reg ?_
    refine sq_new rfl (fun b => .slice (some ⟨b, 0, none⟩) 0 0) [] 52 (fun _ => by kernel_rfl) h ?_; intro k2 w h
    refine sq_p (v) rfl (fun _ => by kernel_rfl) ?_
    have h := h.cellRows 3 msgC
    refine sq_appw rfl (by kernel_rfl) msgC_len (fun _ => rfl) h 0 rfl 1 rfl slRd_rows (by (try simp only [List.length_append, List.length_cons, List.length_nil]); omega) ?_; intro v3 w h
    refine sq_p (v3) rfl (fun _ => by kernel_rfl) ?_
    refine lnil ?_
    refine thn_n ?_
    refine c_ret ?_
    refine ret_end [v3] [0, 0] h (by kernel_rfl) (res_t (by kernel_rfl) res_n) ?_
    exact ⟨_, rfl, rfl⟩
set_option maxHeartbeats 1000000 in
theorem netList_spec (b : Nat) (v : Value) (tt : TypeId) (l : List Msg) (hl : l.length ≤ 100) : Spec Tryd.prog 36 #[.pointer (some ⟨b, 0, none⟩)] [rCell true b [v] tt, rRows true v 52 3 msgC l] (fun u L => ∃ v', u = v' ∧ L = [rRows true v' 52 3 msgC l, rCell true b [v] tt, rRows true v 52 3 msgC l]) := by
  refine spec_of (#[.pointer (some ⟨b, 0, none⟩), undef, undef, undef, undef, undef, undef, undef]) Tryd.func36 rfl (by kernel_rfl) fun E w0 w h => ?_
  refine c_seq ?_
  refine c_reg ?_
  refine sq_p (.slice none 0 0) rfl (fun _ => by kernel_rfl) ?_
  refine lnil ?_
  refine thn_n ?_
  refine c_seq ?_
  refine c_reg ?_
  refine sq_p (.pointer (some ⟨b, 0, none⟩)) rfl (fun _ => by kernel_rfl) ?_
  refine sq_p (.pointer (some ⟨b, 0, none⟩)) rfl (fun _ => by kernel_rfl) ?_
  refine sq_p (.pointer (some ⟨b, 0, none⟩)) rfl (fun _ => by kernel_rfl) ?_
  refine sq_q rfl h (g_ld 0 [v] (v) (by kernel_rfl) 0 rfl) ?_
  refine sq_call #[v] [1] rfl (cloneMsg_spec v l (by omega)) (fun _ => by kernel_rfl) h ?_; rintro v1 L_ w ⟨_, rfl, rfl⟩ h
  refine sq_p (v1) rfl (fun _ => by kernel_rfl) ?_
  refine lnil ?_
  refine thn_n ?_
  refine c_ret ?_
  refine ret_end [v1] [0, 1, 0] h (by kernel_rfl) (res_t (by kernel_rfl) res_n) ?_
  exact ⟨_, rfl, rfl⟩
end Go.Proofs.YtofhnglgebllbaaDoor
