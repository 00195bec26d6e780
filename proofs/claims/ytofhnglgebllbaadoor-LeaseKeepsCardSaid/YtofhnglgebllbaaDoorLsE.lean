/- lease: contracts by what is owned (printed by walk.py). -/
import Derived.Test.YtofhnglgebllbaaDoorLsC
import Derived.Test.YtofhnglgebllbaaDoorName7
namespace Go.Proofs.YtofhnglgebllbaaDoor
open Go.RowKit
set_option linter.unusedVariables false
set_option linter.unusedSimpArgs false
set_option linter.unnecessarySimpa false
set_option maxRecDepth 100000

def rclC (e : Ls) : List Value := [.int .i64 e.1, .int .i64 e.2.2.2.2.2.2, .string e.2.2.1, .bool e.2.2.2.2.2.1]
theorem rclC_len (e : Ls) : (rclC e).length = 4 := rfl
def txC (s : ByteArray) : List Value := [.string s]
theorem txC_len (s : ByteArray) : (txC s).length = 1 := rfl
theorem take_snoc {α : Type} {l : List α} {i : Nat} {x : α} (h : l[i]? = some x) : l.take (i + 1) = l.take i ++ [x] := by rw [List.take_add_one, h]; rfl
theorem Names.old {l : List Ls} {i : Nat} {e : Ls} {ks : List ByteArray} (hx : l[i]? = some e) (h : Names (l.take i) ks) (hm : lsN e ∈ ks) : Names (l.take (i + 1)) ks :=
  ⟨h.1, fun s => by
    rw [h.2, take_snoc hx]
    constructor
    · rintro ⟨x, hx', hn⟩; exact ⟨x, List.mem_append_left _ hx', hn⟩
    · rintro ⟨x, hx', hn⟩
      rcases List.mem_append.1 hx' with q | q
      · exact ⟨x, q, hn⟩
      · rw [List.mem_singleton.1 q] at hn; rw [← hn]; exact (h.2 _).1 hm⟩
theorem Names.new {l : List Ls} {i : Nat} {e : Ls} {ks : List ByteArray} (hx : l[i]? = some e) (h : Names (l.take i) ks) (hm : ¬ lsN e ∈ ks) : Names (l.take (i + 1)) (ks ++ [lsN e]) :=
  ⟨List.nodup_append.2 ⟨h.1, by simp, fun a ha c hc => by rw [List.mem_singleton.1 hc]; intro q; rw [q] at ha; exact hm ha⟩, fun s => by
    rw [List.mem_append, h.2, take_snoc hx, List.mem_singleton]
    constructor
    · rintro (⟨x, hx', hn⟩ | rfl)
      · exact ⟨x, List.mem_append_left _ hx', hn⟩
      · exact ⟨e, by simp, rfl⟩
    · rintro ⟨x, hx', hn⟩
      rcases List.mem_append.1 hx' with q | q
      · exact .inl ⟨x, q, hn⟩
      · rw [List.mem_singleton.1 q] at hn; exact .inr hn.symm⟩
theorem nodup_len {α : Type} [DecidableEq α] : ∀ {ks m : List α}, ks.Nodup → ks ⊆ m → ks.length ≤ m.length
  | [], _, _, _ => Nat.zero_le _
  | a :: r, m, h, hs => by
    obtain ⟨h1, h2⟩ := List.nodup_cons.1 h
    have ha : a ∈ m := hs (by simp)
    have := nodup_len h2 (m := m.erase a) (fun x hx => (List.mem_erase_of_ne (fun e => by subst e; exact h1 hx)).2 (hs (by simp [hx])))
    rw [List.length_erase_of_mem ha] at this
    have := List.length_pos_of_mem ha
    simp; omega
theorem Names.few {l : List Ls} {ks : List ByteArray} {i : Nat} (h : Names (l.take i) ks) : ks.length ≤ l.length := by
  have h1 : ks ⊆ l.map lsN := fun s hs => by
    obtain ⟨e, he, hn⟩ := (h.2 s).1 hs
    exact List.mem_map.2 ⟨e, List.mem_of_mem_take he, hn⟩
  have := nodup_len h.1 h1
  simpa using this
theorem confG_more {l : List Ls} {last now : Int} (hk : LsOk l last now) {i : Nat} {e c : Ls} (hx : l[i]? = some c) (hp : confP e c = false) : confG (l.take (i + 1)) e = c.1 := by
  have hn : (l.take i).find? (fun x => !confP e x) = none := List.find?_eq_none.2 fun x hx' => by
    intro q
    obtain ⟨j, hj⟩ := List.getElem?_of_mem hx'
    rw [List.getElem?_take] at hj
    split at hj
    · have a1 : lsN x = lsN e ∧ lsC x = true ∧ x.1 ≠ e.1 := by simpa [confP, and_assoc] using q
      have a2 : lsN c = lsN e ∧ lsC c = true ∧ c.1 ≠ e.1 := by simpa [confP, and_assoc] using hp
      have hxc := hk.uniq (List.mem_of_getElem? hj) (List.mem_of_getElem? hx) (a1.1.trans a2.1.symm) (a1.2.1.trans a2.2.1.symm)
      have := ls_at hk.sorted hj hx (by rw [hxc])
      omega
    · cases hj
  unfold confG
  rw [take_snoc hx, List.find?_append, hn]
  simp [hp]
theorem confG_same {l : List Ls} {i : Nat} {e c : Ls} (hx : l[i]? = some c) (hp : confP e c = true) : confG (l.take (i + 1)) e = confG (l.take i) e := by
  unfold confG
  rw [take_snoc hx, List.find?_append]
  simp [hp]
/-- The first i of the list that Confirm makes. -/
def confI (l : List Ls) (j : Nat) (e : Ls) (now : Int) (i : Nat) : List Ls := ((l.set j (lsSet e true now)).take i).filter (confP e)
theorem confI_here {l : List Ls} {last now : Int} (hk : LsOk l last now) {j i : Nat} {e c : Ls} (hj : l[j]? = some e) (hx : l[i]? = some c) (hc : c.1 = e.1) : confI l j e now (i + 1) = confI l j e now i ++ [lsSet c true now] := by
  obtain rfl := ls_at hk.sorted hj hx hc.symm
  rw [hj] at hx
  cases hx
  unfold confI
  rw [take_snoc (x := lsSet e true now) (by rw [List.getElem?_set_self (List.getElem?_eq_some_iff.1 hj).1]), List.filter_append]
  simp [confP, lsSet]
theorem confI_keep {l : List Ls} {j i : Nat} {e c : Ls} {now : Int} (hj : l[j]? = some e) (hx : l[i]? = some c) (hc : c.1 ≠ e.1) (hp : confP e c = true) : confI l j e now (i + 1) = confI l j e now i ++ [c] := by
  have hij : j ≠ i := fun q => by subst q; rw [hj] at hx; cases hx; exact hc rfl
  unfold confI
  rw [take_snoc (x := c) (by rw [List.getElem?_set_ne hij]; exact hx), List.filter_append]
  simp [hp]
theorem confI_skip {l : List Ls} {j i : Nat} {e c : Ls} {now : Int} (hj : l[j]? = some e) (hx : l[i]? = some c) (hc : c.1 ≠ e.1) (hp : confP e c = false) : confI l j e now (i + 1) = confI l j e now i := by
  have hij : j ≠ i := fun q => by subst q; rw [hj] at hx; cases hx; exact hc rfl
  unfold confI
  rw [take_snoc (x := c) (by rw [List.getElem?_set_ne hij]; exact hx), List.filter_append]
  simp [hp]
theorem confI_all {l : List Ls} {j i : Nat} {e : Ls} {now : Int} (hi : l.length ≤ i) : confI l j e now i = confL l j e now := by
  unfold confI confL; rw [List.take_of_length_le (by rw [List.length_set]; exact hi)]
theorem confI_len {l : List Ls} {j i : Nat} {e : Ls} {now : Int} : (confI l j e now i).length ≤ i := by
  unfold confI; exact Nat.le_trans (List.length_filter_le _ _) (by rw [List.length_take]; omega)

set_option maxHeartbeats 1000000 in
theorem index_spec (v : Value) (ks : List ByteArray) (s : ByteArray) (hl : ks.length ≤ 1000) : Spec Tryd.prog 140 #[v, .string s] [rRows true v 9 1 txC ks] (fun u L => (s ∈ ks ∧ ∃ i : Nat, u = .int .i64 i ∧ L = [rRows true v 9 1 txC ks]) ∨ (¬ s ∈ ks ∧ u = .int .i64 (-1) ∧ L = [rRows true v 9 1 txC ks])) := by
  refine spec_of (#[v, .string s, undef, undef, undef, undef, undef, undef, undef, undef, undef, undef, undef, undef, undef, undef, undef, undef, undef]) Tryd.func140 rfl (by kernel_rfl) fun E w0 w h => ?_
  refine c_seq ?_
  refine c_reg ?_
  refine sq_p (.int .i64 0) rfl (fun _ => by kernel_rfl) ?_
  refine lnil ?_
  refine thn_n ?_
  refine c_seq ?_
  refine c_seq ?_
  refine c_reg ?_
  refine sq_p (.int .i64 0) rfl (fun _ => by kernel_rfl) ?_
  refine lnil ?_
  refine thn_n ?_
  refine c_block ?_
  refine c_loop (X := Nat × (Nat → Value)) (fun ⟨i, J0⟩ => ⟨#[v, .string s, undef, undef, J0 4, .int .i64 (i : Int), J0 6, J0 7, J0 8, J0 9, J0 10, J0 11, J0 12, J0 13, J0 14, J0 15, J0 16, J0 17, J0 18], []⟩)
    (fun ⟨i, J0⟩ => [rRows true v 9 1 txC ks]) (fun ⟨i, J0⟩ => i ≤ ks.length ∧ ∀ j x, j < i → ks[j]? = some x → x ≠ s) (fun ⟨i, J0⟩ => ks.length - i)
    ⟨0, (fun n => (#[v, .string s, undef, undef, .int .i64 0, .int .i64 0, undef, undef, undef, undef, undef, undef, undef, undef, undef, undef, undef, undef, undef] : Array Value).getD n undef)⟩ ⟨by omega, fun j x hj => by omega⟩ (by kernel_rfl) [0] (by kernel_rfl) h ?_
  rintro ⟨i, J0⟩ w hG h
  obtain ⟨hi0, hno⟩ : i ≤ ks.length ∧ ∀ j x, j < i → ks[j]? = some x → x ≠ s := hG
  refine c_seq ?_
  refine c_seq ?_
  refine c_reg ?_
  refine sq_p (.int .i64 (i : Int)) rfl (fun _ => by kernel_rfl) ?_
  refine sq_p (v) rfl (fun _ => by kernel_rfl) ?_
  refine sq_q rfl h (g_len (by kernel_rfl) 0 rfl) ?_
  refine sq_p (.bool (decide ((i : Int) < (ks.length : Int)))) rfl (fun _ => by kernel_rfl) ?_
  refine lnil ?_
  refine thn_n ?_
  refine c_cond (decide ((i : Int) < (ks.length : Int))) (by kernel_rfl) (fun hc1 => ?_) (fun hc1 => ?_)
  · skip
    have hc1 := of_decide_eq_true hc1
    refine c_skip ?_
    refine thn_n ?_
    refine c_seq ?_
    refine c_block ?_
    refine c_seq ?_
    refine c_reg ?_
    refine sq_p (v) rfl (fun _ => by kernel_rfl) ?_
    refine sq_p (.int .i64 (i : Int)) rfl (fun _ => by kernel_rfl) ?_
    have hi2 : i < ks.length := by omega
    obtain ⟨x3, hx4⟩ : ∃ x, ks[i]? = some x := ⟨_, List.getElem?_eq_getElem hi2⟩
    refine sq_q rfl h (g_idx i (by kernel_rfl) hi2 0 rfl) ?_
    refine sq_q rfl h (g_ldr (b := blkN v) (offN v + i * 1) [.string x3] (.string x3) (by kernel_rfl) 0 rfl (rdRow0 txC_len hx4 (by kernel_rfl))) ?_
    refine sq_p (.string s) rfl (fun _ => by kernel_rfl) ?_
    refine sq_q rfl h (g_eq (v := .bool (x3.toList == s.toList)) (v' := .bool (decide (x3 = s))) (g_pure fun _ => by kernel_rfl) beqS) ?_
    refine lnil ?_
    refine thn_n ?_
    refine c_cond (decide (x3 = s)) (by kernel_rfl) (fun hc5 => ?_) (fun hc5 => ?_)
    · skip
      have hc5 := of_decide_eq_true hc5
      refine c_seq ?_
      refine c_reg ?_
      refine sq_p (.int .i64 (i : Int)) rfl (fun _ => by kernel_rfl) ?_
      refine sq_p (.int .i64 (i : Int)) rfl (fun _ => by kernel_rfl) ?_
      refine lnil ?_
      refine thn_n ?_
      refine c_ret ?_
      refine blk_r (thn_r (rnd_r (blk_r (thn_r ?_))))
      refine ret_end [.int .i64 (i : Int)] [0] h (by kernel_rfl) (res_t (by kernel_rfl) res_n) ?_
      exact .inl ⟨by rw [← hc5]; exact List.mem_of_getElem? hx4, i, rfl, rfl⟩
    · skip
      have hc5 := of_decide_eq_false hc5
      refine c_skip ?_
      refine blk_n (thn_n ?_)
      refine c_reg ?_
      refine sq_p (.int .i64 (i : Int)) rfl (fun _ => by kernel_rfl) ?_
      refine sq_q rfl h (g_eq (v := .int .i64 (IntKind.i64.wrap ((i : Int) + 1))) (v' := .int .i64 ((i + 1 : Nat) : Int)) (g_pure fun _ => by kernel_rfl) (wr (by omega))) ?_
      refine sq_p (.int .i64 ((i + 1 : Nat) : Int)) rfl (fun _ => by kernel_rfl) ?_
      refine lnil ?_
      refine loop_end (fun j => ⟨(i + 1), j⟩) (show ((i + 1) ≤ ks.length ∧ ∀ j x, j < (i + 1) → ks[j]? = some x → x ≠ s) ∧ (ks.length - (i + 1)) < (ks.length - i) from ⟨⟨by omega, fun j2 x2 hj2 hx2 => by
          by_cases q : j2 = i
          · subst q; rw [hx4] at hx2; cases hx2; exact hc5
          · exact hno j2 x2 (by omega) hx2⟩, by omega⟩) (by kernel_rfl) [0] (by kernel_rfl) h
  · skip
    have hc1 := of_decide_eq_false hc1
    refine c_exit ?_
    refine thn_e (rnd_e (blk_e (thn_n ?_)))
    refine c_seq ?_
    refine c_reg ?_
    refine sq_p (.int .i64 (-1)) rfl (fun _ => by kernel_rfl) ?_
    refine lnil ?_
    refine thn_n ?_
    refine c_ret ?_
    refine ret_end [.int .i64 (-1)] [0] h (by kernel_rfl) (res_t (by kernel_rfl) res_n) ?_
    exact .inr ⟨fun hm => by obtain ⟨q, hq⟩ := List.getElem?_of_mem hm; exact hno q s (by have := (List.getElem?_eq_some_iff.1 hq).1; omega) hq rfl, rfl, rfl⟩
set_option maxHeartbeats 1000000 in
theorem sameInts_spec (va vb : Value) (zs : List Int) (hl : zs.length ≤ 1000) : Spec Tryd.prog 78 #[va, vb] [rRows true va 3 1 idC zs, rRows true vb 3 1 idC zs] (fun u L => u = .bool true ∧ L = [rRows true va 3 1 idC zs, rRows true vb 3 1 idC zs]) := by
  refine spec_of (#[va, vb, undef, undef, undef, undef, undef, undef, undef, undef, undef, undef, undef, undef, undef, undef, undef, undef, undef, undef, undef, undef, undef, undef, undef, undef]) Tryd.func78 rfl (by kernel_rfl) fun E w0 w h => ?_
  refine c_seq ?_
  refine c_reg ?_
  refine sq_p (.bool false) rfl (fun _ => by kernel_rfl) ?_
  refine lnil ?_
  refine thn_n ?_
  refine c_seq ?_
  refine c_seq ?_
  refine c_reg ?_
  refine sq_p (va) rfl (fun _ => by kernel_rfl) ?_
  refine sq_q rfl h (g_len (by kernel_rfl) 0 rfl) ?_
  refine sq_p (vb) rfl (fun _ => by kernel_rfl) ?_
  refine sq_q rfl h (g_len (by kernel_rfl) 1 rfl) ?_
  refine sq_p (.bool (!(decide ((zs.length : Int) = (zs.length : Int))))) rfl (fun _ => by kernel_rfl) ?_
  refine lnil ?_
  refine thn_n ?_
  refine c_cond (!(decide ((zs.length : Int) = (zs.length : Int)))) (by kernel_rfl) (fun hc1 => ?_) (fun hc1 => ?_)
  · skip
    have q2 : (decide ((zs.length : Int) = (zs.length : Int))) = false := by simpa using hc1
    have q2 := of_decide_eq_false q2
    exfalso; omega
  · skip
    have q3 : (decide ((zs.length : Int) = (zs.length : Int))) = true := by simpa using hc1
    have q3 := of_decide_eq_true q3
    refine c_skip ?_
    refine thn_n ?_
    refine c_seq ?_
    refine c_seq ?_
    refine c_reg ?_
    refine sq_p (.int .i64 0) rfl (fun _ => by kernel_rfl) ?_
    refine lnil ?_
    refine thn_n ?_
    refine c_block ?_
    refine c_loop (X := Nat × (Nat → Value)) (fun ⟨i, J0⟩ => ⟨#[va, vb, undef, undef, J0 4, .int .i64 (i : Int), va, .int .i64 (zs.length : Int), vb, .int .i64 (zs.length : Int), .bool (!(decide ((zs.length : Int) = (zs.length : Int)))), J0 11, J0 12, J0 13, J0 14, J0 15, J0 16, J0 17, J0 18, J0 19, J0 20, J0 21, J0 22, J0 23, J0 24, J0 25], []⟩)
      (fun ⟨i, J0⟩ => [rRows true va 3 1 idC zs, rRows true vb 3 1 idC zs]) (fun ⟨i, J0⟩ => i ≤ zs.length) (fun ⟨i, J0⟩ => zs.length - i)
      ⟨0, (fun n => (#[va, vb, undef, undef, .bool false, .int .i64 0, va, .int .i64 (zs.length : Int), vb, .int .i64 (zs.length : Int), .bool (!(decide ((zs.length : Int) = (zs.length : Int)))), undef, undef, undef, undef, undef, undef, undef, undef, undef, undef, undef, undef, undef, undef, undef] : Array Value).getD n undef)⟩ (by omega) (by kernel_rfl) [0, 0] (by kernel_rfl) h ?_
    rintro ⟨i, J0⟩ w hG h
    have hi0 : i ≤ zs.length := hG
    refine c_seq ?_
    refine c_seq ?_
    refine c_reg ?_
    refine sq_p (.int .i64 (i : Int)) rfl (fun _ => by kernel_rfl) ?_
    refine sq_p (va) rfl (fun _ => by kernel_rfl) ?_
    refine sq_q rfl h (g_len (by kernel_rfl) 0 rfl) ?_
    refine sq_p (.bool (decide ((i : Int) < (zs.length : Int)))) rfl (fun _ => by kernel_rfl) ?_
    refine lnil ?_
    refine thn_n ?_
    refine c_cond (decide ((i : Int) < (zs.length : Int))) (by kernel_rfl) (fun hc4 => ?_) (fun hc4 => ?_)
    · skip
      have hc4 := of_decide_eq_true hc4
      refine c_skip ?_
      refine thn_n ?_
      refine c_seq ?_
      refine c_block ?_
      refine c_seq ?_
      refine d_start 9 [0, 0] (by kernel_rfl) h fun w h => ?_
      refine d_take 0 242 [0, 0] rfl (v := va) (by kernel_rfl) (qp_thn (qp_blk (qp_thn (qp_rnd (qp_blk (qp_thn qp_body)))))) (yq (by kernel_rfl) (g_pure (v := va) fun _ => by kernel_rfl)) h (by kernel_rfl) ?_
      refine d_take 1 241 [0, 0] rfl (v := .int .i64 (i : Int)) (by kernel_rfl) (qp_thn (qp_blk (qp_thn (qp_rnd (qp_blk (qp_thn qp_body)))))) (yq (by kernel_rfl) (g_pure (v := .int .i64 (i : Int)) fun _ => by kernel_rfl)) h (by kernel_rfl) ?_
      have hi5 : i < zs.length := by omega
      obtain ⟨x6, hx7⟩ : ∃ x, zs[i]? = some x := ⟨_, List.getElem?_eq_getElem hi5⟩
      refine d_take 2 243 [0, 0] rfl (v := .pointer (some ⟨blkN va, offN va + i * 1, none⟩)) (by kernel_rfl) (qp_thn (qp_blk (qp_thn (qp_rnd (qp_blk (qp_thn qp_body)))))) (yq (by kernel_rfl) (g_idx i (by kernel_rfl) hi5 0 rfl)) h (by kernel_rfl) ?_
      refine d_take 3 247 [0, 0] rfl (v := .int .i64 x6) (by kernel_rfl) (qp_thn (qp_blk (qp_thn (qp_rnd (qp_blk (qp_thn qp_body)))))) (yq (by kernel_rfl) (g_ldr (b := blkN va) (offN va + i * 1) [.int .i64 x6] (.int .i64 x6) (by kernel_rfl) 0 rfl (rdRow0 idC_len hx7 (by kernel_rfl)))) h (by kernel_rfl) ?_
      refine d_take 4 47 [0, 0] rfl (v := vb) (by kernel_rfl) (qp_thn (qp_blk (qp_thn (qp_rnd (qp_blk (qp_thn qp_body)))))) (yq (by kernel_rfl) (g_pure (v := vb) fun _ => by kernel_rfl)) h (by kernel_rfl) ?_
      refine d_take 5 31 [0, 0] rfl (v := .int .i64 (i : Int)) (by kernel_rfl) (qp_thn (qp_blk (qp_thn (qp_rnd (qp_blk (qp_thn qp_body)))))) (yq (by kernel_rfl) (g_pure (v := .int .i64 (i : Int)) fun _ => by kernel_rfl)) h (by kernel_rfl) ?_
      have hi8 : i < zs.length := by omega
      obtain ⟨x9, hx10⟩ : ∃ x, zs[i]? = some x := ⟨_, List.getElem?_eq_getElem hi8⟩
      refine d_take 6 63 [0, 0] rfl (v := .pointer (some ⟨blkN vb, offN vb + i * 1, none⟩)) (by kernel_rfl) (qp_thn (qp_blk (qp_thn (qp_rnd (qp_blk (qp_thn qp_body)))))) (yq (by kernel_rfl) (g_idx i (by kernel_rfl) hi8 1 rfl)) h (by kernel_rfl) ?_
      refine d_take 7 127 [0, 0] rfl (v := .int .i64 x9) (by kernel_rfl) (qp_thn (qp_blk (qp_thn (qp_rnd (qp_blk (qp_thn qp_body)))))) (yq (by kernel_rfl) (g_ldr (b := blkN vb) (offN vb + i * 1) [.int .i64 x9] (.int .i64 x9) (by kernel_rfl) 1 rfl (rdRow0 idC_len hx10 (by kernel_rfl)))) h (by kernel_rfl) ?_
      refine d_take 8 255 [0, 0] rfl (v := .bool (!(decide (x6 = x9)))) (by kernel_rfl) (qp_thn (qp_blk (qp_thn (qp_rnd (qp_blk (qp_thn qp_body)))))) (yq (by kernel_rfl) (g_pure (v := .bool (!(decide (x6 = x9)))) fun _ => by kernel_rfl)) h (by kernel_rfl) ?_
      refine d_done (by kernel_rfl) ?_
      refine thn_n ?_
      refine c_cond (!(decide (x6 = x9))) (by kernel_rfl) (fun hc11 => ?_) (fun hc11 => ?_)
      · skip
        have q12 : (decide (x6 = x9)) = false := by simpa using hc11
        have q12 := of_decide_eq_false q12
        rw [hx7] at hx10; cases hx10; simp at hc11
      · skip
        have q13 : (decide (x6 = x9)) = true := by simpa using hc11
        have q13 := of_decide_eq_true q13
        refine c_skip ?_
        refine blk_n (thn_n ?_)
        refine c_reg ?_
        refine sq_p (.int .i64 (i : Int)) rfl (fun _ => by kernel_rfl) ?_
        refine sq_q rfl h (g_eq (v := .int .i64 (IntKind.i64.wrap ((i : Int) + 1))) (v' := .int .i64 ((i + 1 : Nat) : Int)) (g_pure fun _ => by kernel_rfl) (wr (by omega))) ?_
        refine sq_p (.int .i64 ((i + 1 : Nat) : Int)) rfl (fun _ => by kernel_rfl) ?_
        refine lnil ?_
        refine loop_end (fun j => ⟨(i + 1), j⟩) (show ((i + 1) ≤ zs.length) ∧ (zs.length - (i + 1)) < (zs.length - i) from ⟨by omega, by omega⟩) (by kernel_rfl) [0, 0] (by kernel_rfl) h
    · skip
      have hc4 := of_decide_eq_false hc4
      refine c_exit ?_
      refine thn_e (rnd_e (blk_e (thn_n ?_)))
      refine c_seq ?_
      refine c_reg ?_
      refine sq_p (.bool true) rfl (fun _ => by kernel_rfl) ?_
      refine lnil ?_
      refine thn_n ?_
      refine c_ret ?_
      refine ret_end [.bool true] [0, 0] h (by kernel_rfl) (res_t (by kernel_rfl) res_n) ?_
      exact ⟨rfl, rfl⟩
set_option maxHeartbeats 1000000 in
theorem rat_spec (b : Nat) (v : Value) (l : List Ls) (last now : Int) (hk : LsOk l last now) (hb : last ≤ 1000) (hw : now ≤ 9000000000000000) (i : Int) : Spec Tryd.prog 142 #[.pointer (some ⟨b, 0, none⟩), .int .i64 i] [rCell true b [v, .int .i64 last, .int .i64 now] 124, rRows true v 235 4 rclC l] (fun u L => (∃ (j : Nat) (e : Ls), l[j]? = some e ∧ e.1 = i ∧ lsC e = true ∧ u = .int .i64 j ∧ L = [rCell true b [v, .int .i64 last, .int .i64 now] 124, rRows true v 235 4 rclC l]) ∨ ((∀ e ∈ l, ¬ (e.1 = i ∧ lsC e = true)) ∧ u = .int .i64 (-1) ∧ L = [rCell true b [v, .int .i64 last, .int .i64 now] 124, rRows true v 235 4 rclC l])) := by
  have hfw := hk.few
  refine spec_of (#[.pointer (some ⟨b, 0, none⟩), .int .i64 i, undef, undef, undef, undef, undef, undef, undef, undef, undef, undef, undef, undef, undef, undef, undef, undef, undef, undef, undef, undef, undef, undef, undef, undef, undef, undef, undef, undef, undef, undef, undef, undef, undef, undef]) Tryd.func142 rfl (by kernel_rfl) fun E w0 w h => ?_
  refine c_seq ?_
  refine c_reg ?_
  refine sq_p (.int .i64 0) rfl (fun _ => by kernel_rfl) ?_
  refine lnil ?_
  refine thn_n ?_
  refine c_seq ?_
  refine c_seq ?_
  refine c_reg ?_
  refine sq_p (.int .i64 0) rfl (fun _ => by kernel_rfl) ?_
  refine lnil ?_
  refine thn_n ?_
  refine c_block ?_
  refine c_loop (X := Nat × (Nat → Value)) (fun ⟨n, J0⟩ => ⟨#[.pointer (some ⟨b, 0, none⟩), .int .i64 i, undef, undef, J0 4, .int .i64 (n : Int), J0 6, J0 7, J0 8, J0 9, J0 10, J0 11, J0 12, J0 13, J0 14, J0 15, J0 16, J0 17, J0 18, J0 19, J0 20, J0 21, J0 22, J0 23, J0 24, J0 25, J0 26, J0 27, J0 28, J0 29, J0 30, J0 31, J0 32, J0 33, J0 34, J0 35], []⟩)
    (fun ⟨n, J0⟩ => [rCell true b [v, .int .i64 last, .int .i64 now] 124, rRows true v 235 4 rclC l]) (fun ⟨n, J0⟩ => n ≤ l.length ∧ ∀ j e, j < n → l[j]? = some e → ¬ (e.1 = i ∧ lsC e = true)) (fun ⟨n, J0⟩ => l.length - n)
    ⟨0, (fun n => (#[.pointer (some ⟨b, 0, none⟩), .int .i64 i, undef, undef, .int .i64 0, .int .i64 0, undef, undef, undef, undef, undef, undef, undef, undef, undef, undef, undef, undef, undef, undef, undef, undef, undef, undef, undef, undef, undef, undef, undef, undef, undef, undef, undef, undef, undef, undef] : Array Value).getD n undef)⟩ ⟨by omega, fun j e hj => by omega⟩ (by kernel_rfl) [0, 0] (by kernel_rfl) h ?_
  rintro ⟨n, J0⟩ w hG h
  obtain ⟨hn0, hno⟩ : n ≤ l.length ∧ ∀ j e, j < n → l[j]? = some e → ¬ (e.1 = i ∧ lsC e = true) := hG
  refine c_seq ?_
  refine c_seq ?_
  refine c_reg ?_
  refine sq_p (.int .i64 (n : Int)) rfl (fun _ => by kernel_rfl) ?_
  refine sq_p (.pointer (some ⟨b, 0, none⟩)) rfl (fun _ => by kernel_rfl) ?_
  refine sq_p (.pointer (some ⟨b, 0, none⟩)) rfl (fun _ => by kernel_rfl) ?_
  refine sq_p (.pointer (some ⟨b, 0, none⟩)) rfl (fun _ => by kernel_rfl) ?_
  refine sq_q rfl h (g_ld 0 [v] (v) (by kernel_rfl) 0 rfl) ?_
  refine sq_q rfl h (g_len (by kernel_rfl) 1 rfl) ?_
  refine sq_p (.bool (decide ((n : Int) < (l.length : Int)))) rfl (fun _ => by kernel_rfl) ?_
  refine lnil ?_
  refine thn_n ?_
  refine c_cond (decide ((n : Int) < (l.length : Int))) (by kernel_rfl) (fun hc1 => ?_) (fun hc1 => ?_)
  · skip
    have hc1 := of_decide_eq_true hc1
    refine c_skip ?_
    refine thn_n ?_
    refine c_seq ?_
    refine c_block ?_
    refine c_seq ?_
    refine c_reg ?_
    refine sq_p (.pointer (some ⟨b, 0, none⟩)) rfl (fun _ => by kernel_rfl) ?_
    refine sq_p (.pointer (some ⟨b, 0, none⟩)) rfl (fun _ => by kernel_rfl) ?_
    refine sq_p (.pointer (some ⟨b, 0, none⟩)) rfl (fun _ => by kernel_rfl) ?_
    refine sq_q rfl h (g_ld 0 [v] (v) (by kernel_rfl) 0 rfl) ?_
    refine sq_p (.int .i64 (n : Int)) rfl (fun _ => by kernel_rfl) ?_
    have hi2 : n < l.length := by omega
    obtain ⟨x3, hx4⟩ : ∃ x, l[n]? = some x := ⟨_, List.getElem?_eq_getElem hi2⟩
    refine sq_q rfl h (g_idx n (by kernel_rfl) hi2 1 rfl) ?_
    refine sq_p (.pointer (some ⟨blkN v, offN v + n * 4, none⟩)) rfl (fun _ => by kernel_rfl) ?_
    refine sq_q rfl h (g_ldr (b := blkN v) (offN v + n * 4) [.int .i64 x3.1] (.int .i64 x3.1) (by kernel_rfl) 1 rfl (rdRow0 rclC_len hx4 (by kernel_rfl))) ?_
    refine sq_p (.int .i64 i) rfl (fun _ => by kernel_rfl) ?_
    obtain ⟨b5, hb5⟩ : ∃ b_ : Bool, b_ = (decide (x3.1 = i)) := ⟨_, rfl⟩
    refine sq_q (v := .bool b5) rfl h (by subst hb5; exact g_pure (v := .bool (decide (x3.1 = i))) fun _ => by kernel_rfl) ?_
    refine sq_p (.bool b5) rfl (fun _ => by kernel_rfl) ?_
    refine sq_m1 (v := .pointer (some ⟨b, 0, none⟩)) b5 (by cases b5 <;> kernel_rfl) h (fun hB => by subst hB; exact g_pure (v := .pointer (some ⟨b, 0, none⟩)) fun _ => by kernel_rfl) ?_
    refine sq_m1 (v := .pointer (some ⟨b, 0, none⟩)) b5 (by cases b5 <;> kernel_rfl) h (fun hB => by subst hB; exact g_pure (v := .pointer (some ⟨b, 0, none⟩)) fun _ => by kernel_rfl) ?_
    refine sq_m1 (v := .pointer (some ⟨b, 0, none⟩)) b5 (by cases b5 <;> kernel_rfl) h (fun hB => by subst hB; exact g_pure (v := .pointer (some ⟨b, 0, none⟩)) fun _ => by kernel_rfl) ?_
    refine sq_m1 (v := v) b5 (by cases b5 <;> kernel_rfl) h (fun hB => by subst hB; exact g_ld 0 [v] (v) (by kernel_rfl) 0 rfl) ?_
    refine sq_m1 (v := .int .i64 (n : Int)) b5 (by cases b5 <;> kernel_rfl) h (fun hB => by subst hB; exact g_pure (v := .int .i64 (n : Int)) fun _ => by kernel_rfl) ?_
    refine sq_m1 (v := .pointer (some ⟨blkN v, offN v + n * 4, none⟩)) b5 (by cases b5 <;> kernel_rfl) h (fun hB => by subst hB; exact g_idx n (by kernel_rfl) hi2 1 rfl) ?_
    refine sq_m1 (v := .pointer (some ⟨blkN v, offN v + n * 4 + 3, none⟩)) b5 (by cases b5 <;> kernel_rfl) h (fun hB => by subst hB; exact g_pure (v := .pointer (some ⟨blkN v, offN v + n * 4 + 3, none⟩)) fun _ => by kernel_rfl) ?_
    refine sq_m1 (v := .bool x3.2.2.2.2.2.1) b5 (by cases b5 <;> kernel_rfl) h (fun hB => by subst hB; exact g_ldr (b := blkN v) (offN v + n * 4 + 3) [.bool x3.2.2.2.2.2.1] (.bool x3.2.2.2.2.2.1) (by kernel_rfl) 1 rfl (rdRow rclC_len hx4 3 (by kernel_rfl))) ?_
    obtain ⟨b6, hb6⟩ : ∃ b_ : Bool, b_ = (b5 && x3.2.2.2.2.2.1) := ⟨_, rfl⟩
    refine sq_q (v := .bool b6) rfl h (by subst hb6; exact g_pure (v := .bool (b5 && x3.2.2.2.2.2.1)) fun _ => by cases b5 <;> kernel_rfl) ?_
    refine lnil ?_
    refine thn_n ?_
    refine c_cond (b6) (by kernel_rfl) (fun hc7 => ?_) (fun hc7 => ?_)
    · skip
      have q8 : (b5 && x3.2.2.2.2.2.1) = true := by rw [← hb6]; exact hc7
      have q9 : b5 = true := by revert q8; cases b5 <;> simp
      have q10 : x3.2.2.2.2.2.1 = true := by revert q8; cases b5 <;> cases x3.2.2.2.2.2.1 <;> simp
      have q11 : (decide (x3.1 = i)) = true := by rw [← hb5]; exact q9
      have q11 := of_decide_eq_true q11
      have hT : x3.1 = i ∧ lsC x3 = true := by revert hc7; subst hb6; subst hb5; simp
      refine c_seq ?_
      refine c_reg ?_
      refine sq_p (.int .i64 (n : Int)) rfl (fun _ => by kernel_rfl) ?_
      refine sq_p (.int .i64 (n : Int)) rfl (fun _ => by kernel_rfl) ?_
      refine lnil ?_
      refine thn_n ?_
      refine c_ret ?_
      refine blk_r (thn_r (rnd_r (blk_r (thn_r ?_))))
      refine ret_end [.int .i64 (n : Int)] [0, 0] h (by kernel_rfl) (res_t (by kernel_rfl) res_n) ?_
      exact .inl ⟨n, x3, hx4, hT.1, hT.2, rfl, rfl⟩
    · skip
      have q12 : (b5 && x3.2.2.2.2.2.1) = false := by rw [← hb6]; exact hc7
      have hT : ¬ (x3.1 = i ∧ lsC x3 = true) := fun hh => by revert hc7; subst hb6; subst hb5; simp [hh.1, hh.2]
      refine c_skip ?_
      refine blk_n (thn_n ?_)
      refine c_reg ?_
      refine sq_p (.int .i64 (n : Int)) rfl (fun _ => by kernel_rfl) ?_
      refine sq_q rfl h (g_eq (v := .int .i64 (IntKind.i64.wrap ((n : Int) + 1))) (v' := .int .i64 ((n + 1 : Nat) : Int)) (g_pure fun _ => by kernel_rfl) (wr (by omega))) ?_
      refine sq_p (.int .i64 ((n + 1 : Nat) : Int)) rfl (fun _ => by kernel_rfl) ?_
      refine lnil ?_
      refine loop_end (fun j => ⟨(n + 1), j⟩) (show ((n + 1) ≤ l.length ∧ ∀ j e, j < (n + 1) → l[j]? = some e → ¬ (e.1 = i ∧ lsC e = true)) ∧ (l.length - (n + 1)) < (l.length - n) from ⟨⟨by omega, fun j2 x2 hj2 hx2 => by
          by_cases q : j2 = n
          · subst q; rw [hx4] at hx2; cases hx2; exact hT
          · exact hno j2 x2 (by omega) hx2⟩, by omega⟩) (by kernel_rfl) [0, 0] (by kernel_rfl) h
  · skip
    have hc1 := of_decide_eq_false hc1
    refine c_exit ?_
    refine thn_e (rnd_e (blk_e (thn_n ?_)))
    refine c_seq ?_
    refine c_reg ?_
    refine sq_p (.int .i64 (-1)) rfl (fun _ => by kernel_rfl) ?_
    refine lnil ?_
    refine thn_n ?_
    refine c_ret ?_
    refine ret_end [.int .i64 (-1)] [0, 0] h (by kernel_rfl) (res_t (by kernel_rfl) res_n) ?_
    exact .inr ⟨fun e he hh => by obtain ⟨q, hq⟩ := List.getElem?_of_mem he; exact hno q e (by have := (List.getElem?_eq_some_iff.1 hq).1; omega) hq hh, rfl, rfl⟩
set_option maxHeartbeats 1000000 in
theorem rrenew_spec (b : Nat) (v : Value) (l : List Ls) (last now : Int) (hk : LsOk l last now) (hb : last ≤ 1000) (hw : now ≤ 9000000000000000) (i : Int) : Spec Tryd.prog 75 #[.pointer (some ⟨b, 0, none⟩), .int .i64 i] [rCell true b [v, .int .i64 last, .int .i64 now] 124, rRows true v 235 4 rclC l] (fun u L => (∃ (j : Nat) (e : Ls), l[j]? = some e ∧ e.1 = i ∧ lsC e = true ∧ ∃ v', u = .int .i64 0 ∧ L = [rCell true b [v', .int .i64 last, .int .i64 now] 124, rRows true v' 235 4 rclC (l.set j (lsSet e true now))]) ∨ ((∀ e ∈ l, ¬ (e.1 = i ∧ lsC e = true)) ∧ u = .int .i64 5 ∧ L = [rCell true b [v, .int .i64 last, .int .i64 now] 124, rRows true v 235 4 rclC l])) := by
  have hfw := hk.few
  refine spec_of (#[.pointer (some ⟨b, 0, none⟩), .int .i64 i, undef, undef, undef, undef, undef, undef, undef, undef, undef, undef, undef, undef, undef, undef, undef, undef, undef, undef, undef, undef]) Tryd.func75 rfl (by kernel_rfl) fun E w0 w h => ?_
  refine c_seq ?_
  refine c_reg ?_
  refine sq_p (.int .i64 0) rfl (fun _ => by kernel_rfl) ?_
  refine lnil ?_
  refine thn_n ?_
  refine c_seq ?_
  refine c_reg ?_
  refine sq_p (.pointer (some ⟨b, 0, none⟩)) rfl (fun _ => by kernel_rfl) ?_
  refine sq_p (.int .i64 i) rfl (fun _ => by kernel_rfl) ?_
  refine sq_call #[.pointer (some ⟨b, 0, none⟩), .int .i64 i] [0, 0] rfl (rat_spec b v l last now hk hb hw i) (fun _ => by kernel_rfl) h ?_; rintro v_ L_ w (⟨j1, e2, hj3, hi4, hc5, rfl, rfl⟩ | ⟨hn6, rfl, rfl⟩) h
  · skip
    have hbj1 := (List.getElem?_eq_some_iff.1 hj3).1
    refine sq_p (.int .i64 (j1 : Int)) rfl (fun _ => by kernel_rfl) ?_
    refine lnil ?_
    refine thn_n ?_
    refine c_seq ?_
    refine c_seq ?_
    refine c_reg ?_
    refine sq_p (.int .i64 (j1 : Int)) rfl (fun _ => by kernel_rfl) ?_
    refine sq_p (.bool (decide ((j1 : Int) < 0))) rfl (fun _ => by kernel_rfl) ?_
    refine lnil ?_
    refine thn_n ?_
    refine c_cond (decide ((j1 : Int) < 0)) (by kernel_rfl) (fun hc7 => ?_) (fun hc7 => ?_)
    · skip
      have hc7 := of_decide_eq_true hc7
      exfalso; omega
    · skip
      have hc7 := of_decide_eq_false hc7
      refine c_skip ?_
      refine thn_n ?_
      refine c_seq ?_
      refine d_start 12 [0] (by kernel_rfl) h fun w h => ?_
      refine d_take 0 496 [0] rfl (v := .pointer (some ⟨b, 0, none⟩)) (by kernel_rfl) (qp_thn qp_body) (yq (by kernel_rfl) (g_pure (v := .pointer (some ⟨b, 0, none⟩)) fun _ => by kernel_rfl)) h (by kernel_rfl) ?_
      refine d_take 1 497 [0] rfl (v := .pointer (some ⟨b, 0, none⟩)) (by kernel_rfl) (qp_thn qp_body) (yq (by kernel_rfl) (g_pure (v := .pointer (some ⟨b, 0, none⟩)) fun _ => by kernel_rfl)) h (by kernel_rfl) ?_
      refine d_take 2 499 [0] rfl (v := .pointer (some ⟨b, 0, none⟩)) (by kernel_rfl) (qp_thn qp_body) (yq (by kernel_rfl) (g_pure (v := .pointer (some ⟨b, 0, none⟩)) fun _ => by kernel_rfl)) h (by kernel_rfl) ?_
      refine d_take 3 503 [0] rfl (v := v) (by kernel_rfl) (qp_thn qp_body) (yq (by kernel_rfl) (g_ld 0 [v] (v) (by kernel_rfl) 0 rfl)) h (by kernel_rfl) ?_
      refine d_take 4 495 [0] rfl (v := .int .i64 (j1 : Int)) (by kernel_rfl) (qp_thn qp_body) (yq (by kernel_rfl) (g_pure (v := .int .i64 (j1 : Int)) fun _ => by kernel_rfl)) h (by kernel_rfl) ?_
      refine d_take 5 31 [0] rfl (v := .pointer (some ⟨b, 0, none⟩)) (by kernel_rfl) (qp_thn qp_body) (yq (by kernel_rfl) (g_pure (v := .pointer (some ⟨b, 0, none⟩)) fun _ => by kernel_rfl)) h (by kernel_rfl) ?_
      refine d_take 6 63 [0] rfl (v := .pointer (some ⟨b, 0, none⟩)) (by kernel_rfl) (qp_thn qp_body) (yq (by kernel_rfl) (g_pure (v := .pointer (some ⟨b, 0, none⟩)) fun _ => by kernel_rfl)) h (by kernel_rfl) ?_
      refine d_take 7 127 [0] rfl (v := .pointer (some ⟨b, 2, none⟩)) (by kernel_rfl) (qp_thn qp_body) (yq (by kernel_rfl) (g_pure (v := .pointer (some ⟨b, 2, none⟩)) fun _ => by kernel_rfl)) h (by kernel_rfl) ?_
      refine d_take 8 255 [0] rfl (v := .int .i64 now) (by kernel_rfl) (qp_thn qp_body) (yq (by kernel_rfl) (g_ld 2 [.int .i64 now] (.int .i64 now) (by kernel_rfl) 0 rfl)) h (by kernel_rfl) ?_
      refine d_ready [9] (by kernel_rfl) rfl ?_
      refine ad_q [0] rfl (by kernel_rfl) (v := .pointer (some ⟨blkN v, offN v + j1 * 4, none⟩)) (g_idx j1 (by kernel_rfl) hbj1 1 rfl) h (by kernel_rfl) ?_ ?_
      · skip
        refine d_take 10 1023 [0] rfl (v := .pointer (some ⟨blkN v, offN v + j1 * 4 + 1, none⟩)) (by kernel_rfl) (qp_thn qp_body) (yq (by kernel_rfl) (g_pure (v := .pointer (some ⟨blkN v, offN v + j1 * 4 + 1, none⟩)) fun _ => by kernel_rfl)) h (by kernel_rfl) ?_
        refine d_ready [11] (by kernel_rfl) rfl ?_
        refine ad_str [0] rfl (by kernel_rfl) (b := blkN v) (offN v + j1 * 4 + 1) [.int .i64 now] h 1 rfl (by kernel_rfl) (wrRow rclC_len hj3 1 (lsSet e2 e2.2.2.2.2.2.1 now) (by kernel_rfl) (by kernel_rfl)) ?_ ?_
        · skip
          intro w h; refine ⟨by kernel_rfl, ?_⟩
          refine d_done (by kernel_rfl) ?_
          refine thn_n ?_
          refine c_seq ?_
          refine c_reg ?_
          refine sq_p (.int .i64 0) rfl (fun _ => by kernel_rfl) ?_
          refine lnil ?_
          refine thn_n ?_
          refine c_ret ?_
          refine ret_end [.int .i64 0] [0, 0] h (by kernel_rfl) (res_t (by kernel_rfl) res_n) ?_
          exact .inl ⟨j1, e2, hj3, hi4, hc5, _, rfl, by rw [show e2.2.2.2.2.2.1 = true from hc5]; rfl⟩
        exact ad_nil
      exact ad_nil
  · skip
    refine sq_p (.int .i64 (-1)) rfl (fun _ => by kernel_rfl) ?_
    refine lnil ?_
    refine thn_n ?_
    refine c_seq ?_
    refine c_seq ?_
    refine c_reg ?_
    refine sq_p (.int .i64 (-1)) rfl (fun _ => by kernel_rfl) ?_
    refine sq_p (.bool true) rfl (fun _ => by kernel_rfl) ?_
    refine lnil ?_
    refine thn_n ?_
    refine c_true (by kernel_rfl) ?_
    refine c_seq ?_
    refine c_reg ?_
    refine sq_p (.int .i64 5) rfl (fun _ => by kernel_rfl) ?_
    refine lnil ?_
    refine thn_n ?_
    refine c_ret ?_
    refine thn_r ?_
    refine ret_end [.int .i64 5] [0, 0] h (by kernel_rfl) (res_t (by kernel_rfl) res_n) ?_
    exact .inr ⟨hn6, rfl, rfl⟩
set_option maxHeartbeats 1000000 in
theorem rname_spec (b : Nat) (v : Value) (l : List Ls) (last now : Int) (hk : LsOk l last now) (hb : last ≤ 1000) (hw : now ≤ 9000000000000000) (i : Int) : Spec Tryd.prog 80 #[.pointer (some ⟨b, 0, none⟩), .int .i64 i] [rCell true b [v, .int .i64 last, .int .i64 now] 124, rRows true v 235 4 rclC l] (fun u L => (∃ (j : Nat) (e : Ls), l[j]? = some e ∧ e.1 = i ∧ lsC e = true ∧ u = .tuple #[.string (lsN e), .int .i64 0] ∧ L = [rCell true b [v, .int .i64 last, .int .i64 now] 124, rRows true v 235 4 rclC l]) ∨ ((∀ e ∈ l, ¬ (e.1 = i ∧ lsC e = true)) ∧ u = .tuple #[.string ⟨#[]⟩, .int .i64 5] ∧ L = [rCell true b [v, .int .i64 last, .int .i64 now] 124, rRows true v 235 4 rclC l])) := by
  have hfw := hk.few
  refine spec_of (#[.pointer (some ⟨b, 0, none⟩), .int .i64 i, undef, undef, undef, undef, undef, undef, undef, undef, undef, undef, undef, undef, undef, undef, undef, undef, undef, undef]) Tryd.func80 rfl (by kernel_rfl) fun E w0 w h => ?_
  refine c_seq ?_
  refine c_reg ?_
  refine sq_p (.string (⟨#[]⟩ : ByteArray)) rfl (fun _ => by kernel_rfl) ?_
  refine sq_p (.int .i64 0) rfl (fun _ => by kernel_rfl) ?_
  refine lnil ?_
  refine thn_n ?_
  refine c_seq ?_
  refine c_reg ?_
  refine sq_p (.pointer (some ⟨b, 0, none⟩)) rfl (fun _ => by kernel_rfl) ?_
  refine sq_p (.int .i64 i) rfl (fun _ => by kernel_rfl) ?_
  refine sq_call #[.pointer (some ⟨b, 0, none⟩), .int .i64 i] [0, 0] rfl (rat_spec b v l last now hk hb hw i) (fun _ => by kernel_rfl) h ?_; rintro v_ L_ w (⟨j1, e2, hj3, hi4, hc5, rfl, rfl⟩ | ⟨hn6, rfl, rfl⟩) h
  · skip
    have hbj1 := (List.getElem?_eq_some_iff.1 hj3).1
    refine sq_p (.int .i64 (j1 : Int)) rfl (fun _ => by kernel_rfl) ?_
    refine lnil ?_
    refine thn_n ?_
    refine c_seq ?_
    refine c_seq ?_
    refine c_reg ?_
    refine sq_p (.int .i64 (j1 : Int)) rfl (fun _ => by kernel_rfl) ?_
    refine sq_p (.bool (decide ((j1 : Int) < 0))) rfl (fun _ => by kernel_rfl) ?_
    refine lnil ?_
    refine thn_n ?_
    refine c_cond (decide ((j1 : Int) < 0)) (by kernel_rfl) (fun hc7 => ?_) (fun hc7 => ?_)
    · skip
      have hc7 := of_decide_eq_true hc7
      exfalso; omega
    · skip
      have hc7 := of_decide_eq_false hc7
      refine c_skip ?_
      refine thn_n ?_
      refine c_seq ?_
      refine c_reg ?_
      refine sq_p (.pointer (some ⟨b, 0, none⟩)) rfl (fun _ => by kernel_rfl) ?_
      refine sq_p (.pointer (some ⟨b, 0, none⟩)) rfl (fun _ => by kernel_rfl) ?_
      refine sq_p (.pointer (some ⟨b, 0, none⟩)) rfl (fun _ => by kernel_rfl) ?_
      refine sq_q rfl h (g_ld 0 [v] (v) (by kernel_rfl) 0 rfl) ?_
      refine sq_p (.int .i64 (j1 : Int)) rfl (fun _ => by kernel_rfl) ?_
      refine sq_q rfl h (g_idx j1 (by kernel_rfl) hbj1 1 rfl) ?_
      refine sq_p (.pointer (some ⟨blkN v, offN v + j1 * 4 + 2, none⟩)) rfl (fun _ => by kernel_rfl) ?_
      refine sq_q rfl h (g_ldr (b := blkN v) (offN v + j1 * 4 + 2) [.string e2.2.2.1] (.string e2.2.2.1) (by kernel_rfl) 1 rfl (rdRow rclC_len hj3 2 (by kernel_rfl))) ?_
      refine sq_p (.string e2.2.2.1) rfl (fun _ => by kernel_rfl) ?_
      refine sq_p (.int .i64 0) rfl (fun _ => by kernel_rfl) ?_
      refine lnil ?_
      refine thn_n ?_
      refine c_ret ?_
      refine ret_end [.string e2.2.2.1, .int .i64 0] [0, 0] h (by kernel_rfl) (res_t (by kernel_rfl) (res_t (by kernel_rfl) res_n)) ?_
      exact .inl ⟨j1, e2, hj3, hi4, hc5, rfl, rfl⟩
  · skip
    refine sq_p (.int .i64 (-1)) rfl (fun _ => by kernel_rfl) ?_
    refine lnil ?_
    refine thn_n ?_
    refine c_seq ?_
    refine c_seq ?_
    refine c_reg ?_
    refine sq_p (.int .i64 (-1)) rfl (fun _ => by kernel_rfl) ?_
    refine sq_p (.bool true) rfl (fun _ => by kernel_rfl) ?_
    refine lnil ?_
    refine thn_n ?_
    refine c_true (by kernel_rfl) ?_
    refine c_seq ?_
    refine c_reg ?_
    refine sq_p (.string (⟨#[]⟩ : ByteArray)) rfl (fun _ => by kernel_rfl) ?_
    refine sq_p (.int .i64 5) rfl (fun _ => by kernel_rfl) ?_
    refine lnil ?_
    refine thn_n ?_
    refine c_ret ?_
    refine thn_r ?_
    refine ret_end [.string (⟨#[]⟩ : ByteArray), .int .i64 5] [0, 0] h (by kernel_rfl) (res_t (by kernel_rfl) (res_t (by kernel_rfl) res_n)) ?_
    exact .inr ⟨hn6, rfl, rfl⟩
set_option maxHeartbeats 1000000 in
theorem rlist_spec (b : Nat) (v : Value) (l : List Ls) (last now : Int) (hk : LsOk l last now) (hb : last ≤ 1000) (hw : now ≤ 9000000000000000)  : Spec Tryd.prog 82 #[.pointer (some ⟨b, 0, none⟩)] [rCell true b [v, .int .i64 last, .int .i64 now] 124, rRows true v 235 4 rclC l] (fun u L => ∃ v', u = v' ∧ L = [rRows true v' 3 1 idC (lsIds l), rCell true b [v, .int .i64 last, .int .i64 now] 124, rRows true v 235 4 rclC l]) := by
  have hfw := hk.few
  refine spec_of (#[.pointer (some ⟨b, 0, none⟩), undef, undef, undef, undef, undef, undef, undef, undef, undef, undef, undef, undef, undef, undef, undef, undef, undef, undef, undef, undef, undef, undef, undef, undef, undef, undef, undef, undef, undef, undef, undef, undef, undef]) Tryd.func82 rfl (by kernel_rfl) fun E w0 w h => ?_
  refine c_seq ?_
  refine c_reg ?_
  refine sq_p (.slice none 0 0) rfl (fun _ => by kernel_rfl) ?_
  refine lnil ?_
  refine thn_n ?_
  refine c_seq ?_
  refine c_reg ?_
  refine sq_p (.slice none 0 0) rfl (fun _ => by kernel_rfl) ?_
  refine lnil ?_
  refine thn_n ?_
  refine c_seq ?_
  refine c_seq ?_
  refine c_reg ?_
  refine sq_p (.int .i64 0) rfl (fun _ => by kernel_rfl) ?_
  refine lnil ?_
  refine thn_n ?_
  refine c_block ?_
  have h := h.nilRows 3 1 idC
  refine c_loop (X := Nat × List Int × Value × (Nat → Value)) (fun ⟨n, out, vo, J0⟩ => ⟨#[.pointer (some ⟨b, 0, none⟩), undef, .slice none 0 0, vo, .int .i64 (n : Int), J0 5, J0 6, J0 7, J0 8, J0 9, J0 10, J0 11, J0 12, J0 13, J0 14, J0 15, J0 16, J0 17, J0 18, J0 19, J0 20, J0 21, J0 22, J0 23, J0 24, J0 25, J0 26, J0 27, J0 28, J0 29, J0 30, J0 31, J0 32, undef], []⟩)
    (fun ⟨n, out, vo, J0⟩ => [rRows true vo 3 1 idC out, rCell true b [v, .int .i64 last, .int .i64 now] 124, rRows true v 235 4 rclC l]) (fun ⟨n, out, vo, J0⟩ => n ≤ l.length ∧ out = lsIds (l.take n)) (fun ⟨n, out, vo, J0⟩ => l.length - n)
    ⟨0, [], (.slice none 0 0), (fun n => (#[.pointer (some ⟨b, 0, none⟩), undef, .slice none 0 0, .slice none 0 0, .int .i64 0, undef, undef, undef, undef, undef, undef, undef, undef, undef, undef, undef, undef, undef, undef, undef, undef, undef, undef, undef, undef, undef, undef, undef, undef, undef, undef, undef, undef, undef] : Array Value).getD n undef)⟩ ⟨by omega, rfl⟩ (by kernel_rfl) [0, 0, 0] (by kernel_rfl) h ?_
  rintro ⟨n, out, vo, J0⟩ w hG h
  obtain ⟨hn0, ho⟩ : n ≤ l.length ∧ out = lsIds (l.take n) := hG
  have hol : out.length ≤ n := by rw [ho]; unfold lsIds; rw [List.length_map]; exact Nat.le_trans (List.length_filter_le _ _) (by rw [List.length_take]; omega)
  refine c_seq ?_
  refine c_seq ?_
  refine c_reg ?_
  refine sq_p (.int .i64 (n : Int)) rfl (fun _ => by kernel_rfl) ?_
  refine sq_p (.pointer (some ⟨b, 0, none⟩)) rfl (fun _ => by kernel_rfl) ?_
  refine sq_p (.pointer (some ⟨b, 0, none⟩)) rfl (fun _ => by kernel_rfl) ?_
  refine sq_p (.pointer (some ⟨b, 0, none⟩)) rfl (fun _ => by kernel_rfl) ?_
  refine sq_q rfl h (g_ld 0 [v] (v) (by kernel_rfl) 1 rfl) ?_
  refine sq_q rfl h (g_len (by kernel_rfl) 2 rfl) ?_
  refine sq_p (.bool (decide ((n : Int) < (l.length : Int)))) rfl (fun _ => by kernel_rfl) ?_
  refine lnil ?_
  refine thn_n ?_
  refine c_cond (decide ((n : Int) < (l.length : Int))) (by kernel_rfl) (fun hc1 => ?_) (fun hc1 => ?_)
  · skip
    have hc1 := of_decide_eq_true hc1
    refine c_skip ?_
    refine thn_n ?_
    refine c_seq ?_
    refine c_block ?_
    refine c_seq ?_
    refine c_reg ?_
    refine sq_p (.pointer (some ⟨b, 0, none⟩)) rfl (fun _ => by kernel_rfl) ?_
    refine sq_p (.pointer (some ⟨b, 0, none⟩)) rfl (fun _ => by kernel_rfl) ?_
    refine sq_p (.pointer (some ⟨b, 0, none⟩)) rfl (fun _ => by kernel_rfl) ?_
    refine sq_q rfl h (g_ld 0 [v] (v) (by kernel_rfl) 1 rfl) ?_
    refine sq_p (.int .i64 (n : Int)) rfl (fun _ => by kernel_rfl) ?_
    have hi2 : n < l.length := by omega
    obtain ⟨x3, hx4⟩ : ∃ x, l[n]? = some x := ⟨_, List.getElem?_eq_getElem hi2⟩
    refine sq_q rfl h (g_idx n (by kernel_rfl) hi2 2 rfl) ?_
    refine sq_p (.pointer (some ⟨blkN v, offN v + n * 4 + 3, none⟩)) rfl (fun _ => by kernel_rfl) ?_
    refine sq_q rfl h (g_ldr (b := blkN v) (offN v + n * 4 + 3) [.bool x3.2.2.2.2.2.1] (.bool x3.2.2.2.2.2.1) (by kernel_rfl) 2 rfl (rdRow rclC_len hx4 3 (by kernel_rfl))) ?_
    refine lnil ?_
    refine thn_n ?_
    refine c_cond (x3.2.2.2.2.2.1) (by kernel_rfl) (fun hc5 => ?_) (fun hc5 => ?_)
    · skip
      refine c_reg ?_
      refine sq_p (vo) rfl (fun _ => by kernel_rfl) ?_
      refine sq_p (.pointer (some ⟨b, 0, none⟩)) rfl (fun _ => by kernel_rfl) ?_
      refine sq_p (.pointer (some ⟨b, 0, none⟩)) rfl (fun _ => by kernel_rfl) ?_
      refine sq_p (.pointer (some ⟨b, 0, none⟩)) rfl (fun _ => by kernel_rfl) ?_
      refine sq_q rfl h (g_ld 0 [v] (v) (by kernel_rfl) 1 rfl) ?_
      refine sq_p (.int .i64 (n : Int)) rfl (fun _ => by kernel_rfl) ?_
      refine sq_q rfl h (g_idx n (by kernel_rfl) hi2 2 rfl) ?_
      refine sq_p (.pointer (some ⟨blkN v, offN v + n * 4, none⟩)) rfl (fun _ => by kernel_rfl) ?_
      refine sq_q rfl h (g_ldr (b := blkN v) (offN v + n * 4) [.int .i64 x3.1] (.int .i64 x3.1) (by kernel_rfl) 2 rfl (rdRow0 rclC_len hx4 (by kernel_rfl))) ?_
      refine sq_new rfl (fun b => .slice (some ⟨b, 0, none⟩) 1 1) [.int .i64 x3.1] 3 (fun _ => by kernel_rfl) h ?_; intro k6 w h
      refine sq_app (b := k6) (o := 0) rfl 1 x3.1 (by kernel_rfl) h 1 rfl 0 rfl (rdCell 0 (by kernel_rfl)) (by (try simp only [List.length_append, List.length_cons, List.length_nil]); omega) ?_; intro v7 w h
      refine sq_p (v7) rfl (fun _ => by kernel_rfl) ?_
      refine lnil ?_
      refine blk_n (thn_n ?_)
      refine c_reg ?_
      refine sq_p (.int .i64 (n : Int)) rfl (fun _ => by kernel_rfl) ?_
      refine sq_q rfl h (g_eq (v := .int .i64 (IntKind.i64.wrap ((n : Int) + 1))) (v' := .int .i64 ((n + 1 : Nat) : Int)) (g_pure fun _ => by kernel_rfl) (wr (by omega))) ?_
      refine sq_p (.int .i64 ((n + 1 : Nat) : Int)) rfl (fun _ => by kernel_rfl) ?_
      refine lnil ?_
      refine loop_end (fun j => ⟨(n + 1), out ++ [x3.1], v7, j⟩) (show ((n + 1) ≤ l.length ∧ (out ++ [x3.1]) = lsIds (l.take (n + 1))) ∧ (l.length - (n + 1)) < (l.length - n) from ⟨⟨by omega, by rw [ho]; unfold lsIds; rw [take_snoc hx4, List.filter_append]; simp [hc5]⟩, by omega⟩) (by kernel_rfl) [1, 1, 1] (by kernel_rfl) h
    · skip
      refine c_skip ?_
      refine blk_n (thn_n ?_)
      refine c_reg ?_
      refine sq_p (.int .i64 (n : Int)) rfl (fun _ => by kernel_rfl) ?_
      refine sq_q rfl h (g_eq (v := .int .i64 (IntKind.i64.wrap ((n : Int) + 1))) (v' := .int .i64 ((n + 1 : Nat) : Int)) (g_pure fun _ => by kernel_rfl) (wr (by omega))) ?_
      refine sq_p (.int .i64 ((n + 1 : Nat) : Int)) rfl (fun _ => by kernel_rfl) ?_
      refine lnil ?_
      refine loop_end (fun j => ⟨(n + 1), out, vo, j⟩) (show ((n + 1) ≤ l.length ∧ out = lsIds (l.take (n + 1))) ∧ (l.length - (n + 1)) < (l.length - n) from ⟨⟨by omega, by rw [ho]; unfold lsIds; rw [take_snoc hx4, List.filter_append]; simp [hc5]⟩, by omega⟩) (by kernel_rfl) [0, 0, 0] (by kernel_rfl) h
  · skip
    have hc1 := of_decide_eq_false hc1
    refine c_exit ?_
    refine thn_e (rnd_e (blk_e (thn_n ?_)))
    refine c_seq ?_
    refine c_reg ?_
    refine sq_p (vo) rfl (fun _ => by kernel_rfl) ?_
    refine sq_p (vo) rfl (fun _ => by kernel_rfl) ?_
    refine lnil ?_
    refine thn_n ?_
    refine c_ret ?_
    refine ret_end [vo] [0, 0, 0] h (by kernel_rfl) (res_t (by kernel_rfl) res_n) ?_
    rw [ho, List.take_of_length_le (by omega)]
    exact ⟨_, rfl, rfl⟩
end Go.Proofs.YtofhnglgebllbaaDoor
