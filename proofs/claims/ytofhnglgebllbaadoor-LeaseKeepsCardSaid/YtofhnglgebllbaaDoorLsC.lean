/- lease: contracts by what is owned (printed by walk.py). -/
import Derived.Test.YtofhnglgebllbaaDoorLsB
import Derived.Test.YtofhnglgebllbaaDoorKept
namespace Go.Proofs.YtofhnglgebllbaaDoor
open Go.RowKit
set_option linter.unusedVariables false
set_option linter.unusedSimpArgs false
set_option linter.unnecessarySimpa false
set_option maxRecDepth 100000
set_option maxHeartbeats 1000000 in
theorem delI_spec (b mb : Nat) (l : List Ls) (last now : Int) (hk : LsOk l last now) (hb : last ≤ 1000) (hw : now ≤ 9000000000000000) (v : Value) (kb : Nat) (hl : l.length ≤ 1000) : Spec Tryd.prog 145 #[v, .func (.func 146) #[] #[.pointer (some ⟨kb, 0, none⟩)]] [rRows true v 3 1 idC (l.map fun e => e.1), rCell true kb [.pointer (some ⟨b, 0, none⟩)] 119, rCell true b [.map (some mb), .int .i64 last, .int .i64 now] 227, rMap true mb ik (l.map lsKV), rFam true 231 cliC (l.map lsF)] (fun u L => ∃ v', u = v' ∧ L = [rRows true v' 3 1 idC (lsIds l), rCell true kb [.pointer (some ⟨b, 0, none⟩)] 119, rCell true b [.map (some mb), .int .i64 last, .int .i64 now] 227, rMap true mb ik (l.map lsKV), rFam true 231 cliC (l.map lsF)]) := by
  have hlm : (l.map fun e => e.1).length = l.length := List.length_map _
  refine spec_of (#[v, .func (.func 146) #[] #[.pointer (some ⟨kb, 0, none⟩)], undef, undef, undef, undef, undef, undef, undef, undef, undef, undef, undef, undef, undef, undef, undef, undef, undef, undef, undef, undef, undef, undef, undef, undef, undef, undef, undef, undef, undef, undef, undef, undef, undef, undef, undef, undef, undef, undef, undef, undef]) Tryd.func145 rfl (by kernel_rfl) fun E w0 w h => ?_
  refine c_seq ?_
  refine c_reg ?_
  refine sq_p (.slice none 0 0) rfl (fun _ => by kernel_rfl) ?_
  refine lnil ?_
  refine thn_n ?_
  refine c_seq ?_
  refine c_reg ?_
  refine sq_p (v) rfl (fun _ => by kernel_rfl) ?_
  refine sq_p (.func (.func 146) #[] #[.pointer (some ⟨kb, 0, none⟩)]) rfl (fun _ => by kernel_rfl) ?_
  refine sq_call #[v, .func (.func 146) #[] #[.pointer (some ⟨kb, 0, none⟩)]] [0, 0, 0, 0, 0] rfl (idxI_spec b mb l last now hk hb hw v kb (by omega)) (fun _ => by kernel_rfl) h ?_; rintro v_ L_ w (⟨i1, e2, hj3, hc4, hb5, rfl, rfl⟩ | ⟨ha6, rfl, rfl⟩) h
  · skip
    have hil := (List.getElem?_eq_some_iff.1 hj3).1
    refine sq_p (.int .i64 (i1 : Int)) rfl (fun _ => by kernel_rfl) ?_
    refine lnil ?_
    refine thn_n ?_
    refine c_seq ?_
    refine c_seq ?_
    refine c_reg ?_
    refine sq_p (.int .i64 (i1 : Int)) rfl (fun _ => by kernel_rfl) ?_
    refine sq_p (.bool (decide ((i1 : Int) = (-1)))) rfl (fun _ => by kernel_rfl) ?_
    refine lnil ?_
    refine thn_n ?_
    refine c_cond (decide ((i1 : Int) = (-1))) (by kernel_rfl) (fun hc7 => ?_) (fun hc7 => ?_)
    · skip
      have hc7 := of_decide_eq_true hc7
      exfalso; omega
    · skip
      have hc7 := of_decide_eq_false hc7
      refine c_skip ?_
      refine thn_n ?_
      refine c_seq ?_
      refine c_seq ?_
      refine c_reg ?_
      refine sq_p (.int .i64 (i1 : Int)) rfl (fun _ => by kernel_rfl) ?_
      refine sq_q rfl h (g_eq (v := .int .i64 (IntKind.i64.wrap ((i1 : Int) + 1))) (v' := .int .i64 ((i1 + 1 : Nat) : Int)) (g_pure fun _ => by kernel_rfl) (wr (by omega))) ?_
      refine sq_p (.int .i64 ((i1 + 1 : Nat) : Int)) rfl (fun _ => by kernel_rfl) ?_
      refine lnil ?_
      refine thn_n ?_
      refine c_block ?_
      refine c_loop (X := Nat × Nat × List Int × (Nat → Value)) (fun ⟨ii, jj, cur, J0⟩ => ⟨#[v, .func (.func 146) #[] #[.pointer (some ⟨kb, 0, none⟩)], undef, undef, .slice none 0 0, .int .i64 (ii : Int), .int .i64 ((jj : Nat) : Int), J0 7, v, .func (.func 146) #[] #[.pointer (some ⟨kb, 0, none⟩)], .int .i64 (i1 : Int), .int .i64 (i1 : Int), .bool (decide ((i1 : Int) = (-1))), undef, .int .i64 (i1 : Int), .int .i64 ((i1 + 1 : Nat) : Int), J0 16, J0 17, J0 18, J0 19, J0 20, J0 21, J0 22, J0 23, J0 24, J0 25, J0 26, J0 27, J0 28, J0 29, J0 30, J0 31, J0 32, J0 33, J0 34, J0 35, undef, undef, undef, undef, undef, undef], []⟩)
        (fun ⟨ii, jj, cur, J0⟩ => [rRows true v 3 1 idC cur, rCell true kb [.pointer (some ⟨b, 0, none⟩)] 119, rCell true b [.map (some mb), .int .i64 last, .int .i64 now] 227, rMap true mb ik (l.map lsKV), rFam true 231 cliC (l.map lsF)]) (fun ⟨ii, jj, cur, J0⟩ => KeptL (cOf l) (l.map fun e => e.1) cur ii jj) (fun ⟨ii, jj, cur, J0⟩ => (l.map fun e => e.1).length - jj)
        ⟨i1, (i1 + 1), (l.map fun e => e.1), (fun n => (#[v, .func (.func 146) #[] #[.pointer (some ⟨kb, 0, none⟩)], undef, undef, .slice none 0 0, .int .i64 (i1 : Int), .int .i64 ((i1 + 1 : Nat) : Int), undef, v, .func (.func 146) #[] #[.pointer (some ⟨kb, 0, none⟩)], .int .i64 (i1 : Int), .int .i64 (i1 : Int), .bool (decide ((i1 : Int) = (-1))), undef, .int .i64 (i1 : Int), .int .i64 ((i1 + 1 : Nat) : Int), undef, undef, undef, undef, undef, undef, undef, undef, undef, undef, undef, undef, undef, undef, undef, undef, undef, undef, undef, undef, undef, undef, undef, undef, undef, undef] : Array Value).getD n undef)⟩ (KeptL.start (by rw [List.getElem?_map, hj3]; rfl) (by rw [cOf_mem hk.sorted (List.mem_of_getElem? hj3)]; exact hc4) (fun j2 y2 hj2 hy2 => by obtain ⟨x2, hx2, rfl⟩ := id_at hy2; rw [cOf_mem hk.sorted (List.mem_of_getElem? hx2)]; exact hb5 j2 x2 hj2 hx2)) (by kernel_rfl) [0, 0, 0, 0, 0] (by kernel_rfl) h ?_
      rintro ⟨ii, jj, cur, J0⟩ w hG h
      have hK : KeptL (cOf l) (l.map fun e => e.1) cur ii jj := hG
      have hk1 := hK.len
      have hk2 := hK.lt
      have hk3 := hK.le
      refine c_seq ?_
      refine c_seq ?_
      refine c_reg ?_
      refine sq_p (.int .i64 ((jj : Nat) : Int)) rfl (fun _ => by kernel_rfl) ?_
      refine sq_p (v) rfl (fun _ => by kernel_rfl) ?_
      refine sq_q rfl h (g_len (by kernel_rfl) 0 rfl) ?_
      refine sq_p (.bool (decide (((jj : Nat) : Int) < (cur.length : Int)))) rfl (fun _ => by kernel_rfl) ?_
      refine lnil ?_
      refine thn_n ?_
      refine c_cond (decide (((jj : Nat) : Int) < (cur.length : Int))) (by kernel_rfl) (fun hc8 => ?_) (fun hc8 => ?_)
      · skip
        have hc8 := of_decide_eq_true hc8
        refine c_skip ?_
        refine thn_n ?_
        refine c_seq ?_
        refine c_block ?_
        refine c_seq ?_
        refine c_reg ?_
        refine sq_p (v) rfl (fun _ => by kernel_rfl) ?_
        refine sq_p (.int .i64 ((jj : Nat) : Int)) rfl (fun _ => by kernel_rfl) ?_
        have hi9 : jj < cur.length := by omega
        obtain ⟨x10, hx11⟩ : ∃ x, cur[jj]? = some x := ⟨_, List.getElem?_eq_getElem hi9⟩
        obtain ⟨e12, hj13, rfl⟩ := id_at (hK.here.symm.trans hx11)
        have hqe12 := cOf_mem hk.sorted (List.mem_of_getElem? hj13)
        refine sq_q rfl h (g_idx jj (by kernel_rfl) hi9 0 rfl) ?_
        refine sq_q rfl h (g_ldr (b := blkN v) (offN v + jj * 1) [.int .i64 e12.1] (.int .i64 e12.1) (by kernel_rfl) 0 rfl (rdRow0 idC_len hx11 (by kernel_rfl))) ?_
        refine sq_p (.int .i64 e12.1) rfl (fun _ => by kernel_rfl) ?_
        refine lnil ?_
        refine thn_n ?_
        refine c_seq ?_
        refine c_reg ?_
        refine sq_p (.func (.func 146) #[] #[.pointer (some ⟨kb, 0, none⟩)]) rfl (fun _ => by kernel_rfl) ?_
        refine sq_p (.int .i64 e12.1) rfl (fun _ => by kernel_rfl) ?_
        refine sq_call #[.int .i64 e12.1, .pointer (some ⟨kb, 0, none⟩)] [1, 1, 1, 1] rfl (list1_spec b mb l last now hk hb hw kb jj e12 hj13) (fun _ => by kernel_rfl) h ?_; rintro v_ L_ w ⟨rfl, rfl⟩ h
        refine sq_p (.bool (!(!lsC e12))) rfl (fun _ => by kernel_rfl) ?_
        refine lnil ?_
        refine thn_n ?_
        refine c_cond (!(!lsC e12)) (by kernel_rfl) (fun hc14 => ?_) (fun hc14 => ?_)
        · skip
          have q15 : (!(lsC e12)) = false := by simpa using hc14
          have q16 : (lsC e12) = true := by simpa using q15
          have hT : cOf l e12.1 = true := by rw [hqe12]; revert hc14; cases lsC e12 <;> simp
          refine c_seq ?_
          refine c_reg ?_
          refine sq_p (v) rfl (fun _ => by kernel_rfl) ?_
          refine sq_p (.int .i64 (ii : Int)) rfl (fun _ => by kernel_rfl) ?_
          refine sq_p (.int .i64 e12.1) rfl (fun _ => by kernel_rfl) ?_
          have hi17 : ii < cur.length := by omega
          obtain ⟨x18, hx19⟩ : ∃ x, cur[ii]? = some x := ⟨_, List.getElem?_eq_getElem hi17⟩
          refine sq_q rfl h (g_idx ii (by kernel_rfl) hi17 4 rfl) ?_
          refine sq_str rfl (b := blkN v) (offN v + ii * 1) [.int .i64 e12.1] h 4 rfl (by kernel_rfl) (wrRow idC_len hx19 0 e12.1 (by kernel_rfl) (by kernel_rfl)) ?_; intro w h
          refine lnil ?_
          refine thn_n ?_
          refine c_reg ?_
          refine sq_p (.int .i64 (ii : Int)) rfl (fun _ => by kernel_rfl) ?_
          refine sq_q rfl h (g_eq (v := .int .i64 (IntKind.i64.wrap ((ii : Int) + 1))) (v' := .int .i64 ((ii + 1 : Nat) : Int)) (g_pure fun _ => by kernel_rfl) (wr (by omega))) ?_
          refine sq_p (.int .i64 ((ii + 1 : Nat) : Int)) rfl (fun _ => by kernel_rfl) ?_
          refine lnil ?_
          refine blk_n (thn_n ?_)
          refine c_reg ?_
          refine sq_p (.int .i64 ((jj : Nat) : Int)) rfl (fun _ => by kernel_rfl) ?_
          refine sq_q rfl h (g_eq (v := .int .i64 (IntKind.i64.wrap (((jj : Nat) : Int) + 1))) (v' := .int .i64 ((jj + 1 : Nat) : Int)) (g_pure fun _ => by kernel_rfl) (wr (by omega))) ?_
          refine sq_p (.int .i64 ((jj + 1 : Nat) : Int)) rfl (fun _ => by kernel_rfl) ?_
          refine lnil ?_
          refine loop_end (fun j => ⟨(ii + 1), (jj + 1), cur.set ii e12.1, j⟩) (show (KeptL (cOf l) (l.map fun e => e.1) (cur.set ii e12.1) (ii + 1) (jj + 1)) ∧ ((l.map fun e => e.1).length - (jj + 1)) < ((l.map fun e => e.1).length - jj) from ⟨hK.keep hx11 hT, by omega⟩) (by kernel_rfl) [4, 0, 0, 0, 0] (by kernel_rfl) h
        · skip
          have q20 : (!(lsC e12)) = true := by simpa using hc14
          have q21 : (lsC e12) = false := by simpa using q20
          have hT : cOf l e12.1 = false := by rw [hqe12]; revert hc14; cases lsC e12 <;> simp
          refine c_skip ?_
          refine blk_n (thn_n ?_)
          refine c_reg ?_
          refine sq_p (.int .i64 ((jj : Nat) : Int)) rfl (fun _ => by kernel_rfl) ?_
          refine sq_q rfl h (g_eq (v := .int .i64 (IntKind.i64.wrap (((jj : Nat) : Int) + 1))) (v' := .int .i64 ((jj + 1 : Nat) : Int)) (g_pure fun _ => by kernel_rfl) (wr (by omega))) ?_
          refine sq_p (.int .i64 ((jj + 1 : Nat) : Int)) rfl (fun _ => by kernel_rfl) ?_
          refine lnil ?_
          refine loop_end (fun j => ⟨ii, (jj + 1), cur, j⟩) (show (KeptL (cOf l) (l.map fun e => e.1) cur ii (jj + 1)) ∧ ((l.map fun e => e.1).length - (jj + 1)) < ((l.map fun e => e.1).length - jj) from ⟨hK.skip hx11 hT, by omega⟩) (by kernel_rfl) [4, 0, 0, 0, 0] (by kernel_rfl) h
      · skip
        have hc8 := of_decide_eq_false hc8
        refine c_exit ?_
        refine thn_e (rnd_e (blk_e (thn_n ?_)))
        refine c_seq ?_
        refine c_reg ?_
        refine sq_p (v) rfl (fun _ => by kernel_rfl) ?_
        refine sq_p (.int .i64 (ii : Int)) rfl (fun _ => by kernel_rfl) ?_
        refine sq_q rfl h (g_sub2 (v := v) (d := 3) (k := 1) (LV := (some (.int .i64 (ii : Int)))) (HV := none) ii cur.length (by kernel_rfl) (bnd rfl) rfl (by first | omega | (simp; omega)) (by first | omega | (simp; omega)) 0 rfl slRd_rows) ?_
        refine sq_clear (lo := ii) (hi := cur.length) (z := .int .i64 0) 0 rfl (by kernel_rfl) (fun _ => by kernel_rfl) (by kernel_rfl) idC_len (by kernel_rfl) (by kernel_rfl) (by first | omega | (simp; omega)) (by first | omega | (simp; omega)) h 0 rfl ?_; intro w h
        refine lnil ?_
        refine thn_n ?_
        refine c_seq ?_
        refine c_reg ?_
        refine sq_p (v) rfl (fun _ => by kernel_rfl) ?_
        refine sq_p (.int .i64 (ii : Int)) rfl (fun _ => by kernel_rfl) ?_
        refine sq_q rfl h (g_sub2 (v := v) (d := 3) (k := 1) (LV := none) (HV := (some (.int .i64 (ii : Int)))) 0 ii (by kernel_rfl) rfl (bnd rfl) (by first | omega | (simp; omega)) (by first | omega | (simp; omega)) 0 rfl slRd_rows) ?_
        refine sq_p (subV 1 v 0 ii) rfl (fun _ => by kernel_rfl) ?_
        refine lnil ?_
        refine thn_n ?_
        refine c_ret ?_
        have h := h.cut idC_len 0 rfl (m := ii) (by simp; omega)
        refine ret_end [subV 1 v 0 ii] [0, 0, 0, 0, 0] h (by kernel_rfl) (res_t (by kernel_rfl) res_n) ?_
        have hD := hK.done (by omega)
        rw [cOf_ids hk.sorted] at hD
        refine ⟨_, rfl, ?_⟩
        rw [List.take_append_of_le_length (by simp; omega), List.take_take, Nat.min_self, hD]
        rfl
  · skip
    refine sq_p (.int .i64 (-1)) rfl (fun _ => by kernel_rfl) ?_
    refine lnil ?_
    refine thn_n ?_
    refine c_seq ?_
    refine c_seq ?_
    refine c_reg ?_
    refine sq_p (.int .i64 (-1)) rfl (fun _ => by kernel_rfl) ?_
    refine sq_p (.bool true) rfl (fun _ => by kernel_rfl) ?_
    refine lnil ?_
    refine thn_n ?_
    refine c_true (by kernel_rfl) ?_
    refine c_seq ?_
    refine c_reg ?_
    refine sq_p (v) rfl (fun _ => by kernel_rfl) ?_
    refine sq_p (v) rfl (fun _ => by kernel_rfl) ?_
    refine lnil ?_
    refine thn_n ?_
    refine c_ret ?_
    refine thn_r ?_
    refine ret_end [v] [0, 0, 0, 0, 0] h (by kernel_rfl) (res_t (by kernel_rfl) res_n) ?_
    have hA : lsIds l = (l.map fun e => e.1) := by unfold lsIds; rw [List.filter_eq_self.2 (fun e he => by simpa using ha6 e he)]
    rw [hA]
    exact ⟨_, rfl, rfl⟩
set_option maxHeartbeats 1000000 in
theorem list_spec (b mb : Nat) (l : List Ls) (last now : Int) (hk : LsOk l last now) (hb : last ≤ 1000) (hw : now ≤ 9000000000000000)  : Spec Tryd.prog 81 #[.pointer (some ⟨b, 0, none⟩)] [rCell true b [.map (some mb), .int .i64 last, .int .i64 now] 227, rMap true mb ik (l.map lsKV), rFam true 231 cliC (l.map lsF)] (fun u L => ∃ v', u = v' ∧ L = [rRows true v' 3 1 idC (lsIds l), rCell true b [.map (some mb), .int .i64 last, .int .i64 now] 227, rMap true mb ik (l.map lsKV), rFam true 231 cliC (l.map lsF)]) := by
  refine spec_of (#[.pointer (some ⟨b, 0, none⟩), undef, undef, undef, undef, undef, undef, undef, undef, undef, undef, undef, undef]) Tryd.func81 rfl (by kernel_rfl) fun E w0 w h => ?_
  refine c_seq ?_
  refine c_reg ?_
  refine sq_new rfl (fun b => .pointer (some ⟨b, 0, none⟩)) [.pointer (some ⟨b, 0, none⟩)] 119 (fun _ => by kernel_rfl) h ?_; intro k1 w h
  refine sq_p (.slice none 0 0) rfl (fun _ => by kernel_rfl) ?_
  refine lnil ?_
  refine thn_n ?_
  refine c_seq ?_
  refine c_reg ?_
  refine sq_q rfl h (g_ld 0 [.pointer (some ⟨b, 0, none⟩)] (.pointer (some ⟨b, 0, none⟩)) (by kernel_rfl) 0 rfl) ?_
  refine sq_p (.pointer (some ⟨b, 0, none⟩)) rfl (fun _ => by kernel_rfl) ?_
  refine sq_p (.pointer (some ⟨b, 0, none⟩)) rfl (fun _ => by kernel_rfl) ?_
  refine sq_q rfl h (g_ld 0 [.map (some mb)] (.map (some mb)) (by kernel_rfl) 1 rfl) ?_
  refine sq_call #[.map (some mb)] [2] rfl (keysK_spec mb _) (fun _ => by kernel_rfl) h ?_; rintro v_ L_ w ⟨p2, rfl, rfl⟩ h
  refine sq_call #[.func (.func 189) #[] #[.pointer (some ⟨p2, 0, none⟩)]] [0, 0] rfl (sortedK_spec mb p2 l hk.sorted (fun e he => by have := hk.ids e he; omega) (by have := hk.few; omega)) (fun _ => by kernel_rfl) h ?_; rintro v3 L_ w ⟨_, rfl, rfl⟩ h
  refine sq_p (v3) rfl (fun _ => by kernel_rfl) ?_
  refine lnil ?_
  refine thn_n ?_
  refine c_seq ?_
  refine c_reg ?_
  refine sq_p (v3) rfl (fun _ => by kernel_rfl) ?_
  refine sq_p (.func (.func 146) #[] #[.pointer (some ⟨k1, 0, none⟩)]) rfl (fun _ => by kernel_rfl) ?_
  refine sq_call #[v3, .func (.func 146) #[] #[.pointer (some ⟨k1, 0, none⟩)]] [0, 2, 2, 1, 1] rfl (delI_spec b mb l last now hk hb hw v3 k1 (by have := hk.few; omega)) (fun _ => by kernel_rfl) h ?_; rintro v4 L_ w ⟨_, rfl, rfl⟩ h
  refine sq_p (v4) rfl (fun _ => by kernel_rfl) ?_
  refine lnil ?_
  refine thn_n ?_
  refine c_ret ?_
  refine ret_end [v4] [0, 1, 1, 1] h (by kernel_rfl) (res_t (by kernel_rfl) res_n) ?_
  exact ⟨_, rfl, rfl⟩
set_option maxHeartbeats 1000000 in
theorem confY_spec {B : Nat} (ad : Nat → Addr) (b mb : Nat) (l : List Ls) (last now : Int) (hk : LsOk l last now) (hb : last ≤ 1000) (hw : now ≤ 9000000000000000) (i : Int) (j bk : Nat) (nm : ByteArray) (bt ky sn : Int) (hj : l[j]? = some (i, bk, nm, bt, ky, true, sn)) : Spec Tryd.prog 141 #[.pointer (some ⟨b, 0, none⟩), .int .i64 i] [rCell true b [.map (some mb), .int .i64 last, .int .i64 now] 227, rMap true mb ik (l.map lsKV), rFam true 231 cliC (l.map lsF), rEnv B ad [5]] (fun u L => u = .tuple #[.pointer (some ⟨bk, 0, none⟩), .nilIface] ∧ L = [rCell true b [.map (some mb), .int .i64 last, .int .i64 now] 227, rMap true mb ik (l.map lsKV), rFam true 231 cliC (l.map lsF), rEnv B ad [5]]) := by
  refine spec_of (#[.pointer (some ⟨b, 0, none⟩), .int .i64 i, undef, undef, undef, undef, undef, undef, undef, undef, undef, undef, undef, undef, undef, undef, undef, undef, undef, undef, undef, undef, undef, undef, undef, undef, undef, undef]) Tryd.func141 rfl (by kernel_rfl) fun E w0 w h => ?_
  have hx0 : (l.map lsF)[j]? = some (bk, nm, bt, ky, true, sn) := by rw [List.getElem?_map, hj]; rfl
  refine c_seq ?_
  refine c_reg ?_
  refine sq_p (.pointer none) rfl (fun _ => by kernel_rfl) ?_
  refine sq_p (.nilIface) rfl (fun _ => by kernel_rfl) ?_
  refine lnil ?_
  refine thn_n ?_
  refine c_seq ?_
  refine c_reg ?_
  refine sq_p (.pointer (some ⟨b, 0, none⟩)) rfl (fun _ => by kernel_rfl) ?_
  refine sq_p (.pointer (some ⟨b, 0, none⟩)) rfl (fun _ => by kernel_rfl) ?_
  refine sq_p (.pointer (some ⟨b, 0, none⟩)) rfl (fun _ => by kernel_rfl) ?_
  refine sq_q rfl h (g_ld 0 [.map (some mb)] (.map (some mb)) (by kernel_rfl) 0 rfl) ?_
  refine sq_p (.int .i64 i) rfl (fun _ => by kernel_rfl) ?_
  refine sq_q rfl h (g_eq (v' := .tuple #[.pointer (some ⟨bk, 0, none⟩), .bool true]) (g_look (K := 3) (E := 229) (z := (.pointer none)) (kv := (l.map lsKV)) (ok := true) (keyInt (by kernel_rfl)) i (by kernel_rfl) (fun _ => by kernel_rfl) 1 rfl) (by rw [show aget (l.map lsKV) i = _ from aget_some_ls hk.sorted (List.mem_of_getElem? hj)]; rfl)) ?_
  refine sq_p (.tuple #[.pointer (some ⟨bk, 0, none⟩), .bool true]) rfl (fun _ => by kernel_rfl) ?_
  refine sq_p (.pointer (some ⟨bk, 0, none⟩)) rfl (fun _ => by kernel_rfl) ?_
  refine sq_p (.bool true) rfl (fun _ => by kernel_rfl) ?_
  refine sq_p (.pointer (some ⟨bk, 0, none⟩)) rfl (fun _ => by kernel_rfl) ?_
  refine sq_p (.bool true) rfl (fun _ => by kernel_rfl) ?_
  refine lnil ?_
  refine thn_n ?_
  refine c_seq ?_
  refine c_seq ?_
  refine c_reg ?_
  refine sq_p (.bool true) rfl (fun _ => by kernel_rfl) ?_
  refine sq_p (.bool false) rfl (fun _ => by kernel_rfl) ?_
  refine sq_p (.bool false) rfl (fun _ => by kernel_rfl) ?_
  refine sq_p (.pointer (some ⟨bk, 0, none⟩)) (by kernel_rfl) (fun _ => by kernel_rfl) ?_
  refine sq_p (.pointer (some ⟨bk, 0, none⟩)) (by kernel_rfl) (fun _ => by kernel_rfl) ?_
  refine sq_p (.pointer (some ⟨bk, 3, none⟩)) (by kernel_rfl) (fun _ => by kernel_rfl) ?_
  refine sq_q (by kernel_rfl) h (g_ldr (b := bk) 3 [.bool true] (.bool true) (by kernel_rfl) 2 rfl (rdFam hx0 3 (by kernel_rfl))) ?_
  refine sq_p (.bool false) (by kernel_rfl) (fun _ => by kernel_rfl) ?_
  refine sq_p (.bool false) rfl (fun _ => by kernel_rfl) ?_
  refine lnil ?_
  refine thn_n ?_
  refine c_false (by kernel_rfl) ?_
  refine c_skip ?_
  refine thn_n ?_
  refine c_seq ?_
  refine c_reg ?_
  refine sq_p (.pointer (some ⟨bk, 0, none⟩)) rfl (fun _ => by kernel_rfl) ?_
  refine sq_p (.pointer (some ⟨bk, 0, none⟩)) rfl (fun _ => by kernel_rfl) ?_
  refine sq_p (.nilIface) rfl (fun _ => by kernel_rfl) ?_
  refine lnil ?_
  refine thn_n ?_
  refine c_ret ?_
  refine ret_end [.pointer (some ⟨bk, 0, none⟩), .nilIface] [0, 0, 0, 0] h (by kernel_rfl) (res_t (by kernel_rfl) (res_t (by kernel_rfl) res_n)) ?_
  exact ⟨rfl, rfl⟩
set_option maxHeartbeats 1000000 in
theorem confF_spec {B : Nat} (ad : Nat → Addr) (b mb : Nat) (l : List Ls) (last now : Int) (hk : LsOk l last now) (hb : last ≤ 1000) (hw : now ≤ 9000000000000000) (i : Int) (j bk : Nat) (nm : ByteArray) (bt ky sn : Int) (hj : l[j]? = some (i, bk, nm, bt, ky, false, sn)) : Spec Tryd.prog 141 #[.pointer (some ⟨b, 0, none⟩), .int .i64 i] [rCell true b [.map (some mb), .int .i64 last, .int .i64 now] 227, rMap true mb ik (l.map lsKV), rFam true 231 cliC (l.map lsF), rEnv B ad [5]] (fun u L => u = .tuple #[.pointer none, errV ad 5] ∧ L = [rCell true b [.map (some mb), .int .i64 last, .int .i64 now] 227, rMap true mb ik (l.map lsKV), rFam true 231 cliC (l.map lsF), rEnv B ad [5]]) := by
  refine spec_of (#[.pointer (some ⟨b, 0, none⟩), .int .i64 i, undef, undef, undef, undef, undef, undef, undef, undef, undef, undef, undef, undef, undef, undef, undef, undef, undef, undef, undef, undef, undef, undef, undef, undef, undef, undef]) Tryd.func141 rfl (by kernel_rfl) fun E w0 w h => ?_
  have hx0 : (l.map lsF)[j]? = some (bk, nm, bt, ky, false, sn) := by rw [List.getElem?_map, hj]; rfl
  refine c_seq ?_
  refine c_reg ?_
  refine sq_p (.pointer none) rfl (fun _ => by kernel_rfl) ?_
  refine sq_p (.nilIface) rfl (fun _ => by kernel_rfl) ?_
  refine lnil ?_
  refine thn_n ?_
  refine c_seq ?_
  refine c_reg ?_
  refine sq_p (.pointer (some ⟨b, 0, none⟩)) rfl (fun _ => by kernel_rfl) ?_
  refine sq_p (.pointer (some ⟨b, 0, none⟩)) rfl (fun _ => by kernel_rfl) ?_
  refine sq_p (.pointer (some ⟨b, 0, none⟩)) rfl (fun _ => by kernel_rfl) ?_
  refine sq_q rfl h (g_ld 0 [.map (some mb)] (.map (some mb)) (by kernel_rfl) 0 rfl) ?_
  refine sq_p (.int .i64 i) rfl (fun _ => by kernel_rfl) ?_
  refine sq_q rfl h (g_eq (v' := .tuple #[.pointer (some ⟨bk, 0, none⟩), .bool true]) (g_look (K := 3) (E := 229) (z := (.pointer none)) (kv := (l.map lsKV)) (ok := true) (keyInt (by kernel_rfl)) i (by kernel_rfl) (fun _ => by kernel_rfl) 1 rfl) (by rw [show aget (l.map lsKV) i = _ from aget_some_ls hk.sorted (List.mem_of_getElem? hj)]; rfl)) ?_
  refine sq_p (.tuple #[.pointer (some ⟨bk, 0, none⟩), .bool true]) rfl (fun _ => by kernel_rfl) ?_
  refine sq_p (.pointer (some ⟨bk, 0, none⟩)) rfl (fun _ => by kernel_rfl) ?_
  refine sq_p (.bool true) rfl (fun _ => by kernel_rfl) ?_
  refine sq_p (.pointer (some ⟨bk, 0, none⟩)) rfl (fun _ => by kernel_rfl) ?_
  refine sq_p (.bool true) rfl (fun _ => by kernel_rfl) ?_
  refine lnil ?_
  refine thn_n ?_
  refine c_seq ?_
  refine c_seq ?_
  refine c_reg ?_
  refine sq_p (.bool true) rfl (fun _ => by kernel_rfl) ?_
  refine sq_p (.bool false) rfl (fun _ => by kernel_rfl) ?_
  refine sq_p (.bool false) rfl (fun _ => by kernel_rfl) ?_
  refine sq_p (.pointer (some ⟨bk, 0, none⟩)) (by kernel_rfl) (fun _ => by kernel_rfl) ?_
  refine sq_p (.pointer (some ⟨bk, 0, none⟩)) (by kernel_rfl) (fun _ => by kernel_rfl) ?_
  refine sq_p (.pointer (some ⟨bk, 3, none⟩)) (by kernel_rfl) (fun _ => by kernel_rfl) ?_
  refine sq_q (by kernel_rfl) h (g_ldr (b := bk) 3 [.bool false] (.bool false) (by kernel_rfl) 2 rfl (rdFam hx0 3 (by kernel_rfl))) ?_
  refine sq_p (.bool true) (by kernel_rfl) (fun _ => by kernel_rfl) ?_
  refine sq_p (.bool true) rfl (fun _ => by kernel_rfl) ?_
  refine lnil ?_
  refine thn_n ?_
  refine c_true (by kernel_rfl) ?_
  refine c_seq ?_
  refine d_start 3 [3] (by kernel_rfl) h fun w h => ?_
  refine d_take 0 2 [3] rfl (v := errV ad 5) (by kernel_rfl) (qp_thn (qp_thn qp_body)) (yq (by kernel_rfl) (g_ldr (b := gl 5) 0 [errV ad 5] (errV ad 5) (by kernel_rfl) 0 rfl (rdEnv (c := 5) (by decide) rfl))) h (by kernel_rfl) ?_
  refine d_take 1 1 [3] rfl (v := .pointer none) (by kernel_rfl) (qp_thn (qp_thn qp_body)) (yq (by kernel_rfl) (g_pure (v := .pointer none) fun _ => by kernel_rfl)) h (by kernel_rfl) ?_
  refine d_take 2 3 [3] rfl (v := errV ad 5) (by kernel_rfl) (qp_thn (qp_thn qp_body)) (yq (by kernel_rfl) (g_pure (v := errV ad 5) fun _ => by kernel_rfl)) h (by kernel_rfl) ?_
  refine d_done (by kernel_rfl) ?_
  refine thn_n ?_
  refine c_ret ?_
  refine thn_r ?_
  refine ret_end [.pointer none, errV ad 5] [0, 0, 0, 0] h (by kernel_rfl) (res_t (by kernel_rfl) (res_t (by kernel_rfl) res_n)) ?_
  exact ⟨rfl, rfl⟩
set_option maxHeartbeats 1000000 in
theorem confN_spec {B : Nat} (ad : Nat → Addr) (b mb : Nat) (l : List Ls) (last now : Int) (hk : LsOk l last now) (hb : last ≤ 1000) (hw : now ≤ 9000000000000000) (i : Int) (hn : ∀ e ∈ l, e.1 ≠ i) : Spec Tryd.prog 141 #[.pointer (some ⟨b, 0, none⟩), .int .i64 i] [rCell true b [.map (some mb), .int .i64 last, .int .i64 now] 227, rMap true mb ik (l.map lsKV), rFam true 231 cliC (l.map lsF), rEnv B ad [5]] (fun u L => u = .tuple #[.pointer none, errV ad 5] ∧ L = [rCell true b [.map (some mb), .int .i64 last, .int .i64 now] 227, rMap true mb ik (l.map lsKV), rFam true 231 cliC (l.map lsF), rEnv B ad [5]]) := by
  refine spec_of (#[.pointer (some ⟨b, 0, none⟩), .int .i64 i, undef, undef, undef, undef, undef, undef, undef, undef, undef, undef, undef, undef, undef, undef, undef, undef, undef, undef, undef, undef, undef, undef, undef, undef, undef, undef]) Tryd.func141 rfl (by kernel_rfl) fun E w0 w h => ?_
  refine c_seq ?_
  refine c_reg ?_
  refine sq_p (.pointer none) rfl (fun _ => by kernel_rfl) ?_
  refine sq_p (.nilIface) rfl (fun _ => by kernel_rfl) ?_
  refine lnil ?_
  refine thn_n ?_
  refine c_seq ?_
  refine c_reg ?_
  refine sq_p (.pointer (some ⟨b, 0, none⟩)) rfl (fun _ => by kernel_rfl) ?_
  refine sq_p (.pointer (some ⟨b, 0, none⟩)) rfl (fun _ => by kernel_rfl) ?_
  refine sq_p (.pointer (some ⟨b, 0, none⟩)) rfl (fun _ => by kernel_rfl) ?_
  refine sq_q rfl h (g_ld 0 [.map (some mb)] (.map (some mb)) (by kernel_rfl) 0 rfl) ?_
  refine sq_p (.int .i64 i) rfl (fun _ => by kernel_rfl) ?_
  refine sq_q rfl h (g_eq (v' := .tuple #[.pointer none, .bool false]) (g_look (K := 3) (E := 229) (z := (.pointer none)) (kv := (l.map lsKV)) (ok := true) (keyInt (by kernel_rfl)) i (by kernel_rfl) (fun _ => by kernel_rfl) 1 rfl) (by rw [aget_none_ls hn]; rfl)) ?_
  refine sq_p (.tuple #[.pointer none, .bool false]) rfl (fun _ => by kernel_rfl) ?_
  refine sq_p (.pointer none) rfl (fun _ => by kernel_rfl) ?_
  refine sq_p (.bool false) rfl (fun _ => by kernel_rfl) ?_
  refine sq_p (.pointer none) rfl (fun _ => by kernel_rfl) ?_
  refine sq_p (.bool false) rfl (fun _ => by kernel_rfl) ?_
  refine lnil ?_
  refine thn_n ?_
  refine c_seq ?_
  refine c_seq ?_
  refine c_reg ?_
  refine sq_p (.bool false) rfl (fun _ => by kernel_rfl) ?_
  refine sq_p (.bool true) rfl (fun _ => by kernel_rfl) ?_
  refine sq_p (.bool true) rfl (fun _ => by kernel_rfl) ?_
  refine sn (by kernel_rfl) ?_
  refine sn (by kernel_rfl) ?_
  refine sn (by kernel_rfl) ?_
  refine sn (by kernel_rfl) ?_
  refine sn (by kernel_rfl) ?_
  refine sq_p (.bool true) rfl (fun _ => by kernel_rfl) ?_
  refine lnil ?_
  refine thn_n ?_
  refine c_true (by kernel_rfl) ?_
  refine c_seq ?_
  refine d_start 3 [3] (by kernel_rfl) h fun w h => ?_
  refine d_take 0 2 [3] rfl (v := errV ad 5) (by kernel_rfl) (qp_thn (qp_thn qp_body)) (yq (by kernel_rfl) (g_ldr (b := gl 5) 0 [errV ad 5] (errV ad 5) (by kernel_rfl) 0 rfl (rdEnv (c := 5) (by decide) rfl))) h (by kernel_rfl) ?_
  refine d_take 1 1 [3] rfl (v := .pointer none) (by kernel_rfl) (qp_thn (qp_thn qp_body)) (yq (by kernel_rfl) (g_pure (v := .pointer none) fun _ => by kernel_rfl)) h (by kernel_rfl) ?_
  refine d_take 2 3 [3] rfl (v := errV ad 5) (by kernel_rfl) (qp_thn (qp_thn qp_body)) (yq (by kernel_rfl) (g_pure (v := errV ad 5) fun _ => by kernel_rfl)) h (by kernel_rfl) ?_
  refine d_done (by kernel_rfl) ?_
  refine thn_n ?_
  refine c_ret ?_
  refine thn_r ?_
  refine ret_end [.pointer none, errV ad 5] [0, 0, 0, 0] h (by kernel_rfl) (res_t (by kernel_rfl) (res_t (by kernel_rfl) res_n)) ?_
  exact ⟨rfl, rfl⟩

theorem confirmed_spec {B : Nat} (ad : Nat → Addr) (b mb : Nat) (l : List Ls) (last now : Int) (hk : LsOk l last now) (hb : last ≤ 1000) (hw : now ≤ 9000000000000000)  (i : Int) : Spec Tryd.prog 141 #[.pointer (some ⟨b, 0, none⟩), .int .i64 i] [rCell true b [.map (some mb), .int .i64 last, .int .i64 now] 227, rMap true mb ik (l.map lsKV), rFam true 231 cliC (l.map lsF), rEnv B ad [5]] fun u L => (∃ (j bk : Nat) (nm : ByteArray) (bt ky sn : Int), l[j]? = some (i, bk, nm, bt, ky, true, sn) ∧ u = .tuple #[.pointer (some ⟨bk, 0, none⟩), .nilIface] ∧ L = [rCell true b [.map (some mb), .int .i64 last, .int .i64 now] 227, rMap true mb ik (l.map lsKV), rFam true 231 cliC (l.map lsF), rEnv B ad [5]]) ∨ ((∀ e ∈ l, ¬ (e.1 = i ∧ lsC e = true)) ∧ u = .tuple #[.pointer none, errV ad 5] ∧ L = [rCell true b [.map (some mb), .int .i64 last, .int .i64 now] 227, rMap true mb ik (l.map lsKV), rFam true 231 cliC (l.map lsF), rEnv B ad [5]]) := by
  by_cases h : ∃ e ∈ l, e.1 = i
  · obtain ⟨⟨i2, bk, nm, bt, ky, c, sn⟩, he, rfl⟩ := h
    obtain ⟨j, hj⟩ := List.getElem?_of_mem he
    cases c
    · have hno : ∀ e ∈ l, ¬ (e.1 = i2 ∧ lsC e = true) := fun x hx hh => by
        have := hk.eq hx he hh.1
        subst this
        exact absurd (show false = true from hh.2) (by decide)
      exact (confF_spec ad b mb l last now hk hb hw i2 j bk nm bt ky sn hj).mono fun u L ⟨h1, h2⟩ => .inr ⟨hno, h1, h2⟩
    · exact (confY_spec ad b mb l last now hk hb hw i2 j bk nm bt ky sn hj).mono fun u L ⟨h1, h2⟩ => .inl ⟨j, bk, nm, bt, ky, sn, hj, h1, h2⟩
  · exact (confN_spec ad b mb l last now hk hb hw i fun e he hh => h ⟨e, he, hh⟩).mono fun u L ⟨h1, h2⟩ => .inr ⟨fun x hx hh => h ⟨x, hx, hh.1⟩, h1, h2⟩

set_option maxHeartbeats 1000000 in
theorem renew_spec {B : Nat} (ad : Nat → Addr) (b mb : Nat) (l : List Ls) (last now : Int) (hk : LsOk l last now) (hb : last ≤ 1000) (hw : now ≤ 9000000000000000) (i : Int) : Spec Tryd.prog 74 #[.pointer (some ⟨b, 0, none⟩), .int .i64 i] [rCell true b [.map (some mb), .int .i64 last, .int .i64 now] 227, rMap true mb ik (l.map lsKV), rFam true 231 cliC (l.map lsF), rEnv B ad [5]] (fun u L => (∃ (j : Nat) (e : Ls), l[j]? = some e ∧ e.1 = i ∧ lsC e = true ∧ u = .nilIface ∧ L = [rCell true b [.map (some mb), .int .i64 last, .int .i64 now] 227, rMap true mb ik ((l.set j (lsSet e true now)).map lsKV), rFam true 231 cliC ((l.set j (lsSet e true now)).map lsF), rEnv B ad [5]]) ∨ ((∀ e ∈ l, ¬ (e.1 = i ∧ lsC e = true)) ∧ u = errV ad 5 ∧ L = [rCell true b [.map (some mb), .int .i64 last, .int .i64 now] 227, rMap true mb ik (l.map lsKV), rFam true 231 cliC (l.map lsF), rEnv B ad [5]])) := by
  refine spec_of (#[.pointer (some ⟨b, 0, none⟩), .int .i64 i, undef, undef, undef, undef, undef, undef, undef, undef, undef, undef, undef, undef, undef, undef, undef, undef, undef, undef, undef, undef, undef]) Tryd.func74 rfl (by kernel_rfl) fun E w0 w h => ?_
  refine c_seq ?_
  refine c_reg ?_
  refine sq_p (.nilIface) rfl (fun _ => by kernel_rfl) ?_
  refine lnil ?_
  refine thn_n ?_
  refine c_seq ?_
  refine c_reg ?_
  refine sq_p (.pointer (some ⟨b, 0, none⟩)) rfl (fun _ => by kernel_rfl) ?_
  refine sq_p (.int .i64 i) rfl (fun _ => by kernel_rfl) ?_
  refine sq_call #[.pointer (some ⟨b, 0, none⟩), .int .i64 i] [0, 0, 0, 0] rfl (confirmed_spec ad b mb l last now hk hb hw i) (fun _ => by kernel_rfl) h ?_; rintro v_ L_ w (⟨j1, bk2, nm3, bt4, ky5, sn6, hj7, rfl, rfl⟩ | ⟨hn8, rfl, rfl⟩) h
  · skip
    have hx9 : (l.map lsF)[j1]? = some (bk2, nm3, bt4, ky5, true, sn6) := by rw [List.getElem?_map, hj7]; rfl
    refine sq_p (.tuple #[.pointer (some ⟨bk2, 0, none⟩), .nilIface]) rfl (fun _ => by kernel_rfl) ?_
    refine sq_p (.pointer (some ⟨bk2, 0, none⟩)) rfl (fun _ => by kernel_rfl) ?_
    refine sq_p (.nilIface) rfl (fun _ => by kernel_rfl) ?_
    refine sq_p (.pointer (some ⟨bk2, 0, none⟩)) rfl (fun _ => by kernel_rfl) ?_
    refine sq_p (.nilIface) rfl (fun _ => by kernel_rfl) ?_
    refine lnil ?_
    refine thn_n ?_
    refine c_seq ?_
    refine c_seq ?_
    refine c_reg ?_
    refine sq_p (.nilIface) rfl (fun _ => by kernel_rfl) ?_
    refine sq_p (.bool true) rfl (fun _ => by kernel_rfl) ?_
    refine lnil ?_
    refine thn_n ?_
    refine c_true (by kernel_rfl) ?_
    refine c_reg ?_
    refine sq_p (.pointer (some ⟨bk2, 0, none⟩)) rfl (fun _ => by kernel_rfl) ?_
    refine sq_p (.pointer (some ⟨b, 0, none⟩)) rfl (fun _ => by kernel_rfl) ?_
    refine sq_p (.pointer (some ⟨b, 0, none⟩)) rfl (fun _ => by kernel_rfl) ?_
    refine sq_p (.pointer (some ⟨b, 2, none⟩)) rfl (fun _ => by kernel_rfl) ?_
    refine sq_q rfl h (g_ld 2 [.int .i64 now] (.int .i64 now) (by kernel_rfl) 0 rfl) ?_
    refine sq_p (.pointer (some ⟨bk2, 0, none⟩)) rfl (fun _ => by kernel_rfl) ?_
    refine sq_p (.pointer (some ⟨bk2, 4, none⟩)) rfl (fun _ => by kernel_rfl) ?_
    refine sq_str rfl (b := bk2) 4 [.int .i64 now] h 2 rfl (by kernel_rfl) (wrFam hx9 4 (nm3, bt4, ky5, true, now) (by kernel_rfl) (by kernel_rfl)) ?_; intro w h
    have hx10 := fam_set (x' := (bk2, (nm3, bt4, ky5, true, now))) hx9
    refine lnil ?_
    refine thn_n ?_
    refine c_seq ?_
    refine c_reg ?_
    refine sq_p (.nilIface) rfl (fun _ => by kernel_rfl) ?_
    refine sq_p (.nilIface) rfl (fun _ => by kernel_rfl) ?_
    refine lnil ?_
    refine thn_n ?_
    refine c_ret ?_
    refine ret_end [.nilIface] [0, 0, 0, 0] h (by kernel_rfl) (res_t (by kernel_rfl) res_n) ?_
    refine .inl ⟨j1, (i, bk2, nm3, bt4, ky5, true, sn6), hj7, rfl, rfl, rfl, ?_⟩
    rw [set_kv (e' := lsSet (i, bk2, nm3, bt4, ky5, true, sn6) true now) hj7 rfl rfl, ← set_F]
    rfl
  · skip
    refine sq_p (.tuple #[.pointer none, errV ad 5]) rfl (fun _ => by kernel_rfl) ?_
    refine sq_p (.pointer none) rfl (fun _ => by kernel_rfl) ?_
    refine sq_p (errV ad 5) rfl (fun _ => by kernel_rfl) ?_
    refine sq_p (.pointer none) rfl (fun _ => by kernel_rfl) ?_
    refine sq_p (errV ad 5) rfl (fun _ => by kernel_rfl) ?_
    refine lnil ?_
    refine thn_n ?_
    refine c_seq ?_
    refine c_seq ?_
    refine c_reg ?_
    refine sq_p (errV ad 5) rfl (fun _ => by kernel_rfl) ?_
    refine sq_p (.bool false) rfl (fun _ => by kernel_rfl) ?_
    refine lnil ?_
    refine thn_n ?_
    refine c_false (by kernel_rfl) ?_
    refine c_skip ?_
    refine thn_n ?_
    refine c_seq ?_
    refine c_reg ?_
    refine sq_p (errV ad 5) rfl (fun _ => by kernel_rfl) ?_
    refine sq_p (errV ad 5) rfl (fun _ => by kernel_rfl) ?_
    refine lnil ?_
    refine thn_n ?_
    refine c_ret ?_
    refine ret_end [errV ad 5] [0, 0, 0, 0] h (by kernel_rfl) (res_t (by kernel_rfl) res_n) ?_
    exact .inr ⟨hn8, rfl, rfl⟩
set_option maxHeartbeats 1000000 in
theorem name_spec {B : Nat} (ad : Nat → Addr) (b mb : Nat) (l : List Ls) (last now : Int) (hk : LsOk l last now) (hb : last ≤ 1000) (hw : now ≤ 9000000000000000) (i : Int) : Spec Tryd.prog 79 #[.pointer (some ⟨b, 0, none⟩), .int .i64 i] [rCell true b [.map (some mb), .int .i64 last, .int .i64 now] 227, rMap true mb ik (l.map lsKV), rFam true 231 cliC (l.map lsF), rEnv B ad [5]] (fun u L => (∃ (j : Nat) (e : Ls), l[j]? = some e ∧ e.1 = i ∧ lsC e = true ∧ u = .tuple #[.string (lsN e), .nilIface] ∧ L = [rCell true b [.map (some mb), .int .i64 last, .int .i64 now] 227, rMap true mb ik (l.map lsKV), rFam true 231 cliC (l.map lsF), rEnv B ad [5]]) ∨ ((∀ e ∈ l, ¬ (e.1 = i ∧ lsC e = true)) ∧ u = .tuple #[.string ⟨#[]⟩, errV ad 5] ∧ L = [rCell true b [.map (some mb), .int .i64 last, .int .i64 now] 227, rMap true mb ik (l.map lsKV), rFam true 231 cliC (l.map lsF), rEnv B ad [5]])) := by
  refine spec_of (#[.pointer (some ⟨b, 0, none⟩), .int .i64 i, undef, undef, undef, undef, undef, undef, undef, undef, undef, undef, undef, undef, undef, undef, undef, undef, undef, undef, undef]) Tryd.func79 rfl (by kernel_rfl) fun E w0 w h => ?_
  refine c_seq ?_
  refine c_reg ?_
  refine sq_p (.string (⟨#[]⟩ : ByteArray)) rfl (fun _ => by kernel_rfl) ?_
  refine sq_p (.nilIface) rfl (fun _ => by kernel_rfl) ?_
  refine lnil ?_
  refine thn_n ?_
  refine c_seq ?_
  refine c_reg ?_
  refine sq_p (.pointer (some ⟨b, 0, none⟩)) rfl (fun _ => by kernel_rfl) ?_
  refine sq_p (.int .i64 i) rfl (fun _ => by kernel_rfl) ?_
  refine sq_call #[.pointer (some ⟨b, 0, none⟩), .int .i64 i] [0, 0, 0, 0] rfl (confirmed_spec ad b mb l last now hk hb hw i) (fun _ => by kernel_rfl) h ?_; rintro v_ L_ w (⟨j1, bk2, nm3, bt4, ky5, sn6, hj7, rfl, rfl⟩ | ⟨hn8, rfl, rfl⟩) h
  · skip
    have hx9 : (l.map lsF)[j1]? = some (bk2, nm3, bt4, ky5, true, sn6) := by rw [List.getElem?_map, hj7]; rfl
    refine sq_p (.tuple #[.pointer (some ⟨bk2, 0, none⟩), .nilIface]) rfl (fun _ => by kernel_rfl) ?_
    refine sq_p (.pointer (some ⟨bk2, 0, none⟩)) rfl (fun _ => by kernel_rfl) ?_
    refine sq_p (.nilIface) rfl (fun _ => by kernel_rfl) ?_
    refine sq_p (.pointer (some ⟨bk2, 0, none⟩)) rfl (fun _ => by kernel_rfl) ?_
    refine sq_p (.nilIface) rfl (fun _ => by kernel_rfl) ?_
    refine lnil ?_
    refine thn_n ?_
    refine c_seq ?_
    refine c_seq ?_
    refine c_reg ?_
    refine sq_p (.nilIface) rfl (fun _ => by kernel_rfl) ?_
    refine sq_p (.bool false) rfl (fun _ => by kernel_rfl) ?_
    refine lnil ?_
    refine thn_n ?_
    refine c_false (by kernel_rfl) ?_
    refine c_skip ?_
    refine thn_n ?_
    refine c_seq ?_
    refine c_reg ?_
    refine sq_p (.pointer (some ⟨bk2, 0, none⟩)) rfl (fun _ => by kernel_rfl) ?_
    refine sq_p (.pointer (some ⟨bk2, 0, none⟩)) rfl (fun _ => by kernel_rfl) ?_
    refine sq_p (.pointer (some ⟨bk2, 0, none⟩)) rfl (fun _ => by kernel_rfl) ?_
    refine sq_q rfl h (g_ldr (b := bk2) 0 [.string nm3] (.string nm3) (by kernel_rfl) 2 rfl (rdFam hx9 0 (by kernel_rfl))) ?_
    refine sq_p (.string nm3) rfl (fun _ => by kernel_rfl) ?_
    refine sq_p (.nilIface) rfl (fun _ => by kernel_rfl) ?_
    refine lnil ?_
    refine thn_n ?_
    refine c_ret ?_
    refine ret_end [.string nm3, .nilIface] [0, 0, 0, 0] h (by kernel_rfl) (res_t (by kernel_rfl) (res_t (by kernel_rfl) res_n)) ?_
    exact .inl ⟨j1, (i, bk2, nm3, bt4, ky5, true, sn6), hj7, rfl, rfl, rfl, rfl⟩
  · skip
    refine sq_p (.tuple #[.pointer none, errV ad 5]) rfl (fun _ => by kernel_rfl) ?_
    refine sq_p (.pointer none) rfl (fun _ => by kernel_rfl) ?_
    refine sq_p (errV ad 5) rfl (fun _ => by kernel_rfl) ?_
    refine sq_p (.pointer none) rfl (fun _ => by kernel_rfl) ?_
    refine sq_p (errV ad 5) rfl (fun _ => by kernel_rfl) ?_
    refine lnil ?_
    refine thn_n ?_
    refine c_seq ?_
    refine c_seq ?_
    refine c_reg ?_
    refine sq_p (errV ad 5) rfl (fun _ => by kernel_rfl) ?_
    refine sq_p (.bool true) rfl (fun _ => by kernel_rfl) ?_
    refine lnil ?_
    refine thn_n ?_
    refine c_true (by kernel_rfl) ?_
    refine c_seq ?_
    refine c_reg ?_
    refine sq_p (errV ad 5) rfl (fun _ => by kernel_rfl) ?_
    refine sq_p (.string (⟨#[]⟩ : ByteArray)) rfl (fun _ => by kernel_rfl) ?_
    refine sq_p (errV ad 5) rfl (fun _ => by kernel_rfl) ?_
    refine lnil ?_
    refine thn_n ?_
    refine c_ret ?_
    refine thn_r ?_
    refine ret_end [.string (⟨#[]⟩ : ByteArray), errV ad 5] [0, 0, 0, 0] h (by kernel_rfl) (res_t (by kernel_rfl) (res_t (by kernel_rfl) res_n)) ?_
    exact .inr ⟨hn8, rfl, rfl⟩
end Go.Proofs.YtofhnglgebllbaaDoor
