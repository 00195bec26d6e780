/- lease: contracts by what is owned (printed by walk.py). -/
import Derived.Test.YtofhnglgebllbaaDoorLsA
import Derived.Test.YtofhnglgebllbaaDoorSortKI
import Derived.Test.YtofhnglgebllbaaDoorOp11
namespace Go.Proofs.YtofhnglgebllbaaDoor
open Go.RowKit
set_option linter.unusedVariables false
set_option linter.unusedSimpArgs false
set_option linter.unnecessarySimpa false
set_option maxRecDepth 100000

theorem keysK_spec (mb : Nat) (kv : List (Int × Value)) : Spec Tryd.prog 144 #[.map (some mb)] [rMap true mb ik kv] fun u L => ∃ k, u = .func (.func 189) #[] #[.pointer (some ⟨k, 0, none⟩)] ∧ L = [rCell true k [.map (some mb)] 225, rMap true mb ik kv] := fun E w0 w ho => by
  have hK := (callsIn_wide (n := 5)).1 (AnyZI.keys_in Tryd.keysK Fence.wide 5 trivial rfl (some mb) w)
  refine hK.mono ?_
  rintro e w' ⟨rfl, rfl⟩
  exact ⟨_, _, ⟨w.heap.size, rfl, rfl⟩, rfl, ho.push ((Chg.refl Nil w).alloc _) (block_alloc w _) (fun b hb => by have : b = w.heap.size := hb; omega)⟩
theorem sortedK_spec (mb kb : Nat) (l : List Ls) (hd : l.Pairwise (fun x y : Ls => x.1 < y.1)) (hr : ∀ e ∈ l, -9223372036854775808 ≤ e.1 ∧ e.1 ≤ 9223372036854775807) (hl : l.length ≤ 1000000) :
    Spec Tryd.prog 143 #[.func (.func 189) #[] #[.pointer (some ⟨kb, 0, none⟩)]] [rCell true kb [.map (some mb)] 225, rMap true mb ik (l.map lsKV)] fun u L => ∃ v', u = v' ∧ L = [rRows true v' 3 1 idC (l.map fun e => e.1), rCell true kb [.map (some mb)] 225, rMap true mb ik (l.map lsKV)] := fun E w0 w ho => by
  have hk : (l.map lsKV).map (·.1) = l.map fun e => e.1 := by rw [List.map_map]; rfl
  refine (sortedK_any (kv := l.map lsKV) mb kb w (ho.fact 1 rfl) (ho.fact 0 rfl) (by rw [List.length_map]; exact hl) (fun p hp => by
    obtain ⟨e, he, rfl⟩ := List.mem_map.1 hp
    exact hr e he)).mono ?_
  rintro e w' ⟨v, ss, rfl, hp, hrow, hb⟩
  rw [hk] at hp
  have hs : ss.mergeSort leI = l.map fun e => e.1 := by
    refine List.Perm.eq_of_pairwise (le := fun a b => leI a b = true) (fun a b _ _ h1 h2 => ?_) (List.pairwise_mergeSort (fun a b c h1 h2 => ?_) (fun a b => ?_) ss) ?_ ((List.mergeSort_perm ss leI).trans hp)
    · simp only [leI, decide_eq_true_eq] at h1 h2; exact Int.le_antisymm h1 h2
    · simp only [leI, decide_eq_true_eq] at *; exact Int.le_trans h1 h2
    · simp only [leI, Bool.or_eq_true, decide_eq_true_eq]; exact Int.le_total a b
    · rw [List.pairwise_map]; exact hd.imp fun {a b} h => by simp only [leI, decide_eq_true_eq]; omega
  have hlen : ss.length = (l.map fun e => e.1).length := hp.length_eq
  rw [hs, hlen] at hrow
  have hS : SliceAt w' v 3 1 (l.map fun e => e.1).length ((l.map fun e => e.1).flatMap idC) (fun x => w.heap.size ≤ x ∧ x < w'.heap.size) := by
    rw [idC_map]; exact SliceAt.of_owns hrow (fun x h1 h2 => ⟨h1, h2⟩)
  obtain ⟨s1, s2⟩ := hS.own
  have hc : Chg Nil w w' := Chg.of_below hb (fun x a b => by omega)
  exact ⟨_, _, ⟨v, rfl, rfl⟩, rfl, ho.push hc s1 fun b hb => (s2 b hb).1⟩
def cOf (l : List Ls) (z : Int) : Bool := match l.find? (fun e => decide (e.1 = z)) with | some e => lsC e | none => false
theorem cOf_mem {l : List Ls} (hd : l.Pairwise (fun x y : Ls => x.1 < y.1)) {e : Ls} (he : e ∈ l) : cOf l e.1 = lsC e := by
  unfold cOf
  cases hf : l.find? (fun x => decide (x.1 = e.1)) with
  | none => have := List.find?_eq_none.1 hf e he; simp at this
  | some x =>
    have h1 := List.mem_of_find?_eq_some hf
    have h2 := List.find?_some hf
    rw [ls_eq hd h1 he (by simpa using h2)]
theorem cOf_ids {l : List Ls} (hd : l.Pairwise (fun x y : Ls => x.1 < y.1)) : (l.map fun e => e.1).filter (cOf l) = lsIds l := by
  unfold lsIds
  rw [List.filter_map]
  congr 1
  refine List.filter_congr fun x hx => ?_
  exact cOf_mem hd hx
theorem id_at {l : List Ls} {i : Nat} {x : Int} (h : (l.map fun e => e.1)[i]? = some x) : ∃ e, l[i]? = some e ∧ e.1 = x := by
  rw [List.getElem?_map] at h
  cases hl : l[i]? with
  | none => rw [hl] at h; cases h
  | some e => rw [hl] at h; exact ⟨e, rfl, by simpa using h⟩

set_option maxHeartbeats 1000000 in
theorem list1_spec (b mb : Nat) (l : List Ls) (last now : Int) (hk : LsOk l last now) (hb : last ≤ 1000) (hw : now ≤ 9000000000000000) (kb j : Nat) (e : Ls) (hj : l[j]? = some e) : Spec Tryd.prog 146 #[.int .i64 e.1, .pointer (some ⟨kb, 0, none⟩)] [rCell true kb [.pointer (some ⟨b, 0, none⟩)] 119, rCell true b [.map (some mb), .int .i64 last, .int .i64 now] 227, rMap true mb ik (l.map lsKV), rFam true 231 cliC (l.map lsF)] (fun u L => u = .bool (!lsC e) ∧ L = [rCell true kb [.pointer (some ⟨b, 0, none⟩)] 119, rCell true b [.map (some mb), .int .i64 last, .int .i64 now] 227, rMap true mb ik (l.map lsKV), rFam true 231 cliC (l.map lsF)]) := by
  refine spec_of (#[.int .i64 e.1, .pointer (some ⟨kb, 0, none⟩), undef, undef, undef, undef, undef, undef, undef, undef, undef, undef, undef, undef]) Tryd.func146 rfl (by kernel_rfl) fun E w0 w h => ?_
  have hx1 : (l.map lsF)[j]? = some (e.2.1, e.2.2) := by rw [List.getElem?_map, hj]; rfl
  refine c_seq ?_
  refine c_reg ?_
  refine sq_p (.bool false) rfl (fun _ => by kernel_rfl) ?_
  refine lnil ?_
  refine thn_n ?_
  refine c_seq ?_
  refine c_reg ?_
  refine sq_q rfl h (g_ld 0 [.pointer (some ⟨b, 0, none⟩)] (.pointer (some ⟨b, 0, none⟩)) (by kernel_rfl) 0 rfl) ?_
  refine sq_p (.pointer (some ⟨b, 0, none⟩)) rfl (fun _ => by kernel_rfl) ?_
  refine sq_p (.pointer (some ⟨b, 0, none⟩)) rfl (fun _ => by kernel_rfl) ?_
  refine sq_q rfl h (g_ld 0 [.map (some mb)] (.map (some mb)) (by kernel_rfl) 1 rfl) ?_
  refine sq_p (.int .i64 e.1) rfl (fun _ => by kernel_rfl) ?_
  refine sq_q rfl h (g_eq (v' := .pointer (some ⟨e.2.1, 0, none⟩)) (g_look (K := 3) (E := 229) (z := (.pointer none)) (kv := (l.map lsKV)) (ok := false) (keyInt (by kernel_rfl)) e.1 (by kernel_rfl) (fun _ => by kernel_rfl) 2 rfl) (by rw [aget_some_ls hk.sorted (List.mem_of_getElem? hj)]; rfl)) ?_
  refine sq_p (.pointer (some ⟨e.2.1, 0, none⟩)) rfl (fun _ => by kernel_rfl) ?_
  refine sq_p (.pointer (some ⟨e.2.1, 3, none⟩)) rfl (fun _ => by kernel_rfl) ?_
  refine sq_q rfl h (g_ldr (b := e.2.1) 3 [.bool e.2.2.2.2.2.1] (.bool e.2.2.2.2.2.1) (by kernel_rfl) 3 rfl (rdFam hx1 3 (by kernel_rfl))) ?_
  refine sq_p (.bool (!e.2.2.2.2.2.1)) rfl (fun _ => by kernel_rfl) ?_
  refine sq_p (.bool (!e.2.2.2.2.2.1)) rfl (fun _ => by kernel_rfl) ?_
  refine lnil ?_
  refine thn_n ?_
  refine c_ret ?_
  refine ret_end [.bool (!e.2.2.2.2.2.1)] [0, 0, 0, 0] h (by kernel_rfl) (res_t (by kernel_rfl) res_n) ?_
  exact ⟨rfl, rfl⟩
set_option maxHeartbeats 1000000 in
theorem idxI_spec (b mb : Nat) (l : List Ls) (last now : Int) (hk : LsOk l last now) (hb : last ≤ 1000) (hw : now ≤ 9000000000000000) (v : Value) (kb : Nat) (hl : l.length ≤ 1000) : Spec Tryd.prog 190 #[v, .func (.func 146) #[] #[.pointer (some ⟨kb, 0, none⟩)]] [rRows true v 3 1 idC (l.map fun e => e.1), rCell true kb [.pointer (some ⟨b, 0, none⟩)] 119, rCell true b [.map (some mb), .int .i64 last, .int .i64 now] 227, rMap true mb ik (l.map lsKV), rFam true 231 cliC (l.map lsF)] (fun u L => (∃ (i : Nat) (e : Ls), l[i]? = some e ∧ lsC e = false ∧ (∀ j x, j < i → l[j]? = some x → lsC x = true) ∧ u = .int .i64 i ∧ L = [rRows true v 3 1 idC (l.map fun e => e.1), rCell true kb [.pointer (some ⟨b, 0, none⟩)] 119, rCell true b [.map (some mb), .int .i64 last, .int .i64 now] 227, rMap true mb ik (l.map lsKV), rFam true 231 cliC (l.map lsF)]) ∨ ((∀ e ∈ l, lsC e = true) ∧ u = .int .i64 (-1) ∧ L = [rRows true v 3 1 idC (l.map fun e => e.1), rCell true kb [.pointer (some ⟨b, 0, none⟩)] 119, rCell true b [.map (some mb), .int .i64 last, .int .i64 now] 227, rMap true mb ik (l.map lsKV), rFam true 231 cliC (l.map lsF)])) := by
  refine spec_of (#[v, .func (.func 146) #[] #[.pointer (some ⟨kb, 0, none⟩)], undef, undef, undef, undef, undef, undef, undef, undef, undef, undef, undef, undef, undef, undef, undef, undef, undef]) Tryd.func190 rfl (by kernel_rfl) fun E w0 w h => ?_
  refine c_seq ?_
  refine c_reg ?_
  refine sq_p (.int .i64 0) rfl (fun _ => by kernel_rfl) ?_
  refine lnil ?_
  refine thn_n ?_
  refine c_seq ?_
  refine c_seq ?_
  refine c_reg ?_
  refine sq_p (v) rfl (fun _ => by kernel_rfl) ?_
  refine sq_q rfl h (g_len (by kernel_rfl) 0 rfl) ?_
  refine sq_p (.int .i64 0) rfl (fun _ => by kernel_rfl) ?_
  refine lnil ?_
  refine thn_n ?_
  refine c_block ?_
  refine c_loop (X := Nat × (Nat → Value)) (fun ⟨i, J0⟩ => ⟨#[v, .func (.func 146) #[] #[.pointer (some ⟨kb, 0, none⟩)], undef, undef, J0 4, J0 5, v, .int .i64 ((l.map fun e => e.1).length : Int), .int .i64 (i : Int), J0 9, J0 10, J0 11, J0 12, J0 13, J0 14, J0 15, J0 16, J0 17, J0 18], []⟩)
    (fun ⟨i, J0⟩ => [rRows true v 3 1 idC (l.map fun e => e.1), rCell true kb [.pointer (some ⟨b, 0, none⟩)] 119, rCell true b [.map (some mb), .int .i64 last, .int .i64 now] 227, rMap true mb ik (l.map lsKV), rFam true 231 cliC (l.map lsF)]) (fun ⟨i, J0⟩ => i ≤ (l.map fun e => e.1).length ∧ ∀ j x, j < i → l[j]? = some x → lsC x = true) (fun ⟨i, J0⟩ => (l.map fun e => e.1).length - i)
    ⟨0, (fun n => (#[v, .func (.func 146) #[] #[.pointer (some ⟨kb, 0, none⟩)], undef, undef, .int .i64 0, undef, v, .int .i64 ((l.map fun e => e.1).length : Int), .int .i64 0, undef, undef, undef, undef, undef, undef, undef, undef, undef, undef] : Array Value).getD n undef)⟩ ⟨by omega, fun j x hj => by omega⟩ (by kernel_rfl) [0, 0, 0, 0, 0] (by kernel_rfl) h ?_
  rintro ⟨i, J0⟩ w hG h
  obtain ⟨hi0, hno⟩ : i ≤ (l.map fun e => e.1).length ∧ ∀ j x, j < i → l[j]? = some x → lsC x = true := hG
  have hlm : (l.map fun e => e.1).length = l.length := List.length_map _
  refine c_seq ?_
  refine c_reg ?_
  refine sq_p (.bool (decide ((i : Int) < ((l.map fun e => e.1).length : Int)))) rfl (fun _ => by kernel_rfl) ?_
  refine lnil ?_
  refine thn_n ?_
  refine c_seq ?_
  refine c_cond (decide ((i : Int) < ((l.map fun e => e.1).length : Int))) (by kernel_rfl) (fun hc1 => ?_) (fun hc1 => ?_)
  · skip
    have hc1 := of_decide_eq_true hc1
    refine c_skip ?_
    refine thn_n ?_
    refine c_seq ?_
    refine c_block ?_
    refine c_seq ?_
    refine c_reg ?_
    refine sq_p (.int .i64 (i : Int)) rfl (fun _ => by kernel_rfl) ?_
    refine sq_p (.int .i64 (i : Int)) rfl (fun _ => by kernel_rfl) ?_
    refine lnil ?_
    refine thn_n ?_
    refine c_seq ?_
    refine c_reg ?_
    refine sq_p (.func (.func 146) #[] #[.pointer (some ⟨kb, 0, none⟩)]) rfl (fun _ => by kernel_rfl) ?_
    refine sq_p (v) rfl (fun _ => by kernel_rfl) ?_
    refine sq_p (.int .i64 (i : Int)) rfl (fun _ => by kernel_rfl) ?_
    have hi2 : i < (l.map fun e => e.1).length := by omega
    obtain ⟨x3, hx4⟩ : ∃ x, (l.map fun e => e.1)[i]? = some x := ⟨_, List.getElem?_eq_getElem hi2⟩
    obtain ⟨e5, hj6, rfl⟩ := id_at hx4
    refine sq_q rfl h (g_idx i (by kernel_rfl) hi2 0 rfl) ?_
    refine sq_q rfl h (g_ldr (b := blkN v) (offN v + i * 1) [.int .i64 e5.1] (.int .i64 e5.1) (by kernel_rfl) 0 rfl (rdRow0 idC_len hx4 (by kernel_rfl))) ?_
    refine sq_call #[.int .i64 e5.1, .pointer (some ⟨kb, 0, none⟩)] [1, 1, 1, 1] rfl (list1_spec b mb l last now hk hb hw kb i e5 hj6) (fun _ => by kernel_rfl) h ?_; rintro v_ L_ w ⟨rfl, rfl⟩ h
    refine lnil ?_
    refine thn_n ?_
    refine c_cond (!lsC e5) (by kernel_rfl) (fun hc7 => ?_) (fun hc7 => ?_)
    · skip
      have q8 : (lsC e5) = false := by simpa using hc7
      have hT : lsC e5 = false := by revert hc7; cases lsC e5 <;> simp
      refine c_seq ?_
      refine c_reg ?_
      refine sq_p (.int .i64 (i : Int)) rfl (fun _ => by kernel_rfl) ?_
      refine sq_p (.int .i64 (i : Int)) rfl (fun _ => by kernel_rfl) ?_
      refine lnil ?_
      refine thn_n ?_
      refine c_ret ?_
      refine blk_r (thn_r (rnd_r (blk_r (thn_r ?_))))
      refine ret_end [.int .i64 (i : Int)] [4, 0, 0, 0, 0] h (by kernel_rfl) (res_t (by kernel_rfl) res_n) ?_
      exact .inl ⟨i, e5, hj6, hT, hno, rfl, rfl⟩
    · skip
      have q9 : (lsC e5) = true := by simpa using hc7
      have hT : lsC e5 = true := by revert hc7; cases lsC e5 <;> simp
      refine c_skip ?_
      refine blk_n (thn_n ?_)
      refine c_reg ?_
      refine sq_q rfl h (g_eq (v := .int .i64 (IntKind.i64.wrap ((i : Int) + 1))) (v' := .int .i64 ((i + 1 : Nat) : Int)) (g_pure fun _ => by kernel_rfl) (wr (by omega))) ?_
      refine sq_p (.int .i64 ((i + 1 : Nat) : Int)) rfl (fun _ => by kernel_rfl) ?_
      refine lnil ?_
      refine loop_end (fun j => ⟨(i + 1), j⟩) (show ((i + 1) ≤ (l.map fun e => e.1).length ∧ ∀ j x, j < (i + 1) → l[j]? = some x → lsC x = true) ∧ ((l.map fun e => e.1).length - (i + 1)) < ((l.map fun e => e.1).length - i) from ⟨⟨by omega, fun j2 x2 hj2 hx2 => by
          by_cases q : j2 = i
          · subst q; rw [hj6] at hx2; cases hx2; exact hT
          · exact hno j2 x2 (by omega) hx2⟩, by omega⟩) (by kernel_rfl) [4, 0, 0, 0, 0] (by kernel_rfl) h
  · skip
    have hc1 := of_decide_eq_false hc1
    refine c_exit ?_
    refine thn_e (rnd_e (blk_e (thn_n ?_)))
    refine c_seq ?_
    refine c_reg ?_
    refine sq_p (.int .i64 (-1)) rfl (fun _ => by kernel_rfl) ?_
    refine lnil ?_
    refine thn_n ?_
    refine c_ret ?_
    refine ret_end [.int .i64 (-1)] [0, 0, 0, 0, 0] h (by kernel_rfl) (res_t (by kernel_rfl) res_n) ?_
    exact .inr ⟨fun e he => by obtain ⟨i2, hi2⟩ := List.getElem?_of_mem he; exact hno i2 e (by have := (List.getElem?_eq_some_iff.1 hi2).1; simp at *; omega) hi2, rfl, rfl⟩
end Go.Proofs.YtofhnglgebllbaaDoor
