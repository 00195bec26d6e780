/- lease: contracts by what is owned (printed by walk.py). -/
import Derived.Test.YtofhnglgebllbaaDoorLeaseP2
import Derived.Test.YtofhnglgebllbaaDoorEnvAR
import Derived.Test.YtofhnglgebllbaaDoorEqs
namespace Go.Proofs.YtofhnglgebllbaaDoor
open Go.RowKit
set_option linter.unusedVariables false
set_option linter.unusedSimpArgs false
set_option linter.unnecessarySimpa false
set_option maxRecDepth 100000

theorem vis_step {l : List Ls} (hd : l.Pairwise (fun x y : Ls => x.1 < y.1)) {vis : Int → Bool} {e : Ls} (he : e ∈ l) {p : Ls → Prop} (hno : ∀ x ∈ l, vis x.1 = true → ¬ p x) (hp : ¬ p e) : ∀ x ∈ l, (vis x.1 || decide (x.1 = e.1)) = true → ¬ p x := fun x hx hv => by
  simp only [Bool.or_eq_true, decide_eq_true_eq] at hv
  rcases hv with hv | hv
  · exact hno x hx hv
  · rw [ls_eq hd hx he hv]; exact hp

set_option maxHeartbeats 1000000 in
theorem find_spec (b mb : Nat) (l : List Ls) (last now : Int) (hk : LsOk l last now) (hb : last ≤ 1000) (hw : now ≤ 9000000000000000) (nm : ByteArray) (c : Bool) : Spec Tryd.prog 138 #[.pointer (some ⟨b, 0, none⟩), .string nm, .bool c] [rCell true b [.map (some mb), .int .i64 last, .int .i64 now] 227, rMap true mb ik (l.map lsKV), rFam true 231 cliC (l.map lsF)] (fun u L => ∃ z, FindIs l nm c z ∧ u = .int .i64 z ∧ L = [rCell true b [.map (some mb), .int .i64 last, .int .i64 now] 227, rMap true mb ik (l.map lsKV), rFam true 231 cliC (l.map lsF)]) := by
  refine spec_of (#[.pointer (some ⟨b, 0, none⟩), .string nm, .bool c, undef, undef, undef, undef, undef, undef, undef, undef, undef, undef, undef, undef, undef, undef, undef, undef, undef, undef, undef, undef, undef, undef, undef, undef, undef, undef, undef, undef, undef, undef, undef]) Tryd.func138 rfl (by kernel_rfl) fun E w0 w h => ?_
  refine c_seq ?_
  refine c_reg ?_
  refine sq_p (.int .i64 0) rfl (fun _ => by kernel_rfl) ?_
  refine lnil ?_
  refine thn_n ?_
  refine c_seq ?_
  refine c_seq ?_
  refine c_reg ?_
  refine sq_p (.pointer (some ⟨b, 0, none⟩)) rfl (fun _ => by kernel_rfl) ?_
  refine sq_p (.pointer (some ⟨b, 0, none⟩)) rfl (fun _ => by kernel_rfl) ?_
  refine sq_p (.pointer (some ⟨b, 0, none⟩)) rfl (fun _ => by kernel_rfl) ?_
  refine sq_q rfl h (g_ld 0 [.map (some mb)] (.map (some mb)) (by kernel_rfl) 0 rfl) ?_
  refine sq_range rfl (K := 3) (E := 229) (by kernel_rfl) h 1 rfl ?_; intro r1 w h
  refine lnil ?_
  refine thn_n ?_
  refine c_block ?_
  refine c_loop (X := (Int → Bool) × (Nat → Value)) (fun ⟨vis, J0⟩ => ⟨#[.pointer (some ⟨b, 0, none⟩), .string nm, .bool c, undef, undef, undef, J0 6, J0 7, J0 8, .pointer (some ⟨b, 0, none⟩), .pointer (some ⟨b, 0, none⟩), .pointer (some ⟨b, 0, none⟩), .map (some mb), .pointer (some ⟨r1, 0, none⟩), J0 14, J0 15, J0 16, J0 17, J0 18, J0 19, J0 20, J0 21, J0 22, J0 23, J0 24, J0 25, J0 26, J0 27, J0 28, J0 29, J0 30, J0 31, J0 32, J0 33], []⟩)
    (fun ⟨vis, J0⟩ => [rCell true b [.map (some mb), .int .i64 last, .int .i64 now] 227, rIter mb r1 ik (l.map lsKV) vis, rFam true 231 cliC (l.map lsF)]) (fun ⟨vis, J0⟩ => ∀ e ∈ l, vis e.1 = true → ¬ (lsN e = nm ∧ lsC e = c)) (fun ⟨vis, J0⟩ => lefts vis (l.map lsKV))
    ⟨(fun _ => false), (fun n => (#[.pointer (some ⟨b, 0, none⟩), .string nm, .bool c, undef, undef, undef, .int .i64 0, undef, undef, .pointer (some ⟨b, 0, none⟩), .pointer (some ⟨b, 0, none⟩), .pointer (some ⟨b, 0, none⟩), .map (some mb), .pointer (some ⟨r1, 0, none⟩), undef, undef, undef, undef, undef, undef, undef, undef, undef, undef, undef, undef, undef, undef, undef, undef, undef, undef, undef, undef] : Array Value).getD n undef)⟩ (fun _ _ h => by cases h) (by kernel_rfl) [0, 0, 0] (by kernel_rfl) h ?_
  rintro ⟨vis, J0⟩ w hG h
  have hno : ∀ e ∈ l, vis e.1 = true → ¬ (lsN e = nm ∧ lsC e = c) := hG
  refine c_seq ?_
  refine c_reg ?_
  refine sq_next rfl (keyInt (P := Tryd.prog) (K := 3) (by kernel_rfl)).inj (by kernel_rfl) h 1 rfl ?_ ?_
  · skip
    intro hd2 h
    have h := h.iterEnd 1 rfl
    show LW _ _ _ _ _ _
    refine sq_p (.bool false) rfl (fun _ => by kernel_rfl) ?_
    refine lnil ?_
    refine thn_n ?_
    refine c_seq ?_
    refine c_false (by kernel_rfl) ?_
    refine c_exit ?_
    refine thn_e (rnd_e (blk_e (thn_n ?_)))
    refine c_seq ?_
    refine c_reg ?_
    refine sq_p (.int .i64 (-1)) rfl (fun _ => by kernel_rfl) ?_
    refine lnil ?_
    refine thn_n ?_
    refine c_ret ?_
    refine ret_end [.int .i64 (-1)] [0, 0, 0] h (by kernel_rfl) (res_t (by kernel_rfl) res_n) ?_
    exact ⟨_, .inr ⟨fun e he hh => hno e he (hd2 (lsKV e) (List.mem_map.2 ⟨e, he, rfl⟩)) hh, rfl⟩, rfl, rfl⟩
  · skip
    intro kk3 vv4 w hm5 hv6 h
    obtain ⟨e7, he8, hq9⟩ := List.mem_map.1 hm5
    obtain ⟨rfl, rfl⟩ : e7.1 = kk3 ∧ Value.pointer (some ⟨e7.2.1, 0, none⟩) = vv4 := Prod.mk.inj hq9
    obtain ⟨j10, hj11⟩ := List.getElem?_of_mem he8
    have hx12 : (l.map lsF)[j10]? = some (e7.2.1, e7.2.2) := by rw [List.getElem?_map, hj11]; rfl
    refine sq_p (.bool true) rfl (fun _ => by kernel_rfl) ?_
    refine lnil ?_
    refine thn_n ?_
    refine c_seq ?_
    refine c_true (by kernel_rfl) ?_
    refine c_skip ?_
    refine thn_n ?_
    refine c_block ?_
    refine c_seq ?_
    refine c_reg ?_
    refine sq_q (v := .tuple #[.int .i64 e7.1, .pointer (some ⟨e7.2.1, 0, none⟩)]) rfl h (g_entry (by kernel_rfl) 1 rfl) ?_
    have h := h.iterForget 1 rfl
    refine sq_p (.int .i64 e7.1) rfl (fun _ => by kernel_rfl) ?_
    refine sq_p (.pointer (some ⟨e7.2.1, 0, none⟩)) rfl (fun _ => by kernel_rfl) ?_
    refine sq_p (.int .i64 e7.1) rfl (fun _ => by kernel_rfl) ?_
    refine sq_p (.pointer (some ⟨e7.2.1, 0, none⟩)) rfl (fun _ => by kernel_rfl) ?_
    refine lnil ?_
    refine thn_n ?_
    refine c_seq ?_
    refine c_reg ?_
    refine sq_p (.pointer (some ⟨e7.2.1, 0, none⟩)) rfl (fun _ => by kernel_rfl) ?_
    refine sq_p (.pointer (some ⟨e7.2.1, 0, none⟩)) rfl (fun _ => by kernel_rfl) ?_
    refine sq_p (.pointer (some ⟨e7.2.1, 0, none⟩)) rfl (fun _ => by kernel_rfl) ?_
    refine sq_q rfl h (g_ldr (b := e7.2.1) 0 [.string e7.2.2.1] (.string e7.2.2.1) (by kernel_rfl) 2 rfl (rdFam hx12 0 (by kernel_rfl))) ?_
    refine sq_p (.string nm) rfl (fun _ => by kernel_rfl) ?_
    obtain ⟨b13, hb13⟩ : ∃ b_ : Bool, b_ = (decide (e7.2.2.1 = nm)) := ⟨_, rfl⟩
    refine sq_q (v := .bool b13) rfl h (by subst hb13; exact g_eq (v := .bool (e7.2.2.1.toList == nm.toList)) (v' := .bool (decide (e7.2.2.1 = nm))) (g_pure fun _ => by kernel_rfl) beqS) ?_
    refine sq_p (.bool b13) rfl (fun _ => by kernel_rfl) ?_
    refine sq_m1 (v := .pointer (some ⟨e7.2.1, 0, none⟩)) b13 (by cases b13 <;> kernel_rfl) h (fun hB => by subst hB; exact g_pure (v := .pointer (some ⟨e7.2.1, 0, none⟩)) fun _ => by kernel_rfl) ?_
    refine sq_m1 (v := .pointer (some ⟨e7.2.1, 0, none⟩)) b13 (by cases b13 <;> kernel_rfl) h (fun hB => by subst hB; exact g_pure (v := .pointer (some ⟨e7.2.1, 0, none⟩)) fun _ => by kernel_rfl) ?_
    refine sq_m1 (v := .pointer (some ⟨e7.2.1, 3, none⟩)) b13 (by cases b13 <;> kernel_rfl) h (fun hB => by subst hB; exact g_pure (v := .pointer (some ⟨e7.2.1, 3, none⟩)) fun _ => by kernel_rfl) ?_
    refine sq_m1 (v := .bool e7.2.2.2.2.2.1) b13 (by cases b13 <;> kernel_rfl) h (fun hB => by subst hB; exact g_ldr (b := e7.2.1) 3 [.bool e7.2.2.2.2.2.1] (.bool e7.2.2.2.2.2.1) (by kernel_rfl) 2 rfl (rdFam hx12 3 (by kernel_rfl))) ?_
    refine sq_m1 (v := .bool c) b13 (by cases b13 <;> kernel_rfl) h (fun hB => by subst hB; exact g_pure (v := .bool c) fun _ => by kernel_rfl) ?_
    obtain ⟨b14, hb14⟩ : ∃ b_ : Bool, b_ = (e7.2.2.2.2.2.1 == c) := ⟨_, rfl⟩
    refine sq_m1 (v := .bool b14) b13 (by cases b13 <;> kernel_rfl) h (fun hB => by subst hB; exact by subst hb14; exact g_pure (v := .bool (e7.2.2.2.2.2.1 == c)) fun _ => by kernel_rfl) ?_
    obtain ⟨b15, hb15⟩ : ∃ b_ : Bool, b_ = (b13 && b14) := ⟨_, rfl⟩
    refine sq_q (v := .bool b15) rfl h (by subst hb15; exact g_pure (v := .bool (b13 && b14)) fun _ => by cases b13 <;> kernel_rfl) ?_
    refine lnil ?_
    refine thn_n ?_
    refine c_cond (b15) (by kernel_rfl) (fun hc16 => ?_) (fun hc16 => ?_)
    · skip
      have q17 : (b13 && b14) = true := by rw [← hb15]; exact hc16
      have q18 : b13 = true := by revert q17; cases b13 <;> simp
      have q19 : b14 = true := by revert q17; cases b13 <;> cases b14 <;> simp
      have q20 : (decide (e7.2.2.1 = nm)) = true := by rw [← hb13]; exact q18
      have q20 := of_decide_eq_true q20
      have q21 : (e7.2.2.2.2.2.1 == c) = true := by rw [← hb14]; exact q19
      have q21 := eq_of_beq q21
      refine c_seq ?_
      refine c_reg ?_
      refine sq_p (.int .i64 e7.1) rfl (fun _ => by kernel_rfl) ?_
      refine sq_p (.int .i64 e7.1) rfl (fun _ => by kernel_rfl) ?_
      refine lnil ?_
      refine thn_n ?_
      refine c_ret ?_
      refine blk_r (rnd_r (blk_r (thn_r ?_)))
      have h := h.iterEnd 1 rfl
      refine ret_end [.int .i64 e7.1] [0, 0, 0] h (by kernel_rfl) (res_t (by kernel_rfl) res_n) ?_
      exact ⟨_, .inl ⟨e7, he8, by assumption, by assumption, rfl⟩, rfl, rfl⟩
    · skip
      have q22 : (b13 && b14) = false := by rw [← hb15]; exact hc16
      have hT : ¬ (lsN e7 = nm ∧ lsC e7 = c) := fun hh => by revert hc16; subst hb15; subst hb14; subst hb13; simp [hh.1, hh.2]
      refine c_skip ?_
      refine blk_n ?_
      refine loop_end (fun j => ⟨(fun x => vis x || decide (x = e7.1)), j⟩) (show (∀ e ∈ l, (fun x => vis x || decide (x = e7.1)) e.1 = true → ¬ (lsN e = nm ∧ lsC e = c)) ∧ (lefts (fun x => vis x || decide (x = e7.1)) (l.map lsKV)) < (lefts vis (l.map lsKV)) from ⟨vis_step hk.sorted he8 (p := fun e => lsN e = nm ∧ lsC e = c) hno hT, lefts_lt hm5 hv6⟩) (by kernel_rfl) [0, 0, 0] (by kernel_rfl) h

theorem aput_keys {α β : Type} [DecidableEq α] {k : α} {v : β} : ∀ {kv : List (α × β)}, (kv.map (·.1)).Nodup → ((aput kv k v).map (·.1)).Nodup ∧ ∀ s, s ∈ (aput kv k v).map (·.1) ↔ s ∈ kv.map (·.1) ∨ s = k
  | [], _ => ⟨by simp [aput], fun s => by simp [aput]⟩
  | p :: r, h => by
    obtain ⟨h1, h2⟩ := List.nodup_cons.1 (show (p.1 :: r.map (·.1)).Nodup from h)
    by_cases e : k = p.1
    · have : aput (p :: r) k v = (p.1, v) :: r := if_pos e
      rw [this]
      refine ⟨h, fun s => ?_⟩
      simp only [List.map_cons, List.mem_cons]
      constructor
      · exact fun q => .inl q
      · rintro (q | q)
        · exact q
        · exact .inl (q.trans e)
    · have : aput (p :: r) k v = p :: aput r k v := if_neg e
      rw [this]
      obtain ⟨i1, i2⟩ := aput_keys (v := v) (k := k) h2
      refine ⟨List.nodup_cons.2 ⟨fun q => ?_, i1⟩, fun s => ?_⟩
      · rcases (i2 _).1 q with q | q
        · exact h1 q
        · exact e q.symm
      · simp only [List.map_cons, List.mem_cons, i2]
        constructor
        · rintro (q | q | q)
          · exact .inl (.inl q)
          · exact .inl (.inr q)
          · exact .inr q
        · rintro ((q | q) | q)
          · exact .inl q
          · exact .inr (.inl q)
          · exact .inr (.inr q)
structure KnownAt (l : List Ls) (vis : Int → Bool) (ks : List (ByteArray × Value)) : Prop where
  nodup : (ks.map (·.1)).Nodup
  mem : ∀ s, s ∈ ks.map (·.1) ↔ ∃ e ∈ l, vis e.1 = true ∧ lsN e = s
theorem KnownAt.step {l : List Ls} (hd : l.Pairwise (fun x y : Ls => x.1 < y.1)) {vis : Int → Bool} {ks : List (ByteArray × Value)} (h : KnownAt l vis ks) {e : Ls} (he : e ∈ l) {v : Value} : KnownAt l (fun x => vis x || decide (x = e.1)) (aput ks (lsN e) v) := by
  obtain ⟨i1, i2⟩ := aput_keys (v := v) (k := lsN e) h.nodup
  refine ⟨i1, fun s => ?_⟩
  rw [i2, h.mem]
  constructor
  · rintro (⟨x, hx, hv, hn⟩ | rfl)
    · exact ⟨x, hx, by simp [hv], hn⟩
    · exact ⟨e, he, by simp, rfl⟩
  · rintro ⟨x, hx, hv, hn⟩
    simp only [Bool.or_eq_true, decide_eq_true_eq] at hv
    rcases hv with hv | hv
    · exact .inl ⟨x, hx, hv, hn⟩
    · rw [ls_eq hd hx he hv] at hn; exact .inr hn.symm
theorem KnownAt.names {l : List Ls} {vis : Int → Bool} {ks : List (ByteArray × Value)} (h : KnownAt l vis ks) (hv : ∀ p ∈ l.map lsKV, vis p.1 = true) : Names l (ks.map (·.1)) :=
  ⟨h.nodup, fun s => by rw [h.mem]; exact ⟨fun ⟨e, he, _, hn⟩ => ⟨e, he, hn⟩, fun ⟨e, he, hn⟩ => ⟨e, he, hv (lsKV e) (List.mem_map.2 ⟨e, he, rfl⟩), hn⟩⟩⟩

set_option maxHeartbeats 1000000 in
theorem known_spec (b mb : Nat) (l : List Ls) (last now : Int) (hk : LsOk l last now) (hb : last ≤ 1000) (hw : now ≤ 9000000000000000)  : Spec Tryd.prog 139 #[.pointer (some ⟨b, 0, none⟩)] [rCell true b [.map (some mb), .int .i64 last, .int .i64 now] 227, rMap true mb ik (l.map lsKV), rFam true 231 cliC (l.map lsF)] (fun u L => ∃ ks : List ByteArray, Names l ks ∧ u = .int .i64 (ks.length : Int) ∧ L = [rCell true b [.map (some mb), .int .i64 last, .int .i64 now] 227, rMap true mb ik (l.map lsKV), rFam true 231 cliC (l.map lsF)]) := by
  refine spec_of (#[.pointer (some ⟨b, 0, none⟩), undef, undef, undef, undef, undef, undef, undef, undef, undef, undef, undef, undef, undef, undef, undef, undef, undef, undef, undef, undef, undef, undef]) Tryd.func139 rfl (by kernel_rfl) fun E w0 w h => ?_
  refine c_seq ?_
  refine c_reg ?_
  refine sq_p (.int .i64 0) rfl (fun _ => by kernel_rfl) ?_
  refine lnil ?_
  refine thn_n ?_
  refine c_seq ?_
  refine c_reg ?_
  refine sq_newm rfl sk (fun _ => by kernel_rfl) h ?_; intro k1 w h
  refine sq_p (.map (some k1)) rfl (fun _ => by kernel_rfl) ?_
  refine lnil ?_
  refine thn_n ?_
  refine c_seq ?_
  refine c_seq ?_
  refine c_reg ?_
  refine sq_p (.pointer (some ⟨b, 0, none⟩)) rfl (fun _ => by kernel_rfl) ?_
  refine sq_p (.pointer (some ⟨b, 0, none⟩)) rfl (fun _ => by kernel_rfl) ?_
  refine sq_p (.pointer (some ⟨b, 0, none⟩)) rfl (fun _ => by kernel_rfl) ?_
  refine sq_q rfl h (g_ld 0 [.map (some mb)] (.map (some mb)) (by kernel_rfl) 1 rfl) ?_
  refine sq_range rfl (K := 3) (E := 229) (by kernel_rfl) h 2 rfl ?_; intro r2 w h
  refine lnil ?_
  refine thn_n ?_
  refine c_block ?_
  refine c_loop (X := (Int → Bool) × List (ByteArray × Value) × (Nat → Value)) (fun ⟨vis, ks, J0⟩ => ⟨#[.pointer (some ⟨b, 0, none⟩), undef, .int .i64 0, .map (some k1), undef, J0 5, .map (some k1), .pointer (some ⟨b, 0, none⟩), .pointer (some ⟨b, 0, none⟩), .pointer (some ⟨b, 0, none⟩), .map (some mb), .pointer (some ⟨r2, 0, none⟩), J0 12, J0 13, J0 14, J0 15, J0 16, J0 17, J0 18, J0 19, J0 20, undef, undef], []⟩)
    (fun ⟨vis, ks, J0⟩ => [rMap true k1 sk ks, rCell true b [.map (some mb), .int .i64 last, .int .i64 now] 227, rIter mb r2 ik (l.map lsKV) vis, rFam true 231 cliC (l.map lsF)]) (fun ⟨vis, ks, J0⟩ => KnownAt l vis ks) (fun ⟨vis, ks, J0⟩ => lefts vis (l.map lsKV))
    ⟨(fun _ => false), [], (fun n => (#[.pointer (some ⟨b, 0, none⟩), undef, .int .i64 0, .map (some k1), undef, undef, .map (some k1), .pointer (some ⟨b, 0, none⟩), .pointer (some ⟨b, 0, none⟩), .pointer (some ⟨b, 0, none⟩), .map (some mb), .pointer (some ⟨r2, 0, none⟩), undef, undef, undef, undef, undef, undef, undef, undef, undef, undef, undef] : Array Value).getD n undef)⟩ ⟨by simp, fun s => by simp⟩ (by kernel_rfl) [0, 0, 0, 0] (by kernel_rfl) h ?_
  rintro ⟨vis, ks, J0⟩ w hG h
  have hka : KnownAt l vis ks := hG
  refine c_seq ?_
  refine c_reg ?_
  refine sq_next rfl (keyInt (P := Tryd.prog) (K := 3) (by kernel_rfl)).inj (by kernel_rfl) h 2 rfl ?_ ?_
  · skip
    intro hd3 h
    have h := h.iterEnd 2 rfl
    show LW _ _ _ _ _ _
    refine sq_p (.bool false) rfl (fun _ => by kernel_rfl) ?_
    refine lnil ?_
    refine thn_n ?_
    refine c_seq ?_
    refine c_false (by kernel_rfl) ?_
    refine c_exit ?_
    refine thn_e (rnd_e (blk_e (thn_n ?_)))
    refine c_seq ?_
    refine c_reg ?_
    refine sq_p (.map (some k1)) rfl (fun _ => by kernel_rfl) ?_
    refine sq_q rfl h (g_lenm (K := 9) (E := 4) (by kernel_rfl) 0 rfl) ?_
    refine sq_p (.int .i64 (ks.length : Int)) rfl (fun _ => by kernel_rfl) ?_
    refine lnil ?_
    refine thn_n ?_
    refine c_ret ?_
    refine ret_end [.int .i64 (ks.length : Int)] [1, 1, 1] h (by kernel_rfl) (res_t (by kernel_rfl) res_n) ?_
    exact ⟨ks.map (·.1), hka.names hd3, congrArg (fun n : Nat => Value.int .i64 (n : Int)) (List.length_map _).symm, rfl⟩
  · skip
    intro kk4 vv5 w hm6 hv7 h
    obtain ⟨e8, he9, hq10⟩ := List.mem_map.1 hm6
    obtain ⟨rfl, rfl⟩ : e8.1 = kk4 ∧ Value.pointer (some ⟨e8.2.1, 0, none⟩) = vv5 := Prod.mk.inj hq10
    obtain ⟨j11, hj12⟩ := List.getElem?_of_mem he9
    have hx13 : (l.map lsF)[j11]? = some (e8.2.1, e8.2.2) := by rw [List.getElem?_map, hj12]; rfl
    refine sq_p (.bool true) rfl (fun _ => by kernel_rfl) ?_
    refine lnil ?_
    refine thn_n ?_
    refine c_seq ?_
    refine c_true (by kernel_rfl) ?_
    refine c_skip ?_
    refine thn_n ?_
    refine c_block ?_
    refine c_seq ?_
    refine c_reg ?_
    refine sq_q (v := .tuple #[.int .i64 e8.1, .pointer (some ⟨e8.2.1, 0, none⟩)]) rfl h (g_entry (by kernel_rfl) 2 rfl) ?_
    have h := h.iterForget 2 rfl
    refine sq_p (.pointer (some ⟨e8.2.1, 0, none⟩)) rfl (fun _ => by kernel_rfl) ?_
    refine sq_p (.pointer (some ⟨e8.2.1, 0, none⟩)) rfl (fun _ => by kernel_rfl) ?_
    refine lnil ?_
    refine thn_n ?_
    refine c_reg ?_
    refine sq_p (.map (some k1)) rfl (fun _ => by kernel_rfl) ?_
    refine sq_p (.pointer (some ⟨e8.2.1, 0, none⟩)) rfl (fun _ => by kernel_rfl) ?_
    refine sq_p (.pointer (some ⟨e8.2.1, 0, none⟩)) rfl (fun _ => by kernel_rfl) ?_
    refine sq_p (.pointer (some ⟨e8.2.1, 0, none⟩)) rfl (fun _ => by kernel_rfl) ?_
    refine sq_q rfl h (g_ldr (b := e8.2.1) 0 [.string e8.2.2.1] (.string e8.2.2.1) (by kernel_rfl) 3 rfl (rdFam hx13 0 (by kernel_rfl))) ?_
    refine sq_mapu rfl (K := 9) (E := 4) (keyStr (by kernel_rfl)) e8.2.2.1 (.bool true) (by kernel_rfl) h 0 rfl ?_; intro w h
    refine lnil ?_
    refine blk_n ?_
    refine loop_end (fun j => ⟨(fun x => vis x || decide (x = e8.1)), aput ks e8.2.2.1 (.bool true), j⟩) (show (KnownAt l (fun x => vis x || decide (x = e8.1)) (aput ks e8.2.2.1 (.bool true))) ∧ (lefts (fun x => vis x || decide (x = e8.1)) (l.map lsKV)) < (lefts vis (l.map lsKV)) from ⟨hka.step hk.sorted he9, lefts_lt hm6 hv7⟩) (by kernel_rfl) [0, 0, 0, 0] (by kernel_rfl) h
end Go.Proofs.YtofhnglgebllbaaDoor
