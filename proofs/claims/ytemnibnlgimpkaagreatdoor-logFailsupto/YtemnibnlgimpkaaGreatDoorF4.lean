/- Lemmas: part 4. -/
import Derived.Test.YtemnibnlgimpkaaGreatDoorF3
import Derived.Test.YtemnibnlgimpkaaGreatDoorRows
set_option linter.all false
set_option maxRecDepth 100000
set_option maxHeartbeats 20000000
namespace Go.Proofs.YtemnibnlgimpkaaGreatDoor
open Go.RowKit
/- logp: contracts by what is owned (printed by walk.py). -/
theorem wordy_spec (lv : Value) (l : List Rec) (hw : wordN l ≤ 1000000000)  : Spec Tryz.prog 14 #[lv] [rArg lv 2 recC l, rSub recR l] (fun u L => u = .bool (decide (500 < wordN l)) ∧ L = [rArg lv 2 recC l, rSub recR l]) := by
  refine spec_of (#[lv, undef, undef, undef, undef, undef, undef, undef, undef, undef, undef, undef, undef, undef, undef, undef, undef, undef, undef, undef, undef, undef, undef, undef, undef, undef, undef, undef, undef, undef, undef, undef, undef, undef, undef, undef, undef, undef, undef]) Tryz.func14 rfl (by kernel_rfl) fun E w0 w h => ?_
  refine c_seq ?_
  refine c_reg ?_
  refine sq_p (.bool false) rfl (fun _ => by kernel_rfl) ?_
  refine lnil ?_
  refine thn_n ?_
  refine c_seq ?_
  refine c_reg ?_
  refine sq_p (.int .i64 0) rfl (fun _ => by kernel_rfl) ?_
  refine lnil ?_
  refine thn_n ?_
  refine c_seq ?_
  refine c_seq ?_
  refine c_reg ?_
  refine sq_p (.int .i64 0) rfl (fun _ => by kernel_rfl) ?_
  refine lnil ?_
  refine thn_n ?_
  refine c_block ?_
  refine c_loop (X := Nat × Nat × (Nat → Value)) (fun ⟨ii, nn, J0⟩ => ⟨#[lv, undef, .bool false, .int .i64 ((nn : Nat) : Int), .int .i64 ((ii : Nat) : Int), J0 5, J0 6, J0 7, J0 8, J0 9, J0 10, J0 11, J0 12, J0 13, J0 14, J0 15, J0 16, J0 17, J0 18, J0 19, J0 20, J0 21, J0 22, J0 23, J0 24, J0 25, J0 26, J0 27, J0 28, J0 29, J0 30, J0 31, J0 32, J0 33, J0 34, J0 35, J0 36, undef, undef], []⟩)
    (fun ⟨ii, nn, J0⟩ => [rArg lv 2 recC l, rSub recR l]) (fun ⟨ii, nn, J0⟩ => ii ≤ l.length ∧ nn = wordN (l.take ii)) (fun ⟨ii, nn, J0⟩ => l.length - ii)
    ⟨0, 0, (fun n => (#[lv, undef, .bool false, .int .i64 0, .int .i64 0, undef, undef, undef, undef, undef, undef, undef, undef, undef, undef, undef, undef, undef, undef, undef, undef, undef, undef, undef, undef, undef, undef, undef, undef, undef, undef, undef, undef, undef, undef, undef, undef, undef, undef] : Array Value).getD n undef)⟩ ⟨by omega, rfl⟩ (by kernel_rfl) [0, 0] (by kernel_rfl) h ?_
  rintro ⟨ii, nn, J0⟩ w hG h
  obtain ⟨hil, hin⟩ : ii ≤ l.length ∧ nn = wordN (l.take ii) := hG
  have hle := wordN_take l ii
  have hcl := wordN_cnt l
  refine c_seq ?_
  refine c_seq ?_
  refine c_reg ?_
  refine sq_p (.int .i64 ((ii : Nat) : Int)) rfl (fun _ => by kernel_rfl) ?_
  refine sq_p (lv) rfl (fun _ => by kernel_rfl) ?_
  refine sq_q rfl h (g_lenA 47 (by kernel_rfl) 0 rfl) ?_
  refine sq_p (.bool (decide (((ii : Nat) : Int) < (l.length : Int)))) rfl (fun _ => by kernel_rfl) ?_
  refine lnil ?_
  refine thn_n ?_
  refine c_cond (decide (((ii : Nat) : Int) < (l.length : Int))) (by kernel_rfl) (fun hc1 => ?_) (fun hc1 => ?_)
  · skip
    have hc1 := of_decide_eq_true hc1
    have hix : ii < l.length := by omega
    obtain ⟨xr, hxr⟩ : ∃ x_, l[ii]? = some x_ := ⟨_, List.getElem?_eq_getElem hix⟩
    have h := h.inner 1 rfl hxr rfl
    have hnx := wordN_next hxr
    have hle2 := wordN_take l (ii + 1)
    refine c_skip ?_
    refine thn_n ?_
    refine c_seq ?_
    refine c_block ?_
    refine c_seq ?_
    refine c_reg ?_
    refine sq_p (.int .i64 ((nn : Nat) : Int)) rfl (fun _ => by kernel_rfl) ?_
    refine sq_q rfl h (g_eq (v := .int .i64 (IntKind.i64.wrap (((nn : Nat) : Int) + 5))) (v' := .int .i64 ((nn + 5 : Nat) : Int)) (g_pure fun _ => by kernel_rfl) (wr (by omega))) ?_
    refine sq_p (.int .i64 ((nn + 5 : Nat) : Int)) rfl (fun _ => by kernel_rfl) ?_
    refine lnil ?_
    refine thn_n ?_
    refine c_seq ?_
    refine c_reg ?_
    refine sq_p (.int .i64 0) rfl (fun _ => by kernel_rfl) ?_
    refine lnil ?_
    refine thn_n ?_
    refine c_block ?_
    refine c_loop (X := Nat × Nat × (Nat → Value)) (fun ⟨kk, mm, J1⟩ => ⟨#[lv, undef, .bool false, .int .i64 ((mm : Nat) : Int), .int .i64 ((ii : Nat) : Int), .int .i64 ((kk : Nat) : Int), .int .i64 ((ii : Nat) : Int), lv, .int .i64 (l.length : Int), .bool (decide (((ii : Nat) : Int) < (l.length : Int))), J0 10, J0 11, .int .i64 ((nn : Nat) : Int), .int .i64 ((nn + 5 : Nat) : Int), J1 14, J1 15, J1 16, J1 17, J1 18, J1 19, J1 20, J1 21, J1 22, J1 23, J1 24, J1 25, J1 26, J1 27, J1 28, J1 29, J1 30, J1 31, J1 32, J1 33, J1 34, J1 35, J1 36, undef, undef], []⟩)
      (fun ⟨kk, mm, J1⟩ => [rArg (slV xr.2.1) 1 strC (recL xr), rArg lv 2 recC l, rSub recR l]) (fun ⟨kk, mm, J1⟩ => kk ≤ (recL xr).length ∧ mm = nn + 5 + wordR ((recL xr).take kk)) (fun ⟨kk, mm, J1⟩ => (recL xr).length - kk)
      ⟨0, (nn + 5), (fun n => (#[lv, undef, .bool false, .int .i64 ((nn + 5 : Nat) : Int), .int .i64 ((ii : Nat) : Int), .int .i64 0, .int .i64 ((ii : Nat) : Int), lv, .int .i64 (l.length : Int), .bool (decide (((ii : Nat) : Int) < (l.length : Int))), J0 10, J0 11, .int .i64 ((nn : Nat) : Int), .int .i64 ((nn + 5 : Nat) : Int), J0 14, J0 15, J0 16, J0 17, J0 18, J0 19, J0 20, J0 21, J0 22, J0 23, J0 24, J0 25, J0 26, J0 27, J0 28, J0 29, J0 30, J0 31, J0 32, J0 33, J0 34, J0 35, J0 36, undef, undef] : Array Value).getD n undef)⟩ ⟨by omega, rfl⟩ (by kernel_rfl) [0, 0, 0] (by kernel_rfl) h ?_
    rintro ⟨kk, mm, J1⟩ w hG h
    obtain ⟨hkl, him⟩ : kk ≤ (recL xr).length ∧ mm = nn + 5 + wordR ((recL xr).take kk) := hG
    have hle3 := wordR_take (recL xr) kk
    have hcr := wordR_cnt (recL xr)
    refine c_seq ?_
    refine c_seq ?_
    refine c_reg ?_
    refine sq_p (.int .i64 ((kk : Nat) : Int)) rfl (fun _ => by kernel_rfl) ?_
    refine sq_p (lv) rfl (fun _ => by kernel_rfl) ?_
    refine sq_p (.int .i64 ((ii : Nat) : Int)) rfl (fun _ => by kernel_rfl) ?_
    refine sq_q rfl h (g_idxA 47 ii (by kernel_rfl) hix 1 rfl) ?_
    refine sq_p (.pointer (some ⟨blkN lv, offN lv + ii * 2 + 1, none⟩)) rfl (fun _ => by kernel_rfl) ?_
    refine sq_q rfl h (g_ldr (b := blkN lv) (offN lv + ii * 2 + 1) [slV xr.2.1] (slV xr.2.1) (by kernel_rfl) 1 rfl (rdArg hxr 1 (by kernel_rfl))) ?_
    refine sq_q rfl h (g_lenA 9 (by kernel_rfl) 0 rfl) ?_
    refine sq_p (.bool (decide (((kk : Nat) : Int) < ((recL xr).length : Int)))) rfl (fun _ => by kernel_rfl) ?_
    refine lnil ?_
    refine thn_n ?_
    refine c_cond (decide (((kk : Nat) : Int) < ((recL xr).length : Int))) (by kernel_rfl) (fun hc2 => ?_) (fun hc2 => ?_)
    · skip
      have hc2 := of_decide_eq_true hc2
      refine c_skip ?_
      refine thn_n ?_
      refine c_seq ?_
      refine c_block ?_
      refine c_reg ?_
      refine sq_p (.int .i64 ((mm : Nat) : Int)) rfl (fun _ => by kernel_rfl) ?_
      refine sq_q rfl h (g_eq (v := .int .i64 (IntKind.i64.wrap (((mm : Nat) : Int) + 1))) (v' := .int .i64 ((mm + 1 : Nat) : Int)) (g_pure fun _ => by kernel_rfl) (wr (by omega))) ?_
      refine sq_p (lv) rfl (fun _ => by kernel_rfl) ?_
      refine sq_p (.int .i64 ((ii : Nat) : Int)) rfl (fun _ => by kernel_rfl) ?_
      refine sq_q rfl h (g_idxA 47 ii (by kernel_rfl) hix 1 rfl) ?_
      refine sq_p (.pointer (some ⟨blkN lv, offN lv + ii * 2 + 1, none⟩)) rfl (fun _ => by kernel_rfl) ?_
      refine sq_q rfl h (g_ldr (b := blkN lv) (offN lv + ii * 2 + 1) [slV xr.2.1] (slV xr.2.1) (by kernel_rfl) 1 rfl (rdArg hxr 1 (by kernel_rfl))) ?_
      refine sq_p (.int .i64 ((kk : Nat) : Int)) rfl (fun _ => by kernel_rfl) ?_
      have hi3 : kk < (recL xr).length := by omega
      obtain ⟨x4, hx5⟩ : ∃ x, (recL xr)[kk]? = some x := ⟨_, List.getElem?_eq_getElem hi3⟩
      have hrn_x4 := wordR_next hx5
      have hrt_x4 := wordR_take (recL xr) (kk + 1)
      refine sq_q rfl h (g_idxA 9 kk (by kernel_rfl) hi3 0 rfl) ?_
      refine sq_q rfl h (g_ldr (b := blkN (slV xr.2.1)) (offN (slV xr.2.1) + kk * 1) [.string x4] (.string x4) (by kernel_rfl) 0 rfl (rdArg0 hx5 (by kernel_rfl))) ?_
      refine sq_p (.int .i64 (x4.size : Int)) rfl (fun _ => by kernel_rfl) ?_
      refine sq_q rfl h (g_quo x4.size 10 (by kernel_rfl) (by omega) (by omega)) ?_
      refine sq_q rfl h (g_eq (v := .int .i64 (IntKind.i64.wrap (((mm + 1 : Nat) : Int) + ((x4.size / 10 : Nat) : Int)))) (v' := .int .i64 (((mm + 1) + (x4.size / 10) : Nat) : Int)) (g_pure fun _ => by kernel_rfl) (wr (by omega))) ?_
      refine sq_p (.int .i64 (((mm + 1) + (x4.size / 10) : Nat) : Int)) rfl (fun _ => by kernel_rfl) ?_
      refine lnil ?_
      refine blk_n (thn_n ?_)
      refine c_reg ?_
      refine sq_p (.int .i64 ((kk : Nat) : Int)) rfl (fun _ => by kernel_rfl) ?_
      refine sq_q rfl h (g_eq (v := .int .i64 (IntKind.i64.wrap (((kk : Nat) : Int) + 1))) (v' := .int .i64 ((kk + 1 : Nat) : Int)) (g_pure fun _ => by kernel_rfl) (wr (by omega))) ?_
      refine sq_p (.int .i64 ((kk + 1 : Nat) : Int)) rfl (fun _ => by kernel_rfl) ?_
      refine lnil ?_
      have hQ6 : ((kk + 1) ≤ (recL xr).length ∧ ((mm + 1) + (x4.size / 10)) = nn + 5 + wordR ((recL xr).take (kk + 1))) ∧ ((recL xr).length - (kk + 1)) < ((recL xr).length - kk) := ⟨⟨by omega, by rw [← wordR_next (by assumption)]; omega⟩, by omega⟩
      refine loop_end (fun j => ⟨kk + 1, (mm + 1) + (x4.size / 10), j⟩) hQ6 (by kernel_rfl) [0, 0, 0] (by kernel_rfl) h
    · skip
      have hc2 := of_decide_eq_false hc2
      refine c_exit ?_
      refine thn_e (rnd_e (blk_e (blk_n (thn_n ?_))))
      refine c_reg ?_
      refine sq_p (.int .i64 ((ii : Nat) : Int)) rfl (fun _ => by kernel_rfl) ?_
      refine sq_q rfl h (g_eq (v := .int .i64 (IntKind.i64.wrap (((ii : Nat) : Int) + 1))) (v' := .int .i64 ((ii + 1 : Nat) : Int)) (g_pure fun _ => by kernel_rfl) (wr (by omega))) ?_
      refine sq_p (.int .i64 ((ii + 1 : Nat) : Int)) rfl (fun _ => by kernel_rfl) ?_
      refine lnil ?_
      have hQ7 : ((ii + 1) ≤ l.length ∧ mm = wordN (l.take (ii + 1))) ∧ (l.length - (ii + 1)) < (l.length - ii) := ⟨⟨by omega, by rw [← wordN_next hxr, ← hin]; have hq_ : (recL xr).take kk = recL xr := List.take_of_length_le (by omega); rw [hq_] at him; omega⟩, by omega⟩
      refine loop_end (fun j => ⟨ii + 1, mm, j⟩) hQ7 (by kernel_rfl) [1, 1] (by kernel_rfl) h
  · skip
    have hc1 := of_decide_eq_false hc1
    refine c_exit ?_
    refine thn_e (rnd_e (blk_e (thn_n ?_)))
    refine c_seq ?_
    refine c_reg ?_
    refine sq_p (.int .i64 ((nn : Nat) : Int)) rfl (fun _ => by kernel_rfl) ?_
    refine sq_p (.bool (decide (((nn : Nat) : Int) > 500))) rfl (fun _ => by kernel_rfl) ?_
    refine sq_p (.bool (decide (((nn : Nat) : Int) > 500))) rfl (fun _ => by kernel_rfl) ?_
    refine lnil ?_
    refine thn_n ?_
    refine c_ret ?_
    refine ret_end [.bool (decide (((nn : Nat) : Int) > 500))] [0, 0] h (by kernel_rfl) (res_t (by kernel_rfl) res_n) ?_
    refine ⟨?_, rfl⟩
    show Value.bool _ = _
    have hq_ : l.take ii = l := List.take_of_length_le (by omega)
    rw [hq_] at hin
    congr 1
    rw [decide_eq_decide]
    omega

/- Open at a log that is right; act and next for both kinds of record. No condition. -/
theorem openL_spec {B : Nat} (ad : Nat → Addr) (a1 a2 : Addr) (db : Nat) (d : PDisk) (Sd : Nat → Prop) (c h z : Nat) (pk : List (List Tx)) (v : Valid d.now.length d.now c h z pk) :
    Spec Tryz.prog 9 #[.pointer (some ⟨db, 0, none⟩)] [rDisk B db d Sd, rNumE a1 a2, rTab, rEnv B ad [1, 2]] fun u L => ∃ (lb : Nat) (vv : Value) (rs : List ByteArray), rs.map tx = pk.flatten ∧ u = .tuple #[.pointer (some ⟨lb, 0, none⟩), vv, .nilIface] ∧
      L = [rDisk B db d Sd, rNumE a1 a2, rTab, rEnv B ad [1, 2], logCell lb db c h z false, rArg vv 1 strC rs] := by
  refine (open_spec ad a1 a2 db d Sd (by have := v.n8; omega) v.n4 v.sz).mono ?_
  rintro u L (⟨h1, rfl, rfl⟩ | ⟨lb, vv, c', h', z', rs, h1, rfl, rfl⟩)
  · rw [v.open] at h1; cases h1
  · rw [v.open] at h1
    obtain ⟨rfl, rfl, rfl, h2⟩ : c = c' ∧ h = h' ∧ z = z' ∧ pk.flatten = rs.map tx := by
      simp only [Option.some.injEq, Prod.mk.injEq] at h1
      exact ⟨h1.1.1, h1.1.2.1, h1.1.2.2, h1.2⟩
    exact ⟨lb, vv, rs, h2.symm, rfl, rfl⟩
theorem texts_inj : ∀ {us bs : List ByteArray}, us.map tx = bs.map tx → us = bs
  | [], [], _ => rfl
  | [], _ :: _, h => by cases h
  | _ :: _, [], h => by cases h
  | u :: us, b :: bs, h => by
    simp only [List.map_cons, List.cons.injEq] at h
    rw [tx_inj h.1, texts_inj h.2]
theorem new_left (n : Nat) : (pNew n).left = -1 ∧ (pNew n).now.length = n ∧ (pNew n).waits = [] ∧ ∀ s ∈ (pNew n).now, s.size = 64 := by
  refine ⟨rfl, List.length_replicate, rfl, fun s hs => ?_⟩
  rw [List.eq_of_mem_replicate hs, zerosB_size]
/-- Format at a new disk. -/
theorem formatN_spec {B : Nat} (ad : Nat → Addr) (db : Nat) (n : Nat) (Sd : Nat → Prop) (h8 : 8 ≤ n) (h4 : n ≤ 4000) :
    Spec Tryz.prog 11 #[.pointer (some ⟨db, 0, none⟩)] [rDisk B db (pNew n) Sd, rTab, rEnv B ad [2, 3, 9, 15]] fun u L => ∃ (lb : Nat) (S' : Nat → Prop) (d : PDisk), d.left = -1 ∧ Quiet d ∧ Valid n d.now 1 0 0 [] ∧ d.now.length = n ∧ u = .tuple #[.pointer (some ⟨lb, 0, none⟩), .nilIface] ∧
      L = [rDisk B db d S', rTab, rEnv B ad [2, 3, 9, 15], logCell lb db 1 0 0 false] := by
  obtain ⟨h1, h2, h3, h5⟩ := new_left n
  obtain ⟨_, _, _, _, f1, f2, f3⟩ := format_ok h1 h2 h8 h4 h5
  refine (format_spec ad db (pNew n) Sd (by omega) (by omega) h1 (by rw [h3]; exact Nat.zero_le _) h5).mono ?_
  rintro u L ⟨lb, S', rfl, rfl⟩
  rw [h2]
  exact ⟨lb, S', _, f1, f2, f3, f3.len, rfl, rfl⟩
theorem addA_spec {B : Nat} (ad : Nat → Addr) (lb db : Nat) (d : PDisk) (Sd : Nat → Prop) (rv : Value) (hv : Valid 40 d.now 1 0 0 []) (hq : Quiet d) (hl : d.left = -1) :
    Spec Tryz.prog 20 #[.pointer (some ⟨lb, 0, none⟩), rv] [logCell lb db 1 0 0 false, rDisk B db d Sd, rTab, rEnv B ad [2, 3, 9, 15], rRows true rv 9 1 strC [(⟨#[97]⟩ : ByteArray), (⟨#[]⟩ : ByteArray)]] fun u L =>
      ∃ (d' : PDisk) (S' : Nat → Prop) (c' h' z' : Nat) (pk' : List (List Tx)), Valid d'.now.length d'.now c' h' z' pk' ∧ pk'.flatten = [[97], []] ∧ u = .nilIface ∧ L = [logCell lb db c' h' z' false, rDisk B db d' S', rTab, rEnv B ad [2, 3, 9, 15], rRows true rv 9 1 strC [(⟨#[97]⟩ : ByteArray), (⟨#[]⟩ : ByteArray)]] := by
  have e : ([(⟨#[97]⟩ : ByteArray), (⟨#[]⟩ : ByteArray)] : List ByteArray).map tx = [[97], []] := rfl
  have hb : (packT ([(⟨#[97]⟩ : ByteArray), (⟨#[]⟩ : ByteArray)].map tx)).length ≤ 90 := by
    rw [e, packT_len (by simp [ten10])]; simp
  have hv2 : Valid d.now.length d.now 1 0 0 [] := by rw [hv.len]; exact hv
  refine (addL_spec ad lb db d Sd 1 0 0 [] rv _ (by omega) hv2 hq (by decide)).mono ?_
  rintro u L (⟨h1, rfl, rfl⟩ | ⟨d', S', c', h', z', pk', hd, rfl, rfl⟩ | ⟨d', S', hw, rfl, rfl⟩)
  · exfalso
    apply h1
    have h2 := (packB_len ([(⟨#[97]⟩ : ByteArray), (⟨#[]⟩ : ByteArray)].map tx)).2
    rw [hv.len]
    show _ ≤ 19 * 64
    omega
  · refine ⟨d', S', c', h', z', pk', ?_, hd.flat, rfl, rfl⟩
    have := hd.valid
    rw [this.len]; exact this
  · exact absurd hl hw.left
theorem Own.cellRow2 {w0 w : World} {E : Ent} {M : List Res} {b d : Nat} (x y : ByteArray) (ho : Own w0 E (rCell true b [.string x, .string y] d :: M) w) : Own w0 E (rRows true (.slice (some ⟨b, 0, none⟩) 2 2) d 1 strC [x, y] :: M) w :=
  ho.upd (i := 0) (r := rCell true b [.string x, .string y] d) rfl rfl (Chg.refl _ _) ⟨by simp [strC], .inr ⟨b, 0, 2, #[.string x, .string y], rfl, ho.fact 0 rfl, Nat.le_refl _, by unfold maxLen; omega, by simp, fun j u hj => by simpa [strC] using hj, rfl⟩⟩ fun y hy => .inl hy

/- logp: contracts by what is owned (printed by walk.py). -/
theorem logged_spec {B : Nat} (ad : Nat → Addr) (a1 a2 : Addr)  : Spec Tryz.prog 6 #[] [rEnv B ad [1, 2, 3, 9, 15], rNumE a1 a2, rTab] (fun u L => u = .bool true ∧ L = [rEnv B ad [1, 2, 3, 9, 15], rNumE a1 a2, rTab]) := by
  refine spec_of (#[undef, undef, undef, undef, undef, undef, undef, undef, undef, undef, undef, undef, undef, undef, undef, undef, undef, undef, undef, undef, undef, undef, undef, undef, undef, undef, undef, undef, undef, undef, undef, undef, undef, undef, undef, undef, undef, undef, undef, undef, undef, undef, undef, undef, undef, undef, undef, undef, undef, undef, undef, undef, undef, undef, undef, undef, undef, undef]) Tryz.func6 rfl (by kernel_rfl) fun E w0 w h => ?_
  have h := h.eSub [2, 3, 9, 15] 0 rfl
  have h := h.eSub [1, 2] 1 rfl
  have h := h.eSub [2] 2 rfl
  refine c_seq ?_
  refine c_reg ?_
  refine sq_p (.bool false) rfl (fun _ => by kernel_rfl) ?_
  refine lnil ?_
  refine thn_n ?_
  refine c_seq ?_
  refine c_reg ?_
  refine sq_call #[.int .i64 40] [0] rfl (dnew_spec (B := B) ad 40 (by omega) (by omega)) (fun _ => by kernel_rfl) h ?_; rintro v_ L_ w ⟨db1, Sx2, rfl, rfl⟩ h
  refine sq_p (.tuple #[.pointer (some ⟨db1, 0, none⟩), .nilIface]) rfl (fun _ => by kernel_rfl) ?_
  refine sq_p (.pointer (some ⟨db1, 0, none⟩)) rfl (fun _ => by kernel_rfl) ?_
  refine sq_p (.nilIface) rfl (fun _ => by kernel_rfl) ?_
  refine sq_p (.pointer (some ⟨db1, 0, none⟩)) rfl (fun _ => by kernel_rfl) ?_
  refine sq_p (.nilIface) rfl (fun _ => by kernel_rfl) ?_
  refine lnil ?_
  refine thn_n ?_
  refine c_seq ?_
  refine c_seq ?_
  refine c_reg ?_
  refine sq_p (.nilIface) rfl (fun _ => by kernel_rfl) ?_
  refine sq_p (.bool false) rfl (fun _ => by kernel_rfl) ?_
  refine sq_p (.bool false) rfl (fun _ => by kernel_rfl) ?_
  refine sq_p (.pointer (some ⟨db1, 0, none⟩)) (by kernel_rfl) (fun _ => by kernel_rfl) ?_
  refine sq_p (.bool false) (by kernel_rfl) (fun _ => by kernel_rfl) ?_
  refine sq_p (.bool false) rfl (fun _ => by kernel_rfl) ?_
  refine lnil ?_
  refine thn_n ?_
  refine c_false (by kernel_rfl) ?_
  refine c_skip ?_
  refine thn_n ?_
  refine c_seq ?_
  refine c_reg ?_
  refine sq_p (.pointer (some ⟨db1, 0, none⟩)) rfl (fun _ => by kernel_rfl) ?_
  refine sq_call #[.pointer (some ⟨db1, 0, none⟩)] [0, 5, 2] rfl (formatN_spec (B := B) ad db1 40 Sx2 (by omega) (by omega)) (fun _ => by kernel_rfl) h ?_; rintro v_ L_ w ⟨lb3, Sx4, dd5, hle0, hqu0, hva0, hln0, rfl, rfl⟩ h
  refine sq_p (.tuple #[.pointer (some ⟨lb3, 0, none⟩), .nilIface]) rfl (fun _ => by kernel_rfl) ?_
  refine sq_p (.pointer (some ⟨lb3, 0, none⟩)) rfl (fun _ => by kernel_rfl) ?_
  refine sq_p (.nilIface) rfl (fun _ => by kernel_rfl) ?_
  refine sq_p (.pointer (some ⟨lb3, 0, none⟩)) rfl (fun _ => by kernel_rfl) ?_
  refine sq_p (.nilIface) rfl (fun _ => by kernel_rfl) ?_
  refine lnil ?_
  refine thn_n ?_
  refine c_seq ?_
  refine c_seq ?_
  refine c_reg ?_
  refine sq_p (.nilIface) rfl (fun _ => by kernel_rfl) ?_
  refine sq_p (.bool false) rfl (fun _ => by kernel_rfl) ?_
  refine sq_p (.bool false) rfl (fun _ => by kernel_rfl) ?_
  refine sq_p (.pointer (some ⟨lb3, 0, none⟩)) (by kernel_rfl) (fun _ => by kernel_rfl) ?_
  refine sq_p (.bool false) (by kernel_rfl) (fun _ => by kernel_rfl) ?_
  refine sq_p (.bool false) rfl (fun _ => by kernel_rfl) ?_
  refine sq_p (.bool false) rfl (fun _ => by kernel_rfl) ?_
  refine sq_p (.pointer (some ⟨lb3, 0, none⟩)) (by kernel_rfl) (fun _ => by kernel_rfl) ?_
  refine sq_new (by kernel_rfl) (fun b => .slice (some ⟨b, 0, none⟩) 2 2) [.string (⟨#[97]⟩ : ByteArray), .string (⟨#[]⟩ : ByteArray)] 9 (fun _ => by kernel_rfl) h ?_; intro k6 w h
  have h := h.cellRow2 (⟨#[97]⟩ : ByteArray) (⟨#[]⟩ : ByteArray)
  refine sq_call #[.pointer (some ⟨lb3, 0, none⟩), .slice (some ⟨k6, 0, none⟩) 2 2] [4, 1, 1, 1, 0] (by kernel_rfl) (addA_spec (B := B) ad lb3 db1 dd5 Sx4 (.slice (some ⟨k6, 0, none⟩) 2 2) hva0 hqu0 hle0) (fun _ => by kernel_rfl) h ?_; rintro v_ L_ w ⟨dd7, Sx8, cx9, hx_10, zx11, pkx12, hva1, hfl1, rfl, rfl⟩ h
  refine sq_p (.bool false) (by kernel_rfl) (fun _ => by kernel_rfl) ?_
  refine sq_p (.bool false) rfl (fun _ => by kernel_rfl) ?_
  refine lnil ?_
  refine thn_n ?_
  refine c_false (by kernel_rfl) ?_
  refine c_skip ?_
  refine thn_n ?_
  refine c_seq ?_
  refine c_reg ?_
  refine sq_p (.pointer (some ⟨db1, 0, none⟩)) rfl (fun _ => by kernel_rfl) ?_
  refine sq_call #[.pointer (some ⟨db1, 0, none⟩)] [1, 7, 1, 4] rfl (openL_spec (B := B) ad a1 a2 db1 dd7 Sx8 _ _ _ _ hva1) (fun _ => by kernel_rfl) h ?_; rintro v_ L_ w ⟨lb13, gv14, grs15, hgr1, rfl, rfl⟩ h
  obtain rfl : grs15 = [(⟨#[97]⟩ : ByteArray), (⟨#[]⟩ : ByteArray)] := texts_inj (hgr1.trans hfl1)
  refine sq_p (.tuple #[.pointer (some ⟨lb13, 0, none⟩), gv14, .nilIface]) rfl (fun _ => by kernel_rfl) ?_
  refine sq_p (.pointer (some ⟨lb13, 0, none⟩)) rfl (fun _ => by kernel_rfl) ?_
  refine sq_p (gv14) rfl (fun _ => by kernel_rfl) ?_
  refine sq_p (.nilIface) rfl (fun _ => by kernel_rfl) ?_
  refine sq_p (.pointer (some ⟨lb13, 0, none⟩)) rfl (fun _ => by kernel_rfl) ?_
  refine sq_p (gv14) rfl (fun _ => by kernel_rfl) ?_
  refine sq_p (.nilIface) rfl (fun _ => by kernel_rfl) ?_
  refine lnil ?_
  refine thn_n ?_
  refine c_seq ?_
  refine c_reg ?_
  refine sq_p (.nilIface) rfl (fun _ => by kernel_rfl) ?_
  refine sq_p (.bool true) rfl (fun _ => by kernel_rfl) ?_
  refine sq_p (.bool true) rfl (fun _ => by kernel_rfl) ?_
  refine sq_p (gv14) (by kernel_rfl) (fun _ => by kernel_rfl) ?_
  refine sq_q (by kernel_rfl) h (g_lenA 9 (by kernel_rfl) 5 rfl) ?_
  obtain ⟨b16, hb16⟩ : ∃ b_ : Bool, b_ = (decide (([(⟨#[97]⟩ : ByteArray), (⟨#[]⟩ : ByteArray)].length : Int) = 2)) := ⟨_, rfl⟩
  refine sq_q (v := .bool b16) (by kernel_rfl) h (by subst hb16; exact g_pure (v := .bool (decide (([(⟨#[97]⟩ : ByteArray), (⟨#[]⟩ : ByteArray)].length : Int) = 2))) fun _ => by kernel_rfl) ?_
  refine sq_p (.bool b16) rfl (fun _ => by kernel_rfl) ?_
  refine sq_p (.bool b16) rfl (fun _ => by kernel_rfl) ?_
  refine sq_m1 (v := gv14) b16 (by cases b16 <;> kernel_rfl) h (fun hB => by subst hB; exact g_pure (v := gv14) fun _ => by kernel_rfl) ?_
  have hi17 : 0 < [(⟨#[97]⟩ : ByteArray), (⟨#[]⟩ : ByteArray)].length := by decide
  obtain ⟨x18, hx19⟩ : ∃ x, [(⟨#[97]⟩ : ByteArray), (⟨#[]⟩ : ByteArray)][0]? = some x := ⟨_, List.getElem?_eq_getElem hi17⟩
  have hxe_0 := Option.some.inj (hx19 : some (⟨#[97]⟩ : ByteArray) = some x18)
  refine sq_m1 (v := .pointer (some ⟨blkN gv14, offN gv14 + 0 * 1, none⟩)) b16 (by cases b16 <;> kernel_rfl) h (fun hB => by subst hB; exact g_idxA 9 0 (by kernel_rfl) hi17 5 rfl) ?_
  refine sq_m1 (v := .string x18) b16 (by cases b16 <;> kernel_rfl) h (fun hB => by subst hB; exact g_ldr (b := blkN gv14) (offN gv14 + 0 * 1) [.string x18] (.string x18) (by kernel_rfl) 5 rfl (rdArg0 hx19 (by kernel_rfl))) ?_
  obtain ⟨b20, hb20⟩ : ∃ b_ : Bool, b_ = (decide (x18 = (⟨#[97]⟩ : ByteArray))) := ⟨_, rfl⟩
  refine sq_m1 (v := .bool b20) b16 (by cases b16 <;> kernel_rfl) h (fun hB => by subst hB; exact by subst hb20; exact g_eq (v := .bool (x18.toList == (⟨#[97]⟩ : ByteArray).toList)) (v' := .bool (decide (x18 = (⟨#[97]⟩ : ByteArray)))) (g_pure fun _ => by kernel_rfl) beqS) ?_
  obtain ⟨b21, hb21⟩ : ∃ b_ : Bool, b_ = (b16 && b20) := ⟨_, rfl⟩
  refine sq_q (v := .bool b21) rfl h (by subst hb21; exact g_pure (v := .bool (b16 && b20)) fun _ => by cases b16 <;> kernel_rfl) ?_
  refine sq_p (.bool b21) rfl (fun _ => by kernel_rfl) ?_
  refine sq_m1 (v := gv14) b21 (by cases b21 <;> kernel_rfl) h (fun hB => by subst hB; exact g_pure (v := gv14) fun _ => by kernel_rfl) ?_
  have hi22 : 1 < [(⟨#[97]⟩ : ByteArray), (⟨#[]⟩ : ByteArray)].length := by decide
  obtain ⟨x23, hx24⟩ : ∃ x, [(⟨#[97]⟩ : ByteArray), (⟨#[]⟩ : ByteArray)][1]? = some x := ⟨_, List.getElem?_eq_getElem hi22⟩
  have hxe_1 := Option.some.inj (hx24 : some (⟨#[]⟩ : ByteArray) = some x23)
  refine sq_m1 (v := .pointer (some ⟨blkN gv14, offN gv14 + 1 * 1, none⟩)) b21 (by cases b21 <;> kernel_rfl) h (fun hB => by subst hB; exact g_idxA 9 1 (by kernel_rfl) hi22 5 rfl) ?_
  refine sq_m1 (v := .string x23) b21 (by cases b21 <;> kernel_rfl) h (fun hB => by subst hB; exact g_ldr (b := blkN gv14) (offN gv14 + 1 * 1) [.string x23] (.string x23) (by kernel_rfl) 5 rfl (rdArg0 hx24 (by kernel_rfl))) ?_
  obtain ⟨b25, hb25⟩ : ∃ b_ : Bool, b_ = (decide (x23 = (⟨#[]⟩ : ByteArray))) := ⟨_, rfl⟩
  refine sq_m1 (v := .bool b25) b21 (by cases b21 <;> kernel_rfl) h (fun hB => by subst hB; exact by subst hb25; exact g_eq (v := .bool (x23.toList == (⟨#[]⟩ : ByteArray).toList)) (v' := .bool (decide (x23 = (⟨#[]⟩ : ByteArray)))) (g_pure fun _ => by kernel_rfl) beqS) ?_
  obtain ⟨b26, hb26⟩ : ∃ b_ : Bool, b_ = (b21 && b25) := ⟨_, rfl⟩
  refine sq_q (v := .bool b26) rfl h (by subst hb26; exact g_pure (v := .bool (b21 && b25)) fun _ => by cases b21 <;> kernel_rfl) ?_
  refine sq_p (.bool b26) rfl (fun _ => by kernel_rfl) ?_
  refine lnil ?_
  refine thn_n ?_
  refine c_ret ?_
  refine ret_end [.bool b26] [10, 1, 1] h (by kernel_rfl) (res_t (by kernel_rfl) res_n) ?_
  refine ⟨?_, rfl⟩
  subst hxe_0 hxe_1
  show Value.bool _ = _
  congr 1
  subst hb26
  subst hb25
  subst hb21
  subst hb20
  subst hb16
  first | rfl | decide | simp

/- coded of law package 4 by contract. -/

theorem coded4_ok {B : Nat} (ad : Nat → Addr) (c : Nat) (code : Int) (w : World) (he : EnvA B ad w) (hc : c ≤ 15) (hcode : (c : Int) = code) :
    Calls Tryz.prog 10 #[errV ad c, .int .i64 code] w fun e w' => e = .returned (.bool true) ∧ Chg Nil w w' := by
  by_cases h0 : c = 0
  · subst h0
    have hb : ((0 : Int) == code) = true := by simp; omega
    rw [errV_zero]
    clear hcode
    go_enter Tryz.func10, Tryz.ntmps10
    go_wp2_with fail
    refine (code_nil _).mono ?_
    rintro e w1 ⟨rfl, rfl⟩
    go_wp2_with fail
    go_ret
    exact ⟨rfl, Chg.refl _ _⟩
  · have hb : ((c : Int) == code) = true := by simp; omega
    have HE := Lib.hid he
    rw [errV_pos h0]
    clear hcode he
    go_enter Tryz.func10, Tryz.ntmps10
    go_wp2_with fail
    refine (code_err ad c w HE.out (by omega) hc).mono ?_
    rintro e w1 ⟨rfl, hc1⟩
    go_wp2_with fail
    go_ret
    exact ⟨rfl, hc1⟩

/- coded of law package 2 by contract. -/


/- coded of law package 2, by what is owned. No condition. -/

/- coded of law package 4 by contract: another number. -/

theorem coded4_no {B : Nat} (ad : Nat → Addr) (c : Nat) (code : Int) (w : World) (he : EnvA B ad w) (hc : c ≤ 15) (hcode : ¬ (c : Int) = code) :
    Calls Tryz.prog 10 #[errV ad c, .int .i64 code] w fun e w' => e = .returned (.bool false) ∧ Chg Nil w w' := by
  by_cases h0 : c = 0
  · subst h0
    have hb : ((0 : Int) == code) = false := by simp; omega
    rw [errV_zero]
    clear hcode
    go_enter Tryz.func10, Tryz.ntmps10
    go_wp2_with fail
    refine (code_nil _).mono ?_
    rintro e w1 ⟨rfl, rfl⟩
    go_wp2_with fail
    go_ret
    exact ⟨rfl, Chg.refl _ _⟩
  · have hb : ((c : Int) == code) = false := by simp; omega
    have HE := Lib.hid he
    rw [errV_pos h0]
    clear hcode he
    go_enter Tryz.func10, Tryz.ntmps10
    go_wp2_with fail
    refine (code_err ad c w HE.out (by omega) hc).mono ?_
    rintro e w1 ⟨rfl, hc1⟩
    go_wp2_with fail
    go_ret
    exact ⟨rfl, hc1⟩
theorem codedA_spec {B : Nat} (ad : Nat → Addr) (c : Nat) (code : Int) (hc : c ≤ 15) : Spec Tryz.prog 10 #[errV ad c, .int .i64 code] [rEnvA B ad] fun u L => ((c : Int) = code ∧ u = .bool true ∧ L = [rEnvA B ad]) ∨ (¬ (c : Int) = code ∧ u = .bool false ∧ L = [rEnvA B ad]) := fun E w0 w ho => by
  by_cases h : (c : Int) = code
  · exact (coded4_ok ad c code w (ho.fact 0 rfl) hc h).mono fun e w' ⟨he, hc'⟩ => ⟨_, _, .inl ⟨h, rfl, rfl⟩, he, ho.quiet hc'⟩
  · exact (coded4_no ad c code w (ho.fact 0 rfl) hc h).mono fun e w' ⟨he, hc'⟩ => ⟨_, _, .inr ⟨h, rfl, rfl⟩, he, ho.quiet hc'⟩

/- act and next for both kinds of record. No condition. -/
section
variable {B : Nat} (ad : Nat → Addr) (lb db : Nat) (d : PDisk) (Sd : Nat → Prop) (c hh zz : Nat) (pk : List (List Tx)) (rv : Value) (rs : List ByteArray) (cl : Bool)
theorem act_spec (hb : (packT (rs.map tx)).length ≤ 90000000) (hrl : rs.length < 1000000) (hv : Valid d.now.length d.now c hh zz pk) (hq : Quiet d) (hc : c + 1 < ten10) :
    Spec Tryz.prog 16 #[.pointer (some ⟨lb, 0, none⟩), .agg #[.bool cl, rv]] [logCell lb db c hh zz false, rDisk B db d Sd, rTab, rEnv B ad [2, 3, 9, 15], rArg rv 1 strC rs] fun u L =>
      (¬ (if cl then 0 else zz) + (packB (rs.map tx)).length ≤ halfOf d.now.length * 64 ∧ u = errV ad 9 ∧ L = [logCell lb db c hh zz false, rDisk B db d Sd, rTab, rEnv B ad [2, 3, 9, 15], rArg rv 1 strC rs]) ∨
      (∃ (d' : PDisk) (S' : Nat → Prop) (c' h' z' : Nat) (pk' : List (List Tx)), Done d.now.length d d' c c' h' z' pk' ((if cl then [] else pk.flatten) ++ rs.map tx) ((if cl then 0 else pk.length) + 1) ∧ u = .nilIface ∧ L = [logCell lb db c' h' z' false, rDisk B db d' S', rTab, rEnv B ad [2, 3, 9, 15], rArg rv 1 strC rs]) ∨
      (∃ (d' : PDisk) (S' : Nat → Prop), Went d.now.length d d' c pk.flatten ((if cl then [] else pk.flatten) ++ rs.map tx) ∧ u = errV ad 15 ∧ L = [logCell lb db c hh zz true, rDisk B db d' S', rTab, rEnv B ad [2, 3, 9, 15], rArg rv 1 strC rs]) := by
  cases cl
  · exact act_add ad lb db d Sd c hh zz pk rv rs hb hrl hv hq hc
  · refine (act_clear ad lb db d Sd c hh zz pk rv rs hb hrl hv hq hc).mono ?_
    rintro u L (⟨h1, h2⟩ | h1 | h1)
    · exact .inl ⟨by simpa using h1, h2⟩
    · exact .inr (.inl h1)
    · exact .inr (.inr h1)
theorem act_lost (hb : (packT (rs.map tx)).length ≤ 90000000) (hrl : rs.length < 1000000) :
    Spec Tryz.prog 16 #[.pointer (some ⟨lb, 0, none⟩), .agg #[.bool cl, rv]] [logCell lb db c hh zz true, rDisk B db d Sd, rTab, rEnv B ad [2, 3, 9, 15], rArg rv 1 strC rs] fun u L =>
      u = errV ad 15 ∧ L = [logCell lb db c hh zz true, rDisk B db d Sd, rTab, rEnv B ad [2, 3, 9, 15], rArg rv 1 strC rs] := by
  cases cl
  · exact act_add_lost ad lb db d Sd c hh zz [] rv rs hb hrl
  · exact act_clear_lost ad lb db d Sd c hh zz [] rv rs hb hrl
theorem next_spec (nv : Value) (ns : List ByteArray) (hnl : ns.length < 1000000) (hrl : rs.length < 1000000) :
    Spec Tryz.prog 15 #[nv, .agg #[.bool cl, rv]] [rArg nv 1 strC ns, rArg rv 1 strC rs] fun u L => ∃ v' : Value, u = v' ∧ L = [rArg nv 1 strC ns, rArg rv 1 strC rs, rRows true v' 9 1 strC ((if cl then [] else ns) ++ rs)] := by
  cases cl
  · exact next_add nv rv ns rs hnl hrl
  · exact next_clear nv rv ns rs hnl hrl
end

/- Beside the walk of LogKeeps: bounds out of wordy; contracts in the forms that the walk wants. No condition. -/
def wtL (l : List Rec) : Nat := (l.map fun x => wt16 ((recL x).map tx)).sum
theorem wt_word : ∀ rs : List ByteArray, wt16 (rs.map tx) ≤ 25 * wordR rs
  | [] => Nat.le_refl _
  | r :: rs => by
    have h := wt_word rs
    unfold wt16 wordR at h ⊢
    simp only [List.map_cons, List.sum_cons, tx_len] at h ⊢
    omega
theorem wtL_word : ∀ l : List Rec, wtL l ≤ 25 * wordN l
  | [] => Nat.le_refl _
  | x :: l => by
    have h := wtL_word l
    have h2 := wt_word (recL x)
    unfold wtL wordN at h ⊢
    simp only [List.map_cons, List.sum_cons] at h ⊢
    omega
theorem wtL_next {l : List Rec} {i : Nat} {x : Rec} (hx : l[i]? = some x) : wtL (l.take i) + wt16 ((recL x).map tx) = wtL (l.take (i + 1)) := by
  obtain ⟨h, rfl⟩ := List.getElem?_eq_some_iff.1 hx
  unfold wtL
  rw [List.take_succ_eq_append_getElem h, List.map_append, List.sum_append]
  simp
theorem wtL_take (l : List Rec) (i : Nat) : wtL (l.take i) ≤ wtL l := by
  have h : wtL l = wtL (l.take i) + wtL (l.drop i) := by
    unfold wtL; rw [← List.sum_append, ← List.map_append, List.take_append_drop]
  omega
theorem packT_wt {rs : List ByteArray} (hw : wt16 (rs.map tx) ≤ 1000000) : (packT (rs.map tx)).length ≤ wt16 (rs.map tx) := by
  rw [packT_len fun r hr => by
    obtain ⟨x, hx, rfl⟩ := List.mem_map.1 hr
    rw [tx_len]
    have := wt_one hw hx
    unfold ten10; omega]
  exact wt_le _
theorem codedY_spec {B : Nat} (ad : Nat → Addr) (c : Nat) (code : Int) (hc : c ≤ 15) (h : (c : Int) = code) : Spec Tryz.prog 10 #[errV ad c, .int .i64 code] [rEnvA B ad] fun u L => u = .bool true ∧ L = [rEnvA B ad] := by
  refine (codedA_spec ad c code hc).mono ?_
  rintro u L (⟨_, h2⟩ | ⟨h1, _⟩)
  · exact h2
  · exact absurd h h1
theorem dnewI_spec {B : Nat} (ad : Nat → Addr) (n : Int) (k : Nat) (hn : n = (k : Int)) (h1 : 1 ≤ k) (h4 : k ≤ 4000) : Spec Tryz.prog 8 #[.int .i64 n] [rEnv B ad [2]] fun u L => ∃ b S, u = .tuple #[.pointer (some ⟨b, 0, none⟩), .nilIface] ∧ L = [rDisk B b (pNew k) S, rEnv B ad [2]] := by
  subst hn
  exact dnew_spec ad k h1 h4
theorem fmtI_spec {B : Nat} (ad : Nat → Addr) (db : Nat) (n : Nat) (Sd : Nat → Prop) (h4 : n ≤ 4000) :
    Spec Tryz.prog 11 #[.pointer (some ⟨db, 0, none⟩)] [rDisk B db (pNew n) Sd, rTab, rEnv B ad [2, 3, 9, 15]] fun u L => (n < 8 ∧ u = .tuple #[.pointer none, errV ad 9] ∧ L = [rDisk B db (pNew n) Sd, rTab, rEnv B ad [2, 3, 9, 15]]) ∨
      (∃ (lb : Nat) (S' : Nat → Prop) (d : PDisk), 8 ≤ n ∧ d.left = -1 ∧ Quiet d ∧ Valid d.now.length d.now 1 0 0 [] ∧ d.now.length = n ∧ u = .tuple #[.pointer (some ⟨lb, 0, none⟩), .nilIface] ∧ L = [rDisk B db d S', rTab, rEnv B ad [2, 3, 9, 15], logCell lb db 1 0 0 false]) := by
  by_cases h8 : 8 ≤ n
  · refine (formatN_spec ad db n Sd h8 h4).mono ?_
    rintro u L ⟨lb, S', d, h1, h2, h3, h5, rfl, rfl⟩
    exact .inr ⟨lb, S', d, h8, h1, h2, by rw [h5]; exact h3, h5, rfl, rfl⟩
  · refine (format_small ad db (pNew n) Sd (by rw [(new_left n).2.1]; omega)).mono ?_
    rintro u L ⟨rfl, rfl⟩
    exact .inl ⟨by omega, rfl, rfl⟩
theorem sameT_spec (v1 v2 : Value) (us bs : List ByteArray) (hb : us.length < 1000000) (he : us = bs) : Spec Tryz.prog 18 #[v1, v2] [rArg v1 1 strC us, rArg v2 1 strC bs] fun u L => u = .bool true ∧ L = [rArg v1 1 strC us, rArg v2 1 strC bs] := by
  refine (same_spec v1 v2 us bs hb).mono ?_
  rintro u L ⟨rfl, rfl⟩
  exact ⟨by rw [decide_eq_true he], rfl⟩
theorem actN_spec {B : Nat} (ad : Nat → Addr) (lb db : Nat) (d : PDisk) (Sd : Nat → Prop) (c hh zz : Nat) (pk : List (List Tx)) (rv : Value) (rs : List ByteArray) (cl : Bool) (hb : (packT (rs.map tx)).length ≤ 90000000) (hrl : rs.length < 1000000) (hv : Valid d.now.length d.now c hh zz pk) (hq : Quiet d) (hl : d.left = -1) (hc : c + 1 < ten10) :
    Spec Tryz.prog 16 #[.pointer (some ⟨lb, 0, none⟩), .agg #[.bool cl, rv]] [logCell lb db c hh zz false, rDisk B db d Sd, rTab, rEnv B ad [2, 3, 9, 15], rArg rv 1 strC rs] fun u L =>
      (¬ (if cl then 0 else zz) + (packB (rs.map tx)).length ≤ halfOf d.now.length * 64 ∧ u = errV ad 9 ∧ L = [logCell lb db c hh zz false, rDisk B db d Sd, rTab, rEnv B ad [2, 3, 9, 15], rArg rv 1 strC rs]) ∨
      (∃ (d' : PDisk) (S' : Nat → Prop) (c' h' z' : Nat) (pk' : List (List Tx)), Done d.now.length d d' c c' h' z' pk' ((if cl then [] else pk.flatten) ++ rs.map tx) ((if cl then 0 else pk.length) + 1) ∧ u = .nilIface ∧ L = [logCell lb db c' h' z' false, rDisk B db d' S', rTab, rEnv B ad [2, 3, 9, 15], rArg rv 1 strC rs]) := by
  refine (act_spec ad lb db d Sd c hh zz pk rv rs cl hb hrl hv hq hc).mono ?_
  rintro u L (h1 | h1 | ⟨d', S', hw, _⟩)
  · exact .inl h1
  · exact .inr h1
  · exact absurd hl hw.left
theorem crash0_spec {B b : Nat} (d : PDisk) (S : Nat → Prop) (v : Value) (keep : List Bool) (q : Quiet d) (h4 : d.now.length ≤ 4000) : Spec Tryz.prog 13 #[.pointer (some ⟨b, 0, none⟩), v] [rDisk B b d S, rRows true v 4 1 flagC keep] fun u L =>
    ∃ (d' : PDisk) (S' : Nat → Prop), d'.now = d.now ∧ d'.left = -1 ∧ Quiet d' ∧ u = .tuple #[] ∧ L = [rDisk B b d' S', rRows true v 4 1 flagC keep] := by
  refine (dcrash_spec v keep (by rw [q.kept]; exact h4) (by rw [q.waits]; intro p hp; cases hp)).mono ?_
  rintro u L ⟨S', rfl, rfl⟩
  have e : (pCrash d keep).now = d.now := by
    show crashK keep d.waits d.kept d.waits.length = _
    rw [q.waits, q.kept]; rfl
  exact ⟨_, S', e, rfl, ⟨rfl, rfl⟩, rfl, rfl⟩
/-- How LogKeeps' loop stands before record i. -/
structure LK (sc : Nat) (l : List Rec) (i : Nat) (ns : List ByteArray) (ads : Nat) (d : PDisk) (c h z : Nat) (pk : List (List Tx)) : Prop where
  valid : Valid d.now.length d.now c h z pk
  quiet : Quiet d
  left : d.left = -1
  len : d.now.length = sc
  cle : c ≤ i + 1
  pkl : pk.length ≤ ads + 1
  adl : ads ≤ i
  flat : pk.flatten = ns.map tx
  wt : wt16 (ns.map tx) ≤ wtL (l.take i)
section
variable {sc i ads c h z : Nat} {l : List Rec} {ns : List ByteArray} {d d' : PDisk} {pk pk' : List (List Tx)} {x : Rec} {c' h' z' : Nat}
theorem LK.full (k : LK sc l i ns ads d c h z pk) (hx : l[i]? = some x) : LK sc l (i + 1) ns ads d c h z pk := by
  have := wtL_next hx
  have := k.wt
  exact ⟨k.valid, k.quiet, k.left, k.len, Nat.le_succ_of_le k.cle, k.pkl, Nat.le_succ_of_le k.adl, k.flat, by omega⟩
theorem LK.wt2 (k : LK sc l i ns ads d c h z pk) (hx : l[i]? = some x) : wt16 (((if x.1 then [] else ns) ++ recL x).map tx) ≤ wtL (l.take (i + 1)) := by
  have h1 := wtL_next hx
  have h2 := k.wt
  rw [List.map_append, wt_app16]
  cases x.1
  · simp only [Bool.false_eq_true, if_false]; omega
  · simp only [if_true]
    have : wt16 (([] : List ByteArray).map tx) = 0 := rfl
    omega
theorem LK.done (k : LK sc l i ns ads d c h z pk) (hx : l[i]? = some x) (D : Done d.now.length d d' c c' h' z' pk' ((if x.1 then [] else pk.flatten) ++ (recL x).map tx) ((if x.1 then 0 else pk.length) + 1)) : LK sc l (i + 1) ((if x.1 then [] else ns) ++ recL x) (if x.1 then 0 else ads + 1) d' c' h' z' pk' := by
  have hl : d'.now.length = d.now.length := D.valid.len
  have h1 := D.len
  have h2 := k.pkl
  have h3 := k.adl
  have h4 := k.cle
  have h5 := D.cle
  refine ⟨by rw [hl]; exact D.valid, D.quiet, D.left k.left, hl.trans k.len, by omega, ?_, ?_, ?_, k.wt2 hx⟩
  · cases hb : x.1
    · rw [hb] at h1; simp at h1 ⊢; omega
    · rw [hb] at h1; simpa using h1
  · cases x.1
    · simp; omega
    · simp
  · rw [D.flat, k.flat, List.map_append]
    cases x.1 <;> rfl
theorem LK.nofit (k : LK sc l i ns ads d c h z pk) (hw : wtL l ≤ 1000000) (hx : l[i]? = some x) (hf : ¬ (if x.1 then 0 else z) + (packB ((recL x).map tx)).length ≤ halfOf d.now.length * 64) :
    ¬ 3 * (64 + 64 * (if x.1 then 0 else ads + 1) + wt16 (((if x.1 then [] else ns) ++ recL x).map tx)) ≤ sc * 64 := by
  intro hfit
  apply hf
  have h1 := wtL_next hx
  have h2 := wtL_take l (i + 1)
  have few : ∀ r ∈ (recL x).map tx, r.length < ten10 := few_of (N := 1000000) (Nat.le_trans (packT_wt (by omega)) (by omega))
  have hlen := k.len
  revert hfit
  cases x.1
  · simp only [Bool.false_eq_true, if_false]
    intro hfit
    rw [List.map_append, ← k.flat, ← hlen] at hfit
    exact room_add k.valid k.pkl few hfit
  · simp only [if_true]
    intro hfit
    rw [← hlen] at hfit
    have := room_clear k.valid.n8 few (by simpa using hfit)
    omega
end
theorem fitsN_spec (v : Value) (rs : List ByteArray) (adds : Nat) (sectors : Int) (sc : Nat) (hsc : sectors = (sc : Int)) (ha : adds ≤ 1000) (hs : sc ≤ 4000) (hb : wt16 (rs.map tx) ≤ 1000000) (hno : ¬ 3 * (64 + 64 * adds + wt16 (rs.map tx)) ≤ sc * 64) :
    Spec Tryz.prog 17 #[v, .int .i64 (adds : Int), .int .i64 sectors] [rArg v 1 strC rs] fun u L => u = .bool false ∧ L = [rArg v 1 strC rs] := by
  subst hsc
  refine (fits_spec v rs adds sc ha hs hb).mono ?_
  rintro u L ⟨rfl, rfl⟩
  exact ⟨by rw [decide_eq_false hno], rfl⟩

/- Beside the walk of LogFails. No condition. -/
theorem codedNo_spec {B : Nat} (ad : Nat → Addr) (c : Nat) (code : Int) (hc : c ≤ 15) (h : ¬ (c : Int) = code) : Spec Tryz.prog 10 #[errV ad c, .int .i64 code] [rEnvA B ad] fun u L => u = .bool false ∧ L = [rEnvA B ad] := by
  refine (codedA_spec ad c code hc).mono ?_
  rintro u L (⟨h1, _⟩ | ⟨_, h2⟩)
  · exact absurd h1 h
  · exact h2
theorem codedNil_spec {B : Nat} (ad : Nat → Addr) (code : Int) (h : ¬ (0 : Int) = code) : Spec Tryz.prog 10 #[.nilIface, .int .i64 code] [rEnvA B ad] fun u L => u = .bool false ∧ L = [rEnvA B ad] := by
  have := codedNo_spec (B := B) ad 0 code (by omega) h
  rwa [errV_zero] at this
/-- How LogFails' first loop stands before record i; lo: the power has gone. -/
structure LF (l : List Rec) (i : Nat) (ns ms : List ByteArray) (lo : Bool) (d : PDisk) (c h z : Nat) (pk : List (List Tx)) : Prop where
  pin : PIn 400 d
  cle : c ≤ i + 1
  wt : wt16 (ns.map tx) ≤ wtL (l.take i)
  wm : wt16 (ms.map tx) ≤ wtL (l.take i)
  on : lo = false → Valid d.now.length d.now c h z pk ∧ Quiet d ∧ pk.flatten = ns.map tx
  off : lo = true → ∀ keep, ∃ (c' h' z' : Nat) (pk' : List (List Tx)), Valid 400 (pCrash d keep).now c' h' z' pk' ∧ c' ≤ i + 1 ∧ (pk'.flatten = ns.map tx ∨ pk'.flatten = ms.map tx)
theorem PIn.quiet {d : PDisk} {n : Nat} (q : Quiet d) (hl : d.now.length = n) : PIn n d := ⟨by rw [q.kept]; exact hl, hl, fun p hp => by rw [q.waits] at hp; cases hp⟩
section
variable {i c h z : Nat} {l : List Rec} {ns ms : List ByteArray} {d d' : PDisk} {pk pk' : List (List Tx)} {x : Rec} {c' h' z' : Nat} {lo : Bool}
theorem LF.start {d0 : PDisk} (v : Valid d0.now.length d0.now 1 0 0 []) (q : Quiet d0) (hl : d0.now.length = 400) (left : Int) : LF l 0 [] [] false { d0 with left := left } 1 0 0 [] :=
  ⟨⟨by show d0.kept.length = _; rw [q.kept]; exact hl, hl, fun p hp => by have hp : p ∈ d0.waits := hp; rw [q.waits] at hp; cases hp⟩, Nat.le_refl _, Nat.zero_le _, Nat.zero_le _, fun _ => ⟨v, ⟨q.kept, q.waits⟩, rfl⟩, fun e => (by cases e)⟩
theorem LF.stay (k : LF l i ns ms lo d c h z pk) (hx : l[i]? = some x) : LF l (i + 1) ns ms lo d c h z pk := by
  have := wtL_next hx
  have := k.wt
  have := k.wm
  refine ⟨k.pin, Nat.le_succ_of_le k.cle, by omega, by omega, k.on, fun e keep => ?_⟩
  obtain ⟨a1, a2, a3, a4, a5, a6, a7⟩ := k.off e keep
  exact ⟨a1, a2, a3, a4, a5, Nat.le_succ_of_le a6, a7⟩
theorem LF.wt2 (k : LF l i ns ms lo d c h z pk) (hx : l[i]? = some x) : wt16 (((if x.1 then [] else ns) ++ recL x).map tx) ≤ wtL (l.take (i + 1)) := by
  have h1 := wtL_next hx
  have h2 := k.wt
  rw [List.map_append, wt_app16]
  cases x.1
  · simp only [Bool.false_eq_true, if_false]; omega
  · simp only [if_true]
    have : wt16 (([] : List ByteArray).map tx) = 0 := rfl
    omega
theorem LF.new (k : LF l i ns ms false d c h z pk) (hx : l[i]? = some x) : (if x.1 then [] else pk.flatten) ++ (recL x).map tx = ((if x.1 then [] else ns) ++ recL x).map tx := by
  rw [(k.on rfl).2.2, List.map_append]
  cases x.1 <;> rfl
theorem LF.done (k : LF l i ns ms false d c h z pk) (hx : l[i]? = some x) {m : Nat} (D : Done d.now.length d d' c c' h' z' pk' ((if x.1 then [] else pk.flatten) ++ (recL x).map tx) m) : LF l (i + 1) ((if x.1 then [] else ns) ++ recL x) ms false d' c' h' z' pk' := by
  have hl : d'.now.length = d.now.length := D.valid.len
  have h1 := k.cle
  have h2 := D.cle
  have h3 := k.wm
  have h4 := wtL_next hx
  refine ⟨PIn.quiet D.quiet (hl.trans k.pin.now), by omega, k.wt2 hx, by omega, fun _ => ⟨by rw [hl]; exact D.valid, D.quiet, D.flat.trans (k.new hx)⟩, fun e => (by cases e)⟩
theorem LF.went (k : LF l i ns ms false d c h z pk) (hx : l[i]? = some x) (W : Went d.now.length d d' c pk.flatten ((if x.1 then [] else pk.flatten) ++ (recL x).map tx)) : LF l (i + 1) ns ((if x.1 then [] else ns) ++ recL x) true d' c h z pk := by
  have h1 := k.cle
  have h3 := k.wt
  have h4 := wtL_next hx
  refine ⟨by rw [← k.pin.now]; exact W.pin, by omega, by omega, k.wt2 hx, fun e => (by cases e), fun _ keep => ?_⟩
  obtain ⟨c1, h1, z1, pk1, hv, hc, hf⟩ := W.crash keep
  rw [k.new hx, (k.on rfl).2.2] at hf
  rw [k.pin.now] at hv
  exact ⟨c1, h1, z1, pk1, hv, by omega, hf⟩
end
/-- How LogFails' second loop stands before record i. -/
structure LG (N : Nat) (l : List Rec) (i : Nat) (ns : List ByteArray) (d : PDisk) (c h z : Nat) (pk : List (List Tx)) : Prop where
  valid : Valid d.now.length d.now c h z pk
  quiet : Quiet d
  left : d.left = -1
  len : d.now.length = 400
  cle : c ≤ N + i
  flat : pk.flatten = ns.map tx
  wt : wt16 (ns.map tx) ≤ N + wtL (l.take i)
section
variable {i c h z N : Nat} {l : List Rec} {ns ms : List ByteArray} {d d' : PDisk} {pk pk' : List (List Tx)} {x : Rec} {c' h' z' : Nat} {lo : Bool}
theorem LG.stay (k : LG N l i ns d c h z pk) (hx : l[i]? = some x) : LG N l (i + 1) ns d c h z pk := by
  have := wtL_next hx
  have := k.wt
  exact ⟨k.valid, k.quiet, k.left, k.len, Nat.le_succ_of_le k.cle, k.flat, by omega⟩
theorem LG.done (k : LG N l i ns d c h z pk) (hx : l[i]? = some x) {m : Nat} (D : Done d.now.length d d' c c' h' z' pk' ((if x.1 then [] else pk.flatten) ++ (recL x).map tx) m) : LG N l (i + 1) ((if x.1 then [] else ns) ++ recL x) d' c' h' z' pk' := by
  have hl : d'.now.length = d.now.length := D.valid.len
  have h1 := k.cle
  have h2 := D.cle
  have h3 := k.wt
  have h4 := wtL_next hx
  refine ⟨by rw [hl]; exact D.valid, D.quiet, D.left k.left, hl.trans k.len, by omega, ?_, ?_⟩
  · rw [D.flat, k.flat, List.map_append]
    cases x.1 <;> rfl
  · rw [List.map_append, wt_app16]
    cases x.1
    · simp only [Bool.false_eq_true, if_false]; omega
    · simp only [if_true]
      have : wt16 (([] : List ByteArray).map tx) = 0 := rfl
      omega
end
theorem dfailN_spec {B b : Nat} {d : PDisk} {S : Nat → Prop} (ad : Nat → Addr) (n : Int) (h0 : 0 ≤ n) (hn : n ≤ 9223372036854775807) : Spec Tryz.prog 19 #[.pointer (some ⟨b, 0, none⟩), .int .i64 n] [rDisk B b d S, rEnv B ad [2]] fun u L => ∃ S', u = .nilIface ∧ L = [rDisk B b { d with left := n } S', rEnv B ad [2]] := by
  refine (dfail_spec ad n hn).mono ?_
  rintro u L ⟨S', rfl, rfl⟩
  have e : pFail d n = ({ d with left := n }, 0) := by unfold pFail; rw [if_neg (by omega)]
  rw [e]
  exact ⟨S', errV_zero, rfl⟩
theorem crashF_spec {B b : Nat} {i c h z : Nat} {l more : List Rec} {ns ms : List ByteArray} {lo : Bool} {d : PDisk} {pk : List (List Tx)} (k : LF l i ns ms lo d c h z pk) (hi : i ≤ 1000) (hw : wtL l ≤ 20000) (S : Nat → Prop) (v : Value) (keep : List Bool) :
    Spec Tryz.prog 13 #[.pointer (some ⟨b, 0, none⟩), v] [rDisk B b d S, rRows true v 4 1 flagC keep] fun u L =>
    (∃ (d' : PDisk) (S' : Nat → Prop) (c' h' z' : Nat) (pk' : List (List Tx)), LG 20000 more 0 ns d' c' h' z' pk' ∧ u = .tuple #[] ∧ L = [rDisk B b d' S', rRows true v 4 1 flagC keep]) ∨
    (∃ (d' : PDisk) (S' : Nat → Prop) (c' h' z' : Nat) (pk' : List (List Tx)), lo = true ∧ LG 20000 more 0 ms d' c' h' z' pk' ∧ u = .tuple #[] ∧ L = [rDisk B b d' S', rRows true v 4 1 flagC keep]) := by
  refine (dcrash_spec v keep (by rw [k.pin.kept]; omega) (by rw [k.pin.kept]; exact k.pin.ins)).mono ?_
  rintro u L ⟨S', rfl, rfl⟩
  have hq : Quiet (pCrash d keep) := ⟨rfl, rfl⟩
  have w1 := wtL_take l i
  have w2 := k.wt
  have w3 := k.wm
  cases lo
  · obtain ⟨hv, q, hf⟩ := k.on rfl
    have e : (pCrash d keep).now = d.now := by
      show crashK keep d.waits d.kept d.waits.length = _
      rw [q.waits, q.kept]; rfl
    have := k.cle
    exact .inl ⟨_, S', c, h, z, pk, ⟨by rw [e]; exact hv, hq, rfl, by rw [e]; exact k.pin.now, by omega, hf, by omega⟩, rfl, rfl⟩
  · obtain ⟨c', h', z', pk', hv, hc, hf | hf⟩ := k.off rfl keep
    · exact .inl ⟨_, S', c', h', z', pk', ⟨by rw [hv.len]; exact hv, hq, rfl, hv.len, by omega, hf, by omega⟩, rfl, rfl⟩
    · exact .inr ⟨_, S', c', h', z', pk', rfl, ⟨by rw [hv.len]; exact hv, hq, rfl, hv.len, by omega, hf, by omega⟩, rfl, rfl⟩

/- Beside the walk of LogNone. No condition. -/
section
variable {P : Program} {a : Act} {w w0 : World} {E : Ent} {L M : List Res} {K : Act → World → Prop} {Q : Exit → Act → World → Prop} {ops : Array Oper} {rest : List Oper}
variable {dst : Option Tmp} {x : Operand} {T ty : TypeId} {pos : String} {after : Array Edge} {g : Option (Nat × Bool)} {v : Value}
/-- A whole slice appended, told by the bytes of an element. -/
theorem op_appB {α : Type} {enc : α → List Value} {l l2 : List α} {s : Operand} {v2 z : Value} {size bytes : Nat} {d : TypeId} {r : Res}
    (hx : (a.eval s, a.eval x, P.underlying T, (P.info? d).map (fun i => (i.zero, i.size, i.bytes))) = (v, v2, some (.slice d), some (some z, size, bytes))) (hz : z.cells.size = size) (h8 : 0 < size) (he : ∀ x, (enc x).length = size) (h1 : ∀ x, (enc x).all (·.oneCell') = true)
    (h : Own w0 E L w) (i : Nat) (hi' : L[i]? = some (rRows true v d size enc l)) (j : Nat) (hj : L[j]? = some r) (hr : SlRd r v2 l2.length (l2.flatMap enc)) (hb : (l.length + l2.length) * bytes ≤ 140737488355328) (h63 : l.length + l2.length ≤ maxLen)
    (hK : ∀ v' w', Own w0 E (L.set i (rRows true v' d size enc (l ++ l2))) w' → K (a.put dst v') w') : Oper.wp P ⟨dst, .call { callee := .builtin .append, args := #[s, x], argTypes := #[T, T] }, ty, pos, after, g⟩ a w K Q := by
  simp only [Prod.mk.injEq] at hx
  obtain ⟨hs, hx2, h3, h4⟩ := hx
  obtain ⟨⟨ad, cap, e, _, _, had⟩, hcells⟩ := hr w (h.fact j hj)
  have hf : SliceAt w v d size l.length (l.flatMap enc) (blkOf v) := h.fact i hi'
  have key : ∃ v' w' S', (Builtin.append_ #[T, T] ty #[v, a.eval x]).run P w = .ok v' w' ∧ SliceAt w' v' d size (l.length + l2.length) (l.flatMap enc ++ l2.flatMap enc) S' ∧ Chg (blkOf v) w w' ∧ Grow (blkOf v) S' w w' := by
    rw [hx2, e]
    cases ad with
    | none =>
      have h0 : l2 = [] := by
        rcases Nat.eq_zero_or_pos l2.length with h0 | h0
        · exact List.length_eq_zero_iff.1 h0
        · cases had 0 h0
      subst h0
      obtain ⟨ii, hii, _⟩ := info_parts h4
      exact ⟨v, w, blkOf v, run_append_none h3 hii hf, by simpa using hf, Chg.refl _ _, Grow.refl _ _ _⟩
    | some q =>
      refine run_appendS (P := P) (ty := ty) (c := cap) h3 h4 hz h8 hf (a := q) (m := l2.length) (news := l2.flatMap enc) (by rw [flat_len enc he]) (fun jj u hu => ?_) (fun u hu => ?_) h63 hb
      · rcases Nat.eq_zero_or_pos l2.length with h0 | h0
        · obtain rfl := List.length_eq_zero_iff.1 h0
          simp at hu
        · obtain rfl := Option.some.inj (had 0 h0)
          rw [Addr.add_lit]
          exact hcells jj u hu
      · obtain ⟨y, _, hy⟩ := List.mem_flatMap.1 hu
        exact List.all_eq_true.1 (h1 y) u hy
  obtain ⟨v', w', S', hrun, hs', hc, hg⟩ := key
  obtain ⟨hs1, hs2⟩ := hs'.own
  unfold Oper.wp
  simp [execOp, resolve, invoke, builtin, hs, hrun, Result.andThen, Oper.upon]
  refine hK _ _ (h.upd i hi' rfl hc ?_ (fun b hb => ?_))
  · show SliceAt w' v' d size (l ++ l2).length ((l ++ l2).flatMap enc) _
    rw [List.flatMap_append, List.length_append]
    exact hs1
  · rcases hg b (hs2 b hb) with h | h
    · exact .inl h
    · exact .inr h.1
theorem sq_appB {α : Type} {enc : α → List Value} {l l2 : List α} {s : Operand} {v2 z : Value} {size bytes : Nat} {d : TypeId} {r : Res} (hg : Region.wanted ⟨dst, .call { callee := .builtin .append, args := #[s, x], argTypes := #[T, T] }, ty, pos, after, g⟩ (yielded ops a.tmps) = true)
    (hx : (a.eval s, a.eval x, P.underlying T, (P.info? d).map (fun i => (i.zero, i.size, i.bytes))) = (v, v2, some (.slice d), some (some z, size, bytes))) (hz : z.cells.size = size) (h8 : 0 < size) (he : ∀ x, (enc x).length = size) (h1 : ∀ x, (enc x).all (·.oneCell') = true)
    (h : Own w0 E L w) (i : Nat) (hi' : L[i]? = some (rRows true v d size enc l)) (j : Nat) (hj : L[j]? = some r) (hr : SlRd r v2 l2.length (l2.flatMap enc)) (hb : (l.length + l2.length) * bytes ≤ 140737488355328) (h63 : l.length + l2.length ≤ maxLen)
    (hK : ∀ v' w', Own w0 E (L.set i (rRows true v' d size enc (l ++ l2))) w' → LW P ops Q rest (a.put dst v') w') : LW P ops Q (⟨dst, .call { callee := .builtin .append, args := #[s, x], argTypes := #[T, T] }, ty, pos, after, g⟩ :: rest) a w :=
  ⟨sqg hg (op_appB hx hz h8 he h1 h i hi' j hj hr hb h63 fun v' w' h => (hK v' w' h).out)⟩
end
def slF (x : Option Addr × Nat × List Bool) : Value := .slice x.1 x.2.2.length x.2.1
def actC (x : XAct) : List Value := [.string x.1, .int .i64 x.2.1, .string x.2.2.1, slF x.2.2.2.1]
theorem actC_len (x : XAct) : (actC x).length = 4 := rfl
abbrev actK (x : XAct) : List Bool := x.2.2.2.1.2.2
abbrev actR (x : XAct) : Res := rArg (slF x.2.2.2.1) 1 flagC (actK x)
/-- All sectors, and all writes that wait, have 64 bytes. -/
structure PSz (d : PDisk) : Prop where
  kept : ∀ s ∈ d.kept, s.size = 64
  now : ∀ s ∈ d.now, s.size = 64
  waits : ∀ p ∈ d.waits, p.2.size = 64
theorem PSz.spend {d : PDisk} (h : PSz d) : PSz (pSpend d).1 := by
  obtain ⟨h1, h2, h3⟩ := pSpend_same d
  exact ⟨by rw [h1]; exact h.kept, by rw [h2]; exact h.now, by rw [h3]; exact h.waits⟩
theorem psz_set {l : List ByteArray} (h : ∀ s ∈ l, s.size = 64) {i : Nat} {t : ByteArray} (ht : t.size = 64) : ∀ s ∈ l.set i t, s.size = 64 := fun s hs => by
  rcases List.mem_or_eq_of_mem_set hs with hm | rfl
  · exact h s hm
  · exact ht
theorem psz_crash {keep : List Bool} {waits : List (Int × ByteArray)} {kept : List ByteArray} (hw : ∀ p ∈ waits, p.2.size = 64) (hk : ∀ s ∈ kept, s.size = 64) : ∀ m, ∀ s ∈ crashK keep waits kept m, s.size = 64
  | 0 => hk
  | m + 1 => by
    have h := psz_crash (keep := keep) hw hk m
    unfold crashK
    split
    · rename_i p hp
      unfold kStep
      split
      · exact psz_set h (hw _ (List.mem_of_getElem? hp))
      · exact h
    · exact h
theorem PSz.act {d : PDisk} (h : PSz d) (k : ByteArray) (i : Int) (s : ByteArray) (keep : List Bool) : PSz (pAct d k i s keep).1 := by
  unfold pAct
  split
  · unfold pWrite
    split
    · exact h
    · split
      · exact h
      · rename_i hs
        split
        · have hsp := h.spend
          have ht : (padS s).size = 64 := padS_size (by omega)
          refine ⟨hsp.kept, psz_set hsp.now ht, fun p hp => ?_⟩
          rcases List.mem_append.1 hp with hp | hp
          · exact hsp.waits p hp
          · rw [List.mem_singleton.1 hp]; exact ht
        · exact h.spend
  · split
    · unfold pFlush
      split
      · exact ⟨h.spend.now, h.spend.now, fun p hp => (by cases hp)⟩
      · exact h.spend
    · split
      · unfold pFail
        split
        · exact h
        · exact ⟨h.kept, h.now, h.waits⟩
      · split
        · exact ⟨psz_crash h.waits h.kept _, psz_crash h.waits h.kept _, fun p hp => (by cases hp)⟩
        · exact h
/-- How LogNone's loop stands. -/
structure LN (sc i : Nat) (d : PDisk) : Prop where
  pok : POk sc i d
  sz : PSz d
theorem LN.new (sc : Nat) : LN sc 0 (pNew sc) := ⟨pok_new sc, by
  obtain ⟨_, _, _, h⟩ := new_left sc
  exact ⟨h, h, fun p hp => by simp [pNew] at hp⟩⟩
theorem LN.fmt {sc c h z : Nat} {d : PDisk} {pk : List (List Tx)} (v : Valid d.now.length d.now c h z pk) (q : Quiet d) (hl : d.now.length = sc) : LN sc 0 d :=
  ⟨⟨by rw [q.kept]; exact hl, hl, fun p hp => by (rw [q.waits] at hp; cases hp), by rw [q.waits]; exact Nat.le_refl _⟩, ⟨by rw [q.kept]; exact v.sz, v.sz, fun p hp => by (rw [q.waits] at hp; cases hp)⟩⟩
theorem LN.act {sc i : Nat} {d : PDisk} (h : LN sc i d) (k : ByteArray) (n : Int) (s : ByteArray) (keep : List Bool) : LN sc (i + 1) (pAct d k n s keep).1 := ⟨h.pok.act k n s keep, h.sz.act k n s keep⟩
theorem fail_same {d : PDisk} {n : Int} {B b : Nat} {S : Nat → Prop} : rDisk B b (pFail d n).1 S = rDisk B b (pFail d n).1 S := rfl
theorem pAct_w {d : PDisk} {k : ByteArray} (n : Int) (s : ByteArray) (keep : List Bool) (h : k = kwW) : pAct d k n s keep = pWrite d n s := by unfold pAct; rw [if_pos h]
theorem pAct_f {d : PDisk} {k : ByteArray} (n : Int) (s : ByteArray) (keep : List Bool) (h1 : ¬ k = kwW) (h : k = kwF) : pAct d k n s keep = pFlush d := by unfold pAct; rw [if_neg h1, if_pos h]
theorem pAct_p {d : PDisk} {k : ByteArray} (n : Int) (s : ByteArray) (keep : List Bool) (h1 : ¬ k = kwW) (h2 : ¬ k = kwF) (h : k = kwP) : pAct d k n s keep = pFail d n := by unfold pAct; rw [if_neg h1, if_neg h2, if_pos h]
theorem pAct_c {d : PDisk} {k : ByteArray} (n : Int) (s : ByteArray) (keep : List Bool) (h1 : ¬ k = kwW) (h2 : ¬ k = kwF) (h3 : ¬ k = kwP) (h : k = kwC) : pAct d k n s keep = (pCrash d keep, 0) := by unfold pAct; rw [if_neg h1, if_neg h2, if_neg h3, if_pos h]
theorem pAct_n {d : PDisk} {k : ByteArray} (n : Int) (s : ByteArray) (keep : List Bool) (h1 : ¬ k = kwW) (h2 : ¬ k = kwF) (h3 : ¬ k = kwP) (h : ¬ k = kwC) : pAct d k n s keep = (d, 0) := by unfold pAct; rw [if_neg h1, if_neg h2, if_neg h3, if_neg h]
theorem openNew_spec {B : Nat} (ad : Nat → Addr) (a1 a2 : Addr) (db : Nat) (n : Nat) (Sd : Nat → Prop) (h1 : 1 ≤ n) (h4 : n ≤ 4000) :
    Spec Tryz.prog 9 #[.pointer (some ⟨db, 0, none⟩)] [rDisk B db (pNew n) Sd, rNumE a1 a2, rTab, rEnv B ad [1, 2]] fun u L => u = .tuple #[.pointer none, .slice none 0 0, errV ad 1] ∧ L = [rDisk B db (pNew n) Sd, rNumE a1 a2, rTab, rEnv B ad [1, 2]] := by
  obtain ⟨_, e2, _, e4⟩ := new_left n
  refine (open_spec ad a1 a2 db (pNew n) Sd (by omega) (by omega) e4).mono ?_
  rintro u L (⟨h1, rfl, rfl⟩ | ⟨lb, vv, c', h', z', rs, h1, rfl, rfl⟩)
  · exact ⟨rfl, rfl⟩
  · rw [open_new (n := n) (now := (pNew n).now) rfl] at h1; cases h1
theorem crashN_spec {B b sc i : Nat} {d : PDisk} {S : Nat → Prop} (k : LN sc i d) (h4 : sc ≤ 4000) (v : Value) : Spec Tryz.prog 13 #[.pointer (some ⟨b, 0, none⟩), v] [rDisk B b d S, rRows true v 4 1 flagC []] fun u L =>
    ∃ (d' : PDisk) (S' : Nat → Prop), d'.now.length = sc ∧ (∀ s ∈ d'.now, s.size = 64) ∧ u = .tuple #[] ∧ L = [rDisk B b d' S', rRows true v 4 1 flagC []] := by
  refine (dcrash_spec v [] (by rw [k.pok.kept]; omega) (by rw [k.pok.kept]; exact k.pok.ins)).mono ?_
  rintro u L ⟨S', rfl, rfl⟩
  refine ⟨_, S', ?_, ?_, rfl, rfl⟩
  · show (crashK [] d.waits d.kept d.waits.length).length = sc
    rw [crashK_len, k.pok.kept]
  · exact psz_crash k.sz.waits k.sz.kept _

/- logp: contracts by what is owned (printed by walk.py). -/
theorem doAct_spec {B : Nat} (ad : Nat → Addr) (db : Nat) (d : PDisk) (Sd : Nat → Prop) (k : ByteArray) (n : Int) (s : ByteArray) (kv : Value) (keep : List Bool) (hn : n ≤ 9223372036854775807) (hf : (d.waits.length + 1) * 24 ≤ 140737488355328) (hk : keep.length ≤ 140737488355327) (f1 : d.kept.length ≤ 4000) (f2 : d.now.length ≤ 4000) (hin : ∀ p ∈ d.waits, 0 ≤ p.1 ∧ p.1 < d.kept.length)  : Spec Tryz.prog 12 #[.pointer (some ⟨db, 0, none⟩), .agg #[.string k, .int .i64 n, .string s, kv]] [rDisk B db d Sd, rEnv B ad [2, 3, 15], rArg kv 1 flagC keep] (fun u L => ∃ S', u = errV ad (pAct d k n s keep).2 ∧ L = [rDisk B db (pAct d k n s keep).1 S', rEnv B ad [2, 3, 15], rArg kv 1 flagC keep]) := by
  refine spec_of (#[.pointer (some ⟨db, 0, none⟩), .agg #[.string k, .int .i64 n, .string s, kv], undef, undef, undef, undef, undef, undef, undef, undef, undef, undef, undef, undef, undef, undef, undef, undef, undef, undef, undef, undef, undef, undef, undef, undef, undef, undef, undef, undef, undef, undef, undef, undef, undef, undef]) Tryz.func12 rfl (by kernel_rfl) fun E w0 w h => ?_
  have h := h.eSub [15] 1 rfl
  have h := h.eSub [2] 2 rfl
  refine c_seq ?_
  refine c_reg ?_
  refine sq_new rfl (fun b => .pointer (some ⟨b, 0, none⟩)) [.string k, .int .i64 n, .string s, kv] 40 (fun _ => by kernel_rfl) h ?_; intro k1 w h
  refine sq_p (.nilIface) rfl (fun _ => by kernel_rfl) ?_
  refine lnil ?_
  refine thn_n ?_
  refine c_seq ?_
  refine c_seq ?_
  refine c_reg ?_
  refine sq_p (.pointer (some ⟨k1, 0, none⟩)) rfl (fun _ => by kernel_rfl) ?_
  refine sq_q rfl h (g_ld 0 [.string k] (.string k) (by kernel_rfl) 0 rfl) ?_
  refine lnil ?_
  refine thn_n ?_
  refine c_block ?_
  refine c_seq ?_
  refine c_reg ?_
  refine sq_q rfl h (g_eq (v := .bool (k.toList == (⟨#[119, 114, 105, 116, 101]⟩ : ByteArray).toList)) (v' := .bool (decide (k = (⟨#[119, 114, 105, 116, 101]⟩ : ByteArray)))) (g_pure fun _ => by kernel_rfl) beqS) ?_
  refine sq_p (.bool (decide (k = (⟨#[119, 114, 105, 116, 101]⟩ : ByteArray)))) rfl (fun _ => by kernel_rfl) ?_
  refine lnil ?_
  refine thn_n ?_
  refine c_cond (decide (k = (⟨#[119, 114, 105, 116, 101]⟩ : ByteArray))) (by kernel_rfl) (fun hc2 => ?_) (fun hc2 => ?_)
  · skip
    have hc2 := of_decide_eq_true hc2
    refine c_seq ?_
    refine c_reg ?_
    refine sq_p (.pointer (some ⟨db, 0, none⟩)) rfl (fun _ => by kernel_rfl) ?_
    refine sq_p (.pointer (some ⟨k1, 1, none⟩)) rfl (fun _ => by kernel_rfl) ?_
    refine sq_q rfl h (g_ld 1 [.int .i64 n] (.int .i64 n) (by kernel_rfl) 0 rfl) ?_
    refine sq_p (.pointer (some ⟨k1, 2, none⟩)) rfl (fun _ => by kernel_rfl) ?_
    refine sq_q rfl h (g_ld 2 [.string s] (.string s) (by kernel_rfl) 0 rfl) ?_
    refine sq_call #[.pointer (some ⟨db, 0, none⟩), .int .i64 n, .string s] [3, 3] rfl (dwrite_spec (B := B) (b := db) (d := d) (S := Sd) ad n s hf) (fun _ => by kernel_rfl) h ?_; rintro v_ L_ w ⟨Sx3, rfl, rfl⟩ h
    refine sq_p (errV ad ((pWrite d n s).2)) rfl (fun _ => by kernel_rfl) ?_
    refine lnil ?_
    refine thn_n ?_
    refine c_ret ?_
    refine blk_r (thn_r ?_)
    refine ret_end [errV ad ((pWrite d n s).2)] [0, 0, 3] h (by kernel_rfl) (res_t (by kernel_rfl) res_n) ?_
    refine ⟨Sx3, ?_, ?_⟩
    · rw [pAct_w n s keep hc2]; first | rfl | exact errV_zero.symm
    · rw [pAct_w n s keep hc2]; first | rfl | (simp; done)
  · skip
    have hc2 := of_decide_eq_false hc2
    refine c_seq ?_
    refine c_reg ?_
    refine sq_q rfl h (g_eq (v := .bool (k.toList == (⟨#[102, 108, 117, 115, 104]⟩ : ByteArray).toList)) (v' := .bool (decide (k = (⟨#[102, 108, 117, 115, 104]⟩ : ByteArray)))) (g_pure fun _ => by kernel_rfl) beqS) ?_
    refine sq_p (.bool (decide (k = (⟨#[102, 108, 117, 115, 104]⟩ : ByteArray)))) rfl (fun _ => by kernel_rfl) ?_
    refine lnil ?_
    refine thn_n ?_
    refine c_cond (decide (k = (⟨#[102, 108, 117, 115, 104]⟩ : ByteArray))) (by kernel_rfl) (fun hc4 => ?_) (fun hc4 => ?_)
    · skip
      have hc4 := of_decide_eq_true hc4
      refine c_seq ?_
      refine c_reg ?_
      refine sq_p (.pointer (some ⟨db, 0, none⟩)) rfl (fun _ => by kernel_rfl) ?_
      refine sq_call #[.pointer (some ⟨db, 0, none⟩)] [3, 2] rfl (dflush_spec (B := B) (b := db) (d := d) (S := Sd) ad f2) (fun _ => by kernel_rfl) h ?_; rintro v_ L_ w ⟨Sx5, rfl, rfl⟩ h
      refine sq_p (errV ad ((pFlush d).2)) rfl (fun _ => by kernel_rfl) ?_
      refine lnil ?_
      refine thn_n ?_
      refine c_ret ?_
      refine blk_r (thn_r ?_)
      refine ret_end [errV ad ((pFlush d).2)] [0, 3, 3] h (by kernel_rfl) (res_t (by kernel_rfl) res_n) ?_
      refine ⟨Sx5, ?_, ?_⟩
      · rw [pAct_f n s keep hc2 hc4]; first | rfl | exact errV_zero.symm
      · rw [pAct_f n s keep hc2 hc4]; first | rfl | (simp; done)
    · skip
      have hc4 := of_decide_eq_false hc4
      refine c_seq ?_
      refine c_reg ?_
      refine sq_q rfl h (g_eq (v := .bool (k.toList == (⟨#[102, 97, 105, 108]⟩ : ByteArray).toList)) (v' := .bool (decide (k = (⟨#[102, 97, 105, 108]⟩ : ByteArray)))) (g_pure fun _ => by kernel_rfl) beqS) ?_
      refine sq_p (.bool (decide (k = (⟨#[102, 97, 105, 108]⟩ : ByteArray)))) rfl (fun _ => by kernel_rfl) ?_
      refine lnil ?_
      refine thn_n ?_
      refine c_cond (decide (k = (⟨#[102, 97, 105, 108]⟩ : ByteArray))) (by kernel_rfl) (fun hc6 => ?_) (fun hc6 => ?_)
      · skip
        have hc6 := of_decide_eq_true hc6
        refine c_seq ?_
        refine d_start 7 [0] (by kernel_rfl) h fun w h => ?_
        refine d_take 0 24 [0] rfl (v := .pointer (some ⟨db, 0, none⟩)) (by kernel_rfl) (qp_thn (qp_blk (qp_thn qp_body))) (yq (by kernel_rfl) (g_pure (v := .pointer (some ⟨db, 0, none⟩)) fun _ => by kernel_rfl)) h (by kernel_rfl) ?_
        refine d_take 1 25 [0] rfl (v := .pointer (some ⟨db, 0, none⟩)) (by kernel_rfl) (qp_thn (qp_blk (qp_thn qp_body))) (yq (by kernel_rfl) (g_pure (v := .pointer (some ⟨db, 0, none⟩)) fun _ => by kernel_rfl)) h (by kernel_rfl) ?_
        refine d_take 2 27 [0] rfl (v := .pointer (some ⟨db, 0, none⟩)) (by kernel_rfl) (qp_thn (qp_blk (qp_thn qp_body))) (yq (by kernel_rfl) (g_pure (v := .pointer (some ⟨db, 0, none⟩)) fun _ => by kernel_rfl)) h (by kernel_rfl) ?_
        refine d_take 3 7 [0] rfl (v := .pointer (some ⟨k1, 1, none⟩)) (by kernel_rfl) (qp_thn (qp_blk (qp_thn qp_body))) (yq (by kernel_rfl) (g_pure (v := .pointer (some ⟨k1, 1, none⟩)) fun _ => by kernel_rfl)) h (by kernel_rfl) ?_
        refine d_take 4 15 [0] rfl (v := .int .i64 n) (by kernel_rfl) (qp_thn (qp_blk (qp_thn qp_body))) (yq (by kernel_rfl) (g_ld 1 [.int .i64 n] (.int .i64 n) (by kernel_rfl) 0 rfl)) h (by kernel_rfl) ?_
        refine d_ready [5] (by kernel_rfl) rfl ?_
        refine ad_call #[.pointer (some ⟨db, 0, none⟩), .int .i64 n] [3, 1] [2] rfl (by kernel_rfl) (dfail_spec (B := B) (b := db) (d := d) (S := Sd) ad n hn) (fun _ => by kernel_rfl) h ?_ ?_
        · skip
          rintro v_ L_ w ⟨Sx7, rfl, rfl⟩ h
          refine ⟨by kernel_rfl, ?_⟩
          refine d_take 6 63 [2] rfl (v := errV ad ((pFail d n).2)) (by kernel_rfl) (qp_thn (qp_blk (qp_thn qp_body))) (yq (by kernel_rfl) (g_pure (v := errV ad ((pFail d n).2)) fun _ => by kernel_rfl)) h (by kernel_rfl) ?_
          refine d_done (by kernel_rfl) ?_
          refine thn_n ?_
          refine c_ret ?_
          refine blk_r (thn_r ?_)
          refine ret_end [errV ad ((pFail d n).2)] [0, 3, 3] h (by kernel_rfl) (res_t (by kernel_rfl) res_n) ?_
          refine ⟨Sx7, ?_, ?_⟩
          · rw [pAct_p n s keep hc2 hc4 hc6]; first | rfl | exact errV_zero.symm
          · rw [pAct_p n s keep hc2 hc4 hc6]; first | rfl | (simp; done)
        exact ad_nil
      · skip
        have hc6 := of_decide_eq_false hc6
        refine c_seq ?_
        refine c_reg ?_
        refine sq_q rfl h (g_eq (v := .bool (k.toList == (⟨#[99, 114, 97, 115, 104]⟩ : ByteArray).toList)) (v' := .bool (decide (k = (⟨#[99, 114, 97, 115, 104]⟩ : ByteArray)))) (g_pure fun _ => by kernel_rfl) beqS) ?_
        refine sq_p (.bool (decide (k = (⟨#[99, 114, 97, 115, 104]⟩ : ByteArray)))) rfl (fun _ => by kernel_rfl) ?_
        refine lnil ?_
        refine thn_n ?_
        refine c_cond (decide (k = (⟨#[99, 114, 97, 115, 104]⟩ : ByteArray))) (by kernel_rfl) (fun hc8 => ?_) (fun hc8 => ?_)
        · skip
          have hc8 := of_decide_eq_true hc8
          refine c_seq ?_
          refine c_reg ?_
          refine sq_p (.slice none 0 0) rfl (fun _ => by kernel_rfl) ?_
          refine lnil ?_
          refine thn_n ?_
          refine c_reg ?_
          refine sq_p (.pointer (some ⟨db, 0, none⟩)) rfl (fun _ => by kernel_rfl) ?_
          refine sq_p (.slice none 0 0) rfl (fun _ => by kernel_rfl) ?_
          refine sq_p (.pointer (some ⟨k1, 3, none⟩)) rfl (fun _ => by kernel_rfl) ?_
          refine sq_q rfl h (g_ld 3 [kv] (kv) (by kernel_rfl) 0 rfl) ?_
          have h := h.nilRows 4 1 flagC
          refine sq_appB rfl (z := .bool false) (bytes := 1) (by kernel_rfl) rfl (by decide) flagC_len (fun _ => rfl) h 0 rfl 6 rfl (slRd_arg flagC_len (by decide)) (by (try simp only [List.length_nil]); omega) (by (try simp only [List.length_nil]); unfold maxLen; omega) ?_; intro v9 w h
          refine sq_call #[.pointer (some ⟨db, 0, none⟩), v9] [4, 0] rfl (dcrash_spec (B := B) (b := db) (d := d) (S := Sd) v9 ([] ++ keep) f1 hin) (fun _ => by kernel_rfl) h ?_; rintro v_ L_ w ⟨Sx10, rfl, rfl⟩ h
          refine lnil ?_
          refine blk_n (thn_n ?_)
          refine c_seq ?_
          refine c_reg ?_
          refine sq_p (.nilIface) rfl (fun _ => by kernel_rfl) ?_
          refine lnil ?_
          refine thn_n ?_
          refine c_ret ?_
          refine ret_end [.nilIface] [0, 4, 4] h (by kernel_rfl) (res_t (by kernel_rfl) res_n) ?_
          refine ⟨Sx10, ?_, ?_⟩
          · rw [pAct_c n s keep hc2 hc4 hc6 hc8]; first | rfl | exact errV_zero.symm
          · rw [pAct_c n s keep hc2 hc4 hc6 hc8]; first | rfl | (simp; done)
        · skip
          have hc8 := of_decide_eq_false hc8
          refine c_skip ?_
          refine blk_n (thn_n ?_)
          refine c_seq ?_
          refine c_reg ?_
          refine sq_p (.nilIface) rfl (fun _ => by kernel_rfl) ?_
          refine lnil ?_
          refine thn_n ?_
          refine c_ret ?_
          refine ret_end [.nilIface] [3, 3, 3] h (by kernel_rfl) (res_t (by kernel_rfl) res_n) ?_
          refine ⟨Sd, ?_, ?_⟩
          · rw [pAct_n n s keep hc2 hc4 hc6 hc8]; first | rfl | exact errV_zero.symm
          · rw [pAct_n n s keep hc2 hc4 hc6 hc8]; first | rfl | (simp; done)
theorem bulky_spec (av : Value) (l : List XAct) (hl : l.length ≤ 9000000000000000000) (hxs : ∀ x ∈ l, x.2.2.1.size ≤ 140737488355327 ∧ (actK x).length ≤ 140737488355327)  : Spec Tryz.prog 7 #[av] [rArg av 4 actC l, rSub actR l] (fun u L => ∃ t : Bool, u = .bool t ∧ L = [rArg av 4 actC l, rSub actR l]) := by
  refine spec_of (#[av, undef, undef, undef, undef, undef, undef, undef, undef, undef, undef, undef, undef, undef, undef, undef, undef, undef, undef, undef, undef, undef, undef, undef, undef, undef, undef, undef, undef, undef, undef]) Tryz.func7 rfl (by kernel_rfl) fun E w0 w h => ?_
  refine c_seq ?_
  refine c_reg ?_
  refine sq_p (.bool false) rfl (fun _ => by kernel_rfl) ?_
  refine lnil ?_
  refine thn_n ?_
  refine c_seq ?_
  refine c_reg ?_
  refine sq_p (.int .i64 0) rfl (fun _ => by kernel_rfl) ?_
  refine lnil ?_
  refine thn_n ?_
  refine c_seq ?_
  refine c_seq ?_
  refine c_reg ?_
  refine sq_p (.int .i64 0) rfl (fun _ => by kernel_rfl) ?_
  refine lnil ?_
  refine thn_n ?_
  refine c_block ?_
  refine c_loop (X := Nat × Int × (Nat → Value)) (fun ⟨ii, nn, J0⟩ => ⟨#[av, undef, .bool false, .int .i64 nn, .int .i64 ((ii : Nat) : Int), J0 5, J0 6, J0 7, J0 8, J0 9, J0 10, J0 11, J0 12, J0 13, J0 14, J0 15, J0 16, J0 17, J0 18, J0 19, J0 20, J0 21, J0 22, J0 23, J0 24, J0 25, J0 26, J0 27, J0 28, undef, undef], []⟩)
    (fun ⟨ii, nn, J0⟩ => [rArg av 4 actC l, rSub actR l]) (fun ⟨ii, nn, J0⟩ => ii ≤ l.length) (fun ⟨ii, nn, J0⟩ => l.length - ii)
    ⟨0, 0, (fun n => (#[av, undef, .bool false, .int .i64 0, .int .i64 0, undef, undef, undef, undef, undef, undef, undef, undef, undef, undef, undef, undef, undef, undef, undef, undef, undef, undef, undef, undef, undef, undef, undef, undef, undef, undef] : Array Value).getD n undef)⟩ (Nat.zero_le _) (by kernel_rfl) [0, 0] (by kernel_rfl) h ?_
  rintro ⟨ii, nn, J0⟩ w hG h
  refine c_seq ?_
  refine c_seq ?_
  refine c_reg ?_
  refine sq_p (.int .i64 ((ii : Nat) : Int)) rfl (fun _ => by kernel_rfl) ?_
  refine sq_p (av) rfl (fun _ => by kernel_rfl) ?_
  refine sq_q rfl h (g_lenA 40 (by kernel_rfl) 0 rfl) ?_
  refine sq_p (.bool (decide (((ii : Nat) : Int) < (l.length : Int)))) rfl (fun _ => by kernel_rfl) ?_
  refine lnil ?_
  refine thn_n ?_
  refine c_cond (decide (((ii : Nat) : Int) < (l.length : Int))) (by kernel_rfl) (fun hc1 => ?_) (fun hc1 => ?_)
  · skip
    have hc1 := of_decide_eq_true hc1
    have hix : ii < l.length := by omega
    obtain ⟨xr, hxr⟩ : ∃ x_, l[ii]? = some x_ := ⟨_, List.getElem?_eq_getElem hix⟩
    have h := h.inner 1 rfl hxr rfl
    have hxb := hxs xr (List.mem_of_getElem? hxr)
    refine c_skip ?_
    refine thn_n ?_
    refine c_seq ?_
    refine c_block ?_
    refine d_start 19 [0, 0] (by kernel_rfl) h fun w h => ?_
    refine d_take 0 130556 [0, 0] rfl (v := .int .i64 nn) (by kernel_rfl) (qp_blk (qp_thn (qp_rnd (qp_blk (qp_thn qp_body))))) (yq (by kernel_rfl) (g_pure (v := .int .i64 nn) fun _ => by kernel_rfl)) h (by kernel_rfl) ?_
    refine d_take 1 130557 [0, 0] rfl (v := .int .i64 (IntKind.i64.wrap (nn + 1))) (by kernel_rfl) (qp_blk (qp_thn (qp_rnd (qp_blk (qp_thn qp_body))))) (yq (by kernel_rfl) (g_pure (v := .int .i64 (IntKind.i64.wrap (nn + 1))) fun _ => by kernel_rfl)) h (by kernel_rfl) ?_
    refine d_take 2 130059 [0, 0] rfl (v := av) (by kernel_rfl) (qp_blk (qp_thn (qp_rnd (qp_blk (qp_thn qp_body))))) (yq (by kernel_rfl) (g_pure (v := av) fun _ => by kernel_rfl)) h (by kernel_rfl) ?_
    refine d_take 3 130055 [0, 0] rfl (v := .int .i64 ((ii : Nat) : Int)) (by kernel_rfl) (qp_blk (qp_thn (qp_rnd (qp_blk (qp_thn qp_body))))) (yq (by kernel_rfl) (g_pure (v := .int .i64 ((ii : Nat) : Int)) fun _ => by kernel_rfl)) h (by kernel_rfl) ?_
    refine d_take 4 130063 [0, 0] rfl (v := .pointer (some ⟨blkN av, offN av + ii * 4, none⟩)) (by kernel_rfl) (qp_blk (qp_thn (qp_rnd (qp_blk (qp_thn qp_body))))) (yq (by kernel_rfl) (g_idxA 40 ii (by kernel_rfl) hix 1 rfl)) h (by kernel_rfl) ?_
    refine d_take 5 130079 [0, 0] rfl (v := .pointer (some ⟨blkN av, offN av + ii * 4 + 2, none⟩)) (by kernel_rfl) (qp_blk (qp_thn (qp_rnd (qp_blk (qp_thn qp_body))))) (yq (by kernel_rfl) (g_pure (v := .pointer (some ⟨blkN av, offN av + ii * 4 + 2, none⟩)) fun _ => by kernel_rfl)) h (by kernel_rfl) ?_
    refine d_take 6 130111 [0, 0] rfl (v := .string xr.2.2.1) (by kernel_rfl) (qp_blk (qp_thn (qp_rnd (qp_blk (qp_thn qp_body))))) (yq (by kernel_rfl) (g_ldr (b := blkN av) (offN av + ii * 4 + 2) [.string xr.2.2.1] (.string xr.2.2.1) (by kernel_rfl) 1 rfl (rdArg hxr 2 (by kernel_rfl)))) h (by kernel_rfl) ?_
    refine d_take 7 130175 [0, 0] rfl (v := .int .i64 (xr.2.2.1.size : Int)) (by kernel_rfl) (qp_blk (qp_thn (qp_rnd (qp_blk (qp_thn qp_body))))) (yq (by kernel_rfl) (g_pure (v := .int .i64 (xr.2.2.1.size : Int)) fun _ => by kernel_rfl)) h (by kernel_rfl) ?_
    refine d_take 8 130303 [0, 0] rfl (v := .int .i64 ((xr.2.2.1.size / 20 : Nat) : Int)) (by kernel_rfl) (qp_blk (qp_thn (qp_rnd (qp_blk (qp_thn qp_body))))) (yq (by kernel_rfl) (g_quo xr.2.2.1.size 20 (by kernel_rfl) (by omega) (by omega))) h (by kernel_rfl) ?_
    refine d_take 9 130559 [0, 0] rfl (v := .int .i64 (IntKind.i64.wrap ((IntKind.i64.wrap (nn + 1)) + ((xr.2.2.1.size / 20 : Nat) : Int)))) (by kernel_rfl) (qp_blk (qp_thn (qp_rnd (qp_blk (qp_thn qp_body))))) (yq (by kernel_rfl) (g_pure (v := .int .i64 (IntKind.i64.wrap ((IntKind.i64.wrap (nn + 1)) + ((xr.2.2.1.size / 20 : Nat) : Int)))) fun _ => by kernel_rfl)) h (by kernel_rfl) ?_
    refine d_take 10 3071 [0, 0] rfl (v := av) (by kernel_rfl) (qp_blk (qp_thn (qp_rnd (qp_blk (qp_thn qp_body))))) (yq (by kernel_rfl) (g_pure (v := av) fun _ => by kernel_rfl)) h (by kernel_rfl) ?_
    refine d_take 11 2047 [0, 0] rfl (v := .int .i64 ((ii : Nat) : Int)) (by kernel_rfl) (qp_blk (qp_thn (qp_rnd (qp_blk (qp_thn qp_body))))) (yq (by kernel_rfl) (g_pure (v := .int .i64 ((ii : Nat) : Int)) fun _ => by kernel_rfl)) h (by kernel_rfl) ?_
    refine d_take 12 4095 [0, 0] rfl (v := .pointer (some ⟨blkN av, offN av + ii * 4, none⟩)) (by kernel_rfl) (qp_blk (qp_thn (qp_rnd (qp_blk (qp_thn qp_body))))) (yq (by kernel_rfl) (g_idxA 40 ii (by kernel_rfl) hix 1 rfl)) h (by kernel_rfl) ?_
    refine d_take 13 8191 [0, 0] rfl (v := .pointer (some ⟨blkN av, offN av + ii * 4 + 3, none⟩)) (by kernel_rfl) (qp_blk (qp_thn (qp_rnd (qp_blk (qp_thn qp_body))))) (yq (by kernel_rfl) (g_pure (v := .pointer (some ⟨blkN av, offN av + ii * 4 + 3, none⟩)) fun _ => by kernel_rfl)) h (by kernel_rfl) ?_
    refine d_take 14 16383 [0, 0] rfl (v := slF xr.2.2.2.1) (by kernel_rfl) (qp_blk (qp_thn (qp_rnd (qp_blk (qp_thn qp_body))))) (yq (by kernel_rfl) (g_ldr (b := blkN av) (offN av + ii * 4 + 3) [slF xr.2.2.2.1] (slF xr.2.2.2.1) (by kernel_rfl) 1 rfl (rdArg hxr 3 (by kernel_rfl)))) h (by kernel_rfl) ?_
    refine d_take 15 32767 [0, 0] rfl (v := .int .i64 ((actK xr).length : Int)) (by kernel_rfl) (qp_blk (qp_thn (qp_rnd (qp_blk (qp_thn qp_body))))) (yq (by kernel_rfl) (g_lenA 4 (by kernel_rfl) 0 rfl)) h (by kernel_rfl) ?_
    refine d_take 16 65535 [0, 0] rfl (v := .int .i64 ((((actK xr).length) / 20 : Nat) : Int)) (by kernel_rfl) (qp_blk (qp_thn (qp_rnd (qp_blk (qp_thn qp_body))))) (yq (by kernel_rfl) (g_quo ((actK xr).length) 20 (by kernel_rfl) (by omega) (by omega))) h (by kernel_rfl) ?_
    refine d_take 17 131071 [0, 0] rfl (v := .int .i64 (IntKind.i64.wrap ((IntKind.i64.wrap ((IntKind.i64.wrap (nn + 1)) + ((xr.2.2.1.size / 20 : Nat) : Int))) + ((((actK xr).length) / 20 : Nat) : Int)))) (by kernel_rfl) (qp_blk (qp_thn (qp_rnd (qp_blk (qp_thn qp_body))))) (yq (by kernel_rfl) (g_pure (v := .int .i64 (IntKind.i64.wrap ((IntKind.i64.wrap ((IntKind.i64.wrap (nn + 1)) + ((xr.2.2.1.size / 20 : Nat) : Int))) + ((((actK xr).length) / 20 : Nat) : Int)))) fun _ => by kernel_rfl)) h (by kernel_rfl) ?_
    refine d_take 18 262143 [0, 0] rfl (v := .int .i64 (IntKind.i64.wrap ((IntKind.i64.wrap ((IntKind.i64.wrap (nn + 1)) + ((xr.2.2.1.size / 20 : Nat) : Int))) + ((((actK xr).length) / 20 : Nat) : Int)))) (by kernel_rfl) (qp_blk (qp_thn (qp_rnd (qp_blk (qp_thn qp_body))))) (yq (by kernel_rfl) (g_pure (v := .int .i64 (IntKind.i64.wrap ((IntKind.i64.wrap ((IntKind.i64.wrap (nn + 1)) + ((xr.2.2.1.size / 20 : Nat) : Int))) + ((((actK xr).length) / 20 : Nat) : Int)))) fun _ => by kernel_rfl)) h (by kernel_rfl) ?_
    refine d_done (by kernel_rfl) ?_
    refine blk_n (thn_n ?_)
    refine c_reg ?_
    refine sq_p (.int .i64 ((ii : Nat) : Int)) rfl (fun _ => by kernel_rfl) ?_
    refine sq_q rfl h (g_eq (v := .int .i64 (IntKind.i64.wrap (((ii : Nat) : Int) + 1))) (v' := .int .i64 ((ii + 1 : Nat) : Int)) (g_pure fun _ => by kernel_rfl) (wr (by omega))) ?_
    refine sq_p (.int .i64 ((ii + 1 : Nat) : Int)) rfl (fun _ => by kernel_rfl) ?_
    refine lnil ?_
    have hQ2 : ((ii + 1) ≤ l.length) ∧ (l.length - (ii + 1)) < (l.length - ii) := ⟨by omega, by omega⟩
    refine loop_end (fun j => ⟨ii + 1, (IntKind.i64.wrap ((IntKind.i64.wrap ((IntKind.i64.wrap (nn + 1)) + ((xr.2.2.1.size / 20 : Nat) : Int))) + ((((actK xr).length) / 20 : Nat) : Int))), j⟩) hQ2 (by kernel_rfl) [1, 1] (by kernel_rfl) h
  · skip
    have hc1 := of_decide_eq_false hc1
    refine c_exit ?_
    refine thn_e (rnd_e (blk_e (thn_n ?_)))
    refine c_seq ?_
    refine c_reg ?_
    refine sq_p (.int .i64 nn) rfl (fun _ => by kernel_rfl) ?_
    refine sq_p (.bool (decide (nn > 200))) rfl (fun _ => by kernel_rfl) ?_
    refine sq_p (.bool (decide (nn > 200))) rfl (fun _ => by kernel_rfl) ?_
    refine lnil ?_
    refine thn_n ?_
    refine c_ret ?_
    refine ret_end [.bool (decide (nn > 200))] [0, 0] h (by kernel_rfl) (res_t (by kernel_rfl) res_n) ?_
    exact ⟨_, rfl, rfl⟩
theorem lognone_spec {B : Nat} (ad : Nat → Addr) (a1 a2 : Addr) (av : Value) (l : List XAct) (sectors : Int) (over : Bool) (hl : l.length * 64 ≤ 140737488355327) (hxn : ∀ x ∈ l, x.2.1 ≤ 9223372036854775807 ∧ x.2.2.1.size ≤ 140737488355327 ∧ (actK x).length ≤ 140737488355327)  : Spec Tryz.prog 3 #[av, .int .i64 sectors, .bool over] [rEnvA B ad, rNumE a1 a2, rTab, rArg av 4 actC l, rSub actR l] (fun u L => u = .bool true ∧ L = []) := by
  refine spec_of (#[av, .int .i64 sectors, .bool over, undef, undef, undef, undef, undef, undef, undef, undef, undef, undef, undef, undef, undef, undef, undef, undef, undef, undef, undef, undef, undef, undef, undef, undef, undef, undef, undef, undef, undef, undef, undef, undef, undef, undef, undef, undef, undef, undef, undef, undef, undef, undef, undef, undef, undef, undef, undef, undef, undef, undef, undef, undef, undef, undef, undef, undef, undef, undef, undef, undef, undef, undef, undef, undef, undef, undef, undef, undef, undef, undef, undef, undef, undef, undef, undef, undef, undef, undef, undef, undef, undef, undef, undef, undef, undef, undef, undef, undef, undef, undef, undef, undef, undef, undef, undef, undef, undef, undef, undef]) Tryz.func3 rfl (by kernel_rfl) fun E w0 w h => ?_
  have h := h.eS [1, 2, 3, 9, 15] 0 rfl
  have h := h.eS [2, 3, 9, 15] 1 rfl
  have h := h.eS [1, 2] 2 rfl
  have h := h.eS [2] 3 rfl
  have h := h.eS [2, 3, 15] 4 rfl
  refine c_seq ?_
  refine c_reg ?_
  refine sq_p (.bool false) rfl (fun _ => by kernel_rfl) ?_
  refine lnil ?_
  refine thn_n ?_
  refine c_seq ?_
  refine c_reg ?_
  refine sq_call #[] [4, 5, 5] rfl (logged_spec (B := B) ad a1 a2) (fun _ => by kernel_rfl) h ?_; rintro v_ L_ w ⟨rfl, rfl⟩ h
  refine sq_p (.bool true) rfl (fun _ => by kernel_rfl) ?_
  refine lnil ?_
  refine thn_n ?_
  refine c_seq ?_
  refine c_seq ?_
  refine c_reg ?_
  refine sq_p (.bool true) rfl (fun _ => by kernel_rfl) ?_
  refine sq_p (.bool false) rfl (fun _ => by kernel_rfl) ?_
  refine sq_p (.bool false) rfl (fun _ => by kernel_rfl) ?_
  refine sq_p (av) (by kernel_rfl) (fun _ => by kernel_rfl) ?_
  refine sq_call #[av] [8, 8] (by kernel_rfl) (bulky_spec av l (by omega) fun x hx => (hxn x hx).2) (fun _ => by kernel_rfl) h ?_; rintro v_ L_ w ⟨tb1, rfl, rfl⟩ h
  refine sq_p (.bool tb1) rfl (fun _ => by kernel_rfl) ?_
  refine sq_p (.bool tb1) rfl (fun _ => by kernel_rfl) ?_
  refine sq_m0 (v := .int .i64 sectors) tb1 (by cases tb1 <;> kernel_rfl) h (fun hB => by subst hB; exact g_pure (v := .int .i64 sectors) fun _ => by kernel_rfl) ?_
  obtain ⟨b2, hb2⟩ : ∃ b_ : Bool, b_ = (decide (sectors < 1)) := ⟨_, rfl⟩
  refine sq_m0 (v := .bool b2) tb1 (by cases tb1 <;> kernel_rfl) h (fun hB => by subst hB; exact by subst hb2; exact g_pure (v := .bool (decide (sectors < 1))) fun _ => by kernel_rfl) ?_
  obtain ⟨b3, hb3⟩ : ∃ b_ : Bool, b_ = (tb1 || b2) := ⟨_, rfl⟩
  refine sq_q (v := .bool b3) rfl h (by subst hb3; exact g_pure (v := .bool (tb1 || b2)) fun _ => by cases tb1 <;> kernel_rfl) ?_
  refine sq_p (.bool b3) rfl (fun _ => by kernel_rfl) ?_
  refine sq_m0 (v := .int .i64 sectors) b3 (by cases b3 <;> kernel_rfl) h (fun hB => by subst hB; exact g_pure (v := .int .i64 sectors) fun _ => by kernel_rfl) ?_
  obtain ⟨b4, hb4⟩ : ∃ b_ : Bool, b_ = (decide (sectors > 60)) := ⟨_, rfl⟩
  refine sq_m0 (v := .bool b4) b3 (by cases b3 <;> kernel_rfl) h (fun hB => by subst hB; exact by subst hb4; exact g_pure (v := .bool (decide (sectors > 60))) fun _ => by kernel_rfl) ?_
  obtain ⟨b5, hb5⟩ : ∃ b_ : Bool, b_ = (b3 || b4) := ⟨_, rfl⟩
  refine sq_q (v := .bool b5) rfl h (by subst hb5; exact g_pure (v := .bool (b3 || b4)) fun _ => by cases b3 <;> kernel_rfl) ?_
  refine lnil ?_
  refine thn_n ?_
  refine c_cond (b5) (by kernel_rfl) (fun hc6 => ?_) (fun hc6 => ?_)
  · skip
    have q7 : (b3 || b4) = true := by rw [← hb5]; exact hc6
    refine c_seq ?_
    refine c_reg ?_
    refine sq_p (.bool true) rfl (fun _ => by kernel_rfl) ?_
    refine sq_p (.bool true) rfl (fun _ => by kernel_rfl) ?_
    refine lnil ?_
    refine thn_n ?_
    refine c_ret ?_
    refine thn_r ?_
    refine ret_end [.bool true] [] h (by kernel_rfl) (res_t (by kernel_rfl) res_n) ?_
    exact ⟨rfl, rfl⟩
  · skip
    have q8 : (b3 || b4) = false := by rw [← hb5]; exact hc6
    have q9 : b3 = false := by revert q8; cases b3 <;> simp
    have q10 : b4 = false := by revert q8; cases b3 <;> cases b4 <;> simp
    have q11 : (tb1 || b2) = false := by rw [← hb3]; exact q9
    have q12 : tb1 = false := by revert q11; cases tb1 <;> simp
    have q13 : b2 = false := by revert q11; cases tb1 <;> cases b2 <;> simp
    have q14 : (decide (sectors < 1)) = false := by rw [← hb2]; exact q13
    have q14 := of_decide_eq_false q14
    have q15 : (decide (sectors > 60)) = false := by rw [← hb4]; exact q10
    have q15 := of_decide_eq_false q15
    obtain ⟨sc, hsc⟩ : ∃ m_ : Nat, sectors = (m_ : Int) := ⟨sectors.toNat, by omega⟩
    refine c_skip ?_
    refine thn_n ?_
    refine c_seq ?_
    refine c_reg ?_
    refine sq_p (.int .i64 sectors) rfl (fun _ => by kernel_rfl) ?_
    refine sq_call #[.int .i64 sectors] [6] rfl (dnewI_spec (B := B) ad sectors sc hsc (by omega) (by omega)) (fun _ => by kernel_rfl) h ?_; rintro v_ L_ w ⟨db16, Sx17, rfl, rfl⟩ h
    refine sq_p (.tuple #[.pointer (some ⟨db16, 0, none⟩), .nilIface]) rfl (fun _ => by kernel_rfl) ?_
    refine sq_p (.pointer (some ⟨db16, 0, none⟩)) rfl (fun _ => by kernel_rfl) ?_
    refine sq_p (.nilIface) rfl (fun _ => by kernel_rfl) ?_
    refine sq_p (.pointer (some ⟨db16, 0, none⟩)) rfl (fun _ => by kernel_rfl) ?_
    refine sq_p (.nilIface) rfl (fun _ => by kernel_rfl) ?_
    refine lnil ?_
    refine thn_n ?_
    refine c_seq ?_
    refine c_seq ?_
    refine c_reg ?_
    refine sq_p (.nilIface) rfl (fun _ => by kernel_rfl) ?_
    refine sq_p (.bool false) rfl (fun _ => by kernel_rfl) ?_
    refine sq_p (.bool false) rfl (fun _ => by kernel_rfl) ?_
    refine sq_p (.pointer (some ⟨db16, 0, none⟩)) (by kernel_rfl) (fun _ => by kernel_rfl) ?_
    refine sq_p (.bool false) (by kernel_rfl) (fun _ => by kernel_rfl) ?_
    refine sq_p (.bool false) rfl (fun _ => by kernel_rfl) ?_
    refine lnil ?_
    refine thn_n ?_
    refine c_false (by kernel_rfl) ?_
    refine c_skip ?_
    refine thn_n ?_
    refine c_seq ?_
    refine c_seq ?_
    refine c_reg ?_
    refine sq_p (.bool over) rfl (fun _ => by kernel_rfl) ?_
    refine sq_p (.bool (!over)) rfl (fun _ => by kernel_rfl) ?_
    refine lnil ?_
    refine thn_n ?_
    refine c_cond (!over) (by kernel_rfl) (fun hc18 => ?_) (fun hc18 => ?_)
    · skip
      have q19 : over = false := by simpa using hc18
      refine c_seq ?_
      refine c_reg ?_
      refine sq_p (.pointer (some ⟨db16, 0, none⟩)) rfl (fun _ => by kernel_rfl) ?_
      refine sq_call #[.pointer (some ⟨db16, 0, none⟩)] [0, 4, 4, 5] rfl (openNew_spec (B := B) ad a1 a2 db16 sc Sx17 (by omega) (by omega)) (fun _ => by kernel_rfl) h ?_; rintro v_ L_ w ⟨rfl, rfl⟩ h
      refine sq_p (.tuple #[.pointer none, .slice none 0 0, errV ad 1]) rfl (fun _ => by kernel_rfl) ?_
      refine sq_p (.pointer none) rfl (fun _ => by kernel_rfl) ?_
      refine sq_p (.slice none 0 0) rfl (fun _ => by kernel_rfl) ?_
      refine sq_p (errV ad 1) rfl (fun _ => by kernel_rfl) ?_
      refine sq_p (.pointer none) rfl (fun _ => by kernel_rfl) ?_
      refine sq_p (.slice none 0 0) rfl (fun _ => by kernel_rfl) ?_
      refine sq_p (errV ad 1) rfl (fun _ => by kernel_rfl) ?_
      refine lnil ?_
      refine thn_n ?_
      refine c_seq ?_
      refine c_reg ?_
      refine sq_p (errV ad 1) rfl (fun _ => by kernel_rfl) ?_
      refine sq_call #[errV ad 1, .int .i64 1] [10] rfl (codedY_spec (B := B) ad 1 1 (by omega) rfl) (fun _ => by kernel_rfl) h ?_; rintro v_ L_ w ⟨rfl, rfl⟩ h
      refine sq_p (.bool true) rfl (fun _ => by kernel_rfl) ?_
      refine sq_p (.pointer none) (by kernel_rfl) (fun _ => by kernel_rfl) ?_
      refine sq_p (.bool true) (by kernel_rfl) (fun _ => by kernel_rfl) ?_
      refine sq_p (.bool true) rfl (fun _ => by kernel_rfl) ?_
      refine sq_p (.bool true) rfl (fun _ => by kernel_rfl) ?_
      refine sq_p (.slice none 0 0) (by kernel_rfl) (fun _ => by kernel_rfl) ?_
      refine sq_p (.int .i64 0) (by kernel_rfl) (fun _ => by kernel_rfl) ?_
      refine sq_p (.bool true) (by kernel_rfl) (fun _ => by kernel_rfl) ?_
      refine sq_p (.bool true) rfl (fun _ => by kernel_rfl) ?_
      refine sq_p (.bool true) rfl (fun _ => by kernel_rfl) ?_
      refine lnil ?_
      refine thn_n ?_
      refine c_ret ?_
      refine thn_r ?_
      refine ret_end [.bool true] [] h (by kernel_rfl) (res_t (by kernel_rfl) res_n) ?_
      exact ⟨rfl, rfl⟩
    · skip
      have q20 : over = true := by simpa using hc18
      refine c_skip ?_
      refine thn_n ?_
      refine c_seq ?_
      refine c_reg ?_
      refine sq_p (.pointer (some ⟨db16, 0, none⟩)) rfl (fun _ => by kernel_rfl) ?_
      refine sq_call #[.pointer (some ⟨db16, 0, none⟩)] [0, 5, 7] rfl (fmtI_spec (B := B) ad db16 sc Sx17 (by omega)) (fun _ => by kernel_rfl) h ?_; rintro v_ L_ w (⟨hsm, rfl, rfl⟩ | ⟨lb21, Sx22, dd23, hbg, hle0, hqu0, hva0, hln0, rfl, rfl⟩) h
      · skip
        have hLN0 := LN.new sc
        refine sq_p (.tuple #[.pointer none, errV ad 9]) rfl (fun _ => by kernel_rfl) ?_
        refine sq_p (.pointer none) rfl (fun _ => by kernel_rfl) ?_
        refine sq_p (errV ad 9) rfl (fun _ => by kernel_rfl) ?_
        refine lnil ?_
        refine thn_n ?_
        refine c_seq ?_
        refine c_seq ?_
        refine c_reg ?_
        refine sq_p (.int .i64 0) rfl (fun _ => by kernel_rfl) ?_
        refine lnil ?_
        refine thn_n ?_
        refine c_block ?_
        refine c_loop (X := Nat × PDisk × (Nat → Prop) × (Nat → Value)) (fun ⟨ii, dv, Sv, J0⟩ => ⟨#[av, .int .i64 sectors, .bool over, undef, undef, undef, .bool false, .bool true, .pointer (some ⟨db16, 0, none⟩), .nilIface, undef, undef, undef, .int .i64 ((ii : Nat) : Int), undef, undef, .bool true, .bool true, .bool false, .bool false, av, .bool tb1, .bool tb1, .bool tb1, (if tb1 = false then .int .i64 sectors else undef), (if tb1 = false then .bool b2 else undef), .bool b3, .bool b3, (if b3 = false then .int .i64 sectors else undef), (if b3 = false then .bool b4 else undef), .bool b5, undef, .tuple #[.pointer (some ⟨db16, 0, none⟩), .nilIface], .int .i64 sectors, .tuple #[.pointer (some ⟨db16, 0, none⟩), .nilIface], .pointer (some ⟨db16, 0, none⟩), .nilIface, .nilIface, .bool false, .bool false, .pointer (some ⟨db16, 0, none⟩), .bool false, .bool false, .bool over, .bool (!over), undef, undef, undef, undef, undef, undef, undef, undef, undef, undef, undef, undef, undef, undef, undef, undef, undef, .tuple #[.pointer none, errV ad 9], .pointer (some ⟨db16, 0, none⟩), .tuple #[.pointer none, errV ad 9], .pointer none, errV ad 9, J0 67, J0 68, J0 69, J0 70, J0 71, J0 72, J0 73, J0 74, J0 75, J0 76, J0 77, J0 78, undef, undef, undef, undef, undef, undef, undef, undef, undef, undef, undef, undef, undef, undef, undef, undef, undef, undef, undef, undef, undef, undef, undef], []⟩)
          (fun ⟨ii, dv, Sv, J0⟩ => [rDisk B db16 dv Sv, rTab, rEnv B ad [2, 3, 9, 15], rEnv B ad [2], rArg av 4 actC l, rSub actR l, rEnv B ad [1, 2, 3, 9, 15], rNumE a1 a2, rEnv B ad [2, 3, 15], rEnv B ad [1, 2], rEnvA B ad]) (fun ⟨ii, dv, Sv, J0⟩ => ii ≤ l.length ∧ LN sc ii dv) (fun ⟨ii, dv, Sv, J0⟩ => l.length - ii)
          ⟨0, pNew sc, Sx17, (fun n => (#[av, .int .i64 sectors, .bool over, undef, undef, undef, .bool false, .bool true, .pointer (some ⟨db16, 0, none⟩), .nilIface, undef, undef, undef, .int .i64 0, undef, undef, .bool true, .bool true, .bool false, .bool false, av, .bool tb1, .bool tb1, .bool tb1, (if tb1 = false then .int .i64 sectors else undef), (if tb1 = false then .bool b2 else undef), .bool b3, .bool b3, (if b3 = false then .int .i64 sectors else undef), (if b3 = false then .bool b4 else undef), .bool b5, undef, .tuple #[.pointer (some ⟨db16, 0, none⟩), .nilIface], .int .i64 sectors, .tuple #[.pointer (some ⟨db16, 0, none⟩), .nilIface], .pointer (some ⟨db16, 0, none⟩), .nilIface, .nilIface, .bool false, .bool false, .pointer (some ⟨db16, 0, none⟩), .bool false, .bool false, .bool over, .bool (!over), undef, undef, undef, undef, undef, undef, undef, undef, undef, undef, undef, undef, undef, undef, undef, undef, undef, .tuple #[.pointer none, errV ad 9], .pointer (some ⟨db16, 0, none⟩), .tuple #[.pointer none, errV ad 9], .pointer none, errV ad 9, undef, undef, undef, undef, undef, undef, undef, undef, undef, undef, undef, undef, undef, undef, undef, undef, undef, undef, undef, undef, undef, undef, undef, undef, undef, undef, undef, undef, undef, undef, undef, undef, undef, undef, undef] : Array Value).getD n undef)⟩ ⟨Nat.zero_le _, hLN0⟩ (by kernel_rfl) [0, 0, 0, 0, 0, 0, 0, 0, 0, 0, 0] (by kernel_rfl) h ?_
        rintro ⟨ii, dv, Sv, J0⟩ w hG h
        obtain ⟨hil, hLN⟩ : ii ≤ l.length ∧ LN sc ii dv := hG
        refine c_seq ?_
        refine c_seq ?_
        refine c_reg ?_
        refine sq_p (.int .i64 ((ii : Nat) : Int)) rfl (fun _ => by kernel_rfl) ?_
        refine sq_p (av) rfl (fun _ => by kernel_rfl) ?_
        refine sq_q rfl h (g_lenA 40 (by kernel_rfl) 4 rfl) ?_
        refine sq_p (.bool (decide (((ii : Nat) : Int) < (l.length : Int)))) rfl (fun _ => by kernel_rfl) ?_
        refine lnil ?_
        refine thn_n ?_
        refine c_cond (decide (((ii : Nat) : Int) < (l.length : Int))) (by kernel_rfl) (fun hc24 => ?_) (fun hc24 => ?_)
        · skip
          have hc24 := of_decide_eq_true hc24
          have hix : ii < l.length := by omega
          obtain ⟨xr, hxr⟩ : ∃ x_, l[ii]? = some x_ := ⟨_, List.getElem?_eq_getElem hix⟩
          have hxm := List.mem_of_getElem? hxr
          have h := h.inner 5 rfl hxr rfl
          refine c_skip ?_
          refine thn_n ?_
          refine c_seq ?_
          refine c_block ?_
          refine c_reg ?_
          refine sq_p (.pointer (some ⟨db16, 0, none⟩)) rfl (fun _ => by kernel_rfl) ?_
          refine sq_p (av) rfl (fun _ => by kernel_rfl) ?_
          refine sq_p (.int .i64 ((ii : Nat) : Int)) rfl (fun _ => by kernel_rfl) ?_
          refine sq_q rfl h (g_idxA 40 ii (by kernel_rfl) hix 5 rfl) ?_
          refine sq_q rfl h (g_ldr (b := blkN av) (offN av + ii * 4) [.string xr.1, .int .i64 xr.2.1, .string xr.2.2.1, slF xr.2.2.2.1] (.agg #[.string xr.1, .int .i64 xr.2.1, .string xr.2.2.1, slF xr.2.2.2.1]) (by kernel_rfl) 5 rfl (rdArg0 hxr (by kernel_rfl))) ?_
          refine sq_call #[.pointer (some ⟨db16, 0, none⟩), .agg #[.string xr.1, .int .i64 xr.2.1, .string xr.2.2.1, slF xr.2.2.2.1]] [1, 8, 0] rfl (doAct_spec (B := B) ad db16 dv Sv xr.1 xr.2.1 xr.2.2.1 (slF xr.2.2.2.1) (actK xr) (hxn xr hxm).1 (by have := hLN.pok.few; omega) (hxn xr hxm).2.2 (by rw [hLN.pok.kept]; omega) (by rw [hLN.pok.now]; omega) (by rw [hLN.pok.kept]; exact hLN.pok.ins)) (fun _ => by kernel_rfl) h ?_; rintro v_ L_ w ⟨Sx25, rfl, rfl⟩ h
          refine lnil ?_
          refine blk_n (thn_n ?_)
          refine c_reg ?_
          refine sq_p (.int .i64 ((ii : Nat) : Int)) rfl (fun _ => by kernel_rfl) ?_
          refine sq_q rfl h (g_eq (v := .int .i64 (IntKind.i64.wrap (((ii : Nat) : Int) + 1))) (v' := .int .i64 ((ii + 1 : Nat) : Int)) (g_pure fun _ => by kernel_rfl) (wr (by omega))) ?_
          refine sq_p (.int .i64 ((ii + 1 : Nat) : Int)) rfl (fun _ => by kernel_rfl) ?_
          refine lnil ?_
          have hQ26 : ((ii + 1) ≤ l.length ∧ LN sc (ii + 1) ((pAct dv xr.1 xr.2.1 xr.2.2.1 (actK xr)).1)) ∧ (l.length - (ii + 1)) < (l.length - ii) := ⟨⟨by omega, hLN.act _ _ _ _⟩, by omega⟩
          refine loop_end (fun j => ⟨ii + 1, (pAct dv xr.1 xr.2.1 xr.2.2.1 (actK xr)).1, Sx25, j⟩) hQ26 (by kernel_rfl) [0, 2, 2, 2, 2, 2, 2, 2, 0, 1, 1] (by kernel_rfl) h
        · skip
          have hc24 := of_decide_eq_false hc24
          refine c_exit ?_
          refine thn_e (rnd_e (blk_e (thn_n ?_)))
          refine c_seq ?_
          refine c_reg ?_
          refine sq_p (.pointer (some ⟨db16, 0, none⟩)) rfl (fun _ => by kernel_rfl) ?_
          have h := h.nilRows 4 1 flagC
          refine sq_call #[.pointer (some ⟨db16, 0, none⟩), .slice none 0 0] [1, 0] rfl (crashN_spec (B := B) (b := db16) (S := Sv) hLN (by omega) (.slice none 0 0)) (fun _ => by kernel_rfl) h ?_; rintro v_ L_ w ⟨dd27, Sx28, hcl, hcs, rfl, rfl⟩ h
          refine lnil ?_
          refine thn_n ?_
          refine c_seq ?_
          refine c_reg ?_
          refine sq_p (.pointer (some ⟨db16, 0, none⟩)) rfl (fun _ => by kernel_rfl) ?_
          refine sq_call #[.pointer (some ⟨db16, 0, none⟩)] [0, 7, 1, 7] rfl (open_spec (B := B) ad a1 a2 db16 dd27 Sx28 (by omega) (by omega) hcs) (fun _ => by kernel_rfl) h ?_; rintro v_ L_ w (⟨hop35, rfl, rfl⟩ | ⟨lb29, gv30, cx32, hw33, zx34, grs31, hop35, rfl, rfl⟩) h
          · skip
            refine sq_p (.tuple #[.pointer none, .slice none 0 0, errV ad 1]) rfl (fun _ => by kernel_rfl) ?_
            refine sq_p (.pointer none) rfl (fun _ => by kernel_rfl) ?_
            refine sq_p (.slice none 0 0) rfl (fun _ => by kernel_rfl) ?_
            refine sq_p (errV ad 1) rfl (fun _ => by kernel_rfl) ?_
            refine sq_p (.pointer none) rfl (fun _ => by kernel_rfl) ?_
            refine sq_p (.slice none 0 0) rfl (fun _ => by kernel_rfl) ?_
            refine sq_p (errV ad 1) rfl (fun _ => by kernel_rfl) ?_
            refine lnil ?_
            refine thn_n ?_
            refine c_seq ?_
            refine c_seq ?_
            refine c_reg ?_
            refine sq_p (errV ad 1) rfl (fun _ => by kernel_rfl) ?_
            refine sq_p (.bool true) rfl (fun _ => by kernel_rfl) ?_
            refine lnil ?_
            refine thn_n ?_
            refine c_true (by kernel_rfl) ?_
            refine c_seq ?_
            refine c_reg ?_
            refine sq_p (errV ad 1) rfl (fun _ => by kernel_rfl) ?_
            refine sq_call #[errV ad 1, .int .i64 1] [11] rfl (codedY_spec (B := B) ad 1 1 (by omega) rfl) (fun _ => by kernel_rfl) h ?_; rintro v_ L_ w ⟨rfl, rfl⟩ h
            refine sq_p (.bool true) rfl (fun _ => by kernel_rfl) ?_
            refine sq_p (.pointer none) (by kernel_rfl) (fun _ => by kernel_rfl) ?_
            refine sq_p (.bool true) (by kernel_rfl) (fun _ => by kernel_rfl) ?_
            refine sq_p (.bool true) rfl (fun _ => by kernel_rfl) ?_
            refine sq_p (.bool true) rfl (fun _ => by kernel_rfl) ?_
            refine sq_p (.slice none 0 0) (by kernel_rfl) (fun _ => by kernel_rfl) ?_
            refine sq_p (.int .i64 0) (by kernel_rfl) (fun _ => by kernel_rfl) ?_
            refine sq_p (.bool true) (by kernel_rfl) (fun _ => by kernel_rfl) ?_
            refine sq_p (.bool true) rfl (fun _ => by kernel_rfl) ?_
            refine sq_p (.bool true) rfl (fun _ => by kernel_rfl) ?_
            refine lnil ?_
            refine thn_n ?_
            refine c_ret ?_
            refine thn_r ?_
            refine ret_end [.bool true] [] h (by kernel_rfl) (res_t (by kernel_rfl) res_n) ?_
            exact ⟨rfl, rfl⟩
          · skip
            refine sq_p (.tuple #[.pointer (some ⟨lb29, 0, none⟩), gv30, .nilIface]) rfl (fun _ => by kernel_rfl) ?_
            refine sq_p (.pointer (some ⟨lb29, 0, none⟩)) rfl (fun _ => by kernel_rfl) ?_
            refine sq_p (gv30) rfl (fun _ => by kernel_rfl) ?_
            refine sq_p (.nilIface) rfl (fun _ => by kernel_rfl) ?_
            refine sq_p (.pointer (some ⟨lb29, 0, none⟩)) rfl (fun _ => by kernel_rfl) ?_
            refine sq_p (gv30) rfl (fun _ => by kernel_rfl) ?_
            refine sq_p (.nilIface) rfl (fun _ => by kernel_rfl) ?_
            refine lnil ?_
            refine thn_n ?_
            refine c_seq ?_
            refine c_seq ?_
            refine c_reg ?_
            refine sq_p (.nilIface) rfl (fun _ => by kernel_rfl) ?_
            refine sq_p (.bool false) rfl (fun _ => by kernel_rfl) ?_
            refine lnil ?_
            refine thn_n ?_
            refine c_false (by kernel_rfl) ?_
            refine c_skip ?_
            refine thn_n ?_
            refine c_seq ?_
            refine c_reg ?_
            refine sq_p (.pointer (some ⟨lb29, 0, none⟩)) rfl (fun _ => by kernel_rfl) ?_
            refine sq_p (.bool true) rfl (fun _ => by kernel_rfl) ?_
            refine sq_p (.bool true) rfl (fun _ => by kernel_rfl) ?_
            refine lnil ?_
            refine thn_n ?_
            refine c_ret ?_
            refine ret_end [.bool true] [] h (by kernel_rfl) (res_t (by kernel_rfl) res_n) ?_
            exact ⟨rfl, rfl⟩
      · skip
        have hLN0 := LN.fmt hva0 hqu0 hln0
        refine sq_p (.tuple #[.pointer (some ⟨lb21, 0, none⟩), .nilIface]) rfl (fun _ => by kernel_rfl) ?_
        refine sq_p (.pointer (some ⟨lb21, 0, none⟩)) rfl (fun _ => by kernel_rfl) ?_
        refine sq_p (.nilIface) rfl (fun _ => by kernel_rfl) ?_
        refine lnil ?_
        refine thn_n ?_
        refine c_seq ?_
        refine c_seq ?_
        refine c_reg ?_
        refine sq_p (.int .i64 0) rfl (fun _ => by kernel_rfl) ?_
        refine lnil ?_
        refine thn_n ?_
        refine c_block ?_
        refine c_loop (X := Nat × PDisk × (Nat → Prop) × (Nat → Value)) (fun ⟨ii, dv, Sv, J1⟩ => ⟨#[av, .int .i64 sectors, .bool over, undef, undef, undef, .bool false, .bool true, .pointer (some ⟨db16, 0, none⟩), .nilIface, undef, undef, undef, .int .i64 ((ii : Nat) : Int), undef, undef, .bool true, .bool true, .bool false, .bool false, av, .bool tb1, .bool tb1, .bool tb1, (if tb1 = false then .int .i64 sectors else undef), (if tb1 = false then .bool b2 else undef), .bool b3, .bool b3, (if b3 = false then .int .i64 sectors else undef), (if b3 = false then .bool b4 else undef), .bool b5, undef, .tuple #[.pointer (some ⟨db16, 0, none⟩), .nilIface], .int .i64 sectors, .tuple #[.pointer (some ⟨db16, 0, none⟩), .nilIface], .pointer (some ⟨db16, 0, none⟩), .nilIface, .nilIface, .bool false, .bool false, .pointer (some ⟨db16, 0, none⟩), .bool false, .bool false, .bool over, .bool (!over), undef, undef, undef, undef, undef, undef, undef, undef, undef, undef, undef, undef, undef, undef, undef, undef, undef, .tuple #[.pointer (some ⟨lb21, 0, none⟩), .nilIface], .pointer (some ⟨db16, 0, none⟩), .tuple #[.pointer (some ⟨lb21, 0, none⟩), .nilIface], .pointer (some ⟨lb21, 0, none⟩), .nilIface, J1 67, J1 68, J1 69, J1 70, J1 71, J1 72, J1 73, J1 74, J1 75, J1 76, J1 77, J1 78, undef, undef, undef, undef, undef, undef, undef, undef, undef, undef, undef, undef, undef, undef, undef, undef, undef, undef, undef, undef, undef, undef, undef], []⟩)
          (fun ⟨ii, dv, Sv, J1⟩ => [rDisk B db16 dv Sv, rTab, rEnv B ad [2, 3, 9, 15], rCell true lb21 [.pointer (some ⟨db16, 0, none⟩), .int .i64 ((1 : Nat) : Int), .int .i64 ((0 : Nat) : Int), .int .i64 ((0 : Nat) : Int), .bool false] 70, rEnv B ad [2], rArg av 4 actC l, rSub actR l, rEnv B ad [1, 2, 3, 9, 15], rNumE a1 a2, rEnv B ad [2, 3, 15], rEnv B ad [1, 2], rEnvA B ad]) (fun ⟨ii, dv, Sv, J1⟩ => ii ≤ l.length ∧ LN sc ii dv) (fun ⟨ii, dv, Sv, J1⟩ => l.length - ii)
          ⟨0, dd23, Sx22, (fun n => (#[av, .int .i64 sectors, .bool over, undef, undef, undef, .bool false, .bool true, .pointer (some ⟨db16, 0, none⟩), .nilIface, undef, undef, undef, .int .i64 0, undef, undef, .bool true, .bool true, .bool false, .bool false, av, .bool tb1, .bool tb1, .bool tb1, (if tb1 = false then .int .i64 sectors else undef), (if tb1 = false then .bool b2 else undef), .bool b3, .bool b3, (if b3 = false then .int .i64 sectors else undef), (if b3 = false then .bool b4 else undef), .bool b5, undef, .tuple #[.pointer (some ⟨db16, 0, none⟩), .nilIface], .int .i64 sectors, .tuple #[.pointer (some ⟨db16, 0, none⟩), .nilIface], .pointer (some ⟨db16, 0, none⟩), .nilIface, .nilIface, .bool false, .bool false, .pointer (some ⟨db16, 0, none⟩), .bool false, .bool false, .bool over, .bool (!over), undef, undef, undef, undef, undef, undef, undef, undef, undef, undef, undef, undef, undef, undef, undef, undef, undef, .tuple #[.pointer (some ⟨lb21, 0, none⟩), .nilIface], .pointer (some ⟨db16, 0, none⟩), .tuple #[.pointer (some ⟨lb21, 0, none⟩), .nilIface], .pointer (some ⟨lb21, 0, none⟩), .nilIface, undef, undef, undef, undef, undef, undef, undef, undef, undef, undef, undef, undef, undef, undef, undef, undef, undef, undef, undef, undef, undef, undef, undef, undef, undef, undef, undef, undef, undef, undef, undef, undef, undef, undef, undef] : Array Value).getD n undef)⟩ ⟨Nat.zero_le _, hLN0⟩ (by kernel_rfl) [0, 0, 0, 0, 0, 0, 0, 0, 0, 0, 0, 0] (by kernel_rfl) h ?_
        rintro ⟨ii, dv, Sv, J1⟩ w hG h
        obtain ⟨hil, hLN⟩ : ii ≤ l.length ∧ LN sc ii dv := hG
        refine c_seq ?_
        refine c_seq ?_
        refine c_reg ?_
        refine sq_p (.int .i64 ((ii : Nat) : Int)) rfl (fun _ => by kernel_rfl) ?_
        refine sq_p (av) rfl (fun _ => by kernel_rfl) ?_
        refine sq_q rfl h (g_lenA 40 (by kernel_rfl) 5 rfl) ?_
        refine sq_p (.bool (decide (((ii : Nat) : Int) < (l.length : Int)))) rfl (fun _ => by kernel_rfl) ?_
        refine lnil ?_
        refine thn_n ?_
        refine c_cond (decide (((ii : Nat) : Int) < (l.length : Int))) (by kernel_rfl) (fun hc36 => ?_) (fun hc36 => ?_)
        · skip
          have hc36 := of_decide_eq_true hc36
          have hix : ii < l.length := by omega
          obtain ⟨xr, hxr⟩ : ∃ x_, l[ii]? = some x_ := ⟨_, List.getElem?_eq_getElem hix⟩
          have hxm := List.mem_of_getElem? hxr
          have h := h.inner 6 rfl hxr rfl
          refine c_skip ?_
          refine thn_n ?_
          refine c_seq ?_
          refine c_block ?_
          refine c_reg ?_
          refine sq_p (.pointer (some ⟨db16, 0, none⟩)) rfl (fun _ => by kernel_rfl) ?_
          refine sq_p (av) rfl (fun _ => by kernel_rfl) ?_
          refine sq_p (.int .i64 ((ii : Nat) : Int)) rfl (fun _ => by kernel_rfl) ?_
          refine sq_q rfl h (g_idxA 40 ii (by kernel_rfl) hix 6 rfl) ?_
          refine sq_q rfl h (g_ldr (b := blkN av) (offN av + ii * 4) [.string xr.1, .int .i64 xr.2.1, .string xr.2.2.1, slF xr.2.2.2.1] (.agg #[.string xr.1, .int .i64 xr.2.1, .string xr.2.2.1, slF xr.2.2.2.1]) (by kernel_rfl) 6 rfl (rdArg0 hxr (by kernel_rfl))) ?_
          refine sq_call #[.pointer (some ⟨db16, 0, none⟩), .agg #[.string xr.1, .int .i64 xr.2.1, .string xr.2.2.1, slF xr.2.2.2.1]] [1, 9, 0] rfl (doAct_spec (B := B) ad db16 dv Sv xr.1 xr.2.1 xr.2.2.1 (slF xr.2.2.2.1) (actK xr) (hxn xr hxm).1 (by have := hLN.pok.few; omega) (hxn xr hxm).2.2 (by rw [hLN.pok.kept]; omega) (by rw [hLN.pok.now]; omega) (by rw [hLN.pok.kept]; exact hLN.pok.ins)) (fun _ => by kernel_rfl) h ?_; rintro v_ L_ w ⟨Sx37, rfl, rfl⟩ h
          refine lnil ?_
          refine blk_n (thn_n ?_)
          refine c_reg ?_
          refine sq_p (.int .i64 ((ii : Nat) : Int)) rfl (fun _ => by kernel_rfl) ?_
          refine sq_q rfl h (g_eq (v := .int .i64 (IntKind.i64.wrap (((ii : Nat) : Int) + 1))) (v' := .int .i64 ((ii + 1 : Nat) : Int)) (g_pure fun _ => by kernel_rfl) (wr (by omega))) ?_
          refine sq_p (.int .i64 ((ii + 1 : Nat) : Int)) rfl (fun _ => by kernel_rfl) ?_
          refine lnil ?_
          have hQ38 : ((ii + 1) ≤ l.length ∧ LN sc (ii + 1) ((pAct dv xr.1 xr.2.1 xr.2.2.1 (actK xr)).1)) ∧ (l.length - (ii + 1)) < (l.length - ii) := ⟨⟨by omega, hLN.act _ _ _ _⟩, by omega⟩
          refine loop_end (fun j => ⟨ii + 1, (pAct dv xr.1 xr.2.1 xr.2.2.1 (actK xr)).1, Sx37, j⟩) hQ38 (by kernel_rfl) [0, 2, 2, 2, 2, 2, 2, 2, 2, 0, 1, 1] (by kernel_rfl) h
        · skip
          have hc36 := of_decide_eq_false hc36
          refine c_exit ?_
          refine thn_e (rnd_e (blk_e (thn_n ?_)))
          refine c_seq ?_
          refine c_reg ?_
          refine sq_p (.pointer (some ⟨db16, 0, none⟩)) rfl (fun _ => by kernel_rfl) ?_
          have h := h.nilRows 4 1 flagC
          refine sq_call #[.pointer (some ⟨db16, 0, none⟩), .slice none 0 0] [1, 0] rfl (crashN_spec (B := B) (b := db16) (S := Sv) hLN (by omega) (.slice none 0 0)) (fun _ => by kernel_rfl) h ?_; rintro v_ L_ w ⟨dd39, Sx40, hcl, hcs, rfl, rfl⟩ h
          refine lnil ?_
          refine thn_n ?_
          refine c_seq ?_
          refine c_reg ?_
          refine sq_p (.pointer (some ⟨db16, 0, none⟩)) rfl (fun _ => by kernel_rfl) ?_
          refine sq_call #[.pointer (some ⟨db16, 0, none⟩)] [0, 8, 1, 8] rfl (open_spec (B := B) ad a1 a2 db16 dd39 Sx40 (by omega) (by omega) hcs) (fun _ => by kernel_rfl) h ?_; rintro v_ L_ w (⟨hop47, rfl, rfl⟩ | ⟨lb41, gv42, cx44, hw45, zx46, grs43, hop47, rfl, rfl⟩) h
          · skip
            refine sq_p (.tuple #[.pointer none, .slice none 0 0, errV ad 1]) rfl (fun _ => by kernel_rfl) ?_
            refine sq_p (.pointer none) rfl (fun _ => by kernel_rfl) ?_
            refine sq_p (.slice none 0 0) rfl (fun _ => by kernel_rfl) ?_
            refine sq_p (errV ad 1) rfl (fun _ => by kernel_rfl) ?_
            refine sq_p (.pointer none) rfl (fun _ => by kernel_rfl) ?_
            refine sq_p (.slice none 0 0) rfl (fun _ => by kernel_rfl) ?_
            refine sq_p (errV ad 1) rfl (fun _ => by kernel_rfl) ?_
            refine lnil ?_
            refine thn_n ?_
            refine c_seq ?_
            refine c_seq ?_
            refine c_reg ?_
            refine sq_p (errV ad 1) rfl (fun _ => by kernel_rfl) ?_
            refine sq_p (.bool true) rfl (fun _ => by kernel_rfl) ?_
            refine lnil ?_
            refine thn_n ?_
            refine c_true (by kernel_rfl) ?_
            refine c_seq ?_
            refine c_reg ?_
            refine sq_p (errV ad 1) rfl (fun _ => by kernel_rfl) ?_
            refine sq_call #[errV ad 1, .int .i64 1] [12] rfl (codedY_spec (B := B) ad 1 1 (by omega) rfl) (fun _ => by kernel_rfl) h ?_; rintro v_ L_ w ⟨rfl, rfl⟩ h
            refine sq_p (.bool true) rfl (fun _ => by kernel_rfl) ?_
            refine sq_p (.pointer none) (by kernel_rfl) (fun _ => by kernel_rfl) ?_
            refine sq_p (.bool true) (by kernel_rfl) (fun _ => by kernel_rfl) ?_
            refine sq_p (.bool true) rfl (fun _ => by kernel_rfl) ?_
            refine sq_p (.bool true) rfl (fun _ => by kernel_rfl) ?_
            refine sq_p (.slice none 0 0) (by kernel_rfl) (fun _ => by kernel_rfl) ?_
            refine sq_p (.int .i64 0) (by kernel_rfl) (fun _ => by kernel_rfl) ?_
            refine sq_p (.bool true) (by kernel_rfl) (fun _ => by kernel_rfl) ?_
            refine sq_p (.bool true) rfl (fun _ => by kernel_rfl) ?_
            refine sq_p (.bool true) rfl (fun _ => by kernel_rfl) ?_
            refine lnil ?_
            refine thn_n ?_
            refine c_ret ?_
            refine thn_r ?_
            refine ret_end [.bool true] [] h (by kernel_rfl) (res_t (by kernel_rfl) res_n) ?_
            exact ⟨rfl, rfl⟩
          · skip
            refine sq_p (.tuple #[.pointer (some ⟨lb41, 0, none⟩), gv42, .nilIface]) rfl (fun _ => by kernel_rfl) ?_
            refine sq_p (.pointer (some ⟨lb41, 0, none⟩)) rfl (fun _ => by kernel_rfl) ?_
            refine sq_p (gv42) rfl (fun _ => by kernel_rfl) ?_
            refine sq_p (.nilIface) rfl (fun _ => by kernel_rfl) ?_
            refine sq_p (.pointer (some ⟨lb41, 0, none⟩)) rfl (fun _ => by kernel_rfl) ?_
            refine sq_p (gv42) rfl (fun _ => by kernel_rfl) ?_
            refine sq_p (.nilIface) rfl (fun _ => by kernel_rfl) ?_
            refine lnil ?_
            refine thn_n ?_
            refine c_seq ?_
            refine c_seq ?_
            refine c_reg ?_
            refine sq_p (.nilIface) rfl (fun _ => by kernel_rfl) ?_
            refine sq_p (.bool false) rfl (fun _ => by kernel_rfl) ?_
            refine lnil ?_
            refine thn_n ?_
            refine c_false (by kernel_rfl) ?_
            refine c_skip ?_
            refine thn_n ?_
            refine c_seq ?_
            refine c_reg ?_
            refine sq_p (.pointer (some ⟨lb41, 0, none⟩)) rfl (fun _ => by kernel_rfl) ?_
            refine sq_p (.bool true) rfl (fun _ => by kernel_rfl) ?_
            refine sq_p (.bool true) rfl (fun _ => by kernel_rfl) ?_
            refine lnil ?_
            refine thn_n ?_
            refine c_ret ?_
            refine ret_end [.bool true] [] h (by kernel_rfl) (res_t (by kernel_rfl) res_n) ?_
            exact ⟨rfl, rfl⟩

/- logp: contracts by what is owned (printed by walk.py). -/
theorem logkeeps_spec {B : Nat} (ad : Nat → Addr) (a1 a2 : Addr) (sectors : Int) (lv : Value) (l : List Rec) (hw : wordN l ≤ 100000000)  : Spec Tryz.prog 4 #[.int .i64 sectors, lv] [rEnvA B ad, rNumE a1 a2, rTab, rArg lv 2 recC l, rSub recR l] (fun u L => u = .bool true ∧ L = []) := by
  refine spec_of (#[.int .i64 sectors, lv, undef, undef, undef, undef, undef, undef, undef, undef, undef, undef, undef, undef, undef, undef, undef, undef, undef, undef, undef, undef, undef, undef, undef, undef, undef, undef, undef, undef, undef, undef, undef, undef, undef, undef, undef, undef, undef, undef, undef, undef, undef, undef, undef, undef, undef, undef, undef, undef, undef, undef, undef, undef, undef, undef, undef, undef, undef, undef, undef, undef, undef, undef, undef, undef, undef, undef, undef, undef, undef, undef, undef, undef, undef, undef, undef, undef, undef, undef, undef, undef, undef, undef, undef, undef, undef, undef, undef, undef, undef, undef, undef, undef, undef, undef, undef, undef, undef, undef, undef, undef, undef, undef, undef, undef, undef, undef, undef, undef, undef, undef, undef, undef, undef, undef, undef, undef, undef, undef, undef, undef, undef, undef, undef, undef, undef, undef, undef, undef, undef, undef, undef]) Tryz.func4 rfl (by kernel_rfl) fun E w0 w h => ?_
  have h := h.eS [1, 2, 3, 9, 15] 0 rfl
  have h := h.eS [2, 3, 9, 15] 1 rfl
  have h := h.eS [1, 2] 2 rfl
  have h := h.eS [2] 3 rfl
  refine c_seq ?_
  refine c_reg ?_
  refine sq_p (.bool false) rfl (fun _ => by kernel_rfl) ?_
  refine lnil ?_
  refine thn_n ?_
  refine c_seq ?_
  refine c_reg ?_
  refine sq_call #[] [3, 4, 4] rfl (logged_spec (B := B) ad a1 a2) (fun _ => by kernel_rfl) h ?_; rintro v_ L_ w ⟨rfl, rfl⟩ h
  refine sq_p (.bool true) rfl (fun _ => by kernel_rfl) ?_
  refine lnil ?_
  refine thn_n ?_
  refine c_seq ?_
  refine c_seq ?_
  refine c_reg ?_
  refine sq_p (.bool true) rfl (fun _ => by kernel_rfl) ?_
  refine sq_p (.bool false) rfl (fun _ => by kernel_rfl) ?_
  refine sq_p (.bool false) rfl (fun _ => by kernel_rfl) ?_
  refine sq_p (lv) (by kernel_rfl) (fun _ => by kernel_rfl) ?_
  refine sq_call #[lv] [7, 7] (by kernel_rfl) (wordy_spec lv l (by omega)) (fun _ => by kernel_rfl) h ?_; rintro v_ L_ w ⟨rfl, rfl⟩ h
  obtain ⟨b1, hb1⟩ : ∃ b_ : Bool, b_ = (decide (500 < wordN l)) := ⟨_, rfl⟩
  refine sq_q (v := .bool b1) rfl h (by subst hb1; exact g_pure (v := .bool (decide (500 < wordN l))) fun _ => by kernel_rfl) ?_
  refine sq_p (.bool b1) rfl (fun _ => by kernel_rfl) ?_
  refine sq_m0 (v := .int .i64 sectors) b1 (by cases b1 <;> kernel_rfl) h (fun hB => by subst hB; exact g_pure (v := .int .i64 sectors) fun _ => by kernel_rfl) ?_
  obtain ⟨b2, hb2⟩ : ∃ b_ : Bool, b_ = (decide (sectors < 1)) := ⟨_, rfl⟩
  refine sq_m0 (v := .bool b2) b1 (by cases b1 <;> kernel_rfl) h (fun hB => by subst hB; exact by subst hb2; exact g_pure (v := .bool (decide (sectors < 1))) fun _ => by kernel_rfl) ?_
  obtain ⟨b3, hb3⟩ : ∃ b_ : Bool, b_ = (b1 || b2) := ⟨_, rfl⟩
  refine sq_q (v := .bool b3) rfl h (by subst hb3; exact g_pure (v := .bool (b1 || b2)) fun _ => by cases b1 <;> kernel_rfl) ?_
  refine sq_p (.bool b3) rfl (fun _ => by kernel_rfl) ?_
  refine sq_m0 (v := .int .i64 sectors) b3 (by cases b3 <;> kernel_rfl) h (fun hB => by subst hB; exact g_pure (v := .int .i64 sectors) fun _ => by kernel_rfl) ?_
  obtain ⟨b4, hb4⟩ : ∃ b_ : Bool, b_ = (decide (sectors > 400)) := ⟨_, rfl⟩
  refine sq_m0 (v := .bool b4) b3 (by cases b3 <;> kernel_rfl) h (fun hB => by subst hB; exact by subst hb4; exact g_pure (v := .bool (decide (sectors > 400))) fun _ => by kernel_rfl) ?_
  obtain ⟨b5, hb5⟩ : ∃ b_ : Bool, b_ = (b3 || b4) := ⟨_, rfl⟩
  refine sq_q (v := .bool b5) rfl h (by subst hb5; exact g_pure (v := .bool (b3 || b4)) fun _ => by cases b3 <;> kernel_rfl) ?_
  refine lnil ?_
  refine thn_n ?_
  refine c_cond (b5) (by kernel_rfl) (fun hc6 => ?_) (fun hc6 => ?_)
  · skip
    have q7 : (b3 || b4) = true := by rw [← hb5]; exact hc6
    have q8 : (((500 < wordN l) ∨ (sectors < 1)) ∨ (sectors > 400)) := by subst hb4; subst hb3; subst hb2; subst hb1; revert q7; first | (simp; done) | (simp; omega)
    refine c_seq ?_
    refine c_reg ?_
    refine sq_p (.bool true) rfl (fun _ => by kernel_rfl) ?_
    refine sq_p (.bool true) rfl (fun _ => by kernel_rfl) ?_
    refine lnil ?_
    refine thn_n ?_
    refine c_ret ?_
    refine thn_r ?_
    refine ret_end [.bool true] [] h (by kernel_rfl) (res_t (by kernel_rfl) res_n) ?_
    exact ⟨rfl, rfl⟩
  · skip
    have q9 : (b3 || b4) = false := by rw [← hb5]; exact hc6
    have q10 : b3 = false := by revert q9; cases b3 <;> simp
    have q11 : b4 = false := by revert q9; cases b3 <;> cases b4 <;> simp
    have q12 : (b1 || b2) = false := by rw [← hb3]; exact q10
    have q13 : b1 = false := by revert q12; cases b1 <;> simp
    have q14 : b2 = false := by revert q12; cases b1 <;> cases b2 <;> simp
    have q15 : (decide (500 < wordN l)) = false := by rw [← hb1]; exact q13
    have q15 := of_decide_eq_false q15
    have q16 : (decide (sectors < 1)) = false := by rw [← hb2]; exact q14
    have q16 := of_decide_eq_false q16
    have q17 : (decide (sectors > 400)) = false := by rw [← hb4]; exact q11
    have q17 := of_decide_eq_false q17
    obtain ⟨sc, hsc⟩ : ∃ m_ : Nat, sectors = (m_ : Int) := ⟨sectors.toNat, by omega⟩
    have hwl := wtL_word l
    have hlc := wordN_cnt l
    refine c_skip ?_
    refine thn_n ?_
    refine c_seq ?_
    refine c_reg ?_
    refine sq_p (.int .i64 sectors) rfl (fun _ => by kernel_rfl) ?_
    refine sq_call #[.int .i64 sectors] [5] rfl (dnewI_spec (B := B) ad sectors sc hsc (by omega) (by omega)) (fun _ => by kernel_rfl) h ?_; rintro v_ L_ w ⟨db18, Sx19, rfl, rfl⟩ h
    refine sq_p (.tuple #[.pointer (some ⟨db18, 0, none⟩), .nilIface]) rfl (fun _ => by kernel_rfl) ?_
    refine sq_p (.pointer (some ⟨db18, 0, none⟩)) rfl (fun _ => by kernel_rfl) ?_
    refine sq_p (.nilIface) rfl (fun _ => by kernel_rfl) ?_
    refine sq_p (.pointer (some ⟨db18, 0, none⟩)) rfl (fun _ => by kernel_rfl) ?_
    refine sq_p (.nilIface) rfl (fun _ => by kernel_rfl) ?_
    refine lnil ?_
    refine thn_n ?_
    refine c_seq ?_
    refine c_seq ?_
    refine c_reg ?_
    refine sq_p (.nilIface) rfl (fun _ => by kernel_rfl) ?_
    refine sq_p (.bool false) rfl (fun _ => by kernel_rfl) ?_
    refine sq_p (.bool false) rfl (fun _ => by kernel_rfl) ?_
    refine sq_p (.pointer (some ⟨db18, 0, none⟩)) (by kernel_rfl) (fun _ => by kernel_rfl) ?_
    refine sq_p (.bool false) (by kernel_rfl) (fun _ => by kernel_rfl) ?_
    refine sq_p (.bool false) rfl (fun _ => by kernel_rfl) ?_
    refine lnil ?_
    refine thn_n ?_
    refine c_false (by kernel_rfl) ?_
    refine c_skip ?_
    refine thn_n ?_
    refine c_seq ?_
    refine c_reg ?_
    refine sq_p (.pointer (some ⟨db18, 0, none⟩)) rfl (fun _ => by kernel_rfl) ?_
    refine sq_call #[.pointer (some ⟨db18, 0, none⟩)] [0, 5, 6] rfl (fmtI_spec (B := B) ad db18 sc Sx19 (by omega)) (fun _ => by kernel_rfl) h ?_; rintro v_ L_ w (⟨hsm, rfl, rfl⟩ | ⟨lb20, Sx21, dd22, hbg, hle0, hqu0, hva0, hln0, rfl, rfl⟩) h
    · skip
      refine sq_p (.tuple #[.pointer none, errV ad 9]) rfl (fun _ => by kernel_rfl) ?_
      refine sq_p (.pointer none) rfl (fun _ => by kernel_rfl) ?_
      refine sq_p (errV ad 9) rfl (fun _ => by kernel_rfl) ?_
      refine sq_p (.pointer none) rfl (fun _ => by kernel_rfl) ?_
      refine sq_p (errV ad 9) rfl (fun _ => by kernel_rfl) ?_
      refine lnil ?_
      refine thn_n ?_
      refine c_seq ?_
      refine c_seq ?_
      refine c_reg ?_
      refine sq_p (.int .i64 sectors) rfl (fun _ => by kernel_rfl) ?_
      refine sq_p (.bool (decide (sectors < 8))) rfl (fun _ => by kernel_rfl) ?_
      refine lnil ?_
      refine thn_n ?_
      refine c_cond (decide (sectors < 8)) (by kernel_rfl) (fun hc23 => ?_) (fun hc23 => ?_)
      · skip
        have hc23 := of_decide_eq_true hc23
        refine c_seq ?_
        refine c_reg ?_
        refine sq_p (errV ad 9) rfl (fun _ => by kernel_rfl) ?_
        refine sq_call #[errV ad 9, .int .i64 9] [9] rfl (codedY_spec (B := B) ad 9 9 (by omega) rfl) (fun _ => by kernel_rfl) h ?_; rintro v_ L_ w ⟨rfl, rfl⟩ h
        refine sq_p (.bool true) rfl (fun _ => by kernel_rfl) ?_
        refine sq_p (.pointer none) (by kernel_rfl) (fun _ => by kernel_rfl) ?_
        refine sq_p (.bool true) (by kernel_rfl) (fun _ => by kernel_rfl) ?_
        refine sq_p (.bool true) rfl (fun _ => by kernel_rfl) ?_
        refine sq_p (.bool true) rfl (fun _ => by kernel_rfl) ?_
        refine lnil ?_
        refine thn_n ?_
        refine c_ret ?_
        refine thn_r ?_
        refine ret_end [.bool true] [] h (by kernel_rfl) (res_t (by kernel_rfl) res_n) ?_
        exact ⟨rfl, rfl⟩
      · skip
        have hc23 := of_decide_eq_false hc23
        exfalso; omega
    · skip
      refine sq_p (.tuple #[.pointer (some ⟨lb20, 0, none⟩), .nilIface]) rfl (fun _ => by kernel_rfl) ?_
      refine sq_p (.pointer (some ⟨lb20, 0, none⟩)) rfl (fun _ => by kernel_rfl) ?_
      refine sq_p (.nilIface) rfl (fun _ => by kernel_rfl) ?_
      refine sq_p (.pointer (some ⟨lb20, 0, none⟩)) rfl (fun _ => by kernel_rfl) ?_
      refine sq_p (.nilIface) rfl (fun _ => by kernel_rfl) ?_
      refine lnil ?_
      refine thn_n ?_
      refine c_seq ?_
      refine c_seq ?_
      refine c_reg ?_
      refine sq_p (.int .i64 sectors) rfl (fun _ => by kernel_rfl) ?_
      refine sq_p (.bool (decide (sectors < 8))) rfl (fun _ => by kernel_rfl) ?_
      refine lnil ?_
      refine thn_n ?_
      refine c_cond (decide (sectors < 8)) (by kernel_rfl) (fun hc24 => ?_) (fun hc24 => ?_)
      · skip
        have hc24 := of_decide_eq_true hc24
        exfalso; omega
      · skip
        have hc24 := of_decide_eq_false hc24
        refine c_skip ?_
        refine thn_n ?_
        refine c_seq ?_
        refine c_seq ?_
        refine c_reg ?_
        refine sq_p (.nilIface) rfl (fun _ => by kernel_rfl) ?_
        refine sq_p (.bool false) rfl (fun _ => by kernel_rfl) ?_
        refine sq_p (.bool false) rfl (fun _ => by kernel_rfl) ?_
        refine sq_p (.pointer (some ⟨lb20, 0, none⟩)) (by kernel_rfl) (fun _ => by kernel_rfl) ?_
        refine sq_p (.bool false) (by kernel_rfl) (fun _ => by kernel_rfl) ?_
        refine sq_p (.bool false) rfl (fun _ => by kernel_rfl) ?_
        refine lnil ?_
        refine thn_n ?_
        refine c_false (by kernel_rfl) ?_
        refine c_skip ?_
        refine thn_n ?_
        refine c_seq ?_
        refine c_reg ?_
        refine sq_p (.slice none 0 0) rfl (fun _ => by kernel_rfl) ?_
        refine lnil ?_
        refine thn_n ?_
        refine c_seq ?_
        refine c_reg ?_
        refine sq_p (.int .i64 0) rfl (fun _ => by kernel_rfl) ?_
        refine lnil ?_
        refine thn_n ?_
        refine c_seq ?_
        refine c_seq ?_
        refine c_reg ?_
        refine sq_p (.int .i64 0) rfl (fun _ => by kernel_rfl) ?_
        refine lnil ?_
        refine thn_n ?_
        refine c_block ?_
        have h := (h.nilRows 9 1 strC).toArg
        refine c_loop (X := Nat × Value × List ByteArray × Nat × PDisk × (Nat → Prop) × Nat × Nat × Nat × (List (List Tx)) × (Nat → Value)) (fun ⟨ii, nv, ns, ads, dv, Sv, c, hh, zz, pk, J0⟩ => ⟨#[.int .i64 sectors, lv, undef, undef, J0 4, .bool true, .pointer (some ⟨db18, 0, none⟩), .nilIface, .pointer (some ⟨lb20, 0, none⟩), nv, .int .i64 ((ads : Nat) : Int), .int .i64 ((ii : Nat) : Int), J0 12, J0 13, J0 14, J0 15, J0 16, undef, undef, .bool true, .bool true, .bool false, .bool false, lv, .bool (decide (500 < wordN l)), .bool b1, .bool b1, (if b1 = false then .int .i64 sectors else undef), (if b1 = false then .bool b2 else undef), .bool b3, .bool b3, (if b3 = false then .int .i64 sectors else undef), (if b3 = false then .bool b4 else undef), .bool b5, undef, .tuple #[.pointer (some ⟨db18, 0, none⟩), .nilIface], .int .i64 sectors, .tuple #[.pointer (some ⟨db18, 0, none⟩), .nilIface], .pointer (some ⟨db18, 0, none⟩), .nilIface, .nilIface, .bool false, .bool false, .pointer (some ⟨db18, 0, none⟩), .bool false, .bool false, .tuple #[.pointer (some ⟨lb20, 0, none⟩), .nilIface], .pointer (some ⟨db18, 0, none⟩), .tuple #[.pointer (some ⟨lb20, 0, none⟩), .nilIface], .pointer (some ⟨lb20, 0, none⟩), .nilIface, .int .i64 sectors, .bool (decide (sectors < 8)), undef, undef, undef, undef, undef, undef, .nilIface, .bool false, .bool false, .pointer (some ⟨lb20, 0, none⟩), .bool false, .bool false, J0 65, J0 66, J0 67, J0 68, J0 69, J0 70, J0 71, J0 72, J0 73, J0 74, J0 75, J0 76, J0 77, J0 78, J0 79, J0 80, J0 81, J0 82, J0 83, J0 84, J0 85, J0 86, J0 87, J0 88, J0 89, J0 90, J0 91, J0 92, J0 93, J0 94, J0 95, J0 96, J0 97, J0 98, J0 99, J0 100, J0 101, J0 102, J0 103, J0 104, J0 105, J0 106, J0 107, J0 108, J0 109, J0 110, J0 111, J0 112, J0 113, J0 114, J0 115, J0 116, J0 117, undef, undef, undef, undef, undef, undef, undef, undef, undef, undef, undef, undef, undef, undef, undef], []⟩)
          (fun ⟨ii, nv, ns, ads, dv, Sv, c, hh, zz, pk, J0⟩ => [rArg nv 1 strC ns, rDisk B db18 dv Sv, rTab, rEnv B ad [2, 3, 9, 15], rCell true lb20 [.pointer (some ⟨db18, 0, none⟩), .int .i64 (c : Int), .int .i64 (hh : Int), .int .i64 (zz : Int), .bool false] 70, rEnv B ad [2], rArg lv 2 recC l, rSub recR l, rEnv B ad [1, 2, 3, 9, 15], rNumE a1 a2, rEnv B ad [1, 2], rEnvA B ad]) (fun ⟨ii, nv, ns, ads, dv, Sv, c, hh, zz, pk, J0⟩ => ii ≤ l.length ∧ LK sc l ii ns ads dv c hh zz pk) (fun ⟨ii, nv, ns, ads, dv, Sv, c, hh, zz, pk, J0⟩ => l.length - ii)
          ⟨0, (.slice none 0 0), [], 0, dd22, Sx21, 1, 0, 0, [], (fun n => (#[.int .i64 sectors, lv, undef, undef, .bool false, .bool true, .pointer (some ⟨db18, 0, none⟩), .nilIface, .pointer (some ⟨lb20, 0, none⟩), .slice none 0 0, .int .i64 0, .int .i64 0, undef, undef, undef, undef, undef, undef, undef, .bool true, .bool true, .bool false, .bool false, lv, .bool (decide (500 < wordN l)), .bool b1, .bool b1, (if b1 = false then .int .i64 sectors else undef), (if b1 = false then .bool b2 else undef), .bool b3, .bool b3, (if b3 = false then .int .i64 sectors else undef), (if b3 = false then .bool b4 else undef), .bool b5, undef, .tuple #[.pointer (some ⟨db18, 0, none⟩), .nilIface], .int .i64 sectors, .tuple #[.pointer (some ⟨db18, 0, none⟩), .nilIface], .pointer (some ⟨db18, 0, none⟩), .nilIface, .nilIface, .bool false, .bool false, .pointer (some ⟨db18, 0, none⟩), .bool false, .bool false, .tuple #[.pointer (some ⟨lb20, 0, none⟩), .nilIface], .pointer (some ⟨db18, 0, none⟩), .tuple #[.pointer (some ⟨lb20, 0, none⟩), .nilIface], .pointer (some ⟨lb20, 0, none⟩), .nilIface, .int .i64 sectors, .bool (decide (sectors < 8)), undef, undef, undef, undef, undef, undef, .nilIface, .bool false, .bool false, .pointer (some ⟨lb20, 0, none⟩), .bool false, .bool false, undef, undef, undef, undef, undef, undef, undef, undef, undef, undef, undef, undef, undef, undef, undef, undef, undef, undef, undef, undef, undef, undef, undef, undef, undef, undef, undef, undef, undef, undef, undef, undef, undef, undef, undef, undef, undef, undef, undef, undef, undef, undef, undef, undef, undef, undef, undef, undef, undef, undef, undef, undef, undef, undef, undef, undef, undef, undef, undef, undef, undef, undef, undef, undef, undef, undef, undef, undef] : Array Value).getD n undef)⟩ ⟨Nat.zero_le _, ⟨hva0, hqu0, hle0, hln0, Nat.le_refl _, Nat.zero_le _, Nat.le_refl _, rfl, Nat.zero_le _⟩⟩ (by kernel_rfl) [0, 0, 0, 0, 0, 0, 0, 0, 0, 0, 0, 0] (by kernel_rfl) h ?_
        rintro ⟨ii, nv, ns, ads, dv, Sv, c, hh, zz, pk, J0⟩ w hG h
        obtain ⟨hil, hLK⟩ : ii ≤ l.length ∧ LK sc l ii ns ads dv c hh zz pk := hG
        have hwt := Nat.le_trans hLK.wt (wtL_take l ii)
        have hnsl : ns.length < 1000000 := by have := wt_cnt ns; omega
        have hcle := hLK.cle
        have hadl := hLK.adl
        refine c_seq ?_
        refine c_seq ?_
        refine c_reg ?_
        refine sq_p (.int .i64 ((ii : Nat) : Int)) rfl (fun _ => by kernel_rfl) ?_
        refine sq_p (lv) rfl (fun _ => by kernel_rfl) ?_
        refine sq_q rfl h (g_lenA 47 (by kernel_rfl) 6 rfl) ?_
        refine sq_p (.bool (decide (((ii : Nat) : Int) < (l.length : Int)))) rfl (fun _ => by kernel_rfl) ?_
        refine lnil ?_
        refine thn_n ?_
        refine c_cond (decide (((ii : Nat) : Int) < (l.length : Int))) (by kernel_rfl) (fun hc25 => ?_) (fun hc25 => ?_)
        · skip
          have hc25 := of_decide_eq_true hc25
          have hix : ii < l.length := by omega
          obtain ⟨xr, hxr⟩ : ∃ x_, l[ii]? = some x_ := ⟨_, List.getElem?_eq_getElem hix⟩
          have h := h.inner 7 rfl hxr rfl
          have hrn := wtL_next hxr
          have hrt := wtL_take l (ii + 1)
          have hrsl : (recL xr).length < 1000000 := by have := wt_cnt (recL xr); omega
          have hbr : (packT ((recL xr).map tx)).length ≤ 90000000 := by have := packT_wt (rs := recL xr) (by omega); omega
          have hcl : c + 1 < ten10 := by unfold ten10; have := wordN_cnt l; omega
          refine c_skip ?_
          refine thn_n ?_
          refine c_seq ?_
          refine c_block ?_
          refine c_seq ?_
          refine c_reg ?_
          refine sq_p (nv) rfl (fun _ => by kernel_rfl) ?_
          refine sq_p (lv) rfl (fun _ => by kernel_rfl) ?_
          refine sq_p (.int .i64 ((ii : Nat) : Int)) rfl (fun _ => by kernel_rfl) ?_
          refine sq_q rfl h (g_idxA 47 ii (by kernel_rfl) hix 7 rfl) ?_
          refine sq_q rfl h (g_ldr (b := blkN lv) (offN lv + ii * 2) [.bool xr.1, slV xr.2.1] (.agg #[.bool xr.1, slV xr.2.1]) (by kernel_rfl) 7 rfl (rdArg0 hxr (by kernel_rfl))) ?_
          refine sq_call #[nv, .agg #[.bool xr.1, slV xr.2.1]] [1, 0] rfl (next_spec (slV xr.2.1) (recL xr) xr.1 nv ns hnsl hrsl) (fun _ => by kernel_rfl) h ?_; rintro tv26 L_ w ⟨_, rfl, rfl⟩ h
          have h := (h.pick [2, 0, 0, 0, 0, 0, 0, 0, 0, 0, 0, 0, 0, 0]).toArg
          refine sq_p (tv26) rfl (fun _ => by kernel_rfl) ?_
          refine lnil ?_
          refine thn_n ?_
          refine c_seq ?_
          refine c_reg ?_
          refine sq_p (.int .i64 ((ads : Nat) : Int)) rfl (fun _ => by kernel_rfl) ?_
          refine sq_q rfl h (g_eq (v := .int .i64 (IntKind.i64.wrap (((ads : Nat) : Int) + 1))) (v' := .int .i64 ((ads + 1 : Nat) : Int)) (g_pure fun _ => by kernel_rfl) (wr (by omega))) ?_
          refine sq_p (.int .i64 ((ads + 1 : Nat) : Int)) rfl (fun _ => by kernel_rfl) ?_
          refine lnil ?_
          refine thn_n ?_
          refine c_seq ?_
          refine c_seq ?_
          refine c_reg ?_
          refine sq_p (lv) rfl (fun _ => by kernel_rfl) ?_
          refine sq_p (.int .i64 ((ii : Nat) : Int)) rfl (fun _ => by kernel_rfl) ?_
          refine sq_q rfl h (g_idxA 47 ii (by kernel_rfl) hix 8 rfl) ?_
          refine sq_p (.pointer (some ⟨blkN lv, offN lv + ii * 2, none⟩)) rfl (fun _ => by kernel_rfl) ?_
          refine sq_q rfl h (g_ldr (b := blkN lv) (offN lv + ii * 2) [.bool xr.1] (.bool xr.1) (by kernel_rfl) 8 rfl (rdArg0 hxr (by kernel_rfl))) ?_
          refine lnil ?_
          refine thn_n ?_
          refine c_cond (xr.1) (by kernel_rfl) (fun hc27 => ?_) (fun hc27 => ?_)
          · skip
            refine c_reg ?_
            refine sq_p (.int .i64 0) rfl (fun _ => by kernel_rfl) ?_
            refine lnil ?_
            refine thn_n ?_
            refine c_seq ?_
            refine c_reg ?_
            refine sq_p (.pointer (some ⟨lb20, 0, none⟩)) rfl (fun _ => by kernel_rfl) ?_
            refine sq_p (lv) rfl (fun _ => by kernel_rfl) ?_
            refine sq_p (.int .i64 ((ii : Nat) : Int)) rfl (fun _ => by kernel_rfl) ?_
            refine sq_q rfl h (g_idxA 47 ii (by kernel_rfl) hix 8 rfl) ?_
            refine sq_q rfl h (g_ldr (b := blkN lv) (offN lv + ii * 2) [.bool xr.1, slV xr.2.1] (.agg #[.bool xr.1, slV xr.2.1]) (by kernel_rfl) 8 rfl (rdArg0 hxr (by kernel_rfl))) ?_
            refine sq_call #[.pointer (some ⟨lb20, 0, none⟩), .agg #[.bool xr.1, slV xr.2.1]] [6, 3, 3, 3, 2] rfl (actN_spec (B := B) ad lb20 db18 dv Sv c hh zz pk (slV xr.2.1) (recL xr) xr.1 hbr hrsl hLK.valid hLK.quiet hLK.left hcl) (fun _ => by kernel_rfl) h ?_; rintro v_ L_ w (⟨hdn34, rfl, rfl⟩ | ⟨dd28, Sx29, cx30, hw31, zx32, pkx33, hdn34, rfl, rfl⟩) h
            · skip
              have hLK2 := hLK.full hxr
              refine sq_p (errV ad 9) rfl (fun _ => by kernel_rfl) ?_
              refine lnil ?_
              refine thn_n ?_
              refine c_seq ?_
              refine c_seq ?_
              refine c_reg ?_
              refine sq_p (errV ad 9) rfl (fun _ => by kernel_rfl) ?_
              refine sq_p (.bool true) rfl (fun _ => by kernel_rfl) ?_
              refine lnil ?_
              refine thn_n ?_
              refine c_true (by kernel_rfl) ?_
              refine c_seq ?_
              refine c_seq ?_
              refine c_reg ?_
              refine sq_p (errV ad 9) rfl (fun _ => by kernel_rfl) ?_
              refine sq_call #[errV ad 9, .int .i64 9] [13] rfl (codedY_spec (B := B) ad 9 9 (by omega) rfl) (fun _ => by kernel_rfl) h ?_; rintro v_ L_ w ⟨rfl, rfl⟩ h
              refine sq_p (.bool false) rfl (fun _ => by kernel_rfl) ?_
              refine sq_p (.bool false) rfl (fun _ => by kernel_rfl) ?_
              refine sq_p (tv26) (by kernel_rfl) (fun _ => by kernel_rfl) ?_
              refine sq_p (.int .i64 0) (by kernel_rfl) (fun _ => by kernel_rfl) ?_
              refine sq_p (.int .i64 sectors) (by kernel_rfl) (fun _ => by kernel_rfl) ?_
              refine sq_call #[tv26, .int .i64 0, .int .i64 sectors] [6] (by kernel_rfl) (fitsN_spec tv26 ((if xr.1 then [] else ns) ++ recL xr) 0 sectors sc hsc (by omega) (by omega) (by have := hLK.wt2 hxr; have := wtL_take l (ii + 1); omega) (by have hq_ := hLK.nofit (by omega) hxr hdn34; simpa [hc27] using hq_)) (fun _ => by kernel_rfl) h ?_; rintro v_ L_ w ⟨rfl, rfl⟩ h
              refine sq_p (.bool false) rfl (fun _ => by kernel_rfl) ?_
              refine lnil ?_
              refine thn_n ?_
              refine c_false (by kernel_rfl) ?_
              refine c_skip ?_
              refine thn_n ?_
              refine c_reg ?_
              refine sq_p (nv) rfl (fun _ => by kernel_rfl) ?_
              refine sq_p (nv) rfl (fun _ => by kernel_rfl) ?_
              refine lnil ?_
              refine thn_n ?_
              refine c_seq ?_
              refine c_reg ?_
              refine sq_p (.pointer (some ⟨db18, 0, none⟩)) rfl (fun _ => by kernel_rfl) ?_
              refine sq_call #[.pointer (some ⟨db18, 0, none⟩)] [3, 11, 3, 10] rfl (openL_spec (B := B) ad a1 a2 db18 dv Sv _ _ _ _ hLK2.valid) (fun _ => by kernel_rfl) h ?_; rintro v_ L_ w ⟨lb35, gv36, grs37, hgr38, rfl, rfl⟩ h
              refine sq_p (.tuple #[.pointer (some ⟨lb35, 0, none⟩), gv36, .nilIface]) rfl (fun _ => by kernel_rfl) ?_
              refine sq_p (.pointer (some ⟨lb35, 0, none⟩)) rfl (fun _ => by kernel_rfl) ?_
              refine sq_p (gv36) rfl (fun _ => by kernel_rfl) ?_
              refine sq_p (.nilIface) rfl (fun _ => by kernel_rfl) ?_
              refine sq_p (.pointer (some ⟨lb35, 0, none⟩)) rfl (fun _ => by kernel_rfl) ?_
              refine sq_p (gv36) rfl (fun _ => by kernel_rfl) ?_
              refine sq_p (.nilIface) rfl (fun _ => by kernel_rfl) ?_
              refine lnil ?_
              refine thn_n ?_
              refine c_seq ?_
              refine c_seq ?_
              refine c_reg ?_
              refine sq_p (.nilIface) rfl (fun _ => by kernel_rfl) ?_
              refine sq_p (.bool false) rfl (fun _ => by kernel_rfl) ?_
              refine sq_p (.bool false) rfl (fun _ => by kernel_rfl) ?_
              refine sq_p (gv36) (by kernel_rfl) (fun _ => by kernel_rfl) ?_
              refine sq_p (nv) (by kernel_rfl) (fun _ => by kernel_rfl) ?_
              refine sq_call #[gv36, nv] [5, 10] (by kernel_rfl) (sameT_spec gv36 nv grs37 ns (by have hq_ := congrArg List.length (texts_inj (hgr38.trans hLK2.flat)); have := wt_cnt ns; have := hLK2.wt; have := wtL_take l (ii + 1); omega) (texts_inj (hgr38.trans hLK2.flat))) (fun _ => by kernel_rfl) h ?_; rintro v_ L_ w ⟨rfl, rfl⟩ h
              refine sq_p (.bool false) (by kernel_rfl) (fun _ => by kernel_rfl) ?_
              refine sq_p (.bool false) rfl (fun _ => by kernel_rfl) ?_
              refine lnil ?_
              refine thn_n ?_
              refine c_false (by kernel_rfl) ?_
              refine c_skip ?_
              refine thn_n ?_
              refine c_reg ?_
              refine sq_p (nv) rfl (fun _ => by kernel_rfl) ?_
              refine sq_p (nv) rfl (fun _ => by kernel_rfl) ?_
              refine lnil ?_
              refine blk_n (thn_n ?_)
              refine c_reg ?_
              refine sq_p (.int .i64 ((ii : Nat) : Int)) rfl (fun _ => by kernel_rfl) ?_
              refine sq_q rfl h (g_eq (v := .int .i64 (IntKind.i64.wrap (((ii : Nat) : Int) + 1))) (v' := .int .i64 ((ii + 1 : Nat) : Int)) (g_pure fun _ => by kernel_rfl) (wr (by omega))) ?_
              refine sq_p (.int .i64 ((ii + 1 : Nat) : Int)) rfl (fun _ => by kernel_rfl) ?_
              refine lnil ?_
              have hQ39 : ((ii + 1) ≤ l.length ∧ LK sc l (ii + 1) ns ads dv c hh zz pk) ∧ (l.length - (ii + 1)) < (l.length - ii) := ⟨⟨by omega, by first | exact hLK2 | simpa [hc27] using hLK2⟩, by omega⟩
              refine loop_end (fun j => ⟨ii + 1, nv, ns, ads, dv, Sv, c, hh, zz, pk, j⟩) hQ39 (by kernel_rfl) [1, 1, 2, 7, 6, 7, 7, 7, 7, 1, 1, 3] (by kernel_rfl) h
            · skip
              have hLK2 := hLK.done hxr hdn34
              refine sq_p (.nilIface) rfl (fun _ => by kernel_rfl) ?_
              refine lnil ?_
              refine thn_n ?_
              refine c_seq ?_
              refine c_seq ?_
              refine c_reg ?_
              refine sq_p (.nilIface) rfl (fun _ => by kernel_rfl) ?_
              refine sq_p (.bool false) rfl (fun _ => by kernel_rfl) ?_
              refine lnil ?_
              refine thn_n ?_
              refine c_false (by kernel_rfl) ?_
              refine c_reg ?_
              refine sq_p (.int .i64 0) rfl (fun _ => by kernel_rfl) ?_
              refine sq_p (.int .i64 0) rfl (fun _ => by kernel_rfl) ?_
              refine lnil ?_
              refine thn_n ?_
              refine c_seq ?_
              refine c_reg ?_
              refine sq_p (.pointer (some ⟨db18, 0, none⟩)) rfl (fun _ => by kernel_rfl) ?_
              refine sq_call #[.pointer (some ⟨db18, 0, none⟩)] [1, 10, 1, 9] rfl (openL_spec (B := B) ad a1 a2 db18 dd28 Sx29 _ _ _ _ hLK2.valid) (fun _ => by kernel_rfl) h ?_; rintro v_ L_ w ⟨lb40, gv41, grs42, hgr43, rfl, rfl⟩ h
              refine sq_p (.tuple #[.pointer (some ⟨lb40, 0, none⟩), gv41, .nilIface]) rfl (fun _ => by kernel_rfl) ?_
              refine sq_p (.pointer (some ⟨lb40, 0, none⟩)) rfl (fun _ => by kernel_rfl) ?_
              refine sq_p (gv41) rfl (fun _ => by kernel_rfl) ?_
              refine sq_p (.nilIface) rfl (fun _ => by kernel_rfl) ?_
              refine sq_p (.pointer (some ⟨lb40, 0, none⟩)) rfl (fun _ => by kernel_rfl) ?_
              refine sq_p (gv41) rfl (fun _ => by kernel_rfl) ?_
              refine sq_p (.nilIface) rfl (fun _ => by kernel_rfl) ?_
              refine lnil ?_
              refine thn_n ?_
              refine c_seq ?_
              refine c_seq ?_
              refine c_reg ?_
              refine sq_p (.nilIface) rfl (fun _ => by kernel_rfl) ?_
              refine sq_p (.bool false) rfl (fun _ => by kernel_rfl) ?_
              refine sq_p (.bool false) rfl (fun _ => by kernel_rfl) ?_
              refine sq_p (gv41) (by kernel_rfl) (fun _ => by kernel_rfl) ?_
              refine sq_p (tv26) (by kernel_rfl) (fun _ => by kernel_rfl) ?_
              refine sq_call #[gv41, tv26] [5, 8] (by kernel_rfl) (sameT_spec gv41 tv26 grs42 ((if xr.1 then [] else ns) ++ recL xr) (by have hq_ := congrArg List.length (texts_inj (hgr43.trans hLK2.flat)); have := wt_cnt ((if xr.1 then [] else ns) ++ recL xr); have := hLK2.wt; have := wtL_take l (ii + 1); omega) (texts_inj (hgr43.trans hLK2.flat))) (fun _ => by kernel_rfl) h ?_; rintro v_ L_ w ⟨rfl, rfl⟩ h
              refine sq_p (.bool false) (by kernel_rfl) (fun _ => by kernel_rfl) ?_
              refine sq_p (.bool false) rfl (fun _ => by kernel_rfl) ?_
              refine lnil ?_
              refine thn_n ?_
              refine c_false (by kernel_rfl) ?_
              refine c_skip ?_
              refine thn_n ?_
              refine c_reg ?_
              refine sq_p (tv26) rfl (fun _ => by kernel_rfl) ?_
              refine sq_p (tv26) rfl (fun _ => by kernel_rfl) ?_
              refine lnil ?_
              refine blk_n (thn_n ?_)
              refine c_reg ?_
              refine sq_p (.int .i64 ((ii : Nat) : Int)) rfl (fun _ => by kernel_rfl) ?_
              refine sq_q rfl h (g_eq (v := .int .i64 (IntKind.i64.wrap (((ii : Nat) : Int) + 1))) (v' := .int .i64 ((ii + 1 : Nat) : Int)) (g_pure fun _ => by kernel_rfl) (wr (by omega))) ?_
              refine sq_p (.int .i64 ((ii + 1 : Nat) : Int)) rfl (fun _ => by kernel_rfl) ?_
              refine lnil ?_
              have hQ44 : ((ii + 1) ≤ l.length ∧ LK sc l (ii + 1) ((if xr.1 then [] else ns) ++ recL xr) 0 dd28 cx30 hw31 zx32 pkx33) ∧ (l.length - (ii + 1)) < (l.length - ii) := ⟨⟨by omega, by first | exact hLK2 | simpa [hc27] using hLK2⟩, by omega⟩
              refine loop_end (fun j => ⟨ii + 1, tv26, ((if xr.1 then [] else ns) ++ recL xr), 0, dd28, Sx29, cx30, hw31, zx32, pkx33, j⟩) hQ44 (by kernel_rfl) [1, 1, 2, 5, 4, 6, 6, 6, 6, 1, 1, 4] (by kernel_rfl) h
          · skip
            refine c_skip ?_
            refine thn_n ?_
            refine c_seq ?_
            refine c_reg ?_
            refine sq_p (.pointer (some ⟨lb20, 0, none⟩)) rfl (fun _ => by kernel_rfl) ?_
            refine sq_p (lv) rfl (fun _ => by kernel_rfl) ?_
            refine sq_p (.int .i64 ((ii : Nat) : Int)) rfl (fun _ => by kernel_rfl) ?_
            refine sq_q rfl h (g_idxA 47 ii (by kernel_rfl) hix 8 rfl) ?_
            refine sq_q rfl h (g_ldr (b := blkN lv) (offN lv + ii * 2) [.bool xr.1, slV xr.2.1] (.agg #[.bool xr.1, slV xr.2.1]) (by kernel_rfl) 8 rfl (rdArg0 hxr (by kernel_rfl))) ?_
            refine sq_call #[.pointer (some ⟨lb20, 0, none⟩), .agg #[.bool xr.1, slV xr.2.1]] [6, 3, 3, 3, 2] rfl (actN_spec (B := B) ad lb20 db18 dv Sv c hh zz pk (slV xr.2.1) (recL xr) xr.1 hbr hrsl hLK.valid hLK.quiet hLK.left hcl) (fun _ => by kernel_rfl) h ?_; rintro v_ L_ w (⟨hdn51, rfl, rfl⟩ | ⟨dd45, Sx46, cx47, hw48, zx49, pkx50, hdn51, rfl, rfl⟩) h
            · skip
              have hLK2 := hLK.full hxr
              refine sq_p (errV ad 9) rfl (fun _ => by kernel_rfl) ?_
              refine lnil ?_
              refine thn_n ?_
              refine c_seq ?_
              refine c_seq ?_
              refine c_reg ?_
              refine sq_p (errV ad 9) rfl (fun _ => by kernel_rfl) ?_
              refine sq_p (.bool true) rfl (fun _ => by kernel_rfl) ?_
              refine lnil ?_
              refine thn_n ?_
              refine c_true (by kernel_rfl) ?_
              refine c_seq ?_
              refine c_seq ?_
              refine c_reg ?_
              refine sq_p (errV ad 9) rfl (fun _ => by kernel_rfl) ?_
              refine sq_call #[errV ad 9, .int .i64 9] [13] rfl (codedY_spec (B := B) ad 9 9 (by omega) rfl) (fun _ => by kernel_rfl) h ?_; rintro v_ L_ w ⟨rfl, rfl⟩ h
              refine sq_p (.bool false) rfl (fun _ => by kernel_rfl) ?_
              refine sq_p (.bool false) rfl (fun _ => by kernel_rfl) ?_
              refine sq_p (tv26) (by kernel_rfl) (fun _ => by kernel_rfl) ?_
              refine sq_p (.int .i64 ((ads + 1 : Nat) : Int)) (by kernel_rfl) (fun _ => by kernel_rfl) ?_
              refine sq_p (.int .i64 sectors) (by kernel_rfl) (fun _ => by kernel_rfl) ?_
              refine sq_call #[tv26, .int .i64 ((ads + 1 : Nat) : Int), .int .i64 sectors] [6] (by kernel_rfl) (fitsN_spec tv26 ((if xr.1 then [] else ns) ++ recL xr) (ads + 1) sectors sc hsc (by omega) (by omega) (by have := hLK.wt2 hxr; have := wtL_take l (ii + 1); omega) (by have hq_ := hLK.nofit (by omega) hxr hdn51; simpa [hc27] using hq_)) (fun _ => by kernel_rfl) h ?_; rintro v_ L_ w ⟨rfl, rfl⟩ h
              refine sq_p (.bool false) rfl (fun _ => by kernel_rfl) ?_
              refine lnil ?_
              refine thn_n ?_
              refine c_false (by kernel_rfl) ?_
              refine c_skip ?_
              refine thn_n ?_
              refine c_reg ?_
              refine sq_p (nv) rfl (fun _ => by kernel_rfl) ?_
              refine sq_p (nv) rfl (fun _ => by kernel_rfl) ?_
              refine lnil ?_
              refine thn_n ?_
              refine c_seq ?_
              refine c_reg ?_
              refine sq_p (.pointer (some ⟨db18, 0, none⟩)) rfl (fun _ => by kernel_rfl) ?_
              refine sq_call #[.pointer (some ⟨db18, 0, none⟩)] [3, 11, 3, 10] rfl (openL_spec (B := B) ad a1 a2 db18 dv Sv _ _ _ _ hLK2.valid) (fun _ => by kernel_rfl) h ?_; rintro v_ L_ w ⟨lb52, gv53, grs54, hgr55, rfl, rfl⟩ h
              refine sq_p (.tuple #[.pointer (some ⟨lb52, 0, none⟩), gv53, .nilIface]) rfl (fun _ => by kernel_rfl) ?_
              refine sq_p (.pointer (some ⟨lb52, 0, none⟩)) rfl (fun _ => by kernel_rfl) ?_
              refine sq_p (gv53) rfl (fun _ => by kernel_rfl) ?_
              refine sq_p (.nilIface) rfl (fun _ => by kernel_rfl) ?_
              refine sq_p (.pointer (some ⟨lb52, 0, none⟩)) rfl (fun _ => by kernel_rfl) ?_
              refine sq_p (gv53) rfl (fun _ => by kernel_rfl) ?_
              refine sq_p (.nilIface) rfl (fun _ => by kernel_rfl) ?_
              refine lnil ?_
              refine thn_n ?_
              refine c_seq ?_
              refine c_seq ?_
              refine c_reg ?_
              refine sq_p (.nilIface) rfl (fun _ => by kernel_rfl) ?_
              refine sq_p (.bool false) rfl (fun _ => by kernel_rfl) ?_
              refine sq_p (.bool false) rfl (fun _ => by kernel_rfl) ?_
              refine sq_p (gv53) (by kernel_rfl) (fun _ => by kernel_rfl) ?_
              refine sq_p (nv) (by kernel_rfl) (fun _ => by kernel_rfl) ?_
              refine sq_call #[gv53, nv] [5, 10] (by kernel_rfl) (sameT_spec gv53 nv grs54 ns (by have hq_ := congrArg List.length (texts_inj (hgr55.trans hLK2.flat)); have := wt_cnt ns; have := hLK2.wt; have := wtL_take l (ii + 1); omega) (texts_inj (hgr55.trans hLK2.flat))) (fun _ => by kernel_rfl) h ?_; rintro v_ L_ w ⟨rfl, rfl⟩ h
              refine sq_p (.bool false) (by kernel_rfl) (fun _ => by kernel_rfl) ?_
              refine sq_p (.bool false) rfl (fun _ => by kernel_rfl) ?_
              refine lnil ?_
              refine thn_n ?_
              refine c_false (by kernel_rfl) ?_
              refine c_skip ?_
              refine thn_n ?_
              refine c_reg ?_
              refine sq_p (nv) rfl (fun _ => by kernel_rfl) ?_
              refine sq_p (nv) rfl (fun _ => by kernel_rfl) ?_
              refine lnil ?_
              refine blk_n (thn_n ?_)
              refine c_reg ?_
              refine sq_p (.int .i64 ((ii : Nat) : Int)) rfl (fun _ => by kernel_rfl) ?_
              refine sq_q rfl h (g_eq (v := .int .i64 (IntKind.i64.wrap (((ii : Nat) : Int) + 1))) (v' := .int .i64 ((ii + 1 : Nat) : Int)) (g_pure fun _ => by kernel_rfl) (wr (by omega))) ?_
              refine sq_p (.int .i64 ((ii + 1 : Nat) : Int)) rfl (fun _ => by kernel_rfl) ?_
              refine lnil ?_
              have hQ56 : ((ii + 1) ≤ l.length ∧ LK sc l (ii + 1) ns ads dv c hh zz pk) ∧ (l.length - (ii + 1)) < (l.length - ii) := ⟨⟨by omega, by first | exact hLK2 | simpa [hc27] using hLK2⟩, by omega⟩
              refine loop_end (fun j => ⟨ii + 1, nv, ns, ads, dv, Sv, c, hh, zz, pk, j⟩) hQ56 (by kernel_rfl) [1, 1, 2, 7, 6, 7, 7, 7, 7, 1, 1, 3] (by kernel_rfl) h
            · skip
              have hLK2 := hLK.done hxr hdn51
              refine sq_p (.nilIface) rfl (fun _ => by kernel_rfl) ?_
              refine lnil ?_
              refine thn_n ?_
              refine c_seq ?_
              refine c_seq ?_
              refine c_reg ?_
              refine sq_p (.nilIface) rfl (fun _ => by kernel_rfl) ?_
              refine sq_p (.bool false) rfl (fun _ => by kernel_rfl) ?_
              refine lnil ?_
              refine thn_n ?_
              refine c_false (by kernel_rfl) ?_
              refine c_reg ?_
              refine sq_p (.int .i64 ((ads + 1 : Nat) : Int)) rfl (fun _ => by kernel_rfl) ?_
              refine sq_p (.int .i64 ((ads + 1 : Nat) : Int)) rfl (fun _ => by kernel_rfl) ?_
              refine lnil ?_
              refine thn_n ?_
              refine c_seq ?_
              refine c_reg ?_
              refine sq_p (.pointer (some ⟨db18, 0, none⟩)) rfl (fun _ => by kernel_rfl) ?_
              refine sq_call #[.pointer (some ⟨db18, 0, none⟩)] [1, 10, 1, 9] rfl (openL_spec (B := B) ad a1 a2 db18 dd45 Sx46 _ _ _ _ hLK2.valid) (fun _ => by kernel_rfl) h ?_; rintro v_ L_ w ⟨lb57, gv58, grs59, hgr60, rfl, rfl⟩ h
              refine sq_p (.tuple #[.pointer (some ⟨lb57, 0, none⟩), gv58, .nilIface]) rfl (fun _ => by kernel_rfl) ?_
              refine sq_p (.pointer (some ⟨lb57, 0, none⟩)) rfl (fun _ => by kernel_rfl) ?_
              refine sq_p (gv58) rfl (fun _ => by kernel_rfl) ?_
              refine sq_p (.nilIface) rfl (fun _ => by kernel_rfl) ?_
              refine sq_p (.pointer (some ⟨lb57, 0, none⟩)) rfl (fun _ => by kernel_rfl) ?_
              refine sq_p (gv58) rfl (fun _ => by kernel_rfl) ?_
              refine sq_p (.nilIface) rfl (fun _ => by kernel_rfl) ?_
              refine lnil ?_
              refine thn_n ?_
              refine c_seq ?_
              refine c_seq ?_
              refine c_reg ?_
              refine sq_p (.nilIface) rfl (fun _ => by kernel_rfl) ?_
              refine sq_p (.bool false) rfl (fun _ => by kernel_rfl) ?_
              refine sq_p (.bool false) rfl (fun _ => by kernel_rfl) ?_
              refine sq_p (gv58) (by kernel_rfl) (fun _ => by kernel_rfl) ?_
              refine sq_p (tv26) (by kernel_rfl) (fun _ => by kernel_rfl) ?_
              refine sq_call #[gv58, tv26] [5, 8] (by kernel_rfl) (sameT_spec gv58 tv26 grs59 ((if xr.1 then [] else ns) ++ recL xr) (by have hq_ := congrArg List.length (texts_inj (hgr60.trans hLK2.flat)); have := wt_cnt ((if xr.1 then [] else ns) ++ recL xr); have := hLK2.wt; have := wtL_take l (ii + 1); omega) (texts_inj (hgr60.trans hLK2.flat))) (fun _ => by kernel_rfl) h ?_; rintro v_ L_ w ⟨rfl, rfl⟩ h
              refine sq_p (.bool false) (by kernel_rfl) (fun _ => by kernel_rfl) ?_
              refine sq_p (.bool false) rfl (fun _ => by kernel_rfl) ?_
              refine lnil ?_
              refine thn_n ?_
              refine c_false (by kernel_rfl) ?_
              refine c_skip ?_
              refine thn_n ?_
              refine c_reg ?_
              refine sq_p (tv26) rfl (fun _ => by kernel_rfl) ?_
              refine sq_p (tv26) rfl (fun _ => by kernel_rfl) ?_
              refine lnil ?_
              refine blk_n (thn_n ?_)
              refine c_reg ?_
              refine sq_p (.int .i64 ((ii : Nat) : Int)) rfl (fun _ => by kernel_rfl) ?_
              refine sq_q rfl h (g_eq (v := .int .i64 (IntKind.i64.wrap (((ii : Nat) : Int) + 1))) (v' := .int .i64 ((ii + 1 : Nat) : Int)) (g_pure fun _ => by kernel_rfl) (wr (by omega))) ?_
              refine sq_p (.int .i64 ((ii + 1 : Nat) : Int)) rfl (fun _ => by kernel_rfl) ?_
              refine lnil ?_
              have hQ61 : ((ii + 1) ≤ l.length ∧ LK sc l (ii + 1) ((if xr.1 then [] else ns) ++ recL xr) (ads + 1) dd45 cx47 hw48 zx49 pkx50) ∧ (l.length - (ii + 1)) < (l.length - ii) := ⟨⟨by omega, by first | exact hLK2 | simpa [hc27] using hLK2⟩, by omega⟩
              refine loop_end (fun j => ⟨ii + 1, tv26, ((if xr.1 then [] else ns) ++ recL xr), ads + 1, dd45, Sx46, cx47, hw48, zx49, pkx50, j⟩) hQ61 (by kernel_rfl) [1, 1, 2, 5, 4, 6, 6, 6, 6, 1, 1, 4] (by kernel_rfl) h
        · skip
          have hc25 := of_decide_eq_false hc25
          refine c_exit ?_
          refine thn_e (rnd_e (blk_e (thn_n ?_)))
          refine c_seq ?_
          refine c_reg ?_
          refine sq_p (.pointer (some ⟨db18, 0, none⟩)) rfl (fun _ => by kernel_rfl) ?_
          have h := h.nilRows 4 1 flagC
          refine sq_call #[.pointer (some ⟨db18, 0, none⟩), .slice none 0 0] [2, 0] rfl (crash0_spec (B := B) (b := db18) dv Sv (.slice none 0 0) [] hLK.quiet (by have := hLK.len; omega)) (fun _ => by kernel_rfl) h ?_; rintro v_ L_ w ⟨dd62, Sx63, hcn, hcl2, hcq, rfl, rfl⟩ h
          refine lnil ?_
          refine thn_n ?_
          refine c_seq ?_
          refine c_reg ?_
          refine sq_p (.pointer (some ⟨db18, 0, none⟩)) rfl (fun _ => by kernel_rfl) ?_
          refine sq_call #[.pointer (some ⟨db18, 0, none⟩)] [0, 9, 2, 8] rfl (openL_spec (B := B) ad a1 a2 db18 dd62 Sx63 _ _ _ _ (show Valid dd62.now.length dd62.now c hh zz pk by rw [hcn]; exact hLK.valid)) (fun _ => by kernel_rfl) h ?_; rintro v_ L_ w ⟨lb64, gv65, grs66, hgr67, rfl, rfl⟩ h
          refine sq_p (.tuple #[.pointer (some ⟨lb64, 0, none⟩), gv65, .nilIface]) rfl (fun _ => by kernel_rfl) ?_
          refine sq_p (.pointer (some ⟨lb64, 0, none⟩)) rfl (fun _ => by kernel_rfl) ?_
          refine sq_p (gv65) rfl (fun _ => by kernel_rfl) ?_
          refine sq_p (.nilIface) rfl (fun _ => by kernel_rfl) ?_
          refine sq_p (.pointer (some ⟨lb64, 0, none⟩)) rfl (fun _ => by kernel_rfl) ?_
          refine sq_p (gv65) rfl (fun _ => by kernel_rfl) ?_
          refine sq_p (.nilIface) rfl (fun _ => by kernel_rfl) ?_
          refine lnil ?_
          refine thn_n ?_
          refine c_seq ?_
          refine c_reg ?_
          refine sq_p (.nilIface) rfl (fun _ => by kernel_rfl) ?_
          refine sq_p (.bool true) rfl (fun _ => by kernel_rfl) ?_
          refine sq_p (.bool true) rfl (fun _ => by kernel_rfl) ?_
          refine sq_p (gv65) (by kernel_rfl) (fun _ => by kernel_rfl) ?_
          refine sq_p (nv) (by kernel_rfl) (fun _ => by kernel_rfl) ?_
          refine sq_call #[gv65, nv] [5, 6] (by kernel_rfl) (sameT_spec gv65 nv grs66 ns (by have hq_ := congrArg List.length (texts_inj (hgr67.trans hLK.flat)); have := wt_cnt ns; have := hLK.wt; have := wtL_take l (ii + 1); omega) (texts_inj (hgr67.trans hLK.flat))) (fun _ => by kernel_rfl) h ?_; rintro v_ L_ w ⟨rfl, rfl⟩ h
          refine sq_p (.bool true) rfl (fun _ => by kernel_rfl) ?_
          refine sq_p (.bool true) rfl (fun _ => by kernel_rfl) ?_
          refine lnil ?_
          refine thn_n ?_
          refine c_ret ?_
          refine ret_end [.bool true] [] h (by kernel_rfl) (res_t (by kernel_rfl) res_n) ?_
          exact ⟨rfl, rfl⟩

/- logp: contracts by what is owned (printed by walk.py). -/
theorem logfails_spec {B : Nat} (ad : Nat → Addr) (a1 a2 : Addr) (lv : Value) (l : List Rec) (after : Int) (kv : Value) (keep : List Bool) (mv : Value) (more : List Rec) (hw : wordN l ≤ 100000000) (hm : wordN more ≤ 100000000) (haf : after ≤ 9223372036854775807)  : Spec Tryz.prog 5 #[lv, .int .i64 after, kv, mv] [rEnvA B ad, rNumE a1 a2, rTab, rArg lv 2 recC l, rSub recR l, rArg kv 1 flagC keep, rArg mv 2 recC more, rSub recR more] (fun u L => u = .bool true ∧ L = []) := by
  refine spec_of (#[lv, .int .i64 after, kv, mv, undef, undef, undef, undef, undef, undef, undef, undef, undef, undef, undef, undef, undef, undef, undef, undef, undef, undef, undef, undef, undef, undef, undef, undef, undef, undef, undef, undef, undef, undef, undef, undef, undef, undef, undef, undef, undef, undef, undef, undef, undef, undef, undef, undef, undef, undef, undef, undef, undef, undef, undef, undef, undef, undef, undef, undef, undef, undef, undef, undef, undef, undef, undef, undef, undef, undef, undef, undef, undef, undef, undef, undef, undef, undef, undef, undef, undef, undef, undef, undef, undef, undef, undef, undef, undef, undef, undef, undef, undef, undef, undef, undef, undef, undef, undef, undef, undef, undef, undef, undef, undef, undef, undef, undef, undef, undef, undef, undef, undef, undef, undef, undef, undef, undef, undef, undef, undef, undef, undef, undef, undef, undef, undef, undef, undef, undef, undef, undef, undef, undef, undef, undef, undef, undef, undef, undef, undef, undef, undef, undef, undef, undef, undef, undef, undef, undef, undef, undef, undef, undef, undef, undef, undef, undef, undef, undef, undef, undef, undef, undef, undef, undef, undef, undef, undef, undef, undef, undef, undef]) Tryz.func5 rfl (by kernel_rfl) fun E w0 w h => ?_
  have h := h.eS [1, 2, 3, 9, 15] 0 rfl
  have h := h.eS [2, 3, 9, 15] 1 rfl
  have h := h.eS [1, 2] 2 rfl
  have h := h.eS [2] 3 rfl
  refine c_seq ?_
  refine c_reg ?_
  refine sq_p (.bool false) rfl (fun _ => by kernel_rfl) ?_
  refine lnil ?_
  refine thn_n ?_
  refine c_seq ?_
  refine c_reg ?_
  refine sq_call #[] [3, 4, 4] rfl (logged_spec (B := B) ad a1 a2) (fun _ => by kernel_rfl) h ?_; rintro v_ L_ w ⟨rfl, rfl⟩ h
  refine sq_p (.bool true) rfl (fun _ => by kernel_rfl) ?_
  refine lnil ?_
  refine thn_n ?_
  refine c_seq ?_
  refine c_seq ?_
  refine c_reg ?_
  refine sq_p (.bool true) rfl (fun _ => by kernel_rfl) ?_
  refine sq_p (.bool false) rfl (fun _ => by kernel_rfl) ?_
  refine sq_p (.bool false) rfl (fun _ => by kernel_rfl) ?_
  refine sq_p (lv) (by kernel_rfl) (fun _ => by kernel_rfl) ?_
  refine sq_call #[lv] [7, 7] (by kernel_rfl) (wordy_spec lv l (by omega)) (fun _ => by kernel_rfl) h ?_; rintro v_ L_ w ⟨rfl, rfl⟩ h
  obtain ⟨b1, hb1⟩ : ∃ b_ : Bool, b_ = (decide (500 < wordN l)) := ⟨_, rfl⟩
  refine sq_q (v := .bool b1) rfl h (by subst hb1; exact g_pure (v := .bool (decide (500 < wordN l))) fun _ => by kernel_rfl) ?_
  refine sq_p (.bool b1) rfl (fun _ => by kernel_rfl) ?_
  refine sq_m0 (v := mv) b1 (by cases b1 <;> kernel_rfl) h (fun hB => by subst hB; exact g_pure (v := mv) fun _ => by kernel_rfl) ?_
  rcases Bool.eq_false_or_eq_true b1 with hc2 | hc2
  · skip
    subst hc2
    have q3 := hb1.symm
    have q3 := of_decide_eq_true q3
    refine sn (by kernel_rfl) ?_
    refine sq_p (.bool true) rfl (fun _ => by kernel_rfl) ?_
    refine sq_p (.bool true) rfl (fun _ => by kernel_rfl) ?_
    refine sn (by kernel_rfl) ?_
    refine sn (by kernel_rfl) ?_
    refine sq_p (.bool true) rfl (fun _ => by kernel_rfl) ?_
    refine sq_p (.bool true) rfl (fun _ => by kernel_rfl) ?_
    refine sn (by kernel_rfl) ?_
    refine sn (by kernel_rfl) ?_
    refine sn (by kernel_rfl) ?_
    refine sq_p (.bool true) rfl (fun _ => by kernel_rfl) ?_
    refine lnil ?_
    refine thn_n ?_
    refine c_true (by kernel_rfl) ?_
    refine c_seq ?_
    refine c_reg ?_
    refine sq_p (.bool true) rfl (fun _ => by kernel_rfl) ?_
    refine sq_p (.bool true) rfl (fun _ => by kernel_rfl) ?_
    refine lnil ?_
    refine thn_n ?_
    refine c_ret ?_
    refine thn_r ?_
    refine ret_end [.bool true] [] h (by kernel_rfl) (res_t (by kernel_rfl) res_n) ?_
    exact ⟨rfl, rfl⟩
  · skip
    subst hc2
    have q4 := hb1.symm
    have q4 := of_decide_eq_false q4
    refine sq_call #[mv] [10, 10] (by kernel_rfl) (wordy_spec mv more (by omega)) (fun _ => by kernel_rfl) h ?_; rintro v_ L_ w ⟨rfl, rfl⟩ h
    obtain ⟨b5, hb5⟩ : ∃ b_ : Bool, b_ = (decide (500 < wordN more)) := ⟨_, rfl⟩
    refine sq_q (v := .bool b5) rfl h (by subst hb5; exact g_pure (v := .bool (decide (500 < wordN more))) fun _ => by kernel_rfl) ?_
    refine sq_p (.bool b5) rfl (fun _ => by kernel_rfl) ?_
    refine sq_m0 (v := .int .i64 after) b5 (by cases b5 <;> kernel_rfl) h (fun hB => by subst hB; exact g_pure (v := .int .i64 after) fun _ => by kernel_rfl) ?_
    obtain ⟨b6, hb6⟩ : ∃ b_ : Bool, b_ = (decide (after < 0)) := ⟨_, rfl⟩
    refine sq_m0 (v := .bool b6) b5 (by cases b5 <;> kernel_rfl) h (fun hB => by subst hB; exact by subst hb6; exact g_pure (v := .bool (decide (after < 0))) fun _ => by kernel_rfl) ?_
    obtain ⟨b7, hb7⟩ : ∃ b_ : Bool, b_ = (b5 || b6) := ⟨_, rfl⟩
    refine sq_q (v := .bool b7) rfl h (by subst hb7; exact g_pure (v := .bool (b5 || b6)) fun _ => by cases b5 <;> kernel_rfl) ?_
    refine sq_p (.bool b7) rfl (fun _ => by kernel_rfl) ?_
    refine sq_m0 (v := kv) b7 (by cases b7 <;> kernel_rfl) h (fun hB => by subst hB; exact g_pure (v := kv) fun _ => by kernel_rfl) ?_
    refine sq_m0 (v := .int .i64 (keep.length : Int)) b7 (by cases b7 <;> kernel_rfl) h (fun hB => by subst hB; exact g_lenA 4 (by kernel_rfl) 11 rfl) ?_
    obtain ⟨b8, hb8⟩ : ∃ b_ : Bool, b_ = (decide ((keep.length : Int) > 500)) := ⟨_, rfl⟩
    refine sq_m0 (v := .bool b8) b7 (by cases b7 <;> kernel_rfl) h (fun hB => by subst hB; exact by subst hb8; exact g_pure (v := .bool (decide ((keep.length : Int) > 500))) fun _ => by kernel_rfl) ?_
    obtain ⟨b9, hb9⟩ : ∃ b_ : Bool, b_ = (b7 || b8) := ⟨_, rfl⟩
    refine sq_q (v := .bool b9) rfl h (by subst hb9; exact g_pure (v := .bool (b7 || b8)) fun _ => by cases b7 <;> kernel_rfl) ?_
    refine lnil ?_
    refine thn_n ?_
    refine c_cond (b9) (by kernel_rfl) (fun hc10 => ?_) (fun hc10 => ?_)
    · skip
      have q11 : (b7 || b8) = true := by rw [← hb9]; exact hc10
      have q12 : (((500 < wordN more) ∨ (after < 0)) ∨ ((keep.length : Int) > 500)) := by subst hb8; subst hb7; subst hb6; subst hb5; revert q11; first | (simp; done) | (simp; omega)
      refine c_seq ?_
      refine c_reg ?_
      refine sq_p (.bool true) rfl (fun _ => by kernel_rfl) ?_
      refine sq_p (.bool true) rfl (fun _ => by kernel_rfl) ?_
      refine lnil ?_
      refine thn_n ?_
      refine c_ret ?_
      refine thn_r ?_
      refine ret_end [.bool true] [] h (by kernel_rfl) (res_t (by kernel_rfl) res_n) ?_
      exact ⟨rfl, rfl⟩
    · skip
      have q13 : (b7 || b8) = false := by rw [← hb9]; exact hc10
      have q14 : b7 = false := by revert q13; cases b7 <;> simp
      have q15 : b8 = false := by revert q13; cases b7 <;> cases b8 <;> simp
      have q16 : (b5 || b6) = false := by rw [← hb7]; exact q14
      have q17 : b5 = false := by revert q16; cases b5 <;> simp
      have q18 : b6 = false := by revert q16; cases b5 <;> cases b6 <;> simp
      have q19 : (decide (500 < wordN more)) = false := by rw [← hb5]; exact q17
      have q19 := of_decide_eq_false q19
      have q20 : (decide (after < 0)) = false := by rw [← hb6]; exact q18
      have q20 := of_decide_eq_false q20
      have q21 : (decide ((keep.length : Int) > 500)) = false := by rw [← hb8]; exact q15
      have q21 := of_decide_eq_false q21
      have hwl := wtL_word l
      have hwm0 := wtL_word more
      have hlc := wordN_cnt l
      have hmc := wordN_cnt more
      refine c_skip ?_
      refine thn_n ?_
      refine c_seq ?_
      refine c_reg ?_
      refine sq_call #[.int .i64 400] [7] rfl (dnew_spec (B := B) ad 400 (by omega) (by omega)) (fun _ => by kernel_rfl) h ?_; rintro v_ L_ w ⟨db22, Sx23, rfl, rfl⟩ h
      refine sq_p (.tuple #[.pointer (some ⟨db22, 0, none⟩), .nilIface]) rfl (fun _ => by kernel_rfl) ?_
      refine sq_p (.pointer (some ⟨db22, 0, none⟩)) rfl (fun _ => by kernel_rfl) ?_
      refine sq_p (.nilIface) rfl (fun _ => by kernel_rfl) ?_
      refine sq_p (.pointer (some ⟨db22, 0, none⟩)) rfl (fun _ => by kernel_rfl) ?_
      refine sq_p (.nilIface) rfl (fun _ => by kernel_rfl) ?_
      refine lnil ?_
      refine thn_n ?_
      refine c_seq ?_
      refine c_seq ?_
      refine c_reg ?_
      refine sq_p (.nilIface) rfl (fun _ => by kernel_rfl) ?_
      refine sq_p (.bool false) rfl (fun _ => by kernel_rfl) ?_
      refine sq_p (.bool false) rfl (fun _ => by kernel_rfl) ?_
      refine sq_p (.pointer (some ⟨db22, 0, none⟩)) (by kernel_rfl) (fun _ => by kernel_rfl) ?_
      refine sq_p (.bool false) (by kernel_rfl) (fun _ => by kernel_rfl) ?_
      refine sq_p (.bool false) rfl (fun _ => by kernel_rfl) ?_
      refine lnil ?_
      refine thn_n ?_
      refine c_false (by kernel_rfl) ?_
      refine c_skip ?_
      refine thn_n ?_
      refine c_seq ?_
      refine c_reg ?_
      refine sq_p (.pointer (some ⟨db22, 0, none⟩)) rfl (fun _ => by kernel_rfl) ?_
      refine sq_call #[.pointer (some ⟨db22, 0, none⟩)] [0, 7, 8] rfl (formatN_spec (B := B) ad db22 400 Sx23 (by omega) (by omega)) (fun _ => by kernel_rfl) h ?_; rintro v_ L_ w ⟨lb24, Sx25, dd26, hle0, hqu0, hva0, hln0, rfl, rfl⟩ h
      refine sq_p (.tuple #[.pointer (some ⟨lb24, 0, none⟩), .nilIface]) rfl (fun _ => by kernel_rfl) ?_
      refine sq_p (.pointer (some ⟨lb24, 0, none⟩)) rfl (fun _ => by kernel_rfl) ?_
      refine sq_p (.nilIface) rfl (fun _ => by kernel_rfl) ?_
      refine sq_p (.pointer (some ⟨lb24, 0, none⟩)) rfl (fun _ => by kernel_rfl) ?_
      refine sq_p (.nilIface) rfl (fun _ => by kernel_rfl) ?_
      refine lnil ?_
      refine thn_n ?_
      refine c_seq ?_
      refine c_seq ?_
      refine c_reg ?_
      refine sq_p (.nilIface) rfl (fun _ => by kernel_rfl) ?_
      refine sq_p (.bool false) rfl (fun _ => by kernel_rfl) ?_
      refine sq_p (.bool false) rfl (fun _ => by kernel_rfl) ?_
      refine sq_p (.pointer (some ⟨lb24, 0, none⟩)) (by kernel_rfl) (fun _ => by kernel_rfl) ?_
      refine sq_p (.bool false) (by kernel_rfl) (fun _ => by kernel_rfl) ?_
      refine sq_p (.bool false) rfl (fun _ => by kernel_rfl) ?_
      refine sq_p (.bool false) rfl (fun _ => by kernel_rfl) ?_
      refine sq_p (.pointer (some ⟨db22, 0, none⟩)) (by kernel_rfl) (fun _ => by kernel_rfl) ?_
      refine sq_p (.pointer (some ⟨db22, 0, none⟩)) (by kernel_rfl) (fun _ => by kernel_rfl) ?_
      refine sq_p (.pointer (some ⟨db22, 0, none⟩)) (by kernel_rfl) (fun _ => by kernel_rfl) ?_
      refine sq_p (.int .i64 after) (by kernel_rfl) (fun _ => by kernel_rfl) ?_
      refine sq_call #[.pointer (some ⟨db22, 0, none⟩), .int .i64 after] [0, 3] (by kernel_rfl) (dfailN_spec (B := B) (b := db22) (d := dd26) (S := Sx25) ad after (by omega) haf) (fun _ => by kernel_rfl) h ?_; rintro v_ L_ w ⟨Sx27, rfl, rfl⟩ h
      refine sq_p (.bool false) (by kernel_rfl) (fun _ => by kernel_rfl) ?_
      refine sq_p (.bool false) rfl (fun _ => by kernel_rfl) ?_
      refine lnil ?_
      refine thn_n ?_
      refine c_false (by kernel_rfl) ?_
      refine c_skip ?_
      refine thn_n ?_
      refine c_seq ?_
      refine c_reg ?_
      refine sq_p (.slice none 0 0) rfl (fun _ => by kernel_rfl) ?_
      refine lnil ?_
      refine thn_n ?_
      refine c_seq ?_
      refine c_reg ?_
      refine sq_p (.slice none 0 0) rfl (fun _ => by kernel_rfl) ?_
      refine lnil ?_
      refine thn_n ?_
      refine c_seq ?_
      refine c_reg ?_
      refine sq_p (.bool false) rfl (fun _ => by kernel_rfl) ?_
      refine lnil ?_
      refine thn_n ?_
      refine c_seq ?_
      refine c_seq ?_
      refine c_reg ?_
      refine sq_p (.int .i64 0) rfl (fun _ => by kernel_rfl) ?_
      refine lnil ?_
      refine thn_n ?_
      refine c_block ?_
      have h := (h.nilRows 9 1 strC).toArg
      have h := (h.nilRows 9 1 strC).toArg
      refine c_loop (X := Nat × Value × List ByteArray × Value × List ByteArray × Bool × PDisk × (Nat → Prop) × Nat × Nat × Nat × (List (List Tx)) × (Nat → Value)) (fun ⟨ii, nv, ns, mv_, ms, lo, dv, Sv, c, hh, zz, pk, J0⟩ => ⟨#[lv, .int .i64 after, kv, mv, undef, undef, undef, undef, J0 8, .bool true, .pointer (some ⟨db22, 0, none⟩), .nilIface, .pointer (some ⟨lb24, 0, none⟩), nv, mv_, .bool lo, .int .i64 ((ii : Nat) : Int), J0 17, J0 18, undef, undef, undef, undef, undef, .bool true, .bool true, .bool false, .bool false, lv, .bool (decide (500 < wordN l)), .bool false, .bool false, mv, .bool (decide (500 < wordN more)), .bool b5, .bool b5, (if b5 = false then .int .i64 after else undef), (if b5 = false then .bool b6 else undef), .bool b7, .bool b7, (if b7 = false then kv else undef), (if b7 = false then .int .i64 (keep.length : Int) else undef), (if b7 = false then .bool b8 else undef), .bool b9, undef, .tuple #[.pointer (some ⟨db22, 0, none⟩), .nilIface], .tuple #[.pointer (some ⟨db22, 0, none⟩), .nilIface], .pointer (some ⟨db22, 0, none⟩), .nilIface, .nilIface, .bool false, .bool false, .pointer (some ⟨db22, 0, none⟩), .bool false, .bool false, .tuple #[.pointer (some ⟨lb24, 0, none⟩), .nilIface], .pointer (some ⟨db22, 0, none⟩), .tuple #[.pointer (some ⟨lb24, 0, none⟩), .nilIface], .pointer (some ⟨lb24, 0, none⟩), .nilIface, .nilIface, .bool false, .bool false, .pointer (some ⟨lb24, 0, none⟩), .bool false, .bool false, .bool false, .pointer (some ⟨db22, 0, none⟩), .pointer (some ⟨db22, 0, none⟩), .pointer (some ⟨db22, 0, none⟩), .int .i64 after, .nilIface, .bool false, .bool false, J0 74, J0 75, J0 76, J0 77, J0 78, J0 79, J0 80, J0 81, J0 82, J0 83, J0 84, J0 85, J0 86, J0 87, J0 88, J0 89, J0 90, J0 91, J0 92, J0 93, J0 94, J0 95, J0 96, J0 97, J0 98, J0 99, J0 100, J0 101, J0 102, J0 103, undef, undef, undef, undef, undef, undef, undef, undef, undef, undef, undef, undef, undef, undef, undef, undef, undef, undef, undef, undef, undef, undef, undef, undef, undef, undef, undef, undef, undef, undef, undef, undef, undef, undef, undef, undef, undef, undef, undef, undef, undef, undef, undef, undef, undef, undef, undef, undef, undef, undef, undef, undef, undef, undef, undef, undef, undef, undef, undef, undef, undef, undef, undef, undef, undef, undef, undef, undef, undef], []⟩)
        (fun ⟨ii, nv, ns, mv_, ms, lo, dv, Sv, c, hh, zz, pk, J0⟩ => [rArg nv 1 strC ns, rArg mv_ 1 strC ms, rDisk B db22 dv Sv, rEnv B ad [2], rTab, rEnv B ad [2, 3, 9, 15], rCell true lb24 [.pointer (some ⟨db22, 0, none⟩), .int .i64 (c : Int), .int .i64 (hh : Int), .int .i64 (zz : Int), .bool lo] 70, rArg mv 2 recC more, rSub recR more, rArg lv 2 recC l, rSub recR l, rEnv B ad [1, 2, 3, 9, 15], rNumE a1 a2, rEnv B ad [1, 2], rEnvA B ad, rArg kv 1 flagC keep]) (fun ⟨ii, nv, ns, mv_, ms, lo, dv, Sv, c, hh, zz, pk, J0⟩ => ii ≤ l.length ∧ LF l ii ns ms lo dv c hh zz pk) (fun ⟨ii, nv, ns, mv_, ms, lo, dv, Sv, c, hh, zz, pk, J0⟩ => l.length - ii)
        ⟨0, (.slice none 0 0), [], (.slice none 0 0), [], false, ({ dd26 with left := after } : PDisk), Sx27, 1, 0, 0, [], (fun n => (#[lv, .int .i64 after, kv, mv, undef, undef, undef, undef, .bool false, .bool true, .pointer (some ⟨db22, 0, none⟩), .nilIface, .pointer (some ⟨lb24, 0, none⟩), .slice none 0 0, .slice none 0 0, .bool false, .int .i64 0, undef, undef, undef, undef, undef, undef, undef, .bool true, .bool true, .bool false, .bool false, lv, .bool (decide (500 < wordN l)), .bool false, .bool false, mv, .bool (decide (500 < wordN more)), .bool b5, .bool b5, (if b5 = false then .int .i64 after else undef), (if b5 = false then .bool b6 else undef), .bool b7, .bool b7, (if b7 = false then kv else undef), (if b7 = false then .int .i64 (keep.length : Int) else undef), (if b7 = false then .bool b8 else undef), .bool b9, undef, .tuple #[.pointer (some ⟨db22, 0, none⟩), .nilIface], .tuple #[.pointer (some ⟨db22, 0, none⟩), .nilIface], .pointer (some ⟨db22, 0, none⟩), .nilIface, .nilIface, .bool false, .bool false, .pointer (some ⟨db22, 0, none⟩), .bool false, .bool false, .tuple #[.pointer (some ⟨lb24, 0, none⟩), .nilIface], .pointer (some ⟨db22, 0, none⟩), .tuple #[.pointer (some ⟨lb24, 0, none⟩), .nilIface], .pointer (some ⟨lb24, 0, none⟩), .nilIface, .nilIface, .bool false, .bool false, .pointer (some ⟨lb24, 0, none⟩), .bool false, .bool false, .bool false, .pointer (some ⟨db22, 0, none⟩), .pointer (some ⟨db22, 0, none⟩), .pointer (some ⟨db22, 0, none⟩), .int .i64 after, .nilIface, .bool false, .bool false, undef, undef, undef, undef, undef, undef, undef, undef, undef, undef, undef, undef, undef, undef, undef, undef, undef, undef, undef, undef, undef, undef, undef, undef, undef, undef, undef, undef, undef, undef, undef, undef, undef, undef, undef, undef, undef, undef, undef, undef, undef, undef, undef, undef, undef, undef, undef, undef, undef, undef, undef, undef, undef, undef, undef, undef, undef, undef, undef, undef, undef, undef, undef, undef, undef, undef, undef, undef, undef, undef, undef, undef, undef, undef, undef, undef, undef, undef, undef, undef, undef, undef, undef, undef, undef, undef, undef, undef, undef, undef, undef, undef, undef, undef, undef, undef, undef, undef, undef] : Array Value).getD n undef)⟩ ⟨Nat.zero_le _, LF.start (by rw [hln0]; exact hva0) hqu0 hln0 after⟩ (by kernel_rfl) [0, 0, 0, 0, 0, 0, 0, 0, 0, 0, 0, 0, 0, 0, 0, 0] (by kernel_rfl) h ?_
      rintro ⟨ii, nv, ns, mv_, ms, lo, dv, Sv, c, hh, zz, pk, J0⟩ w hG h
      obtain ⟨hil, hLF⟩ : ii ≤ l.length ∧ LF l ii ns ms lo dv c hh zz pk := hG
      have hwt := Nat.le_trans hLF.wt (wtL_take l ii)
      have hwm := Nat.le_trans hLF.wm (wtL_take l ii)
      have hnsl : ns.length < 1000000 := by have := wt_cnt ns; omega
      have hmsl : ms.length < 1000000 := by have := wt_cnt ms; omega
      have hcle := hLF.cle
      rcases lo with _ | _
      · skip
        refine c_seq ?_
        refine c_seq ?_
        refine c_reg ?_
        refine sq_p (.int .i64 ((ii : Nat) : Int)) rfl (fun _ => by kernel_rfl) ?_
        refine sq_p (lv) rfl (fun _ => by kernel_rfl) ?_
        refine sq_q rfl h (g_lenA 47 (by kernel_rfl) 9 rfl) ?_
        refine sq_p (.bool (decide (((ii : Nat) : Int) < (l.length : Int)))) rfl (fun _ => by kernel_rfl) ?_
        refine lnil ?_
        refine thn_n ?_
        refine c_cond (decide (((ii : Nat) : Int) < (l.length : Int))) (by kernel_rfl) (fun hc28 => ?_) (fun hc28 => ?_)
        · skip
          have hc28 := of_decide_eq_true hc28
          have hix : ii < l.length := by omega
          obtain ⟨xr, hxr⟩ : ∃ x_, l[ii]? = some x_ := ⟨_, List.getElem?_eq_getElem hix⟩
          have h := h.inner 10 rfl hxr rfl
          have hrn := wtL_next hxr
          have hrt := wtL_take l (ii + 1)
          have hrsl : (recL xr).length < 1000000 := by have := wt_cnt (recL xr); omega
          have hbr : (packT ((recL xr).map tx)).length ≤ 90000000 := by have := packT_wt (rs := recL xr) (by omega); omega
          have hcl : c + 1 < ten10 := by unfold ten10; omega
          refine c_skip ?_
          refine thn_n ?_
          refine c_seq ?_
          refine c_block ?_
          refine c_seq ?_
          refine c_reg ?_
          refine sq_p (.pointer (some ⟨lb24, 0, none⟩)) rfl (fun _ => by kernel_rfl) ?_
          refine sq_p (lv) rfl (fun _ => by kernel_rfl) ?_
          refine sq_p (.int .i64 ((ii : Nat) : Int)) rfl (fun _ => by kernel_rfl) ?_
          refine sq_q rfl h (g_idxA 47 ii (by kernel_rfl) hix 10 rfl) ?_
          refine sq_q rfl h (g_ldr (b := blkN lv) (offN lv + ii * 2) [.bool xr.1, slV xr.2.1] (.agg #[.bool xr.1, slV xr.2.1]) (by kernel_rfl) 10 rfl (rdArg0 hxr (by kernel_rfl))) ?_
          refine sq_call #[.pointer (some ⟨lb24, 0, none⟩), .agg #[.bool xr.1, slV xr.2.1]] [7, 3, 4, 4, 0] rfl (act_spec (B := B) ad lb24 db22 dv Sv c hh zz pk (slV xr.2.1) (recL xr) xr.1 hbr hrsl (hLF.on rfl).1 (hLF.on rfl).2.1 hcl) (fun _ => by kernel_rfl) h ?_; rintro v_ L_ w (⟨hdn35, rfl, rfl⟩ | ⟨dd29, Sx30, cx31, hw32, zx33, pkx34, hdn35, rfl, rfl⟩ | ⟨dd29, Sx30, hdn35, rfl, rfl⟩) h
          · skip
            have hLF2 := hLF.stay hxr
            refine sq_p (errV ad 9) rfl (fun _ => by kernel_rfl) ?_
            refine lnil ?_
            refine thn_n ?_
            refine c_seq ?_
            refine c_seq ?_
            refine c_reg ?_
            refine sq_p (.bool false) rfl (fun _ => by kernel_rfl) ?_
            refine lnil ?_
            refine thn_n ?_
            refine c_false (by kernel_rfl) ?_
            refine c_skip ?_
            refine thn_n ?_
            refine c_seq ?_
            refine c_seq ?_
            refine c_reg ?_
            refine sq_p (errV ad 9) rfl (fun _ => by kernel_rfl) ?_
            refine sq_call #[errV ad 9, .int .i64 9] [15] rfl (codedY_spec (B := B) ad 9 9 (by omega) rfl) (fun _ => by kernel_rfl) h ?_; rintro v_ L_ w ⟨rfl, rfl⟩ h
            refine lnil ?_
            refine thn_n ?_
            refine c_true (by kernel_rfl) ?_
            refine c_exit ?_
            refine thn_e (blk_e (thn_n ?_))
            refine c_reg ?_
            refine sq_p (.int .i64 ((ii : Nat) : Int)) rfl (fun _ => by kernel_rfl) ?_
            refine sq_q rfl h (g_eq (v := .int .i64 (IntKind.i64.wrap (((ii : Nat) : Int) + 1))) (v' := .int .i64 ((ii + 1 : Nat) : Int)) (g_pure fun _ => by kernel_rfl) (wr (by omega))) ?_
            refine sq_p (.int .i64 ((ii + 1 : Nat) : Int)) rfl (fun _ => by kernel_rfl) ?_
            refine lnil ?_
            have hQ36 : ((ii + 1) ≤ l.length ∧ LF l (ii + 1) ns ms false dv c hh zz pk) ∧ (l.length - (ii + 1)) < (l.length - ii) := ⟨⟨by omega, hLF2⟩, by omega⟩
            refine loop_end (fun j => ⟨ii + 1, nv, ns, mv_, ms, false, dv, Sv, c, hh, zz, pk, j⟩) hQ36 (by kernel_rfl) [6, 6, 2, 5, 2, 2, 1, 2, 2, 2, 2, 2, 2, 2, 0, 1] (by kernel_rfl) h
          · skip
            have hLF2 := hLF.done hxr hdn35
            refine sq_p (.nilIface) rfl (fun _ => by kernel_rfl) ?_
            refine lnil ?_
            refine thn_n ?_
            refine c_seq ?_
            refine c_seq ?_
            refine c_reg ?_
            refine sq_p (.bool false) rfl (fun _ => by kernel_rfl) ?_
            refine lnil ?_
            refine thn_n ?_
            refine c_false (by kernel_rfl) ?_
            refine c_skip ?_
            refine thn_n ?_
            refine c_seq ?_
            refine c_seq ?_
            refine c_reg ?_
            refine sq_p (.nilIface) rfl (fun _ => by kernel_rfl) ?_
            refine sq_call #[.nilIface, .int .i64 9] [15] rfl (codedNil_spec (B := B) ad 9 (by omega)) (fun _ => by kernel_rfl) h ?_; rintro v_ L_ w ⟨rfl, rfl⟩ h
            refine lnil ?_
            refine thn_n ?_
            refine c_false (by kernel_rfl) ?_
            refine c_skip ?_
            refine thn_n ?_
            refine c_seq ?_
            refine c_reg ?_
            refine sq_p (nv) rfl (fun _ => by kernel_rfl) ?_
            refine sq_p (lv) rfl (fun _ => by kernel_rfl) ?_
            refine sq_p (.int .i64 ((ii : Nat) : Int)) rfl (fun _ => by kernel_rfl) ?_
            refine sq_q rfl h (g_idxA 47 ii (by kernel_rfl) hix 11 rfl) ?_
            refine sq_q rfl h (g_ldr (b := blkN lv) (offN lv + ii * 2) [.bool xr.1, slV xr.2.1] (.agg #[.bool xr.1, slV xr.2.1]) (by kernel_rfl) 11 rfl (rdArg0 hxr (by kernel_rfl))) ?_
            refine sq_call #[nv, .agg #[.bool xr.1, slV xr.2.1]] [6, 5] rfl (next_spec (slV xr.2.1) (recL xr) xr.1 nv ns hnsl hrsl) (fun _ => by kernel_rfl) h ?_; rintro tv37 L_ w ⟨_, rfl, rfl⟩ h
            have h := (h.pick [2, 0, 0, 0, 0, 0, 0, 0, 0, 0, 0, 0, 0, 0, 0, 0, 0, 0]).toArg
            refine sq_p (tv37) rfl (fun _ => by kernel_rfl) ?_
            refine lnil ?_
            refine thn_n ?_
            refine c_seq ?_
            refine c_seq ?_
            refine c_reg ?_
            refine sq_p (.nilIface) rfl (fun _ => by kernel_rfl) ?_
            refine sq_call #[.nilIface, .int .i64 15] [3] rfl (codedNil_spec (B := B) ad 15 (by omega)) (fun _ => by kernel_rfl) h ?_; rintro v_ L_ w ⟨rfl, rfl⟩ h
            refine lnil ?_
            refine thn_n ?_
            refine c_false (by kernel_rfl) ?_
            refine c_skip ?_
            refine thn_n ?_
            refine c_seq ?_
            refine c_seq ?_
            refine c_reg ?_
            refine sq_p (.nilIface) rfl (fun _ => by kernel_rfl) ?_
            refine sq_p (.bool false) rfl (fun _ => by kernel_rfl) ?_
            refine lnil ?_
            refine thn_n ?_
            refine c_false (by kernel_rfl) ?_
            refine c_skip ?_
            refine thn_n ?_
            refine c_reg ?_
            refine sq_p (tv37) rfl (fun _ => by kernel_rfl) ?_
            refine sq_p (tv37) rfl (fun _ => by kernel_rfl) ?_
            refine lnil ?_
            refine blk_n (thn_n ?_)
            refine c_reg ?_
            refine sq_p (.int .i64 ((ii : Nat) : Int)) rfl (fun _ => by kernel_rfl) ?_
            refine sq_q rfl h (g_eq (v := .int .i64 (IntKind.i64.wrap (((ii : Nat) : Int) + 1))) (v' := .int .i64 ((ii + 1 : Nat) : Int)) (g_pure fun _ => by kernel_rfl) (wr (by omega))) ?_
            refine sq_p (.int .i64 ((ii + 1 : Nat) : Int)) rfl (fun _ => by kernel_rfl) ?_
            refine lnil ?_
            have hQ38 : ((ii + 1) ≤ l.length ∧ LF l (ii + 1) ((if xr.1 then [] else ns) ++ recL xr) ms false dd29 cx31 hw32 zx33 pkx34) ∧ (l.length - (ii + 1)) < (l.length - ii) := ⟨⟨by omega, hLF2⟩, by omega⟩
            refine loop_end (fun j => ⟨ii + 1, tv37, ((if xr.1 then [] else ns) ++ recL xr), mv_, ms, false, dd29, Sx30, cx31, hw32, zx33, pkx34, j⟩) hQ38 (by kernel_rfl) [1, 7, 4, 6, 4, 4, 3, 3, 3, 3, 3, 3, 3, 3, 0, 2] (by kernel_rfl) h
          · skip
            have hLF2 := hLF.went hxr hdn35
            refine sq_p (errV ad 15) rfl (fun _ => by kernel_rfl) ?_
            refine lnil ?_
            refine thn_n ?_
            refine c_seq ?_
            refine c_seq ?_
            refine c_reg ?_
            refine sq_p (.bool false) rfl (fun _ => by kernel_rfl) ?_
            refine lnil ?_
            refine thn_n ?_
            refine c_false (by kernel_rfl) ?_
            refine c_skip ?_
            refine thn_n ?_
            refine c_seq ?_
            refine c_seq ?_
            refine c_reg ?_
            refine sq_p (errV ad 15) rfl (fun _ => by kernel_rfl) ?_
            refine sq_call #[errV ad 15, .int .i64 9] [15] rfl (codedNo_spec (B := B) ad 15 9 (by omega) (by omega)) (fun _ => by kernel_rfl) h ?_; rintro v_ L_ w ⟨rfl, rfl⟩ h
            refine lnil ?_
            refine thn_n ?_
            refine c_false (by kernel_rfl) ?_
            refine c_skip ?_
            refine thn_n ?_
            refine c_seq ?_
            refine c_reg ?_
            refine sq_p (nv) rfl (fun _ => by kernel_rfl) ?_
            refine sq_p (lv) rfl (fun _ => by kernel_rfl) ?_
            refine sq_p (.int .i64 ((ii : Nat) : Int)) rfl (fun _ => by kernel_rfl) ?_
            refine sq_q rfl h (g_idxA 47 ii (by kernel_rfl) hix 11 rfl) ?_
            refine sq_q rfl h (g_ldr (b := blkN lv) (offN lv + ii * 2) [.bool xr.1, slV xr.2.1] (.agg #[.bool xr.1, slV xr.2.1]) (by kernel_rfl) 11 rfl (rdArg0 hxr (by kernel_rfl))) ?_
            refine sq_call #[nv, .agg #[.bool xr.1, slV xr.2.1]] [6, 5] rfl (next_spec (slV xr.2.1) (recL xr) xr.1 nv ns hnsl hrsl) (fun _ => by kernel_rfl) h ?_; rintro tv39 L_ w ⟨_, rfl, rfl⟩ h
            have h := (h.pick [2, 0, 0, 0, 0, 0, 0, 0, 0, 0, 0, 0, 0, 0, 0, 0, 0, 0]).toArg
            refine sq_p (tv39) rfl (fun _ => by kernel_rfl) ?_
            refine lnil ?_
            refine thn_n ?_
            refine c_seq ?_
            refine c_seq ?_
            refine c_reg ?_
            refine sq_p (errV ad 15) rfl (fun _ => by kernel_rfl) ?_
            refine sq_call #[errV ad 15, .int .i64 15] [3] rfl (codedY_spec (B := B) ad 15 15 (by omega) rfl) (fun _ => by kernel_rfl) h ?_; rintro v_ L_ w ⟨rfl, rfl⟩ h
            refine lnil ?_
            refine thn_n ?_
            refine c_true (by kernel_rfl) ?_
            refine c_seq ?_
            refine c_reg ?_
            refine sq_p (.bool true) rfl (fun _ => by kernel_rfl) ?_
            refine lnil ?_
            refine thn_n ?_
            refine c_seq ?_
            refine c_reg ?_
            refine sq_p (tv39) rfl (fun _ => by kernel_rfl) ?_
            refine sq_p (tv39) rfl (fun _ => by kernel_rfl) ?_
            refine lnil ?_
            refine thn_n ?_
            refine c_exit ?_
            refine thn_e (blk_e (thn_n ?_))
            refine c_reg ?_
            refine sq_p (.int .i64 ((ii : Nat) : Int)) rfl (fun _ => by kernel_rfl) ?_
            refine sq_q rfl h (g_eq (v := .int .i64 (IntKind.i64.wrap (((ii : Nat) : Int) + 1))) (v' := .int .i64 ((ii + 1 : Nat) : Int)) (g_pure fun _ => by kernel_rfl) (wr (by omega))) ?_
            refine sq_p (.int .i64 ((ii + 1 : Nat) : Int)) rfl (fun _ => by kernel_rfl) ?_
            refine lnil ?_
            have hQ40 : ((ii + 1) ≤ l.length ∧ LF l (ii + 1) ns ((if xr.1 then [] else ns) ++ recL xr) true dd29 c hh zz pk) ∧ (l.length - (ii + 1)) < (l.length - ii) := ⟨⟨by omega, hLF2⟩, by omega⟩
            refine loop_end (fun j => ⟨ii + 1, nv, ns, tv39, ((if xr.1 then [] else ns) ++ recL xr), true, dd29, Sx30, c, hh, zz, pk, j⟩) hQ40 (by kernel_rfl) [2, 1, 3, 6, 3, 3, 2, 3, 3, 3, 3, 3, 3, 3, 0, 2] (by kernel_rfl) h
        · skip
          have hc28 := of_decide_eq_false hc28
          refine c_exit ?_
          refine thn_e (rnd_e (blk_e (thn_n ?_)))
          refine c_seq ?_
          refine c_reg ?_
          refine sq_p (.slice none 0 0) rfl (fun _ => by kernel_rfl) ?_
          refine lnil ?_
          refine thn_n ?_
          refine c_seq ?_
          refine c_reg ?_
          refine sq_p (.pointer (some ⟨db22, 0, none⟩)) rfl (fun _ => by kernel_rfl) ?_
          refine sq_p (.slice none 0 0) rfl (fun _ => by kernel_rfl) ?_
          refine sq_p (kv) rfl (fun _ => by kernel_rfl) ?_
          have h := h.nilRows 4 1 flagC
          refine sq_appw rfl (by kernel_rfl) flagC_len (fun _ => rfl) h 0 rfl 16 rfl (slRd_arg flagC_len (by decide)) (by (try simp only [List.length_append, List.length_cons, List.length_nil, List.length_map]); omega) ?_; intro v41 w h
          refine sq_call #[.pointer (some ⟨db22, 0, none⟩), v41] [3, 0] rfl (crashF_spec (B := B) (b := db22) (more := more) hLF (by omega) (by omega) Sv v41 ([] ++ keep)) (fun _ => by kernel_rfl) h ?_; rintro v_ L_ w (⟨dd42, Sx43, cx44, hw45, zx46, pkx47, hLG, rfl, rfl⟩ | ⟨dd42, Sx43, cx44, hw45, zx46, pkx47, hlo, hLG, rfl, rfl⟩) h
          · skip
            refine lnil ?_
            refine thn_n ?_
            refine c_seq ?_
            refine c_reg ?_
            refine sq_p (.pointer (some ⟨db22, 0, none⟩)) rfl (fun _ => by kernel_rfl) ?_
            refine sq_call #[.pointer (some ⟨db22, 0, none⟩)] [0, 12, 4, 11] rfl (openL_spec (B := B) ad a1 a2 db22 dd42 Sx43 _ _ _ _ hLG.valid) (fun _ => by kernel_rfl) h ?_; rintro v_ L_ w ⟨lb48, gv49, grs50, hgr51, rfl, rfl⟩ h
            have he_grs50 := texts_inj (hgr51.trans hLG.flat)
            refine sq_p (.tuple #[.pointer (some ⟨lb48, 0, none⟩), gv49, .nilIface]) rfl (fun _ => by kernel_rfl) ?_
            refine sq_p (.pointer (some ⟨lb48, 0, none⟩)) rfl (fun _ => by kernel_rfl) ?_
            refine sq_p (gv49) rfl (fun _ => by kernel_rfl) ?_
            refine sq_p (.nilIface) rfl (fun _ => by kernel_rfl) ?_
            refine sq_p (.pointer (some ⟨lb48, 0, none⟩)) rfl (fun _ => by kernel_rfl) ?_
            refine sq_p (gv49) rfl (fun _ => by kernel_rfl) ?_
            refine sq_p (.nilIface) rfl (fun _ => by kernel_rfl) ?_
            refine lnil ?_
            refine thn_n ?_
            refine c_seq ?_
            refine c_seq ?_
            refine c_reg ?_
            refine sq_p (.nilIface) rfl (fun _ => by kernel_rfl) ?_
            refine sq_p (.bool false) rfl (fun _ => by kernel_rfl) ?_
            refine sq_p (.bool false) rfl (fun _ => by kernel_rfl) ?_
            refine sq_p (.pointer (some ⟨lb48, 0, none⟩)) (by kernel_rfl) (fun _ => by kernel_rfl) ?_
            refine sq_p (.bool false) (by kernel_rfl) (fun _ => by kernel_rfl) ?_
            refine sq_p (.bool false) rfl (fun _ => by kernel_rfl) ?_
            refine lnil ?_
            refine thn_n ?_
            refine c_false (by kernel_rfl) ?_
            refine c_skip ?_
            refine thn_n ?_
            refine c_seq ?_
            refine c_seq ?_
            refine c_reg ?_
            refine sq_p (gv49) rfl (fun _ => by kernel_rfl) ?_
            refine sq_p (nv) rfl (fun _ => by kernel_rfl) ?_
            refine sq_call #[gv49, nv] [5, 6] rfl (sameT_spec gv49 nv grs50 ns (by rw [he_grs50]; omega) he_grs50) (fun _ => by kernel_rfl) h ?_; rintro v_ L_ w ⟨rfl, rfl⟩ h
            refine sq_p (.bool false) rfl (fun _ => by kernel_rfl) ?_
            refine sq_p (.bool false) rfl (fun _ => by kernel_rfl) ?_
            refine sn (by kernel_rfl) ?_
            refine sn (by kernel_rfl) ?_
            refine sn (by kernel_rfl) ?_
            refine sn (by kernel_rfl) ?_
            refine sn (by kernel_rfl) ?_
            refine sn (by kernel_rfl) ?_
            refine sn (by kernel_rfl) ?_
            refine sn (by kernel_rfl) ?_
            refine sq_p (.bool false) rfl (fun _ => by kernel_rfl) ?_
            refine lnil ?_
            refine thn_n ?_
            refine c_false (by kernel_rfl) ?_
            refine c_skip ?_
            refine thn_n ?_
            refine c_seq ?_
            refine c_reg ?_
            refine sq_p (gv49) rfl (fun _ => by kernel_rfl) ?_
            refine sq_p (gv49) rfl (fun _ => by kernel_rfl) ?_
            refine lnil ?_
            refine thn_n ?_
            refine c_seq ?_
            refine c_seq ?_
            refine c_reg ?_
            refine sq_p (.int .i64 0) rfl (fun _ => by kernel_rfl) ?_
            refine lnil ?_
            refine thn_n ?_
            refine c_block ?_
            refine c_loop (X := Nat × Value × List ByteArray × PDisk × (Nat → Prop) × Nat × Nat × Nat × (List (List Tx)) × (Nat → Value)) (fun ⟨i2, nv2, ns2, dv2, Sv2, c2, hh2, zz2, pk2, J1⟩ => ⟨#[lv, .int .i64 after, kv, mv, undef, undef, undef, undef, J1 8, .bool true, .pointer (some ⟨db22, 0, none⟩), .nilIface, .pointer (some ⟨lb24, 0, none⟩), nv2, mv_, .bool false, .int .i64 ((ii : Nat) : Int), J0 17, J0 18, .slice none 0 0, .pointer (some ⟨lb48, 0, none⟩), gv49, .int .i64 ((i2 : Nat) : Int), J1 23, .bool true, .bool true, .bool false, .bool false, lv, .bool (decide (500 < wordN l)), .bool false, .bool false, mv, .bool (decide (500 < wordN more)), .bool b5, .bool b5, (if b5 = false then .int .i64 after else undef), (if b5 = false then .bool b6 else undef), .bool b7, .bool b7, (if b7 = false then kv else undef), (if b7 = false then .int .i64 (keep.length : Int) else undef), (if b7 = false then .bool b8 else undef), .bool b9, undef, .tuple #[.pointer (some ⟨db22, 0, none⟩), .nilIface], .tuple #[.pointer (some ⟨db22, 0, none⟩), .nilIface], .pointer (some ⟨db22, 0, none⟩), .nilIface, .nilIface, .bool false, .bool false, .pointer (some ⟨db22, 0, none⟩), .bool false, .bool false, .tuple #[.pointer (some ⟨lb24, 0, none⟩), .nilIface], .pointer (some ⟨db22, 0, none⟩), .tuple #[.pointer (some ⟨lb24, 0, none⟩), .nilIface], .pointer (some ⟨lb24, 0, none⟩), .nilIface, .nilIface, .bool false, .bool false, .pointer (some ⟨lb24, 0, none⟩), .bool false, .bool false, .bool false, .pointer (some ⟨db22, 0, none⟩), .pointer (some ⟨db22, 0, none⟩), .pointer (some ⟨db22, 0, none⟩), .int .i64 after, .nilIface, .bool false, .bool false, .int .i64 ((ii : Nat) : Int), lv, .int .i64 (l.length : Int), .bool (decide (((ii : Nat) : Int) < (l.length : Int))), J0 78, J0 79, J0 80, J0 81, J0 82, J0 83, J0 84, J0 85, J0 86, J0 87, J0 88, J0 89, J0 90, J0 91, J0 92, J0 93, J0 94, J0 95, J0 96, J0 97, J0 98, J0 99, J0 100, J0 101, J0 102, J0 103, .pointer (some ⟨db22, 0, none⟩), .slice none 0 0, kv, v41, .tuple #[], .tuple #[.pointer (some ⟨lb48, 0, none⟩), gv49, .nilIface], .pointer (some ⟨db22, 0, none⟩), .tuple #[.pointer (some ⟨lb48, 0, none⟩), gv49, .nilIface], .pointer (some ⟨lb48, 0, none⟩), gv49, .nilIface, .nilIface, .bool false, .bool false, .pointer (some ⟨lb48, 0, none⟩), .bool false, .bool false, gv49, nv, .bool true, .bool false, .bool false, undef, undef, undef, undef, undef, undef, undef, undef, .bool false, gv49, J1 136, J1 137, J1 138, J1 139, J1 140, J1 141, J1 142, J1 143, J1 144, J1 145, J1 146, J1 147, J1 148, J1 149, J1 150, J1 151, J1 152, J1 153, J1 154, J1 155, J1 156, J1 157, undef, undef, undef, undef, undef, undef, undef, undef, undef, undef, undef, undef, undef, undef, undef], []⟩)
              (fun ⟨i2, nv2, ns2, dv2, Sv2, c2, hh2, zz2, pk2, J1⟩ => [rArg nv2 1 strC ns2, rArg nv 1 strC ns, rDisk B db22 dv2 Sv2, rNumE a1 a2, rTab, rEnv B ad [1, 2], rCell true lb48 [.pointer (some ⟨db22, 0, none⟩), .int .i64 (c2 : Int), .int .i64 (hh2 : Int), .int .i64 (zz2 : Int), .bool false] 70, rRows true v41 4 1 flagC ([] ++ keep), rArg mv_ 1 strC ms, rEnv B ad [2], rEnv B ad [2, 3, 9, 15], rCell true lb24 [.pointer (some ⟨db22, 0, none⟩), .int .i64 (c : Int), .int .i64 (hh : Int), .int .i64 (zz : Int), .bool false] 70, rArg mv 2 recC more, rSub recR more, rArg lv 2 recC l, rSub recR l, rEnv B ad [1, 2, 3, 9, 15], rEnvA B ad, rArg kv 1 flagC keep]) (fun ⟨i2, nv2, ns2, dv2, Sv2, c2, hh2, zz2, pk2, J1⟩ => i2 ≤ more.length ∧ LG 20000 more i2 ns2 dv2 c2 hh2 zz2 pk2) (fun ⟨i2, nv2, ns2, dv2, Sv2, c2, hh2, zz2, pk2, J1⟩ => more.length - i2)
              ⟨0, gv49, grs50, dd42, Sx43, cx44, hw45, zx46, pkx47, (fun n => (#[lv, .int .i64 after, kv, mv, undef, undef, undef, undef, J0 8, .bool true, .pointer (some ⟨db22, 0, none⟩), .nilIface, .pointer (some ⟨lb24, 0, none⟩), gv49, mv_, .bool false, .int .i64 ((ii : Nat) : Int), J0 17, J0 18, .slice none 0 0, .pointer (some ⟨lb48, 0, none⟩), gv49, .int .i64 0, undef, .bool true, .bool true, .bool false, .bool false, lv, .bool (decide (500 < wordN l)), .bool false, .bool false, mv, .bool (decide (500 < wordN more)), .bool b5, .bool b5, (if b5 = false then .int .i64 after else undef), (if b5 = false then .bool b6 else undef), .bool b7, .bool b7, (if b7 = false then kv else undef), (if b7 = false then .int .i64 (keep.length : Int) else undef), (if b7 = false then .bool b8 else undef), .bool b9, undef, .tuple #[.pointer (some ⟨db22, 0, none⟩), .nilIface], .tuple #[.pointer (some ⟨db22, 0, none⟩), .nilIface], .pointer (some ⟨db22, 0, none⟩), .nilIface, .nilIface, .bool false, .bool false, .pointer (some ⟨db22, 0, none⟩), .bool false, .bool false, .tuple #[.pointer (some ⟨lb24, 0, none⟩), .nilIface], .pointer (some ⟨db22, 0, none⟩), .tuple #[.pointer (some ⟨lb24, 0, none⟩), .nilIface], .pointer (some ⟨lb24, 0, none⟩), .nilIface, .nilIface, .bool false, .bool false, .pointer (some ⟨lb24, 0, none⟩), .bool false, .bool false, .bool false, .pointer (some ⟨db22, 0, none⟩), .pointer (some ⟨db22, 0, none⟩), .pointer (some ⟨db22, 0, none⟩), .int .i64 after, .nilIface, .bool false, .bool false, .int .i64 ((ii : Nat) : Int), lv, .int .i64 (l.length : Int), .bool (decide (((ii : Nat) : Int) < (l.length : Int))), J0 78, J0 79, J0 80, J0 81, J0 82, J0 83, J0 84, J0 85, J0 86, J0 87, J0 88, J0 89, J0 90, J0 91, J0 92, J0 93, J0 94, J0 95, J0 96, J0 97, J0 98, J0 99, J0 100, J0 101, J0 102, J0 103, .pointer (some ⟨db22, 0, none⟩), .slice none 0 0, kv, v41, .tuple #[], .tuple #[.pointer (some ⟨lb48, 0, none⟩), gv49, .nilIface], .pointer (some ⟨db22, 0, none⟩), .tuple #[.pointer (some ⟨lb48, 0, none⟩), gv49, .nilIface], .pointer (some ⟨lb48, 0, none⟩), gv49, .nilIface, .nilIface, .bool false, .bool false, .pointer (some ⟨lb48, 0, none⟩), .bool false, .bool false, gv49, nv, .bool true, .bool false, .bool false, undef, undef, undef, undef, undef, undef, undef, undef, .bool false, gv49, undef, undef, undef, undef, undef, undef, undef, undef, undef, undef, undef, undef, undef, undef, undef, undef, undef, undef, undef, undef, undef, undef, undef, undef, undef, undef, undef, undef, undef, undef, undef, undef, undef, undef, undef, undef, undef] : Array Value).getD n undef)⟩ ⟨Nat.zero_le _, by rw [he_grs50]; exact hLG⟩ (by kernel_rfl) [0, 0, 0, 0, 0, 0, 0, 0, 0, 0, 0, 0, 0, 0, 0, 0, 0, 0, 0] (by kernel_rfl) h ?_
            rintro ⟨i2, nv2, ns2, dv2, Sv2, c2, hh2, zz2, pk2, J1⟩ w hG h
            clear hLG
            obtain ⟨hil2, hLG⟩ : i2 ≤ more.length ∧ LG 20000 more i2 ns2 dv2 c2 hh2 zz2 pk2 := hG
            have hwt3 := hLG.wt
            have hwt4 := wtL_take more i2
            have hns2 : ns2.length < 1000000 := by have := wt_cnt ns2; omega
            have hnsl := hns2
            have hcle2 := hLG.cle
            refine c_seq ?_
            refine c_seq ?_
            refine c_reg ?_
            refine sq_p (.int .i64 ((i2 : Nat) : Int)) rfl (fun _ => by kernel_rfl) ?_
            refine sq_p (mv) rfl (fun _ => by kernel_rfl) ?_
            refine sq_q rfl h (g_lenA 47 (by kernel_rfl) 12 rfl) ?_
            refine sq_p (.bool (decide (((i2 : Nat) : Int) < (more.length : Int)))) rfl (fun _ => by kernel_rfl) ?_
            refine lnil ?_
            refine thn_n ?_
            refine c_cond (decide (((i2 : Nat) : Int) < (more.length : Int))) (by kernel_rfl) (fun hc52 => ?_) (fun hc52 => ?_)
            · skip
              have hc52 := of_decide_eq_true hc52
              have hiy : i2 < more.length := by omega
              obtain ⟨yr, hyr⟩ : ∃ x_, more[i2]? = some x_ := ⟨_, List.getElem?_eq_getElem hiy⟩
              have h := h.inner 13 rfl hyr rfl
              have hrn := wtL_next hyr
              have hrt := wtL_take more (i2 + 1)
              have hrsl : (recL yr).length < 1000000 := by have := wt_cnt (recL yr); omega
              have hbr : (packT ((recL yr).map tx)).length ≤ 90000000 := by have := packT_wt (rs := recL yr) (by omega); omega
              have hcl : c2 + 1 < ten10 := by unfold ten10; omega
              refine c_skip ?_
              refine thn_n ?_
              refine c_seq ?_
              refine c_block ?_
              refine c_seq ?_
              refine c_reg ?_
              refine sq_p (.pointer (some ⟨lb48, 0, none⟩)) rfl (fun _ => by kernel_rfl) ?_
              refine sq_p (mv) rfl (fun _ => by kernel_rfl) ?_
              refine sq_p (.int .i64 ((i2 : Nat) : Int)) rfl (fun _ => by kernel_rfl) ?_
              refine sq_q rfl h (g_idxA 47 i2 (by kernel_rfl) hiy 13 rfl) ?_
              refine sq_q rfl h (g_ldr (b := blkN mv) (offN mv + i2 * 2) [.bool yr.1, slV yr.2.1] (.agg #[.bool yr.1, slV yr.2.1]) (by kernel_rfl) 13 rfl (rdArg0 hyr (by kernel_rfl))) ?_
              refine sq_call #[.pointer (some ⟨lb48, 0, none⟩), .agg #[.bool yr.1, slV yr.2.1]] [7, 3, 4, 8, 0] rfl (actN_spec (B := B) ad lb48 db22 dv2 Sv2 c2 hh2 zz2 pk2 (slV yr.2.1) (recL yr) yr.1 hbr hrsl hLG.valid hLG.quiet hLG.left hcl) (fun _ => by kernel_rfl) h ?_; rintro v_ L_ w (⟨hdn59, rfl, rfl⟩ | ⟨dd53, Sx54, cx55, hw56, zx57, pkx58, hdn59, rfl, rfl⟩) h
              · skip
                have hLG2 := hLG.stay hyr
                refine sq_p (errV ad 9) rfl (fun _ => by kernel_rfl) ?_
                refine lnil ?_
                refine thn_n ?_
                refine c_seq ?_
                refine c_seq ?_
                refine c_reg ?_
                refine sq_p (errV ad 9) rfl (fun _ => by kernel_rfl) ?_
                refine sq_call #[errV ad 9, .int .i64 9] [18] rfl (codedY_spec (B := B) ad 9 9 (by omega) rfl) (fun _ => by kernel_rfl) h ?_; rintro v_ L_ w ⟨rfl, rfl⟩ h
                refine lnil ?_
                refine thn_n ?_
                refine c_true (by kernel_rfl) ?_
                refine c_exit ?_
                refine thn_e (blk_e (thn_n ?_))
                refine c_reg ?_
                refine sq_p (.int .i64 ((i2 : Nat) : Int)) rfl (fun _ => by kernel_rfl) ?_
                refine sq_q rfl h (g_eq (v := .int .i64 (IntKind.i64.wrap (((i2 : Nat) : Int) + 1))) (v' := .int .i64 ((i2 + 1 : Nat) : Int)) (g_pure fun _ => by kernel_rfl) (wr (by omega))) ?_
                refine sq_p (.int .i64 ((i2 + 1 : Nat) : Int)) rfl (fun _ => by kernel_rfl) ?_
                refine lnil ?_
                have hQ60 : ((i2 + 1) ≤ more.length ∧ LG 20000 more (i2 + 1) ns2 dv2 c2 hh2 zz2 pk2) ∧ (more.length - (i2 + 1)) < (more.length - i2) := ⟨⟨by omega, hLG2⟩, by omega⟩
                refine loop_end (fun j => ⟨i2 + 1, nv2, ns2, dv2, Sv2, c2, hh2, zz2, pk2, j⟩) hQ60 (by kernel_rfl) [6, 6, 2, 5, 2, 4, 1, 3, 3, 3, 1, 2, 2, 2, 2, 2, 2, 0, 1] (by kernel_rfl) h
              · skip
                have hLG2 := hLG.done hyr hdn59
                refine sq_p (.nilIface) rfl (fun _ => by kernel_rfl) ?_
                refine lnil ?_
                refine thn_n ?_
                refine c_seq ?_
                refine c_seq ?_
                refine c_reg ?_
                refine sq_p (.nilIface) rfl (fun _ => by kernel_rfl) ?_
                refine sq_call #[.nilIface, .int .i64 9] [18] rfl (codedNil_spec (B := B) ad 9 (by omega)) (fun _ => by kernel_rfl) h ?_; rintro v_ L_ w ⟨rfl, rfl⟩ h
                refine lnil ?_
                refine thn_n ?_
                refine c_false (by kernel_rfl) ?_
                refine c_skip ?_
                refine thn_n ?_
                refine c_seq ?_
                refine c_seq ?_
                refine c_reg ?_
                refine sq_p (.nilIface) rfl (fun _ => by kernel_rfl) ?_
                refine sq_p (.bool false) rfl (fun _ => by kernel_rfl) ?_
                refine lnil ?_
                refine thn_n ?_
                refine c_false (by kernel_rfl) ?_
                refine c_skip ?_
                refine thn_n ?_
                refine c_reg ?_
                refine sq_p (nv2) rfl (fun _ => by kernel_rfl) ?_
                refine sq_p (mv) rfl (fun _ => by kernel_rfl) ?_
                refine sq_p (.int .i64 ((i2 : Nat) : Int)) rfl (fun _ => by kernel_rfl) ?_
                refine sq_q rfl h (g_idxA 47 i2 (by kernel_rfl) hiy 14 rfl) ?_
                refine sq_q rfl h (g_ldr (b := blkN mv) (offN mv + i2 * 2) [.bool yr.1, slV yr.2.1] (.agg #[.bool yr.1, slV yr.2.1]) (by kernel_rfl) 14 rfl (rdArg0 hyr (by kernel_rfl))) ?_
                refine sq_call #[nv2, .agg #[.bool yr.1, slV yr.2.1]] [6, 5] rfl (next_spec (slV yr.2.1) (recL yr) yr.1 nv2 ns2 hnsl hrsl) (fun _ => by kernel_rfl) h ?_; rintro tv61 L_ w ⟨_, rfl, rfl⟩ h
                have h := (h.pick [2, 0, 0, 0, 0, 0, 0, 0, 0, 0, 0, 0, 0, 0, 0, 0, 0, 0, 0, 0, 0]).toArg
                refine sq_p (tv61) rfl (fun _ => by kernel_rfl) ?_
                refine lnil ?_
                refine blk_n (thn_n ?_)
                refine c_reg ?_
                refine sq_p (.int .i64 ((i2 : Nat) : Int)) rfl (fun _ => by kernel_rfl) ?_
                refine sq_q rfl h (g_eq (v := .int .i64 (IntKind.i64.wrap (((i2 : Nat) : Int) + 1))) (v' := .int .i64 ((i2 + 1 : Nat) : Int)) (g_pure fun _ => by kernel_rfl) (wr (by omega))) ?_
                refine sq_p (.int .i64 ((i2 + 1 : Nat) : Int)) rfl (fun _ => by kernel_rfl) ?_
                refine lnil ?_
                have hQ62 : ((i2 + 1) ≤ more.length ∧ LG 20000 more (i2 + 1) ((if yr.1 then [] else ns2) ++ recL yr) dd53 cx55 hw56 zx57 pkx58) ∧ (more.length - (i2 + 1)) < (more.length - i2) := ⟨⟨by omega, hLG2⟩, by omega⟩
                refine loop_end (fun j => ⟨i2 + 1, tv61, ((if yr.1 then [] else ns2) ++ recL yr), dd53, Sx54, cx55, hw56, zx57, pkx58, j⟩) hQ62 (by kernel_rfl) [0, 7, 4, 6, 4, 5, 3, 4, 4, 4, 3, 3, 3, 3, 3, 3, 3, 2, 2] (by kernel_rfl) h
            · skip
              have hc52 := of_decide_eq_false hc52
              refine c_exit ?_
              refine thn_e (rnd_e (blk_e (thn_n ?_)))
              refine c_seq ?_
              refine c_reg ?_
              refine sq_p (.pointer (some ⟨db22, 0, none⟩)) rfl (fun _ => by kernel_rfl) ?_
              have h := h.nilRows 4 1 flagC
              refine sq_call #[.pointer (some ⟨db22, 0, none⟩), .slice none 0 0] [3, 0] rfl (crash0_spec (B := B) (b := db22) dv2 Sv2 (.slice none 0 0) [] hLG.quiet (by have := hLG.len; omega)) (fun _ => by kernel_rfl) h ?_; rintro v_ L_ w ⟨dd63, Sx64, hcn, hcl2, hcq, rfl, rfl⟩ h
              refine lnil ?_
              refine thn_n ?_
              refine c_seq ?_
              refine c_reg ?_
              refine sq_p (.pointer (some ⟨db22, 0, none⟩)) rfl (fun _ => by kernel_rfl) ?_
              refine sq_call #[.pointer (some ⟨db22, 0, none⟩)] [0, 3, 3, 3] rfl (openL_spec (B := B) ad a1 a2 db22 dd63 Sx64 _ _ _ _ (show Valid dd63.now.length dd63.now c2 hh2 zz2 pk2 by rw [hcn]; exact hLG.valid)) (fun _ => by kernel_rfl) h ?_; rintro v_ L_ w ⟨lb65, gv66, grs67, hgr68, rfl, rfl⟩ h
              have he_grs67 := texts_inj (hgr68.trans hLG.flat)
              refine sq_p (.tuple #[.pointer (some ⟨lb65, 0, none⟩), gv66, .nilIface]) rfl (fun _ => by kernel_rfl) ?_
              refine sq_p (.pointer (some ⟨lb65, 0, none⟩)) rfl (fun _ => by kernel_rfl) ?_
              refine sq_p (gv66) rfl (fun _ => by kernel_rfl) ?_
              refine sq_p (.nilIface) rfl (fun _ => by kernel_rfl) ?_
              refine sq_p (gv66) rfl (fun _ => by kernel_rfl) ?_
              refine sq_p (.nilIface) rfl (fun _ => by kernel_rfl) ?_
              refine lnil ?_
              refine thn_n ?_
              refine c_seq ?_
              refine c_reg ?_
              refine sq_p (.nilIface) rfl (fun _ => by kernel_rfl) ?_
              refine sq_p (.bool true) rfl (fun _ => by kernel_rfl) ?_
              refine sq_p (.bool true) rfl (fun _ => by kernel_rfl) ?_
              refine sq_p (gv66) (by kernel_rfl) (fun _ => by kernel_rfl) ?_
              refine sq_p (nv2) (by kernel_rfl) (fun _ => by kernel_rfl) ?_
              refine sq_call #[gv66, nv2] [5, 6] (by kernel_rfl) (sameT_spec gv66 nv2 grs67 ns2 (by rw [he_grs67]; omega) he_grs67) (fun _ => by kernel_rfl) h ?_; rintro v_ L_ w ⟨rfl, rfl⟩ h
              refine sq_p (.bool true) rfl (fun _ => by kernel_rfl) ?_
              refine sq_p (.bool true) rfl (fun _ => by kernel_rfl) ?_
              refine lnil ?_
              refine thn_n ?_
              refine c_ret ?_
              refine ret_end [.bool true] [] h (by kernel_rfl) (res_t (by kernel_rfl) res_n) ?_
              exact ⟨rfl, rfl⟩
          · skip
            cases hlo
      · skip
        refine c_seq ?_
        refine c_seq ?_
        refine c_reg ?_
        refine sq_p (.int .i64 ((ii : Nat) : Int)) rfl (fun _ => by kernel_rfl) ?_
        refine sq_p (lv) rfl (fun _ => by kernel_rfl) ?_
        refine sq_q rfl h (g_lenA 47 (by kernel_rfl) 9 rfl) ?_
        refine sq_p (.bool (decide (((ii : Nat) : Int) < (l.length : Int)))) rfl (fun _ => by kernel_rfl) ?_
        refine lnil ?_
        refine thn_n ?_
        refine c_cond (decide (((ii : Nat) : Int) < (l.length : Int))) (by kernel_rfl) (fun hc69 => ?_) (fun hc69 => ?_)
        · skip
          have hc69 := of_decide_eq_true hc69
          have hix : ii < l.length := by omega
          obtain ⟨xr, hxr⟩ : ∃ x_, l[ii]? = some x_ := ⟨_, List.getElem?_eq_getElem hix⟩
          have h := h.inner 10 rfl hxr rfl
          have hrn := wtL_next hxr
          have hrt := wtL_take l (ii + 1)
          have hrsl : (recL xr).length < 1000000 := by have := wt_cnt (recL xr); omega
          have hbr : (packT ((recL xr).map tx)).length ≤ 90000000 := by have := packT_wt (rs := recL xr) (by omega); omega
          have hcl : c + 1 < ten10 := by unfold ten10; omega
          refine c_skip ?_
          refine thn_n ?_
          refine c_seq ?_
          refine c_block ?_
          refine c_seq ?_
          refine c_reg ?_
          refine sq_p (.pointer (some ⟨lb24, 0, none⟩)) rfl (fun _ => by kernel_rfl) ?_
          refine sq_p (lv) rfl (fun _ => by kernel_rfl) ?_
          refine sq_p (.int .i64 ((ii : Nat) : Int)) rfl (fun _ => by kernel_rfl) ?_
          refine sq_q rfl h (g_idxA 47 ii (by kernel_rfl) hix 10 rfl) ?_
          refine sq_q rfl h (g_ldr (b := blkN lv) (offN lv + ii * 2) [.bool xr.1, slV xr.2.1] (.agg #[.bool xr.1, slV xr.2.1]) (by kernel_rfl) 10 rfl (rdArg0 hxr (by kernel_rfl))) ?_
          refine sq_call #[.pointer (some ⟨lb24, 0, none⟩), .agg #[.bool xr.1, slV xr.2.1]] [7, 3, 4, 4, 0] rfl (act_lost (B := B) ad lb24 db22 dv Sv c hh zz (slV xr.2.1) (recL xr) xr.1 hbr hrsl) (fun _ => by kernel_rfl) h ?_; rintro v_ L_ w ⟨rfl, rfl⟩ h
          have hLF2 := hLF.stay hxr
          refine sq_p (errV ad 15) rfl (fun _ => by kernel_rfl) ?_
          refine lnil ?_
          refine thn_n ?_
          refine c_seq ?_
          refine c_seq ?_
          refine c_reg ?_
          refine sq_p (.bool true) rfl (fun _ => by kernel_rfl) ?_
          refine lnil ?_
          refine thn_n ?_
          refine c_true (by kernel_rfl) ?_
          refine c_seq ?_
          refine c_seq ?_
          refine c_reg ?_
          refine sq_p (errV ad 15) rfl (fun _ => by kernel_rfl) ?_
          refine sq_call #[errV ad 15, .int .i64 15] [15] rfl (codedY_spec (B := B) ad 15 15 (by omega) rfl) (fun _ => by kernel_rfl) h ?_; rintro v_ L_ w ⟨rfl, rfl⟩ h
          refine sq_p (.bool false) rfl (fun _ => by kernel_rfl) ?_
          refine lnil ?_
          refine thn_n ?_
          refine c_false (by kernel_rfl) ?_
          refine c_skip ?_
          refine thn_n ?_
          refine c_exit ?_
          refine thn_e (blk_e (thn_n ?_))
          refine c_reg ?_
          refine sq_p (.int .i64 ((ii : Nat) : Int)) rfl (fun _ => by kernel_rfl) ?_
          refine sq_q rfl h (g_eq (v := .int .i64 (IntKind.i64.wrap (((ii : Nat) : Int) + 1))) (v' := .int .i64 ((ii + 1 : Nat) : Int)) (g_pure fun _ => by kernel_rfl) (wr (by omega))) ?_
          refine sq_p (.int .i64 ((ii + 1 : Nat) : Int)) rfl (fun _ => by kernel_rfl) ?_
          refine lnil ?_
          have hQ77 : ((ii + 1) ≤ l.length ∧ LF l (ii + 1) ns ms true dv c hh zz pk) ∧ (l.length - (ii + 1)) < (l.length - ii) := ⟨⟨by omega, hLF2⟩, by omega⟩
          refine loop_end (fun j => ⟨ii + 1, nv, ns, mv_, ms, true, dv, Sv, c, hh, zz, pk, j⟩) hQ77 (by kernel_rfl) [6, 6, 2, 5, 2, 2, 1, 2, 2, 2, 2, 2, 2, 2, 0, 1] (by kernel_rfl) h
        · skip
          have hc69 := of_decide_eq_false hc69
          refine c_exit ?_
          refine thn_e (rnd_e (blk_e (thn_n ?_)))
          refine c_seq ?_
          refine c_reg ?_
          refine sq_p (.slice none 0 0) rfl (fun _ => by kernel_rfl) ?_
          refine lnil ?_
          refine thn_n ?_
          refine c_seq ?_
          refine c_reg ?_
          refine sq_p (.pointer (some ⟨db22, 0, none⟩)) rfl (fun _ => by kernel_rfl) ?_
          refine sq_p (.slice none 0 0) rfl (fun _ => by kernel_rfl) ?_
          refine sq_p (kv) rfl (fun _ => by kernel_rfl) ?_
          have h := h.nilRows 4 1 flagC
          refine sq_appw rfl (by kernel_rfl) flagC_len (fun _ => rfl) h 0 rfl 16 rfl (slRd_arg flagC_len (by decide)) (by (try simp only [List.length_append, List.length_cons, List.length_nil, List.length_map]); omega) ?_; intro v78 w h
          refine sq_call #[.pointer (some ⟨db22, 0, none⟩), v78] [3, 0] rfl (crashF_spec (B := B) (b := db22) (more := more) hLF (by omega) (by omega) Sv v78 ([] ++ keep)) (fun _ => by kernel_rfl) h ?_; rintro v_ L_ w (⟨dd79, Sx80, cx81, hw82, zx83, pkx84, hLG, rfl, rfl⟩ | ⟨dd79, Sx80, cx81, hw82, zx83, pkx84, hlo, hLG, rfl, rfl⟩) h
          · skip
            refine lnil ?_
            refine thn_n ?_
            refine c_seq ?_
            refine c_reg ?_
            refine sq_p (.pointer (some ⟨db22, 0, none⟩)) rfl (fun _ => by kernel_rfl) ?_
            refine sq_call #[.pointer (some ⟨db22, 0, none⟩)] [0, 12, 4, 11] rfl (openL_spec (B := B) ad a1 a2 db22 dd79 Sx80 _ _ _ _ hLG.valid) (fun _ => by kernel_rfl) h ?_; rintro v_ L_ w ⟨lb85, gv86, grs87, hgr88, rfl, rfl⟩ h
            have he_grs87 := texts_inj (hgr88.trans hLG.flat)
            refine sq_p (.tuple #[.pointer (some ⟨lb85, 0, none⟩), gv86, .nilIface]) rfl (fun _ => by kernel_rfl) ?_
            refine sq_p (.pointer (some ⟨lb85, 0, none⟩)) rfl (fun _ => by kernel_rfl) ?_
            refine sq_p (gv86) rfl (fun _ => by kernel_rfl) ?_
            refine sq_p (.nilIface) rfl (fun _ => by kernel_rfl) ?_
            refine sq_p (.pointer (some ⟨lb85, 0, none⟩)) rfl (fun _ => by kernel_rfl) ?_
            refine sq_p (gv86) rfl (fun _ => by kernel_rfl) ?_
            refine sq_p (.nilIface) rfl (fun _ => by kernel_rfl) ?_
            refine lnil ?_
            refine thn_n ?_
            refine c_seq ?_
            refine c_seq ?_
            refine c_reg ?_
            refine sq_p (.nilIface) rfl (fun _ => by kernel_rfl) ?_
            refine sq_p (.bool false) rfl (fun _ => by kernel_rfl) ?_
            refine sq_p (.bool false) rfl (fun _ => by kernel_rfl) ?_
            refine sq_p (.pointer (some ⟨lb85, 0, none⟩)) (by kernel_rfl) (fun _ => by kernel_rfl) ?_
            refine sq_p (.bool false) (by kernel_rfl) (fun _ => by kernel_rfl) ?_
            refine sq_p (.bool false) rfl (fun _ => by kernel_rfl) ?_
            refine lnil ?_
            refine thn_n ?_
            refine c_false (by kernel_rfl) ?_
            refine c_skip ?_
            refine thn_n ?_
            refine c_seq ?_
            refine c_seq ?_
            refine c_reg ?_
            refine sq_p (gv86) rfl (fun _ => by kernel_rfl) ?_
            refine sq_p (nv) rfl (fun _ => by kernel_rfl) ?_
            refine sq_call #[gv86, nv] [5, 6] rfl (sameT_spec gv86 nv grs87 ns (by rw [he_grs87]; omega) he_grs87) (fun _ => by kernel_rfl) h ?_; rintro v_ L_ w ⟨rfl, rfl⟩ h
            refine sq_p (.bool false) rfl (fun _ => by kernel_rfl) ?_
            refine sq_p (.bool false) rfl (fun _ => by kernel_rfl) ?_
            refine sn (by kernel_rfl) ?_
            refine sn (by kernel_rfl) ?_
            refine sn (by kernel_rfl) ?_
            refine sn (by kernel_rfl) ?_
            refine sn (by kernel_rfl) ?_
            refine sn (by kernel_rfl) ?_
            refine sn (by kernel_rfl) ?_
            refine sn (by kernel_rfl) ?_
            refine sq_p (.bool false) rfl (fun _ => by kernel_rfl) ?_
            refine lnil ?_
            refine thn_n ?_
            refine c_false (by kernel_rfl) ?_
            refine c_skip ?_
            refine thn_n ?_
            refine c_seq ?_
            refine c_reg ?_
            refine sq_p (gv86) rfl (fun _ => by kernel_rfl) ?_
            refine sq_p (gv86) rfl (fun _ => by kernel_rfl) ?_
            refine lnil ?_
            refine thn_n ?_
            refine c_seq ?_
            refine c_seq ?_
            refine c_reg ?_
            refine sq_p (.int .i64 0) rfl (fun _ => by kernel_rfl) ?_
            refine lnil ?_
            refine thn_n ?_
            refine c_block ?_
            refine c_loop (X := Nat × Value × List ByteArray × PDisk × (Nat → Prop) × Nat × Nat × Nat × (List (List Tx)) × (Nat → Value)) (fun ⟨i2, nv2, ns2, dv2, Sv2, c2, hh2, zz2, pk2, J2⟩ => ⟨#[lv, .int .i64 after, kv, mv, undef, undef, undef, undef, J2 8, .bool true, .pointer (some ⟨db22, 0, none⟩), .nilIface, .pointer (some ⟨lb24, 0, none⟩), nv2, mv_, .bool true, .int .i64 ((ii : Nat) : Int), J0 17, J0 18, .slice none 0 0, .pointer (some ⟨lb85, 0, none⟩), gv86, .int .i64 ((i2 : Nat) : Int), J2 23, .bool true, .bool true, .bool false, .bool false, lv, .bool (decide (500 < wordN l)), .bool false, .bool false, mv, .bool (decide (500 < wordN more)), .bool b5, .bool b5, (if b5 = false then .int .i64 after else undef), (if b5 = false then .bool b6 else undef), .bool b7, .bool b7, (if b7 = false then kv else undef), (if b7 = false then .int .i64 (keep.length : Int) else undef), (if b7 = false then .bool b8 else undef), .bool b9, undef, .tuple #[.pointer (some ⟨db22, 0, none⟩), .nilIface], .tuple #[.pointer (some ⟨db22, 0, none⟩), .nilIface], .pointer (some ⟨db22, 0, none⟩), .nilIface, .nilIface, .bool false, .bool false, .pointer (some ⟨db22, 0, none⟩), .bool false, .bool false, .tuple #[.pointer (some ⟨lb24, 0, none⟩), .nilIface], .pointer (some ⟨db22, 0, none⟩), .tuple #[.pointer (some ⟨lb24, 0, none⟩), .nilIface], .pointer (some ⟨lb24, 0, none⟩), .nilIface, .nilIface, .bool false, .bool false, .pointer (some ⟨lb24, 0, none⟩), .bool false, .bool false, .bool false, .pointer (some ⟨db22, 0, none⟩), .pointer (some ⟨db22, 0, none⟩), .pointer (some ⟨db22, 0, none⟩), .int .i64 after, .nilIface, .bool false, .bool false, .int .i64 ((ii : Nat) : Int), lv, .int .i64 (l.length : Int), .bool (decide (((ii : Nat) : Int) < (l.length : Int))), J0 78, J0 79, J0 80, J0 81, J0 82, J0 83, J0 84, J0 85, J0 86, J0 87, J0 88, J0 89, J0 90, J0 91, J0 92, J0 93, J0 94, J0 95, J0 96, J0 97, J0 98, J0 99, J0 100, J0 101, J0 102, J0 103, .pointer (some ⟨db22, 0, none⟩), .slice none 0 0, kv, v78, .tuple #[], .tuple #[.pointer (some ⟨lb85, 0, none⟩), gv86, .nilIface], .pointer (some ⟨db22, 0, none⟩), .tuple #[.pointer (some ⟨lb85, 0, none⟩), gv86, .nilIface], .pointer (some ⟨lb85, 0, none⟩), gv86, .nilIface, .nilIface, .bool false, .bool false, .pointer (some ⟨lb85, 0, none⟩), .bool false, .bool false, gv86, nv, .bool true, .bool false, .bool false, undef, undef, undef, undef, undef, undef, undef, undef, .bool false, gv86, J2 136, J2 137, J2 138, J2 139, J2 140, J2 141, J2 142, J2 143, J2 144, J2 145, J2 146, J2 147, J2 148, J2 149, J2 150, J2 151, J2 152, J2 153, J2 154, J2 155, J2 156, J2 157, undef, undef, undef, undef, undef, undef, undef, undef, undef, undef, undef, undef, undef, undef, undef], []⟩)
              (fun ⟨i2, nv2, ns2, dv2, Sv2, c2, hh2, zz2, pk2, J2⟩ => [rArg nv2 1 strC ns2, rArg nv 1 strC ns, rDisk B db22 dv2 Sv2, rNumE a1 a2, rTab, rEnv B ad [1, 2], rCell true lb85 [.pointer (some ⟨db22, 0, none⟩), .int .i64 (c2 : Int), .int .i64 (hh2 : Int), .int .i64 (zz2 : Int), .bool false] 70, rRows true v78 4 1 flagC ([] ++ keep), rArg mv_ 1 strC ms, rEnv B ad [2], rEnv B ad [2, 3, 9, 15], rCell true lb24 [.pointer (some ⟨db22, 0, none⟩), .int .i64 (c : Int), .int .i64 (hh : Int), .int .i64 (zz : Int), .bool true] 70, rArg mv 2 recC more, rSub recR more, rArg lv 2 recC l, rSub recR l, rEnv B ad [1, 2, 3, 9, 15], rEnvA B ad, rArg kv 1 flagC keep]) (fun ⟨i2, nv2, ns2, dv2, Sv2, c2, hh2, zz2, pk2, J2⟩ => i2 ≤ more.length ∧ LG 20000 more i2 ns2 dv2 c2 hh2 zz2 pk2) (fun ⟨i2, nv2, ns2, dv2, Sv2, c2, hh2, zz2, pk2, J2⟩ => more.length - i2)
              ⟨0, gv86, grs87, dd79, Sx80, cx81, hw82, zx83, pkx84, (fun n => (#[lv, .int .i64 after, kv, mv, undef, undef, undef, undef, J0 8, .bool true, .pointer (some ⟨db22, 0, none⟩), .nilIface, .pointer (some ⟨lb24, 0, none⟩), gv86, mv_, .bool true, .int .i64 ((ii : Nat) : Int), J0 17, J0 18, .slice none 0 0, .pointer (some ⟨lb85, 0, none⟩), gv86, .int .i64 0, undef, .bool true, .bool true, .bool false, .bool false, lv, .bool (decide (500 < wordN l)), .bool false, .bool false, mv, .bool (decide (500 < wordN more)), .bool b5, .bool b5, (if b5 = false then .int .i64 after else undef), (if b5 = false then .bool b6 else undef), .bool b7, .bool b7, (if b7 = false then kv else undef), (if b7 = false then .int .i64 (keep.length : Int) else undef), (if b7 = false then .bool b8 else undef), .bool b9, undef, .tuple #[.pointer (some ⟨db22, 0, none⟩), .nilIface], .tuple #[.pointer (some ⟨db22, 0, none⟩), .nilIface], .pointer (some ⟨db22, 0, none⟩), .nilIface, .nilIface, .bool false, .bool false, .pointer (some ⟨db22, 0, none⟩), .bool false, .bool false, .tuple #[.pointer (some ⟨lb24, 0, none⟩), .nilIface], .pointer (some ⟨db22, 0, none⟩), .tuple #[.pointer (some ⟨lb24, 0, none⟩), .nilIface], .pointer (some ⟨lb24, 0, none⟩), .nilIface, .nilIface, .bool false, .bool false, .pointer (some ⟨lb24, 0, none⟩), .bool false, .bool false, .bool false, .pointer (some ⟨db22, 0, none⟩), .pointer (some ⟨db22, 0, none⟩), .pointer (some ⟨db22, 0, none⟩), .int .i64 after, .nilIface, .bool false, .bool false, .int .i64 ((ii : Nat) : Int), lv, .int .i64 (l.length : Int), .bool (decide (((ii : Nat) : Int) < (l.length : Int))), J0 78, J0 79, J0 80, J0 81, J0 82, J0 83, J0 84, J0 85, J0 86, J0 87, J0 88, J0 89, J0 90, J0 91, J0 92, J0 93, J0 94, J0 95, J0 96, J0 97, J0 98, J0 99, J0 100, J0 101, J0 102, J0 103, .pointer (some ⟨db22, 0, none⟩), .slice none 0 0, kv, v78, .tuple #[], .tuple #[.pointer (some ⟨lb85, 0, none⟩), gv86, .nilIface], .pointer (some ⟨db22, 0, none⟩), .tuple #[.pointer (some ⟨lb85, 0, none⟩), gv86, .nilIface], .pointer (some ⟨lb85, 0, none⟩), gv86, .nilIface, .nilIface, .bool false, .bool false, .pointer (some ⟨lb85, 0, none⟩), .bool false, .bool false, gv86, nv, .bool true, .bool false, .bool false, undef, undef, undef, undef, undef, undef, undef, undef, .bool false, gv86, undef, undef, undef, undef, undef, undef, undef, undef, undef, undef, undef, undef, undef, undef, undef, undef, undef, undef, undef, undef, undef, undef, undef, undef, undef, undef, undef, undef, undef, undef, undef, undef, undef, undef, undef, undef, undef] : Array Value).getD n undef)⟩ ⟨Nat.zero_le _, by rw [he_grs87]; exact hLG⟩ (by kernel_rfl) [0, 0, 0, 0, 0, 0, 0, 0, 0, 0, 0, 0, 0, 0, 0, 0, 0, 0, 0] (by kernel_rfl) h ?_
            rintro ⟨i2, nv2, ns2, dv2, Sv2, c2, hh2, zz2, pk2, J2⟩ w hG h
            clear hLG
            obtain ⟨hil2, hLG⟩ : i2 ≤ more.length ∧ LG 20000 more i2 ns2 dv2 c2 hh2 zz2 pk2 := hG
            have hwt3 := hLG.wt
            have hwt4 := wtL_take more i2
            have hns2 : ns2.length < 1000000 := by have := wt_cnt ns2; omega
            have hnsl := hns2
            have hcle2 := hLG.cle
            refine c_seq ?_
            refine c_seq ?_
            refine c_reg ?_
            refine sq_p (.int .i64 ((i2 : Nat) : Int)) rfl (fun _ => by kernel_rfl) ?_
            refine sq_p (mv) rfl (fun _ => by kernel_rfl) ?_
            refine sq_q rfl h (g_lenA 47 (by kernel_rfl) 12 rfl) ?_
            refine sq_p (.bool (decide (((i2 : Nat) : Int) < (more.length : Int)))) rfl (fun _ => by kernel_rfl) ?_
            refine lnil ?_
            refine thn_n ?_
            refine c_cond (decide (((i2 : Nat) : Int) < (more.length : Int))) (by kernel_rfl) (fun hc89 => ?_) (fun hc89 => ?_)
            · skip
              have hc89 := of_decide_eq_true hc89
              have hiy : i2 < more.length := by omega
              obtain ⟨yr, hyr⟩ : ∃ x_, more[i2]? = some x_ := ⟨_, List.getElem?_eq_getElem hiy⟩
              have h := h.inner 13 rfl hyr rfl
              have hrn := wtL_next hyr
              have hrt := wtL_take more (i2 + 1)
              have hrsl : (recL yr).length < 1000000 := by have := wt_cnt (recL yr); omega
              have hbr : (packT ((recL yr).map tx)).length ≤ 90000000 := by have := packT_wt (rs := recL yr) (by omega); omega
              have hcl : c2 + 1 < ten10 := by unfold ten10; omega
              refine c_skip ?_
              refine thn_n ?_
              refine c_seq ?_
              refine c_block ?_
              refine c_seq ?_
              refine c_reg ?_
              refine sq_p (.pointer (some ⟨lb85, 0, none⟩)) rfl (fun _ => by kernel_rfl) ?_
              refine sq_p (mv) rfl (fun _ => by kernel_rfl) ?_
              refine sq_p (.int .i64 ((i2 : Nat) : Int)) rfl (fun _ => by kernel_rfl) ?_
              refine sq_q rfl h (g_idxA 47 i2 (by kernel_rfl) hiy 13 rfl) ?_
              refine sq_q rfl h (g_ldr (b := blkN mv) (offN mv + i2 * 2) [.bool yr.1, slV yr.2.1] (.agg #[.bool yr.1, slV yr.2.1]) (by kernel_rfl) 13 rfl (rdArg0 hyr (by kernel_rfl))) ?_
              refine sq_call #[.pointer (some ⟨lb85, 0, none⟩), .agg #[.bool yr.1, slV yr.2.1]] [7, 3, 4, 8, 0] rfl (actN_spec (B := B) ad lb85 db22 dv2 Sv2 c2 hh2 zz2 pk2 (slV yr.2.1) (recL yr) yr.1 hbr hrsl hLG.valid hLG.quiet hLG.left hcl) (fun _ => by kernel_rfl) h ?_; rintro v_ L_ w (⟨hdn96, rfl, rfl⟩ | ⟨dd90, Sx91, cx92, hw93, zx94, pkx95, hdn96, rfl, rfl⟩) h
              · skip
                have hLG2 := hLG.stay hyr
                refine sq_p (errV ad 9) rfl (fun _ => by kernel_rfl) ?_
                refine lnil ?_
                refine thn_n ?_
                refine c_seq ?_
                refine c_seq ?_
                refine c_reg ?_
                refine sq_p (errV ad 9) rfl (fun _ => by kernel_rfl) ?_
                refine sq_call #[errV ad 9, .int .i64 9] [18] rfl (codedY_spec (B := B) ad 9 9 (by omega) rfl) (fun _ => by kernel_rfl) h ?_; rintro v_ L_ w ⟨rfl, rfl⟩ h
                refine lnil ?_
                refine thn_n ?_
                refine c_true (by kernel_rfl) ?_
                refine c_exit ?_
                refine thn_e (blk_e (thn_n ?_))
                refine c_reg ?_
                refine sq_p (.int .i64 ((i2 : Nat) : Int)) rfl (fun _ => by kernel_rfl) ?_
                refine sq_q rfl h (g_eq (v := .int .i64 (IntKind.i64.wrap (((i2 : Nat) : Int) + 1))) (v' := .int .i64 ((i2 + 1 : Nat) : Int)) (g_pure fun _ => by kernel_rfl) (wr (by omega))) ?_
                refine sq_p (.int .i64 ((i2 + 1 : Nat) : Int)) rfl (fun _ => by kernel_rfl) ?_
                refine lnil ?_
                have hQ97 : ((i2 + 1) ≤ more.length ∧ LG 20000 more (i2 + 1) ns2 dv2 c2 hh2 zz2 pk2) ∧ (more.length - (i2 + 1)) < (more.length - i2) := ⟨⟨by omega, hLG2⟩, by omega⟩
                refine loop_end (fun j => ⟨i2 + 1, nv2, ns2, dv2, Sv2, c2, hh2, zz2, pk2, j⟩) hQ97 (by kernel_rfl) [6, 6, 2, 5, 2, 4, 1, 3, 3, 3, 1, 2, 2, 2, 2, 2, 2, 0, 1] (by kernel_rfl) h
              · skip
                have hLG2 := hLG.done hyr hdn96
                refine sq_p (.nilIface) rfl (fun _ => by kernel_rfl) ?_
                refine lnil ?_
                refine thn_n ?_
                refine c_seq ?_
                refine c_seq ?_
                refine c_reg ?_
                refine sq_p (.nilIface) rfl (fun _ => by kernel_rfl) ?_
                refine sq_call #[.nilIface, .int .i64 9] [18] rfl (codedNil_spec (B := B) ad 9 (by omega)) (fun _ => by kernel_rfl) h ?_; rintro v_ L_ w ⟨rfl, rfl⟩ h
                refine lnil ?_
                refine thn_n ?_
                refine c_false (by kernel_rfl) ?_
                refine c_skip ?_
                refine thn_n ?_
                refine c_seq ?_
                refine c_seq ?_
                refine c_reg ?_
                refine sq_p (.nilIface) rfl (fun _ => by kernel_rfl) ?_
                refine sq_p (.bool false) rfl (fun _ => by kernel_rfl) ?_
                refine lnil ?_
                refine thn_n ?_
                refine c_false (by kernel_rfl) ?_
                refine c_skip ?_
                refine thn_n ?_
                refine c_reg ?_
                refine sq_p (nv2) rfl (fun _ => by kernel_rfl) ?_
                refine sq_p (mv) rfl (fun _ => by kernel_rfl) ?_
                refine sq_p (.int .i64 ((i2 : Nat) : Int)) rfl (fun _ => by kernel_rfl) ?_
                refine sq_q rfl h (g_idxA 47 i2 (by kernel_rfl) hiy 14 rfl) ?_
                refine sq_q rfl h (g_ldr (b := blkN mv) (offN mv + i2 * 2) [.bool yr.1, slV yr.2.1] (.agg #[.bool yr.1, slV yr.2.1]) (by kernel_rfl) 14 rfl (rdArg0 hyr (by kernel_rfl))) ?_
                refine sq_call #[nv2, .agg #[.bool yr.1, slV yr.2.1]] [6, 5] rfl (next_spec (slV yr.2.1) (recL yr) yr.1 nv2 ns2 hnsl hrsl) (fun _ => by kernel_rfl) h ?_; rintro tv98 L_ w ⟨_, rfl, rfl⟩ h
                have h := (h.pick [2, 0, 0, 0, 0, 0, 0, 0, 0, 0, 0, 0, 0, 0, 0, 0, 0, 0, 0, 0, 0]).toArg
                refine sq_p (tv98) rfl (fun _ => by kernel_rfl) ?_
                refine lnil ?_
                refine blk_n (thn_n ?_)
                refine c_reg ?_
                refine sq_p (.int .i64 ((i2 : Nat) : Int)) rfl (fun _ => by kernel_rfl) ?_
                refine sq_q rfl h (g_eq (v := .int .i64 (IntKind.i64.wrap (((i2 : Nat) : Int) + 1))) (v' := .int .i64 ((i2 + 1 : Nat) : Int)) (g_pure fun _ => by kernel_rfl) (wr (by omega))) ?_
                refine sq_p (.int .i64 ((i2 + 1 : Nat) : Int)) rfl (fun _ => by kernel_rfl) ?_
                refine lnil ?_
                have hQ99 : ((i2 + 1) ≤ more.length ∧ LG 20000 more (i2 + 1) ((if yr.1 then [] else ns2) ++ recL yr) dd90 cx92 hw93 zx94 pkx95) ∧ (more.length - (i2 + 1)) < (more.length - i2) := ⟨⟨by omega, hLG2⟩, by omega⟩
                refine loop_end (fun j => ⟨i2 + 1, tv98, ((if yr.1 then [] else ns2) ++ recL yr), dd90, Sx91, cx92, hw93, zx94, pkx95, j⟩) hQ99 (by kernel_rfl) [0, 7, 4, 6, 4, 5, 3, 4, 4, 4, 3, 3, 3, 3, 3, 3, 3, 2, 2] (by kernel_rfl) h
            · skip
              have hc89 := of_decide_eq_false hc89
              refine c_exit ?_
              refine thn_e (rnd_e (blk_e (thn_n ?_)))
              refine c_seq ?_
              refine c_reg ?_
              refine sq_p (.pointer (some ⟨db22, 0, none⟩)) rfl (fun _ => by kernel_rfl) ?_
              have h := h.nilRows 4 1 flagC
              refine sq_call #[.pointer (some ⟨db22, 0, none⟩), .slice none 0 0] [3, 0] rfl (crash0_spec (B := B) (b := db22) dv2 Sv2 (.slice none 0 0) [] hLG.quiet (by have := hLG.len; omega)) (fun _ => by kernel_rfl) h ?_; rintro v_ L_ w ⟨dd100, Sx101, hcn, hcl2, hcq, rfl, rfl⟩ h
              refine lnil ?_
              refine thn_n ?_
              refine c_seq ?_
              refine c_reg ?_
              refine sq_p (.pointer (some ⟨db22, 0, none⟩)) rfl (fun _ => by kernel_rfl) ?_
              refine sq_call #[.pointer (some ⟨db22, 0, none⟩)] [0, 3, 3, 3] rfl (openL_spec (B := B) ad a1 a2 db22 dd100 Sx101 _ _ _ _ (show Valid dd100.now.length dd100.now c2 hh2 zz2 pk2 by rw [hcn]; exact hLG.valid)) (fun _ => by kernel_rfl) h ?_; rintro v_ L_ w ⟨lb102, gv103, grs104, hgr105, rfl, rfl⟩ h
              have he_grs104 := texts_inj (hgr105.trans hLG.flat)
              refine sq_p (.tuple #[.pointer (some ⟨lb102, 0, none⟩), gv103, .nilIface]) rfl (fun _ => by kernel_rfl) ?_
              refine sq_p (.pointer (some ⟨lb102, 0, none⟩)) rfl (fun _ => by kernel_rfl) ?_
              refine sq_p (gv103) rfl (fun _ => by kernel_rfl) ?_
              refine sq_p (.nilIface) rfl (fun _ => by kernel_rfl) ?_
              refine sq_p (gv103) rfl (fun _ => by kernel_rfl) ?_
              refine sq_p (.nilIface) rfl (fun _ => by kernel_rfl) ?_
              refine lnil ?_
              refine thn_n ?_
              refine c_seq ?_
              refine c_reg ?_
              refine sq_p (.nilIface) rfl (fun _ => by kernel_rfl) ?_
              refine sq_p (.bool true) rfl (fun _ => by kernel_rfl) ?_
              refine sq_p (.bool true) rfl (fun _ => by kernel_rfl) ?_
              refine sq_p (gv103) (by kernel_rfl) (fun _ => by kernel_rfl) ?_
              refine sq_p (nv2) (by kernel_rfl) (fun _ => by kernel_rfl) ?_
              refine sq_call #[gv103, nv2] [5, 6] (by kernel_rfl) (sameT_spec gv103 nv2 grs104 ns2 (by rw [he_grs104]; omega) he_grs104) (fun _ => by kernel_rfl) h ?_; rintro v_ L_ w ⟨rfl, rfl⟩ h
              refine sq_p (.bool true) rfl (fun _ => by kernel_rfl) ?_
              refine sq_p (.bool true) rfl (fun _ => by kernel_rfl) ?_
              refine lnil ?_
              refine thn_n ?_
              refine c_ret ?_
              refine ret_end [.bool true] [] h (by kernel_rfl) (res_t (by kernel_rfl) res_n) ?_
              exact ⟨rfl, rfl⟩
          · skip
            refine lnil ?_
            refine thn_n ?_
            refine c_seq ?_
            refine c_reg ?_
            refine sq_p (.pointer (some ⟨db22, 0, none⟩)) rfl (fun _ => by kernel_rfl) ?_
            refine sq_call #[.pointer (some ⟨db22, 0, none⟩)] [0, 12, 4, 11] rfl (openL_spec (B := B) ad a1 a2 db22 dd79 Sx80 _ _ _ _ hLG.valid) (fun _ => by kernel_rfl) h ?_; rintro v_ L_ w ⟨lb106, gv107, grs108, hgr109, rfl, rfl⟩ h
            have he_grs108 := texts_inj (hgr109.trans hLG.flat)
            refine sq_p (.tuple #[.pointer (some ⟨lb106, 0, none⟩), gv107, .nilIface]) rfl (fun _ => by kernel_rfl) ?_
            refine sq_p (.pointer (some ⟨lb106, 0, none⟩)) rfl (fun _ => by kernel_rfl) ?_
            refine sq_p (gv107) rfl (fun _ => by kernel_rfl) ?_
            refine sq_p (.nilIface) rfl (fun _ => by kernel_rfl) ?_
            refine sq_p (.pointer (some ⟨lb106, 0, none⟩)) rfl (fun _ => by kernel_rfl) ?_
            refine sq_p (gv107) rfl (fun _ => by kernel_rfl) ?_
            refine sq_p (.nilIface) rfl (fun _ => by kernel_rfl) ?_
            refine lnil ?_
            refine thn_n ?_
            refine c_seq ?_
            refine c_seq ?_
            refine c_reg ?_
            refine sq_p (.nilIface) rfl (fun _ => by kernel_rfl) ?_
            refine sq_p (.bool false) rfl (fun _ => by kernel_rfl) ?_
            refine sq_p (.bool false) rfl (fun _ => by kernel_rfl) ?_
            refine sq_p (.pointer (some ⟨lb106, 0, none⟩)) (by kernel_rfl) (fun _ => by kernel_rfl) ?_
            refine sq_p (.bool false) (by kernel_rfl) (fun _ => by kernel_rfl) ?_
            refine sq_p (.bool false) rfl (fun _ => by kernel_rfl) ?_
            refine lnil ?_
            refine thn_n ?_
            refine c_false (by kernel_rfl) ?_
            refine c_skip ?_
            refine thn_n ?_
            refine c_seq ?_
            refine c_seq ?_
            refine c_reg ?_
            refine sq_p (gv107) rfl (fun _ => by kernel_rfl) ?_
            refine sq_p (nv) rfl (fun _ => by kernel_rfl) ?_
            refine sq_call #[gv107, nv] [5, 6] rfl (same_spec gv107 nv grs108 ns (by rw [he_grs108]; omega)) (fun _ => by kernel_rfl) h ?_; rintro v_ L_ w ⟨rfl, rfl⟩ h
            obtain ⟨b110, hb110⟩ : ∃ b_ : Bool, b_ = (!(decide (grs108 = ns))) := ⟨_, rfl⟩
            refine sq_q (v := .bool b110) rfl h (by subst hb110; exact g_pure (v := .bool (!(decide (grs108 = ns)))) fun _ => by kernel_rfl) ?_
            refine sq_p (.bool b110) rfl (fun _ => by kernel_rfl) ?_
            refine sq_m1 (v := .bool true) b110 (by cases b110 <;> kernel_rfl) h (fun hB => by subst hB; exact g_pure (v := .bool true) fun _ => by kernel_rfl) ?_
            refine sq_m1 (v := .bool false) b110 (by cases b110 <;> kernel_rfl) h (fun hB => by subst hB; exact g_pure (v := .bool false) fun _ => by kernel_rfl) ?_
            refine sq_m1 (v := .bool false) b110 (by cases b110 <;> kernel_rfl) h (fun hB => by subst hB; exact g_pure (v := .bool false) fun _ => by kernel_rfl) ?_
            refine sq_m1 (v := gv107) b110 (by cases b110 <;> kernel_rfl) h (fun hB => by subst hB; exact g_pure (v := gv107) fun _ => by kernel_rfl) ?_
            refine sq_m1 (v := mv_) b110 (by cases b110 <;> kernel_rfl) h (fun hB => by subst hB; exact g_pure (v := mv_) fun _ => by kernel_rfl) ?_
            rcases Bool.eq_false_or_eq_true b110 with hc111 | hc111
            · skip
              subst hc111
              have q112 := hb110.symm
              have q113 : (decide (grs108 = ns)) = false := by simpa using q112
              have q113 := of_decide_eq_false q113
              refine sq_call #[gv107, mv_] [0, 7] (by kernel_rfl) (sameT_spec gv107 mv_ grs108 ms (by rw [he_grs108]; omega) he_grs108) (fun _ => by kernel_rfl) h ?_; rintro v_ L_ w ⟨rfl, rfl⟩ h
              refine sq_p (.bool false) (by kernel_rfl) (fun _ => by kernel_rfl) ?_
              refine sq_p (.bool false) (by kernel_rfl) (fun _ => by kernel_rfl) ?_
              refine sq_p (.bool false) rfl (fun _ => by kernel_rfl) ?_
              refine lnil ?_
              refine thn_n ?_
              refine c_false (by kernel_rfl) ?_
              refine c_skip ?_
              refine thn_n ?_
              refine c_seq ?_
              refine c_reg ?_
              refine sq_p (gv107) rfl (fun _ => by kernel_rfl) ?_
              refine sq_p (gv107) rfl (fun _ => by kernel_rfl) ?_
              refine lnil ?_
              refine thn_n ?_
              refine c_seq ?_
              refine c_seq ?_
              refine c_reg ?_
              refine sq_p (.int .i64 0) rfl (fun _ => by kernel_rfl) ?_
              refine lnil ?_
              refine thn_n ?_
              refine c_block ?_
              refine c_loop (X := Nat × Value × List ByteArray × PDisk × (Nat → Prop) × Nat × Nat × Nat × (List (List Tx)) × (Nat → Value)) (fun ⟨i2, nv2, ns2, dv2, Sv2, c2, hh2, zz2, pk2, J3⟩ => ⟨#[lv, .int .i64 after, kv, mv, undef, undef, undef, undef, J3 8, .bool true, .pointer (some ⟨db22, 0, none⟩), .nilIface, .pointer (some ⟨lb24, 0, none⟩), nv2, mv_, .bool true, .int .i64 ((ii : Nat) : Int), J0 17, J0 18, .slice none 0 0, .pointer (some ⟨lb106, 0, none⟩), gv107, .int .i64 ((i2 : Nat) : Int), J3 23, .bool true, .bool true, .bool false, .bool false, lv, .bool (decide (500 < wordN l)), .bool false, .bool false, mv, .bool (decide (500 < wordN more)), .bool b5, .bool b5, (if b5 = false then .int .i64 after else undef), (if b5 = false then .bool b6 else undef), .bool b7, .bool b7, (if b7 = false then kv else undef), (if b7 = false then .int .i64 (keep.length : Int) else undef), (if b7 = false then .bool b8 else undef), .bool b9, undef, .tuple #[.pointer (some ⟨db22, 0, none⟩), .nilIface], .tuple #[.pointer (some ⟨db22, 0, none⟩), .nilIface], .pointer (some ⟨db22, 0, none⟩), .nilIface, .nilIface, .bool false, .bool false, .pointer (some ⟨db22, 0, none⟩), .bool false, .bool false, .tuple #[.pointer (some ⟨lb24, 0, none⟩), .nilIface], .pointer (some ⟨db22, 0, none⟩), .tuple #[.pointer (some ⟨lb24, 0, none⟩), .nilIface], .pointer (some ⟨lb24, 0, none⟩), .nilIface, .nilIface, .bool false, .bool false, .pointer (some ⟨lb24, 0, none⟩), .bool false, .bool false, .bool false, .pointer (some ⟨db22, 0, none⟩), .pointer (some ⟨db22, 0, none⟩), .pointer (some ⟨db22, 0, none⟩), .int .i64 after, .nilIface, .bool false, .bool false, .int .i64 ((ii : Nat) : Int), lv, .int .i64 (l.length : Int), .bool (decide (((ii : Nat) : Int) < (l.length : Int))), J0 78, J0 79, J0 80, J0 81, J0 82, J0 83, J0 84, J0 85, J0 86, J0 87, J0 88, J0 89, J0 90, J0 91, J0 92, J0 93, J0 94, J0 95, J0 96, J0 97, J0 98, J0 99, J0 100, J0 101, J0 102, J0 103, .pointer (some ⟨db22, 0, none⟩), .slice none 0 0, kv, v78, .tuple #[], .tuple #[.pointer (some ⟨lb106, 0, none⟩), gv107, .nilIface], .pointer (some ⟨db22, 0, none⟩), .tuple #[.pointer (some ⟨lb106, 0, none⟩), gv107, .nilIface], .pointer (some ⟨lb106, 0, none⟩), gv107, .nilIface, .nilIface, .bool false, .bool false, .pointer (some ⟨lb106, 0, none⟩), .bool false, .bool false, gv107, nv, .bool (decide (grs108 = ns)), .bool true, .bool true, .bool true, .bool false, .bool false, gv107, mv_, .bool true, .bool false, .bool false, .bool false, gv107, J3 136, J3 137, J3 138, J3 139, J3 140, J3 141, J3 142, J3 143, J3 144, J3 145, J3 146, J3 147, J3 148, J3 149, J3 150, J3 151, J3 152, J3 153, J3 154, J3 155, J3 156, J3 157, undef, undef, undef, undef, undef, undef, undef, undef, undef, undef, undef, undef, undef, undef, undef], []⟩)
                (fun ⟨i2, nv2, ns2, dv2, Sv2, c2, hh2, zz2, pk2, J3⟩ => [rArg nv2 1 strC ns2, rArg mv_ 1 strC ms, rArg nv 1 strC ns, rDisk B db22 dv2 Sv2, rNumE a1 a2, rTab, rEnv B ad [1, 2], rCell true lb106 [.pointer (some ⟨db22, 0, none⟩), .int .i64 (c2 : Int), .int .i64 (hh2 : Int), .int .i64 (zz2 : Int), .bool false] 70, rRows true v78 4 1 flagC ([] ++ keep), rEnv B ad [2], rEnv B ad [2, 3, 9, 15], rCell true lb24 [.pointer (some ⟨db22, 0, none⟩), .int .i64 (c : Int), .int .i64 (hh : Int), .int .i64 (zz : Int), .bool true] 70, rArg mv 2 recC more, rSub recR more, rArg lv 2 recC l, rSub recR l, rEnv B ad [1, 2, 3, 9, 15], rEnvA B ad, rArg kv 1 flagC keep]) (fun ⟨i2, nv2, ns2, dv2, Sv2, c2, hh2, zz2, pk2, J3⟩ => i2 ≤ more.length ∧ LG 20000 more i2 ns2 dv2 c2 hh2 zz2 pk2) (fun ⟨i2, nv2, ns2, dv2, Sv2, c2, hh2, zz2, pk2, J3⟩ => more.length - i2)
                ⟨0, gv107, grs108, dd79, Sx80, cx81, hw82, zx83, pkx84, (fun n => (#[lv, .int .i64 after, kv, mv, undef, undef, undef, undef, J0 8, .bool true, .pointer (some ⟨db22, 0, none⟩), .nilIface, .pointer (some ⟨lb24, 0, none⟩), gv107, mv_, .bool true, .int .i64 ((ii : Nat) : Int), J0 17, J0 18, .slice none 0 0, .pointer (some ⟨lb106, 0, none⟩), gv107, .int .i64 0, undef, .bool true, .bool true, .bool false, .bool false, lv, .bool (decide (500 < wordN l)), .bool false, .bool false, mv, .bool (decide (500 < wordN more)), .bool b5, .bool b5, (if b5 = false then .int .i64 after else undef), (if b5 = false then .bool b6 else undef), .bool b7, .bool b7, (if b7 = false then kv else undef), (if b7 = false then .int .i64 (keep.length : Int) else undef), (if b7 = false then .bool b8 else undef), .bool b9, undef, .tuple #[.pointer (some ⟨db22, 0, none⟩), .nilIface], .tuple #[.pointer (some ⟨db22, 0, none⟩), .nilIface], .pointer (some ⟨db22, 0, none⟩), .nilIface, .nilIface, .bool false, .bool false, .pointer (some ⟨db22, 0, none⟩), .bool false, .bool false, .tuple #[.pointer (some ⟨lb24, 0, none⟩), .nilIface], .pointer (some ⟨db22, 0, none⟩), .tuple #[.pointer (some ⟨lb24, 0, none⟩), .nilIface], .pointer (some ⟨lb24, 0, none⟩), .nilIface, .nilIface, .bool false, .bool false, .pointer (some ⟨lb24, 0, none⟩), .bool false, .bool false, .bool false, .pointer (some ⟨db22, 0, none⟩), .pointer (some ⟨db22, 0, none⟩), .pointer (some ⟨db22, 0, none⟩), .int .i64 after, .nilIface, .bool false, .bool false, .int .i64 ((ii : Nat) : Int), lv, .int .i64 (l.length : Int), .bool (decide (((ii : Nat) : Int) < (l.length : Int))), J0 78, J0 79, J0 80, J0 81, J0 82, J0 83, J0 84, J0 85, J0 86, J0 87, J0 88, J0 89, J0 90, J0 91, J0 92, J0 93, J0 94, J0 95, J0 96, J0 97, J0 98, J0 99, J0 100, J0 101, J0 102, J0 103, .pointer (some ⟨db22, 0, none⟩), .slice none 0 0, kv, v78, .tuple #[], .tuple #[.pointer (some ⟨lb106, 0, none⟩), gv107, .nilIface], .pointer (some ⟨db22, 0, none⟩), .tuple #[.pointer (some ⟨lb106, 0, none⟩), gv107, .nilIface], .pointer (some ⟨lb106, 0, none⟩), gv107, .nilIface, .nilIface, .bool false, .bool false, .pointer (some ⟨lb106, 0, none⟩), .bool false, .bool false, gv107, nv, .bool (decide (grs108 = ns)), .bool true, .bool true, .bool true, .bool false, .bool false, gv107, mv_, .bool true, .bool false, .bool false, .bool false, gv107, undef, undef, undef, undef, undef, undef, undef, undef, undef, undef, undef, undef, undef, undef, undef, undef, undef, undef, undef, undef, undef, undef, undef, undef, undef, undef, undef, undef, undef, undef, undef, undef, undef, undef, undef, undef, undef] : Array Value).getD n undef)⟩ ⟨Nat.zero_le _, by rw [he_grs108]; exact hLG⟩ (by kernel_rfl) [0, 0, 0, 0, 0, 0, 0, 0, 0, 0, 0, 0, 0, 0, 0, 0, 0, 0, 0] (by kernel_rfl) h ?_
              rintro ⟨i2, nv2, ns2, dv2, Sv2, c2, hh2, zz2, pk2, J3⟩ w hG h
              clear hLG
              obtain ⟨hil2, hLG⟩ : i2 ≤ more.length ∧ LG 20000 more i2 ns2 dv2 c2 hh2 zz2 pk2 := hG
              have hwt3 := hLG.wt
              have hwt4 := wtL_take more i2
              have hns2 : ns2.length < 1000000 := by have := wt_cnt ns2; omega
              have hnsl := hns2
              have hcle2 := hLG.cle
              refine c_seq ?_
              refine c_seq ?_
              refine c_reg ?_
              refine sq_p (.int .i64 ((i2 : Nat) : Int)) rfl (fun _ => by kernel_rfl) ?_
              refine sq_p (mv) rfl (fun _ => by kernel_rfl) ?_
              refine sq_q rfl h (g_lenA 47 (by kernel_rfl) 12 rfl) ?_
              refine sq_p (.bool (decide (((i2 : Nat) : Int) < (more.length : Int)))) rfl (fun _ => by kernel_rfl) ?_
              refine lnil ?_
              refine thn_n ?_
              refine c_cond (decide (((i2 : Nat) : Int) < (more.length : Int))) (by kernel_rfl) (fun hc114 => ?_) (fun hc114 => ?_)
              · skip
                have hc114 := of_decide_eq_true hc114
                have hiy : i2 < more.length := by omega
                obtain ⟨yr, hyr⟩ : ∃ x_, more[i2]? = some x_ := ⟨_, List.getElem?_eq_getElem hiy⟩
                have h := h.inner 13 rfl hyr rfl
                have hrn := wtL_next hyr
                have hrt := wtL_take more (i2 + 1)
                have hrsl : (recL yr).length < 1000000 := by have := wt_cnt (recL yr); omega
                have hbr : (packT ((recL yr).map tx)).length ≤ 90000000 := by have := packT_wt (rs := recL yr) (by omega); omega
                have hcl : c2 + 1 < ten10 := by unfold ten10; omega
                refine c_skip ?_
                refine thn_n ?_
                refine c_seq ?_
                refine c_block ?_
                refine c_seq ?_
                refine c_reg ?_
                refine sq_p (.pointer (some ⟨lb106, 0, none⟩)) rfl (fun _ => by kernel_rfl) ?_
                refine sq_p (mv) rfl (fun _ => by kernel_rfl) ?_
                refine sq_p (.int .i64 ((i2 : Nat) : Int)) rfl (fun _ => by kernel_rfl) ?_
                refine sq_q rfl h (g_idxA 47 i2 (by kernel_rfl) hiy 13 rfl) ?_
                refine sq_q rfl h (g_ldr (b := blkN mv) (offN mv + i2 * 2) [.bool yr.1, slV yr.2.1] (.agg #[.bool yr.1, slV yr.2.1]) (by kernel_rfl) 13 rfl (rdArg0 hyr (by kernel_rfl))) ?_
                refine sq_call #[.pointer (some ⟨lb106, 0, none⟩), .agg #[.bool yr.1, slV yr.2.1]] [8, 4, 5, 8, 0] rfl (actN_spec (B := B) ad lb106 db22 dv2 Sv2 c2 hh2 zz2 pk2 (slV yr.2.1) (recL yr) yr.1 hbr hrsl hLG.valid hLG.quiet hLG.left hcl) (fun _ => by kernel_rfl) h ?_; rintro v_ L_ w (⟨hdn121, rfl, rfl⟩ | ⟨dd115, Sx116, cx117, hw118, zx119, pkx120, hdn121, rfl, rfl⟩) h
                · skip
                  have hLG2 := hLG.stay hyr
                  refine sq_p (errV ad 9) rfl (fun _ => by kernel_rfl) ?_
                  refine lnil ?_
                  refine thn_n ?_
                  refine c_seq ?_
                  refine c_seq ?_
                  refine c_reg ?_
                  refine sq_p (errV ad 9) rfl (fun _ => by kernel_rfl) ?_
                  refine sq_call #[errV ad 9, .int .i64 9] [18] rfl (codedY_spec (B := B) ad 9 9 (by omega) rfl) (fun _ => by kernel_rfl) h ?_; rintro v_ L_ w ⟨rfl, rfl⟩ h
                  refine lnil ?_
                  refine thn_n ?_
                  refine c_true (by kernel_rfl) ?_
                  refine c_exit ?_
                  refine thn_e (blk_e (thn_n ?_))
                  refine c_reg ?_
                  refine sq_p (.int .i64 ((i2 : Nat) : Int)) rfl (fun _ => by kernel_rfl) ?_
                  refine sq_q rfl h (g_eq (v := .int .i64 (IntKind.i64.wrap (((i2 : Nat) : Int) + 1))) (v' := .int .i64 ((i2 + 1 : Nat) : Int)) (g_pure fun _ => by kernel_rfl) (wr (by omega))) ?_
                  refine sq_p (.int .i64 ((i2 + 1 : Nat) : Int)) rfl (fun _ => by kernel_rfl) ?_
                  refine lnil ?_
                  have hQ122 : ((i2 + 1) ≤ more.length ∧ LG 20000 more (i2 + 1) ns2 dv2 c2 hh2 zz2 pk2) ∧ (more.length - (i2 + 1)) < (more.length - i2) := ⟨⟨by omega, hLG2⟩, by omega⟩
                  refine loop_end (fun j => ⟨i2 + 1, nv2, ns2, dv2, Sv2, c2, hh2, zz2, pk2, j⟩) hQ122 (by kernel_rfl) [6, 6, 6, 2, 5, 2, 4, 1, 3, 3, 1, 2, 2, 2, 2, 2, 2, 0, 1] (by kernel_rfl) h
                · skip
                  have hLG2 := hLG.done hyr hdn121
                  refine sq_p (.nilIface) rfl (fun _ => by kernel_rfl) ?_
                  refine lnil ?_
                  refine thn_n ?_
                  refine c_seq ?_
                  refine c_seq ?_
                  refine c_reg ?_
                  refine sq_p (.nilIface) rfl (fun _ => by kernel_rfl) ?_
                  refine sq_call #[.nilIface, .int .i64 9] [18] rfl (codedNil_spec (B := B) ad 9 (by omega)) (fun _ => by kernel_rfl) h ?_; rintro v_ L_ w ⟨rfl, rfl⟩ h
                  refine lnil ?_
                  refine thn_n ?_
                  refine c_false (by kernel_rfl) ?_
                  refine c_skip ?_
                  refine thn_n ?_
                  refine c_seq ?_
                  refine c_seq ?_
                  refine c_reg ?_
                  refine sq_p (.nilIface) rfl (fun _ => by kernel_rfl) ?_
                  refine sq_p (.bool false) rfl (fun _ => by kernel_rfl) ?_
                  refine lnil ?_
                  refine thn_n ?_
                  refine c_false (by kernel_rfl) ?_
                  refine c_skip ?_
                  refine thn_n ?_
                  refine c_reg ?_
                  refine sq_p (nv2) rfl (fun _ => by kernel_rfl) ?_
                  refine sq_p (mv) rfl (fun _ => by kernel_rfl) ?_
                  refine sq_p (.int .i64 ((i2 : Nat) : Int)) rfl (fun _ => by kernel_rfl) ?_
                  refine sq_q rfl h (g_idxA 47 i2 (by kernel_rfl) hiy 14 rfl) ?_
                  refine sq_q rfl h (g_ldr (b := blkN mv) (offN mv + i2 * 2) [.bool yr.1, slV yr.2.1] (.agg #[.bool yr.1, slV yr.2.1]) (by kernel_rfl) 14 rfl (rdArg0 hyr (by kernel_rfl))) ?_
                  refine sq_call #[nv2, .agg #[.bool yr.1, slV yr.2.1]] [6, 5] rfl (next_spec (slV yr.2.1) (recL yr) yr.1 nv2 ns2 hnsl hrsl) (fun _ => by kernel_rfl) h ?_; rintro tv123 L_ w ⟨_, rfl, rfl⟩ h
                  have h := (h.pick [2, 0, 0, 0, 0, 0, 0, 0, 0, 0, 0, 0, 0, 0, 0, 0, 0, 0, 0, 0, 0]).toArg
                  refine sq_p (tv123) rfl (fun _ => by kernel_rfl) ?_
                  refine lnil ?_
                  refine blk_n (thn_n ?_)
                  refine c_reg ?_
                  refine sq_p (.int .i64 ((i2 : Nat) : Int)) rfl (fun _ => by kernel_rfl) ?_
                  refine sq_q rfl h (g_eq (v := .int .i64 (IntKind.i64.wrap (((i2 : Nat) : Int) + 1))) (v' := .int .i64 ((i2 + 1 : Nat) : Int)) (g_pure fun _ => by kernel_rfl) (wr (by omega))) ?_
                  refine sq_p (.int .i64 ((i2 + 1 : Nat) : Int)) rfl (fun _ => by kernel_rfl) ?_
                  refine lnil ?_
                  have hQ124 : ((i2 + 1) ≤ more.length ∧ LG 20000 more (i2 + 1) ((if yr.1 then [] else ns2) ++ recL yr) dd115 cx117 hw118 zx119 pkx120) ∧ (more.length - (i2 + 1)) < (more.length - i2) := ⟨⟨by omega, hLG2⟩, by omega⟩
                  refine loop_end (fun j => ⟨i2 + 1, tv123, ((if yr.1 then [] else ns2) ++ recL yr), dd115, Sx116, cx117, hw118, zx119, pkx120, j⟩) hQ124 (by kernel_rfl) [0, 7, 7, 4, 6, 4, 5, 3, 4, 4, 3, 3, 3, 3, 3, 3, 3, 2, 2] (by kernel_rfl) h
              · skip
                have hc114 := of_decide_eq_false hc114
                refine c_exit ?_
                refine thn_e (rnd_e (blk_e (thn_n ?_)))
                refine c_seq ?_
                refine c_reg ?_
                refine sq_p (.pointer (some ⟨db22, 0, none⟩)) rfl (fun _ => by kernel_rfl) ?_
                have h := h.nilRows 4 1 flagC
                refine sq_call #[.pointer (some ⟨db22, 0, none⟩), .slice none 0 0] [4, 0] rfl (crash0_spec (B := B) (b := db22) dv2 Sv2 (.slice none 0 0) [] hLG.quiet (by have := hLG.len; omega)) (fun _ => by kernel_rfl) h ?_; rintro v_ L_ w ⟨dd125, Sx126, hcn, hcl2, hcq, rfl, rfl⟩ h
                refine lnil ?_
                refine thn_n ?_
                refine c_seq ?_
                refine c_reg ?_
                refine sq_p (.pointer (some ⟨db22, 0, none⟩)) rfl (fun _ => by kernel_rfl) ?_
                refine sq_call #[.pointer (some ⟨db22, 0, none⟩)] [0, 4, 4, 4] rfl (openL_spec (B := B) ad a1 a2 db22 dd125 Sx126 _ _ _ _ (show Valid dd125.now.length dd125.now c2 hh2 zz2 pk2 by rw [hcn]; exact hLG.valid)) (fun _ => by kernel_rfl) h ?_; rintro v_ L_ w ⟨lb127, gv128, grs129, hgr130, rfl, rfl⟩ h
                have he_grs129 := texts_inj (hgr130.trans hLG.flat)
                refine sq_p (.tuple #[.pointer (some ⟨lb127, 0, none⟩), gv128, .nilIface]) rfl (fun _ => by kernel_rfl) ?_
                refine sq_p (.pointer (some ⟨lb127, 0, none⟩)) rfl (fun _ => by kernel_rfl) ?_
                refine sq_p (gv128) rfl (fun _ => by kernel_rfl) ?_
                refine sq_p (.nilIface) rfl (fun _ => by kernel_rfl) ?_
                refine sq_p (gv128) rfl (fun _ => by kernel_rfl) ?_
                refine sq_p (.nilIface) rfl (fun _ => by kernel_rfl) ?_
                refine lnil ?_
                refine thn_n ?_
                refine c_seq ?_
                refine c_reg ?_
                refine sq_p (.nilIface) rfl (fun _ => by kernel_rfl) ?_
                refine sq_p (.bool true) rfl (fun _ => by kernel_rfl) ?_
                refine sq_p (.bool true) rfl (fun _ => by kernel_rfl) ?_
                refine sq_p (gv128) (by kernel_rfl) (fun _ => by kernel_rfl) ?_
                refine sq_p (nv2) (by kernel_rfl) (fun _ => by kernel_rfl) ?_
                refine sq_call #[gv128, nv2] [5, 6] (by kernel_rfl) (sameT_spec gv128 nv2 grs129 ns2 (by rw [he_grs129]; omega) he_grs129) (fun _ => by kernel_rfl) h ?_; rintro v_ L_ w ⟨rfl, rfl⟩ h
                refine sq_p (.bool true) rfl (fun _ => by kernel_rfl) ?_
                refine sq_p (.bool true) rfl (fun _ => by kernel_rfl) ?_
                refine lnil ?_
                refine thn_n ?_
                refine c_ret ?_
                refine ret_end [.bool true] [] h (by kernel_rfl) (res_t (by kernel_rfl) res_n) ?_
                exact ⟨rfl, rfl⟩
            · skip
              subst hc111
              have q131 := hb110.symm
              have q132 : (decide (grs108 = ns)) = true := by simpa using q131
              have q132 := of_decide_eq_true q132
              refine sn (by kernel_rfl) ?_
              refine sn (by kernel_rfl) ?_
              refine sn (by kernel_rfl) ?_
              refine sq_p (.bool false) rfl (fun _ => by kernel_rfl) ?_
              refine lnil ?_
              refine thn_n ?_
              refine c_false (by kernel_rfl) ?_
              refine c_skip ?_
              refine thn_n ?_
              refine c_seq ?_
              refine c_reg ?_
              refine sq_p (gv107) rfl (fun _ => by kernel_rfl) ?_
              refine sq_p (gv107) rfl (fun _ => by kernel_rfl) ?_
              refine lnil ?_
              refine thn_n ?_
              refine c_seq ?_
              refine c_seq ?_
              refine c_reg ?_
              refine sq_p (.int .i64 0) rfl (fun _ => by kernel_rfl) ?_
              refine lnil ?_
              refine thn_n ?_
              refine c_block ?_
              refine c_loop (X := Nat × Value × List ByteArray × PDisk × (Nat → Prop) × Nat × Nat × Nat × (List (List Tx)) × (Nat → Value)) (fun ⟨i2, nv2, ns2, dv2, Sv2, c2, hh2, zz2, pk2, J4⟩ => ⟨#[lv, .int .i64 after, kv, mv, undef, undef, undef, undef, J4 8, .bool true, .pointer (some ⟨db22, 0, none⟩), .nilIface, .pointer (some ⟨lb24, 0, none⟩), nv2, mv_, .bool true, .int .i64 ((ii : Nat) : Int), J0 17, J0 18, .slice none 0 0, .pointer (some ⟨lb106, 0, none⟩), gv107, .int .i64 ((i2 : Nat) : Int), J4 23, .bool true, .bool true, .bool false, .bool false, lv, .bool (decide (500 < wordN l)), .bool false, .bool false, mv, .bool (decide (500 < wordN more)), .bool b5, .bool b5, (if b5 = false then .int .i64 after else undef), (if b5 = false then .bool b6 else undef), .bool b7, .bool b7, (if b7 = false then kv else undef), (if b7 = false then .int .i64 (keep.length : Int) else undef), (if b7 = false then .bool b8 else undef), .bool b9, undef, .tuple #[.pointer (some ⟨db22, 0, none⟩), .nilIface], .tuple #[.pointer (some ⟨db22, 0, none⟩), .nilIface], .pointer (some ⟨db22, 0, none⟩), .nilIface, .nilIface, .bool false, .bool false, .pointer (some ⟨db22, 0, none⟩), .bool false, .bool false, .tuple #[.pointer (some ⟨lb24, 0, none⟩), .nilIface], .pointer (some ⟨db22, 0, none⟩), .tuple #[.pointer (some ⟨lb24, 0, none⟩), .nilIface], .pointer (some ⟨lb24, 0, none⟩), .nilIface, .nilIface, .bool false, .bool false, .pointer (some ⟨lb24, 0, none⟩), .bool false, .bool false, .bool false, .pointer (some ⟨db22, 0, none⟩), .pointer (some ⟨db22, 0, none⟩), .pointer (some ⟨db22, 0, none⟩), .int .i64 after, .nilIface, .bool false, .bool false, .int .i64 ((ii : Nat) : Int), lv, .int .i64 (l.length : Int), .bool (decide (((ii : Nat) : Int) < (l.length : Int))), J0 78, J0 79, J0 80, J0 81, J0 82, J0 83, J0 84, J0 85, J0 86, J0 87, J0 88, J0 89, J0 90, J0 91, J0 92, J0 93, J0 94, J0 95, J0 96, J0 97, J0 98, J0 99, J0 100, J0 101, J0 102, J0 103, .pointer (some ⟨db22, 0, none⟩), .slice none 0 0, kv, v78, .tuple #[], .tuple #[.pointer (some ⟨lb106, 0, none⟩), gv107, .nilIface], .pointer (some ⟨db22, 0, none⟩), .tuple #[.pointer (some ⟨lb106, 0, none⟩), gv107, .nilIface], .pointer (some ⟨lb106, 0, none⟩), gv107, .nilIface, .nilIface, .bool false, .bool false, .pointer (some ⟨lb106, 0, none⟩), .bool false, .bool false, gv107, nv, .bool (decide (grs108 = ns)), .bool false, .bool false, undef, undef, undef, undef, undef, undef, undef, undef, .bool false, gv107, J4 136, J4 137, J4 138, J4 139, J4 140, J4 141, J4 142, J4 143, J4 144, J4 145, J4 146, J4 147, J4 148, J4 149, J4 150, J4 151, J4 152, J4 153, J4 154, J4 155, J4 156, J4 157, undef, undef, undef, undef, undef, undef, undef, undef, undef, undef, undef, undef, undef, undef, undef], []⟩)
                (fun ⟨i2, nv2, ns2, dv2, Sv2, c2, hh2, zz2, pk2, J4⟩ => [rArg nv2 1 strC ns2, rArg nv 1 strC ns, rDisk B db22 dv2 Sv2, rNumE a1 a2, rTab, rEnv B ad [1, 2], rCell true lb106 [.pointer (some ⟨db22, 0, none⟩), .int .i64 (c2 : Int), .int .i64 (hh2 : Int), .int .i64 (zz2 : Int), .bool false] 70, rRows true v78 4 1 flagC ([] ++ keep), rArg mv_ 1 strC ms, rEnv B ad [2], rEnv B ad [2, 3, 9, 15], rCell true lb24 [.pointer (some ⟨db22, 0, none⟩), .int .i64 (c : Int), .int .i64 (hh : Int), .int .i64 (zz : Int), .bool true] 70, rArg mv 2 recC more, rSub recR more, rArg lv 2 recC l, rSub recR l, rEnv B ad [1, 2, 3, 9, 15], rEnvA B ad, rArg kv 1 flagC keep]) (fun ⟨i2, nv2, ns2, dv2, Sv2, c2, hh2, zz2, pk2, J4⟩ => i2 ≤ more.length ∧ LG 20000 more i2 ns2 dv2 c2 hh2 zz2 pk2) (fun ⟨i2, nv2, ns2, dv2, Sv2, c2, hh2, zz2, pk2, J4⟩ => more.length - i2)
                ⟨0, gv107, grs108, dd79, Sx80, cx81, hw82, zx83, pkx84, (fun n => (#[lv, .int .i64 after, kv, mv, undef, undef, undef, undef, J0 8, .bool true, .pointer (some ⟨db22, 0, none⟩), .nilIface, .pointer (some ⟨lb24, 0, none⟩), gv107, mv_, .bool true, .int .i64 ((ii : Nat) : Int), J0 17, J0 18, .slice none 0 0, .pointer (some ⟨lb106, 0, none⟩), gv107, .int .i64 0, undef, .bool true, .bool true, .bool false, .bool false, lv, .bool (decide (500 < wordN l)), .bool false, .bool false, mv, .bool (decide (500 < wordN more)), .bool b5, .bool b5, (if b5 = false then .int .i64 after else undef), (if b5 = false then .bool b6 else undef), .bool b7, .bool b7, (if b7 = false then kv else undef), (if b7 = false then .int .i64 (keep.length : Int) else undef), (if b7 = false then .bool b8 else undef), .bool b9, undef, .tuple #[.pointer (some ⟨db22, 0, none⟩), .nilIface], .tuple #[.pointer (some ⟨db22, 0, none⟩), .nilIface], .pointer (some ⟨db22, 0, none⟩), .nilIface, .nilIface, .bool false, .bool false, .pointer (some ⟨db22, 0, none⟩), .bool false, .bool false, .tuple #[.pointer (some ⟨lb24, 0, none⟩), .nilIface], .pointer (some ⟨db22, 0, none⟩), .tuple #[.pointer (some ⟨lb24, 0, none⟩), .nilIface], .pointer (some ⟨lb24, 0, none⟩), .nilIface, .nilIface, .bool false, .bool false, .pointer (some ⟨lb24, 0, none⟩), .bool false, .bool false, .bool false, .pointer (some ⟨db22, 0, none⟩), .pointer (some ⟨db22, 0, none⟩), .pointer (some ⟨db22, 0, none⟩), .int .i64 after, .nilIface, .bool false, .bool false, .int .i64 ((ii : Nat) : Int), lv, .int .i64 (l.length : Int), .bool (decide (((ii : Nat) : Int) < (l.length : Int))), J0 78, J0 79, J0 80, J0 81, J0 82, J0 83, J0 84, J0 85, J0 86, J0 87, J0 88, J0 89, J0 90, J0 91, J0 92, J0 93, J0 94, J0 95, J0 96, J0 97, J0 98, J0 99, J0 100, J0 101, J0 102, J0 103, .pointer (some ⟨db22, 0, none⟩), .slice none 0 0, kv, v78, .tuple #[], .tuple #[.pointer (some ⟨lb106, 0, none⟩), gv107, .nilIface], .pointer (some ⟨db22, 0, none⟩), .tuple #[.pointer (some ⟨lb106, 0, none⟩), gv107, .nilIface], .pointer (some ⟨lb106, 0, none⟩), gv107, .nilIface, .nilIface, .bool false, .bool false, .pointer (some ⟨lb106, 0, none⟩), .bool false, .bool false, gv107, nv, .bool (decide (grs108 = ns)), .bool false, .bool false, undef, undef, undef, undef, undef, undef, undef, undef, .bool false, gv107, undef, undef, undef, undef, undef, undef, undef, undef, undef, undef, undef, undef, undef, undef, undef, undef, undef, undef, undef, undef, undef, undef, undef, undef, undef, undef, undef, undef, undef, undef, undef, undef, undef, undef, undef, undef, undef] : Array Value).getD n undef)⟩ ⟨Nat.zero_le _, by rw [he_grs108]; exact hLG⟩ (by kernel_rfl) [0, 0, 0, 0, 0, 0, 0, 0, 0, 0, 0, 0, 0, 0, 0, 0, 0, 0, 0] (by kernel_rfl) h ?_
              rintro ⟨i2, nv2, ns2, dv2, Sv2, c2, hh2, zz2, pk2, J4⟩ w hG h
              clear hLG
              obtain ⟨hil2, hLG⟩ : i2 ≤ more.length ∧ LG 20000 more i2 ns2 dv2 c2 hh2 zz2 pk2 := hG
              have hwt3 := hLG.wt
              have hwt4 := wtL_take more i2
              have hns2 : ns2.length < 1000000 := by have := wt_cnt ns2; omega
              have hnsl := hns2
              have hcle2 := hLG.cle
              refine c_seq ?_
              refine c_seq ?_
              refine c_reg ?_
              refine sq_p (.int .i64 ((i2 : Nat) : Int)) rfl (fun _ => by kernel_rfl) ?_
              refine sq_p (mv) rfl (fun _ => by kernel_rfl) ?_
              refine sq_q rfl h (g_lenA 47 (by kernel_rfl) 12 rfl) ?_
              refine sq_p (.bool (decide (((i2 : Nat) : Int) < (more.length : Int)))) rfl (fun _ => by kernel_rfl) ?_
              refine lnil ?_
              refine thn_n ?_
              refine c_cond (decide (((i2 : Nat) : Int) < (more.length : Int))) (by kernel_rfl) (fun hc133 => ?_) (fun hc133 => ?_)
              · skip
                have hc133 := of_decide_eq_true hc133
                have hiy : i2 < more.length := by omega
                obtain ⟨yr, hyr⟩ : ∃ x_, more[i2]? = some x_ := ⟨_, List.getElem?_eq_getElem hiy⟩
                have h := h.inner 13 rfl hyr rfl
                have hrn := wtL_next hyr
                have hrt := wtL_take more (i2 + 1)
                have hrsl : (recL yr).length < 1000000 := by have := wt_cnt (recL yr); omega
                have hbr : (packT ((recL yr).map tx)).length ≤ 90000000 := by have := packT_wt (rs := recL yr) (by omega); omega
                have hcl : c2 + 1 < ten10 := by unfold ten10; omega
                refine c_skip ?_
                refine thn_n ?_
                refine c_seq ?_
                refine c_block ?_
                refine c_seq ?_
                refine c_reg ?_
                refine sq_p (.pointer (some ⟨lb106, 0, none⟩)) rfl (fun _ => by kernel_rfl) ?_
                refine sq_p (mv) rfl (fun _ => by kernel_rfl) ?_
                refine sq_p (.int .i64 ((i2 : Nat) : Int)) rfl (fun _ => by kernel_rfl) ?_
                refine sq_q rfl h (g_idxA 47 i2 (by kernel_rfl) hiy 13 rfl) ?_
                refine sq_q rfl h (g_ldr (b := blkN mv) (offN mv + i2 * 2) [.bool yr.1, slV yr.2.1] (.agg #[.bool yr.1, slV yr.2.1]) (by kernel_rfl) 13 rfl (rdArg0 hyr (by kernel_rfl))) ?_
                refine sq_call #[.pointer (some ⟨lb106, 0, none⟩), .agg #[.bool yr.1, slV yr.2.1]] [7, 3, 4, 8, 0] rfl (actN_spec (B := B) ad lb106 db22 dv2 Sv2 c2 hh2 zz2 pk2 (slV yr.2.1) (recL yr) yr.1 hbr hrsl hLG.valid hLG.quiet hLG.left hcl) (fun _ => by kernel_rfl) h ?_; rintro v_ L_ w (⟨hdn140, rfl, rfl⟩ | ⟨dd134, Sx135, cx136, hw137, zx138, pkx139, hdn140, rfl, rfl⟩) h
                · skip
                  have hLG2 := hLG.stay hyr
                  refine sq_p (errV ad 9) rfl (fun _ => by kernel_rfl) ?_
                  refine lnil ?_
                  refine thn_n ?_
                  refine c_seq ?_
                  refine c_seq ?_
                  refine c_reg ?_
                  refine sq_p (errV ad 9) rfl (fun _ => by kernel_rfl) ?_
                  refine sq_call #[errV ad 9, .int .i64 9] [18] rfl (codedY_spec (B := B) ad 9 9 (by omega) rfl) (fun _ => by kernel_rfl) h ?_; rintro v_ L_ w ⟨rfl, rfl⟩ h
                  refine lnil ?_
                  refine thn_n ?_
                  refine c_true (by kernel_rfl) ?_
                  refine c_exit ?_
                  refine thn_e (blk_e (thn_n ?_))
                  refine c_reg ?_
                  refine sq_p (.int .i64 ((i2 : Nat) : Int)) rfl (fun _ => by kernel_rfl) ?_
                  refine sq_q rfl h (g_eq (v := .int .i64 (IntKind.i64.wrap (((i2 : Nat) : Int) + 1))) (v' := .int .i64 ((i2 + 1 : Nat) : Int)) (g_pure fun _ => by kernel_rfl) (wr (by omega))) ?_
                  refine sq_p (.int .i64 ((i2 + 1 : Nat) : Int)) rfl (fun _ => by kernel_rfl) ?_
                  refine lnil ?_
                  have hQ141 : ((i2 + 1) ≤ more.length ∧ LG 20000 more (i2 + 1) ns2 dv2 c2 hh2 zz2 pk2) ∧ (more.length - (i2 + 1)) < (more.length - i2) := ⟨⟨by omega, hLG2⟩, by omega⟩
                  refine loop_end (fun j => ⟨i2 + 1, nv2, ns2, dv2, Sv2, c2, hh2, zz2, pk2, j⟩) hQ141 (by kernel_rfl) [6, 6, 2, 5, 2, 4, 1, 3, 3, 3, 1, 2, 2, 2, 2, 2, 2, 0, 1] (by kernel_rfl) h
                · skip
                  have hLG2 := hLG.done hyr hdn140
                  refine sq_p (.nilIface) rfl (fun _ => by kernel_rfl) ?_
                  refine lnil ?_
                  refine thn_n ?_
                  refine c_seq ?_
                  refine c_seq ?_
                  refine c_reg ?_
                  refine sq_p (.nilIface) rfl (fun _ => by kernel_rfl) ?_
                  refine sq_call #[.nilIface, .int .i64 9] [18] rfl (codedNil_spec (B := B) ad 9 (by omega)) (fun _ => by kernel_rfl) h ?_; rintro v_ L_ w ⟨rfl, rfl⟩ h
                  refine lnil ?_
                  refine thn_n ?_
                  refine c_false (by kernel_rfl) ?_
                  refine c_skip ?_
                  refine thn_n ?_
                  refine c_seq ?_
                  refine c_seq ?_
                  refine c_reg ?_
                  refine sq_p (.nilIface) rfl (fun _ => by kernel_rfl) ?_
                  refine sq_p (.bool false) rfl (fun _ => by kernel_rfl) ?_
                  refine lnil ?_
                  refine thn_n ?_
                  refine c_false (by kernel_rfl) ?_
                  refine c_skip ?_
                  refine thn_n ?_
                  refine c_reg ?_
                  refine sq_p (nv2) rfl (fun _ => by kernel_rfl) ?_
                  refine sq_p (mv) rfl (fun _ => by kernel_rfl) ?_
                  refine sq_p (.int .i64 ((i2 : Nat) : Int)) rfl (fun _ => by kernel_rfl) ?_
                  refine sq_q rfl h (g_idxA 47 i2 (by kernel_rfl) hiy 14 rfl) ?_
                  refine sq_q rfl h (g_ldr (b := blkN mv) (offN mv + i2 * 2) [.bool yr.1, slV yr.2.1] (.agg #[.bool yr.1, slV yr.2.1]) (by kernel_rfl) 14 rfl (rdArg0 hyr (by kernel_rfl))) ?_
                  refine sq_call #[nv2, .agg #[.bool yr.1, slV yr.2.1]] [6, 5] rfl (next_spec (slV yr.2.1) (recL yr) yr.1 nv2 ns2 hnsl hrsl) (fun _ => by kernel_rfl) h ?_; rintro tv142 L_ w ⟨_, rfl, rfl⟩ h
                  have h := (h.pick [2, 0, 0, 0, 0, 0, 0, 0, 0, 0, 0, 0, 0, 0, 0, 0, 0, 0, 0, 0, 0]).toArg
                  refine sq_p (tv142) rfl (fun _ => by kernel_rfl) ?_
                  refine lnil ?_
                  refine blk_n (thn_n ?_)
                  refine c_reg ?_
                  refine sq_p (.int .i64 ((i2 : Nat) : Int)) rfl (fun _ => by kernel_rfl) ?_
                  refine sq_q rfl h (g_eq (v := .int .i64 (IntKind.i64.wrap (((i2 : Nat) : Int) + 1))) (v' := .int .i64 ((i2 + 1 : Nat) : Int)) (g_pure fun _ => by kernel_rfl) (wr (by omega))) ?_
                  refine sq_p (.int .i64 ((i2 + 1 : Nat) : Int)) rfl (fun _ => by kernel_rfl) ?_
                  refine lnil ?_
                  have hQ143 : ((i2 + 1) ≤ more.length ∧ LG 20000 more (i2 + 1) ((if yr.1 then [] else ns2) ++ recL yr) dd134 cx136 hw137 zx138 pkx139) ∧ (more.length - (i2 + 1)) < (more.length - i2) := ⟨⟨by omega, hLG2⟩, by omega⟩
                  refine loop_end (fun j => ⟨i2 + 1, tv142, ((if yr.1 then [] else ns2) ++ recL yr), dd134, Sx135, cx136, hw137, zx138, pkx139, j⟩) hQ143 (by kernel_rfl) [0, 7, 4, 6, 4, 5, 3, 4, 4, 4, 3, 3, 3, 3, 3, 3, 3, 2, 2] (by kernel_rfl) h
              · skip
                have hc133 := of_decide_eq_false hc133
                refine c_exit ?_
                refine thn_e (rnd_e (blk_e (thn_n ?_)))
                refine c_seq ?_
                refine c_reg ?_
                refine sq_p (.pointer (some ⟨db22, 0, none⟩)) rfl (fun _ => by kernel_rfl) ?_
                have h := h.nilRows 4 1 flagC
                refine sq_call #[.pointer (some ⟨db22, 0, none⟩), .slice none 0 0] [3, 0] rfl (crash0_spec (B := B) (b := db22) dv2 Sv2 (.slice none 0 0) [] hLG.quiet (by have := hLG.len; omega)) (fun _ => by kernel_rfl) h ?_; rintro v_ L_ w ⟨dd144, Sx145, hcn, hcl2, hcq, rfl, rfl⟩ h
                refine lnil ?_
                refine thn_n ?_
                refine c_seq ?_
                refine c_reg ?_
                refine sq_p (.pointer (some ⟨db22, 0, none⟩)) rfl (fun _ => by kernel_rfl) ?_
                refine sq_call #[.pointer (some ⟨db22, 0, none⟩)] [0, 3, 3, 3] rfl (openL_spec (B := B) ad a1 a2 db22 dd144 Sx145 _ _ _ _ (show Valid dd144.now.length dd144.now c2 hh2 zz2 pk2 by rw [hcn]; exact hLG.valid)) (fun _ => by kernel_rfl) h ?_; rintro v_ L_ w ⟨lb146, gv147, grs148, hgr149, rfl, rfl⟩ h
                have he_grs148 := texts_inj (hgr149.trans hLG.flat)
                refine sq_p (.tuple #[.pointer (some ⟨lb146, 0, none⟩), gv147, .nilIface]) rfl (fun _ => by kernel_rfl) ?_
                refine sq_p (.pointer (some ⟨lb146, 0, none⟩)) rfl (fun _ => by kernel_rfl) ?_
                refine sq_p (gv147) rfl (fun _ => by kernel_rfl) ?_
                refine sq_p (.nilIface) rfl (fun _ => by kernel_rfl) ?_
                refine sq_p (gv147) rfl (fun _ => by kernel_rfl) ?_
                refine sq_p (.nilIface) rfl (fun _ => by kernel_rfl) ?_
                refine lnil ?_
                refine thn_n ?_
                refine c_seq ?_
                refine c_reg ?_
                refine sq_p (.nilIface) rfl (fun _ => by kernel_rfl) ?_
                refine sq_p (.bool true) rfl (fun _ => by kernel_rfl) ?_
                refine sq_p (.bool true) rfl (fun _ => by kernel_rfl) ?_
                refine sq_p (gv147) (by kernel_rfl) (fun _ => by kernel_rfl) ?_
                refine sq_p (nv2) (by kernel_rfl) (fun _ => by kernel_rfl) ?_
                refine sq_call #[gv147, nv2] [5, 6] (by kernel_rfl) (sameT_spec gv147 nv2 grs148 ns2 (by rw [he_grs148]; omega) he_grs148) (fun _ => by kernel_rfl) h ?_; rintro v_ L_ w ⟨rfl, rfl⟩ h
                refine sq_p (.bool true) rfl (fun _ => by kernel_rfl) ?_
                refine sq_p (.bool true) rfl (fun _ => by kernel_rfl) ?_
                refine lnil ?_
                refine thn_n ?_
                refine c_ret ?_
                refine ret_end [.bool true] [] h (by kernel_rfl) (res_t (by kernel_rfl) res_n) ?_
                exact ⟨rfl, rfl⟩

end Go.Proofs.YtemnibnlgimpkaaGreatDoor
/- What the bound of an '..Upto' statement tells of arguments of any shape (Sh.blk: so many values and letters at least). No condition. -/
namespace Go.Proofs.YtemnibnlgimpkaaGreatDoor
open Go.RowKit Go.ChangeShapes Go.WideShapes
set_option linter.unusedVariables false
set_option linter.unusedSimpArgs false
namespace Sh
def blk : (s : Sh) → s.D → Nat
  | str, d => (show ByteArray from d).size
  | and a b, d => a.blk d.1 + b.blk d.2
  | slice s, d => (d.2.2.map fun x => 1 + s.blk x).sum
  | _, _ => 0
theorem blk_one {H : Type} (d : DataW H) : 1 ≤ Rows.uptoBulk d := by
  cases d with
  | lit l => cases l <;> simp [Rows.uptoBulk]
  | nil => simp [Rows.uptoBulk]
  | ptr d => simp [Rows.uptoBulk]
  | slice elems spare => simp [Rows.uptoBulk]
  | agg parts => simp [Rows.uptoBulk]
  | iface t d => simp [Rows.uptoBulk]
  | map entries => simp [Rows.uptoBulk]
  | held h => simp [Rows.uptoBulk]
theorem blk_all {H : Type} {α : Type} (f : α → Nat) : ∀ (l : List α) (ds : List (DataW H)), l.length ≤ ds.length → (∀ (i : Nat) x d, l[i]? = some x → ds[i]? = some d → f x + 1 ≤ Rows.uptoBulk d) → (l.map fun x => 1 + f x).sum ≤ Rows.uptoBulkAll ds
  | [], ds, _, _ => by simp
  | x :: l, [], h, _ => by simp at h
  | x :: l, d :: ds, h, hx => by
    have h1 := hx 0 x d rfl rfl
    have h2 := blk_all f l ds (by simpa using h) (fun i x d hi hd => hx (i + 1) x d (by simpa using hi) (by simpa using hd))
    simp only [List.map_cons, List.sum_cons, Rows.uptoBulkAll]
    omega
theorem bulk_fields {H : Type} {P : Program} {enc : TypeId × Value → H} {W : World} {m : Nat} (ok : TypeId → Sh → Bool)
    (hok : ∀ (t : TypeId) (s : Sh) (cs : List Value) (x : DataW H × List MemPlace) (d : s.D), ok t s = true → DataW.trod enc P W 0 (fun _ => true) true m t cs = some x → cs = s.cells d → s.At W W.heap.size d → s.blk d + 1 ≤ Rows.uptoBulk x.1) :
    ∀ (fs : List Field) (off : Nat) (s : Sh) (cs : List Value) (xs : List (DataW H × List MemPlace)) (d : s.D), fitsAll P ok fs off s = true → cs.drop off = s.cells d → s.At W W.heap.size d → xs.length = fs.length →
      (∀ (i : Nat) (f : Field) x, fs[i]? = some f → xs[i]? = some x → DataW.trod enc P W 0 (fun _ => true) true m f.type ((cs.drop f.offset).take (P.cellsOf f.type)) = some x) →
      s.blk d ≤ Rows.uptoBulkAll (xs.map (·.1))
  | [], off, unit, cs, _, _, _, _, _, _, _ => Nat.zero_le _
  | f :: fs, off, and a b, cs, [], d, hf, hc, ha, hl, hx => by simp at hl
  | f :: fs, off, and a b, cs, x :: xs, d, hf, hc, ha, hl, hx => by
    simp only [fitsAll, Bool.and_eq_true, beq_iff_eq] at hf
    obtain ⟨⟨⟨h1, h2⟩, h3⟩, h4⟩ := hf
    have hx0 := hx 0 f x rfl rfl
    rw [h2, h3, hc] at hx0
    have hlen := cells_len a d.1
    have e1 : (a.cells d.1 ++ b.cells d.2).take a.size = a.cells d.1 := by rw [← hlen, List.take_left]
    have e2 : (a.cells d.1 ++ b.cells d.2).drop a.size = b.cells d.2 := by rw [← hlen, List.drop_left]
    have k1 := hok f.type a _ x d.1 h1 (by rw [show cells (and a b) d = a.cells d.1 ++ b.cells d.2 from rfl, e1] at hx0; exact hx0) rfl ha.1
    have k2 := bulk_fields ok hok fs (off + a.size) b cs xs d.2 h4 (by rw [← List.drop_drop, hc]; exact e2) ha.2 (by simpa using hl) (fun i f' x' hf' hx' => hx (i + 1) f' x' (by simpa using hf') (by simpa using hx'))
    show a.blk d.1 + b.blk d.2 ≤ _
    simp only [List.map_cons, Rows.uptoBulkAll]
    omega
  | [], _, int, _, _, _, h, _, _, _, _ => by simp [fitsAll] at h
  | [], _, str, _, _, _, h, _, _, _, _ => by simp [fitsAll] at h
  | [], _, bool, _, _, _, h, _, _, _, _ => by simp [fitsAll] at h
  | [], _, and _ _, _, _, _, h, _, _, _, _ => by simp [fitsAll] at h
  | [], _, slice _, _, _, _, h, _, _, _, _ => by simp [fitsAll] at h
  | _ :: _, _, int, _, _, _, h, _, _, _, _ => by simp [fitsAll] at h
  | _ :: _, _, str, _, _, _, h, _, _, _, _ => by simp [fitsAll] at h
  | _ :: _, _, bool, _, _, _, h, _, _, _, _ => by simp [fitsAll] at h
  | _ :: _, _, unit, _, _, _, h, _, _, _, _ => by simp [fitsAll] at h
  | _ :: _, _, slice _, _, _, _, h, _, _, _, _ => by simp [fitsAll] at h
theorem bulk_struct {H : Type} {P : Program} {enc : TypeId × Value → H} {W : World} {n m : Nat} {t : TypeId} {s : Sh} {cs : List Value} {x : DataW H × List MemPlace} {d : s.D}
    (hok : ∀ (t : TypeId) (s : Sh) (m : Nat) (cs : List Value) (x : DataW H × List MemPlace) (d : s.D), fits P n t s = true → DataW.trod enc P W 0 (fun _ => true) true m t cs = some x → cs = s.cells d → s.At W W.heap.size d → s.blk d + 1 ≤ Rows.uptoBulk x.1)
    (hf : (match P.underlying t with | some (.struct fs) => fitsAll P (fits P n) fs.toList 0 s && P.cellsOf t == s.size | _ => false) = true)
    (h : DataW.trod enc P W 0 (fun _ => true) true m t cs = some x) (hc : cs = s.cells d) (ha : s.At W W.heap.size d) : s.blk d + 1 ≤ Rows.uptoBulk x.1 := by
  split at hf
  · rename_i fs hu
    simp only [Bool.and_eq_true, beq_iff_eq] at hf
    obtain ⟨xs, m', _, hxe, hl, hlen, hfs⟩ := DataW.trod_struct hu h
    have k := bulk_fields (fits P n) (fun t s cs x d hf h => hok t s m' cs x d hf h) fs.toList 0 s cs xs d hf.1 (by simpa using hc) ha (by rw [hlen, Array.length_toList]) (fun i f x hi hx => by
      have hi' : fs[i]? = some f := by simpa using hi
      exact (hfs i f hi').trans hx)
    rw [hxe]
    simp only [Rows.uptoBulk]
    omega
  · cases hf
theorem bulk_sh {H : Type} {P : Program} {enc : TypeId × Value → H} {W : World} : ∀ (n : Nat) (t : TypeId) (s : Sh) (m : Nat) (cs : List Value) (x : DataW H × List MemPlace) (d : s.D),
    fits P n t s = true → DataW.trod enc P W 0 (fun _ => true) true m t cs = some x → cs = s.cells d → s.At W W.heap.size d → s.blk d + 1 ≤ Rows.uptoBulk x.1
  | 0, t, s, _, _, _, _, hf, _, _, _ => by simp [fits] at hf
  | n + 1, t, int, m, cs, x, d, hf, h, hc, ha => blk_one _
  | n + 1, t, bool, m, cs, x, d, hf, h, hc, ha => blk_one _
  | n + 1, t, str, m, cs, x, d, hf, h, hc, ha => by
    unfold fits at hf
    split at hf
    · rename_i hu
      obtain ⟨k, e, hx, wf⟩ := DataW.trod_string hu h
      rw [e] at hc
      obtain rfl : k = d := Value.string.inj (List.cons.inj (show [Value.string k] = [Value.string d] from hc)).1
      rw [hx]
      simp only [Rows.uptoBulk]
      have : k.data.toList.length = k.size := Array.length_toList
      rw [this]; exact Nat.le_refl _
    · cases hf
  | n + 1, t, slice s, m, cs, x, d, hf, h, hc, ha => by
    unfold fits at hf
    split at hf
    · rename_i e hu
      simp only [Bool.and_eq_true, beq_iff_eq, decide_eq_true_eq] at hf
      obtain ⟨⟨⟨hf1, hsz⟩, hs0⟩, hby⟩ := hf
      rcases Go.Deep.open_slice hu h with ⟨rfl, _⟩ | ⟨a, len, cap, mm, n', D', Pl, rfl, _, hl, hm, hmm, hxe, hx⟩
      · have : d.2.2 = [] := by
          have : d.2.2.length = 0 := by simp [cells] at hc; omega
          exact List.eq_nil_of_length_eq_zero this
        show (d.2.2.map fun x => 1 + s.blk x).sum + 1 ≤ _
        rw [this]; exact blk_one _
      · simp only [if_true] at hmm
        have hc' : d.1 = some a ∧ d.2.2.length = len := by simp [cells] at hc; exact ⟨hc.1.symm, by omega⟩
        rw [hxe]
        simp only [Rows.uptoBulk]
        have k := blk_all (H := H) (s.blk) d.2.2 ((List.range len).map D') (by rw [hc'.2]; simp) (fun i y dd hy hd => by
          have hi : i < len := by rw [← hc'.2]; exact (List.getElem?_eq_some_iff.1 hy).1
          obtain ⟨cs', hcs, hd'⟩ := hx i (by omega)
          obtain ⟨h1, g, off, e2, hg, h2⟩ := ha.2.2 i y hy
          rw [hc'.1] at e2
          obtain rfl := Option.some.inj e2
          have he : cs' = s.cells y := by
            rw [hsz] at hcs
            obtain ⟨c1, c2⟩ := cells_at hcs
            have hl2 := cells_len s y
            refine List.ext_getElem? fun r => ?_
            by_cases hr : r < s.size
            · have q1 := c2 r (cs'[r]'(by omega)) (List.getElem?_eq_getElem _)
              have q2 := h2 r ((s.cells y)[r]'(by omega)) (List.getElem?_eq_getElem _)
              rw [Addr.add_lit, Addr.add_lit] at q1
              rw [q1] at q2
              rw [List.getElem?_eq_getElem (by omega), List.getElem?_eq_getElem (by omega)]
              exact q2
            · rw [List.getElem?_eq_none (by omega), List.getElem?_eq_none (by omega)]
          have hdd : dd = D' i := by
            rw [List.getElem?_map, List.getElem?_range hi] at hd
            exact (Option.some.inj hd).symm
          rw [hdd]
          exact bulk_sh n e s _ _ _ y hf1 hd' he h1)
        show (d.2.2.map fun x => 1 + s.blk x).sum + 1 ≤ _
        omega
    · cases hf
  | n + 1, t, unit, m, cs, x, d, hf, h, hc, ha => bulk_struct (fun t s m cs x d hf h hc ha => bulk_sh n t s m cs x d hf h hc ha) hf h hc ha
  | n + 1, t, and a b, m, cs, x, d, hf, h, hc, ha => bulk_struct (fun t s m cs x d hf h hc ha => bulk_sh n t s m cs x d hf h hc ha) hf h hc ha
/-- An argument's bulk. -/
theorem bulk_val {H : Type} {P : Program} {enc : TypeId × Value → H} {W : World} {dd : DataW H} {p : List MemPlace} (n : Nat) (t : TypeId) (s : Sh) (hf : fits P n t s = true) (d : s.D)
    (h : DataW.Trod enc P W 0 (fun _ => true) true t (s.val d) dd p) (ha : s.At W W.heap.size d) : s.blk d + 1 ≤ Rows.uptoBulk dd := by
  obtain ⟨fuel, hh⟩ := h
  refine bulk_sh n t s _ _ _ d hf hh ?_ ha
  cases s <;> simp [val, Value.cells, cells]
theorem part_le {H : Type} {d : DataW H} : ∀ {l : List (DataW H)}, d ∈ l → Rows.uptoBulk d ≤ Rows.uptoBulkAll l
  | x :: r, h => by
    simp only [Rows.uptoBulkAll]
    rcases List.mem_cons.1 h with rfl | h
    · omega
    · have := part_le h; omega
end Sh
end Go.Proofs.YtemnibnlgimpkaaGreatDoor

