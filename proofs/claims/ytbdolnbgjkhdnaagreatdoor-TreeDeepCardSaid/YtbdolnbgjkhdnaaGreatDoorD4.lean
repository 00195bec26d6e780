/- /- Texts of the claim TreeDeep, merged. -/ -/
import Derived.Test.YtbdolnbgjkhdnaaGreatDoorD3
import Derived.Defers
import Derived.Recover
import Derived.Test.YtbdolnbgjkhdnaaGreatDoorRows
import Derived.ProofKit
import Derived.Lay
import Derived.SevenTiedAt
import Derived.ChangeOld
import Derived.LaidLaws
import Derived.LaidHandle
import Derived.Deep.DeepHandedRow
import Derived.Test.YtbdolnbgjkhdnaaGreatDoorCards
import Derived.Test.YtbdolnbgjkhdnaaGreatDoorTie
import Derived.OpenShut
import Derived.ChangeMaps5
import Derived.JoinedCond
set_option linter.all false
set_option maxRecDepth 100000
set_option maxHeartbeats 20000000
namespace Go.Proofs.YtbdolnbgjkhdnaaGreatDoor
open Go.RowKit
/- deep: contracts by what is owned (printed by walk.py). -/

theorem lnum0_spec (lb b fm : Nat) (t : Tx) (hz : (numK 0 t).length ≤ 90000000) : Spec Tryz.prog 25 #[.pointer (some ⟨lb, 0, none⟩)] [rCell true lb [.string (ofT (numK 0 t)), .pointer (some ⟨b, 0, none⟩), .map (some fm)] 62] fun u L => u = .int .i64 0 ∧ L = [rCell true lb [.string (ofT t), .pointer (some ⟨b, 0, none⟩), .map (some fm)] 62] := lnum_spec lb b fm 0 t (by decide) hz
theorem lnum1_spec (lb b fm : Nat) (t : Tx) (hz : (numK 1 t).length ≤ 90000000) : Spec Tryz.prog 25 #[.pointer (some ⟨lb, 0, none⟩)] [rCell true lb [.string (ofT (numK 1 t)), .pointer (some ⟨b, 0, none⟩), .map (some fm)] 62] fun u L => u = .int .i64 1 ∧ L = [rCell true lb [.string (ofT t), .pointer (some ⟨b, 0, none⟩), .map (some fm)] 62] := lnum_spec lb b fm 1 t (by decide) hz
theorem mid_get {α : Type} {A B : List α} {x : α} {n : Nat} (h : A.length = n) : ((A ++ [x]) ++ B)[n]? = some x := by
  subst h
  rw [List.append_assoc, List.getElem?_append_right (Nat.le_refl _), Nat.sub_self]; rfl
theorem mid_set {α : Type} {A B : List α} {x y : α} {n : Nat} (h : A.length = n) : ((A ++ [x]) ++ B).set n y = A ++ (y :: B) := by
  subst h
  rw [List.append_assoc, List.set_append_right (h := Nat.le_refl _), Nat.sub_self]; rfl
theorem mid_kv {A B : List DN} {x y : DN} (h : dnKV x = dnKV y) : ((A ++ [x]) ++ B).map dnKV = (A ++ (y :: B)).map dnKV := by
  simp [h]

theorem ldir_leaf {B : Nat} (ad : Nat → Addr) (b m tb dm pm : Nat) (vl vg : Value) (T : TypeId) (Sl Sg : Nat → Prop) (L : List ND) (ds : List DN) (lb fm : Nat) (hds : ds.length = L.length) (hH : HdS ds) (hm3 : m ≤ 300) (u1 u2 : Int) (t : Tx) (hi : L.length < m) (hz0 : (numK L.length (numK 0 (numK 0 (numK 0 t)))).length ≤ 80000000)  : Spec Tryz.prog 24 #[.pointer (some ⟨lb, 0, none⟩), .agg #[.int .i64 u1, .int .i64 u2], .int .i64 (L.length : Int)] [rCell true lb [.string (ofT (numK L.length (numK 0 (numK 0 (numK 0 t))))), .pointer (some ⟨b, 0, none⟩), .map (some fm)] 62, rCell true b [.pointer (some ⟨tb, 0, none⟩), .int .i64 (m : Int), .int .i64 0, .int .i64 0, .map (some dm), .map (some pm)] 46, rTab tb (psO m L) (gsO m L) vl vg T Sl Sg, rNds (lO m L), rMap true dm hk (ds.map dnKV), rDirs ds, rEnv B ad [10], rEnv B ad [4]] (fun u X => ∃ Ls Ds, Seg L.length 0 Ls Ds ∧ u = .agg #[.int .i64 (L.length : Int), .int .i64 0] ∧ X = [rCell true lb [.string (ofT t), .pointer (some ⟨b, 0, none⟩), .map (some fm)] 62, rCell true b [.pointer (some ⟨tb, 0, none⟩), .int .i64 (m : Int), .int .i64 0, .int .i64 0, .map (some dm), .map (some pm)] 46, rTab tb (psO m (L ++ Ls)) (gsO m (L ++ Ls)) vl vg T Sl Sg, rNds (lO m (L ++ Ls)), rMap true dm hk ((ds ++ Ds).map dnKV), rDirs (ds ++ Ds), rEnv B ad [10], rEnv B ad [4]]) := by
  have hz1 : (numK 0 (numK 0 (numK 0 t))).length ≤ 80000000 := Nat.le_trans (num_suf _ _) hz0
  have hz2 : (numK 0 (numK 0 t)).length ≤ 80000000 := Nat.le_trans (num_suf _ _) hz1
  have hz3 : (numK 0 t).length ≤ 80000000 := Nat.le_trans (num_suf _ _) hz2
  have hz4 : (t).length ≤ 80000000 := Nat.le_trans (num_suf _ _) hz3
  refine spec_of (#[.pointer (some ⟨lb, 0, none⟩), .agg #[.int .i64 u1, .int .i64 u2], .int .i64 (L.length : Int), undef, undef, undef, undef, undef, undef, undef, undef, undef, undef, undef, undef, undef, undef, undef, undef, undef, undef, undef, undef, undef, undef, undef, undef, undef, undef, undef, undef, undef, undef, undef, undef, undef, undef, undef, undef, undef, undef, undef, undef, undef, undef, undef, undef, undef, undef, undef, undef, undef, undef, undef, undef, undef, undef, undef, undef, undef, undef, undef, undef, undef, undef, undef, undef, undef, undef, undef, undef, undef, undef, undef, undef, undef, undef, undef, undef, undef, undef, undef, undef, undef, undef, undef, undef, undef, undef, undef, undef, undef, undef, undef, undef, undef, undef, undef, undef, undef, undef, undef, undef, undef, undef, undef, undef, undef, undef, undef, undef, undef, undef, undef, undef, undef, undef, undef, undef, undef, undef, undef, undef, undef, undef, undef, undef, undef, undef, undef, undef, undef, undef, undef, undef, undef, undef, undef, undef, undef, undef, undef, undef, undef, undef, undef, undef, undef]) Tryz.func24 rfl (by kernel_rfl) fun E w0 w h => ?_
  refine c_seq ?_
  refine c_reg ?_
  refine sq_new rfl (fun b => .pointer (some ⟨b, 0, none⟩)) [.int .i64 u1, .int .i64 u2] 29 (fun _ => by kernel_rfl) h ?_; intro k1 w h
  refine sq_new rfl (fun b => .pointer (some ⟨b, 0, none⟩)) [.int .i64 0, .int .i64 0] 29 (fun _ => by kernel_rfl) h ?_; intro k2 w h
  refine lnil ?_
  refine thn_n ?_
  refine c_seq ?_
  refine c_reg ?_
  refine sq_p (.int .i64 (L.length : Int)) rfl (fun _ => by kernel_rfl) ?_
  refine sq_p (.bool (decide ((L.length : Int) < 300))) rfl (fun _ => by kernel_rfl) ?_
  have hm3 : decide ((L.length : Int) < 300) = true := by first | (simp; done) | (simp; omega)
  refine sq_call #[.bool (decide ((L.length : Int) < 300))] [] rfl (mustB_spec (decide ((L.length : Int) < 300)) hm3) (fun _ => by kernel_rfl) h ?_; rintro v_ L_ w ⟨rfl, rfl⟩ h
  refine lnil ?_
  refine thn_n ?_
  refine c_seq ?_
  refine c_reg ?_
  refine sq_p (.pointer (some ⟨lb, 0, none⟩)) rfl (fun _ => by kernel_rfl) ?_
  refine sq_call #[.pointer (some ⟨lb, 0, none⟩)] [2] rfl (lnum_spec lb b fm L.length (numK 0 (numK 0 (numK 0 t))) (by omega) (Nat.le_trans hz0 (by decide))) (fun _ => by kernel_rfl) h ?_; rintro v_ L_ w ⟨rfl, rfl⟩ h
  refine sq_p (.pointer (some ⟨lb, 0, none⟩)) rfl (fun _ => by kernel_rfl) ?_
  refine sq_call #[.pointer (some ⟨lb, 0, none⟩)] [0] rfl (lnum0_spec lb b fm (numK 0 (numK 0 t)) (Nat.le_trans hz1 (by decide))) (fun _ => by kernel_rfl) h ?_; rintro v_ L_ w ⟨rfl, rfl⟩ h
  refine sq_p (.agg #[.int .i64 (L.length : Int), .int .i64 0]) rfl (fun _ => by kernel_rfl) ?_
  refine sq_new rfl (fun b => .pointer (some ⟨b, 0, none⟩)) [.int .i64 0, .int .i64 0] 29 (fun _ => by kernel_rfl) h ?_; intro k4 w h
  refine sq_st rfl 0 [.int .i64 (L.length : Int), .int .i64 0] [.int .i64 (L.length : Int), .int .i64 0] h 0 rfl (by kernel_rfl) ?_; intro w h
  refine lnil ?_
  refine thn_n ?_
  refine c_seq ?_
  refine d_start 6 [3] (by kernel_rfl) h fun w h => ?_
  refine d_take 0 20 [3] rfl (v := .pointer (some ⟨lb, 0, none⟩)) (by kernel_rfl) (qp_thn qp_body) (yq (by kernel_rfl) (g_pure (v := .pointer (some ⟨lb, 0, none⟩)) fun _ => by kernel_rfl)) h (by kernel_rfl) ?_
  refine d_take 2 19 [3] rfl (v := .agg #[.int .i64 u1, .int .i64 u2]) (by kernel_rfl) (qp_thn qp_body) (yq (by kernel_rfl) (g_ld 0 [.int .i64 u1, .int .i64 u2] (.agg #[.int .i64 u1, .int .i64 u2]) (by kernel_rfl) 0 rfl)) h (by kernel_rfl) ?_
  refine d_ready [1, 4] (by kernel_rfl) rfl ?_
  refine ad_call #[.pointer (some ⟨lb, 0, none⟩)] [1] [3] rfl (by kernel_rfl) (lnum0_spec lb b fm (numK 0 t) (Nat.le_trans hz2 (by decide))) (fun _ => by kernel_rfl) h ?_ ?_
  · skip
    rintro v_ L_ w ⟨rfl, rfl⟩ h
    refine ⟨by kernel_rfl, ?_⟩
    refine d_take 3 23 [3] rfl (v := .agg #[.int .i64 2, .int .i64 0, .int .i64 2, .int .i64 0, .int .i64 u1, .int .i64 u2]) (by kernel_rfl) (qp_thn qp_body) (yq (by kernel_rfl) (g_pure (v := .agg #[.int .i64 2, .int .i64 0, .int .i64 2, .int .i64 0, .int .i64 u1, .int .i64 u2]) fun _ => by kernel_rfl)) h (by kernel_rfl) ?_
    refine d_ready [4] (by kernel_rfl) rfl ?_
    refine ad_new [4] rfl (by kernel_rfl) (fun b => .pointer (some ⟨b, 0, none⟩)) [.int .i64 0, .int .i64 0, .int .i64 0, .int .i64 0, .int .i64 0, .int .i64 0] 51 (fun _ => by kernel_rfl) h ?_ ?_
    · skip
      intro k5 w h; refine ⟨by kernel_rfl, ?_⟩
      refine d_ready [5] (by kernel_rfl) rfl ?_
      refine ad_st [4] rfl (by kernel_rfl) 0 [.int .i64 2, .int .i64 0, .int .i64 2, .int .i64 0, .int .i64 u1, .int .i64 u2] [.int .i64 2, .int .i64 0, .int .i64 2, .int .i64 0, .int .i64 u1, .int .i64 u2] h 0 rfl (by kernel_rfl) ?_ ?_
      · skip
        intro w h; refine ⟨by kernel_rfl, ?_⟩
        refine d_done (by kernel_rfl) ?_
        refine thn_n ?_
        refine c_seq ?_
        refine c_seq ?_
        refine c_reg ?_
        refine sq_p (.int .i64 (L.length : Int)) rfl (fun _ => by kernel_rfl) ?_
        refine sq_p (.bool (decide ((L.length : Int) = 0))) rfl (fun _ => by kernel_rfl) ?_
        refine lnil ?_
        refine thn_n ?_
        refine c_mid (midM (X := Int × Int × (Nat → Value)) w0 E (fun ⟨u3, u4, JM1⟩ => ⟨#[.pointer (some ⟨lb, 0, none⟩), .agg #[.int .i64 u1, .int .i64 u2], .int .i64 (L.length : Int), undef, .pointer (some ⟨k1, 0, none⟩), undef, .pointer (some ⟨k2, 0, none⟩), .pointer (some ⟨k4, 0, none⟩), .pointer (some ⟨k5, 0, none⟩), undef, undef, undef, undef, undef, undef, undef, undef, undef, .int .i64 (L.length : Int), .bool (decide ((L.length : Int) < 300)), .tuple #[], .pointer (some ⟨lb, 0, none⟩), .int .i64 (L.length : Int), .pointer (some ⟨lb, 0, none⟩), .int .i64 0, .agg #[.int .i64 (L.length : Int), .int .i64 0], .pointer (some ⟨lb, 0, none⟩), .int .i64 0, .agg #[.int .i64 u1, .int .i64 u2], .agg #[.int .i64 2, .int .i64 0, .int .i64 2, .int .i64 0, .int .i64 u1, .int .i64 u2], .int .i64 (L.length : Int), .bool (decide ((L.length : Int) = 0)), JM1 32, JM1 33, undef, undef, undef, undef, undef, undef, undef, undef, undef, undef, undef, undef, undef, undef, undef, undef, undef, undef, undef, undef, undef, undef, undef, undef, undef, undef, undef, undef, undef, undef, undef, undef, undef, undef, undef, undef, undef, undef, undef, undef, undef, undef, undef, undef, undef, undef, undef, undef, undef, undef, undef, undef, undef, undef, undef, undef, undef, undef, undef, undef, undef, undef, undef, undef, undef, undef, undef, undef, undef, undef, undef, undef, undef, undef, undef, undef, undef, undef, undef, undef, undef, undef, undef, undef, undef, undef, undef, undef, undef, undef, undef, undef, undef, undef, undef, undef, undef, undef, undef, undef, undef, undef, undef, undef, undef, undef, undef, undef, undef, undef, undef, undef, undef, undef], []⟩) (fun ⟨u3, u4, JM1⟩ => [rCell true k5 [.int .i64 2, .int .i64 0, .int .i64 2, .int .i64 0, .int .i64 u3, .int .i64 u4] 51, rCell true lb [.string (ofT (numK 0 t)), .pointer (some ⟨b, 0, none⟩), .map (some fm)] 62, rCell true k4 [.int .i64 (L.length : Int), .int .i64 0] 29, rCell true k2 [.int .i64 0, .int .i64 0] 29, rCell true k1 [.int .i64 u1, .int .i64 u2] 29, rCell true b [.pointer (some ⟨tb, 0, none⟩), .int .i64 (m : Int), .int .i64 0, .int .i64 0, .map (some dm), .map (some pm)] 46, rTab tb (psO m L) (gsO m L) vl vg T Sl Sg, rNds (lO m L), rMap true dm hk (ds.map dnKV), rDirs ds, rEnv B ad [10], rEnv B ad [4]]) (fun ⟨u3, u4, JM1⟩ => True)) ?_ ?_
        · skip
          refine c_cond (decide ((L.length : Int) = 0)) (by kernel_rfl) (fun hc6 => ?_) (fun hc6 => ?_)
          · skip
            have hc6 := of_decide_eq_true hc6
            refine c_reg ?_
            refine sq_q rfl h (g_ld 0 [.int .i64 (L.length : Int), .int .i64 0] (.agg #[.int .i64 (L.length : Int), .int .i64 0]) (by kernel_rfl) 2 rfl) ?_
            refine sq_p (.pointer (some ⟨k5, 4, none⟩)) rfl (fun _ => by kernel_rfl) ?_
            refine sq_st rfl 4 [.int .i64 (L.length : Int), .int .i64 0] [.int .i64 2, .int .i64 0, .int .i64 2, .int .i64 0, .int .i64 (L.length : Int), .int .i64 0] h 0 rfl (by kernel_rfl) ?_; intro w h
            refine lnil ?_
            refine mid_n ?_
            have hQ7 : True := trivial
            refine mid_end (fun j => ⟨(L.length : Int), 0, j⟩) hQ7 (by kernel_rfl) [0, 0, 0, 0, 0, 0, 0, 0, 0, 0, 0, 0] (by kernel_rfl) h
          · skip
            have hc6 := of_decide_eq_false hc6
            refine c_skip ?_
            refine mid_n ?_
            have hQ8 : True := trivial
            refine mid_end (fun j => ⟨u1, u2, j⟩) hQ8 (by kernel_rfl) [0, 0, 0, 0, 0, 0, 0, 0, 0, 0, 0, 0] (by kernel_rfl) h
        · skip
          rintro a_ w ⟨⟨u3, u4, JM1⟩, hG, rfl, h⟩
          refine thn_n ?_
          refine c_seq ?_
          refine c_reg ?_
          refine sq_p (.pointer (some ⟨lb, 0, none⟩)) rfl (fun _ => by kernel_rfl) ?_
          refine sq_q rfl h (g_ld 0 [.int .i64 (L.length : Int), .int .i64 0] (.agg #[.int .i64 (L.length : Int), .int .i64 0]) (by kernel_rfl) 2 rfl) ?_
          refine sq_q rfl h (g_ld 0 [.int .i64 2, .int .i64 0, .int .i64 2, .int .i64 0, .int .i64 u3, .int .i64 u4] (.agg #[.int .i64 2, .int .i64 0, .int .i64 2, .int .i64 0, .int .i64 u3, .int .i64 u4]) (by kernel_rfl) 0 rfl) ?_
          refine sq_call #[.pointer (some ⟨lb, 0, none⟩), .agg #[.int .i64 (L.length : Int), .int .i64 0], .agg #[.int .i64 2, .int .i64 0, .int .i64 2, .int .i64 0, .int .i64 u3, .int .i64 u4], .pointer none] [1, 4, 4, 4] rfl (lput_spec lb fm (ofT (numK 0 t)) b m tb dm pm vl vg T Sl Sg L hi 2 0 2 0 u3 u4) (fun _ => by kernel_rfl) h ?_; rintro v_ L_ w ⟨nb9, rfl, rfl⟩ h
          refine lnil ?_
          refine thn_n ?_
          refine c_seq ?_
          refine c_reg ?_
          refine sq_newm rfl sk (fun _ => by kernel_rfl) h ?_; intro k10 w h
          refine sq_p (.map (some k10)) rfl (fun _ => by kernel_rfl) ?_
          refine lnil ?_
          refine thn_n ?_
          refine c_seq ?_
          refine d_start 10 [1, 1, 4] (by kernel_rfl) h fun w h => ?_
          refine d_take 0 384 [1, 1, 4] rfl (v := .pointer (some ⟨lb, 0, none⟩)) (by kernel_rfl) (qp_thn qp_body) (yq (by kernel_rfl) (g_pure (v := .pointer (some ⟨lb, 0, none⟩)) fun _ => by kernel_rfl)) h (by kernel_rfl) ?_
          refine d_take 1 385 [1, 1, 4] rfl (v := .pointer (some ⟨lb, 0, none⟩)) (by kernel_rfl) (qp_thn qp_body) (yq (by kernel_rfl) (g_pure (v := .pointer (some ⟨lb, 0, none⟩)) fun _ => by kernel_rfl)) h (by kernel_rfl) ?_
          refine d_take 2 387 [1, 1, 4] rfl (v := .pointer (some ⟨lb, 1, none⟩)) (by kernel_rfl) (qp_thn qp_body) (yq (by kernel_rfl) (g_pure (v := .pointer (some ⟨lb, 1, none⟩)) fun _ => by kernel_rfl)) h (by kernel_rfl) ?_
          refine d_take 3 391 [1, 1, 4] rfl (v := .pointer (some ⟨b, 0, none⟩)) (by kernel_rfl) (qp_thn qp_body) (yq (by kernel_rfl) (g_ld 1 [.pointer (some ⟨b, 0, none⟩)] (.pointer (some ⟨b, 0, none⟩)) (by kernel_rfl) 0 rfl)) h (by kernel_rfl) ?_
          refine d_take 4 399 [1, 1, 4] rfl (v := .pointer (some ⟨b, 0, none⟩)) (by kernel_rfl) (qp_thn qp_body) (yq (by kernel_rfl) (g_pure (v := .pointer (some ⟨b, 0, none⟩)) fun _ => by kernel_rfl)) h (by kernel_rfl) ?_
          refine d_take 5 415 [1, 1, 4] rfl (v := .pointer (some ⟨b, 4, none⟩)) (by kernel_rfl) (qp_thn qp_body) (yq (by kernel_rfl) (g_pure (v := .pointer (some ⟨b, 4, none⟩)) fun _ => by kernel_rfl)) h (by kernel_rfl) ?_
          refine d_take 6 447 [1, 1, 4] rfl (v := .map (some dm)) (by kernel_rfl) (qp_thn qp_body) (yq (by kernel_rfl) (g_ld 4 [.map (some dm)] (.map (some dm)) (by kernel_rfl) 1 rfl)) h (by kernel_rfl) ?_
          refine d_take 7 383 [1, 1, 4] rfl (v := .agg #[.int .i64 (L.length : Int), .int .i64 0]) (by kernel_rfl) (qp_thn qp_body) (yq (by kernel_rfl) (g_ld 0 [.int .i64 (L.length : Int), .int .i64 0] (.agg #[.int .i64 (L.length : Int), .int .i64 0]) (by kernel_rfl) 2 rfl)) h (by kernel_rfl) ?_
          refine d_take 8 255 [1, 1, 4] rfl (v := .map (some k10)) (by kernel_rfl) (qp_thn qp_body) (yq (by kernel_rfl) (g_pure (v := .map (some k10)) fun _ => by kernel_rfl)) h (by kernel_rfl) ?_
          refine d_ready [9] (by kernel_rfl) rfl ?_
          refine ad_mapu [1, 1, 4] rfl (by kernel_rfl) (K := 29) (E := 48) keyHk ((L.length : Int), 0) (.map (some k10)) (by kernel_rfl) h 9 rfl ?_ ?_
          · skip
            intro w h; refine ⟨by kernel_rfl, ?_⟩
            refine d_done (by kernel_rfl) ?_
            refine thn_n ?_
            refine c_seq ?_
            refine c_seq ?_
            refine c_reg ?_
            refine sq_p (.pointer (some ⟨lb, 0, none⟩)) rfl (fun _ => by kernel_rfl) ?_
            refine sq_call #[.pointer (some ⟨lb, 0, none⟩)] [1] rfl (lnum0_spec lb b fm t (Nat.le_trans hz3 (by decide))) (fun _ => by kernel_rfl) h ?_; rintro v_ L_ w ⟨rfl, rfl⟩ h
            refine sq_p (.int .i64 0) rfl (fun _ => by kernel_rfl) ?_
            refine lnil ?_
            refine thn_n ?_
            refine c_block ?_
            refine c_unroll 1 ?_
            refine c_seq ?_
            refine c_reg ?_
            refine sq_p (.bool false) rfl (fun _ => by kernel_rfl) ?_
            refine lnil ?_
            refine thn_n ?_
            refine c_seq ?_
            refine c_false (by kernel_rfl) ?_
            refine c_exit ?_
            refine thn_e (unr_e (blk_e (thn_n ?_)))
            refine c_seq ?_
            refine c_reg ?_
            refine sq_q rfl h (g_ld 0 [.int .i64 (L.length : Int), .int .i64 0] (.agg #[.int .i64 (L.length : Int), .int .i64 0]) (by kernel_rfl) 6 rfl) ?_
            refine sq_st rfl 0 [.int .i64 (L.length : Int), .int .i64 0] [.int .i64 (L.length : Int), .int .i64 0] h 7 rfl (by kernel_rfl) ?_; intro w h
            refine lnil ?_
            refine thn_n ?_
            refine c_ret ?_
            have h := h.pickE (M := [rMap true k10 sk [], rDirs ds, rCell true lb [.string (ofT t), .pointer (some ⟨b, 0, none⟩), .map (some fm)] 62, rCell true b [.pointer (some ⟨tb, 0, none⟩), .int .i64 (m : Int), .int .i64 0, .int .i64 0, .map (some dm), .map (some pm)] 46, rTab tb (psO m (L ++ [(⟨nb9, 2, 0, 2, 0, u3, u4, none⟩ : ND)])) (gsO m (L ++ [(⟨nb9, 2, 0, 2, 0, u3, u4, none⟩ : ND)])) vl vg T Sl Sg, rNds (lO m (L ++ [(⟨nb9, 2, 0, 2, 0, u3, u4, none⟩ : ND)])), rCell true k5 [.int .i64 2, .int .i64 0, .int .i64 2, .int .i64 0, .int .i64 u3, .int .i64 u4] 51, rCell true k4 [.int .i64 (L.length : Int), .int .i64 0] 29, rCell true k2 [.int .i64 (L.length : Int), .int .i64 0] 29, rCell true k1 [.int .i64 u1, .int .i64 u2] 29, rMap true dm hk (aput (ds.map dnKV) ((L.length : Int), 0) (.map (some k10))), rEnv B ad [10], rEnv B ad [4]]) [1, 9, 0, 0, 0, 0, 0, 0, 0, 0, 0, 0, 0] (by kernel_rfl)
            have h := Own.dirAdd (ds := ds) (⟨((L.length : Int), 0), k10, []⟩ : DN) h
            have h : Own w0 E [rDirs (ds ++ [(⟨((L.length : Int), 0), k10, []⟩ : DN)]), rCell true lb [.string (ofT t), .pointer (some ⟨b, 0, none⟩), .map (some fm)] 62, rCell true b [.pointer (some ⟨tb, 0, none⟩), .int .i64 (m : Int), .int .i64 0, .int .i64 0, .map (some dm), .map (some pm)] 46, rTab tb (psO m (L ++ [(⟨nb9, 2, 0, 2, 0, u3, u4, none⟩ : ND)])) (gsO m (L ++ [(⟨nb9, 2, 0, 2, 0, u3, u4, none⟩ : ND)])) vl vg T Sl Sg, rNds (lO m (L ++ [(⟨nb9, 2, 0, 2, 0, u3, u4, none⟩ : ND)])), rCell true k5 [.int .i64 2, .int .i64 0, .int .i64 2, .int .i64 0, .int .i64 u3, .int .i64 u4] 51, rCell true k4 [.int .i64 (L.length : Int), .int .i64 0] 29, rCell true k2 [.int .i64 (L.length : Int), .int .i64 0] 29, rCell true k1 [.int .i64 u1, .int .i64 u2] 29, rMap true dm hk (aput (ds.map dnKV) ((L.length : Int), 0) (.map (some k10))), rEnv B ad [10], rEnv B ad [4]] w := h
            rw [show aput (ds.map dnKV) ((L.length : Int), 0) (.map (some k10)) = (ds ++ [(⟨((L.length : Int), 0), k10, []⟩ : DN)]).map dnKV from dir_new (es := []) (hH.new (Nat.le_of_eq hds))] at h
            have h : Own w0 E [rDirs (ds ++ [(⟨((L.length : Int), 0), k10, []⟩ : DN)]), rCell true lb [.string (ofT t), .pointer (some ⟨b, 0, none⟩), .map (some fm)] 62, rCell true b [.pointer (some ⟨tb, 0, none⟩), .int .i64 (m : Int), .int .i64 0, .int .i64 0, .map (some dm), .map (some pm)] 46, rTab tb (psO m (L ++ [(⟨nb9, 2, 0, 2, 0, u3, u4, none⟩ : ND)])) (gsO m (L ++ [(⟨nb9, 2, 0, 2, 0, u3, u4, none⟩ : ND)])) vl vg T Sl Sg, rNds (lO m (L ++ [(⟨nb9, 2, 0, 2, 0, u3, u4, none⟩ : ND)])), rCell true k5 [.int .i64 2, .int .i64 0, .int .i64 2, .int .i64 0, .int .i64 u3, .int .i64 u4] 51, rCell true k4 [.int .i64 (L.length : Int), .int .i64 0] 29, rCell true k2 [.int .i64 (L.length : Int), .int .i64 0] 29, rCell true k1 [.int .i64 u1, .int .i64 u2] 29, rMap true dm hk ((ds ++ [(⟨((L.length : Int), 0), k10, []⟩ : DN)]).map dnKV), rEnv B ad [10], rEnv B ad [4]] w := h
            refine ret_end [.agg #[.int .i64 (L.length : Int), .int .i64 0]] [1, 1, 1, 1, 5, 0, 4, 4] h (by kernel_rfl) (res_c 0 [.int .i64 (L.length : Int), .int .i64 0] (.agg #[.int .i64 (L.length : Int), .int .i64 0]) 7 rfl (by kernel_rfl) res_n) ?_
            exact ⟨[_], [_], Seg.one rfl rfl rfl rfl rfl rfl, rfl, rfl⟩
          exact ad_nil
      exact ad_nil
    exact ad_nil
  refine ad_new [4] rfl (by kernel_rfl) (fun b => .pointer (some ⟨b, 0, none⟩)) [.int .i64 0, .int .i64 0, .int .i64 0, .int .i64 0, .int .i64 0, .int .i64 0] 51 (fun _ => by kernel_rfl) h ?_ ?_
  · skip
    intro k11 w h; refine ⟨by kernel_rfl, ?_⟩
    refine d_ready [1] (by kernel_rfl) rfl ?_
    refine ad_call #[.pointer (some ⟨lb, 0, none⟩)] [2] [4] rfl (by kernel_rfl) (lnum0_spec lb b fm (numK 0 t) (Nat.le_trans hz2 (by decide))) (fun _ => by kernel_rfl) h ?_ ?_
    · skip
      rintro v_ L_ w ⟨rfl, rfl⟩ h
      refine ⟨by kernel_rfl, ?_⟩
      refine d_take 3 23 [4] rfl (v := .agg #[.int .i64 2, .int .i64 0, .int .i64 2, .int .i64 0, .int .i64 u1, .int .i64 u2]) (by kernel_rfl) (qp_thn qp_body) (yq (by kernel_rfl) (g_pure (v := .agg #[.int .i64 2, .int .i64 0, .int .i64 2, .int .i64 0, .int .i64 u1, .int .i64 u2]) fun _ => by kernel_rfl)) h (by kernel_rfl) ?_
      refine d_ready [5] (by kernel_rfl) rfl ?_
      refine ad_st [4] rfl (by kernel_rfl) 0 [.int .i64 2, .int .i64 0, .int .i64 2, .int .i64 0, .int .i64 u1, .int .i64 u2] [.int .i64 2, .int .i64 0, .int .i64 2, .int .i64 0, .int .i64 u1, .int .i64 u2] h 1 rfl (by kernel_rfl) ?_ ?_
      · skip
        intro w h; refine ⟨by kernel_rfl, ?_⟩
        refine d_done (by kernel_rfl) ?_
        refine thn_n ?_
        refine c_seq ?_
        refine c_seq ?_
        refine c_reg ?_
        refine sq_p (.int .i64 (L.length : Int)) rfl (fun _ => by kernel_rfl) ?_
        refine sq_p (.bool (decide ((L.length : Int) = 0))) rfl (fun _ => by kernel_rfl) ?_
        refine lnil ?_
        refine thn_n ?_
        refine c_mid (midM (X := Int × Int × (Nat → Value)) w0 E (fun ⟨u3, u4, JM2⟩ => ⟨#[.pointer (some ⟨lb, 0, none⟩), .agg #[.int .i64 u1, .int .i64 u2], .int .i64 (L.length : Int), undef, .pointer (some ⟨k1, 0, none⟩), undef, .pointer (some ⟨k2, 0, none⟩), .pointer (some ⟨k4, 0, none⟩), .pointer (some ⟨k11, 0, none⟩), undef, undef, undef, undef, undef, undef, undef, undef, undef, .int .i64 (L.length : Int), .bool (decide ((L.length : Int) < 300)), .tuple #[], .pointer (some ⟨lb, 0, none⟩), .int .i64 (L.length : Int), .pointer (some ⟨lb, 0, none⟩), .int .i64 0, .agg #[.int .i64 (L.length : Int), .int .i64 0], .pointer (some ⟨lb, 0, none⟩), .int .i64 0, .agg #[.int .i64 u1, .int .i64 u2], .agg #[.int .i64 2, .int .i64 0, .int .i64 2, .int .i64 0, .int .i64 u1, .int .i64 u2], .int .i64 (L.length : Int), .bool (decide ((L.length : Int) = 0)), JM2 32, JM2 33, undef, undef, undef, undef, undef, undef, undef, undef, undef, undef, undef, undef, undef, undef, undef, undef, undef, undef, undef, undef, undef, undef, undef, undef, undef, undef, undef, undef, undef, undef, undef, undef, undef, undef, undef, undef, undef, undef, undef, undef, undef, undef, undef, undef, undef, undef, undef, undef, undef, undef, undef, undef, undef, undef, undef, undef, undef, undef, undef, undef, undef, undef, undef, undef, undef, undef, undef, undef, undef, undef, undef, undef, undef, undef, undef, undef, undef, undef, undef, undef, undef, undef, undef, undef, undef, undef, undef, undef, undef, undef, undef, undef, undef, undef, undef, undef, undef, undef, undef, undef, undef, undef, undef, undef, undef, undef, undef, undef, undef, undef, undef, undef, undef, undef], []⟩) (fun ⟨u3, u4, JM2⟩ => [rCell true lb [.string (ofT (numK 0 t)), .pointer (some ⟨b, 0, none⟩), .map (some fm)] 62, rCell true k11 [.int .i64 2, .int .i64 0, .int .i64 2, .int .i64 0, .int .i64 u3, .int .i64 u4] 51, rCell true k4 [.int .i64 (L.length : Int), .int .i64 0] 29, rCell true k2 [.int .i64 0, .int .i64 0] 29, rCell true k1 [.int .i64 u1, .int .i64 u2] 29, rCell true b [.pointer (some ⟨tb, 0, none⟩), .int .i64 (m : Int), .int .i64 0, .int .i64 0, .map (some dm), .map (some pm)] 46, rTab tb (psO m L) (gsO m L) vl vg T Sl Sg, rNds (lO m L), rMap true dm hk (ds.map dnKV), rDirs ds, rEnv B ad [10], rEnv B ad [4]]) (fun ⟨u3, u4, JM2⟩ => True)) ?_ ?_
        · skip
          refine c_cond (decide ((L.length : Int) = 0)) (by kernel_rfl) (fun hc12 => ?_) (fun hc12 => ?_)
          · skip
            have hc12 := of_decide_eq_true hc12
            refine c_reg ?_
            refine sq_q rfl h (g_ld 0 [.int .i64 (L.length : Int), .int .i64 0] (.agg #[.int .i64 (L.length : Int), .int .i64 0]) (by kernel_rfl) 2 rfl) ?_
            refine sq_p (.pointer (some ⟨k11, 4, none⟩)) rfl (fun _ => by kernel_rfl) ?_
            refine sq_st rfl 4 [.int .i64 (L.length : Int), .int .i64 0] [.int .i64 2, .int .i64 0, .int .i64 2, .int .i64 0, .int .i64 (L.length : Int), .int .i64 0] h 1 rfl (by kernel_rfl) ?_; intro w h
            refine lnil ?_
            refine mid_n ?_
            have hQ13 : True := trivial
            refine mid_end (fun j => ⟨(L.length : Int), 0, j⟩) hQ13 (by kernel_rfl) [0, 0, 0, 0, 0, 0, 0, 0, 0, 0, 0, 0] (by kernel_rfl) h
          · skip
            have hc12 := of_decide_eq_false hc12
            refine c_skip ?_
            refine mid_n ?_
            have hQ14 : True := trivial
            refine mid_end (fun j => ⟨u1, u2, j⟩) hQ14 (by kernel_rfl) [0, 0, 0, 0, 0, 0, 0, 0, 0, 0, 0, 0] (by kernel_rfl) h
        · skip
          rintro a_ w ⟨⟨u3, u4, JM2⟩, hG, rfl, h⟩
          refine thn_n ?_
          refine c_seq ?_
          refine c_reg ?_
          refine sq_p (.pointer (some ⟨lb, 0, none⟩)) rfl (fun _ => by kernel_rfl) ?_
          refine sq_q rfl h (g_ld 0 [.int .i64 (L.length : Int), .int .i64 0] (.agg #[.int .i64 (L.length : Int), .int .i64 0]) (by kernel_rfl) 2 rfl) ?_
          refine sq_q rfl h (g_ld 0 [.int .i64 2, .int .i64 0, .int .i64 2, .int .i64 0, .int .i64 u3, .int .i64 u4] (.agg #[.int .i64 2, .int .i64 0, .int .i64 2, .int .i64 0, .int .i64 u3, .int .i64 u4]) (by kernel_rfl) 1 rfl) ?_
          refine sq_call #[.pointer (some ⟨lb, 0, none⟩), .agg #[.int .i64 (L.length : Int), .int .i64 0], .agg #[.int .i64 2, .int .i64 0, .int .i64 2, .int .i64 0, .int .i64 u3, .int .i64 u4], .pointer none] [0, 4, 4, 4] rfl (lput_spec lb fm (ofT (numK 0 t)) b m tb dm pm vl vg T Sl Sg L hi 2 0 2 0 u3 u4) (fun _ => by kernel_rfl) h ?_; rintro v_ L_ w ⟨nb15, rfl, rfl⟩ h
          refine lnil ?_
          refine thn_n ?_
          refine c_seq ?_
          refine c_reg ?_
          refine sq_newm rfl sk (fun _ => by kernel_rfl) h ?_; intro k16 w h
          refine sq_p (.map (some k16)) rfl (fun _ => by kernel_rfl) ?_
          refine lnil ?_
          refine thn_n ?_
          refine c_seq ?_
          refine d_start 10 [1, 1, 4] (by kernel_rfl) h fun w h => ?_
          refine d_take 0 384 [1, 1, 4] rfl (v := .pointer (some ⟨lb, 0, none⟩)) (by kernel_rfl) (qp_thn qp_body) (yq (by kernel_rfl) (g_pure (v := .pointer (some ⟨lb, 0, none⟩)) fun _ => by kernel_rfl)) h (by kernel_rfl) ?_
          refine d_take 1 385 [1, 1, 4] rfl (v := .pointer (some ⟨lb, 0, none⟩)) (by kernel_rfl) (qp_thn qp_body) (yq (by kernel_rfl) (g_pure (v := .pointer (some ⟨lb, 0, none⟩)) fun _ => by kernel_rfl)) h (by kernel_rfl) ?_
          refine d_take 2 387 [1, 1, 4] rfl (v := .pointer (some ⟨lb, 1, none⟩)) (by kernel_rfl) (qp_thn qp_body) (yq (by kernel_rfl) (g_pure (v := .pointer (some ⟨lb, 1, none⟩)) fun _ => by kernel_rfl)) h (by kernel_rfl) ?_
          refine d_take 3 391 [1, 1, 4] rfl (v := .pointer (some ⟨b, 0, none⟩)) (by kernel_rfl) (qp_thn qp_body) (yq (by kernel_rfl) (g_ld 1 [.pointer (some ⟨b, 0, none⟩)] (.pointer (some ⟨b, 0, none⟩)) (by kernel_rfl) 0 rfl)) h (by kernel_rfl) ?_
          refine d_take 4 399 [1, 1, 4] rfl (v := .pointer (some ⟨b, 0, none⟩)) (by kernel_rfl) (qp_thn qp_body) (yq (by kernel_rfl) (g_pure (v := .pointer (some ⟨b, 0, none⟩)) fun _ => by kernel_rfl)) h (by kernel_rfl) ?_
          refine d_take 5 415 [1, 1, 4] rfl (v := .pointer (some ⟨b, 4, none⟩)) (by kernel_rfl) (qp_thn qp_body) (yq (by kernel_rfl) (g_pure (v := .pointer (some ⟨b, 4, none⟩)) fun _ => by kernel_rfl)) h (by kernel_rfl) ?_
          refine d_take 6 447 [1, 1, 4] rfl (v := .map (some dm)) (by kernel_rfl) (qp_thn qp_body) (yq (by kernel_rfl) (g_ld 4 [.map (some dm)] (.map (some dm)) (by kernel_rfl) 1 rfl)) h (by kernel_rfl) ?_
          refine d_take 7 383 [1, 1, 4] rfl (v := .agg #[.int .i64 (L.length : Int), .int .i64 0]) (by kernel_rfl) (qp_thn qp_body) (yq (by kernel_rfl) (g_ld 0 [.int .i64 (L.length : Int), .int .i64 0] (.agg #[.int .i64 (L.length : Int), .int .i64 0]) (by kernel_rfl) 2 rfl)) h (by kernel_rfl) ?_
          refine d_take 8 255 [1, 1, 4] rfl (v := .map (some k16)) (by kernel_rfl) (qp_thn qp_body) (yq (by kernel_rfl) (g_pure (v := .map (some k16)) fun _ => by kernel_rfl)) h (by kernel_rfl) ?_
          refine d_ready [9] (by kernel_rfl) rfl ?_
          refine ad_mapu [1, 1, 4] rfl (by kernel_rfl) (K := 29) (E := 48) keyHk ((L.length : Int), 0) (.map (some k16)) (by kernel_rfl) h 9 rfl ?_ ?_
          · skip
            intro w h; refine ⟨by kernel_rfl, ?_⟩
            refine d_done (by kernel_rfl) ?_
            refine thn_n ?_
            refine c_seq ?_
            refine c_seq ?_
            refine c_reg ?_
            refine sq_p (.pointer (some ⟨lb, 0, none⟩)) rfl (fun _ => by kernel_rfl) ?_
            refine sq_call #[.pointer (some ⟨lb, 0, none⟩)] [1] rfl (lnum0_spec lb b fm t (Nat.le_trans hz3 (by decide))) (fun _ => by kernel_rfl) h ?_; rintro v_ L_ w ⟨rfl, rfl⟩ h
            refine sq_p (.int .i64 0) rfl (fun _ => by kernel_rfl) ?_
            refine lnil ?_
            refine thn_n ?_
            refine c_block ?_
            refine c_unroll 1 ?_
            refine c_seq ?_
            refine c_reg ?_
            refine sq_p (.bool false) rfl (fun _ => by kernel_rfl) ?_
            refine lnil ?_
            refine thn_n ?_
            refine c_seq ?_
            refine c_false (by kernel_rfl) ?_
            refine c_exit ?_
            refine thn_e (unr_e (blk_e (thn_n ?_)))
            refine c_seq ?_
            refine c_reg ?_
            refine sq_q rfl h (g_ld 0 [.int .i64 (L.length : Int), .int .i64 0] (.agg #[.int .i64 (L.length : Int), .int .i64 0]) (by kernel_rfl) 6 rfl) ?_
            refine sq_st rfl 0 [.int .i64 (L.length : Int), .int .i64 0] [.int .i64 (L.length : Int), .int .i64 0] h 7 rfl (by kernel_rfl) ?_; intro w h
            refine lnil ?_
            refine thn_n ?_
            refine c_ret ?_
            have h := h.pickE (M := [rMap true k16 sk [], rDirs ds, rCell true lb [.string (ofT t), .pointer (some ⟨b, 0, none⟩), .map (some fm)] 62, rCell true b [.pointer (some ⟨tb, 0, none⟩), .int .i64 (m : Int), .int .i64 0, .int .i64 0, .map (some dm), .map (some pm)] 46, rTab tb (psO m (L ++ [(⟨nb15, 2, 0, 2, 0, u3, u4, none⟩ : ND)])) (gsO m (L ++ [(⟨nb15, 2, 0, 2, 0, u3, u4, none⟩ : ND)])) vl vg T Sl Sg, rNds (lO m (L ++ [(⟨nb15, 2, 0, 2, 0, u3, u4, none⟩ : ND)])), rCell true k11 [.int .i64 2, .int .i64 0, .int .i64 2, .int .i64 0, .int .i64 u3, .int .i64 u4] 51, rCell true k4 [.int .i64 (L.length : Int), .int .i64 0] 29, rCell true k2 [.int .i64 (L.length : Int), .int .i64 0] 29, rCell true k1 [.int .i64 u1, .int .i64 u2] 29, rMap true dm hk (aput (ds.map dnKV) ((L.length : Int), 0) (.map (some k16))), rEnv B ad [10], rEnv B ad [4]]) [1, 9, 0, 0, 0, 0, 0, 0, 0, 0, 0, 0, 0] (by kernel_rfl)
            have h := Own.dirAdd (ds := ds) (⟨((L.length : Int), 0), k16, []⟩ : DN) h
            have h : Own w0 E [rDirs (ds ++ [(⟨((L.length : Int), 0), k16, []⟩ : DN)]), rCell true lb [.string (ofT t), .pointer (some ⟨b, 0, none⟩), .map (some fm)] 62, rCell true b [.pointer (some ⟨tb, 0, none⟩), .int .i64 (m : Int), .int .i64 0, .int .i64 0, .map (some dm), .map (some pm)] 46, rTab tb (psO m (L ++ [(⟨nb15, 2, 0, 2, 0, u3, u4, none⟩ : ND)])) (gsO m (L ++ [(⟨nb15, 2, 0, 2, 0, u3, u4, none⟩ : ND)])) vl vg T Sl Sg, rNds (lO m (L ++ [(⟨nb15, 2, 0, 2, 0, u3, u4, none⟩ : ND)])), rCell true k11 [.int .i64 2, .int .i64 0, .int .i64 2, .int .i64 0, .int .i64 u3, .int .i64 u4] 51, rCell true k4 [.int .i64 (L.length : Int), .int .i64 0] 29, rCell true k2 [.int .i64 (L.length : Int), .int .i64 0] 29, rCell true k1 [.int .i64 u1, .int .i64 u2] 29, rMap true dm hk (aput (ds.map dnKV) ((L.length : Int), 0) (.map (some k16))), rEnv B ad [10], rEnv B ad [4]] w := h
            rw [show aput (ds.map dnKV) ((L.length : Int), 0) (.map (some k16)) = (ds ++ [(⟨((L.length : Int), 0), k16, []⟩ : DN)]).map dnKV from dir_new (es := []) (hH.new (Nat.le_of_eq hds))] at h
            have h : Own w0 E [rDirs (ds ++ [(⟨((L.length : Int), 0), k16, []⟩ : DN)]), rCell true lb [.string (ofT t), .pointer (some ⟨b, 0, none⟩), .map (some fm)] 62, rCell true b [.pointer (some ⟨tb, 0, none⟩), .int .i64 (m : Int), .int .i64 0, .int .i64 0, .map (some dm), .map (some pm)] 46, rTab tb (psO m (L ++ [(⟨nb15, 2, 0, 2, 0, u3, u4, none⟩ : ND)])) (gsO m (L ++ [(⟨nb15, 2, 0, 2, 0, u3, u4, none⟩ : ND)])) vl vg T Sl Sg, rNds (lO m (L ++ [(⟨nb15, 2, 0, 2, 0, u3, u4, none⟩ : ND)])), rCell true k11 [.int .i64 2, .int .i64 0, .int .i64 2, .int .i64 0, .int .i64 u3, .int .i64 u4] 51, rCell true k4 [.int .i64 (L.length : Int), .int .i64 0] 29, rCell true k2 [.int .i64 (L.length : Int), .int .i64 0] 29, rCell true k1 [.int .i64 u1, .int .i64 u2] 29, rMap true dm hk ((ds ++ [(⟨((L.length : Int), 0), k16, []⟩ : DN)]).map dnKV), rEnv B ad [10], rEnv B ad [4]] w := h
            refine ret_end [.agg #[.int .i64 (L.length : Int), .int .i64 0]] [1, 1, 1, 1, 5, 0, 4, 4] h (by kernel_rfl) (res_c 0 [.int .i64 (L.length : Int), .int .i64 0] (.agg #[.int .i64 (L.length : Int), .int .i64 0]) 7 rfl (by kernel_rfl) res_n) ?_
            exact ⟨[_], [_], Seg.one rfl rfl rfl rfl rfl rfl, rfl, rfl⟩
          exact ad_nil
      exact ad_nil
    exact ad_nil
  exact ad_nil
theorem ldir_next {B : Nat} (ad : Nat → Addr) (b m tb dm pm : Nat) (vl vg : Value) (T : TypeId) (Sl Sg : Nat → Prop) (L : List ND) (ds : List DN) (lb fm : Nat) (hds : ds.length = L.length) (hH : HdS ds) (hm3 : m ≤ 300) (u1 u2 : Int) (t : Tx) (r : Nat) (hroom : L.length + (r + 1) < m) (hrec : ∀ (L2 : List ND) (ds2 : List DN), L2.length = L.length + 1 → ds2.length = L.length + 1 → HdS ds2 → Spec Tryz.prog 24 #[.pointer (some ⟨lb, 0, none⟩), .agg #[.int .i64 (L.length : Int), .int .i64 0], .int .i64 ((L.length + 1 : Nat) : Int)] [rCell true lb [.string (ofT (bodyK r (L.length + 1) t)), .pointer (some ⟨b, 0, none⟩), .map (some fm)] 62, rCell true b [.pointer (some ⟨tb, 0, none⟩), .int .i64 (m : Int), .int .i64 0, .int .i64 0, .map (some dm), .map (some pm)] 46, rTab tb (psO m L2) (gsO m L2) vl vg T Sl Sg, rNds (lO m L2), rMap true dm hk (ds2.map dnKV), rDirs ds2, rEnv B ad [10], rEnv B ad [4]] fun u X => ∃ Ls Ds, Seg (L.length + 1) r Ls Ds ∧ u = .agg #[.int .i64 ((L.length + 1 : Nat) : Int), .int .i64 0] ∧ X = [rCell true lb [.string (ofT t), .pointer (some ⟨b, 0, none⟩), .map (some fm)] 62, rCell true b [.pointer (some ⟨tb, 0, none⟩), .int .i64 (m : Int), .int .i64 0, .int .i64 0, .map (some dm), .map (some pm)] 46, rTab tb (psO m (L2 ++ Ls)) (gsO m (L2 ++ Ls)) vl vg T Sl Sg, rNds (lO m (L2 ++ Ls)), rMap true dm hk ((ds2 ++ Ds).map dnKV), rDirs (ds2 ++ Ds), rEnv B ad [10], rEnv B ad [4]]) (hz0 : (numK L.length (numK 0 (numK 1 (numK 1 (itK [100] (itK dirT (bodyK r (L.length + 1) t))))))).length ≤ 80000000)  : Spec Tryz.prog 24 #[.pointer (some ⟨lb, 0, none⟩), .agg #[.int .i64 u1, .int .i64 u2], .int .i64 (L.length : Int)] [rCell true lb [.string (ofT (numK L.length (numK 0 (numK 1 (numK 1 (itK [100] (itK dirT (bodyK r (L.length + 1) t)))))))), .pointer (some ⟨b, 0, none⟩), .map (some fm)] 62, rCell true b [.pointer (some ⟨tb, 0, none⟩), .int .i64 (m : Int), .int .i64 0, .int .i64 0, .map (some dm), .map (some pm)] 46, rTab tb (psO m L) (gsO m L) vl vg T Sl Sg, rNds (lO m L), rMap true dm hk (ds.map dnKV), rDirs ds, rEnv B ad [10], rEnv B ad [4]] (fun u X => ∃ Ls Ds, Seg L.length (r + 1) Ls Ds ∧ u = .agg #[.int .i64 (L.length : Int), .int .i64 0] ∧ X = [rCell true lb [.string (ofT t), .pointer (some ⟨b, 0, none⟩), .map (some fm)] 62, rCell true b [.pointer (some ⟨tb, 0, none⟩), .int .i64 (m : Int), .int .i64 0, .int .i64 0, .map (some dm), .map (some pm)] 46, rTab tb (psO m (L ++ Ls)) (gsO m (L ++ Ls)) vl vg T Sl Sg, rNds (lO m (L ++ Ls)), rMap true dm hk ((ds ++ Ds).map dnKV), rDirs (ds ++ Ds), rEnv B ad [10], rEnv B ad [4]]) := by
  have hz1 : (numK 0 (numK 1 (numK 1 (itK [100] (itK dirT (bodyK r (L.length + 1) t)))))).length ≤ 80000000 := Nat.le_trans (num_suf _ _) hz0
  have hz2 : (numK 1 (numK 1 (itK [100] (itK dirT (bodyK r (L.length + 1) t))))).length ≤ 80000000 := Nat.le_trans (num_suf _ _) hz1
  have hz3 : (numK 1 (itK [100] (itK dirT (bodyK r (L.length + 1) t)))).length ≤ 80000000 := Nat.le_trans (num_suf _ _) hz2
  have hz4 : (itK [100] (itK dirT (bodyK r (L.length + 1) t))).length ≤ 80000000 := Nat.le_trans (num_suf _ _) hz3
  have hz5 : (itK dirT (bodyK r (L.length + 1) t)).length ≤ 80000000 := Nat.le_trans (it_suf _ _) hz4
  have hz6 : (bodyK r (L.length + 1) t).length ≤ 80000000 := Nat.le_trans (it_suf _ _) hz5
  have hi : L.length < m := by omega
  refine spec_of (#[.pointer (some ⟨lb, 0, none⟩), .agg #[.int .i64 u1, .int .i64 u2], .int .i64 (L.length : Int), undef, undef, undef, undef, undef, undef, undef, undef, undef, undef, undef, undef, undef, undef, undef, undef, undef, undef, undef, undef, undef, undef, undef, undef, undef, undef, undef, undef, undef, undef, undef, undef, undef, undef, undef, undef, undef, undef, undef, undef, undef, undef, undef, undef, undef, undef, undef, undef, undef, undef, undef, undef, undef, undef, undef, undef, undef, undef, undef, undef, undef, undef, undef, undef, undef, undef, undef, undef, undef, undef, undef, undef, undef, undef, undef, undef, undef, undef, undef, undef, undef, undef, undef, undef, undef, undef, undef, undef, undef, undef, undef, undef, undef, undef, undef, undef, undef, undef, undef, undef, undef, undef, undef, undef, undef, undef, undef, undef, undef, undef, undef, undef, undef, undef, undef, undef, undef, undef, undef, undef, undef, undef, undef, undef, undef, undef, undef, undef, undef, undef, undef, undef, undef, undef, undef, undef, undef, undef, undef, undef, undef, undef, undef, undef, undef]) Tryz.func24 rfl (by kernel_rfl) fun E w0 w h => ?_
  refine c_seq ?_
  refine c_reg ?_
  refine sq_new rfl (fun b => .pointer (some ⟨b, 0, none⟩)) [.int .i64 u1, .int .i64 u2] 29 (fun _ => by kernel_rfl) h ?_; intro k1 w h
  refine sq_new rfl (fun b => .pointer (some ⟨b, 0, none⟩)) [.int .i64 0, .int .i64 0] 29 (fun _ => by kernel_rfl) h ?_; intro k2 w h
  refine lnil ?_
  refine thn_n ?_
  refine c_seq ?_
  refine c_reg ?_
  refine sq_p (.int .i64 (L.length : Int)) rfl (fun _ => by kernel_rfl) ?_
  refine sq_p (.bool (decide ((L.length : Int) < 300))) rfl (fun _ => by kernel_rfl) ?_
  have hm3 : decide ((L.length : Int) < 300) = true := by first | (simp; done) | (simp; omega)
  refine sq_call #[.bool (decide ((L.length : Int) < 300))] [] rfl (mustB_spec (decide ((L.length : Int) < 300)) hm3) (fun _ => by kernel_rfl) h ?_; rintro v_ L_ w ⟨rfl, rfl⟩ h
  refine lnil ?_
  refine thn_n ?_
  refine c_seq ?_
  refine c_reg ?_
  refine sq_p (.pointer (some ⟨lb, 0, none⟩)) rfl (fun _ => by kernel_rfl) ?_
  refine sq_call #[.pointer (some ⟨lb, 0, none⟩)] [2] rfl (lnum_spec lb b fm L.length (numK 0 (numK 1 (numK 1 (itK [100] (itK dirT (bodyK r (L.length + 1) t)))))) (by omega) (Nat.le_trans hz0 (by decide))) (fun _ => by kernel_rfl) h ?_; rintro v_ L_ w ⟨rfl, rfl⟩ h
  refine sq_p (.pointer (some ⟨lb, 0, none⟩)) rfl (fun _ => by kernel_rfl) ?_
  refine sq_call #[.pointer (some ⟨lb, 0, none⟩)] [0] rfl (lnum0_spec lb b fm (numK 1 (numK 1 (itK [100] (itK dirT (bodyK r (L.length + 1) t))))) (Nat.le_trans hz1 (by decide))) (fun _ => by kernel_rfl) h ?_; rintro v_ L_ w ⟨rfl, rfl⟩ h
  refine sq_p (.agg #[.int .i64 (L.length : Int), .int .i64 0]) rfl (fun _ => by kernel_rfl) ?_
  refine sq_new rfl (fun b => .pointer (some ⟨b, 0, none⟩)) [.int .i64 0, .int .i64 0] 29 (fun _ => by kernel_rfl) h ?_; intro k4 w h
  refine sq_st rfl 0 [.int .i64 (L.length : Int), .int .i64 0] [.int .i64 (L.length : Int), .int .i64 0] h 0 rfl (by kernel_rfl) ?_; intro w h
  refine lnil ?_
  refine thn_n ?_
  refine c_seq ?_
  refine d_start 6 [3] (by kernel_rfl) h fun w h => ?_
  refine d_take 0 20 [3] rfl (v := .pointer (some ⟨lb, 0, none⟩)) (by kernel_rfl) (qp_thn qp_body) (yq (by kernel_rfl) (g_pure (v := .pointer (some ⟨lb, 0, none⟩)) fun _ => by kernel_rfl)) h (by kernel_rfl) ?_
  refine d_take 2 19 [3] rfl (v := .agg #[.int .i64 u1, .int .i64 u2]) (by kernel_rfl) (qp_thn qp_body) (yq (by kernel_rfl) (g_ld 0 [.int .i64 u1, .int .i64 u2] (.agg #[.int .i64 u1, .int .i64 u2]) (by kernel_rfl) 0 rfl)) h (by kernel_rfl) ?_
  refine d_ready [1, 4] (by kernel_rfl) rfl ?_
  refine ad_call #[.pointer (some ⟨lb, 0, none⟩)] [1] [3] rfl (by kernel_rfl) (lnum1_spec lb b fm (numK 1 (itK [100] (itK dirT (bodyK r (L.length + 1) t)))) (Nat.le_trans hz2 (by decide))) (fun _ => by kernel_rfl) h ?_ ?_
  · skip
    rintro v_ L_ w ⟨rfl, rfl⟩ h
    refine ⟨by kernel_rfl, ?_⟩
    refine d_take 3 23 [3] rfl (v := .agg #[.int .i64 2, .int .i64 0, .int .i64 2, .int .i64 1, .int .i64 u1, .int .i64 u2]) (by kernel_rfl) (qp_thn qp_body) (yq (by kernel_rfl) (g_pure (v := .agg #[.int .i64 2, .int .i64 0, .int .i64 2, .int .i64 1, .int .i64 u1, .int .i64 u2]) fun _ => by kernel_rfl)) h (by kernel_rfl) ?_
    refine d_ready [4] (by kernel_rfl) rfl ?_
    refine ad_new [4] rfl (by kernel_rfl) (fun b => .pointer (some ⟨b, 0, none⟩)) [.int .i64 0, .int .i64 0, .int .i64 0, .int .i64 0, .int .i64 0, .int .i64 0] 51 (fun _ => by kernel_rfl) h ?_ ?_
    · skip
      intro k5 w h; refine ⟨by kernel_rfl, ?_⟩
      refine d_ready [5] (by kernel_rfl) rfl ?_
      refine ad_st [4] rfl (by kernel_rfl) 0 [.int .i64 2, .int .i64 0, .int .i64 2, .int .i64 1, .int .i64 u1, .int .i64 u2] [.int .i64 2, .int .i64 0, .int .i64 2, .int .i64 1, .int .i64 u1, .int .i64 u2] h 0 rfl (by kernel_rfl) ?_ ?_
      · skip
        intro w h; refine ⟨by kernel_rfl, ?_⟩
        refine d_done (by kernel_rfl) ?_
        refine thn_n ?_
        refine c_seq ?_
        refine c_seq ?_
        refine c_reg ?_
        refine sq_p (.int .i64 (L.length : Int)) rfl (fun _ => by kernel_rfl) ?_
        refine sq_p (.bool (decide ((L.length : Int) = 0))) rfl (fun _ => by kernel_rfl) ?_
        refine lnil ?_
        refine thn_n ?_
        refine c_mid (midM (X := Int × Int × (Nat → Value)) w0 E (fun ⟨u3, u4, JM1⟩ => ⟨#[.pointer (some ⟨lb, 0, none⟩), .agg #[.int .i64 u1, .int .i64 u2], .int .i64 (L.length : Int), undef, .pointer (some ⟨k1, 0, none⟩), undef, .pointer (some ⟨k2, 0, none⟩), .pointer (some ⟨k4, 0, none⟩), .pointer (some ⟨k5, 0, none⟩), undef, undef, undef, undef, undef, undef, undef, undef, undef, .int .i64 (L.length : Int), .bool (decide ((L.length : Int) < 300)), .tuple #[], .pointer (some ⟨lb, 0, none⟩), .int .i64 (L.length : Int), .pointer (some ⟨lb, 0, none⟩), .int .i64 0, .agg #[.int .i64 (L.length : Int), .int .i64 0], .pointer (some ⟨lb, 0, none⟩), .int .i64 1, .agg #[.int .i64 u1, .int .i64 u2], .agg #[.int .i64 2, .int .i64 0, .int .i64 2, .int .i64 1, .int .i64 u1, .int .i64 u2], .int .i64 (L.length : Int), .bool (decide ((L.length : Int) = 0)), JM1 32, JM1 33, undef, undef, undef, undef, undef, undef, undef, undef, undef, undef, undef, undef, undef, undef, undef, undef, undef, undef, undef, undef, undef, undef, undef, undef, undef, undef, undef, undef, undef, undef, undef, undef, undef, undef, undef, undef, undef, undef, undef, undef, undef, undef, undef, undef, undef, undef, undef, undef, undef, undef, undef, undef, undef, undef, undef, undef, undef, undef, undef, undef, undef, undef, undef, undef, undef, undef, undef, undef, undef, undef, undef, undef, undef, undef, undef, undef, undef, undef, undef, undef, undef, undef, undef, undef, undef, undef, undef, undef, undef, undef, undef, undef, undef, undef, undef, undef, undef, undef, undef, undef, undef, undef, undef, undef, undef, undef, undef, undef, undef, undef, undef, undef, undef, undef], []⟩) (fun ⟨u3, u4, JM1⟩ => [rCell true k5 [.int .i64 2, .int .i64 0, .int .i64 2, .int .i64 1, .int .i64 u3, .int .i64 u4] 51, rCell true lb [.string (ofT (numK 1 (itK [100] (itK dirT (bodyK r (L.length + 1) t))))), .pointer (some ⟨b, 0, none⟩), .map (some fm)] 62, rCell true k4 [.int .i64 (L.length : Int), .int .i64 0] 29, rCell true k2 [.int .i64 0, .int .i64 0] 29, rCell true k1 [.int .i64 u1, .int .i64 u2] 29, rCell true b [.pointer (some ⟨tb, 0, none⟩), .int .i64 (m : Int), .int .i64 0, .int .i64 0, .map (some dm), .map (some pm)] 46, rTab tb (psO m L) (gsO m L) vl vg T Sl Sg, rNds (lO m L), rMap true dm hk (ds.map dnKV), rDirs ds, rEnv B ad [10], rEnv B ad [4]]) (fun ⟨u3, u4, JM1⟩ => True)) ?_ ?_
        · skip
          refine c_cond (decide ((L.length : Int) = 0)) (by kernel_rfl) (fun hc6 => ?_) (fun hc6 => ?_)
          · skip
            have hc6 := of_decide_eq_true hc6
            refine c_reg ?_
            refine sq_q rfl h (g_ld 0 [.int .i64 (L.length : Int), .int .i64 0] (.agg #[.int .i64 (L.length : Int), .int .i64 0]) (by kernel_rfl) 2 rfl) ?_
            refine sq_p (.pointer (some ⟨k5, 4, none⟩)) rfl (fun _ => by kernel_rfl) ?_
            refine sq_st rfl 4 [.int .i64 (L.length : Int), .int .i64 0] [.int .i64 2, .int .i64 0, .int .i64 2, .int .i64 1, .int .i64 (L.length : Int), .int .i64 0] h 0 rfl (by kernel_rfl) ?_; intro w h
            refine lnil ?_
            refine mid_n ?_
            have hQ7 : True := trivial
            refine mid_end (fun j => ⟨(L.length : Int), 0, j⟩) hQ7 (by kernel_rfl) [0, 0, 0, 0, 0, 0, 0, 0, 0, 0, 0, 0] (by kernel_rfl) h
          · skip
            have hc6 := of_decide_eq_false hc6
            refine c_skip ?_
            refine mid_n ?_
            have hQ8 : True := trivial
            refine mid_end (fun j => ⟨u1, u2, j⟩) hQ8 (by kernel_rfl) [0, 0, 0, 0, 0, 0, 0, 0, 0, 0, 0, 0] (by kernel_rfl) h
        · skip
          rintro a_ w ⟨⟨u3, u4, JM1⟩, hG, rfl, h⟩
          refine thn_n ?_
          refine c_seq ?_
          refine c_reg ?_
          refine sq_p (.pointer (some ⟨lb, 0, none⟩)) rfl (fun _ => by kernel_rfl) ?_
          refine sq_q rfl h (g_ld 0 [.int .i64 (L.length : Int), .int .i64 0] (.agg #[.int .i64 (L.length : Int), .int .i64 0]) (by kernel_rfl) 2 rfl) ?_
          refine sq_q rfl h (g_ld 0 [.int .i64 2, .int .i64 0, .int .i64 2, .int .i64 1, .int .i64 u3, .int .i64 u4] (.agg #[.int .i64 2, .int .i64 0, .int .i64 2, .int .i64 1, .int .i64 u3, .int .i64 u4]) (by kernel_rfl) 0 rfl) ?_
          refine sq_call #[.pointer (some ⟨lb, 0, none⟩), .agg #[.int .i64 (L.length : Int), .int .i64 0], .agg #[.int .i64 2, .int .i64 0, .int .i64 2, .int .i64 1, .int .i64 u3, .int .i64 u4], .pointer none] [1, 4, 4, 4] rfl (lput_spec lb fm (ofT (numK 1 (itK [100] (itK dirT (bodyK r (L.length + 1) t))))) b m tb dm pm vl vg T Sl Sg L hi 2 0 2 1 u3 u4) (fun _ => by kernel_rfl) h ?_; rintro v_ L_ w ⟨nb9, rfl, rfl⟩ h
          refine lnil ?_
          refine thn_n ?_
          refine c_seq ?_
          refine c_reg ?_
          refine sq_newm rfl sk (fun _ => by kernel_rfl) h ?_; intro k10 w h
          refine sq_p (.map (some k10)) rfl (fun _ => by kernel_rfl) ?_
          refine lnil ?_
          refine thn_n ?_
          refine c_seq ?_
          refine d_start 10 [1, 1, 4] (by kernel_rfl) h fun w h => ?_
          refine d_take 0 384 [1, 1, 4] rfl (v := .pointer (some ⟨lb, 0, none⟩)) (by kernel_rfl) (qp_thn qp_body) (yq (by kernel_rfl) (g_pure (v := .pointer (some ⟨lb, 0, none⟩)) fun _ => by kernel_rfl)) h (by kernel_rfl) ?_
          refine d_take 1 385 [1, 1, 4] rfl (v := .pointer (some ⟨lb, 0, none⟩)) (by kernel_rfl) (qp_thn qp_body) (yq (by kernel_rfl) (g_pure (v := .pointer (some ⟨lb, 0, none⟩)) fun _ => by kernel_rfl)) h (by kernel_rfl) ?_
          refine d_take 2 387 [1, 1, 4] rfl (v := .pointer (some ⟨lb, 1, none⟩)) (by kernel_rfl) (qp_thn qp_body) (yq (by kernel_rfl) (g_pure (v := .pointer (some ⟨lb, 1, none⟩)) fun _ => by kernel_rfl)) h (by kernel_rfl) ?_
          refine d_take 3 391 [1, 1, 4] rfl (v := .pointer (some ⟨b, 0, none⟩)) (by kernel_rfl) (qp_thn qp_body) (yq (by kernel_rfl) (g_ld 1 [.pointer (some ⟨b, 0, none⟩)] (.pointer (some ⟨b, 0, none⟩)) (by kernel_rfl) 0 rfl)) h (by kernel_rfl) ?_
          refine d_take 4 399 [1, 1, 4] rfl (v := .pointer (some ⟨b, 0, none⟩)) (by kernel_rfl) (qp_thn qp_body) (yq (by kernel_rfl) (g_pure (v := .pointer (some ⟨b, 0, none⟩)) fun _ => by kernel_rfl)) h (by kernel_rfl) ?_
          refine d_take 5 415 [1, 1, 4] rfl (v := .pointer (some ⟨b, 4, none⟩)) (by kernel_rfl) (qp_thn qp_body) (yq (by kernel_rfl) (g_pure (v := .pointer (some ⟨b, 4, none⟩)) fun _ => by kernel_rfl)) h (by kernel_rfl) ?_
          refine d_take 6 447 [1, 1, 4] rfl (v := .map (some dm)) (by kernel_rfl) (qp_thn qp_body) (yq (by kernel_rfl) (g_ld 4 [.map (some dm)] (.map (some dm)) (by kernel_rfl) 1 rfl)) h (by kernel_rfl) ?_
          refine d_take 7 383 [1, 1, 4] rfl (v := .agg #[.int .i64 (L.length : Int), .int .i64 0]) (by kernel_rfl) (qp_thn qp_body) (yq (by kernel_rfl) (g_ld 0 [.int .i64 (L.length : Int), .int .i64 0] (.agg #[.int .i64 (L.length : Int), .int .i64 0]) (by kernel_rfl) 2 rfl)) h (by kernel_rfl) ?_
          refine d_take 8 255 [1, 1, 4] rfl (v := .map (some k10)) (by kernel_rfl) (qp_thn qp_body) (yq (by kernel_rfl) (g_pure (v := .map (some k10)) fun _ => by kernel_rfl)) h (by kernel_rfl) ?_
          refine d_ready [9] (by kernel_rfl) rfl ?_
          refine ad_mapu [1, 1, 4] rfl (by kernel_rfl) (K := 29) (E := 48) keyHk ((L.length : Int), 0) (.map (some k10)) (by kernel_rfl) h 9 rfl ?_ ?_
          · skip
            intro w h; refine ⟨by kernel_rfl, ?_⟩
            refine d_done (by kernel_rfl) ?_
            refine thn_n ?_
            refine c_seq ?_
            refine c_seq ?_
            refine c_reg ?_
            refine sq_p (.pointer (some ⟨lb, 0, none⟩)) rfl (fun _ => by kernel_rfl) ?_
            refine sq_call #[.pointer (some ⟨lb, 0, none⟩)] [1] rfl (lnum1_spec lb b fm (itK [100] (itK dirT (bodyK r (L.length + 1) t))) (Nat.le_trans hz3 (by decide))) (fun _ => by kernel_rfl) h ?_; rintro v_ L_ w ⟨rfl, rfl⟩ h
            refine sq_p (.int .i64 0) rfl (fun _ => by kernel_rfl) ?_
            refine lnil ?_
            refine thn_n ?_
            refine c_block ?_
            refine c_unroll 1 ?_
            refine c_seq ?_
            refine c_reg ?_
            refine sq_p (.bool true) rfl (fun _ => by kernel_rfl) ?_
            refine lnil ?_
            refine thn_n ?_
            refine c_seq ?_
            refine c_true (by kernel_rfl) ?_
            refine c_skip ?_
            refine thn_n ?_
            refine c_seq ?_
            refine c_block ?_
            refine c_seq ?_
            refine c_reg ?_
            refine sq_p (.pointer (some ⟨lb, 0, none⟩)) rfl (fun _ => by kernel_rfl) ?_
            refine sq_call #[.pointer (some ⟨lb, 0, none⟩)] [0] rfl (ltext_spec lb b fm [100] (itK dirT (bodyK r (L.length + 1) t)) (by decide) (Nat.le_trans hz4 (by decide))) (fun _ => by kernel_rfl) h ?_; rintro v_ L_ w ⟨rfl, rfl⟩ h
            refine sq_p (.string (⟨#[100]⟩ : ByteArray)) rfl (fun _ => by kernel_rfl) ?_
            refine lnil ?_
            refine thn_n ?_
            refine c_seq ?_
            refine c_reg ?_
            refine sq_p (.map (some k10)) rfl (fun _ => by kernel_rfl) ?_
            refine sq_p (.string (⟨#[100]⟩ : ByteArray)) rfl (fun _ => by kernel_rfl) ?_
            refine sq_q rfl h (g_eq (v' := .tuple #[.agg #[.int .i64 0, .int .i64 0], .bool false]) (g_look (K := 9) (E := 29) (z := (.agg #[.int .i64 0, .int .i64 0])) (kv := []) (ok := true) (keyStr (by kernel_rfl)) (⟨#[100]⟩ : ByteArray) (by kernel_rfl) (fun _ => by kernel_rfl) 1 rfl) (by rfl)) ?_
            refine sq_p (.tuple #[.agg #[.int .i64 0, .int .i64 0], .bool false]) rfl (fun _ => by kernel_rfl) ?_
            refine sq_p (.agg #[.int .i64 0, .int .i64 0]) rfl (fun _ => by kernel_rfl) ?_
            refine sq_p (.bool false) rfl (fun _ => by kernel_rfl) ?_
            refine sq_new rfl (fun b => .pointer (some ⟨b, 0, none⟩)) [.int .i64 0, .int .i64 0] 29 (fun _ => by kernel_rfl) h ?_; intro k11 w h
            refine sq_st rfl 0 [.int .i64 0, .int .i64 0] [.int .i64 0, .int .i64 0] h 0 rfl (by kernel_rfl) ?_; intro w h
            refine sq_p (.bool false) rfl (fun _ => by kernel_rfl) ?_
            refine lnil ?_
            refine thn_n ?_
            refine c_seq ?_
            refine c_reg ?_
            refine sq_p (.string (⟨#[100]⟩ : ByteArray)) rfl (fun _ => by kernel_rfl) ?_
            refine sq_call #[.string (⟨#[100]⟩ : ByteArray)] [13] rfl (checkY_spec ad ⟨#[100]⟩ (by decide) nm_d_ok) (fun _ => by kernel_rfl) h ?_; rintro v_ L_ w ⟨rfl, rfl⟩ h
            refine sq_p (.bool true) rfl (fun _ => by kernel_rfl) ?_
            refine sq_p (.bool true) rfl (fun _ => by kernel_rfl) ?_
            refine sq_p (.bool false) (by kernel_rfl) (fun _ => by kernel_rfl) ?_
            refine sq_p (.bool true) (by kernel_rfl) (fun _ => by kernel_rfl) ?_
            refine sq_p (.bool true) rfl (fun _ => by kernel_rfl) ?_
            refine sq_p (.bool true) rfl (fun _ => by kernel_rfl) ?_
            refine sq_p (.map (some k10)) (by kernel_rfl) (fun _ => by kernel_rfl) ?_
            refine sq_q (by kernel_rfl) h (g_eq (v := .int .i64 ((([] : List (ByteArray × Value)).length : Nat) : Int)) (v' := .int .i64 0) (g_lenm (K := 9) (E := 29) (by kernel_rfl) 3 rfl) rfl) ?_
            refine sq_p (.bool true) (by kernel_rfl) (fun _ => by kernel_rfl) ?_
            refine sq_p (.bool true) rfl (fun _ => by kernel_rfl) ?_
            refine sq_call #[.bool true] [] rfl (must_spec) (fun _ => by kernel_rfl) h ?_; rintro v_ L_ w ⟨rfl, rfl⟩ h
            refine lnil ?_
            refine thn_n ?_
            refine c_seq ?_
            refine c_reg ?_
            refine sq_p (.pointer (some ⟨lb, 0, none⟩)) rfl (fun _ => by kernel_rfl) ?_
            refine sq_call #[.pointer (some ⟨lb, 0, none⟩)] [2] rfl (ltext_spec lb b fm dirT (bodyK r (L.length + 1) t) (by decide) (Nat.le_trans hz5 (by decide))) (fun _ => by kernel_rfl) h ?_; rintro v_ L_ w ⟨rfl, rfl⟩ h
            refine sq_p (.string (⟨#[100, 105, 114]⟩ : ByteArray)) rfl (fun _ => by kernel_rfl) ?_
            refine lnil ?_
            refine thn_n ?_
            refine c_seq ?_
            refine c_reg ?_
            refine sq_p (.string (⟨#[100, 105, 114]⟩ : ByteArray)) rfl (fun _ => by kernel_rfl) ?_
            refine lnil ?_
            refine thn_n ?_
            refine c_block ?_
            refine c_seq ?_
            refine c_reg ?_
            refine sq_q rfl h (g_eq (v := .bool ((⟨#[100, 105, 114]⟩ : ByteArray).toList == (⟨#[100, 105, 114]⟩ : ByteArray).toList)) (v' := .bool (decide ((⟨#[100, 105, 114]⟩ : ByteArray) = (⟨#[100, 105, 114]⟩ : ByteArray)))) (g_pure fun _ => by kernel_rfl) beqS) ?_
            refine sq_p (.bool (decide ((⟨#[100, 105, 114]⟩ : ByteArray) = (⟨#[100, 105, 114]⟩ : ByteArray)))) rfl (fun _ => by kernel_rfl) ?_
            refine lnil ?_
            refine thn_n ?_
            refine c_cond (decide ((⟨#[100, 105, 114]⟩ : ByteArray) = (⟨#[100, 105, 114]⟩ : ByteArray))) (by kernel_rfl) (fun hc12 => ?_) (fun hc12 => ?_)
            · skip
              have hc12 := of_decide_eq_true hc12
              refine c_seq ?_
              have h := h.pickE (M := [rMap true k10 sk [], rDirs ds, rCell true lb [.string (ofT (bodyK r (L.length + 1) t)), .pointer (some ⟨b, 0, none⟩), .map (some fm)] 62, rEnv B ad [4], rCell true k11 [.int .i64 0, .int .i64 0] 29, rCell true b [.pointer (some ⟨tb, 0, none⟩), .int .i64 (m : Int), .int .i64 0, .int .i64 0, .map (some dm), .map (some pm)] 46, rTab tb (psO m (L ++ [(⟨nb9, 2, 0, 2, 1, u3, u4, none⟩ : ND)])) (gsO m (L ++ [(⟨nb9, 2, 0, 2, 1, u3, u4, none⟩ : ND)])) vl vg T Sl Sg, rNds (lO m (L ++ [(⟨nb9, 2, 0, 2, 1, u3, u4, none⟩ : ND)])), rCell true k5 [.int .i64 2, .int .i64 0, .int .i64 2, .int .i64 1, .int .i64 u3, .int .i64 u4] 51, rCell true k4 [.int .i64 (L.length : Int), .int .i64 0] 29, rCell true k2 [.int .i64 0, .int .i64 0] 29, rCell true k1 [.int .i64 u1, .int .i64 u2] 29, rMap true dm hk (aput (ds.map dnKV) ((L.length : Int), 0) (.map (some k10))), rEnv B ad [10]]) [3, 11, 0, 0, 0, 0, 0, 0, 0, 0, 0, 0, 0, 0] (by kernel_rfl)
              have h := Own.dirAdd (ds := ds) (⟨((L.length : Int), 0), k10, []⟩ : DN) h
              have h : Own w0 E [rDirs (ds ++ [(⟨((L.length : Int), 0), k10, []⟩ : DN)]), rCell true lb [.string (ofT (bodyK r (L.length + 1) t)), .pointer (some ⟨b, 0, none⟩), .map (some fm)] 62, rEnv B ad [4], rCell true k11 [.int .i64 0, .int .i64 0] 29, rCell true b [.pointer (some ⟨tb, 0, none⟩), .int .i64 (m : Int), .int .i64 0, .int .i64 0, .map (some dm), .map (some pm)] 46, rTab tb (psO m (L ++ [(⟨nb9, 2, 0, 2, 1, u3, u4, none⟩ : ND)])) (gsO m (L ++ [(⟨nb9, 2, 0, 2, 1, u3, u4, none⟩ : ND)])) vl vg T Sl Sg, rNds (lO m (L ++ [(⟨nb9, 2, 0, 2, 1, u3, u4, none⟩ : ND)])), rCell true k5 [.int .i64 2, .int .i64 0, .int .i64 2, .int .i64 1, .int .i64 u3, .int .i64 u4] 51, rCell true k4 [.int .i64 (L.length : Int), .int .i64 0] 29, rCell true k2 [.int .i64 0, .int .i64 0] 29, rCell true k1 [.int .i64 u1, .int .i64 u2] 29, rMap true dm hk (aput (ds.map dnKV) ((L.length : Int), 0) (.map (some k10))), rEnv B ad [10]] w := h
              rw [show aput (ds.map dnKV) ((L.length : Int), 0) (.map (some k10)) = (ds ++ [(⟨((L.length : Int), 0), k10, []⟩ : DN)]).map dnKV from dir_new (es := []) (hH.new (Nat.le_of_eq hds))] at h
              have h : Own w0 E [rDirs (ds ++ [(⟨((L.length : Int), 0), k10, []⟩ : DN)]), rCell true lb [.string (ofT (bodyK r (L.length + 1) t)), .pointer (some ⟨b, 0, none⟩), .map (some fm)] 62, rEnv B ad [4], rCell true k11 [.int .i64 0, .int .i64 0] 29, rCell true b [.pointer (some ⟨tb, 0, none⟩), .int .i64 (m : Int), .int .i64 0, .int .i64 0, .map (some dm), .map (some pm)] 46, rTab tb (psO m (L ++ [(⟨nb9, 2, 0, 2, 1, u3, u4, none⟩ : ND)])) (gsO m (L ++ [(⟨nb9, 2, 0, 2, 1, u3, u4, none⟩ : ND)])) vl vg T Sl Sg, rNds (lO m (L ++ [(⟨nb9, 2, 0, 2, 1, u3, u4, none⟩ : ND)])), rCell true k5 [.int .i64 2, .int .i64 0, .int .i64 2, .int .i64 1, .int .i64 u3, .int .i64 u4] 51, rCell true k4 [.int .i64 (L.length : Int), .int .i64 0] 29, rCell true k2 [.int .i64 0, .int .i64 0] 29, rCell true k1 [.int .i64 u1, .int .i64 u2] 29, rMap true dm hk ((ds ++ [(⟨((L.length : Int), 0), k10, []⟩ : DN)]).map dnKV), rEnv B ad [10]] w := h
              refine c_reg ?_
              refine sq_p (.map (some k10)) rfl (fun _ => by kernel_rfl) ?_
              refine sq_p (.string (⟨#[100]⟩ : ByteArray)) rfl (fun _ => by kernel_rfl) ?_
              refine sq_p (.pointer (some ⟨lb, 0, none⟩)) rfl (fun _ => by kernel_rfl) ?_
              refine sq_q rfl h (g_ld 0 [.int .i64 (L.length : Int), .int .i64 0] (.agg #[.int .i64 (L.length : Int), .int .i64 0]) (by kernel_rfl) 8 rfl) ?_
              refine sq_p (.int .i64 (L.length : Int)) rfl (fun _ => by kernel_rfl) ?_
              refine sq_q rfl h (g_eq (v := .int .i64 (IntKind.i64.wrap ((L.length : Int) + 1))) (v' := .int .i64 ((L.length + 1 : Nat) : Int)) (g_pure fun _ => by kernel_rfl) (wr (by omega))) ?_
              refine sq_call #[.pointer (some ⟨lb, 0, none⟩), .agg #[.int .i64 (L.length : Int), .int .i64 0], .int .i64 ((L.length + 1 : Nat) : Int)] [1, 3, 3, 3, 7, 0, 6, 0] rfl (hrec (L ++ [(⟨nb9, 2, 0, 2, 1, u3, u4, none⟩ : ND)]) (ds ++ [(⟨((L.length : Int), 0), k10, []⟩ : DN)]) (by simp) (by simp; omega) (hH.add (by rw [hds]))) (fun _ => by kernel_rfl) h ?_; rintro v_ L_ w ⟨Ls, Ds, hsg, rfl, rfl⟩ h
              have h := h.pickE (M := [rDirs ((ds ++ [(⟨((L.length : Int), 0), k10, []⟩ : DN)]) ++ Ds), rCell true lb [.string (ofT t), .pointer (some ⟨b, 0, none⟩), .map (some fm)] 62, rCell true b [.pointer (some ⟨tb, 0, none⟩), .int .i64 (m : Int), .int .i64 0, .int .i64 0, .map (some dm), .map (some pm)] 46, rTab tb (psO m ((L ++ [(⟨nb9, 2, 0, 2, 1, u3, u4, none⟩ : ND)]) ++ Ls)) (gsO m ((L ++ [(⟨nb9, 2, 0, 2, 1, u3, u4, none⟩ : ND)]) ++ Ls)) vl vg T Sl Sg, rNds (lO m ((L ++ [(⟨nb9, 2, 0, 2, 1, u3, u4, none⟩ : ND)]) ++ Ls)), rMap true dm hk (((ds ++ [(⟨((L.length : Int), 0), k10, []⟩ : DN)]) ++ Ds).map dnKV), rEnv B ad [10], rEnv B ad [4], rCell true k11 [.int .i64 0, .int .i64 0] 29, rCell true k5 [.int .i64 2, .int .i64 0, .int .i64 2, .int .i64 1, .int .i64 u3, .int .i64 u4] 51, rCell true k4 [.int .i64 (L.length : Int), .int .i64 0] 29, rCell true k2 [.int .i64 0, .int .i64 0] 29, rCell true k1 [.int .i64 u1, .int .i64 u2] 29]) [5, 0, 0, 0, 0, 0, 0, 0, 0, 0, 0, 0, 0] (by kernel_rfl)
              have h := Own.dirOpen (j := L.length) (d := (⟨((L.length : Int), 0), k10, []⟩ : DN)) h (mid_get hds)
              have h : Own w0 E [rMap true k10 sk ([] : List (ByteArray × Value)), rDirsO ((ds ++ [(⟨((L.length : Int), 0), k10, []⟩ : DN)]) ++ Ds) L.length, rCell true lb [.string (ofT t), .pointer (some ⟨b, 0, none⟩), .map (some fm)] 62, rCell true b [.pointer (some ⟨tb, 0, none⟩), .int .i64 (m : Int), .int .i64 0, .int .i64 0, .map (some dm), .map (some pm)] 46, rTab tb (psO m ((L ++ [(⟨nb9, 2, 0, 2, 1, u3, u4, none⟩ : ND)]) ++ Ls)) (gsO m ((L ++ [(⟨nb9, 2, 0, 2, 1, u3, u4, none⟩ : ND)]) ++ Ls)) vl vg T Sl Sg, rNds (lO m ((L ++ [(⟨nb9, 2, 0, 2, 1, u3, u4, none⟩ : ND)]) ++ Ls)), rMap true dm hk (((ds ++ [(⟨((L.length : Int), 0), k10, []⟩ : DN)]) ++ Ds).map dnKV), rEnv B ad [10], rEnv B ad [4], rCell true k11 [.int .i64 0, .int .i64 0] 29, rCell true k5 [.int .i64 2, .int .i64 0, .int .i64 2, .int .i64 1, .int .i64 u3, .int .i64 u4] 51, rCell true k4 [.int .i64 (L.length : Int), .int .i64 0] 29, rCell true k2 [.int .i64 0, .int .i64 0] 29, rCell true k1 [.int .i64 u1, .int .i64 u2] 29] w := h
              refine sq_mapu rfl (K := 9) (E := 29) (keyStr (by kernel_rfl)) (⟨#[100]⟩ : ByteArray) (.agg #[.int .i64 ((L.length + 1 : Nat) : Int), .int .i64 0]) (by kernel_rfl) h 0 rfl ?_; intro w h
              refine lnil ?_
              refine thn_n ?_
              refine d_start 6 [2, 10] (by kernel_rfl) h fun w h => ?_
              refine d_take 0 16 [2, 10] rfl (v := .pointer (some ⟨lb, 0, none⟩)) (by kernel_rfl) (qp_blk (qp_blk (qp_thn (qp_unr (qp_blk (qp_thn qp_body)))))) (yq (by kernel_rfl) (g_pure (v := .pointer (some ⟨lb, 0, none⟩)) fun _ => by kernel_rfl)) h (by kernel_rfl) ?_
              refine d_take 1 17 [2, 10] rfl (v := .pointer (some ⟨lb, 0, none⟩)) (by kernel_rfl) (qp_blk (qp_blk (qp_thn (qp_unr (qp_blk (qp_thn qp_body)))))) (yq (by kernel_rfl) (g_pure (v := .pointer (some ⟨lb, 0, none⟩)) fun _ => by kernel_rfl)) h (by kernel_rfl) ?_
              refine d_take 2 19 [2, 10] rfl (v := .pointer (some ⟨lb, 1, none⟩)) (by kernel_rfl) (qp_blk (qp_blk (qp_thn (qp_unr (qp_blk (qp_thn qp_body)))))) (yq (by kernel_rfl) (g_pure (v := .pointer (some ⟨lb, 1, none⟩)) fun _ => by kernel_rfl)) h (by kernel_rfl) ?_
              refine d_take 3 23 [2, 10] rfl (v := .pointer (some ⟨b, 0, none⟩)) (by kernel_rfl) (qp_blk (qp_blk (qp_thn (qp_unr (qp_blk (qp_thn qp_body)))))) (yq (by kernel_rfl) (g_ld 1 [.pointer (some ⟨b, 0, none⟩)] (.pointer (some ⟨b, 0, none⟩)) (by kernel_rfl) 0 rfl)) h (by kernel_rfl) ?_
              refine d_take 4 15 [2, 10] rfl (v := .agg #[.int .i64 (L.length : Int), .int .i64 0]) (by kernel_rfl) (qp_blk (qp_blk (qp_thn (qp_unr (qp_blk (qp_thn qp_body)))))) (yq (by kernel_rfl) (g_ld 0 [.int .i64 (L.length : Int), .int .i64 0] (.agg #[.int .i64 (L.length : Int), .int .i64 0]) (by kernel_rfl) 1 rfl)) h (by kernel_rfl) ?_
              refine d_ready [5] (by kernel_rfl) rfl ?_
              refine ad_call #[.pointer (some ⟨b, 0, none⟩), .agg #[.int .i64 (L.length : Int), .int .i64 0], .int .i64 1] [3, 3, 3, 4] [6, 10] rfl (by kernel_rfl) (linkP_spec ad b m tb dm pm vl vg T Sl Sg ((L ++ [(⟨nb9, 2, 0, 2, 1, u3, u4, none⟩ : ND)]) ++ Ls) (by have := hsg.l1; simp; omega) L.length (⟨nb9, 2, 0, 2, 1, u3, u4, none⟩ : ND) (mid_get rfl) 1 (by omega) ⟨(by decide : (0 : Int) ≤ 2), (by decide : (2 : Int) ≤ 1000000)⟩) (fun _ => by kernel_rfl) h ?_ ?_
              · skip
                rintro _ L_ w rfl h
                refine ⟨by kernel_rfl, ?_⟩
                refine d_done (by kernel_rfl) ?_
                refine blk_n (blk_n (thn_n ?_))
                refine c_reg ?_
                refine sq_p (.int .i64 1) rfl (fun _ => by kernel_rfl) ?_
                refine sq_p (.int .i64 1) rfl (fun _ => by kernel_rfl) ?_
                refine lnil ?_
                refine unr_n ?_
                refine c_seq ?_
                refine c_reg ?_
                refine sq_p (.bool false) rfl (fun _ => by kernel_rfl) ?_
                refine lnil ?_
                refine thn_n ?_
                refine c_seq ?_
                refine c_false (by kernel_rfl) ?_
                refine c_exit ?_
                refine thn_e (unr_e (blk_e (thn_n ?_)))
                refine c_seq ?_
                refine c_reg ?_
                refine sq_q rfl h (g_ld 0 [.int .i64 (L.length : Int), .int .i64 0] (.agg #[.int .i64 (L.length : Int), .int .i64 0]) (by kernel_rfl) 11 rfl) ?_
                refine sq_st rfl 0 [.int .i64 (L.length : Int), .int .i64 0] [.int .i64 (L.length : Int), .int .i64 0] h 12 rfl (by kernel_rfl) ?_; intro w h
                refine lnil ?_
                refine thn_n ?_
                refine c_ret ?_
                have h : Own w0 E [rCell true b [.pointer (some ⟨tb, 0, none⟩), .int .i64 (m : Int), .int .i64 0, .int .i64 0, .map (some dm), .map (some pm)] 46, rTab tb (psO m (((L ++ [(⟨nb9, 2, 0, 2, 1, u3, u4, none⟩ : ND)]) ++ Ls).set L.length (linkN (⟨nb9, 2, 0, 2, 1, u3, u4, none⟩ : ND) 1))) (gsO m (((L ++ [(⟨nb9, 2, 0, 2, 1, u3, u4, none⟩ : ND)]) ++ Ls).set L.length (linkN (⟨nb9, 2, 0, 2, 1, u3, u4, none⟩ : ND) 1))) vl vg T Sl Sg, rNds (lO m (((L ++ [(⟨nb9, 2, 0, 2, 1, u3, u4, none⟩ : ND)]) ++ Ls).set L.length (linkN (⟨nb9, 2, 0, 2, 1, u3, u4, none⟩ : ND) 1))), rEnv B ad [10], rMap true k10 sk ([((⟨#[100]⟩ : ByteArray), ((((L.length + 1 : Nat) : Int), 0) : Int × Int))].map enKV), rDirsO ((ds ++ [(⟨((L.length : Int), 0), k10, []⟩ : DN)]) ++ Ds) L.length, rCell true lb [.string (ofT t), .pointer (some ⟨b, 0, none⟩), .map (some fm)] 62, rMap true dm hk (((ds ++ [(⟨((L.length : Int), 0), k10, []⟩ : DN)]) ++ Ds).map dnKV), rEnv B ad [4], rCell true k11 [.int .i64 0, .int .i64 0] 29, rCell true k5 [.int .i64 2, .int .i64 0, .int .i64 2, .int .i64 1, .int .i64 u3, .int .i64 u4] 51, rCell true k4 [.int .i64 (L.length : Int), .int .i64 0] 29, rCell true k2 [.int .i64 (L.length : Int), .int .i64 0] 29, rCell true k1 [.int .i64 u1, .int .i64 u2] 29] w := h
                have h := h.pickE (M := [rMap true k10 sk ([((⟨#[100]⟩ : ByteArray), ((((L.length + 1 : Nat) : Int), 0) : Int × Int))].map enKV), rDirsO ((ds ++ [(⟨((L.length : Int), 0), k10, []⟩ : DN)]) ++ Ds) L.length, rCell true b [.pointer (some ⟨tb, 0, none⟩), .int .i64 (m : Int), .int .i64 0, .int .i64 0, .map (some dm), .map (some pm)] 46, rTab tb (psO m (((L ++ [(⟨nb9, 2, 0, 2, 1, u3, u4, none⟩ : ND)]) ++ Ls).set L.length (linkN (⟨nb9, 2, 0, 2, 1, u3, u4, none⟩ : ND) 1))) (gsO m (((L ++ [(⟨nb9, 2, 0, 2, 1, u3, u4, none⟩ : ND)]) ++ Ls).set L.length (linkN (⟨nb9, 2, 0, 2, 1, u3, u4, none⟩ : ND) 1))) vl vg T Sl Sg, rNds (lO m (((L ++ [(⟨nb9, 2, 0, 2, 1, u3, u4, none⟩ : ND)]) ++ Ls).set L.length (linkN (⟨nb9, 2, 0, 2, 1, u3, u4, none⟩ : ND) 1))), rEnv B ad [10], rCell true lb [.string (ofT t), .pointer (some ⟨b, 0, none⟩), .map (some fm)] 62, rMap true dm hk (((ds ++ [(⟨((L.length : Int), 0), k10, []⟩ : DN)]) ++ Ds).map dnKV), rEnv B ad [4], rCell true k11 [.int .i64 0, .int .i64 0] 29, rCell true k5 [.int .i64 2, .int .i64 0, .int .i64 2, .int .i64 1, .int .i64 u3, .int .i64 u4] 51, rCell true k4 [.int .i64 (L.length : Int), .int .i64 0] 29, rCell true k2 [.int .i64 (L.length : Int), .int .i64 0] 29, rCell true k1 [.int .i64 u1, .int .i64 u2] 29]) [4, 4, 0, 0, 0, 0, 0, 0, 0, 0, 0, 0, 0, 0] (by kernel_rfl)
                have h := Own.dirClose (ds := ((ds ++ [(⟨((L.length : Int), 0), k10, []⟩ : DN)]) ++ Ds)) (j := L.length) (⟨((L.length : Int), 0), k10, [(⟨#[100]⟩, (((L.length + 1 : Nat) : Int), 0))]⟩ : DN) h
                have h : Own w0 E [rDirs (((ds ++ [(⟨((L.length : Int), 0), k10, []⟩ : DN)]) ++ Ds).set L.length (⟨((L.length : Int), 0), k10, [(⟨#[100]⟩, (((L.length + 1 : Nat) : Int), 0))]⟩ : DN)), rCell true b [.pointer (some ⟨tb, 0, none⟩), .int .i64 (m : Int), .int .i64 0, .int .i64 0, .map (some dm), .map (some pm)] 46, rTab tb (psO m (((L ++ [(⟨nb9, 2, 0, 2, 1, u3, u4, none⟩ : ND)]) ++ Ls).set L.length (linkN (⟨nb9, 2, 0, 2, 1, u3, u4, none⟩ : ND) 1))) (gsO m (((L ++ [(⟨nb9, 2, 0, 2, 1, u3, u4, none⟩ : ND)]) ++ Ls).set L.length (linkN (⟨nb9, 2, 0, 2, 1, u3, u4, none⟩ : ND) 1))) vl vg T Sl Sg, rNds (lO m (((L ++ [(⟨nb9, 2, 0, 2, 1, u3, u4, none⟩ : ND)]) ++ Ls).set L.length (linkN (⟨nb9, 2, 0, 2, 1, u3, u4, none⟩ : ND) 1))), rEnv B ad [10], rCell true lb [.string (ofT t), .pointer (some ⟨b, 0, none⟩), .map (some fm)] 62, rMap true dm hk (((ds ++ [(⟨((L.length : Int), 0), k10, []⟩ : DN)]) ++ Ds).map dnKV), rEnv B ad [4], rCell true k11 [.int .i64 0, .int .i64 0] 29, rCell true k5 [.int .i64 2, .int .i64 0, .int .i64 2, .int .i64 1, .int .i64 u3, .int .i64 u4] 51, rCell true k4 [.int .i64 (L.length : Int), .int .i64 0] 29, rCell true k2 [.int .i64 (L.length : Int), .int .i64 0] 29, rCell true k1 [.int .i64 u1, .int .i64 u2] 29] w := h
                rw [mid_set (n := L.length) hds, mid_set (n := L.length) rfl, mid_kv (x := (⟨((L.length : Int), 0), k10, []⟩ : DN)) (y := (⟨((L.length : Int), 0), k10, [(⟨#[100]⟩, (((L.length + 1 : Nat) : Int), 0))]⟩ : DN)) rfl] at h
                have h : Own w0 E [rDirs (ds ++ ((⟨((L.length : Int), 0), k10, [(⟨#[100]⟩, (((L.length + 1 : Nat) : Int), 0))]⟩ : DN) :: Ds)), rCell true b [.pointer (some ⟨tb, 0, none⟩), .int .i64 (m : Int), .int .i64 0, .int .i64 0, .map (some dm), .map (some pm)] 46, rTab tb (psO m (L ++ (linkN (⟨nb9, 2, 0, 2, 1, u3, u4, none⟩ : ND) 1 :: Ls))) (gsO m (L ++ (linkN (⟨nb9, 2, 0, 2, 1, u3, u4, none⟩ : ND) 1 :: Ls))) vl vg T Sl Sg, rNds (lO m (L ++ (linkN (⟨nb9, 2, 0, 2, 1, u3, u4, none⟩ : ND) 1 :: Ls))), rEnv B ad [10], rCell true lb [.string (ofT t), .pointer (some ⟨b, 0, none⟩), .map (some fm)] 62, rMap true dm hk ((ds ++ ((⟨((L.length : Int), 0), k10, [(⟨#[100]⟩, (((L.length + 1 : Nat) : Int), 0))]⟩ : DN) :: Ds)).map dnKV), rEnv B ad [4], rCell true k11 [.int .i64 0, .int .i64 0] 29, rCell true k5 [.int .i64 2, .int .i64 0, .int .i64 2, .int .i64 1, .int .i64 u3, .int .i64 u4] 51, rCell true k4 [.int .i64 (L.length : Int), .int .i64 0] 29, rCell true k2 [.int .i64 (L.length : Int), .int .i64 0] 29, rCell true k1 [.int .i64 u1, .int .i64 u2] 29] w := h
                refine ret_end [.agg #[.int .i64 (L.length : Int), .int .i64 0]] [5, 1, 1, 1, 2, 0, 0, 0] h (by kernel_rfl) (res_c 0 [.int .i64 (L.length : Int), .int .i64 0] (.agg #[.int .i64 (L.length : Int), .int .i64 0]) 11 rfl (by kernel_rfl) res_n) ?_
                exact ⟨_ :: Ls, _ :: Ds, hsg.cons rfl rfl rfl rfl rfl rfl, rfl, rfl⟩
              exact ad_nil
            · skip
              have hc12 := of_decide_eq_false hc12
              exfalso; revert hc12; decide
          exact ad_nil
      exact ad_nil
    exact ad_nil
  refine ad_new [4] rfl (by kernel_rfl) (fun b => .pointer (some ⟨b, 0, none⟩)) [.int .i64 0, .int .i64 0, .int .i64 0, .int .i64 0, .int .i64 0, .int .i64 0] 51 (fun _ => by kernel_rfl) h ?_ ?_
  · skip
    intro k13 w h; refine ⟨by kernel_rfl, ?_⟩
    refine d_ready [1] (by kernel_rfl) rfl ?_
    refine ad_call #[.pointer (some ⟨lb, 0, none⟩)] [2] [4] rfl (by kernel_rfl) (lnum1_spec lb b fm (numK 1 (itK [100] (itK dirT (bodyK r (L.length + 1) t)))) (Nat.le_trans hz2 (by decide))) (fun _ => by kernel_rfl) h ?_ ?_
    · skip
      rintro v_ L_ w ⟨rfl, rfl⟩ h
      refine ⟨by kernel_rfl, ?_⟩
      refine d_take 3 23 [4] rfl (v := .agg #[.int .i64 2, .int .i64 0, .int .i64 2, .int .i64 1, .int .i64 u1, .int .i64 u2]) (by kernel_rfl) (qp_thn qp_body) (yq (by kernel_rfl) (g_pure (v := .agg #[.int .i64 2, .int .i64 0, .int .i64 2, .int .i64 1, .int .i64 u1, .int .i64 u2]) fun _ => by kernel_rfl)) h (by kernel_rfl) ?_
      refine d_ready [5] (by kernel_rfl) rfl ?_
      refine ad_st [4] rfl (by kernel_rfl) 0 [.int .i64 2, .int .i64 0, .int .i64 2, .int .i64 1, .int .i64 u1, .int .i64 u2] [.int .i64 2, .int .i64 0, .int .i64 2, .int .i64 1, .int .i64 u1, .int .i64 u2] h 1 rfl (by kernel_rfl) ?_ ?_
      · skip
        intro w h; refine ⟨by kernel_rfl, ?_⟩
        refine d_done (by kernel_rfl) ?_
        refine thn_n ?_
        refine c_seq ?_
        refine c_seq ?_
        refine c_reg ?_
        refine sq_p (.int .i64 (L.length : Int)) rfl (fun _ => by kernel_rfl) ?_
        refine sq_p (.bool (decide ((L.length : Int) = 0))) rfl (fun _ => by kernel_rfl) ?_
        refine lnil ?_
        refine thn_n ?_
        refine c_mid (midM (X := Int × Int × (Nat → Value)) w0 E (fun ⟨u3, u4, JM2⟩ => ⟨#[.pointer (some ⟨lb, 0, none⟩), .agg #[.int .i64 u1, .int .i64 u2], .int .i64 (L.length : Int), undef, .pointer (some ⟨k1, 0, none⟩), undef, .pointer (some ⟨k2, 0, none⟩), .pointer (some ⟨k4, 0, none⟩), .pointer (some ⟨k13, 0, none⟩), undef, undef, undef, undef, undef, undef, undef, undef, undef, .int .i64 (L.length : Int), .bool (decide ((L.length : Int) < 300)), .tuple #[], .pointer (some ⟨lb, 0, none⟩), .int .i64 (L.length : Int), .pointer (some ⟨lb, 0, none⟩), .int .i64 0, .agg #[.int .i64 (L.length : Int), .int .i64 0], .pointer (some ⟨lb, 0, none⟩), .int .i64 1, .agg #[.int .i64 u1, .int .i64 u2], .agg #[.int .i64 2, .int .i64 0, .int .i64 2, .int .i64 1, .int .i64 u1, .int .i64 u2], .int .i64 (L.length : Int), .bool (decide ((L.length : Int) = 0)), JM2 32, JM2 33, undef, undef, undef, undef, undef, undef, undef, undef, undef, undef, undef, undef, undef, undef, undef, undef, undef, undef, undef, undef, undef, undef, undef, undef, undef, undef, undef, undef, undef, undef, undef, undef, undef, undef, undef, undef, undef, undef, undef, undef, undef, undef, undef, undef, undef, undef, undef, undef, undef, undef, undef, undef, undef, undef, undef, undef, undef, undef, undef, undef, undef, undef, undef, undef, undef, undef, undef, undef, undef, undef, undef, undef, undef, undef, undef, undef, undef, undef, undef, undef, undef, undef, undef, undef, undef, undef, undef, undef, undef, undef, undef, undef, undef, undef, undef, undef, undef, undef, undef, undef, undef, undef, undef, undef, undef, undef, undef, undef, undef, undef, undef, undef, undef, undef], []⟩) (fun ⟨u3, u4, JM2⟩ => [rCell true lb [.string (ofT (numK 1 (itK [100] (itK dirT (bodyK r (L.length + 1) t))))), .pointer (some ⟨b, 0, none⟩), .map (some fm)] 62, rCell true k13 [.int .i64 2, .int .i64 0, .int .i64 2, .int .i64 1, .int .i64 u3, .int .i64 u4] 51, rCell true k4 [.int .i64 (L.length : Int), .int .i64 0] 29, rCell true k2 [.int .i64 0, .int .i64 0] 29, rCell true k1 [.int .i64 u1, .int .i64 u2] 29, rCell true b [.pointer (some ⟨tb, 0, none⟩), .int .i64 (m : Int), .int .i64 0, .int .i64 0, .map (some dm), .map (some pm)] 46, rTab tb (psO m L) (gsO m L) vl vg T Sl Sg, rNds (lO m L), rMap true dm hk (ds.map dnKV), rDirs ds, rEnv B ad [10], rEnv B ad [4]]) (fun ⟨u3, u4, JM2⟩ => True)) ?_ ?_
        · skip
          refine c_cond (decide ((L.length : Int) = 0)) (by kernel_rfl) (fun hc14 => ?_) (fun hc14 => ?_)
          · skip
            have hc14 := of_decide_eq_true hc14
            refine c_reg ?_
            refine sq_q rfl h (g_ld 0 [.int .i64 (L.length : Int), .int .i64 0] (.agg #[.int .i64 (L.length : Int), .int .i64 0]) (by kernel_rfl) 2 rfl) ?_
            refine sq_p (.pointer (some ⟨k13, 4, none⟩)) rfl (fun _ => by kernel_rfl) ?_
            refine sq_st rfl 4 [.int .i64 (L.length : Int), .int .i64 0] [.int .i64 2, .int .i64 0, .int .i64 2, .int .i64 1, .int .i64 (L.length : Int), .int .i64 0] h 1 rfl (by kernel_rfl) ?_; intro w h
            refine lnil ?_
            refine mid_n ?_
            have hQ15 : True := trivial
            refine mid_end (fun j => ⟨(L.length : Int), 0, j⟩) hQ15 (by kernel_rfl) [0, 0, 0, 0, 0, 0, 0, 0, 0, 0, 0, 0] (by kernel_rfl) h
          · skip
            have hc14 := of_decide_eq_false hc14
            refine c_skip ?_
            refine mid_n ?_
            have hQ16 : True := trivial
            refine mid_end (fun j => ⟨u1, u2, j⟩) hQ16 (by kernel_rfl) [0, 0, 0, 0, 0, 0, 0, 0, 0, 0, 0, 0] (by kernel_rfl) h
        · skip
          rintro a_ w ⟨⟨u3, u4, JM2⟩, hG, rfl, h⟩
          refine thn_n ?_
          refine c_seq ?_
          refine c_reg ?_
          refine sq_p (.pointer (some ⟨lb, 0, none⟩)) rfl (fun _ => by kernel_rfl) ?_
          refine sq_q rfl h (g_ld 0 [.int .i64 (L.length : Int), .int .i64 0] (.agg #[.int .i64 (L.length : Int), .int .i64 0]) (by kernel_rfl) 2 rfl) ?_
          refine sq_q rfl h (g_ld 0 [.int .i64 2, .int .i64 0, .int .i64 2, .int .i64 1, .int .i64 u3, .int .i64 u4] (.agg #[.int .i64 2, .int .i64 0, .int .i64 2, .int .i64 1, .int .i64 u3, .int .i64 u4]) (by kernel_rfl) 1 rfl) ?_
          refine sq_call #[.pointer (some ⟨lb, 0, none⟩), .agg #[.int .i64 (L.length : Int), .int .i64 0], .agg #[.int .i64 2, .int .i64 0, .int .i64 2, .int .i64 1, .int .i64 u3, .int .i64 u4], .pointer none] [0, 4, 4, 4] rfl (lput_spec lb fm (ofT (numK 1 (itK [100] (itK dirT (bodyK r (L.length + 1) t))))) b m tb dm pm vl vg T Sl Sg L hi 2 0 2 1 u3 u4) (fun _ => by kernel_rfl) h ?_; rintro v_ L_ w ⟨nb17, rfl, rfl⟩ h
          refine lnil ?_
          refine thn_n ?_
          refine c_seq ?_
          refine c_reg ?_
          refine sq_newm rfl sk (fun _ => by kernel_rfl) h ?_; intro k18 w h
          refine sq_p (.map (some k18)) rfl (fun _ => by kernel_rfl) ?_
          refine lnil ?_
          refine thn_n ?_
          refine c_seq ?_
          refine d_start 10 [1, 1, 4] (by kernel_rfl) h fun w h => ?_
          refine d_take 0 384 [1, 1, 4] rfl (v := .pointer (some ⟨lb, 0, none⟩)) (by kernel_rfl) (qp_thn qp_body) (yq (by kernel_rfl) (g_pure (v := .pointer (some ⟨lb, 0, none⟩)) fun _ => by kernel_rfl)) h (by kernel_rfl) ?_
          refine d_take 1 385 [1, 1, 4] rfl (v := .pointer (some ⟨lb, 0, none⟩)) (by kernel_rfl) (qp_thn qp_body) (yq (by kernel_rfl) (g_pure (v := .pointer (some ⟨lb, 0, none⟩)) fun _ => by kernel_rfl)) h (by kernel_rfl) ?_
          refine d_take 2 387 [1, 1, 4] rfl (v := .pointer (some ⟨lb, 1, none⟩)) (by kernel_rfl) (qp_thn qp_body) (yq (by kernel_rfl) (g_pure (v := .pointer (some ⟨lb, 1, none⟩)) fun _ => by kernel_rfl)) h (by kernel_rfl) ?_
          refine d_take 3 391 [1, 1, 4] rfl (v := .pointer (some ⟨b, 0, none⟩)) (by kernel_rfl) (qp_thn qp_body) (yq (by kernel_rfl) (g_ld 1 [.pointer (some ⟨b, 0, none⟩)] (.pointer (some ⟨b, 0, none⟩)) (by kernel_rfl) 0 rfl)) h (by kernel_rfl) ?_
          refine d_take 4 399 [1, 1, 4] rfl (v := .pointer (some ⟨b, 0, none⟩)) (by kernel_rfl) (qp_thn qp_body) (yq (by kernel_rfl) (g_pure (v := .pointer (some ⟨b, 0, none⟩)) fun _ => by kernel_rfl)) h (by kernel_rfl) ?_
          refine d_take 5 415 [1, 1, 4] rfl (v := .pointer (some ⟨b, 4, none⟩)) (by kernel_rfl) (qp_thn qp_body) (yq (by kernel_rfl) (g_pure (v := .pointer (some ⟨b, 4, none⟩)) fun _ => by kernel_rfl)) h (by kernel_rfl) ?_
          refine d_take 6 447 [1, 1, 4] rfl (v := .map (some dm)) (by kernel_rfl) (qp_thn qp_body) (yq (by kernel_rfl) (g_ld 4 [.map (some dm)] (.map (some dm)) (by kernel_rfl) 1 rfl)) h (by kernel_rfl) ?_
          refine d_take 7 383 [1, 1, 4] rfl (v := .agg #[.int .i64 (L.length : Int), .int .i64 0]) (by kernel_rfl) (qp_thn qp_body) (yq (by kernel_rfl) (g_ld 0 [.int .i64 (L.length : Int), .int .i64 0] (.agg #[.int .i64 (L.length : Int), .int .i64 0]) (by kernel_rfl) 2 rfl)) h (by kernel_rfl) ?_
          refine d_take 8 255 [1, 1, 4] rfl (v := .map (some k18)) (by kernel_rfl) (qp_thn qp_body) (yq (by kernel_rfl) (g_pure (v := .map (some k18)) fun _ => by kernel_rfl)) h (by kernel_rfl) ?_
          refine d_ready [9] (by kernel_rfl) rfl ?_
          refine ad_mapu [1, 1, 4] rfl (by kernel_rfl) (K := 29) (E := 48) keyHk ((L.length : Int), 0) (.map (some k18)) (by kernel_rfl) h 9 rfl ?_ ?_
          · skip
            intro w h; refine ⟨by kernel_rfl, ?_⟩
            refine d_done (by kernel_rfl) ?_
            refine thn_n ?_
            refine c_seq ?_
            refine c_seq ?_
            refine c_reg ?_
            refine sq_p (.pointer (some ⟨lb, 0, none⟩)) rfl (fun _ => by kernel_rfl) ?_
            refine sq_call #[.pointer (some ⟨lb, 0, none⟩)] [1] rfl (lnum1_spec lb b fm (itK [100] (itK dirT (bodyK r (L.length + 1) t))) (Nat.le_trans hz3 (by decide))) (fun _ => by kernel_rfl) h ?_; rintro v_ L_ w ⟨rfl, rfl⟩ h
            refine sq_p (.int .i64 0) rfl (fun _ => by kernel_rfl) ?_
            refine lnil ?_
            refine thn_n ?_
            refine c_block ?_
            refine c_unroll 1 ?_
            refine c_seq ?_
            refine c_reg ?_
            refine sq_p (.bool true) rfl (fun _ => by kernel_rfl) ?_
            refine lnil ?_
            refine thn_n ?_
            refine c_seq ?_
            refine c_true (by kernel_rfl) ?_
            refine c_skip ?_
            refine thn_n ?_
            refine c_seq ?_
            refine c_block ?_
            refine c_seq ?_
            refine c_reg ?_
            refine sq_p (.pointer (some ⟨lb, 0, none⟩)) rfl (fun _ => by kernel_rfl) ?_
            refine sq_call #[.pointer (some ⟨lb, 0, none⟩)] [0] rfl (ltext_spec lb b fm [100] (itK dirT (bodyK r (L.length + 1) t)) (by decide) (Nat.le_trans hz4 (by decide))) (fun _ => by kernel_rfl) h ?_; rintro v_ L_ w ⟨rfl, rfl⟩ h
            refine sq_p (.string (⟨#[100]⟩ : ByteArray)) rfl (fun _ => by kernel_rfl) ?_
            refine lnil ?_
            refine thn_n ?_
            refine c_seq ?_
            refine c_reg ?_
            refine sq_p (.map (some k18)) rfl (fun _ => by kernel_rfl) ?_
            refine sq_p (.string (⟨#[100]⟩ : ByteArray)) rfl (fun _ => by kernel_rfl) ?_
            refine sq_q rfl h (g_eq (v' := .tuple #[.agg #[.int .i64 0, .int .i64 0], .bool false]) (g_look (K := 9) (E := 29) (z := (.agg #[.int .i64 0, .int .i64 0])) (kv := []) (ok := true) (keyStr (by kernel_rfl)) (⟨#[100]⟩ : ByteArray) (by kernel_rfl) (fun _ => by kernel_rfl) 1 rfl) (by rfl)) ?_
            refine sq_p (.tuple #[.agg #[.int .i64 0, .int .i64 0], .bool false]) rfl (fun _ => by kernel_rfl) ?_
            refine sq_p (.agg #[.int .i64 0, .int .i64 0]) rfl (fun _ => by kernel_rfl) ?_
            refine sq_p (.bool false) rfl (fun _ => by kernel_rfl) ?_
            refine sq_new rfl (fun b => .pointer (some ⟨b, 0, none⟩)) [.int .i64 0, .int .i64 0] 29 (fun _ => by kernel_rfl) h ?_; intro k19 w h
            refine sq_st rfl 0 [.int .i64 0, .int .i64 0] [.int .i64 0, .int .i64 0] h 0 rfl (by kernel_rfl) ?_; intro w h
            refine sq_p (.bool false) rfl (fun _ => by kernel_rfl) ?_
            refine lnil ?_
            refine thn_n ?_
            refine c_seq ?_
            refine c_reg ?_
            refine sq_p (.string (⟨#[100]⟩ : ByteArray)) rfl (fun _ => by kernel_rfl) ?_
            refine sq_call #[.string (⟨#[100]⟩ : ByteArray)] [13] rfl (checkY_spec ad ⟨#[100]⟩ (by decide) nm_d_ok) (fun _ => by kernel_rfl) h ?_; rintro v_ L_ w ⟨rfl, rfl⟩ h
            refine sq_p (.bool true) rfl (fun _ => by kernel_rfl) ?_
            refine sq_p (.bool true) rfl (fun _ => by kernel_rfl) ?_
            refine sq_p (.bool false) (by kernel_rfl) (fun _ => by kernel_rfl) ?_
            refine sq_p (.bool true) (by kernel_rfl) (fun _ => by kernel_rfl) ?_
            refine sq_p (.bool true) rfl (fun _ => by kernel_rfl) ?_
            refine sq_p (.bool true) rfl (fun _ => by kernel_rfl) ?_
            refine sq_p (.map (some k18)) (by kernel_rfl) (fun _ => by kernel_rfl) ?_
            refine sq_q (by kernel_rfl) h (g_eq (v := .int .i64 ((([] : List (ByteArray × Value)).length : Nat) : Int)) (v' := .int .i64 0) (g_lenm (K := 9) (E := 29) (by kernel_rfl) 3 rfl) rfl) ?_
            refine sq_p (.bool true) (by kernel_rfl) (fun _ => by kernel_rfl) ?_
            refine sq_p (.bool true) rfl (fun _ => by kernel_rfl) ?_
            refine sq_call #[.bool true] [] rfl (must_spec) (fun _ => by kernel_rfl) h ?_; rintro v_ L_ w ⟨rfl, rfl⟩ h
            refine lnil ?_
            refine thn_n ?_
            refine c_seq ?_
            refine c_reg ?_
            refine sq_p (.pointer (some ⟨lb, 0, none⟩)) rfl (fun _ => by kernel_rfl) ?_
            refine sq_call #[.pointer (some ⟨lb, 0, none⟩)] [2] rfl (ltext_spec lb b fm dirT (bodyK r (L.length + 1) t) (by decide) (Nat.le_trans hz5 (by decide))) (fun _ => by kernel_rfl) h ?_; rintro v_ L_ w ⟨rfl, rfl⟩ h
            refine sq_p (.string (⟨#[100, 105, 114]⟩ : ByteArray)) rfl (fun _ => by kernel_rfl) ?_
            refine lnil ?_
            refine thn_n ?_
            refine c_seq ?_
            refine c_reg ?_
            refine sq_p (.string (⟨#[100, 105, 114]⟩ : ByteArray)) rfl (fun _ => by kernel_rfl) ?_
            refine lnil ?_
            refine thn_n ?_
            refine c_block ?_
            refine c_seq ?_
            refine c_reg ?_
            refine sq_q rfl h (g_eq (v := .bool ((⟨#[100, 105, 114]⟩ : ByteArray).toList == (⟨#[100, 105, 114]⟩ : ByteArray).toList)) (v' := .bool (decide ((⟨#[100, 105, 114]⟩ : ByteArray) = (⟨#[100, 105, 114]⟩ : ByteArray)))) (g_pure fun _ => by kernel_rfl) beqS) ?_
            refine sq_p (.bool (decide ((⟨#[100, 105, 114]⟩ : ByteArray) = (⟨#[100, 105, 114]⟩ : ByteArray)))) rfl (fun _ => by kernel_rfl) ?_
            refine lnil ?_
            refine thn_n ?_
            refine c_cond (decide ((⟨#[100, 105, 114]⟩ : ByteArray) = (⟨#[100, 105, 114]⟩ : ByteArray))) (by kernel_rfl) (fun hc20 => ?_) (fun hc20 => ?_)
            · skip
              have hc20 := of_decide_eq_true hc20
              refine c_seq ?_
              have h := h.pickE (M := [rMap true k18 sk [], rDirs ds, rCell true lb [.string (ofT (bodyK r (L.length + 1) t)), .pointer (some ⟨b, 0, none⟩), .map (some fm)] 62, rEnv B ad [4], rCell true k19 [.int .i64 0, .int .i64 0] 29, rCell true b [.pointer (some ⟨tb, 0, none⟩), .int .i64 (m : Int), .int .i64 0, .int .i64 0, .map (some dm), .map (some pm)] 46, rTab tb (psO m (L ++ [(⟨nb17, 2, 0, 2, 1, u3, u4, none⟩ : ND)])) (gsO m (L ++ [(⟨nb17, 2, 0, 2, 1, u3, u4, none⟩ : ND)])) vl vg T Sl Sg, rNds (lO m (L ++ [(⟨nb17, 2, 0, 2, 1, u3, u4, none⟩ : ND)])), rCell true k13 [.int .i64 2, .int .i64 0, .int .i64 2, .int .i64 1, .int .i64 u3, .int .i64 u4] 51, rCell true k4 [.int .i64 (L.length : Int), .int .i64 0] 29, rCell true k2 [.int .i64 0, .int .i64 0] 29, rCell true k1 [.int .i64 u1, .int .i64 u2] 29, rMap true dm hk (aput (ds.map dnKV) ((L.length : Int), 0) (.map (some k18))), rEnv B ad [10]]) [3, 11, 0, 0, 0, 0, 0, 0, 0, 0, 0, 0, 0, 0] (by kernel_rfl)
              have h := Own.dirAdd (ds := ds) (⟨((L.length : Int), 0), k18, []⟩ : DN) h
              have h : Own w0 E [rDirs (ds ++ [(⟨((L.length : Int), 0), k18, []⟩ : DN)]), rCell true lb [.string (ofT (bodyK r (L.length + 1) t)), .pointer (some ⟨b, 0, none⟩), .map (some fm)] 62, rEnv B ad [4], rCell true k19 [.int .i64 0, .int .i64 0] 29, rCell true b [.pointer (some ⟨tb, 0, none⟩), .int .i64 (m : Int), .int .i64 0, .int .i64 0, .map (some dm), .map (some pm)] 46, rTab tb (psO m (L ++ [(⟨nb17, 2, 0, 2, 1, u3, u4, none⟩ : ND)])) (gsO m (L ++ [(⟨nb17, 2, 0, 2, 1, u3, u4, none⟩ : ND)])) vl vg T Sl Sg, rNds (lO m (L ++ [(⟨nb17, 2, 0, 2, 1, u3, u4, none⟩ : ND)])), rCell true k13 [.int .i64 2, .int .i64 0, .int .i64 2, .int .i64 1, .int .i64 u3, .int .i64 u4] 51, rCell true k4 [.int .i64 (L.length : Int), .int .i64 0] 29, rCell true k2 [.int .i64 0, .int .i64 0] 29, rCell true k1 [.int .i64 u1, .int .i64 u2] 29, rMap true dm hk (aput (ds.map dnKV) ((L.length : Int), 0) (.map (some k18))), rEnv B ad [10]] w := h
              rw [show aput (ds.map dnKV) ((L.length : Int), 0) (.map (some k18)) = (ds ++ [(⟨((L.length : Int), 0), k18, []⟩ : DN)]).map dnKV from dir_new (es := []) (hH.new (Nat.le_of_eq hds))] at h
              have h : Own w0 E [rDirs (ds ++ [(⟨((L.length : Int), 0), k18, []⟩ : DN)]), rCell true lb [.string (ofT (bodyK r (L.length + 1) t)), .pointer (some ⟨b, 0, none⟩), .map (some fm)] 62, rEnv B ad [4], rCell true k19 [.int .i64 0, .int .i64 0] 29, rCell true b [.pointer (some ⟨tb, 0, none⟩), .int .i64 (m : Int), .int .i64 0, .int .i64 0, .map (some dm), .map (some pm)] 46, rTab tb (psO m (L ++ [(⟨nb17, 2, 0, 2, 1, u3, u4, none⟩ : ND)])) (gsO m (L ++ [(⟨nb17, 2, 0, 2, 1, u3, u4, none⟩ : ND)])) vl vg T Sl Sg, rNds (lO m (L ++ [(⟨nb17, 2, 0, 2, 1, u3, u4, none⟩ : ND)])), rCell true k13 [.int .i64 2, .int .i64 0, .int .i64 2, .int .i64 1, .int .i64 u3, .int .i64 u4] 51, rCell true k4 [.int .i64 (L.length : Int), .int .i64 0] 29, rCell true k2 [.int .i64 0, .int .i64 0] 29, rCell true k1 [.int .i64 u1, .int .i64 u2] 29, rMap true dm hk ((ds ++ [(⟨((L.length : Int), 0), k18, []⟩ : DN)]).map dnKV), rEnv B ad [10]] w := h
              refine c_reg ?_
              refine sq_p (.map (some k18)) rfl (fun _ => by kernel_rfl) ?_
              refine sq_p (.string (⟨#[100]⟩ : ByteArray)) rfl (fun _ => by kernel_rfl) ?_
              refine sq_p (.pointer (some ⟨lb, 0, none⟩)) rfl (fun _ => by kernel_rfl) ?_
              refine sq_q rfl h (g_ld 0 [.int .i64 (L.length : Int), .int .i64 0] (.agg #[.int .i64 (L.length : Int), .int .i64 0]) (by kernel_rfl) 8 rfl) ?_
              refine sq_p (.int .i64 (L.length : Int)) rfl (fun _ => by kernel_rfl) ?_
              refine sq_q rfl h (g_eq (v := .int .i64 (IntKind.i64.wrap ((L.length : Int) + 1))) (v' := .int .i64 ((L.length + 1 : Nat) : Int)) (g_pure fun _ => by kernel_rfl) (wr (by omega))) ?_
              refine sq_call #[.pointer (some ⟨lb, 0, none⟩), .agg #[.int .i64 (L.length : Int), .int .i64 0], .int .i64 ((L.length + 1 : Nat) : Int)] [1, 3, 3, 3, 7, 0, 6, 0] rfl (hrec (L ++ [(⟨nb17, 2, 0, 2, 1, u3, u4, none⟩ : ND)]) (ds ++ [(⟨((L.length : Int), 0), k18, []⟩ : DN)]) (by simp) (by simp; omega) (hH.add (by rw [hds]))) (fun _ => by kernel_rfl) h ?_; rintro v_ L_ w ⟨Ls, Ds, hsg, rfl, rfl⟩ h
              have h := h.pickE (M := [rDirs ((ds ++ [(⟨((L.length : Int), 0), k18, []⟩ : DN)]) ++ Ds), rCell true lb [.string (ofT t), .pointer (some ⟨b, 0, none⟩), .map (some fm)] 62, rCell true b [.pointer (some ⟨tb, 0, none⟩), .int .i64 (m : Int), .int .i64 0, .int .i64 0, .map (some dm), .map (some pm)] 46, rTab tb (psO m ((L ++ [(⟨nb17, 2, 0, 2, 1, u3, u4, none⟩ : ND)]) ++ Ls)) (gsO m ((L ++ [(⟨nb17, 2, 0, 2, 1, u3, u4, none⟩ : ND)]) ++ Ls)) vl vg T Sl Sg, rNds (lO m ((L ++ [(⟨nb17, 2, 0, 2, 1, u3, u4, none⟩ : ND)]) ++ Ls)), rMap true dm hk (((ds ++ [(⟨((L.length : Int), 0), k18, []⟩ : DN)]) ++ Ds).map dnKV), rEnv B ad [10], rEnv B ad [4], rCell true k19 [.int .i64 0, .int .i64 0] 29, rCell true k13 [.int .i64 2, .int .i64 0, .int .i64 2, .int .i64 1, .int .i64 u3, .int .i64 u4] 51, rCell true k4 [.int .i64 (L.length : Int), .int .i64 0] 29, rCell true k2 [.int .i64 0, .int .i64 0] 29, rCell true k1 [.int .i64 u1, .int .i64 u2] 29]) [5, 0, 0, 0, 0, 0, 0, 0, 0, 0, 0, 0, 0] (by kernel_rfl)
              have h := Own.dirOpen (j := L.length) (d := (⟨((L.length : Int), 0), k18, []⟩ : DN)) h (mid_get hds)
              have h : Own w0 E [rMap true k18 sk ([] : List (ByteArray × Value)), rDirsO ((ds ++ [(⟨((L.length : Int), 0), k18, []⟩ : DN)]) ++ Ds) L.length, rCell true lb [.string (ofT t), .pointer (some ⟨b, 0, none⟩), .map (some fm)] 62, rCell true b [.pointer (some ⟨tb, 0, none⟩), .int .i64 (m : Int), .int .i64 0, .int .i64 0, .map (some dm), .map (some pm)] 46, rTab tb (psO m ((L ++ [(⟨nb17, 2, 0, 2, 1, u3, u4, none⟩ : ND)]) ++ Ls)) (gsO m ((L ++ [(⟨nb17, 2, 0, 2, 1, u3, u4, none⟩ : ND)]) ++ Ls)) vl vg T Sl Sg, rNds (lO m ((L ++ [(⟨nb17, 2, 0, 2, 1, u3, u4, none⟩ : ND)]) ++ Ls)), rMap true dm hk (((ds ++ [(⟨((L.length : Int), 0), k18, []⟩ : DN)]) ++ Ds).map dnKV), rEnv B ad [10], rEnv B ad [4], rCell true k19 [.int .i64 0, .int .i64 0] 29, rCell true k13 [.int .i64 2, .int .i64 0, .int .i64 2, .int .i64 1, .int .i64 u3, .int .i64 u4] 51, rCell true k4 [.int .i64 (L.length : Int), .int .i64 0] 29, rCell true k2 [.int .i64 0, .int .i64 0] 29, rCell true k1 [.int .i64 u1, .int .i64 u2] 29] w := h
              refine sq_mapu rfl (K := 9) (E := 29) (keyStr (by kernel_rfl)) (⟨#[100]⟩ : ByteArray) (.agg #[.int .i64 ((L.length + 1 : Nat) : Int), .int .i64 0]) (by kernel_rfl) h 0 rfl ?_; intro w h
              refine lnil ?_
              refine thn_n ?_
              refine d_start 6 [2, 10] (by kernel_rfl) h fun w h => ?_
              refine d_take 0 16 [2, 10] rfl (v := .pointer (some ⟨lb, 0, none⟩)) (by kernel_rfl) (qp_blk (qp_blk (qp_thn (qp_unr (qp_blk (qp_thn qp_body)))))) (yq (by kernel_rfl) (g_pure (v := .pointer (some ⟨lb, 0, none⟩)) fun _ => by kernel_rfl)) h (by kernel_rfl) ?_
              refine d_take 1 17 [2, 10] rfl (v := .pointer (some ⟨lb, 0, none⟩)) (by kernel_rfl) (qp_blk (qp_blk (qp_thn (qp_unr (qp_blk (qp_thn qp_body)))))) (yq (by kernel_rfl) (g_pure (v := .pointer (some ⟨lb, 0, none⟩)) fun _ => by kernel_rfl)) h (by kernel_rfl) ?_
              refine d_take 2 19 [2, 10] rfl (v := .pointer (some ⟨lb, 1, none⟩)) (by kernel_rfl) (qp_blk (qp_blk (qp_thn (qp_unr (qp_blk (qp_thn qp_body)))))) (yq (by kernel_rfl) (g_pure (v := .pointer (some ⟨lb, 1, none⟩)) fun _ => by kernel_rfl)) h (by kernel_rfl) ?_
              refine d_take 3 23 [2, 10] rfl (v := .pointer (some ⟨b, 0, none⟩)) (by kernel_rfl) (qp_blk (qp_blk (qp_thn (qp_unr (qp_blk (qp_thn qp_body)))))) (yq (by kernel_rfl) (g_ld 1 [.pointer (some ⟨b, 0, none⟩)] (.pointer (some ⟨b, 0, none⟩)) (by kernel_rfl) 0 rfl)) h (by kernel_rfl) ?_
              refine d_take 4 15 [2, 10] rfl (v := .agg #[.int .i64 (L.length : Int), .int .i64 0]) (by kernel_rfl) (qp_blk (qp_blk (qp_thn (qp_unr (qp_blk (qp_thn qp_body)))))) (yq (by kernel_rfl) (g_ld 0 [.int .i64 (L.length : Int), .int .i64 0] (.agg #[.int .i64 (L.length : Int), .int .i64 0]) (by kernel_rfl) 1 rfl)) h (by kernel_rfl) ?_
              refine d_ready [5] (by kernel_rfl) rfl ?_
              refine ad_call #[.pointer (some ⟨b, 0, none⟩), .agg #[.int .i64 (L.length : Int), .int .i64 0], .int .i64 1] [3, 3, 3, 4] [6, 10] rfl (by kernel_rfl) (linkP_spec ad b m tb dm pm vl vg T Sl Sg ((L ++ [(⟨nb17, 2, 0, 2, 1, u3, u4, none⟩ : ND)]) ++ Ls) (by have := hsg.l1; simp; omega) L.length (⟨nb17, 2, 0, 2, 1, u3, u4, none⟩ : ND) (mid_get rfl) 1 (by omega) ⟨(by decide : (0 : Int) ≤ 2), (by decide : (2 : Int) ≤ 1000000)⟩) (fun _ => by kernel_rfl) h ?_ ?_
              · skip
                rintro _ L_ w rfl h
                refine ⟨by kernel_rfl, ?_⟩
                refine d_done (by kernel_rfl) ?_
                refine blk_n (blk_n (thn_n ?_))
                refine c_reg ?_
                refine sq_p (.int .i64 1) rfl (fun _ => by kernel_rfl) ?_
                refine sq_p (.int .i64 1) rfl (fun _ => by kernel_rfl) ?_
                refine lnil ?_
                refine unr_n ?_
                refine c_seq ?_
                refine c_reg ?_
                refine sq_p (.bool false) rfl (fun _ => by kernel_rfl) ?_
                refine lnil ?_
                refine thn_n ?_
                refine c_seq ?_
                refine c_false (by kernel_rfl) ?_
                refine c_exit ?_
                refine thn_e (unr_e (blk_e (thn_n ?_)))
                refine c_seq ?_
                refine c_reg ?_
                refine sq_q rfl h (g_ld 0 [.int .i64 (L.length : Int), .int .i64 0] (.agg #[.int .i64 (L.length : Int), .int .i64 0]) (by kernel_rfl) 11 rfl) ?_
                refine sq_st rfl 0 [.int .i64 (L.length : Int), .int .i64 0] [.int .i64 (L.length : Int), .int .i64 0] h 12 rfl (by kernel_rfl) ?_; intro w h
                refine lnil ?_
                refine thn_n ?_
                refine c_ret ?_
                have h : Own w0 E [rCell true b [.pointer (some ⟨tb, 0, none⟩), .int .i64 (m : Int), .int .i64 0, .int .i64 0, .map (some dm), .map (some pm)] 46, rTab tb (psO m (((L ++ [(⟨nb17, 2, 0, 2, 1, u3, u4, none⟩ : ND)]) ++ Ls).set L.length (linkN (⟨nb17, 2, 0, 2, 1, u3, u4, none⟩ : ND) 1))) (gsO m (((L ++ [(⟨nb17, 2, 0, 2, 1, u3, u4, none⟩ : ND)]) ++ Ls).set L.length (linkN (⟨nb17, 2, 0, 2, 1, u3, u4, none⟩ : ND) 1))) vl vg T Sl Sg, rNds (lO m (((L ++ [(⟨nb17, 2, 0, 2, 1, u3, u4, none⟩ : ND)]) ++ Ls).set L.length (linkN (⟨nb17, 2, 0, 2, 1, u3, u4, none⟩ : ND) 1))), rEnv B ad [10], rMap true k18 sk ([((⟨#[100]⟩ : ByteArray), ((((L.length + 1 : Nat) : Int), 0) : Int × Int))].map enKV), rDirsO ((ds ++ [(⟨((L.length : Int), 0), k18, []⟩ : DN)]) ++ Ds) L.length, rCell true lb [.string (ofT t), .pointer (some ⟨b, 0, none⟩), .map (some fm)] 62, rMap true dm hk (((ds ++ [(⟨((L.length : Int), 0), k18, []⟩ : DN)]) ++ Ds).map dnKV), rEnv B ad [4], rCell true k19 [.int .i64 0, .int .i64 0] 29, rCell true k13 [.int .i64 2, .int .i64 0, .int .i64 2, .int .i64 1, .int .i64 u3, .int .i64 u4] 51, rCell true k4 [.int .i64 (L.length : Int), .int .i64 0] 29, rCell true k2 [.int .i64 (L.length : Int), .int .i64 0] 29, rCell true k1 [.int .i64 u1, .int .i64 u2] 29] w := h
                have h := h.pickE (M := [rMap true k18 sk ([((⟨#[100]⟩ : ByteArray), ((((L.length + 1 : Nat) : Int), 0) : Int × Int))].map enKV), rDirsO ((ds ++ [(⟨((L.length : Int), 0), k18, []⟩ : DN)]) ++ Ds) L.length, rCell true b [.pointer (some ⟨tb, 0, none⟩), .int .i64 (m : Int), .int .i64 0, .int .i64 0, .map (some dm), .map (some pm)] 46, rTab tb (psO m (((L ++ [(⟨nb17, 2, 0, 2, 1, u3, u4, none⟩ : ND)]) ++ Ls).set L.length (linkN (⟨nb17, 2, 0, 2, 1, u3, u4, none⟩ : ND) 1))) (gsO m (((L ++ [(⟨nb17, 2, 0, 2, 1, u3, u4, none⟩ : ND)]) ++ Ls).set L.length (linkN (⟨nb17, 2, 0, 2, 1, u3, u4, none⟩ : ND) 1))) vl vg T Sl Sg, rNds (lO m (((L ++ [(⟨nb17, 2, 0, 2, 1, u3, u4, none⟩ : ND)]) ++ Ls).set L.length (linkN (⟨nb17, 2, 0, 2, 1, u3, u4, none⟩ : ND) 1))), rEnv B ad [10], rCell true lb [.string (ofT t), .pointer (some ⟨b, 0, none⟩), .map (some fm)] 62, rMap true dm hk (((ds ++ [(⟨((L.length : Int), 0), k18, []⟩ : DN)]) ++ Ds).map dnKV), rEnv B ad [4], rCell true k19 [.int .i64 0, .int .i64 0] 29, rCell true k13 [.int .i64 2, .int .i64 0, .int .i64 2, .int .i64 1, .int .i64 u3, .int .i64 u4] 51, rCell true k4 [.int .i64 (L.length : Int), .int .i64 0] 29, rCell true k2 [.int .i64 (L.length : Int), .int .i64 0] 29, rCell true k1 [.int .i64 u1, .int .i64 u2] 29]) [4, 4, 0, 0, 0, 0, 0, 0, 0, 0, 0, 0, 0, 0] (by kernel_rfl)
                have h := Own.dirClose (ds := ((ds ++ [(⟨((L.length : Int), 0), k18, []⟩ : DN)]) ++ Ds)) (j := L.length) (⟨((L.length : Int), 0), k18, [(⟨#[100]⟩, (((L.length + 1 : Nat) : Int), 0))]⟩ : DN) h
                have h : Own w0 E [rDirs (((ds ++ [(⟨((L.length : Int), 0), k18, []⟩ : DN)]) ++ Ds).set L.length (⟨((L.length : Int), 0), k18, [(⟨#[100]⟩, (((L.length + 1 : Nat) : Int), 0))]⟩ : DN)), rCell true b [.pointer (some ⟨tb, 0, none⟩), .int .i64 (m : Int), .int .i64 0, .int .i64 0, .map (some dm), .map (some pm)] 46, rTab tb (psO m (((L ++ [(⟨nb17, 2, 0, 2, 1, u3, u4, none⟩ : ND)]) ++ Ls).set L.length (linkN (⟨nb17, 2, 0, 2, 1, u3, u4, none⟩ : ND) 1))) (gsO m (((L ++ [(⟨nb17, 2, 0, 2, 1, u3, u4, none⟩ : ND)]) ++ Ls).set L.length (linkN (⟨nb17, 2, 0, 2, 1, u3, u4, none⟩ : ND) 1))) vl vg T Sl Sg, rNds (lO m (((L ++ [(⟨nb17, 2, 0, 2, 1, u3, u4, none⟩ : ND)]) ++ Ls).set L.length (linkN (⟨nb17, 2, 0, 2, 1, u3, u4, none⟩ : ND) 1))), rEnv B ad [10], rCell true lb [.string (ofT t), .pointer (some ⟨b, 0, none⟩), .map (some fm)] 62, rMap true dm hk (((ds ++ [(⟨((L.length : Int), 0), k18, []⟩ : DN)]) ++ Ds).map dnKV), rEnv B ad [4], rCell true k19 [.int .i64 0, .int .i64 0] 29, rCell true k13 [.int .i64 2, .int .i64 0, .int .i64 2, .int .i64 1, .int .i64 u3, .int .i64 u4] 51, rCell true k4 [.int .i64 (L.length : Int), .int .i64 0] 29, rCell true k2 [.int .i64 (L.length : Int), .int .i64 0] 29, rCell true k1 [.int .i64 u1, .int .i64 u2] 29] w := h
                rw [mid_set (n := L.length) hds, mid_set (n := L.length) rfl, mid_kv (x := (⟨((L.length : Int), 0), k18, []⟩ : DN)) (y := (⟨((L.length : Int), 0), k18, [(⟨#[100]⟩, (((L.length + 1 : Nat) : Int), 0))]⟩ : DN)) rfl] at h
                have h : Own w0 E [rDirs (ds ++ ((⟨((L.length : Int), 0), k18, [(⟨#[100]⟩, (((L.length + 1 : Nat) : Int), 0))]⟩ : DN) :: Ds)), rCell true b [.pointer (some ⟨tb, 0, none⟩), .int .i64 (m : Int), .int .i64 0, .int .i64 0, .map (some dm), .map (some pm)] 46, rTab tb (psO m (L ++ (linkN (⟨nb17, 2, 0, 2, 1, u3, u4, none⟩ : ND) 1 :: Ls))) (gsO m (L ++ (linkN (⟨nb17, 2, 0, 2, 1, u3, u4, none⟩ : ND) 1 :: Ls))) vl vg T Sl Sg, rNds (lO m (L ++ (linkN (⟨nb17, 2, 0, 2, 1, u3, u4, none⟩ : ND) 1 :: Ls))), rEnv B ad [10], rCell true lb [.string (ofT t), .pointer (some ⟨b, 0, none⟩), .map (some fm)] 62, rMap true dm hk ((ds ++ ((⟨((L.length : Int), 0), k18, [(⟨#[100]⟩, (((L.length + 1 : Nat) : Int), 0))]⟩ : DN) :: Ds)).map dnKV), rEnv B ad [4], rCell true k19 [.int .i64 0, .int .i64 0] 29, rCell true k13 [.int .i64 2, .int .i64 0, .int .i64 2, .int .i64 1, .int .i64 u3, .int .i64 u4] 51, rCell true k4 [.int .i64 (L.length : Int), .int .i64 0] 29, rCell true k2 [.int .i64 (L.length : Int), .int .i64 0] 29, rCell true k1 [.int .i64 u1, .int .i64 u2] 29] w := h
                refine ret_end [.agg #[.int .i64 (L.length : Int), .int .i64 0]] [5, 1, 1, 1, 2, 0, 0, 0] h (by kernel_rfl) (res_c 0 [.int .i64 (L.length : Int), .int .i64 0] (.agg #[.int .i64 (L.length : Int), .int .i64 0]) 11 rfl (by kernel_rfl) res_n) ?_
                exact ⟨_ :: Ls, _ :: Ds, hsg.cons rfl rfl rfl rfl rfl rfl, rfl, rfl⟩
              exact ad_nil
            · skip
              have hc20 := of_decide_eq_false hc20
              exfalso; revert hc20; decide
          exact ad_nil
      exact ad_nil
    exact ad_nil
  exact ad_nil

/- Table.Gens: a copy of the generations. No condition but that they are few. -/
theorem gens_any (b : Nat) (ps : List (Option Nat)) (gs : List Int) (vl vg : Value) (T : TypeId) (Sl Sg : Nat → Prop) (w : World) (ht : TabAt w b ps gs vl vg T Sl Sg) (hl : gs.length ≤ 300) (h1 : 1 ≤ gs.length) :
    Calls Tryz.prog 28 #[.pointer (some ⟨b, 0, none⟩)] w fun e w' => ∃ v, e = .returned v ∧ w'.ownsRow w.heap.size 3 1 v gs.length (gs.map (Value.int .i64)) ∧ Below w.heap.size w w' := by
  have e1 := cell_of ht.blk 1
  simp at e1
  obtain ⟨g2, o2, c2, cs2, rfl, _, n2, _, _, _, hS2, gl2⟩ := ht.g.place (by omega)
  have HC := Lib.hid (Go.Proofs.Tryz.slices_Clone_int g2 o2 gs.length c2 gs w (Nat.le_refl _) (by omega) (fun j hj => by
    have y1 := (ht.g.elem intC_len (List.getElem?_eq_getElem hj) 0 _ rfl).1
    simp only [Nat.mul_one, Nat.add_zero] at y1
    rw [y1]
    simp [List.getD, List.getElem?_eq_getElem hj]))
  clear ht
  go_enter Tryz.func28, Tryz.ntmps28
  go_wp2_with fail
  refine HC.out.mono ?_
  rintro e w2 ⟨v, rfl, hrow, _, hb⟩
  go_wp2_with fail
  go_ret
  rw [List.take_of_length_le (Nat.le_refl _)] at hrow
  exact ⟨v, rfl, hrow, hb⟩
theorem map_intC (gs : List Int) : gs.map (Value.int .i64) = gs.flatMap intC := by
  induction gs with
  | nil => rfl
  | cons a l ih => simp only [List.map_cons, List.flatMap_cons, ih]; rfl
theorem gens_spec (b : Nat) (ps : List (Option Nat)) (gs : List Int) (vl vg : Value) (T : TypeId) (Sl Sg : Nat → Prop) (hl : gs.length ≤ 300) (h1 : 1 ≤ gs.length) : Spec Tryz.prog 28 #[.pointer (some ⟨b, 0, none⟩)] [rTab b ps gs vl vg T Sl Sg] fun u L => ∃ v', u = v' ∧ L = [rRows true v' 3 1 intC gs, rTab b ps gs vl vg T Sl Sg] := fun E w0 w ho => by
  refine (gens_any b ps gs vl vg T Sl Sg w (ho.fact 0 rfl) hl h1).mono ?_
  rintro e w' ⟨v, rfl, hrow, hb⟩
  rw [map_intC] at hrow
  obtain ⟨s1, s2⟩ := (SliceAt.of_owns hrow (fun x h1 h2 => ⟨h1, h2⟩) : SliceAt w' v 3 1 gs.length (gs.flatMap intC) (fun x => w.heap.size ≤ x ∧ x < w'.heap.size)).own
  have hc : Chg Nil w w' := Chg.of_below hb (fun x a b => by omega)
  exact ⟨_, _, ⟨v, rfl, rfl⟩, rfl, ho.push hc s1 fun b hb => (s2 b hb).1⟩

/- deep: contracts by what is owned (printed by walk.py). -/

theorem ldir_all {B : Nat} (ad : Nat → Addr) (b m tb dm pm : Nat) (vl vg : Value) (T : TypeId) (Sl Sg : Nat → Prop) (lb fm : Nat) (hm3 : m ≤ 300) (t : Tx) : ∀ (r : Nat) (L : List ND) (ds : List DN), ds.length = L.length → HdS ds → L.length + r < m → ∀ u1 u2 : Int, (bodyK r L.length t).length ≤ 80000000 →
    Spec Tryz.prog 24 #[.pointer (some ⟨lb, 0, none⟩), .agg #[.int .i64 u1, .int .i64 u2], .int .i64 (L.length : Int)] [rCell true lb [.string (ofT (bodyK r L.length t)), .pointer (some ⟨b, 0, none⟩), .map (some fm)] 62, rCell true b [.pointer (some ⟨tb, 0, none⟩), .int .i64 (m : Int), .int .i64 0, .int .i64 0, .map (some dm), .map (some pm)] 46, rTab tb (psO m L) (gsO m L) vl vg T Sl Sg, rNds (lO m L), rMap true dm hk (ds.map dnKV), rDirs ds, rEnv B ad [10], rEnv B ad [4]] fun u X => ∃ Ls Ds, Seg L.length r Ls Ds ∧ u = .agg #[.int .i64 (L.length : Int), .int .i64 0] ∧ X = [rCell true lb [.string (ofT t), .pointer (some ⟨b, 0, none⟩), .map (some fm)] 62, rCell true b [.pointer (some ⟨tb, 0, none⟩), .int .i64 (m : Int), .int .i64 0, .int .i64 0, .map (some dm), .map (some pm)] 46, rTab tb (psO m (L ++ Ls)) (gsO m (L ++ Ls)) vl vg T Sl Sg, rNds (lO m (L ++ Ls)), rMap true dm hk ((ds ++ Ds).map dnKV), rDirs (ds ++ Ds), rEnv B ad [10], rEnv B ad [4]]
  | 0, L, ds, hds, hH, hi, u1, u2, hz => ldir_leaf ad b m tb dm pm vl vg T Sl Sg L ds lb fm hds hH hm3 u1 u2 t hi hz
  | r + 1, L, ds, hds, hH, hi, u1, u2, hz => ldir_next ad b m tb dm pm vl vg T Sl Sg L ds lb fm hds hH hm3 u1 u2 t r hi (fun L2 ds2 h1 h2 h3 => by
      have hs : (bodyK r (L.length + 1) t).length ≤ 80000000 := Nat.le_trans (Nat.le_trans (it_suf _ _) (Nat.le_trans (it_suf _ _) (Nat.le_trans (num_suf _ _) (Nat.le_trans (num_suf _ _) (Nat.le_trans (num_suf _ _) (num_suf _ _)))))) hz
      have := ldir_all (B := B) ad b m tb dm pm vl vg T Sl Sg lb fm hm3 t r L2 ds2 (h2.trans h1.symm) h3 (by omega) (L.length : Int) 0 (by rw [h1]; exact hs)
      rw [h1] at this
      exact this) hz
theorem node_all {B : Nat} (ad : Nat → Addr) (b m tb dm pm : Nat) (vl vg : Value) (T : TypeId) (Sl Sg : Nat → Prop) (hm3 : m ≤ 300) (L : List ND) (ds : List DN) (k : Nat) (sg : Seg 0 k L ds) (hm : L.length ≤ m) (hdd : (ds.map (·.h)).Nodup) (pb tm : Nat) : ∀ (r i : Nat), i + r = k → ∀ (p v : Value) (t : Tx), (p = .pointer none ∨ p = .pointer (some ⟨pb, 0, none⟩)) → t.length ≤ 3000 * i →
    Spec Tryz.prog 27 #[.pointer (some ⟨b, 0, none⟩), .pointer (some ⟨pb, 0, none⟩), .agg #[.int .i64 (i : Int), .int .i64 0], .map (some tm)] [rCell true b [.pointer (some ⟨tb, 0, none⟩), .int .i64 (m : Int), .int .i64 0, .int .i64 0, .map (some dm), .map (some pm)] 46, rTab tb (psO m L) (gsO m L) vl vg T Sl Sg, rNds (lO m L), rMap true dm hk (ds.map dnKV), rDirs ds, rEnv B ad [10], rCell true pb [p, v] 75, rTxt v 5 t, rPow, rMap true tm hk (toldK i)] fun u X => ∃ v', u = .tuple #[] ∧ X = [rCell true b [.pointer (some ⟨tb, 0, none⟩), .int .i64 (m : Int), .int .i64 0, .int .i64 0, .map (some dm), .map (some pm)] 46, rTab tb (psO m L) (gsO m L) vl vg T Sl Sg, rNds (lO m L), rMap true dm hk (ds.map dnKV), rDirs ds, rEnv B ad [10], rCell true pb [.pointer (some ⟨pb, 0, none⟩), v'] 75, rTxt v' 5 (t ++ deepT r i []), rPow, rMap true tm hk (toldK (i + r + 1))]
  | 0, i, hi, p, v, t, hp, ht => by
    obtain ⟨N, hN, h1, h2, h3, h4⟩ := sg.nd i (by omega)
    obtain ⟨d, hd, h5, h6⟩ := sg.dd i (by omega)
    rw [if_neg (by omega)] at h3 h6
    rw [Nat.zero_add] at h5
    have hl1 := sg.l1
    exact node_leaf ad b m tb dm pm (psO m L) (gsO m L) vl vg T Sl Sg (lO m L) ds [] (by rw [psO_len hm, gsO_len hm]) gsO_rng i N (lO_get hN) (atOf_psO hN) d hd h5 hdd 0 (by decide) (by omega) h1 h3 pb tm p v hp t ht h6 rfl
  | r + 1, i, hi, p, v, t, hp, ht => by
    obtain ⟨N, hN, h1, h2, h3, h4⟩ := sg.nd i (by omega)
    obtain ⟨d, hd, h5, h6⟩ := sg.dd i (by omega)
    rw [if_pos (by omega)] at h3 h6
    rw [Nat.zero_add] at h5 h6
    have hl1 := sg.l1
    exact node_next ad b m tb dm pm (psO m L) (gsO m L) vl vg T Sl Sg (lO m L) ds [] (by rw [psO_len hm, gsO_len hm]) gsO_rng i N (lO_get hN) (atOf_psO hN) d hd h5 hdd 1 (by decide) (by omega) h1 h3 pb tm p v hp t ht r (⟨#[100]⟩, (((i + 1 : Nat) : Int), 0)) rfl h6 rfl (fun v t ht => node_all (B := B) ad b m tb dm pm vl vg T Sl Sg hm3 L ds k sg hm hdd pb tm r (i + 1) (by omega) _ v t (.inr rfl) ht)
theorem toldK_at (n j : Nat) (g : Int) : aget (toldK n) ((j : Int), g) = if j < n ∧ g = 0 then some (.bool true) else none := by
  have : ∀ l : List Nat, aget (l.map tdK) ((j : Int), g) = if j ∈ l ∧ g = 0 then some (.bool true) else none := fun l => by
    induction l with
    | nil => simp [aget]
    | cons x r ih =>
      simp only [List.map_cons, aget]
      by_cases c : (((j : Int), g) : Int × Int) = (tdK x).1
      · rw [if_pos c]
        have h1 := congrArg Prod.fst c
        have h2 := congrArg Prod.snd c
        simp only [tdK] at h1 h2
        rw [if_pos ⟨by rw [show j = x by omega]; simp, h2⟩]; rfl
      · rw [if_neg c, ih]
        by_cases q : j ∈ r ∧ g = 0
        · rw [if_pos q, if_pos ⟨List.mem_cons_of_mem _ q.1, q.2⟩]
        · have q2 : ¬ (j ∈ x :: r ∧ g = 0) := fun ⟨h1, h2⟩ => by
            rcases List.mem_cons.1 h1 with h1 | h1
            · exact c (by rw [h1, h2]; rfl)
            · exact q ⟨h1, h2⟩
          rw [if_neg q, if_neg q2]
  unfold toldK
  rw [this]
  simp only [List.mem_range]
theorem look_b (A : Prop) [Decidable A] : (if A then some (Value.bool true) else none).getD (.bool false) = .bool (decide A) := by
  by_cases h : A
  · rw [if_pos h, decide_eq_true h]; rfl
  · rw [if_neg h, decide_eq_false h]; rfl
theorem gsO_at {m j : Nat} {L : List ND} {x : Int} (h : (gsO m L)[j]? = some x) : (j < L.length ∧ x = 1) ∨ (L.length ≤ j ∧ x = 0) := by
  unfold gsO padO at h
  by_cases c : j < L.length
  · rw [List.getElem?_append_left (by simpa using c), List.getElem?_map, List.getElem?_eq_getElem c] at h
    exact .inl ⟨c, by simpa using h.symm⟩
  · rw [List.getElem?_append_right (by simpa using c), List.getElem?_replicate] at h
    split at h
    · exact .inr ⟨by omega, by simpa using h.symm⟩
    · cases h

theorem snap_spec {B : Nat} (ad : Nat → Addr) (b m tb dm pm : Nat) (vl vg : Value) (T : TypeId) (Sl Sg : Nat → Prop) (hm3 : m ≤ 300) (L : List ND) (ds : List DN) (k : Nat) (sg : Seg 0 k L ds) (hm : L.length ≤ m) (hdd : (ds.map (·.h)).Nodup)  : Spec Tryz.prog 11 #[.pointer (some ⟨b, 0, none⟩)] [rCell true b [.pointer (some ⟨tb, 0, none⟩), .int .i64 (m : Int), .int .i64 0, .int .i64 0, .map (some dm), .map (some pm)] 46, rTab tb (psO m L) (gsO m L) vl vg T Sl Sg, rNds (lO m L), rMap true dm hk (ds.map dnKV), rDirs ds, rEnv B ad [10], rPow] (fun u X => u = .string (ofT (deepT k 0 [])) ∧ X = [rCell true b [.pointer (some ⟨tb, 0, none⟩), .int .i64 (m : Int), .int .i64 0, .int .i64 0, .map (some dm), .map (some pm)] 46, rTab tb (psO m L) (gsO m L) vl vg T Sl Sg, rNds (lO m L), rMap true dm hk (ds.map dnKV), rDirs ds, rEnv B ad [10], rPow]) := by
  have hl1 := sg.l1
  have hgl : (gsO m L).length = m := gsO_len hm
  refine spec_of (#[.pointer (some ⟨b, 0, none⟩), undef, undef, undef, undef, undef, undef, undef, undef, undef, undef, undef, undef, undef, undef, undef, undef, undef, undef, undef, undef, undef, undef, undef, undef, undef, undef, undef, undef, undef, undef, undef, undef, undef, undef, undef, undef, undef, undef, undef, undef, undef, undef, undef, undef, undef, undef, undef, undef, undef]) Tryz.func11 rfl (by kernel_rfl) fun E w0 w h => ?_
  refine c_seq ?_
  refine c_reg ?_
  refine sq_p (.string (⟨#[]⟩ : ByteArray)) rfl (fun _ => by kernel_rfl) ?_
  refine lnil ?_
  refine thn_n ?_
  refine c_seq ?_
  refine c_reg ?_
  refine sq_p (.agg #[.pointer none, .slice none 0 0]) rfl (fun _ => by kernel_rfl) ?_
  refine sq_new rfl (fun b => .pointer (some ⟨b, 0, none⟩)) [.pointer none, .slice none 0 0] 75 (fun _ => by kernel_rfl) h ?_; intro k1 w h
  refine sq_p (.pointer (some ⟨k1, 0, none⟩)) rfl (fun _ => by kernel_rfl) ?_
  refine lnil ?_
  refine thn_n ?_
  refine c_seq ?_
  refine c_reg ?_
  refine sq_newm rfl hk (fun _ => by kernel_rfl) h ?_; intro k2 w h
  refine sq_p (.map (some k2)) rfl (fun _ => by kernel_rfl) ?_
  refine lnil ?_
  refine thn_n ?_
  refine c_seq ?_
  refine c_reg ?_
  refine sq_p (.pointer (some ⟨b, 0, none⟩)) rfl (fun _ => by kernel_rfl) ?_
  refine sq_p (.pointer (some ⟨k1, 0, none⟩)) rfl (fun _ => by kernel_rfl) ?_
  refine sq_p (.pointer (some ⟨b, 0, none⟩)) rfl (fun _ => by kernel_rfl) ?_
  refine sq_p (.pointer (some ⟨b, 0, none⟩)) rfl (fun _ => by kernel_rfl) ?_
  refine sq_p (.pointer (some ⟨b, 2, none⟩)) rfl (fun _ => by kernel_rfl) ?_
  refine sq_q rfl h (g_ld 2 [.int .i64 0, .int .i64 0] (.agg #[.int .i64 0, .int .i64 0]) (by kernel_rfl) 2 rfl) ?_
  refine sq_p (.map (some k2)) rfl (fun _ => by kernel_rfl) ?_
  have h := h.nilTxt 5
  refine sq_call #[.pointer (some ⟨b, 0, none⟩), .pointer (some ⟨k1, 0, none⟩), .agg #[.int .i64 0, .int .i64 0], .map (some k2)] [3, 3, 3, 3, 3, 3, 2, 0, 1, 0] rfl (node_all ad b m tb dm pm vl vg T Sl Sg hm3 L ds k sg hm hdd k1 k2 k 0 (Nat.zero_add k) (.pointer none) (.slice none 0 0) [] (.inl rfl) (Nat.zero_le _)) (fun _ => by kernel_rfl) h ?_; rintro v_ L_ w ⟨vr3, rfl, rfl⟩ h
  refine lnil ?_
  refine thn_n ?_
  refine c_seq ?_
  refine c_seq ?_
  refine c_reg ?_
  refine sq_p (.pointer (some ⟨b, 0, none⟩)) rfl (fun _ => by kernel_rfl) ?_
  refine sq_p (.pointer (some ⟨b, 0, none⟩)) rfl (fun _ => by kernel_rfl) ?_
  refine sq_p (.pointer (some ⟨b, 0, none⟩)) rfl (fun _ => by kernel_rfl) ?_
  refine sq_q rfl h (g_ld 0 [.pointer (some ⟨tb, 0, none⟩)] (.pointer (some ⟨tb, 0, none⟩)) (by kernel_rfl) 0 rfl) ?_
  refine sq_call #[.pointer (some ⟨tb, 0, none⟩)] [1] rfl (gens_spec tb (psO m L) (gsO m L) vl vg T Sl Sg (by rw [gsO_len hm]; exact hm3) (by rw [gsO_len hm]; omega)) (fun _ => by kernel_rfl) h ?_; rintro vg4 L_ w ⟨_, rfl, rfl⟩ h
  refine sq_q rfl h (g_len (by kernel_rfl) 0 rfl) ?_
  refine sq_p (.int .i64 0) rfl (fun _ => by kernel_rfl) ?_
  refine lnil ?_
  refine thn_n ?_
  refine c_block ?_
  refine c_loop (X := Nat × (Nat → Value)) (fun ⟨gi, J0⟩ => ⟨#[.pointer (some ⟨b, 0, none⟩), undef, .string (⟨#[]⟩ : ByteArray), .pointer (some ⟨k1, 0, none⟩), .map (some k2), J0 5, J0 6, .agg #[.pointer none, .slice none 0 0], .pointer (some ⟨k1, 0, none⟩), .map (some k2), .pointer (some ⟨b, 0, none⟩), .pointer (some ⟨k1, 0, none⟩), .pointer (some ⟨b, 0, none⟩), .pointer (some ⟨b, 0, none⟩), .pointer (some ⟨b, 2, none⟩), .agg #[.int .i64 0, .int .i64 0], .map (some k2), .tuple #[], .pointer (some ⟨b, 0, none⟩), .pointer (some ⟨b, 0, none⟩), .pointer (some ⟨b, 0, none⟩), .pointer (some ⟨tb, 0, none⟩), vg4, .int .i64 ((gsO m L).length : Int), .int .i64 (gi : Int), J0 25, J0 26, J0 27, J0 28, J0 29, J0 30, J0 31, J0 32, J0 33, J0 34, J0 35, J0 36, J0 37, J0 38, J0 39, J0 40, J0 41, J0 42, J0 43, J0 44, J0 45, undef, undef, undef, undef], []⟩)
    (fun ⟨gi, J0⟩ => [rRows true vg4 3 1 intC (gsO m L), rTab tb (psO m L) (gsO m L) vl vg T Sl Sg, rCell true b [.pointer (some ⟨tb, 0, none⟩), .int .i64 (m : Int), .int .i64 0, .int .i64 0, .map (some dm), .map (some pm)] 46, rNds (lO m L), rMap true dm hk (ds.map dnKV), rDirs ds, rEnv B ad [10], rCell true k1 [.pointer (some ⟨k1, 0, none⟩), vr3] 75, rTxt vr3 5 ([] ++ deepT k 0 []), rPow, rMap true k2 hk (toldK (0 + k + 1))]) (fun ⟨gi, J0⟩ => gi ≤ (gsO m L).length) (fun ⟨gi, J0⟩ => (gsO m L).length - gi)
    ⟨0, (fun n => (#[.pointer (some ⟨b, 0, none⟩), undef, .string (⟨#[]⟩ : ByteArray), .pointer (some ⟨k1, 0, none⟩), .map (some k2), undef, undef, .agg #[.pointer none, .slice none 0 0], .pointer (some ⟨k1, 0, none⟩), .map (some k2), .pointer (some ⟨b, 0, none⟩), .pointer (some ⟨k1, 0, none⟩), .pointer (some ⟨b, 0, none⟩), .pointer (some ⟨b, 0, none⟩), .pointer (some ⟨b, 2, none⟩), .agg #[.int .i64 0, .int .i64 0], .map (some k2), .tuple #[], .pointer (some ⟨b, 0, none⟩), .pointer (some ⟨b, 0, none⟩), .pointer (some ⟨b, 0, none⟩), .pointer (some ⟨tb, 0, none⟩), vg4, .int .i64 ((gsO m L).length : Int), .int .i64 0, undef, undef, undef, undef, undef, undef, undef, undef, undef, undef, undef, undef, undef, undef, undef, undef, undef, undef, undef, undef, undef, undef, undef, undef, undef] : Array Value).getD n undef)⟩ (Nat.zero_le _) (by kernel_rfl) [0, 0, 0, 0, 0, 0, 0, 0, 0, 0, 0] (by kernel_rfl) h ?_
  rintro ⟨gi, J0⟩ w hG h
  have hjl := hG
  refine c_seq ?_
  refine c_reg ?_
  refine sq_p (.bool (decide ((gi : Int) < ((gsO m L).length : Int)))) rfl (fun _ => by kernel_rfl) ?_
  refine lnil ?_
  refine thn_n ?_
  refine c_seq ?_
  refine c_cond (decide ((gi : Int) < ((gsO m L).length : Int))) (by kernel_rfl) (fun hc5 => ?_) (fun hc5 => ?_)
  · skip
    have hc5 := of_decide_eq_true hc5
    refine c_skip ?_
    refine thn_n ?_
    refine c_seq ?_
    refine c_block ?_
    refine c_seq ?_
    refine c_reg ?_
    refine sq_p (.int .i64 (gi : Int)) rfl (fun _ => by kernel_rfl) ?_
    have hi6 : gi < (gsO m L).length := by omega
    obtain ⟨x7, hx8⟩ : ∃ x, (gsO m L)[gi]? = some x := ⟨_, List.getElem?_eq_getElem hi6⟩
    have hcs9 := gsO_at hx8
    refine sq_q rfl h (g_idx gi (by kernel_rfl) hi6 0 rfl) ?_
    refine sq_q rfl h (g_ldr (b := blkN vg4) (offN vg4 + gi * 1) [.int .i64 x7] (.int .i64 x7) (by kernel_rfl) 0 rfl (rdRow0 intC_len hx8 (by kernel_rfl))) ?_
    refine sq_p (.int .i64 (gi : Int)) rfl (fun _ => by kernel_rfl) ?_
    refine sq_p (.int .i64 x7) rfl (fun _ => by kernel_rfl) ?_
    refine lnil ?_
    refine thn_n ?_
    refine c_seq ?_
    refine c_reg ?_
    refine sq_p (.int .i64 x7) rfl (fun _ => by kernel_rfl) ?_
    obtain ⟨b10, hb10⟩ : ∃ b_ : Bool, b_ = (decide (x7 > 0)) := ⟨_, rfl⟩
    refine sq_q (v := .bool b10) rfl h (by subst hb10; exact g_pure (v := .bool (decide (x7 > 0))) fun _ => by kernel_rfl) ?_
    refine sq_p (.bool b10) rfl (fun _ => by kernel_rfl) ?_
    refine sq_m1 (v := .map (some k2)) b10 (by cases b10 <;> kernel_rfl) h (fun hB => by subst hB; exact g_pure (v := .map (some k2)) fun _ => by kernel_rfl) ?_
    refine sq_m1 (v := .int .i64 (gi : Int)) b10 (by cases b10 <;> kernel_rfl) h (fun hB => by subst hB; exact g_pure (v := .int .i64 (gi : Int)) fun _ => by kernel_rfl) ?_
    refine sq_m1 (v := .int .i64 x7) b10 (by cases b10 <;> kernel_rfl) h (fun hB => by subst hB; exact g_pure (v := .int .i64 x7) fun _ => by kernel_rfl) ?_
    refine sq_m1 (v := .int .i64 (x7 - 1)) b10 (by cases b10 <;> kernel_rfl) h (fun hB => by subst hB; exact g_eq (v := .int .i64 (IntKind.i64.wrap (x7 - 1))) (v' := .int .i64 (x7 - 1)) (g_pure fun _ => by kernel_rfl) (wr (by omega))) ?_
    refine sq_m1 (v := .agg #[.int .i64 (gi : Int), .int .i64 (x7 - 1)]) b10 (by cases b10 <;> kernel_rfl) h (fun hB => by subst hB; exact g_pure (v := .agg #[.int .i64 (gi : Int), .int .i64 (x7 - 1)]) fun _ => by kernel_rfl) ?_
    obtain ⟨b11, hb11⟩ : ∃ b_ : Bool, b_ = (decide (gi < 0 + k + 1 ∧ x7 - 1 = 0)) := ⟨_, rfl⟩
    refine sq_m1 (v := .bool b11) b10 (by cases b10 <;> kernel_rfl) h (fun hB => by subst hB; exact by subst hb11; exact g_eq (v' := .bool (decide (gi < 0 + k + 1 ∧ x7 - 1 = 0))) (g_look (K := 29) (E := 4) (z := (.bool false)) (kv := (toldK (0 + k + 1))) (ok := false) keyHk ((gi : Int), x7 - 1) (by kernel_rfl) (fun _ => by kernel_rfl) 10 rfl) (by (rw [toldK_at, look_b]; try rfl))) ?_
    obtain ⟨b12, hb12⟩ : ∃ b_ : Bool, b_ = (!b11) := ⟨_, rfl⟩
    refine sq_m1 (v := .bool b12) b10 (by cases b10 <;> kernel_rfl) h (fun hB => by subst hB; exact by subst hb12; exact g_pure (v := .bool (!b11)) fun _ => by kernel_rfl) ?_
    obtain ⟨b13, hb13⟩ : ∃ b_ : Bool, b_ = (b10 && b12) := ⟨_, rfl⟩
    refine sq_q (v := .bool b13) rfl h (by subst hb13; exact g_pure (v := .bool (b10 && b12)) fun _ => by cases b10 <;> kernel_rfl) ?_
    refine lnil ?_
    refine thn_n ?_
    refine c_cond (b13) (by kernel_rfl) (fun hc14 => ?_) (fun hc14 => ?_)
    · skip
      have q15 : (b10 && b12) = true := by rw [← hb13]; exact hc14
      have q16 : b10 = true := by revert q15; cases b10 <;> simp
      have q17 : b12 = true := by revert q15; cases b10 <;> cases b12 <;> simp
      have q18 : (decide (x7 > 0)) = true := by rw [← hb10]; exact q16
      have q18 := of_decide_eq_true q18
      have q19 : (!b11) = true := by rw [← hb12]; exact q17
      have q20 : b11 = false := by simpa using q19
      have q21 : (decide (gi < 0 + k + 1 ∧ x7 - 1 = 0)) = false := by rw [← hb11]; exact q20
      exfalso; revert hc14; subst hb13; subst hb12; subst hb11; subst hb10; rcases hcs9 with ⟨q1_, q2_⟩ | ⟨q1_, q2_⟩ <;> (rw [q2_]; simp; try omega)
    · skip
      have q22 : (b10 && b12) = false := by rw [← hb13]; exact hc14
      refine c_skip ?_
      refine blk_n (thn_n ?_)
      refine c_reg ?_
      refine sq_q rfl h (g_eq (v := .int .i64 (IntKind.i64.wrap ((gi : Int) + 1))) (v' := .int .i64 ((gi + 1 : Nat) : Int)) (g_pure fun _ => by kernel_rfl) (wr (by omega))) ?_
      refine sq_p (.int .i64 ((gi + 1 : Nat) : Int)) rfl (fun _ => by kernel_rfl) ?_
      refine lnil ?_
      have hQ23 : ((gi + 1) ≤ (gsO m L).length) ∧ ((gsO m L).length - (gi + 1)) < ((gsO m L).length - gi) := ⟨by omega, by omega⟩
      refine loop_end (fun j => ⟨(gi + 1), j⟩) hQ23 (by kernel_rfl) [0, 0, 0, 0, 0, 0, 0, 0, 0, 0, 0] (by kernel_rfl) h
  · skip
    have hc5 := of_decide_eq_false hc5
    refine c_exit ?_
    refine thn_e (rnd_e (blk_e (thn_n ?_)))
    refine c_seq ?_
    refine c_reg ?_
    refine sq_p (.pointer (some ⟨k1, 0, none⟩)) rfl (fun _ => by kernel_rfl) ?_
    refine sq_p (.pointer (some ⟨k1, 0, none⟩)) rfl (fun _ => by kernel_rfl) ?_
    refine sq_p (.pointer (some ⟨k1, 0, none⟩)) rfl (fun _ => by kernel_rfl) ?_
    refine sq_call #[.pointer (some ⟨k1, 0, none⟩)] [7, 7] rfl (bstr_spec k1 (.pointer (some ⟨k1, 0, none⟩)) vr3 ([] ++ deepT k 0 []) (fun h_ => absurd h_ (itK_ne _ _))) (fun _ => by kernel_rfl) h ?_; rintro v_ L_ w ⟨rfl, rfl⟩ h
    refine sq_p (.string (ofT ([] ++ deepT k 0 []))) rfl (fun _ => by kernel_rfl) ?_
    refine lnil ?_
    refine thn_n ?_
    refine c_ret ?_
    refine ret_end [.string (ofT ([] ++ deepT k 0 []))] [3, 2, 2, 2, 2, 2, 2] h (by kernel_rfl) (res_t (by kernel_rfl) res_n) ?_
    exact ⟨rfl, rfl⟩

/- A function with one deferred closure that finds no panic: contracts by what is owned. No condition. -/
section
variable {P : Program} {ops : Array Oper} {Q : Exit → Act → World → Prop} {a : Act} {w w0 : World} {E : Ent} {L : List Res} {rest : List Oper}
theorem sq_dfr {o : Oper} (d : Deferred) (hg : Region.wanted o (yielded ops a.tmps) = true) (hd : ∀ w, (execOp a.eval o).run P w = .ok (.defer d) w) (hK : LW P ops Q rest (({ a with defers := d :: a.defers } : Act).put o.dst undef) w) : LW P ops Q (o :: rest) a w :=
  ⟨sqg hg (by unfold Oper.wp; rw [hd w]; exact hK.out)⟩
def bodyPostN (P : Program) (fn : Func) (R : Ending → World → Prop) : Exit → Act → World → Prop
  | .panic _, _, _ => False
  | e, a, w => bodyPostD P fn R e a w
theorem qp_bodyN {fn : Func} {R : Ending → World → Prop} : QP (bodyPostN P fn R) := fun c a d v w hq => hq
theorem spec_ofD {f : FuncId} {fn : Func} {c : Code} {args : Array Value} {Φ : Value → List Res → Prop} (tm : Array Value) (hf : P.funcs[f]? = some fn) (hb : fn.body = some c) (ht : args ++ Array.replicate (fn.ntmps - args.size) undef = tm)
    (h : ∀ E w0 w, Own w0 E L w → CW P c (bodyPostN P fn fun e w' => ∃ v L', Φ v L' ∧ e = .returned v ∧ Own w0 E L' w') ⟨tm, []⟩ w) : Spec P f args L Φ := fun E w0 w ho =>
  calls_of_wp_defers hf hb (by
    rw [ht]
    refine Code.wp_mono ?_ (h E w0 w ho).out
    intro e a w hq
    cases e <;> first | exact hq | exact hq.elim)
theorem ret_endD {fn : Func} {Φ : Value → List Res → Prop} (f : FuncId) (caps : Array Value) (hc : ∀ w, CallsD P f caps .returning w fun e u' w' => e = .returned (.tuple #[]) ∧ u' = .returning ∧ w' = w) (vs : List Value) (is : List Nat) (h : Own w0 E L w) (hd : a.defers = [{ target := .fn (.func f) caps, args := #[] }]) (hi : ∀ w, (invoke (.fn (.func f) caps) #[]).run P w = .ok (.enter f caps) w) (hr : resV P L a.tmps fn.results.toList vs) (hΦ : Φ (retV vs) (pk is L)) :
    bodyPostN P fn (fun e w' => ∃ v L', Φ v L' ∧ e = .returned v ∧ Own w0 E L' w') .ret a w := by
  obtain ⟨tm, ds⟩ := a
  obtain rfl : ds = _ := hd
  refine leaves_cons (by simp) (hi w) ((hc w).mono ?_)
  rintro e u' w' ⟨rfl, rfl, rfl⟩
  obtain ⟨_, v, h1, h2⟩ := ret_end (fn := fn) (Φ := Φ) (a := ⟨tm, []⟩) vs is h rfl hr hΦ
  exact ⟨v, h1, h2⟩
end
theorem load_idle (p q : Value) (w : World) :
    CallsD Tryz.prog 21 #[p, q] .returning w fun e u' w' => e = .returned (.tuple #[]) ∧ u' = .returning ∧ w' = w := by
  refine callsD_of_wpS Tryz.func21 rfl fun c₀ cs hu => ?_
  apply wpS_seq
  apply wpS_region
  simp [wpOpsS, go_sem, recoverD, hu, Tryz.ntmps21, Exit.thenS]
  refine wpS_of_wp ?_
  go_wp2
  cases c₀
  simp_all [bodyPostS, results, Tryz.results21]

/- deep: contracts by what is owned (printed by walk.py). -/

theorem Seg.hds {k : Nat} {L : List ND} {ds : List DN} (h : Seg 0 k L ds) : HdS ds := fun j d hj => by
  have hl := (List.getElem?_eq_some_iff.1 hj).1
  obtain ⟨d', h1, h2, _⟩ := h.dd j (by have := h.l2; omega)
  rw [hj] at h1
  cases h1
  rw [h2, Nat.zero_add]
theorem ldir0_spec {B : Nat} (ad : Nat → Addr) (b m tb dm pm : Nat) (vl vg : Value) (T : TypeId) (Sl Sg : Nat → Prop) (lb fm : Nat) (hm3 : m ≤ 300) (k : Nat) (hkm : k < m) (hz : (bodyK k 0 []).length ≤ 80000000) : Spec Tryz.prog 24 #[.pointer (some ⟨lb, 0, none⟩), .agg #[.int .i64 0, .int .i64 0], .int .i64 0] [rCell true lb [.string (ofT (bodyK k 0 [])), .pointer (some ⟨b, 0, none⟩), .map (some fm)] 62, rCell true b [.pointer (some ⟨tb, 0, none⟩), .int .i64 (m : Int), .int .i64 0, .int .i64 0, .map (some dm), .map (some pm)] 46, rTab tb (psO m ([] : List ND)) (gsO m ([] : List ND)) vl vg T Sl Sg, rNds (lO m ([] : List ND)), rMap true dm hk (([] : List DN).map dnKV), rDirs ([] : List DN), rEnv B ad [10], rEnv B ad [4]] fun u X => ∃ Ls Ds, Seg 0 k Ls Ds ∧ u = .agg #[.int .i64 0, .int .i64 0] ∧ X = [rCell true lb [.string (ofT ([] : Tx)), .pointer (some ⟨b, 0, none⟩), .map (some fm)] 62, rCell true b [.pointer (some ⟨tb, 0, none⟩), .int .i64 (m : Int), .int .i64 0, .int .i64 0, .map (some dm), .map (some pm)] 46, rTab tb (psO m Ls) (gsO m Ls) vl vg T Sl Sg, rNds (lO m Ls), rMap true dm hk (Ds.map dnKV), rDirs Ds, rEnv B ad [10], rEnv B ad [4]] :=
  ldir_all ad b m tb dm pm vl vg T Sl Sg lb fm hm3 [] k [] [] rfl (fun j d h => by simp at h) (by simpa using hkm) 0 0 hz
theorem deep_size {k : Nat} (hkq : k < 300) : (bodyK k 0 []).length ≤ 80000000 ∧ (itK dirT (bodyK k 0 [])).length ≤ 90000000 := by
  have h := bodyK_size k 0 [] (by omega)
  simp only [List.length_nil] at h
  have e1 : (Lib.decDigits dirT.length).length ≤ 1 := dec_lt (k := 0) (by decide)
  have h1 := itK_len dirT (bodyK k 0 [])
  have hd : dirT.length = 3 := rfl
  omega

theorem load_spec {B : Nat} (ad : Nat → Addr) (m k : Nat) (h1 : 1 ≤ m) (hm3 : m ≤ 300) (hkm : k < m)  : Spec Tryz.prog 10 #[.string (ofT (deepT k 0 [])), .int .i64 (m : Int)] [rEnv B ad [10], rEnv B ad [4], rPow] (fun u X => ∃ b tb dm pm vl vg T Sl Sg Ls, Ls.length = k + 1 ∧ u = .tuple #[.pointer (some ⟨b, 0, none⟩), .nilIface] ∧ X = [rCell true b [.pointer (some ⟨tb, 0, none⟩), .int .i64 (m : Int), .int .i64 0, .int .i64 0, .map (some dm), .map (some pm)] 46, rTab tb (psO m Ls) (gsO m Ls) vl vg T Sl Sg, rEnv B ad [10], rEnv B ad [4], rPow]) := by
  have hsz := deep_size (k := k) (by omega)
  refine spec_ofD (#[.string (ofT (deepT k 0 [])), .int .i64 (m : Int), undef, undef, undef, undef, undef, undef, undef, undef, undef, undef, undef, undef, undef, undef, undef, undef, undef, undef, undef, undef, undef, undef, undef, undef, undef, undef, undef, undef, undef, undef, undef, undef, undef, undef, undef, undef, undef, undef, undef, undef, undef, undef, undef, undef, undef, undef, undef, undef, undef, undef, undef, undef, undef, undef, undef, undef, undef, undef, undef, undef, undef, undef, undef, undef, undef, undef, undef, undef, undef, undef, undef, undef, undef, undef, undef, undef, undef, undef, undef, undef, undef, undef, undef, undef, undef, undef, undef, undef, undef, undef]) Tryz.func10 rfl (by kernel_rfl) fun E w0 w h => ?_
  refine c_seq ?_
  refine c_reg ?_
  refine sq_new rfl (fun b => .pointer (some ⟨b, 0, none⟩)) [.pointer none] 23 (fun _ => by kernel_rfl) h ?_; intro k1 w h
  refine sq_new rfl (fun b => .pointer (some ⟨b, 0, none⟩)) [.nilIface] 25 (fun _ => by kernel_rfl) h ?_; intro k2 w h
  refine lnil ?_
  refine thn_n ?_
  refine c_seq ?_
  refine c_reg ?_
  refine sq_p (.int .i64 (m : Int)) rfl (fun _ => by kernel_rfl) ?_
  refine sq_call #[.int .i64 (m : Int)] [] rfl (tabNewL_spec m h1 hm3) (fun _ => by kernel_rfl) h ?_; rintro v_ L_ w ⟨tb, vl, vg, T, Sl, Sg, rfl, rfl⟩ h
  refine sq_p (.tuple #[.pointer (some ⟨tb, 0, none⟩), .nilIface]) rfl (fun _ => by kernel_rfl) ?_
  refine sq_p (.pointer (some ⟨tb, 0, none⟩)) rfl (fun _ => by kernel_rfl) ?_
  refine sq_p (.nilIface) rfl (fun _ => by kernel_rfl) ?_
  refine sq_p (.pointer (some ⟨tb, 0, none⟩)) rfl (fun _ => by kernel_rfl) ?_
  refine sq_st rfl 0 [.nilIface] [.nilIface] h 2 rfl (by kernel_rfl) ?_; intro w h
  refine lnil ?_
  refine thn_n ?_
  refine c_seq ?_
  refine c_seq ?_
  refine c_reg ?_
  refine sq_q rfl h (g_ld 0 [.nilIface] (.nilIface) (by kernel_rfl) 2 rfl) ?_
  refine sq_p (.bool false) rfl (fun _ => by kernel_rfl) ?_
  refine lnil ?_
  refine thn_n ?_
  refine c_false (by kernel_rfl) ?_
  refine c_skip ?_
  refine thn_n ?_
  refine c_seq ?_
  refine c_reg ?_
  refine sq_p (.string (ofT (deepT k 0 []))) rfl (fun _ => by kernel_rfl) ?_
  refine sq_p (.pointer (some ⟨tb, 0, none⟩)) rfl (fun _ => by kernel_rfl) ?_
  refine sq_p (.int .i64 (m : Int)) rfl (fun _ => by kernel_rfl) ?_
  refine sq_newm rfl hk (fun _ => by kernel_rfl) h ?_; intro k3 w h
  refine sq_newm rfl hk (fun _ => by kernel_rfl) h ?_; intro k4 w h
  refine sq_p (.agg #[.pointer (some ⟨tb, 0, none⟩), .int .i64 (m : Int), .int .i64 0, .int .i64 0, .map (some k3), .map (some k4)]) rfl (fun _ => by kernel_rfl) ?_
  refine sq_new rfl (fun b => .pointer (some ⟨b, 0, none⟩)) [.pointer (some ⟨tb, 0, none⟩), .int .i64 (m : Int), .int .i64 0, .int .i64 0, .map (some k3), .map (some k4)] 46 (fun _ => by kernel_rfl) h ?_; intro k5 w h
  refine sq_newm rfl (fun x : Int => Value.int .i64 x) (fun _ => by kernel_rfl) h ?_; intro k6 w h
  refine sq_p (.agg #[.string (ofT (deepT k 0 [])), .pointer (some ⟨k5, 0, none⟩), .map (some k6)]) rfl (fun _ => by kernel_rfl) ?_
  refine sq_new rfl (fun b => .pointer (some ⟨b, 0, none⟩)) [.string (ofT (deepT k 0 [])), .pointer (some ⟨k5, 0, none⟩), .map (some k6)] 62 (fun _ => by kernel_rfl) h ?_; intro k7 w h
  refine sq_p (.pointer (some ⟨k7, 0, none⟩)) rfl (fun _ => by kernel_rfl) ?_
  refine lnil ?_
  refine thn_n ?_
  refine c_seq ?_
  refine c_reg ?_
  refine sq_p (.func (.func 21) #[] #[.pointer (some ⟨k1, 0, none⟩), .pointer (some ⟨k2, 0, none⟩)]) rfl (fun _ => by kernel_rfl) ?_
  refine sq_dfr { target := .fn (.func 21) #[.pointer (some ⟨k1, 0, none⟩), .pointer (some ⟨k2, 0, none⟩)], args := #[] } rfl (fun _ => by kernel_rfl) ?_
  refine lnil ?_
  refine thn_n ?_
  refine c_seq ?_
  refine c_reg ?_
  refine sq_p (.pointer (some ⟨k7, 0, none⟩)) rfl (fun _ => by kernel_rfl) ?_
  refine sq_call #[.pointer (some ⟨k7, 0, none⟩)] [0] rfl (ltext_spec k7 k5 k6 dirT (bodyK k 0 []) (by decide) hsz.2) (fun _ => by kernel_rfl) h ?_; rintro v_ L_ w ⟨rfl, rfl⟩ h
  refine sq_q rfl h (g_eq (v := .bool ((⟨#[100, 105, 114]⟩ : ByteArray).toList == (⟨#[100, 105, 114]⟩ : ByteArray).toList)) (v' := .bool (decide ((⟨#[100, 105, 114]⟩ : ByteArray) = (⟨#[100, 105, 114]⟩ : ByteArray)))) (g_pure fun _ => by kernel_rfl) beqS) ?_
  have hm8 : decide ((⟨#[100, 105, 114]⟩ : ByteArray) = (⟨#[100, 105, 114]⟩ : ByteArray)) = true := by first | decide | (simp; done)
  refine sq_call #[.bool (decide ((⟨#[100, 105, 114]⟩ : ByteArray) = (⟨#[100, 105, 114]⟩ : ByteArray)))] [] rfl (mustB_spec (decide ((⟨#[100, 105, 114]⟩ : ByteArray) = (⟨#[100, 105, 114]⟩ : ByteArray))) hm8) (fun _ => by kernel_rfl) h ?_; rintro v_ L_ w ⟨rfl, rfl⟩ h
  refine lnil ?_
  refine thn_n ?_
  refine c_seq ?_
  refine d_start 10 [] (by kernel_rfl) h fun w h => ?_
  refine d_take 0 112 [] rfl (v := .pointer (some ⟨k7, 0, none⟩)) (by kernel_rfl) (qp_thn qp_bodyN) (yq (by kernel_rfl) (g_pure (v := .pointer (some ⟨k7, 0, none⟩)) fun _ => by kernel_rfl)) h (by kernel_rfl) ?_
  refine d_take 1 113 [] rfl (v := .pointer (some ⟨k7, 0, none⟩)) (by kernel_rfl) (qp_thn qp_bodyN) (yq (by kernel_rfl) (g_pure (v := .pointer (some ⟨k7, 0, none⟩)) fun _ => by kernel_rfl)) h (by kernel_rfl) ?_
  refine d_take 2 115 [] rfl (v := .pointer (some ⟨k7, 1, none⟩)) (by kernel_rfl) (qp_thn qp_bodyN) (yq (by kernel_rfl) (g_pure (v := .pointer (some ⟨k7, 1, none⟩)) fun _ => by kernel_rfl)) h (by kernel_rfl) ?_
  refine d_take 4 47 [] rfl (v := .pointer (some ⟨k7, 0, none⟩)) (by kernel_rfl) (qp_thn qp_bodyN) (yq (by kernel_rfl) (g_pure (v := .pointer (some ⟨k7, 0, none⟩)) fun _ => by kernel_rfl)) h (by kernel_rfl) ?_
  refine d_take 5 31 [] rfl (v := .agg #[.int .i64 0, .int .i64 0]) (by kernel_rfl) (qp_thn qp_bodyN) (yq (by kernel_rfl) (g_pure (v := .agg #[.int .i64 0, .int .i64 0]) fun _ => by kernel_rfl)) h (by kernel_rfl) ?_
  refine d_ready [3, 6] (by kernel_rfl) rfl ?_
  refine ad_q [] rfl (by kernel_rfl) (v := .pointer (some ⟨k5, 0, none⟩)) (g_ld 1 [.pointer (some ⟨k5, 0, none⟩)] (.pointer (some ⟨k5, 0, none⟩)) (by kernel_rfl) 0 rfl) h (by kernel_rfl) ?_ ?_
  · skip
    refine d_ready [6] (by kernel_rfl) rfl ?_
    have h := h.allNil
    refine ad_call #[.pointer (some ⟨k7, 0, none⟩), .agg #[.int .i64 0, .int .i64 0], .int .i64 0] [1, 2, 4, 4, 3, 0, 4, 4] [] rfl (by kernel_rfl) (ldir0_spec ad k5 m tb k3 k4 vl vg T Sl Sg k7 k6 hm3 k hkm hsz.1) (fun _ => by kernel_rfl) h ?_ ?_
    · skip
      rintro v_ L_ w ⟨Ls, Ds, hsg, rfl, rfl⟩ h
      refine ⟨by kernel_rfl, ?_⟩
      have hl1 := hsg.l1
      refine d_take 7 127 [] rfl (v := .pointer (some ⟨k5, 0, none⟩)) (by kernel_rfl) (qp_thn qp_bodyN) (yq (by kernel_rfl) (g_pure (v := .pointer (some ⟨k5, 0, none⟩)) fun _ => by kernel_rfl)) h (by kernel_rfl) ?_
      refine d_take 8 255 [] rfl (v := .pointer (some ⟨k5, 2, none⟩)) (by kernel_rfl) (qp_thn qp_bodyN) (yq (by kernel_rfl) (g_pure (v := .pointer (some ⟨k5, 2, none⟩)) fun _ => by kernel_rfl)) h (by kernel_rfl) ?_
      refine d_ready [9] (by kernel_rfl) rfl ?_
      refine ad_st [] rfl (by kernel_rfl) 2 [.int .i64 0, .int .i64 0] [.pointer (some ⟨tb, 0, none⟩), .int .i64 (m : Int), .int .i64 0, .int .i64 0, .map (some k3), .map (some k4)] h 1 rfl (by kernel_rfl) ?_ ?_
      · skip
        intro w h; refine ⟨by kernel_rfl, ?_⟩
        refine d_done (by kernel_rfl) ?_
        refine thn_n ?_
        refine c_seq ?_
        refine c_reg ?_
        refine sq_p (.pointer (some ⟨k7, 0, none⟩)) rfl (fun _ => by kernel_rfl) ?_
        refine sq_p (.pointer (some ⟨k7, 0, none⟩)) rfl (fun _ => by kernel_rfl) ?_
        refine sq_p (.pointer (some ⟨k7, 1, none⟩)) rfl (fun _ => by kernel_rfl) ?_
        refine sq_q rfl h (g_ld 1 [.pointer (some ⟨k5, 0, none⟩)] (.pointer (some ⟨k5, 0, none⟩)) (by kernel_rfl) 0 rfl) ?_
        refine sq_p (.pointer (some ⟨k5, 0, none⟩)) rfl (fun _ => by kernel_rfl) ?_
        refine sq_p (.pointer (some ⟨k5, 2, none⟩)) rfl (fun _ => by kernel_rfl) ?_
        refine sq_q rfl h (g_ld 2 [.int .i64 0, .int .i64 0] (.agg #[.int .i64 0, .int .i64 0]) (by kernel_rfl) 1 rfl) ?_
        refine sq_p (.agg #[.int .i64 0, .int .i64 0]) rfl (fun _ => by kernel_rfl) ?_
        refine sq_q rfl h (g_eq (v := .bool (((decide ((0 : Int) = 0)) && (decide ((0 : Int) = 0))))) (v' := .bool true) (g_eqH (n1 := 0) (g1 := 0) (n2 := 0) (g2 := 0) (by kernel_rfl)) (by rfl)) ?_
        refine sq_call #[.bool true] [] rfl (must_spec) (fun _ => by kernel_rfl) h ?_; rintro v_ L_ w ⟨rfl, rfl⟩ h
        refine lnil ?_
        refine thn_n ?_
        refine c_seq ?_
        refine c_block ?_
        refine c_unroll 1 ?_
        refine c_seq ?_
        refine c_seq ?_
        refine c_reg ?_
        refine sq_p (.pointer (some ⟨k7, 0, none⟩)) rfl (fun _ => by kernel_rfl) ?_
        refine sq_p (.pointer (some ⟨k7, 0, none⟩)) rfl (fun _ => by kernel_rfl) ?_
        refine sq_p (.pointer (some ⟨k7, 0, none⟩)) rfl (fun _ => by kernel_rfl) ?_
        refine sq_q rfl h (g_ld 0 [.string (ofT ([] : Tx))] (.string (ofT ([] : Tx))) (by kernel_rfl) 0 rfl) ?_
        refine sq_q rfl h (g_eq (v := .bool !((ofT ([] : Tx)).toList == (⟨#[]⟩ : ByteArray).toList)) (v' := .bool (!(decide (ofT ([] : Tx) = (⟨#[]⟩ : ByteArray))))) (g_pure fun _ => by kernel_rfl) bneS) ?_
        refine lnil ?_
        refine thn_n ?_
        refine c_cond (!(decide (ofT ([] : Tx) = (⟨#[]⟩ : ByteArray)))) (by kernel_rfl) (fun hc9 => ?_) (fun hc9 => ?_)
        · skip
          have q10 : (decide (ofT ([] : Tx) = (⟨#[]⟩ : ByteArray))) = false := by simpa using hc9
          have q10 := of_decide_eq_false q10
          exfalso; revert hc9; decide
        · skip
          have q11 : (decide (ofT ([] : Tx) = (⟨#[]⟩ : ByteArray))) = true := by simpa using hc9
          have q11 := of_decide_eq_true q11
          refine c_exit ?_
          refine thn_e (unr_e (blk_e (thn_n ?_)))
          refine c_seq ?_
          refine c_reg ?_
          refine sq_p (.pointer (some ⟨k7, 0, none⟩)) rfl (fun _ => by kernel_rfl) ?_
          refine sq_p (.pointer (some ⟨k7, 0, none⟩)) rfl (fun _ => by kernel_rfl) ?_
          refine sq_p (.pointer (some ⟨k7, 1, none⟩)) rfl (fun _ => by kernel_rfl) ?_
          refine sq_q rfl h (g_ld 1 [.pointer (some ⟨k5, 0, none⟩)] (.pointer (some ⟨k5, 0, none⟩)) (by kernel_rfl) 0 rfl) ?_
          refine sq_call #[.pointer (some ⟨k5, 0, none⟩)] [1, 1, 1, 1, 1, 1, 6] rfl (snap_spec ad k5 m tb k3 k4 vl vg T Sl Sg hm3 Ls Ds k hsg (by omega) hsg.hds.nodup) (fun _ => by kernel_rfl) h ?_; rintro v_ L_ w ⟨rfl, rfl⟩ h
          refine sq_p (.string (ofT (deepT k 0 []))) rfl (fun _ => by kernel_rfl) ?_
          refine sq_q rfl h (g_eq (v := .bool ((ofT (deepT k 0 [])).toList == (ofT (deepT k 0 [])).toList)) (v' := .bool (decide (ofT (deepT k 0 []) = ofT (deepT k 0 [])))) (g_pure fun _ => by kernel_rfl) beqS) ?_
          have hm12 : decide (ofT (deepT k 0 []) = ofT (deepT k 0 [])) = true := by first | decide | (simp; done)
          refine sq_call #[.bool (decide (ofT (deepT k 0 []) = ofT (deepT k 0 [])))] [] rfl (mustB_spec (decide (ofT (deepT k 0 []) = ofT (deepT k 0 []))) hm12) (fun _ => by kernel_rfl) h ?_; rintro v_ L_ w ⟨rfl, rfl⟩ h
          refine lnil ?_
          refine thn_n ?_
          refine c_seq ?_
          refine c_reg ?_
          refine sq_p (.pointer (some ⟨k7, 0, none⟩)) rfl (fun _ => by kernel_rfl) ?_
          refine sq_p (.pointer (some ⟨k7, 0, none⟩)) rfl (fun _ => by kernel_rfl) ?_
          refine sq_p (.pointer (some ⟨k7, 1, none⟩)) rfl (fun _ => by kernel_rfl) ?_
          refine sq_q rfl h (g_ld 1 [.pointer (some ⟨k5, 0, none⟩)] (.pointer (some ⟨k5, 0, none⟩)) (by kernel_rfl) 7 rfl) ?_
          refine sq_st rfl 0 [.pointer (some ⟨k5, 0, none⟩)] [.pointer (some ⟨k5, 0, none⟩)] h 12 rfl (by kernel_rfl) ?_; intro w h
          refine sq_st rfl 0 [.nilIface] [.nilIface] h 11 rfl (by kernel_rfl) ?_; intro w h
          refine lnil ?_
          refine thn_n ?_
          refine c_ret ?_
          refine ret_endD 21 #[.pointer (some ⟨k1, 0, none⟩), .pointer (some ⟨k2, 0, none⟩)] (fun w => load_idle _ _ w) [.pointer (some ⟨k5, 0, none⟩), .nilIface] [0, 0, 3, 5, 3] h (by kernel_rfl) (fun _ => by kernel_rfl) (res_c 0 [.pointer (some ⟨k5, 0, none⟩)] (.pointer (some ⟨k5, 0, none⟩)) 12 rfl (by kernel_rfl) (res_c 0 [.nilIface] (.nilIface) 11 rfl (by kernel_rfl) res_n)) ?_
          exact ⟨_, _, _, _, _, _, _, _, _, Ls, hl1, rfl, rfl⟩
      exact ad_nil
    exact ad_nil
  have h := h.allNil
  refine ad_call #[.pointer (some ⟨k7, 0, none⟩), .agg #[.int .i64 0, .int .i64 0], .int .i64 0] [1, 2, 4, 4, 3, 0, 4, 4] [] rfl (by kernel_rfl) (ldir0_spec ad k5 m tb k3 k4 vl vg T Sl Sg k7 k6 hm3 k hkm hsz.1) (fun _ => by kernel_rfl) h ?_ ?_
  · skip
    rintro v_ L_ w ⟨Ls, Ds, hsg, rfl, rfl⟩ h
    refine ⟨by kernel_rfl, ?_⟩
    have hl1 := hsg.l1
    refine d_more [rCell true k7 [.string (ofT ([] : Tx)), .pointer (some ⟨k5, 0, none⟩), .map (some k6)] 62] [] (by kernel_rfl) ?_
    refine d_take 3 119 [0] rfl (v := .pointer (some ⟨k5, 0, none⟩)) (by kernel_rfl) (qp_thn qp_bodyN) (yq (by kernel_rfl) (g_ld 1 [.pointer (some ⟨k5, 0, none⟩)] (.pointer (some ⟨k5, 0, none⟩)) (by kernel_rfl) 0 rfl)) h (by kernel_rfl) ?_
    refine d_take 7 127 [0] rfl (v := .pointer (some ⟨k5, 0, none⟩)) (by kernel_rfl) (qp_thn qp_bodyN) (yq (by kernel_rfl) (g_pure (v := .pointer (some ⟨k5, 0, none⟩)) fun _ => by kernel_rfl)) h (by kernel_rfl) ?_
    refine d_take 8 255 [0] rfl (v := .pointer (some ⟨k5, 2, none⟩)) (by kernel_rfl) (qp_thn qp_bodyN) (yq (by kernel_rfl) (g_pure (v := .pointer (some ⟨k5, 2, none⟩)) fun _ => by kernel_rfl)) h (by kernel_rfl) ?_
    refine d_ready [9] (by kernel_rfl) rfl ?_
    refine ad_st [0] rfl (by kernel_rfl) 2 [.int .i64 0, .int .i64 0] [.pointer (some ⟨tb, 0, none⟩), .int .i64 (m : Int), .int .i64 0, .int .i64 0, .map (some k3), .map (some k4)] h 1 rfl (by kernel_rfl) ?_ ?_
    · skip
      intro w h; refine ⟨by kernel_rfl, ?_⟩
      refine d_done (by kernel_rfl) ?_
      refine thn_n ?_
      refine c_seq ?_
      refine c_reg ?_
      refine sq_p (.pointer (some ⟨k7, 0, none⟩)) rfl (fun _ => by kernel_rfl) ?_
      refine sq_p (.pointer (some ⟨k7, 0, none⟩)) rfl (fun _ => by kernel_rfl) ?_
      refine sq_p (.pointer (some ⟨k7, 1, none⟩)) rfl (fun _ => by kernel_rfl) ?_
      refine sq_q rfl h (g_ld 1 [.pointer (some ⟨k5, 0, none⟩)] (.pointer (some ⟨k5, 0, none⟩)) (by kernel_rfl) 0 rfl) ?_
      refine sq_p (.pointer (some ⟨k5, 0, none⟩)) rfl (fun _ => by kernel_rfl) ?_
      refine sq_p (.pointer (some ⟨k5, 2, none⟩)) rfl (fun _ => by kernel_rfl) ?_
      refine sq_q rfl h (g_ld 2 [.int .i64 0, .int .i64 0] (.agg #[.int .i64 0, .int .i64 0]) (by kernel_rfl) 1 rfl) ?_
      refine sq_p (.agg #[.int .i64 0, .int .i64 0]) rfl (fun _ => by kernel_rfl) ?_
      refine sq_q rfl h (g_eq (v := .bool (((decide ((0 : Int) = 0)) && (decide ((0 : Int) = 0))))) (v' := .bool true) (g_eqH (n1 := 0) (g1 := 0) (n2 := 0) (g2 := 0) (by kernel_rfl)) (by rfl)) ?_
      refine sq_call #[.bool true] [] rfl (must_spec) (fun _ => by kernel_rfl) h ?_; rintro v_ L_ w ⟨rfl, rfl⟩ h
      refine lnil ?_
      refine thn_n ?_
      refine c_seq ?_
      refine c_block ?_
      refine c_unroll 1 ?_
      refine c_seq ?_
      refine c_seq ?_
      refine c_reg ?_
      refine sq_p (.pointer (some ⟨k7, 0, none⟩)) rfl (fun _ => by kernel_rfl) ?_
      refine sq_p (.pointer (some ⟨k7, 0, none⟩)) rfl (fun _ => by kernel_rfl) ?_
      refine sq_p (.pointer (some ⟨k7, 0, none⟩)) rfl (fun _ => by kernel_rfl) ?_
      refine sq_q rfl h (g_ld 0 [.string (ofT ([] : Tx))] (.string (ofT ([] : Tx))) (by kernel_rfl) 0 rfl) ?_
      refine sq_q rfl h (g_eq (v := .bool !((ofT ([] : Tx)).toList == (⟨#[]⟩ : ByteArray).toList)) (v' := .bool (!(decide (ofT ([] : Tx) = (⟨#[]⟩ : ByteArray))))) (g_pure fun _ => by kernel_rfl) bneS) ?_
      refine lnil ?_
      refine thn_n ?_
      refine c_cond (!(decide (ofT ([] : Tx) = (⟨#[]⟩ : ByteArray)))) (by kernel_rfl) (fun hc13 => ?_) (fun hc13 => ?_)
      · skip
        have q14 : (decide (ofT ([] : Tx) = (⟨#[]⟩ : ByteArray))) = false := by simpa using hc13
        have q14 := of_decide_eq_false q14
        exfalso; revert hc13; decide
      · skip
        have q15 : (decide (ofT ([] : Tx) = (⟨#[]⟩ : ByteArray))) = true := by simpa using hc13
        have q15 := of_decide_eq_true q15
        refine c_exit ?_
        refine thn_e (unr_e (blk_e (thn_n ?_)))
        refine c_seq ?_
        refine c_reg ?_
        refine sq_p (.pointer (some ⟨k7, 0, none⟩)) rfl (fun _ => by kernel_rfl) ?_
        refine sq_p (.pointer (some ⟨k7, 0, none⟩)) rfl (fun _ => by kernel_rfl) ?_
        refine sq_p (.pointer (some ⟨k7, 1, none⟩)) rfl (fun _ => by kernel_rfl) ?_
        refine sq_q rfl h (g_ld 1 [.pointer (some ⟨k5, 0, none⟩)] (.pointer (some ⟨k5, 0, none⟩)) (by kernel_rfl) 0 rfl) ?_
        refine sq_call #[.pointer (some ⟨k5, 0, none⟩)] [1, 1, 1, 1, 1, 1, 6] rfl (snap_spec ad k5 m tb k3 k4 vl vg T Sl Sg hm3 Ls Ds k hsg (by omega) hsg.hds.nodup) (fun _ => by kernel_rfl) h ?_; rintro v_ L_ w ⟨rfl, rfl⟩ h
        refine sq_p (.string (ofT (deepT k 0 []))) rfl (fun _ => by kernel_rfl) ?_
        refine sq_q rfl h (g_eq (v := .bool ((ofT (deepT k 0 [])).toList == (ofT (deepT k 0 [])).toList)) (v' := .bool (decide (ofT (deepT k 0 []) = ofT (deepT k 0 [])))) (g_pure fun _ => by kernel_rfl) beqS) ?_
        have hm16 : decide (ofT (deepT k 0 []) = ofT (deepT k 0 [])) = true := by first | decide | (simp; done)
        refine sq_call #[.bool (decide (ofT (deepT k 0 []) = ofT (deepT k 0 [])))] [] rfl (mustB_spec (decide (ofT (deepT k 0 []) = ofT (deepT k 0 []))) hm16) (fun _ => by kernel_rfl) h ?_; rintro v_ L_ w ⟨rfl, rfl⟩ h
        refine lnil ?_
        refine thn_n ?_
        refine c_seq ?_
        refine c_reg ?_
        refine sq_p (.pointer (some ⟨k7, 0, none⟩)) rfl (fun _ => by kernel_rfl) ?_
        refine sq_p (.pointer (some ⟨k7, 0, none⟩)) rfl (fun _ => by kernel_rfl) ?_
        refine sq_p (.pointer (some ⟨k7, 1, none⟩)) rfl (fun _ => by kernel_rfl) ?_
        refine sq_q rfl h (g_ld 1 [.pointer (some ⟨k5, 0, none⟩)] (.pointer (some ⟨k5, 0, none⟩)) (by kernel_rfl) 7 rfl) ?_
        refine sq_st rfl 0 [.pointer (some ⟨k5, 0, none⟩)] [.pointer (some ⟨k5, 0, none⟩)] h 12 rfl (by kernel_rfl) ?_; intro w h
        refine sq_st rfl 0 [.nilIface] [.nilIface] h 11 rfl (by kernel_rfl) ?_; intro w h
        refine lnil ?_
        refine thn_n ?_
        refine c_ret ?_
        refine ret_endD 21 #[.pointer (some ⟨k1, 0, none⟩), .pointer (some ⟨k2, 0, none⟩)] (fun w => load_idle _ _ w) [.pointer (some ⟨k5, 0, none⟩), .nilIface] [0, 0, 3, 5, 3] h (by kernel_rfl) (fun _ => by kernel_rfl) (res_c 0 [.pointer (some ⟨k5, 0, none⟩)] (.pointer (some ⟨k5, 0, none⟩)) 12 rfl (by kernel_rfl) (res_c 0 [.nilIface] (.nilIface) 11 rfl (by kernel_rfl) res_n)) ?_
        exact ⟨_, _, _, _, _, _, _, _, _, Ls, hl1, rfl, rfl⟩
    exact ad_nil
  exact ad_nil

/- Package nodes' table by what is owned: a kind that is none, a table that is full, Free. No condition but that the table is one. -/
theorem tabBad_spec {B : Nat} (ad : Nat → Addr) (b : Nat) (kind : Int) (hk : ¬ kind = 1) (hk2 : ¬ kind = 2) : Spec Tryz.prog 14 #[.pointer (some ⟨b, 0, none⟩), .int .i64 kind] [rEnv B ad [3]] fun u L => u = .tuple #[hdlV 0 0, errV ad 3] ∧ L = [rEnv B ad [3]] := fun E w0 w ho =>
  (nadd_bad ad b kind w (ho.fact 0 rfl) hk hk2).mono fun e w' ⟨he, hc⟩ => ⟨_, _, ⟨rfl, rfl⟩, he, ho.quiet hc⟩
theorem tabFull_spec {B : Nat} (ad : Nat → Addr) (b : Nat) (kind : Int) (ps : List (Option Nat)) (gs : List Int) (vl vg : Value) (T : TypeId) (Sl Sg : Nat → Prop) (hk : kind = 1 ∨ kind = 2) (hl : ps.length ≤ 300) (hf : free0 ps = none) : Spec Tryz.prog 14 #[.pointer (some ⟨b, 0, none⟩), .int .i64 kind] [rTab b ps gs vl vg T Sl Sg, rEnv B ad [9]] fun u L => u = .tuple #[hdlV 0 0, errV ad 9] ∧ L = [rTab b ps gs vl vg T Sl Sg, rEnv B ad [9]] := fun E w0 w ho =>
  (nadd_full ad b kind ps gs vl vg T Sl Sg w (ho.fact 1 rfl) (ho.fact 0 rfl) hk hl hf).mono fun e w' ⟨he, hc⟩ => ⟨_, _, ⟨rfl, rfl⟩, he, ho.quiet hc⟩
def NewQ (kind : Int) (dq : Option DQ) : Prop := (kind = 1 ∧ ∃ db, dq = some (newDQ db)) ∨ (kind = 2 ∧ dq = none)
theorem tabAdd_spec {B : Nat} (ad : Nat → Addr) (b : Nat) (kind : Int) (ps : List (Option Nat)) (gs : List Int) (vl vg : Value) (T : TypeId) (Sl Sg : Nat → Prop) (l : List (Option ND)) (hl : ps.length ≤ 300) (hlg : ps.length = gs.length) (hr : ∀ x ∈ gs, 0 ≤ x ∧ x ≤ 1000000) :
    Spec Tryz.prog 14 #[.pointer (some ⟨b, 0, none⟩), .int .i64 kind] [rTab b ps gs vl vg T Sl Sg, rNds l, rEnv B ad [3], rEnv B ad [9]] fun u L => (¬ kind = 1 ∧ ¬ kind = 2 ∧ u = .tuple #[.agg #[.int .i64 0, .int .i64 0], errV ad 3] ∧ L = [rTab b ps gs vl vg T Sl Sg, rNds l, rEnv B ad [3], rEnv B ad [9]]) ∨
      ((kind = 1 ∨ kind = 2) ∧ free0 ps = none ∧ u = .tuple #[.agg #[.int .i64 0, .int .i64 0], errV ad 9] ∧ L = [rTab b ps gs vl vg T Sl Sg, rNds l, rEnv B ad [3], rEnv B ad [9]]) ∨
      ((kind = 1 ∨ kind = 2) ∧ ∃ (kf : Nat) (x : Int) (nb : Nat) (dq : Option DQ), free0 ps = some kf ∧ gs[kf]? = some x ∧ NewQ kind dq ∧ u = .tuple #[.agg #[.int .i64 (kf : Int), .int .i64 x], .nilIface] ∧ L = [rTab b (ps.set kf (some nb)) (gs.set kf (x + 1)) vl vg T Sl Sg, rNds (l.set kf (some (newND nb kind dq))), rEnv B ad [3], rEnv B ad [9]]) := by
  by_cases hk : kind = 1 ∨ kind = 2
  · cases hf : free0 ps with
    | none =>
      intro E w0 w ho
      have h1 : Own w0 E ([rTab b ps gs vl vg T Sl Sg, rEnv B ad [9]] ++ [rNds l, rEnv B ad [3]]) w := ho.pick [0, 2, 0, 0]
      refine (((tabFull_spec ad b kind ps gs vl vg T Sl Sg hk hl hf).frame [rNds l, rEnv B ad [3]]) E w0 w h1).mono ?_
      rintro e w' ⟨u, L', ⟨L1, ⟨rfl, rfl⟩, rfl⟩, he, h2⟩
      exact ⟨_, _, .inr (.inl ⟨hk, rfl, rfl, rfl⟩), he, h2.pick [0, 1, 1, 0]⟩
    | some kf =>
      have hkf := free0_lt ps kf hf
      have hkl := (List.getElem?_eq_some_iff.1 hkf).1
      obtain ⟨x, hx⟩ : ∃ x, gs[kf]? = some x := ⟨_, List.getElem?_eq_getElem (by omega)⟩
      have hxr := hr x (List.mem_of_getElem? hx)
      rcases hk with rfl | rfl
      · refine (((tabAdd1_spec b kf x ps gs vl vg T Sl Sg l hl hlg hf hx hxr).frame [rEnv B ad [3], rEnv B ad [9]])).mono ?_
        rintro u L ⟨L1, ⟨nb, db, rfl, rfl⟩, rfl⟩
        exact .inr (.inr ⟨.inl rfl, kf, x, nb, _, rfl, hx, .inl ⟨rfl, db, rfl⟩, rfl, rfl⟩)
      · refine (((tabAdd2_spec b kf x ps gs vl vg T Sl Sg l hl hlg hf hx hxr).frame [rEnv B ad [3], rEnv B ad [9]])).mono ?_
        rintro u L ⟨L1, ⟨nb, rfl, rfl⟩, rfl⟩
        exact .inr (.inr ⟨.inr rfl, kf, x, nb, _, rfl, hx, .inr ⟨rfl, rfl⟩, rfl, rfl⟩)
  · intro E w0 w ho
    have h1 : Own w0 E ([rEnv B ad [3]] ++ [rTab b ps gs vl vg T Sl Sg, rNds l, rEnv B ad [9]]) w := ho.pick [2, 0, 0, 0]
    refine (((tabBad_spec ad b kind (fun h => hk (.inl h)) (fun h => hk (.inr h))).frame [rTab b ps gs vl vg T Sl Sg, rNds l, rEnv B ad [9]]) E w0 w h1).mono ?_
    rintro e w' ⟨u, L', ⟨L1, ⟨rfl, rfl⟩, rfl⟩, he, h2⟩
    exact ⟨_, _, .inl ⟨fun h => hk (.inl h), fun h => hk (.inr h), rfl, rfl⟩, he, h2.pick [1, 1, 0, 0]⟩
theorem tabFree_spec {B : Nat} (ad : Nat → Addr) (b k nb : Nat) (g : Int) (ps : List (Option Nat)) (gs : List Int) (vl vg : Value) (T : TypeId) (Sl Sg : Nat → Prop) (l : List (Option ND)) (hl : ps.length = gs.length) (hr : ∀ x ∈ gs, 0 ≤ x ∧ x ≤ 1000000) (hk : k < ps.length) (hs : atOf ps gs k g = some nb) :
    Spec Tryz.prog 52 #[.pointer (some ⟨b, 0, none⟩), .agg #[.int .i64 (k : Int), .int .i64 g]] [rTab b ps gs vl vg T Sl Sg, rNds l, rEnv B ad [10]] fun u L => u = .nilIface ∧ L = [rTab b (ps.set k none) gs vl vg T Sl Sg, rNds (l.set k none), rEnv B ad [10]] := fun E w0 w ho =>
  (nfree_ok ad b k nb g ps gs vl vg T Sl Sg w (ho.fact 2 rfl) (ho.fact 0 rfl) hl hr hk hs).mono fun e w' ⟨he, hc, ht⟩ => by
    have h1 := ho.upd 0 (r := rTab b ps gs vl vg T Sl Sg) (r' := rTab b (ps.set k none) gs vl vg T Sl Sg) rfl rfl (hc.mono fun x _ hx => .inr (.inl hx)) ht fun x hx => .inl hx
    have h2 : Own w0 E (rNds l :: [rTab b (ps.set k none) gs vl vg T Sl Sg, rEnv B ad [10]]) w' := h1.pick [1, 0, 0]
    exact ⟨_, _, ⟨rfl, rfl⟩, he, (h2.ndFree k).pick [1, 0, 0]⟩
theorem tabFreeN_spec {B : Nat} (ad : Nat → Addr) (b : Nat) (n g : Int) (ps : List (Option Nat)) (gs : List Int) (vl vg : Value) (T : TypeId) (Sl Sg : Nat → Prop) (hl : ps.length = gs.length) (hr : ∀ x ∈ gs, 0 ≤ x ∧ x ≤ 1000000) (hs : atOf ps gs n g = none) :
    Spec Tryz.prog 52 #[.pointer (some ⟨b, 0, none⟩), .agg #[.int .i64 n, .int .i64 g]] [rTab b ps gs vl vg T Sl Sg, rEnv B ad [10]] fun u L => u = errV ad 10 ∧ L = [rTab b ps gs vl vg T Sl Sg, rEnv B ad [10]] := fun E w0 w ho =>
  (nfree_stale ad b n g ps gs vl vg T Sl Sg w (ho.fact 1 rfl) (ho.fact 0 rfl) hl hr hs).mono fun e w' ⟨he, hc⟩ => ⟨_, _, ⟨rfl, rfl⟩, he, ho.quiet hc⟩

/- deep: contracts by what is owned (printed by walk.py). -/

theorem Own.dirSub {w0 w : World} {E : Ent} {M : List Res} {ds ds' : List DN} (h : Own w0 E (rDirs ds :: M) w) (hs : ds'.Sublist ds) : Own w0 E (rDirs ds' :: M) w := Own.allSub h (hs.map _)
theorem atOf_gone {ps : List (Option Nat)} {gs : List Int} {k i nb : Nat} {g : Int} (h : atOf ps gs (i : Int) g = some nb) (hn : k ≠ i) : atOf (ps.set k none) gs (i : Int) g = some nb := by
  have hl : i < ps.length ∧ i < gs.length := by
    unfold atOf at h
    split at h
    · cases h
    · rename_i hb
      refine ⟨by omega, ?_⟩
      simp only [Int.toNat_natCast] at h
      split at h
      · rename_i h1 h2; exact (List.getElem?_eq_some_iff.1 h2).1
      · cases h
  rw [← h, atOf_in (List.getElem?_eq_getElem hl.1) (List.getElem?_eq_getElem hl.2), atOf_in (p := ps[i]) (x := gs[i]) (by rw [List.getElem?_set_ne hn, List.getElem?_eq_getElem hl.1]) (List.getElem?_eq_getElem hl.2)]
theorem map_h {ds : List DN} {j : Nat} {d : DN} {es : List (ByteArray × (Int × Int))} (hj : ds[j]? = some d) : (ds.set j { d with es := es }).map (·.h) = ds.map (·.h) := by
  rw [List.map_set]; exact set_same _ j _ (by rw [List.getElem?_map, hj]; rfl)

theorem dropK_spec {B : Nat} (ad : Nat → Addr) (b most tb dm pm : Nat) (ps : List (Option Nat)) (gs : List Int) (vl vg : Value) (T : TypeId) (Sl Sg : Nat → Prop) (l : List (Option ND)) (ds : List DN) (pn : List ((Int × Int) × Int)) (hl : ps.length = gs.length) (hr : ∀ x ∈ gs, 0 ≤ x ∧ x ≤ 1000000) (kd : Nat) (Nd : ND) (hlkd : l[kd]? = some (some Nd)) (had : atOf ps gs (kd : Int) 0 = some Nd.nb) (hli : 0 ≤ Nd.links ∧ Nd.links ≤ 1000000) (k : Nat) (N : ND) (hlk : l[k]? = some (some N)) (ha : atOf ps gs (k : Int) 0 = some N.nb) (hne : k ≠ kd) (hkp : k < ps.length) (d2 : DN) (hj2 : ds[k]? = some d2) (hdh2 : d2.h = ((k : Int), 0)) (hdd : (ds.map (·.h)).Nodup) (ds2 : List DN) (hdel : adel (ds.map dnKV) ((k : Int), 0) = ds2.map dnKV) (hsub : ds2.Sublist ds)  : Spec Tryz.prog 32 #[.pointer (some ⟨b, 0, none⟩), .agg #[.int .i64 (k : Int), .int .i64 0], .agg #[.int .i64 (kd : Int), .int .i64 0]] [rCell true b [.pointer (some ⟨tb, 0, none⟩), .int .i64 (most : Int), .int .i64 0, .int .i64 0, .map (some dm), .map (some pm)] 46, rTab tb ps gs vl vg T Sl Sg, rNds l, rMap true dm hk (ds.map dnKV), rDirs ds, rEnv B ad [10]] (fun u L => L = [rCell true b [.pointer (some ⟨tb, 0, none⟩), .int .i64 (most : Int), .int .i64 0, .int .i64 0, .map (some dm), .map (some pm)] 46, rTab tb (ps.set k none) gs vl vg T Sl Sg, rNds ((l.set k none).set kd (some (linkN Nd (-1)))), rMap true dm hk (ds2.map dnKV), rDirs ds2, rEnv B ad [10]]) := by
  refine spec_of (#[.pointer (some ⟨b, 0, none⟩), .agg #[.int .i64 (k : Int), .int .i64 0], .agg #[.int .i64 (kd : Int), .int .i64 0], undef, undef, undef, undef, undef, undef, undef, undef, undef, undef, undef, undef, undef, undef, undef, undef, undef, undef, undef, undef, undef, undef, undef, undef, undef, undef, undef, undef, undef, undef, undef, undef, undef, undef, undef, undef, undef, undef, undef, undef, undef]) Tryz.func32 rfl (by kernel_rfl) fun E w0 w h => ?_
  refine c_seq ?_
  refine c_reg ?_
  refine sq_new rfl (fun b => .pointer (some ⟨b, 0, none⟩)) [.int .i64 (k : Int), .int .i64 0] 29 (fun _ => by kernel_rfl) h ?_; intro k1 w h
  refine sq_new rfl (fun b => .pointer (some ⟨b, 0, none⟩)) [.int .i64 (kd : Int), .int .i64 0] 29 (fun _ => by kernel_rfl) h ?_; intro k2 w h
  refine lnil ?_
  refine thn_n ?_
  refine c_seq ?_
  refine c_seq ?_
  refine d_start 11 [1, 1, 3] (by kernel_rfl) h fun w h => ?_
  refine d_take 0 16 [1, 1, 3] rfl (v := .pointer (some ⟨b, 0, none⟩)) (by kernel_rfl) (qp_thn (qp_thn qp_body)) (yq (by kernel_rfl) (g_pure (v := .pointer (some ⟨b, 0, none⟩)) fun _ => by kernel_rfl)) h (by kernel_rfl) ?_
  refine d_take 1 17 [1, 1, 3] rfl (v := .pointer (some ⟨b, 0, none⟩)) (by kernel_rfl) (qp_thn (qp_thn qp_body)) (yq (by kernel_rfl) (g_pure (v := .pointer (some ⟨b, 0, none⟩)) fun _ => by kernel_rfl)) h (by kernel_rfl) ?_
  refine d_take 2 19 [1, 1, 3] rfl (v := .pointer (some ⟨b, 4, none⟩)) (by kernel_rfl) (qp_thn (qp_thn qp_body)) (yq (by kernel_rfl) (g_pure (v := .pointer (some ⟨b, 4, none⟩)) fun _ => by kernel_rfl)) h (by kernel_rfl) ?_
  refine d_take 3 23 [1, 1, 3] rfl (v := .map (some dm)) (by kernel_rfl) (qp_thn (qp_thn qp_body)) (yq (by kernel_rfl) (g_ld 4 [.map (some dm)] (.map (some dm)) (by kernel_rfl) 1 rfl)) h (by kernel_rfl) ?_
  refine d_take 4 15 [1, 1, 3] rfl (v := .agg #[.int .i64 (k : Int), .int .i64 0]) (by kernel_rfl) (qp_thn (qp_thn qp_body)) (yq (by kernel_rfl) (g_ld 0 [.int .i64 (k : Int), .int .i64 0] (.agg #[.int .i64 (k : Int), .int .i64 0]) (by kernel_rfl) 0 rfl)) h (by kernel_rfl) ?_
  refine d_take 5 31 [1, 1, 3] rfl (v := .tuple #[.map (some d2.mb), .bool true]) (by kernel_rfl) (qp_thn (qp_thn qp_body)) (yq (by kernel_rfl) (g_eq (v' := .tuple #[.map (some d2.mb), .bool true]) (g_look (K := 29) (E := 48) (z := (.map none)) (kv := (ds.map dnKV)) (ok := true) keyHk ((k : Int), 0) (by kernel_rfl) (fun _ => by kernel_rfl) 2 rfl) (by rw [show aget (ds.map dnKV) ((k : Int), 0) = _ from hdh2 ▸ dir_get hdd hj2]; rfl))) h (by kernel_rfl) ?_
  refine d_take 6 63 [1, 1, 3] rfl (v := .tuple #[.map (some d2.mb), .bool true]) (by kernel_rfl) (qp_thn (qp_thn qp_body)) (yq (by kernel_rfl) (g_pure (v := .tuple #[.map (some d2.mb), .bool true]) fun _ => by kernel_rfl)) h (by kernel_rfl) ?_
  refine d_take 7 383 [1, 1, 3] rfl (v := .map (some d2.mb)) (by kernel_rfl) (qp_thn (qp_thn qp_body)) (yq (by kernel_rfl) (g_pure (v := .map (some d2.mb)) fun _ => by kernel_rfl)) h (by kernel_rfl) ?_
  refine d_take 8 767 [1, 1, 3] rfl (v := .bool true) (by kernel_rfl) (qp_thn (qp_thn qp_body)) (yq (by kernel_rfl) (g_pure (v := .bool true) fun _ => by kernel_rfl)) h (by kernel_rfl) ?_
  refine d_take 9 511 [1, 1, 3] rfl (v := .map (some d2.mb)) (by kernel_rfl) (qp_thn (qp_thn qp_body)) (yq (by kernel_rfl) (g_pure (v := .map (some d2.mb)) fun _ => by kernel_rfl)) h (by kernel_rfl) ?_
  refine d_take 10 1023 [1, 1, 3] rfl (v := .bool true) (by kernel_rfl) (qp_thn (qp_thn qp_body)) (yq (by kernel_rfl) (g_pure (v := .bool true) fun _ => by kernel_rfl)) h (by kernel_rfl) ?_
  refine d_done (by kernel_rfl) ?_
  refine thn_n ?_
  refine c_seq ?_
  refine c_reg ?_
  refine sq_p (.bool true) rfl (fun _ => by kernel_rfl) ?_
  refine lnil ?_
  refine thn_n ?_
  refine c_true (by kernel_rfl) ?_
  refine c_seq ?_
  refine d_start 6 [1, 1] (by kernel_rfl) h fun w h => ?_
  refine d_take 0 16 [1, 1] rfl (v := .pointer (some ⟨b, 0, none⟩)) (by kernel_rfl) (qp_thn (qp_thn qp_body)) (yq (by kernel_rfl) (g_pure (v := .pointer (some ⟨b, 0, none⟩)) fun _ => by kernel_rfl)) h (by kernel_rfl) ?_
  refine d_take 1 17 [1, 1] rfl (v := .pointer (some ⟨b, 0, none⟩)) (by kernel_rfl) (qp_thn (qp_thn qp_body)) (yq (by kernel_rfl) (g_pure (v := .pointer (some ⟨b, 0, none⟩)) fun _ => by kernel_rfl)) h (by kernel_rfl) ?_
  refine d_take 2 19 [1, 1] rfl (v := .pointer (some ⟨b, 4, none⟩)) (by kernel_rfl) (qp_thn (qp_thn qp_body)) (yq (by kernel_rfl) (g_pure (v := .pointer (some ⟨b, 4, none⟩)) fun _ => by kernel_rfl)) h (by kernel_rfl) ?_
  refine d_take 3 23 [1, 1] rfl (v := .map (some dm)) (by kernel_rfl) (qp_thn (qp_thn qp_body)) (yq (by kernel_rfl) (g_ld 4 [.map (some dm)] (.map (some dm)) (by kernel_rfl) 1 rfl)) h (by kernel_rfl) ?_
  refine d_take 4 15 [1, 1] rfl (v := .agg #[.int .i64 (k : Int), .int .i64 0]) (by kernel_rfl) (qp_thn (qp_thn qp_body)) (yq (by kernel_rfl) (g_ld 0 [.int .i64 (k : Int), .int .i64 0] (.agg #[.int .i64 (k : Int), .int .i64 0]) (by kernel_rfl) 0 rfl)) h (by kernel_rfl) ?_
  refine d_ready [5] (by kernel_rfl) rfl ?_
  refine ad_mapd [1, 1] rfl (by kernel_rfl) (K := 29) (E := 48) keyHk ((k : Int), 0) (by kernel_rfl) h 5 rfl ?_ ?_
  · skip
    intro w h; refine ⟨by kernel_rfl, ?_⟩
    refine d_done (by kernel_rfl) ?_
    refine thn_n ?_
    refine c_seq ?_
    refine d_start 6 [1, 1] (by kernel_rfl) h fun w h => ?_
    refine d_take 0 16 [1, 1] rfl (v := .pointer (some ⟨b, 0, none⟩)) (by kernel_rfl) (qp_thn (qp_thn qp_body)) (yq (by kernel_rfl) (g_pure (v := .pointer (some ⟨b, 0, none⟩)) fun _ => by kernel_rfl)) h (by kernel_rfl) ?_
    refine d_take 1 17 [1, 1] rfl (v := .pointer (some ⟨b, 0, none⟩)) (by kernel_rfl) (qp_thn (qp_thn qp_body)) (yq (by kernel_rfl) (g_pure (v := .pointer (some ⟨b, 0, none⟩)) fun _ => by kernel_rfl)) h (by kernel_rfl) ?_
    refine d_take 2 19 [1, 1] rfl (v := .pointer (some ⟨b, 0, none⟩)) (by kernel_rfl) (qp_thn (qp_thn qp_body)) (yq (by kernel_rfl) (g_pure (v := .pointer (some ⟨b, 0, none⟩)) fun _ => by kernel_rfl)) h (by kernel_rfl) ?_
    refine d_take 3 23 [1, 1] rfl (v := .pointer (some ⟨tb, 0, none⟩)) (by kernel_rfl) (qp_thn (qp_thn qp_body)) (yq (by kernel_rfl) (g_ld 0 [.pointer (some ⟨tb, 0, none⟩)] (.pointer (some ⟨tb, 0, none⟩)) (by kernel_rfl) 1 rfl)) h (by kernel_rfl) ?_
    refine d_take 4 15 [1, 1] rfl (v := .agg #[.int .i64 (k : Int), .int .i64 0]) (by kernel_rfl) (qp_thn (qp_thn qp_body)) (yq (by kernel_rfl) (g_ld 0 [.int .i64 (k : Int), .int .i64 0] (.agg #[.int .i64 (k : Int), .int .i64 0]) (by kernel_rfl) 0 rfl)) h (by kernel_rfl) ?_
    refine d_ready [5] (by kernel_rfl) rfl ?_
    refine ad_call #[.pointer (some ⟨tb, 0, none⟩), .agg #[.int .i64 (k : Int), .int .i64 0]] [3, 3, 5] [4, 4] rfl (by kernel_rfl) (tabFree_spec ad tb k N.nb 0 ps gs vl vg T Sl Sg l hl hr hkp ha) (fun _ => by kernel_rfl) h ?_ ?_
    · skip
      rintro v_ L_ w ⟨rfl, rfl⟩ h
      refine ⟨by kernel_rfl, ?_⟩
      refine d_done (by kernel_rfl) ?_
      refine thn_n ?_
      refine c_seq ?_
      refine c_reg ?_
      refine sq_p (.pointer (some ⟨b, 0, none⟩)) rfl (fun _ => by kernel_rfl) ?_
      refine sq_q rfl h (g_ld 0 [.int .i64 (kd : Int), .int .i64 0] (.agg #[.int .i64 (kd : Int), .int .i64 0]) (by kernel_rfl) 3 rfl) ?_
      refine sq_call #[.pointer (some ⟨b, 0, none⟩), .agg #[.int .i64 (kd : Int), .int .i64 0], .int .i64 (-1)] [5, 0, 0, 0] rfl (links_spec ad b most tb dm pm (ps.set k none) gs vl vg T Sl Sg (l.set k none) ds pn (by rw [List.length_set]; exact hl) hr (kd : Int) 0 kd Nd (get_ne hlkd hne) (atOf_gone had hne) (-1) (by omega) hli) (fun _ => by kernel_rfl) h ?_; rintro _ L_ w rfl h
      refine lnil ?_
      refine thn_n ?_
      refine c_ret ?_
      refine thn_r ?_
      rw [hdel] at h
      have h : Own w0 E [rCell true b [.pointer (some ⟨tb, 0, none⟩), .int .i64 (most : Int), .int .i64 0, .int .i64 0, .map (some dm), .map (some pm)] 46, rTab tb (ps.set k none) gs vl vg T Sl Sg, rNds ((l.set k none).set kd (some (linkN Nd (-1)))), rEnv B ad [10], rCell true k2 [.int .i64 (kd : Int), .int .i64 0] 29, rCell true k1 [.int .i64 (k : Int), .int .i64 0] 29, rMap true dm hk (ds2.map dnKV), rDirs ds] w := h
      have h := h.pickE (M := [rDirs ds, rCell true b [.pointer (some ⟨tb, 0, none⟩), .int .i64 (most : Int), .int .i64 0, .int .i64 0, .map (some dm), .map (some pm)] 46, rTab tb (ps.set k none) gs vl vg T Sl Sg, rNds ((l.set k none).set kd (some (linkN Nd (-1)))), rEnv B ad [10], rCell true k2 [.int .i64 (kd : Int), .int .i64 0] 29, rCell true k1 [.int .i64 (k : Int), .int .i64 0] 29, rMap true dm hk (ds2.map dnKV)]) [7, 0, 0, 0, 0, 0, 0, 0] (by kernel_rfl)
      have h := h.dirSub hsub
      have h : Own w0 E [rDirs ds2, rCell true b [.pointer (some ⟨tb, 0, none⟩), .int .i64 (most : Int), .int .i64 0, .int .i64 0, .map (some dm), .map (some pm)] 46, rTab tb (ps.set k none) gs vl vg T Sl Sg, rNds ((l.set k none).set kd (some (linkN Nd (-1)))), rEnv B ad [10], rCell true k2 [.int .i64 (kd : Int), .int .i64 0] 29, rCell true k1 [.int .i64 (k : Int), .int .i64 0] 29, rMap true dm hk (ds2.map dnKV)] w := h
      refine ret_end [] [1, 1, 1, 4, 0, 0] h (by kernel_rfl) (res_n) ?_
      exact rfl
    exact ad_nil
  exact ad_nil
theorem rmK_spec {B : Nat} (ad : Nat → Addr) (b most tb dm pm : Nat) (ps : List (Option Nat)) (gs : List Int) (vl vg : Value) (T : TypeId) (Sl Sg : Nat → Prop) (l : List (Option ND)) (ds : List DN) (pn : List ((Int × Int) × Int)) (hl : ps.length = gs.length) (hr : ∀ x ∈ gs, 0 ≤ x ∧ x ≤ 1000000) (kd : Nat) (Nd : ND) (hlkd : l[kd]? = some (some Nd)) (had : atOf ps gs (kd : Int) 0 = some Nd.nb) (hli : 0 ≤ Nd.links ∧ Nd.links ≤ 1000000) (k : Nat) (N : ND) (hlk : l[k]? = some (some N)) (ha : atOf ps gs (k : Int) 0 = some N.nb) (hne : k ≠ kd) (hkp : k < ps.length) (d2 : DN) (hj2 : ds[k]? = some d2) (hdh2 : d2.h = ((k : Int), 0)) (hdd : (ds.map (·.h)).Nodup) (ds2 : List DN) (d : DN) (hj : ds[kd]? = some d) (hdh : d.h = ((kd : Int), 0)) (hes : d.es = [(⟨#[100]⟩, ((k : Int), 0))]) (hes2 : d2.es = []) (hcd : 0 ≤ Nd.change ∧ Nd.change ≤ 1000000) (hdel : adel ((ds.set kd ({ d with es := [] } : DN)).map dnKV) ((k : Int), 0) = ds2.map dnKV) (hsub : ds2.Sublist (ds.set kd ({ d with es := [] } : DN)))  : Spec Tryz.prog 12 #[.pointer (some ⟨b, 0, none⟩), .agg #[.int .i64 (kd : Int), .int .i64 0], .string ⟨#[100]⟩] [rCell true b [.pointer (some ⟨tb, 0, none⟩), .int .i64 (most : Int), .int .i64 0, .int .i64 0, .map (some dm), .map (some pm)] 46, rTab tb ps gs vl vg T Sl Sg, rNds l, rMap true dm hk (ds.map dnKV), rDirs ds, rEnv B ad [10], rEnv B ad [4]] (fun u L => u = .nilIface ∧ L = [rCell true b [.pointer (some ⟨tb, 0, none⟩), .int .i64 (most : Int), .int .i64 0, .int .i64 0, .map (some dm), .map (some pm)] 46, rTab tb (ps.set k none) gs vl vg T Sl Sg, rNds (((l.set k none).set kd (some (linkN Nd (-1)))).set kd (some (touchN (linkN Nd (-1))))), rMap true dm hk (ds2.map dnKV), rDirs ds2, rEnv B ad [10], rEnv B ad [4]]) := by
  refine spec_of (#[.pointer (some ⟨b, 0, none⟩), .agg #[.int .i64 (kd : Int), .int .i64 0], .string ⟨#[100]⟩, undef, undef, undef, undef, undef, undef, undef, undef, undef, undef, undef, undef, undef, undef, undef, undef, undef, undef, undef, undef, undef, undef, undef, undef, undef, undef, undef, undef, undef, undef, undef, undef, undef, undef, undef, undef, undef, undef, undef, undef, undef, undef]) Tryz.func12 rfl (by kernel_rfl) fun E w0 w h => ?_
  refine c_seq ?_
  refine c_reg ?_
  refine sq_new rfl (fun b => .pointer (some ⟨b, 0, none⟩)) [.int .i64 (kd : Int), .int .i64 0] 29 (fun _ => by kernel_rfl) h ?_; intro k1 w h
  refine sq_p (.nilIface) rfl (fun _ => by kernel_rfl) ?_
  refine lnil ?_
  refine thn_n ?_
  refine c_seq ?_
  refine c_reg ?_
  refine sq_p (.pointer (some ⟨b, 0, none⟩)) rfl (fun _ => by kernel_rfl) ?_
  refine sq_q rfl h (g_ld 0 [.int .i64 (kd : Int), .int .i64 0] (.agg #[.int .i64 (kd : Int), .int .i64 0]) (by kernel_rfl) 0 rfl) ?_
  refine sq_p (.string ⟨#[100]⟩) rfl (fun _ => by kernel_rfl) ?_
  refine sq_call #[.pointer (some ⟨b, 0, none⟩), .agg #[.int .i64 (kd : Int), .int .i64 0], .string ⟨#[100]⟩] [1, 1, 1, 1, 1, 1, 1] rfl (lookupY_spec ad b most tb dm pm ps gs vl vg T Sl Sg l ds pn hl hr (kd : Int) 0 kd Nd hlkd had kd d hj hdh hdd ⟨#[100]⟩ (by decide) nm_d_ok ((k : Int), 0) (by rw [hes]; rfl)) (fun _ => by kernel_rfl) h ?_; rintro v_ L_ w ⟨rfl, rfl⟩ h
  refine sq_p (.tuple #[.agg #[.int .i64 (k : Int), .int .i64 0], .nilIface]) rfl (fun _ => by kernel_rfl) ?_
  refine sq_p (.agg #[.int .i64 (k : Int), .int .i64 0]) rfl (fun _ => by kernel_rfl) ?_
  refine sq_p (.nilIface) rfl (fun _ => by kernel_rfl) ?_
  refine sq_new rfl (fun b => .pointer (some ⟨b, 0, none⟩)) [.int .i64 0, .int .i64 0] 29 (fun _ => by kernel_rfl) h ?_; intro k2 w h
  refine sq_st rfl 0 [.int .i64 (k : Int), .int .i64 0] [.int .i64 (k : Int), .int .i64 0] h 0 rfl (by kernel_rfl) ?_; intro w h
  refine sq_p (.nilIface) rfl (fun _ => by kernel_rfl) ?_
  refine lnil ?_
  refine thn_n ?_
  refine c_seq ?_
  refine c_seq ?_
  refine c_reg ?_
  refine sq_p (.nilIface) rfl (fun _ => by kernel_rfl) ?_
  refine sq_p (.bool false) rfl (fun _ => by kernel_rfl) ?_
  refine lnil ?_
  refine thn_n ?_
  refine c_false (by kernel_rfl) ?_
  refine c_skip ?_
  refine thn_n ?_
  refine c_seq ?_
  refine c_seq ?_
  have h := h.pickE (M := [rDirs ds, rCell true k2 [.int .i64 (k : Int), .int .i64 0] 29, rCell true b [.pointer (some ⟨tb, 0, none⟩), .int .i64 (most : Int), .int .i64 0, .int .i64 0, .map (some dm), .map (some pm)] 46, rTab tb ps gs vl vg T Sl Sg, rNds l, rMap true dm hk (ds.map dnKV), rEnv B ad [10], rEnv B ad [4], rCell true k1 [.int .i64 (kd : Int), .int .i64 0] 29]) [5, 0, 0, 0, 0, 0, 0, 0, 0] (by kernel_rfl)
  have h := h.dirOpen hj2
  have h : Own w0 E [rMap true d2.mb sk (d2.es.map enKV), rDirsO ds k, rCell true k2 [.int .i64 (k : Int), .int .i64 0] 29, rCell true b [.pointer (some ⟨tb, 0, none⟩), .int .i64 (most : Int), .int .i64 0, .int .i64 0, .map (some dm), .map (some pm)] 46, rTab tb ps gs vl vg T Sl Sg, rNds l, rMap true dm hk (ds.map dnKV), rEnv B ad [10], rEnv B ad [4], rCell true k1 [.int .i64 (kd : Int), .int .i64 0] 29] w := h
  refine d_start 8 [0, 1, 1, 3] (by kernel_rfl) h fun w h => ?_
  refine d_take 0 16 [0, 1, 1, 3] rfl (v := .pointer (some ⟨b, 0, none⟩)) (by kernel_rfl) (qp_thn (qp_thn qp_body)) (yq (by kernel_rfl) (g_pure (v := .pointer (some ⟨b, 0, none⟩)) fun _ => by kernel_rfl)) h (by kernel_rfl) ?_
  refine d_take 1 17 [0, 1, 1, 3] rfl (v := .pointer (some ⟨b, 0, none⟩)) (by kernel_rfl) (qp_thn (qp_thn qp_body)) (yq (by kernel_rfl) (g_pure (v := .pointer (some ⟨b, 0, none⟩)) fun _ => by kernel_rfl)) h (by kernel_rfl) ?_
  refine d_take 2 19 [0, 1, 1, 3] rfl (v := .pointer (some ⟨b, 4, none⟩)) (by kernel_rfl) (qp_thn (qp_thn qp_body)) (yq (by kernel_rfl) (g_pure (v := .pointer (some ⟨b, 4, none⟩)) fun _ => by kernel_rfl)) h (by kernel_rfl) ?_
  refine d_take 3 23 [0, 1, 1, 3] rfl (v := .map (some dm)) (by kernel_rfl) (qp_thn (qp_thn qp_body)) (yq (by kernel_rfl) (g_ld 4 [.map (some dm)] (.map (some dm)) (by kernel_rfl) 2 rfl)) h (by kernel_rfl) ?_
  refine d_take 4 15 [0, 1, 1, 3] rfl (v := .agg #[.int .i64 (k : Int), .int .i64 0]) (by kernel_rfl) (qp_thn (qp_thn qp_body)) (yq (by kernel_rfl) (g_ld 0 [.int .i64 (k : Int), .int .i64 0] (.agg #[.int .i64 (k : Int), .int .i64 0]) (by kernel_rfl) 1 rfl)) h (by kernel_rfl) ?_
  refine d_take 5 31 [0, 1, 1, 3] rfl (v := .map (some d2.mb)) (by kernel_rfl) (qp_thn (qp_thn qp_body)) (yq (by kernel_rfl) (g_eq (v' := .map (some d2.mb)) (g_look (K := 29) (E := 48) (z := (.map none)) (kv := (ds.map dnKV)) (ok := false) keyHk ((k : Int), 0) (by kernel_rfl) (fun _ => by kernel_rfl) 3 rfl) (by rw [show aget (ds.map dnKV) ((k : Int), 0) = _ from hdh2 ▸ dir_get hdd hj2]; rfl))) h (by kernel_rfl) ?_
  refine d_take 6 63 [0, 1, 1, 3] rfl (v := .int .i64 ((d2.es.map enKV).length : Int)) (by kernel_rfl) (qp_thn (qp_thn qp_body)) (yq (by kernel_rfl) (g_lenm (K := 9) (E := 29) (by kernel_rfl) 0 rfl)) h (by kernel_rfl) ?_
  refine d_take 7 127 [0, 1, 1, 3] rfl (v := .bool (decide (((d2.es.map enKV).length : Int) > 0))) (by kernel_rfl) (qp_thn (qp_thn qp_body)) (yq (by kernel_rfl) (g_pure (v := .bool (decide (((d2.es.map enKV).length : Int) > 0))) fun _ => by kernel_rfl)) h (by kernel_rfl) ?_
  refine d_done (by kernel_rfl) ?_
  refine thn_n ?_
  refine c_cond (decide (((d2.es.map enKV).length : Int) > 0)) (by kernel_rfl) (fun hc3 => ?_) (fun hc3 => ?_)
  · skip
    have hc3 := of_decide_eq_true hc3
    exfalso; revert hc3; rw [hes2]; simp
  · skip
    have hc3 := of_decide_eq_false hc3
    refine c_skip ?_
    refine thn_n ?_
    refine c_seq ?_
    have h := h.pickE (M := [rMap true d2.mb sk (d2.es.map enKV), rDirsO ds k, rCell true k2 [.int .i64 (k : Int), .int .i64 0] 29, rCell true b [.pointer (some ⟨tb, 0, none⟩), .int .i64 (most : Int), .int .i64 0, .int .i64 0, .map (some dm), .map (some pm)] 46, rTab tb ps gs vl vg T Sl Sg, rNds l, rMap true dm hk (ds.map dnKV), rEnv B ad [10], rEnv B ad [4], rCell true k1 [.int .i64 (kd : Int), .int .i64 0] 29]) [0, 0, 0, 0, 0, 0, 0, 0, 0, 0] (by kernel_rfl)
    have h := h.dirBack (d := d2) hj2
    have h := h.pickE (M := [rDirs ds, rCell true k2 [.int .i64 (k : Int), .int .i64 0] 29, rCell true b [.pointer (some ⟨tb, 0, none⟩), .int .i64 (most : Int), .int .i64 0, .int .i64 0, .map (some dm), .map (some pm)] 46, rTab tb ps gs vl vg T Sl Sg, rNds l, rMap true dm hk (ds.map dnKV), rEnv B ad [10], rEnv B ad [4], rCell true k1 [.int .i64 (kd : Int), .int .i64 0] 29]) [0, 0, 0, 0, 0, 0, 0, 0, 0] (by kernel_rfl)
    have h := h.dirOpen hj
    have h : Own w0 E [rMap true d.mb sk (d.es.map enKV), rDirsO ds kd, rCell true k2 [.int .i64 (k : Int), .int .i64 0] 29, rCell true b [.pointer (some ⟨tb, 0, none⟩), .int .i64 (most : Int), .int .i64 0, .int .i64 0, .map (some dm), .map (some pm)] 46, rTab tb ps gs vl vg T Sl Sg, rNds l, rMap true dm hk (ds.map dnKV), rEnv B ad [10], rEnv B ad [4], rCell true k1 [.int .i64 (kd : Int), .int .i64 0] 29] w := h
    refine d_start 8 [3, 5, 7] (by kernel_rfl) h fun w h => ?_
    refine d_take 0 80 [3, 5, 7] rfl (v := .pointer (some ⟨b, 0, none⟩)) (by kernel_rfl) (qp_thn qp_body) (yq (by kernel_rfl) (g_pure (v := .pointer (some ⟨b, 0, none⟩)) fun _ => by kernel_rfl)) h (by kernel_rfl) ?_
    refine d_take 1 81 [3, 5, 7] rfl (v := .pointer (some ⟨b, 0, none⟩)) (by kernel_rfl) (qp_thn qp_body) (yq (by kernel_rfl) (g_pure (v := .pointer (some ⟨b, 0, none⟩)) fun _ => by kernel_rfl)) h (by kernel_rfl) ?_
    refine d_take 2 83 [3, 5, 7] rfl (v := .pointer (some ⟨b, 4, none⟩)) (by kernel_rfl) (qp_thn qp_body) (yq (by kernel_rfl) (g_pure (v := .pointer (some ⟨b, 4, none⟩)) fun _ => by kernel_rfl)) h (by kernel_rfl) ?_
    refine d_take 3 87 [3, 5, 7] rfl (v := .map (some dm)) (by kernel_rfl) (qp_thn qp_body) (yq (by kernel_rfl) (g_ld 4 [.map (some dm)] (.map (some dm)) (by kernel_rfl) 0 rfl)) h (by kernel_rfl) ?_
    refine d_take 4 79 [3, 5, 7] rfl (v := .agg #[.int .i64 (kd : Int), .int .i64 0]) (by kernel_rfl) (qp_thn qp_body) (yq (by kernel_rfl) (g_ld 0 [.int .i64 (kd : Int), .int .i64 0] (.agg #[.int .i64 (kd : Int), .int .i64 0]) (by kernel_rfl) 2 rfl)) h (by kernel_rfl) ?_
    refine d_take 5 95 [3, 5, 7] rfl (v := .map (some d.mb)) (by kernel_rfl) (qp_thn qp_body) (yq (by kernel_rfl) (g_eq (v' := .map (some d.mb)) (g_look (K := 29) (E := 48) (z := (.map none)) (kv := (ds.map dnKV)) (ok := false) keyHk ((kd : Int), 0) (by kernel_rfl) (fun _ => by kernel_rfl) 1 rfl) (by rw [show aget (ds.map dnKV) ((kd : Int), 0) = _ from hdh ▸ dir_get hdd hj]; rfl))) h (by kernel_rfl) ?_
    refine d_take 6 63 [3, 5, 7] rfl (v := .string ⟨#[100]⟩) (by kernel_rfl) (qp_thn qp_body) (yq (by kernel_rfl) (g_pure (v := .string ⟨#[100]⟩) fun _ => by kernel_rfl)) h (by kernel_rfl) ?_
    refine d_ready [7] (by kernel_rfl) rfl ?_
    refine ad_mapd [3, 5, 7] rfl (by kernel_rfl) (K := 9) (E := 29) (keyStr (by kernel_rfl)) ⟨#[100]⟩ (by kernel_rfl) h 0 rfl ?_ ?_
    · skip
      intro w h; refine ⟨by kernel_rfl, ?_⟩
      refine d_done (by kernel_rfl) ?_
      refine thn_n ?_
      refine c_seq ?_
      refine c_reg ?_
      refine sq_p (.pointer (some ⟨b, 0, none⟩)) rfl (fun _ => by kernel_rfl) ?_
      refine sq_q rfl h (g_ld 0 [.int .i64 (k : Int), .int .i64 0] (.agg #[.int .i64 (k : Int), .int .i64 0]) (by kernel_rfl) 2 rfl) ?_
      refine sq_q rfl h (g_ld 0 [.int .i64 (kd : Int), .int .i64 0] (.agg #[.int .i64 (kd : Int), .int .i64 0]) (by kernel_rfl) 9 rfl) ?_
      rw [show adel (d.es.map enKV) ⟨#[100]⟩ = ([] : List (ByteArray × (Int × Int))).map enKV by rw [hes]; rfl] at h
      have h : Own w0 E [rMap true d.mb sk (([] : List (ByteArray × (Int × Int))).map enKV), rDirsO ds kd, rCell true k2 [.int .i64 (k : Int), .int .i64 0] 29, rCell true b [.pointer (some ⟨tb, 0, none⟩), .int .i64 (most : Int), .int .i64 0, .int .i64 0, .map (some dm), .map (some pm)] 46, rTab tb ps gs vl vg T Sl Sg, rNds l, rMap true dm hk (ds.map dnKV), rEnv B ad [10], rEnv B ad [4], rCell true k1 [.int .i64 (kd : Int), .int .i64 0] 29] w := h
      have h := h.pickE (M := [rMap true d.mb sk (([] : List (ByteArray × (Int × Int))).map enKV), rDirsO ds kd, rCell true k2 [.int .i64 (k : Int), .int .i64 0] 29, rCell true b [.pointer (some ⟨tb, 0, none⟩), .int .i64 (most : Int), .int .i64 0, .int .i64 0, .map (some dm), .map (some pm)] 46, rTab tb ps gs vl vg T Sl Sg, rNds l, rMap true dm hk (ds.map dnKV), rEnv B ad [10], rEnv B ad [4], rCell true k1 [.int .i64 (kd : Int), .int .i64 0] 29]) [0, 0, 0, 0, 0, 0, 0, 0, 0, 0] (by kernel_rfl)
      have h := h.dirClose ({ d with es := [] } : DN)
      have h : Own w0 E [rDirs (ds.set kd ({ d with es := [] } : DN)), rCell true k2 [.int .i64 (k : Int), .int .i64 0] 29, rCell true b [.pointer (some ⟨tb, 0, none⟩), .int .i64 (most : Int), .int .i64 0, .int .i64 0, .map (some dm), .map (some pm)] 46, rTab tb ps gs vl vg T Sl Sg, rNds l, rMap true dm hk (ds.map dnKV), rEnv B ad [10], rEnv B ad [4], rCell true k1 [.int .i64 (kd : Int), .int .i64 0] 29] w := h
      rw [← dnKV_set (d' := ({ d with es := [] } : DN)) hj rfl rfl] at h
      have h : Own w0 E [rDirs (ds.set kd ({ d with es := [] } : DN)), rCell true k2 [.int .i64 (k : Int), .int .i64 0] 29, rCell true b [.pointer (some ⟨tb, 0, none⟩), .int .i64 (most : Int), .int .i64 0, .int .i64 0, .map (some dm), .map (some pm)] 46, rTab tb ps gs vl vg T Sl Sg, rNds l, rMap true dm hk ((ds.set kd ({ d with es := [] } : DN)).map dnKV), rEnv B ad [10], rEnv B ad [4], rCell true k1 [.int .i64 (kd : Int), .int .i64 0] 29] w := h
      refine sq_call #[.pointer (some ⟨b, 0, none⟩), .agg #[.int .i64 (k : Int), .int .i64 0], .agg #[.int .i64 (kd : Int), .int .i64 0]] [2, 2, 2, 2, 0, 1] rfl (dropK_spec ad b most tb dm pm ps gs vl vg T Sl Sg l (ds.set kd ({ d with es := [] } : DN)) pn hl hr kd Nd hlkd had hli k N hlk ha hne hkp d2 (get_ne hj2 (Ne.symm hne)) hdh2 (by rw [map_h hj]; exact hdd) ds2 hdel hsub) (fun _ => by kernel_rfl) h ?_; rintro _ L_ w rfl h
      refine lnil ?_
      refine thn_n ?_
      refine c_seq ?_
      refine d_start 6 [0, 7] (by kernel_rfl) h fun w h => ?_
      refine d_take 0 16 [0, 7] rfl (v := .pointer (some ⟨b, 0, none⟩)) (by kernel_rfl) (qp_thn qp_body) (yq (by kernel_rfl) (g_pure (v := .pointer (some ⟨b, 0, none⟩)) fun _ => by kernel_rfl)) h (by kernel_rfl) ?_
      refine d_take 1 17 [0, 7] rfl (v := .pointer (some ⟨b, 0, none⟩)) (by kernel_rfl) (qp_thn qp_body) (yq (by kernel_rfl) (g_pure (v := .pointer (some ⟨b, 0, none⟩)) fun _ => by kernel_rfl)) h (by kernel_rfl) ?_
      refine d_take 2 19 [0, 7] rfl (v := .pointer (some ⟨b, 0, none⟩)) (by kernel_rfl) (qp_thn qp_body) (yq (by kernel_rfl) (g_pure (v := .pointer (some ⟨b, 0, none⟩)) fun _ => by kernel_rfl)) h (by kernel_rfl) ?_
      refine d_take 3 23 [0, 7] rfl (v := .pointer (some ⟨tb, 0, none⟩)) (by kernel_rfl) (qp_thn qp_body) (yq (by kernel_rfl) (g_ld 0 [.pointer (some ⟨tb, 0, none⟩)] (.pointer (some ⟨tb, 0, none⟩)) (by kernel_rfl) 0 rfl)) h (by kernel_rfl) ?_
      refine d_take 4 15 [0, 7] rfl (v := .agg #[.int .i64 (kd : Int), .int .i64 0]) (by kernel_rfl) (qp_thn qp_body) (yq (by kernel_rfl) (g_ld 0 [.int .i64 (kd : Int), .int .i64 0] (.agg #[.int .i64 (kd : Int), .int .i64 0]) (by kernel_rfl) 1 rfl)) h (by kernel_rfl) ?_
      refine d_ready [5] (by kernel_rfl) rfl ?_
      refine ad_call #[.pointer (some ⟨tb, 0, none⟩), .agg #[.int .i64 (kd : Int), .int .i64 0]] [1, 1, 3] [3, 7] rfl (by kernel_rfl) (touch_spec ad tb (ps.set k none) gs vl vg T Sl Sg ((l.set k none).set kd (some (linkN Nd (-1)))) (by rw [List.length_set]; exact hl) hr (kd : Int) 0 kd (linkN Nd (-1)) (get_at (by simp; exact get_lt hlkd)) (atOf_gone had hne) hcd) (fun _ => by kernel_rfl) h ?_ ?_
      · skip
        rintro v_ L_ w ⟨rfl, rfl⟩ h
        refine ⟨by kernel_rfl, ?_⟩
        refine d_done (by kernel_rfl) ?_
        refine thn_n ?_
        refine c_seq ?_
        refine c_reg ?_
        refine sq_p (.nilIface) rfl (fun _ => by kernel_rfl) ?_
        refine lnil ?_
        refine thn_n ?_
        refine c_ret ?_
        refine ret_end [.nilIface] [3, 0, 0, 1, 1, 0, 1] h (by kernel_rfl) (res_t (by kernel_rfl) res_n) ?_
        exact ⟨rfl, rfl⟩
      exact ad_nil
    exact ad_nil

/- deep: contracts by what is owned (printed by walk.py). -/
theorem createT_spec {B : Nat} (ad : Nat → Addr) (b most tb dm pm : Nat) (ps : List (Option Nat)) (gs : List Int) (vl vg : Value) (T : TypeId) (Sl Sg : Nat → Prop) (l : List (Option ND)) (ds : List DN) (pn : List ((Int × Int) × Int)) (hl : ps.length = gs.length) (hr : ∀ x ∈ gs, 0 ≤ x ∧ x ≤ 1000000) (i : Nat) (N : ND) (hlk : l[i]? = some (some N)) (ha : atOf ps gs (i : Int) 0 = some N.nb) (d : DN) (hj : ds[i]? = some d) (hdh : d.h = ((i : Int), 0)) (hdd : (ds.map (·.h)).Nodup) (s : ByteArray) (hs : s.size ≤ 9223372036854775807) (hok : nameOk s) (hx : aget d.es s = none) (hfew : d.es.length < 60) (hlen : ps.length ≤ 300) (hf : free0 ps = none)  : Spec Tryz.prog 7 #[.pointer (some ⟨b, 0, none⟩), .agg #[.int .i64 (i : Int), .int .i64 0], .string s, .int .i64 2] [rCell true b [.pointer (some ⟨tb, 0, none⟩), .int .i64 (most : Int), .int .i64 0, .int .i64 0, .map (some dm), .map (some pm)] 46, rTab tb ps gs vl vg T Sl Sg, rNds l, rMap true dm hk (ds.map dnKV), rDirs ds, rEnv B ad [10], rEnv B ad [4], rEnv B ad [9]] (fun u L => u = .tuple #[.agg #[.int .i64 0, .int .i64 0], errV ad 9] ∧ L = [rCell true b [.pointer (some ⟨tb, 0, none⟩), .int .i64 (most : Int), .int .i64 0, .int .i64 0, .map (some dm), .map (some pm)] 46, rTab tb ps gs vl vg T Sl Sg, rNds l, rMap true dm hk (ds.map dnKV), rDirs ds, rEnv B ad [10], rEnv B ad [4], rEnv B ad [9]]) := by
  have hml : (d.es.map enKV).length = d.es.length := List.length_map _
  refine spec_of (#[.pointer (some ⟨b, 0, none⟩), .agg #[.int .i64 (i : Int), .int .i64 0], .string s, .int .i64 2, undef, undef, undef, undef, undef, undef, undef, undef, undef, undef, undef, undef, undef, undef, undef, undef, undef, undef, undef, undef, undef, undef, undef, undef, undef, undef, undef, undef, undef, undef, undef, undef, undef, undef, undef, undef, undef, undef, undef, undef, undef, undef, undef, undef, undef, undef, undef, undef, undef, undef, undef, undef, undef, undef, undef, undef, undef, undef, undef, undef, undef, undef, undef, undef, undef, undef, undef, undef, undef, undef, undef, undef, undef, undef, undef, undef, undef, undef, undef, undef, undef, undef, undef, undef, undef, undef, undef, undef, undef, undef, undef, undef, undef, undef]) Tryz.func7 rfl (by kernel_rfl) fun E w0 w h => ?_
  refine c_seq ?_
  refine c_reg ?_
  refine sq_new rfl (fun b => .pointer (some ⟨b, 0, none⟩)) [.int .i64 (i : Int), .int .i64 0] 29 (fun _ => by kernel_rfl) h ?_; intro k1 w h
  refine sq_new rfl (fun b => .pointer (some ⟨b, 0, none⟩)) [.int .i64 0, .int .i64 0] 29 (fun _ => by kernel_rfl) h ?_; intro k2 w h
  refine sq_p (.nilIface) rfl (fun _ => by kernel_rfl) ?_
  refine lnil ?_
  refine thn_n ?_
  refine c_seq ?_
  refine c_reg ?_
  refine sq_p (.pointer (some ⟨b, 0, none⟩)) rfl (fun _ => by kernel_rfl) ?_
  refine sq_q rfl h (g_ld 0 [.int .i64 (i : Int), .int .i64 0] (.agg #[.int .i64 (i : Int), .int .i64 0]) (by kernel_rfl) 1 rfl) ?_
  refine sq_p (.string s) rfl (fun _ => by kernel_rfl) ?_
  refine sq_call #[.pointer (some ⟨b, 0, none⟩), .agg #[.int .i64 (i : Int), .int .i64 0], .string s] [2, 2, 2, 2, 3, 3] rfl (namedY_spec ad b most tb dm pm ps gs vl vg T Sl Sg l ds pn hl hr (i : Int) 0 i N hlk ha i d hj hdh hdd s hs hok) (fun _ => by kernel_rfl) h ?_; rintro v_ L_ w ⟨rfl, rfl⟩ h
  have h := h.pickE (M := [rDirs ds, rCell true b [.pointer (some ⟨tb, 0, none⟩), .int .i64 (most : Int), .int .i64 0, .int .i64 0, .map (some dm), .map (some pm)] 46, rTab tb ps gs vl vg T Sl Sg, rNds l, rMap true dm hk (ds.map dnKV), rEnv B ad [10], rEnv B ad [4], rCell true k2 [.int .i64 0, .int .i64 0] 29, rCell true k1 [.int .i64 (i : Int), .int .i64 0] 29, rEnv B ad [9]]) [8, 0, 0, 0, 0, 0, 0, 0, 0, 0] (by kernel_rfl)
  have h := h.dirOpen hj
  have h : Own w0 E [rMap true d.mb sk (d.es.map enKV), rDirsO ds i, rCell true b [.pointer (some ⟨tb, 0, none⟩), .int .i64 (most : Int), .int .i64 0, .int .i64 0, .map (some dm), .map (some pm)] 46, rTab tb ps gs vl vg T Sl Sg, rNds l, rMap true dm hk (ds.map dnKV), rEnv B ad [10], rEnv B ad [4], rCell true k2 [.int .i64 0, .int .i64 0] 29, rCell true k1 [.int .i64 (i : Int), .int .i64 0] 29, rEnv B ad [9]] w := h
  refine sq_p (.tuple #[.map (some d.mb), .nilIface]) rfl (fun _ => by kernel_rfl) ?_
  refine sq_p (.map (some d.mb)) rfl (fun _ => by kernel_rfl) ?_
  refine sq_p (.nilIface) rfl (fun _ => by kernel_rfl) ?_
  refine sq_p (.map (some d.mb)) rfl (fun _ => by kernel_rfl) ?_
  refine sq_p (.nilIface) rfl (fun _ => by kernel_rfl) ?_
  refine lnil ?_
  refine thn_n ?_
  refine c_seq ?_
  refine c_reg ?_
  refine sq_p (.map (some d.mb)) rfl (fun _ => by kernel_rfl) ?_
  refine sq_p (.string s) rfl (fun _ => by kernel_rfl) ?_
  refine sq_q rfl h (g_eq (v' := .tuple #[.agg #[.int .i64 0, .int .i64 0], .bool false]) (g_look (K := 9) (E := 29) (z := (.agg #[.int .i64 0, .int .i64 0])) (kv := (d.es.map enKV)) (ok := true) (keyStr (by kernel_rfl)) s (by kernel_rfl) (fun _ => by kernel_rfl) 0 rfl) (by rw [en_none hx]; rfl)) ?_
  refine sq_p (.tuple #[.agg #[.int .i64 0, .int .i64 0], .bool false]) rfl (fun _ => by kernel_rfl) ?_
  refine sq_p (.agg #[.int .i64 0, .int .i64 0]) rfl (fun _ => by kernel_rfl) ?_
  refine sq_p (.bool false) rfl (fun _ => by kernel_rfl) ?_
  refine sq_new rfl (fun b => .pointer (some ⟨b, 0, none⟩)) [.int .i64 0, .int .i64 0] 29 (fun _ => by kernel_rfl) h ?_; intro k3 w h
  refine sq_st rfl 0 [.int .i64 0, .int .i64 0] [.int .i64 0, .int .i64 0] h 0 rfl (by kernel_rfl) ?_; intro w h
  refine sq_p (.bool false) rfl (fun _ => by kernel_rfl) ?_
  refine lnil ?_
  refine thn_n ?_
  refine c_seq ?_
  refine c_block ?_
  refine c_seq ?_
  refine c_reg ?_
  refine sq_p (.nilIface) rfl (fun _ => by kernel_rfl) ?_
  refine sq_p (.bool false) rfl (fun _ => by kernel_rfl) ?_
  refine sq_p (.bool false) rfl (fun _ => by kernel_rfl) ?_
  refine lnil ?_
  refine thn_n ?_
  refine c_false (by kernel_rfl) ?_
  refine c_seq ?_
  refine c_reg ?_
  refine sq_p (.int .i64 2) rfl (fun _ => by kernel_rfl) ?_
  refine sq_p (.bool true) rfl (fun _ => by kernel_rfl) ?_
  refine sq_p (.bool true) rfl (fun _ => by kernel_rfl) ?_
  refine sq_p (.int .i64 2) (by kernel_rfl) (fun _ => by kernel_rfl) ?_
  refine sq_p (.bool false) (by kernel_rfl) (fun _ => by kernel_rfl) ?_
  refine sq_p (.bool false) rfl (fun _ => by kernel_rfl) ?_
  refine sq_p (.bool false) rfl (fun _ => by kernel_rfl) ?_
  refine lnil ?_
  refine thn_n ?_
  refine c_false (by kernel_rfl) ?_
  refine c_seq ?_
  refine c_reg ?_
  refine sq_p (.bool false) rfl (fun _ => by kernel_rfl) ?_
  refine sq_p (.bool false) rfl (fun _ => by kernel_rfl) ?_
  refine lnil ?_
  refine thn_n ?_
  refine c_false (by kernel_rfl) ?_
  refine c_seq ?_
  refine c_reg ?_
  refine sq_p (.map (some d.mb)) rfl (fun _ => by kernel_rfl) ?_
  refine sq_q rfl h (g_lenm (K := 9) (E := 29) (by kernel_rfl) 1 rfl) ?_
  refine sq_p (.bool (decide (((d.es.map enKV).length : Int) ≥ 60))) rfl (fun _ => by kernel_rfl) ?_
  refine sq_p (.bool (decide (((d.es.map enKV).length : Int) ≥ 60))) rfl (fun _ => by kernel_rfl) ?_
  refine lnil ?_
  refine thn_n ?_
  refine c_cond (decide (((d.es.map enKV).length : Int) ≥ 60)) (by kernel_rfl) (fun hc4 => ?_) (fun hc4 => ?_)
  · skip
    have hc4 := of_decide_eq_true hc4
    exfalso; revert hc4; simp; omega
  · skip
    have hc4 := of_decide_eq_false hc4
    refine c_skip ?_
    refine blk_n (thn_n ?_)
    refine c_seq ?_
    refine c_reg ?_
    refine sq_p (.pointer (some ⟨b, 0, none⟩)) rfl (fun _ => by kernel_rfl) ?_
    refine sq_p (.pointer (some ⟨b, 0, none⟩)) rfl (fun _ => by kernel_rfl) ?_
    refine sq_p (.pointer (some ⟨b, 0, none⟩)) rfl (fun _ => by kernel_rfl) ?_
    refine sq_q rfl h (g_ld 0 [.pointer (some ⟨tb, 0, none⟩)] (.pointer (some ⟨tb, 0, none⟩)) (by kernel_rfl) 3 rfl) ?_
    refine sq_p (.int .i64 2) rfl (fun _ => by kernel_rfl) ?_
    refine sq_call #[.pointer (some ⟨tb, 0, none⟩), .int .i64 2] [4, 10] rfl (tabFull_spec ad tb 2 ps gs vl vg T Sl Sg (.inr rfl) hlen hf) (fun _ => by kernel_rfl) h ?_; rintro v_ L_ w ⟨rfl, rfl⟩ h
    refine sq_p (.tuple #[.agg #[.int .i64 0, .int .i64 0], errV ad 9]) rfl (fun _ => by kernel_rfl) ?_
    refine sq_p (.agg #[.int .i64 0, .int .i64 0]) rfl (fun _ => by kernel_rfl) ?_
    refine sq_p (errV ad 9) rfl (fun _ => by kernel_rfl) ?_
    refine sq_new rfl (fun b => .pointer (some ⟨b, 0, none⟩)) [.int .i64 0, .int .i64 0] 29 (fun _ => by kernel_rfl) h ?_; intro k5 w h
    refine sq_st rfl 0 [.int .i64 0, .int .i64 0] [.int .i64 0, .int .i64 0] h 0 rfl (by kernel_rfl) ?_; intro w h
    refine sq_p (errV ad 9) rfl (fun _ => by kernel_rfl) ?_
    refine lnil ?_
    refine thn_n ?_
    refine c_seq ?_
    refine c_seq ?_
    refine c_reg ?_
    refine sq_p (errV ad 9) rfl (fun _ => by kernel_rfl) ?_
    refine sq_p (.bool true) rfl (fun _ => by kernel_rfl) ?_
    refine lnil ?_
    refine thn_n ?_
    refine c_true (by kernel_rfl) ?_
    refine c_seq ?_
    refine c_reg ?_
    refine sq_p (.agg #[.int .i64 0, .int .i64 0]) rfl (fun _ => by kernel_rfl) ?_
    refine sq_p (errV ad 9) rfl (fun _ => by kernel_rfl) ?_
    refine sq_st rfl 0 [.int .i64 0, .int .i64 0] [.int .i64 0, .int .i64 0] h 11 rfl (by kernel_rfl) ?_; intro w h
    refine sq_p (errV ad 9) rfl (fun _ => by kernel_rfl) ?_
    refine lnil ?_
    refine thn_n ?_
    refine c_ret ?_
    refine thn_r ?_
    have h := h.pickE (M := [rMap true d.mb sk (d.es.map enKV), rDirsO ds i, rCell true k5 [.int .i64 0, .int .i64 0] 29, rTab tb ps gs vl vg T Sl Sg, rEnv B ad [9], rCell true k3 [.int .i64 0, .int .i64 0] 29, rCell true b [.pointer (some ⟨tb, 0, none⟩), .int .i64 (most : Int), .int .i64 0, .int .i64 0, .map (some dm), .map (some pm)] 46, rNds l, rMap true dm hk (ds.map dnKV), rEnv B ad [10], rEnv B ad [4], rCell true k2 [.int .i64 0, .int .i64 0] 29, rCell true k1 [.int .i64 (i : Int), .int .i64 0] 29]) [4, 4, 0, 0, 0, 0, 0, 0, 0, 0, 0, 0, 0] (by kernel_rfl)
    have h := h.dirBack (d := d) hj
    refine ret_end [.agg #[.int .i64 0, .int .i64 0], errV ad 9] [5, 2, 4, 4, 0, 3, 3, 1] h (by kernel_rfl) (res_c 0 [.int .i64 0, .int .i64 0] (.agg #[.int .i64 0, .int .i64 0]) 10 rfl (by kernel_rfl) (res_t (by kernel_rfl) res_n)) ?_
    exact ⟨rfl, rfl⟩

theorem free0_full : ∀ A : List ND, free0 (A.map fun N => some N.nb) = none
  | [] => rfl
  | N :: A => by simp only [List.map_cons, free0]; rw [free0_full A]; rfl
theorem free0_psF {m : Nat} {L : List ND} (h : L.length = m) : free0 (psO m L) = none := by
  unfold psO padO
  rw [List.length_map, h, Nat.sub_self, List.replicate_zero, List.append_nil, free0_full]
theorem Seg.grow {k : Nat} {L : List ND} {ds : List DN} {N : ND} {d : DN} (h : Seg 0 k L ds) (hN : L[k]? = some N) (hd : ds[k]? = some d) {nb mb : Nat} :
    Seg 0 (k + 1) ((L ++ [keepN (newND nb 2 none) 2 0 2 (k : Int) 0]).set k (touchN (linkN N 1))) (ds.set k { d with es := aput d.es ⟨#[100]⟩ (((k + 1 : Nat) : Int), 0) } ++ [(⟨(((k + 1 : Nat) : Int), 0), mb, []⟩ : DN)]) := by
  have hl := h.l1
  have hl2 := h.l2
  refine ⟨by simp; omega, by simp; omega, fun j hj => ?_, fun j hj => ?_⟩
  · by_cases c : j = k + 1
    · subst c
      refine ⟨_, by rw [List.getElem?_set_ne (by omega), List.getElem?_append_right (by omega), hl, Nat.sub_self]; rfl, rfl, rfl, ?_, ?_⟩
      · rw [if_neg (by omega)]; rfl
      · rw [if_neg (by omega)]; rfl
    · by_cases c2 : j = k
      · subst c2
        obtain ⟨N', a, b, c', d', e'⟩ := h.nd j (by omega)
        rw [hN] at a; cases a
        rw [if_neg (by omega)] at d' e'
        refine ⟨touchN (linkN N 1), by rw [List.getElem?_set_self (by simp; omega)], b, c', ?_, ?_⟩
        · rw [if_pos (by omega)]; show N.change + 1 = _; rw [d']; rfl
        · rw [if_pos (by omega)]; show N.links + 1 = _; rw [e']; rfl
      · obtain ⟨N', a, b, c', d', e'⟩ := h.nd j (by omega)
        rw [if_pos (by omega)] at d' e'
        exact ⟨N', by rw [List.getElem?_set_ne (by omega), List.getElem?_append_left (by omega)]; exact a, b, c', by rw [if_pos (by omega)]; exact d', by rw [if_pos (by omega)]; exact e'⟩
  · by_cases c : j = k + 1
    · subst c
      refine ⟨_, by rw [List.getElem?_append_right (by simp; omega), List.length_set, hl2, Nat.sub_self]; rfl, by rw [Nat.zero_add], ?_⟩
      rw [if_neg (by omega)]
    · by_cases c2 : j = k
      · subst c2
        obtain ⟨d', a, b, e'⟩ := h.dd j (by omega)
        rw [hd] at a; cases a
        rw [if_neg (by omega)] at e'
        refine ⟨{ d with es := aput d.es ⟨#[100]⟩ (((j + 1 : Nat) : Int), 0) }, by rw [List.getElem?_append_left (by simp; omega), List.getElem?_set_self (by omega)], b, ?_⟩
        rw [if_pos (by omega)]
        show aput d.es _ _ = _
        rw [e', Nat.zero_add]; rfl
      · obtain ⟨d', a, b, e'⟩ := h.dd j (by omega)
        rw [if_pos (by omega)] at e'
        exact ⟨d', by rw [List.getElem?_append_left (by simp; omega), List.getElem?_set_ne (by omega)]; exact a, b, by rw [if_pos (by omega)]; exact e'⟩
theorem crt_spec {B : Nat} (ad : Nat → Addr) (b m tb dm pm : Nat) (vl vg : Value) (T : TypeId) (Sl Sg : Nat → Prop) (hm3 : m ≤ 300) (k : Nat) (L : List ND) (ds : List DN) (h : Seg 0 k L ds) (hkq : k + 1 ≤ m) : Spec Tryz.prog 7 #[.pointer (some ⟨b, 0, none⟩), .agg #[.int .i64 (k : Int), .int .i64 0], .string ⟨#[100]⟩, .int .i64 2] [rCell true b [.pointer (some ⟨tb, 0, none⟩), .int .i64 (m : Int), .int .i64 0, .int .i64 0, .map (some dm), .map (some pm)] 46, rTab tb (psO m L) (gsO m L) vl vg T Sl Sg, rNds (lO m L), rMap true dm hk (ds.map dnKV), rDirs ds, rEnv B ad [10], rEnv B ad [4], rEnv B ad [9]] fun u X => (k + 1 < m ∧ ∃ L2 ds2, Seg 0 (k + 1) L2 ds2 ∧ u = .tuple #[.agg #[.int .i64 ((k + 1 : Nat) : Int), .int .i64 0], .nilIface] ∧ X = [rCell true b [.pointer (some ⟨tb, 0, none⟩), .int .i64 (m : Int), .int .i64 0, .int .i64 0, .map (some dm), .map (some pm)] 46, rTab tb (psO m L2) (gsO m L2) vl vg T Sl Sg, rNds (lO m L2), rMap true dm hk (ds2.map dnKV), rDirs ds2, rEnv B ad [10], rEnv B ad [4], rEnv B ad [9]]) ∨ (k + 1 = m ∧ u = .tuple #[.agg #[.int .i64 0, .int .i64 0], errV ad 9] ∧ X = [rCell true b [.pointer (some ⟨tb, 0, none⟩), .int .i64 (m : Int), .int .i64 0, .int .i64 0, .map (some dm), .map (some pm)] 46, rTab tb (psO m L) (gsO m L) vl vg T Sl Sg, rNds (lO m L), rMap true dm hk (ds.map dnKV), rDirs ds, rEnv B ad [10], rEnv B ad [4], rEnv B ad [9]]) := by
  obtain ⟨N, hN, h1, h2, h3, h4⟩ := h.nd k (by omega)
  obtain ⟨d, hd, h5, h6⟩ := h.dd k (by omega)
  have hl := h.l1
  have hl2 := h.l2
  rw [if_neg (by omega)] at h3 h4 h6
  rw [Nat.zero_add] at h5
  have hn := h.hds.nodup
  by_cases c : k + 1 < m
  · refine ((createDL_spec ad b m tb dm pm vl vg T Sl Sg L ds hm3 k N hN k d hd h5 hn ⟨#[100]⟩ (by decide) nm_d_ok (by omega) (by rw [h6]; rfl) (by rw [h6]; decide) (by rw [h3]; decide) (fun d hd => by rw [hl]; exact h.hds.new (by omega) d hd) (by rw [h4]; decide)).frame [rEnv B ad [9]]).mono ?_
    rintro u X ⟨L1, ⟨nb, mb2, rfl, rfl⟩, rfl⟩
    rw [hl]
    exact .inl ⟨c, _, _, h.grow hN hd, rfl, rfl⟩
  · have c2 : k + 1 = m := by omega
    exact (createT_spec ad b m tb dm pm (psO m L) (gsO m L) vl vg T Sl Sg (lO m L) ds [] (by rw [psO_len (by omega), gsO_len (by omega)]) gsO_rng k N (lO_get hN) (atOf_psO hN) d hd h5 hn ⟨#[100]⟩ (by decide) nm_d_ok (by rw [h6]; rfl) (by rw [h6]; decide) (by rw [psO_len (by omega)]; exact hm3) (free0_psF (by omega))).mono fun u X hx => .inr ⟨c2, hx⟩
/-- The same, weaker: what Remove needs. -/
structure Wk (k : Nat) (L : List ND) (ds : List DN) : Prop where
  l1 : L.length = k + 1
  l2 : ds.length = k + 1
  nd : ∀ j, j ≤ k → ∃ N, L[j]? = some N ∧ (0 ≤ N.change ∧ N.change ≤ (((if j < k then 1 else 1000 : Nat)) : Int)) ∧ ((((if j < k then 1 else 0 : Nat)) : Int) ≤ N.links ∧ N.links ≤ 1000)
  dd : ∀ j, j ≤ k → ∃ d, ds[j]? = some d ∧ d.h = ((j : Int), 0) ∧ d.es = if j < k then [(⟨#[100]⟩, (((j + 1 : Nat) : Int), 0))] else []
theorem Seg.wk {k : Nat} {L : List ND} {ds : List DN} (h : Seg 0 k L ds) : Wk k L ds :=
  ⟨h.l1, h.l2, fun j hj => by
    obtain ⟨N, a, b, c, d, e⟩ := h.nd j hj
    refine ⟨N, a, ?_, ?_⟩
    · rw [d]; split <;> omega
    · rw [e]; split <;> omega, fun j hj => by
    obtain ⟨d, a, b, c⟩ := h.dd j hj
    rw [Nat.zero_add] at b c
    exact ⟨d, a, b, c⟩⟩
theorem Wk.hds {k : Nat} {L : List ND} {ds : List DN} (h : Wk k L ds) : HdS ds := fun j d hj => by
  have hl := (List.getElem?_eq_some_iff.1 hj).1
  obtain ⟨d', h1, h2, _⟩ := h.dd j (by have := h.l2; omega)
  rw [hj] at h1
  cases h1
  exact h2
theorem adel_end : ∀ (A : List DN) (x : DN), (∀ d ∈ A, d.h ≠ x.h) → adel ((A ++ [x]).map dnKV) x.h = A.map dnKV
  | [], x, _ => by simp [adel, dnKV]
  | d :: A, x, h => by
    simp only [List.cons_append, List.map_cons, adel]
    rw [if_neg (fun e : x.h = (dnKV d).1 => h d (by simp) e.symm), adel_end A x fun d hd => h d (List.mem_cons_of_mem _ hd)]
theorem take_end {α : Type} {l : List α} {n : Nat} {x : α} (hl : l.length = n + 1) (hx : l[n]? = some x) : l.take n ++ [x] = l := by
  have h := List.take_add_one (l := l) (i := n)
  rw [hx, List.take_of_length_le (by omega)] at h
  exact h.symm
theorem atOf_psG {m k : Nat} {L G : List ND} {N : ND} (h : L[k]? = some N) (hG : k < G.length) : atOf (psO m L) (gsO m G) (k : Int) 0 = some N.nb := by
  have hl := (List.getElem?_eq_some_iff.1 h).1
  have h1 : (psO m L)[k]? = some (some N.nb) := by unfold psO; rw [padO_get (by simpa using hl), List.getElem?_map, h]; rfl
  have h2 : (gsO m G)[k]? = some 1 := by unfold gsO; rw [padO_get (by simpa using hG), List.getElem?_map, List.getElem?_eq_getElem hG]; rfl
  rw [atOf_in h1 h2]; rfl
theorem padO_cut {α : Type} {m n : Nat} {z x : α} {A : List α} (hA : A.length = n) (hm : n < m) : (padO m z (A ++ [x])).set n z = padO m z A := by
  subst hA
  unfold padO
  rw [List.append_assoc, List.set_append_right (h := Nat.le_refl _), Nat.sub_self]
  obtain ⟨c, hc⟩ : ∃ c, m - A.length = c + 1 := ⟨m - A.length - 1, by omega⟩
  have h2 : m - (A ++ [x]).length = c := by simp; omega
  rw [h2, hc, List.replicate_succ]; rfl
theorem psO_cut {m n : Nat} {L : List ND} (hl : L.length = n + 1) (hm : L.length ≤ m) : (psO m L).set n none = psO m (L.take n) := by
  obtain ⟨x, hx⟩ : ∃ x, L[n]? = some x := ⟨_, List.getElem?_eq_getElem (by omega)⟩
  have e := take_end hl hx
  have := padO_cut (m := m) (n := n) (z := (none : Option Nat)) (x := some x.nb) (A := (L.take n).map fun N => some N.nb) (by simp; omega) (by omega)
  unfold psO
  rw [← this]
  congr 2
  conv => lhs; rw [← e]
  rw [List.map_append]; rfl
theorem lO_cut {m n : Nat} {L : List ND} (hl : L.length = n + 1) (hm : L.length ≤ m) : (lO m L).set n none = lO m (L.take n) := by
  obtain ⟨x, hx⟩ : ∃ x, L[n]? = some x := ⟨_, List.getElem?_eq_getElem (by omega)⟩
  have e := take_end hl hx
  have := padO_cut (m := m) (n := n) (z := (none : Option ND)) (x := some x) (A := (L.take n).map some) (by simp; omega) (by omega)
  unfold lO
  rw [← this]
  congr 2
  conv => lhs; rw [← e]
  rw [List.map_append]; rfl
theorem Wk.cut {k : Nat} {L : List ND} {ds : List DN} {N : ND} {d : DN} (h : Wk (k + 1) L ds) (hN : L[k]? = some N) (hd : ds[k]? = some d) : Wk k ((L.take (k + 1)).set k (touchN (linkN N (-1)))) ((ds.set k { d with es := [] }).take (k + 1)) := by
  have hl := h.l1
  have hl2 := h.l2
  refine ⟨by simp; omega, by simp; omega, fun j hj => ?_, fun j hj => ?_⟩
  · obtain ⟨N', a, b, c⟩ := h.nd j (by omega)
    rw [if_pos (by omega)] at b c
    by_cases q : j = k
    · subst q
      rw [hN] at a; cases a
      refine ⟨touchN (linkN N (-1)), by rw [List.getElem?_set_self (by simp; omega)], ?_, ?_⟩
      · rw [if_neg (by omega)]
        show 0 ≤ N.change + 1 ∧ N.change + 1 ≤ _
        omega
      · rw [if_neg (by omega)]
        show _ ≤ N.links + -1 ∧ N.links + -1 ≤ 1000
        omega
    · refine ⟨N', by rw [List.getElem?_set_ne (by omega), List.getElem?_take, if_pos (by omega)]; exact a, ?_, ?_⟩
      · rw [if_pos (by omega)]; exact b
      · rw [if_pos (by omega)]; exact c
  · obtain ⟨d', a, b, c⟩ := h.dd j (by omega)
    rw [if_pos (by omega)] at c
    rw [List.getElem?_take, if_pos (by omega)]
    by_cases q : j = k
    · subst q
      rw [hd] at a; cases a
      exact ⟨{ d with es := [] }, by rw [List.getElem?_set_self (by omega)], b, by rw [if_neg (by omega)]⟩
    · exact ⟨d', by rw [List.getElem?_set_ne (by omega)]; exact a, b, by rw [if_pos (by omega)]; exact c⟩
theorem rmL_spec {B : Nat} (ad : Nat → Addr) (b m tb dm pm : Nat) (vl vg : Value) (T : TypeId) (Sl Sg : Nat → Prop) (hm3 : m ≤ 300) (k : Nat) (L G : List ND) (ds : List DN) (h : Wk (k + 1) L ds) (hG : L.length ≤ G.length) (hGm : G.length ≤ m) : Spec Tryz.prog 12 #[.pointer (some ⟨b, 0, none⟩), .agg #[.int .i64 (k : Int), .int .i64 0], .string ⟨#[100]⟩] [rCell true b [.pointer (some ⟨tb, 0, none⟩), .int .i64 (m : Int), .int .i64 0, .int .i64 0, .map (some dm), .map (some pm)] 46, rTab tb (psO m L) (gsO m G) vl vg T Sl Sg, rNds (lO m L), rMap true dm hk (ds.map dnKV), rDirs ds, rEnv B ad [10], rEnv B ad [4]] fun u X => ∃ L2 ds2, Wk k L2 ds2 ∧ u = .nilIface ∧ X = [rCell true b [.pointer (some ⟨tb, 0, none⟩), .int .i64 (m : Int), .int .i64 0, .int .i64 0, .map (some dm), .map (some pm)] 46, rTab tb (psO m L2) (gsO m G) vl vg T Sl Sg, rNds (lO m L2), rMap true dm hk (ds2.map dnKV), rDirs ds2, rEnv B ad [10], rEnv B ad [4]] := by
  obtain ⟨N, hN, h1, h2⟩ := h.nd k (by omega)
  obtain ⟨Nc, hNc, _, _⟩ := h.nd (k + 1) (by omega)
  obtain ⟨d, hd, h5, h6⟩ := h.dd k (by omega)
  obtain ⟨d2, hd2, h7, h8⟩ := h.dd (k + 1) (by omega)
  have hl := h.l1
  have hl2 := h.l2
  rw [if_pos (by omega)] at h1 h2 h6
  rw [if_neg (by omega)] at h8
  have hn := h.hds.nodup
  have hc := h.cut hN hd
  have hx : (ds.set k { d with es := [] })[k + 1]? = some d2 := by rw [List.getElem?_set_ne (by omega)]; exact hd2
  have he := take_end (n := k + 1) (by simp; omega) hx
  refine (rmK_spec ad b m tb dm pm (psO m L) (gsO m G) vl vg T Sl Sg (lO m L) ds [] (by rw [psO_len (by omega), gsO_len hGm]) gsO_rng k N (lO_get hN) (atOf_psG hN (by omega)) (by omega) (k + 1) Nc (lO_get hNc) (atOf_psG hNc (by omega)) (by omega) (by rw [psO_len (by omega)]; omega) d2 hd2 h7 hn ((ds.set k { d with es := [] }).take (k + 1)) d hd h5 h6 h8 (by omega) ?_ (List.take_sublist _ _)).mono ?_
  · have q := adel_end ((ds.set k { d with es := [] }).take (k + 1)) d2 (by rw [h7]; exact hc.hds.new (Nat.le_of_eq hc.l2))
    rw [he, h7] at q
    exact q
  · rintro u X ⟨rfl, rfl⟩
    refine ⟨_, _, hc, rfl, ?_⟩
    have hk1 : (L.take (k + 1))[k]? = some N := by rw [List.getElem?_take, if_pos (by omega)]; exact hN
    have e1 : psO m ((L.take (k + 1)).set k (touchN (linkN N (-1)))) = psO m (L.take (k + 1)) := psO_set (N := touchN (linkN N (-1))) hk1 rfl
    rw [psO_cut hl (by omega), lO_cut hl (by omega), List.set_set, lO_set _ (get_lt hk1), e1]
theorem nodesG_spec (b m tb dm pm : Nat) (vl vg : Value) (T : TypeId) (Sl Sg : Nat → Prop) (hm3 : m ≤ 300) (L G : List ND) (hm : L.length ≤ m) : Spec Tryz.prog 9 #[.pointer (some ⟨b, 0, none⟩)] [rCell true b [.pointer (some ⟨tb, 0, none⟩), .int .i64 (m : Int), .int .i64 0, .int .i64 0, .map (some dm), .map (some pm)] 46, rTab tb (psO m L) (gsO m G) vl vg T Sl Sg] fun u X => u = .int .i64 (L.length : Int) ∧ X = [rCell true b [.pointer (some ⟨tb, 0, none⟩), .int .i64 (m : Int), .int .i64 0, .int .i64 0, .map (some dm), .map (some pm)] 46, rTab tb (psO m L) (gsO m G) vl vg T Sl Sg] :=
  (nodes_spec b m tb dm pm (psO m L) (gsO m G) vl vg T Sl Sg (by rw [psO_len hm]; exact hm3)).mono fun u L' h => by rw [usedN_psO] at h; exact h


/- deep: contracts by what is owned (printed by walk.py). -/

def hnC (q : Nat) : List Value := [.int .i64 (q : Int), .int .i64 0]
theorem hnC_len (q : Nat) : (hnC q).length = 2 := rfl
theorem rng_at {n j x : Nat} (h : (List.range n)[j]? = some x) : x = j := by
  have hl := (List.getElem?_eq_some_iff.1 h).1
  rw [List.getElem?_eq_getElem hl, List.getElem_range] at h
  exact (Option.some.inj h).symm

theorem rooted_spec {B : Nat} (ad : Nat → Addr)  : Spec Tryz.prog 4 #[] [rEnvA B ad] (fun u L => u = .bool true ∧ L = [rEnvA B ad]) := by
  refine spec_of (#[undef, undef, undef, undef, undef, undef, undef, undef, undef, undef, undef, undef, undef, undef, undef, undef, undef, undef, undef, undef, undef, undef, undef, undef, undef, undef, undef, undef, undef, undef, undef, undef, undef]) Tryz.func4 rfl (by kernel_rfl) fun E w0 w h => ?_
  have h := h.envSub [10] 0 rfl (by decide)
  have h := h.envSub [4] 1 rfl (by decide)
  refine c_seq ?_
  refine c_reg ?_
  refine sq_p (.bool false) rfl (fun _ => by kernel_rfl) ?_
  refine lnil ?_
  refine thn_n ?_
  refine c_seq ?_
  refine c_reg ?_
  refine sq_call #[.int .i64 3] [1] rfl (treeNewL_spec ad 3 (by decide) (by decide)) (fun _ => by kernel_rfl) h ?_; rintro v_ L_ w ⟨b, tb, dm, pm, vl, vg, T, Sl, Sg, nb, mb, rfl, rfl⟩ h
  refine sq_p (.tuple #[.pointer (some ⟨b, 0, none⟩), .nilIface]) rfl (fun _ => by kernel_rfl) ?_
  refine sq_p (.pointer (some ⟨b, 0, none⟩)) rfl (fun _ => by kernel_rfl) ?_
  refine sq_p (.nilIface) rfl (fun _ => by kernel_rfl) ?_
  refine sq_p (.pointer (some ⟨b, 0, none⟩)) rfl (fun _ => by kernel_rfl) ?_
  refine sq_p (.nilIface) rfl (fun _ => by kernel_rfl) ?_
  refine lnil ?_
  refine thn_n ?_
  refine c_seq ?_
  refine c_seq ?_
  refine c_reg ?_
  refine sq_p (.nilIface) rfl (fun _ => by kernel_rfl) ?_
  refine sq_p (.bool false) rfl (fun _ => by kernel_rfl) ?_
  refine sq_p (.bool false) rfl (fun _ => by kernel_rfl) ?_
  refine sq_p (.pointer (some ⟨b, 0, none⟩)) (by kernel_rfl) (fun _ => by kernel_rfl) ?_
  refine sq_p (.bool false) (by kernel_rfl) (fun _ => by kernel_rfl) ?_
  refine sq_p (.bool false) rfl (fun _ => by kernel_rfl) ?_
  refine sq_p (.bool false) rfl (fun _ => by kernel_rfl) ?_
  refine sq_p (.pointer (some ⟨b, 0, none⟩)) (by kernel_rfl) (fun _ => by kernel_rfl) ?_
  refine sq_call #[.pointer (some ⟨b, 0, none⟩)] [0, 0] (by kernel_rfl) (nodesL_spec b 3 tb dm pm vl vg T Sl Sg [keepN (newND nb 2 none) 2 0 2 0 0] (by simp) (by decide)) (fun _ => by kernel_rfl) h ?_; rintro v_ L_ w ⟨rfl, rfl⟩ h
  refine sq_p (.bool false) (by kernel_rfl) (fun _ => by kernel_rfl) ?_
  refine sq_p (.bool false) rfl (fun _ => by kernel_rfl) ?_
  refine lnil ?_
  refine thn_n ?_
  refine c_false (by kernel_rfl) ?_
  refine c_skip ?_
  refine thn_n ?_
  refine c_seq ?_
  refine c_reg ?_
  refine sq_p (.pointer (some ⟨b, 0, none⟩)) rfl (fun _ => by kernel_rfl) ?_
  refine sq_p (.pointer (some ⟨b, 0, none⟩)) rfl (fun _ => by kernel_rfl) ?_
  refine sq_call #[.pointer (some ⟨b, 0, none⟩)] [0] rfl (root_spec b 3 tb dm pm) (fun _ => by kernel_rfl) h ?_; rintro v_ L_ w ⟨rfl, rfl⟩ h
  refine sq_call #[.pointer (some ⟨b, 0, none⟩), .agg #[.int .i64 0, .int .i64 0], .string (⟨#[97]⟩ : ByteArray), .int .i64 1] [0, 0, 0, 0, 0, 0, 0] rfl (createFL_spec ad b 3 tb dm pm vl vg T Sl Sg [keepN (newND nb 2 none) 2 0 2 0 0] [⟨(0, 0), mb, []⟩] (by decide) 0 (keepN (newND nb 2 none) 2 0 2 0 0) rfl 0 ⟨(0, 0), mb, []⟩ rfl rfl (by simp) ⟨#[97]⟩ (by decide) (by decide) (by show 1 < 3; decide) rfl (by show 0 < 60; decide) (by show (0 : Int) ≤ 0 ∧ (0 : Int) ≤ 1000000; decide)) (fun _ => by kernel_rfl) h ?_; rintro v_ L_ w ⟨nb2, db1, rfl, rfl⟩ h
  refine sq_p (.tuple #[.agg #[.int .i64 1, .int .i64 0], .nilIface]) rfl (fun _ => by kernel_rfl) ?_
  refine sq_p (.agg #[.int .i64 1, .int .i64 0]) rfl (fun _ => by kernel_rfl) ?_
  refine sq_p (.nilIface) rfl (fun _ => by kernel_rfl) ?_
  refine sq_new rfl (fun b => .pointer (some ⟨b, 0, none⟩)) [.int .i64 0, .int .i64 0] 29 (fun _ => by kernel_rfl) h ?_; intro k3 w h
  refine sq_st rfl 0 [.int .i64 1, .int .i64 0] [.int .i64 1, .int .i64 0] h 0 rfl (by kernel_rfl) ?_; intro w h
  refine sq_p (.nilIface) rfl (fun _ => by kernel_rfl) ?_
  refine lnil ?_
  refine thn_n ?_
  refine c_seq ?_
  refine c_reg ?_
  refine sq_p (.nilIface) rfl (fun _ => by kernel_rfl) ?_
  refine sq_p (.bool true) rfl (fun _ => by kernel_rfl) ?_
  refine sq_p (.bool true) rfl (fun _ => by kernel_rfl) ?_
  refine sq_q (by kernel_rfl) h (g_ld 0 [.int .i64 1, .int .i64 0] (.agg #[.int .i64 1, .int .i64 0]) (by kernel_rfl) 0 rfl) ?_
  refine sq_p (.agg #[.int .i64 1, .int .i64 0]) (by kernel_rfl) (fun _ => by kernel_rfl) ?_
  refine sq_q (by kernel_rfl) h (g_eq (v := .bool (((decide ((1 : Int) = 1)) && (decide ((0 : Int) = 0))))) (v' := .bool true) (g_eqH (n1 := 1) (g1 := 0) (n2 := 1) (g2 := 0) (by kernel_rfl)) (by rfl)) ?_
  refine sq_p (.bool true) rfl (fun _ => by kernel_rfl) ?_
  refine sq_p (.bool true) rfl (fun _ => by kernel_rfl) ?_
  refine lnil ?_
  refine thn_n ?_
  refine c_ret ?_
  refine ret_end [.bool true] [8] h (by kernel_rfl) (res_t (by kernel_rfl) res_n) ?_
  exact ⟨rfl, rfl⟩
theorem treeDeep_spec {B : Nat} (ad : Nat → Addr) (np : Int)  : Spec Tryz.prog 3 #[.int .i64 np] [rEnvA B ad, rPow] (fun u L => u = .bool true ∧ L = [rEnvA B ad]) := by
  refine spec_of (#[.int .i64 np, undef, undef, undef, undef, undef, undef, undef, undef, undef, undef, undef, undef, undef, undef, undef, undef, undef, undef, undef, undef, undef, undef, undef, undef, undef, undef, undef, undef, undef, undef, undef, undef, undef, undef, undef, undef, undef, undef, undef, undef, undef, undef, undef, undef, undef, undef, undef, undef, undef, undef, undef, undef, undef, undef, undef, undef, undef, undef, undef, undef, undef, undef, undef, undef, undef, undef, undef, undef, undef, undef, undef, undef, undef, undef, undef, undef, undef, undef, undef, undef, undef, undef, undef, undef, undef, undef, undef, undef, undef, undef, undef, undef, undef, undef, undef, undef, undef, undef, undef, undef, undef, undef, undef, undef, undef, undef, undef]) Tryz.func3 rfl (by kernel_rfl) fun E w0 w h => ?_
  have h := h.envSub [10] 0 rfl (by decide)
  have h := h.envSub [4] 1 rfl (by decide)
  have h := h.envSub [9] 2 rfl (by decide)
  refine c_seq ?_
  refine c_reg ?_
  refine sq_p (.bool false) rfl (fun _ => by kernel_rfl) ?_
  refine lnil ?_
  refine thn_n ?_
  refine c_seq ?_
  refine c_reg ?_
  refine sq_call #[] [3] rfl (rooted_spec ad) (fun _ => by kernel_rfl) h ?_; rintro v_ L_ w ⟨rfl, rfl⟩ h
  refine sq_p (.bool true) rfl (fun _ => by kernel_rfl) ?_
  refine lnil ?_
  refine thn_n ?_
  refine c_seq ?_
  refine c_seq ?_
  refine c_reg ?_
  refine sq_p (.bool true) rfl (fun _ => by kernel_rfl) ?_
  refine sq_p (.bool false) rfl (fun _ => by kernel_rfl) ?_
  refine sq_p (.bool false) rfl (fun _ => by kernel_rfl) ?_
  refine sq_p (.int .i64 np) (by kernel_rfl) (fun _ => by kernel_rfl) ?_
  obtain ⟨b1, hb1⟩ : ∃ b_ : Bool, b_ = (decide (np < 0)) := ⟨_, rfl⟩
  refine sq_q (v := .bool b1) (by kernel_rfl) h (by subst hb1; exact g_pure (v := .bool (decide (np < 0))) fun _ => by kernel_rfl) ?_
  refine sq_p (.bool b1) rfl (fun _ => by kernel_rfl) ?_
  refine sq_p (.bool b1) rfl (fun _ => by kernel_rfl) ?_
  refine sq_m0 (v := .int .i64 np) b1 (by cases b1 <;> kernel_rfl) h (fun hB => by subst hB; exact g_pure (v := .int .i64 np) fun _ => by kernel_rfl) ?_
  obtain ⟨b2, hb2⟩ : ∃ b_ : Bool, b_ = (decide (np > 310)) := ⟨_, rfl⟩
  refine sq_m0 (v := .bool b2) b1 (by cases b1 <;> kernel_rfl) h (fun hB => by subst hB; exact by subst hb2; exact g_pure (v := .bool (decide (np > 310))) fun _ => by kernel_rfl) ?_
  obtain ⟨b3, hb3⟩ : ∃ b_ : Bool, b_ = (b1 || b2) := ⟨_, rfl⟩
  refine sq_q (v := .bool b3) rfl h (by subst hb3; exact g_pure (v := .bool (b1 || b2)) fun _ => by cases b1 <;> kernel_rfl) ?_
  refine lnil ?_
  refine thn_n ?_
  refine c_cond (b3) (by kernel_rfl) (fun hc4 => ?_) (fun hc4 => ?_)
  · skip
    have q5 : (b1 || b2) = true := by rw [← hb3]; exact hc4
    have q6 : ((np < 0) ∨ (np > 310)) := by subst hb2; subst hb1; revert q5; first | (simp; done) | (simp; omega)
    refine c_seq ?_
    refine c_reg ?_
    refine sq_p (.bool true) rfl (fun _ => by kernel_rfl) ?_
    refine sq_p (.bool true) rfl (fun _ => by kernel_rfl) ?_
    refine lnil ?_
    refine thn_n ?_
    refine c_ret ?_
    refine thn_r ?_
    refine ret_end [.bool true] [0] h (by kernel_rfl) (res_t (by kernel_rfl) res_n) ?_
    exact ⟨rfl, rfl⟩
  · skip
    have q7 : (b1 || b2) = false := by rw [← hb3]; exact hc4
    have q8 : b1 = false := by revert q7; cases b1 <;> simp
    have q9 : b2 = false := by revert q7; cases b1 <;> cases b2 <;> simp
    have q10 : (decide (np < 0)) = false := by rw [← hb1]; exact q8
    have q10 := of_decide_eq_false q10
    have q11 : (decide (np > 310)) = false := by rw [← hb2]; exact q9
    have q11 := of_decide_eq_false q11
    refine c_skip ?_
    refine thn_n ?_
    refine c_seq ?_
    refine c_reg ?_
    refine sq_call #[.int .i64 300] [3] rfl (treeNewL_spec ad 300 (by decide) (by decide)) (fun _ => by kernel_rfl) h ?_; rintro v_ L_ w ⟨b, tb, dm, pm, vl, vg, T, Sl, Sg, nb, mb, rfl, rfl⟩ h
    refine sq_p (.tuple #[.pointer (some ⟨b, 0, none⟩), .nilIface]) rfl (fun _ => by kernel_rfl) ?_
    refine sq_p (.pointer (some ⟨b, 0, none⟩)) rfl (fun _ => by kernel_rfl) ?_
    refine sq_p (.nilIface) rfl (fun _ => by kernel_rfl) ?_
    refine sq_p (.pointer (some ⟨b, 0, none⟩)) rfl (fun _ => by kernel_rfl) ?_
    refine sq_p (.nilIface) rfl (fun _ => by kernel_rfl) ?_
    refine lnil ?_
    refine thn_n ?_
    refine c_seq ?_
    refine c_seq ?_
    refine c_reg ?_
    refine sq_p (.nilIface) rfl (fun _ => by kernel_rfl) ?_
    refine sq_p (.bool false) rfl (fun _ => by kernel_rfl) ?_
    refine sq_p (.bool false) rfl (fun _ => by kernel_rfl) ?_
    refine sq_p (.pointer (some ⟨b, 0, none⟩)) (by kernel_rfl) (fun _ => by kernel_rfl) ?_
    refine sq_p (.bool false) (by kernel_rfl) (fun _ => by kernel_rfl) ?_
    refine sq_p (.bool false) rfl (fun _ => by kernel_rfl) ?_
    refine lnil ?_
    refine thn_n ?_
    refine c_false (by kernel_rfl) ?_
    refine c_skip ?_
    refine thn_n ?_
    refine c_seq ?_
    refine c_reg ?_
    refine sq_p (.pointer (some ⟨b, 0, none⟩)) rfl (fun _ => by kernel_rfl) ?_
    refine sq_call #[.pointer (some ⟨b, 0, none⟩)] [0] rfl (root_spec b 300 tb dm pm) (fun _ => by kernel_rfl) h ?_; rintro v_ L_ w ⟨rfl, rfl⟩ h
    refine sq_new rfl (fun b => .pointer (some ⟨b, 0, none⟩)) [.int .i64 0, .int .i64 0] 29 (fun _ => by kernel_rfl) h ?_; intro k12 w h
    refine sq_st rfl 0 [.int .i64 0, .int .i64 0] [.int .i64 0, .int .i64 0] h 0 rfl (by kernel_rfl) ?_; intro w h
    refine lnil ?_
    refine thn_n ?_
    refine c_seq ?_
    refine c_reg ?_
    refine sq_p (.slice none 0 0) rfl (fun _ => by kernel_rfl) ?_
    refine lnil ?_
    refine thn_n ?_
    refine c_seq ?_
    refine c_seq ?_
    refine c_reg ?_
    refine sq_p (.int .i64 0) rfl (fun _ => by kernel_rfl) ?_
    refine lnil ?_
    refine thn_n ?_
    refine c_block ?_
    have h := h.nilRows 29 2 hnC
    refine c_loop (X := Nat × List ND × List DN × Value × (Nat → Value)) (fun ⟨i0, LA, dA, wv, J0⟩ => ⟨#[.int .i64 np, undef, J0 2, .bool true, .pointer (some ⟨b, 0, none⟩), .nilIface, .pointer (some ⟨k12, 0, none⟩), wv, .int .i64 ((i0 : Nat) : Int), J0 9, J0 10, undef, undef, .bool true, .bool true, .bool false, .bool false, .int .i64 np, .bool b1, .bool b1, .bool b1, (if b1 = false then .int .i64 np else undef), (if b1 = false then .bool b2 else undef), .bool b3, undef, .tuple #[.pointer (some ⟨b, 0, none⟩), .nilIface], .tuple #[.pointer (some ⟨b, 0, none⟩), .nilIface], .pointer (some ⟨b, 0, none⟩), .nilIface, .nilIface, .bool false, .bool false, .pointer (some ⟨b, 0, none⟩), .bool false, .bool false, .pointer (some ⟨b, 0, none⟩), .agg #[.int .i64 0, .int .i64 0], J0 37, J0 38, J0 39, J0 40, J0 41, J0 42, J0 43, J0 44, J0 45, J0 46, J0 47, J0 48, J0 49, J0 50, J0 51, J0 52, J0 53, J0 54, J0 55, J0 56, J0 57, J0 58, J0 59, J0 60, J0 61, J0 62, J0 63, J0 64, J0 65, J0 66, J0 67, J0 68, J0 69, J0 70, J0 71, undef, undef, undef, undef, undef, undef, undef, undef, undef, undef, undef, undef, undef, undef, undef, undef, undef, undef, undef, undef, undef, undef, undef, undef, undef, undef, undef, undef, undef, undef, undef, undef, undef, undef, undef, undef], []⟩)
      (fun ⟨i0, LA, dA, wv, J0⟩ => [rRows true wv 29 2 hnC (List.range i0), rCell true k12 [.int .i64 ((i0 : Nat) : Int), .int .i64 0] 29, rCell true b [.pointer (some ⟨tb, 0, none⟩), .int .i64 (300 : Int), .int .i64 0, .int .i64 0, .map (some dm), .map (some pm)] 46, rTab tb (psO 300 LA) (gsO 300 LA) vl vg T Sl Sg, rNds (lO 300 LA), rMap true dm hk (dA.map dnKV), rDirs dA, rEnv B ad [10], rEnvA B ad, rEnv B ad [9], rEnv B ad [4], rPow]) (fun ⟨i0, LA, dA, wv, J0⟩ => (i0 : Int) ≤ np ∧ i0 < 300 ∧ Seg 0 i0 LA dA) (fun ⟨i0, LA, dA, wv, J0⟩ => np.toNat - i0)
      ⟨0, [keepN (newND nb 2 none) 2 0 2 0 0], [(⟨(0, 0), mb, []⟩ : DN)], (.slice none 0 0), (fun n => (#[.int .i64 np, undef, .bool false, .bool true, .pointer (some ⟨b, 0, none⟩), .nilIface, .pointer (some ⟨k12, 0, none⟩), .slice none 0 0, .int .i64 0, undef, undef, undef, undef, .bool true, .bool true, .bool false, .bool false, .int .i64 np, .bool b1, .bool b1, .bool b1, (if b1 = false then .int .i64 np else undef), (if b1 = false then .bool b2 else undef), .bool b3, undef, .tuple #[.pointer (some ⟨b, 0, none⟩), .nilIface], .tuple #[.pointer (some ⟨b, 0, none⟩), .nilIface], .pointer (some ⟨b, 0, none⟩), .nilIface, .nilIface, .bool false, .bool false, .pointer (some ⟨b, 0, none⟩), .bool false, .bool false, .pointer (some ⟨b, 0, none⟩), .agg #[.int .i64 0, .int .i64 0], undef, undef, undef, undef, undef, undef, undef, undef, undef, undef, undef, undef, undef, undef, undef, undef, undef, undef, undef, undef, undef, undef, undef, undef, undef, undef, undef, undef, undef, undef, undef, undef, undef, undef, undef, undef, undef, undef, undef, undef, undef, undef, undef, undef, undef, undef, undef, undef, undef, undef, undef, undef, undef, undef, undef, undef, undef, undef, undef, undef, undef, undef, undef, undef, undef, undef, undef, undef, undef, undef, undef] : Array Value).getD n undef)⟩ ⟨by omega, by decide, Seg.one rfl rfl rfl rfl rfl rfl⟩ (by kernel_rfl) [0, 0, 0, 0, 0, 0, 0, 0, 0, 0, 0, 0] (by kernel_rfl) h ?_
    rintro ⟨i0, LA, dA, wv, J0⟩ w hG h
    obtain ⟨hi0, hi3, hsg⟩ : (i0 : Int) ≤ np ∧ i0 < 300 ∧ Seg 0 i0 LA dA := hG
    have hlA := hsg.l1
    have hlr : (List.range i0).length = i0 := List.length_range
    refine c_seq ?_
    refine c_seq ?_
    refine c_reg ?_
    refine sq_p (.int .i64 ((i0 : Nat) : Int)) rfl (fun _ => by kernel_rfl) ?_
    refine sq_p (.int .i64 np) rfl (fun _ => by kernel_rfl) ?_
    refine sq_p (.bool (decide (((i0 : Nat) : Int) < np))) rfl (fun _ => by kernel_rfl) ?_
    refine lnil ?_
    refine thn_n ?_
    refine c_cond (decide (((i0 : Nat) : Int) < np)) (by kernel_rfl) (fun hc13 => ?_) (fun hc13 => ?_)
    · skip
      have hc13 := of_decide_eq_true hc13
      refine c_skip ?_
      refine thn_n ?_
      refine c_seq ?_
      refine c_block ?_
      refine c_seq ?_
      refine c_reg ?_
      refine sq_p (wv) rfl (fun _ => by kernel_rfl) ?_
      refine sq_q rfl h (g_ld 0 [.int .i64 ((i0 : Nat) : Int), .int .i64 0] (.agg #[.int .i64 ((i0 : Nat) : Int), .int .i64 0]) (by kernel_rfl) 1 rfl) ?_
      refine sq_new rfl (fun b => .slice (some ⟨b, 0, none⟩) 1 1) [.int .i64 ((i0 : Nat) : Int), .int .i64 0] 29 (fun _ => by kernel_rfl) h ?_; intro k14 w h
      refine sq_app (b := k14) (o := 0) rfl 1 i0 (by kernel_rfl) h 1 rfl 0 rfl (rdCell 0 (by kernel_rfl)) (by omega) ?_; intro v15 w h
      refine sq_p (v15) rfl (fun _ => by kernel_rfl) ?_
      refine lnil ?_
      refine thn_n ?_
      refine c_seq ?_
      refine c_reg ?_
      refine sq_p (.pointer (some ⟨b, 0, none⟩)) rfl (fun _ => by kernel_rfl) ?_
      refine sq_q rfl h (g_ld 0 [.int .i64 ((i0 : Nat) : Int), .int .i64 0] (.agg #[.int .i64 ((i0 : Nat) : Int), .int .i64 0]) (by kernel_rfl) 2 rfl) ?_
      refine sq_call #[.pointer (some ⟨b, 0, none⟩), .agg #[.int .i64 ((i0 : Nat) : Int), .int .i64 0], .string (⟨#[100]⟩ : ByteArray), .int .i64 2] [3, 3, 3, 3, 3, 3, 5, 4] rfl (crt_spec ad b 300 tb dm pm vl vg T Sl Sg (by decide) i0 LA dA hsg (by omega)) (fun _ => by kernel_rfl) h ?_; rintro v_ L_ w (⟨hq16, L17, ds18, hsg19, rfl, rfl⟩ | ⟨hq16, rfl, rfl⟩) h
      · skip
        have hl_hsg19 := hsg19.l1
        refine sq_p (.tuple #[.agg #[.int .i64 ((i0 + 1 : Nat) : Int), .int .i64 0], .nilIface]) rfl (fun _ => by kernel_rfl) ?_
        refine sq_p (.agg #[.int .i64 ((i0 + 1 : Nat) : Int), .int .i64 0]) rfl (fun _ => by kernel_rfl) ?_
        refine sq_p (.nilIface) rfl (fun _ => by kernel_rfl) ?_
        refine sq_new rfl (fun b => .pointer (some ⟨b, 0, none⟩)) [.int .i64 0, .int .i64 0] 29 (fun _ => by kernel_rfl) h ?_; intro k20 w h
        refine sq_st rfl 0 [.int .i64 ((i0 + 1 : Nat) : Int), .int .i64 0] [.int .i64 ((i0 + 1 : Nat) : Int), .int .i64 0] h 0 rfl (by kernel_rfl) ?_; intro w h
        refine sq_p (.nilIface) rfl (fun _ => by kernel_rfl) ?_
        refine lnil ?_
        refine thn_n ?_
        refine c_seq ?_
        refine c_seq ?_
        refine c_reg ?_
        refine sq_p (.int .i64 ((i0 : Nat) : Int)) rfl (fun _ => by kernel_rfl) ?_
        refine sq_q rfl h (g_eq (v := .int .i64 (IntKind.i64.wrap (((i0 : Nat) : Int) + 1))) (v' := .int .i64 ((i0 + 1 : Nat) : Int)) (g_pure fun _ => by kernel_rfl) (wr (by omega))) ?_
        refine sq_p (.bool (decide (((i0 + 1 : Nat) : Int) ≥ 300))) rfl (fun _ => by kernel_rfl) ?_
        refine lnil ?_
        refine thn_n ?_
        refine c_cond (decide (((i0 + 1 : Nat) : Int) ≥ 300)) (by kernel_rfl) (fun hc21 => ?_) (fun hc21 => ?_)
        · skip
          have hc21 := of_decide_eq_true hc21
          exfalso; revert hc21; first | (simp; done) | (simp; omega)
        · skip
          have hc21 := of_decide_eq_false hc21
          refine c_skip ?_
          refine thn_n ?_
          refine c_seq ?_
          refine c_seq ?_
          refine c_reg ?_
          refine sq_p (.nilIface) rfl (fun _ => by kernel_rfl) ?_
          refine sq_p (.bool false) rfl (fun _ => by kernel_rfl) ?_
          refine sq_p (.bool false) rfl (fun _ => by kernel_rfl) ?_
          refine sq_p (.pointer (some ⟨b, 0, none⟩)) (by kernel_rfl) (fun _ => by kernel_rfl) ?_
          refine sq_call #[.pointer (some ⟨b, 0, none⟩)] [1, 1] (by kernel_rfl) (nodesL_spec b 300 tb dm pm vl vg T Sl Sg L17 (by omega) (by decide)) (fun _ => by kernel_rfl) h ?_; rintro v_ L_ w ⟨rfl, rfl⟩ h
          refine sq_p (.int .i64 ((i0 : Nat) : Int)) (by kernel_rfl) (fun _ => by kernel_rfl) ?_
          refine sq_q (by kernel_rfl) h (g_eq (v := .int .i64 (IntKind.i64.wrap (((i0 : Nat) : Int) + 2))) (v' := .int .i64 ((i0 + 2 : Nat) : Int)) (g_pure fun _ => by kernel_rfl) (wr (by omega))) ?_
          obtain ⟨b22, hb22⟩ : ∃ b_ : Bool, b_ = (!(decide ((L17.length : Int) = ((i0 + 2 : Nat) : Int)))) := ⟨_, rfl⟩
          refine sq_q (v := .bool b22) (by kernel_rfl) h (by subst hb22; exact g_pure (v := .bool (!(decide ((L17.length : Int) = ((i0 + 2 : Nat) : Int))))) fun _ => by kernel_rfl) ?_
          refine sq_p (.bool b22) rfl (fun _ => by kernel_rfl) ?_
          refine lnil ?_
          refine thn_n ?_
          refine c_cond (b22) (by kernel_rfl) (fun hc23 => ?_) (fun hc23 => ?_)
          · skip
            have q24 : (!(decide ((L17.length : Int) = ((i0 + 2 : Nat) : Int)))) = true := by rw [← hb22]; exact hc23
            have q25 : (decide ((L17.length : Int) = ((i0 + 2 : Nat) : Int))) = false := by simpa using q24
            have q25 := of_decide_eq_false q25
            exfalso; revert hc23; subst hb22; first | (simp; done) | (simp; omega)
          · skip
            have q26 : (!(decide ((L17.length : Int) = ((i0 + 2 : Nat) : Int)))) = false := by rw [← hb22]; exact hc23
            have q27 : (decide ((L17.length : Int) = ((i0 + 2 : Nat) : Int))) = true := by simpa using q26
            have q27 := of_decide_eq_true q27
            refine c_skip ?_
            refine thn_n ?_
            refine c_reg ?_
            refine sq_q rfl h (g_ld 0 [.int .i64 ((i0 + 1 : Nat) : Int), .int .i64 0] (.agg #[.int .i64 ((i0 + 1 : Nat) : Int), .int .i64 0]) (by kernel_rfl) 2 rfl) ?_
            refine sq_st rfl 0 [.int .i64 ((i0 + 1 : Nat) : Int), .int .i64 0] [.int .i64 ((i0 + 1 : Nat) : Int), .int .i64 0] h 11 rfl (by kernel_rfl) ?_; intro w h
            refine lnil ?_
            refine blk_n (thn_n ?_)
            refine c_reg ?_
            refine sq_p (.int .i64 ((i0 : Nat) : Int)) rfl (fun _ => by kernel_rfl) ?_
            refine sq_q rfl h (g_eq (v := .int .i64 (IntKind.i64.wrap (((i0 : Nat) : Int) + 1))) (v' := .int .i64 ((i0 + 1 : Nat) : Int)) (g_pure fun _ => by kernel_rfl) (wr (by omega))) ?_
            refine sq_p (.int .i64 ((i0 + 1 : Nat) : Int)) rfl (fun _ => by kernel_rfl) ?_
            refine lnil ?_
            rw [show List.range i0 ++ [i0] = List.range (i0 + 1) from List.range_succ.symm] at h
            have hQ28 : (((i0 + 1) : Int) ≤ np ∧ (i0 + 1) < 300 ∧ Seg 0 (i0 + 1) L17 ds18) ∧ (np.toNat - (i0 + 1)) < (np.toNat - i0) := ⟨⟨by omega, by omega, hsg19⟩, by omega⟩
            refine loop_end (fun j => ⟨(i0 + 1), L17, ds18, v15, j⟩) hQ28 (by kernel_rfl) [10, 10, 0, 0, 1, 1, 1, 1, 4, 2, 1, 2] (by kernel_rfl) h
      · skip
        refine sq_p (.tuple #[.agg #[.int .i64 0, .int .i64 0], errV ad 9]) rfl (fun _ => by kernel_rfl) ?_
        refine sq_p (.agg #[.int .i64 0, .int .i64 0]) rfl (fun _ => by kernel_rfl) ?_
        refine sq_p (errV ad 9) rfl (fun _ => by kernel_rfl) ?_
        refine sq_new rfl (fun b => .pointer (some ⟨b, 0, none⟩)) [.int .i64 0, .int .i64 0] 29 (fun _ => by kernel_rfl) h ?_; intro k29 w h
        refine sq_st rfl 0 [.int .i64 0, .int .i64 0] [.int .i64 0, .int .i64 0] h 0 rfl (by kernel_rfl) ?_; intro w h
        refine sq_p (errV ad 9) rfl (fun _ => by kernel_rfl) ?_
        refine lnil ?_
        refine thn_n ?_
        refine c_seq ?_
        refine c_seq ?_
        refine c_reg ?_
        refine sq_p (.int .i64 ((i0 : Nat) : Int)) rfl (fun _ => by kernel_rfl) ?_
        refine sq_q rfl h (g_eq (v := .int .i64 (IntKind.i64.wrap (((i0 : Nat) : Int) + 1))) (v' := .int .i64 ((i0 + 1 : Nat) : Int)) (g_pure fun _ => by kernel_rfl) (wr (by omega))) ?_
        refine sq_p (.bool (decide (((i0 + 1 : Nat) : Int) ≥ 300))) rfl (fun _ => by kernel_rfl) ?_
        refine lnil ?_
        refine thn_n ?_
        refine c_cond (decide (((i0 + 1 : Nat) : Int) ≥ 300)) (by kernel_rfl) (fun hc30 => ?_) (fun hc30 => ?_)
        · skip
          have hc30 := of_decide_eq_true hc30
          refine c_seq ?_
          refine c_reg ?_
          refine sq_p (errV ad 9) rfl (fun _ => by kernel_rfl) ?_
          refine sq_call #[errV ad 9, .int .i64 9] [12] rfl (coded1_spec ad 9 9 (by decide) (by decide)) (fun _ => by kernel_rfl) h ?_; rintro v_ L_ w ⟨rfl, rfl⟩ h
          refine sq_p (.bool true) rfl (fun _ => by kernel_rfl) ?_
          refine sq_p (.pointer (some ⟨b, 0, none⟩)) (by kernel_rfl) (fun _ => by kernel_rfl) ?_
          refine sq_call #[.pointer (some ⟨b, 0, none⟩)] [2, 2] (by kernel_rfl) (nodesL_spec b 300 tb dm pm vl vg T Sl Sg LA (by omega) (by decide)) (fun _ => by kernel_rfl) h ?_; rintro v_ L_ w ⟨rfl, rfl⟩ h
          obtain ⟨b31, hb31⟩ : ∃ b_ : Bool, b_ = (decide ((LA.length : Int) = 300)) := ⟨_, rfl⟩
          refine sq_q (v := .bool b31) (by kernel_rfl) h (by subst hb31; exact g_pure (v := .bool (decide ((LA.length : Int) = 300))) fun _ => by kernel_rfl) ?_
          refine sq_p (.bool b31) rfl (fun _ => by kernel_rfl) ?_
          refine sq_p (.bool b31) rfl (fun _ => by kernel_rfl) ?_
          refine lnil ?_
          refine thn_n ?_
          refine c_ret ?_
          refine thn_r (blk_r (thn_r (rnd_r (blk_r (thn_r ?_)))))
          refine ret_end [.bool b31] [2] h (by kernel_rfl) (res_t (by kernel_rfl) res_n) ?_
          refine ⟨?_, rfl⟩
          show Value.bool _ = _
          congr 1
          subst hb31; first | (simp; done) | (simp; omega)
        · skip
          have hc30 := of_decide_eq_false hc30
          exfalso; revert hc30; first | (simp; done) | (simp; omega)
    · skip
      have hc13 := of_decide_eq_false hc13
      refine c_exit ?_
      refine thn_e (rnd_e (blk_e (thn_n ?_)))
      refine c_seq ?_
      refine c_reg ?_
      refine sq_p (.pointer (some ⟨b, 0, none⟩)) rfl (fun _ => by kernel_rfl) ?_
      refine sq_call #[.pointer (some ⟨b, 0, none⟩)] [2, 2, 2, 2, 2, 2, 5] rfl (snap_spec ad b 300 tb dm pm vl vg T Sl Sg (by decide) LA dA i0 hsg (by omega) hsg.hds.nodup) (fun _ => by kernel_rfl) h ?_; rintro v_ L_ w ⟨rfl, rfl⟩ h
      refine sq_call #[.string (ofT (deepT i0 0 [])), .int .i64 300] [5, 10, 5] rfl (load_spec ad 300 i0 (by decide) (by decide) (by omega)) (fun _ => by kernel_rfl) h ?_; rintro v_ L_ w ⟨bz, tbz, dmz, pmz, vlz, vgz, Tz, Slz, Sgz, Lz, hlz, rfl, rfl⟩ h
      refine sq_p (.tuple #[.pointer (some ⟨bz, 0, none⟩), .nilIface]) rfl (fun _ => by kernel_rfl) ?_
      refine sq_p (.pointer (some ⟨bz, 0, none⟩)) rfl (fun _ => by kernel_rfl) ?_
      refine sq_p (.nilIface) rfl (fun _ => by kernel_rfl) ?_
      refine sq_p (.pointer (some ⟨bz, 0, none⟩)) rfl (fun _ => by kernel_rfl) ?_
      refine sq_p (.nilIface) rfl (fun _ => by kernel_rfl) ?_
      refine lnil ?_
      refine thn_n ?_
      refine c_seq ?_
      refine c_seq ?_
      refine c_reg ?_
      refine sq_p (.nilIface) rfl (fun _ => by kernel_rfl) ?_
      refine sq_p (.bool false) rfl (fun _ => by kernel_rfl) ?_
      refine sq_p (.bool false) rfl (fun _ => by kernel_rfl) ?_
      refine sq_p (.pointer (some ⟨bz, 0, none⟩)) (by kernel_rfl) (fun _ => by kernel_rfl) ?_
      refine sq_p (.bool false) (by kernel_rfl) (fun _ => by kernel_rfl) ?_
      refine sq_p (.bool false) rfl (fun _ => by kernel_rfl) ?_
      refine sq_p (.bool false) rfl (fun _ => by kernel_rfl) ?_
      refine sq_p (.pointer (some ⟨bz, 0, none⟩)) (by kernel_rfl) (fun _ => by kernel_rfl) ?_
      refine sq_call #[.pointer (some ⟨bz, 0, none⟩)] [0, 0] (by kernel_rfl) (nodesL_spec bz 300 tbz dmz pmz vlz vgz Tz Slz Sgz Lz (by omega) (by decide)) (fun _ => by kernel_rfl) h ?_; rintro v_ L_ w ⟨rfl, rfl⟩ h
      refine sq_p (.int .i64 np) (by kernel_rfl) (fun _ => by kernel_rfl) ?_
      refine sq_q (by kernel_rfl) h (g_eq (v := .int .i64 (IntKind.i64.wrap (np + 1))) (v' := .int .i64 (np + 1)) (g_pure fun _ => by kernel_rfl) (wr (by omega))) ?_
      obtain ⟨b32, hb32⟩ : ∃ b_ : Bool, b_ = (!(decide ((Lz.length : Int) = np + 1))) := ⟨_, rfl⟩
      refine sq_q (v := .bool b32) (by kernel_rfl) h (by subst hb32; exact g_pure (v := .bool (!(decide ((Lz.length : Int) = np + 1)))) fun _ => by kernel_rfl) ?_
      refine sq_p (.bool b32) rfl (fun _ => by kernel_rfl) ?_
      refine lnil ?_
      refine thn_n ?_
      refine c_cond (b32) (by kernel_rfl) (fun hc33 => ?_) (fun hc33 => ?_)
      · skip
        have q34 : (!(decide ((Lz.length : Int) = np + 1))) = true := by rw [← hb32]; exact hc33
        have q35 : (decide ((Lz.length : Int) = np + 1)) = false := by simpa using q34
        have q35 := of_decide_eq_false q35
        exfalso; revert hc33; subst hb32; first | (simp; done) | (simp; omega)
      · skip
        have q36 : (!(decide ((Lz.length : Int) = np + 1))) = false := by rw [← hb32]; exact hc33
        have q37 : (decide ((Lz.length : Int) = np + 1)) = true := by simpa using q36
        have q37 := of_decide_eq_true q37
        refine c_skip ?_
        refine thn_n ?_
        refine c_seq ?_
        refine c_seq ?_
        refine c_reg ?_
        refine sq_p (wv) rfl (fun _ => by kernel_rfl) ?_
        refine sq_q rfl h (g_len (by kernel_rfl) 10 rfl) ?_
        refine sq_q rfl h (g_eq (v := .int .i64 (IntKind.i64.wrap (((List.range i0).length : Int) - 1))) (v' := .int .i64 (((List.range i0).length : Int) - 1)) (g_pure fun _ => by kernel_rfl) (wr (by omega))) ?_
        refine sq_p (.int .i64 (((List.range i0).length : Int) - 1)) rfl (fun _ => by kernel_rfl) ?_
        refine lnil ?_
        refine thn_n ?_
        refine c_block ?_
        refine c_loop (X := Nat × List ND × List DN × Int × (Nat → Value)) (fun ⟨k9, L9, d9, z9, J1⟩ => ⟨#[.int .i64 np, undef, J1 2, .bool true, .pointer (some ⟨b, 0, none⟩), .nilIface, .pointer (some ⟨k12, 0, none⟩), wv, .int .i64 ((i0 : Nat) : Int), J0 9, J0 10, .pointer (some ⟨bz, 0, none⟩), .int .i64 z9, .bool true, .bool true, .bool false, .bool false, .int .i64 np, .bool b1, .bool b1, .bool b1, (if b1 = false then .int .i64 np else undef), (if b1 = false then .bool b2 else undef), .bool b3, undef, .tuple #[.pointer (some ⟨b, 0, none⟩), .nilIface], .tuple #[.pointer (some ⟨b, 0, none⟩), .nilIface], .pointer (some ⟨b, 0, none⟩), .nilIface, .nilIface, .bool false, .bool false, .pointer (some ⟨b, 0, none⟩), .bool false, .bool false, .pointer (some ⟨b, 0, none⟩), .agg #[.int .i64 0, .int .i64 0], .int .i64 ((i0 : Nat) : Int), .int .i64 np, .bool (decide (((i0 : Nat) : Int) < np)), J0 40, J0 41, J0 42, J0 43, J0 44, J0 45, J0 46, J0 47, J0 48, J0 49, J0 50, J0 51, J0 52, J0 53, J0 54, J0 55, J0 56, J0 57, J0 58, J0 59, J0 60, J0 61, J0 62, J0 63, J0 64, J0 65, J0 66, J0 67, J0 68, J0 69, J0 70, J0 71, .tuple #[.pointer (some ⟨bz, 0, none⟩), .nilIface], .pointer (some ⟨b, 0, none⟩), .string (ofT (deepT i0 0 [])), .tuple #[.pointer (some ⟨bz, 0, none⟩), .nilIface], .pointer (some ⟨bz, 0, none⟩), .nilIface, .nilIface, .bool false, .bool false, .pointer (some ⟨bz, 0, none⟩), .bool false, .bool false, .bool false, .pointer (some ⟨bz, 0, none⟩), .int .i64 (Lz.length : Int), .int .i64 np, .int .i64 (np + 1), .bool b32, .bool b32, wv, .int .i64 ((List.range i0).length : Int), .int .i64 (((List.range i0).length : Int) - 1), J1 94, J1 95, J1 96, J1 97, J1 98, J1 99, J1 100, J1 101, J1 102, J1 103, J1 104, undef, undef, undef], []⟩)
          (fun ⟨k9, L9, d9, z9, J1⟩ => [rCell true bz [.pointer (some ⟨tbz, 0, none⟩), .int .i64 (300 : Int), .int .i64 0, .int .i64 0, .map (some dmz), .map (some pmz)] 46, rTab tbz (psO 300 Lz) (gsO 300 Lz) vlz vgz Tz Slz Sgz, rEnv B ad [10], rEnv B ad [4], rPow, rCell true b [.pointer (some ⟨tb, 0, none⟩), .int .i64 (300 : Int), .int .i64 0, .int .i64 0, .map (some dm), .map (some pm)] 46, rTab tb (psO 300 L9) (gsO 300 LA) vl vg T Sl Sg, rNds (lO 300 L9), rMap true dm hk (d9.map dnKV), rDirs d9, rRows true wv 29 2 hnC (List.range i0), rCell true k12 [.int .i64 ((i0 : Nat) : Int), .int .i64 0] 29, rEnvA B ad, rEnv B ad [9]]) (fun ⟨k9, L9, d9, z9, J1⟩ => z9 = (k9 : Int) - 1 ∧ k9 ≤ i0 ∧ Wk k9 L9 d9) (fun ⟨k9, L9, d9, z9, J1⟩ => k9)
          ⟨i0, LA, dA, (((List.range i0).length : Int) - 1), (fun n => (#[.int .i64 np, undef, J0 2, .bool true, .pointer (some ⟨b, 0, none⟩), .nilIface, .pointer (some ⟨k12, 0, none⟩), wv, .int .i64 ((i0 : Nat) : Int), J0 9, J0 10, .pointer (some ⟨bz, 0, none⟩), .int .i64 (((List.range i0).length : Int) - 1), .bool true, .bool true, .bool false, .bool false, .int .i64 np, .bool b1, .bool b1, .bool b1, (if b1 = false then .int .i64 np else undef), (if b1 = false then .bool b2 else undef), .bool b3, undef, .tuple #[.pointer (some ⟨b, 0, none⟩), .nilIface], .tuple #[.pointer (some ⟨b, 0, none⟩), .nilIface], .pointer (some ⟨b, 0, none⟩), .nilIface, .nilIface, .bool false, .bool false, .pointer (some ⟨b, 0, none⟩), .bool false, .bool false, .pointer (some ⟨b, 0, none⟩), .agg #[.int .i64 0, .int .i64 0], .int .i64 ((i0 : Nat) : Int), .int .i64 np, .bool (decide (((i0 : Nat) : Int) < np)), J0 40, J0 41, J0 42, J0 43, J0 44, J0 45, J0 46, J0 47, J0 48, J0 49, J0 50, J0 51, J0 52, J0 53, J0 54, J0 55, J0 56, J0 57, J0 58, J0 59, J0 60, J0 61, J0 62, J0 63, J0 64, J0 65, J0 66, J0 67, J0 68, J0 69, J0 70, J0 71, .tuple #[.pointer (some ⟨bz, 0, none⟩), .nilIface], .pointer (some ⟨b, 0, none⟩), .string (ofT (deepT i0 0 [])), .tuple #[.pointer (some ⟨bz, 0, none⟩), .nilIface], .pointer (some ⟨bz, 0, none⟩), .nilIface, .nilIface, .bool false, .bool false, .pointer (some ⟨bz, 0, none⟩), .bool false, .bool false, .bool false, .pointer (some ⟨bz, 0, none⟩), .int .i64 (Lz.length : Int), .int .i64 np, .int .i64 (np + 1), .bool b32, .bool b32, wv, .int .i64 ((List.range i0).length : Int), .int .i64 (((List.range i0).length : Int) - 1), undef, undef, undef, undef, undef, undef, undef, undef, undef, undef, undef, undef, undef, undef] : Array Value).getD n undef)⟩ ⟨by omega, Nat.le_refl _, hsg.wk⟩ (by kernel_rfl) [0, 0, 0, 0, 0, 0, 0, 0, 0, 0, 0, 0, 0, 0] (by kernel_rfl) h ?_
        rintro ⟨k9, L9, d9, z9, J1⟩ w hG h
        obtain ⟨hz9, hk9, hwk⟩ : z9 = (k9 : Int) - 1 ∧ k9 ≤ i0 ∧ Wk k9 L9 d9 := hG
        have hl9 := hwk.l1
        refine c_seq ?_
        refine c_seq ?_
        refine c_reg ?_
        refine sq_p (.int .i64 z9) rfl (fun _ => by kernel_rfl) ?_
        refine sq_p (.bool (decide (z9 ≥ 0))) rfl (fun _ => by kernel_rfl) ?_
        refine lnil ?_
        refine thn_n ?_
        refine c_cond (decide (z9 ≥ 0)) (by kernel_rfl) (fun hc38 => ?_) (fun hc38 => ?_)
        · skip
          have hc38 := of_decide_eq_true hc38
          refine c_skip ?_
          refine thn_n ?_
          refine c_seq ?_
          refine c_block ?_
          refine c_seq ?_
          refine c_reg ?_
          refine sq_p (.pointer (some ⟨b, 0, none⟩)) rfl (fun _ => by kernel_rfl) ?_
          refine sq_p (wv) rfl (fun _ => by kernel_rfl) ?_
          refine sq_p (.int .i64 z9) rfl (fun _ => by kernel_rfl) ?_
          obtain ⟨j39, hj39⟩ : ∃ n : Nat, z9 = (n : Int) := ⟨(z9).toNat, by omega⟩
          have hi40 : j39 < (List.range i0).length := by omega
          obtain ⟨x41, hx42⟩ : ∃ x, (List.range i0)[j39]? = some x := ⟨_, List.getElem?_eq_getElem hi40⟩
          have hxr_x41 := (rng_at hx42).symm
          subst hxr_x41
          refine sq_q rfl h (g_idxI j39 hj39 (by kernel_rfl) hi40 10 rfl) ?_
          refine sq_q rfl h (g_ldr (b := blkN wv) (offN wv + j39 * 2) [.int .i64 (j39 : Int), .int .i64 0] (.agg #[.int .i64 (j39 : Int), .int .i64 0]) (by kernel_rfl) 10 rfl (rdRow0 hnC_len hx42 (by kernel_rfl))) ?_
          have hwj : Wk (j39 + 1) L9 d9 := by rw [show j39 + 1 = k9 by omega]; exact hwk
          refine sq_call #[.pointer (some ⟨b, 0, none⟩), .agg #[.int .i64 (j39 : Int), .int .i64 0], .string (⟨#[100]⟩ : ByteArray)] [5, 5, 5, 5, 5, 2, 2] rfl (rmL_spec ad b 300 tb dm pm vl vg T Sl Sg (by decide) j39 L9 LA d9 hwj (by omega) (by omega)) (fun _ => by kernel_rfl) h ?_; rintro v_ L_ w ⟨L43, ds44, hwk45, rfl, rfl⟩ h
          refine sq_p (.bool false) rfl (fun _ => by kernel_rfl) ?_
          refine lnil ?_
          refine thn_n ?_
          refine c_false (by kernel_rfl) ?_
          refine c_skip ?_
          refine blk_n (thn_n ?_)
          refine c_reg ?_
          refine sq_p (.int .i64 z9) rfl (fun _ => by kernel_rfl) ?_
          refine sq_q rfl h (g_eq (v := .int .i64 (IntKind.i64.wrap (z9 - 1))) (v' := .int .i64 (z9 - 1)) (g_pure fun _ => by kernel_rfl) (wr (by omega))) ?_
          refine sq_p (.int .i64 (z9 - 1)) rfl (fun _ => by kernel_rfl) ?_
          refine lnil ?_
          have hQ46 : ((z9 - 1) = (j39 : Int) - 1 ∧ j39 ≤ i0 ∧ Wk j39 L43 ds44) ∧ j39 < k9 := ⟨⟨by omega, by omega, hwk45⟩, by omega⟩
          refine loop_end (fun j => ⟨j39, L43, ds44, (z9 - 1), j⟩) hQ46 (by kernel_rfl) [7, 7, 5, 5, 5, 0, 0, 0, 0, 0, 0, 0, 0, 0] (by kernel_rfl) h
        · skip
          have hc38 := of_decide_eq_false hc38
          refine c_exit ?_
          refine thn_e (rnd_e (blk_e (thn_n ?_)))
          refine c_seq ?_
          refine c_reg ?_
          refine sq_p (.pointer (some ⟨b, 0, none⟩)) rfl (fun _ => by kernel_rfl) ?_
          refine sq_call #[.pointer (some ⟨b, 0, none⟩)] [5, 5] rfl (nodesG_spec b 300 tb dm pm vl vg T Sl Sg (by decide) L9 LA (by omega)) (fun _ => by kernel_rfl) h ?_; rintro v_ L_ w ⟨rfl, rfl⟩ h
          refine sq_p (.bool (decide ((L9.length : Int) = 1))) rfl (fun _ => by kernel_rfl) ?_
          refine sq_p (.bool (decide ((L9.length : Int) = 1))) rfl (fun _ => by kernel_rfl) ?_
          refine lnil ?_
          refine thn_n ?_
          refine c_ret ?_
          refine ret_end [.bool (decide ((L9.length : Int) = 1))] [12] h (by kernel_rfl) (res_t (by kernel_rfl) res_n) ?_
          refine ⟨?_, rfl⟩
          show Value.bool _ = _
          congr 1
          first | (simp; done) | (simp; omega)

/- TreeDeep at any world that fits. -/
theorem treeDeep_any (ad : Nat → Addr) (np : Int) (w : World) (he : EnvA w.heap.size ad w) (ht : rPow.fact w) :
    Calls Tryz.prog 3 #[.int .i64 np] w fun e w' => e = .returned (.bool true) ∧ Chg Nil w w' := by
  refine ((treeDeep_spec (B := w.heap.size) ad np).reads (w := w) rfl ?_).mono ?_
  · intro r hr
    simp only [List.mem_cons, List.mem_nil_iff, or_false] at hr
    rcases hr with rfl | rfl
    · exact he
    · exact ht
  · rintro e w' ⟨u, L', ⟨rfl, _⟩, he, hc'⟩
    exact ⟨he, hc'⟩

section
/- What every law that comes to plain.Code has in common: its listed variables (errors' own handle, fifteen errors) out of the row's premise; a world that fits. -/
open Go.RowKit Go.ChangeShapes Go.WideShapes Go.ChangeAt

theorem ownKnobNone : ownKnob Tryz.prog.godebug = none := by kernel_rfl
theorem laidOutTryd : laidOutB Tryz.prog = true := by kernel_rfl
theorem knownAll : ∀ c ∈ allErrs, errKnown c := by
  intro c hc
  simp only [allErrs, List.mem_cons, List.mem_nil_iff, or_false] at hc
  rcases hc with rfl | rfl | rfl | rfl | rfl | rfl | rfl | rfl | rfl | rfl | rfl | rfl | rfl | rfl | rfl <;> exact ⟨by kernel_rfl, by kernel_rfl⟩
/-- What such a row lists. -/
def doorLaid : List (String × DataW Unit) := ("errors.errorType", Rows.laid_errors_errorType) :: errLaid allErrs

theorem et_global : Tryz.prog.globalNamed "errors.errorType" = some 15 := by kernel_rfl
theorem rtype_cut : (Tryz.prog.cutTypes.find? (·.1 == "internal/reflectlite.rtype")).map (·.2) = some 160 := by kernel_rfl
theorem one_error : ((List.range 267).filter fun t => Tryz.prog.rowNamed t [101, 114, 114, 111, 114]) = [25] := by kernel_rfl
theorem types_size : Tryz.prog.types.size = 267 := by kernel_rfl
theorem handle_error : typeHandle Tryz.prog 25 = .pointer (some ⟨22, 25, none⟩) := by kernel_rfl

theorem envA_of_laid {W : World} (h : laidMetH Tryz.prog doorLaid W) : ∃ ad, EnvA W.heap.size ad W ∧ ∀ c ∈ allErrs, ∃ s : ByteArray, W.cell? (ad c) = some (.string s) ∧ s.data.toList = errText c := by
  have h' : laidMet Tryz.prog (errLaid allErrs) W ∧ handlesMet Tryz.prog [("errors.errorType", Rows.laid_errors_errorType)] W := h
  obtain ⟨ad, he, ht⟩ := env_of_laid h'.1 knownAll
  obtain ⟨name, u, ty, e1, e2, e3, e4, e5⟩ := h'.2 _ (List.mem_singleton.2 rfl)
  have en : name = [101, 114, 114, 111, 114] := (Option.some.inj e1).symm
  subst en
  obtain rfl := Option.some.inj (rtype_cut.symm.trans e2)
  have hm : ty ∈ (List.range 267).filter fun t => Tryz.prog.rowNamed t [101, 114, 114, 111, 114] := List.mem_filter.2 ⟨List.mem_range.2 (by rw [← types_size]; exact e3), e4⟩
  rw [one_error] at hm
  obtain rfl := List.mem_singleton.1 hm
  rw [handle_error] at e5
  have hc : W.cell? ⟨15, 0, none⟩ = some (.iface 160 (.agg #[.pointer (some ⟨22, 25, none⟩)])) := by simpa using World.var?_cell et_global e5 0
  exact ⟨ad, ⟨he, hc, World.block_lt_of_cell? _ _ hc⟩, ht⟩

/-- A world that fits: the errors laid, and their handle. -/
noncomputable def doorWorld (os : Os) : World :=
  { World.laidAll Tryz.prog os (errLaid allErrs) with heap := (World.laidAll Tryz.prog os (errLaid allErrs)).heap.modify 15 fun
      | .cells _ t frozen => .cells #[.iface 160 (.agg #[.pointer (some ⟨22, 25, none⟩)])] t frozen
      | o => o }
theorem doorWorld_os (os : Os) : (doorWorld os).os = os := by
  dsimp only [doorWorld]
  exact World.laidAll_os _ _ _
theorem doorWorld_met (os : Os) (args : Array Value) : laidMetH Tryz.prog doorLaid ((doorWorld os).forCall (fun _ _ => 0) ⟨#[], args, []⟩).memory :=
  laidMetH_of_parts (show laidMet Tryz.prog (errLaid allErrs) _ from laidMet_of_run' 8 (by kernel_rfl) (by kernel_rfl)) (by kernel_rfl)
theorem doorWorld_shaped (os : Os) (args : Array Value) : ((doorWorld os).forCall (fun _ _ => 0) ⟨#[], args, []⟩).Shaped Tryz.prog := World.shaped_of_ZipB (by kernel_rfl) (by kernel_rfl)

end
/- Out of a list of laid variables: a part of it. Over any program. No condition. -/

theorem laidVars_app {P : Program} {w : World} : ∀ (l m : List (String × DataW Unit)) (ps : List MemPlace), DataW.LaidVars P w (l ++ m) ps → ∃ p q, DataW.LaidVars P w l p ∧ DataW.LaidVars P w m q ∧ ps = p ++ q
  | [], m, ps, h => ⟨[], ps, rfl, h, rfl⟩
  | (n, d) :: l, m, ps, h => by
    obtain ⟨g, t, cs, fuel, p, q, h1, h2, h3, h4, h5, e⟩ := h
    obtain ⟨p', q', h6, h7, e2⟩ := laidVars_app l m q h5
    subst e2
    exact ⟨_, q', ⟨g, t, cs, fuel, p, p', h1, h2, h3, h4, h6, rfl⟩, h7, by rw [e]; simp only [List.append_assoc]⟩
theorem laidMet_tail {P : Program} {w : World} {a m : List (String × DataW Unit)} (h : laidMet P (a ++ m) w) : laidMet P m w := by
  obtain ⟨ps, hv, hnd, hr⟩ := h
  obtain ⟨p, q, _, h2, rfl⟩ := laidVars_app a m ps hv
  exact ⟨q, h2, (List.nodup_append.1 hnd).2.1, fun b off hm => hr b off (List.mem_append.2 (.inr hm))⟩
theorem laidMet_head {P : Program} {w : World} {m b : List (String × DataW Unit)} (h : laidMet P (m ++ b) w) : laidMet P m w := by
  obtain ⟨ps, hv, hnd, hr⟩ := h
  obtain ⟨p, q, h1, _, rfl⟩ := laidVars_app m b ps hv
  exact ⟨p, h1, (List.nodup_append.1 hnd).1, fun b off hm => hr b off (List.mem_append.2 (.inl hm))⟩
theorem laidMet_mid {P : Program} {w : World} {a m b : List (String × DataW Unit)} (h : laidMet P (a ++ (m ++ b)) w) : laidMet P m w := laidMet_head (laidMet_tail h)

section
/- As Door, for the law TreeDeep: besides, tables of math/bits and strconv, and two errors of strconv. -/
open Go.RowKit Go.ChangeShapes Go.WideShapes Go.ChangeAt

def door4A : List (String × DataW Unit) := [("math/bits.deBruijn32tab", Rows.laid_math_bits_deBruijn32tab), ("math/bits.deBruijn64tab", Rows.laid_math_bits_deBruijn64tab)]
def door4P : List (String × DataW Unit) := [("internal/strconv.uint64pow10", Rows.laid_internal_strconv_uint64pow10)]
def door4S : List (String × List UInt8) := [("strconv.ErrRange", [118, 97, 108, 117, 101, 32, 111, 117, 116, 32, 111, 102, 32, 114, 97, 110, 103, 101]), ("strconv.ErrSyntax", [105, 110, 118, 97, 108, 105, 100, 32, 115, 121, 110, 116, 97, 120])]
def door4Data : List (String × DataW Unit) := door4A ++ (door4P ++ (errLaid allErrs ++ (door4S.map fun x => (x.1, sentD x.2))))
def door4Laid : List (String × DataW Unit) := door4A ++ (door4P ++ (("errors.errorType", Rows.laid_errors_errorType) :: (errLaid allErrs ++ (door4S.map fun x => (x.1, sentD x.2)))))
theorem pow_global : Tryz.prog.globalNamed "internal/strconv.uint64pow10" = some 19 := by kernel_rfl
theorem pow_type : (Tryz.prog.globals[19]?).map (·.type) = some 227 := by kernel_rfl
theorem pow_cells : Tryz.prog.cellsOf 227 = 20 := by kernel_rfl
theorem pow_cell : Tryz.prog.cellsOf 186 = 1 := by kernel_rfl
theorem env4 {W : World} (h : laidMetH Tryz.prog door4Laid W) : ∃ (ad : Nat → Addr), EnvA W.heap.size ad W ∧ rPow.fact W := by
  have h' : laidMet Tryz.prog door4Data W ∧ handlesMet Tryz.prog [("errors.errorType", Rows.laid_errors_errorType)] W := h
  have h1 := laidMet_tail (a := door4A) h'.1
  have h2 := laidMet_tail (a := door4P) h1
  obtain ⟨ad, he, _⟩ := envA_of_laid (W := W) (show laidMet Tryz.prog (errLaid allErrs) W ∧ handlesMet Tryz.prog [("errors.errorType", Rows.laid_errors_errorType)] W from ⟨laidMet_head h2, h'.2⟩)
  exact ⟨ad, he, Lib.tabIs_of_head (rest := errLaid allErrs ++ (door4S.map fun x => (x.1, sentD x.2))) pow_global pow_type Tryz.underlying227 Tryz.underlying186 pow_cell pow_cells h1⟩
noncomputable def doorWorld4 (os : Os) : World :=
  { World.laidAll Tryz.prog os door4Data with heap := (World.laidAll Tryz.prog os door4Data).heap.modify 15 fun
      | .cells _ t frozen => .cells #[.iface 160 (.agg #[.pointer (some ⟨22, 25, none⟩)])] t frozen
      | o => o }
theorem doorWorld4_os (os : Os) : (doorWorld4 os).os = os := by
  dsimp only [doorWorld4]
  exact World.laidAll_os _ _ _
theorem doorWorld4_met (os : Os) (args : Array Value) : laidMetH Tryz.prog door4Laid ((doorWorld4 os).forCall (fun _ _ => 0) ⟨#[], args, []⟩).memory :=
  laidMetH_of_parts (show laidMet Tryz.prog door4Data _ from laidMet_of_run' 8 (by kernel_rfl) (by kernel_rfl)) (by kernel_rfl)
theorem doorWorld4_shaped (os : Os) (args : Array Value) : ((doorWorld4 os).forCall (fun _ _ => 0) ⟨#[], args, []⟩).Shaped Tryz.prog := World.shaped_of_ZipB (by kernel_rfl) (by kernel_rfl)
/-- 'There is an input that fits', at a world that is written out. -/
theorem witness_rowS {H : Type} {enc : TypeId × Value → H} {C : Checked} {os : Os} {f : FuncId} {fn : Func} {s : OpenSpec} {conds : List PathCond} {apart : Bool} {laid : List (String × DataW Unit)} (modest : Bool) (w0 : World) (args : Array Value) (hos : w0.os = os)
    (hsh : (w0.forCall (fun _ _ => 0) ⟨#[], args, []⟩).Shaped C.prog) (hok : Input.okWideB C.prog (w0.forCall (fun _ _ => 0) ⟨#[], args, []⟩) f ⟨#[], args, []⟩ = true)
    (hrow : s.preRow enc C.prog fn conds apart laid (w0.forCall (fun _ _ => 0) ⟨#[], args, []⟩).memory args) :
    ∃ (w : World) (tape : Tape) (i : Input), w.os = os ∧ (w.forCall tape i).Shaped C.prog ∧ i.vars = [] ∧ Input.okWide C.prog (w.forCall tape i) .any w.heap.size f i ∧
      s.preRow enc C.prog fn conds apart laid (w.forCall tape i).memory i.args ∧ ({ modest := modest } : Assume).holds C.prog (lone (Frame.enter C.prog f i.args .normal) [] (w.forCall tape i)) :=
  ⟨w0, fun _ _ => 0, ⟨#[], args, []⟩, hos, hsh, (Input.okWide_of_okWideB (base := 0) hok).1, (Input.okWide_of_okWideB hok).2, hrow, by
    simp only [Assume.holds]
    exact ⟨by simp, by simp, fun _ => Modest.zero, by simp, by simp⟩⟩

end
end Go.Proofs.YtbdolnbgjkhdnaaGreatDoor
/- The statement TreeDeep, tied card: whatever the input, the law returns true; arguments stay. -/
namespace Go.Proofs.YtbdolnbgjkhdnaaGreatDoor.treeDeepDone
open Go.ChangeShapes Go.WideShapes Go.ChangeAt Go.RowKit Go.ChangeMaps
set_option linter.unusedVariables false
set_option linter.unusedSimpArgs false

theorem own : ownKnob Tryz.prog.godebug = none := by kernel_rfl
theorem laidOutT : laidOutB Tryz.prog = true := by kernel_rfl
theorem reads (os : Os) {H : Type} (enc : TypeId × Value → H) : ∃ places, DataW.whole enc Tryz.prog ((doorWorld4 os).forCall (fun _ _ => 0) ⟨#[], #[.int .i64 0], []⟩).memory Tryz.f3.params.toList Rows.treeDeepSpec.vars false #[Value.int .i64 0].toList 8 = some ([.lit (.int .i64 0)], [], places) :=
  ⟨[], by kernel_rfl⟩
set_option maxRecDepth 100000 in
theorem lifted (os : Os) (started : os.Started) (H : Type) (enc : TypeId × Value → H) (I : Stop.Interp) :
    ReturnsInHanded {} Tryz.checked os 3 .any ((OpenSpec.ofChange Rows.treeDeepSpec).preRow enc Tryz.prog Tryz.f3 Rows.treeDeepRow.domain false Rows.treeDeepRow.laid) (((OpenSpec.ofChange Rows.treeDeepSpec).at I).post enc Tryz.prog Tryz.f3 false true false false) := by
  obtain ⟨places, hx⟩ := reads os enc
  refine returnsInHanded_of_row (C := Tryz.checked) (s := (OpenSpec.ofChange Rows.treeDeepSpec)) own started (by kernel_rfl) Tryz.func3
    (witness_rowS (enc := enc) (C := Tryz.checked) false (doorWorld4 os) #[.int .i64 0] (doorWorld4_os os)
      (doorWorld4_shaped os _) (by kernel_rfl) (OpenSpec.preRow_of_cond 8 hx (by kernel_rfl) (fun k hk => by cases hk) (by kernel_rfl) (doorWorld4_met os _))) ?_
  intro W base args ds gs before hval0 hW _ hcond hsz hL hsh _
  have hval : ∀ (j : Nat) t v, Tryz.f3.params[j]? = some t → args[j]? = some v → Value.okWide Tryz.prog W .any base t v := hval0
  have hW' := hW
  obtain ⟨p, q, hA0, hV, rfl, hfz, hnd⟩ := hW
  have hA : DataW.TrodAll enc Tryz.prog W 0 (fun _ => true) true Tryz.f3.params.toList args.toList ds p := hA0
  rw [Tryz.params3] at hA hval
  obtain ⟨v0, vs0, e0, ds0, pl0, q0, hargs, rfl, rfl, h0, r0⟩ := trodAll_cons hA
  obtain ⟨rfl, rfl, rfl⟩ := trodAll_nil r0
  obtain rfl : args = #[v0] := by cases args; simp_all
  obtain ⟨rfl, rfl⟩ := trodVars_none hV
  have lt0 : ∀ x ∈ pl0, x.block < W.heap.size := by obtain ⟨m, hm⟩ := h0; exact DataW.trod_lt m _ _ _ hm
  obtain ⟨d0, rfl, t0, zz0⟩ := Sh.open_val2 12 3 (Sh.int) (by kernel_rfl) (hval 0 3 v0 rfl rfl) h0
  have z0 := zz0 (Sh.weights_le hsz (j := 0) (by rw [Tryz.params3]; rfl) rfl)
  clear hA0 hval0
  obtain ⟨ad, he, ht⟩ := env4 (show laidMetH Tryz.prog door4Laid W from hL)
  show Calls Tryz.prog 3 #[.int .i64 d0] W _
  refine (treeDeep_any ad d0 W he ht).mono fun e W' ⟨he, hc⟩ => ?_
  subst he
  have bel : Below W.heap.size W W' := hc.below (Nat.le_refl _) (fun _ _ f => f.elim)
  exact ⟨_, rfl, _, _, _, [], _, [], hW', trodAll_mk1 (shut_bool Tryz.underlying4 _), (trodAll_cons_mk (Below.trod laidOutT (by kernel_rfl) (of_decide_eq_true (by kernel_rfl)) h0 bel lt0) trodAll_mk0), rfl, bel.frame _, fun h => by cases h⟩

theorem band {a b : Bool} (h : a = true) (k : b = true) : (a && b) = true := by rw [h, k]; rfl
set_option maxHeartbeats 0 in
theorem closedF : joinedFacts Tryz.pinned.checked.prog 3 Tryz.f3 (OpenSpec.ofChange Rows.treeDeepSpec).bare Rows.treeDeepRow = true := by
  unfold joinedFacts
  repeat' (with_reducible refine band ?_ ?_)
  all_goals (as_aux_lemma => kernel_rfl)
theorem said : Rows.TreeDeepSaid :=
  OpenClaim.holds_of_cond 3 Tryz.f3 rfl rfl rfl rfl rfl rfl rfl ⟨rfl, rfl, rfl, rfl, rfl⟩ rfl rfl rfl rfl rfl (by as_aux_lemma => kernel_rfl) Tryz.func3 closedF
    (of_decide_eq_true (by kernel_rfl)) (by unfold Func.isWrapper; first | (rw [if_pos (by decide +kernel)]; kernel_rfl) | (rw [if_neg (by decide +kernel)]; exact ⟨rfl, rfl⟩))
    (fun os started H enc _ I => by rw [OpenClaim.pre_eq_preRow]; exact lifted os started H enc I)

theorem plain (f : FuncId) (fn : Func) (hf : Tryz.pinned.checked.prog.funcNamed "pigeonholes/pigeonholeslaw1.TreeDeep" = some f) (hfn : Tryz.pinned.checked.prog.funcs[f]? = some fn) :
    true = Tryz.pinned.checked.prog.looks [] ∧ ∀ (j : Nat) t, fn.params[j]? = some t → Tryz.pinned.checked.prog.wantsStandIn t = false := by
  obtain rfl : f = 3 := Option.some.inj ((show Tryz.prog.funcNamed "pigeonholes/pigeonholeslaw1.TreeDeep" = some 3 by kernel_rfl).symm.trans hf) |>.symm
  obtain rfl : fn = Tryz.f3 := (Option.some.inj (Tryz.func3.symm.trans hfn)).symm
  refine ⟨by kernel_rfl, fun j t ht => ?_⟩
  rw [Tryz.params3] at ht
  have hm : t = 3 := by simpa using Array.mem_of_getElem? ht
  subst hm
  exact (show Tryz.prog.wantsStandIn 3 = false by kernel_rfl)

set_option maxHeartbeats 0 in
theorem card : Rows.TreeDeepCardSaid :=
  Claim7.holds_tied_plain_at .later [] _ _ _ _ said (fun _ h => by cases h) (by as_aux_lemma => kernel_rfl) (fun _ h => by cases h) treeDeep_row_tie (by as_aux_lemma => rfl) (by as_aux_lemma => exact ⟨rfl, rfl⟩) (by as_aux_lemma => kernel_rfl) (by as_aux_lemma => rfl) plain (by as_aux_lemma => kernel_rfl)
#print axioms card
end Go.Proofs.YtbdolnbgjkhdnaaGreatDoor.treeDeepDone

